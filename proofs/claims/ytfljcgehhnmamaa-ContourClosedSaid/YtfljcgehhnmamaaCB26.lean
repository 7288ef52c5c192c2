/- Joined texts: Cyc CellP Cell. -/
import Derived.RangeFuncNested
import Derived.RangeFuncBound
import Derived.RangeFuncCalls
import Derived.RangeFuncLeaves
import Derived.RangeFuncBox
import Derived.Shelf.Abstract
import Derived.OwnWalkIn
import Derived.TacticsInMore
import Derived.LoopNIn
import Derived.LoopIn
import Derived.Maps.OwnIn
import Derived.IntWalk
import Derived.Test.YtfljcgehhnmamaaCB2
import Derived.Test.YtfljcgehhnmamaaCB3
import Derived.Test.YtfljcgehhnmamaaCB8
import Derived.Test.YtfljcgehhnmamaaCB12
import Derived.Test.YtfljcgehhnmamaaCB13
import Derived.Test.YtfljcgehhnmamaaCB16
import Derived.Test.YtfljcgehhnmamaaCB24
/- (*contour.joiner).cycles and the iterator that it makes. -/
namespace Go.Proofs.Ytfljcgehhnmamaa
open Go.RowKit Go.WideMaps Go.Maps Go.Sort
attribute [local go_sem] Oper.semAt_some
theorem cycles_any (bj : Nat) (w : World) : Calls Try.prog 42 #[.pointer (some ⟨bj, 0, none⟩)] w fun e w' => e = .returned (.func (.func 69) #[] #[.pointer (some ⟨w.heap.size, 0, none⟩)]) ∧ w' = w.alloc (.cells #[.pointer (some ⟨bj, 0, none⟩)] 74) := by
  go_enter Try.func42, Try.ntmps42
  go_wp2
  go_ret
  exact ⟨rfl, rfl⟩
/-- The joiner, its box and what is left of its map. -/
def CycM (bx bj mb N : Nat) (ins : Nat → Bool) (nx : Pt → Pt) (R : List (List Pt)) (W : World) : Prop :=
  Boxed W bx 74 (.pointer (some ⟨bj, 0, none⟩)) ∧ Blk W bj 77 #[.bool (ins 0), .bool (ins 1), .bool (ins 2), .bool (ins 3), .bool (ins 4), .bool (ins 5), .bool (ins 6), .bool (ins 7), .map (some mb)] ∧ MapK Try.prog 61 vP fitsP W mb N (leftM nx R)
def lenV : Value → Nat
  | .slice _ n _ => n
  | _ => 0
theorem left_keys {nx : Pt → Pt} {R : List (List Pt)} (h : Cyc nx R) : (∀ p ∈ R.flatten, fitsP p) ∧ ∀ p, fitsP p → (p ∈ R.flatten ↔ leftM nx R p ≠ none) := by
  refine ⟨fun p hp => (h.small p hp).fits, fun p _ => ?_⟩
  unfold leftM
  by_cases hp : p ∈ R.flatten <;> simp [hp]
theorem MapK.ne_blk {w : World} {b n g : Nat} {m : Pt → Option Value} {t : TypeId} {cs : Array Value} (h : MapK Try.prog 61 vP fitsP w b n m) (hb : Blk w g t cs) : g ≠ b := by
  rintro rfl
  obtain ⟨D, ⟨es, clock, hm, _⟩, _⟩ := h
  unfold Blk at hb
  rw [hb] at hm
  cases hm
theorem grown_some {A B : World} (b : Nat) (h : A.grownBy B none) : A.grownBy B (some b) := ⟨h.os, h.tape, h.output, h.size, fun k hk _ => h.block k hk (by simp)⟩
set_option maxRecDepth 100000 in
set_option maxHeartbeats 16000000 in
theorem cyc1_in (n l bx bj mb N : Nat) (ins : Nat → Bool) (nx : Pt → Pt) (Bk : World → Prop) (St : List (List Pt) → World → Prop) (hn : 1 ≤ n) (hN : N ≤ 1000)
    (hBk : ∀ A B, Bk A → A.grownBy B (some mb) → Bk B) (hSt : ∀ R A B, St R A → A.grownBy B (some mb) → St R B)
    (hY : ∀ R C D A c W, Cyc nx R → C ∈ R → Rot C D → CycM bx bj mb N ins nx (R.erase C) W → St R W → Sl encP 3 W W.heap.size A D → Bk W →
      YieldAt Fence.wide (n - 1) Try.prog l #[.slice A D.length c] W fun e W' => e = .returned (.bool true) ∧ CycM bx bj mb N ins nx (R.erase C) W' ∧ St (R.erase C) W' ∧ Bk W')
    (R0 : List (List Pt)) (W : World) (hR0 : Cyc nx R0) (hM0 : CycM bx bj mb N ins nx R0 W) (hS0 : St R0 W) (hB0 : Bk W) :
    CallsIn Fence.wide n Try.prog 69 #[.func (.yield l) #[] #[], .pointer (some ⟨bx, 0, none⟩)] W fun e W' => (∃ v, e = .returned v) ∧ CycM bx bj mb N ins nx [] W' ∧ St [] W' ∧ Bk W' := by
  refine callsIn_of_wp Try.func69 rfl trivial ?_ rfl
  simp only [Try.ntmps69, List.size_toArray, List.length_cons, List.length_nil, Nat.reduceAdd, Nat.reduceSub, Array.replicate_succ, Array.replicate_zero, List.push_toArray, List.append_toArray, List.nil_append, List.cons_append]
  have H0 := hide (And.intro hR0 (And.intro hM0 (And.intro hS0 hB0)))
  have HC := hide (And.intro hBk (And.intro hSt hY))
  clear hR0 hM0 hS0 hB0 hBk hSt hY
  gi_wp2
  gi_loopw [3] (fun _ wr => ∃ R, Cyc nx R ∧ CycM bx bj mb N ins nx R wr ∧ St R wr ∧ Bk wr) (fun _ wr => mapSize wr mb)
  case atStart => exact ⟨R0, H0.out⟩
  case round =>
    obtain ⟨R, hR, hM, hS, hB⟩ := hrel
    obtain ⟨hok, hkeys⟩ := left_keys hR
    have hsize := hM.2.2.size_eq kfV R.flatten hR.nodup hok hkeys
    have hlen := fun ty => hM.2.2.len kfV Try.underlying75 R.flatten hR.nodup hok hkeys ty
    have cb := hM.1.cell
    have cj : wr.cell? ⟨bj, 8, none⟩ = some (.map (some mb)) := hM.2.1.cell 8
    by_cases hne : R = []
    · subst hne
      have HE := hide (And.intro hM (And.intro hS hB))
      clear hM hS hB hR hok hkeys hsize
      gi_wp2
      go_end0
      exact ⟨⟨_, rfl⟩, HE.out⟩
    · have hpos : 0 < R.flatten.length := by
        obtain ⟨C, hC⟩ := List.exists_mem_of_ne_nil R hne
        have h1 := hR.ne C hC
        have h2 := List.length_pos_iff.2 h1
        have h3 := (erase_perm hC).length_eq
        rw [h3, List.length_append]; omega
      obtain ⟨L, hL⟩ : ∃ L, L = R.flatten.length := ⟨_, rfl⟩
      rw [← hL] at hlen hpos hsize
      have d1 : decide (0 < L) = true := decide_eq_true hpos
      have HR := hide (And.intro hR (And.intro hM (And.intro hS (And.intro hB (And.intro hsize (And.intro hok hL))))))
      obtain ⟨w1, cnt, hrun, hrg, hg1, hz1⟩ := hM.2.2.range kfV Try.underlying75
      have HG := hide (And.intro hrg hg1)
      have HLp := hide hpos
      clear hR hM hS hB hkeys hsize hok hrg hg1 hpos hne hz1 hL
      gi_wp2
      refine wpIn_wide.2 ?_
      go_loopw [3] (fun v wx => v = .slice none 0 0 ∧ w1 = wx) (fun _ _ => 0)
      case atStart => exact ⟨rfl, rfl⟩
      case round =>
        obtain ⟨rfl, rfl⟩ := hrel
        clear hlen cb cj d1
        rcases HG.out.1.next kfV 0 with ⟨_, hall, _⟩ | ⟨p, v, w2, cnt', hokp, hleft, hm, hrunN, hr2, hlt2, hg2, hz2, hent⟩
        · exfalso
          have hL := HR.out.2.2.2.2.2.2
          have hpos : 0 < R.flatten.length := by rw [← hL]; exact HLp.out
          obtain ⟨x, hx⟩ := List.exists_mem_of_length_pos hpos
          have h1 := hall x (HR.out.2.2.2.2.2.1 x hx)
          unfold leftM at h1
          rw [if_pos hx] at h1
          cases h1
        · have hpR : p ∈ R.flatten := by
            by_cases hp : p ∈ R.flatten
            · exact hp
            · unfold leftM at hm
              rw [if_neg hp] at hm
              cases hm
          obtain ⟨C, hC, hpC⟩ := List.mem_flatten.1 hpR
          obtain ⟨D, hD, hD0⟩ := rot_at hpC
          have hgw : wr.grownBy w2 (some mb) := grown_some mb (HG.out.2.andThen hg2 (fun j hj => .inl (by cases hj; exact Nat.le_refl _)))
          have hM2 : MapK Try.prog 61 vP fitsP w2 mb N (leftM nx R) := hr2.map
          have hz2w : wr.heap.size ≤ w2.heap.size := hgw.size
          have HD := hide (And.intro hC (And.intro hD (And.intro hD0 (And.intro hgw hM2))))
          clear hleft hm hr2 hlt2 hg2 hz2 hpR hpC hC hD hD0 hgw hM2 hokp
          go_wp2
          clear hrunN hent
          obtain ⟨R0w, hR0w⟩ : ∃ R0w, R0w = wr := ⟨_, rfl⟩
          obtain ⟨V, hV⟩ : ∃ V, V = w2.alloc (.cells #[.int .i64 p.1, .int .i64 p.2.1, .int .i64 p.2.2] 61) := ⟨_, rfl⟩
          rw [← hV]
          have hbx := HR.out.2.1.1
          have hbj := HR.out.2.1.2.1
          have hMw := HR.out.2.1.2.2
          have hxm : bx ≠ mb := hMw.ne_blk (show Blk wr bx 74 #[.pointer (some ⟨bj, 0, none⟩)] from hbx)
          have hjm : bj ≠ mb := hMw.ne_blk hbj
          have hlen0 : 0 < D.length := by
            obtain ⟨s, hs, hl, _⟩ := HD.out.2.1
            omega
          have hDnd : D.Nodup := HD.out.2.1.nodup (HR.out.1.cnodup HD.out.1)
          have hDR : ∀ x ∈ D, x ∈ R.flatten := fun x hx => List.mem_flatten.2 ⟨C, HD.out.1, (HD.out.2.1.mem x).1 hx⟩
          have hDs : ∀ k, k < D.length → nx (nthP D k) = nthP D ((k + 1) % D.length) := fun k hk => HD.out.2.1.step (HR.out.1.step C HD.out.1) hk
          have hDf : ∀ k, k < D.length → smallP (nthP D k) := fun k hk => HR.out.1.small _ (hDR _ (nthP_mem hk))
          have hDl : D.length ≤ R.flatten.length := by
            obtain ⟨s, hs, hl, _⟩ := HD.out.2.1
            rw [hl, (erase_perm HD.out.1).length_eq, List.length_append]; omega
          have hLN : R.flatten.length ≤ N := by
            have h1 := HR.out.2.2.2.2.1
            rw [HR.out.2.2.2.2.2.2] at h1
            rw [← h1]
            obtain ⟨_, ⟨es, clock, hb, _, hn, _⟩, _⟩ := hMw
            unfold mapSize
            rw [hb]
            exact hn
          have hstart : MapK Try.prog 61 vP fitsP V mb N (midM nx R D 0) := by
            rw [hV]
            exact (HD.out.2.2.2.2.same (mid_zero nx R D)).kept (World.grownBy_alloc _ _ none) (by simp)
          have hgV : wr.grownBy V (some mb) := by
            rw [hV]
            exact HD.out.2.2.2.1.andThen (World.grownBy_alloc _ _ none) (fun j hj => by cases hj)
          have hbpV : Blk V w2.heap.size 61 #[.int .i64 (nthP D (0 % D.length)).1, .int .i64 (nthP D (0 % D.length)).2.1, .int .i64 (nthP D (0 % D.length)).2.2] := by
            rw [Nat.zero_mod, HD.out.2.2.1, hV]
            exact Blk.new _ _ _
          have hVz : V.heap.size = w2.heap.size + 1 := by rw [hV]; simp
          have HQ := hide (And.intro hbx (And.intro hbj (And.intro hDnd (And.intro hDR (And.intro hDs hDf)))))
          have HB := hide (And.intro hstart (And.intro hgV hbpV))
          clear hbx hbj hMw hDnd hDR hDs hDf hstart hgV hbpV hV
          obtain ⟨len, hlen⟩ : ∃ len, len = D.length := ⟨_, rfl⟩
          have hlen40 : len ≤ 1000 := by omega
          have HLen := hide hlen
          rw [← hlen] at hlen0
          clear hlen hDl hLN
          go_loopw [3] (fun lv wx => ∃ i : Nat, i ≤ len ∧ Own encP 3 61 wx V.heap.size lv i (D.take i) ∧ Blk wx w2.heap.size 61 #[.int .i64 (nthP D (i % len)).1, .int .i64 (nthP D (i % len)).2.1, .int .i64 (nthP D (i % len)).2.2] ∧ MapK Try.prog 61 vP fitsP wx mb N (midM nx R D i) ∧ R0w.grownBy wx (some mb)) (fun lv _ => len - lenV lv)
          case atStart => exact ⟨0, by omega, Own.nil, by rw [HLen.out]; exact HB.out.2.2, HB.out.1, by rw [hR0w]; exact HB.out.2.1⟩
          case round =>
            obtain ⟨i, hi, hown, hbp, hmp, hgx⟩ := hrel
            obtain ⟨Al, cl, rfl⟩ := hown.form
            have hszx := hgx.size
            have hltp := hbp.lt
            obtain ⟨u, hu⟩ : ∃ u, u = nthP D (i % len) := ⟨_, rfl⟩
            rw [← hu] at hbp
            have hil : i % len < D.length := by rw [← HLen.out]; exact Nat.mod_lt _ hlen0
            have hfu : fitsP u := by rw [hu]; exact (HQ.out.2.2.2.2.2 _ hil).fits
            have hxw : Boxed wr bx 74 (.pointer (some ⟨bj, 0, none⟩)) := (show Boxed R0w bx _ _ by rw [hR0w]; exact HQ.out.1).kept hgx (fun e => hxm (by injection e))
            have hjw : Blk wr bj 77 #[.bool (ins 0), .bool (ins 1), .bool (ins 2), .bool (ins 3), .bool (ins 4), .bool (ins 5), .bool (ins 6), .bool (ins 7), .map (some mb)] := (show Blk R0w bj _ _ by rw [hR0w]; exact HQ.out.2.1).grown hgx (fun e => hjm (by injection e))
            have hltx := hxw.lt
            have hltj := hjw.lt
            have hltm := hmp.lt
            have hSA : ∀ W, Below wr.heap.size wr W → (W.cell? ⟨bx, 0, none⟩ = some (.pointer (some ⟨bj, 0, none⟩)) ∧ W.cell? ⟨bj, 8, none⟩ = some (.map (some mb)) ∧ (W.cell? ⟨w2.heap.size, 0, none⟩ = some (.int .i64 u.1) ∧ W.cell? ⟨w2.heap.size, 1, none⟩ = some (.int .i64 u.2.1) ∧ W.cell? ⟨w2.heap.size, 2, none⟩ = some (.int .i64 u.2.2)) ∧ MapK Try.prog 61 vP fitsP W mb N (midM nx R D i)) := fun W hW =>
              ⟨(hW.cell (p := ⟨bx, 0, none⟩) hltx).trans hxw.cell, (hW.cell (p := ⟨bj, 8, none⟩) hltj).trans (hjw.cell 8), ⟨(hW.cell (p := ⟨_, _, none⟩) hltp).trans hbp.three.1, (hW.cell (p := ⟨_, _, none⟩) hltp).trans hbp.three.2.1, (hW.cell (p := ⟨_, _, none⟩) hltp).trans hbp.three.2.2⟩, hmp.below hW hltm⟩
            have HSA := hide hSA
            have hS0 := hSA wr.drew (below_drewN (Below.refl _ wr) 1)
            have HS0 := hide hS0
            have HU := hide hu
            have HX := hide (And.intro hown (And.intro hbp (And.intro hmp (And.intro hgx (And.intro hxw hjw)))))
            clear hSA hS0 hu hown hbp hmp hgx hxw hjw
            by_cases hlt : i < len
            · have himod : i % len = i := Nat.mod_eq_of_lt hlt
              obtain ⟨q, hq⟩ : ∃ q, q = nthP D ((i + 1) % len) := ⟨_, rfl⟩
              have hmu : midM nx R D i u = some (vP q) := by
                have h1 : i < D.length := by rw [← HLen.out]; exact hlt
                rw [HU.out, himod, mid_at HQ.out.2.2.1 HQ.out.2.2.2.1 h1, HQ.out.2.2.2.2.1 i h1, hq, HLen.out]
              have hl0 : (Value.tuple #[(midM nx R D i u).getD (.agg #[.int .i64 0, .int .i64 0, .int .i64 0]), .bool (midM nx R D i u).isSome]) = .tuple #[vP q, .bool true] := by rw [hmu]; rfl
              have HL := hide hl0
              have Hq := hide (And.intro hq himod)
              clear hl0 hmu hq himod hil
              go_wp2_with fail
              refine wp_region_mix (fun W => (W.cell? ⟨bx, 0, none⟩ = some (.pointer (some ⟨bj, 0, none⟩)) ∧ W.cell? ⟨bj, 8, none⟩ = some (.map (some mb)) ∧ (W.cell? ⟨w2.heap.size, 0, none⟩ = some (.int .i64 u.1) ∧ W.cell? ⟨w2.heap.size, 1, none⟩ = some (.int .i64 u.2.1) ∧ W.cell? ⟨w2.heap.size, 2, none⟩ = some (.int .i64 u.2.2)) ∧ MapK Try.prog 61 vP fitsP W mb N (midM nx R D i))) [0, 1, 2, 3, 4, 5, 6, 7, 8] [0, 1, 2, 3, 4, 5, 6, 7, 8, 9, 10, 11] mixed_ok (by kernel_rfl) ?_
              refine wpMix_q (v := .pointer (some ⟨bj, 0, none⟩)) rfl rfl (fun _ _ _ h => h) HS0.out ⟨rfl, fun _ h' => by simp [go_sem, h'.1]⟩ ?_
              refine wpMix_q (v := .pointer (some ⟨bj, 0, none⟩)) rfl rfl (fun _ _ _ h => h) HS0.out ⟨rfl, fun _ _ => by simp [go_sem]⟩ ?_
              refine wpMix_q (v := .pointer (some ⟨bj, 8, none⟩)) rfl rfl (fun _ _ _ h => h) HS0.out ⟨rfl, fun _ _ => by simp [go_sem]⟩ ?_
              refine wpMix_q (v := .map (some mb)) rfl rfl (fun _ _ _ h => h) HS0.out ⟨rfl, fun _ h' => by simp [go_sem, h'.2.1]⟩ ?_
              refine wpMix_q (v := vP u) rfl rfl (fun _ _ _ h => h) HS0.out ⟨rfl, fun _ h' => by obtain ⟨_, _, ⟨a0, a1, a2⟩, _⟩ := h'; simp [go_sem, a0, a1, a2]⟩ ?_
              refine wpMix_q (v := .tuple #[vP q, .bool true]) rfl rfl (fun _ _ _ h => h) HS0.out ⟨rfl, fun W' h' => by
                have hl := h'.2.2.2.lookup_ok kfV (t := 75) (e := 61) Try.underlying75 (z := .agg #[.int .i64 0, .int .i64 0, .int .i64 0]) rfl u hfu
                rw [HL.out] at hl
                simp [execOp, go_sem, hl]⟩ ?_
              refine wpMix_q (v := .tuple #[vP q, .bool true]) rfl rfl (fun _ _ _ h => h) HS0.out ⟨rfl, fun _ _ => by simp [go_sem]⟩ ?_
              refine wpMix_q (v := vP q) rfl rfl (fun _ _ _ h => h) HS0.out ⟨rfl, fun _ _ => by simp [go_sem]⟩ ?_
              refine wpMix_q (v := .bool true) rfl rfl (fun _ _ _ h => h) HS0.out ⟨rfl, fun _ _ => by simp [go_sem]⟩ ?_
              refine wpMix_n rfl rfl ?_
              go_wp2_with fail
              refine ⟨fun _ => HSA.out _ ((Below.refl _ wr).alloc (Nat.le_refl _) _).drew, ?_⟩
              refine wpMix_n rfl rfl ?_
              go_wp2_with fail
              refine ⟨fun _ => HSA.out _ ((Below.refl _ wr).alloc (Nat.le_refl _) _).drew, ?_⟩
              refine wpMix_tail _ [_] (by kernel_rfl) rfl ?_
              simp only [List.getElem_toArray, List.getElem_cons_succ, List.getElem_cons_zero]
              obtain ⟨X, hX⟩ : ∃ X, X = (wr.alloc (.cells #[.int .i64 q.1, .int .i64 q.2.1, .int .i64 q.2.2] 61)).drew := ⟨_, rfl⟩
              rw [← hX]
              have hBX : Below wr.heap.size wr X := by rw [hX]; exact ((Below.refl _ wr).alloc (Nat.le_refl _) _).drew
              have hbq : Blk X wr.heap.size 61 #[.int .i64 q.1, .int .i64 q.2.1, .int .i64 q.2.2] := by rw [hX]; exact (Blk.new _ _ _).drew
              have hzX : X.heap.size = wr.heap.size + 1 := by rw [hX]; simp [World.drew]
              have hbpX := HX.out.2.1.below hBX hltp
              obtain ⟨p0, p1, p2⟩ := hbpX.three
              have hownX := (HX.out.1.below hBX (Nat.le_refl _)).alloc (.cells #[.int .i64 u.1, .int .i64 u.2.1, .int .i64 u.2.2] 61)
              have HXX := hide (And.intro hBX (And.intro hbq (And.intro hbpX hownX)))
              clear hBX hbq hbpX hownX hX
              have hVX : V.heap.size ≤ X.heap.size := by rw [hVz, hzX]; have := hltp; omega
              go_wp2_with (at_builtin; refine wpList_append1 rfl _ _ _ rfl Try.underlying82 infoV rfl (by omega) encP_len8 encP_one8 rfl HXX.out.2.2.2 (wr.heap.size + 1) 1 u rfl (Blk.new' _ _ _ _ hzX.symm) (by unfold maxLen; omega) (by omega) (by simp; omega) ?_; intro g cap w5 hown5 hg5 hB5 hat5 hgb5 hlt5)
              have hB5w : Below V.heap.size X w5 := (((Below.refl _ X).alloc (Nat.le_refl _) _).mono hVX).trans hB5
              have hown5' := hown5
              have hgX5 : X.grownBy w5 (Value.slice Al i cl).ownBlock := (World.grownBy_alloc X _ _).andThen hg5 (fun j hj => .inr hj)
              have hne : ∀ r, (Value.slice Al i cl).ownBlock = some r → V.heap.size ≤ r ∧ ∀ t cs, t ≠ 61 → X.heap[r]? ≠ some (.cells cs t (0, 0)) := fun r hr => by
                have h1 := HX.out.1.blk r hr
                obtain ⟨cs0, hc0⟩ := HX.out.1.cells r hr
                have h2 : X.heap[r]? = some (.cells cs0 61 (0, 0)) := (HXX.out.1.block r h1.2).trans hc0
                refine ⟨h1.1, fun t cs ht h3 => ?_⟩
                rw [h2] at h3
                injection h3 with h3
                injection h3 with _ h3
                exact ht h3.symm
              have hx5 : Boxed w5 bx 74 (.pointer (some ⟨bj, 0, none⟩)) := (show Boxed X bx _ _ from (HXX.out.1.block bx hltx).trans HX.out.2.2.2.2.1).kept hgX5 (fun e => (hne bx e.symm).2 _ _ (by decide) ((HXX.out.1.block bx hltx).trans HX.out.2.2.2.2.1))
              have hj5 : Blk w5 bj 77 #[.bool (ins 0), .bool (ins 1), .bool (ins 2), .bool (ins 3), .bool (ins 4), .bool (ins 5), .bool (ins 6), .bool (ins 7), .map (some mb)] := (HX.out.2.2.2.2.2.below HXX.out.1 hltj).grown hgX5 (fun e => (hne bj e.symm).2 _ _ (by decide) (HX.out.2.2.2.2.2.below HXX.out.1 hltj))
              have hp5 : Blk w5 w2.heap.size 61 #[.int .i64 u.1, .int .i64 u.2.1, .int .i64 u.2.2] := HXX.out.2.2.1.below hB5w (by omega)
              have hq5 : Blk w5 wr.heap.size 61 #[.int .i64 q.1, .int .i64 q.2.1, .int .i64 q.2.2] := HXX.out.2.1.grown hgX5 (fun e => by have := (HX.out.1.blk _ e.symm).2; omega)
              have hm5 : MapK Try.prog 61 vP fitsP w5 mb N (midM nx R D i) := (HX.out.2.2.1.below HXX.out.1 hltm).kept hgX5 (fun e => by
                have h1 := HX.out.1.cells mb e.symm
                obtain ⟨cs, hc⟩ := h1
                exact HX.out.2.2.1.ne_blk (show Blk wr mb _ cs from hc) rfl)
              have hg05 : R0w.grownBy w5 (some mb) := HX.out.2.2.2.1.andThen (row' := (Value.slice Al i cl).ownBlock) ⟨hgX5.os.trans HXX.out.1.os, hgX5.tape.trans HXX.out.1.tape, hgX5.output.trans HXX.out.1.output, Nat.le_trans HXX.out.1.size hgX5.size, fun k hk hne' => (hgX5.block k (Nat.lt_of_lt_of_le hk HXX.out.1.size) hne').trans (HXX.out.1.block k hk)⟩ (fun j hj => .inl (by have h1 := (HX.out.1.blk j hj).1; have h2 : R0w.heap.size ≤ w2.heap.size := by { rw [hR0w]; exact hz2w }; omega))
              obtain ⟨w6, hrun6, hm6, hg6, hz6⟩ := (show MapK Try.prog 61 vP fitsP w5.drew mb N (midM nx R D i) from hm5).delete kfV (t := 75) (e := 61) Try.underlying75 u hfu 0
              have hg6' : w5.grownBy w6 (some mb) := grown_drew hg6
              have hS5 : (fun W => (W.cell? ⟨bx, 0, none⟩ = some (.pointer (some ⟨bj, 0, none⟩)) ∧ W.cell? ⟨bj, 8, none⟩ = some (.map (some mb)) ∧ (W.cell? ⟨w2.heap.size, 0, none⟩ = some (.int .i64 u.1) ∧ W.cell? ⟨w2.heap.size, 1, none⟩ = some (.int .i64 u.2.1) ∧ W.cell? ⟨w2.heap.size, 2, none⟩ = some (.int .i64 u.2.2)))) w5.drew := ⟨hx5.cell, hj5.cell 8, hp5.three⟩
              have hp6 := hp5.grown hg6' (fun e => by have h1 : w2.heap.size = mb := by { injection e }; exact hm5.ne_blk hp5 h1)
              have hq6 := hq5.grown hg6' (fun e => by have h1 : wr.heap.size = mb := by { injection e }; exact hm5.ne_blk hq5 h1)
              obtain ⟨x0, x1, x2⟩ := hp6.three
              obtain ⟨y0, y1, y2⟩ := hq6.three
              have fx0 := hp6.frozen 0
              have fx1 := hp6.frozen 1
              have fx2 := hp6.frozen 2
              have hown6 := hown5'.step hg6' (fun r hr => .inr fun cs hc => by
                have h1 : r = mb := by { injection hr with hr; exact hr.symm }
                subst h1
                exact hm5.ne_blk (show Blk w5 r _ cs from hc) rfl)
              have H5 := hide (And.intro hS5 (And.intro hown6 (And.intro hp6 (And.intro (show MapK Try.prog 61 vP fitsP w6 mb N (midM nx R D (i + 1)) from hm6.same fun x => by rw [HU.out, Hq.out.2]; exact mid_step nx R D (by rw [← HLen.out]; exact hlt) x) (hg05.andThen hg6' (fun j hj => .inr hj))))))
              have hltp6 := hp6.lt
              clear hB5w hown5' hown5 hgX5 hne hx5 hj5 hp5 hq5 hm5 hg05 hm6 hg6 hg6' hS5 hp6 hq6 hown6 p0 p1 p2 hg5 hB5 hat5 hz6
              refine wp_region_mix (fun W => (W.cell? ⟨bx, 0, none⟩ = some (.pointer (some ⟨bj, 0, none⟩)) ∧ W.cell? ⟨bj, 8, none⟩ = some (.map (some mb)) ∧ (W.cell? ⟨w2.heap.size, 0, none⟩ = some (.int .i64 u.1) ∧ W.cell? ⟨w2.heap.size, 1, none⟩ = some (.int .i64 u.2.1) ∧ W.cell? ⟨w2.heap.size, 2, none⟩ = some (.int .i64 u.2.2)))) [0, 1, 2, 3, 4] [0, 1, 2, 3, 4, 5] mixed_ok (by kernel_rfl) ?_
              refine wpMix_q (v := .pointer (some ⟨bj, 0, none⟩)) rfl rfl (fun _ _ _ h => h) H5.out.1 ⟨rfl, fun _ h' => by simp [go_sem, h'.1]⟩ ?_
              refine wpMix_q (v := .pointer (some ⟨bj, 0, none⟩)) rfl rfl (fun _ _ _ h => h) H5.out.1 ⟨rfl, fun _ _ => by simp [go_sem]⟩ ?_
              refine wpMix_q (v := .pointer (some ⟨bj, 8, none⟩)) rfl rfl (fun _ _ _ h => h) H5.out.1 ⟨rfl, fun _ _ => by simp [go_sem]⟩ ?_
              refine wpMix_q (v := .map (some mb)) rfl rfl (fun _ _ _ h => h) H5.out.1 ⟨rfl, fun _ h' => by simp [go_sem, h'.2.1]⟩ ?_
              refine wpMix_q (v := vP u) rfl rfl (fun _ _ _ h => h) H5.out.1 ⟨rfl, fun _ h' => by obtain ⟨_, _, a0, a1, a2⟩ := h'; simp [go_sem, a0, a1, a2]⟩ ?_
              refine wpMix_tail _ [_] (by kernel_rfl) rfl ?_
              simp only [List.getElem_toArray, List.getElem_cons_succ, List.getElem_cons_zero]
              go_wp2
              go_roundw
              case rel =>
                refine ⟨i + 1, by omega, ?_, ?_, ?_, ?_⟩
                · have ht : D.take (i + 1) = D.take i ++ [u] := by
                    have h1 : i < D.length := by rw [← HLen.out]; exact hlt
                    rw [List.take_add_one, List.getElem?_eq_getElem h1, HU.out, Hq.out.2, nthP_getElem h1]; rfl
                  rw [ht]
                  exact ((H5.out.2.1.step (grown_one w6 w2.heap.size 0 _) (fun r hr => .inl (by injection hr with hr; omega))).step (grown_one _ w2.heap.size 1 _) (fun r hr => .inl (by injection hr with hr; omega))).step (grown_one _ w2.heap.size 2 _) (fun r hr => .inl (by injection hr with hr; omega))
                · rw [← Hq.out.1]
                  exact H5.out.2.2.1.set3 _ _ _
                · have hpm : w2.heap.size ≠ mb := H5.out.2.2.2.1.ne_blk H5.out.2.2.1
                  exact ((H5.out.2.2.2.1.kept (grown_one w6 w2.heap.size 0 _) (fun e => hpm (by injection e with e; exact e.symm))).kept (grown_one _ w2.heap.size 1 _) (fun e => hpm (by injection e with e; exact e.symm))).kept (grown_one _ w2.heap.size 2 _) (fun e => hpm (by injection e with e; exact e.symm))
                · have h2 : R0w.heap.size ≤ w2.heap.size := by rw [hR0w]; exact hz2w
                  exact ((H5.out.2.2.2.2.andThen (grown_one w6 w2.heap.size 0 _) (fun j hj => .inl (by injection hj with hj; omega))).andThen (grown_one _ w2.heap.size 1 _) (fun j hj => .inl (by injection hj with hj; omega))).andThen (grown_one _ w2.heap.size 2 _) (fun j hj => .inl (by injection hj with hj; omega))
              case measure => simp [lenV]; omega
            · have hie : i = len := by omega
              subst hie
              have hu0 : u = nthP D 0 := by rw [HU.out, Nat.mod_self]
              have hmu : midM nx R D i u = none := by rw [hu0, HLen.out]; exact mid_end (by rw [← HLen.out]; exact hlen0)
              have hl0 : (Value.tuple #[(midM nx R D i u).getD (.agg #[.int .i64 0, .int .i64 0, .int .i64 0]), .bool (midM nx R D i u).isSome]) = .tuple #[.agg #[.int .i64 0, .int .i64 0, .int .i64 0], .bool false] := by rw [hmu]; rfl
              have HL := hide hl0
              clear hl0 hmu hu0 hil
              go_wp2_with fail
              refine wp_region_mix (fun W => (W.cell? ⟨bx, 0, none⟩ = some (.pointer (some ⟨bj, 0, none⟩)) ∧ W.cell? ⟨bj, 8, none⟩ = some (.map (some mb)) ∧ (W.cell? ⟨w2.heap.size, 0, none⟩ = some (.int .i64 u.1) ∧ W.cell? ⟨w2.heap.size, 1, none⟩ = some (.int .i64 u.2.1) ∧ W.cell? ⟨w2.heap.size, 2, none⟩ = some (.int .i64 u.2.2)) ∧ MapK Try.prog 61 vP fitsP W mb N (midM nx R D i))) [0, 1, 2, 3, 4, 5, 6, 7, 8] [0, 1, 2, 3, 4, 5, 6, 7, 8, 9, 10, 11] mixed_ok (by kernel_rfl) ?_
              refine wpMix_q (v := .pointer (some ⟨bj, 0, none⟩)) rfl rfl (fun _ _ _ h => h) HS0.out ⟨rfl, fun _ h' => by simp [go_sem, h'.1]⟩ ?_
              refine wpMix_q (v := .pointer (some ⟨bj, 0, none⟩)) rfl rfl (fun _ _ _ h => h) HS0.out ⟨rfl, fun _ _ => by simp [go_sem]⟩ ?_
              refine wpMix_q (v := .pointer (some ⟨bj, 8, none⟩)) rfl rfl (fun _ _ _ h => h) HS0.out ⟨rfl, fun _ _ => by simp [go_sem]⟩ ?_
              refine wpMix_q (v := .map (some mb)) rfl rfl (fun _ _ _ h => h) HS0.out ⟨rfl, fun _ h' => by simp [go_sem, h'.2.1]⟩ ?_
              refine wpMix_q (v := vP u) rfl rfl (fun _ _ _ h => h) HS0.out ⟨rfl, fun _ h' => by obtain ⟨_, _, ⟨a0, a1, a2⟩, _⟩ := h'; simp [go_sem, a0, a1, a2]⟩ ?_
              refine wpMix_q (v := .tuple #[(.agg #[.int .i64 0, .int .i64 0, .int .i64 0]), .bool false]) rfl rfl (fun _ _ _ h => h) HS0.out ⟨rfl, fun W' h' => by
                have hl := h'.2.2.2.lookup_ok kfV (t := 75) (e := 61) Try.underlying75 (z := .agg #[.int .i64 0, .int .i64 0, .int .i64 0]) rfl u hfu
                rw [HL.out] at hl
                simp [execOp, go_sem, hl]⟩ ?_
              refine wpMix_q (v := .tuple #[(.agg #[.int .i64 0, .int .i64 0, .int .i64 0]), .bool false]) rfl rfl (fun _ _ _ h => h) HS0.out ⟨rfl, fun _ _ => by simp [go_sem]⟩ ?_
              refine wpMix_q (v := (.agg #[.int .i64 0, .int .i64 0, .int .i64 0])) rfl rfl (fun _ _ _ h => h) HS0.out ⟨rfl, fun _ _ => by simp [go_sem]⟩ ?_
              refine wpMix_q (v := .bool false) rfl rfl (fun _ _ _ h => h) HS0.out ⟨rfl, fun _ _ => by simp [go_sem]⟩ ?_
              refine wpMix_n rfl rfl ?_
              go_wp2_with fail
              refine ⟨fun _ => HSA.out _ ((Below.refl _ wr).alloc (Nat.le_refl _) _).drew, ?_⟩
              refine wpMix_n rfl rfl ?_
              go_wp2_with fail
              refine ⟨fun _ => HSA.out _ ((Below.refl _ wr).alloc (Nat.le_refl _) _).drew, ?_⟩
              refine wpMix_tail _ [_] (by kernel_rfl) rfl ?_
              simp only [List.getElem_toArray, List.getElem_cons_succ, List.getElem_cons_zero]
              go_wp2
              obtain ⟨Y, hY⟩ : ∃ Y, Y = (wr.alloc (.cells #[.int .i64 0, .int .i64 0, .int .i64 0] 61)).drew := ⟨_, rfl⟩
              rw [← hY]
              have hBY : Below wr.heap.size wr Y := by rw [hY]; exact ((Below.refl _ wr).alloc (Nat.le_refl _) _).drew
              have hgY : R0w.grownBy Y (some mb) := HX.out.2.2.2.1.andThen (row' := none) ⟨hBY.os, hBY.tape, hBY.output, hBY.size, fun k hk _ => hBY.block k hk⟩ (fun j hj => by cases hj)
              have hmY : MapK Try.prog 61 vP fitsP Y mb N (leftM nx (R.erase C)) := (HX.out.2.2.1.same fun x => by rw [HLen.out]; exact mid_all HR.out.1 HD.out.1 HD.out.2.1 x).below hBY hltm
              have hCMY : CycM bx bj mb N ins nx (R.erase C) Y := ⟨(hBY.block bx hltx).trans HX.out.2.2.2.2.1, HX.out.2.2.2.2.2.below hBY hltj, hmY⟩
              have hStY : St R Y := HC.out.2.1 R R0w Y (by rw [hR0w]; exact HR.out.2.2.1) hgY
              have hBkY : Bk Y := HC.out.1 R0w Y (by rw [hR0w]; exact HR.out.2.2.2.1) hgY
              have hDt : D.take i = D := List.take_of_length_le (by rw [← HLen.out]; exact Nat.le_refl _)
              have hSlY : Sl encP 3 Y Y.heap.size Al D := by
                have h1 := HX.out.1
                rw [hDt] at h1
                exact ((h1.sl encP_len8 (Nat.le_refl _)).below hBY).more hBY.size
              have hyy := HC.out.2.2 R C D Al cl Y HR.out.1 HD.out.1 HD.out.2.1 hCMY hStY hSlY hBkY
              rw [← HLen.out] at hyy
              obtain ⟨fn, tmps, assign, body, hy, hRnd⟩ := hyy
              have hE := HR.out.1.erase HD.out.1
              have hsz : (R.erase C).flatten.length < L := by
                rw [HR.out.2.2.2.2.2.2, (erase_perm HD.out.1).length_eq, List.length_append]
                have := List.length_pos_iff.2 (HR.out.1.ne C HD.out.1)
                omega
              have HE := hide (And.intro hE hsz)
              clear hBY hgY hmY hCMY hStY hBkY hDt hSlY hE hsz hY
              gi_wp2
              refine hRnd.mono ?_
              rintro e' W3 ⟨rfl, hCM3, hSt3, hBk3⟩
              have hs3 : mapSize W3 mb = (R.erase C).flatten.length := by
                obtain ⟨hok, hkeys⟩ := left_keys HE.out.1
                exact hCM3.2.2.size_eq kfV (R.erase C).flatten HE.out.1.nodup hok hkeys
              have H3 := hide (And.intro hCM3 (And.intro hSt3 (And.intro hBk3 hs3)))
              clear hCM3 hSt3 hBk3 hs3 hy hRnd
              gi_wp2
              go_roundw
              case rel => exact ⟨R.erase C, HE.out.1, H3.out.1, H3.out.2.1, H3.out.2.2.1⟩
              case measure =>
                have h1 := H3.out.2.2.2
                have h2 := HE.out.2
                have h3 := HR.out.2.2.2.2.1
                omega
end Go.Proofs.Ytfljcgehhnmamaa
/- (contour.grid).cell: the faces, the fan, the triangles of some cycles. -/
namespace Go.Proofs.Ytfljcgehhnmamaa
open Go.RowKit Go.WideMaps Go.Maps
/-- The joins of the faces of the first j axes. -/
def facesN (ins : Nat → Bool) (j : Nat) : List (Pt × Pt) := if j = 0 then [] else if j = 1 then faceJ ins 0 false ++ faceJ ins 0 true else if j = 2 then faceJ ins 0 false ++ faceJ ins 0 true ++ (faceJ ins 1 false ++ faceJ ins 1 true) else allJ ins
theorem facesN_succ (ins : Nat → Bool) {j : Nat} (hj : j < 3) : facesN ins j ++ faceJ ins j false ++ faceJ ins j true = facesN ins (j + 1) := by
  have hc : j = 0 ∨ j = 1 ∨ j = 2 := by omega
  rcases hc with rfl | rfl | rfl <;> simp [facesN, allJ, List.append_assoc]
theorem face_neg (a : Nat) (ha : a < 3) (bj mb n : Nat) (ins : Nat → Bool) (ms : List (Pt × Pt)) (w : World) (hJ : Jn w bj mb n ins ms) (hn : n ≤ 900) :
    Calls Try.prog 41 #[.pointer (some ⟨bj, 0, none⟩), .int .i64 a, .int .i64 (-1 : Int)] w fun e w' => e = .returned (.tuple #[]) ∧ (∃ n', n' ≤ n + 4 ∧ Jn w' bj mb n' ins (ms ++ faceJ ins a false)) ∧ w.grownBy w' (some mb) := by
  have hc : a = 0 ∨ a = 1 ∨ a = 2 := by omega
  rcases hc with rfl | rfl | rfl
  · exact face0f bj mb n ins ms w hJ hn
  · exact face1f bj mb n ins ms w hJ hn
  · exact face2f bj mb n ins ms w hJ hn
theorem face_pos (a : Nat) (ha : a < 3) (bj mb n : Nat) (ins : Nat → Bool) (ms : List (Pt × Pt)) (w : World) (hJ : Jn w bj mb n ins ms) (hn : n ≤ 900) :
    Calls Try.prog 41 #[.pointer (some ⟨bj, 0, none⟩), .int .i64 a, .int .i64 (1 : Int)] w fun e w' => e = .returned (.tuple #[]) ∧ (∃ n', n' ≤ n + 4 ∧ Jn w' bj mb n' ins (ms ++ faceJ ins a true)) ∧ w.grownBy w' (some mb) := by
  have hc : a = 0 ∨ a = 1 ∨ a = 2 := by omega
  rcases hc with rfl | rfl | rfl
  · exact face0t bj mb n ins ms w hJ hn
  · exact face1t bj mb n ins ms w hJ hn
  · exact face2t bj mb n ins ms w hJ hn
theorem fan_any (b o c : Nat) (ps : List Pt) (w : World) (hs : Sl encP 3 w w.heap.size (some ⟨b, o, none⟩) ps) (h0 : 0 < ps.length) (hl : ps.length ≤ 100) (hg : ∀ p ∈ ps, gridP p) :
    Calls Try.prog 44 #[.slice (some ⟨b, o, none⟩) ps.length c] w fun e w' => ∃ v, e = .returned v ∧ Own encT 9 40 w' w.heap.size v (fanP ps).length (fanP ps) ∧ Below w.heap.size w w' := by
  by_cases h3 : ps.length = 3
  · obtain ⟨p, q, r, rfl⟩ : ∃ p q r, ps = [p, q, r] := by
      match ps, h3 with
      | [p, q, r], _ => exact ⟨p, q, r, rfl⟩
    exact fan_three b o c p q r w hs
  · have hf : fanP ps = fanN ps ps.length := by unfold fanP; rw [if_neg h3]
    rw [hf, fanN_length]
    exact fan_many b o c ps w hs h0 h3 hl hg
/-- The triangles of some of a cell's cycles, each begun anywhere; R is left. -/
def CellT (c : Pt) (h : Int) (R0 R : List (List Pt)) (ts : List Tri) : Prop :=
  ∃ CDs : List (List Pt × List Pt), (∀ x ∈ CDs, Rot x.1 x.2) ∧ (CDs.map (·.1) ++ R).Perm R0 ∧ ts = CDs.flatMap fun x => fanP (x.2.map (pointP c h))
theorem CellT.nil (c : Pt) (h : Int) (R0 : List (List Pt)) : CellT c h R0 R0 [] := ⟨[], by simp, List.Perm.refl _, rfl⟩
theorem CellT.step {c : Pt} {h : Int} {R0 R : List (List Pt)} {ts : List Tri} (H : CellT c h R0 R ts) {C D : List Pt} (hC : C ∈ R) (hD : Rot C D) : CellT c h R0 (R.erase C) (ts ++ fanP (D.map (pointP c h))) := by
  obtain ⟨L, h1, h2, h3⟩ := H
  refine ⟨L ++ [(C, D)], ?_, ?_, ?_⟩
  · intro x hx
    rcases List.mem_append.1 hx with hx | hx
    · exact h1 x hx
    · rw [List.mem_singleton.1 hx]; exact hD
  · rw [List.map_append, List.append_assoc]
    exact ((List.Perm.append_left _ (List.perm_cons_erase hC).symm)).trans h2
  · rw [h3, List.flatMap_append, List.flatMap_singleton]
set_option maxRecDepth 100000 in
theorem mix_all : ((allL 8).all fun l => mixN (insL l) 8 || !(l.contains true && l.contains false)) = true := by decide +kernel
theorem mix_not (l : List Bool) (hl : l.length = 8) (h : mixN (insL l) 8 = false) : cyclesP (insL l) = [] := by
  refine (cellC l hl).none_ ?_
  have := List.all_eq_true.1 mix_all l (mem_allL 8 l hl)
  rw [h, Bool.false_or, Bool.not_eq_true'] at this
  exact this
/-- What a cell's walk holds while R is left: the triangles so far in their box, the grid and the cell in theirs. -/
def CellS (w1 : World) (bo bg base : Nat) (c : Pt) (h n : Int) (vi : Value) (R0 R : List (List Pt)) (W : World) : Prop :=
  (∃ v ts, Boxed W bo 29 v ∧ Own encT 9 40 W base v ts.length ts ∧ CellT c h R0 R ts) ∧ Blk W bg 57 #[vi, .int .i64 n, .int .i64 h] ∧ Blk W (bg + 1) 61 #[.int .i64 c.1, .int .i64 c.2.1, .int .i64 c.2.2] ∧ Below w1.heap.size w1 W
theorem grown_is_below {A B : World} {r n : Nat} (h : A.grownBy B (some r)) (hn : n ≤ A.heap.size) (hr : n ≤ r) : Below n A B :=
  ⟨h.os, h.tape, h.output, h.size, fun k hk => h.block k (by omega) (fun e => by cases e; omega)⟩
theorem CellS.grown {w1 : World} {bo bg base mb : Nat} {c : Pt} {h n : Int} {vi : Value} {R0 R : List (List Pt)} {A B : World} (H : CellS w1 bo bg base c h n vi R0 R A) (hg : A.grownBy B (some mb)) (ho : bo ≠ mb) (hb : bg + 1 < mb) (hbase : mb < base) (hm : w1.heap.size ≤ mb) :
    CellS w1 bo bg base c h n vi R0 R B := by
  obtain ⟨⟨v, ts, h1, h2, h3⟩, h4, h5, h6⟩ := H
  refine ⟨⟨v, ts, h1.kept hg (fun e => ho (by cases e; rfl)), h2.kept hg ?_, h3⟩, h4.grown hg (fun e => by cases e; omega), h5.grown hg (fun e => by cases e; omega), h6.trans (grown_is_below hg h6.size hm)⟩
  cases hob : v.ownBlock with
  | none => exact .inl rfl
  | some g =>
    refine .inr (fun e => ?_)
    injection e with e
    have := h2.blk g hob
    omega
theorem CycM.kept {bx bj mb N : Nat} {ins : Nat → Bool} {nx : Pt → Pt} {R : List (List Pt)} {A B : World} {row : Option Nat} (H : CycM bx bj mb N ins nx R A) (hg : A.grownBy B row) (h1 : some bx ≠ row) (h2 : some bj ≠ row) (h3 : some mb ≠ row) : CycM bx bj mb N ins nx R B :=
  ⟨H.1.kept hg h1, H.2.1.grown hg h2, H.2.2.kept hg h3⟩
end Go.Proofs.Ytfljcgehhnmamaa
/- (contour.grid).cell. -/
namespace Go.Proofs.Ytfljcgehhnmamaa
open Go.RowKit Go.WideMaps Go.Maps
theorem map_take_snocP {α β : Type} (f : α → β) (xs : List α) (k : Nat) (x : α) (h : xs[k]? = some x) : (xs.take (k + 1)).map f = (xs.take k).map f ++ [f x] := by
  rw [List.take_add_one, h]
  simp
theorem CellT.few {c : Pt} {h : Int} {R0 R : List (List Pt)} {ts : List Tri} (H : CellT c h R0 R ts) (h0 : ∀ C ∈ R0, 1 ≤ C.length) : ts.length ≤ R0.flatten.length := by
  obtain ⟨L, h1, h2, h3⟩ := H
  have hL : ∀ M : List (List Pt × List Pt), (∀ x ∈ M, Rot x.1 x.2 ∧ 1 ≤ x.1.length) → (M.flatMap fun x => fanP (x.2.map (pointP c h))).length ≤ (M.map (·.1)).flatten.length := by
    intro M
    induction M with
    | nil => intro _; simp
    | cons x M ih =>
      intro hM
      have a := hM x (by simp)
      have b := ih (fun y hy => hM y (by simp [hy]))
      have e : x.2.length = x.1.length := by obtain ⟨s, _, e, _⟩ := a.1; exact e
      have f := fanP_length (x.2.map (pointP c h))
      rw [List.length_map] at f
      rw [List.flatMap_cons, List.length_append, List.map_cons, List.flatten_cons, List.length_append]
      omega
  have h4 := hL L (fun x hx => ⟨h1 x hx, h0 _ (h2.mem_iff.1 (List.mem_append.2 (.inl (List.mem_map.2 ⟨x, hx, rfl⟩))))⟩)
  have e := h2.flatten.length_eq
  rw [List.flatten_append, List.length_append] at e
  rw [h3]
  omega
theorem grow_of_below {A B : World} (h : Below A.heap.size A B) (row : Option Nat) : A.grownBy B row := ⟨h.os, h.tape, h.output, h.size, fun k hk _ => h.block k hk⟩
theorem infoP8 : (Try.prog.info? 38).map (fun i => (i.zero, i.size, i.bytes)) = some (some (.agg #[.int .i64 0, .int .i64 0, .int .i64 0]), 3, 24) := by kernel_rfl
set_option maxRecDepth 100000 in
set_option maxHeartbeats 16000000 in
theorem cell_any (F : List Bool) (A : Option Addr) (cap n x y z : Nat) (h : Int) (w : World) (hs : Sl encBl 1 w w.heap.size A F) (hx : x < n) (hy : y < n) (hz : z < n) (hn : n ≤ 256) (hF : F.length = (n + 1) * (n + 1) * (n + 1)) (hc : cellOk ((x : Int), (y : Int), (z : Int)) h)
    (l : List Bool) (hl : l = (List.range 8).map (insF F (n + 1) x y z)) :
    Calls Try.prog 28 #[.agg #[.slice A F.length cap, .int .i64 n, .int .i64 h], .agg #[.int .i64 x, .int .i64 y, .int .i64 z]] w fun e w' => ∃ v ts, e = .returned v ∧ Own encT 9 40 w' w.heap.size v ts.length ts ∧ CellT ((x : Int), (y : Int), (z : Int)) h (cyclesP (insL l)) [] ts ∧ Below w.heap.size w w' := by
  have hl8 : l.length = 8 := by rw [hl]; simp
  have hin : ∀ v, v < 8 → insF F (n + 1) x y z v = insL l v := fun v hv => by
    have hc : v = 0 ∨ v = 1 ∨ v = 2 ∨ v = 3 ∨ v = 4 ∨ v = 5 ∨ v = 6 ∨ v = 7 := by omega
    rw [hl]
    rcases hc with rfl | rfl | rfl | rfl | rfl | rfl | rfl | rfl <;> rfl
  obtain ⟨ins, hins⟩ : ∃ ins, ins = insL l := ⟨_, rfl⟩
  have harr : arr8 (insF F (n + 1) x y z) 8 = arr8 ins 8 := by
    rw [arr8_all, arr8_all, hins, hin 0 (by omega), hin 1 (by omega), hin 2 (by omega), hin 3 (by omega), hin 4 (by omega), hin 5 (by omega), hin 6 (by omega), hin 7 (by omega)]
  have hmixe : mixN (insF F (n + 1) x y z) 8 = mixN ins 8 := by
    simp only [mixN_succ, hin 0 (by omega), hin 1 (by omega), hin 2 (by omega), hin 3 (by omega), hin 4 (by omega), hin 5 (by omega), hin 6 (by omega), hin 7 (by omega), hins]
    rfl
  have hcell := cellC l hl8
  have HS := hide (And.intro hs (And.intro hF (And.intro hl8 (And.intro hins (And.intro hcell hc)))))
  have HX := hide (And.intro harr hmixe)
  obtain ⟨L, hL⟩ : ∃ L, L = F.length := ⟨_, rfl⟩
  have hv := fun w1 (hs1 : Sl encBl 1 w1 w1.heap.size A F) => vertices_any F A cap n x y z h w1 hs1 hx hy hz hn hF
  rw [← hL] at hv ⊢
  have HV := hide hv
  have hmm := @run_makeMap Try.prog
  clear hs hF hl8 hins hcell hc harr hmixe hin hv hl hL
  refine callsIn_wide.1 (callsIn_of_wp_marks (n := 3) Try.func28 rfl trivial ?_ rfl)
  simp only [Try.ntmps28, List.size_toArray, List.length_cons, List.length_nil, Nat.reduceAdd, Nat.reduceSub, Array.replicate_succ, Array.replicate_zero, List.push_toArray, List.append_toArray, List.nil_append, List.cons_append]
  refine wpIn_wide.2 ?_
  go_wp2_with fail
  refine (HV.out _ ?_).mono ?_
  · exact (HS.out.1.below (((Below.refl _ w).alloc (Nat.le_refl _) _).alloc (by simp) _)).more (by simp; omega)
  rintro e w1 ⟨rfl, hB1⟩
  rw [HX.out.1, HX.out.2, arr8_all]
  obtain ⟨mx, hmx⟩ : ∃ mx, mx = mixN ins 8 := ⟨_, rfl⟩
  rw [← hmx]
  have hB0 : Below w.heap.size w w1 := (((Below.refl _ w).alloc (Nat.le_refl _) _).alloc (by simp) _).trans (hB1.mono (by simp; omega))
  have hg1 : Blk w1 w.heap.size 57 #[.slice A L cap, .int .i64 n, .int .i64 h] := ((Blk.new w _ _).alloc _).below hB1 (by simp; omega)
  have hc1 : Blk w1 (w.heap.size + 1) 61 #[.int .i64 x, .int .i64 y, .int .i64 z] := (Blk.new' _ _ _ _ (by simp)).below hB1 (by simp)
  have hz1 : w.heap.size + 2 ≤ w1.heap.size := by have := hB1.size; simp at this; omega
  have H1 := hide (And.intro hB0 (And.intro hg1 hc1))
  have HM := hide hmx
  clear hB1 hB0 hg1 hc1 hmx
  cases mx
  · go_wp2
    refine ⟨_, results_tmp rfl _ _ _, _, [], rfl, Own.nil, ?_, H1.out.1.trans ((Below.refl _ w1).alloc (by omega) _)⟩
    rw [mix_not l HS.out.2.2.1 (by rw [← HS.out.2.2.2.1]; exact HM.out.symm)]
    exact CellT.nil _ _ _
  · go_wp2
    obtain ⟨X, hX⟩ : ∃ X, X = ((w1.alloc (.cells #[.bool (ins 0), .bool (ins 1), .bool (ins 2), .bool (ins 3), .bool (ins 4), .bool (ins 5), .bool (ins 6), .bool (ins 7)] 71)).alloc (.map #[] 0)).alloc (.cells #[.bool (ins 0), .bool (ins 1), .bool (ins 2), .bool (ins 3), .bool (ins 4), .bool (ins 5), .bool (ins 6), .bool (ins 7), .map (some (w1.heap.size + 1))] 77) := ⟨_, rfl⟩
    rw [← hX]
    have hBX : Below w1.heap.size w1 X := by rw [hX]; exact (((Below.refl _ w1).alloc (Nat.le_refl _) _).alloc (by simp) _).alloc (by simp; omega) _
    have hJX : Jn X (w1.heap.size + 1 + 1) (w1.heap.size + 1) 0 ins (facesN ins 0) := by
      refine ⟨by rw [hX]; exact Blk.new' _ _ _ _ (by simp), ?_⟩
      rw [hX]
      have h0 := MapK.made Try.prog 61 vP fitsP (w1.alloc (.cells #[.bool (ins 0), .bool (ins 1), .bool (ins 2), .bool (ins 3), .bool (ins 4), .bool (ins 5), .bool (ins 6), .bool (ins 7)] 71))
      rw [World.size_alloc] at h0
      exact h0.kept (World.grownBy_alloc _ _ none) (by simp)
    have hzX : X.heap.size = w1.heap.size + 3 := by rw [hX]; simp
    have HJ := hide (And.intro hBX hJX)
    clear hBX hJX hX hmm
    go_loopw [26] (fun iv wr => ∃ j m : Nat, j ≤ 3 ∧ iv = .int .i64 j ∧ m ≤ 8 * j ∧ Jn wr (w1.heap.size + 1 + 1) (w1.heap.size + 1) m ins (facesN ins j) ∧ X.grownBy wr (some (w1.heap.size + 1))) (fun iv _ => 3 - (intOf iv).toNat)
    case atStart => exact ⟨0, 0, by omega, rfl, by omega, HJ.out.2, World.grownBy.refl X _⟩
    case round =>
      obtain ⟨j, m, hj, rfl, hm, hJ, hG⟩ := hrel
      by_cases hj3 : j < 3
      · have HR := hide (And.intro hJ hG)
        have hfs := facesN_succ ins hj3
        have HFS := hide hfs
        clear hJ hG hfs
        have i1 : (j : Int) < 3 := by omega
        go_wp2_with fail
        refine (face_neg j hj3 _ _ m ins _ _ HR.out.1 (by omega)).mono ?_
        rintro e w2 ⟨rfl, ⟨m2, hm2, hJ2⟩, hG2⟩
        have H2 := hide (And.intro hJ2 hG2)
        clear hJ2 hG2
        go_wp2_with fail
        refine (face_pos j hj3 _ _ m2 ins _ _ H2.out.1 (by omega)).mono ?_
        rintro e w3 ⟨rfl, ⟨m3, hm3, hJ3⟩, hG3⟩
        rw [HFS.out] at hJ3
        have H3 := hide (And.intro hJ3 hG3)
        clear hJ3 hG3
        go_wp2
        go_roundw
        case rel => exact ⟨j + 1, m3, by omega, by go_num, by omega, H3.out.1, (HR.out.2.trans H2.out.2).trans H3.out.2⟩
        case measure => simp [intOf]; omega
      · have hje : j = 3 := by omega
        subst hje
        have HR := hide (And.intro hJ hG)
        clear hJ hG
        go_wp2_with fail
        refine (cycles_any (w1.heap.size + 1 + 1) _).mono ?_
        rintro e w2 ⟨rfl, hw2⟩
        have hzr : X.heap.size ≤ wr.heap.size := HR.out.2.size
        have hz2 : w2.heap.size = wr.heap.size + 2 := by rw [hw2]; simp
        have hmap : ∀ p, lkV (facesN ins 3) p = leftM (nxP l) (cyclesP (insL l)) p := fun p => by
          rw [left_of l HS.out.2.2.1, HS.out.2.2.2.1]; rfl
        have HW := hide (And.intro hw2 hmap)
        clear hw2 hmap
        go_wp2_with fail
        refine (wpIn_wide (n := 3)).1 ?_
        obtain ⟨R0, hR0⟩ : ∃ R0, R0 = cyclesP (insL l) := ⟨_, rfl⟩
        obtain ⟨St, hSt⟩ : ∃ St, St = CellS w1 wr.heap.size w.heap.size (w2.heap.size + 2) ((x : Int), (y : Int), (z : Int)) h n (.slice A L cap) R0 := ⟨_, rfl⟩
        obtain ⟨Cm, hCm⟩ : ∃ Cm, Cm = CycM (wr.heap.size + 1) (w1.heap.size + 1 + 1) (w1.heap.size + 1) m ins (nxP l) := ⟨_, rfl⟩
        have hStg : ∀ R r A B, St R A → A.grownBy B (some r) → r ≠ wr.heap.size → w.heap.size + 1 < r → r < w2.heap.size + 2 → w1.heap.size ≤ r → St R B := fun R r A B H hg a1 a2 a3 a4 => by
          rw [hSt] at H ⊢
          exact H.grown hg (fun e => a1 e.symm) a2 a3 a4
        have hCmg : ∀ R r A B, Cm R A → A.grownBy B (some r) → r ≠ wr.heap.size + 1 → r ≠ w1.heap.size + 1 + 1 → r ≠ w1.heap.size + 1 → Cm R B := fun R r A B H hg a1 a2 a3 => by
          rw [hCm] at H ⊢
          exact H.kept hg (fun e => a1 (by cases e; rfl)) (fun e => a2 (by cases e; rfl)) (fun e => a3 (by cases e; rfl))
        have hCm0 : Cm R0 w2 := by
          rw [hCm, hR0, HW.out.1]
          have hga : wr.grownBy ((wr.alloc (.cells #[.slice none 0 0] 29)).alloc (.cells #[.pointer (some ⟨w1.heap.size + 1 + 1, 0, none⟩)] 74)) none := (World.grownBy_alloc _ _ none).trans (World.grownBy_alloc _ _ none)
          refine ⟨?_, HR.out.1.1.grown hga (by simp), ?_⟩
          · have := Boxed.new (wr.alloc (.cells #[.slice none 0 0] 29)) 74 (.pointer (some ⟨w1.heap.size + 1 + 1, 0, none⟩))
            rw [World.size_alloc] at this
            exact this
          · have hk := HR.out.1.2.kept hga (by simp)
            rw [show lkV (facesN ins 3) = leftM (nxP l) (cyclesP (insL l)) from funext HW.out.2] at hk
            exact hk
        have hSt0 : St R0 w2 := by
          rw [hSt, HW.out.1]
          have hga : wr.grownBy ((wr.alloc (.cells #[.slice none 0 0] 29)).alloc (.cells #[.pointer (some ⟨w1.heap.size + 1 + 1, 0, none⟩)] 74)) (some (w1.heap.size + 1)) := (World.grownBy_alloc _ _ _).trans (World.grownBy_alloc _ _ _)
          have hBr : Below w1.heap.size w1 wr := HJ.out.1.trans (grown_is_below HR.out.2 (by omega) (by omega))
          have hBa : Below wr.heap.size wr ((wr.alloc (.cells #[.slice none 0 0] 29)).alloc (.cells #[.pointer (some ⟨w1.heap.size + 1 + 1, 0, none⟩)] 74)) := ((Below.refl _ wr).alloc (Nat.le_refl _) _).alloc (by simp) _
          have hB2 := hBr.trans (hBa.mono hBr.size)
          exact ⟨⟨_, [], (Boxed.new wr 29 (.slice none 0 0)).alloc _, Own.nil, CellT.nil _ _ _⟩, H1.out.2.1.below hB2 (by omega), H1.out.2.2.below hB2 (by omega), hB2⟩
        have HD := hide (And.intro hR0 (And.intro hSt hCm))
        have HG := hide (And.intro hStg (And.intro hCmg (And.intro hCm0 hSt0)))
        have hcy : Cyc (nxP l) R0 := by rw [hR0]; exact cyc_of l HS.out.2.2.1
        have HY := hide hcy
        clear hStg hCmg hCm0 hSt0 hcy
        have HZ := hide hz2
        clear hR0 hSt hCm hz2
        refine wpIn_rangeFunc_joint (α := List (List Pt) × List Pt × List Pt × Option Addr × Nat) rfl (by omega) (gf := 69) (lb := #[.pointer (some ⟨wr.heap.size + 1, 0, none⟩)]) rfl trivial (enters_of Try.func69 (by kernel_rfl) rfl)
          (fun q => #[.slice q.2.2.2.1 q.2.2.1.length q.2.2.2.2]) (fun _ => rfl) (fun W => Cm R0 W ∧ St R0 W) (fun W => Cm [] W ∧ St [] W)
          (fun q W => (Cyc (nxP l) q.1 ∧ q.2.1 ∈ q.1 ∧ Rot q.2.1 q.2.2.1) ∧ Cm (q.1.erase q.2.1) W ∧ St q.1 W ∧ Sl encP 3 W W.heap.size q.2.2.2.1 q.2.2.1)
          (fun q W => Cm (q.1.erase q.2.1) W ∧ St (q.1.erase q.2.1) W)
          ?start ?pre ?post ?fin ?seq ?a1 ?assign ?body ?done
        case start =>
          intro o o'
          have hga : w2.grownBy ((w2.alloc o).alloc o') (some (w2.heap.size + 1)) := (World.grownBy_alloc _ _ _).trans (World.grownBy_alloc _ _ _)
          have hz := HZ.out
          exact ⟨HG.out.2.1 _ _ _ _ HG.out.2.2.1 hga (by omega) (by omega) (by omega), HG.out.1 _ _ _ _ HG.out.2.2.2 hga (by omega) (by omega) (by omega) (by omega)⟩
        case fin =>
          rintro W o ⟨h1, h2⟩
          have hz := HZ.out
          have hg := grownBy_putObj' W (w2.heap.size + 1) o
          exact ⟨HG.out.2.1 _ _ _ _ h1 hg (by omega) (by omega) (by omega), HG.out.1 _ _ _ _ h2 hg (by omega) (by omega) (by omega) (by omega)⟩
        case post =>
          rintro q W o ⟨h1, h2⟩
          have hz := HZ.out
          have hg := grownBy_putObj' W (w2.heap.size + 1) o
          exact ⟨HG.out.2.1 _ _ _ _ h1 hg (by omega) (by omega) (by omega), HG.out.1 _ _ _ _ h2 hg (by omega) (by omega) (by omega) (by omega)⟩
        case seq =>
          intro lp Bk hst hy W hS hB
          have hz := HZ.out
          refine (cyc1_in 2 lp (wr.heap.size + 1) (w1.heap.size + 1 + 1) (w1.heap.size + 1) m ins (nxP l) Bk St (by omega) (by omega) (fun A B hA hg => hst A B _ hA hg (fun r e => by cases e; omega)) (fun R A B hA hg => HG.out.1 R _ A B hA hg (by omega) (by omega) (by omega) (by omega)) ?_ R0 W HY.out (by rw [← HD.out.2.2]; exact hS.1) hS.2 hB).mono ?_
          · intro R C D A c W hcR hC hD hM hSR hsl hBk
            refine (hy (R, C, D, A, c) W ⟨⟨hcR, hC, hD⟩, by rw [HD.out.2.2]; exact hM, hSR, hsl⟩ hBk).mono ?_
            rintro e W' ⟨he, ⟨p1, p2⟩, p3⟩
            exact ⟨he, by rw [← HD.out.2.2]; exact p1, p2, p3⟩
          · rintro e W' ⟨he, p1, p2, p3⟩
            exact ⟨he, ⟨by rw [HD.out.2.2]; exact p1, p2⟩, p3⟩
        case pre =>
          rintro q W o ⟨h0, h1, h2, h3⟩ ⟨r, hr⟩
          have hz := HZ.out
          have hg := grownBy_putObj' W (w2.heap.size + 1) o
          refine ⟨h0, HG.out.2.1 _ _ _ _ h1 hg (by omega) (by omega) (by omega), HG.out.1 _ _ _ _ h2 hg (by omega) (by omega) (by omega) (by omega), ?_⟩
          rcases h3 with h3 | ⟨b, o', hA, hb, hcl⟩
          · exact .inl h3
          · refine .inr ⟨b, o', hA, Nat.lt_of_lt_of_le hb hg.size, fun i p hp j u hu => ?_⟩
            have hcu := hcl i p hp j u hu
            have hne : b ≠ w2.heap.size + 1 := fun e => by
              rw [e] at hcu
              simp [World.cell?, hr] at hcu
            refine Eq.trans ?_ hcu
            have hh : (W.putObj (w2.heap.size + 1) o).heap[b]? = W.heap[b]? := hg.block b hb (fun e => hne (by cases e; rfl))
            simp only [World.cell?, hh]
        case assign =>
          intro lp q W K hK
          refine wpIn_region_list (by kernel_rfl) (by rintro ⟨_, _, h⟩; exact h) ?_
          go_wp2
          exact hK
        case done =>
          rintro W ⟨hM, hSR⟩ hK
          rw [HD.out.2.1] at hSR
          obtain ⟨⟨v, ts, hbx, hown, hct⟩, hbg, hbc, hBW⟩ := hSR
          have hc := hbx.cell
          have HW2 := hide (And.intro hbx (And.intro hown (And.intro hct hBW)))
          clear hM hbx hown hct hbg hbc hBW
          go_wp2
          have hz := HZ.out
          have hg := grownBy_putObj' W w2.heap.size (.deferred none)
          refine ⟨by simp, .inl ⟨_, _, rfl, run_takeDeferred hK, ?_⟩⟩
          refine ⟨_, results_tmp rfl _ _ _, _, ts, rfl, ?_, ?_, ?_⟩
          · refine (HW2.out.2.1.kept hg ?_).base_le (by omega)
            cases hob : v.ownBlock with
            | none => exact .inl rfl
            | some g =>
              refine .inr (fun e => ?_)
              injection e with e
              have := HW2.out.2.1.blk g hob
              omega
          · rw [← HD.out.1]
            exact HW2.out.2.2.1
          · exact H1.out.1.trans ((HW2.out.2.2.2.trans (grown_is_below hg HW2.out.2.2.2.size (by omega))).mono (by omega))
        case body =>
          rintro lp ⟨R, C, D, A', c'⟩ W ⟨⟨hcR, hC, hD⟩, hM, hSR, hsl⟩ hlt
          dsimp only at hcR hC hD hM hSR hsl ⊢
          obtain ⟨dl, hdl⟩ : ∃ dl, dl = D.length := ⟨_, rfl⟩
          rw [← hdl]
          have hSq := hSR
          rw [HD.out.2.1] at hSq
          obtain ⟨⟨vo, to, hbx, hown, hct⟩, hbg, hbc, hBW⟩ := hSq
          have hmemC : ∀ p ∈ D, smallP p := fun p hp => hcR.small p (List.mem_flatten.2 ⟨C, hC, (hD.mem p).1 hp⟩)
          have hC0 : C ∈ cyclesP (insL l) := by
            obtain ⟨CDs, _, hp, _⟩ := hct
            rw [← HD.out.1]
            exact hp.mem_iff.1 (List.mem_append.2 (.inr hC))
          have hDC : D.length = C.length := by obtain ⟨s, _, h, _⟩ := hD; exact h
          have hd24 : dl ≤ 24 := by
            have := (List.sublist_flatten_of_mem hC0).length_le
            have := HS.out.2.2.2.2.1.few
            omega
          have hto : to.length ≤ 24 := by
            have h1 := hct.few (fun C hC => by
              rw [HD.out.1] at hC
              have := HS.out.2.2.2.2.1.three C hC
              omega)
            rw [HD.out.1] at h1
            have := HS.out.2.2.2.2.1.few
            omega
          have hd3 : 3 ≤ dl := by
            have := HS.out.2.2.2.2.1.three C hC0
            omega
          obtain ⟨bo, hbo⟩ : ∃ bo, bo = wr.heap.size := ⟨_, rfl⟩
          rw [← hbo] at hbx ⊢
          have HBO := hide hbo
          clear hbo
          have HQ := hide (And.intro hcR (And.intro hC (And.intro hD (And.intro hM (And.intro hSR (And.intro hsl hdl))))))
          have HP := hide (And.intro hbg (And.intro hbc (And.intro hmemC (And.intro hbx (And.intro hown (And.intro hct hBW))))))
          clear hcR hC hD hM hSR hsl hdl hbg hbc hmemC hbx hown hct hBW hC0 hDC
          refine wpIn_block ?_
          refine wpIn_seq ?_
          refine wpIn_region_list (by kernel_rfl) (by rintro ⟨_, _, h⟩; exact h) ?_
          go_wp2_with fail
          refine wpIn_seq ?_
          refine wpIn_seq ?_
          refine wpIn_region_list (by kernel_rfl) (by rintro ⟨_, _, h⟩; exact h) ?_
          go_wp2_with fail
          refine wpIn_block ?_
          have hw0 : W.heap.size ≤ W.heap.size := Nat.le_refl _
          obtain ⟨W0, hW0⟩ : ∃ W0, W0 = W := ⟨_, rfl⟩
          rw [← hW0] at HQ HP hlt ⊢
          clear hW0 hw0
          gi_loopw [11, 41] (fun pv iv wx => ∃ k : Nat, k ≤ dl ∧ iv = .int .i64 k ∧ Own encP 3 38 wx W0.heap.size pv k ((D.take k).map (pointP ((x : Int), (y : Int), (z : Int)) h)) ∧ Below W0.heap.size W0 wx) (fun _ iv _ => dl - (intOf iv).toNat)
          case atStart => exact ⟨0, by omega, rfl, Own.nil, Below.refl _ W0⟩
          case round =>
            obtain ⟨k, hk, rfl, hown, hB⟩ := hrel
            obtain ⟨pA, pc, rfl⟩ := hown.form
            have HK := hide (And.intro hown hB)
            clear hown hB
            by_cases hlt2 : k < dl
            · have i2 : (k : Int) < (dl : Int) := by omega
              obtain ⟨p, hp⟩ : ∃ p, D[k]? = some p := ⟨_, List.getElem?_eq_getElem (by rw [← HQ.out.2.2.2.2.2.2]; exact hlt2)⟩
              obtain ⟨b', o', hA, hlb, hcc⟩ := (HQ.out.2.2.2.2.2.1.below HK.out.2).at hp
              subst hA
              clear hcc
              obtain ⟨g0, g1, g2⟩ := (HQ.out.2.2.2.2.2.1.below HK.out.2).pt hp
              have hps : smallP p := HP.out.2.2.1 p (List.mem_of_getElem? hp)
              have hz0 := HK.out.2.size
              have hbg := HP.out.1.below HK.out.2 (HP.out.1.lt)
              have hbc := HP.out.2.1.below HK.out.2 (HP.out.2.1.lt)
              obtain ⟨s0, s1, s2⟩ := hbg.three
              obtain ⟨t0, t1, t2⟩ := hbc.three
              have zl1 := hbg.lt
              have zl2 := hbc.lt
              have HA := hide (And.intro hp (And.intro hps (And.intro hbg hbc)))
              clear hp hps hbg hbc
              refine wpIn_seq ?_
              refine wpIn_region_list (by kernel_rfl) (by rintro ⟨_, _, h⟩; exact h) ?_
              go_wp2_with fail
              refine wpIn_seq ?_
              refine wpIn_cond_split rfl (fun hb => ?_) (fun hb => ?_)
              · refine wpIn_skip ?_
                simp only [Exit.then]
                refine wpIn_seq ?_
                refine wpIn_block ?_
                refine wpIn_seq ?_
                refine wpIn_region_list (by kernel_rfl) (by rintro ⟨_, _, h⟩; exact h) ?_
                go_wp2_with fail
                refine wpIn_region_list (by kernel_rfl) (by rintro ⟨_, _, h⟩; exact h) ?_
                go_wp2_with fail
                refine (point_any ((x : Int), (y : Int), (z : Int)) p h n A L cap _ HS.out.2.2.2.2.2 HA.out.2.1).mono ?_
                rintro e w2' ⟨rfl, hB2⟩
                have hBa : Below wr.heap.size wr w2' := ((Below.refl _ wr).alloc (Nat.le_refl _) _).trans (hB2.mono (by simp))
                have hB02 : Below W0.heap.size W0 w2' := HK.out.2.trans (hBa.mono HK.out.2.size)
                have hown1 := (HK.out.1.below hBa (Nat.le_refl _)).alloc (.cells (encP (pointP ((x : Int), (y : Int), (z : Int)) h p)).toArray 38)
                have hz2 := hB02.size
                have HL := hide hB02
                clear hB2 hBa hB02 g0 g1 g2 s0 s1 s2 t0 t1 t2
                go_wp2_with (at_builtin; refine wpList_append1 rfl _ _ _ rfl Try.underlying45 infoP8 rfl (by omega) encP_len8 encP_one8 rfl hown1 w2'.heap.size 1 (pointP ((x : Int), (y : Int), (z : Int)) h p) rfl (Blk.new _ _ _) (by unfold maxLen; omega) (by omega) (by simp; omega) ?_; intro g cap' w3 hown2 hg2 hB3 hat2 hgb2 hlt2)
                refine wpIn_region_list (by kernel_rfl) (by rintro ⟨_, _, h⟩; exact h) ?_
                go_wp2_with fail
                refine ⟨⟨_, _, _, ⟨k + 1, ?_, ?_, ?_, ?_⟩, _, _, _, _, _, _, _, _, _, _, _, rfl⟩, ?_⟩
                · omega
                · go_num
                · have := map_take_snocP (pointP ((x : Int), (y : Int), (z : Int)) h) D k p HA.out.1
                  rw [List.map_take] at this
                  rw [this]
                  exact hown2
                · exact (HL.out.alloc (by omega) _).trans hB3
                · simp [intOf]; omega
              · exact absurd hb (by simp)
            · have hkd : k = dl := by omega
              subst hkd
              have hDe : D.take k = D := by rw [HQ.out.2.2.2.2.2.2, List.take_length]
              have hown := HK.out.1
              rw [hDe] at hown
              have hne : D.map (pointP ((x : Int), (y : Int), (z : Int)) h) ≠ [] := by
                intro e
                have h1 := congrArg List.length e
                have h2 := HQ.out.2.2.2.2.2.2
                simp at h1
                simp [h1] at h2
                omega
              obtain ⟨g, cp, hv, hbg, hlg⟩ := hown.at hne
              rw [hv] at hown ⊢
              obtain ⟨ps, hps⟩ : ∃ ps, ps = D.map (pointP ((x : Int), (y : Int), (z : Int)) h) := ⟨_, rfl⟩
              have hpl : ps.length = k := by rw [hps, List.length_map]; exact HQ.out.2.2.2.2.2.2.symm
              have hslp : Sl encP 3 wr wr.heap.size (some ⟨g, 0, none⟩) ps := by rw [hps]; exact hown.sl encP_len8 (Nat.le_refl _)
              have hgr : ∀ q ∈ ps, gridP q := fun q hq => by
                rw [hps] at hq
                obtain ⟨q', hq', rfl⟩ := List.mem_map.1 hq
                exact pointP_grid HS.out.2.2.2.2.2 (HP.out.2.2.1 q' hq')
              have hfan := fun W (hW : Below wr.heap.size wr W) => fan_any g 0 cp ps W ((hslp.below hW).more hW.size) (by omega) (by omega) hgr
              rw [hpl] at hfan
              have HF := hide (And.intro hfan (And.intro hps hpl))
              clear hfan hps hpl hown hDe hne hv hslp hgr
              refine wpIn_seq ?_
              refine wpIn_region_list (by kernel_rfl) (by rintro ⟨_, _, h⟩; exact h) ?_
              go_wp2_with fail
              refine wpIn_seq ?_
              refine wpIn_cond_split rfl (fun hb => ?_) (fun hb => ?_)
              · exact absurd hb (by simp)
              · refine wpIn_exit ?_
                simp only [Exit.then, Exit.inBlock, ↓reduceIte]
                have hz0 := HK.out.2.size
                have hBo : Boxed wr bo 29 vo := (HK.out.2.block bo HP.out.2.2.2.1.lt).trans HP.out.2.2.2.1
                have hct0 : wr.cell? ⟨bo, 0, none⟩ = some vo := hBo.cell
                refine wpIn_region_mix (fun W => W.cell? ⟨bo, 0, none⟩ = some vo) [0, 1] [0, 1, 2, 3, 4] mixed_ok (by kernel_rfl) (by kernel_rfl) (by rintro ⟨_, _, h⟩; exact h) ?_
                refine wpMix_q (v := vo) rfl rfl (fun _ _ _ h => h) hct0 ⟨rfl, fun _ h' => by simp [go_sem, h']⟩ ?_
                refine wpMix_q (v := .slice (some ⟨g, 0, none⟩) k cp) rfl rfl (fun _ _ _ h => h) hct0 ⟨rfl, fun _ h' => by simp [go_sem]⟩ ?_
                refine wpMix_n rfl rfl ?_
                go_wp2_with fail
                refine (HF.out.1 _ (Below.refl _ wr).drew).mono ?_
                rintro e w2' ⟨vf, rfl, hof, hBf⟩
                obtain ⟨fA, fc, hvf⟩ := hof.form
                rw [hvf] at hof ⊢
                have hBf : Below wr.heap.size wr w2' := (below_drewN (Below.refl _ wr) 1).trans hBf
                have hB02 : Below W0.heap.size W0 w2' := HK.out.2.trans (hBf.mono hz0)
                have hBo2 : Boxed w2' bo 29 vo := (hBf.block bo hBo.lt).trans hBo
                have hown2 := HP.out.2.2.2.2.1.below hB02 (Nat.le_refl _)
                have hc2 := hBo2.cell
                have hz2 := hB02.size
                have HZ2 := HZ.out
                have H3 := hide (And.intro hof (And.intro hBo2 (And.intro hown2 hB02)))
                clear hof hBf hBo2 hown2 hB02 hvf hct0 hBo
                have hfl := fanP_length ps
                rw [HF.out.2.2] at hfl
                obtain ⟨ys, hys⟩ : ∃ ys, ys = fanP ps := ⟨_, rfl⟩
                have H4 := hide hys
                rw [← hys] at H3 hfl ⊢
                obtain ⟨yl, hyl⟩ : ∃ yl, yl = ys.length := ⟨_, rfl⟩
                have hsf := (H3.out.1.sl encT_len8 (Nat.le_refl _))
                have H5 := hide (And.intro hyl hsf)
                rw [← hyl] at hfl ⊢
                clear hys hyl hsf
                go_wp2_with fail
                refine ⟨fun _ => hc2, ?_⟩
                refine wpMix_tail _ [_, _] (by kernel_rfl) rfl ?_
                simp only [List.getElem_toArray, List.getElem_cons_succ, List.getElem_cons_zero]
                refine wpList_appendS rfl _ _ _ rfl Try.underlying29 infoT8 rfl (by omega) encT_len8 encT_one8 rfl H3.out.2.2.1 fA fc w2'.heap.size ys (by rw [← H5.out.1]; rfl) H5.out.2 (by have := H5.out.1; unfold maxLen; omega) (by have := H5.out.1; omega) (by omega) ?_
                intro v' w4 hown4 hg4 hB4 hat4
                have hBo4 : Boxed w4 bo 29 vo := (hB4.block bo (by have := HBO.out; omega)).trans H3.out.2.1
                obtain ⟨A4, c4, rfl⟩ := hown4.form
                have hc4 := hBo4.cell
                have hf4 := hBo4.frozen
                have HV4 := hide (And.intro hown4 (And.intro hg4 (And.intro hB4 hBo4)))
                clear hown4 hg4 hB4 hBo4 hat4
                go_wp2_with fail
                have hz4 := HV4.out.2.2.1.size
                have hwo := HBO.out
                have hg1 : W0.grownBy w4 vo.ownBlock := (grow_of_below H3.out.2.2.2 _).trans HV4.out.2.1
                have hob : ∀ q, q < w2.heap.size + 2 → some q ≠ vo.ownBlock := fun q hq e => by
                  have := HP.out.2.2.2.2.1.blk q e.symm
                  omega
                have hset := grownBy_setCell' w4 bo (.slice A4 (to.length + ys.length) c4)
                refine ⟨⟨?_, ?_⟩, ?_, ?_⟩
                · rw [HD.out.2.2]
                  have hM := HQ.out.2.2.2.1
                  rw [HD.out.2.2] at hM
                  exact (hM.kept hg1 (hob _ (by omega)) (hob _ (by omega)) (hob _ (by omega))).kept hset (fun e => by injection e with e; omega) (fun e => by injection e with e; omega) (fun e => by injection e with e; omega)
                · rw [HD.out.2.1, ← hwo]
                  refine ⟨⟨_, to ++ ys, HV4.out.2.2.2.set _, ?_, ?_⟩, ?_, ?_, ?_⟩
                  · rw [List.length_append]
                    refine HV4.out.1.kept hset ?_
                    cases hob' : (Value.slice A4 (to.length + ys.length) c4).ownBlock with
                    | none => exact .inl rfl
                    | some g' =>
                      refine .inr (fun e => ?_)
                      injection e with e
                      have := HV4.out.1.blk g' hob'
                      omega
                  · rw [H4.out, HF.out.2.1]
                    exact HP.out.2.2.2.2.2.1.step HQ.out.2.1 HQ.out.2.2.1
                  · exact (HP.out.1.grown hg1 (hob _ (by have := HP.out.1.lt; omega))).grown hset (fun e => by injection e with e; omega)
                  · exact (HP.out.2.1.grown hg1 (hob _ (by have := HP.out.2.1.lt; omega))).grown hset (fun e => by injection e with e; omega)
                  · exact HP.out.2.2.2.2.2.2.trans ((H3.out.2.2.2.mono (by omega)).trans ((HV4.out.2.2.1.mono (by omega)).trans (grown_is_below hset (by omega) (by omega))))
                · refine (hset.block _ (by omega) (fun e => by injection e with e; omega)).trans (hg1.block _ (by omega) (hob _ (by omega)))
                · refine (hset.block _ (by omega) (fun e => by injection e with e; omega)).trans (hg1.block _ (by omega) (hob _ (by omega)))
end Go.Proofs.Ytfljcgehhnmamaa
