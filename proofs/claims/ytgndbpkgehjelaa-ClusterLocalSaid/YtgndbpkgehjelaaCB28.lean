/- Joined texts: Groups13 Finest13. -/
import Derived.Deep.CutBlock
import Derived.Deep.DeepCutAuto
import Derived.Test.YtgndbpkgehjelaaCB3
import Derived.Test.YtgndbpkgehjelaaCB7
import Derived.Test.YtgndbpkgehjelaaCB18
import Derived.Test.YtgndbpkgehjelaaCB19
import Derived.Test.YtgndbpkgehjelaaCB25
import Derived.Test.YtgndbpkgehjelaaCB26
import Derived.Test.YtgndbpkgehjelaaCB27
/- ref13.Groups. -/
namespace Go.Proofs.Ytgndbpkgehjelaa
open Go.RowKit Go.Sort
/-- What a round has: the points, the headers, the groups, the box of the new point. -/
def GSt (w W : World) (Ap Ao : Option Addr) (cp co bx : Nat) (K : List Pt) (G : List (List Nat)) (ss : List Hdr) (p : Pt) : Prop :=
  Own encP 3 23 W w.heap.size (.slice Ap K.length cp) K.length K ∧ Own encS 1 31 W w.heap.size (.slice Ao K.length co) K.length ss ∧ Elems encI 1 3 W w.heap.size ss G ∧ Blk W bx 23 #[.int .i64 p.1, .int .i64 p.2.1, .int .i64 p.2.2] ∧ Below w.heap.size w W
theorem GSt.drewN {w W : World} {Ap Ao : Option Addr} {cp co bx : Nat} {K : List Pt} {G : List (List Nat)} {ss : List Hdr} {p : Pt} (h : GSt w W Ap Ao cp co bx K G ss p) (n : Nat) : GSt w (W.drewN n) Ap Ao cp co bx K G ss p :=
  ⟨h.1, h.2.1, Elems.imp (w := W) (w' := W.drewN n) (base' := w.heap.size) (fun _ _ _ (ho : Own encI 1 3 W w.heap.size _ _ _) => (ho : Own encI 1 3 (W.drewN n) w.heap.size _ _ _)) h.2.2.1, h.2.2.2.1, below_drewN h.2.2.2.2 n⟩
theorem Own.lit1 {α : Type} {enc : α → List Value} {k : Nat} {e : TypeId} {w : World} {base : Nat} (hk : ∀ x, (enc x).length = k) (hb : base ≤ w.heap.size) (t : α) :
    Own enc k e (w.alloc (.cells (enc t).toArray e)) base (.slice (some ⟨w.heap.size, 0, none⟩) 1 1) 1 [t] :=
  ⟨rfl, by simpa using World.ownsRow_lit (e := e) (size := k) w (enc t).toArray 1 hb (by unfold maxLen; omega) (by simp [hk])⟩
theorem grownBy_setAt (W : World) (b i : Nat) (v : Value) : W.grownBy (W.setCell ⟨b, i, none⟩ v) (some b) :=
  ⟨rfl, rfl, rfl, (KeepsWalks.setCell W _ v).size, fun k _ hne => Below.heap_setCell W ⟨b, i, none⟩ v k (fun e => hne (by rw [e]))⟩
theorem keysO_zero {lt : Pt → Pt → Bool} {key : Nat → Pt} : keysO lt key (List.range 0) = [] := by simp [keysO, keysOf, sortO]
theorem groupsO_zero {lt : Pt → Pt → Bool} {key : Nat → Pt} : groupsO lt key (List.range 0) = [] := by simp [groupsO, keysO, keysOf, sortO]
set_option maxRecDepth 100000 in
set_option maxHeartbeats 8000000 in
theorem groups13_any (A : Option Addr) (c : Nat) (ls : List (List Tri)) (b : Int) (sh : Bool) (w : World) (hs : LstE encT 9 w w.heap.size A ls) (hl : ls.length ≤ 1048576) (hll : ∀ p ∈ ls, p.length ≤ 2147483648) (hft : ∀ p ∈ ls, ∀ t ∈ p, fitsT t) :
    Calls Try.prog 27 #[.slice A ls.length c, .int .i64 b, .bool sh] w fun e w' => ∃ v, e = .returned v ∧ PcsD encI 1 3 31 w' w.heap.size v (groupsL ls b sh) ∧ Below w.heap.size w w' := by
  obtain ⟨key, hkey⟩ : ∃ key, key = keyL ls b sh := ⟨_, rfl⟩
  have H := hide (And.intro hs (And.intro hll (And.intro hft hkey)))
  clear hs hll hft hkey
  go_enter Try.func27, Try.ntmps27
  go_wp2
  go_loopw [7, 8, 9] (fun pv ov i wr => ∃ k : Nat, k ≤ ls.length ∧ i = .int .i64 k ∧ Own encP 3 23 wr w.heap.size pv (keysO ltP key (List.range k)).length (keysO ltP key (List.range k)) ∧ PcsD encI 1 3 31 wr w.heap.size ov (groupsO ltP key (List.range k)) ∧ Below w.heap.size w wr) (fun _ _ i _ => ls.length - (intOf i).toNat)
  case atStart => exact ⟨0, Nat.zero_le _, rfl, by rw [keysO_zero]; exact Own.nil, by rw [groupsO_zero]; exact PcsD.nil, Below.refl _ w⟩
  case round =>
    obtain ⟨k, hk, rfl, hK0, hG0, hB⟩ := hrel
    obtain ⟨K, hK⟩ : ∃ K, K = keysO ltP key (List.range k) := ⟨_, rfl⟩
    obtain ⟨G, hG⟩ : ∃ G, G = groupsO ltP key (List.range k) := ⟨_, rfl⟩
    rw [← hK] at hK0
    rw [← hG] at hG0
    obtain ⟨Ap, cp, rfl⟩ := hK0.form
    obtain ⟨Ao, co, rfl⟩ := hG0.form
    have hszB := hB.size
    by_cases hlt : k < ls.length
    · obtain ⟨l, hlk⟩ : ∃ l, ls[k]? = some l := ⟨_, List.getElem?_eq_getElem hlt⟩
      obtain ⟨bb, o, A', c', hA, hbb, hcell, hsl⟩ := (H.out.1.below hB).at hlk
      subst hA
      obtain ⟨p, hp⟩ : ∃ p, p = key k := ⟨_, rfl⟩
      have hpb : p = blockP l b sh := by rw [hp, H.out.2.2.2]; simp [keyL, List.getD, hlk]
      have hml := List.mem_of_getElem? hlk
      have hfl := H.out.2.2.1 l hml
      have hfp : fitsP p := by rw [hpb]; exact fitsP_block hfl _ _
      have hKlen : K.length ≤ k := by rw [hK]; have := keysO_length (lt := ltP) (key := key) (xs := List.range k); simpa using this
      have hGlen : G.length = K.length := by rw [hG, hK]; exact groupsO_length
      have hKf : ∀ q ∈ K, fitsP q := by
        intro q hq
        rw [hK] at hq
        obtain ⟨j, hj, rfl⟩ := mem_keysOf key |>.1 (keysO_mem.1 hq)
        rw [H.out.2.2.2]
        refine fitsP_block (fun t ht => ?_) _ _
        simp only [List.getD] at ht
        cases hlj : ls[j]? with
        | none => rw [hlj] at ht; simp at ht
        | some u => rw [hlj] at ht; exact H.out.2.2.1 u (List.mem_of_getElem? hlj) t ht
      have hcal := Block13_any A' c' l b sh wr (hsl.more hszB) (by have := H.out.2.1 l hml; omega) (fitsP_anc hfl)
      rw [← hpb] at hcal
      have i1 : (k : Int) < (ls.length : Int) := by omega
      have HP := hide (And.intro hp (And.intro hfp (And.intro hKf hcal)))
      have HK := hide (And.intro hK (And.intro hG (And.intro hK0 (And.intro hG0 hB))))
      clear hp hpb hml hfl hfp hKf hcal hK hG hK0 hG0 hB hlk hsl
      go_wp2_with fail
      refine HP.out.2.2.2.mono ?_
      rintro e w1 ⟨rfl, hB1⟩
      have HB1 := hide hB1
      clear hB1 hcell
      have hz1 : wr.heap.size ≤ w1.heap.size := HB1.out.size
      obtain ⟨W2, hW2⟩ : ∃ W2, W2 = w1.alloc (.cells #[.int .i64 p.1, .int .i64 p.2.1, .int .i64 p.2.2] 23) := ⟨_, rfl⟩
      have hB2 : Below wr.heap.size wr W2 := by rw [hW2]; exact HB1.out.alloc hz1 _
      have HBX := hide (show Blk W2 w1.heap.size 23 #[.int .i64 p.1, .int .i64 p.2.1, .int .i64 p.2.2] by rw [hW2]; exact Blk.new _ _ _)
      have HK2 := hide (And.intro (HK.out.2.2.1.below hB2 (Nat.le_refl _)) (And.intro (HK.out.2.2.2.1.below hB2 (Nat.le_refl _)) (HK.out.2.2.2.2.trans (hB2.mono hszB))))
      have HW2 := hide hW2
      clear hB2 hW2
      go_upto_block 2 with fail
      rw [← HW2.out]
      have hsK : Sl encP 3 W2 W2.heap.size Ap K := HK2.out.1.sl encP_len (Nat.le_refl _)
      have HS := hide hsK
      clear hsK
      go_cut [11] (fun a wx => ∃ a' : Nat, a = .int .i64 a' ∧ a' ≤ K.length ∧ (∀ j q, j < a' → K[j]? = some q → ltP q p = true) ∧ (∀ q, K[a']? = some q → ltP q p = false) ∧ RB W2 wx)
      case first =>
        go_wp2_with fail
        go_loopw [11] (fun a wx => ∃ a' : Nat, a = .int .i64 a' ∧ a' ≤ K.length ∧ (∀ j q, j < a' → K[j]? = some q → ltP q p = true) ∧ RB W2 wx) (fun a _ => K.length - (intOf a).toNat)
        case atStart => exact ⟨0, rfl, Nat.zero_le _, fun j q h => absurd h (by omega), RB.refl _⟩
        case round =>
          obtain ⟨a, rfl, ha, hlo, hR⟩ := hrel
          have hbx := HBX.out.below hR HBX.out.lt
          have hszR := hR.size
          by_cases hla : a < K.length
          · obtain ⟨q, hq⟩ : ∃ q, K[a]? = some q := ⟨_, List.getElem?_eq_getElem hla⟩
            obtain ⟨bp, op, hAp, hbp, hcq⟩ := (HS.out.below hR).at hq
            subst hAp
            have k0 := hcq 0 _ rfl
            have k1 := hcq 1 _ rfl
            have k2 := hcq 2 _ rfl
            have x0 := hbx.cell 0
            have x1 := hbx.cell 1
            have x2 := hbx.cell 2
            simp only [List.getElem?_toArray, List.getElem?_cons_zero, List.getElem?_cons_succ, Nat.add_zero] at x0 x1 x2 k0 k1 k2
            have hbpR : bp < wr.heap.size := by omega
            have hbxR := hbx.lt
            have i2 : (a : Int) < (K.length : Int) := by omega
            have HL := hide (And.intro hlo (And.intro hR hq))
            clear hlo hR hq hcq hbx
            cases hless : ltP q p
            · have HLS := hide hless
              go_wp2_with fail
              go_region_held3 (fun w' => w'.cell? ⟨bp, op + a * 3, none⟩ = some (.int .i64 q.1) ∧ w'.cell? ⟨bp, op + a * 3 + 1, none⟩ = some (.int .i64 q.2.1) ∧ w'.cell? ⟨bp, op + a * 3 + 2, none⟩ = some (.int .i64 q.2.2) ∧ w'.cell? ⟨w1.heap.size, 0, none⟩ = some (.int .i64 p.1) ∧ w'.cell? ⟨w1.heap.size, 1, none⟩ = some (.int .i64 p.2.1) ∧ w'.cell? ⟨w1.heap.size, 2, none⟩ = some (.int .i64 p.2.2)) (first | go_keep | exact ⟨cell_lay hL k0, cell_lay hL k1, cell_lay hL k2, cell_lay hL x0, cell_lay hL x1, cell_lay hL x2⟩) ((go_at_call 44; refine (rless_any q p _).mono ?_; rintro e w3 ⟨rfl, hL⟩; rw [hless]))
              go_wp2_with fail
              go_meet
              case rel =>
                refine ⟨a, rfl, ha, HL.out.1, fun q' hq' => ?_, HL.out.2.1.trans _ _ _ ((below_drew wr).trans hL.below)⟩
                rw [HL.out.2.2] at hq'
                cases hq'
                exact HLS.out
            · have HLS := hide hless
              go_wp2_with fail
              go_region_held3 (fun w' => w'.cell? ⟨bp, op + a * 3, none⟩ = some (.int .i64 q.1) ∧ w'.cell? ⟨bp, op + a * 3 + 1, none⟩ = some (.int .i64 q.2.1) ∧ w'.cell? ⟨bp, op + a * 3 + 2, none⟩ = some (.int .i64 q.2.2) ∧ w'.cell? ⟨w1.heap.size, 0, none⟩ = some (.int .i64 p.1) ∧ w'.cell? ⟨w1.heap.size, 1, none⟩ = some (.int .i64 p.2.1) ∧ w'.cell? ⟨w1.heap.size, 2, none⟩ = some (.int .i64 p.2.2)) (first | go_keep | exact ⟨cell_lay hL k0, cell_lay hL k1, cell_lay hL k2, cell_lay hL x0, cell_lay hL x1, cell_lay hL x2⟩) ((go_at_call 44; refine (rless_any q p _).mono ?_; rintro e w3 ⟨rfl, hL⟩; rw [hless]))
              go_wp2_with fail
              go_roundw
              case rel =>
                refine ⟨a + 1, by go_num, by omega, fun j q' hj hq' => ?_, HL.out.2.1.trans _ _ _ ((below_drew wr).trans hL.below)⟩
                rcases Nat.lt_or_ge j a with h | h
                · exact HL.out.1 j q' h hq'
                · have hja : j = a := by omega
                  subst hja
                  rw [HL.out.2.2] at hq'
                  cases hq'
                  exact HLS.out
              case measure => simp [intOf]; omega
          · have hae : a = K.length := by omega
            have HL := hide (And.intro hlo (And.intro hR hae))
            clear hlo hR hbx hae
            go_wp2_with fail
            go_meet
            case rel => exact ⟨a, rfl, ha, HL.out.1, (fun q' hq' => by rw [HL.out.2.2, List.getElem?_eq_none (Nat.le_refl _)] at hq'; cases hq'), HL.out.2.1⟩
      case rest =>
        obtain ⟨a, rfl, ha, hlo, hhi, hRc⟩ := hcut
        obtain ⟨ss, hso, hel, hap⟩ := HK2.out.2.1.below hRc (Nat.le_refl _)
        have hssl : ss.length = K.length := by rw [hel.len, hGlen]
        rw [hGlen] at hso
        have HGc := hide (show GSt w wc Ap Ao cp co w1.heap.size K G ss p from ⟨HK2.out.1.below hRc (Nat.le_refl _), hso, hel, HBX.out.below hRc HBX.out.lt, HK2.out.2.2.trans (hRc.mono (HK2.out.2.2.size))⟩)
        have HAP := hide hap
        have hKe := HK.out.1
        have hGe := HK.out.2.1
        clear hso hel hap hRc
        by_cases hla : a < K.length
        · obtain ⟨q, hq⟩ : ∃ q, K[a]? = some q := ⟨_, List.getElem?_eq_getElem hla⟩
          have hfq := HP.out.2.2.1 q (List.mem_of_getElem? hq)
          obtain ⟨bp, op, hAp, hbp, hcq⟩ := (HGc.out.1.sl encP_len (Nat.le_refl _)).at hq
          subst hAp
          have k0 := hcq 0 _ rfl
          have k1 := hcq 1 _ rfl
          have k2 := hcq 2 _ rfl
          have x0 := HGc.out.2.2.2.1.cell 0
          have x1 := HGc.out.2.2.2.1.cell 1
          have x2 := HGc.out.2.2.2.1.cell 2
          simp only [List.getElem?_toArray, List.getElem?_cons_zero, List.getElem?_cons_succ, Nat.add_zero] at x0 x1 x2 k0 k1 k2
          have i2 : (a : Int) < (K.length : Int) := by omega
          have hd : decide (a < K.length) = true := decide_eq_true hla
          have heq := eqP q p hfq HP.out.2.1
          have HL := hide (And.intro hlo (And.intro hhi (And.intro hKe (And.intro hGe (And.intro hssl hq)))))
          clear hlo hhi hKe hGe hssl hfq hcq hq
          by_cases hqp : q = p
          · have hdq : decide (q = p) = true := decide_eq_true hqp
            rw [hdq] at heq
            have HQ := hide hqp
            clear hqp hdq
            go_wp2_with fail
            go_quiet (fail)
            have HG3 := hide (HGc.out.drewN nq)
            obtain ⟨W3, hW3⟩ : ∃ W3, W3 = wc.drewN nq := ⟨_, rfl⟩
            rw [← hW3] at HG3 ⊢
            clear hW3 k0 k1 k2 x0 x1 x2
            have hq := HL.out.2.2.2.2.2
            have hgl : a < G.length := by omega
            obtain ⟨g, hg⟩ : ∃ g, G[a]? = some g := ⟨_, List.getElem?_eq_getElem hgl⟩
            have hqp : K[a]? = some p := by rw [hq, HQ.out]
            have hpk := HP.out.1
            have hKe := HL.out.2.2.1
            have hGe := HL.out.2.2.2.1
            have hka : (keysO ltP key (List.range k))[a]? = some (key k) := by rw [← hKe, ← hpk]; exact hqp
            have hKn : keysO ltP key (List.range (k + 1)) = K := by
              rw [List.range_succ, keysO_found (List.mem_of_getElem? hka), hKe]
            have hgg : g = grp key (List.range k) (key k) := by
              have h1 : G[a]? = ((keysO ltP key (List.range k)).map (grp key (List.range k)))[a]? := by rw [hGe]; rfl
              rw [List.getElem?_map, hka, hg] at h1
              exact Option.some.inj h1
            have hGn : groupsO ltP key (List.range (k + 1)) = G.set a (g ++ [k]) := by
              rw [List.range_succ, groupsO_found hka, hGe, hgg]
            have hgk : g.length ≤ k := by rw [hgg]; have := grp_length key (List.range k) (key k); simpa using this
            obtain ⟨A5, c5, hs5, ho5⟩ := HG3.out.2.2.1.at hg
            have hne : ss ≠ [] := fun e => by rw [e] at hs5; simp at hs5
            obtain ⟨go, cap0, hv, hgo1, hgo2⟩ := HG3.out.2.1.at hne
            obtain rfl : Ao = some ⟨go, 0, none⟩ := by injection hv
            obtain ⟨b9, o9, hA9, _, hc9⟩ := (HG3.out.2.1.sl encS_len (Nat.le_refl _)).at hs5
            cases hA9
            have c0 : W3.cell? ⟨go, a, none⟩ = some (.slice A5 g.length c5) := by
              have := hc9 0 _ rfl
              simpa using this
            have hown0 := ho5.alloc (.cells #[.int .i64 k] 3)
            have hso0 := HG3.out.2.1.alloc (.cells #[.int .i64 k] 3)
            have hW3 := HG3.out.2.2.2.2.size
            have HF := hide (And.intro hKn (And.intro hGn (And.intro hs5 (And.intro ho5 (And.intro hg hgk)))))
            clear hq hg hqp hpk hKe hGe hka hKn hgg hGn hs5 ho5 hne hv hc9
            go_wp2_with (at_builtin; refine wpList_append1 rfl _ _ _ rfl Try.underlying31 infoI rfl (by omega) encI_len encI_one rfl hown0 W3.heap.size 1 k rfl (Blk.new _ _ _) (by unfold maxLen; omega) (by omega) (by simp; omega) ?_; intro g5 cap5 w5 hown5 hg5 hB5 hat5 hgb5 hlt5; have hso5 := hso0.step hg5 (own_rowT hown0 (by decide)); obtain ⟨b9, o9, hA9, _, hc9⟩ := (hso5.sl encS_len (Nat.le_refl _)).at HF.out.2.2.1; cases hA9; have c1 := hc9 0 _ rfl; simp only [Nat.mul_one, Nat.zero_add, Nat.add_zero] at c1; obtain ⟨cs9, hcs9⟩ := hso5.cells go rfl; have f1 := Blk.frozen hcs9 a; clear hc9)
            go_roundw
            case rel =>
              have hg5' : (W3.alloc (.cells #[.int .i64 k] 3)).grownBy w5 (Value.slice A5 g.length c5).ownBlock := hg5
              have hE0 := HG3.out.2.2.1.alloc (.cells #[.int .i64 k] 3)
              have hE5 := Elems.grow_at (t := (some ⟨g5, 0, none⟩, g.length + 1, cap5)) (q := g ++ [k]) hg5' hE0 HAP.out HF.out.2.2.1 rfl (by simp) (by rw [List.length_append]; exact hown5)
              have hset := grownBy_setAt w5 go a (.slice (some ⟨g5, 0, none⟩) (g.length + 1) cap5)
              have hK5 := (HG3.out.1.alloc (.cells #[.int .i64 k] 3)).step hg5' (own_rowT hown0 (by decide))
              have hsl : a < ss.length := (List.getElem?_eq_some_iff.1 HF.out.2.2.1).1
              refine ⟨k + 1, by omega, by go_num, ?_, ?_, ((HG3.out.2.2.2.2.alloc hW3 _).trans hB5).setCell hgo1 _⟩
              · rw [HF.out.1]
                exact hK5.step hset (fun r e => .inr fun cs' hc' => by cases e; rw [hcs9] at hc'; exact absurd hc' (by intro h; injection h with h; injection h with _ h; exact absurd h (by decide)))
              · rw [HF.out.2.1]
                refine ⟨ss.set a (some ⟨g5, 0, none⟩, g.length + 1, cap5), ?_, hE5.step hset (fun r e => .inr fun cs' hc' => by cases e; rw [hcs9] at hc'; exact absurd hc' (by intro h; injection h with h; injection h with _ h; exact absurd h (by decide))), apart_set HAP.out HF.out.2.2.1 (fun gg hgg => ?_)⟩
                · have := hso5.setS (s := (some ⟨g5, 0, none⟩, g.length + 1, cap5)) hsl
                  rw [List.length_set, hGlen]
                  exact this
                · cases hgg
                  rcases hat5 with h | h
                  · exact .inl h
                  · exact .inr (HG3.out.2.2.1.away (by rw [h]; simp))
            case measure => simp [intOf]; omega
          · have hdq : decide (q = p) = false := decide_eq_false hqp
            rw [hdq] at heq
            have HQ := hide hqp
            clear hqp hdq
            go_wp2_with fail
            go_quiet (fail)
            have HG3 := hide (HGc.out.drewN nq)
            obtain ⟨W3, hW3⟩ : ∃ W3, W3 = wc.drewN nq := ⟨_, rfl⟩
            rw [← hW3] at HG3 ⊢
            clear hW3 k0 k1 k2 x0 x1 x2 heq hd
            have hq := HL.out.2.2.2.2.2
            have hlo := HL.out.1
            have hhi := HL.out.2.1
            have hKe := HL.out.2.2.1
            have hGe := HL.out.2.2.2.1
            have hssl := HL.out.2.2.2.2.1
            have hsort : K.Pairwise (fun a b => leO ltP a b = true) := by rw [hKe]; exact tot_P.sorted _
            have hni : p ∉ K := tot_P.notin (i := a) hsort hlo (fun x hx => ⟨hhi x hx, fun e => HQ.out (by rw [hq] at hx; cases hx; exact e)⟩)
            have hpk := HP.out.1
            have hKn : keysO ltP key (List.range (k + 1)) = K.take a ++ p :: K.drop a := by
              have h0 := keysO_new (key := key) (xs := List.range k) (x := k) (i := a) tot_P (by rw [← hKe, ← hpk]; exact hni) (by rw [← hKe, ← hpk]; exact hlo) (by rw [← hKe, ← hpk]; exact hhi)
              rw [List.range_succ, h0, ← hKe, ← hpk]
            have hGn : groupsO ltP key (List.range (k + 1)) = G.take a ++ [k] :: G.drop a := by
              have h0 := groupsO_new (key := key) (xs := List.range k) (x := k) (i := a) tot_P (by rw [← hKe, ← hpk]; exact hni) (by rw [← hKe, ← hpk]; exact hlo) (by rw [← hKe, ← hpk]; exact hhi)
              rw [List.range_succ, h0, ← hGe]
            have hlt1 : (K.take a).length = a := by rw [List.length_take]; omega
            have hls1 : (ss.take a).length = a := by rw [List.length_take]; omega
            have hld1 : (K.drop a).length = K.length - a := by rw [List.length_drop]
            have hlds : (ss.drop a).length = K.length - a := by rw [List.length_drop, hssl]
            have hslc := HG3.out.1.sl encP_len (Nat.le_refl W3.heap.size)
            have hsoc := HG3.out.2.1.sl encS_len (Nat.le_refl W3.heap.size)
            have hcp := HG3.out.1.place.1
            have hco := HG3.out.2.1.place.1
            have hsT : Sl encP 3 W3 W3.heap.size (some ⟨bp, op, none⟩) (K.take a) := hslc.take a
            have hsD : Sl encP 3 W3 W3.heap.size (cutA (some ⟨bp, op, none⟩) cp a 3) (K.drop a) := hslc.cut ha hcp
            have hsT2 : Sl encS 1 W3 W3.heap.size Ao (ss.take a) := hsoc.take a
            have hsD2 : Sl encS 1 W3 W3.heap.size (cutA Ao co a 1) (ss.drop a) := hsoc.cut (by omega) (by omega)
            have r1 : ∀ V : World, (Instr.slice 72 (.slice (some ⟨bp, op, none⟩) K.length cp) none (some (.int .i64 a)) none).run Try.prog V = .ok (.slice (some ⟨bp, op, none⟩) a cp) V := fun V => run_cutH Try.underlying72 Try.sizeOf23 ha hcp V
            have r2 : ∀ V : World, (Instr.slice 72 (.slice (some ⟨bp, op, none⟩) K.length cp) (some (.int .i64 a)) none none).run Try.prog V = .ok (.slice (cutA (some ⟨bp, op, none⟩) cp a 3) (K.length - a) (cp - a)) V := fun V => run_cut Try.underlying72 Try.sizeOf23 ha V
            have r3 : ∀ V : World, (Instr.slice 45 (.slice Ao K.length co) none (some (.int .i64 a)) none).run Try.prog V = .ok (.slice Ao a co) V := fun V => run_cutH Try.underlying45 Try.sizeOf31 ha hco V
            have r4 : ∀ V : World, (Instr.slice 45 (.slice Ao K.length co) (some (.int .i64 a)) none none).run Try.prog V = .ok (.slice (cutA Ao co a 1) (K.length - a) (co - a)) V := fun V => run_cut Try.underlying45 Try.sizeOf31 ha V
            have hbd : a ≤ 1048576 ∧ K.length ≤ 1048576 := by omega
            have HT := hide (And.intro hsT (And.intro hsD (And.intro hsT2 (And.intro hsD2 (And.intro hlt1 (And.intro hls1 (And.intro hld1 (And.intro hlds (And.intro hKn (And.intro hGn (And.intro hbd ha)))))))))))
            have x0 := HG3.out.2.2.2.1.cell 0
            have x1 := HG3.out.2.2.2.1.cell 1
            have x2 := HG3.out.2.2.2.1.cell 2
            have hbl := HG3.out.2.2.2.1.lt
            simp only [List.getElem?_toArray, List.getElem?_cons_zero, List.getElem?_cons_succ] at x0 x1 x2
            have HX := hide (And.intro x0 (And.intro x1 (And.intro x2 hbl)))
            clear hsort hni hpk hKn hGn hlt1 hls1 hld1 hlds hslc hsoc hcp hco hsT hsD hsT2 hsD2 hbd x0 x1 x2 hbl hlo hhi hKe hGe hssl hla hq
            go_wp2_with (first
              | (at_builtin; refine wpList_appendS rfl _ _ _ rfl Try.underlying45 infoLI rfl (by omega) encS_len encS_one rfl hown6 (cutA Ao co a 1) (co - a) W3.heap.size (ss.drop a) (by rw [HT.out.2.2.2.2.2.2.2.1]; rfl) (HT.out.2.2.2.1.below hbb6) (by have := HT.out.2.2.2.2.2.2.2.1; have := HT.out.2.2.2.2.2.2.2.2.2.2.1; unfold maxLen; omega) (by have := HT.out.2.2.2.2.2.2.2.1; have := HT.out.2.2.2.2.2.2.2.2.2.2.1; omega) hbb6.size ?_; intro v7 w7 hown7 hg7 hB7 hat7)
              | (at_builtin; refine wpList_append1 rfl _ _ _ rfl Try.underlying45 infoLI rfl (by omega) encS_len encS_one rfl hown5 (w5.heap.size + 1) 1 (some ⟨w5.heap.size, 0, none⟩, 1, 1) rfl (Blk.new' _ _ _ _ (by simp)) (by have := HT.out.2.2.2.2.2.2.2.2.2.2.1; unfold maxLen; omega) (by have := HT.out.2.2.2.2.2.2.2.2.2.2.1; omega) (by have := hbb5.size; simp; omega) ?_; intro g6 cap6 w6 hown6 hg6 hB6 hat6 hgb6 hlt6; have hbb6 : Below W3.heap.size W3 w6 := ((hbb5.alloc hbb5.size _).alloc (by have := hbb5.size; simp; omega) _).trans hB6)
              | (at_builtin; refine wpList_appendS rfl _ _ _ rfl Try.underlying45 infoLI rfl (by omega) encS_len encS_one rfl (Own.nil (base := W3.heap.size)) Ao co W3.heap.size (ss.take a) (by rw [HT.out.2.2.2.2.2.1]; rfl) (HT.out.2.2.1.below hbb4) (by have := HT.out.2.2.2.2.2.1; have := HT.out.2.2.2.2.2.2.2.2.2.2.1; unfold maxLen; omega) (by have := HT.out.2.2.2.2.2.1; have := HT.out.2.2.2.2.2.2.2.2.2.2.1; omega) hbb4.size ?_; intro v5 w5 hown5 hg5 hB5 hat5; rw [Nat.zero_add, HT.out.2.2.2.2.2.1, List.nil_append] at hown5; obtain ⟨A5, c5, rfl⟩ := hown5.form; have hbb5 : Below W3.heap.size W3 w5 := hbb4.trans hB5; have hown5 := (hown5.alloc (.cells #[.int .i64 k] 3)).alloc (.cells #[.slice (some ⟨w5.heap.size, 0, none⟩) 1 1] 31); have hown4 := hown4.step hg5 (fun r e => by cases e))
              | (at_builtin; refine wpList_appendS rfl _ _ _ rfl Try.underlying72 infoP rfl (by omega) encP_len encP_one rfl hown3 (cutA (some ⟨bp, op, none⟩) cp a 3) (cp - a) W3.heap.size (K.drop a) (by rw [HT.out.2.2.2.2.2.2.1]; rfl) (HT.out.2.1.below hbb3) (by have := HT.out.2.2.2.2.2.2.1; have := HT.out.2.2.2.2.2.2.2.2.2.2.1; unfold maxLen; omega) (by have := HT.out.2.2.2.2.2.2.1; have := HT.out.2.2.2.2.2.2.2.2.2.2.1; omega) hbb3.size ?_; intro v4 w4 hown4 hg4 hB4 hat4; have hbb4 : Below W3.heap.size W3 w4 := hbb3.trans hB4)
              | (at_builtin; refine wpList_append1 rfl _ _ _ rfl Try.underlying72 infoP rfl (by omega) encP_len encP_one rfl hown2 w2.heap.size 1 p rfl (Blk.new _ _ _) (by have := HT.out.2.2.2.2.2.2.2.2.2.2.1; unfold maxLen; omega) (by have := HT.out.2.2.2.2.2.2.2.2.2.2.1; omega) (by have := hbb2.size; simp; omega) ?_; intro g3 cap3 w3 hown3 hg3 hB3 hat3 hgb3 hlt3; have hbb3 : Below W3.heap.size W3 w3 := (hbb2.alloc hbb2.size _).trans hB3)
              | (at_builtin; refine wpList_appendS rfl _ _ _ rfl Try.underlying72 infoP rfl (by omega) encP_len encP_one rfl (Own.nil (base := W3.heap.size)) (some ⟨bp, op, none⟩) cp W3.heap.size (K.take a) (by rw [HT.out.2.2.2.2.1]; rfl) HT.out.1 (by have := HT.out.2.2.2.2.1; have := HT.out.2.2.2.2.2.2.2.2.2.2.1; unfold maxLen; omega) (by have := HT.out.2.2.2.2.1; have := HT.out.2.2.2.2.2.2.2.2.2.2.1; omega) (Nat.le_refl _) ?_; intro v2 w2 hown2 hg2 hB2 hat2; rw [Nat.zero_add, HT.out.2.2.2.2.1, List.nil_append] at hown2; obtain ⟨A2, c2, rfl⟩ := hown2.form; have hbb2 : Below W3.heap.size W3 w2 := hB2; have hown2 := hown2.alloc (.cells (encP p).toArray 23); have x0 := (hB2.cell (p := ⟨w1.heap.size, _, none⟩) HX.out.2.2.2).trans HX.out.1; have x1 := (hB2.cell (p := ⟨w1.heap.size, _, none⟩) HX.out.2.2.2).trans HX.out.2.1; have x2 := (hB2.cell (p := ⟨w1.heap.size, _, none⟩) HX.out.2.2.2).trans HX.out.2.2.1))
            go_roundw
            case rel =>
              have hz5 := hbb5.size
              have hg6' : ((w5.alloc (.cells #[.int .i64 k] 3)).alloc (.cells #[.slice (some ⟨w5.heap.size, 0, none⟩) 1 1] 31)).grownBy w6 (Value.slice A5 a c5).ownBlock := hg6
              have hP6 := ((hown4.alloc (.cells #[.int .i64 k] 3)).alloc (.cells #[.slice (some ⟨w5.heap.size, 0, none⟩) 1 1] 31)).step hg6' (own_rowT hown5 (by decide))
              have hP7 := hP6.step hg7 (own_rowT hown6 (by decide))
              have hI5 : Own encI 1 3 ((w5.alloc (.cells #[.int .i64 k] 3)).alloc (.cells #[.slice (some ⟨w5.heap.size, 0, none⟩) 1 1] 31)) W3.heap.size (.slice (some ⟨w5.heap.size, 0, none⟩) 1 1) 1 [k] := (Own.lit1 encI_len hz5 k).alloc _
              have hI7 := (hI5.step hg6' (own_rowT hown5 (by decide))).step hg7 (own_rowT hown6 (by decide))
              have hB37 : Below W3.heap.size W3 w7 := hbb6.trans hB7
              have hW3 := HG3.out.2.2.2.2.size
              have hE7 : Elems encI 1 3 w7 w.heap.size ss G := HG3.out.2.2.1.imp (fun _ _ _ h => h.below hB37 (Nat.le_refl _))
              have haway : Away w5.heap.size ss := HG3.out.2.2.1.away hz5
              refine ⟨k + 1, by omega, by go_num, ?_, ?_, HG3.out.2.2.2.2.trans (hB37.mono hW3)⟩
              · rw [HT.out.2.2.2.2.2.2.2.2.1]
                have e1 : (K.take a ++ p :: K.drop a) = (K.take a ++ [p]) ++ K.drop a := by simp
                rw [e1]
                have e2 : ((K.take a ++ [p]) ++ K.drop a).length = a + 1 + (K.drop a).length := by rw [List.length_append, List.length_append, HT.out.2.2.2.2.1]; rfl
                rw [e2]
                exact hP7.base_le hW3
              · rw [HT.out.2.2.2.2.2.2.2.2.2.1]
                refine ⟨ss.take a ++ (some ⟨w5.heap.size, 0, none⟩, 1, 1) :: ss.drop a, ?_, Elems.append (hE7.take a) ⟨⟨rfl, hI7.base_le hW3⟩, hE7.drop a⟩, apart_insert HAP.out (fun g hg => by cases hg; exact haway)⟩
                have e1 : (ss.take a ++ (some ⟨w5.heap.size, 0, none⟩, 1, 1) :: ss.drop a) = (ss.take a ++ [(some ⟨w5.heap.size, 0, none⟩, 1, 1)]) ++ ss.drop a := by simp
                rw [e1]
                have e2 : (G.take a ++ [k] :: G.drop a).length = a + 1 + (ss.drop a).length := by
                  have hh := HT.out.2.2.2.2.2.2.2.1
                  have ha := HT.out.2.2.2.2.2.2.2.2.2.2.2
                  rw [List.length_append, List.length_cons, List.length_take, List.length_drop, hGlen]
                  omega
                rw [e2]
                exact hown7.base_le hW3
            case measure => simp [intOf]; omega
        · have hd : decide (a < K.length) = false := decide_eq_false hla
          have HL := hide (And.intro hlo (And.intro hhi (And.intro hKe (And.intro hGe (And.intro hssl hla)))))
          clear hlo hhi hKe hGe hssl
          go_wp2_with fail
          go_quiet (fail)
          have HG3 := hide (HGc.out.drewN nq)
          obtain ⟨W3, hW3⟩ : ∃ W3, W3 = wc.drewN nq := ⟨_, rfl⟩
          rw [← hW3] at HG3 ⊢
          clear hW3 hd
          have hlo := HL.out.1
          have hhi := HL.out.2.1
          have hKe := HL.out.2.2.1
          have hGe := HL.out.2.2.2.1
          have hssl := HL.out.2.2.2.2.1
          have hsort : K.Pairwise (fun a b => leO ltP a b = true) := by rw [hKe]; exact tot_P.sorted _
          have hni : p ∉ K := tot_P.notin (i := a) hsort hlo (fun x hx => ⟨hhi x hx, fun _ => by rw [List.getElem?_eq_none (by omega)] at hx; cases hx⟩)
          have hpk := HP.out.1
          have hKn : keysO ltP key (List.range (k + 1)) = K.take a ++ p :: K.drop a := by
            have h0 := keysO_new (key := key) (xs := List.range k) (x := k) (i := a) tot_P (by rw [← hKe, ← hpk]; exact hni) (by rw [← hKe, ← hpk]; exact hlo) (by rw [← hKe, ← hpk]; exact hhi)
            rw [List.range_succ, h0, ← hKe, ← hpk]
          have hGn : groupsO ltP key (List.range (k + 1)) = G.take a ++ [k] :: G.drop a := by
            have h0 := groupsO_new (key := key) (xs := List.range k) (x := k) (i := a) tot_P (by rw [← hKe, ← hpk]; exact hni) (by rw [← hKe, ← hpk]; exact hlo) (by rw [← hKe, ← hpk]; exact hhi)
            rw [List.range_succ, h0, ← hGe]
          have hlt1 : (K.take a).length = a := by rw [List.length_take]; omega
          have hls1 : (ss.take a).length = a := by rw [List.length_take]; omega
          have hld1 : (K.drop a).length = K.length - a := by rw [List.length_drop]
          have hlds : (ss.drop a).length = K.length - a := by rw [List.length_drop, hssl]
          have hslc := HG3.out.1.sl encP_len (Nat.le_refl W3.heap.size)
          have hsoc := HG3.out.2.1.sl encS_len (Nat.le_refl W3.heap.size)
          have hcp := HG3.out.1.place.1
          have hco := HG3.out.2.1.place.1
          have hsT : Sl encP 3 W3 W3.heap.size Ap (K.take a) := hslc.take a
          have hsD : Sl encP 3 W3 W3.heap.size (cutA Ap cp a 3) (K.drop a) := hslc.cut ha hcp
          have hsT2 : Sl encS 1 W3 W3.heap.size Ao (ss.take a) := hsoc.take a
          have hsD2 : Sl encS 1 W3 W3.heap.size (cutA Ao co a 1) (ss.drop a) := hsoc.cut (by omega) (by omega)
          have r1 : ∀ V : World, (Instr.slice 72 (.slice Ap K.length cp) none (some (.int .i64 a)) none).run Try.prog V = .ok (.slice Ap a cp) V := fun V => run_cutH Try.underlying72 Try.sizeOf23 ha hcp V
          have r2 : ∀ V : World, (Instr.slice 72 (.slice Ap K.length cp) (some (.int .i64 a)) none none).run Try.prog V = .ok (.slice (cutA Ap cp a 3) (K.length - a) (cp - a)) V := fun V => run_cut Try.underlying72 Try.sizeOf23 ha V
          have r3 : ∀ V : World, (Instr.slice 45 (.slice Ao K.length co) none (some (.int .i64 a)) none).run Try.prog V = .ok (.slice Ao a co) V := fun V => run_cutH Try.underlying45 Try.sizeOf31 ha hco V
          have r4 : ∀ V : World, (Instr.slice 45 (.slice Ao K.length co) (some (.int .i64 a)) none none).run Try.prog V = .ok (.slice (cutA Ao co a 1) (K.length - a) (co - a)) V := fun V => run_cut Try.underlying45 Try.sizeOf31 ha V
          have hbd : a ≤ 1048576 ∧ K.length ≤ 1048576 := by omega
          have HT := hide (And.intro hsT (And.intro hsD (And.intro hsT2 (And.intro hsD2 (And.intro hlt1 (And.intro hls1 (And.intro hld1 (And.intro hlds (And.intro hKn (And.intro hGn (And.intro hbd ha)))))))))))
          have x0 := HG3.out.2.2.2.1.cell 0
          have x1 := HG3.out.2.2.2.1.cell 1
          have x2 := HG3.out.2.2.2.1.cell 2
          have hbl := HG3.out.2.2.2.1.lt
          simp only [List.getElem?_toArray, List.getElem?_cons_zero, List.getElem?_cons_succ] at x0 x1 x2
          have HX := hide (And.intro x0 (And.intro x1 (And.intro x2 hbl)))
          clear hsort hni hpk hKn hGn hlt1 hls1 hld1 hlds hslc hsoc hcp hco hsT hsD hsT2 hsD2 hbd x0 x1 x2 hbl hlo hhi hKe hGe hssl hla 
          go_wp2_with (first
            | (at_builtin; refine wpList_appendS rfl _ _ _ rfl Try.underlying45 infoLI rfl (by omega) encS_len encS_one rfl hown6 (cutA Ao co a 1) (co - a) W3.heap.size (ss.drop a) (by rw [HT.out.2.2.2.2.2.2.2.1]; rfl) (HT.out.2.2.2.1.below hbb6) (by have := HT.out.2.2.2.2.2.2.2.1; have := HT.out.2.2.2.2.2.2.2.2.2.2.1; unfold maxLen; omega) (by have := HT.out.2.2.2.2.2.2.2.1; have := HT.out.2.2.2.2.2.2.2.2.2.2.1; omega) hbb6.size ?_; intro v7 w7 hown7 hg7 hB7 hat7)
            | (at_builtin; refine wpList_append1 rfl _ _ _ rfl Try.underlying45 infoLI rfl (by omega) encS_len encS_one rfl hown5 (w5.heap.size + 1) 1 (some ⟨w5.heap.size, 0, none⟩, 1, 1) rfl (Blk.new' _ _ _ _ (by simp)) (by have := HT.out.2.2.2.2.2.2.2.2.2.2.1; unfold maxLen; omega) (by have := HT.out.2.2.2.2.2.2.2.2.2.2.1; omega) (by have := hbb5.size; simp; omega) ?_; intro g6 cap6 w6 hown6 hg6 hB6 hat6 hgb6 hlt6; have hbb6 : Below W3.heap.size W3 w6 := ((hbb5.alloc hbb5.size _).alloc (by have := hbb5.size; simp; omega) _).trans hB6)
            | (at_builtin; refine wpList_appendS rfl _ _ _ rfl Try.underlying45 infoLI rfl (by omega) encS_len encS_one rfl (Own.nil (base := W3.heap.size)) Ao co W3.heap.size (ss.take a) (by rw [HT.out.2.2.2.2.2.1]; rfl) (HT.out.2.2.1.below hbb4) (by have := HT.out.2.2.2.2.2.1; have := HT.out.2.2.2.2.2.2.2.2.2.2.1; unfold maxLen; omega) (by have := HT.out.2.2.2.2.2.1; have := HT.out.2.2.2.2.2.2.2.2.2.2.1; omega) hbb4.size ?_; intro v5 w5 hown5 hg5 hB5 hat5; rw [Nat.zero_add, HT.out.2.2.2.2.2.1, List.nil_append] at hown5; obtain ⟨A5, c5, rfl⟩ := hown5.form; have hbb5 : Below W3.heap.size W3 w5 := hbb4.trans hB5; have hown5 := (hown5.alloc (.cells #[.int .i64 k] 3)).alloc (.cells #[.slice (some ⟨w5.heap.size, 0, none⟩) 1 1] 31); have hown4 := hown4.step hg5 (fun r e => by cases e))
            | (at_builtin; refine wpList_appendS rfl _ _ _ rfl Try.underlying72 infoP rfl (by omega) encP_len encP_one rfl hown3 (cutA Ap cp a 3) (cp - a) W3.heap.size (K.drop a) (by rw [HT.out.2.2.2.2.2.2.1]; rfl) (HT.out.2.1.below hbb3) (by have := HT.out.2.2.2.2.2.2.1; have := HT.out.2.2.2.2.2.2.2.2.2.2.1; unfold maxLen; omega) (by have := HT.out.2.2.2.2.2.2.1; have := HT.out.2.2.2.2.2.2.2.2.2.2.1; omega) hbb3.size ?_; intro v4 w4 hown4 hg4 hB4 hat4; have hbb4 : Below W3.heap.size W3 w4 := hbb3.trans hB4)
            | (at_builtin; refine wpList_append1 rfl _ _ _ rfl Try.underlying72 infoP rfl (by omega) encP_len encP_one rfl hown2 w2.heap.size 1 p rfl (Blk.new _ _ _) (by have := HT.out.2.2.2.2.2.2.2.2.2.2.1; unfold maxLen; omega) (by have := HT.out.2.2.2.2.2.2.2.2.2.2.1; omega) (by have := hbb2.size; simp; omega) ?_; intro g3 cap3 w3 hown3 hg3 hB3 hat3 hgb3 hlt3; have hbb3 : Below W3.heap.size W3 w3 := (hbb2.alloc hbb2.size _).trans hB3)
            | (at_builtin; refine wpList_appendS rfl _ _ _ rfl Try.underlying72 infoP rfl (by omega) encP_len encP_one rfl (Own.nil (base := W3.heap.size)) Ap cp W3.heap.size (K.take a) (by rw [HT.out.2.2.2.2.1]; rfl) HT.out.1 (by have := HT.out.2.2.2.2.1; have := HT.out.2.2.2.2.2.2.2.2.2.2.1; unfold maxLen; omega) (by have := HT.out.2.2.2.2.1; have := HT.out.2.2.2.2.2.2.2.2.2.2.1; omega) (Nat.le_refl _) ?_; intro v2 w2 hown2 hg2 hB2 hat2; rw [Nat.zero_add, HT.out.2.2.2.2.1, List.nil_append] at hown2; obtain ⟨A2, c2, rfl⟩ := hown2.form; have hbb2 : Below W3.heap.size W3 w2 := hB2; have hown2 := hown2.alloc (.cells (encP p).toArray 23); have x0 := (hB2.cell (p := ⟨w1.heap.size, _, none⟩) HX.out.2.2.2).trans HX.out.1; have x1 := (hB2.cell (p := ⟨w1.heap.size, _, none⟩) HX.out.2.2.2).trans HX.out.2.1; have x2 := (hB2.cell (p := ⟨w1.heap.size, _, none⟩) HX.out.2.2.2).trans HX.out.2.2.1))
          go_roundw
          case rel =>
            have hz5 := hbb5.size
            have hg6' : ((w5.alloc (.cells #[.int .i64 k] 3)).alloc (.cells #[.slice (some ⟨w5.heap.size, 0, none⟩) 1 1] 31)).grownBy w6 (Value.slice A5 a c5).ownBlock := hg6
            have hP6 := ((hown4.alloc (.cells #[.int .i64 k] 3)).alloc (.cells #[.slice (some ⟨w5.heap.size, 0, none⟩) 1 1] 31)).step hg6' (own_rowT hown5 (by decide))
            have hP7 := hP6.step hg7 (own_rowT hown6 (by decide))
            have hI5 : Own encI 1 3 ((w5.alloc (.cells #[.int .i64 k] 3)).alloc (.cells #[.slice (some ⟨w5.heap.size, 0, none⟩) 1 1] 31)) W3.heap.size (.slice (some ⟨w5.heap.size, 0, none⟩) 1 1) 1 [k] := (Own.lit1 encI_len hz5 k).alloc _
            have hI7 := (hI5.step hg6' (own_rowT hown5 (by decide))).step hg7 (own_rowT hown6 (by decide))
            have hB37 : Below W3.heap.size W3 w7 := hbb6.trans hB7
            have hW3 := HG3.out.2.2.2.2.size
            have hE7 : Elems encI 1 3 w7 w.heap.size ss G := HG3.out.2.2.1.imp (fun _ _ _ h => h.below hB37 (Nat.le_refl _))
            have haway : Away w5.heap.size ss := HG3.out.2.2.1.away hz5
            refine ⟨k + 1, by omega, by go_num, ?_, ?_, HG3.out.2.2.2.2.trans (hB37.mono hW3)⟩
            · rw [HT.out.2.2.2.2.2.2.2.2.1]
              have e1 : (K.take a ++ p :: K.drop a) = (K.take a ++ [p]) ++ K.drop a := by simp
              rw [e1]
              have e2 : ((K.take a ++ [p]) ++ K.drop a).length = a + 1 + (K.drop a).length := by rw [List.length_append, List.length_append, HT.out.2.2.2.2.1]; rfl
              rw [e2]
              exact hP7.base_le hW3
            · rw [HT.out.2.2.2.2.2.2.2.2.2.1]
              refine ⟨ss.take a ++ (some ⟨w5.heap.size, 0, none⟩, 1, 1) :: ss.drop a, ?_, Elems.append (hE7.take a) ⟨⟨rfl, hI7.base_le hW3⟩, hE7.drop a⟩, apart_insert HAP.out (fun g hg => by cases hg; exact haway)⟩
              have e1 : (ss.take a ++ (some ⟨w5.heap.size, 0, none⟩, 1, 1) :: ss.drop a) = (ss.take a ++ [(some ⟨w5.heap.size, 0, none⟩, 1, 1)]) ++ ss.drop a := by simp
              rw [e1]
              have e2 : (G.take a ++ [k] :: G.drop a).length = a + 1 + (ss.drop a).length := by
                have hh := HT.out.2.2.2.2.2.2.2.1
                have ha := HT.out.2.2.2.2.2.2.2.2.2.2.2
                rw [List.length_append, List.length_cons, List.length_take, List.length_drop, hGlen]
                omega
              rw [e2]
              exact hown7.base_le hW3
          case measure => simp [intOf]; omega
    · have hke : k = ls.length := by omega
      subst hke
      have HR := hide (And.intro hG0 (And.intro hG (And.intro hB H.out.2.2.2)))
      clear hG0 hG hB hK0 hK
      go_wp2
      go_ret
      refine ⟨_, rfl, ?_, HR.out.2.2.1⟩
      rw [show groupsL ls b sh = G by rw [HR.out.2.1, HR.out.2.2.2]; rfl]
      exact HR.out.1
end Go.Proofs.Ytgndbpkgehjelaa
/- ref13.Finest. -/
namespace Go.Proofs.Ytgndbpkgehjelaa
open Go.RowKit Go.Sort
theorem finest_groups (b most : Int) (ts : List Tri) : (groupsO ltP (keyF b) ts).flatMap (splitT most) = finestT b most ts := by
  unfold groupsO finestT
  rw [List.flatMap_map]
  rfl
theorem singles_get (ts : List Tri) (k : Nat) : (ts.map fun t => [t]).getD k [] = match ts[k]? with | some t => [t] | none => [] := by
  simp only [List.getD, List.getElem?_map]
  cases ts[k]? <;> rfl
theorem sum_le_mem {ι : Type} (f : ι → List (List Tri)) (b : Nat) : ∀ l : List ι, (∀ x ∈ l, (f x).length ≤ b) → (l.flatMap f).length ≤ l.length * b
  | [], _ => by simp
  | x :: l, h => by
    rw [List.flatMap_cons, List.length_append, List.length_cons, Nat.add_mul, Nat.one_mul]
    have h1 := h x (by simp)
    have h2 := sum_le_mem f b l (fun y hy => h y (by simp [hy]))
    omega
set_option maxRecDepth 100000 in
set_option maxHeartbeats 8000000 in
theorem finest13_any (A : Option Addr) (c : Nat) (b most : Int) (ts : List Tri) (w : World) (hs : Sl encT 9 w w.heap.size A ts) (hl : ts.length ≤ 1024) (hf : ∀ t ∈ ts, fitsT t) (hm : most ≤ 9223372036854775807) :
    Calls Try.prog 23 #[.slice A ts.length c, .int .i64 b, .int .i64 most] w fun e w' => ∃ v, e = .returned v ∧ Pcs encT 9 26 27 w' w.heap.size v (finestT b most ts) ∧ Below w.heap.size w w' := by
  have H := hide (And.intro hs (And.intro hf hm))
  clear hs hf hm
  go_enter Try.func23, Try.ntmps23
  go_wp2
  go_loopw [7, 8] (fun v i wr => ∃ k : Nat, k ≤ ts.length ∧ i = .int .i64 k ∧ Pcs encT 9 26 27 wr w.heap.size v ((ts.take k).map fun t => [t]) ∧ Below w.heap.size w wr) (fun _ i _ => ts.length - (intOf i).toNat)
  case atStart => exact ⟨0, by omega, rfl, Pcs.nil, Below.refl _ w⟩
  case round =>
    obtain ⟨k, hk, rfl, hp, hB⟩ := hrel
    have hszB := hB.size
    obtain ⟨v7, c7, rfl⟩ := hp.form
    by_cases hlt : k < ts.length
    · obtain ⟨u, hu⟩ : ∃ u, ts[k]? = some u := ⟨_, List.getElem?_eq_getElem hlt⟩
      obtain ⟨bb, o, hA, hb, g0, g1, g2, g3, g4, g5, g6, g7, g8⟩ := (H.out.1.below hB).tri hu
      subst hA
      have hlk : ((ts.take k).map fun t => [t]).length = k := by rw [List.length_map, List.length_take]; omega
      obtain ⟨ss, hss, hpp⟩ := (hp.alloc (.cells (encT u).toArray 26)).alloc (.cells #[.slice (some ⟨wr.heap.size, 0, none⟩) 1 1] 27)
      have hss' := hss
      rw [hlk] at hss' ⊢
      have hx : Own encT 9 26 ((wr.alloc (.cells (encT u).toArray 26)).alloc (.cells #[.slice (some ⟨wr.heap.size, 0, none⟩) 1 1] 27)) w.heap.size (.slice (some ⟨wr.heap.size, 0, none⟩) 1 1) 1 [u] := (Own.lit1 encT_len hszB u).alloc _
      have hmap := map_take_snoc' (fun t : Tri => [t]) ts k u hu
      have i1 : (k : Int) < (ts.length : Int) := by omega
      have HR := hide (And.intro hss (And.intro hpp (And.intro hx (And.intro hmap (And.intro hB hlk)))))
      clear hss hpp hx hmap hB hlk hp hu
      go_wp2_with (at_builtin; refine wpList_append1 rfl _ _ _ rfl Try.underlying28 infoLT rfl (by omega) encS_len encS_one rfl hss' (wr.heap.size + 1) 1 (some ⟨wr.heap.size, 0, none⟩, 1, 1) rfl (Blk.new' _ _ _ _ (by simp)) (by unfold maxLen; omega) (by omega) (by simp; omega) ?_; intro g cap w5 hown5 hg5 hB5 hat5 hgb5 hlt5)
      have hg5' : ((wr.alloc (.cells (encT u).toArray 26)).alloc (.cells #[.slice (some ⟨wr.heap.size, 0, none⟩) 1 1] 27)).grownBy w5 (Value.slice v7 ((ts.take k).map fun t => [t]).length c7).ownBlock := by rw [HR.out.2.2.2.2.2]; exact hg5
      go_roundw
      case rel =>
        refine ⟨k + 1, by omega, by go_num, ?_, (HR.out.2.2.2.2.1.alloc hszB _).alloc (by simp; omega) _ |>.trans hB5⟩
        rw [HR.out.2.2.2.1]
        refine Pcs.snoc (by decide) HR.out.1 HR.out.2.1 HR.out.2.2.1 hg5' ?_
        rw [HR.out.2.2.2.2.2]
        exact hown5
      case measure => simp [intOf]; omega
    · have hke : k = ts.length := by omega
      subst hke
      rw [List.take_length] at hp ⊢
      obtain ⟨S, hS⟩ : ∃ S, S = ts.map fun t => [t] := ⟨_, rfl⟩
      have hSl : S.length = ts.length := by rw [hS, List.length_map]
      rw [← hS] at hp ⊢
      obtain ⟨A7, k7, hv7, hc7, hlst⟩ := hp.lst encT_len
      obtain ⟨e1, e3⟩ : v7 = A7 ∧ c7 = k7 := by injection hv7 with e1 _ e3; exact ⟨e1, e3⟩
      subst e1 e3
      have hSm : ∀ q ∈ S, ∃ t ∈ ts, q = [t] := fun q hq => by
        rw [hS] at hq
        obtain ⟨t, ht, rfl⟩ := List.mem_map.1 hq
        exact ⟨t, ht, rfl⟩
      have hgr := groups13_any v7 c7 S b false wr hlst (by omega) (fun q hq => by obtain ⟨t, _, rfl⟩ := hSm q hq; simp) (fun q hq t ht => by obtain ⟨u, hu, rfl⟩ := hSm q hq; simp at ht; subst ht; exact H.out.2.1 _ hu)
      have hG : (groupsL S b false).map (fun g => g.map fun i => ts.getD i ((0, 0, 0), (0, 0, 0), (0, 0, 0))) = groupsO ltP (keyF b) ts := by
        have h1 := groups_numbers (lt := ltP) (keyF b) ts ((0, 0, 0), (0, 0, 0), (0, 0, 0)) (keyL S b false) (fun i hi => by
          unfold keyL keyF
          rw [hS, singles_get, List.getElem?_eq_getElem hi]
          simp [List.getD, List.getElem?_eq_getElem hi])
        rw [← h1, ← hSl]
        rfl
      have hGm : ∀ g ∈ groupsL S b false, (∀ i ∈ g, i < ts.length) ∧ g.length ≤ 1024 := fun g hg => by
        have hg' : g ∈ groupsO ltP (keyL S b false) (List.range S.length) := hg
        have := groupsO_mem hg'
        refine ⟨fun i hi => ?_, ?_⟩
        · have := this.1 i hi; simp at this; omega
        · have := this.2.1; simp at this; omega
      have hGl : (groupsL S b false).length ≤ 1024 := by
        have h1 : (groupsL S b false).length = (keysO ltP (keyL S b false) (List.range S.length)).length := groupsO_length (lt := ltP) (key := keyL S b false) (xs := List.range S.length)
        have h2 := keysO_length (lt := ltP) (key := keyL S b false) (xs := List.range S.length)
        simp at h2; omega
      obtain ⟨G, hGG⟩ : ∃ G, G = groupsL S b false := ⟨_, rfl⟩
      rw [← hGG] at hgr hG hGm hGl
      have HG := hide (And.intro hgr (And.intro hG (And.intro hGm hB)))
      clear hgr hG hGm hB hlst hSm hS hGG hp hlt hSl
      go_wp2_with fail
      with_reducible refine HG.out.1.mono ?_
      rintro e w2 ⟨v9, rfl, hpd, hB2⟩
      obtain ⟨A9, c9, rfl, hc9, hl9⟩ := hpd.pcs.lst encI_len
      have hsz2 := hB2.size
      have hW2 : w.heap.size ≤ w2.heap.size := by omega
      have hsT : Sl encT 9 w2 w2.heap.size A ts := ((H.out.1.below HG.out.2.2.2).below (hB2.mono hszB)).more hW2
      have H2 := hide (And.intro hl9 (And.intro hsT (HG.out.2.2.2.trans (hB2.mono hszB))))
      clear hl9 hsT hpd hB2 hsz2
      go_wp2
      go_loopw [10, 11] (fun v i wr => ∃ k : Nat, k ≤ G.length ∧ i = .int .i64 k ∧ Pcs encT 9 26 27 wr w2.heap.size v (((G.take k).map (fun g => g.map fun i => ts.getD i ((0, 0, 0), (0, 0, 0), (0, 0, 0)))).flatMap (splitT most)) ∧ Below w2.heap.size w2 wr) (fun _ i _ => G.length - (intOf i).toNat)
      case atStart => exact ⟨0, by omega, rfl, Pcs.nil, Below.refl _ w2⟩
      case round =>
        obtain ⟨k, hk, rfl, hp, hB⟩ := hrel
        obtain ⟨Q, hQ⟩ : ∃ Q, Q = ((G.take k).map (fun g => g.map fun i => ts.getD i ((0, 0, 0), (0, 0, 0), (0, 0, 0)))).flatMap (splitT most) := ⟨_, rfl⟩
        rw [← hQ] at hp
        obtain ⟨v10, c10, rfl⟩ := hp.form
        have hszR := hB.size
        by_cases hltG : k < G.length
        · obtain ⟨g, hg⟩ : ∃ g, G[k]? = some g := ⟨_, List.getElem?_eq_getElem hltG⟩
          have hgm := HG.out.2.2.1 g (List.mem_of_getElem? hg)
          have hgl := hgm.2
          have i2 : (k : Int) < (G.length : Int) := by omega
          have HK := hide (And.intro hp (And.intro hB (And.intro hg (And.intro hgm.1 hQ))))
          clear hp hB hg hgm hQ
          go_wp2
          obtain ⟨R, hR⟩ : ∃ R, R = wr := ⟨_, rfl⟩
          rw [← hR] at HK hszR ⊢
          clear hR
          go_loopw [12, 13] (fun v i wr => ∃ j : Nat, j ≤ g.length ∧ i = .int .i64 j ∧ Own encT 9 26 wr R.heap.size v j ((g.take j).map fun i => ts.getD i ((0, 0, 0), (0, 0, 0), (0, 0, 0))) ∧ Below R.heap.size R wr) (fun _ i _ => g.length - (intOf i).toNat)
          case atStart => exact ⟨0, by omega, rfl, Own.nil, Below.refl _ R⟩
          case round =>
            obtain ⟨j, hj, rfl, hown, hBj⟩ := hrel
            obtain ⟨v12, c12, rfl⟩ := hown.form
            have hszJ := hBj.size
            have hB2j : Below w2.heap.size w2 wr := HK.out.2.1.trans (hBj.mono hszR)
            obtain ⟨b9, o9, A', c', hA9, hb9, hcell9, hslg⟩ := (H2.out.1.below hB2j).at HK.out.2.2.1
            subst hA9
            by_cases hltj : j < g.length
            · obtain ⟨i0, hi0⟩ : ∃ i, g[j]? = some i := ⟨_, List.getElem?_eq_getElem hltj⟩
              have hit := HK.out.2.2.2.1 i0 (List.mem_of_getElem? hi0)
              obtain ⟨bg, og, hAg, hbg, hcg⟩ := hslg.at hi0
              subst hAg
              have hcg0 := hcg 0 _ rfl
              rw [Nat.mul_one, Nat.add_zero] at hcg0
              obtain ⟨t, ht⟩ : ∃ t, ts[i0]? = some t := ⟨_, List.getElem?_eq_getElem hit⟩
              obtain ⟨bt, ot, hAt, hbt, g0, g1, g2, g3, g4, g5, g6, g7, g8⟩ := (H2.out.2.1.below hB2j).tri ht
              subst hAt
              have hmap := map_take_snoc' (fun i => ts.getD i ((0, 0, 0), (0, 0, 0), (0, 0, 0))) g j i0 hi0
              have hgd : ts.getD i0 ((0, 0, 0), (0, 0, 0), (0, 0, 0)) = t := by simp [List.getD, ht]
              have i3 : (j : Int) < (g.length : Int) := by omega
              have i4 : (i0 : Int) < (ts.length : Int) := by omega
              have hown2 := hown.alloc (.cells (encT t).toArray 26)
              have HJ := hide (And.intro hBj (And.intro hmap hgd))
              clear hBj hmap hgd hown hi0 ht hslg hcg hB2j
              go_wp2_with (at_builtin; refine wpList_append1 rfl _ _ _ rfl Try.underlying27 infoT rfl (by omega) encT_len encT_one rfl hown2 wr.heap.size 1 t rfl (Blk.new _ _ _) (by unfold maxLen; omega) (by omega) (by simp; omega) ?_; intro g5 cap w5 hown5 hg5 hB5 hat5 hgb5 hlt5)
              go_roundw
              case rel =>
                refine ⟨j + 1, by omega, by go_num, ?_, (HJ.out.1.alloc hszJ _).trans hB5⟩
                rw [HJ.out.2.1, HJ.out.2.2]
                exact hown5
              case measure => simp [intOf]; omega
            · have hje : j = g.length := by omega
              subst hje
              rw [List.take_length] at hown
              obtain ⟨X, hX⟩ : ∃ X, X = g.map fun i => ts.getD i ((0, 0, 0), (0, 0, 0), (0, 0, 0)) := ⟨_, rfl⟩
              have hXl : X.length = g.length := by rw [hX, List.length_map]
              have hXf : ∀ t ∈ X, fitsT t := fun t ht => by
                rw [hX] at ht
                obtain ⟨i, hi, rfl⟩ := List.mem_map.1 ht
                have := HK.out.2.2.2.1 i hi
                exact H.out.2.1 _ (by simp [List.getD, List.getElem?_eq_getElem this])
              rw [← hX] at hown
              have hsplit := split13_any v12 c12 most X wr (hown.sl encT_len (Nat.le_refl _)) (by omega) H.out.2.2 hXf
              rw [hXl] at hsplit
              have HJ := hide (And.intro hBj (And.intro hX (And.intro hXl (And.intro hsplit hB2j))))
              clear hBj hX hXl hsplit hown hslg hXf hB2j
              go_wp2_with fail
              with_reducible refine HJ.out.2.2.2.1.mono ?_
              rintro e w6 ⟨v6, rfl, hp6, hB6⟩
              have hp6' := hp6
              obtain ⟨rs, hrs, hrq⟩ := hp6
              obtain ⟨A6, c6, hv6⟩ := hrs.form
              subst hv6
              have hp10 := HK.out.1.below ((HJ.out.1.trans (hB6.mono hszJ))) (Nat.le_refl _)
              obtain ⟨ss, hss, hpp⟩ := hp10
              have hrl : rs.length = (splitT most X).length := hrs.1.symm
              have hQl : Q.length ≤ 1048576 := by
                have h1 := sum_le_mem (fun q => splitT most q) 1024 ((G.take k).map (fun g => g.map fun i => ts.getD i ((0, 0, 0), (0, 0, 0), (0, 0, 0)))) (fun q hq => by
                  obtain ⟨g', hg', rfl⟩ := List.mem_map.1 hq
                  have h2 := (HG.out.2.2.1 g' (List.mem_of_mem_take hg')).2
                  have h3 := splitT_length most (g'.map fun i => ts.getD i ((0, 0, 0), (0, 0, 0), (0, 0, 0)))
                  rw [List.length_map] at h3
                  omega)
                rw [List.length_map, List.length_take] at h1
                have h4 := HK.out.2.2.2.2
                rw [h4]
                refine Nat.le_trans h1 ?_
                have : min k G.length * 1024 ≤ 1024 * 1024 := Nat.mul_le_mul_right _ (by omega)
                omega
              have hsl6 : (splitT most X).length ≤ 1024 := by have := splitT_length most X; have := HJ.out.2.2.1; omega
              have hsl := hrs.sl encS_len (Nat.le_refl w6.heap.size)
              have HL := hide (And.intro hss (And.intro hpp (And.intro hrq (And.intro hB6 hrl))))
              have hsz6 := hB6.size
              clear hpp hrq hB6
              go_wp2_with (at_builtin; refine wpList_appendS rfl _ _ _ rfl Try.underlying28 infoLT rfl (by omega) encS_len encS_one rfl hss A6 c6 w6.heap.size rs (by rw [HL.out.2.2.2.2]; rfl) hsl (by have := HL.out.2.2.2.2; unfold maxLen; omega) (by have := HL.out.2.2.2.2; omega) (by omega) ?_; intro v8 w8 hown8 hg8 hB8 hat8)
              go_roundw
              case rel =>
                have hB8' : Below w2.heap.size w2 w8 := (HK.out.2.1.trans ((HJ.out.1.trans (HL.out.2.2.2.1.mono hszJ)).mono hszR)).trans hB8
                refine ⟨k + 1, by omega, by go_num, ?_, hB8'⟩
                rw [List.take_add_one, HK.out.2.2.1]
                simp only [Option.toList_some, List.map_append, List.map_cons, List.map_nil, List.flatMap_append, List.flatMap_cons, List.flatMap_nil, List.append_nil]
                rw [← HK.out.2.2.2.2, ← HJ.out.2.1]
                refine Pcs.appendAll (by decide) HL.out.1 HL.out.2.2.2.2 HL.out.2.1 (fun i q hi => ?_) hg8 ?_
                · obtain ⟨A', c', h1, h2⟩ := HL.out.2.2.1 i q hi
                  exact ⟨A', c', h1, h2.base_le (by omega)⟩
                · rw [← HL.out.2.2.2.2]
                  exact hown8
              case measure => simp [intOf]; omega
        · have hke : k = G.length := by omega
          subst hke
          rw [List.take_length, HG.out.2.1, finest_groups] at hQ
          have HR := hide (And.intro hp (And.intro hB hQ))
          clear hp hB hQ
          go_wp2
          go_ret
          refine ⟨_, rfl, ?_, H2.out.2.2.trans (HR.out.2.1.mono hW2)⟩
          rw [← HR.out.2.2]
          exact HR.out.1.base_le hW2
end Go.Proofs.Ytgndbpkgehjelaa
