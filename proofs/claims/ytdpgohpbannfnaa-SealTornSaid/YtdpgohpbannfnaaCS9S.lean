/- ref07.Seal. -/
import Derived.Test.YtdpgohpbannfnaaCS9P
import Derived.Test.YtdpgohpbannfnaaCS9Q
import Derived.Test.YtdpgohpbannfnaaCS9R
namespace Go.Proofs.Ytdpgohpbannfnaa
open Go.RowKit Go.Sort Go.WideMaps Go.Maps
/-- The table, k places turned. -/
def mixL (s : Nat) (E T : EF → Bool) (k : Nat) : List Bool := (tabE s (xorE E T)).take k ++ (tabE s E).drop k
theorem mixL_zero (s : Nat) (E T : EF → Bool) : mixL s E T 0 = tabE s E := by unfold mixL; simp
theorem mixL_end {s m3 : Nat} (hm : m3 = 3 * (s * s * s)) (E T : EF → Bool) : mixL s E T m3 = tabE s (xorE E T) := by
  unfold mixL
  rw [List.take_of_length_le (by rw [tabE_length]; omega), List.drop_eq_nil_of_le (by rw [tabE_length]; omega), List.append_nil]
theorem mixL_get {s k : Nat} {E T : EF → Bool} (hk : k < 3 * (s * s * s)) : (mixL s E T k)[k]? = some (E (edgS s k)) := by
  unfold mixL
  have ht : ((tabE s (xorE E T)).take k).length = k := by rw [List.length_take, tabE_length]; omega
  rw [List.getElem?_append_right (by omega), ht, List.getElem?_drop, Nat.sub_self, Nat.add_zero, tabE_take hk]
theorem comp_head {f : EF} {l : List EF} : (compF (f :: l) f)[0]? = some f := by
  unfold compF
  rw [List.filter_cons_of_pos (connB_iff.2 (Conn.refl _ _))]
  rfl
theorem grd_tiny {n : Nat} (hn : n ≤ 256) {f : EF} (h : grdF n f) : tinyF f := by unfold grdF at h; unfold tinyF; omega
def lenOf7 (v : Value) : Nat := match v with | .slice _ n _ => n | _ => 0
/-- The reference's state. -/
structure SlR (w wr : World) (base g n : Nat) (E : EF → Bool) (D : List (List EF)) (Left : List EF) (lv pv : Value) : Prop where
  row : RowB wr g (tabE (n + 1) (sealN n E D))
  box : Blk wr w.heap.size 32 #[.int .i64 0, .slice none 0 0]
  left : Own encF 4 45 wr base lv Left.length Left
  out : Own encPch 6 47 wr base pv D.length (D.map (pchP n))
  bel : Below w.heap.size w wr
  big : base ≤ wr.heap.size
/-- The state while the table is turned. -/
structure SlQ (w wr : World) (base b2 gb pb s : Nat) (T : EF → Bool) (f : EF) (dd z n : Nat) (D : List (List EF)) (Left : List EF) (lv pv : Value) : Prop where
  best : RowB wr gb (tabE s T)
  pbx : Blk wr pb 47 #[.int .i64 f.1, .int .i64 f.2.1, .int .i64 f.2.2.1, .int .i64 f.2.2.2, .int .i64 (dd : Int), .int .i64 (z : Int)]
  box : Blk wr w.heap.size 32 #[.int .i64 0, .slice none 0 0]
  left : Own encF 4 45 wr b2 lv Left.length Left
  out : Own encPch 6 47 wr base pv D.length (D.map (pchP n))
  bel : Below w.heap.size w wr
theorem SlQ.put {w wr : World} {base b2 gb pb s g : Nat} {T : EF → Bool} {f : EF} {dd z n : Nat} {D : List (List EF)} {Left : List EF} {lv pv : Value} (h : SlQ w wr base b2 gb pb s T f dd z n D Left lv pv) (h1 : gb ≠ g) (h2 : pb ≠ g) (h3 : w.heap.size < g) (h4 : g < base) (h5 : g < b2) (i : Nat) (v : Value) :
    SlQ w (wr.setCell ⟨g, i, none⟩ v).drew base b2 gb pb s T f dd z n D Left lv pv :=
  ⟨h.best.far (p := ⟨g, i, none⟩) h1 _, h.pbx.far (p := ⟨g, i, none⟩) h2 _, h.box.far (p := ⟨g, i, none⟩) (by dsimp only; omega) _, (h.left.kept (grown_set7 wr g i v) (.inr fun e => by have := (h.left.blk _ e).1; omega)).below (Below.refl _ _).drew (Nat.le_refl _), (h.out.kept (grown_set7 wr g i v) (.inr fun e => by have := (h.out.blk _ e).1; omega)).below (Below.refl _ _).drew (Nat.le_refl _), (h.bel.setCell (by dsimp only; omega) _).drew⟩
theorem SlQ.on {w wr W : World} {base b2 gb pb s : Nat} {T : EF → Bool} {f : EF} {dd z n : Nat} {D : List (List EF)} {Left : List EF} {lv pv : Value} (h : SlQ w wr base b2 gb pb s T f dd z n D Left lv pv) (hb : Below wr.heap.size wr W) : SlQ w W base b2 gb pb s T f dd z n D Left lv pv :=
  ⟨h.best.on hb, h.pbx.on hb, h.box.on hb, h.left.below hb (Nat.le_refl _), h.out.below hb (Nat.le_refl _), h.bel.trans (hb.mono h.bel.size)⟩
theorem seal_ret7 {w V : World} {L : Int} {g N : Nat} {a0 a1 pv : Value} {fn : Func} {R : Ending → World → Prop} {a : Act} {w' : World} (hd : a.defers = []) (h : Blk V w.heap.size 32 #[a0, a1])
    (hr : ∀ Z : World, Z.cell? ⟨w.heap.size, 0, none⟩ = some (.int .i64 L) → Z.cell? ⟨w.heap.size, 1, none⟩ = some (.slice (some ⟨g, 0, none⟩) N N) → (results fn a.tmps).run Try.prog Z = .ok (.tuple #[.agg #[.int .i64 L, .slice (some ⟨g, 0, none⟩) N N], pv]) Z)
    (hw : w' = (V.setCell ⟨w.heap.size, 0, none⟩ (.int .i64 L)).setCell ⟨w.heap.size, 1, none⟩ (.slice (some ⟨g, 0, none⟩) N N))
    (hR : ∀ W, W = (V.setCell ⟨w.heap.size, 0, none⟩ (.int .i64 L)).setCell ⟨w.heap.size, 1, none⟩ (.slice (some ⟨g, 0, none⟩) N N) → R (.returned (.tuple #[.agg #[.int .i64 L, .slice (some ⟨g, 0, none⟩) N N], pv])) W) : bodyPost Try.prog fn R .ret a w' := by
  subst hw
  have h2 := (h.set_ 0 (.int .i64 L)).set_ 1 (.slice (some ⟨g, 0, none⟩) N N)
  exact bodyPost_ret (hr _ (h2.cell 0) (h2.cell 1)) hd (hR _ rfl)
set_option maxRecDepth 100000 in
set_option maxHeartbeats 64000000 in
theorem Seal7r_any {L n s m : Nat} (hL : 1 ≤ (L : Int) ∧ (L : Int) ≤ 8) (hn : n = 2 ^ L) (hs : s = n + 1) (hs9 : s ≤ 9) (hs2 : 2 ≤ s) (hm : m = s * s * s) (A : Option Addr) (c : Nat) (l : List EF) (w : World) (hsl : Sl encF 4 w w.heap.size A l) (hl : l.length ≤ 10000) (hf : ∀ e ∈ l, fitsF e) :
    Calls Try.prog 25 #[.slice A l.length c, .int .i64 (L : Int)] w fun e w' => ∃ gi pv, e = .returned (.tuple #[.agg #[.int .i64 (L : Int), .slice (some ⟨gi, 0, none⟩) m m], pv]) ∧ RowB w' gi (fldP n l) ∧ w.heap.size ≤ gi ∧ Own encPch 6 47 w' w.heap.size pv (pchsP n l).length (pchsP n l) ∧ Below w.heap.size w w' := by
  have hsd := side7_any (L : Int)
  rw [sideP_in hL, Int.toNat_natCast, ← hn, ← hs] at hsd
  have hgi := fun W (hW : Below w.heap.size w W) => given7_any hs hs9 A c l W ((hsl.below hW).more hW.size) (Nat.le_trans hl (by decide)) hf
  have hodl := odd_few n l
  obtain ⟨M, hM⟩ : ∃ M, M = l.length := ⟨_, rfl⟩
  rw [← hM] at hgi hl hodl ⊢
  obtain ⟨OL, hOL⟩ : ∃ OL, OL = oddP n l := ⟨_, rfl⟩
  have hOL2 : OL = oddL (givE (n : Int) l) (n + 1) := hOL
  rw [← hOL2] at hodl
  have hgr : ∀ f ∈ OL, grdF n f := fun f hf => (oddL_mem.1 (by rw [← hOL2]; exact hf)).1
  have hnd : OL.Nodup := by rw [hOL2]; exact oddL_nodup _ _
  have hs0 : ¬ (s : Int) = 0 := by omega
  have H0 := hide (And.intro hsd (And.intro hgi (And.intro hs (And.intro hm (And.intro hOL (And.intro hOL2 (And.intro hgr (And.intro hnd (And.intro hodl hn)))))))))
  clear hsd hgi hs hm hOL hOL2 hgr hnd hodl hn hsl hf hM
  go_enter Try.func25, Try.ntmps25
  go_upto_region 1 with fail
  obtain ⟨X0, hX0⟩ : ∃ X, X = w.alloc (.cells #[.int .i64 0, .slice none 0 0] 32) := ⟨_, rfl⟩
  rw [← hX0]
  have hB0 : Below w.heap.size w X0 := by rw [hX0]; exact (Below.refl _ w).alloc (Nat.le_refl _) _
  have hr0 : Blk X0 w.heap.size 32 #[.int .i64 0, .slice none 0 0] := by rw [hX0]; exact Blk.new _ _ _
  have K0 := hide (And.intro hr0 hB0)
  have hwX : w.heap.size < X0.heap.size := hr0.lt
  clear hX0 hB0 hr0
  go_wp2_with fail
  refine (H0.out.1 X0).mono ?_
  rintro e w1 ⟨rfl, hw3⟩
  obtain rfl : X0 = w1 := hw3.symm
  go_wp2_with fail
  refine (H0.out.2.1 X0 K0.out.2).mono ?_
  rintro e w2 ⟨g, m3, rfl, hm3, hr, hg, hB⟩
  have hgw2 : g < w2.heap.size := Blk.lt hr
  have H2 := hide (And.intro hm3 (And.intro hr (And.intro (K0.out.1.on hB) (K0.out.2.trans (hB.mono K0.out.2.size)))))
  have hX2 := hB.size
  clear hm3 hr hB K0
  go_wp2_with fail
  refine (odd7r_any (m := s * s * s) (c0 := m3) H0.out.2.2.1 hs2 hs9 rfl H2.out.1 (givE (n : Int) l) w2 H2.out.2.1).mono ?_
  rintro e w3 ⟨v, rfl, ho, hB⟩
  rw [show oddL (givE (n : Int) l) s = OL by rw [H0.out.2.2.1, H0.out.2.2.2.2.2.1]] at ho
  have hS0 : SlR w w3 w2.heap.size g n (givE (n : Int) l) [] OL v (.slice none 0 0) := ⟨by rw [← H0.out.2.2.1]; exact H2.out.2.1.on hB, H2.out.2.2.1.on hB, ho, Own.nil, H2.out.2.2.2.trans (hB.mono H2.out.2.2.2.size), hB.size⟩
  have HS0 := hide hS0
  clear hS0 ho hB
  obtain ⟨base, hbase⟩ : ∃ b, b = w2.heap.size := ⟨_, rfl⟩
  rw [← hbase] at HS0 hgw2 hX2
  clear hbase
  go_wp2_with fail
  go_loopw [8, 9] (fun lv pv wr => ∃ (Left : List EF) (D : List (List EF)), SlR w wr base g n (givE (n : Int) l) D Left lv pv ∧ partsF OL = D ++ partsF Left ∧ (∀ f ∈ Left, grdF n f) ∧ Left.Nodup ∧ Left.length + D.length ≤ 4 * M) (fun lv _ _ => lenOf7 lv)
  case atStart => exact ⟨OL, [], HS0.out, rfl, H0.out.2.2.2.2.2.2.1, H0.out.2.2.2.2.2.2.2.1, by have := H0.out.2.2.2.2.2.2.2.2.1; simpa using this⟩
  case round =>
    obtain ⟨V, rfl⟩ : ∃ V, V = wr := ⟨_, rfl⟩
    obtain ⟨Left, D, hS, hP, hG, hND, hLen⟩ := hrel
    obtain ⟨Al, cl, rfl⟩ := hS.left.form
    have HV := hide (And.intro hS (And.intro hP (And.intro hG (And.intro hND hLen))))
    clear hS hP hG hND hLen
    have hgV : g < V.heap.size := Nat.lt_of_lt_of_le hgw2 HV.out.1.big
    have hwV := HV.out.1.bel.size
    cases Left with
    | nil =>
      have hD : partsF OL = D := by rw [HV.out.2.1, partsF_nil, List.append_nil]
      obtain ⟨Ap, cp, rfl⟩ := HV.out.1.out.form
      have hin := inside7r_any (m := m) (m3 := m3) (g := g) (c0 := m3) H0.out.2.2.1 hs2 hs9 H0.out.2.2.2.1 H2.out.1 (sealN n (givE (n : Int) l) D) V (by rw [H0.out.2.2.1]; exact HV.out.1.row)
      have HI := hide (And.intro hin hD)
      clear hin hD
      rw [show ([] : List EF).length = 0 from rfl]
      go_wp2_with fail
      refine HI.out.1.mono ?_
      rintro e w4 ⟨rfl, hr4, hB4⟩
      have hbox := HV.out.1.box.on hB4
      have hout := HV.out.1.out.below hB4 (Nat.le_refl _)
      have hbel := HV.out.1.bel.trans (hB4.mono HV.out.1.bel.size)
      obtain ⟨b0, b1⟩ := hbox.two7
      have z0 := hbox.frozen 0
      have z1 := hbox.frozen 1
      have K4 := hide (And.intro hbox (And.intro hout (And.intro hbel hr4)))
      clear hbox hout hbel hr4 hB4
      go_wp2_with fail
      refine seal_ret7 (L := (L : Int)) (g := V.heap.size) (N := m) (w := w) (V := w4) (pv := .slice Ap D.length cp) rfl K4.out.1 ?_ rfl ?_
      · intro Z z0 z1
        simp [results, Try.results25, go_sem, z0, z1]
      · intro W' hW'
        have hbw : w.heap.size < base := by omega
        refine ⟨V.heap.size, _, rfl, ?_, hwV, ?_, ?_⟩
        · rw [hW']
          have h1 : RowB w4 V.heap.size (fldP n l) := by
            unfold fldP endE
            rw [← H0.out.2.2.2.2.1, HI.out.2, ← H0.out.2.2.1, ← H0.out.2.2.2.1]
            exact K4.out.2.2.2
          exact (h1.far (p := ⟨w.heap.size, 0, none⟩) (by dsimp only; omega) _).far (p := ⟨w.heap.size, 1, none⟩) (by dsimp only; omega) _
        · rw [hW']
          unfold pchsP
          rw [← H0.out.2.2.2.2.1, HI.out.2, List.length_map]
          have hne : ∀ r, (Value.slice Ap D.length cp).ownBlock = some r → base ≤ r := fun r hr => (K4.out.2.1.blk r hr).1
          refine Own.lower (((K4.out.2.1.kept (grown_set7 _ _ _ _) (.inr fun e => ?_)).kept (grown_set7 _ _ _ _) (.inr fun e => ?_))) (Nat.le_trans (Nat.le_of_lt hwX) hX2)
          · have := hne _ e; omega
          · have := hne _ e; omega
        · rw [hW']
          exact (K4.out.2.2.1.setCell (Nat.le_refl _) _).setCell (Nat.le_refl _) _
    | cons f0 t =>
      have hcm := component7_any Al cl (f0 :: t) f0 V (HV.out.1.left.sl encF_len (Nat.le_refl _)) rfl HV.out.2.2.2.1 (fun f hf => grd_tiny (by have := H0.out.2.2.1; omega) (HV.out.2.2.1 f hf)) (by have := HV.out.2.2.2.2; omega)
      have hpc := partsF_cons HV.out.2.2.2.1
      obtain ⟨LL, hLL⟩ : ∃ LL, LL = f0 :: t := ⟨_, rfl⟩
      have hrl : (restF (f0 :: t) f0).length < (f0 :: t).length := Nat.lt_of_le_of_lt restF_len (by simp)
      have hrl2 : (restF (f0 :: t) f0).length + 1 ≤ LL.length := by rw [hLL]; omega
      have hcl : (compF (f0 :: t) f0).length ≤ LL.length := by rw [hLL]; unfold compF; exact List.length_filter_le _ _
      have hch := comp_head (f := f0) (l := t)
      rw [← hLL] at hcm hpc hrl hrl2 hcl hch HV ⊢
      obtain ⟨CP, hCP⟩ : ∃ CP, CP = compF LL f0 := ⟨_, rfl⟩
      obtain ⟨RS, hRS⟩ : ∃ RS, RS = restF LL f0 := ⟨_, rfl⟩
      have hgc : ∀ f ∈ CP, grdF n f := fun f hf => HV.out.2.2.1 f (by rw [hCP] at hf; exact (compF_mem.1 hf).1)
      have hgrs : ∀ f ∈ RS, grdF n f := fun f hf => HV.out.2.2.1 f (by rw [hRS] at hf; exact (List.mem_filter.1 hf).1)
      have hnrs : RS.Nodup := by rw [hRS]; exact HV.out.2.2.2.1.filter _
      rw [← hCP, ← hRS] at hcm hpc
      rw [← hRS] at hrl hrl2
      rw [← hCP] at hcl hch
      obtain ⟨NL, hNL⟩ : ∃ NL, NL = LL.length := ⟨_, rfl⟩
      rw [← hNL] at hcm hrl hrl2 hcl ⊢
      have hNL0 : 0 < NL := by omega
      have hNLb : NL + D.length ≤ 4 * M := by rw [hNL]; exact HV.out.2.2.2.2
      have HC := hide (And.intro hcm (And.intro hpc (And.intro hrl2 (And.intro hcl (And.intro hch (And.intro hgc (And.intro hgrs hnrs)))))))
      clear hcm hpc hrl hrl2 hcl hch hgc hgrs hnrs hNL hCP hRS hLL
      go_wp2_with fail
      refine HC.out.1.mono ?_
      rintro e w4 ⟨v1, v2, rfl, ho1, ho2, hB4⟩
      obtain ⟨A1, c1, rfl⟩ := ho1.form
      obtain ⟨A2, c2, rfl⟩ := ho2.form
      obtain ⟨N1, hN1⟩ : ∃ N1, N1 = CP.length := ⟨_, rfl⟩
      obtain ⟨N2, hN2⟩ : ∃ N2, N2 = RS.length := ⟨_, rfl⟩
      have hN1b : 0 < N1 := by rw [hN1]; exact (List.getElem?_eq_some_iff.1 HC.out.2.2.2.2.1).1
      rw [← hN1] at ho1 ⊢
      rw [← hN2] at ho2 ⊢
      have H4 := hide (And.intro ho1 (And.intro ho2 (And.intro (HV.out.1.row.on hB4) (And.intro (HV.out.1.box.on hB4) (And.intro (HV.out.1.out.below hB4 (Nat.le_refl _)) (And.intro (HV.out.1.bel.trans (hB4.mono HV.out.1.bel.size)) (And.intro hN1 hN2)))))))
      have hV4 := hB4.size
      clear ho1 ho2 hB4 hN1 hN2
      have hpt := fun (d : Nat) (hd : d < 6) (W : World) (hW : Below w4.heap.size w4 W) => patch7r_any hd H0.out.2.2.1 hs9 hs2 A1 c1 CP W ((H4.out.1.sl encF_len (Nat.le_refl _)).on hW) HC.out.2.2.2.2.2.1 (by have h1 := HC.out.2.2.2.1; omega)
      rw [← H4.out.2.2.2.2.2.2.1] at hpt
      have HPT := hide hpt
      clear hpt
      have hp0 := HPT.out 0 (by omega) w4 (Below.refl _ _)
      rw [show ((0 : Nat) : Int) = 0 from rfl] at hp0
      have HP0 := hide hp0
      clear hp0
      go_wp2_with fail
      refine HP0.out.mono ?_
      rintro e w5 ⟨m5, rfl, hm5, hr5, hB5⟩
      obtain rfl : m3 = m5 := H2.out.1.trans hm5.symm
      have hB45 := hB5
      obtain ⟨zf, hzf⟩ : ∃ zf : Nat → Nat, zf = fun d => cntE s (patE (n : Int) d CP) := ⟨_, rfl⟩
      have hz0 : cntE s (patE (n : Int) 0 CP) = zf 0 := by rw [hzf]
      rw [hz0]
      have hzb : ∀ d, zf d ≤ 60000000 := fun d => by rw [hzf]; show cntE s _ ≤ _; rw [H0.out.2.2.1]; exact cntE_few n (by have := H0.out.2.2.1; omega) _
      obtain ⟨tb, oo, hA1, htb, g0, g1, g2, g3⟩ := ((H4.out.1.sl encF_len (Nat.le_refl _)).on hB5).four HC.out.2.2.2.2.1
      subst hA1
      have HZ := hide (And.intro hzf hzb)
      have hzb0 := hzb 0
      have h45 := hB5.size
      have K5 := hide (And.intro hr5 hB45)
      clear hr5 hB5 hB45 hz0 hzf hzb hm5
      simp only [Nat.zero_mul, Nat.add_zero] at g0 g1 g2 g3
      go_upto_region 12 with fail
      obtain ⟨Y, hY⟩ : ∃ Y, Y = w5.alloc (.cells #[.int .i64 f0.1, .int .i64 f0.2.1, .int .i64 f0.2.2.1, .int .i64 f0.2.2.2, .int .i64 0, .int .i64 (zf 0 : Int)] 47) := ⟨_, rfl⟩
      rw [← hY]
      have hbY : Blk Y w5.heap.size 47 #[.int .i64 f0.1, .int .i64 f0.2.1, .int .i64 f0.2.2.1, .int .i64 f0.2.2.2, .int .i64 ((0 : Nat) : Int), .int .i64 (zf 0 : Int)] := by rw [hY]; exact Blk.new _ _ _
      have hBY : Below w5.heap.size w5 Y := by rw [hY]; exact (Below.refl _ w5).alloc (Nat.le_refl _) _
      have hw45 : w4.heap.size < w5.heap.size := Blk.lt K5.out.1
      have KY := hide (And.intro hbY hBY)
      clear hbY hBY hY g0 g1 g2 g3
      go_wp2_with fail
      go_loopw [12, 15] (fun bv dv wr => ∃ (k gb : Nat), k ≤ 5 ∧ dv = .int .i64 ((k + 1 : Nat) : Int) ∧ bv = .slice (some ⟨gb, 0, none⟩) m3 m3 ∧ w4.heap.size ≤ gb ∧ gb ≠ w5.heap.size ∧ RowB wr gb (tabE s (patE (n : Int) (bestN zf k) CP)) ∧ Blk wr w5.heap.size 47 #[.int .i64 f0.1, .int .i64 f0.2.1, .int .i64 f0.2.2.1, .int .i64 f0.2.2.2, .int .i64 (bestN zf k : Int), .int .i64 (zf (bestN zf k) : Int)] ∧ Below w5.heap.size w5 wr) (fun _ dv _ => 6 - (intOf dv).toNat)
      case atStart => exact ⟨0, w4.heap.size, by omega, rfl, rfl, Nat.le_refl _, by omega, K5.out.1.on KY.out.2, KY.out.1, KY.out.2⟩
      case round =>
        obtain ⟨U, rfl⟩ : ∃ U, U = wr := ⟨_, rfl⟩
        obtain ⟨k, gb, hk5, rfl, rfl, hgb1, hgb2, hrb, hpb, hBU⟩ := hrel
        have hUs := hBU.size
        have hbs := bestN_le zf k
        have HU := hide (And.intro hrb (And.intro hpb hBU))
        clear hrb hpb hBU
        by_cases hk : k < 5
        · have q1 : ((k + 1 : Nat) : Int) < 6 := by omega
          have hpd := HPT.out (k + 1) (by omega) U (K5.out.2.trans (HU.out.2.2.mono h45))
          rw [show cntE s (patE (n : Int) (k + 1) CP) = zf (k + 1) by rw [HZ.out.1]] at hpd
          have hbn : bestN zf (k + 1) = if zf (k + 1) < zf (bestN zf k) then k + 1 else bestN zf k := rfl
          obtain ⟨d, hd⟩ : ∃ d, d = k + 1 := ⟨_, rfl⟩
          rw [← hd] at hpd hbn q1 ⊢
          obtain ⟨za, hza⟩ : ∃ z, z = zf d := ⟨_, rfl⟩
          obtain ⟨zb, hzb⟩ : ∃ z, z = zf (bestN zf k) := ⟨_, rfl⟩
          have hza6 : za ≤ 60000000 := by rw [hza]; exact HZ.out.2 _
          have hzb6 : zb ≤ 60000000 := by rw [hzb]; exact HZ.out.2 _
          rw [← hza] at hpd hbn
          rw [← hzb] at hbn
          have HD := hide (And.intro hpd (And.intro hbn (And.intro hd (And.intro hza hzb))))
          have hd6 : d ≤ 5 := by omega
          clear hpd hbn hd hza hzb
          go_wp2_with fail
          refine HD.out.1.mono ?_
          rintro e w6 ⟨m6, rfl, hm6, hr6, hB6⟩
          obtain rfl : m3 = m6 := H2.out.1.trans hm6.symm
          have hpb6 := HU.out.2.1.on hB6
          rw [← HD.out.2.2.2.2] at hpb6
          obtain ⟨p0, p1, p2, p3, p4, p5⟩ : w6.cell? ⟨w5.heap.size, 0, none⟩ = some (.int .i64 f0.1) ∧ w6.cell? ⟨w5.heap.size, 1, none⟩ = some (.int .i64 f0.2.1) ∧ w6.cell? ⟨w5.heap.size, 2, none⟩ = some (.int .i64 f0.2.2.1) ∧ w6.cell? ⟨w5.heap.size, 3, none⟩ = some (.int .i64 f0.2.2.2) ∧ w6.cell? ⟨w5.heap.size, 4, none⟩ = some (.int .i64 (bestN zf k : Int)) ∧ w6.cell? ⟨w5.heap.size, 5, none⟩ = some (.int .i64 (zb : Int)) := ⟨hpb6.cell 0, hpb6.cell 1, hpb6.cell 2, hpb6.cell 3, hpb6.cell 4, hpb6.cell 5⟩
          have f4 := hpb6.frozen 4
          have f5 := hpb6.frozen 5
          have hU5 : w5.heap.size < U.heap.size := HU.out.2.1.lt
          have h6s := hB6.size
          have K6 := hide (And.intro hpb6 (And.intro hr6 (And.intro (HU.out.1.on hB6) (HU.out.2.2.trans (hB6.mono hUs)))))
          clear hpb6 hr6 hB6 hm6
          by_cases hlt : za < zb
          · have q2 : (za : Int) < (zb : Int) := by omega
            go_wp2_with fail
            go_roundw
            case rel =>
              have hb : bestN zf (k + 1) = k + 1 := by have h := HD.out.2.1; rw [if_pos hlt, HD.out.2.2.1] at h; rw [← HD.out.2.2.1]; rw [HD.out.2.2.1]; exact h
              refine ⟨k + 1, U.heap.size, by omega, ?_, rfl, by omega, by omega, ?_, ?_, (K6.out.2.2.2.setCell (by dsimp only; omega) _).setCell (by dsimp only; omega) _⟩
              · have h := HD.out.2.2.1
                go_num
              · rw [hb, ← HD.out.2.2.1]
                exact (K6.out.2.1.far (p := ⟨w5.heap.size, 4, none⟩) (by dsimp only; omega) _).far (p := ⟨w5.heap.size, 5, none⟩) (by dsimp only; omega) _
              · rw [hb, ← HD.out.2.2.1, ← HD.out.2.2.2.1]
                exact (K6.out.1.set_ 4 _).set_ 5 _
            case measure => have h := HD.out.2.2.1; simp [intOf]; omega
          · have q2 : ¬ (za : Int) < (zb : Int) := by omega
            go_wp2_with fail
            go_roundw
            case rel =>
              have hb : bestN zf (k + 1) = bestN zf k := by have h := HD.out.2.1; rw [if_neg hlt] at h; rw [← HD.out.2.2.1]; exact h
              refine ⟨k + 1, gb, by omega, ?_, rfl, hgb1, hgb2, ?_, ?_, K6.out.2.2.2⟩
              · have h := HD.out.2.2.1
                go_num
              · rw [hb]; exact K6.out.2.2.1
              · rw [hb, ← HD.out.2.2.2.2]; exact K6.out.1
            case measure => have h := HD.out.2.2.1; simp [intOf]; omega
        · obtain rfl : k = 5 := by omega
          rw [show ((5 + 1 : Nat) : Int) = 6 from rfl]
          have hB4U := K5.out.2.trans (HU.out.2.2.mono h45)
          obtain ⟨T, hT⟩ : ∃ T, T = patE (n : Int) (bestN zf 5) CP := ⟨_, rfl⟩
          obtain ⟨E, hE⟩ : ∃ E, E = sealN n (givE (n : Int) l) D := ⟨_, rfl⟩
          obtain ⟨dd, hdd⟩ : ∃ dd, dd = bestN zf 5 := ⟨_, rfl⟩
          obtain ⟨zz, hzz⟩ : ∃ zz, zz = zf dd := ⟨_, rfl⟩
          have hQ : SlQ w U base V.heap.size gb w5.heap.size s T f0 dd zz n D RS (.slice A2 N2 c2) u9 := ⟨by rw [hT]; exact HU.out.1, by rw [hzz, hdd]; exact HU.out.2.1, H4.out.2.2.2.1.on hB4U, by rw [← H4.out.2.2.2.2.2.2.2]; exact H4.out.2.1.below hB4U (Nat.le_refl _), H4.out.2.2.2.2.1.below hB4U (Nat.le_refl _), H4.out.2.2.2.2.2.1.trans (hB4U.mono H4.out.2.2.2.2.2.1.size)⟩
          have hrg : RowB U g (mixL s E T 0) := by rw [mixL_zero, hE, H0.out.2.2.1]; exact H4.out.2.2.1.on hB4U
          have HQ := hide (And.intro hQ (And.intro hrg (And.intro hT (And.intro hE (And.intro hdd hzz)))))
          have hU5 : w5.heap.size < U.heap.size := HU.out.2.1.lt
          clear hQ hrg hT hE hdd hzz hB4U HU hbs
          have hm3b : m3 ≤ 3000 := by rw [H2.out.1]; exact Nat.le_trans (Nat.mul_le_mul_left 3 (Nat.mul_le_mul (Nat.mul_le_mul hs9 hs9) hs9)) (by decide)
          go_wp2_with fail
          go_loopw [18] (fun iv wr => ∃ i : Nat, i ≤ m3 ∧ iv = .int .i64 i ∧ RowB wr g (mixL s E T i) ∧ SlQ w wr base V.heap.size gb w5.heap.size s T f0 dd zz n D RS (.slice A2 N2 c2) u9 ∧ U.heap.size ≤ wr.heap.size) (fun iv _ => m3 - (intOf iv).toNat)
          case atStart => exact ⟨0, by omega, rfl, HQ.out.2.1, HQ.out.1, Nat.le_refl _⟩
          case round =>
          obtain ⟨V3, rfl⟩ : ∃ V3, V3 = wr := ⟨_, rfl⟩
          obtain ⟨i, hi, rfl, hrg, hQ, hU3⟩ := hrel
          have HV3 := hide (And.intro hrg hQ)
          clear hrg hQ
          by_cases him : i < m3
          · have j1 : (i : Int) < (m3 : Int) := by omega
            have hi3 : i < 3 * (s * s * s) := by rw [← H2.out.1]; exact him
            have hx := tabE_xor (E := E) (T := T) hi3
            have hg1 := mixL_get (E := E) (T := T) hi3
            have hg2 := tabE_take (E := T) hi3
            obtain ⟨b1, hb1⟩ : ∃ b, b = E (edgS s i) := ⟨_, rfl⟩
            obtain ⟨b2, hb2⟩ : ∃ b, b = T (edgS s i) := ⟨_, rfl⟩
            rw [← hb1] at hg1 hx
            rw [← hb2] at hg2 hx
            have e1 := HV3.out.1.cell hg1
            have e2 := HV3.out.2.best.cell hg2
            have f1 := HV3.out.1.frozen i
            have HX := hide (show (mixL s E T i).set i (b1 != b2) = mixL s E T (i + 1) from hx)
            clear hx hg1 hg2 hb1 hb2 hi3
            go_upto_region 23 with fail
            have hS0 : V3.drew = V3.drew := rfl
            refine wp_region_mix (fun W => W = V3.drew) [0, 1, 2, 3, 4, 5, 6, 7, 8, 9, 10, 11] [0, 1, 2, 3, 4, 5, 6, 7, 8, 9, 10, 11, 12] mixed_ok (by kernel_rfl) ?_
            refine wpMix_q (v := .slice (some ⟨g, 0, none⟩) m3 m3) rfl rfl (fun _ _ _ h => h) hS0 ⟨rfl, fun _ _ => by simp [go_sem]⟩ ?_
            refine wpMix_q (v := .int .i64 i) rfl rfl (fun _ _ _ h => h) hS0 ⟨rfl, fun _ _ => by simp [go_sem]⟩ ?_
            refine wpMix_q (v := .slice (some ⟨g, 0, none⟩) m3 m3) rfl rfl (fun _ _ _ h => h) hS0 ⟨rfl, fun _ _ => by simp [go_sem]⟩ ?_
            refine wpMix_q (v := .int .i64 i) rfl rfl (fun _ _ _ h => h) hS0 ⟨rfl, fun _ _ => by simp [go_sem]⟩ ?_
            refine wpMix_q (v := .pointer (some ⟨g, i, none⟩)) rfl rfl (fun _ _ _ h => h) hS0 ⟨rfl, fun _ _ => by simp [go_sem, j1]⟩ ?_
            try simp only [List.getElem_toArray, List.getElem_cons_succ, List.getElem_cons_zero, Act.put, List.setIfInBounds_toArray, List.set_cons_succ, List.set_cons_zero]
            refine wpMix_q (v := .bool b1) rfl rfl (fun _ _ _ h => h) hS0 ⟨rfl, fun _ h' => by subst h'; simp [go_sem, e1]⟩ ?_
            refine wpMix_q (v := .slice (some ⟨gb, 0, none⟩) m3 m3) rfl rfl (fun _ _ _ h => h) hS0 ⟨rfl, fun _ _ => by simp [go_sem]⟩ ?_
            refine wpMix_q (v := .int .i64 i) rfl rfl (fun _ _ _ h => h) hS0 ⟨rfl, fun _ _ => by simp [go_sem]⟩ ?_
            refine wpMix_q (v := .pointer (some ⟨gb, i, none⟩)) rfl rfl (fun _ _ _ h => h) hS0 ⟨rfl, fun _ _ => by simp [go_sem, j1]⟩ ?_
            refine wpMix_q (v := .bool b2) rfl rfl (fun _ _ _ h => h) hS0 ⟨rfl, fun _ h' => by subst h'; simp [go_sem, e2]⟩ ?_
            try simp only [List.getElem_toArray, List.getElem_cons_succ, List.getElem_cons_zero, Act.put, List.setIfInBounds_toArray, List.set_cons_succ, List.set_cons_zero]
            refine wpMix_q (v := .bool (b1 != b2)) rfl rfl (fun _ _ _ h => h) hS0 ⟨rfl, fun _ _ => by cases b1 <;> cases b2 <;> simp [go_sem]⟩ ?_
            refine wpMix_q (v := .pointer (some ⟨g, i, none⟩)) rfl rfl (fun _ _ _ h => h) hS0 ⟨rfl, fun _ _ => by simp [go_sem, j1]⟩ ?_
            refine wpMix_tail _ [_] (by kernel_rfl) rfl ?_
            simp only [List.getElem_toArray, List.getElem_cons_succ, List.getElem_cons_zero]
            go_wp2_with fail
            go_roundw
            case rel =>
              refine ⟨i + 1, by omega, by go_num, ?_, HV3.out.2.put (by omega) (by omega) (by omega) hgw2 hgV i _, by simpa using hU3⟩
              rw [← HX.out]
              exact HV3.out.1.set i (b1 != b2)
            case measure => simp [intOf]; omega
          · have j1 : ¬ (i : Int) < (m3 : Int) := by omega
            obtain rfl : i = m3 := by omega
            have hrg := HV3.out.1
            rw [mixL_end H2.out.1] at hrg
            obtain ⟨p0, p1, p2, p3, p4, p5⟩ : V3.cell? ⟨w5.heap.size, 0, none⟩ = some (.int .i64 f0.1) ∧ V3.cell? ⟨w5.heap.size, 1, none⟩ = some (.int .i64 f0.2.1) ∧ V3.cell? ⟨w5.heap.size, 2, none⟩ = some (.int .i64 f0.2.2.1) ∧ V3.cell? ⟨w5.heap.size, 3, none⟩ = some (.int .i64 f0.2.2.2) ∧ V3.cell? ⟨w5.heap.size, 4, none⟩ = some (.int .i64 (dd : Int)) ∧ V3.cell? ⟨w5.heap.size, 5, none⟩ = some (.int .i64 (zz : Int)) := ⟨HV3.out.2.pbx.cell 0, HV3.out.2.pbx.cell 1, HV3.out.2.pbx.cell 2, HV3.out.2.pbx.cell 3, HV3.out.2.pbx.cell 4, HV3.out.2.pbx.cell 5⟩
            have HG := hide hrg
            clear hrg
            have hDl : D.length ≤ 4 * M := by omega
            have hbig : base ≤ V.heap.size := HV.out.1.big
            have hl4 : base ≤ V3.heap.size := by omega
            have hp0 := HV3.out.2.out
            have hD48 : (D.length + 1) * 48 ≤ 140737488355328 := by omega
            have hwb : w.heap.size < base := by omega
            go_wp2_with (at_builtin; refine wpList_append1 rfl _ _ _ rfl Try.underlying35 infoPch rfl (by omega) encPch_len encPch_one rfl (hp0.alloc _) V3.heap.size 1 (f0, dd, zz) rfl (Blk.new _ _ _) (by unfold maxLen; omega) hD48 (by simp; omega) ?_; intro gp cap U7 ho7 hg7 hB7 hat7 hgb7 hlt7)
            go_roundw
            case rel =>
              have hbA : Below base V3 U7 := ((Below.refl base V3).alloc hl4 _).trans hB7
              have hzs : zf = sizD n CP := by rw [HZ.out.1, H0.out.2.2.1]; rfl
              have hdir : dirP n CP = dd := by rw [HQ.out.2.2.2.2.1, hzs]; rfl
              have hpc : pchP n CP = (f0, dd, zz) := by
                have hch := HC.out.2.2.2.2.1
                have hhd : CP.headD (0, 0, 0, 0) = f0 := by
                  cases hcp : CP with
                  | nil => rw [hcp] at hch; simp at hch
                  | cons a t => rw [hcp] at hch; simp at hch; simpa using hch
                unfold pchP
                rw [hhd, hdir, HQ.out.2.2.2.2.2, hzs]
              refine ⟨RS, D ++ [CP], ⟨?_, HV3.out.2.box.below hbA hwb, ?_, ?_, HV3.out.2.bel.trans (hbA.mono (Nat.le_of_lt hwb)), ?_⟩, ?_, HC.out.2.2.2.2.2.2.1, HC.out.2.2.2.2.2.2.2, ?_⟩
              · rw [sealN_snoc, hdir, HQ.out.2.2.2.2.1, ← HQ.out.2.2.1, ← HQ.out.2.2.2.1, ← H0.out.2.2.1]
                exact HG.out.below hbA hgw2
              · refine Own.lower ((HV3.out.2.left.alloc _).kept hg7 ?_) hbig
                cases hv : (Value.slice A2 N2 c2).ownBlock with
                | none => exact .inl rfl
                | some r =>
                  refine .inr fun e => ?_
                  have h1 := (HV3.out.2.left.blk r hv).1
                  have h2 := (HV.out.1.out.blk r e.symm).2
                  omega
              · rw [List.map_append, List.length_append]
                show Own encPch 6 47 U7 base _ (D.length + 1) (D.map (pchP n) ++ [pchP n CP])
                rw [hpc]
                exact ho7
              · have := hbA.size; omega
              · rw [HV.out.2.1, HC.out.2.1, List.append_assoc]; rfl
              · have h1 := HC.out.2.2.1
                simp
                omega
            case measure =>
              have h1 := HC.out.2.2.1
              have h2 := H4.out.2.2.2.2.2.2.2
              simp [lenOf7]
              omega
end Go.Proofs.Ytdpgohpbannfnaa
