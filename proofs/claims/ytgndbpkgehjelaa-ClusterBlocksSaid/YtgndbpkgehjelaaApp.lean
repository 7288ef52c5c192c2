/- append(s, ys...) whatever ys is, empty or nil too; no dump is named. -/
import Derived.Test.YtgndbpkgehjelaaPcs
namespace Go.Proofs.Ytgndbpkgehjelaa
open Go.RowKit Go.Sort
section
variable {P : Program} {α : Type} {enc : α → List Value} {k : Nat} {e : TypeId} {w : World} {base : Nat} {v : Value} {n : Nat} {xs : List α}
theorem run_append_nilsrc (base : Nat) (t ty e : TypeId) (i : TypeInfo) (size : Nat) (ht : P.underlying t = some (.slice e)) (hi : P.info? e = some i)
    (v : Value) (n c : Nat) (xs : List Value) (hown : w.ownsRow base e size v n xs) :
    (Builtin.append_ #[t, t] ty #[v, .slice none 0 c]).run P w = .ok v w := by
  rcases hown.2 with ⟨rfl, rfl⟩ | ⟨g, cap, cur, rfl, _, _, hnc, _⟩
  · simp [Builtin.append_, run_underlying ht, sizeOf, typeInfo, hi, Builtin.lenOf, Builtin.firstCells]
  · simp [Builtin.append_, run_underlying ht, sizeOf, typeInfo, hi, Builtin.lenOf, Builtin.firstCells, hnc, storeCells]
/-- The cells of a slice that reads as ys. -/
theorem Sl.cellsAll {B b o' : Nat} {ys : List α} (hk0 : 0 < k) (hk : ∀ x, (enc x).length = k) (hsl : Sl enc k w B (some ⟨b, o', none⟩) ys) : ∀ t u, (ys.flatMap enc)[t]? = some u → w.cell? ⟨b, o' + t, none⟩ = some u := by
  rcases hsl with ⟨_, h0⟩ | ⟨b2, o2, ha, _, hc⟩
  · cases h0
  · cases ha
    intro t u hu
    have ht : t < ys.length * k := by rw [← flat_len hk ys]; exact (List.getElem?_eq_some_iff.1 hu).1
    have hi : t / k < ys.length := (Nat.div_lt_iff_lt_mul hk0).2 ht
    have hj : t % k < (enc ys[t / k]).length := by rw [hk]; exact Nat.mod_lt _ hk0
    have hx : ys[t / k]? = some ys[t / k] := List.getElem?_eq_getElem hi
    have hv : (enc ys[t / k])[t % k]? = some ((enc ys[t / k])[t % k]) := List.getElem?_eq_getElem hj
    have h2 := flat_get hk ys _ _ hx _ _ hv
    rw [Nat.div_add_mod' t k, hu] at h2
    have h3 := hc _ _ hx _ _ hv
    rw [Nat.add_assoc, Nat.div_add_mod' t k, ← h2] at h3
    exact h3
/-- 'append(s, ys...)', whatever ys. -/
theorem wpList_appendS {ops : Array Oper} {rest : List Oper} {o : Oper} {a : Act} {Q : Exit → Act → World → Prop} (hgd : o.guard = none) (s x : Operand) (t : TypeId)
    (ho : o.op = .call { callee := .builtin .append, args := #[s, x], argTypes := #[t, t] })
    {z : Value} {bytes : Nat} (ht : P.underlying t = some (.slice e)) (hi : (P.info? e).map (fun i => (i.zero, i.size, i.bytes)) = some (some z, k, bytes))
    (hzs : z.cells.size = k) (hk0 : 0 < k) (hk : ∀ x, (enc x).length = k) (h1 : ∀ x, ∀ u ∈ enc x, u.oneCell' = true)
    (hs : a.eval s = v) (hown : Own enc k e w base v n xs) (A : Option Addr) (c B : Nat) (ys : List α) (hx : a.eval x = .slice A ys.length c) (hsl : Sl enc k w B A ys)
    (h63 : n + ys.length ≤ maxLen) (hbytes : (n + ys.length) * bytes ≤ 140737488355328) (hbase : base ≤ w.heap.size)
    (h : ∀ v' w', Own enc k e w' base v' (n + ys.length) (xs ++ ys) → w.grownBy w' v.ownBlock → Below base w w' → (v'.ownBlock = v.ownBlock ∨ v'.ownBlock = some w.heap.size) →
      wpList P ops Q rest (a.put o.dst v') w') : wpList P ops Q (o :: rest) a w := by
  obtain ⟨i, hi0, hz0, hz1, hz2⟩ := info_parts hi
  refine wpList_plain hgd fun K hK => ?_
  have key : ∃ v' w', (Builtin.append_ #[t, t] o.type #[v, .slice A ys.length c]).run P w = .ok v' w' ∧ w'.ownsRow base e k v' (n + ys.length) (xs.flatMap enc ++ ys.flatMap enc) ∧ w.grownBy w' v.ownBlock ∧ (v'.ownBlock = v.ownBlock ∨ v'.ownBlock = some w.heap.size) := by
    cases A with
    | none =>
      have hy : ys = [] := by
        rcases hsl with ⟨h, _⟩ | ⟨b, o', ha, _⟩
        · exact h
        · cases ha
      subst hy
      exact ⟨v, w, run_append_nilsrc base t o.type e i k ht hi0 v n c _ hown.2, by simpa using hown.2, World.grownBy.refl _ _, .inl rfl⟩
    | some ad =>
      have hsl' : ∃ b o', ad = ⟨b, o', none⟩ := by
        rcases hsl with ⟨_, h⟩ | ⟨b, o', ha, _⟩
        · cases h
        · exact ⟨b, o', by injection ha⟩
      obtain ⟨b, o', rfl⟩ := hsl'
      obtain ⟨v', w', hr, h2, h3, _, h5⟩ := run_append_own_at (P := P) (w := w) base t o.type e i z k bytes ht hi0 hz0 hz1 hz2 hzs hk0 v n (xs.flatMap enc) hown.2 ⟨b, o', none⟩ ys.length c (ys.flatMap enc) (flat_len hk ys)
        (fun j u hu => by rw [add_none]; exact hsl.cellsAll hk0 hk j u hu) (fun u hu => by obtain ⟨x, _, hx⟩ := List.mem_flatMap.1 hu; exact h1 x u hx) h63 hbytes hbase
      exact ⟨v', w', hr, h2, h3, h5⟩
  obtain ⟨v', w', hr, h2, h3, h5⟩ := key
  unfold Oper.wp
  simp only [execOp, ho, resolve, invoke, builtin, Sem.run_bind, Sem.run_pure, Result.andThen_ok, List.map_toArray, List.map_cons, List.map_nil, hs, hx, hr]
  exact hK _ _ (h v' w' ⟨by simp [hown.1], by simpa using h2⟩ h3 ((Below.refl base w).grown h3 hbase (fun r hr => (hown.blk r hr).1)) h5)
end
end Go.Proofs.Ytgndbpkgehjelaa
