/- Joined texts: Enc. -/
import Derived.Test.YtfljcgehhnmamaaCB8
import Derived.Test.YtfljcgehhnmamaaCB14
/- Encoded triangles and points; slices cut at their front. -/
namespace Go.Proofs.Ytfljcgehhnmamaa
open Go.RowKit Go.Sort
/-- Where 's[i:]' lies. -/
def cutA (A : Option Addr) (c i s : Nat) : Option Addr := if c = i then A else A.map (·.add (i * s))
theorem Sl.cut {α : Type} {enc : α → List Value} {k : Nat} {w : World} {B : Nat} {A : Option Addr} {xs : List α} {i c : Nat} (h : Sl enc k w B A xs) (hi : i ≤ xs.length) (hc : xs.length ≤ c) : Sl enc k w B (cutA A c i k) (xs.drop i) := by
  rcases h with ⟨rfl, rfl⟩ | ⟨b, o, rfl, hb, hcs⟩
  · refine .inl ⟨by simp, ?_⟩
    unfold cutA; split <;> rfl
  · unfold cutA
    split
    · rename_i h
      refine .inr ⟨b, o, rfl, hb, fun j x hx => ?_⟩
      rw [List.getElem?_drop, List.getElem?_eq_none (by omega)] at hx
      cases hx
    · refine .inr ⟨b, o + i * k, by rw [Option.map_some, add_none], hb, fun j x hx l u hu => ?_⟩
      rw [List.getElem?_drop] at hx
      have := hcs _ _ hx l u hu
      rw [Nat.add_mul, ← Nat.add_assoc] at this
      exact this
theorem Sl.take {α : Type} {enc : α → List Value} {k : Nat} {w : World} {B : Nat} {A : Option Addr} {xs : List α} (i : Nat) (h : Sl enc k w B A xs) : Sl enc k w B A (xs.take i) := by
  rcases h with ⟨rfl, rfl⟩ | ⟨b, o, rfl, hb, hcs⟩
  · exact .inl ⟨by simp, rfl⟩
  · refine .inr ⟨b, o, rfl, hb, fun j x hx l u hu => ?_⟩
    rw [List.getElem?_take] at hx
    split at hx
    · exact hcs _ _ hx l u hu
    · cases hx
theorem run_cut {P : Program} {T E : TypeId} {s n c i : Nat} {A : Option Addr} (hT : P.underlying T = some (.slice E)) (hs : ∀ W : World, (sizeOf E).run P W = .ok s W) (hi : i ≤ n) (W : World) : (Instr.slice T (.slice A n c) (some (.int .i64 i)) none none).run P W = .ok (.slice (cutA A c i s) (n - i) (c - i)) W := by
  have hE : P.elem T = E := by simp [Program.elem, hT]
  have hT' : P.underlying T = some (.slice (P.elem T)) := by rw [hE]; exact hT
  rw [run_slice_l (t := T) (ht := hT') (h0 := by omega) (h1 := by omega)]
  simp [hE, hs, sliced, cutA]
theorem run_cutH {P : Program} {T E : TypeId} {s n c i : Nat} {A : Option Addr} (hT : P.underlying T = some (.slice E)) (hs : ∀ W : World, (sizeOf E).run P W = .ok s W) (hi : i ≤ n) (hc : n ≤ c) (W : World) : (Instr.slice T (.slice A n c) none (some (.int .i64 i)) none).run P W = .ok (.slice A i c) W := by
  have hE : P.elem T = E := by simp [Program.elem, hT]
  have hT' : P.underlying T = some (.slice (P.elem T)) := by rw [hE]; exact hT
  rw [run_slice_h (t := T) (ht := hT') (h0 := by omega) (h2 := by omega)]
  have hadd : ∀ a : Addr, a.add 0 = a := fun a => by simp [Addr.add]
  cases A <;> simp [hE, hs, sliced, hadd]
theorem encT_len (t : Tri) : (encT t).length = 9 := rfl
theorem encP_len (p : Pt) : (encP p).length = 3 := rfl
theorem encT_one (t : Tri) : ∀ v ∈ encT t, v.oneCell' = true := by
  intro v hv
  simp only [encT, List.mem_cons, List.not_mem_nil, or_false] at hv
  rcases hv with rfl | rfl | rfl | rfl | rfl | rfl | rfl | rfl | rfl <;> rfl
theorem encP_one (p : Pt) : ∀ v ∈ encP p, v.oneCell' = true := by
  intro v hv
  simp only [encP, List.mem_cons, List.not_mem_nil, or_false] at hv
  rcases hv with rfl | rfl | rfl <;> rfl
theorem infoT : (Try.prog.info? 40).map (fun i => (i.zero, i.size, i.bytes)) = some (some (.agg #[.int .i64 0, .int .i64 0, .int .i64 0, .int .i64 0, .int .i64 0, .int .i64 0, .int .i64 0, .int .i64 0, .int .i64 0]), 9, 72) := by kernel_rfl
theorem infoP : (Try.prog.info? 38).map (fun i => (i.zero, i.size, i.bytes)) = some (some (.agg #[.int .i64 0, .int .i64 0, .int .i64 0]), 3, 24) := by kernel_rfl
theorem infoLT : (Try.prog.info? 29).map (fun i => (i.zero, i.size, i.bytes)) = some (some (.slice none 0 0), 1, 24) := by kernel_rfl
theorem infoLI : (Try.prog.info? 22).map (fun i => (i.zero, i.size, i.bytes)) = some (some (.slice none 0 0), 1, 24) := by kernel_rfl
end Go.Proofs.Ytfljcgehhnmamaa
