/- Plain laws: the groups hold each number once, all of a block. -/
import Derived.Test.YtgndbpkgehjelaaCB26
import Derived.Test.YtgndbpkgehjelaaCB27
namespace Go.Proofs.Ytgndbpkgehjelaa
open Go.RowKit
theorem groupsL_eq (ls : List (List Tri)) (b : Int) (sh : Bool) : groupsL ls b sh = groupsO ltP (keyL ls b sh) (List.range ls.length) := rfl
theorem groupsL_flat (ls : List (List Tri)) (b : Int) (sh : Bool) : List.Perm (groupsL ls b sh).flatten (List.range ls.length) := by
  rw [groupsL_eq]
  have := groups_perm (keyL ls b sh) (List.range ls.length)
  rw [List.flatMap_def] at this
  exact this
theorem groupsL_mem {ls : List (List Tri)} {b : Int} {sh : Bool} {g : List Nat} (hg : g ∈ groupsL ls b sh) : (∀ k ∈ g, k < ls.length) ∧ g.length ≤ ls.length ∧ 0 < g.length ∧ ∀ k ∈ g, ∀ j ∈ g, keyL ls b sh k = keyL ls b sh j := by
  rw [groupsL_eq] at hg
  have h := groupsO_mem hg
  refine ⟨fun k hk => by simpa using h.1 k hk, by simpa using h.2.1, List.length_pos_iff.2 h.2.2, ?_⟩
  obtain ⟨p, _, rfl⟩ := List.mem_map.1 hg
  intro k hk j hj
  have h1 := (List.mem_filter.1 hk).2
  have h2 := (List.mem_filter.1 hj).2
  simp only [decide_eq_true_eq] at h1 h2
  rw [h1, h2]
theorem groupsL_length (ls : List (List Tri)) (b : Int) (sh : Bool) : (groupsL ls b sh).length ≤ ls.length := by
  rw [groupsL_eq, groupsO_length]
  have := keysO_length (lt := ltP) (key := keyL ls b sh) (xs := List.range ls.length)
  simpa using this
/-- What has been seen when the lists before i, and the first j of list i, have been visited. -/
def seenL (G : List (List Nat)) (i j : Nat) : List Nat := (G.take i).flatten ++ ((G[i]?).getD []).take j
theorem seenL_next {G : List (List Nat)} {i : Nat} {g : List Nat} (hg : G[i]? = some g) : seenL G i g.length = seenL G (i + 1) 0 := by
  unfold seenL
  rw [hg, List.take_add_one, hg]
  simp
theorem seenL_step {G : List (List Nat)} {i j k : Nat} {g : List Nat} (hg : G[i]? = some g) (hk : g[j]? = some k) : seenL G i (j + 1) = seenL G i j ++ [k] := by
  unfold seenL
  rw [hg, Option.getD_some, List.take_add_one, hk]
  simp
theorem seenL_all (G : List (List Nat)) : seenL G G.length 0 = G.flatten := by
  unfold seenL
  simp
theorem seenL_new {G : List (List Nat)} (hn : G.flatten.Nodup) {i j k : Nat} {g : List Nat} (hg : G[i]? = some g) (hk : g[j]? = some k) : k ∉ seenL G i j := by
  obtain ⟨hi, ei⟩ := List.getElem?_eq_some_iff.1 hg
  obtain ⟨hj, ej⟩ := List.getElem?_eq_some_iff.1 hk
  have h1 : G.flatten = (seenL G i j ++ [k]) ++ (g.drop (j + 1) ++ (G.drop (i + 1)).flatten) := by
    unfold seenL
    rw [hg, Option.getD_some]
    have e1 : G = G.take i ++ g :: G.drop (i + 1) := by
      rw [← ei, ← List.drop_eq_getElem_cons hi, List.take_append_drop]
    have e2 : g = g.take j ++ k :: g.drop (j + 1) := by
      rw [← ej, ← List.drop_eq_getElem_cons hj, List.take_append_drop]
    have e3 : G.flatten = (G.take i).flatten ++ (g ++ (G.drop (i + 1)).flatten) := by
      conv => lhs; rw [e1]
      simp
    rw [e3]
    conv => lhs; rw [e2]
    simp
  rw [h1] at hn
  have h2 := (List.nodup_append.1 (List.nodup_append.1 hn).1).2.2
  exact fun hm => h2 k hm k (by simp) rfl
def seenA (n : Nat) (L : List Nat) : Array Value := ((List.range n).map fun i => Value.bool (decide (i ∈ L))).toArray
theorem seenA_get {n i : Nat} (L : List Nat) (h : i < n) : (seenA n L)[i]? = some (.bool (decide (i ∈ L))) := by
  simp [seenA, h]
theorem seenA_set {n k : Nat} (L : List Nat) : (seenA n L).setIfInBounds k (.bool true) = seenA n (L ++ [k]) := by
  apply Array.ext_getElem?
  intro i
  rw [Array.getElem?_setIfInBounds]
  by_cases hi : i < n
  · rw [seenA_get _ hi, seenA_get _ hi]
    by_cases hk : k = i
    · subst hk
      have : k < (seenA n L).size := by simpa [seenA] using hi
      rw [if_pos rfl, if_pos this]
      simp
    · rw [if_neg hk]
      congr 2
      simp [Ne.symm hk]
  · have h1 : ∀ L, (seenA n L)[i]? = none := fun L => Array.getElem?_eq_none (by simpa [seenA] using hi)
    rw [h1, h1]
    split
    · rename_i hk
      subst hk
      have : ¬ k < (seenA n L).size := by simpa [seenA] using hi
      rw [if_neg this]
    · rfl
theorem seenA_nil (n : Nat) : seenA n [] = Array.replicate n (Value.bool false) := by
  apply Array.ext_getElem?
  intro i
  rw [Array.getElem?_replicate]
  by_cases hi : i < n
  · rw [seenA_get _ hi, if_pos hi]; simp
  · rw [if_neg hi]; exact Array.getElem?_eq_none (by simpa [seenA] using hi)
end Go.Proofs.Ytgndbpkgehjelaa
