/- The frame of ClusterSets' exchange, and what holds in its every order. Printed by mk_SetsAct.py. -/
import Derived.Test.YtgndbpkgehjelaaCB9
namespace Go.Proofs.Ytgndbpkgehjelaa
open Go.RowKit
set_option maxRecDepth 10000 in
theorem sets_act15 (x0 x1 x2 x3 x4 x5 x6 x7 x8 x9 x10 x11 x12 x13 x14 x15 x16 x17 x18 x19 x20 x21 x22 x23 x24 x25 x26 x27 x28 x29 x30 x31 x32 x33 x34 x35 x36 x37 x38 x39 x40 x41 x42 x43 x44 x45 x46 x47 x48 x49 x50 x51 x52 x53 x54 x55 x56 x57 x58 x59 x60 x61 x62 x63 x64 x65 x66 x67 x68 x69 x70 x71 x72 x73 x74 x75 x76 x77 x78 x79 x80 x81 x82 x83 x84 x85 x86 x87 x88 x89 x90 x91 x92 x93 x94 x95 x96 x97 x98 x99 x100 x101 x102 x103 x104 x105 x106 x107 x108 x109 x110 x111 x112 x113 x114 x115 x116 x117 x118 x119 x120 x121 x122 x123 x124 x125 x126 x127 : Value) (d : _) (vals : Nat → Value) : actL [(0, 73), (1, 74), (2, 75), (3, 76), (4, 77), (5, 78), (6, 79), (7, 80), (8, 81), (9, 82), (10, 83), (11, 84), (12, 85), (14, 86)] { tmps := #[x0, x1, x2, x3, x4, x5, x6, x7, x8, x9, x10, x11, x12, x13, x14, x15, x16, x17, x18, x19, x20, x21, x22, x23, x24, x25, x26, x27, x28, x29, x30, x31, x32, x33, x34, x35, x36, x37, x38, x39, x40, x41, x42, x43, x44, x45, x46, x47, x48, x49, x50, x51, x52, x53, x54, x55, x56, x57, x58, x59, x60, x61, x62, x63, x64, x65, x66, x67, x68, x69, x70, x71, x72, x73, x74, x75, x76, x77, x78, x79, x80, x81, x82, x83, x84, x85, x86, x87, x88, x89, x90, x91, x92, x93, x94, x95, x96, x97, x98, x99, x100, x101, x102, x103, x104, x105, x106, x107, x108, x109, x110, x111, x112, x113, x114, x115, x116, x117, x118, x119, x120, x121, x122, x123, x124, x125, x126, x127], defers := d } vals = { tmps := #[x0, x1, x2, x3, x4, x5, x6, x7, x8, x9, x10, x11, x12, x13, x14, x15, x16, x17, x18, x19, x20, x21, x22, x23, x24, x25, x26, x27, x28, x29, x30, x31, x32, x33, x34, x35, x36, x37, x38, x39, x40, x41, x42, x43, x44, x45, x46, x47, x48, x49, x50, x51, x52, x53, x54, x55, x56, x57, x58, x59, x60, x61, x62, x63, x64, x65, x66, x67, x68, x69, x70, x71, x72, vals 0, vals 1, vals 2, vals 3, vals 4, vals 5, vals 6, vals 7, vals 8, vals 9, vals 10, vals 11, vals 12, vals 14, x87, x88, x89, x90, x91, x92, x93, x94, x95, x96, x97, x98, x99, x100, x101, x102, x103, x104, x105, x106, x107, x108, x109, x110, x111, x112, x113, x114, x115, x116, x117, x118, x119, x120, x121, x122, x123, x124, x125, x126, x127], defers := d } := by kernel_rfl
def swEx (S a b p q : Value) (x y : Value) : Nat → Value
  | 0 => S | 1 => a | 2 => S | 3 => b | 4 => S | 5 => b | 6 => q | 7 => y | 8 => S | 9 => a | 10 => p | 11 => x | 12 => p | _ => q
structure SwI (W0 W1 W2 : World) (ex : Nat → Value) (L : Nat → Bool) (vals : Nat → Value) (V : World) : Prop where
  v : ∀ i, i ≠ 13 → i ≠ 15 → L i = true → vals i = ex i
  w0 : L 13 = false → V = W0
  w1 : L 13 = true → L 15 = false → V = W1
  w2 : L 15 = true → V = W2
  c : L 13 = true → L 7 = true ∧ L 11 = true
  d : L 15 = true → L 13 = true
theorem SwI.start (W0 W1 W2 : World) (ex : Nat → Value) : SwI W0 W1 W2 ex (fun _ => false) (fun _ => undef) W0 :=
  ⟨(fun _ _ _ h => nomatch h), (fun _ => rfl), (fun h => nomatch h), (fun h => nomatch h), (fun h => nomatch h), (fun h => nomatch h)⟩
theorem also_ne {L : Nat → Bool} {i j : Nat} (h : j ≠ i) : also L i j = L j := by unfold also; rw [if_neg h]
theorem also_eq {L : Nat → Bool} {i : Nat} : also L i i = true := by unfold also; rw [if_pos rfl]
theorem also_of {L : Nat → Bool} {i j : Nat} (h : L j = true) : also L i j = true := by unfold also; split; rfl; exact h
theorem SwI.quiet {W0 W1 W2 : World} {ex : Nat → Value} {L : Nat → Bool} {vals : Nat → Value} {V : World} (h : SwI W0 W1 W2 ex L vals V) (i : Nat) (h13 : i ≠ 13) (h15 : i ≠ 15) {v : Value} (hv : v = ex i) : SwI W0 W1 W2 ex (also L i) (withV vals i v) V := by
  have e13 : also L i 13 = L 13 := also_ne (Ne.symm h13)
  have e15 : also L i 15 = L 15 := also_ne (Ne.symm h15)
  refine ⟨fun j hj1 hj2 hl => ?_, fun hl => h.w0 (e13 ▸ hl), fun hl hk => h.w1 (e13 ▸ hl) (e15 ▸ hk), fun hl => h.w2 (e15 ▸ hl), fun hl => ?_, fun hl => ?_⟩
  · unfold withV
    by_cases hji : j = i
    · rw [if_pos hji, hji]; exact hv
    · rw [if_neg hji]
      rw [also_ne hji] at hl
      exact h.v j hj1 hj2 hl
  · rw [e13] at hl
    have := h.c hl
    exact ⟨also_of this.1, also_of this.2⟩
  · rw [e15] at hl
    rw [e13]
    exact h.d hl
theorem SwI.st1 {W0 W1 W2 : World} {ex : Nat → Value} {L : Nat → Bool} {vals : Nat → Value} {V : World} (h : SwI W0 W1 W2 ex L vals V) (hl : L 13 = false) (h7 : L 7 = true) (h11 : L 11 = true) (v : Value) : SwI W0 W1 W2 ex (also L 13) (withV vals 13 v) W1 := by
  have e15 : also L 13 15 = L 15 := also_ne (by decide)
  have hf : L 15 = false := by
    cases h15 : L 15 with
    | false => rfl
    | true => have := h.d h15; rw [hl] at this; cases this
  refine ⟨fun j hj1 hj2 hj => ?_, fun hk => ?_, fun _ _ => rfl, fun hk => ?_, fun _ => ⟨also_of h7, also_of h11⟩, fun _ => also_eq⟩
  · unfold withV
    rw [if_neg hj1]
    rw [also_ne hj1] at hj
    exact h.v j hj1 hj2 hj
  · rw [also_eq] at hk; cases hk
  · rw [e15, hf] at hk; cases hk
theorem SwI.st2 {W0 W1 W2 : World} {ex : Nat → Value} {L : Nat → Bool} {vals : Nat → Value} {V : World} (h : SwI W0 W1 W2 ex L vals V) (hl : L 13 = true) (v : Value) : SwI W0 W1 W2 ex (also L 15) (withV vals 15 v) W2 := by
  have e13 : also L 15 13 = L 13 := also_ne (by decide)
  refine ⟨fun j hj1 hj2 hj => ?_, fun hk => ?_, fun _ hk => ?_, fun _ => rfl, fun hk => ?_, fun _ => by rw [e13]; exact hl⟩
  · unfold withV
    rw [if_neg hj2]
    rw [also_ne hj2] at hj
    exact h.v j hj1 hj2 hj
  · rw [e13, hl] at hk; cases hk
  · rw [also_eq] at hk; cases hk
  · have := h.c hl
    exact ⟨also_of this.1, also_of this.2⟩
end Go.Proofs.Ytgndbpkgehjelaa
