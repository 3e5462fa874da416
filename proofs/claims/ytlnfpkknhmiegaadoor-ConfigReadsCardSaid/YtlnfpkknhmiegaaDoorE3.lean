/- One step towards a number; what clamping does to a configuration. -/
import Derived.Test.YtlnfpkknhmiegaaDoorE1
namespace Go.Proofs.YtlnfpkknhmiegaaDoor
open Go Go.RowKit

/-- The number that is 1 nearer. -/
def stp (x y : Int) : Int := if y > x then x + 1 else if y < x then x - 1 else x
theorem step_any (x y : Int) (w : World) (hx : -9223372036854775808 ≤ x ∧ x ≤ 9223372036854775807) (hy : -9223372036854775808 ≤ y ∧ y ≤ 9223372036854775807) :
    Calls Tryd.prog 22 #[.int .i64 x, .int .i64 y] w fun e w' => e = .returned (.int .i64 (stp x y)) ∧ Below w.heap.size w w' := by
  obtain ⟨hx0, hx1⟩ := hx
  obtain ⟨hy0, hy1⟩ := hy
  go_enter Tryd.func22, Tryd.ntmps22
  go_wp2
  all_goals go_ret
  all_goals refine ⟨?_, Below.refl _ _⟩
  all_goals (unfold stp; first | (rw [if_pos (by omega)]; rfl) | (rw [if_neg (by omega), if_pos (by omega)]; rfl) | (rw [if_neg (by omega), if_neg (by omega)]; rfl))

/-- The nearest number between two. -/
def cl (lo hi v : Int) : Int := mx lo (mn v hi)
theorem cl_eq {lo hi v : Int} (h0 : lo ≤ v) (h1 : v ≤ hi) : cl lo hi v = v := by unfold cl mx mn; (repeat' split) <;> omega
theorem cl_in {lo hi v : Int} (h : lo ≤ hi) : lo ≤ cl lo hi v ∧ cl lo hi v ≤ hi := by unfold cl mx mn; (repeat' split) <;> omega
theorem cl_ne {lo hi v : Int} (h : v ≠ cl lo hi v) (hl : lo ≤ hi) : (v < lo ∧ cl lo hi v = lo) ∨ (hi < v ∧ cl lo hi v = hi) := by revert h; unfold cl mx mn; (repeat' split) <;> omega
theorem stp_self (x : Int) : stp x x = x := by simp [stp]
theorem stp_out {lo hi v : Int} (h : v ≠ cl lo hi v) (hl : lo ≤ hi) : (stp (cl lo hi v) v = lo - 1 ∧ cl lo hi v = lo ∧ v < lo) ∨ (stp (cl lo hi v) v = hi + 1 ∧ cl lo hi v = hi ∧ hi < v) := by
  rcases cl_ne h hl with ⟨a, b⟩ | ⟨a, b⟩ <;> rw [b] <;> unfold stp
  · exact .inl ⟨by rw [if_neg (by omega), if_pos a], rfl, a⟩
  · exact .inr ⟨by rw [if_pos a], rfl, a⟩
theorem cl_valid (a b c d : Int) : Valid (cl 1 9223372036854775807 a) (cl 1 16384 b) (cl 2 4096 c) (cl 0 16384 d) := by
  have h0 := @cl_in 1 9223372036854775807 a (by decide)
  have h1 := @cl_in 1 16384 b (by decide)
  have h2 := @cl_in 2 4096 c (by decide)
  have h3 := @cl_in 0 16384 d (by decide)
  exact ⟨h0.1, h0.2, h1.1, h1.2, h2.1, h2.2, h3.1, h3.2⟩
theorem clamp_cl (a b c d : Int) (w : World) (hT : Tab w) :
    Calls Tryd.prog 21 #[quad a b c d] w fun e w' => e = .returned (quad (cl 1 9223372036854775807 a) (cl 1 16384 b) (cl 2 4096 c) (cl 0 16384 d)) ∧ Below w.heap.size w w' := clamp_any a b c d w hT
/-- A valid configuration is left as it is. -/
theorem clamp_valid (a b c d : Int) (w : World) (hT : Tab w) (hv : Valid a b c d) :
    Calls Tryd.prog 21 #[quad a b c d] w fun e w' => e = .returned (quad a b c d) ∧ Below w.heap.size w w' := by
  have h := clamp_any a b c d w hT
  obtain ⟨h0, h1, h2, h3, h4, h5, h6, h7⟩ := hv
  have e0 := @cl_eq 1 9223372036854775807 a h0 h1
  have e1 := @cl_eq 1 16384 b h2 h3
  have e2 := @cl_eq 2 4096 c h4 h5
  have e3 := @cl_eq 0 16384 d h6 h7
  unfold cl at e0 e1 e2 e3
  rw [e0, e1, e2, e3] at h
  exact h
/-- 0 for a valid configuration, 2 for others. -/
def chk (a b c d : Int) : Int := if 1 ≤ a ∧ a ≤ 9223372036854775807 ∧ 1 ≤ b ∧ b ≤ 16384 ∧ 2 ≤ c ∧ c ≤ 4096 ∧ 0 ≤ d ∧ d ≤ 16384 then 0 else 2
theorem chk_ok {a b c d : Int} (h : Valid a b c d) : chk a b c d = 0 := if_pos h
theorem chk_bad {a b c d : Int} (h : ¬ Valid a b c d) : chk a b c d = 2 := if_neg h
theorem check_any (a b c d : Int) (w : World) (hT : Tab w) :
    Calls Tryd.prog 18 #[quad a b c d] w fun e w' => e = .returned (.int .i64 (chk a b c d)) ∧ Below w.heap.size w w' := by
  by_cases h : Valid a b c d
  · rw [chk_ok h]; exact check_ok a b c d w hT h
  · rw [chk_bad h]; exact check_bad a b c d w hT h
/-- Two configurations are the same. -/
def same4 (a b c d A B C D : Int) : Bool := decide (a = A ∧ b = B ∧ c = C ∧ d = D)
theorem eq24 (a b c d A B C D : Int) (w : World) : (binOp .eql 24 (quad a b c d) (quad A B C D)).run Tryd.prog w = .ok (.bool (same4 a b c d A B C D)) w := by
  unfold same4
  by_cases h0 : a = A <;> by_cases h1 : b = B <;> by_cases h2 : c = C <;> by_cases h3 : d = D <;> simp [h0, h1, h2, h3, go_sem]
theorem ne24 (a b c d A B C D : Int) (w : World) : (binOp .neq 24 (quad a b c d) (quad A B C D)).run Tryd.prog w = .ok (.bool (!same4 a b c d A B C D)) w := by
  unfold same4
  by_cases h0 : a = A <;> by_cases h1 : b = B <;> by_cases h2 : c = C <;> by_cases h3 : d = D <;> simp [h0, h1, h2, h3, go_sem]
theorem same4_self (a b c d : Int) : same4 a b c d a b c d = true := by simp [same4]

theorem clamp_tells (a b c d : Int) : (same4 a b c d (cl 1 9223372036854775807 a) (cl 1 16384 b) (cl 2 4096 c) (cl 0 16384 d) = true ∧ chk a b c d = 0) ∨ (same4 a b c d (cl 1 9223372036854775807 a) (cl 1 16384 b) (cl 2 4096 c) (cl 0 16384 d) = false ∧ chk a b c d = 2) := by
  by_cases h : Valid a b c d
  · refine .inl ⟨?_, chk_ok h⟩
    obtain ⟨h0, h1, h2, h3, h4, h5, h6, h7⟩ := h
    rw [cl_eq h0 h1, cl_eq h2 h3, cl_eq h4 h5, cl_eq h6 h7, same4_self]
  · refine .inr ⟨?_, chk_bad h⟩
    have hv := cl_valid a b c d
    simp only [same4, decide_eq_false_iff_not]
    rintro ⟨e0, e1, e2, e3⟩
    rw [← e0, ← e1, ← e2, ← e3] at hv
    exact h hv

/-- One field of the original, and the number 1 nearer to it, in the clamped configuration. -/
def Tells (a b c d s0 s1 s2 s3 A B C D : Int) (nm : ByteArray) : Prop :=
  (same4 a b c d A B C D = true ∧ chk a b c d = 0 ∧ same4 s0 s1 s2 s3 A B C D = true ∧ chk s0 s1 s2 s3 = 0) ∨
  (same4 a b c d A B C D = false ∧ chk a b c d = 2 ∧ same4 s0 s1 s2 s3 A B C D = false ∧ chk s0 s1 s2 s3 = 2 ∧ fieldOf a b c d = nm)
theorem near0 (v B C D : Int) (hv : Valid (cl 1 9223372036854775807 v) B C D) : Tells v B C D (stp (cl 1 9223372036854775807 v) v) B C D (cl 1 9223372036854775807 v) B C D sWindow := by
  by_cases h : v = cl 1 9223372036854775807 v
  · left
    rw [← h] at hv ⊢
    rw [stp_self]
    exact ⟨same4_self _ _ _ _, chk_ok hv, same4_self _ _ _ _, chk_ok hv⟩
  · right
    have h1 := stp_out h (by decide)
    generalize cl 1 9223372036854775807 v = V at *
    generalize stp V v = S at *
    unfold Valid at hv
    refine ⟨?_, chk_bad ?_, ?_, chk_bad ?_, ?_⟩
    · simp only [same4, decide_eq_false_iff_not]; omega
    · unfold Valid; omega
    · simp only [same4, decide_eq_false_iff_not]; omega
    · unfold Valid; omega
    · unfold fieldOf; (repeat' split) <;> first | rfl | (exfalso; omega)
theorem near1 (v A C D : Int) (hv : Valid A (cl 1 16384 v) C D) : Tells A v C D A (stp (cl 1 16384 v) v) C D A (cl 1 16384 v) C D sEdges := by
  by_cases h : v = cl 1 16384 v
  · left
    rw [← h] at hv ⊢
    rw [stp_self]
    exact ⟨same4_self _ _ _ _, chk_ok hv, same4_self _ _ _ _, chk_ok hv⟩
  · right
    have h1 := stp_out h (by decide)
    generalize cl 1 16384 v = V at *
    generalize stp V v = S at *
    unfold Valid at hv
    refine ⟨?_, chk_bad ?_, ?_, chk_bad ?_, ?_⟩
    · simp only [same4, decide_eq_false_iff_not]; omega
    · unfold Valid; omega
    · simp only [same4, decide_eq_false_iff_not]; omega
    · unfold Valid; omega
    · unfold fieldOf; (repeat' split) <;> first | rfl | (exfalso; omega)
theorem near2 (v A B D : Int) (hv : Valid A B (cl 2 4096 v) D) : Tells A B v D A B (stp (cl 2 4096 v) v) D A B (cl 2 4096 v) D sVerts := by
  by_cases h : v = cl 2 4096 v
  · left
    rw [← h] at hv ⊢
    rw [stp_self]
    exact ⟨same4_self _ _ _ _, chk_ok hv, same4_self _ _ _ _, chk_ok hv⟩
  · right
    have h1 := stp_out h (by decide)
    generalize cl 2 4096 v = V at *
    generalize stp V v = S at *
    unfold Valid at hv
    refine ⟨?_, chk_bad ?_, ?_, chk_bad ?_, ?_⟩
    · simp only [same4, decide_eq_false_iff_not]; omega
    · unfold Valid; omega
    · simp only [same4, decide_eq_false_iff_not]; omega
    · unfold Valid; omega
    · unfold fieldOf; (repeat' split) <;> first | rfl | (exfalso; omega)
theorem near3 (v A B C : Int) (hv : Valid A B C (cl 0 16384 v)) : Tells A B C v A B C (stp (cl 0 16384 v) v) A B C (cl 0 16384 v) sDraws := by
  by_cases h : v = cl 0 16384 v
  · left
    rw [← h] at hv ⊢
    rw [stp_self]
    exact ⟨same4_self _ _ _ _, chk_ok hv, same4_self _ _ _ _, chk_ok hv⟩
  · right
    have h1 := stp_out h (by decide)
    generalize cl 0 16384 v = V at *
    generalize stp V v = S at *
    unfold Valid at hv
    refine ⟨?_, chk_bad ?_, ?_, chk_bad ?_, ?_⟩
    · simp only [same4, decide_eq_false_iff_not]; omega
    · unfold Valid; omega
    · simp only [same4, decide_eq_false_iff_not]; omega
    · unfold Valid; omega
    · unfold fieldOf; (repeat' split) <;> first | rfl | (exfalso; omega)
theorem Box.set0 {n : Nat} {a b c d : Int} {w : World} (h : Box n a b c d w) (v : Int) : Box n v b c d (w.setCell ⟨n, 0, none⟩ (.int .i64 v)) := ⟨by rw [set_same h.bh]; rfl⟩
theorem Box.set1 {n : Nat} {a b c d : Int} {w : World} (h : Box n a b c d w) (v : Int) : Box n a v c d (w.setCell ⟨n, 1, none⟩ (.int .i64 v)) := ⟨by rw [set_same h.bh]; rfl⟩
theorem Box.set2 {n : Nat} {a b c d : Int} {w : World} (h : Box n a b c d w) (v : Int) : Box n a b v d (w.setCell ⟨n, 2, none⟩ (.int .i64 v)) := ⟨by rw [set_same h.bh]; rfl⟩
theorem Box.set3 {n : Nat} {a b c d : Int} {w : World} (h : Box n a b c d w) (v : Int) : Box n a b c v (w.setCell ⟨n, 3, none⟩ (.int .i64 v)) := ⟨by rw [set_same h.bh]; rfl⟩
theorem Box.setOther {n x : Nat} {a b c d : Int} {w : World} (h : Box n a b c d w) (hne : n ≠ x) (i : Nat) (v : Value) : Box n a b c d (w.setCell ⟨x, i, none⟩ v) := ⟨(Below.heap_setCell _ _ _ _ hne).trans h.bh⟩
theorem Box.frozen {n : Nat} {a b c d : Int} {w : World} (h : Box n a b c d w) (i : Nat) : w.frozen? ⟨n, i, none⟩ = false := frozen_of_block h.bh i
theorem two_new (A B C D : Int) (w : World) : Below w.heap.size w (((w.alloc (.cells #[.int .i64 A, .int .i64 B, .int .i64 C, .int .i64 D] 24)).alloc (.cells #[.int .i64 A, .int .i64 B, .int .i64 C, .int .i64 D] 24)).drew) ∧
    Box w.heap.size A B C D (((w.alloc (.cells #[.int .i64 A, .int .i64 B, .int .i64 C, .int .i64 D] 24)).alloc (.cells #[.int .i64 A, .int .i64 B, .int .i64 C, .int .i64 D] 24)).drew) ∧
    Box (w.heap.size + 1) A B C D (((w.alloc (.cells #[.int .i64 A, .int .i64 B, .int .i64 C, .int .i64 D] 24)).alloc (.cells #[.int .i64 A, .int .i64 B, .int .i64 C, .int .i64 D] 24)).drew) :=
  ⟨(((Below.refl _ _).alloc (Nat.le_refl _) _).alloc (by simp) _).drew, ((Box.new w A B C D).alloc _).drew, ⟨block_new _ _ _ (by simp)⟩⟩
end Go.Proofs.YtlnfpkknhmiegaaDoor
