/- The reference's Field, Check and Made. -/
import Derived.Test.YtlnfpkknhmiegaaDoorR1
import Derived.Test.YtlnfpkknhmiegaaDoorE3
namespace Go.Proofs.YtlnfpkknhmiegaaDoor
open Go Go.RowKit

theorem w1 : wrap64 1 = 1 := by unfold wrap64; omega
theorem w2 : wrap64 2 = 2 := by unfold wrap64; omega
theorem w3 : wrap64 3 = 3 := by unfold wrap64; omega
theorem w4 : wrap64 4 = 4 := by unfold wrap64; omega

theorem rfield (a b c d : Int) : PConfigChecks.seepageref39_Field.f 9 a b c d = some (fieldOf a b c d) := by
  simp only [PConfigChecks.seepageref39_Field.f, PConfigChecks.seepageref39_Fields.f, PConfigChecks.seepageref39_Rows.f, Option.bind_some]
  simp [PConfigChecks.seepageref39_Field.l0, YtlnfpkknhmiegaaDoorW.PrintWords.rd, PConfigChecks.rd_T85, w1, w2, w3, w4]
  unfold fieldOf
  (repeat' split) <;> first | rfl | (exfalso; omega)
theorem rcheck (a b c d : Int) : PConfigChecks.seepageref39_Check.f 9 a b c d = some (chk a b c d) := by
  simp only [PConfigChecks.seepageref39_Check.f, rfield, Option.bind_some]
  by_cases h : Valid a b c d
  · rw [fieldOf_valid h, chk_ok h, if_pos (by decide +kernel)]
  · have hb := fieldOf_bad h
    rw [chk_bad h, if_neg (fun e => by rw [e] at hb; exact absurd hb (by decide))]
theorem rcheck_any (a b c d : Int) (w : World) :
    Calls Tryd.prog 30 #[quad a b c d] w fun e w' => e = .returned (.int .i64 (chk a b c d)) ∧ Below w.heap.size w w' :=
  PConfigChecks.seepageref39_Check.calls 9 a b c d _ w (rcheck a b c d)
theorem rfield_any (a b c d : Int) (w : World) :
    Calls Tryd.prog 31 #[quad a b c d] w fun e w' => e = .returned (.string (fieldOf a b c d)) ∧ Below w.heap.size w w' :=
  PConfigChecks.seepageref39_Field.calls 9 a b c d _ w (rfield a b c d)

/-- Four numbers in a row. -/
structure L4 (g : Nat) (a b c d : Int) (w : World) : Prop where
  bh : w.heap[g]? = some (.cells #[.int .i64 a, .int .i64 b, .int .i64 c, .int .i64 d] 2 (0, 0))
theorem rmade_any (g : Nat) (a b c d : Int) (w : World) (h : L4 g a b c d w) :
    Calls Tryd.prog 41 #[.slice (some ⟨g, 0, none⟩) 4 4] w fun e w' => e = .returned (quad a b c d) ∧ Below w.heap.size w w' := by
  obtain ⟨hlt, h0, h1, h2, h3⟩ := quad_at h.bh
  clear h
  go_enter Tryd.func41, Tryd.ntmps41
  go_wp2
  go_region
  go_wp2
  exact bodyPost_ret (v := quad a b c d) (by simp [results, Tryd.results41, go_sem]) rfl ⟨rfl, ((Below.refl _ _).alloc (Nat.le_refl _) _).drew⟩
end Go.Proofs.YtlnfpkknhmiegaaDoor
