/- KruskalLeast: for every input the function returns true, nothing panics, and the input reads as it did. -/
import Derived.Test.YtobaodkcjjgkdaaMa14
namespace Go.Proofs.Ytobaodkcjjgkdaa.kruskalLeast
open Go Go.RowKit Go.ChangeShapes Go.WideShapes Go.ChangeAt

set_option maxRecDepth 100000 in
theorem lifted (os : Os) (started : os.Started) (H : Type) (enc : TypeId × Value → H) :
    ReturnsInHanded {} Try.checked os 9 .any (Rows.kruskalLeastSpec.pre6 enc Try.prog Try.f9 Rows.kruskalLeastRow.domain false) (Rows.kruskalLeastSpec.post enc Try.prog Try.f9 false true false false) := by
  refine returnsInHanded_of_change (C := Try.checked) own started (by kernel_rfl) Try.func9
    (ChangeSpec.witness6 (enc := enc) (C := Try.checked) false ⟨#[], #[.slice none 0 0, .slice none 0 0], []⟩ 8 (by kernel_rfl) (by kernel_rfl) (by kernel_rfl) (by kernel_rfl)) ?_
  intro W base args ds gs before hval0 hW _ _
  have hval : ∀ (j : Nat) t v, Try.f9.params[j]? = some t → args[j]? = some v → Value.okWide Try.prog W .any base t v := hval0
  have hW' := hW
  obtain ⟨p, q, hA0, hV, rfl, -, -⟩ := hW
  have hA : DataW.TrodAll enc Try.prog W 0 (fun _ => true) true Try.f9.params.toList args.toList ds p := hA0
  rw [Try.params9] at hA hval
  obtain ⟨v0, vs0, d0, ds0, p0, q0, hargs, rfl, rfl, h0, r0⟩ := trodAll_cons hA
  obtain ⟨v1, vs1, d1, ds1, p1, q1, rfl, rfl, rfl, h1, r1⟩ := trodAll_cons r0
  obtain ⟨rfl, rfl, rfl⟩ := trodAll_nil r1
  obtain rfl : args = #[v0, v1] := by cases args; simp_all
  obtain ⟨rfl, rfl⟩ := trodVars_none hV
  obtain ⟨A0, l0, c0, rfl, hc0, hE0, w0⟩ := open_links (hval 0 _ v0 rfl rfl) h0
  obtain ⟨A1, l1, c1, rfl, hc1, hE1, w1⟩ := open_i8s (hval 1 _ v1 rfl rfl) h1
  clear hA0 hval0
  exact (least_row A0 c0 l0 A1 c1 l1 W hE0 hc0 w0 hE1 hc1 w1).mono fun e W' ⟨he, hb⟩ => ⟨_, he, answered laidOut (by kernel_rfl) rfl rfl Try.underlying4 hW' rfl hb⟩
theorem over : Rows.KruskalLeastSaid :=
  OpenClaim.holds_of_wide 9 Try.f9 rfl rfl rfl rfl rfl rfl rfl ⟨rfl, rfl, rfl, rfl, rfl⟩ rfl rfl rfl rfl rfl (by kernel_rfl) Try.func9 (by kernel_rfl)
    (of_decide_eq_true (by kernel_rfl)) (by unfold Func.isWrapper; first | (rw [if_pos (by decide +kernel)]; kernel_rfl) | (rw [if_neg (by decide +kernel)]; exact ⟨rfl, rfl⟩))
    (fun os started H enc _ => lifted os started H enc)
end Go.Proofs.Ytobaodkcjjgkdaa.kruskalLeast
namespace Go.Proofs.Ytobaodkcjjgkdaa
/-- The row. -/
theorem kruskalLeast_holds : Rows.KruskalLeastSaid := kruskalLeast.over
end Go.Proofs.Ytobaodkcjjgkdaa
