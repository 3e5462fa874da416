/- KruskalSwaps: for every input the function returns true, nothing panics, and the input reads as it did. -/
import Derived.Test.YtobaodkcjjgkdaaMa11
namespace Go.Proofs.Ytobaodkcjjgkdaa.kruskalSwaps
open Go Go.RowKit Go.ChangeShapes Go.WideShapes Go.ChangeAt

set_option maxRecDepth 100000 in
theorem lifted (os : Os) (started : os.Started) (H : Type) (enc : TypeId × Value → H) :
    ReturnsInHanded {} Try.checked os 5 .any (Rows.kruskalSwapsSpec.pre6 enc Try.prog Try.f5 Rows.kruskalSwapsRow.domain false) (Rows.kruskalSwapsSpec.post enc Try.prog Try.f5 false true false false) := by
  refine returnsInHanded_of_change (C := Try.checked) own started (by kernel_rfl) Try.func5
    (ChangeSpec.witness6 (enc := enc) (C := Try.checked) false ⟨#[], #[.int .i64 0, .slice none 0 0, .agg #[.int .i64 0, .int .i64 0, .int .i64 0]], []⟩ 8 (by kernel_rfl) (by kernel_rfl) (by kernel_rfl) (by kernel_rfl)) ?_
  intro W base args ds gs before hval0 hW _ _
  have hval : ∀ (j : Nat) t v, Try.f5.params[j]? = some t → args[j]? = some v → Value.okWide Try.prog W .any base t v := hval0
  have hW' := hW
  obtain ⟨p, q, hA0, hV, rfl, -, -⟩ := hW
  have hA : DataW.TrodAll enc Try.prog W 0 (fun _ => true) true Try.f5.params.toList args.toList ds p := hA0
  rw [Try.params5] at hA hval
  obtain ⟨v0, vs0, d0, ds0, p0, q0, hargs, rfl, rfl, h0, r0⟩ := trodAll_cons hA
  obtain ⟨v1, vs1, d1, ds1, p1, q1, rfl, rfl, rfl, h1, r1⟩ := trodAll_cons r0
  obtain ⟨v2, vs2, d2, ds2, p2, q2, rfl, rfl, rfl, h2, r2⟩ := trodAll_cons r1
  obtain ⟨rfl, rfl, rfl⟩ := trodAll_nil r2
  obtain rfl : args = #[v0, v1, v2] := by cases args; simp_all
  obtain ⟨rfl, rfl⟩ := trodVars_none hV
  obtain ⟨x0, rfl, rfl, rfl, w0⟩ := open_int Try.underlying3 (hval 0 _ v0 rfl rfl) h0
  obtain ⟨A1, l1, c1, rfl, hc1, hE1, w1⟩ := open_edges (hval 1 _ v1 rfl rfl) h1
  obtain ⟨U2, V2, X2, rfl, w2⟩ := open_edge (hval 2 _ v2 rfl rfl) h2
  clear hA0 hval0
  exact (swaps_row x0 A1 c1 l1 ⟨U2, V2, X2⟩ W (i64_wf w0) hE1 hc1 w1 w2).mono fun e W' ⟨he, hb⟩ => ⟨_, he, answered laidOut (by kernel_rfl) rfl rfl Try.underlying4 hW' rfl hb⟩
theorem over : Rows.KruskalSwapsSaid :=
  OpenClaim.holds_of_wide 5 Try.f5 rfl rfl rfl rfl rfl rfl rfl ⟨rfl, rfl, rfl, rfl, rfl⟩ rfl rfl rfl rfl rfl (by kernel_rfl) Try.func5 (by kernel_rfl)
    (of_decide_eq_true (by kernel_rfl)) (by unfold Func.isWrapper; first | (rw [if_pos (by decide +kernel)]; kernel_rfl) | (rw [if_neg (by decide +kernel)]; exact ⟨rfl, rfl⟩))
    (fun os started H enc _ => lifted os started H enc)
end Go.Proofs.Ytobaodkcjjgkdaa.kruskalSwaps
namespace Go.Proofs.Ytobaodkcjjgkdaa
/-- The row. -/
theorem kruskalSwaps_holds : Rows.KruskalSwapsSaid := kruskalSwaps.over
end Go.Proofs.Ytobaodkcjjgkdaa
