/- A list of bytes that came in. -/
import Derived.Test.YtlnfpkknhmiegaaDoorD3
import Derived.Test.YtlnfpkknhmiegaaDoorP3
namespace Go.Proofs.YtlnfpkknhmiegaaDoor
open Go Go.RowKit Go.ChangeShapes Go.WideShapes Go.ChangeAt

theorem size5 : Tryd.prog.cellsOf 5 = 1 := by kernel_rfl
set_option maxRecDepth 100000 in
theorem open_list {H : Type} {enc : TypeId × Value → H} {W : World} {base : Nat} {v : Value} {d : DataW H} {p : List MemPlace} (hv : Value.okWide Tryd.prog W .any base 34 v) (h : DataW.Trod enc Tryd.prog W 0 (fun _ => true) true 34 v d p) :
    v = .slice none 0 0 ∨ ∃ (a : Addr) (M : List Int) (c : Nat), v = .slice (some a) M.length c ∧ M.length ≤ c ∧ (∀ x ∈ M, IsB x) ∧ ∀ j, j < M.length → W.cell? (a.add j) = some (.int .u8 (M.getD j 0)) := by
  obtain ⟨A, n, c, rfl⟩ := okWide_slice Tryd.underlying34 hv
  obtain ⟨fuel, hf⟩ := h
  rcases open_ints Tryd.underlying34 Tryd.underlying5 size5 hf with ⟨hcs, -⟩ | ⟨a, len, cap, zs, hcs, -, hle, -, hlen, -, hcell, hwf⟩
  · left
    simpa [Value.cells] using hcs
  · right
    have e : A = some a ∧ n = len ∧ c = cap := by simpa [Value.cells] using hcs
    obtain ⟨rfl, rfl, rfl⟩ := e
    have hz : zs.length = c := by simpa using hlen
    have hl : (zs.take n).length = n := by rw [List.length_take]; omega
    refine ⟨a, zs.take n, c, by rw [hl], by omega, fun x hx => ?_, fun j hj => ?_⟩
    · have := hwf x (List.mem_of_mem_take hx)
      simpa [Lit.wf, IntKind.min, IntKind.max, IntKind.signed, IntKind.bits, IsB] using this
    · rw [hcell j (by omega)]
      rw [List.getD_eq_getElem?_getD, List.getD_eq_getElem?_getD, List.getElem?_take_of_lt (by omega)]
end Go.Proofs.YtlnfpkknhmiegaaDoor
