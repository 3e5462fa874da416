/- The contract of the statements' own 'same'. -/
import Derived.Test.YtlnfpkknhmiegaaDoorE3
namespace Go.Proofs.YtlnfpkknhmiegaaDoor
open Go Go.RowKit

set_option maxRecDepth 100000 in
set_option maxHeartbeats 1000000 in
theorem same_true (ga oa gb ob ca cb : Nat) (xs : List Int) (w : World) (hl : xs.length ≤ 4294967280) (hx : ∀ j, j < xs.length → w.cell? ⟨ga, oa + j, none⟩ = some (.int .u8 (xs.getD j 0))) (hy : ∀ j, j < xs.length → w.cell? ⟨gb, ob + j, none⟩ = some (.int .u8 (xs.getD j 0))) :
    Calls Tryd.prog 27 #[.slice (some ⟨ga, oa, none⟩) xs.length ca, .slice (some ⟨gb, ob, none⟩) xs.length cb] w fun e w' => e = .returned (.bool true) ∧ Below w.heap.size w w' := by
  have HX := Lib.hid hx; have HY := Lib.hid hy
  clear hx hy
  go_enter Tryd.func27, Tryd.ntmps27
  go_wp2
  go_loopw [5] (fun i wr => ∃ k : Nat, k ≤ xs.length ∧ i = .int .i64 k ∧ (∀ p, wr.cell? p = w.cell? p) ∧ Below w.heap.size w wr) (fun i _ => xs.length - (intOf i).toNat)
  case atStart => exact ⟨0, by omega, rfl, fun _ => rfl, Below.refl _ _⟩
  case round =>
    obtain ⟨k, hk, rfl, hc, hb⟩ := hrel
    have HC := Lib.hid hc; have HB := Lib.hid hb
    by_cases hlt : k < xs.length
    · have h1 := (hc _).trans (HX.out k hlt)
      have h2 := (hc _).trans (HY.out k hlt)
      clear hc hb
      generalize xs.getD k 0 = v at *
      go_wp2
      go_region
      go_wp2
      go_roundw
      case rel => exact ⟨k + 1, by omega, by go_num, fun p => HC.out p, HB.out.drew⟩
      case measure => simp [intOf]; omega
    · have hkn : k = xs.length := by omega
      subst hkn
      clear hc hb
      go_wp2
      go_ret
      exact ⟨rfl, HB.out⟩
end Go.Proofs.YtlnfpkknhmiegaaDoor
