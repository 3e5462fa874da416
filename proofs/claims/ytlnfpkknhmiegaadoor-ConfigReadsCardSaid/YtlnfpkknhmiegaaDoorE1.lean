/- A drawn configuration is valid. -/
import Derived.Test.YtlnfpkknhmiegaaDoorC2
namespace Go.Proofs.YtlnfpkknhmiegaaDoor
open Go Go.RowKit

/-- What 'drawn' makes of four numbers. -/
def dr0 (a : Int) : Int := 1 + a % 9223372036854775807
def dr1 (b : Int) : Int := 1 + b % 16384
def dr2 (c : Int) : Int := 2 + c % 4095
def dr3 (d : Int) : Int := d % 16385
theorem dr_valid (a b c d : Int) : Valid (dr0 a) (dr1 b) (dr2 c) (dr3 d) := by
  unfold Valid dr0 dr1 dr2 dr3; omega

set_option maxHeartbeats 1000000 in
theorem drawn_any (a b c d : Int) (w : World) (ha : 0 ≤ a ∧ a ≤ 18446744073709551615) (hb : 0 ≤ b ∧ b ≤ 65535) (hc : 0 ≤ c ∧ c ≤ 65535) (hd : 0 ≤ d ∧ d ≤ 65535) :
    Calls Tryd.prog 15 #[.int .u64 a, .int .u16 b, .int .u16 c, .int .u16 d] w fun e w' => e = .returned (quad (dr0 a) (dr1 b) (dr2 c) (dr3 d)) ∧ Below w.heap.size w w' := by
  obtain ⟨ha0, ha1⟩ := ha
  obtain ⟨hb0, hb1⟩ := hb
  obtain ⟨hc0, hc1⟩ := hc
  obtain ⟨hd0, hd1⟩ := hd
  go_enter Tryd.func15, Tryd.ntmps15
  go_wp2
  exact bodyPost_ret (v := quad (dr0 a) (dr1 b) (dr2 c) (dr3 d)) (by simp [results, Tryd.results15, go_sem, dr0, dr1, dr2, dr3]) rfl ⟨rfl, (Below.refl _ _).alloc (Nat.le_refl _) _⟩
end Go.Proofs.YtlnfpkknhmiegaaDoor
