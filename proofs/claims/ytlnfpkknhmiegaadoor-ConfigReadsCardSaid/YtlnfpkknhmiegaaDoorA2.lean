/- Contracts of config.Clamp. -/
import Derived.Test.YtlnfpkknhmiegaaDoorA1
import Derived.RegionTactic
import Derived.BigRegion
namespace Go.Proofs.YtlnfpkknhmiegaaDoor
open Go Go.RowKit

def mn (x y : Int) : Int := if y < x then y else x
def mx (x y : Int) : Int := if y > x then y else x
theorem run_mn {P : Program} (ts : Array TypeId) (t : TypeId) (k k' : IntKind) (x y : Int) (w : World) : (Builtin.min_ ts t #[.int k x, .int k' y]).run P w = .ok (.int k (mn x y)) w := by
  simp [Builtin.min_, Builtin.min2, mn]
theorem run_mx {P : Program} (ts : Array TypeId) (t : TypeId) (k k' : IntKind) (x y : Int) (w : World) : (Builtin.max_ ts t #[.int k x, .int k' y]).run P w = .ok (.int k (mx x y)) w := by
  simp [Builtin.max_, Builtin.max2, mx]
attribute [local go_sem ↓] run_mn run_mx
attribute [local go_sem] ix0 ix1 ix2 ix3

theorem cells_of_block {w : World} {b : Nat} {cs : Array Value} {t : TypeId} {fr : Nat × Nat} (h : w.heap[b]? = some (.cells cs t fr)) (i : Nat) : w.cell? ⟨b, i, none⟩ = cs[i]? := by
  simp [World.cell?, h]
theorem frozen_of_block {w : World} {b : Nat} {cs : Array Value} {t : TypeId} (h : w.heap[b]? = some (.cells cs t (0, 0))) (i : Nat) : w.frozen? ⟨b, i, none⟩ = false := by
  simp [World.frozen?, h]
theorem block_new (w : World) (o : Obj) (n : Nat) (h : n = w.heap.size) : (w.alloc o).heap[n]? = some o := by
  subst h
  show (w.heap.push o)[w.heap.size]? = _
  simp

set_option maxRecDepth 100000 in
set_option maxHeartbeats 1000000 in
theorem clamp_any (a b c d : Int) (w : World) (hT : Tab w) :
    Calls Tryd.prog 21 #[quad a b c d] w fun e w' => e = .returned (quad (mx 1 (mn a 9223372036854775807)) (mx 1 (mn b 16384)) (mx 2 (mn c 4096)) (mx 0 (mn d 16384))) ∧ Below w.heap.size w w' := by
  have hp := hT.pos
  have HT := Lib.hid hT; clear hT
  go_enter Tryd.func21, Tryd.ntmps21
  go_wp2_with (go_at_call 35; refine (fields_any _ _ _ _ _).mono ?_; rintro e w1 ⟨rfl, hb⟩; refine Hid.out ?_)
  have hb1 : Below w.heap.size w w1 := (((Below.refl _ _).alloc (Nat.le_refl _) _).alloc (by simp) _).trans (hb.mono (by simp; omega))
  have hs : w.heap.size < w1.heap.size := by have := hb.size; simp at this; omega
  have HB1 := Lib.hid hb1
  have hblk : w1.heap[w.heap.size + 1]? = some (.cells #[.int .i64 0, .int .i64 0, .int .i64 0, .int .i64 0] 24 (0, 0)) := by
    rw [hb.block _ (by simp)]
    exact block_new (w.alloc _) _ _ (by simp)
  have HBK := Lib.hid hblk; clear hblk
  have hs2 : w.heap.size + 1 < w1.heap.size := by have := hb.size; simp at this; omega
  obtain ⟨n0, l0, m0, n1, l1, m1, n2, l2, m2, n3, l3, m3⟩ := HT.out.below hp hb1
  have hp1 := World.block_lt_of_cell? w1 _ n0
  clear hb hb1 hp n0 n1 n2 n3
  refine Lib.hid ?_
  go_wp2
  refine wp_loop_rounds 5 ?_
  rw [rounds_succ]; go_wp2
  go_region
  go_wp2; rw [rounds_succ]; go_wp2; go_region
  go_wp2; rw [rounds_succ]; go_wp2; go_region
  go_wp2; rw [rounds_succ]; go_wp2; go_region
  go_wp2; rw [rounds_succ]
  go_wp2_with (go_at_call 37; refine (made_any _ _ _ _ _).mono ?_; rintro e w2 ⟨rfl, hb2⟩; refine Hid.out ?_)
  have hb3 : Below w.heap.size w w2 := HB1.out.trans (((((((Below.refl _ _).alloc (Nat.le_of_lt hs) _).drew).drew).drew).drew).trans (hb2.mono (by simp; omega)))
  have hblk2 : w2.heap[w.heap.size + 1]? = some (.cells #[.int .i64 0, .int .i64 0, .int .i64 0, .int .i64 0] 24 (0, 0)) := by
    rw [hb2.block _ (by simp; omega)]
    exact (Below.heap_alloc w1 _ _ hs2).trans HBK.out
  have hz : w.heap.size + 1 < w2.heap.size := (Array.getElem?_eq_some_iff.1 hblk2).1
  have k0 := cells_of_block hblk2 0
  have k1 := cells_of_block hblk2 1
  have k2 := cells_of_block hblk2 2
  have k3 := cells_of_block hblk2 3
  have z0 := frozen_of_block hblk2 0
  have z1 := frozen_of_block hblk2 1
  have z2 := frozen_of_block hblk2 2
  have z3 := frozen_of_block hblk2 3
  have HB3 := Lib.hid hb3
  clear hb3 hb2 l0 m0 l1 m1 l2 m2 l3 m3 hblk2
  simp at k0 k1 k2 k3
  refine Lib.hid ?_
  go_wp2
  refine bodyPost_ret (v := quad (mx 1 (mn a 9223372036854775807)) (mx 1 (mn b 16384)) (mx 2 (mn c 4096)) (mx 0 (mn d 16384))) (by simp [results, Tryd.results21, go_sem, k0, k1, k2, k3]) rfl ⟨rfl, ?_⟩
  repeat (refine Below.setCell ?_ (by simp) _)
  exact HB3.out
end Go.Proofs.YtlnfpkknhmiegaaDoor
