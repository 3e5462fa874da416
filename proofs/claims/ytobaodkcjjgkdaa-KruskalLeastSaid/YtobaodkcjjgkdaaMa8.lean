/- Wide integers: their digits; From, more, walked. Wide integers: less, size, walked. Wide integers: Plus, Int, walked. kruskal.Swap, walked. -/
import Derived.Test.YtobaodkcjjgkdaaMa7
import Derived.Deep.QuietTactic
import Derived.BigQuiet
namespace Go.Proofs.Ytobaodkcjjgkdaa
open Go Go.RowKit

namespace Wd
/-- The number of some digits, the lowest first. -/
def mag : List Int → Int
  | [] => 0
  | d :: r => d + 4294967296 * mag r
def pw (k : Nat) : Int := 4294967296 ^ k
theorem pw_succ (k : Nat) : pw (k + 1) = pw k * 4294967296 := Int.pow_succ ..
theorem pw_pos (k : Nat) : 0 < pw k := Int.pow_pos (by omega)
theorem mag_snoc (d : Int) : ∀ xs, mag (xs ++ [d]) = mag xs + pw xs.length * d
  | [] => by simp [mag, pw]
  | x :: r => by
    rw [List.cons_append, mag, mag, mag_snoc d r, List.length_cons, pw_succ, Int.mul_add, ← Int.mul_assoc, Int.mul_comm 4294967296 (pw r.length), Int.add_assoc]
structure Dig (ds : List Int) : Prop where
  len : ds.length = 6
  rng : ∀ d ∈ ds, 0 ≤ d ∧ d < 4294967296
theorem mag_rng : ∀ ds : List Int, (∀ d ∈ ds, 0 ≤ d ∧ d < 4294967296) → 0 ≤ mag ds ∧ mag ds < pw ds.length
  | [], _ => by simp [mag, pw]
  | d :: r, h => by
    have h1 := h d (by simp)
    have h2 := mag_rng r fun x hx => h x (by simp [hx])
    rw [mag, List.length_cons, pw_succ]
    omega
theorem Dig.six {ds : List Int} (h : Dig ds) : ∃ a b c d e f, ds = [a, b, c, d, e, f] := by
  have hl := h.len
  match ds, hl with
  | [a, b, c, d, e, f], _ => exact ⟨a, b, c, d, e, f, rfl⟩
theorem Dig.at {ds : List Int} (h : Dig ds) {k : Nat} (hk : k < 6) : 0 ≤ St.v ds k ∧ St.v ds k < 4294967296 := by
  have hl : k < ds.length := by rw [h.len]; exact hk
  rw [show St.v ds k = ds[k] from St.getD_at hl]
  exact h.rng _ (List.getElem_mem hl)
theorem take_succ {xs : List Int} {k : Nat} (hk : k < xs.length) : xs.take (k + 1) = xs.take k ++ [St.v xs k] := by
  rw [List.take_succ_eq_append_getElem hk, show St.v xs k = xs[k] from St.getD_at hk]
theorem mag_take {xs : List Int} {k : Nat} (hk : k < xs.length) : mag (xs.take (k + 1)) = mag (xs.take k) + pw k * St.v xs k := by
  rw [take_succ hk, mag_snoc, List.length_take, Nat.min_eq_left (by omega)]
theorem v_set {xs : List Int} {k : Nat} {d : Int} (hk : k < xs.length) : St.v (xs.set k d) k = d := by
  unfold St.v; rw [List.getD_eq_getElem?_getD, List.getElem?_set]; simp [hk]
theorem take_set (xs : List Int) (k : Nat) (d : Int) : (xs.set k d).take k = xs.take k := by
  rw [List.take_set_of_le (Nat.le_refl k)]
/-- The digits of a sum, and what is carried. -/
def Sm (a b : List Int) (k : Nat) (os : List Int) (c : Int) : Prop := os.length = 6 ∧ 0 ≤ c ∧ c ≤ 1 ∧ (∀ d ∈ os, 0 ≤ d ∧ d < 4294967296) ∧ mag (os.take k) + pw k * c = mag (a.take k) + mag (b.take k)
theorem set_rng {os : List Int} {k : Nat} {d : Int} (h : ∀ x ∈ os, 0 ≤ x ∧ x < 4294967296) (hd : 0 ≤ d ∧ d < 4294967296) : ∀ x ∈ os.set k d, 0 ≤ x ∧ x < 4294967296 := fun x hx => by
  rcases List.mem_or_eq_of_mem_set hx with h1 | h1
  · exact h x h1
  · rw [h1]; exact hd
theorem Sm.step {a b os : List Int} {k : Nat} {c : Int} (h : Sm a b k os c) (ha : Dig a) (hb : Dig b) (hk : k < 6) : Sm a b (k + 1) (os.set k ((St.v a k + St.v b k + c) % 4294967296)) ((St.v a k + St.v b k + c) / 4294967296) := by
  obtain ⟨h1, h2, h3, h4, h5⟩ := h
  have va := ha.at hk
  have vb := hb.at hk
  refine ⟨by rw [List.length_set]; exact h1, by omega, by omega, set_rng h4 (by omega), ?_⟩
  rw [mag_take (by rw [List.length_set]; omega), take_set, v_set (by omega), mag_take (by rw [ha.len]; exact hk), mag_take (by rw [hb.len]; exact hk), pw_succ]
  obtain ⟨s, hs⟩ : ∃ s, s = St.v a k + St.v b k + c := ⟨_, rfl⟩
  rw [← hs]
  have e : s = s % 4294967296 + 4294967296 * (s / 4294967296) := (Int.emod_add_mul_ediv s 4294967296).symm
  have e2 : pw k * s = pw k * (s % 4294967296) + pw k * 4294967296 * (s / 4294967296) := by
    rw [Int.mul_assoc, ← Int.mul_add, ← e]
  have e3 : pw k * s = pw k * St.v a k + pw k * St.v b k + pw k * c := by rw [hs, Int.mul_add, Int.mul_add]
  omega
theorem Sm.start (a b : List Int) : Sm a b 0 (List.replicate 6 0) 0 := ⟨by simp, by omega, by omega, fun d hd => by have := List.eq_of_mem_replicate hd; omega, by simp [mag]⟩
theorem Sm.done {a b os : List Int} {c : Int} (h : Sm a b 6 os c) (ha : Dig a) (hb : Dig b) (hs : mag a + mag b < pw 6) : Dig os ∧ mag os = mag a + mag b := by
  obtain ⟨h1, h2, h3, h4, h5⟩ := h
  rw [List.take_of_length_le (by omega), List.take_of_length_le (by rw [ha.len]; omega), List.take_of_length_le (by rw [hb.len]; omega)] at h5
  refine ⟨⟨h1, h4⟩, ?_⟩
  have := (mag_rng os h4).1
  have hp := pw_pos 6
  rcases (by omega : c = 0 ∨ c = 1) with rfl | rfl
  · omega
  · omega
end Wd
def u64s (ds : List Int) : List Value := ds.map (Value.int .u64)
def digV (ds : List Int) : Value := .agg (u64s ds).toArray
def wideV (s : Bool) (ds : List Int) : Value := .agg (Value.bool s :: u64s ds).toArray
/-- Four digit rows in memory. -/
structure MB (p : Nat) (a b os : List Int) (w : World) : Prop where
  ba : w.heap[p]? = some (.cells (u64s a).toArray 77 (0, 0))
  bb : w.heap[p + 1]? = some (.cells (u64s b).toArray 77 (0, 0))
  br : w.heap[p + 1 + 1]? = some (.cells (u64s (List.replicate 6 0)).toArray 77 (0, 0))
  bo : w.heap[p + 1 + 1 + 1]? = some (.cells (u64s os).toArray 77 (0, 0))
theorem u64s_at {ds : List Int} (hl : ds.length = 6) {k : Nat} (hk : k < 6) : (u64s ds).toArray[k]? = some (.int .u64 (St.v ds k)) := by
  simp [u64s, St.v, List.getD_eq_getElem?_getD, show k < ds.length by omega]
theorem four_new (w : World) (o0 o1 o2 o3 : Obj) (W : World) (hW : W = (((w.alloc o0).alloc o1).alloc o2).alloc o3) :
    W.heap[w.heap.size]? = some o0 ∧ W.heap[w.heap.size + 1]? = some o1 ∧ W.heap[w.heap.size + 1 + 1]? = some o2 ∧ W.heap[w.heap.size + 1 + 1 + 1]? = some o3 ∧ Below w.heap.size w W := by
  subst hW
  have e : ∀ (w : World) (o : Obj) (n : Nat), n < w.heap.size → (w.alloc o).heap[n]? = w.heap[n]? := fun w o n h => Below.heap_alloc w o n h
  refine ⟨?_, ?_, ?_, block_new _ _ _ (by simp), (((((Below.refl _ _).alloc (Nat.le_refl _) _).alloc ?_ _).alloc ?_ _).alloc ?_ _)⟩
  · rw [e _ _ _ (by simp <;> omega), e _ _ _ (by simp <;> omega), e _ _ _ (by simp <;> omega)]
    exact block_new _ _ _ rfl
  · rw [e _ _ _ (by simp <;> omega), e _ _ _ (by simp <;> omega)]
    exact block_new _ _ _ (by simp)
  · rw [e _ _ _ (by simp <;> omega)]
    exact block_new _ _ _ (by simp)
  all_goals (simp <;> omega)
theorem below_drewN' {B : Nat} {a b : World} (h : Below B a b) (n : Nat) : Below B a (b.drewN n) := ⟨h.os, h.tape, h.output, h.size, h.block⟩
theorem MB.drewN {p : Nat} {a b os : List Int} {w : World} (h : MB p a b os w) (n : Nat) : MB p a b os (w.drewN n) := ⟨h.ba, h.bb, h.br, h.bo⟩
theorem MB.set {p : Nat} {a b os : List Int} {w : World} (h : MB p a b os w) (k : Nat) (d : Int) : MB p a b (os.set k d) (w.setCell ⟨p + 1 + 1 + 1, k, none⟩ (.int .u64 d)) := by
  refine ⟨(Below.heap_setCell _ _ _ _ (by show p ≠ p + 1 + 1 + 1; omega)).trans h.ba, (Below.heap_setCell _ _ _ _ (by show p + 1 ≠ p + 1 + 1 + 1; omega)).trans h.bb, (Below.heap_setCell _ _ _ _ (by show p + 1 + 1 ≠ p + 1 + 1 + 1; omega)).trans h.br, (set_same h.bo).trans ?_⟩
  congr 2
  apply Array.ext'
  simp [u64s, List.map_set]

set_option maxRecDepth 1000000 in
set_option maxHeartbeats 4000000 in
theorem from_any (x : Int) (w : World) (h0 : -9223372036854775808 ≤ x) (h1 : x < 9223372036854775808) :
    Calls Try.prog 68 #[.int .i64 x] w fun e w' => (∃ ds, e = .returned (wideV (decide (x < 0)) ds) ∧ Wd.Dig ds ∧ (if x < 0 then - Wd.mag ds else Wd.mag ds) = x ∧ Wd.mag ds ≤ 9223372036854775808) ∧ Below w.heap.size w w' := by
  by_cases hx : x < 0
  · go_enter Try.func68, Try.ntmps68
    go_wp2_with fail
    exact bodyPost_ret (v := wideV true [(-(x + 1) + 1) % 4294967296, (-(x + 1) + 1) / 4294967296, 0, 0, 0, 0]) (by simp [results, Try.results68, go_sem, wideV, u64s]) rfl ⟨⟨[(-(x + 1) + 1) % 4294967296, (-(x + 1) + 1) / 4294967296, 0, 0, 0, 0], rfl, ⟨rfl, by intro d hd; simp only [List.mem_cons, List.not_mem_nil, or_false] at hd; omega⟩, by simp only [Wd.mag]; omega, by simp only [Wd.mag]; omega⟩, ((Below.refl _ _).alloc (Nat.le_refl _) _).alloc (by simp) _⟩
  · go_enter Try.func68, Try.ntmps68
    go_wp2_with fail
    exact bodyPost_ret (v := wideV false [x % 4294967296, x / 4294967296, 0, 0, 0, 0]) (by simp [results, Try.results68, go_sem, wideV, u64s]) rfl ⟨⟨[x % 4294967296, x / 4294967296, 0, 0, 0, 0], rfl, ⟨rfl, by intro d hd; simp only [List.mem_cons, List.not_mem_nil, or_false] at hd; omega⟩, by simp only [Wd.mag]; omega, by simp only [Wd.mag]; omega⟩, ((Below.refl _ _).alloc (Nat.le_refl _) _).alloc (by simp) _⟩

set_option maxRecDepth 1000000 in
set_option maxHeartbeats 4000000 in
theorem more_any (a b : List Int) (w : World) (ha : Wd.Dig a) (hb : Wd.Dig b) (hs : Wd.mag a + Wd.mag b < Wd.pw 6) :
    Calls Try.prog 84 #[digV a, digV b] w fun e w' => (∃ ds, e = .returned (digV ds) ∧ Wd.Dig ds ∧ Wd.mag ds = Wd.mag a + Wd.mag b) ∧ Below w.heap.size w w' := by
  have HA := Lib.hid ha; have HB := Lib.hid hb; have HS := Lib.hid hs
  obtain ⟨a0, a1, a2, a3, a4, a5, rfl⟩ := ha.six
  obtain ⟨b0, b1, b2, b3, b4, b5, rfl⟩ := hb.six
  clear ha hb hs
  have e : ∀ x0 x1 x2 x3 x4 x5, digV [x0, x1, x2, x3, x4, x5] = .agg #[.int .u64 x0, .int .u64 x1, .int .u64 x2, .int .u64 x3, .int .u64 x4, .int .u64 x5] := fun _ _ _ _ _ _ => rfl
  rw [e, e]
  clear e
  go_enter Try.func84, Try.ntmps84
  go_wp2_with fail
  obtain ⟨W0, hW0⟩ : ∃ W0, W0 = (((w.alloc (.cells #[.int .u64 a0, .int .u64 a1, .int .u64 a2, .int .u64 a3, .int .u64 a4, .int .u64 a5] 77)).alloc (.cells #[.int .u64 b0, .int .u64 b1, .int .u64 b2, .int .u64 b3, .int .u64 b4, .int .u64 b5] 77)).alloc (.cells #[.int .u64 0, .int .u64 0, .int .u64 0, .int .u64 0, .int .u64 0, .int .u64 0] 77)).alloc (.cells #[.int .u64 0, .int .u64 0, .int .u64 0, .int .u64 0, .int .u64 0, .int .u64 0] 77) := ⟨_, rfl⟩
  rw [← hW0]
  obtain ⟨m0, m1, m2, m3, hbl⟩ := four_new _ _ _ _ _ _ hW0
  clear hW0
  have HM : Hid (MB w.heap.size [a0, a1, a2, a3, a4, a5] [b0, b1, b2, b3, b4, b5] (List.replicate 6 0) W0) := Lib.hid ⟨m0, m1, m2, m3⟩
  have HBL := Lib.hid hbl
  clear m0 m1 m2 m3 hbl
  generalize hea : [a0, a1, a2, a3, a4, a5] = a at *
  generalize heb : [b0, b1, b2, b3, b4, b5] = b at *
  have HEA := Lib.hid hea; have HEB := Lib.hid heb
  clear hea heb
  go_loopw [6, 7] (fun c i wr => ∃ k : Nat, k ≤ 6 ∧ i = .int .i64 k ∧ ∃ C : Int, c = .int .u64 C ∧ ∃ os, Hid (Wd.Sm a b k os C) ∧ MB w.heap.size a b os wr ∧ Below w.heap.size w wr) (fun _ i _ => 6 - (intOf i).toNat)
  case atStart => exact ⟨0, by omega, rfl, 0, rfl, _, Lib.hid (Wd.Sm.start a b), HM.out, HBL.out⟩
  case round =>
    obtain ⟨k, hk, rfl, C, rfl, os, hsm, hm, hbl⟩ := hrel
    by_cases hlt : k < 6
    · have hlt1 : (k : Int) < 6 := by omega
      have hst := hsm.out.step HA.out HB.out hlt
      have va := HA.out.at hlt
      have vb := HB.out.at hlt
      have vc := hsm.out.2.1
      have vc2 := hsm.out.2.2.1
      have c1 := (cells_of_block hm.ba k).trans (u64s_at HA.out.len hlt)
      have c2 := (cells_of_block hm.bb k).trans (u64s_at HB.out.len hlt)
      have c3 := (cells_of_block hm.bo k).trans (u64s_at hsm.out.1 hlt)
      have f3 := frozen_of_block hm.bo k
      generalize St.v a k = x at *
      generalize St.v b k = y at *
      generalize St.v os k = z at *
      obtain ⟨xa, xb⟩ := va
      obtain ⟨ya, yb⟩ := vb
      have HST := Lib.hid hst; have HMM := Lib.hid hm; have HBB := Lib.hid hbl
      clear hst hsm hm hbl
      go_wp2_with fail
      go_quiet (fail)
      go_wp2_with fail
      exact ⟨⟨k + 1, by omega, by go_num, _, rfl, _, HST, (HMM.out.drewN nq).set k _, ((below_drewN' HBB.out nq).setCell (p := ⟨w.heap.size + 1 + 1 + 1, k, none⟩) (by show w.heap.size ≤ w.heap.size + 1 + 1 + 1; omega) _)⟩, by simp [intOf]; omega⟩
    · have hk6 : k = 6 := by omega
      subst hk6
      obtain ⟨hd, hmag⟩ := hsm.out.done HA.out HB.out HS.out
      have HD := Lib.hid hd; have HMG := Lib.hid hmag; have HBB := Lib.hid hbl
      obtain ⟨o0, o1, o2, o3, o4, o5, rfl⟩ := hd.six
      have r0 : wr.cell? ⟨w.heap.size + 1 + 1, 0, none⟩ = some (.int .u64 0) := cells_of_block hm.br 0
      have r1 : wr.cell? ⟨w.heap.size + 1 + 1, 1, none⟩ = some (.int .u64 0) := cells_of_block hm.br 1
      have r2 : wr.cell? ⟨w.heap.size + 1 + 1, 2, none⟩ = some (.int .u64 0) := cells_of_block hm.br 2
      have r3 : wr.cell? ⟨w.heap.size + 1 + 1, 3, none⟩ = some (.int .u64 0) := cells_of_block hm.br 3
      have r4 : wr.cell? ⟨w.heap.size + 1 + 1, 4, none⟩ = some (.int .u64 0) := cells_of_block hm.br 4
      have r5 : wr.cell? ⟨w.heap.size + 1 + 1, 5, none⟩ = some (.int .u64 0) := cells_of_block hm.br 5
      have f := fun i => frozen_of_block hm.br i
      have p0 : wr.cell? ⟨w.heap.size + 1 + 1 + 1, 0, none⟩ = some (.int .u64 o0) := cells_of_block hm.bo 0
      have p1 : wr.cell? ⟨w.heap.size + 1 + 1 + 1, 1, none⟩ = some (.int .u64 o1) := cells_of_block hm.bo 1
      have p2 : wr.cell? ⟨w.heap.size + 1 + 1 + 1, 2, none⟩ = some (.int .u64 o2) := cells_of_block hm.bo 2
      have p3 : wr.cell? ⟨w.heap.size + 1 + 1 + 1, 3, none⟩ = some (.int .u64 o3) := cells_of_block hm.bo 3
      have p4 : wr.cell? ⟨w.heap.size + 1 + 1 + 1, 4, none⟩ = some (.int .u64 o4) := cells_of_block hm.bo 4
      have p5 : wr.cell? ⟨w.heap.size + 1 + 1 + 1, 5, none⟩ = some (.int .u64 o5) := cells_of_block hm.bo 5
      clear hsm hd hmag hbl hm
      go_wp2_with fail
      refine bodyPost_ret (v := digV [o0, o1, o2, o3, o4, o5]) (by simp [results, Try.results84, go_sem, digV, u64s, r0, r1, r2, r3, r4, r5]) rfl ⟨⟨_, rfl, HD.out, ?_⟩, ?_⟩
      · rw [HMG.out, HEA.out, HEB.out]
      · have q : ∀ {W : World} (i : Nat) (u : Value), Below w.heap.size w W → Below w.heap.size w (W.setCell ⟨w.heap.size + 1 + 1, i, none⟩ u) := fun i u h => h.setCell (by show w.heap.size ≤ w.heap.size + 1 + 1; omega) u
        exact q _ _ (q _ _ (q _ _ (q _ _ (q _ _ (q _ _ HBB.out)))))
end Go.Proofs.Ytobaodkcjjgkdaa
namespace Go.Proofs.Ytobaodkcjjgkdaa
open Go Go.RowKit

namespace Wd
/-- The digits of a difference, and what is borrowed. -/
def Df (a b : List Int) (k : Nat) (os : List Int) (c : Int) : Prop := os.length = 6 ∧ 0 ≤ c ∧ c ≤ 1 ∧ (∀ d ∈ os, 0 ≤ d ∧ d < 4294967296) ∧ mag (os.take k) - pw k * c = mag (a.take k) - mag (b.take k)
theorem Df.step {a b os : List Int} {k : Nat} {c : Int} (h : Df a b k os c) (ha : Dig a) (hb : Dig b) (hk : k < 6) : Df a b (k + 1) (os.set k ((St.v a k + 4294967296 - St.v b k - c) % 4294967296)) (1 - (St.v a k + 4294967296 - St.v b k - c) / 4294967296) := by
  obtain ⟨h1, h2, h3, h4, h5⟩ := h
  have va := ha.at hk
  have vb := hb.at hk
  refine ⟨by rw [List.length_set]; exact h1, by omega, by omega, set_rng h4 (by omega), ?_⟩
  rw [mag_take (by rw [List.length_set]; omega), take_set, v_set (by omega), mag_take (by rw [ha.len]; exact hk), mag_take (by rw [hb.len]; exact hk), pw_succ]
  obtain ⟨s, hs⟩ : ∃ s, s = St.v a k + 4294967296 - St.v b k - c := ⟨_, rfl⟩
  rw [← hs]
  have e : s = s % 4294967296 + 4294967296 * (s / 4294967296) := (Int.emod_add_mul_ediv s 4294967296).symm
  have e2 : pw k * s = pw k * (s % 4294967296) + pw k * 4294967296 * (s / 4294967296) := by
    rw [Int.mul_assoc, ← Int.mul_add, ← e]
  have e3 : pw k * s = pw k * St.v a k + pw k * 4294967296 - pw k * St.v b k - pw k * c := by rw [hs, Int.mul_sub, Int.mul_sub, Int.mul_add]
  have e4 : pw k * 4294967296 * (1 - s / 4294967296) = pw k * 4294967296 - pw k * 4294967296 * (s / 4294967296) := by rw [Int.mul_sub, Int.mul_one]
  omega
theorem Df.start (a b : List Int) : Df a b 0 (List.replicate 6 0) 0 := ⟨by simp, by omega, by omega, fun d hd => by have := List.eq_of_mem_replicate hd; omega, by simp [mag]⟩
theorem Df.done {a b os : List Int} {c : Int} (h : Df a b 6 os c) (ha : Dig a) (hb : Dig b) (hs : mag b ≤ mag a) : Dig os ∧ mag os = mag a - mag b := by
  obtain ⟨h1, h2, h3, h4, h5⟩ := h
  rw [List.take_of_length_le (by omega), List.take_of_length_le (by rw [ha.len]; omega), List.take_of_length_le (by rw [hb.len]; omega)] at h5
  refine ⟨⟨h1, h4⟩, ?_⟩
  have := (mag_rng os h4).2
  rw [h1] at this
  rcases (by omega : c = 0 ∨ c = 1) with rfl | rfl
  · omega
  · omega
theorem mag_split : ∀ (k : Nat) (xs : List Int), k ≤ xs.length → mag xs = mag (xs.take k) + pw k * mag (xs.drop k)
  | 0, xs, _ => by simp [mag, pw]
  | k + 1, [], h => by simp at h
  | k + 1, x :: r, h => by
    have := mag_split k r (by simpa using h)
    rw [List.take_succ_cons, List.drop_succ_cons, mag, mag, this, pw_succ, Int.mul_add, ← Int.mul_assoc, Int.mul_comm 4294967296 (pw k), Int.add_assoc]
theorem mag_lt {a b : List Int} {k : Nat} (ha : Dig a) (hb : Dig b) (hk : k < 6) (he : a.drop (k + 1) = b.drop (k + 1)) (hlt : St.v a k < St.v b k) : mag a < mag b := by
  have sa := mag_split k a (by rw [ha.len]; omega)
  have sb := mag_split k b (by rw [hb.len]; omega)
  have la : k < a.length := by rw [ha.len]; exact hk
  have lb : k < b.length := by rw [hb.len]; exact hk
  rw [List.drop_eq_getElem_cons la, ← show St.v a k = a[k] from St.getD_at la, mag] at sa
  rw [List.drop_eq_getElem_cons lb, ← show St.v b k = b[k] from St.getD_at lb, mag, ← he] at sb
  have ra := mag_rng (a.take k) fun d hd => ha.rng d (List.mem_of_mem_take hd)
  have rb := mag_rng (b.take k) fun d hd => hb.rng d (List.mem_of_mem_take hd)
  rw [List.length_take, Nat.min_eq_left (by omega)] at ra rb
  have hp := pw_pos k
  generalize mag (a.drop (k + 1)) = M at *
  rw [Int.mul_add] at sa sb
  have h1 : pw k * (St.v a k + 1) ≤ pw k * St.v b k := Int.mul_le_mul_of_nonneg_left (by omega) (by omega)
  rw [Int.mul_add, Int.mul_one] at h1
  omega
/-- How two numbers of digits compare. -/
def cmp (a b : List Int) : Int := if mag a < mag b then -1 else if mag b < mag a then 1 else 0
theorem drop_eq {a b : List Int} {k : Nat} (ha : a.length = 6) (hb : b.length = 6) (hk : k < 6) (he : a.drop (k + 1) = b.drop (k + 1)) (hv : St.v a k = St.v b k) : a.drop k = b.drop k := by
  have la : k < a.length := by rw [ha]; exact hk
  have lb : k < b.length := by rw [hb]; exact hk
  rw [List.drop_eq_getElem_cons la, List.drop_eq_getElem_cons lb, he, ← show St.v a k = a[k] from St.getD_at la, ← show St.v b k = b[k] from St.getD_at lb, hv]
end Wd
theorem digV_six (x0 x1 x2 x3 x4 x5 : Int) : digV [x0, x1, x2, x3, x4, x5] = .agg #[.int .u64 x0, .int .u64 x1, .int .u64 x2, .int .u64 x3, .int .u64 x4, .int .u64 x5] := rfl

set_option maxRecDepth 1000000 in
set_option maxHeartbeats 4000000 in
theorem less_any (a b : List Int) (w : World) (ha : Wd.Dig a) (hb : Wd.Dig b) (hs : Wd.mag b ≤ Wd.mag a) :
    Calls Try.prog 86 #[digV a, digV b] w fun e w' => (∃ ds, e = .returned (digV ds) ∧ Wd.Dig ds ∧ Wd.mag ds = Wd.mag a - Wd.mag b) ∧ Below w.heap.size w w' := by
  have HA := Lib.hid ha; have HB := Lib.hid hb; have HS := Lib.hid hs
  obtain ⟨a0, a1, a2, a3, a4, a5, rfl⟩ := ha.six
  obtain ⟨b0, b1, b2, b3, b4, b5, rfl⟩ := hb.six
  clear ha hb hs
  rw [digV_six, digV_six]
  go_enter Try.func86, Try.ntmps86
  go_wp2_with fail
  obtain ⟨W0, hW0⟩ : ∃ W0, W0 = (((w.alloc (.cells #[.int .u64 a0, .int .u64 a1, .int .u64 a2, .int .u64 a3, .int .u64 a4, .int .u64 a5] 77)).alloc (.cells #[.int .u64 b0, .int .u64 b1, .int .u64 b2, .int .u64 b3, .int .u64 b4, .int .u64 b5] 77)).alloc (.cells #[.int .u64 0, .int .u64 0, .int .u64 0, .int .u64 0, .int .u64 0, .int .u64 0] 77)).alloc (.cells #[.int .u64 0, .int .u64 0, .int .u64 0, .int .u64 0, .int .u64 0, .int .u64 0] 77) := ⟨_, rfl⟩
  rw [← hW0]
  obtain ⟨m0, m1, m2, m3, hbl⟩ := four_new _ _ _ _ _ _ hW0
  clear hW0
  have HM : Hid (MB w.heap.size [a0, a1, a2, a3, a4, a5] [b0, b1, b2, b3, b4, b5] (List.replicate 6 0) W0) := Lib.hid ⟨m0, m1, m2, m3⟩
  have HBL := Lib.hid hbl
  clear m0 m1 m2 m3 hbl
  generalize hea : [a0, a1, a2, a3, a4, a5] = a at *
  generalize heb : [b0, b1, b2, b3, b4, b5] = b at *
  have HEA := Lib.hid hea; have HEB := Lib.hid heb
  clear hea heb
  go_loopw [6, 7] (fun c i wr => ∃ k : Nat, k ≤ 6 ∧ i = .int .i64 k ∧ ∃ C : Int, c = .int .u64 C ∧ ∃ os, Hid (Wd.Df a b k os C) ∧ MB w.heap.size a b os wr ∧ Below w.heap.size w wr) (fun _ i _ => 6 - (intOf i).toNat)
  case atStart => exact ⟨0, by omega, rfl, 0, rfl, _, Lib.hid (Wd.Df.start a b), HM.out, HBL.out⟩
  case round =>
    obtain ⟨k, hk, rfl, C, rfl, os, hsm, hm, hbl⟩ := hrel
    by_cases hlt : k < 6
    · have hlt1 : (k : Int) < 6 := by omega
      have hst := hsm.out.step HA.out HB.out hlt
      have va := HA.out.at hlt
      have vb := HB.out.at hlt
      have vc := hsm.out.2.1
      have vc2 := hsm.out.2.2.1
      have c1 := (cells_of_block hm.ba k).trans (u64s_at HA.out.len hlt)
      have c2 := (cells_of_block hm.bb k).trans (u64s_at HB.out.len hlt)
      have c3 := (cells_of_block hm.bo k).trans (u64s_at hsm.out.1 hlt)
      have f3 := frozen_of_block hm.bo k
      generalize St.v a k = x at *
      generalize St.v b k = y at *
      generalize St.v os k = z at *
      obtain ⟨xa, xb⟩ := va
      obtain ⟨ya, yb⟩ := vb
      have HST := Lib.hid hst; have HMM := Lib.hid hm; have HBB := Lib.hid hbl
      clear hst hsm hm hbl
      go_wp2_with fail
      go_quiet (fail)
      go_wp2_with fail
      exact ⟨⟨k + 1, by omega, by go_num, _, rfl, _, HST, (HMM.out.drewN nq).set k _, ((below_drewN' HBB.out nq).setCell (p := ⟨w.heap.size + 1 + 1 + 1, k, none⟩) (by show w.heap.size ≤ w.heap.size + 1 + 1 + 1; omega) _)⟩, by simp [intOf]; omega⟩
    · have hk6 : k = 6 := by omega
      subst hk6
      obtain ⟨hd, hmag⟩ := hsm.out.done HA.out HB.out HS.out
      have HD := Lib.hid hd; have HMG := Lib.hid hmag; have HBB := Lib.hid hbl
      obtain ⟨o0, o1, o2, o3, o4, o5, rfl⟩ := hd.six
      have r0 : wr.cell? ⟨w.heap.size + 1 + 1, 0, none⟩ = some (.int .u64 0) := cells_of_block hm.br 0
      have r1 : wr.cell? ⟨w.heap.size + 1 + 1, 1, none⟩ = some (.int .u64 0) := cells_of_block hm.br 1
      have r2 : wr.cell? ⟨w.heap.size + 1 + 1, 2, none⟩ = some (.int .u64 0) := cells_of_block hm.br 2
      have r3 : wr.cell? ⟨w.heap.size + 1 + 1, 3, none⟩ = some (.int .u64 0) := cells_of_block hm.br 3
      have r4 : wr.cell? ⟨w.heap.size + 1 + 1, 4, none⟩ = some (.int .u64 0) := cells_of_block hm.br 4
      have r5 : wr.cell? ⟨w.heap.size + 1 + 1, 5, none⟩ = some (.int .u64 0) := cells_of_block hm.br 5
      have f := fun i => frozen_of_block hm.br i
      have p0 : wr.cell? ⟨w.heap.size + 1 + 1 + 1, 0, none⟩ = some (.int .u64 o0) := cells_of_block hm.bo 0
      have p1 : wr.cell? ⟨w.heap.size + 1 + 1 + 1, 1, none⟩ = some (.int .u64 o1) := cells_of_block hm.bo 1
      have p2 : wr.cell? ⟨w.heap.size + 1 + 1 + 1, 2, none⟩ = some (.int .u64 o2) := cells_of_block hm.bo 2
      have p3 : wr.cell? ⟨w.heap.size + 1 + 1 + 1, 3, none⟩ = some (.int .u64 o3) := cells_of_block hm.bo 3
      have p4 : wr.cell? ⟨w.heap.size + 1 + 1 + 1, 4, none⟩ = some (.int .u64 o4) := cells_of_block hm.bo 4
      have p5 : wr.cell? ⟨w.heap.size + 1 + 1 + 1, 5, none⟩ = some (.int .u64 o5) := cells_of_block hm.bo 5
      clear hsm hd hmag hbl hm
      go_wp2_with fail
      refine bodyPost_ret (v := digV [o0, o1, o2, o3, o4, o5]) (by simp [results, Try.results86, go_sem, digV, u64s, r0, r1, r2, r3, r4, r5]) rfl ⟨⟨_, rfl, HD.out, ?_⟩, ?_⟩
      · rw [HMG.out, HEA.out, HEB.out]
      · have q : ∀ {W : World} (i : Nat) (u : Value), Below w.heap.size w W → Below w.heap.size w (W.setCell ⟨w.heap.size + 1 + 1, i, none⟩ u) := fun i u h => h.setCell (by show w.heap.size ≤ w.heap.size + 1 + 1; omega) u
        exact q _ _ (q _ _ (q _ _ (q _ _ (q _ _ (q _ _ HBB.out)))))
set_option maxRecDepth 1000000 in
set_option maxHeartbeats 4000000 in
theorem size_any (a b : List Int) (w : World) (ha : Wd.Dig a) (hb : Wd.Dig b) :
    Calls Try.prog 85 #[digV a, digV b] w fun e w' => e = .returned (.int .i64 (Wd.cmp a b)) ∧ Below w.heap.size w w' := by
  have HA := Lib.hid ha; have HB := Lib.hid hb
  obtain ⟨a0, a1, a2, a3, a4, a5, rfl⟩ := ha.six
  obtain ⟨b0, b1, b2, b3, b4, b5, rfl⟩ := hb.six
  clear ha hb
  rw [digV_six, digV_six]
  obtain ⟨W0, hW0⟩ : ∃ W0, W0 = (w.alloc (.cells #[.int .u64 a0, .int .u64 a1, .int .u64 a2, .int .u64 a3, .int .u64 a4, .int .u64 a5] 77)).alloc (.cells #[.int .u64 b0, .int .u64 b1, .int .u64 b2, .int .u64 b3, .int .u64 b4, .int .u64 b5] 77) := ⟨_, rfl⟩
  have m0 : W0.heap[w.heap.size]? = some (.cells (u64s [a0, a1, a2, a3, a4, a5]).toArray 77 (0, 0)) := by rw [hW0]; exact (Below.heap_alloc _ _ _ (by simp)).trans (block_new _ _ _ rfl)
  have m1 : W0.heap[w.heap.size + 1]? = some (.cells (u64s [b0, b1, b2, b3, b4, b5]).toArray 77 (0, 0)) := by rw [hW0]; exact block_new _ _ _ (by simp)
  have hbl : Below w.heap.size w W0 := by rw [hW0]; exact ((Below.refl _ _).alloc (Nat.le_refl _) _).alloc (by simp) _
  have HM0 := Lib.hid m0; have HM1 := Lib.hid m1; have HBL := Lib.hid hbl; have HW := Lib.hid hW0
  clear m0 m1 hbl hW0
  go_enter Try.func85, Try.ntmps85
  go_wp2_with fail
  rw [← HW.out]
  clear HW
  generalize hea : [a0, a1, a2, a3, a4, a5] = a at *
  generalize heb : [b0, b1, b2, b3, b4, b5] = b at *
  have HEA := Lib.hid hea; have HEB := Lib.hid heb
  clear hea heb
  go_loopw [5] (fun i wr => ∃ k : Nat, k ≤ 6 ∧ i = .int .i64 ((k : Int) - 1) ∧ Hid (a.drop k = b.drop k) ∧ Below W0.heap.size W0 wr) (fun i _ => (intOf i + 1).toNat)
  case atStart => exact ⟨6, by omega, rfl, Lib.hid (by rw [List.drop_of_length_le (by rw [HA.out.len]; omega), List.drop_of_length_le (by rw [HB.out.len]; omega)]), Below.refl _ _⟩
  case round =>
    obtain ⟨k, hk, rfl, hdr, hb⟩ := hrel
    have HBB : Hid (Below w.heap.size w wr) := Lib.hid (HBL.out.trans (hb.mono HBL.out.size))
    have HBW := Lib.hid hb
    by_cases h0 : k = 0
    · subst h0
      have hab : a = b := by have := hdr.out; simpa using this
      have HC : Hid (Wd.cmp a b = 0) := Lib.hid (by unfold Wd.cmp; rw [hab]; simp)
      clear hdr hb hab
      go_wp2_with fail
      go_ret
      exact ⟨by rw [HEA.out, HEB.out, HC.out]; rfl, HBB.out⟩
    · obtain ⟨j, rfl⟩ : ∃ j, k = j + 1 := ⟨k - 1, by omega⟩
      have hj : j < 6 := by omega
      have hj1 : (j : Int) < 6 := by omega
      have b0 := (hb.block _ (block_lt HM0.out)).trans HM0.out
      have b1 := (hb.block _ (block_lt HM1.out)).trans HM1.out
      have c1 := (cells_of_block b0 j).trans (u64s_at HA.out.len hj)
      have c2 := (cells_of_block b1 j).trans (u64s_at HB.out.len hj)
      have hcl : St.v a j < St.v b j → Wd.cmp a b = -1 := fun h => by unfold Wd.cmp; rw [if_pos (Wd.mag_lt HA.out HB.out hj hdr.out h)]
      have hcg : St.v b j < St.v a j → Wd.cmp a b = 1 := fun h => by
        have := Wd.mag_lt HB.out HA.out hj hdr.out.symm h
        unfold Wd.cmp; rw [if_neg (by omega), if_pos this]
      have hce : St.v a j = St.v b j → a.drop j = b.drop j := fun h => Wd.drop_eq HA.out.len HB.out.len hj hdr.out h
      have ij : ((j + 1 : Nat) : Int) - 1 = j := by omega
      have HCL := Lib.hid hcl; have HCG := Lib.hid hcg; have HCE := Lib.hid hce
      rw [ij]
      clear hcl hcg hce hdr hb b0 b1 ij h0
      generalize St.v a j = x at *
      generalize St.v b j = y at *
      by_cases hlt : x < y
      · go_wp2_with fail
        go_quiet (fail)
        go_wp2_with fail
        go_ret
        exact ⟨by rw [HEA.out, HEB.out, HCL.out hlt]; rfl, below_drewN' HBB.out _⟩
      · by_cases hgt : y < x
        · go_wp2_with fail
          go_quiet (fail)
          go_wp2_with fail
          go_quiet (fail)
          go_wp2_with fail
          go_ret
          exact ⟨by rw [HEA.out, HEB.out, HCG.out hgt]; rfl, below_drewN' (below_drewN' HBB.out _) _⟩
        · have HDE := Lib.hid (HCE.out (by omega))
          go_wp2_with fail
          go_quiet (fail)
          go_wp2_with fail
          go_quiet (fail)
          go_wp2_with fail
          exact ⟨⟨j, by omega, rfl, HDE, below_drewN' HBW.out _⟩, by simp [intOf]⟩
end Go.Proofs.Ytobaodkcjjgkdaa
namespace Go.Proofs.Ytobaodkcjjgkdaa
open Go Go.RowKit

theorem wideV_six (s : Bool) (x0 x1 x2 x3 x4 x5 : Int) : wideV s [x0, x1, x2, x3, x4, x5] = .agg #[.bool s, .int .u64 x0, .int .u64 x1, .int .u64 x2, .int .u64 x3, .int .u64 x4, .int .u64 x5] := rfl
def wval (s : Bool) (ds : List Int) : Int := if s then - Wd.mag ds else Wd.mag ds
theorem three_new (w : World) (o0 o1 o2 : Obj) (W : World) (hW : W = ((w.alloc o0).alloc o1).alloc o2) :
    W.heap[w.heap.size]? = some o0 ∧ W.heap[w.heap.size + 1]? = some o1 ∧ W.heap[w.heap.size + 1 + 1]? = some o2 ∧ W.heap.size = w.heap.size + 1 + 1 + 1 ∧ Below w.heap.size w W := by
  subst hW
  have e : ∀ (w : World) (o : Obj) (n : Nat), n < w.heap.size → (w.alloc o).heap[n]? = w.heap[n]? := fun w o n h => Below.heap_alloc w o n h
  refine ⟨?_, ?_, block_new _ _ _ (by simp), by simp, ((((Below.refl _ _).alloc (Nat.le_refl _) _).alloc ?_ _).alloc ?_ _)⟩
  · rw [e _ _ _ (by simp <;> omega), e _ _ _ (by simp <;> omega)]
    exact block_new _ _ _ rfl
  · rw [e _ _ _ (by simp <;> omega)]
    exact block_new _ _ _ (by simp)
  all_goals (simp <;> omega)
theorem bcell {W w1 : World} (hb : Below W.heap.size W w1) : (∀ b o, b < W.heap.size → w1.cell? ⟨b, o, none⟩ = W.cell? ⟨b, o, none⟩) ∧ (∀ b o, b < W.heap.size → w1.frozen? ⟨b, o, none⟩ = W.frozen? ⟨b, o, none⟩) :=
  ⟨fun b o h => hb.cell (p := ⟨b, o, none⟩) h, fun b o h => hb.frozen (p := ⟨b, o, none⟩) h⟩
set_option maxRecDepth 1000000 in
set_option maxHeartbeats 8000000 in
theorem plus_same (s : Bool) (a b : List Int) (w : World) (ha : Wd.Dig a) (hb : Wd.Dig b) (hs : Wd.mag a + Wd.mag b < Wd.pw 6) :
    Calls Try.prog 67 #[wideV s a, wideV s b] w fun e w' => (∃ ds, e = .returned (wideV s ds) ∧ Wd.Dig ds ∧ Wd.mag ds = Wd.mag a + Wd.mag b) ∧ Below w.heap.size w w' := by
    have HA := Lib.hid ha; have HB := Lib.hid hb; have HS := Lib.hid hs
    obtain ⟨a0, a1, a2, a3, a4, a5, rfl⟩ := ha.six
    obtain ⟨b0, b1, b2, b3, b4, b5, rfl⟩ := hb.six
    clear ha hb hs
    rw [wideV_six, wideV_six]
    obtain ⟨W, hW⟩ : ∃ W, W = ((w.alloc (.cells #[.bool s, .int .u64 a0, .int .u64 a1, .int .u64 a2, .int .u64 a3, .int .u64 a4, .int .u64 a5] 79)).alloc (.cells #[.bool s, .int .u64 b0, .int .u64 b1, .int .u64 b2, .int .u64 b3, .int .u64 b4, .int .u64 b5] 79)).alloc (.cells #[.bool false, .int .u64 0, .int .u64 0, .int .u64 0, .int .u64 0, .int .u64 0, .int .u64 0] 79) := ⟨_, rfl⟩
    have HW := Lib.hid hW
    obtain ⟨m0, m1, m2, hz, hbl⟩ := three_new _ _ _ _ _ hW
    clear hW
    have c00 : W.cell? ⟨w.heap.size, 0, none⟩ = some (.bool s) := cells_of_block m0 0
    have c01 : W.cell? ⟨w.heap.size, 1, none⟩ = some (.int .u64 a0) := cells_of_block m0 1
    have c02 : W.cell? ⟨w.heap.size, 2, none⟩ = some (.int .u64 a1) := cells_of_block m0 2
    have c03 : W.cell? ⟨w.heap.size, 3, none⟩ = some (.int .u64 a2) := cells_of_block m0 3
    have c04 : W.cell? ⟨w.heap.size, 4, none⟩ = some (.int .u64 a3) := cells_of_block m0 4
    have c05 : W.cell? ⟨w.heap.size, 5, none⟩ = some (.int .u64 a4) := cells_of_block m0 5
    have c06 : W.cell? ⟨w.heap.size, 6, none⟩ = some (.int .u64 a5) := cells_of_block m0 6
    have c10 : W.cell? ⟨w.heap.size + 1, 0, none⟩ = some (.bool s) := cells_of_block m1 0
    have c11 : W.cell? ⟨w.heap.size + 1, 1, none⟩ = some (.int .u64 b0) := cells_of_block m1 1
    have c12 : W.cell? ⟨w.heap.size + 1, 2, none⟩ = some (.int .u64 b1) := cells_of_block m1 2
    have c13 : W.cell? ⟨w.heap.size + 1, 3, none⟩ = some (.int .u64 b2) := cells_of_block m1 3
    have c14 : W.cell? ⟨w.heap.size + 1, 4, none⟩ = some (.int .u64 b3) := cells_of_block m1 4
    have c15 : W.cell? ⟨w.heap.size + 1, 5, none⟩ = some (.int .u64 b4) := cells_of_block m1 5
    have c16 : W.cell? ⟨w.heap.size + 1, 6, none⟩ = some (.int .u64 b5) := cells_of_block m1 6
    have c20 : W.cell? ⟨w.heap.size + 1 + 1, 0, none⟩ = some (.bool false) := cells_of_block m2 0
    have c21 : W.cell? ⟨w.heap.size + 1 + 1, 1, none⟩ = some (.int .u64 0) := cells_of_block m2 1
    have c22 : W.cell? ⟨w.heap.size + 1 + 1, 2, none⟩ = some (.int .u64 0) := cells_of_block m2 2
    have c23 : W.cell? ⟨w.heap.size + 1 + 1, 3, none⟩ = some (.int .u64 0) := cells_of_block m2 3
    have c24 : W.cell? ⟨w.heap.size + 1 + 1, 4, none⟩ = some (.int .u64 0) := cells_of_block m2 4
    have c25 : W.cell? ⟨w.heap.size + 1 + 1, 5, none⟩ = some (.int .u64 0) := cells_of_block m2 5
    have c26 : W.cell? ⟨w.heap.size + 1 + 1, 6, none⟩ = some (.int .u64 0) := cells_of_block m2 6
    have fz : ∀ i, W.frozen? ⟨w.heap.size + 1 + 1, i, none⟩ = false := fun i => frozen_of_block m2 i
    have ne1 : w.heap.size ≠ w.heap.size + 1 + 1 := by omega
    have ne2 : w.heap.size + 1 + 1 ≠ w.heap.size := by omega
    have z1 : w.heap.size < W.heap.size := by omega
    have z2 : w.heap.size + 1 < W.heap.size := by omega
    have z3 : w.heap.size + 1 + 1 < W.heap.size := by omega
    have HBL := Lib.hid hbl
    clear m0 m1 m2 hbl hz
    go_enter Try.func67, Try.ntmps67
    go_wp2_with fail
    rw [← HW.out]
    clear HW
    go_region_held3 (fun V => V.cell? ⟨w.heap.size, 0, none⟩ = some (.bool s) ∧ V.cell? ⟨w.heap.size, 1, none⟩ = some (.int .u64 a0) ∧ V.cell? ⟨w.heap.size, 2, none⟩ = some (.int .u64 a1) ∧ V.cell? ⟨w.heap.size, 3, none⟩ = some (.int .u64 a2) ∧ V.cell? ⟨w.heap.size, 4, none⟩ = some (.int .u64 a3) ∧ V.cell? ⟨w.heap.size, 5, none⟩ = some (.int .u64 a4) ∧ V.cell? ⟨w.heap.size, 6, none⟩ = some (.int .u64 a5) ∧ V.cell? ⟨w.heap.size + 1, 0, none⟩ = some (.bool s) ∧ V.cell? ⟨w.heap.size + 1, 1, none⟩ = some (.int .u64 b0) ∧ V.cell? ⟨w.heap.size + 1, 2, none⟩ = some (.int .u64 b1) ∧ V.cell? ⟨w.heap.size + 1, 3, none⟩ = some (.int .u64 b2) ∧ V.cell? ⟨w.heap.size + 1, 4, none⟩ = some (.int .u64 b3) ∧ V.cell? ⟨w.heap.size + 1, 5, none⟩ = some (.int .u64 b4) ∧ V.cell? ⟨w.heap.size + 1, 6, none⟩ = some (.int .u64 b5)) (first | go_keep | ((repeat' apply And.intro) <;> go_keep))
      (first | (go_at_call 84; refine (more_any [a0, a1, a2, a3, a4, a5] [b0, b1, b2, b3, b4, b5] _ HA.out HB.out HS.out).mono ?_; rintro e w1 ⟨⟨ds, rfl, hd, hm⟩, hb⟩; obtain ⟨hcc, hff⟩ := bcell hb; have h0 := fun o => hcc w.heap.size o z1; have h1 := fun o => hcc (w.heap.size + 1) o z2; have h2 := fun o => hcc (w.heap.size + 1 + 1) o z3; have f2 := fun o => hff (w.heap.size + 1 + 1) o z3; clear hcc hff; obtain ⟨o0, o1, o2, o3, o4, o5, rfl⟩ := hd.six; rw [digV_six]; have HD := Lib.hid hd; have HMM := Lib.hid hm; have HB1 := Lib.hid hb; clear hd hm hb))
    go_wp2_with fail
    refine bodyPost_ret (v := wideV s [o0, o1, o2, o3, o4, o5]) (by simp [results, Try.results67, go_sem, wideV, u64s, h2, c20, c21, c22, c23, c24, c25, c26]) rfl ⟨⟨_, rfl, HD.out, HMM.out⟩, ?_⟩
    have q : ∀ {V : World} (i : Nat) (u : Value), Below w.heap.size w V → Below w.heap.size w (V.setCell ⟨w.heap.size + 1 + 1, i, none⟩ u) := fun i u h => h.setCell (by show w.heap.size ≤ w.heap.size + 1 + 1; omega) u
    exact q _ _ (q _ _ (q _ _ (q _ _ (q _ _ (q _ _ (q _ _ (HBL.out.drew.trans (HB1.out.mono HBL.out.size))))))))
set_option maxRecDepth 1000000 in
set_option maxHeartbeats 8000000 in
theorem plus_eq (s t : Bool) (hst : (s == t) = false) (a b : List Int) (w : World) (ha : Wd.Dig a) (hb : Wd.Dig b) (hs : Wd.mag b = Wd.mag a) :
    Calls Try.prog 67 #[wideV s a, wideV t b] w fun e w' => (∃ ds, e = .returned (wideV s ds) ∧ Wd.Dig ds ∧ Wd.mag ds = Wd.mag a - Wd.mag b) ∧ Below w.heap.size w w' := by
    have HA := Lib.hid ha; have HB := Lib.hid hb; have HS := Lib.hid hs
    obtain ⟨a0, a1, a2, a3, a4, a5, rfl⟩ := ha.six
    obtain ⟨b0, b1, b2, b3, b4, b5, rfl⟩ := hb.six
    clear ha hb hs
    rw [wideV_six, wideV_six]
    obtain ⟨W, hW⟩ : ∃ W, W = ((w.alloc (.cells #[.bool s, .int .u64 a0, .int .u64 a1, .int .u64 a2, .int .u64 a3, .int .u64 a4, .int .u64 a5] 79)).alloc (.cells #[.bool t, .int .u64 b0, .int .u64 b1, .int .u64 b2, .int .u64 b3, .int .u64 b4, .int .u64 b5] 79)).alloc (.cells #[.bool false, .int .u64 0, .int .u64 0, .int .u64 0, .int .u64 0, .int .u64 0, .int .u64 0] 79) := ⟨_, rfl⟩
    have HW := Lib.hid hW
    obtain ⟨m0, m1, m2, hz, hbl⟩ := three_new _ _ _ _ _ hW
    clear hW
    have hlt := block_lt m2
    have HM0 := Lib.hid m0; have HM1 := Lib.hid m1; have HM2 := Lib.hid m2; have HZ := Lib.hid hz; have HBL0 := Lib.hid hbl
    clear m0 m1 m2 hz hbl hlt
    go_enter Try.func67, Try.ntmps67
    go_wp2_with (go_at_call 85; refine (size_any [a0, a1, a2, a3, a4, a5] [b0, b1, b2, b3, b4, b5] _ HA.out HB.out).mono ?_; rintro e W2 ⟨rfl, hb⟩; rw [← HW.out] at hb; refine Hid.out ?_)
    have hlt := block_lt HM2.out
    have m0 := (hb.block _ (block_lt HM0.out)).trans HM0.out
    have m1 := (hb.block _ (block_lt HM1.out)).trans HM1.out
    have m2 := (hb.block _ (block_lt HM2.out)).trans HM2.out
    have hbl := HBL0.out.trans (hb.mono HBL0.out.size)
    have hz : w.heap.size + 1 + 1 < W2.heap.size := Nat.lt_of_lt_of_le hlt hb.size
    clear hb hlt
    have c00 : W2.cell? ⟨w.heap.size, 0, none⟩ = some (.bool s) := cells_of_block m0 0
    have c01 : W2.cell? ⟨w.heap.size, 1, none⟩ = some (.int .u64 a0) := cells_of_block m0 1
    have c02 : W2.cell? ⟨w.heap.size, 2, none⟩ = some (.int .u64 a1) := cells_of_block m0 2
    have c03 : W2.cell? ⟨w.heap.size, 3, none⟩ = some (.int .u64 a2) := cells_of_block m0 3
    have c04 : W2.cell? ⟨w.heap.size, 4, none⟩ = some (.int .u64 a3) := cells_of_block m0 4
    have c05 : W2.cell? ⟨w.heap.size, 5, none⟩ = some (.int .u64 a4) := cells_of_block m0 5
    have c06 : W2.cell? ⟨w.heap.size, 6, none⟩ = some (.int .u64 a5) := cells_of_block m0 6
    have c10 : W2.cell? ⟨w.heap.size + 1, 0, none⟩ = some (.bool t) := cells_of_block m1 0
    have c11 : W2.cell? ⟨w.heap.size + 1, 1, none⟩ = some (.int .u64 b0) := cells_of_block m1 1
    have c12 : W2.cell? ⟨w.heap.size + 1, 2, none⟩ = some (.int .u64 b1) := cells_of_block m1 2
    have c13 : W2.cell? ⟨w.heap.size + 1, 3, none⟩ = some (.int .u64 b2) := cells_of_block m1 3
    have c14 : W2.cell? ⟨w.heap.size + 1, 4, none⟩ = some (.int .u64 b3) := cells_of_block m1 4
    have c15 : W2.cell? ⟨w.heap.size + 1, 5, none⟩ = some (.int .u64 b4) := cells_of_block m1 5
    have c16 : W2.cell? ⟨w.heap.size + 1, 6, none⟩ = some (.int .u64 b5) := cells_of_block m1 6
    have c20 : W2.cell? ⟨w.heap.size + 1 + 1, 0, none⟩ = some (.bool false) := cells_of_block m2 0
    have c21 : W2.cell? ⟨w.heap.size + 1 + 1, 1, none⟩ = some (.int .u64 0) := cells_of_block m2 1
    have c22 : W2.cell? ⟨w.heap.size + 1 + 1, 2, none⟩ = some (.int .u64 0) := cells_of_block m2 2
    have c23 : W2.cell? ⟨w.heap.size + 1 + 1, 3, none⟩ = some (.int .u64 0) := cells_of_block m2 3
    have c24 : W2.cell? ⟨w.heap.size + 1 + 1, 4, none⟩ = some (.int .u64 0) := cells_of_block m2 4
    have c25 : W2.cell? ⟨w.heap.size + 1 + 1, 5, none⟩ = some (.int .u64 0) := cells_of_block m2 5
    have c26 : W2.cell? ⟨w.heap.size + 1 + 1, 6, none⟩ = some (.int .u64 0) := cells_of_block m2 6
    have fz : ∀ i, W2.frozen? ⟨w.heap.size + 1 + 1, i, none⟩ = false := fun i => frozen_of_block m2 i
    have ne1 : w.heap.size ≠ w.heap.size + 1 + 1 := by omega
    have ne2 : w.heap.size + 1 + 1 ≠ w.heap.size := by omega
    have z1 : w.heap.size < W2.heap.size := by omega
    have z2 : w.heap.size + 1 < W2.heap.size := by omega
    have z3 : w.heap.size + 1 + 1 < W2.heap.size := by omega
    have HBL := Lib.hid hbl
    clear m0 m1 m2 hbl hz
    have HC : Hid (Wd.cmp [a0, a1, a2, a3, a4, a5] [b0, b1, b2, b3, b4, b5] = 0) := Lib.hid (by have := HS.out; unfold Wd.cmp; rw [if_neg (by omega), if_neg (by omega)])
    rw [HC.out]
    refine Lib.hid ?_
    go_wp2_with fail
    go_region_held3 (fun V => V.cell? ⟨w.heap.size, 0, none⟩ = some (.bool s) ∧ V.cell? ⟨w.heap.size, 1, none⟩ = some (.int .u64 a0) ∧ V.cell? ⟨w.heap.size, 2, none⟩ = some (.int .u64 a1) ∧ V.cell? ⟨w.heap.size, 3, none⟩ = some (.int .u64 a2) ∧ V.cell? ⟨w.heap.size, 4, none⟩ = some (.int .u64 a3) ∧ V.cell? ⟨w.heap.size, 5, none⟩ = some (.int .u64 a4) ∧ V.cell? ⟨w.heap.size, 6, none⟩ = some (.int .u64 a5) ∧ V.cell? ⟨w.heap.size + 1, 0, none⟩ = some (.bool t) ∧ V.cell? ⟨w.heap.size + 1, 1, none⟩ = some (.int .u64 b0) ∧ V.cell? ⟨w.heap.size + 1, 2, none⟩ = some (.int .u64 b1) ∧ V.cell? ⟨w.heap.size + 1, 3, none⟩ = some (.int .u64 b2) ∧ V.cell? ⟨w.heap.size + 1, 4, none⟩ = some (.int .u64 b3) ∧ V.cell? ⟨w.heap.size + 1, 5, none⟩ = some (.int .u64 b4) ∧ V.cell? ⟨w.heap.size + 1, 6, none⟩ = some (.int .u64 b5)) (first | go_keep | ((repeat' apply And.intro) <;> go_keep))
      (first | (go_at_call 86; refine (less_any [a0, a1, a2, a3, a4, a5] [b0, b1, b2, b3, b4, b5] _ HA.out HB.out (Int.le_of_eq HS.out)).mono ?_; rintro e w1 ⟨⟨ds, rfl, hd, hm⟩, hb⟩; obtain ⟨hcc, hff⟩ := bcell hb; have h0 := fun o => hcc w.heap.size o z1; have h1 := fun o => hcc (w.heap.size + 1) o z2; have h2 := fun o => hcc (w.heap.size + 1 + 1) o z3; have f2 := fun o => hff (w.heap.size + 1 + 1) o z3; clear hcc hff; obtain ⟨o0, o1, o2, o3, o4, o5, rfl⟩ := hd.six; rw [digV_six]; have HD := Lib.hid hd; have HMM := Lib.hid hm; have HB1 := Lib.hid hb; clear hd hm hb))
    go_wp2_with fail
    refine bodyPost_ret (v := wideV s [o0, o1, o2, o3, o4, o5]) (by simp [results, Try.results67, go_sem, wideV, u64s, h2, c20, c21, c22, c23, c24, c25, c26]) rfl ⟨⟨_, rfl, HD.out, HMM.out⟩, ?_⟩
    have q : ∀ {V : World} (i : Nat) (u : Value), Below w.heap.size w V → Below w.heap.size w (V.setCell ⟨w.heap.size + 1 + 1, i, none⟩ u) := fun i u h => h.setCell (by show w.heap.size ≤ w.heap.size + 1 + 1; omega) u
    exact q _ _ (q _ _ (q _ _ (q _ _ (q _ _ (q _ _ (q _ _ (HBL.out.drew.trans (HB1.out.mono HBL.out.size))))))))
set_option maxRecDepth 1000000 in
set_option maxHeartbeats 8000000 in
theorem plus_gt (s t : Bool) (hst : (s == t) = false) (a b : List Int) (w : World) (ha : Wd.Dig a) (hb : Wd.Dig b) (hs : Wd.mag b < Wd.mag a) :
    Calls Try.prog 67 #[wideV s a, wideV t b] w fun e w' => (∃ ds, e = .returned (wideV s ds) ∧ Wd.Dig ds ∧ Wd.mag ds = Wd.mag a - Wd.mag b) ∧ Below w.heap.size w w' := by
    have HA := Lib.hid ha; have HB := Lib.hid hb; have HS := Lib.hid hs
    obtain ⟨a0, a1, a2, a3, a4, a5, rfl⟩ := ha.six
    obtain ⟨b0, b1, b2, b3, b4, b5, rfl⟩ := hb.six
    clear ha hb hs
    rw [wideV_six, wideV_six]
    obtain ⟨W, hW⟩ : ∃ W, W = ((w.alloc (.cells #[.bool s, .int .u64 a0, .int .u64 a1, .int .u64 a2, .int .u64 a3, .int .u64 a4, .int .u64 a5] 79)).alloc (.cells #[.bool t, .int .u64 b0, .int .u64 b1, .int .u64 b2, .int .u64 b3, .int .u64 b4, .int .u64 b5] 79)).alloc (.cells #[.bool false, .int .u64 0, .int .u64 0, .int .u64 0, .int .u64 0, .int .u64 0, .int .u64 0] 79) := ⟨_, rfl⟩
    have HW := Lib.hid hW
    obtain ⟨m0, m1, m2, hz, hbl⟩ := three_new _ _ _ _ _ hW
    clear hW
    have hlt := block_lt m2
    have HM0 := Lib.hid m0; have HM1 := Lib.hid m1; have HM2 := Lib.hid m2; have HZ := Lib.hid hz; have HBL0 := Lib.hid hbl
    clear m0 m1 m2 hz hbl hlt
    go_enter Try.func67, Try.ntmps67
    go_wp2_with (go_at_call 85; refine (size_any [a0, a1, a2, a3, a4, a5] [b0, b1, b2, b3, b4, b5] _ HA.out HB.out).mono ?_; rintro e W2 ⟨rfl, hb⟩; rw [← HW.out] at hb; refine Hid.out ?_)
    have hlt := block_lt HM2.out
    have m0 := (hb.block _ (block_lt HM0.out)).trans HM0.out
    have m1 := (hb.block _ (block_lt HM1.out)).trans HM1.out
    have m2 := (hb.block _ (block_lt HM2.out)).trans HM2.out
    have hbl := HBL0.out.trans (hb.mono HBL0.out.size)
    have hz : w.heap.size + 1 + 1 < W2.heap.size := Nat.lt_of_lt_of_le hlt hb.size
    clear hb hlt
    have c00 : W2.cell? ⟨w.heap.size, 0, none⟩ = some (.bool s) := cells_of_block m0 0
    have c01 : W2.cell? ⟨w.heap.size, 1, none⟩ = some (.int .u64 a0) := cells_of_block m0 1
    have c02 : W2.cell? ⟨w.heap.size, 2, none⟩ = some (.int .u64 a1) := cells_of_block m0 2
    have c03 : W2.cell? ⟨w.heap.size, 3, none⟩ = some (.int .u64 a2) := cells_of_block m0 3
    have c04 : W2.cell? ⟨w.heap.size, 4, none⟩ = some (.int .u64 a3) := cells_of_block m0 4
    have c05 : W2.cell? ⟨w.heap.size, 5, none⟩ = some (.int .u64 a4) := cells_of_block m0 5
    have c06 : W2.cell? ⟨w.heap.size, 6, none⟩ = some (.int .u64 a5) := cells_of_block m0 6
    have c10 : W2.cell? ⟨w.heap.size + 1, 0, none⟩ = some (.bool t) := cells_of_block m1 0
    have c11 : W2.cell? ⟨w.heap.size + 1, 1, none⟩ = some (.int .u64 b0) := cells_of_block m1 1
    have c12 : W2.cell? ⟨w.heap.size + 1, 2, none⟩ = some (.int .u64 b1) := cells_of_block m1 2
    have c13 : W2.cell? ⟨w.heap.size + 1, 3, none⟩ = some (.int .u64 b2) := cells_of_block m1 3
    have c14 : W2.cell? ⟨w.heap.size + 1, 4, none⟩ = some (.int .u64 b3) := cells_of_block m1 4
    have c15 : W2.cell? ⟨w.heap.size + 1, 5, none⟩ = some (.int .u64 b4) := cells_of_block m1 5
    have c16 : W2.cell? ⟨w.heap.size + 1, 6, none⟩ = some (.int .u64 b5) := cells_of_block m1 6
    have c20 : W2.cell? ⟨w.heap.size + 1 + 1, 0, none⟩ = some (.bool false) := cells_of_block m2 0
    have c21 : W2.cell? ⟨w.heap.size + 1 + 1, 1, none⟩ = some (.int .u64 0) := cells_of_block m2 1
    have c22 : W2.cell? ⟨w.heap.size + 1 + 1, 2, none⟩ = some (.int .u64 0) := cells_of_block m2 2
    have c23 : W2.cell? ⟨w.heap.size + 1 + 1, 3, none⟩ = some (.int .u64 0) := cells_of_block m2 3
    have c24 : W2.cell? ⟨w.heap.size + 1 + 1, 4, none⟩ = some (.int .u64 0) := cells_of_block m2 4
    have c25 : W2.cell? ⟨w.heap.size + 1 + 1, 5, none⟩ = some (.int .u64 0) := cells_of_block m2 5
    have c26 : W2.cell? ⟨w.heap.size + 1 + 1, 6, none⟩ = some (.int .u64 0) := cells_of_block m2 6
    have fz : ∀ i, W2.frozen? ⟨w.heap.size + 1 + 1, i, none⟩ = false := fun i => frozen_of_block m2 i
    have ne1 : w.heap.size ≠ w.heap.size + 1 + 1 := by omega
    have ne2 : w.heap.size + 1 + 1 ≠ w.heap.size := by omega
    have z1 : w.heap.size < W2.heap.size := by omega
    have z2 : w.heap.size + 1 < W2.heap.size := by omega
    have z3 : w.heap.size + 1 + 1 < W2.heap.size := by omega
    have HBL := Lib.hid hbl
    clear m0 m1 m2 hbl hz
    have HC : Hid (Wd.cmp [a0, a1, a2, a3, a4, a5] [b0, b1, b2, b3, b4, b5] = 1) := Lib.hid (by have := HS.out; unfold Wd.cmp; rw [if_neg (by omega), if_pos (by omega)])
    rw [HC.out]
    refine Lib.hid ?_
    go_wp2_with fail
    go_region_held3 (fun V => V.cell? ⟨w.heap.size, 0, none⟩ = some (.bool s) ∧ V.cell? ⟨w.heap.size, 1, none⟩ = some (.int .u64 a0) ∧ V.cell? ⟨w.heap.size, 2, none⟩ = some (.int .u64 a1) ∧ V.cell? ⟨w.heap.size, 3, none⟩ = some (.int .u64 a2) ∧ V.cell? ⟨w.heap.size, 4, none⟩ = some (.int .u64 a3) ∧ V.cell? ⟨w.heap.size, 5, none⟩ = some (.int .u64 a4) ∧ V.cell? ⟨w.heap.size, 6, none⟩ = some (.int .u64 a5) ∧ V.cell? ⟨w.heap.size + 1, 0, none⟩ = some (.bool t) ∧ V.cell? ⟨w.heap.size + 1, 1, none⟩ = some (.int .u64 b0) ∧ V.cell? ⟨w.heap.size + 1, 2, none⟩ = some (.int .u64 b1) ∧ V.cell? ⟨w.heap.size + 1, 3, none⟩ = some (.int .u64 b2) ∧ V.cell? ⟨w.heap.size + 1, 4, none⟩ = some (.int .u64 b3) ∧ V.cell? ⟨w.heap.size + 1, 5, none⟩ = some (.int .u64 b4) ∧ V.cell? ⟨w.heap.size + 1, 6, none⟩ = some (.int .u64 b5)) (first | go_keep | ((repeat' apply And.intro) <;> go_keep))
      (first | (go_at_call 86; refine (less_any [a0, a1, a2, a3, a4, a5] [b0, b1, b2, b3, b4, b5] _ HA.out HB.out (Int.le_of_lt HS.out)).mono ?_; rintro e w1 ⟨⟨ds, rfl, hd, hm⟩, hb⟩; obtain ⟨hcc, hff⟩ := bcell hb; have h0 := fun o => hcc w.heap.size o z1; have h1 := fun o => hcc (w.heap.size + 1) o z2; have h2 := fun o => hcc (w.heap.size + 1 + 1) o z3; have f2 := fun o => hff (w.heap.size + 1 + 1) o z3; clear hcc hff; obtain ⟨o0, o1, o2, o3, o4, o5, rfl⟩ := hd.six; rw [digV_six]; have HD := Lib.hid hd; have HMM := Lib.hid hm; have HB1 := Lib.hid hb; clear hd hm hb))
    go_wp2_with fail
    refine bodyPost_ret (v := wideV s [o0, o1, o2, o3, o4, o5]) (by simp [results, Try.results67, go_sem, wideV, u64s, h2, c20, c21, c22, c23, c24, c25, c26]) rfl ⟨⟨_, rfl, HD.out, HMM.out⟩, ?_⟩
    have q : ∀ {V : World} (i : Nat) (u : Value), Below w.heap.size w V → Below w.heap.size w (V.setCell ⟨w.heap.size + 1 + 1, i, none⟩ u) := fun i u h => h.setCell (by show w.heap.size ≤ w.heap.size + 1 + 1; omega) u
    exact q _ _ (q _ _ (q _ _ (q _ _ (q _ _ (q _ _ (q _ _ (HBL.out.drew.trans (HB1.out.mono HBL.out.size))))))))
set_option maxRecDepth 1000000 in
set_option maxHeartbeats 8000000 in
theorem plus_lt (s t : Bool) (hst : (s == t) = false) (a b : List Int) (w : World) (ha : Wd.Dig a) (hb : Wd.Dig b) (hs : Wd.mag a < Wd.mag b) :
    Calls Try.prog 67 #[wideV s a, wideV t b] w fun e w' => (∃ ds, e = .returned (wideV t ds) ∧ Wd.Dig ds ∧ Wd.mag ds = Wd.mag b - Wd.mag a) ∧ Below w.heap.size w w' := by
    have HA := Lib.hid ha; have HB := Lib.hid hb; have HS := Lib.hid hs
    obtain ⟨a0, a1, a2, a3, a4, a5, rfl⟩ := ha.six
    obtain ⟨b0, b1, b2, b3, b4, b5, rfl⟩ := hb.six
    clear ha hb hs
    rw [wideV_six, wideV_six]
    obtain ⟨W, hW⟩ : ∃ W, W = ((w.alloc (.cells #[.bool s, .int .u64 a0, .int .u64 a1, .int .u64 a2, .int .u64 a3, .int .u64 a4, .int .u64 a5] 79)).alloc (.cells #[.bool t, .int .u64 b0, .int .u64 b1, .int .u64 b2, .int .u64 b3, .int .u64 b4, .int .u64 b5] 79)).alloc (.cells #[.bool false, .int .u64 0, .int .u64 0, .int .u64 0, .int .u64 0, .int .u64 0, .int .u64 0] 79) := ⟨_, rfl⟩
    have HW := Lib.hid hW
    obtain ⟨m0, m1, m2, hz, hbl⟩ := three_new _ _ _ _ _ hW
    clear hW
    have hlt := block_lt m2
    have HM0 := Lib.hid m0; have HM1 := Lib.hid m1; have HM2 := Lib.hid m2; have HZ := Lib.hid hz; have HBL0 := Lib.hid hbl
    clear m0 m1 m2 hz hbl hlt
    go_enter Try.func67, Try.ntmps67
    go_wp2_with (go_at_call 85; refine (size_any [a0, a1, a2, a3, a4, a5] [b0, b1, b2, b3, b4, b5] _ HA.out HB.out).mono ?_; rintro e W2 ⟨rfl, hb⟩; rw [← HW.out] at hb; refine Hid.out ?_)
    have hlt := block_lt HM2.out
    have m0 := (hb.block _ (block_lt HM0.out)).trans HM0.out
    have m1 := (hb.block _ (block_lt HM1.out)).trans HM1.out
    have m2 := (hb.block _ (block_lt HM2.out)).trans HM2.out
    have hbl := HBL0.out.trans (hb.mono HBL0.out.size)
    have hz : w.heap.size + 1 + 1 < W2.heap.size := Nat.lt_of_lt_of_le hlt hb.size
    clear hb hlt
    have c00 : W2.cell? ⟨w.heap.size, 0, none⟩ = some (.bool s) := cells_of_block m0 0
    have c01 : W2.cell? ⟨w.heap.size, 1, none⟩ = some (.int .u64 a0) := cells_of_block m0 1
    have c02 : W2.cell? ⟨w.heap.size, 2, none⟩ = some (.int .u64 a1) := cells_of_block m0 2
    have c03 : W2.cell? ⟨w.heap.size, 3, none⟩ = some (.int .u64 a2) := cells_of_block m0 3
    have c04 : W2.cell? ⟨w.heap.size, 4, none⟩ = some (.int .u64 a3) := cells_of_block m0 4
    have c05 : W2.cell? ⟨w.heap.size, 5, none⟩ = some (.int .u64 a4) := cells_of_block m0 5
    have c06 : W2.cell? ⟨w.heap.size, 6, none⟩ = some (.int .u64 a5) := cells_of_block m0 6
    have c10 : W2.cell? ⟨w.heap.size + 1, 0, none⟩ = some (.bool t) := cells_of_block m1 0
    have c11 : W2.cell? ⟨w.heap.size + 1, 1, none⟩ = some (.int .u64 b0) := cells_of_block m1 1
    have c12 : W2.cell? ⟨w.heap.size + 1, 2, none⟩ = some (.int .u64 b1) := cells_of_block m1 2
    have c13 : W2.cell? ⟨w.heap.size + 1, 3, none⟩ = some (.int .u64 b2) := cells_of_block m1 3
    have c14 : W2.cell? ⟨w.heap.size + 1, 4, none⟩ = some (.int .u64 b3) := cells_of_block m1 4
    have c15 : W2.cell? ⟨w.heap.size + 1, 5, none⟩ = some (.int .u64 b4) := cells_of_block m1 5
    have c16 : W2.cell? ⟨w.heap.size + 1, 6, none⟩ = some (.int .u64 b5) := cells_of_block m1 6
    have c20 : W2.cell? ⟨w.heap.size + 1 + 1, 0, none⟩ = some (.bool false) := cells_of_block m2 0
    have c21 : W2.cell? ⟨w.heap.size + 1 + 1, 1, none⟩ = some (.int .u64 0) := cells_of_block m2 1
    have c22 : W2.cell? ⟨w.heap.size + 1 + 1, 2, none⟩ = some (.int .u64 0) := cells_of_block m2 2
    have c23 : W2.cell? ⟨w.heap.size + 1 + 1, 3, none⟩ = some (.int .u64 0) := cells_of_block m2 3
    have c24 : W2.cell? ⟨w.heap.size + 1 + 1, 4, none⟩ = some (.int .u64 0) := cells_of_block m2 4
    have c25 : W2.cell? ⟨w.heap.size + 1 + 1, 5, none⟩ = some (.int .u64 0) := cells_of_block m2 5
    have c26 : W2.cell? ⟨w.heap.size + 1 + 1, 6, none⟩ = some (.int .u64 0) := cells_of_block m2 6
    have fz : ∀ i, W2.frozen? ⟨w.heap.size + 1 + 1, i, none⟩ = false := fun i => frozen_of_block m2 i
    have ne1 : w.heap.size ≠ w.heap.size + 1 + 1 := by omega
    have ne2 : w.heap.size + 1 + 1 ≠ w.heap.size := by omega
    have z1 : w.heap.size < W2.heap.size := by omega
    have z2 : w.heap.size + 1 < W2.heap.size := by omega
    have z3 : w.heap.size + 1 + 1 < W2.heap.size := by omega
    have HBL := Lib.hid hbl
    clear m0 m1 m2 hbl hz
    have HC : Hid (Wd.cmp [a0, a1, a2, a3, a4, a5] [b0, b1, b2, b3, b4, b5] = -1) := Lib.hid (by have := HS.out; unfold Wd.cmp; rw [if_pos (by omega)])
    rw [HC.out]
    refine Lib.hid ?_
    go_wp2_with fail
    go_region_held3 (fun V => V.cell? ⟨w.heap.size, 0, none⟩ = some (.bool s) ∧ V.cell? ⟨w.heap.size, 1, none⟩ = some (.int .u64 a0) ∧ V.cell? ⟨w.heap.size, 2, none⟩ = some (.int .u64 a1) ∧ V.cell? ⟨w.heap.size, 3, none⟩ = some (.int .u64 a2) ∧ V.cell? ⟨w.heap.size, 4, none⟩ = some (.int .u64 a3) ∧ V.cell? ⟨w.heap.size, 5, none⟩ = some (.int .u64 a4) ∧ V.cell? ⟨w.heap.size, 6, none⟩ = some (.int .u64 a5) ∧ V.cell? ⟨w.heap.size + 1, 0, none⟩ = some (.bool t) ∧ V.cell? ⟨w.heap.size + 1, 1, none⟩ = some (.int .u64 b0) ∧ V.cell? ⟨w.heap.size + 1, 2, none⟩ = some (.int .u64 b1) ∧ V.cell? ⟨w.heap.size + 1, 3, none⟩ = some (.int .u64 b2) ∧ V.cell? ⟨w.heap.size + 1, 4, none⟩ = some (.int .u64 b3) ∧ V.cell? ⟨w.heap.size + 1, 5, none⟩ = some (.int .u64 b4) ∧ V.cell? ⟨w.heap.size + 1, 6, none⟩ = some (.int .u64 b5)) (first | go_keep | ((repeat' apply And.intro) <;> go_keep))
      (first | (go_at_call 86; refine (less_any [b0, b1, b2, b3, b4, b5] [a0, a1, a2, a3, a4, a5] _ HB.out HA.out (Int.le_of_lt HS.out)).mono ?_; rintro e w1 ⟨⟨ds, rfl, hd, hm⟩, hb⟩; obtain ⟨hcc, hff⟩ := bcell hb; have h0 := fun o => hcc w.heap.size o z1; have h1 := fun o => hcc (w.heap.size + 1) o z2; have h2 := fun o => hcc (w.heap.size + 1 + 1) o z3; have f2 := fun o => hff (w.heap.size + 1 + 1) o z3; clear hcc hff; obtain ⟨o0, o1, o2, o3, o4, o5, rfl⟩ := hd.six; rw [digV_six]; have HD := Lib.hid hd; have HMM := Lib.hid hm; have HB1 := Lib.hid hb; clear hd hm hb))
    go_wp2_with fail
    refine bodyPost_ret (v := wideV t [o0, o1, o2, o3, o4, o5]) (by simp [results, Try.results67, go_sem, wideV, u64s, h2, c20, c21, c22, c23, c24, c25, c26]) rfl ⟨⟨_, rfl, HD.out, HMM.out⟩, ?_⟩
    have q : ∀ {V : World} (i : Nat) (u : Value), Below w.heap.size w V → Below w.heap.size w (V.setCell ⟨w.heap.size + 1 + 1, i, none⟩ u) := fun i u h => h.setCell (by show w.heap.size ≤ w.heap.size + 1 + 1; omega) u
    exact q _ _ (q _ _ (q _ _ (q _ _ (q _ _ (q _ _ (q _ _ (HBL.out.drew.trans (HB1.out.mono HBL.out.size))))))))
/-- Two wide integers added. -/
theorem plus_any (s t : Bool) (a b : List Int) (w : World) (ha : Wd.Dig a) (hb : Wd.Dig b) (hs : Wd.mag a + Wd.mag b < Wd.pw 6) :
    Calls Try.prog 67 #[wideV s a, wideV t b] w fun e w' => (∃ r ds, e = .returned (wideV r ds) ∧ Wd.Dig ds ∧ wval r ds = wval s a + wval t b ∧ Wd.mag ds ≤ Wd.mag a + Wd.mag b) ∧ Below w.heap.size w w' := by
  have pa := (Wd.mag_rng _ ha.rng).1
  have pb := (Wd.mag_rng _ hb.rng).1
  by_cases hst : s = t
  · subst hst
    refine (plus_same s a b w ha hb hs).mono ?_
    rintro e w' ⟨⟨ds, rfl, h1, h2⟩, hb⟩
    refine ⟨⟨s, ds, rfl, h1, ?_, by omega⟩, hb⟩
    unfold wval
    cases s <;> simp only [if_true, if_false, Bool.false_eq_true] <;> omega
  · have hb0 : (s == t) = false := by simpa using hst
    rcases Int.lt_trichotomy (Wd.mag a) (Wd.mag b) with h | h | h
    · refine (plus_lt s t hb0 a b w ha hb h).mono ?_
      rintro e w' ⟨⟨ds, rfl, h1, h2⟩, hb⟩
      refine ⟨⟨t, ds, rfl, h1, ?_, by omega⟩, hb⟩
      unfold wval
      cases s <;> cases t <;> simp only [if_true, if_false, Bool.false_eq_true] <;> first | omega | exact absurd rfl hst
    · refine (plus_eq s t hb0 a b w ha hb h.symm).mono ?_
      rintro e w' ⟨⟨ds, rfl, h1, h2⟩, hb⟩
      refine ⟨⟨s, ds, rfl, h1, ?_, by omega⟩, hb⟩
      unfold wval
      cases s <;> cases t <;> simp only [if_true, if_false, Bool.false_eq_true] <;> first | omega | exact absurd rfl hst
    · refine (plus_gt s t hb0 a b w ha hb h).mono ?_
      rintro e w' ⟨⟨ds, rfl, h1, h2⟩, hb⟩
      refine ⟨⟨s, ds, rfl, h1, ?_, by omega⟩, hb⟩
      unfold wval
      cases s <;> cases t <;> simp only [if_true, if_false, Bool.false_eq_true] <;> first | omega | exact absurd rfl hst
end Go.Proofs.Ytobaodkcjjgkdaa
namespace Go.Proofs.Ytobaodkcjjgkdaa
open Go Go.RowKit

def swE (n : Int) (l : List Edge) (x : Edge) : Int := if newE n l ≠ 0 then newE n l else if x.U < 0 ∨ n ≤ x.U ∨ x.V < 0 ∨ n ≤ x.V then 3 else if x.U = x.V then 9 else 0
/-- The edge that a further edge replaces. -/
def swV (n : Int) (l : List Edge) (x : Edge) : Int := if swE n l x = 0 then Hp.dropF (forF n l) (accF n.toNat (l ++ [x]) (ordL (l ++ [x]))) else 0

set_option maxRecDepth 1000000 in
set_option maxHeartbeats 8000000 in
theorem swap_any (n : Int) (A : Option Addr) (c : Nat) (l : List Edge) (x : Edge) (w : World) (hE : Edges A l w) (hl : l.length ≤ 1000000) :
    Calls Try.prog 22 #[.int .i64 n, .slice A l.length c, .agg #[.int .i64 x.U, .int .i64 x.V, .int .i64 x.W]] w fun e w' => e = .returned (.tuple #[.int .i64 (swV n l x), .int .i64 (swE n l x)]) ∧ Below w.heap.size w w' := by
  have HE := Lib.hid hE
  have hb0 : Below w.heap.size w (w.alloc (.cells #[.int .i64 x.U, .int .i64 x.V, .int .i64 x.W] 36)) := (Below.refl _ _).alloc (Nat.le_refl _) _
  have HB0 := Lib.hid hb0
  have HE0 := Lib.hid (hE.on hb0)
  have hbx : (w.alloc (.cells #[.int .i64 x.U, .int .i64 x.V, .int .i64 x.W] 36)).heap[w.heap.size]? = some (.cells #[.int .i64 x.U, .int .i64 x.V, .int .i64 x.W] 36 (0, 0)) := block_new _ _ _ rfl
  have HBX := Lib.hid hbx
  clear hE hb0 hbx
  by_cases he : newE n l = 0
  · obtain ⟨k, rfl, hk, hm, hv⟩ := newE_zero he
    have hk1 : (k : Int) ≤ 4096 := by omega
    have hd : (newE k l != 0) = false := by rw [he]; rfl
    have HFO : Hid (forF k l = accF k l (ordL l)) := Lib.hid (by unfold forF; rw [if_pos he, Int.toNat_natCast])
    have hse : swE k l x = if x.U < 0 ∨ (k : Int) ≤ x.U ∨ x.V < 0 ∨ (k : Int) ≤ x.V then 3 else if x.U = x.V then 9 else 0 := by unfold swE; rw [if_neg (by simpa using he)]
    have HZ := Lib.hid he; have HV := Lib.hid hv
    clear he hv
    by_cases hbad : x.U < 0 ∨ (k : Int) ≤ x.U ∨ x.V < 0 ∨ (k : Int) ≤ x.V
    · rw [if_pos hbad] at hse
      have HR : Hid (swE k l x = 3 ∧ swV k l x = 0) := Lib.hid ⟨hse, by unfold swV; rw [hse, if_neg (by decide)]⟩
      rw [HR.out.1, HR.out.2]
      clear hse HR
      obtain ⟨U, V, W⟩ := x
      simp only at *
      by_cases h1 : U < 0
      · clear hbad
        go_enter Try.func22, Try.ntmps22
        go_wp2_with (go_at_call 18; refine (forest_any k A c l _ HE0.out hl).mono ?_; rintro e w1 ⟨vo, rfl, -, hb⟩; obtain ⟨hcc, -⟩ := bcell hb; have g := fun o => hcc w.heap.size o (by simp); clear hcc; have HB := Lib.hid (HB0.out.trans (hb.mono (by simp))); clear hb)
        go_ret2
        exact ⟨rfl, HB.out⟩
      · by_cases h2 : (k : Int) ≤ U
        · clear hbad
          go_enter Try.func22, Try.ntmps22
          go_wp2_with (go_at_call 18; refine (forest_any k A c l _ HE0.out hl).mono ?_; rintro e w1 ⟨vo, rfl, -, hb⟩; obtain ⟨hcc, -⟩ := bcell hb; have g := fun o => hcc w.heap.size o (by simp); clear hcc; have HB := Lib.hid (HB0.out.trans (hb.mono (by simp))); clear hb)
          go_ret2
          exact ⟨rfl, HB.out⟩
        · by_cases h3 : V < 0
          · clear hbad
            go_enter Try.func22, Try.ntmps22
            go_wp2_with (go_at_call 18; refine (forest_any k A c l _ HE0.out hl).mono ?_; rintro e w1 ⟨vo, rfl, -, hb⟩; obtain ⟨hcc, -⟩ := bcell hb; have g := fun o => hcc w.heap.size o (by simp); clear hcc; have HB := Lib.hid (HB0.out.trans (hb.mono (by simp))); clear hb)
            go_ret2
            exact ⟨rfl, HB.out⟩
          · have h4 : (k : Int) ≤ V := by omega
            clear hbad
            go_enter Try.func22, Try.ntmps22
            go_wp2_with (go_at_call 18; refine (forest_any k A c l _ HE0.out hl).mono ?_; rintro e w1 ⟨vo, rfl, -, hb⟩; obtain ⟨hcc, -⟩ := bcell hb; have g := fun o => hcc w.heap.size o (by simp); clear hcc; have HB := Lib.hid (HB0.out.trans (hb.mono (by simp))); clear hb)
            go_ret2
            exact ⟨rfl, HB.out⟩
    · rw [if_neg hbad] at hse
      obtain ⟨U, V, W⟩ := x
      simp only at *
      have h1 : 0 ≤ U := by omega
      have h2 : U < k := by omega
      have h3 : 0 ≤ V := by omega
      have h4 : V < k := by omega
      clear hbad
      by_cases h5 : U = V
      · rw [if_pos h5] at hse
        have HR : Hid (swE k l ⟨U, V, W⟩ = 9 ∧ swV k l ⟨U, V, W⟩ = 0) := Lib.hid ⟨hse, by unfold swV; rw [hse, if_neg (by decide)]⟩
        rw [HR.out.1, HR.out.2]
        clear hse HR
        subst h5
        go_enter Try.func22, Try.ntmps22
        go_wp2_with (go_at_call 18; refine (forest_any k A c l _ HE0.out hl).mono ?_; rintro e w1 ⟨vo, rfl, ho, hb⟩; obtain ⟨hcc, -⟩ := bcell hb; have g := fun o => hcc w.heap.size o (by simp); clear hcc; have HB := Lib.hid (HB0.out.trans (hb.mono (by simp))); have HE1 := Lib.hid (HE0.out.on hb); have HO := Lib.hid ho; have HBW := Lib.hid hb; clear hb ho)
        go_ret2
        exact ⟨rfl, HB.out⟩
      · rw [if_neg h5] at hse
        have HR : Hid (swE k l ⟨U, V, W⟩ = 0 ∧ swV k l ⟨U, V, W⟩ = Hp.dropF (accF k l (ordL l)) (accF k (l ++ [⟨U, V, W⟩]) (ordL (l ++ [⟨U, V, W⟩])))) := Lib.hid ⟨hse, by unfold swV; rw [hse, if_pos rfl, HFO.out, Int.toNat_natCast]⟩
        rw [HR.out.1, HR.out.2]
        clear hse HR
        obtain ⟨u, rfl⟩ := Int.eq_ofNat_of_zero_le h1
        obtain ⟨v, rfl⟩ := Int.eq_ofNat_of_zero_le h3
        have h5b : ((u : Int) == (v : Int)) = false := by simpa using h5
        have huv : u ≠ v := fun e => h5 (by rw [e])
        have HUV := Lib.hid huv
        have hsp := Hp.swap_plain l ⟨u, v, W⟩ HV.out u v rfl rfl (by omega) (by omega) _ _ rfl rfl
        have HSP := Lib.hid hsp
        have hmem : ∀ y ∈ accF k l (ordL l), 0 ≤ y ∧ y < l.length := by
          have := forF_mem k l
          rwa [HFO.out] at this
        have hlen : (accF k l (ordL l)).length ≤ l.length := by
          have := forF_len k l
          rwa [HFO.out] at this
        have HSQ := Lib.hid (Hp.acc_seq (n := k) HV.out (ordL l) (ordL_mem l))
        have HMEM := Lib.hid hmem
        generalize Hp.dropF (accF k l (ordL l)) (accF k (l ++ [⟨(u : Int), v, W⟩]) (ordL (l ++ [⟨(u : Int), v, W⟩]))) = D at *
        generalize hAC : accF k l (ordL l) = a at *
        have l1 : (l.length : Int) ≤ 16384 := by omega
        clear h5 huv hsp hmem hAC
        go_enter Try.func22, Try.ntmps22
        go_wp2_with (go_at_call 18; refine (forest_any k A c l _ HE0.out hl).mono ?_; rintro e w1 ⟨vo, rfl, ho, hb⟩; obtain ⟨hcc, -⟩ := bcell hb; have g := fun o => hcc w.heap.size o (by simp); clear hcc; have HB := Lib.hid (HB0.out.trans (hb.mono (by simp))); have HE1 := Lib.hid (HE0.out.on hb); have HO := Lib.hid ho; have HBW := Lib.hid hb; clear hb ho)
        rw [HFO.out] at HO
        obtain ⟨B, cb, rfl, hO, -⟩ := IntsR.ofOwn HO.out
        have HO2 := Lib.hid hO
        clear hO HO
        refine (heaviest_any k (by omega) A B c cb l a w1 HE1.out HO2.out HV.out HMEM.out HSQ.out hl (by omega) u v (by omega) HUV.out).mono ?_
        rintro e w2 ⟨⟨r, rfl, hr⟩, hb⟩
        refine Hid.out ?_
        have hz : w.heap.size < w1.heap.size := by have := HB.out.size; exact block_lt (((HBW.out).block _ (by simp)).trans HBX.out)
        have gw : w2.cell? ⟨w.heap.size, 2, none⟩ = some (.int .i64 W) := (hb.cell (p := ⟨w.heap.size, 2, none⟩) hz).trans ((g 2).trans (cells_of_block HBX.out 2))
        have HB2 := Lib.hid (HB.out.trans (hb.mono HB.out.size)); have HE2 := Lib.hid (HE1.out.on hb)
        clear hb g hz
        rcases hr with ⟨hc, rfl⟩ | ⟨p, rfl, hp, hpi⟩
        · have hD : D = -1 := HSP.out.1 hc
          subst hD
          clear hc
          refine Lib.hid ?_
          go_wp2_with fail
          go_quiet (fail)
          go_wp2_with fail
          go_ret2
          exact ⟨rfl, below_drewN' HB2.out _⟩
        · obtain ⟨-, hD⟩ := HSP.out.2 p hpi
          have hm := HMEM.out _ (List.getElem_mem hp)
          rw [← show St.v a p = a[p] from St.getD_at hp] at hm
          obtain ⟨ei, hei⟩ := Int.eq_ofNat_of_zero_le hm.1
          rw [hei] at hD hm ⊢
          have heil : ei < l.length := by omega
          have ei1 : (ei : Int) < l.length := by omega
          obtain ⟨b, o, rfl, hcc⟩ := HE2.out (by omega)
          have kw := (hcc ei heil).2.2
          rw [show wtOf l ei = (l.getD ei edge0).W from rfl] at hD
          generalize (l.getD ei edge0).W = Y at *
          have HEI := Lib.hid hei; have HPI := Lib.hid hpi
          clear hei hpi hcc hm
          by_cases hW : Y ≤ W
          · rw [if_pos hW] at hD
            subst hD
            refine Lib.hid ?_
            go_wp2_with fail
            go_quiet (fail)
            go_wp2_with fail
            go_ret2
            exact ⟨rfl, below_drewN' HB2.out _⟩
          · rw [if_neg hW] at hD
            subst hD
            refine Lib.hid ?_
            go_wp2_with fail
            go_quiet (fail)
            go_wp2_with fail
            go_ret2
            exact ⟨rfl, below_drewN' HB2.out _⟩
  · have hd : (newE n l != 0) = true := by simp [he]
    have HV : Hid (swE n l x = newE n l ∧ swV n l x = 0) := Lib.hid (by
      have : swE n l x = newE n l := by unfold swE; rw [if_pos he]
      exact ⟨this, by unfold swV; rw [this, if_neg he]⟩)
    clear he
    go_enter Try.func22, Try.ntmps22
    go_wp2_with (go_at_call 18; refine (forest_any n A c l _ HE0.out hl).mono ?_; rintro e w1 ⟨vo, rfl, -, hb⟩; have HB := Lib.hid (HB0.out.trans (hb.mono (by simp))); clear hb)
    go_ret2
    exact ⟨by rw [HV.out.1, HV.out.2]; rfl, HB.out⟩
end Go.Proofs.Ytobaodkcjjgkdaa
