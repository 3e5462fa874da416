/- Plain facts on rows that are moved about within a segment: swaps, exchanged ranges, rotations. Plain facts on exchanged ranges, rotations and merges of sorted runs. Rows of numbers and of edges in memory; what compares two edges by their weights. Plain facts on disjoint sets kept as a forest of parents, and on their labels. Disjoint sets in memory; has and root, walked. Union, walked. -/
import Derived.Test.YtobaodkcjjgkdaaProg
import Derived.WalkKit
import Derived.WalkSpells
import Derived.WalkLawsBesides
import Derived.Handy
import Derived.Lib.Hide
import Derived.OwnWalk
import Derived.RegionTactic
import Derived.BigRegion
import Derived.Deep.RegionHeld3
import Derived.Laws.AppendOwn
import Derived.Outline
import Derived.Deep.QuietTactic
import Derived.BigQuiet
import Derived.Laws.OwnMore
import Derived.Deep.AppendLies
namespace Go.Proofs.Ytobaodkcjjgkdaa.St

/-- ys is xs but for the places from a to b, where the same things lie in another order. -/
structure Mv (a b : Nat) (xs ys : List Int) : Prop where
  len : ys.length = xs.length
  perm : ys.Perm xs
  out : ∀ i, (i < a ∨ b ≤ i) → ys[i]? = xs[i]?
  ins : ∀ j, a ≤ j → j < b → j < ys.length → ∃ i, a ≤ i ∧ i < b ∧ ys[j]? = xs[i]?
theorem Mv.refl (a b : Nat) (xs : List Int) : Mv a b xs xs := ⟨rfl, List.Perm.refl _, fun _ _ => rfl, fun j h1 h2 _ => ⟨j, h1, h2, rfl⟩⟩
theorem Mv.trans {a b : Nat} {xs ys zs : List Int} (h : Mv a b xs ys) (k : Mv a b ys zs) : Mv a b xs zs := by
  refine ⟨k.len.trans h.len, k.perm.trans h.perm, fun i hi => (k.out i hi).trans (h.out i hi), fun j h1 h2 h3 => ?_⟩
  obtain ⟨i, i1, i2, e⟩ := k.ins j h1 h2 h3
  have hl : i < ys.length := by
    rcases Nat.lt_or_ge i ys.length with hl | hl
    · exact hl
    · rw [List.getElem?_eq_none hl, List.getElem?_eq_getElem h3] at e; cases e
  obtain ⟨i', i3, i4, e'⟩ := h.ins i i1 i2 hl
  exact ⟨i', i3, i4, e.trans e'⟩
theorem Mv.mono {a b a' b' : Nat} {xs ys : List Int} (h : Mv a b xs ys) (ha : a' ≤ a) (hb : b ≤ b') : Mv a' b' xs ys := by
  refine ⟨h.len, h.perm, fun i hi => h.out i (by omega), fun j h1 h2 h3 => ?_⟩
  by_cases hj : j < a ∨ b ≤ j
  · exact ⟨j, h1, h2, h.out j hj⟩
  · obtain ⟨i, i1, i2, e⟩ := h.ins j (by omega) (by omega) h3
    exact ⟨i, by omega, by omega, e⟩

/-- Places i and j exchanged. -/
def swp (xs : List Int) (i j : Nat) : List Int := (xs.set i (xs.getD j 0)).set j (xs.getD i 0)
theorem swp_length (xs : List Int) (i j : Nat) : (swp xs i j).length = xs.length := by simp [swp]
theorem getD_at {xs : List Int} {i : Nat} (h : i < xs.length) : xs.getD i 0 = xs[i] := by simp [List.getD_eq_getElem?_getD, h]
theorem swp_get (xs : List Int) (i j k : Nat) (hi : i < xs.length) (hj : j < xs.length) : (swp xs i j)[k]? = if k = j then xs[i]? else if k = i then xs[j]? else xs[k]? := by
  unfold swp
  rw [List.getElem?_set, List.length_set]
  by_cases h1 : k = j
  · subst h1
    rw [if_pos rfl, if_pos hj, if_pos rfl, getD_at hi, List.getElem?_eq_getElem hi]
  · rw [if_neg (fun e => h1 e.symm), if_neg h1, List.getElem?_set]
    by_cases h2 : k = i
    · subst h2
      rw [if_pos rfl, if_pos hi, if_pos rfl, getD_at hj, List.getElem?_eq_getElem hj]
    · rw [if_neg (fun e => h2 e.symm), if_neg h2]
theorem swp_perm {xs : List Int} {i j : Nat} (hi : i < xs.length) (hj : j < xs.length) : (swp xs i j).Perm xs := by
  unfold swp
  rw [getD_at hi, getD_at hj]
  exact List.set_set_perm hi hj
theorem Mv.swap {a b : Nat} {xs : List Int} {i j : Nat} (hi : i < xs.length) (hj : j < xs.length) (ai : a ≤ i) (ib : i < b) (aj : a ≤ j) (jb : j < b) : Mv a b xs (swp xs i j) := by
  refine ⟨swp_length _ _ _, swp_perm hi hj, fun k hk => ?_, fun k h1 h2 _ => ?_⟩
  · rw [swp_get xs i j k hi hj, if_neg (by omega), if_neg (by omega)]
  · rw [swp_get xs i j k hi hj]
    by_cases k1 : k = j
    · exact ⟨i, ai, ib, by rw [if_pos k1]⟩
    · by_cases k2 : k = i
      · exact ⟨j, aj, jb, by rw [if_neg k1, if_pos k2]⟩
      · exact ⟨k, h1, h2, by rw [if_neg k1, if_neg k2]⟩
end Go.Proofs.Ytobaodkcjjgkdaa.St
namespace Go.Proofs.Ytobaodkcjjgkdaa.St

/-- n places from a on exchanged with as many from b on. -/
def swr (xs : List Int) (a b : Nat) : Nat → List Int
  | 0 => xs
  | k + 1 => swp (swr xs a b k) (a + k) (b + k)
theorem swr_length (xs : List Int) (a b n : Nat) : (swr xs a b n).length = xs.length := by
  induction n with
  | zero => rfl
  | succ n ih => rw [swr, swp_length, ih]
theorem swr_get (xs : List Int) (a b : Nat) (n : Nat) : a + n ≤ b → b + n ≤ xs.length → ∀ k, (swr xs a b n)[k]? = if a ≤ k ∧ k < a + n then xs[k + (b - a)]? else if b ≤ k ∧ k < b + n then xs[k - (b - a)]? else xs[k]? := by
  induction n with
  | zero => intro _ _ k; rw [if_neg (by omega), if_neg (by omega)]; rfl
  | succ n ih =>
    intro h1 h2 k
    have ih := ih (by omega) (by omega)
    rw [swr, swp_get _ _ _ _ (by rw [swr_length]; omega) (by rw [swr_length]; omega), ih (a + n), ih (b + n), ih k]
    by_cases k1 : k = b + n
    · rw [if_pos k1, if_neg (by omega), if_neg (by omega), if_neg (by omega), if_pos (by omega)]
      congr 1; omega
    · rw [if_neg k1]
      by_cases k2 : k = a + n
      · rw [if_pos k2, if_neg (by omega), if_neg (by omega), if_pos (by omega)]
        congr 1; omega
      · rw [if_neg k2]
        by_cases k3 : a ≤ k ∧ k < a + n
        · rw [if_pos k3, if_pos (by omega)]
        · rw [if_neg k3]
          by_cases k4 : b ≤ k ∧ k < b + n
          · rw [if_pos k4, if_neg (by omega), if_pos (by omega)]
          · rw [if_neg k4, if_neg (by omega), if_neg (by omega)]
theorem swr_mv {xs : List Int} {a b lo hi : Nat} (n : Nat) : a + n ≤ b → b + n ≤ xs.length → lo ≤ a → b + n ≤ hi → Mv lo hi xs (swr xs a b n) := by
  induction n with
  | zero => intro _ _ _ _; exact Mv.refl _ _ _
  | succ n ih =>
    intro h1 h2 h3 h4
    exact (ih (by omega) (by omega) h3 (by omega)).trans (Mv.swap (by rw [swr_length]; omega) (by rw [swr_length]; omega) (by omega) (by omega) (by omega) (by omega))

/-- What lies at place k when the parts from a to m and from m to b have changed places. -/
def tgt (xs : List Int) (a m b k : Nat) : Option Int := if a ≤ k ∧ k < a + (b - m) then xs[k + (m - a)]? else if a + (b - m) ≤ k ∧ k < b then xs[k - (b - m)]? else xs[k]?
/-- What is left of a rotation: parts of i and of j places around m. -/
structure Lft (xs : List Int) (a m b : Nat) (i j : Nat) (ys : List Int) : Prop where
  out : ∀ k, (k < m - i ∨ m + j ≤ k) → ys[k]? = tgt xs a m b k
  one : ∀ k, m - i ≤ k → k < m - i + j → tgt xs a m b k = ys[k + i]?
  two : ∀ k, m - i + j ≤ k → k < m + j → tgt xs a m b k = ys[k - j]?
theorem Lft.start (xs : List Int) {a m b : Nat} (h1 : a ≤ m) (h2 : m ≤ b) : Lft xs a m b (m - a) (b - m) xs := by
  refine ⟨fun k hk => ?_, fun k k1 k2 => ?_, fun k k1 k2 => ?_⟩
  · unfold tgt; rw [if_neg (by omega), if_neg (by omega)]
  · unfold tgt; rw [if_pos (by omega)]
  · unfold tgt; rw [if_neg (by omega), if_pos (by omega)]
theorem Lft.big {xs ys : List Int} {a m b i j : Nat} (h : Lft xs a m b i j ys) (hi : i ≤ m) (hj : j < i) (hl : m + j ≤ ys.length) : Lft xs a m b (i - j) j (swr ys (m - i) m j) := by
  have g := swr_get ys (m - i) m j (by omega) hl
  refine ⟨fun k hk => ?_, fun k k1 k2 => ?_, fun k k1 k2 => ?_⟩
  · rw [g k]
    by_cases k3 : m - i ≤ k ∧ k < m - i + j
    · rw [if_pos k3, h.one k k3.1 k3.2]; congr 1; omega
    · rw [if_neg k3, if_neg (by omega)]; exact h.out k (by omega)
  · rw [g (k + (i - j)), if_neg (by omega), if_pos (by omega), h.two k (by omega) (by omega)]; congr 1; omega
  · rw [g (k - j), if_neg (by omega), if_neg (by omega), h.two k (by omega) k2]
theorem Lft.small {xs ys : List Int} {a m b i j : Nat} (h : Lft xs a m b i j ys) (hi : i ≤ m) (hj : i < j) (hl : m + j ≤ ys.length) : Lft xs a m b i (j - i) (swr ys (m - i) (m + j - i) i) := by
  have g := swr_get ys (m - i) (m + j - i) i (by omega) (by omega)
  refine ⟨fun k hk => ?_, fun k k1 k2 => ?_, fun k k1 k2 => ?_⟩
  · rw [g k]
    by_cases k3 : m + j - i ≤ k ∧ k < m + j
    · rw [if_neg (by omega), if_pos (by omega), h.two k (by omega) (by omega)]; congr 1; omega
    · rw [if_neg (by omega), if_neg (by omega)]; exact h.out k (by omega)
  · rw [g (k + i), if_neg (by omega), if_neg (by omega), h.one k (by omega) (by omega)]
  · rw [g (k - (j - i)), if_pos (by omega), h.one k (by omega) (by omega)]; congr 1; omega
theorem Lft.last {xs ys : List Int} {a m b i : Nat} (h : Lft xs a m b i i ys) (hi : i ≤ m) (hl : m + i ≤ ys.length) (k : Nat) : (swr ys (m - i) m i)[k]? = tgt xs a m b k := by
  rw [swr_get ys (m - i) m i (by omega) hl k]
  by_cases k1 : m - i ≤ k ∧ k < m - i + i
  · rw [if_pos k1, h.one k k1.1 (by omega)]; congr 1; omega
  · rw [if_neg k1]
    by_cases k2 : m ≤ k ∧ k < m + i
    · rw [if_pos k2, h.two k (by omega) k2.2]; congr 1; omega
    · rw [if_neg k2]; exact h.out k (by omega)
/-- The parts from a to m and from m to b have changed places. -/
structure Rot (xs : List Int) (a m b : Nat) (ys : List Int) : Prop where
  mv : Mv a b xs ys
  at_ : ∀ k, ys[k]? = tgt xs a m b k

def v (xs : List Int) (i : Nat) : Int := xs.getD i 0
theorem v_of {xs : List Int} {i : Nat} {x : Int} (h : xs[i]? = some x) : v xs i = x := by simp [v, List.getD_eq_getElem?_getD, h]
theorem v_eq {xs ys : List Int} {i j : Nat} (h : xs[i]? = ys[j]?) : v xs i = v ys j := by simp [v, List.getD_eq_getElem?_getD, h]

section
variable (wt : Int → Int)
/-- By weight, and then by number. -/
def R (x y : Int) : Prop := wt x < wt y ∨ (wt x = wt y ∧ x < y)
def Srt (a b : Nat) (xs : List Int) : Prop := ∀ i j, a ≤ i → i < j → j < b → R wt (v xs i) (v xs j)
def Crs (a m b : Nat) (xs : List Int) : Prop := ∀ i j, a ≤ i → i < m → m ≤ j → j < b → R wt (v xs i) (v xs j)
end
def Lss (a m b : Nat) (xs : List Int) : Prop := ∀ i j, a ≤ i → i < m → m ≤ j → j < b → v xs i < v xs j
variable {wt : Int → Int}
theorem R.trans {x y z : Int} (h : R wt x y) (k : R wt y z) : R wt x z := by unfold R at *; omega
theorem R.le {x y : Int} (h : R wt x y) : wt x ≤ wt y := by unfold R at h; omega
theorem Mv.v {a b : Nat} {xs ys : List Int} (h : Mv a b xs ys) (hb : b ≤ xs.length) {j : Nat} (h1 : a ≤ j) (h2 : j < b) : ∃ i, a ≤ i ∧ i < b ∧ v ys j = v xs i := by
  obtain ⟨i, i1, i2, e⟩ := h.ins j h1 h2 (by rw [h.len]; omega)
  exact ⟨i, i1, i2, v_eq e⟩
theorem Mv.v_out {a b : Nat} {xs ys : List Int} (h : Mv a b xs ys) {i : Nat} (hi : i < a ∨ b ≤ i) : St.v ys i = St.v xs i := v_eq (h.out i hi)
/-- Two sorted halves, the one below the other. -/
theorem srt_join {a mid b : Nat} {ys zs us : List Int} (hb : b ≤ ys.length) (h1 : Mv a mid ys zs) (s1 : Srt wt a mid zs) (h2 : Mv mid b zs us) (s2 : Srt wt mid b us) (hc : Crs wt a mid b ys) : Srt wt a b us := by
  intro i j ai ij jb
  by_cases hj : j < mid
  · rw [h2.v_out (.inl (by omega)), h2.v_out (.inl hj)]
    exact s1 i j ai ij hj
  · by_cases hi : i < mid
    · rw [h2.v_out (.inl hi)]
      obtain ⟨j', j1, j2, e⟩ := h2.v (by rw [h1.len]; exact hb) (by omega : mid ≤ j) jb
      obtain ⟨i', i1, i2, e'⟩ := h1.v (by omega) ai hi
      rw [e, e', h1.v_out (.inr j1)]
      exact hc i' j' i1 i2 j1 j2
    · exact s2 i j (by omega) ij jb

/-- What symMerge's search and rotation bring about. -/
theorem sym_split {a m b mid start s0 r0 : Nat} {xs ys : List Int} (ham : a < m) (hmb : m < b) (hmid : mid = (a + b) / 2)
    (h0 : (mid < m ∧ s0 + b = mid + m ∧ r0 = mid) ∨ (m ≤ mid ∧ s0 = a ∧ r0 = m)) (hs0 : s0 ≤ start) (hs1 : start ≤ r0)
    (S1 : Srt wt a m xs) (S2 : Srt wt m b xs) (L : Lss a m b xs)
    (hlo : start = s0 ∨ wt (v xs (start - 1)) ≤ wt (v xs (mid + m - start))) (hhi : start = r0 ∨ wt (v xs (mid + m - 1 - start)) < wt (v xs start))
    (hr : ∀ k, ys[k]? = tgt xs start m (mid + m - start) k) :
    Crs wt a mid b ys ∧ Srt wt a start ys ∧ Srt wt start mid ys ∧ Lss a start mid ys ∧ Srt wt mid (mid + m - start) ys ∧ Srt wt (mid + m - start) b ys ∧ Lss mid (mid + m - start) b ys := by
  have hsm : start ≤ m := by omega
  have hsd : start ≤ mid := by omega
  have has : a ≤ start := by omega
  obtain ⟨e, he⟩ : ∃ e, e = mid + m - start := ⟨_, rfl⟩
  rw [← he] at hr hlo ⊢
  have hme : m ≤ e := by omega
  have heb : e ≤ b := by omega
  have hde : mid ≤ e := by omega
  have g1 : ∀ k, k < start → v ys k = v xs k := fun k hk => by
    apply v_eq; rw [hr k]; unfold tgt; rw [if_neg (by omega), if_neg (by omega)]
  have g2 : ∀ k, start ≤ k → k < mid → v ys k = v xs (k + (m - start)) := fun k k1 k2 => by
    apply v_eq; rw [hr k]; unfold tgt; rw [if_pos (by omega)]
  have g3 : ∀ k, mid ≤ k → k < e → v ys k = v xs (k - (e - m)) := fun k k1 k2 => by
    apply v_eq; rw [hr k]; unfold tgt; rw [if_neg (by omega), if_pos (by omega)]
  have g4 : ∀ k, e ≤ k → v ys k = v xs k := fun k hk => by
    apply v_eq; rw [hr k]; unfold tgt; rw [if_neg (by omega), if_neg (by omega)]
  -- the left part's beginning is below the right part's end
  have c1 : ∀ i j, a ≤ i → i < start → e ≤ j → j < b → R wt (v xs i) (v xs j) := by
    intro i j i1 i2 j1 j2
    rcases hlo with hlo | hlo
    · omega
    · have hle : R wt (v xs (start - 1)) (v xs e) := by
        have := L (start - 1) e (by omega) (by omega) hme (by omega)
        unfold R; omega
      have ha : i = start - 1 ∨ R wt (v xs i) (v xs (start - 1)) := by
        by_cases q : i = start - 1
        · exact .inl q
        · exact .inr (S1 i (start - 1) i1 (by omega) (by omega))
      have hb' : j = e ∨ R wt (v xs e) (v xs j) := by
        by_cases q : j = e
        · exact .inl q
        · exact .inr (S2 e j hme (by omega) j2)
      rcases ha with rfl | ha <;> rcases hb' with rfl | hb'
      · exact hle
      · exact hle.trans hb'
      · exact ha.trans hle
      · exact (ha.trans hle).trans hb'
  -- what comes over from the right is below what stays of the left
  have c2 : ∀ i j, m ≤ i → i < e → start ≤ j → j < m → R wt (v xs i) (v xs j) := by
    intro i j i1 i2 j1 j2
    rcases hhi with hhi | hhi
    · omega
    · have hidx : mid + m - 1 - start = e - 1 := by omega
      rw [hidx] at hhi
      have hle : R wt (v xs (e - 1)) (v xs start) := .inl hhi
      have ha : i = e - 1 ∨ R wt (v xs i) (v xs (e - 1)) := by
        by_cases q : i = e - 1
        · exact .inl q
        · exact .inr (S2 i (e - 1) i1 (by omega) (by omega))
      have hb' : j = start ∨ R wt (v xs start) (v xs j) := by
        by_cases q : j = start
        · exact .inl q
        · exact .inr (S1 start j has (by omega) j2)
      rcases ha with rfl | ha <;> rcases hb' with rfl | hb'
      · exact hle
      · exact hle.trans hb'
      · exact ha.trans hle
      · exact (ha.trans hle).trans hb'
  refine ⟨?_, ?_, ?_, ?_, ?_, ?_, ?_⟩
  · intro i j i1 i2 j1 j2
    by_cases hi : i < start
    · rw [g1 i hi]
      by_cases hj : j < e
      · rw [g3 j j1 hj]
        exact S1 i (j - (e - m)) i1 (by omega) (by omega)
      · rw [g4 j (by omega)]
        exact c1 i j i1 hi (by omega) j2
    · rw [g2 i (by omega) i2]
      by_cases hj : j < e
      · rw [g3 j j1 hj]
        exact c2 _ _ (by omega) (by omega) (by omega) (by omega)
      · rw [g4 j (by omega)]
        exact S2 _ _ (by omega) (by omega) j2
  · intro i j i1 ij j2
    rw [g1 i (by omega), g1 j j2]
    exact S1 i j i1 ij (by omega)
  · intro i j i1 ij j2
    rw [g2 i i1 (by omega), g2 j (by omega) j2]
    exact S2 _ _ (by omega) (by omega) (by omega)
  · intro i j i1 i2 j1 j2
    rw [g1 i i2, g2 j j1 j2]
    exact L _ _ i1 (by omega) (by omega) (by omega)
  · intro i j i1 ij j2
    rw [g3 i i1 (by omega), g3 j (by omega) j2]
    exact S1 _ _ (by omega) (by omega) (by omega)
  · intro i j i1 ij j2
    rw [g4 i i1, g4 j (by omega)]
    exact S2 i j (by omega) ij j2
  · intro i j i1 i2 j1 j2
    rw [g3 i i1 i2, g4 j j1]
    exact L _ _ (by omega) (by omega) (by omega) j2
end Go.Proofs.Ytobaodkcjjgkdaa.St
namespace Go.Proofs.Ytobaodkcjjgkdaa
open Go Go.RowKit

theorem cells_of_block {w : World} {b : Nat} {cs : Array Value} {t : TypeId} {fr : Nat × Nat} (h : w.heap[b]? = some (.cells cs t fr)) (i : Nat) : w.cell? ⟨b, i, none⟩ = cs[i]? := by
  simp [World.cell?, h]
theorem frozen_of_block {w : World} {b : Nat} {cs : Array Value} {t : TypeId} (h : w.heap[b]? = some (.cells cs t (0, 0))) (i : Nat) : w.frozen? ⟨b, i, none⟩ = false := by
  simp [World.frozen?, h]
theorem block_new (w : World) (o : Obj) (n : Nat) (h : n = w.heap.size) : (w.alloc o).heap[n]? = some o := by
  subst h
  show (w.heap.push o)[w.heap.size]? = _
  simp
theorem block_lt {w : World} {b : Nat} {o : Obj} (h : w.heap[b]? = some o) : b < w.heap.size := (Array.getElem?_eq_some_iff.1 h).1
theorem set_same {w : World} {n i : Nat} {cs : Array Value} {t : TypeId} {v : Value} (h : w.heap[n]? = some (.cells cs t (0, 0))) : (w.setCell ⟨n, i, none⟩ v).heap[n]? = some (.cells (cs.setIfInBounds i v) t (0, 0)) := by
  simp [World.setCell, Array.getElem?_modify, h]

/-- A row of ints. -/
def ints (xs : List Int) : Array Value := (xs.map (Value.int .i64)).toArray
structure Row (g : Nat) (xs : List Int) (w : World) : Prop where
  bh : w.heap[g]? = some (.cells (ints xs) 3 (0, 0))
theorem Row.lt {g : Nat} {xs : List Int} {w : World} (h : Row g xs w) : g < w.heap.size := block_lt h.bh
theorem Row.cell {g : Nat} {xs : List Int} {w : World} (h : Row g xs w) {i : Nat} (hi : i < xs.length) : w.cell? ⟨g, i, none⟩ = some (.int .i64 (St.v xs i)) := by
  rw [cells_of_block h.bh]
  simp [ints, St.v, List.getD_eq_getElem?_getD, hi]
theorem Row.frozen {g : Nat} {xs : List Int} {w : World} (h : Row g xs w) (i : Nat) : w.frozen? ⟨g, i, none⟩ = false := frozen_of_block h.bh i
theorem Row.on {g : Nat} {xs : List Int} {w w' : World} (h : Row g xs w) (hb : Below w.heap.size w w') : Row g xs w' := ⟨(hb.block _ h.lt).trans h.bh⟩
theorem Row.set {g : Nat} {xs : List Int} {w : World} (h : Row g xs w) (i : Nat) (x : Int) : Row g (xs.set i x) (w.setCell ⟨g, i, none⟩ (.int .i64 x)) := by
  refine ⟨(set_same h.bh).trans ?_⟩
  congr 2
  apply Array.ext'
  simp [ints, List.map_set]
theorem Row.drew {g : Nat} {xs : List Int} {w : World} (h : Row g xs w) : Row g xs w.drew := h.on (Below.refl _ _).drew
theorem Row.alloc {g : Nat} {xs : List Int} {w : World} (h : Row g xs w) (o : Obj) : Row g xs (w.alloc o) := h.on ((Below.refl _ _).alloc (Nat.le_refl _) _)

theorem only_drew {a w : World} {row : Option Nat} (h : a.grownBy w row) : a.grownBy w.drew row := ⟨h.os, h.tape, h.output, h.size, h.block⟩
theorem only_alloc {a w : World} {row : Option Nat} (h : a.grownBy w row) (o : Obj) : a.grownBy (w.alloc o) row :=
  ⟨h.os, h.tape, h.output, Nat.le_trans h.size (by simp), fun i hi hne => (Below.heap_alloc w o i (Nat.lt_of_lt_of_le hi h.size)).trans (h.block i hi hne)⟩
theorem only_setCell {a w : World} {g : Nat} (h : a.grownBy w (some g)) {p : Addr} (hp : p.block = g ∨ a.heap.size ≤ p.block) (u : Value) : a.grownBy (w.setCell p u) (some g) :=
  ⟨h.os, h.tape, h.output, by simpa [World.setCell] using h.size, fun i hi hne => (Below.heap_setCell w p u i (by
    rintro rfl
    rcases hp with hp | hp
    · exact hne (by rw [hp])
    · omega)).trans (h.block i hi hne)⟩
theorem only_below {a w w' : World} {row : Option Nat} (h : a.grownBy w row) (hb : Below w.heap.size w w') : a.grownBy w' row :=
  ⟨hb.os.trans h.os, hb.tape.trans h.tape, hb.output.trans h.output, Nat.le_trans h.size hb.size, fun i hi hne => (hb.block i (Nat.lt_of_lt_of_le hi h.size)).trans (h.block i hi hne)⟩
theorem only_trans {a w w' : World} {row : Option Nat} (h : a.grownBy w row) (hb : w.grownBy w' row) : a.grownBy w' row :=
  ⟨hb.os.trans h.os, hb.tape.trans h.tape, hb.output.trans h.output, Nat.le_trans h.size hb.size, fun i hi hne => (hb.block i (Nat.lt_of_lt_of_le hi h.size) hne).trans (h.block i hi hne)⟩

/-- An edge. -/
structure Edge where
  U : Int
  V : Int
  W : Int
def Edge.I64 (x : Int) : Prop := -9223372036854775808 ≤ x ∧ x ≤ 9223372036854775807
def edge0 : Edge := ⟨0, 0, 0⟩
def ecells (l : List Edge) : List Value := l.flatMap fun e => [.int .i64 e.U, .int .i64 e.V, .int .i64 e.W]
/-- A slice of edges that is read. -/
def Edges (A : Option Addr) (l : List Edge) (w : World) : Prop :=
  0 < l.length → ∃ b o, A = some ⟨b, o, none⟩ ∧ ∀ j, j < l.length → w.cell? ⟨b, o + j * 3, none⟩ = some (.int .i64 (l.getD j edge0).U) ∧ w.cell? ⟨b, o + j * 3 + 1, none⟩ = some (.int .i64 (l.getD j edge0).V) ∧ w.cell? ⟨b, o + j * 3 + 2, none⟩ = some (.int .i64 (l.getD j edge0).W)
theorem Edges.on {A : Option Addr} {l : List Edge} {w w' : World} (h : Edges A l w) (hb : Below w.heap.size w w') : Edges A l w' := fun hn => by
  obtain ⟨b, o, rfl, hc⟩ := h hn
  have hlt := World.block_lt_of_cell? w _ (hc 0 hn).1
  have e : ∀ i, w'.cell? ⟨b, i, none⟩ = w.cell? ⟨b, i, none⟩ := fun i => hb.cell (p := ⟨b, i, none⟩) hlt
  exact ⟨b, o, rfl, fun j hj => ⟨(e _).trans (hc j hj).1, (e _).trans (hc j hj).2.1, (e _).trans (hc j hj).2.2⟩⟩

theorem info_int : (Try.prog.info? 3).map (fun i => (i.zero, i.size, i.bytes)) = some (some (.int .i64 0), 1, 8) := by kernel_rfl
theorem mk_ints (n : Nat) (hn : n ≤ 1000000) (W : World) : (Instr.makeSlice 24 (.int .i64 (n : Int)) (.int .i64 (n : Int))).run Try.prog W = .ok (.slice (some ⟨W.heap.size, 0, none⟩) n n) (W.alloc (.cells (ints (List.replicate n 0)) 3)) := by
  obtain ⟨i0, hi, hz0, hz1, hz2⟩ := info_parts info_int
  have h := run_make (P := Try.prog) W 24 3 i0 (.int .i64 0) Try.underlying24 hi hz0 .i64 .i64 n n (by omega) (by omega) (by rw [hz2]; omega) (by omega)
  have e : madeCells (Value.int .i64 0).cells (n * i0.size) = ints (List.replicate n 0) := by
    rw [hz1, Nat.mul_one]
    apply Array.ext'
    have : (Value.int .i64 0).cells = #[.int .i64 0] := rfl
    rw [this, toList_madeCells_one]
    simp [ints]
  simp only [Int.toNat_natCast] at h
  rw [h, e]

/-- How two numbers compare. -/
def cmpI (a b : Int) : Int := if a < b then -1 else if b < a then 1 else 0
set_option maxRecDepth 100000 in
theorem compare_any (a b : Int) (w : World) : Calls Try.prog 38 #[.int .i64 a, .int .i64 b] w fun e w' => e = .returned (.int .i64 (cmpI a b)) ∧ w' = w := by
  unfold cmpI
  by_cases h1 : a < b
  · rw [if_pos h1]
    go_enter Try.func38, Try.ntmps38
    go_wp2
    go_ret
    exact ⟨rfl, rfl⟩
  · rw [if_neg h1]
    by_cases h2 : b < a
    · rw [if_pos h2]
      go_enter Try.func38, Try.ntmps38
      go_wp2
      go_ret
      exact ⟨rfl, rfl⟩
    · rw [if_neg h2]
      go_enter Try.func38, Try.ntmps38
      go_wp2
      go_ret
      exact ⟨rfl, rfl⟩
/-- The weight of an edge. -/
def wtOf (l : List Edge) (i : Int) : Int := (l.getD i.toNat edge0).W


/-- What a comparison of edges reads: the variable c holds the slice of edges; block g is none of its own. -/
structure Cmpr (g c : Nat) (l : List Edge) (w : World) : Prop where
  ne : c ≠ g
  lt : c < w.heap.size
  cell : ∃ A cap, w.cell? ⟨c, 0, none⟩ = some (.slice A l.length cap) ∧ (0 < l.length → ∃ b o, A = some ⟨b, o, none⟩ ∧ b ≠ g ∧ b < w.heap.size ∧ ∀ j, j < l.length → w.cell? ⟨b, o + j * 3 + 2, none⟩ = some (.int .i64 (l.getD j edge0).W))
theorem only_cell {w w' : World} {g b i : Nat} (h : w.grownBy w' (some g)) (hne : b ≠ g) (hlt : b < w.heap.size) : w'.cell? ⟨b, i, none⟩ = w.cell? ⟨b, i, none⟩ :=
  World.cell?_of_block (h.block b hlt (fun e => hne (by injection e)))
theorem Cmpr.keep {g c : Nat} {l : List Edge} {w w' : World} (h : Cmpr g c l w) (hg : w.grownBy w' (some g)) : Cmpr g c l w' := by
  obtain ⟨hne, hlt, A, cap, hc, hr⟩ := h
  refine ⟨hne, Nat.lt_of_lt_of_le hlt hg.size, A, cap, (only_cell hg hne hlt).trans hc, fun hn => ?_⟩
  obtain ⟨b, o, rfl, hb, hbl, hw⟩ := hr hn
  exact ⟨b, o, rfl, hb, Nat.lt_of_lt_of_le hbl hg.size, fun j hj => (only_cell hg hb hbl).trans (hw j hj)⟩

set_option maxRecDepth 100000 in
set_option maxHeartbeats 4000000 in
theorem cmp_any {g c : Nat} {l : List Edge} {w : World} (h : Cmpr g c l w) (hl : l.length ≤ 1000000) (x y : Int) (x0 : 0 ≤ x) (x1 : x < l.length) (y0 : 0 ≤ y) (y1 : y < l.length) :
    Calls Try.prog 37 #[.int .i64 x, .int .i64 y, .pointer (some ⟨c, 0, none⟩)] w fun e w' => e = .returned (.int .i64 (cmpI (wtOf l x) (wtOf l y))) ∧ ∃ n, w' = w.drewN n := by
  obtain ⟨i, rfl⟩ := Int.eq_ofNat_of_zero_le x0
  obtain ⟨j, rfl⟩ := Int.eq_ofNat_of_zero_le y0
  obtain ⟨-, -, A, cap, hc, hr⟩ := h
  obtain ⟨b, o, rfl, -, -, hw⟩ := hr (by omega)
  have h1 := hw i (by omega)
  have h2 := hw j (by omega)
  unfold wtOf
  rw [Int.toNat_natCast, Int.toNat_natCast]
  generalize (l.getD i edge0).W = u at *
  generalize (l.getD j edge0).W = z at *
  generalize l.length = n at *
  have hn : (n : Int) ≤ 1000000 := by omega
  clear hw hr
  go_enter Try.func37, Try.ntmps37
  go_wp2
  go_quiet ((go_at_call 38; exact Calls.quiet_of_same (compare_any _ _ _)))
  go_wp2
  go_ret
  exact ⟨rfl, _, rfl⟩


theorem swp_is (xs : List Int) (i j : Nat) : St.swp xs i j = (xs.set i (St.v xs j)).set j (St.v xs i) := rfl
theorem swp_is' (xs : List Int) (i j : Nat) (h : i ≠ j) : St.swp xs i j = (xs.set j (St.v xs i)).set i (St.v xs j) := by
  rw [swp_is, List.set_comm _ _ h]
set_option maxRecDepth 100000 in
set_option maxHeartbeats 4000000 in
theorem swr_any (g a b k : Nat) (xs : List Int) (f : Value) (w : World) (h : Row g xs w) (hab : a + k ≤ b) (hb : b + k ≤ xs.length) (hn : xs.length ≤ 1000000) :
    Calls Try.prog 106 #[.slice (some ⟨g, 0, none⟩) xs.length xs.length, .int .i64 a, .int .i64 b, .int .i64 k, f] w fun e w' => e = .returned (.tuple #[]) ∧ Row g (St.swr xs a b k) w' ∧ w.grownBy w' (some g) := by
  have HR := Lib.hid h
  have hn1 : (xs.length : Int) ≤ 1000000 := by omega
  have hb1 : (b : Int) + k ≤ xs.length := by omega
  have hab1 : (a : Int) + k ≤ b := by omega
  clear h
  go_enter Try.func106, Try.ntmps106
  go_wp2
  go_loopw [10] (fun i wr => ∃ j : Nat, j ≤ k ∧ i = .int .i64 j ∧ Row g (St.swr xs a b j) wr ∧ w.grownBy wr (some g)) (fun i _ => k - (intOf i).toNat)
  case atStart => exact ⟨0, by omega, rfl, HR.out, World.grownBy.refl _ _⟩
  case round =>
    obtain ⟨j, hj, rfl, hrow, hg⟩ := hrel
    have hlen := St.swr_length xs a b j
    generalize hys : St.swr xs a b j = ys at *
    by_cases hlt : j < k
    · have c1 := hrow.cell (i := a + j) (by omega)
      have c2 := hrow.cell (i := b + j) (by omega)
      have f1 := hrow.frozen (a + j)
      have f2 := hrow.frozen (b + j)
      have hne : a + j ≠ b + j := by omega
      have hlt1 : (j : Int) < k := by omega
      have hgl := hrow.lt
      have HROW := Lib.hid hrow; have HG := Lib.hid hg; have HYS := Lib.hid hys; have HLEN := Lib.hid hlen
      clear hrow hg hys hlen HR
      generalize hx : St.v ys (a + j) = x at *
      generalize hy : St.v ys (b + j) = y at *
      have HX := Lib.hid hx; have HY := Lib.hid hy
      clear hx hy
      go_wp2
      go_region
      go_wp2
      go_roundw
      case rel =>
        have e : St.swr xs a b (j + 1) = (ys.set (a + j) y).set (b + j) x := by rw [← HX.out, ← HY.out, ← HYS.out]; rfl
        refine ⟨j + 1, by omega, by go_num, ?_, ?_⟩
        · rw [e]
          exact ((HROW.out.set (a + j) y).set (b + j) x).drew
        · exact only_drew (only_setCell (only_setCell HG.out (.inl rfl) _) (.inl rfl) _)
      case measure => simp [intOf]; omega
    · have hjk : j = k := by omega
      subst hjk
      have HROW := Lib.hid hrow; have HG := Lib.hid hg; have HYS := Lib.hid hys
      clear hrow hg hys hlen
      go_wp2
      go_end0
      exact ⟨rfl, by rw [HYS.out]; exact HROW.out, HG.out⟩
end Go.Proofs.Ytobaodkcjjgkdaa
namespace Go.Proofs.Ytobaodkcjjgkdaa.Uf
open Go.Proofs.Ytobaodkcjjgkdaa.St (v)

theorem v_set (xs : List Int) (i j : Nat) (x : Int) (hi : i < xs.length) : v (xs.set i x) j = if j = i then x else v xs j := by
  unfold St.v
  rw [List.getD_eq_getElem?_getD, List.getD_eq_getElem?_getD, List.getElem?_set]
  by_cases h : j = i
  · subst h; simp [hi]
  · rw [if_neg h, if_neg (fun e => h e.symm)]
/-- The parent of a number. -/
def up (us : List Int) (i : Nat) : Nat := (v us i).toNat
/-- A forest of parents: rep is the root above a number; rk rises along the way. -/
structure Ok (n : Nat) (us : List Int) (rep rk : Nat → Nat) (R : Nat) : Prop where
  len : us.length = n
  rng : ∀ i, i < n → 0 ≤ v us i ∧ v us i < n
  repn : ∀ i, i < n → rep i < n
  root : ∀ i, i < n → v us (rep i) = rep i
  step : ∀ i, i < n → rep (up us i) = rep i
  fix : ∀ i, i < n → v us i = i → rep i = i
  rank : ∀ i, i < n → v us i ≠ i → rk i < rk (up us i)
  bnd : ∀ i, i < n → rk i ≤ R
variable {n R : Nat} {us : List Int} {rep rk : Nat → Nat}
theorem Ok.upn (h : Ok n us rep rk R) {i : Nat} (hi : i < n) : up us i < n ∧ v us i = up us i := by
  have := h.rng i hi
  unfold up; omega
theorem Ok.reprep (h : Ok n us rep rk R) {i : Nat} (hi : i < n) : rep (rep i) = rep i := h.fix _ (h.repn i hi) (h.root i hi)
theorem up_set (us : List Int) (i j : Nat) (x : Int) (hi : i < us.length) : up (us.set i x) j = if j = i then x.toNat else up us j := by
  unfold up; rw [v_set _ _ _ _ hi]; split <;> rfl
/-- The path above a number halved. -/
theorem Ok.halve (h : Ok n us rep rk R) {i : Nat} (hi : i < n) (hne : v us i ≠ i) : Ok n (us.set i (v us (up us i))) rep rk R := by
  have hl : i < us.length := by rw [h.len]; exact hi
  have hu := h.upn hi
  have huu := h.upn hu.1
  have r1 := h.rank i hi hne
  have r2 : rk (up us i) ≤ rk (up us (up us i)) := by
    by_cases e : v us (up us i) = up us i
    · rw [show up us (up us i) = up us i by have := huu.2; omega]; exact Nat.le_refl _
    · exact Nat.le_of_lt (h.rank _ hu.1 e)
  have hneq : v us (up us i) ≠ i := fun e => by
    rw [huu.2] at e
    have : up us (up us i) = i := by omega
    rw [this] at r2; omega
  refine ⟨by rw [List.length_set]; exact h.len, fun j hj => ?_, h.repn, fun j hj => ?_, fun j hj => ?_, fun j hj e => ?_, fun j hj e => ?_, h.bnd⟩
  · rw [v_set _ _ _ _ hl]; split
    · exact h.rng _ hu.1
    · exact h.rng j hj
  · rw [v_set _ _ _ _ hl, if_neg]
    · exact h.root j hj
    · intro e; have := h.root j hj; rw [e] at this; exact hne this
  · rw [up_set _ _ _ _ hl]; split
    · rename_i e; subst e
      exact (h.step _ hu.1).trans (h.step _ hj)
    · exact h.step j hj
  · rw [v_set _ _ _ _ hl] at e
    by_cases ej : j = i
    · subst ej; rw [if_pos rfl] at e; exact absurd e hneq
    · rw [if_neg ej] at e; exact h.fix j hj e
  · rw [up_set _ _ _ _ hl]
    rw [v_set _ _ _ _ hl] at e
    by_cases ej : j = i
    · subst ej
      rw [if_pos rfl]
      exact Nat.lt_of_lt_of_le r1 r2
    · rw [if_neg ej] at e ⊢; exact h.rank j hj e
/-- Root b hung below root a. -/
theorem Ok.hang (h : Ok n us rep rk R) {a b : Nat} (ha : a < n) (hb : b < n) (va : v us a = a) (vb : v us b = b) (hab : a ≠ b) :
    Ok n (us.set b a) (fun i => if rep i = b then a else rep i) (fun i => if rep i = a then rk i + R + 1 else rk i) (2 * R + 1) := by
  have hl : b < us.length := by rw [h.len]; exact hb
  have fa := h.fix a ha va
  have fb := h.fix b hb vb
  refine ⟨by rw [List.length_set]; exact h.len, fun j hj => ?_, fun j hj => ?_, fun j hj => ?_, fun j hj => ?_, fun j hj e => ?_, fun j hj e => ?_, fun j hj => ?_⟩
  · rw [v_set _ _ _ _ hl]; split
    · omega
    · exact h.rng j hj
  · show (if rep j = b then a else rep j) < n
    split
    · exact ha
    · exact h.repn j hj
  · show v (us.set b a) (if rep j = b then a else rep j) = ((if rep j = b then a else rep j : Nat) : Int)
    rw [v_set _ _ _ _ hl]
    by_cases e : rep j = b
    · rw [if_pos e, if_neg hab]; exact va
    · rw [if_neg e, if_neg e]; exact h.root j hj
  · show (if rep (up (us.set b a) j) = b then a else rep (up (us.set b a) j)) = if rep j = b then a else rep j
    rw [up_set _ _ _ _ hl]
    by_cases e : j = b
    · subst e
      rw [if_pos rfl, Int.toNat_natCast, fa, fb, if_pos rfl, if_neg hab]
    · rw [if_neg e, h.step j hj]
  · show (if rep j = b then a else rep j) = j
    rw [v_set _ _ _ _ hl] at e
    by_cases ej : j = b
    · subst ej; rw [if_pos rfl] at e; omega
    · rw [if_neg ej] at e
      rw [h.fix j hj e, if_neg ej]
  · show (if rep j = a then rk j + R + 1 else rk j) < if rep (up (us.set b a) j) = a then rk (up (us.set b a) j) + R + 1 else rk (up (us.set b a) j)
    rw [up_set _ _ _ _ hl]
    rw [v_set _ _ _ _ hl] at e
    by_cases ej : j = b
    · subst ej
      rw [if_pos rfl, Int.toNat_natCast, if_pos fa, if_neg (by rw [fb]; exact fun x => hab x.symm)]
      have := h.bnd j hj; omega
    · rw [if_neg ej] at e ⊢
      rw [h.step j hj]
      have := h.rank j hj e
      split <;> omega
  · show (if rep j = a then rk j + R + 1 else rk j) ≤ 2 * R + 1
    have := h.bnd j hj
    split <;> omega

/-- Labels after two of them were made one. -/
def joined (K : List Int) (x y : Nat) : List Int := K.map fun k => if k = max (v K x) (v K y) then min (v K x) (v K y) else k
theorem v_map (K : List Int) (f : Int → Int) {i : Nat} (hi : i < K.length) : v (K.map f) i = f (v K i) := by
  simp [St.v, List.getD_eq_getElem?_getD, hi]
/-- The labels K say which numbers are in one set: each has the least number of its set, as the roots' list le has it. -/
structure Lab (n : Nat) (rep : Nat → Nat) (le K : List Int) : Prop where
  ll : le.length = n
  len : K.length = n
  eq : ∀ i, i < n → v K i = v le (rep i)
  inj : ∀ i j, i < n → j < n → v le (rep i) = v le (rep j) → rep i = rep j
theorem Lab.same {le K : List Int} (h : Lab n rep le K) {x y : Nat} (hx : x < n) (hy : y < n) : v K x = v K y ↔ rep x = rep y := by
  rw [h.eq x hx, h.eq y hy]
  exact ⟨h.inj x y hx hy, fun e => by rw [e]⟩
theorem Lab.hang {le K : List Int} (h : Lab n rep le K) (hrep : ∀ i, i < n → rep i < n) (hrr : ∀ i, i < n → rep (rep i) = rep i) {x y a b : Nat} (hx : x < n) (hy : y < n) (hab : (a = rep x ∧ b = rep y) ∨ (a = rep y ∧ b = rep x)) (hne : rep x ≠ rep y) :
    Lab n (fun i => if rep i = b then a else rep i) (le.set a (min (v le a) (v le b))) (joined K x y) := by
  have ha : a < n := by rcases hab with ⟨rfl, -⟩ | ⟨rfl, -⟩ <;> exact hrep _ (by assumption)
  have hb : b < n := by rcases hab with ⟨-, rfl⟩ | ⟨-, rfl⟩ <;> exact hrep _ (by assumption)
  have ra : rep a = a := by rcases hab with ⟨rfl, -⟩ | ⟨rfl, -⟩ <;> exact hrr _ (by assumption)
  have rb : rep b = b := by rcases hab with ⟨-, rfl⟩ | ⟨-, rfl⟩ <;> exact hrr _ (by assumption)
  have hne2 : a ≠ b := by rcases hab with ⟨rfl, rfl⟩ | ⟨rfl, rfl⟩; exact hne; exact fun e => hne e.symm
  have hl : a < le.length := by rw [h.ll]; exact ha
  have hmin : min (v K x) (v K y) = min (v le a) (v le b) := by
    rw [h.eq x hx, h.eq y hy]
    rcases hab with ⟨rfl, rfl⟩ | ⟨rfl, rfl⟩
    · rfl
    · omega
  have hmax : max (v K x) (v K y) = max (v le a) (v le b) := by
    rw [h.eq x hx, h.eq y hy]
    rcases hab with ⟨rfl, rfl⟩ | ⟨rfl, rfl⟩
    · rfl
    · omega
  have hdiff : v le a ≠ v le b := fun e => hne2 (by have := h.inj a b ha hb (by rw [ra, rb]; exact e); rw [ra, rb] at this; exact this)
  -- the value at a number's new root
  have val : ∀ i, i < n → v (le.set a (min (v le a) (v le b))) (if rep i = b then a else rep i) = if rep i = a ∨ rep i = b then min (v le a) (v le b) else v le (rep i) := fun i hi => by
    rw [v_set _ _ _ _ hl]
    by_cases e1 : rep i = b
    · rw [if_pos e1, if_pos rfl, if_pos (.inr e1)]
    · rw [if_neg e1]
      by_cases e2 : rep i = a
      · rw [if_pos e2, if_pos (.inl e2)]
      · rw [if_neg e2, if_neg (by rintro (e | e); exact e2 e; exact e1 e)]
  have cls : ∀ i, i < n → ∀ c, c < n → rep c = c → (v le (rep i) = v le c ↔ rep i = c) := fun i hi c hc rc => by
    refine ⟨fun e => ?_, fun e => by rw [e]⟩
    have := h.inj i c hi hc (by rw [rc]; exact e)
    rw [this, rc]
  refine ⟨by rw [List.length_set]; exact h.ll, by unfold joined; rw [List.length_map]; exact h.len, fun i hi => ?_, fun i j hi hj e => ?_⟩
  · rw [val i hi]
    unfold joined
    rw [v_map _ _ (by rw [h.len]; exact hi), hmin, hmax, h.eq i hi]
    have c1 := cls i hi a ha ra
    have c2 := cls i hi b hb rb
    by_cases e1 : rep i = a
    · rw [if_pos (show rep i = a ∨ rep i = b from .inl e1)]
      have := c1.2 e1
      split <;> omega
    · by_cases e2 : rep i = b
      · rw [if_pos (show rep i = a ∨ rep i = b from .inr e2)]
        have := c2.2 e2
        split <;> omega
      · rw [if_neg (show ¬ (rep i = a ∨ rep i = b) from fun h => h.elim e1 e2), if_neg]
        have n1 : v le (rep i) ≠ v le a := fun e => e1 (c1.1 e)
        have n2 : v le (rep i) ≠ v le b := fun e => e2 (c2.1 e)
        omega
  · rw [val i hi, val j hj] at e
    show (if rep i = b then a else rep i) = if rep j = b then a else rep j
    have ci1 := cls i hi a ha ra
    have ci2 := cls i hi b hb rb
    have cj1 := cls j hj a ha ra
    have cj2 := cls j hj b hb rb
    by_cases ei : rep i = a ∨ rep i = b
    · rw [if_pos ei] at e
      by_cases ej : rep j = a ∨ rep j = b
      · rcases ei with ei | ei <;> rcases ej with ej | ej <;> simp [ei, ej, hne2]
      · rw [if_neg ej] at e
        exfalso
        have n1 : v le (rep j) ≠ v le a := fun e => ej (.inl (cj1.1 e))
        have n2 : v le (rep j) ≠ v le b := fun e => ej (.inr (cj2.1 e))
        omega
    · rw [if_neg ei] at e
      by_cases ej : rep j = a ∨ rep j = b
      · rw [if_pos ej] at e
        exfalso
        have n1 : v le (rep i) ≠ v le a := fun e => ei (.inl (ci1.1 e))
        have n2 : v le (rep i) ≠ v le b := fun e => ei (.inr (ci2.1 e))
        omega
      · rw [if_neg ej] at e
        rw [if_neg (fun x => ei (.inr x)), if_neg (fun x => ej (.inr x))]
        exact h.inj i j hi hj e

/-- Numbers from 0 on. -/
def iota (n : Nat) : List Int := (List.range n).map Int.ofNat
theorem iota_length (n : Nat) : (iota n).length = n := by simp [iota]
theorem v_iota {n i : Nat} (h : i < n) : v (iota n) i = i := by simp [iota, St.v, List.getD_eq_getElem?_getD, h]
theorem Ok.start (n : Nat) : Ok n (iota n) id (fun _ => 0) 0 :=
  ⟨iota_length n, fun i hi => by rw [v_iota hi]; omega, fun i hi => hi, fun i hi => v_iota hi, fun i hi => by unfold up; rw [v_iota hi]; rfl, fun i _ _ => rfl, fun i hi e => absurd (v_iota hi) e, fun _ _ => Nat.le_refl _⟩
theorem Lab.start (n : Nat) : Lab n id (iota n) (iota n) :=
  ⟨iota_length n, iota_length n, fun _ _ => rfl, fun i j hi hj e => by
    have : v (iota n) i = v (iota n) j := e
    rw [v_iota hi, v_iota hj] at this
    show i = j
    omega⟩
end Go.Proofs.Ytobaodkcjjgkdaa.Uf
namespace Go.Proofs.Ytobaodkcjjgkdaa
open Go Go.RowKit

def nums (xs : List Int) : List Value := xs.map (Value.int .i64)
/-- A row of ints at the head of block g, of which there may be more. -/
structure RowC (g cap : Nat) (xs : List Int) (w : World) : Prop where
  ow : w.ownsRow 0 3 1 (.slice (some ⟨g, 0, none⟩) xs.length cap) xs.length (nums xs)
theorem RowC.lt {g cap : Nat} {xs : List Int} {w : World} (h : RowC g cap xs w) : g < w.heap.size := by
  rcases h.ow.2 with ⟨h, _⟩ | ⟨g', cap', cur, h, _, hg, _⟩
  · cases h
  · injection h with h _ _
    injection h with h
    injection h with h
    subst h
    exact block_lt hg
theorem RowC.cell {g cap : Nat} {xs : List Int} {w : World} (h : RowC g cap xs w) {i : Nat} (hi : i < xs.length) : w.cell? ⟨g, i, none⟩ = some (.int .i64 (St.v xs i)) := by
  have := h.ow.cells (g := g) rfl i (.int .i64 (St.v xs i)) (by simp [nums, St.v, List.getD_eq_getElem?_getD, hi])
  unfold Addr.add at this
  split at this
  · rename_i e; subst e; exact this
  · simpa using this
theorem RowC.frozen {g cap : Nat} {xs : List Int} {w : World} (h : RowC g cap xs w) (i : Nat) : w.frozen? ⟨g, i, none⟩ = false := h.ow.frozenAt i
theorem RowC.move {g cap : Nat} {xs : List Int} {w w' : World} (h : RowC g cap xs w) (hb : w'.heap[g]? = w.heap[g]?) : RowC g cap xs w' := by
  obtain ⟨h1, h2⟩ := h.ow
  refine ⟨h1, ?_⟩
  rcases h2 with h2 | ⟨g', cap', cur, e, hg, hh, r⟩
  · exact .inl h2
  · have e2 : g' = g := by injection e with e _ _; injection e with e; injection e with e; exact e.symm
    subst e2
    exact .inr ⟨g', cap', cur, e, hg, hb.trans hh, r⟩
theorem RowC.set {g cap : Nat} {xs : List Int} {w : World} (h : RowC g cap xs w) (i : Nat) (x : Int) : RowC g cap (xs.set i x) (w.setCell ⟨g, i, none⟩ (.int .i64 x)) := by
  have := (h.ow.stored i (.int .i64 x)).1
  refine ⟨?_⟩
  rw [List.length_set]
  simpa [nums, List.map_set] using this
theorem RowC.cap {g cap : Nat} {xs : List Int} {w : World} (h : RowC g cap xs w) : xs.length ≤ cap ∧ cap ≤ 9223372036854775807 := by
  rcases h.ow.2 with ⟨h, _⟩ | ⟨g', cap', cur, h, _, hg, h1, h2, _⟩
  · cases h
  · injection h with _ _ h
    subst h
    unfold maxLen at h2
    exact ⟨h1, h2⟩

/-- Where sets lie: their struct, and their three rows. -/
structure Pl where
  sp : Nat
  gu : Nat
  gs : Nat
  gl : Nat
  cu : Nat
  cs : Nat
  cl : Nat
/-- Sets of n numbers in memory. -/
structure DS (P : Pl) (n : Nat) (us ss ls : List Int) (cnt : Int) (w : World) : Prop where
  sb : w.heap[P.sp]? = some (.cells #[.bool true, .slice (some ⟨P.gu, 0, none⟩) n P.cu, .slice (some ⟨P.gs, 0, none⟩) n P.cs, .slice (some ⟨P.gl, 0, none⟩) n P.cl, .int .i64 cnt] 119 (0, 0))
  ul : us.length = n
  sl : ss.length = n
  ll : ls.length = n
  ou : RowC P.gu P.cu us w
  os : RowC P.gs P.cs ss w
  ol : RowC P.gl P.cl ls w
  d1 : P.gu ≠ P.gs
  d2 : P.gu ≠ P.gl
  d3 : P.gs ≠ P.gl
  d4 : P.sp ≠ P.gu
  d5 : P.sp ≠ P.gs
  d6 : P.sp ≠ P.gl
theorem DS.move {P : Pl} {n : Nat} {us ss ls : List Int} {cnt : Int} {w w' : World} (h : DS P n us ss ls cnt w) (h0 : w'.heap[P.sp]? = w.heap[P.sp]?) (h1 : w'.heap[P.gu]? = w.heap[P.gu]?) (h2 : w'.heap[P.gs]? = w.heap[P.gs]?) (h3 : w'.heap[P.gl]? = w.heap[P.gl]?) : DS P n us ss ls cnt w' :=
  ⟨h0.trans h.sb, h.ul, h.sl, h.ll, h.ou.move h1, h.os.move h2, h.ol.move h3, h.d1, h.d2, h.d3, h.d4, h.d5, h.d6⟩
theorem DS.on {P : Pl} {n : Nat} {us ss ls : List Int} {cnt : Int} {w w' : World} (h : DS P n us ss ls cnt w) (hb : Below w.heap.size w w') : DS P n us ss ls cnt w' :=
  h.move (hb.block _ (block_lt h.sb)) (hb.block _ h.ou.lt) (hb.block _ h.os.lt) (hb.block _ h.ol.lt)
theorem DS.drew {P : Pl} {n : Nat} {us ss ls : List Int} {cnt : Int} {w : World} (h : DS P n us ss ls cnt w) : DS P n us ss ls cnt w.drew := h.on (Below.refl _ _).drew
theorem DS.setU {P : Pl} {n : Nat} {us ss ls : List Int} {cnt : Int} {w : World} (h : DS P n us ss ls cnt w) (i : Nat) (x : Int) : DS P n (us.set i x) ss ls cnt (w.setCell ⟨P.gu, i, none⟩ (.int .i64 x)) :=
  ⟨(Below.heap_setCell _ _ _ _ h.d4).trans h.sb, by rw [List.length_set]; exact h.ul, h.sl, h.ll, h.ou.set i x, h.os.move (Below.heap_setCell _ _ _ _ h.d1.symm), h.ol.move (Below.heap_setCell _ _ _ _ h.d2.symm), h.d1, h.d2, h.d3, h.d4, h.d5, h.d6⟩
theorem DS.cells {P : Pl} {n : Nat} {us ss ls : List Int} {cnt : Int} {w : World} (h : DS P n us ss ls cnt w) :
    w.cell? ⟨P.sp, 0, none⟩ = some (.bool true) ∧ w.cell? ⟨P.sp, 1, none⟩ = some (.slice (some ⟨P.gu, 0, none⟩) n P.cu) ∧ w.cell? ⟨P.sp, 2, none⟩ = some (.slice (some ⟨P.gs, 0, none⟩) n P.cs) ∧ w.cell? ⟨P.sp, 3, none⟩ = some (.slice (some ⟨P.gl, 0, none⟩) n P.cl) ∧ w.cell? ⟨P.sp, 4, none⟩ = some (.int .i64 cnt) :=
  ⟨cells_of_block h.sb 0, cells_of_block h.sb 1, cells_of_block h.sb 2, cells_of_block h.sb 3, cells_of_block h.sb 4⟩

set_option maxRecDepth 100000 in
set_option maxHeartbeats 4000000 in
theorem has_any {P : Pl} {n : Nat} {us ss ls : List Int} {cnt : Int} {w : World} (h : DS P n us ss ls cnt w) (a : Int) (a0 : 0 ≤ a) (a1 : a < n) :
    Calls Try.prog 83 #[.pointer (some ⟨P.sp, 0, none⟩), .int .i64 a] w fun e w' => e = .returned (.bool true) ∧ w' = w := by
  obtain ⟨-, c1, -⟩ := h.cells
  clear h
  go_enter Try.func83, Try.ntmps83
  go_wp2
  go_ret
  exact ⟨rfl, rfl⟩

set_option maxRecDepth 100000 in
set_option maxHeartbeats 4000000 in
theorem root_any {P : Pl} {n R : Nat} {us ss ls : List Int} {cnt : Int} {rep rk : Nat → Nat} {w : World} (h : DS P n us ss ls cnt w) (hu : Uf.Ok n us rep rk R) (hn : n ≤ 1000000) (a : Nat) (ha : a < n) :
    Calls Try.prog 74 #[.pointer (some ⟨P.sp, 0, none⟩), .int .i64 a] w fun e w' => e = .returned (.int .i64 (rep a)) ∧ ∃ us', Uf.Ok n us' rep rk R ∧ DS P n us' ss ls cnt w' ∧ w.grownBy w' (some P.gu) := by
  have HD := Lib.hid h; have HU := Lib.hid hu
  have hn1 : (n : Int) ≤ 1000000 := by omega
  clear h hu
  go_enter Try.func74, Try.ntmps74
  go_wp2
  go_step3
  go_wp2
  go_step3
  go_wp2
  go_loopw [1] (fun x wr => ∃ i : Nat, i < n ∧ x = .int .i64 i ∧ ∃ us', Hid (rep i = rep a ∧ Uf.Ok n us' rep rk R) ∧ DS P n us' ss ls cnt wr ∧ w.grownBy wr (some P.gu)) (fun x _ => R - rk (intOf x).toNat)
  case atStart => exact ⟨a, ha, rfl, us, Lib.hid ⟨rfl, HU.out⟩, HD.out, World.grownBy.refl _ _⟩
  case round =>
    obtain ⟨i, hi, rfl, us', hO, hds, hg⟩ := hrel
    have hok := hO.out.2
    have hup := hok.upn hi
    obtain ⟨-, s1, -, -, -⟩ := hds.cells
    have c1 := hds.ou.cell (i := i) (by rw [hds.ul]; exact hi)
    have c2 := hds.ou.cell (i := Uf.up us' i) (by rw [hds.ul]; exact hup.1)
    have f1 := hds.ou.frozen i
    have i1 : (i : Int) < n := by omega
    rw [hup.2] at c1
    have HDS := Lib.hid hds; have HG := Lib.hid hg
    by_cases he : Uf.up us' i = i
    · have hb : (((Uf.up us' i : Nat) : Int) == (i : Int)) = true := by rw [he]; simp
      have hfin : rep a = i := by rw [← hO.out.1]; exact hok.fix i hi (by rw [hup.2, he])
      have HF := Lib.hid hfin
      generalize Uf.up us' i = u at *
      clear hds hg hok hup hfin he
      go_wp2
      rw [Exit.noGoto_ret]
      go_ret
      exact ⟨by rw [HF.out]; rfl, us', hO.out.2, HDS.out, HG.out⟩
    · have hb : (((Uf.up us' i : Nat) : Int) == (i : Int)) = false := by
        refine beq_eq_false_iff_ne.2 fun e => he ?_
        omega
      have hne : St.v us' i ≠ i := by rw [hup.2]; omega
      have HN := Lib.hid (hok.halve hi hne)
      have HR := Lib.hid (hok.rank i hi hne)
      have HB := Lib.hid (hok.bnd _ hup.1)
      have HS := Lib.hid (hok.step i hi)
      have u1 : ((Uf.up us' i : Nat) : Int) < n := by omega
      have hun : Uf.up us' i < n := hup.1
      generalize St.v us' (Uf.up us' i) = y at *
      generalize hu : Uf.up us' i = u at *
      clear hds hg hok hup hne he hu
      go_wp2
      go_region
      go_wp2
      go_roundw
      case rel => exact ⟨u, hun, rfl, us'.set i y, Lib.hid ⟨by rw [HS.out]; exact hO.out.1, HN.out⟩, (HDS.out.setU i y).drew, only_drew (only_setCell HG.out (.inl rfl) _)⟩
      case measure =>
        have := HR.out; have := HB.out
        simp [intOf]; omega
end Go.Proofs.Ytobaodkcjjgkdaa
namespace Go.Proofs.Ytobaodkcjjgkdaa
open Go Go.RowKit

def mnI (x y : Int) : Int := if y < x then y else x
theorem mnI_min (x y : Int) : mnI x y = min x y := by unfold mnI; split <;> omega
theorem run_mnI {P : Program} (ts : Array TypeId) (t : TypeId) (k k' : IntKind) (x y : Int) (w : World) : (Builtin.min_ ts t #[.int k x, .int k' y]).run P w = .ok (.int k (mnI x y)) w := by
  simp [Builtin.min_, Builtin.min2, mnI]
attribute [local go_sem ↓] run_mnI

/-- Nothing has turned but the sets at P, and what is new. -/
structure Ch (P : Pl) (w w' : World) : Prop where
  os : w'.os = w.os
  tape : w'.tape = w.tape
  output : w'.output = w.output
  size : w.heap.size ≤ w'.heap.size
  block : ∀ k, k < w.heap.size → k ≠ P.sp → k ≠ P.gu → k ≠ P.gs → k ≠ P.gl → w'.heap[k]? = w.heap[k]?
theorem Ch.refl (P : Pl) (w : World) : Ch P w w := ⟨rfl, rfl, rfl, Nat.le_refl _, fun _ _ _ _ _ _ => rfl⟩
theorem Ch.trans {P : Pl} {a b c : World} (h : Ch P a b) (k : Ch P b c) : Ch P a c :=
  ⟨k.os.trans h.os, k.tape.trans h.tape, k.output.trans h.output, Nat.le_trans h.size k.size, fun i hi h1 h2 h3 h4 => (k.block i (Nat.lt_of_lt_of_le hi h.size) h1 h2 h3 h4).trans (h.block i hi h1 h2 h3 h4)⟩
theorem Ch.ofU {P : Pl} {a b : World} (h : a.grownBy b (some P.gu)) : Ch P a b := ⟨h.os, h.tape, h.output, h.size, fun i hi _ h2 _ _ => h.block i hi (fun e => h2 (by injection e))⟩
theorem Ch.drew {P : Pl} {a b : World} (h : Ch P a b) : Ch P a b.drew := ⟨h.os, h.tape, h.output, h.size, h.block⟩
theorem Ch.drewN {P : Pl} {a b : World} (h : Ch P a b) (n : Nat) : Ch P a (b.drewN n) := ⟨h.os, h.tape, h.output, h.size, h.block⟩
theorem Ch.set {P : Pl} {a b : World} (h : Ch P a b) (p : Addr) (hp : p.block = P.sp ∨ p.block = P.gu ∨ p.block = P.gs ∨ p.block = P.gl) (u : Value) : Ch P a (b.setCell p u) :=
  ⟨h.os, h.tape, h.output, by simpa [World.setCell] using h.size, fun i hi h1 h2 h3 h4 => (Below.heap_setCell b p u i (by omega)).trans (h.block i hi h1 h2 h3 h4)⟩
theorem Ch.below {P : Pl} {B : Nat} {a b : World} (h : Ch P a b) (h1 : B ≤ P.sp) (h2 : B ≤ P.gu) (h3 : B ≤ P.gs) (h4 : B ≤ P.gl) (hB : B ≤ a.heap.size) : Below B a b :=
  ⟨h.os, h.tape, h.output, h.size, fun i hi => h.block i (by omega) (by omega) (by omega) (by omega) (by omega)⟩

theorem DS.drewN {P : Pl} {n : Nat} {us ss ls : List Int} {cnt : Int} {w : World} (h : DS P n us ss ls cnt w) (k : Nat) : DS P n us ss ls cnt (w.drewN k) := h.move rfl rfl rfl rfl
theorem DS.setS {P : Pl} {n : Nat} {us ss ls : List Int} {cnt : Int} {w : World} (h : DS P n us ss ls cnt w) (i : Nat) (x : Int) : DS P n us (ss.set i x) ls cnt (w.setCell ⟨P.gs, i, none⟩ (.int .i64 x)) :=
  ⟨(Below.heap_setCell _ _ _ _ h.d5).trans h.sb, h.ul, by rw [List.length_set]; exact h.sl, h.ll, h.ou.move (Below.heap_setCell _ _ _ _ h.d1), h.os.set i x, h.ol.move (Below.heap_setCell _ _ _ _ h.d3.symm), h.d1, h.d2, h.d3, h.d4, h.d5, h.d6⟩
theorem DS.setL {P : Pl} {n : Nat} {us ss ls : List Int} {cnt : Int} {w : World} (h : DS P n us ss ls cnt w) (i : Nat) (x : Int) : DS P n us ss (ls.set i x) cnt (w.setCell ⟨P.gl, i, none⟩ (.int .i64 x)) :=
  ⟨(Below.heap_setCell _ _ _ _ h.d6).trans h.sb, h.ul, h.sl, by rw [List.length_set]; exact h.ll, h.ou.move (Below.heap_setCell _ _ _ _ h.d2), h.os.move (Below.heap_setCell _ _ _ _ h.d3), h.ol.set i x, h.d1, h.d2, h.d3, h.d4, h.d5, h.d6⟩
theorem DS.setC {P : Pl} {n : Nat} {us ss ls : List Int} {cnt : Int} {w : World} (h : DS P n us ss ls cnt w) (x : Int) : DS P n us ss ls x (w.setCell ⟨P.sp, 4, none⟩ (.int .i64 x)) :=
  ⟨(set_same h.sb).trans (by rfl), h.ul, h.sl, h.ll, h.ou.move (Below.heap_setCell _ _ _ _ h.d4.symm), h.os.move (Below.heap_setCell _ _ _ _ h.d5.symm), h.ol.move (Below.heap_setCell _ _ _ _ h.d6.symm), h.d1, h.d2, h.d3, h.d4, h.d5, h.d6⟩

/-- Sets of n numbers, whose labels are K. -/
def Sets (P : Pl) (n : Nat) (K : List Int) (w : World) : Prop := ∃ us ss ls cnt rep rk R, DS P n us ss ls cnt w ∧ Uf.Ok n us rep rk R ∧ Uf.Lab n rep ls K
theorem Sets.on {P : Pl} {n : Nat} {K : List Int} {w w' : World} (h : Sets P n K w) (hb : Below w.heap.size w w') : Sets P n K w' := by
  obtain ⟨us, ss, ls, cnt, rep, rk, R, h1, h2, h3⟩ := h
  exact ⟨us, ss, ls, cnt, rep, rk, R, h1.on hb, h2, h3⟩
theorem Sets.len {P : Pl} {n : Nat} {K : List Int} {w : World} (h : Sets P n K w) : K.length = n := by
  obtain ⟨us, ss, ls, cnt, rep, rk, R, h1, h2, h3⟩ := h
  exact h3.len

set_option maxRecDepth 1000000 in
set_option maxHeartbeats 4000000 in
theorem union_same {P : Pl} {n : Nat} {K : List Int} {w : World} (h : Sets P n K w) (hn : n ≤ 1000000) (x y : Nat) (hx : x < n) (hy : y < n) (he : St.v K x = St.v K y) :
    Calls Try.prog 64 #[.pointer (some ⟨P.sp, 0, none⟩), .int .i64 x, .int .i64 y] w fun e w' => e = .returned (.tuple #[.bool false, .int .i64 0]) ∧ Sets P n K w' ∧ Ch P w w' := by
  obtain ⟨us, ss, ls, cnt, rep, rk, R, hds, hok, hlab⟩ := h
  have hrep := (hlab.same hx hy).1 he
  have x0 : (0 : Int) ≤ (x : Int) := by omega
  have y0 : (0 : Int) ≤ (y : Int) := by omega
  have x1 : (x : Int) < n := by omega
  have y1 : (y : Int) < n := by omega
  obtain ⟨s0, s1, -, -, -⟩ := hds.cells
  have HDS := Lib.hid hds; have HOK := Lib.hid hok; have HLAB := Lib.hid hlab; have HREP := Lib.hid hrep
  clear hds hok hlab hrep he
  go_enter Try.func64, Try.ntmps64
  go_wp2_with (go_at_call 83; refine (has_any HDS.out _ ?_ ?_).mono ?_; assumption; assumption; rintro e w1 ⟨rfl, rfl⟩)
  refine (root_any HDS.out HOK.out hn x hx).mono ?_
  rintro e w2 ⟨rfl, us2, ho2, hd2, hg2⟩
  refine Hid.out ?_
  have HO2 := Lib.hid ho2; have HD2 := Lib.hid hd2; have C2 := Lib.hid (Ch.ofU hg2)
  clear ho2 hd2 hg2
  refine Lib.hid ?_
  go_wp2_with fail
  refine (root_any HD2.out HO2.out hn y hy).mono ?_
  rintro e w3 ⟨rfl, us3, ho3, hd3, hg3⟩
  refine Hid.out ?_
  have HO3 := Lib.hid ho3; have HD3 := Lib.hid hd3; have C3 := Lib.hid (C2.out.trans (Ch.ofU hg3))
  clear ho3 hd3 hg3 s0 s1
  refine Lib.hid ?_
  have hbb : (((rep x : Nat) : Int) == ((rep y : Nat) : Int)) = true := by rw [HREP.out]; simp
  go_wp2
  go_ret2
  exact ⟨rfl, ⟨us3, ss, ls, cnt, rep, rk, R, HD3.out, HO3.out, HLAB.out⟩, C3.out⟩

set_option maxRecDepth 1000000 in
set_option maxHeartbeats 16000000 in
theorem union_ne {P : Pl} {n : Nat} {K : List Int} {w : World} (h : Sets P n K w) (hn : n ≤ 1000000) (x y : Nat) (hx : x < n) (hy : y < n) (he : St.v K x ≠ St.v K y) :
    Calls Try.prog 64 #[.pointer (some ⟨P.sp, 0, none⟩), .int .i64 x, .int .i64 y] w fun e w' => e = .returned (.tuple #[.bool true, .int .i64 0]) ∧ Sets P n (Uf.joined K x y) w' ∧ Ch P w w' := by
  obtain ⟨us, ss, ls, cnt, rep, rk, R, hds, hok, hlab⟩ := h
  have hrep : rep x ≠ rep y := fun e => he ((hlab.same hx hy).2 e)
  have x0 : (0 : Int) ≤ (x : Int) := by omega
  have y0 : (0 : Int) ≤ (y : Int) := by omega
  have x1 : (x : Int) < n := by omega
  have y1 : (y : Int) < n := by omega
  obtain ⟨s0, s1, -, -, -⟩ := hds.cells
  have rxn := hok.repn x hx
  have ryn := hok.repn y hy
  have HDS := Lib.hid hds; have HOK := Lib.hid hok; have HLAB := Lib.hid hlab; have HREP := Lib.hid hrep
  clear hds hok hlab hrep he
  go_enter Try.func64, Try.ntmps64
  go_wp2_with (go_at_call 83; refine (has_any HDS.out _ ?_ ?_).mono ?_; assumption; assumption; rintro e w1 ⟨rfl, rfl⟩)
  refine (root_any HDS.out HOK.out hn x hx).mono ?_
  rintro e w2 ⟨rfl, us2, ho2, hd2, hg2⟩
  refine Hid.out ?_
  have HO2 := Lib.hid ho2; have HD2 := Lib.hid hd2; have C2 := Lib.hid (Ch.ofU hg2)
  clear ho2 hd2 hg2
  refine Lib.hid ?_
  go_wp2_with fail
  refine (root_any HD2.out HO2.out hn y hy).mono ?_
  rintro e w3 ⟨rfl, us3, ho3, hd3, hg3⟩
  refine Hid.out ?_
  have HO3 := Lib.hid ho3; have HD3 := Lib.hid hd3; have C3 := Lib.hid (C2.out.trans (Ch.ofU hg3))
  clear ho3 hd3 hg3 s0 s1
  refine Lib.hid ?_
  have hbb : (((rep x : Nat) : Int) == ((rep y : Nat) : Int)) = false := beq_eq_false_iff_ne.2 fun e => HREP.out (by omega)
  have hrr : ∀ i, i < n → rep (rep i) = rep i := fun i hi => HO3.out.reprep hi
  have vx := HO3.out.root x hx
  have vy := HO3.out.root y hy
  obtain ⟨t0, t1, t2, t3, t4⟩ := HD3.out.cells
  have hsl := HD3.out.sl
  have z1 := HD3.out.os.cell (i := rep x) (by rw [hsl]; exact rxn)
  have z2 := HD3.out.os.cell (i := rep y) (by rw [hsl]; exact ryn)
  have X1 := Lib.hid hrr; have X2 := Lib.hid vx; have X3 := Lib.hid vy
  have rx1 : ((rep x : Nat) : Int) < n := by omega
  have ry1 : ((rep y : Nat) : Int) < n := by omega
  clear hrr vx vy hsl
  go_wp2_with fail
  by_cases hsz : St.v ss (rep x) < St.v ss (rep y)
  · generalize hra : rep y = a at *
    generalize hrb : rep x = b at *
    generalize hp : St.v ss a = p at *
    generalize hq : St.v ss b = q at *
    have c1 := HD3.out.ou.cell (i := b) (by rw [HD3.out.ul]; assumption)
    have f1 := HD3.out.ou.frozen b
    have f2 := HD3.out.os.frozen a
    have c3 := HD3.out.ol.cell (i := a) (by rw [HD3.out.ll]; assumption)
    have c4 := HD3.out.ol.cell (i := b) (by rw [HD3.out.ll]; assumption)
    have f3 := HD3.out.ol.frozen a
    have f4 := frozen_of_block HD3.out.sb 4
    have g1 := HD3.out.ou.lt
    have g2 := HD3.out.os.lt
    have g3 := HD3.out.ol.lt
    have g4 := block_lt HD3.out.sb
    have d1 := HD3.out.d1
    have d2 := HD3.out.d2
    have d3 := HD3.out.d3
    have d4 := HD3.out.d4
    have d5 := HD3.out.d5
    have d6 := HD3.out.d6
    have e1 := d1.symm
    have e2 := d2.symm
    have e3 := d3.symm
    have e4 := d4.symm
    have e5 := d5.symm
    have e6 := d6.symm
    generalize hu : St.v us3 b = u at *
    generalize hla : St.v ls a = la at *
    generalize hlb : St.v ls b = lb at *
    have HUU := Lib.hid hu; have HRA := Lib.hid hra; have HRB := Lib.hid hrb; have HLA := Lib.hid hla; have HLB := Lib.hid hlb
    clear hra hrb hp hq hu hla hlb
    go_quiet (fail)
    go_wp2_with fail
    go_region
    go_wp2_with fail
    go_region
    go_wp2_with fail
    go_ret2
    have hlab := HLAB.out.hang (fun i hi => HO3.out.repn i hi) X1.out hx hy (.inr ⟨HRA.out.symm, HRB.out.symm⟩) (by rw [HRA.out, HRB.out]; exact HREP.out)
    rw [HLA.out, HLB.out, ← mnI_min] at hlab
    exact ⟨rfl, ⟨_, _, _, _, _, _, _, (((((HD3.out.drewN _).setU b a).setS a _).setL a _).setC _).drew.drew, HO3.out.hang (by assumption) (by assumption) X3.out (by rw [HUU.out]; exact X2.out) (fun e => HREP.out e.symm), hlab⟩, (((((C3.out.drewN _).set ⟨P.gu, b, none⟩ (.inr (.inl rfl)) _).set ⟨P.gs, a, none⟩ (.inr (.inr (.inl rfl))) _).set ⟨P.gl, a, none⟩ (.inr (.inr (.inr rfl))) _).set ⟨P.sp, 4, none⟩ (.inl rfl) _).drew.drew⟩
  · generalize hra : rep x = a at *
    generalize hrb : rep y = b at *
    generalize hp : St.v ss a = p at *
    generalize hq : St.v ss b = q at *
    have c1 := HD3.out.ou.cell (i := b) (by rw [HD3.out.ul]; assumption)
    have f1 := HD3.out.ou.frozen b
    have f2 := HD3.out.os.frozen a
    have c3 := HD3.out.ol.cell (i := a) (by rw [HD3.out.ll]; assumption)
    have c4 := HD3.out.ol.cell (i := b) (by rw [HD3.out.ll]; assumption)
    have f3 := HD3.out.ol.frozen a
    have f4 := frozen_of_block HD3.out.sb 4
    have g1 := HD3.out.ou.lt
    have g2 := HD3.out.os.lt
    have g3 := HD3.out.ol.lt
    have g4 := block_lt HD3.out.sb
    have d1 := HD3.out.d1
    have d2 := HD3.out.d2
    have d3 := HD3.out.d3
    have d4 := HD3.out.d4
    have d5 := HD3.out.d5
    have d6 := HD3.out.d6
    have e1 := d1.symm
    have e2 := d2.symm
    have e3 := d3.symm
    have e4 := d4.symm
    have e5 := d5.symm
    have e6 := d6.symm
    generalize hu : St.v us3 b = u at *
    generalize hla : St.v ls a = la at *
    generalize hlb : St.v ls b = lb at *
    have HUU := Lib.hid hu; have HRA := Lib.hid hra; have HRB := Lib.hid hrb; have HLA := Lib.hid hla; have HLB := Lib.hid hlb
    clear hra hrb hp hq hu hla hlb
    go_quiet (fail)
    go_wp2_with fail
    go_region
    go_wp2_with fail
    go_region
    go_wp2_with fail
    go_ret2
    have hlab := HLAB.out.hang (fun i hi => HO3.out.repn i hi) X1.out hx hy (.inl ⟨HRA.out.symm, HRB.out.symm⟩) (by rw [HRA.out, HRB.out]; exact HREP.out)
    rw [HLA.out, HLB.out, ← mnI_min] at hlab
    exact ⟨rfl, ⟨_, _, _, _, _, _, _, (((((HD3.out.drewN _).setU b a).setS a _).setL a _).setC _).drew.drew, HO3.out.hang (by assumption) (by assumption) X2.out (by rw [HUU.out]; exact X3.out) HREP.out, hlab⟩, (((((C3.out.drewN _).set ⟨P.gu, b, none⟩ (.inr (.inl rfl)) _).set ⟨P.gs, a, none⟩ (.inr (.inr (.inl rfl))) _).set ⟨P.gl, a, none⟩ (.inr (.inr (.inr rfl))) _).set ⟨P.sp, 4, none⟩ (.inl rfl) _).drew.drew⟩

theorem union_any {P : Pl} {n : Nat} {K : List Int} {w : World} (h : Sets P n K w) (hn : n ≤ 1000000) (x y : Nat) (hx : x < n) (hy : y < n) :
    Calls Try.prog 64 #[.pointer (some ⟨P.sp, 0, none⟩), .int .i64 x, .int .i64 y] w fun e w' => e = .returned (.tuple #[.bool (decide (St.v K x ≠ St.v K y)), .int .i64 0]) ∧ Sets P n (if St.v K x = St.v K y then K else Uf.joined K x y) w' ∧ Ch P w w' := by
  by_cases he : St.v K x = St.v K y
  · rw [if_pos he, decide_eq_false (fun h => h he)]
    exact union_same h hn x y hx hy he
  · rw [if_neg he, decide_eq_true he]
    exact union_ne h hn x y hx hy he
end Go.Proofs.Ytobaodkcjjgkdaa
