/- The forest of another list, and of other weights, in plain Lean. What KruskalLeast calls and grows. KruskalLeast: the lists that it makes, walked. The row of KruskalLeast. -/
import Derived.Test.YtobaodkcjjgkdaaMa13
namespace Go.Proofs.Ytobaodkcjjgkdaa
open Go

theorem cnt_cons (th x : Int) (r : List Int) : cnt th (x :: r) = (if x ≤ th then 1 else 0) + cnt th r := by
  unfold cnt
  by_cases h : x ≤ th
  · rw [List.filter_cons_of_pos (by simpa using h), if_pos h, List.length_cons]; omega
  · rw [List.filter_cons_of_neg (by simpa using h), if_neg h]; omega
theorem cnt_none {th : Int} {xs : List Int} (h : ∀ x ∈ xs, th < x) : cnt th xs = 0 := by
  unfold cnt
  rw [List.length_eq_zero_iff, List.filter_eq_nil_iff]
  intro x hx
  have := h x hx
  simp only [decide_eq_true_eq]
  omega
theorem cnt_perm {th : Int} {xs ys : List Int} (h : xs.Perm ys) : cnt th xs = cnt th ys := (h.filter _).length_eq
/-- Sorted numbers of which more are small have the smaller sum. -/
theorem sorted_le : ∀ {xs ys : List Int}, xs.Pairwise (· ≤ ·) → ys.Pairwise (· ≤ ·) → xs.length = ys.length → (∀ th, cnt th ys ≤ cnt th xs) → xs.sum ≤ ys.sum ∧ (xs.sum = ys.sum → xs = ys)
  | [], [], _, _, _, _ => ⟨Int.le_refl _, fun _ => rfl⟩
  | [], _ :: _, _, _, h, _ => by simp at h
  | _ :: _, [], _, _, h, _ => by simp at h
  | x :: xr, y :: yr, hx, hy, hl, hc => by
    obtain ⟨hx1, hx2⟩ := List.pairwise_cons.1 hx
    obtain ⟨hy1, hy2⟩ := List.pairwise_cons.1 hy
    have hxy : x ≤ y := by
      refine Classical.byContradiction fun hn => ?_
      have h0 := hc y
      rw [cnt_none (th := y) (xs := x :: xr) (fun z hz => by
        rcases List.mem_cons.1 hz with e | e
        · omega
        · have := hx1 z e; omega), cnt_cons, if_pos (Int.le_refl y)] at h0
      omega
    have ht : ∀ th, cnt th yr ≤ cnt th xr := fun th => by
      have h0 := hc th
      rw [cnt_cons, cnt_cons] at h0
      by_cases hyt : y ≤ th
      · rw [if_pos hyt, if_pos (by omega)] at h0; omega
      · rw [cnt_none (th := th) (xs := yr) (fun z hz => by have := hy1 z hz; omega)]; omega
    obtain ⟨i1, i2⟩ := sorted_le hx2 hy2 (by simpa using hl) ht
    rw [List.sum_cons, List.sum_cons]
    refine ⟨by omega, fun e => ?_⟩
    rw [show x = y by omega, i2 (by omega)]
theorem for_sub (n : Nat) (l : List Edge) : (accF n l (ordL l)).Sublist (ordL l) := by
  rw [accF_eq]
  exact Hp.growD_sub l _ _
theorem for_sorted (n : Nat) (l : List Edge) : (wts l (accF n l (ordL l))).Pairwise (· ≤ ·) := by
  unfold wts
  rw [List.pairwise_map]
  refine List.Pairwise.sublist (for_sub n l) ((Hp.ordL_pw l).imp fun h => ?_)
  simp only [ordLe, decide_eq_true_eq] at h
  omega
theorem labK_same {n : Nat} {l m : List Edge} (hv : Vld n l) (hm : Vld n m) (h : ∀ p, p ∈ prs l ↔ p ∈ prs m) : labK n l = labK n m :=
  (labK_can hv).eq (labK_can hm) fun x y hx hy => by
    rw [lab_conn hv hx hy, lab_conn hm hx hy]
    exact ⟨fun c => c.subset fun p hp => (h p).1 hp, fun c => c.subset fun p hp => (h p).2 hp⟩
theorem ord_lab {n : Nat} {l : List Edge} (hv : Vld n l) : Hp.growK l (ordL l) (Uf.iota n) = labK n l :=
  lab_set hv hv (ordL_mem l) fun p => by
    rw [← prs_iota]
    constructor
    · intro h
      obtain ⟨i, hi, rfl⟩ := List.mem_map.1 h
      exact List.mem_map.2 ⟨i, (List.mergeSort_perm _ _).mem_iff.1 hi, rfl⟩
    · intro h
      obtain ⟨i, hi, rfl⟩ := List.mem_map.1 h
      exact List.mem_map.2 ⟨i, (List.mergeSort_perm _ _).mem_iff.2 hi, rfl⟩
/-- How long the forest is. -/
theorem for_len {n : Nat} {l : List Edge} (hv : Vld n l) : (accF n l (ordL l)).length + Hp.roots (labK n l) n = n := by
  have := Hp.acc_count hv (ordL l) (ordL_mem l)
  rwa [ord_lab hv] at this
theorem rev_vld {n : Nat} {l : List Edge} (hv : Vld n l) : Vld n l.reverse := fun e he => hv e (List.mem_reverse.1 he)
theorem rev_prs (l : List Edge) (p : Nat × Nat) : p ∈ prs l.reverse ↔ p ∈ prs l := by
  unfold prs
  rw [List.map_reverse, List.mem_reverse]
theorem rev_len {n : Nat} {l : List Edge} (hv : Vld n l) : (accF n l.reverse (ordL l.reverse)).length = (accF n l (ordL l)).length := by
  have h1 := for_len hv
  have h2 := for_len (rev_vld hv)
  rw [labK_same (rev_vld hv) hv (rev_prs l)] at h2
  omega
theorem rev_wts {n : Nat} {l : List Edge} (hv : Vld n l) : wts l.reverse (accF n l.reverse (ordL l.reverse)) = wts l (accF n l (ordL l)) := by
  have hc : ∀ th, cnt th (wts l.reverse (accF n l.reverse (ordL l.reverse))) = cnt th (wts l (accF n l (ordL l))) := fun th => by
    have h1 := cnt_for hv th
    have h2 := cnt_for (rev_vld hv) th
    have e : lo th l.reverse = (lo th l).reverse := by unfold lo; rw [List.filter_reverse]
    rw [e, labK_same (rev_vld (hv.lo th)) (hv.lo th) (rev_prs _)] at h2
    omega
  have hl : (wts l.reverse (accF n l.reverse (ordL l.reverse))).length = (wts l (accF n l (ordL l))).length := by rw [wts_len, wts_len, rev_len hv]
  have a := sorted_le (for_sorted n l.reverse) (for_sorted n l) hl fun th => Nat.le_of_eq (hc th).symm
  have b := sorted_le (for_sorted n l) (for_sorted n l.reverse) hl.symm fun th => Nat.le_of_eq (hc th)
  exact a.2 (by omega)
/-- A list whose edges have the same ends. -/
def Twin (l s : List Edge) : Prop := s.length = l.length ∧ ∀ i, i < l.length → (s.getD i edge0).U = (l.getD i edge0).U ∧ (s.getD i edge0).V = (l.getD i edge0).V
theorem Twin.vld {n : Nat} {l s : List Edge} (h : Twin l s) (hv : Vld n l) : Vld n s := fun e he => by
  obtain ⟨i, hi, rfl⟩ := List.mem_iff_getElem.1 he
  have hil : i < l.length := by have := h.1; omega
  have hh := h.2 i hil
  rw [show s.getD i edge0 = s[i] by simp [List.getD_eq_getElem?_getD, hi], show l.getD i edge0 = l[i] by simp [List.getD_eq_getElem?_getD, hil]] at hh
  have := hv _ (List.getElem_mem hil)
  rw [hh.1, hh.2]
  exact this
theorem Twin.prs {l s : List Edge} (h : Twin l s) : prs s = prs l := by
  unfold Ytobaodkcjjgkdaa.prs
  apply List.ext_getElem
  · rw [List.length_map, List.length_map, h.1]
  · intro i h1 h2
    have hs : i < s.length := by simpa using h1
    have hl : i < l.length := by simpa using h2
    have hh := h.2 i hl
    rw [show s.getD i edge0 = s[i] by simp [List.getD_eq_getElem?_getD, hs], show l.getD i edge0 = l[i] by simp [List.getD_eq_getElem?_getD, hl]] at hh
    rw [List.getElem_map, List.getElem_map, hh.1, hh.2]
theorem Twin.ends {l s : List Edge} (h : Twin l s) {i : Int} (hi : 0 ≤ i ∧ i < l.length) : eU s i = eU l i ∧ eV s i = eV l i := by
  obtain ⟨k, rfl⟩ := Int.eq_ofNat_of_zero_le hi.1
  have := h.2 k (by omega)
  unfold eU eV
  rw [Int.toNat_natCast, this.1, this.2]
  exact ⟨rfl, rfl⟩
theorem Twin.mem {n : Nat} {l s : List Edge} (h : Twin l s) : ∀ x ∈ accF n s (ordL s), 0 ≤ x ∧ x < l.length := fun x hx => by
  have := accF_mem x hx
  rwa [h.1] at this
theorem Twin.acc {n : Nat} {l s : List Edge} (h : Twin l s) : accF n l (accF n s (ordL s)) = accF n s (ordL s) := by
  have hm := h.mem (n := n)
  have e := acc_ord n s
  rw [accF_eq] at e ⊢
  rwa [(Hp.grow_congr l s _ _ fun i hi => h.ends (hm i hi)).2] at e
theorem Twin.len {n : Nat} {l s : List Edge} (h : Twin l s) (hv : Vld n l) : (accF n s (ordL s)).length = (accF n l (ordL l)).length := by
  have h1 := for_len hv
  have h2 := for_len (h.vld hv)
  rw [labK_same (h.vld hv) hv (fun p => by rw [h.prs])] at h2
  omega
theorem Twin.chk {n : Nat} {l s : List Edge} (h : Twin l s) (hn : newE n l = 0) : chkE n l (accF n s (ordL s)) = 0 := by
  rw [chkE_in hn h.mem, if_pos ((Hp.ordL_nodup s).sublist (for_sub n s))]
theorem Twin.span {n : Nat} {l s : List Edge} (h : Twin l s) (hv : Vld n l) (hn : newE n l = 0) : spV n l (accF n s (ordL s)) = true := by
  unfold spV
  rw [Int.toNat_natCast, h.chk hn, h.acc, h.len hv]
  simp
theorem perm_sum {xs ys : List Int} (h : xs.Perm ys) : xs.sum = ys.sum := by
  induction h with
  | nil => rfl
  | cons x _ ih => rw [List.sum_cons, List.sum_cons, ih]
  | swap x y r => rw [List.sum_cons, List.sum_cons, List.sum_cons, List.sum_cons]; omega
  | trans _ _ a b => rw [a, b]
theorem srt_perm (xs : List Int) : (srt xs).Perm xs := List.mergeSort_perm _ _
theorem srt_sorted (xs : List Int) : (srt xs).Pairwise (· ≤ ·) := by
  refine (List.pairwise_mergeSort (fun a b c => ?_) (fun a b => ?_) xs).imp fun h => by simpa using h
  · simp only [decide_eq_true_eq]; omega
  · simp only [Bool.or_eq_true, decide_eq_true_eq]; omega
/-- No spanning forest is lighter than Kruskal's; and one that is as light has the same weights. -/
theorem least {n : Nat} {l : List Edge} (hv : Vld n l) {c : List Int} (hc : ∀ x ∈ c, 0 ≤ x ∧ x < l.length) (ha : accF n l c = c) (hl : c.length = (accF n l (ordL l)).length) : (wts l (accF n l (ordL l))).sum ≤ (wts l c).sum ∧ (srt (wts l c) = wts l (accF n l (ordL l)) ↔ (wts l c).sum = (wts l (accF n l (ordL l))).sum) := by
  have hs : (srt (wts l c)).sum = (wts l c).sum := perm_sum (srt_perm _)
  have h := sorted_le (for_sorted n l) (srt_sorted (wts l c)) (by rw [srt_len, wts_len, wts_len, hl]) fun th => by
    rw [cnt_perm (srt_perm _)]
    have := cnt_for hv th
    have := cnt_le hv hc ha th
    omega
  rw [hs] at h
  exact ⟨h.1, fun e => by rw [← hs, e], fun e => (h.2 e.symm).symm⟩
theorem Twin.min {n : Nat} {l s : List Edge} (h : Twin l s) (hv : Vld n l) (hn : newE n l = 0) : mnV n l (accF n s (ordL s)) = decide ((wts l (accF n s (ordL s))).sum = (wts l (accF n l (ordL l))).sum) := by
  unfold mnV
  rw [h.span hv hn, Bool.true_and, Int.toNat_natCast, decide_eq_decide]
  exact (least hv h.mem h.acc (h.len hv)).2
end Go.Proofs.Ytobaodkcjjgkdaa
namespace Go.Proofs.Ytobaodkcjjgkdaa
open Go Go.RowKit

/-- Small weights. -/
def W8 (l : List Edge) : Prop := ∀ e ∈ l, -128 ≤ e.W ∧ e.W < 128
def sumW (l : List Edge) : Int := (l.map (·.W)).sum
theorem sumW_pick (l : List Edge) (f : List Int) : sumW (pickE l f) = (wts l f).sum := by
  unfold sumW pickE wts
  rw [List.map_map]
  rfl
theorem W8.pick {l : List Edge} (h : W8 l) {f : List Int} (hf : ∀ x ∈ f, 0 ≤ x ∧ x < l.length) : W8 (pickE l f) := by
  intro e he
  obtain ⟨i, hi, rfl⟩ := List.mem_map.1 he
  obtain ⟨a, b⟩ := hf i hi
  have hk : i.toNat < l.length := by omega
  rw [show l.getD i.toNat edge0 = l[i.toNat] by simp [List.getD_eq_getElem?_getD, hk]]
  exact h _ (List.getElem_mem hk)
theorem sumW_take {l : List Edge} {k : Nat} (h : k < l.length) : sumW (l.take (k + 1)) = sumW (l.take k) + (l.getD k edge0).W := by
  unfold sumW
  rw [List.take_succ_eq_append_getElem h, List.map_append, List.sum_append, show l.getD k edge0 = l[k] by simp [List.getD_eq_getElem?_getD, h]]
  simp
set_option maxRecDepth 1000000 in
set_option maxHeartbeats 4000000 in
theorem lsum_any (A : Option Addr) (c : Nat) (l : List Edge) (w : World) (hE : Edges A l w) (hl : l.length ≤ 1000) (hw : W8 l) :
    Calls Try.prog 33 #[.slice A l.length c] w fun e w' => e = .returned (.int .i64 (sumW l)) ∧ Below w.heap.size w w' := by
  have HE := Lib.hid hE; have HW := Lib.hid hw
  have l1 : (l.length : Int) ≤ 1000 := by omega
  clear hE hw
  go_enter Try.func33, Try.ntmps33
  go_wp2_with fail
  go_loopw [4, 3] (fun x y wr => ∃ k : Nat, k ≤ l.length ∧ x = .int .i64 k ∧ ∃ s : Int, y = .int .i64 s ∧ Hid (s = sumW (l.take k) ∧ -128 * k ≤ s ∧ s ≤ 128 * k) ∧ Below w.heap.size w wr) (fun x _ _ => l.length - (intOf x).toNat)
  case atStart => exact ⟨0, by omega, rfl, 0, rfl, Lib.hid ⟨rfl, by omega, by omega⟩, Below.refl _ _⟩
  case round =>
    obtain ⟨k, hk, rfl, s, rfl, hS, hb⟩ := hrel
    by_cases hlt : k < l.length
    · have hlt1 : (k : Int) < l.length := by omega
      obtain ⟨b, o, rfl, hc⟩ := HE.out (by omega)
      have kw := (hb.cell (p := ⟨b, o + k * 3 + 2, none⟩) (World.block_lt_of_cell? w _ (hc k hlt).2.2)).trans (hc k hlt).2.2
      have hx := HW.out _ (List.getElem_mem hlt)
      rw [← show l.getD k edge0 = l[k] by simp [List.getD_eq_getElem?_getD, hlt]] at hx
      have hT := sumW_take hlt
      obtain ⟨h1, h2, h3⟩ := hS.out
      generalize (l.getD k edge0).W = W at *
      have HS2 : Hid (s + W = sumW (l.take (k + 1)) ∧ -128 * ((k + 1 : Nat) : Int) ≤ s + W ∧ s + W ≤ 128 * ((k + 1 : Nat) : Int)) := Lib.hid ⟨by rw [hT, h1], by omega, by omega⟩
      have HB := Lib.hid hb
      clear hc hb hT h1 hS
      go_wp2_with fail
      go_roundw
      case rel => exact ⟨k + 1, by omega, by go_num, s + W, by go_num, HS2, HB.out⟩
      case measure => simp [intOf]; omega
    · have hkk : k = l.length := by omega
      subst hkk
      have hs := hS.out.1
      rw [List.take_length] at hs
      subst hs
      have HB := Lib.hid hb
      clear hS hb
      go_wp2_with fail
      go_ret
      exact ⟨rfl, HB.out⟩

/-- Two rows of edges that grow, apart. -/
def TR (B : Nat) (u : Value) (a : List Edge) (v : Value) (b : List Edge) (w : World) : Prop := w.ownsRow B 36 3 u a.length (ecells a) ∧ w.ownsRow B 36 3 v b.length (ecells b) ∧ (v.ownBlock = none ∨ v.ownBlock ≠ u.ownBlock)
theorem TR.symm {B : Nat} {u v : Value} {a b : List Edge} {w : World} (h : TR B u a v b w) : TR B v b u a w := ⟨h.2.1, h.1, nsym h.2.2⟩
theorem TR.fresh {B : Nat} {u v : Value} {a b : List Edge} {w w' : World} (h : TR B u a v b w) (hg : w.grownBy w' (some w.heap.size)) : TR B u a v b w' := by
  have ne : ∀ {x : Value} {n : Nat} {xs : List Value}, w.ownsRow B 36 3 x n xs → x.ownBlock = none ∨ x.ownBlock ≠ some w.heap.size := fun {x n xs} hx => by
    cases hv : x.ownBlock with
    | none => exact .inl rfl
    | some k => exact .inr fun e => by injection e with e; have := (own_ge hx k hv).2; omega
  exact ⟨h.1.kept hg (ne h.1), h.2.1.kept hg (ne h.2.1), h.2.2⟩
theorem TR.app {B : Nat} {u v : Value} {a b : List Edge} {W : World} (h : TR B u a v b W) (hB : B ≤ W.heap.size) (hn : a.length ≤ 1000000) (X : Edge) :
    ∃ u' w', (appS #[22, 22] 22 #[u, .slice (some ⟨W.heap.size, 0, none⟩) 1 1]).run Try.prog (W.alloc (.cells #[.int .i64 X.U, .int .i64 X.V, .int .i64 X.W] 36)) = .ok u' w' ∧ TR B u' (a ++ [X]) v b w' ∧ Below B W w' := by
  obtain ⟨hu, hv, hap⟩ := h
  obtain ⟨i0, hi, hz0, hz1, hz2⟩ := info_parts info_edge
  obtain ⟨u', w', hr, h2, h3, _, h5⟩ := run_append_own_at (P := Try.prog) (W.alloc (.cells #[.int .i64 X.U, .int .i64 X.V, .int .i64 X.W] 36)) B 22 22 36 i0 (.agg #[.int .i64 0, .int .i64 0, .int .i64 0]) 3 24 Try.underlying22 hi hz0 hz1 hz2 rfl (by decide) u a.length (ecells a) (hu.alloc _) ⟨W.heap.size, 0, none⟩ 1 1 [.int .i64 X.U, .int .i64 X.V, .int .i64 X.W] rfl (World.news_of_block (cs := #[.int .i64 X.U, .int .i64 X.V, .int .i64 X.W]) (t := 36) (fr := (0, 0)) (block_new _ _ _ rfl)) (by simp [Value.oneCell']) (by unfold maxLen; omega) (by omega) (by simp; omega)
  refine ⟨u', w', hr, ⟨by rw [ecells_snoc, List.length_append]; exact h2, (hv.alloc _).kept h3 hap, ?_⟩, ((Below.refl B W).alloc hB _).grown h3 (by simp; omega) (fun k hk => (own_ge hu k hk).1)⟩
  rcases h5 with e | e
  · rw [e]; exact hap
  · cases hvb : v.ownBlock with
    | none => exact .inl rfl
    | some k =>
      refine .inr fun e2 => ?_
      rw [e] at e2
      injection e2 with e2
      have := (own_ge hv k hvb).2
      simp at e2
      omega
/-- The edges with other weights. -/
def strg (l : List Edge) (os : List Int) : List Edge := (List.range l.length).map fun i => ⟨(l.getD i edge0).U, (l.getD i edge0).V, if i < os.length then St.v os i else (l.getD i edge0).W⟩
theorem strg_len (l : List Edge) (os : List Int) : (strg l os).length = l.length := by simp [strg]
theorem strg_take {l : List Edge} {os : List Int} {k : Nat} (h : k < l.length) : (strg l os).take (k + 1) = (strg l os).take k ++ [⟨(l.getD k edge0).U, (l.getD k edge0).V, if k < os.length then St.v os k else (l.getD k edge0).W⟩] := by
  rw [List.take_succ_eq_append_getElem (by rw [strg_len]; exact h)]
  simp [strg]
theorem strg_twin (l : List Edge) (os : List Int) : Twin l (strg l os) := by
  refine ⟨strg_len l os, fun i hi => ?_⟩
  rw [show (strg l os).getD i edge0 = (strg l os)[i]'(by rw [strg_len]; exact hi) by simp [List.getD_eq_getElem?_getD, strg_len, hi]]
  simp [strg]
theorem rev_take {l : List Edge} {k : Nat} (h : k < l.length) : l.reverse.take (k + 1) = l.reverse.take k ++ [l.getD (l.length - 1 - k) edge0] := by
  rw [List.take_succ_eq_append_getElem (by simpa using h), List.getElem_reverse]
  simp [List.getD_eq_getElem?_getD, show l.length - 1 - k < l.length by omega]
/-- A slice of small numbers that reads. -/
def I8R (B : Option Addr) (xs : List Int) (w : World) : Prop := 0 < xs.length → ∃ b o, B = some ⟨b, o, none⟩ ∧ ∀ j, j < xs.length → w.cell? ⟨b, o + j, none⟩ = some (.int .i8 (St.v xs j))
theorem I8R.on {B : Option Addr} {xs : List Int} {w w' : World} (h : I8R B xs w) (hb : Below w.heap.size w w') : I8R B xs w' := fun hn => by
  obtain ⟨b, o, rfl, hc⟩ := h hn
  have hlt := World.block_lt_of_cell? w _ (hc 0 hn)
  exact ⟨b, o, rfl, fun j hj => (hb.cell (p := ⟨b, o + j, none⟩) hlt).trans (hc j hj)⟩
end Go.Proofs.Ytobaodkcjjgkdaa
namespace Go.Proofs.Ytobaodkcjjgkdaa
open Go Go.RowKit

theorem wts_strg (l : List Edge) (os : List Int) : W8 l → (∀ x ∈ os, -128 ≤ x ∧ x < 128) → W8 (strg l os) := fun h ho e he => by
  obtain ⟨i, hi, rfl⟩ := List.mem_map.1 he
  have hil := List.mem_range.1 hi
  show -128 ≤ (if i < os.length then St.v os i else (l.getD i edge0).W) ∧ _
  split
  · rename_i h1
    have := ho _ (List.getElem_mem h1)
    rwa [← show St.v os i = os[i] from St.getD_at h1] at this
  · rw [show l.getD i edge0 = l[i] by simp [List.getD_eq_getElem?_getD, hil]]
    exact h _ (List.getElem_mem hil)

theorem pick_W {l : List Edge} {f : List Int} {i : Nat} (h : i < f.length) : ((pickE l f).getD i edge0).W = St.v (wts l f) i := by
  simp [pickE, wts, wtOf, St.v, List.getD_eq_getElem?_getD, h]
theorem bne_len {a b : Nat} (h : a = b) : ((a : Int) != (b : Int)) = false := by rw [h]; simp

attribute [local go_sem ↓] app_appS
set_option maxRecDepth 1000000 in
set_option maxHeartbeats 16000000 in
theorem least_any (A B : Option Addr) (c cb : Nat) (ls : List Link) (os : List Int) (w : World) (hE : Links A ls w) (_ : ls.length ≤ c) (hw : LOk ls) (hO : I8R B os w) (_ : os.length ≤ cb) (ho : ∀ x ∈ os, -128 ≤ x ∧ x < 128) :
    Calls Try.prog 9 #[.slice A ls.length c, .slice B os.length cb] w fun e w' => e = .returned (.bool true) ∧ Below w.heap.size w w' := by
  by_cases hl : 120 < ls.length ∨ 120 < os.length
  · clear hE hw hO ho
    by_cases h1 : 120 < ls.length
    · have hl1 : (120 : Int) < ls.length := by omega
      go_enter Try.func9, Try.ntmps9
      go_wp2_with fail
      refine (works_any _).mono ?_
      rintro e w1 ⟨rfl, hb⟩
      refine Hid.out ?_
      have HB1 := Lib.hid hb
      clear hb
      refine Lib.hid ?_
      go_wp2_with fail
      go_ret
      exact ⟨rfl, HB1.out⟩
    · have hl1 : (ls.length : Int) ≤ 120 := by omega
      have hl2 : (120 : Int) < os.length := by omega
      go_enter Try.func9, Try.ntmps9
      go_wp2_with fail
      refine (works_any _).mono ?_
      rintro e w1 ⟨rfl, hb⟩
      refine Hid.out ?_
      have HB1 := Lib.hid hb
      clear hb
      refine Lib.hid ?_
      go_wp2_with fail
      go_ret
      exact ⟨rfl, HB1.out⟩
  · have hl1 : (ls.length : Int) ≤ 120 := by omega
    have ho1 : (os.length : Int) ≤ 120 := by omega
    have HBA := Lib.hid (built_any A c ls w hE (by omega) hw)
    have hbl := built_len ls
    have HV := Lib.hid (built_vld ls)
    have HW8 : Hid (W8 (built ls)) := Lib.hid (built_w hw)
    have HO := Lib.hid hO; have HOB := Lib.hid ho
    clear hE hw hO ho
    generalize built ls = l at *
    have hll : l.length ≤ 120 := by omega
    have l1 : (l.length : Int) ≤ 120 := by omega
    go_enter Try.func9, Try.ntmps9
    go_wp2_with fail
    refine HBA.out.mono ?_
    rintro e w1 ⟨v1, rfl, ho, hb⟩
    refine Hid.out ?_
    obtain ⟨A1, c1, rfl, hE1, hc1⟩ := Edges.ofOwn ho
    have HE1 := Lib.hid hE1; have HB1 := Lib.hid hb; have HO1 := Lib.hid (HO.out.on hb)
    have hs1 := hb.size
    clear ho hb hE1 HBA HO
    refine Lib.hid ?_
    go_wp2_with fail
    go_loopw [6, 7, 8] (fun u v x wr => ∃ k : Nat, k ≤ l.length ∧ x = .int .i64 k ∧ Hid (TR w1.heap.size u (l.reverse.take k) v ((strg l os).take k) wr) ∧ Below w1.heap.size w1 wr) (fun _ _ x _ => l.length - (intOf x).toNat)
    case atStart => exact ⟨0, by omega, rfl, Lib.hid ⟨⟨rfl, .inl ⟨rfl, rfl⟩⟩, ⟨rfl, .inl ⟨rfl, rfl⟩⟩, .inl rfl⟩, Below.refl _ _⟩
    case round =>
      obtain ⟨k, hk, rfl, hT, hb⟩ := hrel
      by_cases hlt : k < l.length
      · have hlt1 : (k : Int) < l.length := by omega
        obtain ⟨bE, oE, rfl, hcE⟩ := HE1.out (by omega)
        have hEb := World.block_lt_of_cell? w1 _ (hcE k hlt).1
        obtain ⟨j, hj⟩ : ∃ j, j = l.length - 1 - k := ⟨_, rfl⟩
        have hjl : j < l.length := by omega
        have hje : (l.length : Int) - 1 - k = j := by omega
        have ce : ∀ i, wr.cell? ⟨bE, i, none⟩ = w1.cell? ⟨bE, i, none⟩ := fun i => hb.cell (p := ⟨bE, i, none⟩) hEb
        obtain ⟨ju, jv, jw⟩ := hcE j hjl
        rw [← ce] at ju jv jw
        have hR := rev_take hlt
        rw [← hj] at hR
        have hSg := strg_take (os := os) hlt
        obtain ⟨u3, w3, hr3, hT3, hb3⟩ := hT.out.app hb.size (by rw [List.length_take]; omega) (l.getD j edge0)
        rw [← hR] at hT3
        have hb13 := hb.trans hb3
        have ce3 : ∀ i, w3.cell? ⟨bE, i, none⟩ = w1.cell? ⟨bE, i, none⟩ := fun i => hb13.cell (p := ⟨bE, i, none⟩) hEb
        obtain ⟨ku, kv, kw⟩ := hcE k hlt
        rw [← ce3] at ku kv kw
        have HT3 := Lib.hid hT3; have HB3 := Lib.hid hb13; have HSG := Lib.hid hSg
        generalize l.getD j edge0 = X at *
        generalize l.getD k edge0 = Y at *
        have hj1 : (j : Int) < l.length := by omega
        have hj0 : (0 : Int) ≤ j := by omega
        clear hT hb hT3 hb13 hb3 hcE ce ce3 hR hSg hj
        by_cases hko : k < os.length
        · have hko1 : (k : Int) < os.length := by omega
          obtain ⟨bO, oO, rfl, hcO⟩ := HO1.out (by omega)
          have kz := (HB3.out.cell (p := ⟨bO, oO + k, none⟩) (World.block_lt_of_cell? w1 _ (hcO k hko))).trans (hcO k hko)
          have hbO := World.block_lt_of_cell? w3 _ kz
          have hzb := HOB.out _ (List.getElem_mem hko)
          rw [← show St.v os k = os[k] from St.getD_at hko] at hzb
          have hSg := HSG.out
          rw [if_pos hko] at hSg
          have HS2 := Lib.hid hSg
          generalize St.v os k = z at *
          clear hcO hSg HSG
          obtain ⟨v5, w5, hr5, hT5, hb5⟩ := (HT3.out.fresh (World.grownBy_alloc w3 (.cells #[.int .i64 Y.U, .int .i64 Y.V, .int .i64 z] 36) _)).symm.app (Nat.le_trans HB3.out.size (by show w3.heap.size ≤ (w3.heap.push _).size; simp)) (by rw [List.length_take]; omega) ⟨Y.U, Y.V, z⟩
          have hz5 : (w3.alloc (.cells #[.int .i64 Y.U, .int .i64 Y.V, .int .i64 z] 36)).heap.size = w3.heap.size + 1 := by show (w3.heap.push _).size = _; simp
          rw [hz5] at hr5
          rw [← HS2.out] at hT5
          have HT5 := Lib.hid hT5.symm; have HB5 := Lib.hid ((HB3.out.alloc HB3.out.size _).trans hb5)
          clear hT5 hb5 hz5
          go_wp2_with fail
          go_roundw
          case rel => exact ⟨k + 1, by omega, by go_num, HT5, HB5.out⟩
          case measure => simp [intOf]; omega
        · have hko1 : (os.length : Int) ≤ k := by omega
          have hSg := HSG.out
          rw [if_neg hko] at hSg
          have HS2 := Lib.hid hSg
          clear hSg HSG
          obtain ⟨v5, w5, hr5, hT5, hb5⟩ := (HT3.out.fresh (World.grownBy_alloc w3 (.cells #[.int .i64 Y.U, .int .i64 Y.V, .int .i64 Y.W] 36) _)).symm.app (Nat.le_trans HB3.out.size (by show w3.heap.size ≤ (w3.heap.push _).size; simp)) (by rw [List.length_take]; omega) ⟨Y.U, Y.V, Y.W⟩
          have hz5 : (w3.alloc (.cells #[.int .i64 Y.U, .int .i64 Y.V, .int .i64 Y.W] 36)).heap.size = w3.heap.size + 1 := by show (w3.heap.push _).size = _; simp
          rw [hz5] at hr5
          rw [← HS2.out] at hT5
          have HT5 := Lib.hid hT5.symm; have HB5 := Lib.hid ((HB3.out.alloc HB3.out.size _).trans hb5)
          clear hT5 hb5 hz5
          go_wp2_with fail
          go_roundw
          case rel => exact ⟨k + 1, by omega, by go_num, HT5, HB5.out⟩
          case measure => simp [intOf]; omega
      · have hkk : k = l.length := by omega
        subst hkk
        have hT2 := hT.out
        have e1 : l.reverse.take l.length = l.reverse := List.take_of_length_le (by simp)
        have e2 : (strg l os).take l.length = strg l os := List.take_of_length_le (by rw [strg_len]; exact Nat.le_refl _)
        rw [e1, e2] at hT2
        obtain ⟨B6, c6, rfl, hE6, hc6⟩ := Edges.ofOwn hT2.1
        obtain ⟨B7, c7, rfl, hE7, hc7⟩ := Edges.ofOwn hT2.2.1
        have HB2 := Lib.hid (HB1.out.trans (hb.mono hs1)); have HL2 := Lib.hid (HE1.out.on hb); have HR2 := Lib.hid hE6; have HS2 := Lib.hid hE7
        have hrl : l.reverse.length ≤ 120 := by rw [List.length_reverse]; exact hll
        have hsl : (strg l os).length ≤ 120 := by rw [strg_len]; exact hll
        have HTW := Lib.hid (strg_twin l os)
        have HSW := Lib.hid (wts_strg l os HW8.out HOB.out)
        clear hT hT2 hb hE6 hE7 e1 e2 HE1 HO1 HB1
        generalize wr = w2 at *
        have n0 : newE 30 l = 0 := newE_ok (n := 30) HV.out (by decide) (by omega)
        have HFA := Lib.hid (fun B c w h => forest_ok B c l w h HV.out (by omega))
        have HFB := Lib.hid (fun B c w h => forest_ok B c l.reverse w h (rev_vld HV.out) (by omega))
        have HFC := Lib.hid (fun B c w h => forest_ok B c (strg l os) w h (HTW.out.vld HV.out) (by omega))
        have hba := rev_len HV.out
        have hca := HTW.out.len HV.out
        have hWT := rev_wts HV.out
        have HWE : Hid (∀ i, i < (accF 30 l (ordL l)).length → ((pickE l (accF 30 l (ordL l))).getD i edge0).W = ((pickE l.reverse (accF 30 l.reverse (ordL l.reverse))).getD i edge0).W) := Lib.hid fun i hi => by
          rw [pick_W hi, pick_W (by rw [hba]; exact hi), hWT]
        have HMA := Lib.hid (accF_mem (n := 30) (l := l)); have HMB := Lib.hid (accF_mem (n := 30) (l := l.reverse)); have HMC := Lib.hid (HTW.out.mem (n := 30))
        have HSP : Hid (spV 30 l (accF 30 (strg l os) (ordL (strg l os))) = true) := Lib.hid (HTW.out.span HV.out n0)
        have HCK : Hid (chkE 30 l (accF 30 (strg l os) (ordL (strg l os))) = 0) := Lib.hid (HTW.out.chk (n := 30) n0)
        have HMN : Hid (mnV 30 l (accF 30 (strg l os) (ordL (strg l os))) = decide ((wts l (accF 30 (strg l os) (ordL (strg l os)))).sum = (wts l (accF 30 l (ordL l))).sum)) := Lib.hid (HTW.out.min HV.out n0)
        have hLE := (least HV.out HTW.out.mem HTW.out.acc hca).1
        have hal := accF_len (n := 30) (l := l)
        generalize accF 30 (strg l os) (ordL (strg l os)) = cc at *
        generalize accF 30 l.reverse (ordL l.reverse) = b at *
        generalize accF 30 l (ordL l) = a at *
        generalize l.reverse = r at *
        generalize strg l os = s at *
        have q1 := bne_len hba.symm; have q2 := bne_len hca.symm
        have q3 := bne_len (pickE_len l a); have q4 := bne_len (pickE_len r b)
        have HBA := Lib.hid hba; have HCA := Lib.hid hca
        have ha1 : a.length ≤ 120 := by omega
        have hb1 : b.length ≤ 120 := by omega
        have hc1 : cc.length ≤ 120 := by omega
        have HWA := Lib.hid (W8.pick HW8.out HMA.out); have HWC := Lib.hid (W8.pick HW8.out HMC.out)
        have HSA := Lib.hid (sumW_pick l a); have HSC := Lib.hid (sumW_pick l cc)
        generalize (wts l cc).sum = SC at *
        generalize (wts l a).sum = SA at *
        have HPA := Lib.hid (pickE_len l a); have HPB := Lib.hid (pickE_len r b); have HPC := Lib.hid (pickE_len l cc)
        clear hba hca hWT n0
        go_wp2_with fail
        refine (HFA.out A1 c1 w2 HL2.out).mono ?_
        rintro e w3 ⟨DA, ca, rfl, hO, hca, hb⟩
        refine Hid.out ?_
        have HB3 := Lib.hid (HB2.out.trans (hb.mono HB2.out.size)); have HL3 := Lib.hid (HL2.out.on hb); have HR3 := Lib.hid (HR2.out.on hb); have HS3 := Lib.hid (HS2.out.on hb); have HA3 := Lib.hid hO
        clear hb hO
        refine Lib.hid ?_
        go_wp2_with fail
        refine (HFB.out B6 c6 w3 HR3.out).mono ?_
        rintro e w4 ⟨DB, cb4, rfl, hO, hcb, hb⟩
        refine Hid.out ?_
        have HB4 := Lib.hid (HB3.out.trans (hb.mono HB3.out.size)); have HL4 := Lib.hid (HL3.out.on hb); have HR4 := Lib.hid (HR3.out.on hb); have HS4 := Lib.hid (HS3.out.on hb); have HA4 := Lib.hid (HA3.out.on hb); have HBF4 := Lib.hid hO
        clear hb hO
        refine Lib.hid ?_
        go_wp2_with fail
        refine (HFC.out B7 c7 w4 HS4.out).mono ?_
        rintro e w5 ⟨DC, cc5, rfl, hO, hcc, hb⟩
        refine Hid.out ?_
        have HB5 := Lib.hid (HB4.out.trans (hb.mono HB4.out.size)); have HL5 := Lib.hid (HL4.out.on hb); have HR5 := Lib.hid (HR4.out.on hb); have HA5 := Lib.hid (HA4.out.on hb); have HBF5 := Lib.hid (HBF4.out.on hb); have HC5 := Lib.hid hO
        clear hb hO
        refine Lib.hid ?_
        go_wp2_with fail
        refine (some_any A1 DA c1 ca l a w5 HL5.out HA5.out HMA.out (by omega) (by omega)).mono ?_
        rintro e w6 ⟨v6, rfl, ho, hb⟩
        refine Hid.out ?_
        obtain ⟨BX, cX, rfl, hEX, hcX⟩ := Edges.ofOwn ho
        have HB6 := Lib.hid (HB5.out.trans (hb.mono HB5.out.size)); have HL6 := Lib.hid (HL5.out.on hb); have HR6 := Lib.hid (HR5.out.on hb); have HA6 := Lib.hid (HA5.out.on hb); have HBF6 := Lib.hid (HBF5.out.on hb); have HC6 := Lib.hid (HC5.out.on hb); have HX6 := Lib.hid hEX
        clear hb ho hEX
        refine Lib.hid ?_
        go_wp2_with fail
        refine (some_any B6 DB c6 cb4 r b w6 HR6.out HBF6.out HMB.out (by omega) (by omega)).mono ?_
        rintro e w7 ⟨v7, rfl, ho, hb⟩
        refine Hid.out ?_
        obtain ⟨BY, cY, rfl, hEY, hcY⟩ := Edges.ofOwn ho
        have HB7 := Lib.hid (HB6.out.trans (hb.mono HB6.out.size)); have HL7 := Lib.hid (HL6.out.on hb); have HC7 := Lib.hid (HC6.out.on hb); have HX7 := Lib.hid (HX6.out.on hb); have HY7 := Lib.hid hEY
        clear hb ho hEY
        refine Lib.hid ?_
        go_wp2_with fail
        have HWX := Lib.hid (W8.pick HW8.out HMA.out)
        generalize pickE l a = pa at *
        generalize pickE r b = pb at *
        have hpa : pa.length ≤ 120 := by have := HPA.out; omega
        have hpa1 : (pa.length : Int) ≤ 120 := by omega
        have hpb : pb.length = pa.length := by have := HPA.out; have := HPB.out; have := HBA.out; omega
        have HPE := Lib.hid hpb
        clear hpb
        go_loopw [18] (fun x wr => ∃ i : Nat, i ≤ pa.length ∧ x = .int .i64 i ∧ Below w7.heap.size w7 wr) (fun x _ => pa.length - (intOf x).toNat)
        case atStart => exact ⟨0, by omega, rfl, Below.refl _ _⟩
        case round =>
          obtain ⟨i, hi, rfl, hb⟩ := hrel
          by_cases hil : i < pa.length
          · have hil1 : (i : Int) < pa.length := by omega
            have hib : i < pb.length := by rw [HPE.out]; exact hil
            have hib1 : (i : Int) < pb.length := by omega
            obtain ⟨bX, oX, rfl, hcX⟩ := HX7.out (by omega)
            obtain ⟨bY, oY, rfl, hcY⟩ := HY7.out (by omega)
            have kx := (hb.cell (p := ⟨bX, oX + i * 3 + 2, none⟩) (World.block_lt_of_cell? w7 _ (hcX i hil).2.2)).trans (hcX i hil).2.2
            have ky := (hb.cell (p := ⟨bY, oY + i * 3 + 2, none⟩) (World.block_lt_of_cell? w7 _ (hcY i hib).2.2)).trans (hcY i hib).2.2
            rw [← HWE.out i (by rw [← HPA.out]; exact hil)] at ky
            generalize (pa.getD i edge0).W = z at kx ky
            have hzz : (z != z) = false := bne_self_eq_false' z
            have HB := Lib.hid hb
            clear hcX hcY hb
            go_wp2_with fail
            go_quiet (fail)
            go_wp2_with fail
            go_roundw
            case rel => exact ⟨i + 1, by omega, by go_num, below_drewN' HB.out nq⟩
            case measure => simp [intOf]; omega
          · generalize wr = w8 at *
            have HB8 := Lib.hid (HB7.out.trans (hb.mono HB7.out.size)); have HL8 := Lib.hid (HL7.out.on hb); have HC8 := Lib.hid (HC7.out.on hb); have HX8 := Lib.hid (HX7.out.on hb)
            have hS := spans_any 30 A1 DC c1 cc5 l cc w8 HL8.out HC8.out (by omega) (by omega)
            rw [HSP.out, HCK.out] at hS
            have HSS := Lib.hid hS
            clear hb hS
            go_wp2_with fail
            refine HSS.out.mono ?_
            rintro e w9 ⟨rfl, hb⟩
            refine Hid.out ?_
            have HB9 := Lib.hid (HB8.out.trans (hb.mono HB8.out.size)); have HL9 := Lib.hid (HL8.out.on hb); have HC9 := Lib.hid (HC8.out.on hb); have HX9 := Lib.hid (HX8.out.on hb)
            have hM := minimal_any 30 A1 DC c1 cc5 l cc w9 HL9.out HC9.out (by omega) (by omega)
            rw [HMN.out, HCK.out] at hM
            have HMM := Lib.hid hM
            clear hb hM HSS
            refine Lib.hid ?_
            go_wp2_with fail
            refine HMM.out.mono ?_
            rintro e w10 ⟨rfl, hb⟩
            refine Hid.out ?_
            have HB10 := Lib.hid (HB9.out.trans (hb.mono HB9.out.size)); have HL10 := Lib.hid (HL9.out.on hb); have HC10 := Lib.hid (HC9.out.on hb); have HX10 := Lib.hid (HX9.out.on hb)
            have hge : SA ≤ SC := hLE
            obtain ⟨eqb, heqb⟩ : ∃ eqb : Bool, decide (SC = SA) = eqb := ⟨_, rfl⟩
            have heq2 : (SC == SA) = eqb := by rw [← heqb]; rfl
            rw [heqb]
            clear hb HMM heqb
            refine Lib.hid ?_
            go_wp2_with fail
            refine (some_any A1 DC c1 cc5 l cc w10 HL10.out HC10.out HMC.out (by omega) (by omega)).mono ?_
            rintro e w11 ⟨v11, rfl, ho, hb⟩
            refine Hid.out ?_
            obtain ⟨BZ, cZ, rfl, hEZ, hcZ⟩ := Edges.ofOwn ho
            have HB11 := Lib.hid (HB10.out.trans (hb.mono HB10.out.size)); have HL11 := Lib.hid (HL10.out.on hb); have HC11 := Lib.hid (HC10.out.on hb); have HX11 := Lib.hid (HX10.out.on hb)
            have hs11 := lsum_any BZ cZ (pickE l cc) w11 hEZ (by have := HPC.out; omega) HWC.out
            rw [HSC.out] at hs11
            have HS11 := Lib.hid hs11
            clear hb ho hEZ hs11
            refine Lib.hid ?_
            go_wp2_with fail
            refine HS11.out.mono ?_
            rintro e w12 ⟨rfl, hb⟩
            refine Hid.out ?_
            have HB12 := Lib.hid (HB11.out.trans (hb.mono HB11.out.size)); have HL12 := Lib.hid (HL11.out.on hb); have HC12 := Lib.hid (HC11.out.on hb); have HX12 := Lib.hid (HX11.out.on hb)
            have hs12 := lsum_any BX cX pa w12 HX12.out (by omega) HWX.out
            rw [HSA.out] at hs12
            have HS12 := Lib.hid hs12
            clear hb hs12 HS11
            refine Lib.hid ?_
            go_wp2_with fail
            refine HS12.out.mono ?_
            rintro e w13 ⟨rfl, hb⟩
            refine Hid.out ?_
            have HB13 := Lib.hid (HB12.out.trans (hb.mono HB12.out.size)); have HL13 := Lib.hid (HL12.out.on hb); have HC13 := Lib.hid (HC12.out.on hb); have HX13 := Lib.hid (HX12.out.on hb)
            clear hb HS12
            refine Lib.hid ?_
            go_wp2_with fail
            refine (some_any A1 DC c1 cc5 l cc w13 HL13.out HC13.out HMC.out (by omega) (by omega)).mono ?_
            rintro e w14 ⟨v14, rfl, ho, hb⟩
            refine Hid.out ?_
            obtain ⟨BZ2, cZ2, rfl, hEZ, hcZ2⟩ := Edges.ofOwn ho
            have HB14 := Lib.hid (HB13.out.trans (hb.mono HB13.out.size)); have HX14 := Lib.hid (HX13.out.on hb)
            have hs14 := lsum_any BZ2 cZ2 (pickE l cc) w14 hEZ (by have := HPC.out; omega) HWC.out
            rw [HSC.out] at hs14
            have HS14 := Lib.hid hs14
            clear hb ho hEZ hs14
            refine Lib.hid ?_
            go_wp2_with fail
            refine HS14.out.mono ?_
            rintro e w15 ⟨rfl, hb⟩
            refine Hid.out ?_
            have HB15 := Lib.hid (HB14.out.trans (hb.mono HB14.out.size)); have HX15 := Lib.hid (HX14.out.on hb)
            have hs15 := lsum_any BX cX pa w15 HX15.out (by omega) HWX.out
            rw [HSA.out] at hs15
            have HS15 := Lib.hid hs15
            clear hb hs15 HS14
            refine Lib.hid ?_
            go_wp2_with fail
            refine HS15.out.mono ?_
            rintro e w16 ⟨rfl, hb⟩
            refine Hid.out ?_
            have HB16 := Lib.hid (HB15.out.trans (hb.mono HB15.out.size))
            clear hb HS15
            refine Lib.hid ?_
            go_wp2_with fail
            refine (works_any _).mono ?_
            rintro e w17 ⟨rfl, hb⟩
            refine Hid.out ?_
            have HB17 := Lib.hid (HB16.out.trans (hb.mono HB16.out.size))
            clear hb
            refine Lib.hid ?_
            go_wp2_with fail
            go_ret
            exact ⟨rfl, HB17.out⟩
end Go.Proofs.Ytobaodkcjjgkdaa
namespace Go.Proofs.Ytobaodkcjjgkdaa
open Go Go.RowKit Go.ChangeShapes Go.WideShapes Go.ChangeAt

set_option maxRecDepth 100000 in
theorem open_i8s {H : Type} {enc : TypeId × Value → H} {W : World} {base : Nat} {v : Value} {d : DataW H} {p : List MemPlace} (hv : Value.okWide Try.prog W .any base 54 v) (h : DataW.Trod enc Try.prog W 0 (fun _ => true) true 54 v d p) :
    ∃ A l c, v = .slice A l.length c ∧ l.length ≤ c ∧ I8R A l W ∧ ∀ x ∈ l, -128 ≤ x ∧ x < 128 := by
  obtain ⟨A, n, c, rfl⟩ := okWide_slice Try.underlying54 hv
  obtain ⟨fuel, hf⟩ := h
  rcases Go.Deep.open_slice Try.underlying54 hf with ⟨hcs, -⟩ | ⟨a, len, cap, m, k, D, Pl, hcs, -, hle, -, hm, -, hx⟩
  · have e : A = none ∧ n = 0 ∧ c = 0 := by simpa [Value.cells] using hcs
    obtain ⟨rfl, rfl, rfl⟩ := e
    exact ⟨none, [], 0, rfl, Nat.le_refl _, fun h => absurd h (by simp), fun e he => absurd he (by simp)⟩
  · have e : A = some a ∧ n = len ∧ c = cap := by simpa [Value.cells] using hcs
    obtain ⟨rfl, rfl, rfl⟩ := e
    have hmc : m = c := by simpa using hm
    have hsz : Try.prog.cellsOf 55 = 1 := by kernel_rfl
    have each : ∀ i, i < n → ∃ x : Int, W.cell? (a.add i) = some (.int .i8 x) ∧ -128 ≤ x ∧ x < 128 := fun i hi => by
      obtain ⟨cs', h1, h2⟩ := hx i (by omega)
      rw [hsz] at h1
      obtain ⟨_, hlen, hcell⟩ := World.cells?_some h1
      match cs', hlen with
      | [v0], _ =>
        obtain ⟨z0, e0, -, w0⟩ := DataW.trod_int Try.underlying55 h2
        have c0 := hcell 0 (by omega)
        rw [Go.Deep.add_add] at c0
        injection e0 with e0
        subst e0
        exact ⟨z0, by simpa using c0, i8_wf w0⟩
    obtain ⟨l, hl, hp⟩ := list_of 0 _ n each
    refine ⟨some a, l, c, by rw [hl], by omega, fun hn => ?_, fun e he => ?_⟩
    · have hs := World.cell?_spot (hp 0 (by omega)).1
      obtain ⟨b, o, s⟩ := a
      have hs : s = none := by simpa [Addr.add] using hs
      subst hs
      refine ⟨b, o, rfl, fun j hj => ?_⟩
      have c0 := (hp j (by omega)).1
      rw [add_off] at c0
      exact c0
    · obtain ⟨i, hi, rfl⟩ := List.getElem_of_mem he
      have := (hp i (by omega)).2
      rwa [show l.getD i 0 = l[i] by simp [List.getD_eq_getElem?_getD, hi]] at this
theorem least_row (A : Option Addr) (c : Nat) (ls : List Link) (B : Option Addr) (cb : Nat) (os : List Int) (w : World) (hE : Links A ls w) (hc : ls.length ≤ c) (hw : LOk ls) (hO : I8R B os w) (hcb : os.length ≤ cb) (ho : ∀ x ∈ os, -128 ≤ x ∧ x < 128) :
    Calls Try.prog 9 #[.slice A ls.length c, .slice B os.length cb] w fun e w' => e = .returned (.bool true) ∧ Below w.heap.size w w' := least_any A B c cb ls os w hE hc hw hO hcb ho
end Go.Proofs.Ytobaodkcjjgkdaa
