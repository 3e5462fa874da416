/- slices.DeleteFunc over edges, walked. graph: valid, Under, walked. Labels that are the least of their sets, and how many there are, in plain Lean. graph: sets, Labels; dsu: Labels: walked. Built, some: walked. some, walked. Up to each weight, the forest's edges connect what all edges connect: in plain Lean. -/
import Derived.Test.YtobaodkcjjgkdaaMa11
import Derived.BigQuiet
namespace Go.Proofs.Ytobaodkcjjgkdaa
open Go Go.RowKit

/-- The edges of a list that are no heavier. -/
def lo (th : Int) (l : List Edge) : List Edge := l.filter fun e => decide (e.W ≤ th)
/-- A row of edges that is written. -/
def EO (g : Nat) (ys : List Edge) (w : World) : Prop := ∃ cur, w.heap[g]? = some (.cells cur 36 (0, 0)) ∧ ∀ j, j < ys.length → cur[j * 3]? = some (.int .i64 (ys.getD j edge0).U) ∧ cur[j * 3 + 1]? = some (.int .i64 (ys.getD j edge0).V) ∧ cur[j * 3 + 2]? = some (.int .i64 (ys.getD j edge0).W)
theorem EO.lt {g : Nat} {ys : List Edge} {w : World} (h : EO g ys w) : g < w.heap.size := by
  obtain ⟨cur, h, -⟩ := h
  exact block_lt h
theorem EO.cell {g : Nat} {ys : List Edge} {w : World} (h : EO g ys w) {j : Nat} (hj : j < ys.length) : w.cell? ⟨g, j * 3, none⟩ = some (.int .i64 (ys.getD j edge0).U) ∧ w.cell? ⟨g, j * 3 + 1, none⟩ = some (.int .i64 (ys.getD j edge0).V) ∧ w.cell? ⟨g, j * 3 + 2, none⟩ = some (.int .i64 (ys.getD j edge0).W) := by
  obtain ⟨cur, h, hc⟩ := h
  obtain ⟨h0, h1, h2⟩ := hc j hj
  exact ⟨(cells_of_block h _).trans h0, (cells_of_block h _).trans h1, (cells_of_block h _).trans h2⟩
theorem EO.frozen {g : Nat} {ys : List Edge} {w : World} (h : EO g ys w) (i : Nat) : w.frozen? ⟨g, i, none⟩ = false := by
  obtain ⟨cur, h, -⟩ := h
  exact frozen_of_block h i
theorem EO.on {g : Nat} {ys : List Edge} {w w' : World} (h : EO g ys w) {B : Nat} (hb : Below B w w') (hg : g < B) : EO g ys w' := by
  obtain ⟨cur, h, hc⟩ := h
  exact ⟨cur, (hb.block g hg).trans h, hc⟩
theorem EO.set {g : Nat} {ys : List Edge} {w : World} (h : EO g ys w) {i : Nat} (hi : i < ys.length) (x : Edge) : EO g (ys.set i x) (((w.setCell ⟨g, i * 3, none⟩ (.int .i64 x.U)).setCell ⟨g, i * 3 + 1, none⟩ (.int .i64 x.V)).setCell ⟨g, i * 3 + 2, none⟩ (.int .i64 x.W)) := by
  obtain ⟨cur, h, hc⟩ := h
  refine ⟨_, set_same (set_same (set_same h)), fun j hj => ?_⟩
  rw [List.length_set] at hj
  obtain ⟨h0, h1, h2⟩ := hc j hj
  obtain ⟨-, -, i2⟩ := hc i hi
  have hsz : i * 3 + 2 < cur.size := (Array.getElem?_eq_some_iff.1 i2).1
  by_cases e : j = i
  · subst e
    have hx : (ys.set j x).getD j edge0 = x := by simp [List.getD_eq_getElem?_getD, hi]
    rw [hx]
    simp only [Array.getElem?_setIfInBounds, Array.size_setIfInBounds]
    refine ⟨?_, ?_, ?_⟩
    · rw [if_neg (by omega), if_neg (by omega), if_pos trivial, if_pos (by omega)]
    · rw [if_neg (by omega), if_pos trivial, if_pos (by omega)]
    · rw [if_pos trivial, if_pos (by omega)]
  · have hx : (ys.set i x).getD j edge0 = ys.getD j edge0 := by simp [List.getD_eq_getElem?_getD, show ¬ i = j from fun h => e h.symm]
    rw [hx]
    simp only [Array.getElem?_setIfInBounds]
    refine ⟨?_, ?_, ?_⟩
    · rw [if_neg (by omega), if_neg (by omega), if_neg (by omega)]; exact h0
    · rw [if_neg (by omega), if_neg (by omega), if_neg (by omega)]; exact h1
    · rw [if_neg (by omega), if_neg (by omega), if_neg (by omega)]; exact h2
theorem EO.edges {g : Nat} {ys : List Edge} {w : World} (h : EO g ys w) : Edges (some ⟨g, 0, none⟩) ys w := fun _ => ⟨g, 0, rfl, fun j hj => by rw [Nat.zero_add]; exact h.cell hj⟩
theorem EO.ofOwn {w : World} {B : Nat} {v : Value} {l : List Edge} (h : w.ownsRow B 36 3 v l.length (ecells l)) : (v = .slice none 0 0 ∧ l = []) ∨ ∃ g c, v = .slice (some ⟨g, 0, none⟩) l.length c ∧ B ≤ g ∧ l.length ≤ c ∧ EO g l w := by
  rcases h.2 with ⟨rfl, hn⟩ | ⟨g, cap, cur, rfl, hg, hh, hle, -, -, ht⟩
  · exact .inl ⟨rfl, List.eq_nil_of_length_eq_zero hn⟩
  · refine .inr ⟨g, cap, rfl, hg, hle, cur, hh, fun j hj => ?_⟩
    obtain ⟨h0, h1, h2⟩ := ecells_at l j hj
    rw [← ht] at h0 h1 h2
    have at_ : ∀ i u, (cur.toList.take (l.length * 3))[i]? = some u → cur[i]? = some u := fun i u h => by
      rw [List.getElem?_take] at h
      split at h
      · simpa using h
      · simp at h
    exact ⟨at_ _ _ h0, at_ _ _ h1, at_ _ _ h2⟩
def clrS (ts : Array TypeId) (ty : TypeId) (vs : Array Value) : Sem Value := Builtin.clear_ ts ty vs
theorem clr_S (ts : Array TypeId) (ty : TypeId) (vs : Array Value) : Builtin.clear_ ts ty vs = clrS ts ty vs := rfl
/-- clear(s[i:]): edges. -/
theorem run_clr (ty : TypeId) (g o n c : Nat) (w : World) (ys : List Edge) (h : EO g ys w) (hn : 0 < n) (ho : o + n ≤ ys.length) :
    ∃ vs, (clrS #[22] ty #[.slice (some ⟨g, o * 3, none⟩) n c]).run Try.prog w = .ok (.tuple #[]) (w.setCells g (o * 3) vs) := by
  refine ⟨(Builtin.zeroCells #[.int .i64 0, .int .i64 0, .int .i64 0] n).toList, ?_⟩
  have hlen : (Builtin.zeroCells #[.int .i64 0, .int .i64 0, .int .i64 0] n).toList.length = n * 3 := by simp [Builtin.zeroCells]
  have hone : ∀ v ∈ (Builtin.zeroCells #[.int .i64 0, .int .i64 0, .int .i64 0] n).toList, v.oneCell' = true := by
    intro v hv
    simp only [Builtin.zeroCells, Array.toList_map, List.mem_map] at hv
    obtain ⟨i, -, rfl⟩ := hv
    have : i % 3 = 0 ∨ i % 3 = 1 ∨ i % 3 = 2 := by omega
    rcases this with h | h | h <;> simp [h] <;> rfl
  have hst := run_storeCells_cells (P := Try.prog) g (o * 3) (Builtin.zeroCells #[.int .i64 0, .int .i64 0, .int .i64 0] n).toList 0 w (fun j hj => by
    rw [hlen] at hj
    obtain ⟨k0, k1, k2⟩ := h.cell (j := o + j / 3) (by omega)
    rcases (by omega : o * 3 + 0 + j = (o + j / 3) * 3 ∨ o * 3 + 0 + j = (o + j / 3) * 3 + 1 ∨ o * 3 + 0 + j = (o + j / 3) * 3 + 2) with e | e | e
    · rw [e, k0]; rfl
    · rw [e, k1]; rfl
    · rw [e, k2]; rfl) (fun j _ => h.frozen _) hone
  simp only [Nat.add_zero] at hst
  have hz : ∀ w, (zeroValue 36).run Try.prog w = .ok (.agg #[.int .i64 0, .int .i64 0, .int .i64 0]) w := Try.zeroValue36
  have hc : (Value.agg #[.int .i64 0, .int .i64 0, .int .i64 0]).cells = #[.int .i64 0, .int .i64 0, .int .i64 0] := rfl
  obtain ⟨m, rfl⟩ : ∃ m, n = m + 1 := ⟨n - 1, by omega⟩
  simp [clrS, Builtin.clear_, run_underlying Try.underlying22, hz, hc, hst]
/-- What is told of the lists between rounds. -/
def DF (th : Int) (l ys : List Edge) (a b : Nat) : Prop := ys.length = l.length ∧ ys.take a = lo th (l.take b) ∧ ys.drop b = l.drop b
theorem lo_take (th : Int) {l : List Edge} {k : Nat} (h : k < l.length) : lo th (l.take (k + 1)) = lo th (l.take k) ++ if (l.getD k edge0).W ≤ th then [l.getD k edge0] else [] := by
  have e : l.getD k edge0 = l[k] := by simp [List.getD_eq_getElem?_getD, h]
  rw [List.take_succ_eq_append_getElem h, lo, List.filter_append, ← e]
  congr 1
  by_cases hw : (l.getD k edge0).W ≤ th
  · rw [if_pos hw]; exact List.filter_cons_of_pos (by simpa using hw)
  · rw [if_neg hw]; exact List.filter_cons_of_neg (by simpa using hw)
theorem lo_all {th : Int} : ∀ {l : List Edge}, (∀ j, j < l.length → (l.getD j edge0).W ≤ th) → lo th l = l := fun {l} h => List.filter_eq_self.2 fun x hx => by
  obtain ⟨j, hj, rfl⟩ := List.mem_iff_getElem.1 hx
  have := h j hj
  rw [show l.getD j edge0 = l[j] by simp [List.getD_eq_getElem?_getD, hj]] at this
  simpa using this
theorem DF.start {th : Int} {l : List Edge} {i : Nat} (hi : i < l.length) (h1 : th < (l.getD i edge0).W) (h2 : ∀ j, j < i → (l.getD j edge0).W ≤ th) : DF th l l i (i + 1) := by
  refine ⟨rfl, ?_, rfl⟩
  rw [lo_take th hi, if_neg (by omega), List.append_nil]
  exact (lo_all fun j hj => by
    rw [List.length_take] at hj
    have : (l.take i).getD j edge0 = l.getD j edge0 := by simp [List.getD_eq_getElem?_getD, show j < i by omega]
    rw [this]
    exact h2 j (by omega)).symm
theorem DF.at {th : Int} {l ys : List Edge} {a b : Nat} (h : DF th l ys a b) : ys.getD b edge0 = l.getD b edge0 := by
  have := congrArg (fun r => r[0]?) h.2.2
  simpa [List.getD_eq_getElem?_getD] using congrArg (fun o => o.getD edge0) this
theorem DF.keep {th : Int} {l ys : List Edge} {a b : Nat} (h : DF th l ys a b) (hab : a < b) (hb : b < l.length) (hw : (l.getD b edge0).W ≤ th) : DF th l (ys.set a (l.getD b edge0)) (a + 1) (b + 1) := by
  obtain ⟨h0, h1, h2⟩ := h
  have ha : a < ys.length := by omega
  refine ⟨by rw [List.length_set]; exact h0, ?_, ?_⟩
  · rw [lo_take th hb, if_pos hw, ← h1, List.take_succ_eq_append_getElem (by rw [List.length_set]; exact ha), List.take_set_of_le (Nat.le_refl a), List.getElem_set_self]
  · rw [List.drop_set_of_lt (by omega)]
    have := congrArg (List.drop 1) h2
    rwa [List.drop_drop, List.drop_drop] at this
theorem DF.skip {th : Int} {l ys : List Edge} {a b : Nat} (h : DF th l ys a b) (hb : b < l.length) (hw : ¬ (l.getD b edge0).W ≤ th) : DF th l ys a (b + 1) := by
  obtain ⟨h0, h1, h2⟩ := h
  refine ⟨h0, ?_, ?_⟩
  · rw [lo_take th hb, if_neg hw, List.append_nil]; exact h1
  · have := congrArg (List.drop 1) h2
    rwa [List.drop_drop, List.drop_drop] at this
theorem DF.done {th : Int} {l ys : List Edge} {a : Nat} (h : DF th l ys a l.length) : ys.take a = lo th l := by
  have := h.2.1
  rwa [List.take_length] at this
/-- What is left reads. -/
theorem EO.clr {g : Nat} {ys : List Edge} {w : World} (h : EO g ys w) (a : Nat) (ha : a ≤ ys.length) (vs : List Value) : Edges (some ⟨g, 0, none⟩) (ys.take a) (w.setCells g (a * 3) vs) := fun _ => ⟨g, 0, rfl, fun j hj => by
  rw [List.length_take] at hj
  obtain ⟨k0, k1, k2⟩ := h.cell (j := j) (by omega)
  have e : (ys.take a).getD j edge0 = ys.getD j edge0 := by simp [List.getD_eq_getElem?_getD, show j < a by omega]
  rw [e, Nat.zero_add]
  have out : ∀ i, i < a * 3 → (w.setCells g (a * 3) vs).cell? ⟨g, i, none⟩ = w.cell? ⟨g, i, none⟩ := fun i hi => World.cell?_setCells_out g vs (a * 3) w ⟨g, i, none⟩ (fun _ _ => .inl hi)
  exact ⟨(out _ (by omega)).trans k0, (out _ (by omega)).trans k1, (out _ (by omega)).trans k2⟩⟩
attribute [local go_sem ↓] clr_S
set_option maxRecDepth 1000000 in
set_option maxHeartbeats 4000000 in
theorem delete_any (th : Int) (pt B : Nat) (v : Value) (l : List Edge) (w : World) (hO : w.ownsRow B 36 3 v l.length (ecells l)) (hB : B ≤ w.heap.size) (hp : pt < B) (hl : l.length ≤ 1000000) (hc : w.cell? ⟨pt, 0, none⟩ = some (.int .i64 th)) :
    Calls Try.prog 50 #[v, ovF pt] w fun e w' => ∃ A c, e = .returned (.slice A (lo th l).length c) ∧ Edges A (lo th l) w' ∧ Below B w w' := by
  have HC := Lib.hid hc
  have l1 : (l.length : Int) ≤ 1000000 := by omega
  rcases EO.ofOwn hO with ⟨rfl, rfl⟩ | ⟨g, c, rfl, hg, hle, hE⟩
  · have HI := Lib.hid (index_any th pt none 0 [] w (fun h => absurd h (Nat.lt_irrefl 0)) (by decide) hc)
    clear hc hO
    go_enter Try.func50, Try.ntmps50
    go_wp2_with fail
    refine HI.out.mono ?_
    rintro e w1 ⟨⟨r, rfl, hr⟩, hb⟩
    refine Hid.out ?_
    have hr1 : r = -1 := by
      rcases hr with ⟨h, -⟩ | ⟨i, -, h, -⟩
      · exact h
      · simp at h
    subst hr1
    have HB := Lib.hid (hb.mono hB)
    clear hb hr
    refine Lib.hid ?_
    go_wp2_with fail
    go_ret
    exact ⟨none, 0, rfl, fun h => absurd h (Nat.lt_irrefl 0), HB.out⟩
  · have HI := Lib.hid (index_any th pt (some ⟨g, 0, none⟩) c l w hE.edges hl hc)
    have HE := Lib.hid hE
    have c1 : (l.length : Int) ≤ c := by omega
    clear hc hO hE
    go_enter Try.func50, Try.ntmps50
    go_wp2_with fail
    refine HI.out.mono ?_
    rintro e w1 ⟨⟨r, rfl, hr⟩, hb⟩
    refine Hid.out ?_
    have HE1 := Lib.hid (HE.out.on hb HE.out.lt)
    have HC1 : Hid (w1.cell? ⟨pt, 0, none⟩ = some (.int .i64 th)) := Lib.hid ((hb.cell (p := ⟨pt, 0, none⟩) (World.block_lt_of_cell? w _ HC.out)).trans HC.out)
    have HB := Lib.hid (hb.mono hB)
    have hB1 : B ≤ w1.heap.size := Nat.le_trans hB hb.size
    clear hb
    rcases hr with ⟨rfl, hall⟩ | ⟨i, rfl, hil, hi1, hi2⟩
    · have HL := Lib.hid (lo_all hall)
      clear hall
      refine Lib.hid ?_
      go_wp2_with fail
      go_ret
      exact ⟨some ⟨g, 0, none⟩, c, by rw [HL.out]; rfl, by rw [HL.out]; exact HE1.out.edges, HB.out⟩
    · have HD := Lib.hid (DF.start hil hi1 hi2)
      have hne1 : ((i : Int) == -1) = false := beq_eq_false_iff_ne.2 (by omega)
      clear hi1 hi2
      refine Lib.hid ?_
      go_wp2_with fail
      go_loopw [5, 6] (fun x y wr => ∃ a b : Nat, a < b ∧ b ≤ l.length ∧ x = .int .i64 a ∧ y = .int .i64 b ∧ ∃ ys, EO g ys wr ∧ Hid (DF th l ys a b) ∧ Below B w1 wr) (fun _ y _ => l.length - (intOf y).toNat)
      case atStart => exact ⟨i, i + 1, by omega, by omega, by go_num, by go_num, l, HE1.out, HD, Below.refl _ _⟩
      case round =>
        obtain ⟨a, b, hab, hbl, rfl, rfl, ys, hE, hD, hb⟩ := hrel
        by_cases hlt : b < l.length
        · have hlt1 : (b : Int) < l.length := by omega
          have hyl := hD.out.1
          obtain ⟨ku, kv, kw⟩ := hE.cell (j := b) (by omega)
          have hat := hD.out.at
          rw [hat] at ku kv kw
          have HX := Lib.hid (show ∃ X, l.getD b edge0 = X from ⟨_, rfl⟩)
          obtain ⟨X, hX⟩ := HX.out
          have HXE := Lib.hid hX
          rw [hX] at ku kv kw
          have al1 : (a : Int) < l.length := by omega
          have HE2 := Lib.hid hE; have HB2 := Lib.hid hb
          have HC2 := Lib.hid ((hb.cell (p := ⟨pt, 0, none⟩) hp).trans HC1.out)
          have hgw := hE.lt
          clear hE hb hX HX hat hyl
          go_wp2_with fail
          refine (under1_any th pt X _ ?uc).mono ?_
          case uc => exact (World.cell?_of_block (w := wr) (Below.heap_alloc wr _ pt (World.block_lt_of_cell? wr _ HC2.out))).trans HC2.out
          rintro e w2 ⟨rfl, hb2⟩
          refine Hid.out ?_
          have hb1 : Below wr.heap.size wr w2 := ((Below.refl _ _).alloc (Nat.le_refl _) _).trans (hb2.mono (by show wr.heap.size ≤ (wr.heap.push _).size; simp))
          have hnew : w2.heap[wr.heap.size]? = some (.cells #[.int .i64 X.U, .int .i64 X.V, .int .i64 X.W] 36 (0, 0)) := (hb2.block wr.heap.size (by show wr.heap.size < (wr.heap.push _).size; simp)).trans (block_new _ _ _ rfl)
          have ck0 : w2.cell? ⟨wr.heap.size, 0, none⟩ = some (.int .i64 X.U) := cells_of_block hnew 0
          have ck1 : w2.cell? ⟨wr.heap.size, 1, none⟩ = some (.int .i64 X.V) := cells_of_block hnew 1
          have ck2 : w2.cell? ⟨wr.heap.size, 2, none⟩ = some (.int .i64 X.W) := cells_of_block hnew 2
          have hE3 := HE2.out.on hb1 hgw
          have HE3 := Lib.hid hE3
          have HB3 := Lib.hid (HB2.out.trans (hb1.mono (Nat.le_trans hB1 HB2.out.size)))
          clear hb2 hb1 hnew ku kv kw
          by_cases hw : th < X.W
          · have hd : decide (th < X.W) = true := decide_eq_true hw
            have HS : Hid (DF th l ys a (b + 1)) := Lib.hid (hD.out.skip hlt (by rw [HXE.out]; omega))
            clear hw hE3
            refine Lib.hid ?_
            go_wp2_with fail
            go_roundw
            case rel => exact ⟨a, b + 1, by omega, by omega, by go_num, by go_num, ys, HE3.out, HS, HB3.out⟩
            case measure => simp [intOf]; omega
          · have hd : decide (th < X.W) = false := decide_eq_false hw
            have HS : Hid (DF th l (ys.set a X) (a + 1) (b + 1)) := Lib.hid (by
              have := hD.out.keep hab hlt (by rw [HXE.out]; omega)
              rwa [HXE.out] at this)
            have hya : a < ys.length := by rw [hD.out.1]; omega
            obtain ⟨d0, d1, d2⟩ := hE3.cell (j := a) hya
            have f0 := hE3.frozen (a * 3); have f1 := hE3.frozen (a * 3 + 1); have f2 := hE3.frozen (a * 3 + 2)
            generalize (ys.getD a edge0).U = o0 at d0
            generalize (ys.getD a edge0).V = o1 at d1
            generalize (ys.getD a edge0).W = o2 at d2
            clear hw hE3
            refine Lib.hid ?_
            go_wp2_with fail
            go_roundw
            case rel => exact ⟨a + 1, b + 1, by omega, by omega, by go_num, by go_num, _, HE3.out.set hya X, HS, ((HB3.out.setCell (p := ⟨g, a * 3, none⟩) hg _).setCell (p := ⟨g, a * 3 + 1, none⟩) hg _).setCell (p := ⟨g, a * 3 + 2, none⟩) hg _⟩
            case measure => simp [intOf]; omega
        · have hbb : b = l.length := by omega
          subst hbb
          have hyl := hD.out.1
          have al1 : (a : Int) < l.length := by omega
          have ac1 : (a : Int) < c := by omega
          have HT : Hid (Edges (some ⟨g, 0, none⟩) (lo th l) wr → True) := Lib.hid fun _ => trivial
          have HE2 := Lib.hid hE; have HB2 := Lib.hid hb
          obtain ⟨vs, hvs⟩ : ∃ vs, ∀ ty, (clrS #[22] ty #[.slice (some ⟨g, a * 3, none⟩) (l.length - a) (c - a)]).run Try.prog wr = .ok (.tuple #[]) (wr.setCells g (a * 3) vs) := by
            obtain ⟨vs, h⟩ := run_clr 0 g a (l.length - a) (c - a) wr ys hE (by omega) (by omega)
            exact ⟨vs, fun _ => h⟩
          have HF := Lib.hid (hE.clr a (by omega) vs)
          have HD2 := hD.out.done
          have hlen : (lo th l).length = a := by rw [← HD2, List.length_take]; omega
          rw [HD2] at HF
          have HL := Lib.hid hlen
          clear hE hb HT HD2 hlen hD hyl
          go_wp2_with fail
          go_ret
          exact ⟨some ⟨g, 0, none⟩, c, by rw [HL.out]; rfl, HF.out, HB.out.trans (Lib.below_setCells g hg vs _ HB2.out)⟩
end Go.Proofs.Ytobaodkcjjgkdaa
namespace Go.Proofs.Ytobaodkcjjgkdaa
open Go Go.RowKit

theorem Grf.lt {n : Nat} {l : List Edge} {gp : Nat} {w : World} (h : Grf n l gp w) : gp < w.heap.size := by
  obtain ⟨B, c, fv, ev, h, -⟩ := h
  exact block_lt h
theorem Grf.on {n : Nat} {l : List Edge} {gp : Nat} {w w' : World} (h : Grf n l gp w) (hb : Below w.heap.size w w') : Grf n l gp w' := by
  obtain ⟨B, c, fv, ev, h, hE⟩ := h
  exact ⟨B, c, fv, ev, (hb.block gp (block_lt h)).trans h, hE.on hb⟩
set_option maxRecDepth 100000 in
theorem valid_any (n : Nat) (l : List Edge) (gp : Nat) (w : World) (h : Grf n l gp w) :
    Calls Try.prog 49 #[.pointer (some ⟨gp, 0, none⟩)] w fun e w' => e = .returned (.bool true) ∧ Below w.heap.size w w' := by
  obtain ⟨B, c, fv, ev, h, -⟩ := h
  have c0 : w.cell? ⟨gp, 0, none⟩ = some (.bool true) := cells_of_block h 0
  clear h
  go_enter Try.func49, Try.ntmps49
  go_wp2
  go_ret
  exact ⟨rfl, Below.refl _ _⟩
theorem lo_len (th : Int) (l : List Edge) : (lo th l).length ≤ l.length := List.length_filter_le _ _
theorem Vld.lo {n : Nat} {l : List Edge} (h : Vld n l) (th : Int) : Vld n (lo th l) := fun e he => h e ((List.mem_filter.1 he).1)

set_option maxRecDepth 1000000 in
set_option maxHeartbeats 8000000 in
theorem under_any (n : Nat) (hn : n ≤ 4096) (l : List Edge) (th : Int) (gp : Nat) (w : World) (h : Grf n l gp w) (hv : Vld n l) (hl : l.length ≤ 16384) :
    Calls Try.prog 27 #[.pointer (some ⟨gp, 0, none⟩), .int .i64 th] w fun e w' => ∃ gp', e = .returned (.pointer (some ⟨gp', 0, none⟩)) ∧ w.heap.size ≤ gp' ∧ Grf n (lo th l) gp' w' ∧ Below w.heap.size w w' := by
  have HV := Lib.hid hv
  obtain ⟨W0, hW0⟩ : ∃ W0, W0 = w.alloc (.cells #[.int .i64 th] 2) := ⟨_, rfl⟩
  have hb0 : Below w.heap.size w W0 := hW0 ▸ (Below.refl _ _).alloc (Nat.le_refl _) _
  have hsz : W0.heap.size = w.heap.size + 1 := by rw [hW0]; show (w.heap.push _).size = _; simp
  have hbox : W0.cell? ⟨w.heap.size, 0, none⟩ = some (.int .i64 th) := by rw [hW0]; exact cells_of_block (block_new _ _ _ rfl) 0
  have h1 := h.on hb0
  obtain ⟨pt, hpt⟩ : ∃ pt, pt = w.heap.size := ⟨_, rfl⟩
  have HVA := Lib.hid (valid_any n l gp W0 h1)
  have HB0 := Lib.hid hb0; have HBX := Lib.hid hbox; have HH := Lib.hid h1
  clear hv h h1 hb0 hbox
  go_enter Try.func27, Try.ntmps27
  go_wp2_with fail
  rw [← hW0]
  refine HVA.out.mono ?_
  rintro e w1 ⟨rfl, hb⟩
  refine Hid.out ?_
  have HH1 := Lib.hid (HH.out.on hb)
  have HB1 := Lib.hid (HB0.out.trans (hb.mono HB0.out.size))
  have hsz1 : w.heap.size < w1.heap.size := by have := hb.size; omega
  have HBX1 : Hid (w1.cell? ⟨w.heap.size, 0, none⟩ = some (.int .i64 th)) := Lib.hid ((hb.cell (p := ⟨w.heap.size, 0, none⟩) (by show w.heap.size < _; omega)).trans HBX.out)
  obtain ⟨B, c, fv, ev, hg, hE⟩ := HH1.out
  have c1 : w1.cell? ⟨gp, 1, none⟩ = some (.int .i64 n) := cells_of_block hg 1
  have c2 : w1.cell? ⟨gp, 2, none⟩ = some (.slice B l.length c) := cells_of_block hg 2
  have hgl := block_lt hg
  have HE := Lib.hid hE
  clear hb hE hg HVA HH HB0 HBX
  refine Lib.hid ?_
  go_wp2_with fail
  go_region_held3 (fun W => W.cell? ⟨gp, 1, none⟩ = some (.int .i64 n) ∧ W.cell? ⟨gp, 2, none⟩ = some (.slice B l.length c)) (first | go_keep)
    (first
      | (go_at_call 48; refine (clone_own B c l _ (HE.out.on (Below.refl _ _).drew) (by omega)).mono ?_; rintro e w2 ⟨v2, rfl, ho2, hb2⟩; have q1 := (hb2.cell (p := ⟨gp, 1, none⟩) hgl).trans c1; have q2 := (hb2.cell (p := ⟨gp, 2, none⟩) hgl).trans c2; have HO2 := Lib.hid ho2; have HB2 := Lib.hid ((Below.refl w1.heap.size w1).drew.trans hb2); have z2 : w1.heap.size ≤ w2.heap.size := hb2.size; clear ho2 hb2)
      | (go_at_call 50; refine (delete_any th w.heap.size w1.heap.size v2 l _ HO2.out z2 hsz1 (by omega) ((HB2.out.cell (p := ⟨w.heap.size, 0, none⟩) hsz1).trans HBX1.out)).mono ?_; rintro e w3 ⟨A3, c3, rfl, hE3, hb3⟩; have r1 := (hb3.cell (p := ⟨gp, 1, none⟩) hgl).trans q1; have r2 := (hb3.cell (p := ⟨gp, 2, none⟩) hgl).trans q2; have HE3 := Lib.hid hE3; have HB3 := Lib.hid hb3; have z3 : w2.heap.size ≤ w3.heap.size := hb3.size; clear hE3 hb3)
      | (go_at_call 47; refine (build_any n hn A3 c3 (lo th l) _ HE3.out (HV.out.lo th) (by have := lo_len th l; omega)).mono ?_; rintro e w4 ⟨gp4, fv4, ev4, rfl, hg4, hl4, hb4⟩; have s1 := (hb4.cell (p := ⟨gp, 1, none⟩) (show gp < w3.heap.size by omega)).trans r1; have s2 := (hb4.cell (p := ⟨gp, 2, none⟩) (show gp < w3.heap.size by omega)).trans r2; have HG4 := Lib.hid hg4; have HL4 := Lib.hid hl4; have HB4 := Lib.hid hb4; clear hg4 hl4 hb4))
  all_goals
    go_wp2_with fail
    go_ret
    exact ⟨gp4, rfl, Nat.le_trans (by omega) HL4.out, ⟨A3, c3, fv4, ev4, HG4.out, HE3.out.on HB4.out⟩, HB1.out.trans ((HB2.out.trans (HB3.out.trans (HB4.out.mono (by omega)))).mono (by omega))⟩
end Go.Proofs.Ytobaodkcjjgkdaa
namespace Go.Proofs.Ytobaodkcjjgkdaa
open Go

namespace Hp
variable {F G : List (Nat × Nat)}
theorem LabF.skip {n : Nat} {K : List Int} (h : LabF n F K) {u v : Nat} (hu : u < n) (hv : v < n) (he : St.v K u = St.v K v) : LabF n (F ++ [(u, v)]) K := by
  refine ⟨h.1, fun x y hx hy => ?_⟩
  have c := (h.2 u v hu hv).1 he
  rw [h.2 x y hx hy, conn_app_iff]
  constructor
  · exact .inl
  · rintro (a | a | a)
    · exact a
    · exact a.1.trans (c.trans a.2)
    · exact a.1.trans (c.symm.trans a.2)
/-- Labels after all edges of a list. -/
theorem growK_lab {n : Nat} {l : List Edge} (hv : Vld n l) : ∀ (os K : List Int) (F : List (Nat × Nat)), (∀ x ∈ os, 0 ≤ x ∧ x < l.length) → LabF n F K → LabF n (F ++ os.map (ends l)) (growK l os K)
  | [], _, _, _, h => by rw [List.map_nil, List.append_nil]; exact h
  | i :: r, K, F, ho, h => by
    have hi := ends_lt hv (ho i (by simp))
    have hr := fun x hx => ho x (List.mem_cons_of_mem i hx)
    rw [growK]
    have e : F ++ (i :: r).map (ends l) = (F ++ [ends l i]) ++ r.map (ends l) := by simp
    rw [e]
    split
    · rename_i he
      exact growK_lab hv r K _ hr (h.skip hi.1 hi.2 he)
    · exact growK_lab hv r _ _ hr (h.join hi.1 hi.2)
/-- Labels each of which is the least of its set. -/
def Can (n : Nat) (K : List Int) : Prop := K.length = n ∧ ∀ x, x < n → ∃ m : Nat, St.v K x = m ∧ m ≤ x ∧ St.v K m = m
theorem Can.iota (n : Nat) : Can n (Uf.iota n) := ⟨Uf.iota_length n, fun x hx => ⟨x, Uf.v_iota hx, Nat.le_refl _, Uf.v_iota hx⟩⟩
theorem Can.join {n : Nat} {K : List Int} (h : Can n K) {u v : Nat} (hu : u < n) (hv : v < n) : Can n (Uf.joined K u v) := by
  refine ⟨by rw [joined_len, h.1], fun x hx => ?_⟩
  obtain ⟨a, a1, a2, a3⟩ := h.2 u hu
  obtain ⟨b, b1, b2, b3⟩ := h.2 v hv
  obtain ⟨m, m1, m2, m3⟩ := h.2 x hx
  have val : ∀ z, z < n → St.v (Uf.joined K u v) z = if St.v K z = max (a : Int) b then min (a : Int) b else St.v K z := fun z hz => by
    unfold Uf.joined
    rw [Uf.v_map _ _ (by rw [h.1]; exact hz), a1, b1]
  by_cases e : St.v K x = max (a : Int) b
  · refine ⟨min a b, ?_, by omega, ?_⟩
    · rw [val x hx, if_pos e]; omega
    · rw [val _ (by omega)]
      rcases Nat.le_total a b with hab | hab
      · rw [Nat.min_eq_left hab, a3]
        split <;> omega
      · rw [Nat.min_eq_right hab, b3]
        split <;> omega
  · refine ⟨m, ?_, m2, ?_⟩
    · rw [val x hx, if_neg e, m1]
    · rw [val m (by omega), m3, if_neg (by rw [← m1]; exact e)]
theorem growK_can {n : Nat} {l : List Edge} (hv : Vld n l) : ∀ (os K : List Int), (∀ x ∈ os, 0 ≤ x ∧ x < l.length) → Can n K → Can n (growK l os K)
  | [], _, _, h => h
  | i :: r, K, ho, h => by
    have hi := ends_lt hv (ho i (by simp))
    have hr := fun x hx => ho x (List.mem_cons_of_mem i hx)
    rw [growK]
    split
    · exact growK_can hv r K hr h
    · exact growK_can hv r _ hr (h.join hi.1 hi.2)
/-- Such labels are told by the sets. -/
theorem Can.eq {n : Nat} {K K' : List Int} (h : Can n K) (h' : Can n K') (hs : ∀ x y, x < n → y < n → (St.v K x = St.v K y ↔ St.v K' x = St.v K' y)) : K = K' := by
  have le : ∀ {K K' : List Int}, Can n K → Can n K' → (∀ x y, x < n → y < n → (St.v K x = St.v K y ↔ St.v K' x = St.v K' y)) → ∀ x, x < n → St.v K' x ≤ St.v K x := fun {K K'} h h' hs x hx => by
    obtain ⟨m, m1, m2, m3⟩ := h.2 x hx
    obtain ⟨p, p1, p2, p3⟩ := h'.2 m (by omega)
    have := (hs x m hx (by omega)).1 (by rw [m1, m3])
    rw [this, p1, m1]
    omega
  apply List.ext_getElem
  · rw [h.1, h'.1]
  · intro i h1 h2
    have hi : i < n := by rw [← h.1]; exact h1
    have a := le h h' hs i hi
    have b := le h' h (fun x y hx hy => (hs x y hx hy).symm) i hi
    rw [show St.v K i = K[i] from St.getD_at h1, show St.v K' i = K'[i] from St.getD_at h2] at *
    omega
/-- How many sets there are. -/
def roots (K : List Int) (n : Nat) : Nat := ((List.range n).filter fun x => decide (St.v K x = x)).length
theorem count_one {α : Type} [DecidableEq α] (p q : α → Bool) (a : α) : ∀ l : List α, l.Nodup → a ∈ l → p a = true → q a = false → (∀ x ∈ l, x ≠ a → q x = p x) → (l.filter p).length = (l.filter q).length + 1
  | [], _, h, _, _, _ => by simp at h
  | b :: r, hn, hm, hp, hq, ho => by
    obtain ⟨n1, n2⟩ := List.nodup_cons.1 hn
    by_cases e : b = a
    · subst e
      rw [List.filter_cons_of_pos hp, List.filter_cons_of_neg (by simp [hq]), List.length_cons]
      congr 2
      exact (List.filter_congr fun x hx => ho x (List.mem_cons_of_mem _ hx) (fun e => n1 (e ▸ hx))).symm
    · have hm' : a ∈ r := by
        rcases List.mem_cons.1 hm with h | h
        · exact absurd h.symm e
        · exact h
      have ih := count_one p q a r n2 hm' hp hq (fun x hx => ho x (List.mem_cons_of_mem _ hx))
      have hb := ho b (by simp) e
      by_cases hpb : p b = true
      · rw [List.filter_cons_of_pos hpb, List.filter_cons_of_pos (by rw [hb]; exact hpb), List.length_cons, List.length_cons, ih]
      · rw [List.filter_cons_of_neg hpb, List.filter_cons_of_neg (by rw [hb]; exact hpb), ih]
theorem roots_join {n : Nat} {K : List Int} (h : Can n K) {u v : Nat} (hu : u < n) (hv : v < n) (hne : St.v K u ≠ St.v K v) : roots K n = roots (Uf.joined K u v) n + 1 := by
  obtain ⟨a, a1, a2, a3⟩ := h.2 u hu
  obtain ⟨b, b1, b2, b3⟩ := h.2 v hv
  have hab : a ≠ b := fun e => hne (by rw [a1, b1, e])
  have val : ∀ z, z < n → St.v (Uf.joined K u v) z = if St.v K z = max (a : Int) b then min (a : Int) b else St.v K z := fun z hz => by
    unfold Uf.joined
    rw [Uf.v_map _ _ (by rw [h.1]; exact hz), a1, b1]
  have hM : St.v K (max a b) = (max a b : Nat) := by
    rcases Nat.le_total a b with hab | hab
    · rw [Nat.max_eq_right hab, b3]
    · rw [Nat.max_eq_left hab, a3]
  refine count_one _ _ (max a b) _ List.nodup_range (List.mem_range.2 (by omega)) ?_ ?_ fun x hx hxM => ?_
  · rw [decide_eq_true_eq]; exact hM
  · rw [decide_eq_false_iff_not, val _ (by omega), if_pos (by rw [hM]; omega)]
    omega
  · have hxn := List.mem_range.1 hx
    rw [val x hxn]
    by_cases e : St.v K x = max (a : Int) b
    · rw [if_pos e, e]
      obtain ⟨m, m1, m2, m3⟩ := h.2 x hxn
      have : x ≠ max a b := hxM
      rw [decide_eq_decide]
      omega
    · rw [if_neg e]
theorem roots_iota (n : Nat) : roots (Uf.iota n) n = n := by
  unfold roots
  rw [List.filter_eq_self.2 (fun x hx => by rw [decide_eq_true_eq]; exact Uf.v_iota (List.mem_range.1 hx)), List.length_range]
theorem grow_count {n : Nat} {l : List Edge} (hv : Vld n l) : ∀ (os K : List Int), (∀ x ∈ os, 0 ≤ x ∧ x < l.length) → Can n K → (growD l os K).length + roots (growK l os K) n = roots K n
  | [], K, _, _ => by simp [growD, growK]
  | i :: r, K, ho, h => by
    have hi := ends_lt hv (ho i (by simp))
    have hr := fun x hx => ho x (List.mem_cons_of_mem i hx)
    rw [growD, growK]
    split
    · exact grow_count hv r K hr h
    · rename_i hne
      have := grow_count hv r _ hr (h.join hi.1 hi.2)
      rw [List.length_cons, roots_join h hi.1 hi.2 hne]
      omega
/-- The edges that are accepted, and the sets that are left, are as many as the vertices. -/
theorem acc_count {n : Nat} {l : List Edge} (hv : Vld n l) (os : List Int) (ho : ∀ x ∈ os, 0 ≤ x ∧ x < l.length) : (accF n l os).length + roots (growK l os (Uf.iota n)) n = n := by
  unfold accF
  rw [growF_eq, List.nil_append]
  have := grow_count hv os (Uf.iota n) ho (Can.iota n)
  rw [roots_iota] at this
  exact this
/-- Edges of a list connect what those of a greater one connect. -/
theorem Conn.sub {E : Nat → Prop} {x y : Nat} (h : Conn F E x y) (hs : ∀ (k c d : Nat), E k → F[k]? = some (c, d) → ∃ k' : Nat, G[k']? = some (c, d)) : Conn G (fun _ => True) x y := by
  induction h with
  | refl => exact .refl _
  | snoc _ e j ih =>
    rcases j with j | j
    · obtain ⟨k', hk⟩ := hs _ _ _ e j
      exact .snoc ih trivial (.inl hk)
    · obtain ⟨k', hk⟩ := hs _ _ _ e j
      exact .snoc ih trivial (.inr hk)
theorem Conn.subset {x y : Nat} (h : Conn F (fun _ => True) x y) (hs : ∀ e ∈ F, e ∈ G) : Conn G (fun _ => True) x y :=
  h.sub fun _ _ _ _ hk => List.mem_iff_getElem?.1 (hs _ (List.mem_of_getElem? hk))
/-- As many sets, and none of one list is parted by the other: they are the same. -/
theorem same_of_count {n : Nat} {K K' : List Int} (h : Can n K) (h' : Can n K') (hs : ∀ x y, x < n → y < n → St.v K x = St.v K y → St.v K' x = St.v K' y) (hc : roots K n = roots K' n) : K = K' := by
  have sub : ∀ x, x < n → St.v K' x = x → St.v K x = x := fun x hx e => by
    obtain ⟨m, m1, m2, m3⟩ := h.2 x hx
    have := hs x m hx (by omega) (by rw [m1, m3])
    obtain ⟨p, p1, p2, p3⟩ := h'.2 m (by omega)
    rw [e, p1] at this
    have : m = x := by omega
    rw [m1, this]
  have both : ∀ x, x < n → St.v K x = x → St.v K' x = x := by
    intro x hx e
    refine Classical.byContradiction fun hne => ?_
    have hlt : roots K' n < roots K n := by
      unfold roots
      have h1 : ((List.range n).filter fun x => decide (St.v K' x = x)).length = (((List.range n).filter fun x => decide (St.v K x = x)).filter fun x => decide (St.v K' x = x)).length := by
        rw [List.filter_filter]
        congr 1
        refine List.filter_congr fun y hy => ?_
        by_cases hy' : St.v K' y = y
        · rw [decide_eq_true hy', decide_eq_true (sub y (List.mem_range.1 hy) hy')]; rfl
        · rw [decide_eq_false hy']; rfl
      rw [h1]
      refine Nat.lt_of_le_of_ne (List.length_filter_le _ _) fun e' => ?_
      have := List.length_filter_eq_length_iff.1 e' x (List.mem_filter.2 ⟨List.mem_range.2 hx, by simpa using e⟩)
      exact hne (by simpa using this)
    omega
  refine h.eq h' fun x y hx hy => ⟨hs x y hx hy, fun e => ?_⟩
  have key : ∀ z, z < n → St.v K' z = St.v K z := fun z hz => by
    obtain ⟨m, m1, m2, m3⟩ := h.2 z hz
    have e1 := hs z m hz (by omega) (by rw [m1, m3])
    have e2 := both m (by omega) m3
    rw [e1, e2, m1]
  rw [← key x hx, ← key y hy]
  exact e
end Hp
end Go.Proofs.Ytobaodkcjjgkdaa
namespace Go.Proofs.Ytobaodkcjjgkdaa
open Go Go.RowKit

/-- The labels of a list's edges. -/
def labK (n : Nat) (l : List Edge) : List Int := Hp.growK l (Uf.iota l.length) (Uf.iota n)
theorem labK_len {n : Nat} {l : List Edge} (hv : Vld n l) : (labK n l).length = n :=
  (Hp.growK_can hv _ _ (fun x hx => by
    obtain ⟨i, hi, rfl⟩ := List.mem_map.1 hx
    have := List.mem_range.1 hi
    exact ⟨Int.natCast_nonneg i, by show (i : Int) < _; omega⟩) (Hp.Can.iota n)).1
theorem iota_drop {m k : Nat} (h : k < m) : (Uf.iota m).drop k = (k : Int) :: (Uf.iota m).drop (k + 1) := by
  have hl : k < (Uf.iota m).length := by rw [Uf.iota_length]; exact h
  rw [List.drop_eq_getElem_cons hl]
  congr 1
  simp [Uf.iota]

set_option maxRecDepth 1000000 in
set_option maxHeartbeats 8000000 in
theorem sets_any (n : Nat) (hn : n ≤ 4096) (h0 : 0 < n) (l : List Edge) (gp : Nat) (w : World) (h : Grf n l gp w) (hv : Vld n l) (hl : l.length ≤ 16384) :
    Calls Try.prog 52 #[.pointer (some ⟨gp, 0, none⟩)] w fun e w' => ∃ P : Pl, e = .returned (.pointer (some ⟨P.sp, 0, none⟩)) ∧ Sets P n (labK n l) w' ∧ (w.heap.size ≤ P.sp ∧ w.heap.size ≤ P.gu ∧ w.heap.size ≤ P.gs ∧ w.heap.size ≤ P.gl) ∧ Below w.heap.size w w' := by
  have HVA := Lib.hid (valid_any n l gp w h)
  have HV := Lib.hid hv; have HH := Lib.hid h
  have l1 : (l.length : Int) ≤ 16384 := by omega
  clear hv h
  go_enter Try.func52, Try.ntmps52
  go_wp2_with fail
  refine HVA.out.mono ?_
  rintro e w1 ⟨rfl, hb⟩
  refine Hid.out ?_
  obtain ⟨B, c, fv, ev, hg, hE⟩ := HH.out.on hb
  have c1 : w1.cell? ⟨gp, 1, none⟩ = some (.int .i64 n) := cells_of_block hg 1
  have c2 : w1.cell? ⟨gp, 2, none⟩ = some (.slice B l.length c) := cells_of_block hg 2
  have hgl := block_lt hg
  have HE := Lib.hid hE; have HB1 := Lib.hid hb
  have hs1 := hb.size
  clear hb hE hg HVA HH
  refine Lib.hid ?_
  go_wp2_with fail
  refine (dnew_any n (by omega) w1).mono ?_
  rintro e w2 ⟨sp, rfl, hb, hsp, hP⟩
  refine Hid.out ?_
  obtain ⟨P, rfl, p1, p2, p3, hS⟩ := hP h0
  have d2 : w2.cell? ⟨gp, 2, none⟩ = some (.slice B l.length c) := (hb.cell (p := ⟨gp, 2, none⟩) hgl).trans c2
  have HB := Lib.hid (HB1.out.trans (hb.mono hs1)); have HS := Lib.hid hS; have HE2 := Lib.hid (HE.out.on hb)
  have hs2 := hb.size
  have HBb := Lib.hid hb
  clear hb hS hP c1 c2
  refine Lib.hid ?_
  go_wp2_with fail
  go_loopw [23] (fun x wr => ∃ k : Nat, k ≤ l.length ∧ x = .int .i64 k ∧ ∃ K, Hid (Hp.growK l ((Uf.iota l.length).drop k) K = labK n l) ∧ Sets P n K wr ∧ Below w1.heap.size w2 wr) (fun x _ => l.length - (intOf x).toNat)
  case atStart => exact ⟨0, by omega, rfl, _, Lib.hid rfl, HS.out, Below.refl _ _⟩
  case round =>
    obtain ⟨k, hk, rfl, K, hG, hS, hb⟩ := hrel
    by_cases hlt : k < l.length
    · have hlt1 : (k : Int) < l.length := by omega
      obtain ⟨b, o, rfl, hc⟩ := HE.out (by omega)
      have hbl := World.block_lt_of_cell? w1 _ (hc k hlt).1
      have ce : ∀ i, wr.cell? ⟨b, i, none⟩ = w1.cell? ⟨b, i, none⟩ := fun i => (hb.cell (p := ⟨b, i, none⟩) hbl).trans (HBb.out.cell (p := ⟨b, i, none⟩) hbl)
      obtain ⟨ku, kv, kw⟩ := hc k hlt
      rw [← ce] at ku kv kw
      have hvl := HV.out _ (List.getElem_mem hlt)
      rw [← show l.getD k edge0 = l[k] by simp [List.getD_eq_getElem?_getD, hlt]] at hvl
      obtain ⟨U, hU⟩ := Int.eq_ofNat_of_zero_le hvl.1
      obtain ⟨V, hV⟩ := Int.eq_ofNat_of_zero_le hvl.2.2.1
      have hUn : U < n := by omega
      have hVn : V < n := by omega
      rw [hU] at ku
      rw [hV] at kv
      have heU : eU l k = U := by unfold eU; rw [Int.toNat_natCast, hU]; rfl
      have heV : eV l k = V := by unfold eV; rw [Int.toNat_natCast, hV]; rfl
      have hgr := hG.out
      rw [iota_drop hlt, Hp.growK, heU, heV] at hgr
      have HGR := Lib.hid hgr; have HSS := Lib.hid hS; have HBR := Lib.hid hb
      have hwr := hb.size
      generalize (l.getD k edge0).W = W at kw
      clear hvl hU hV heU heV hgr hS hb hG hc ce
      go_wp2_with fail
      refine (union_any (HSS.out.on ((Below.refl _ _).alloc (Nat.le_refl _) _)) (by omega) U V hUn hVn).mono ?_
      rintro e w3 ⟨rfl, hs3, hc3⟩
      refine Hid.out ?_
      have hb3 : Below w1.heap.size wr w3 := ((Below.refl _ _).alloc (Nat.le_trans hs2 hwr) _).trans (hc3.below hsp (by omega) (by omega) (by omega) (by show w1.heap.size ≤ (wr.heap.push _).size; rw [Array.size_push]; omega))
      have HB3 := Lib.hid (HBR.out.trans hb3)
      have HS3 := Lib.hid hs3
      clear hs3 hc3 hb3 ku kv kw
      refine Lib.hid ?_
      go_wp2_with fail
      go_roundw
      case rel =>
        refine ⟨k + 1, by omega, by go_num, (if St.v K U = St.v K V then K else Uf.joined K U V), Lib.hid ?_, HS3.out, HB3.out⟩
        have := HGR.out
        split
        · rename_i he; rwa [if_pos he] at this
        · rename_i he; rwa [if_neg he] at this
      case measure => simp [intOf]; omega
    · have hkk : k = l.length := by omega
      subst hkk
      have hg := hG.out
      have hnil : (Uf.iota l.length).drop l.length = [] := List.drop_eq_nil_of_le (by rw [Uf.iota_length]; exact Nat.le_refl _)
      rw [hnil, Hp.growK] at hg
      subst hg
      have HSS := Lib.hid hS; have HBR := Lib.hid hb
      clear hS hb hG hnil
      go_wp2_with fail
      go_ret
      exact ⟨P, rfl, HSS.out, ⟨by omega, by omega, by omega, by omega⟩, HB.out.trans (HBR.out.mono hs1)⟩

set_option maxRecDepth 1000000 in
set_option maxHeartbeats 4000000 in
theorem dlen_any {P : Pl} {n : Nat} {K : List Int} {w : World} (h : Sets P n K w) :
    Calls Try.prog 73 #[.pointer (some ⟨P.sp, 0, none⟩)] w fun e w' => e = .returned (.int .i64 n) ∧ Below w.heap.size w w' := by
  obtain ⟨us, ss, ls, cnt, rep, rk, R, h1, -, -⟩ := h
  obtain ⟨-, c1, -⟩ := h1.cells
  clear h1
  go_enter Try.func73, Try.ntmps73
  go_wp2
  go_ret
  exact ⟨rfl, Below.refl _ _⟩

set_option maxRecDepth 1000000 in
set_option maxHeartbeats 8000000 in
theorem dlabels_any {P : Pl} {n : Nat} {K : List Int} {w : World} (h : Sets P n K w) (hn : n ≤ 1000000) (h0 : 0 < n) (B0 : Nat) (b1 : B0 ≤ P.sp) (b2 : B0 ≤ P.gu) (b3 : B0 ≤ P.gs) (b4 : B0 ≤ P.gl) (b5 : B0 ≤ w.heap.size) :
    Calls Try.prog 53 #[.pointer (some ⟨P.sp, 0, none⟩)] w fun e w' => ∃ g, e = .returned (.slice (some ⟨g, 0, none⟩) n n) ∧ w.heap.size ≤ g ∧ Row g K w' ∧ Below B0 w w' := by
  have n1 : (n : Int) ≤ 1000000 := by omega
  have hne0 : ((n : Int) == 0) = false := beq_eq_false_iff_ne.2 (by omega)
  have hmk := mk_ints n hn
  have HL := Lib.hid (dlen_any h)
  have HS := Lib.hid h
  clear h
  go_enter Try.func53, Try.ntmps53
  go_wp2_with fail
  refine HL.out.mono ?_
  rintro e w1 ⟨rfl, hb⟩
  refine Hid.out ?_
  have HB1 := Lib.hid hb
  have HS1 := Lib.hid (HS.out.on hb)
  have hs1 := hb.size
  clear hb HL HS
  refine Lib.hid ?_
  go_wp2_with fail
  obtain ⟨us0, ss, ls, cnt, rep, rk, R, h1, h2, h3⟩ := HS1.out
  have HLT : Hid (P.sp < w1.heap.size ∧ P.gu < w1.heap.size ∧ P.gs < w1.heap.size ∧ P.gl < w1.heap.size) := Lib.hid ⟨block_lt h1.sb, h1.ou.lt, h1.os.lt, h1.ol.lt⟩
  have HD := Lib.hid h1; have HO := Lib.hid h2; have HLA := Lib.hid h3
  clear h1 h2 h3 HS1 hmk
  go_loopw [13] (fun x wr => ∃ k : Nat, k ≤ n ∧ x = .int .i64 k ∧ ∃ ys us, Hid (ys.length = n ∧ ∀ j, j < k → St.v ys j = St.v K j) ∧ Row w1.heap.size ys wr ∧ DS P n us ss ls cnt wr ∧ Hid (Uf.Ok n us rep rk R) ∧ Below B0 w1 wr ∧ w1.heap.size < wr.heap.size) (fun x _ => n - (intOf x).toNat)
  case atStart => exact ⟨0, by omega, rfl, _, us0, Lib.hid ⟨List.length_replicate .., fun j hj => by omega⟩, ⟨block_new _ _ _ rfl⟩, HD.out.on ((Below.refl _ _).alloc (Nat.le_refl _) _), HO, (Below.refl _ _).alloc (by omega) _, by show w1.heap.size < (w1.heap.push _).size; simp⟩
  case round =>
    obtain ⟨k, hk, rfl, ys, us, hY, hr, hD, hO, hb, hsz⟩ := hrel
    by_cases hlt : k < n
    · have hlt1 : (k : Int) < n := by omega
      obtain ⟨-, -, -, s3, -⟩ := hD.cells
      have hrep := hO.out.repn k hlt
      have kl : wr.cell? ⟨P.gl, rep k, none⟩ = some (.int .i64 (St.v K k)) := by rw [HLA.out.eq k hlt]; exact hD.ol.cell (by rw [hD.ll]; exact hrep)
      have fz := hr.frozen k
      have ky := hr.cell (i := k) (by rw [hY.out.1]; omega)
      generalize St.v ys k = y0 at ky
      have HR := Lib.hid hr; have HDD := Lib.hid hD; have HB := Lib.hid hb
      have e1 : w1.heap.size ≠ P.sp := fun e => by have := HLT.out.1; omega
      have e2 : w1.heap.size ≠ P.gl := fun e => by have := HLT.out.2.2.2; omega
      have e4 : w1.heap.size ≠ P.gs := fun e => by have := HLT.out.2.2.1; omega
      have e3 : w1.heap.size ≠ P.gu := fun e => by have := HLT.out.2.1; omega
      have hrep1 : (rep k : Int) < n := by omega
      clear hr hD hb
      go_wp2_with fail
      go_region_held3 (fun W => W.cell? ⟨P.sp, 3, none⟩ = some (.slice (some ⟨P.gl, 0, none⟩) n P.cl) ∧ W.cell? ⟨P.gl, rep k, none⟩ = some (.int .i64 (St.v K k))) ((repeat' apply And.intro) <;> go_keep)
        (first
          | (go_at_call 74; refine (root_any HDD.out.drew hO.out hn k hlt).mono ?_; rintro e w2 ⟨rfl, us2, ho2, hd2, hg2⟩; have q1 := hd2.cells.2.2.2.1; have q2 : w2.cell? ⟨P.gl, rep k, none⟩ = some (.int .i64 (St.v K k)) := (by rw [HLA.out.eq k hlt]; exact hd2.ol.cell (Nat.lt_of_lt_of_eq hrep hd2.ll.symm)); have hr2 : Row w1.heap.size ys w2 := ⟨((Ch.ofU hg2).block _ hsz e1 e3 e4 e2).trans HR.out.bh⟩; have q3 := hr2.cell (i := k) (by rw [hY.out.1]; omega); have q4 := hr2.frozen k; have z2 : wr.heap.size ≤ w2.heap.size := hg2.size; have HR2 := Lib.hid hr2; have HD2 := Lib.hid hd2; have HO2 := Lib.hid ho2; have HB2 : Hid (Below B0 w1 w2) := Lib.hid (HB.out.drew.trans ((Ch.ofU hg2).below b1 b2 b3 b4 (by show B0 ≤ wr.heap.size; omega))); clear hr2 hd2 ho2 hg2))
      all_goals
        go_wp2_with fail
        go_roundw
        case rel => exact ⟨k + 1, by omega, by go_num, _, us2, Lib.hid ⟨by rw [List.length_set]; exact hY.out.1, fun j hj => by
          rw [Gp.v_set _ _ _ _ (by rw [hY.out.1]; omega)]
          by_cases e : j = k
          · subst e; rw [if_pos rfl]
          · rw [if_neg e]; exact hY.out.2 j (by omega)⟩, HR2.out.set k _, HD2.out.move (Below.heap_setCell _ _ _ _ (Ne.symm e1)) (Below.heap_setCell _ _ _ _ (Ne.symm e3)) (Below.heap_setCell _ _ _ _ (Ne.symm e4)) (Below.heap_setCell _ _ _ _ (Ne.symm e2)), HO2, HB2.out.setCell (p := ⟨w1.heap.size, k, none⟩) (by show B0 ≤ w1.heap.size; omega) _, by simp [World.setCell]; omega⟩
        case measure => simp [intOf]; omega
    · have hkk : k = n := by omega
      subst hkk
      have hfin : ys = K := by
        apply List.ext_getElem
        · rw [hY.out.1, HLA.out.len]
        · intro i i1 i2
          have := hY.out.2 i (by rw [← hY.out.1]; exact i1)
          rwa [show St.v ys i = ys[i] from St.getD_at i1, show St.v K i = K[i] from St.getD_at i2] at this
      subst hfin
      have HR := Lib.hid hr; have HB := Lib.hid hb
      clear hr hb hD
      go_wp2_with fail
      go_ret
      exact ⟨_, rfl, hs1, HR.out, (HB1.out.mono b5).trans HB.out⟩

set_option maxRecDepth 1000000 in
set_option maxHeartbeats 4000000 in
theorem labels_any (n : Nat) (hn : n ≤ 4096) (h0 : 0 < n) (l : List Edge) (gp : Nat) (w : World) (h : Grf n l gp w) (hv : Vld n l) (hl : l.length ≤ 16384) :
    Calls Try.prog 28 #[.pointer (some ⟨gp, 0, none⟩)] w fun e w' => ∃ g, e = .returned (.slice (some ⟨g, 0, none⟩) n n) ∧ w.heap.size ≤ g ∧ Row g (labK n l) w' ∧ Below w.heap.size w w' := by
  have HS := Lib.hid (sets_any n hn h0 l gp w h hv hl)
  clear h hv
  go_enter Try.func28, Try.ntmps28
  go_wp2_with fail
  refine HS.out.mono ?_
  rintro e w1 ⟨P, rfl, hs, ⟨b1, b2, b3, b4⟩, hb⟩
  refine Hid.out ?_
  have HL := Lib.hid (dlabels_any hs (by omega) h0 w.heap.size b1 b2 b3 b4 hb.size)
  have HB := Lib.hid hb
  have hz := hb.size
  clear hs hb HS
  refine Lib.hid ?_
  go_wp2_with fail
  refine HL.out.mono ?_
  rintro e w2 ⟨g, rfl, hg, hr, hb⟩
  refine Hid.out ?_
  have HB2 := Lib.hid (HB.out.trans hb); have HR := Lib.hid hr
  clear hb hr HL
  refine Lib.hid ?_
  go_wp2_with fail
  go_ret
  exact ⟨g, rfl, Nat.le_trans hz hg, HR.out, HB2.out⟩
end Go.Proofs.Ytobaodkcjjgkdaa
namespace Go.Proofs.Ytobaodkcjjgkdaa
open Go Go.RowKit

structure Link where
  U : Int
  V : Int
  W : Int
def link0 : Link := ⟨0, 0, 0⟩
/-- A slice of links that reads. -/
def Links (A : Option Addr) (ls : List Link) (w : World) : Prop :=
  0 < ls.length → ∃ b o, A = some ⟨b, o, none⟩ ∧ ∀ j, j < ls.length → w.cell? ⟨b, o + j * 3, none⟩ = some (.int .u8 (ls.getD j link0).U) ∧ w.cell? ⟨b, o + j * 3 + 1, none⟩ = some (.int .u8 (ls.getD j link0).V) ∧ w.cell? ⟨b, o + j * 3 + 2, none⟩ = some (.int .i8 (ls.getD j link0).W)
theorem Links.on {A : Option Addr} {ls : List Link} {w w' : World} (h : Links A ls w) (hb : Below w.heap.size w w') : Links A ls w' := fun hn => by
  obtain ⟨b, o, rfl, hc⟩ := h hn
  have hlt := World.block_lt_of_cell? w _ (hc 0 hn).1
  have ce : ∀ i, w'.cell? ⟨b, i, none⟩ = w.cell? ⟨b, i, none⟩ := fun i => hb.cell (p := ⟨b, i, none⟩) hlt
  exact ⟨b, o, rfl, fun j hj => ⟨(ce _).trans (hc j hj).1, (ce _).trans (hc j hj).2.1, (ce _).trans (hc j hj).2.2⟩⟩
def LOk (ls : List Link) : Prop := ∀ x ∈ ls, 0 ≤ x.U ∧ x.U < 256 ∧ 0 ≤ x.V ∧ x.V < 256 ∧ -128 ≤ x.W ∧ x.W < 128
/-- What Built makes. -/
def built (ls : List Link) : List Edge := ls.flatMap fun x => if x.U % 30 = x.V % 30 then [] else [⟨x.U % 30, x.V % 30, x.W⟩]
theorem built_take {ls : List Link} {k : Nat} (h : k < ls.length) : built (ls.take (k + 1)) = built (ls.take k) ++ if (ls.getD k link0).U % 30 = (ls.getD k link0).V % 30 then [] else [⟨(ls.getD k link0).U % 30, (ls.getD k link0).V % 30, (ls.getD k link0).W⟩] := by
  have e : ls.getD k link0 = ls[k] := by simp [List.getD_eq_getElem?_getD, h]
  rw [List.take_succ_eq_append_getElem h, built, List.flatMap_append, ← e]
  congr 1
  simp
theorem built_len (ls : List Link) : (built ls).length ≤ ls.length := by
  induction ls with
  | nil => exact Nat.le_refl _
  | cons x r ih =>
    have e : built (x :: r) = (if x.U % 30 = x.V % 30 then [] else [⟨x.U % 30, x.V % 30, x.W⟩]) ++ built r := rfl
    rw [e, List.length_append, List.length_cons]
    split
    · simp; omega
    · simp; omega
theorem built_vld (ls : List Link) : Vld 30 (built ls) := by
  intro e he
  obtain ⟨x, -, hx⟩ := List.mem_flatMap.1 he
  split at hx
  · simp at hx
  · rename_i hne
    rw [List.mem_singleton.1 hx]
    exact ⟨by show 0 ≤ x.U % 30; omega, by show x.U % 30 < _; omega, by show 0 ≤ x.V % 30; omega, by show x.V % 30 < _; omega, hne⟩
theorem built_w {ls : List Link} (h : LOk ls) : ∀ e ∈ built ls, -128 ≤ e.W ∧ e.W < 128 := by
  intro e he
  obtain ⟨x, hx0, hx⟩ := List.mem_flatMap.1 he
  split at hx
  · simp at hx
  · rw [List.mem_singleton.1 hx]
    have := h x hx0
    exact ⟨this.2.2.2.2.1, this.2.2.2.2.2⟩
theorem ecells_snoc (l : List Edge) (x : Edge) : ecells (l ++ [x]) = ecells l ++ [.int .i64 x.U, .int .i64 x.V, .int .i64 x.W] := by simp [ecells]

attribute [local go_sem ↓] app_appS
set_option maxRecDepth 1000000 in
set_option maxHeartbeats 8000000 in
theorem built_any (A : Option Addr) (c : Nat) (ls : List Link) (w : World) (hE : Links A ls w) (hl : ls.length ≤ 1000000) (hw : LOk ls) :
    Calls Try.prog 24 #[.int .i64 30, .slice A ls.length c] w fun e w' => ∃ v, e = .returned v ∧ w'.ownsRow w.heap.size 36 3 v (built ls).length (ecells (built ls)) ∧ Below w.heap.size w w' := by
  have HE := Lib.hid hE; have HW := Lib.hid hw
  have l1 : (ls.length : Int) ≤ 1000000 := by omega
  clear hE hw
  go_enter Try.func24, Try.ntmps24
  go_wp2_with fail
  go_loopw [6, 5] (fun x v wr => ∃ k : Nat, k ≤ ls.length ∧ x = .int .i64 k ∧ Hid (wr.ownsRow w.heap.size 36 3 v (built (ls.take k)).length (ecells (built (ls.take k)))) ∧ Below w.heap.size w wr) (fun x _ _ => ls.length - (intOf x).toNat)
  case atStart => exact ⟨0, by omega, rfl, Lib.hid ⟨rfl, .inl ⟨rfl, rfl⟩⟩, Below.refl _ _⟩
  case round =>
    obtain ⟨k, hk, rfl, hO, hb⟩ := hrel
    by_cases hlt : k < ls.length
    · have hlt1 : (k : Int) < ls.length := by omega
      obtain ⟨b, o, rfl, hc⟩ := HE.out (by omega)
      have hbl := World.block_lt_of_cell? w _ (hc k hlt).1
      have ce : ∀ i, wr.cell? ⟨b, i, none⟩ = w.cell? ⟨b, i, none⟩ := fun i => hb.cell (p := ⟨b, i, none⟩) hbl
      obtain ⟨ku, kv, kw⟩ := hc k hlt
      rw [← ce] at ku kv kw
      have hx := HW.out _ (List.getElem_mem hlt)
      rw [← show ls.getD k link0 = ls[k] by simp [List.getD_eq_getElem?_getD, hlt]] at hx
      have HT := Lib.hid (built_take hlt)
      have HBL := Lib.hid (show (built (ls.take k)).length ≤ 1000000 by have := built_len (ls.take k); have := List.length_take_le k ls; omega)
      have HB := Lib.hid hb
      generalize ls.getD k link0 = X at *
      obtain ⟨U, V, W⟩ := X
      simp only at ku kv kw hx
      obtain ⟨x0, x1, x2, x3, x4, x5⟩ := hx
      clear hb hc ce
      go_wp2_with fail
      go_quiet (fail)
      obtain ⟨wq, hwq⟩ : ∃ wq, wq = wr.drewN nq := ⟨_, rfl⟩
      have HBQ : Hid (Below w.heap.size w wq) := Lib.hid (hwq ▸ below_drewN' HB.out nq)
      have HOQ : Hid (wq.ownsRow w.heap.size 36 3 u5 (built (ls.take k)).length (ecells (built (ls.take k)))) := Lib.hid (hwq ▸ hO.out)
      have kw2 : wq.cell? ⟨b, o + k * 3 + 2, none⟩ = some (.int .i8 W) := hwq ▸ kw
      rw [← hwq]
      clear ku kv kw hwq hO HB
      by_cases he : U % 30 = V % 30
      · have hne : (U % 30 != V % 30) = false := by simp [he]
        have HT2 := HT.out
        rw [if_pos he, List.append_nil] at HT2
        rw [← HT2] at HOQ
        have HQ := Lib.hid HOQ.out
        clear he HT2 HT HOQ
        go_wp2_with fail
        go_roundw
        case rel => exact ⟨k + 1, by omega, by go_num, HQ, HBQ.out⟩
        case measure => simp [intOf]; omega
      · have hne : (U % 30 != V % 30) = true := by simp [he]
        have HT2 := HT.out
        rw [if_neg he] at HT2
        obtain ⟨v3, w3, hr3, ho3, hb3⟩ := app_one w.heap.size _ u5 _ (U % 30) (V % 30) W wq HOQ.out HBQ.out.size HBL.out
        have HQ : Hid (w3.ownsRow w.heap.size 36 3 v3 (built (ls.take (k + 1))).length (ecells (built (ls.take (k + 1))))) := Lib.hid (by rw [HT2, ecells_snoc, List.length_append]; exact ho3)
        have HB3 := Lib.hid (HBQ.out.trans hb3)
        clear he HT2 HT HOQ ho3 hb3 HBL
        go_wp2_with fail
        go_roundw
        case rel => exact ⟨k + 1, by omega, by go_num, HQ, HB3.out⟩
        case measure => simp [intOf]; omega
    · have hkk : k = ls.length := by omega
      subst hkk
      have ht : ls.take ls.length = ls := List.take_length
      rw [ht] at hO
      have HB := Lib.hid hb
      clear hb
      go_wp2_with fail
      go_ret
      exact ⟨_, rfl, hO.out, HB.out⟩
end Go.Proofs.Ytobaodkcjjgkdaa
namespace Go.Proofs.Ytobaodkcjjgkdaa
open Go Go.RowKit

/-- The edges at these places. -/
def pickE (l : List Edge) (f : List Int) : List Edge := f.map fun i => l.getD i.toNat edge0
theorem pickE_take {l : List Edge} {f : List Int} {k : Nat} (h : k < f.length) : pickE l (f.take (k + 1)) = pickE l (f.take k) ++ [l.getD (St.v f k).toNat edge0] := by
  rw [pickE, List.take_succ_eq_append_getElem h, List.map_append, show St.v f k = f[k] from St.getD_at h]
  rfl
theorem pickE_len (l : List Edge) (f : List Int) : (pickE l f).length = f.length := List.length_map ..
theorem pickE_vld {n : Nat} {l : List Edge} (hv : Vld n l) {f : List Int} (hf : ∀ x ∈ f, 0 ≤ x ∧ x < l.length) : Vld n (pickE l f) := by
  intro e he
  obtain ⟨i, hi, rfl⟩ := List.mem_map.1 he
  obtain ⟨a, b⟩ := hf i hi
  have hk : i.toNat < l.length := by omega
  rw [show l.getD i.toNat edge0 = l[i.toNat] by simp [List.getD_eq_getElem?_getD, hk]]
  exact hv _ (List.getElem_mem hk)

attribute [local go_sem ↓] app_appS
set_option maxRecDepth 1000000 in
set_option maxHeartbeats 8000000 in
theorem some_any (A B : Option Addr) (c cb : Nat) (l : List Edge) (f : List Int) (w : World) (hE : Edges A l w) (hO : IntsR B f w) (hf : ∀ x ∈ f, 0 ≤ x ∧ x < l.length) (hl : l.length ≤ 1000000) (hfl : f.length ≤ 1000000) :
    Calls Try.prog 26 #[.slice A l.length c, .slice B f.length cb] w fun e w' => ∃ v, e = .returned v ∧ w'.ownsRow w.heap.size 36 3 v (pickE l f).length (ecells (pickE l f)) ∧ Below w.heap.size w w' := by
  have HE := Lib.hid hE; have HO := Lib.hid hO; have HF := Lib.hid hf
  have l1 : (l.length : Int) ≤ 1000000 := by omega
  have f1 : (f.length : Int) ≤ 1000000 := by omega
  clear hE hO hf
  go_enter Try.func26, Try.ntmps26
  go_wp2_with fail
  go_loopw [6, 5] (fun x v wr => ∃ k : Nat, k ≤ f.length ∧ x = .int .i64 k ∧ Hid (wr.ownsRow w.heap.size 36 3 v (pickE l (f.take k)).length (ecells (pickE l (f.take k)))) ∧ Below w.heap.size w wr) (fun x _ _ => f.length - (intOf x).toNat)
  case atStart => exact ⟨0, by omega, rfl, Lib.hid ⟨rfl, .inl ⟨rfl, rfl⟩⟩, Below.refl _ _⟩
  case round =>
    obtain ⟨k, hk, rfl, hOw, hb⟩ := hrel
    by_cases hlt : k < f.length
    · have hlt1 : (k : Int) < f.length := by omega
      have hxr := HF.out _ (List.getElem_mem hlt)
      obtain ⟨ei, hei⟩ := Int.eq_ofNat_of_zero_le hxr.1
      have heil : ei < l.length := by omega
      have hvx : St.v f k = (ei : Int) := by rw [← hei]; exact St.getD_at hlt
      obtain ⟨b2, o2, rfl, hc2⟩ := HO.out (by omega)
      obtain ⟨b, o, rfl, hc⟩ := HE.out (by omega)
      have k1 := (hb.cell (p := ⟨b2, o2 + k, none⟩) (World.block_lt_of_cell? w _ (hc2 k hlt))).trans (hc2 k hlt)
      rw [hvx] at k1
      have hbl := World.block_lt_of_cell? w _ (hc ei heil).1
      have ce : ∀ i, wr.cell? ⟨b, i, none⟩ = w.cell? ⟨b, i, none⟩ := fun i => hb.cell (p := ⟨b, i, none⟩) hbl
      obtain ⟨ku, kv, kw⟩ := hc ei heil
      rw [← ce] at ku kv kw
      have ei0 : (0 : Int) ≤ ei := by omega
      have ei1 : (ei : Int) < l.length := by omega
      have hT := pickE_take (l := l) hlt
      rw [hvx, Int.toNat_natCast] at hT
      have hplen : (pickE l (f.take k)).length ≤ 1000000 := by rw [pickE_len, List.length_take]; omega
      generalize l.getD ei edge0 = X at *
      obtain ⟨v3, w3, hr3, ho3, hb3⟩ := app_one w.heap.size _ u5 _ X.U X.V X.W wr hOw.out hb.size hplen
      have HQ : Hid (w3.ownsRow w.heap.size 36 3 v3 (pickE l (f.take (k + 1))).length (ecells (pickE l (f.take (k + 1))))) := Lib.hid (by rw [hT, ecells_snoc, List.length_append]; exact ho3)
      have HB3 := Lib.hid (hb.trans hb3)
      clear hxr hei hvx hc2 hc hT ho3 hb3 hplen hb ce hOw
      go_wp2_with fail
      go_roundw
      case rel => exact ⟨k + 1, by omega, by go_num, HQ, HB3.out⟩
      case measure => simp [intOf]; omega
    · have hkk : k = f.length := by omega
      subst hkk
      have ht : f.take f.length = f := List.take_length
      rw [ht] at hOw
      have HB := Lib.hid hb
      clear hb
      go_wp2_with fail
      go_ret
      exact ⟨_, rfl, hOw.out, HB.out⟩
end Go.Proofs.Ytobaodkcjjgkdaa
namespace Go.Proofs.Ytobaodkcjjgkdaa
open Go

namespace Hp
theorem growD_mem (l : List Edge) : ∀ (os K : List Int) (x : Int), x ∈ growD l os K → x ∈ os
  | [], _, _, h => h
  | i :: r, K, x, h => by
    rw [growD] at h
    split at h
    · exact List.mem_cons_of_mem _ (growD_mem l r _ x h)
    · rcases List.mem_cons.1 h with h | h
      · rw [h]; exact List.mem_cons_self ..
      · exact List.mem_cons_of_mem _ (growD_mem l r _ x h)
theorem growD_lab {n : Nat} {l : List Edge} (hv : Vld n l) : ∀ (os K : List Int) (F : List (Nat × Nat)), (∀ x ∈ os, 0 ≤ x ∧ x < l.length) → LabF n F K → LabF n (F ++ (growD l os K).map (ends l)) (growK l os K)
  | [], _, _, _, h => by rw [growD, growK, List.map_nil, List.append_nil]; exact h
  | i :: r, K, F, ho, h => by
    have hi := ends_lt hv (ho i (by simp))
    have hr := fun x hx => ho x (List.mem_cons_of_mem i hx)
    rw [growD, growK]
    split
    · exact growD_lab hv r K F hr h
    · have e : F ++ (i :: growD l r (Uf.joined K (eU l i) (eV l i))).map (ends l) = (F ++ [ends l i]) ++ (growD l r (Uf.joined K (eU l i) (eV l i))).map (ends l) := by simp
      rw [e]
      exact growD_lab hv r _ _ hr (h.join hi.1 hi.2)
end Hp
theorem iota_mem {m : Nat} : ∀ x ∈ Uf.iota m, 0 ≤ x ∧ x < m := fun x hx => by
  obtain ⟨i, hi, rfl⟩ := List.mem_map.1 hx
  have := List.mem_range.1 hi
  exact ⟨Int.natCast_nonneg i, by show (i : Int) < _; omega⟩
def prs (l : List Edge) : List (Nat × Nat) := l.map fun e => (e.U.toNat, e.V.toNat)
theorem prs_iota (l : List Edge) : (Uf.iota l.length).map (Hp.ends l) = prs l := by
  apply List.ext_getElem
  · rw [List.length_map, Uf.iota_length, prs, List.length_map]
  · intro i h1 h2
    have hi : i < l.length := by simpa [prs] using h2
    simp [prs, Uf.iota, Hp.ends, eU, eV, List.getD_eq_getElem?_getD, hi]
theorem lab_conn {n : Nat} {l : List Edge} (hv : Vld n l) {x y : Nat} (hx : x < n) (hy : y < n) : St.v (labK n l) x = St.v (labK n l) y ↔ Hp.Conn (prs l) (fun _ => True) x y := by
  have h := (Hp.growK_lab hv (Uf.iota l.length) (Uf.iota n) [] iota_mem (Hp.iota_ok n)).2 x y hx hy
  rw [List.nil_append, prs_iota] at h
  exact h
theorem labK_can {n : Nat} {l : List Edge} (hv : Vld n l) : Hp.Can n (labK n l) := Hp.growK_can hv _ _ iota_mem (Hp.Can.iota n)
theorem split_le (f : Int → Int) (th : Int) : ∀ {os : List Int}, os.Pairwise (fun a b => f a ≤ f b) → os = os.filter (fun i => decide (f i ≤ th)) ++ os.filter (fun i => !decide (f i ≤ th))
  | [], _ => rfl
  | a :: r, h => by
    obtain ⟨h1, h2⟩ := List.pairwise_cons.1 h
    by_cases ha : f a ≤ th
    · rw [List.filter_cons_of_pos (by simpa using ha), List.filter_cons_of_neg (by simpa using ha), List.cons_append, ← split_le f th h2]
    · have e : (a :: r).filter (fun i => decide (f i ≤ th)) = [] := List.filter_eq_nil_iff.2 fun b hb => by
        rcases List.mem_cons.1 hb with hb | hb
        · rw [hb]; simpa using ha
        · have := h1 b hb
          simp only [decide_eq_true_eq]; omega
      have e2 : (a :: r).filter (fun i => !decide (f i ≤ th)) = a :: r := List.filter_eq_self.2 fun b hb => by
        rcases List.mem_cons.1 hb with hb | hb
        · rw [hb]; simpa using ha
        · have := h1 b hb
          have : ¬ f b ≤ th := by omega
          simp [this]
      rw [e, e2]; rfl
theorem mem_lo {th : Int} {l : List Edge} {e : Edge} : e ∈ lo th l ↔ e ∈ l ∧ e.W ≤ th := by
  unfold lo
  rw [List.mem_filter]
  simp
theorem ordL_all (l : List Edge) (i : Nat) (hi : i < l.length) : (i : Int) ∈ ordL l :=
  (List.mergeSort_perm _ _).mem_iff.2 (List.mem_map.2 ⟨i, List.mem_range.2 hi, rfl⟩)
/-- The forest's edges. -/
def forE (n : Nat) (l : List Edge) : List Edge := pickE l (accF n l (ordL l))
theorem accF_mem {n : Nat} {l : List Edge} : ∀ x ∈ accF n l (ordL l), 0 ≤ x ∧ x < l.length := fun x hx => by
  rcases growF_mem l _ _ _ x hx with h | h
  · simp at h
  · exact ordL_mem l x h
theorem forE_vld {n : Nat} {l : List Edge} (hv : Vld n l) : Vld n (forE n l) := pickE_vld hv accF_mem
theorem thr {n : Nat} {l : List Edge} (hv : Vld n l) (th : Int) : labK n (lo th l) = labK n (lo th (forE n l)) := by
  refine (labK_can (hv.lo th)).eq (labK_can ((forE_vld hv).lo th)) fun x y hx hy => ?_
  rw [lab_conn (hv.lo th) hx hy, lab_conn ((forE_vld hv).lo th) hx hy]
  have hpw : (ordL l).Pairwise (fun a b => wtOf l a ≤ wtOf l b) := (Hp.ordL_pw l).imp fun h => by
    simp only [ordLe, decide_eq_true_eq] at h; omega
  have hsp := split_le (wtOf l) th hpw
  obtain ⟨o1, ho1⟩ : ∃ o1, o1 = (ordL l).filter (fun i => decide (wtOf l i ≤ th)) := ⟨_, rfl⟩
  obtain ⟨o2, ho2⟩ : ∃ o2, o2 = (ordL l).filter (fun i => !decide (wtOf l i ≤ th)) := ⟨_, rfl⟩
  rw [← ho1, ← ho2] at hsp
  have hacc : accF n l (ordL l) = Hp.growD l o1 (Uf.iota n) ++ Hp.growD l o2 (Hp.growK l o1 (Uf.iota n)) := by
    unfold accF
    rw [Hp.growF_eq, List.nil_append, hsp, Hp.growD_app]
  have m1 : ∀ i ∈ o1, (0 ≤ i ∧ i < l.length) ∧ wtOf l i ≤ th := fun i hi => by
    rw [ho1, List.mem_filter] at hi
    exact ⟨ordL_mem l i hi.1, by simpa using hi.2⟩
  have at_ : ∀ i : Int, 0 ≤ i ∧ i < l.length → l.getD i.toNat edge0 ∈ l := fun i hi => by
    have hk : i.toNat < l.length := by omega
    rw [show l.getD i.toNat edge0 = l[i.toNat] by simp [List.getD_eq_getElem?_getD, hk]]
    exact List.getElem_mem hk
  constructor
  · intro h
    have h1 : Hp.Conn (o1.map (Hp.ends l)) (fun _ => True) x y := h.subset fun p hp => by
      obtain ⟨e, he, rfl⟩ := List.mem_map.1 hp
      obtain ⟨hel, hew⟩ := mem_lo.1 he
      obtain ⟨i, hi, rfl⟩ := List.mem_iff_getElem.1 hel
      have hg : l.getD i edge0 = l[i] := by simp [List.getD_eq_getElem?_getD, hi]
      refine List.mem_map.2 ⟨(i : Int), ?_, ?_⟩
      · rw [ho1, List.mem_filter]
        refine ⟨ordL_all l i hi, ?_⟩
        unfold wtOf
        rw [Int.toNat_natCast, hg]
        simpa using hew
      · unfold Hp.ends eU eV
        rw [Int.toNat_natCast, hg]
    have k1 := (Hp.growK_lab hv o1 (Uf.iota n) [] (fun i hi => (m1 i hi).1) (Hp.iota_ok n)).2 x y hx hy
    have k2 := (Hp.growD_lab hv o1 (Uf.iota n) [] (fun i hi => (m1 i hi).1) (Hp.iota_ok n)).2 x y hx hy
    rw [List.nil_append] at k1 k2
    refine (k2.1 (k1.2 h1)).subset fun p hp => ?_
    obtain ⟨i, hi, rfl⟩ := List.mem_map.1 hp
    obtain ⟨hir, hiw⟩ := m1 i (Hp.growD_mem l _ _ i hi)
    refine List.mem_map.2 ⟨l.getD i.toNat edge0, mem_lo.2 ⟨?_, hiw⟩, rfl⟩
    unfold forE pickE
    exact List.mem_map.2 ⟨i, by rw [hacc]; exact List.mem_append_left _ hi, rfl⟩
  · intro h
    refine h.subset fun p hp => ?_
    obtain ⟨e, he, rfl⟩ := List.mem_map.1 hp
    obtain ⟨hel, hew⟩ := mem_lo.1 he
    obtain ⟨i, hi, rfl⟩ := List.mem_map.1 hel
    exact List.mem_map.2 ⟨_, mem_lo.2 ⟨at_ i (accF_mem i hi), hew⟩, rfl⟩
/-- An edge connects its ends, up to its weight, in the forest. -/
theorem cyc {n : Nat} {l : List Edge} (hv : Vld n l) {i : Nat} (hi : i < l.length) : St.v (labK n (lo (l.getD i edge0).W (forE n l))) (l.getD i edge0).U.toNat = St.v (labK n (lo (l.getD i edge0).W (forE n l))) (l.getD i edge0).V.toNat := by
  have hg : l.getD i edge0 = l[i] := by simp [List.getD_eq_getElem?_getD, hi]
  have hm : l.getD i edge0 ∈ l := by rw [hg]; exact List.getElem_mem hi
  have hx := hv _ hm
  generalize l.getD i edge0 = e at *
  rw [← thr hv, lab_conn (hv.lo _) (by omega) (by omega)]
  obtain ⟨k, hk, he⟩ := List.mem_iff_getElem.1 (List.mem_map.2 ⟨e, mem_lo.2 ⟨hm, Int.le_refl _⟩, rfl⟩ : (e.U.toNat, e.V.toNat) ∈ prs (lo e.W l))
  exact .snoc (.refl _) trivial (.inl ((List.getElem?_eq_getElem hk).trans (congrArg some he)) : Hp.Jn (prs (lo e.W l)) k _ _)
theorem firstE_ok {n : Nat} : ∀ {l : List Edge}, Vld n l → firstE n l = 0
  | [], _ => rfl
  | e :: r, h => by
    have he := h e (by simp)
    rw [firstE, if_neg (by omega), if_neg (by omega)]
    exact firstE_ok fun x hx => h x (List.mem_cons_of_mem _ hx)
theorem newE_ok {n : Nat} {l : List Edge} (h : Vld n l) (hn : n ≤ 4096) (hl : l.length ≤ 16384) : newE n l = 0 := by
  unfold newE
  rw [if_neg (by omega)]
  exact firstE_ok h
theorem forF_ok {n : Nat} {l : List Edge} (h : Vld n l) (hn : n ≤ 4096) (hl : l.length ≤ 16384) : forF n l = accF n l (ordL l) := by
  unfold forF
  rw [if_pos (newE_ok h hn hl), Int.toNat_natCast]
end Go.Proofs.Ytobaodkcjjgkdaa
