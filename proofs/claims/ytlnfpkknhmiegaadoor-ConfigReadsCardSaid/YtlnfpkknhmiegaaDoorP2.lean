/- What Parse reads from a text of settings. -/
import Derived.Test.YtlnfpkknhmiegaaDoorP1
import Derived.Test.YtlnfpkknhmiegaaDoorC1
namespace Go.Proofs.YtlnfpkknhmiegaaDoor
open Go Go.RowKit

theorem IsD.ne32 {c : UInt8} (h : IsD c) : c ≠ 32 := by rintro rfl; exact absurd h (by unfold IsD; decide)
theorem IsD.ne61 {c : UInt8} (h : IsD c) : c ≠ 61 := by rintro rfl; exact absurd h (by unfold IsD; decide)
theorem itoa32 {n : Int} (h : 0 ≤ n) : (32 : UInt8) ∉ Lib.itoa n := fun hc => (itoa_digits n h _ hc).ne32 rfl
theorem set32 {p : List UInt8} {n : Int} (h : 0 ≤ n) (hp : (32 : UInt8) ∉ p) : (32 : UInt8) ∉ p ++ Lib.itoa n := fun hc => (List.mem_append.1 hc).elim hp (itoa32 h)
theorem p0 : (32 : UInt8) ∉ pre0 := by decide
theorem p1 : (32 : UInt8) ∉ pre1 := by decide
theorem p2 : (32 : UInt8) ∉ pre2 := by decide
theorem p3 : (32 : UInt8) ∉ pre3 := by decide
/-- The settings of a configuration. -/
def sets (a b c d : Int) : List (List UInt8) := [pre0 ++ Lib.itoa a, pre1 ++ Lib.itoa b, pre2 ++ Lib.itoa c, pre3 ++ Lib.itoa d]
theorem spl_text {a b c d : Int} (ha : 0 ≤ a) (hb : 0 ≤ b) (hc : 0 ≤ c) (hd : 0 ≤ d) : spl 32 (textL a b c d) = sets a b c d := by
  have e : textL a b c d = (pre0 ++ Lib.itoa a) ++ 32 :: ((pre1 ++ Lib.itoa b) ++ 32 :: ((pre2 ++ Lib.itoa c) ++ 32 :: (pre3 ++ Lib.itoa d))) := by
    simp [textL]
  rw [e, spl_hit (set32 ha p0), spl_hit (set32 hb p1), spl_hit (set32 hc p2), spl_miss (set32 hd p3)]
  rfl
theorem text_ne (a b c d : Int) : textL a b c d ≠ [] := by simp [textL, pre0]

theorem e0 : pre0 = nm0 ++ [61] := by decide
theorem e1 : pre1 = nm1 ++ [61] := by decide
theorem e2 : pre2 = nm2 ++ [61] := by decide
theorem e3 : pre3 = nm3 ++ [61] := by decide
theorem q0 : (61 : UInt8) ∉ nm0 := by decide
theorem q1 : (61 : UInt8) ∉ nm1 := by decide
theorem q2 : (61 : UInt8) ∉ nm2 := by decide
theorem q3 : (61 : UInt8) ∉ nm3 := by decide
theorem cut_set {nm : List UInt8} (h : (61 : UInt8) ∉ nm) (v : List UInt8) : Lib.cut (nm ++ [61] ++ v) [61] = (nm, v, true) := by
  rw [List.append_assoc]; exact cut_hit h

theorem step0 (st : PS) (v : List UInt8) : st.step (pre0 ++ v) = if st.p = true then none else (numOf v).map fun n => { st with p := true, a := n } := by
  unfold PS.step; rw [e0, cut_set q0]; simp [PS.put]
theorem step1 (st : PS) (v : List UInt8) : st.step (pre1 ++ v) = if st.q = true then none else (numOf v).map fun n => { st with q := true, b := n } := by
  unfold PS.step; rw [e1, cut_set q1]; simp only [if_true, PS.put]; rw [if_neg (by decide)]
theorem step2 (st : PS) (v : List UInt8) : st.step (pre2 ++ v) = if st.r = true then none else (numOf v).map fun n => { st with r := true, c := n } := by
  unfold PS.step; rw [e2, cut_set q2]; simp only [if_true, PS.put]; rw [if_neg (by decide), if_neg (by decide)]
theorem step3 (st : PS) (v : List UInt8) : st.step (pre3 ++ v) = if st.t = true then none else (numOf v).map fun n => { st with t := true, d := n } := by
  unfold PS.step; rw [e3, cut_set q3]; simp only [if_true, PS.put]; rw [if_neg (by decide), if_neg (by decide), if_neg (by decide)]

theorem cut_true {s p r : List UInt8} (h : Lib.cut s [61] = (p, r, true)) : s = p ++ [61] ++ r := by
  by_cases hc : (61 : UInt8) ∈ s
  · obtain ⟨x, y, rfl, hx⟩ := first_of hc
    rw [cut_hit hx] at h
    simp only [Prod.mk.injEq, and_true] at h
    rw [h.1, h.2]; simp
  · rw [cut_miss hc] at h
    simp at h

/-- What one setting does, told from what it makes. -/
theorem step_some {st st2 : PS} {s : List UInt8} (h : st.step s = some st2) :
    (∃ n, s = pre0 ++ Lib.itoa n ∧ 0 ≤ n ∧ n ≤ 9223372036854775807 ∧ st.p = false ∧ st2 = { st with p := true, a := n }) ∨
    (∃ n, s = pre1 ++ Lib.itoa n ∧ 0 ≤ n ∧ n ≤ 9223372036854775807 ∧ st.q = false ∧ st2 = { st with q := true, b := n }) ∨
    (∃ n, s = pre2 ++ Lib.itoa n ∧ 0 ≤ n ∧ n ≤ 9223372036854775807 ∧ st.r = false ∧ st2 = { st with r := true, c := n }) ∨
    (∃ n, s = pre3 ++ Lib.itoa n ∧ 0 ≤ n ∧ n ≤ 9223372036854775807 ∧ st.t = false ∧ st2 = { st with t := true, d := n }) := by
  unfold PS.step at h
  rcases hc : Lib.cut s [61] with ⟨nm, v, ok⟩
  rw [hc] at h
  cases ok with
  | false => simp at h
  | true =>
    have hs := cut_true hc
    simp only [if_true] at h
    unfold PS.put at h
    split at h
    · rename_i hn
      left
      split at h
      · cases h
      · rename_i hp
        obtain ⟨n, hv, rfl⟩ := Option.map_eq_some_iff.1 h
        obtain ⟨e, h0, h1⟩ := itoa_numOf hv
        exact ⟨n, by rw [hs, e0, hn, e], h0, h1, by simpa using hp, rfl⟩
    · split at h
      · rename_i hn
        right; left
        split at h
        · cases h
        · rename_i hp
          obtain ⟨n, hv, rfl⟩ := Option.map_eq_some_iff.1 h
          obtain ⟨e, h0, h1⟩ := itoa_numOf hv
          exact ⟨n, by rw [hs, e1, hn, e], h0, h1, by simpa using hp, rfl⟩
      · split at h
        · rename_i hn
          right; right; left
          split at h
          · cases h
          · rename_i hp
            obtain ⟨n, hv, rfl⟩ := Option.map_eq_some_iff.1 h
            obtain ⟨e, h0, h1⟩ := itoa_numOf hv
            exact ⟨n, by rw [hs, e2, hn, e], h0, h1, by simpa using hp, rfl⟩
        · split at h
          · rename_i hn
            right; right; right
            split at h
            · cases h
            · rename_i hp
              obtain ⟨n, hv, rfl⟩ := Option.map_eq_some_iff.1 h
              obtain ⟨e, h0, h1⟩ := itoa_numOf hv
              exact ⟨n, by rw [hs, e3, hn, e], h0, h1, by simpa using hp, rfl⟩
          · cases h

/-- The text of a valid configuration is read as that configuration. -/
theorem parsed_text {a b c d : Int} (ha : 0 ≤ a) (hb : 0 ≤ b) (hc : 0 ≤ c) (hd : 0 ≤ d) (ha' : a ≤ 9223372036854775807) (hb' : b ≤ 9223372036854775807) (hc' : c ≤ 9223372036854775807) (hd' : d ≤ 9223372036854775807) :
    parsed (textL a b c d) = some ⟨a, b, c, d, true, true, true, true⟩ := by
  unfold parsed
  rw [if_neg (text_ne _ _ _ _), spl_text ha hb hc hd]
  simp only [sets, PS.run, PS.start, step0, step1, step2, step3, numOf_itoa a ha ha', numOf_itoa b hb hb', numOf_itoa c hc hc', numOf_itoa d hd hd']
  simp
theorem answer_valid {a b c d : Int} {p q r t : Bool} (h : Valid a b c d) : answer (some ⟨a, b, c, d, p, q, r, t⟩) = (a, b, c, d, 0) := if_pos h
theorem answer_bad {a b c d : Int} {p q r t : Bool} (h : ¬ Valid a b c d) : answer (some ⟨a, b, c, d, p, q, r, t⟩) = (0, 0, 0, 0, 2) := if_neg h
theorem answer_text {a b c d : Int} (h : Valid a b c d) : answer (parsed (textL a b c d)) = (a, b, c, d, 0) := by
  have h' := h
  obtain ⟨h0, h1, h2, h3, h4, h5, h6, h7⟩ := h
  rw [parsed_text (by omega) (by omega) (by omega) (by omega) (by omega) (by omega) (by omega) (by omega), answer_valid h']

/-- Every setting that was read stands in the text of what was read. -/
theorem run_sets : ∀ (xs : List (List UInt8)) (st st2 : PS), st.run xs = some st2 →
    (∀ x ∈ xs, x ∈ sets st2.a st2.b st2.c st2.d) ∧ (st.p = true → st2.p = true ∧ st2.a = st.a) ∧ (st.q = true → st2.q = true ∧ st2.b = st.b) ∧ (st.r = true → st2.r = true ∧ st2.c = st.c) ∧ (st.t = true → st2.t = true ∧ st2.d = st.d) ∧
      (∀ x ∈ xs, (32 : UInt8) ∉ x)
  | [], st, st2, h => by
    simp only [PS.run, Option.some.injEq] at h
    subst h
    exact ⟨by simp, fun h => ⟨h, rfl⟩, fun h => ⟨h, rfl⟩, fun h => ⟨h, rfl⟩, fun h => ⟨h, rfl⟩, by simp⟩
  | x :: xs, st, st2, h => by
    simp only [PS.run] at h
    cases hs : st.step x with
    | none => rw [hs] at h; cases h
    | some st1 =>
      rw [hs] at h
      obtain ⟨i0, i1, i2, i3, i4, i5⟩ := run_sets xs st1 st2 h
      rcases step_some hs with ⟨n, rfl, n0, n1, hp, rfl⟩ | ⟨n, rfl, n0, n1, hp, rfl⟩ | ⟨n, rfl, n0, n1, hp, rfl⟩ | ⟨n, rfl, n0, n1, hp, rfl⟩
      · refine ⟨fun y hy => ?_, fun e => (by rw [hp] at e; cases e), i2, i3, i4, fun y hy => ?_⟩
        · rcases List.mem_cons.1 hy with rfl | hy
          · simp [sets, (i1 rfl).2]
          · exact i0 y hy
        · rcases List.mem_cons.1 hy with rfl | hy
          · exact set32 n0 p0
          · exact i5 y hy
      · refine ⟨fun y hy => ?_, i1, fun e => (by rw [hp] at e; cases e), i3, i4, fun y hy => ?_⟩
        · rcases List.mem_cons.1 hy with rfl | hy
          · simp [sets, (i2 rfl).2]
          · exact i0 y hy
        · rcases List.mem_cons.1 hy with rfl | hy
          · exact set32 n0 p1
          · exact i5 y hy
      · refine ⟨fun y hy => ?_, i1, i2, fun e => (by rw [hp] at e; cases e), i4, fun y hy => ?_⟩
        · rcases List.mem_cons.1 hy with rfl | hy
          · simp [sets, (i3 rfl).2]
          · exact i0 y hy
        · rcases List.mem_cons.1 hy with rfl | hy
          · exact set32 n0 p2
          · exact i5 y hy
      · refine ⟨fun y hy => ?_, i1, i2, i3, fun e => (by rw [hp] at e; cases e), fun y hy => ?_⟩
        · rcases List.mem_cons.1 hy with rfl | hy
          · simp [sets, (i4 rfl).2]
          · exact i0 y hy
        · rcases List.mem_cons.1 hy with rfl | hy
          · exact set32 n0 p3
          · exact i5 y hy
end Go.Proofs.YtlnfpkknhmiegaaDoor
