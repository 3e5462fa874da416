/- config.set, whole: what a setting does to what has been read. -/
import Derived.Test.YtlnfpkknhmiegaaDoorA7
import Derived.Test.YtlnfpkknhmiegaaDoorB1
namespace Go.Proofs.YtlnfpkknhmiegaaDoor
open Go Go.RowKit

abbrev nm0 : List UInt8 := [119, 105, 110, 100, 111, 119]
abbrev nm1 : List UInt8 := [101, 100, 103, 101, 115]
abbrev nm2 : List UInt8 := [118, 101, 114, 116, 115]
abbrev nm3 : List UInt8 := [100, 114, 97, 119, 115]

/-- What one setting, its name and its digits, makes of what has been read; none: it is refused. -/
def PS.put (st : PS) (nm v : List UInt8) : Option PS :=
  if nm = nm0 then (if st.p = true then none else (numOf v).map fun n => { st with p := true, a := n }) else
  if nm = nm1 then (if st.q = true then none else (numOf v).map fun n => { st with q := true, b := n }) else
  if nm = nm2 then (if st.r = true then none else (numOf v).map fun n => { st with r := true, c := n }) else
  if nm = nm3 then (if st.t = true then none else (numOf v).map fun n => { st with t := true, d := n }) else
  none
def PS.step (st : PS) (s : List UInt8) : Option PS :=
  if (Lib.cut s [61]).2.2 = true then st.put (Lib.cut s [61]).1 (Lib.cut s [61]).2.1 else none

theorem set_ok (s : List UInt8) (st : PS) (st2 : PS) (bl bs B : Nat) (w : World) (hG : G w) (hs : s.length ≤ 4294967280) (hB : 9 ≤ B) (hBw : B ≤ w.heap.size) (hbl : B ≤ bl) (hbs : B ≤ bs) (hA : Arr bl bs st w) (h : st.step s = some st2) :
    Calls Tryd.prog 36 #[.pointer (some ⟨bl, 0, none⟩), .pointer (some ⟨bs, 0, none⟩), .string ⟨s.toArray⟩] w fun e w' => e = .returned (.tuple #[]) ∧ Below B w w' ∧ Arr bl bs st2 w' ∧ (∀ k, k < w.heap.size → k ≠ bl → k ≠ bs → w'.heap[k]? = w.heap[k]?) := by
  have hl := cut_len s 61
  have h61 : st.step s = some st2 := h
  unfold PS.step at h
  rcases hc : Lib.cut s [61] with ⟨nm, v, ok⟩
  rw [hc] at h hl
  cases ok with
  | false => simp at h
  | true =>
    simp only [if_true] at h
    unfold PS.put at h
    by_cases h0 : nm = nm0
    · subst h0
      rw [if_pos rfl] at h
      by_cases hx : st.p = true
      · rw [if_pos hx] at h; simp at h
      · rw [if_neg hx] at h
        obtain ⟨n, hn, rfl⟩ := Option.map_eq_some_iff.1 h
        exact set_some0 s v st n bl bs B w hG hs hB hBw hbl hbs hA hc (by simpa using hx) hn (Nat.le_trans hl hs)
    by_cases h1 : nm = nm1
    · subst h1
      rw [if_neg h0, if_pos rfl] at h
      by_cases hx : st.q = true
      · rw [if_pos hx] at h; simp at h
      · rw [if_neg hx] at h
        obtain ⟨n, hn, rfl⟩ := Option.map_eq_some_iff.1 h
        exact set_some1 s v st n bl bs B w hG hs hB hBw hbl hbs hA hc (by simpa using hx) hn (Nat.le_trans hl hs)
    by_cases h2 : nm = nm2
    · subst h2
      rw [if_neg h0, if_neg h1, if_pos rfl] at h
      by_cases hx : st.r = true
      · rw [if_pos hx] at h; simp at h
      · rw [if_neg hx] at h
        obtain ⟨n, hn, rfl⟩ := Option.map_eq_some_iff.1 h
        exact set_some2 s v st n bl bs B w hG hs hB hBw hbl hbs hA hc (by simpa using hx) hn (Nat.le_trans hl hs)
    by_cases h3 : nm = nm3
    · subst h3
      rw [if_neg h0, if_neg h1, if_neg h2, if_pos rfl] at h
      by_cases hx : st.t = true
      · rw [if_pos hx] at h; simp at h
      · rw [if_neg hx] at h
        obtain ⟨n, hn, rfl⟩ := Option.map_eq_some_iff.1 h
        exact set_some3 s v st n bl bs B w hG hs hB hBw hbl hbs hA hc (by simpa using hx) hn (Nat.le_trans hl hs)
    · rw [if_neg h0, if_neg h1, if_neg h2, if_neg h3] at h; simp at h

theorem set_bad (s : List UInt8) (st : PS) (bl bs B : Nat) (w : World) (hG : G w) (hs : s.length ≤ 4294967280) (hB : 9 ≤ B) (hBw : B ≤ w.heap.size) (hbl : B ≤ bl) (hbs : B ≤ bs) (hA : Arr bl bs st w) (h : st.step s = none) :
    Calls Tryd.prog 36 #[.pointer (some ⟨bl, 0, none⟩), .pointer (some ⟨bs, 0, none⟩), .string ⟨s.toArray⟩] w fun e w' => e = .panicked formErr ∧ Below B w w' := by
  have hl := cut_len s 61
  unfold PS.step at h
  rcases hc : Lib.cut s [61] with ⟨nm, v, ok⟩
  rw [hc] at h hl
  cases ok with
  | false => exact set_nosign s nm v st bl bs B w hG hs hBw hA hc
  | true =>
    simp only [if_true] at h
    unfold PS.put at h
    by_cases h0 : nm = nm0
    · subst h0
      rw [if_pos rfl] at h
      by_cases hx : st.p = true
      · exact set_twice0 s nm0 v st bl bs B w hG hs hBw hA hc hx
      · rw [if_neg hx] at h
        exact set_num0 s v st bl bs B w hG hs hB hBw hbl hbs hA hc (by simpa using hx) (Option.map_eq_none_iff.1 h) (Nat.le_trans hl hs)
    by_cases h1 : nm = nm1
    · subst h1
      rw [if_neg h0, if_pos rfl] at h
      by_cases hx : st.q = true
      · exact set_twice1 s nm1 v st bl bs B w hG hs hBw hA hc hx
      · rw [if_neg hx] at h
        exact set_num1 s v st bl bs B w hG hs hB hBw hbl hbs hA hc (by simpa using hx) (Option.map_eq_none_iff.1 h) (Nat.le_trans hl hs)
    by_cases h2 : nm = nm2
    · subst h2
      rw [if_neg h0, if_neg h1, if_pos rfl] at h
      by_cases hx : st.r = true
      · exact set_twice2 s nm2 v st bl bs B w hG hs hBw hA hc hx
      · rw [if_neg hx] at h
        exact set_num2 s v st bl bs B w hG hs hB hBw hbl hbs hA hc (by simpa using hx) (Option.map_eq_none_iff.1 h) (Nat.le_trans hl hs)
    by_cases h3 : nm = nm3
    · subst h3
      rw [if_neg h0, if_neg h1, if_neg h2, if_pos rfl] at h
      by_cases hx : st.t = true
      · exact set_twice3 s nm3 v st bl bs B w hG hs hBw hA hc hx
      · rw [if_neg hx] at h
        exact set_num3 s v st bl bs B w hG hs hB hBw hbl hbs hA hc (by simpa using hx) (Option.map_eq_none_iff.1 h) (Nat.le_trans hl hs)
    · exact set_other s nm v st bl bs B w hG hs hBw hA hc (fun e => h0 e.symm) (fun e => h1 e.symm) (fun e => h2 e.symm) (fun e => h3 e.symm)
end Go.Proofs.YtlnfpkknhmiegaaDoor
