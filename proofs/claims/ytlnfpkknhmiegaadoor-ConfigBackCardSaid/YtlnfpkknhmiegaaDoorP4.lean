/- One character more or less. -/
import Derived.Test.YtlnfpkknhmiegaaDoorP2
namespace Go.Proofs.YtlnfpkknhmiegaaDoor
open Go Go.RowKit

/-- The text of a configuration, but for the number of the last setting. -/
def upto (a b c : Int) : List UInt8 := pre0 ++ Lib.itoa a ++ [32] ++ (pre1 ++ Lib.itoa b) ++ [32] ++ (pre2 ++ Lib.itoa c) ++ [32] ++ pre3
theorem text_upto (a b c d : Int) : textL a b c d = upto a b c ++ Lib.itoa d := by simp [textL, upto]
theorem spl_upto {a b c : Int} (ha : 0 ≤ a) (hb : 0 ≤ b) (hc : 0 ≤ c) (v : List UInt8) :
    spl 32 (upto a b c ++ v) = (pre0 ++ Lib.itoa a) :: (pre1 ++ Lib.itoa b) :: (pre2 ++ Lib.itoa c) :: spl 32 (pre3 ++ v) := by
  have e : upto a b c ++ v = (pre0 ++ Lib.itoa a) ++ 32 :: ((pre1 ++ Lib.itoa b) ++ 32 :: ((pre2 ++ Lib.itoa c) ++ 32 :: (pre3 ++ v))) := by
    simp [upto]
  rw [e, spl_hit (set32 ha p0), spl_hit (set32 hb p1), spl_hit (set32 hc p2)]
theorem upto_ne (a b c : Int) (v : List UInt8) : upto a b c ++ v ≠ [] := by simp [upto, pre0]
theorem parsed_upto {a b c : Int} (ha : 0 ≤ a) (hb : 0 ≤ b) (hc : 0 ≤ c) (ha' : a ≤ 9223372036854775807) (hb' : b ≤ 9223372036854775807) (hc' : c ≤ 9223372036854775807) (v : List UInt8) :
    parsed (upto a b c ++ v) = PS.run ⟨a, b, c, 1024, true, true, true, false⟩ (spl 32 (pre3 ++ v)) := by
  unfold parsed
  rw [if_neg (upto_ne _ _ _ _), spl_upto ha hb hc]
  simp only [PS.run, PS.start, step0, step1, step2, numOf_itoa a ha ha', numOf_itoa b hb hb', numOf_itoa c hc hc']
  simp
theorem run_last (st : PS) (v : List UInt8) (h : (32 : UInt8) ∉ v) (ht : st.t = false) : st.run (spl 32 (pre3 ++ v)) = (numOf v).map fun n => { st with t := true, d := n } := by
  rw [spl_miss (fun hc => (List.mem_append.1 hc).elim p3 h)]
  simp only [PS.run, step3, ht]
  cases numOf v <;> rfl

theorem answer_or (a b c n : Int) (p q r t : Bool) : answer (some ⟨a, b, c, n, p, q, r, t⟩) = (a, b, c, n, 0) ∨ answer (some ⟨a, b, c, n, p, q, r, t⟩) = (0, 0, 0, 0, 2) := by
  by_cases h : Valid a b c n
  · exact .inl (answer_valid h)
  · exact .inr (answer_bad h)

/-- Another configuration, or none. -/
def Other (a b c d : Int) (r : Int × Int × Int × Int × Int) : Prop := (∃ n, r = (a, b, c, n, 0) ∧ n ≠ d) ∨ r = (0, 0, 0, 0, 2) ∨ r = (0, 0, 0, 0, 15)

theorem itoa_len_ne {n d : Int} {v : List UInt8} (h : numOf v = some n) (hl : v.length ≠ (Lib.itoa d).length) : n ≠ d := by
  rintro rfl
  obtain ⟨e, -, -⟩ := itoa_numOf h
  exact hl (congrArg List.length e)

theorem last_more {a b c d : Int} (hv : Valid a b c d) (m : UInt8) :
    (IsD m ∧ Other a b c d (answer (parsed (textL a b c d ++ [m])))) ∨ (¬ IsD m ∧ answer (parsed (textL a b c d ++ [m])) = (0, 0, 0, 0, 15)) := by
  obtain ⟨h0, h1, h2, h3, h4, h5, h6, h7⟩ := hv
  rw [text_upto, List.append_assoc, parsed_upto (by omega) (by omega) (by omega) (by omega) (by omega) (by omega)]
  by_cases hm : IsD m
  · left
    refine ⟨hm, ?_⟩
    rw [run_last _ _ (fun hc => by
      rcases List.mem_append.1 hc with hc | hc
      · exact itoa32 (by omega) hc
      · exact hm.ne32 (List.mem_singleton.1 hc).symm) rfl]
    cases hn : numOf (Lib.itoa d ++ [m]) with
    | none => exact .inr (.inr rfl)
    | some n =>
      have hne := itoa_len_ne (d := d) hn (by simp)
      rcases answer_or a b c n true true true true with e | e
      · exact .inl ⟨n, e, hne⟩
      · exact .inr (.inl e)
  · right
    refine ⟨hm, ?_⟩
    by_cases h32 : m = 32
    · subst h32
      have e : pre3 ++ (Lib.itoa d ++ [32]) = (pre3 ++ Lib.itoa d) ++ 32 :: [] := by simp
      rw [e, spl_hit (set32 (by omega) p3)]
      simp only [PS.run, step3, numOf_itoa d (by omega) (by omega), spl_miss (c := 32) (l := []) (by simp)]
      rfl
    · rw [run_last _ _ (fun hc => by
        rcases List.mem_append.1 hc with hc | hc
        · exact itoa32 (by omega) hc
        · exact h32 (List.mem_singleton.1 hc).symm) rfl]
      have hn : numOf (Lib.itoa d ++ [m]) = none := by
        cases hn : numOf (Lib.itoa d ++ [m]) with
        | none => rfl
        | some n => exact absurd (((numOf_iff _ _).1 hn).2.1 m (by simp)) hm
      rw [hn]
      rfl

theorem last_less {a b c d : Int} (hv : Valid a b c d) : Other a b c d (answer (parsed (textL a b c d).dropLast)) := by
  obtain ⟨h0, h1, h2, h3, h4, h5, h6, h7⟩ := hv
  have hne : Lib.itoa d ≠ [] := by
    obtain ⟨m, rfl⟩ := Int.eq_ofNat_of_zero_le h6
    rw [Lib.itoa_nonneg]
    exact (dec_tells m).2.1
  have e : (textL a b c d).dropLast = upto a b c ++ (Lib.itoa d).dropLast := by
    rw [text_upto, List.dropLast_append_of_ne_nil hne]
  rw [e, parsed_upto (by omega) (by omega) (by omega) (by omega) (by omega) (by omega), run_last _ _ (fun hc => itoa32 h6 (List.dropLast_subset _ hc)) rfl]
  cases hn : numOf (Lib.itoa d).dropLast with
  | none => exact .inr (.inr rfl)
  | some n =>
    have hne := itoa_len_ne (d := d) hn (by
      rw [List.length_dropLast]
      have := List.length_pos_iff.2 hne
      omega)
    rcases answer_or a b c n true true true true with e | e
    · exact .inl ⟨n, e, hne⟩
    · exact .inr (.inl e)
end Go.Proofs.YtlnfpkknhmiegaaDoor
