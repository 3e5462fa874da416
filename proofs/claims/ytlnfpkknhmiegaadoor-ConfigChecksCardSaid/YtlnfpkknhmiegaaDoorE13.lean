/- The reference's Default, and its digits. -/
import Derived.Test.YtlnfpkknhmiegaaDoorE5
import Derived.Test.YtlnfpkknhmiegaaDoorR2
import Derived.Test.YtlnfpkknhmiegaaDoorR3
import Derived.Test.YtlnfpkknhmiegaaDoorP1
namespace Go.Proofs.YtlnfpkknhmiegaaDoor
open Go Go.RowKit

theorem rdefault_any (w : World) : Calls Tryd.prog 33 #[] w fun e w' => e = .returned (quad 60 1024 1024 1024) ∧ Below w.heap.size w w' :=
  PConfigChecks.seepageref39_Default.calls 60 1024 1024 1024 w (by decide)

theorem one_digit (n : Nat) (h : n ≤ 9223372036854775807) : strOfNums [(wrap64 (48 + (Int.tmod n 10))) % 256] = ⟨#[UInt8.ofNat (48 + n % 10)]⟩ := by
  have e : (wrap64 (48 + (Int.tmod n 10))) % 256 = ((48 + n % 10 : Nat) : Int) := by
    have : Int.tmod n 10 = ((n % 10 : Nat) : Int) := by rw [Int.tmod_eq_emod_of_nonneg (by omega)]; omega
    rw [this]; unfold wrap64; omega
  rw [e]
  rfl
theorem digit_step (k n : Nat) (s : ByteArray) (h : n ≤ 9223372036854775807) (hs : s.size ≤ 1000) (hh : s.toList = [] ∨ 0 < n) :
    PConfigChecks.seepageref39_digits.l0 (k + 1) n s = PConfigChecks.seepageref39_digits.l0 k ((n / 10 : Nat) : Int) (⟨#[UInt8.ofNat (48 + n % 10)]⟩ ++ s) := by
  have hd : wrap64 (Int.tdiv n 10) = ((n / 10 : Nat) : Int) := by
    have : Int.tdiv n 10 = ((n / 10 : Nat) : Int) := by rw [Int.tdiv_eq_ediv_of_nonneg (by omega)]; omega
    rw [this]; unfold wrap64; omega
  have hz : (⟨#[UInt8.ofNat (48 + n % 10)]⟩ : ByteArray).size + s.size ≤ 9223372036854775807 := by
    have : (⟨#[UInt8.ofNat (48 + n % 10)]⟩ : ByteArray).size = 1 := rfl
    omega
  simp only [PConfigChecks.seepageref39_digits.l0, Option.bind_some, one_digit n h, hd, if_pos hz]
  by_cases h0 : s.toList = []
  · rw [if_pos h0]
  · rw [if_neg h0, if_pos (by have := hh.resolve_left h0; omega)]
theorem digit_stop (k : Nat) (s : ByteArray) (hs : s.toList ≠ []) : PConfigChecks.seepageref39_digits.l0 (k + 1) 0 s = some s := by
  simp only [PConfigChecks.seepageref39_digits.l0]
  rw [if_neg hs, if_neg (by decide)]
theorem some_more (c : UInt8) (s : ByteArray) : ((⟨#[c]⟩ : ByteArray) ++ s).toList ≠ [] := by
  simp [ByteArray.toList_eq]
/-- The digits of a number, by the reference: what is there stays behind them. -/
theorem rdigits (k : Nat) : ∀ (n : Nat) (s : ByteArray), n < 10 ^ (k + 1) → n ≤ 9223372036854775807 → s.size + k ≤ 1000 → (s.toList = [] ∨ 0 < n) →
    PConfigChecks.seepageref39_digits.l0 (k + 2) n s = some (⟨(Lib.decDigits n).toArray⟩ ++ s) := by
  induction k with
  | zero =>
    intro n s hn hm hs h
    have h10 : n < 10 := by simpa using hn
    rw [digit_step _ n s hm (by omega) h, show n / 10 = 0 by omega]
    rw [show ((0 : Nat) : Int) = 0 from rfl, digit_stop _ _ (some_more _ _), Lib.decDigits_one h10, show n % 10 = n by omega]
  | succ k ih =>
    intro n s hn hm hs h
    by_cases h10 : n < 10
    · rw [digit_step _ n s hm (by omega) h, show n / 10 = 0 by omega]
      rw [show ((0 : Nat) : Int) = 0 from rfl, digit_stop _ _ (some_more _ _), Lib.decDigits_one h10, show n % 10 = n by omega]
    · rw [digit_step _ n s hm (by omega) h, ih (n / 10) _ (by rw [Nat.pow_succ] at hn; omega) (by omega) (by
        have : ((⟨#[UInt8.ofNat (48 + n % 10)]⟩ : ByteArray) ++ s).size = 1 + s.size := by simp [ByteArray.size_append]; rfl
        omega) (.inr (by omega)), dec_step h10]
      congr 1
      apply ByteArray.ext
      simp
theorem rdigits_any (n : Int) (w : World) (h0 : 0 ≤ n) (h1 : n ≤ 9223372036854775807) :
    Calls Tryd.prog 48 #[.int .i64 n] w fun e w' => e = .returned (.string ⟨(Lib.itoa n).toArray⟩) ∧ Below w.heap.size w w' := by
  obtain ⟨m, rfl⟩ := Int.eq_ofNat_of_zero_le h0
  refine PConfigChecks.seepageref39_digits.calls 22 _ _ w ?_
  unfold PConfigChecks.seepageref39_digits.f
  rw [rdigits 20 m ⟨#[]⟩ (Nat.lt_of_le_of_lt (show m ≤ 9223372036854775807 by omega) (by decide)) (by omega) (by decide) (.inl (by decide +kernel)), Lib.itoa_nonneg]
  congr 1
  apply ByteArray.ext
  simp
end Go.Proofs.YtlnfpkknhmiegaaDoor
