/- A number's digits: one text for each number, and one number for each text. -/
import Derived.Test.YtlnfpkknhmiegaaDoorA4
import Derived.Lib.ItoaMem
namespace Go.Proofs.YtlnfpkknhmiegaaDoor
open Go Go.RowKit

def IsD (c : UInt8) : Prop := 48 ≤ c.toNat ∧ c.toNat ≤ 57
theorem u8_eq {c : UInt8} {n : Nat} (h : c.toNat = n) : c = UInt8.ofNat n := by rw [← h]; simp
theorem digs_iff (c : UInt8) : digs.contains c = true ↔ IsD c := by
  simp only [digs, List.contains_iff_mem, List.mem_cons, List.not_mem_nil, or_false, IsD]
  constructor
  · rintro (rfl | rfl | rfl | rfl | rfl | rfl | rfl | rfl | rfl | rfl) <;> decide
  · rintro ⟨h0, h1⟩
    have hc : c.toNat = 48 ∨ c.toNat = 49 ∨ c.toNat = 50 ∨ c.toNat = 51 ∨ c.toNat = 52 ∨ c.toNat = 53 ∨ c.toNat = 54 ∨ c.toNat = 55 ∨ c.toNat = 56 ∨ c.toNat = 57 := by omega
    rcases hc with h | h | h | h | h | h | h | h | h | h <;> (have := u8_eq h; subst this; decide)

theorem dropWhile_nil {α : Type} (p : α → Bool) (l : List α) : l.dropWhile p = [] ↔ ∀ x ∈ l, p x = true := by
  induction l with
  | nil => simp
  | cons x l ih =>
    rw [List.dropWhile_cons]
    by_cases h : p x = true
    · simp [h, ih]
    · simp [h]
theorem dropWhile_head {α : Type} (p : α → Bool) (l : List α) {x : α} {r : List α} (h : l.dropWhile p = x :: r) : p x = false := by
  induction l with
  | nil => simp at h
  | cons y l ih =>
    rw [List.dropWhile_cons] at h
    by_cases hy : p y = true
    · rw [if_pos hy] at h; exact ih h
    · rw [if_neg hy] at h
      simp at h
      rw [← h.1]; simpa using hy
theorem trim_digits (l : List UInt8) : Lib.trimS l digs = [] ↔ ∀ c ∈ l, IsD c := by
  unfold Lib.trimS Lib.trimLeftS Lib.trimRightS
  rw [dropWhile_nil]
  constructor
  · intro h
    have h2 : l.reverse.dropWhile (digs.contains ·) = [] := by
      cases hr : l.reverse.dropWhile (digs.contains ·) with
      | nil => rfl
      | cons x r =>
        have h0 := dropWhile_head _ _ hr
        have h1 := h x (by rw [hr]; simp)
        rw [h1] at h0
        cases h0
    rw [dropWhile_nil] at h2
    exact fun c hc => (digs_iff c).1 (h2 c (by simpa using hc))
  · intro h x hx
    have h2 : l.reverse.dropWhile (digs.contains ·) = [] := (dropWhile_nil _ _).2 fun c hc => (digs_iff c).2 (h c (by simpa using hc))
    rw [h2] at hx
    simp at hx

/-- What digits spell, behind acc. -/
def val (acc : Nat) : List UInt8 → Nat
  | [] => acc
  | c :: r => val (acc * 10 + (c.toNat - 48)) r
theorem val_ge (l : List UInt8) : ∀ acc, acc ≤ val acc l := by
  induction l with
  | nil => intro acc; exact Nat.le_refl _
  | cons c r ih => intro acc; exact Nat.le_trans (by omega) (ih _)
theorem val_append (l : List UInt8) (c : UInt8) : ∀ acc, val acc (l ++ [c]) = val acc l * 10 + (c.toNat - 48) := by
  induction l with
  | nil => intro acc; rfl
  | cons d r ih => intro acc; exact ih _
theorem parse_val (l : List UInt8) : ∀ acc, (∀ c ∈ l, IsD c) → val acc l ≤ 18446744073709551615 → Lib.parseUintM (2 ^ 64 - 1) acc l = .ok (val acc l) := by
  induction l with
  | nil => intro acc _ _; rfl
  | cons c r ih =>
    intro acc hd hv
    have hc : 48 ≤ c.toNat ∧ c.toNat ≤ 57 := hd c (by simp)
    have h1 := val_ge r (acc * 10 + (c.toNat - 48))
    have hv' : val (acc * 10 + (c.toNat - 48)) r ≤ 18446744073709551615 := hv
    unfold Lib.parseUintM
    rw [if_pos hc, if_neg (by omega), if_neg (by omega)]
    exact ih _ (fun x hx => hd x (by simp [hx])) hv'
theorem parse_only (l : List UInt8) : ∀ acc u, Lib.parseUintM (2 ^ 64 - 1) acc l = .ok u → u = val acc l := by
  induction l with
  | nil => intro acc u h; unfold Lib.parseUintM at h; injection h with h; exact h.symm
  | cons c r ih =>
    intro acc u h
    unfold Lib.parseUintM at h
    split at h
    · split at h
      · cases h
      · split at h
        · cases h
        · exact ih _ _ h
    · cases h

/-- What config.number returns. -/
theorem numOf_iff (l : List UInt8) (n : Int) : numOf l = some n ↔ l ≠ [] ∧ (∀ c ∈ l, IsD c) ∧ (l = [48] ∨ l.head? ≠ some 48) ∧ n = (val 0 l : Nat) ∧ val 0 l ≤ 9223372036854775807 := by
  cases l with
  | nil => simp [numOf]
  | cons c r =>
    simp only [numOf]
    by_cases h0 : c = 48 ∧ r ≠ []
    · rw [if_pos h0]
      refine ⟨fun h => (by cases h), fun h => ?_⟩
      obtain ⟨-, -, h1, -⟩ := h
      rcases h1 with h1 | h1
      · simp at h1; exact absurd h1.2 h0.2
      · simp at h1; exact absurd h0.1 h1
    · rw [if_neg h0]
      by_cases h1 : Lib.trimS (c :: r) digs = []
      · rw [if_pos h1]
        have hd := (trim_digits _).1 h1
        have hc := hd c (by simp)
        have hh : (c :: r = [48] ∨ (c :: r).head? ≠ some 48) := by
          by_cases hr : r = []
          · by_cases h48 : c = 48
            · left; rw [hr, h48]
            · right; simpa using h48
          · right; simp; exact fun e => h0 ⟨e, hr⟩
        have hp : Lib.parseIntB 64 (c :: r) = Lib.signlessC (2 ^ 63) (Lib.parseUintB 64 (c :: r)) := Lib.parseIntB_plain 64 c r (by have := hc.1; have := hc.2; omega) (by have := hc.1; have := hc.2; omega)
        have hu : Lib.parseUintB 64 (c :: r) = Lib.parseUintM (2 ^ 64 - 1) 0 (c :: r) := by unfold Lib.parseUintB; rw [if_neg (by simp)]
        rw [hp, hu]
        by_cases hv : val 0 (c :: r) ≤ 18446744073709551615
        · rw [parse_val _ _ hd hv]
          unfold Lib.signlessC
          by_cases hs : 2 ^ 63 ≤ val 0 (c :: r)
          · simp only [hs, if_true]
            refine ⟨fun h => (by cases h), fun h => ?_⟩
            have := h.2.2.2.2
            omega
          · simp only [hs, if_false]
            constructor
            · intro h
              injection h with h
              exact ⟨by simp, hd, hh, h.symm, by omega⟩
            · intro h
              rw [h.2.2.2.1]
        · refine ⟨fun h => ?_, fun h => by have := h.2.2.2.2; omega⟩
          cases hq : Lib.parseUintM (2 ^ 64 - 1) 0 (c :: r) with
          | ok u =>
            have h3 := parse_only _ _ _ hq
            have h4 : Lib.parseUintB 64 (c :: r) = .ok u := hu.trans hq
            have h5 := Lib.parseUintB_le h4
            omega
          | range => rw [hq] at h; simp [Lib.signlessC] at h
          | _ => rw [hq] at h; simp [Lib.signlessC] at h
      · rw [if_neg h1]
        refine ⟨fun h => (by cases h), fun h => absurd ((trim_digits _).2 h.2.1) h1⟩

theorem dec_step {n : Nat} (h : ¬ n < 10) : Lib.decDigits n = Lib.decDigits (n / 10) ++ [UInt8.ofNat (48 + n % 10)] := by
  rw [Lib.decDigits, dif_neg h]
/-- The one text of what digits spell. -/
theorem dec_val_at (n : Nat) : ∀ l : List UInt8, l.length = n → (∀ c ∈ l, IsD c) → l ≠ [] → (l = [48] ∨ l.head? ≠ some 48) → Lib.decDigits (val 0 l) = l := by
  induction n with
  | zero => intro l hl _ h; exact absurd (List.length_eq_zero_iff.1 hl) h
  | succ n ih0 =>
    intro l hl hd hne hh
    obtain rfl | ⟨r, c, rfl⟩ := List.eq_nil_or_concat l
    · exact absurd rfl hne
    simp only [List.concat_eq_append] at hl hd hh hne ⊢
    have ih := ih0 r (by simpa using hl)
    have hc : 48 ≤ c.toNat ∧ c.toNat ≤ 57 := hd c (by simp)
    have ec : UInt8.ofNat (48 + (c.toNat - 48)) = c := (u8_eq (by omega)).symm
    rw [val_append]
    by_cases hr : r = []
    · subst hr
      have e0 : val 0 [] * 10 + (c.toNat - 48) = c.toNat - 48 := by show 0 * 10 + (c.toNat - 48) = _; omega
      rw [e0, Lib.decDigits_one (by omega), ec, List.nil_append]
    · have h1 : r.head? ≠ some 48 := by
        rcases hh with hh | hh
        · exfalso
          have h3 := congrArg List.length hh
          have h2 : 0 < r.length := List.length_pos_iff.2 hr
          rw [List.length_append] at h3
          simp only [List.length_cons, List.length_nil] at h3
          omega
        · cases r with
          | nil => exact absurd rfl hr
          | cons x y => simpa using hh
      have hi := ih (fun x hx => hd x (by simp [hx])) hr (.inr h1)
      have hpos : val 0 r ≠ 0 := by
        intro h0
        rw [h0, Lib.decDigits_one (by decide)] at hi
        rw [← hi] at h1
        exact h1 rfl
      rw [dec_step (by omega)]
      have e1 : (val 0 r * 10 + (c.toNat - 48)) / 10 = val 0 r := by omega
      have e2 : (val 0 r * 10 + (c.toNat - 48)) % 10 = c.toNat - 48 := by omega
      rw [e1, e2, hi, ec]

theorem dec_val (l : List UInt8) : (∀ c ∈ l, IsD c) → l ≠ [] → (l = [48] ∨ l.head? ≠ some 48) → Lib.decDigits (val 0 l) = l := dec_val_at _ l rfl
/-- A number's text has digits alone, and spells it. -/
theorem dec_tells (n : Nat) : (∀ c ∈ Lib.decDigits n, IsD c) ∧ Lib.decDigits n ≠ [] ∧ (Lib.decDigits n = [48] ∨ (Lib.decDigits n).head? ≠ some 48) ∧ val 0 (Lib.decDigits n) = n := by
  induction n using Nat.strongRecOn with
  | _ n ih =>
    by_cases h : n < 10
    · rw [Lib.decDigits_one h]
      have e : (UInt8.ofNat (48 + n)).toNat = 48 + n := by simp; omega
      refine ⟨fun c hc => ?_, by simp, ?_, ?_⟩
      · rw [List.mem_singleton] at hc; subst hc; unfold IsD; rw [e]; omega
      · by_cases h0 : n = 0
        · left; subst h0; rfl
        · right
          simp only [List.head?_cons, ne_eq, Option.some.injEq]
          intro e2
          have := congrArg UInt8.toNat e2
          rw [e] at this
          have : (48 : UInt8).toNat = 48 := rfl
          omega
      · show 0 * 10 + ((UInt8.ofNat (48 + n)).toNat - 48) = n
        rw [e]; omega
    · obtain ⟨h1, h2, h3, h4⟩ := ih (n / 10) (by omega)
      rw [dec_step h]
      have e : (UInt8.ofNat (48 + n % 10)).toNat = 48 + n % 10 := by simp; omega
      refine ⟨fun c hc => ?_, by simp, ?_, ?_⟩
      · rcases List.mem_append.1 hc with hc | hc
        · exact h1 c hc
        · rw [List.mem_singleton] at hc; subst hc; unfold IsD; rw [e]; omega
      · right
        rcases h3 with h3 | h3
        · exfalso
          rw [h3] at h4
          have : val 0 [48] = 0 := by decide
          omega
        · cases hr : Lib.decDigits (n / 10) with
          | nil => exact absurd hr h2
          | cons x y => rw [hr] at h3; simpa using h3
      · rw [val_append, h4, e]; omega

theorem numOf_itoa (n : Int) (h0 : 0 ≤ n) (h1 : n ≤ 9223372036854775807) : numOf (Lib.itoa n) = some n := by
  obtain ⟨m, rfl⟩ := Int.eq_ofNat_of_zero_le h0
  rw [Lib.itoa_nonneg]
  obtain ⟨a, b, c, d⟩ := dec_tells m
  exact (numOf_iff _ _).2 ⟨b, a, c, by rw [d], by rw [d]; omega⟩
theorem itoa_numOf {l : List UInt8} {n : Int} (h : numOf l = some n) : l = Lib.itoa n ∧ 0 ≤ n ∧ n ≤ 9223372036854775807 := by
  obtain ⟨a, b, c, d, e⟩ := (numOf_iff _ _).1 h
  subst d
  rw [Lib.itoa_nonneg, dec_val l b a c]
  exact ⟨rfl, by omega, by omega⟩
theorem itoa_digits (n : Int) (h0 : 0 ≤ n) : ∀ c ∈ Lib.itoa n, IsD c := by
  obtain ⟨m, rfl⟩ := Int.eq_ofNat_of_zero_le h0
  rw [Lib.itoa_nonneg]
  exact (dec_tells m).1
end Go.Proofs.YtlnfpkknhmiegaaDoor
