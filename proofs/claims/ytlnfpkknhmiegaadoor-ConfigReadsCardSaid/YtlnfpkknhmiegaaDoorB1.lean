/- Plain facts on cutting a list of bytes at one byte. -/
import Derived.Lib.Split
namespace Go.Proofs.YtlnfpkknhmiegaaDoor
open Go

/-- A list cut at each instance of a byte. -/
def spl (c : UInt8) : List UInt8 → List (List UInt8)
  | [] => [[]]
  | b :: l => if b = c then [] :: spl c l else match spl c l with
    | [] => [[b]]
    | p :: ps => (b :: p) :: ps

theorem spl_ne (c : UInt8) (l : List UInt8) : spl c l ≠ [] := by
  cases l with
  | nil => simp [spl]
  | cons b l =>
    unfold spl
    split
    · simp
    · split <;> simp

theorem spl_miss {c : UInt8} {l : List UInt8} (h : c ∉ l) : spl c l = [l] := by
  induction l with
  | nil => rfl
  | cons b l ih =>
    have hb : ¬ b = c := fun e => h (by simp [e])
    have hl : c ∉ l := fun e => h (by simp [e])
    simp [spl, hb, ih hl]

theorem spl_hit {c : UInt8} {p r : List UInt8} (h : c ∉ p) : spl c (p ++ c :: r) = p :: spl c r := by
  induction p with
  | nil => simp [spl]
  | cons b p ih =>
    have hb : ¬ b = c := fun e => h (by simp [e])
    have hl : c ∉ p := fun e => h (by simp [e])
    simp [spl, hb, ih hl]

theorem index_miss {c : UInt8} {l : List UInt8} (h : c ∉ l) : Lib.index l [c] = -1 := by
  induction l with
  | nil => rfl
  | cons b l ih =>
    have hb : ¬ c = b := fun e => h (by simp [e])
    have hl : c ∉ l := fun e => h (by simp [e])
    simp [Lib.index, hb, ih hl]

theorem index_hit {c : UInt8} {p r : List UInt8} (h : c ∉ p) : Lib.index (p ++ c :: r) [c] = p.length := by
  induction p with
  | nil => simp [Lib.index]
  | cons b p ih =>
    have hb : ¬ c = b := fun e => h (by simp [e])
    have hl : c ∉ p := fun e => h (by simp [e])
    have hne : ¬ ((p.length : Int) = -1) := by omega
    simp [Lib.index, hb, ih hl, hne]

/-- The first instance of a byte. -/
theorem first_of {c : UInt8} {l : List UInt8} (h : c ∈ l) : ∃ p r, l = p ++ c :: r ∧ c ∉ p := by
  induction l with
  | nil => simp at h
  | cons b l ih =>
    by_cases hb : b = c
    · exact ⟨[], l, by simp [hb], by simp⟩
    · have : c ∈ l := by
        rcases List.mem_cons.1 h with e | e
        · exact absurd e.symm hb
        · exact e
      obtain ⟨p, r, e, hp⟩ := ih this
      exact ⟨b :: p, r, by simp [e], by simp [hp]; exact fun e => hb e.symm⟩

theorem cut_miss {c : UInt8} {l : List UInt8} (h : c ∉ l) : Lib.cut l [c] = (l, [], false) := by
  simp [Lib.cut, index_miss h]
theorem cut_hit {c : UInt8} {p r : List UInt8} (h : c ∉ p) : Lib.cut (p ++ c :: r) [c] = (p, r, true) := by
  have e : (p ++ c :: r).drop (p.length + 1) = r := by
    rw [List.drop_append, List.drop_eq_nil_of_le (by omega)]
    simp
  simp [Lib.cut, index_hit h, e]

theorem cut_len (l : List UInt8) (c : UInt8) : (Lib.cut l [c]).2.1.length ≤ l.length := by
  by_cases h : c ∈ l
  · obtain ⟨p, r, rfl, hp⟩ := first_of h
    rw [cut_hit hp]; simp; omega
  · rw [cut_miss h]; simp

theorem split_eq (c : UInt8) : ∀ (n : Nat) (l : List UInt8), l.length ≤ n → Lib.splitK [c] 0 (Lib.count l [c]) l = spl c l
  | n, l, hn => by
    by_cases h : c ∈ l
    · obtain ⟨p, r, rfl, hp⟩ := first_of h
      have hi := index_hit (r := r) hp
      have hc := Lib.count_hit (s := p ++ c :: r) (sub := [c]) (by simp) hi
      have e : (p ++ c :: r).drop (p.length + [c].length) = r := by
        rw [List.drop_append, List.drop_eq_nil_of_le (by simp)]
        simp
      rw [e] at hc
      have hne : ¬ (Lib.index (p ++ c :: r) [c] == -1) = true := by rw [hi]; simp
      have ht : (Lib.index (p ++ c :: r) [c]).toNat = p.length := by rw [hi]; simp
      rw [hc, Nat.add_comm, Lib.splitK, if_neg hne, ht, e, spl_hit hp]
      cases n with
      | zero => simp at hn
      | succ n => rw [split_eq c n r (by simp at hn; omega)]; simp
    · rw [Lib.count_miss (index_miss h), spl_miss h]; rfl

theorem spl_count (c : UInt8) : ∀ (n : Nat) (l : List UInt8), l.length ≤ n → (spl c l).length = Lib.count l [c] + 1
  | n, l, hn => by
    by_cases h : c ∈ l
    · obtain ⟨p, r, rfl, hp⟩ := first_of h
      have hi := index_hit (r := r) hp
      have hc := Lib.count_hit (s := p ++ c :: r) (sub := [c]) (by simp) hi
      have e : (p ++ c :: r).drop (p.length + [c].length) = r := by
        rw [List.drop_append, List.drop_eq_nil_of_le (by simp)]
        simp
      rw [e] at hc
      rw [hc, spl_hit hp, List.length_cons]
      cases n with
      | zero => simp at hn
      | succ n => rw [spl_count c n r (by simp at hn; omega)]; omega
    · rw [Lib.count_miss (index_miss h), spl_miss h]; rfl

theorem spl_part_len (c : UInt8) : ∀ (n : Nat) (l : List UInt8), l.length ≤ n → ∀ x ∈ spl c l, x.length ≤ l.length
  | n, l, hn, x, hx => by
    by_cases h : c ∈ l
    · obtain ⟨p, r, rfl, hp⟩ := first_of h
      rw [spl_hit hp] at hx
      rcases List.mem_cons.1 hx with rfl | hx
      · simp
      · cases n with
        | zero => simp at hn
        | succ n => have := spl_part_len c n r (by simp at hn; omega) x hx; simp; omega
    · rw [spl_miss h] at hx; simp at hx; rw [hx]; exact Nat.le_refl _
end Go.Proofs.YtlnfpkknhmiegaaDoor
