/- The reference's number, setting, split and Parse, and the walk of ConfigReads. -/
import Derived.Test.YtlnfpkknhmiegaaDoorR3
import Derived.Test.YtlnfpkknhmiegaaDoorR4
import Derived.Test.YtlnfpkknhmiegaaDoorP1
import Derived.Test.YtlnfpkknhmiegaaDoorP2
import Derived.Test.YtlnfpkknhmiegaaDoorE14
import Derived.Test.YtlnfpkknhmiegaaDoorC1
import Derived.Test.YtlnfpkknhmiegaaDoorC2
import Derived.Test.YtlnfpkknhmiegaaDoorE3
import Derived.OwnWalk
import Derived.Deep.AppendLies
namespace Go.Proofs.YtlnfpkknhmiegaaDoor
section
open Go Go.RowKit Go.Proofs.YtlnfpkknhmiegaaDoorW.PrintWords Go.Proofs.YtlnfpkknhmiegaaDoorW.PrintLast Go.Proofs.YtlnfpkknhmiegaaDoorW.PrintMore

theorem val_lt (l : List UInt8) : ∀ acc, (∀ c ∈ l, IsD c) → val acc l < (acc + 1) * 10 ^ l.length := by
  induction l with
  | nil => intro acc _; show acc < (acc + 1) * 1; omega
  | cons c r ih =>
    intro acc h
    have hc : 48 ≤ c.toNat ∧ c.toNat ≤ 57 := h c (by simp)
    have h1 := ih (acc * 10 + (c.toNat - 48)) (fun x hx => h x (by simp [hx]))
    have h2 : (acc * 10 + (c.toNat - 48) + 1) * 10 ^ r.length ≤ ((acc + 1) * 10) * 10 ^ r.length := Nat.mul_le_mul_right _ (by omega)
    have h3 : (acc + 1) * 10 ^ (c :: r).length = ((acc + 1) * 10) * 10 ^ r.length := by
      rw [List.length_cons, Nat.pow_succ, Nat.mul_assoc, Nat.mul_comm 10]
    rw [h3]
    exact Nat.lt_of_lt_of_le h1 h2
theorem val_more : ∀ (l : List UInt8) (acc : Nat), acc * 10 ^ l.length ≤ val acc l := by
  intro l
  induction l with
  | nil => intro acc; show acc * 1 ≤ acc; omega
  | cons x y ih =>
    intro acc
    refine Nat.le_trans ?_ (ih _)
    rw [List.length_cons, Nat.pow_succ, Nat.mul_comm _ 10, ← Nat.mul_assoc]
    exact Nat.mul_le_mul_right _ (by omega)
/-- A number of many digits is great. -/
theorem val_long (a : UInt8) (r : List UInt8) (h : 49 ≤ a.toNat) (hr : 19 ≤ r.length) : 9223372036854775807 < val 0 (a :: r) := by
  have h5 := val_more r (0 * 10 + (a.toNat - 48))
  have h7 : 10 ^ 19 ≤ 10 ^ r.length := Nat.pow_le_pow_right (by decide) hr
  have h8 : 1 * 10 ^ r.length ≤ (0 * 10 + (a.toNat - 48)) * 10 ^ r.length := Nat.mul_le_mul_right _ (by omega)
  rw [Nat.one_mul] at h8
  have h9 : val 0 (a :: r) = val (0 * 10 + (a.toNat - 48)) r := rfl
  rw [h9]
  exact Nat.lt_of_lt_of_le (show 9223372036854775807 < 10 ^ 19 by decide) (Nat.le_trans h7 (Nat.le_trans h8 h5))
theorem bt_list (s : ByteArray) (i : Nat) (h : i < s.size) : ∃ c, s.data.toList[i]? = some c ∧ bt s i = (c.toNat : Int) := by
  have hl : i < s.data.toList.length := by simpa using h
  refine ⟨s.data.toList[i], List.getElem?_eq_getElem hl, ?_⟩
  have := bt_at s (i : Int) (by simpa using h)
  rw [← this]
  rfl

/-- What the reference's number answers. -/
def rnum (l : List UInt8) : Int × Bool := match numOf l with
  | some n => (n, true)
  | none => (0, false)
theorem rnum_none {l : List UInt8} (h : ∀ n : Int, ¬ (l ≠ [] ∧ (∀ c ∈ l, IsD c) ∧ (l = [48] ∨ l.head? ≠ some 48) ∧ n = (val 0 l : Nat) ∧ val 0 l ≤ 9223372036854775807)) : rnum l = (0, false) := by
  unfold rnum
  cases hn : numOf l with
  | none => rfl
  | some n => exact absurd ((numOf_iff l n).1 hn) (h n)
theorem rnum_some {l : List UInt8} (h0 : l ≠ []) (h1 : ∀ c ∈ l, IsD c) (h2 : l = [48] ∨ l.head? ≠ some 48) (h3 : val 0 l ≤ 9223372036854775807) : rnum l = (((val 0 l : Nat) : Int), true) := by
  unfold rnum
  rw [(numOf_iff l ((val 0 l : Nat) : Int)).2 ⟨h0, h1, h2, rfl, h3⟩]

theorem num_l0 (s : ByteArray) (hs : s.size ≤ 19) (h0 : s.data.toList ≠ []) (h2 : s.data.toList = [48] ∨ s.data.toList.head? ≠ some 48) : ∀ (d k i : Nat), s.size - i = d → i ≤ s.size → d < k → (∀ c ∈ s.data.toList.take i, IsD c) →
    PConfigChecks.seepageref39_number.l0 k s ((val 0 (s.data.toList.take i) : Nat) : Int) (i : Int) = some (rnum s.data.toList) := by
  have hll : s.data.toList.length = s.size := by simp
  intro d
  induction d with
  | zero =>
    intro k i hd hi hk hp
    obtain ⟨k, rfl⟩ : ∃ m, k = m + 1 := ⟨k - 1, by omega⟩
    have hi' : i = s.size := by omega
    subst hi'
    have ht : s.data.toList.take s.size = s.data.toList := List.take_of_length_le (by omega)
    rw [ht] at hp ⊢
    simp only [PConfigChecks.seepageref39_number.l0]
    rw [if_neg (by omega)]
    by_cases hv : val 0 s.data.toList ≤ 9223372036854775807
    · rw [if_neg (by omega), rnum_some h0 hp h2 hv]
      congr 2
      unfold wrap64; omega
    · rw [if_pos (by omega), rnum_none]
      rintro n ⟨-, -, -, -, h⟩
      exact hv h
  | succ d ih =>
    intro k i hd hi hk hp
    obtain ⟨k, rfl⟩ : ∃ m, k = m + 1 := ⟨k - 1, by omega⟩
    obtain ⟨c, hc, hb⟩ := bt_list s i (by omega)
    have hmem : c ∈ s.data.toList := List.mem_of_getElem? hc
    have hlt := c.toNat_lt
    simp only [PConfigChecks.seepageref39_number.l0]
    rw [if_pos (by omega), if_pos (by omega), hb]
    by_cases h48 : c.toNat < 48
    · rw [if_pos (by omega), rnum_none]
      rintro n ⟨-, h, -⟩
      have : 48 ≤ c.toNat ∧ _ := h c hmem
      omega
    · by_cases h57 : 57 < c.toNat
      · rw [if_neg (by omega), if_pos (by omega), rnum_none]
        rintro n ⟨-, h, -⟩
        have : _ ∧ c.toNat ≤ 57 := h c hmem
        omega
      · rw [if_neg (by omega), if_neg (by omega)]
        have hl : i < s.data.toList.length := by omega
        have hg : s.data.toList[i] = c := by
          have := List.getElem?_eq_getElem hl
          rw [this] at hc; injection hc
        have ht : s.data.toList.take (i + 1) = s.data.toList.take i ++ [c] := by
          rw [List.take_succ_eq_append_getElem hl, hg]
        have hv := val_lt (s.data.toList.take i) 0 hp
        have hv2 : val 0 (s.data.toList.take i) < 10 ^ 18 := by
          refine Nat.lt_of_lt_of_le hv ?_
          rw [Nat.zero_add, Nat.one_mul]
          exact Nat.pow_le_pow_right (by decide) (by rw [List.length_take]; omega)
        have h18 : (10 : Nat) ^ 18 = 1000000000000000000 := by decide
        rw [h18] at hv2
        clear hv h18
        have hw : IntKind.u64.wrap (IntKind.u64.wrap (((val 0 (s.data.toList.take i) : Nat) : Int) * 10) + (((c.toNat : Int) - 48) % 256)) = ((val 0 (s.data.toList.take (i + 1)) : Nat) : Int) := by
          rw [ht, val_append]
          generalize val 0 (s.data.toList.take i) = v at hv2
          rw [IntWalk.u64_in (((v : Nat) : Int) * 10) ⟨by omega, by omega⟩, IntWalk.u64_in _ ⟨by omega, by omega⟩]
          omega
        have hw1 : wrap64 ((i : Int) + 1) = ((i + 1 : Nat) : Int) := by unfold wrap64; omega
        rw [hw, hw1]
        clear hw hw1 hv2
        refine ih k (i + 1) (by omega) (by omega) (by omega) ?_
        intro x hx
        rw [ht] at hx
        rcases List.mem_append.1 hx with h | h
        · exact hp x h
        · have : x = c := by simpa using h
          subst this
          exact ⟨by omega, by omega⟩

theorem rnumber_f (s : ByteArray) : PConfigChecks.seepageref39_number.f 30 s = some (rnum s.data.toList) := by
  have hll : s.data.toList.length = s.size := by simp
  unfold PConfigChecks.seepageref39_number.f
  by_cases h1 : s.size = 0
  · have hn : s.data.toList = [] := List.eq_nil_of_length_eq_zero (by omega)
    rw [if_pos (by omega), hn]
    simp [PConfigChecks.seepageref39_number.j0, rnum, numOf]
  · have hne : s.data.toList ≠ [] := fun e => h1 (by rw [← hll, e]; rfl)
    rw [if_neg (by omega)]
    obtain ⟨c, hc, hb⟩ := bt_list s 0 (by omega)
    have hh : s.data.toList.head? = some c := by rw [List.head?_eq_getElem?]; exact hc
    by_cases h19 : 19 < s.size
    · rw [if_pos (by omega)]
      simp only [PConfigChecks.seepageref39_number.j0, if_true]
      rw [rnum_none]
      rintro n ⟨-, h, h3, -, h4⟩
      have h48 : s.data.toList.head? ≠ some 48 := by
        rcases h3 with h3 | h3
        · rw [h3] at hll; simp at hll; omega
        · exact h3
      cases hl : s.data.toList with
      | nil => exact hne hl
      | cons a r =>
        rw [hl] at h h4 h48 hll
        have ha : 48 ≤ a.toNat ∧ a.toNat ≤ 57 := h a (by simp)
        have ha2 : a.toNat ≠ 48 := fun e => h48 (by simp [u8_eq e])
        have h5 := val_long a r (by omega) (by simp at hll; omega)
        exact Nat.not_le_of_lt h5 h4
    · rw [if_neg (by omega), if_pos (by omega)]
      have h00 : bt s 0 = (c.toNat : Int) := hb
      rw [h00]
      by_cases h48 : c.toNat = 48
      · have hc48 : c = 48 := u8_eq h48
        subst hc48
        rw [if_pos (by omega)]
        by_cases h2 : 1 < s.size
        · rw [show decide ((s.size : Int) > 1) = true from by simp; omega]
          simp only [PConfigChecks.seepageref39_number.j0, if_true]
          rw [rnum_none]
          rintro n ⟨-, -, h3, -⟩
          rcases h3 with h3 | h3
          · rw [h3] at hll; simp at hll; omega
          · exact h3 hh
        · rw [show decide ((s.size : Int) > 1) = false from by simp; omega]
          simp only [PConfigChecks.seepageref39_number.j0]
          rw [if_neg (by decide)]
          have hl48 : s.data.toList = [48] := by
            cases hl : s.data.toList with
            | nil => exact absurd hl hne
            | cons a r =>
              rw [hl] at hll hh
              have : r = [] := List.eq_nil_of_length_eq_zero (by simp at hll; omega)
              simp at hh
              rw [hh, this]
          exact num_l0 s (by omega) hne (.inl hl48) s.size 29 0 (by omega) (by omega) (by omega) (by simp)
      · rw [if_neg (by omega)]
        simp only [PConfigChecks.seepageref39_number.j0]
        rw [if_neg (by decide)]
        exact num_l0 s (by omega) hne (.inr (by rw [hh]; intro e; injection e with e; subst e; exact h48 rfl)) s.size 29 0 (by omega) (by omega) (by omega) (by simp)
theorem rnumber_any (l : List UInt8) (w : World) :
    Calls Tryd.prog 51 #[.string ⟨l.toArray⟩] w fun e w' => e = .returned (.tuple #[.int .i64 (rnum l).1, .bool (rnum l).2]) ∧ Below w.heap.size w w' :=
  (PConfigChecks.seepageref39_number.calls 30 ⟨l.toArray⟩ (rnum l).1 (rnum l).2 w (rnumber_f ⟨l.toArray⟩)).mono fun _ _ ⟨he, hd⟩ => ⟨he, hd.below⟩
end
open Go Go.RowKit
theorem rdefault_any' (w : World) : Calls Tryd.prog 33 #[] w fun e w' => e = .returned (quad 60 1024 1024 1024) ∧ Below w.heap.size w w' :=
  PConfigChecks.seepageref39_Default.calls 60 1024 1024 1024 w (by decide)
section

/-- The number of a setting whose name, with the sign behind it, is p. -/
def hit (p s : List UInt8) : Option Int := if s.take p.length = p then numOf (s.drop p.length) else none
def rset (s : List UInt8) : Int × Int := match hit pre0 s with
  | some n => (0, n)
  | none => match hit pre1 s with
    | some n => (1, n)
    | none => match hit pre2 s with
      | some n => (2, n)
      | none => match hit pre3 s with
        | some n => (3, n)
        | none => (-1, 0)
theorem cut_at (s : List UInt8) (n : Nat) : (⟨s.toArray⟩ : ByteArray).extract n s.length = ⟨(s.drop n).toArray⟩ := by
  apply ByteArray.ext
  simp
  exact List.take_of_length_le (by simp)
theorem head_at (s : List UInt8) (n : Nat) : ((⟨s.toArray⟩ : ByteArray).extract 0 n).toList = s.take n := by
  simp [ByteArray.toList_eq]
theorem num_some (s : List UInt8) (k : Nat) (n : Int) (h : numOf (s.drop k) = some n) (w : World) :
    Calls Tryd.prog 51 #[.string ((⟨s.toArray⟩ : ByteArray).extract k s.length)] w fun e w' => e = .returned (.tuple #[.int .i64 n, .bool true]) ∧ Below w.heap.size w w' := by
  have := rnumber_any (s.drop k) w
  rw [cut_at]
  unfold rnum at this
  rw [h] at this
  exact this
theorem num_none (s : List UInt8) (k : Nat) (h : numOf (s.drop k) = none) (w : World) :
    Calls Tryd.prog 51 #[.string ((⟨s.toArray⟩ : ByteArray).extract k s.length)] w fun e w' => e = .returned (.tuple #[.int .i64 0, .bool false]) ∧ Below w.heap.size w w' := by
  have := rnumber_any (s.drop k) w
  rw [cut_at]
  unfold rnum at this
  rw [h] at this
  exact this
theorem rows_on {r : Nat} {w w' : World} (h : w.heap[r]? = some (.cells rowCells 85 (0, 0))) (hb : Below w.heap.size w w') : w'.heap[r]? = some (.cells rowCells 85 (0, 0)) := (hb.block _ (Array.getElem?_eq_some_iff.1 h).1).trans h

theorem is0 (s : List UInt8) (h : s.take 7 = pre0) : (((⟨s.toArray⟩ : ByteArray).extract 0 7).toList == (sWindow ++ ⟨#[61]⟩ : ByteArray).toList) = true := by
  rw [head_at, h]; decide +kernel
theorem no0 (s : List UInt8) (h : s.take 7 ≠ pre0) : (((⟨s.toArray⟩ : ByteArray).extract 0 7).toList == (sWindow ++ ⟨#[61]⟩ : ByteArray).toList) = false := by
  rw [head_at, show (sWindow ++ ⟨#[61]⟩ : ByteArray).toList = pre0 by decide +kernel]
  exact beq_eq_false_iff_ne.2 h
theorem is1 (s : List UInt8) (h : s.take 6 = pre1) : (((⟨s.toArray⟩ : ByteArray).extract 0 6).toList == (sEdges ++ ⟨#[61]⟩ : ByteArray).toList) = true := by
  rw [head_at, h]; decide +kernel
theorem no1 (s : List UInt8) (h : s.take 6 ≠ pre1) : (((⟨s.toArray⟩ : ByteArray).extract 0 6).toList == (sEdges ++ ⟨#[61]⟩ : ByteArray).toList) = false := by
  rw [head_at, show (sEdges ++ ⟨#[61]⟩ : ByteArray).toList = pre1 by decide +kernel]
  exact beq_eq_false_iff_ne.2 h
theorem is2 (s : List UInt8) (h : s.take 6 = pre2) : (((⟨s.toArray⟩ : ByteArray).extract 0 6).toList == (sVerts ++ ⟨#[61]⟩ : ByteArray).toList) = true := by
  rw [head_at, h]; decide +kernel
theorem no2 (s : List UInt8) (h : s.take 6 ≠ pre2) : (((⟨s.toArray⟩ : ByteArray).extract 0 6).toList == (sVerts ++ ⟨#[61]⟩ : ByteArray).toList) = false := by
  rw [head_at, show (sVerts ++ ⟨#[61]⟩ : ByteArray).toList = pre2 by decide +kernel]
  exact beq_eq_false_iff_ne.2 h
theorem is3 (s : List UInt8) (h : s.take 6 = pre3) : (((⟨s.toArray⟩ : ByteArray).extract 0 6).toList == (sDraws ++ ⟨#[61]⟩ : ByteArray).toList) = true := by
  rw [head_at, h]; decide +kernel
theorem no3 (s : List UInt8) (h : s.take 6 ≠ pre3) : (((⟨s.toArray⟩ : ByteArray).extract 0 6).toList == (sDraws ++ ⟨#[61]⟩ : ByteArray).toList) = false := by
  rw [head_at, show (sDraws ++ ⟨#[61]⟩ : ByteArray).toList = pre3 by decide +kernel]
  exact beq_eq_false_iff_ne.2 h

set_option maxRecDepth 100000 in
set_option maxHeartbeats 8000000 in
theorem rsetting_any (s : List UInt8) (w : World) (hs : s.length ≤ 4294967280) :
    Calls Tryd.prog 40 #[.string ⟨s.toArray⟩] w fun e w' => e = .returned (.tuple #[.int .i64 (rset s).1, .int .i64 (rset s).2]) ∧ Below w.heap.size w w' := by
  have hs1 : (s.length : Int) ≤ 4294967280 := by omega
  go_enter Tryd.func40, Tryd.ntmps40
  go_wp2_with (go_at_call 47; refine (rrows_any _).mono ?_; rintro e w1 ⟨r, rfl, hr, hb1, hR⟩; refine Hid.out ?_)
  have HB1 := Lib.hid hb1
  have HR1 := Lib.hid hR
  clear hb1 hR hr
  refine Lib.hid ?_
  go_wp2_with fail
  go_loopw [5] (fun i wr => (i = .int .i64 0 ∨ (i = .int .i64 1 ∧ Hid (hit pre0 s = none)) ∨ (i = .int .i64 2 ∧ Hid (hit pre0 s = none ∧ hit pre1 s = none)) ∨ (i = .int .i64 3 ∧ Hid (hit pre0 s = none ∧ hit pre1 s = none ∧ hit pre2 s = none)) ∨ (i = .int .i64 4 ∧ Hid (hit pre0 s = none ∧ hit pre1 s = none ∧ hit pre2 s = none ∧ hit pre3 s = none))) ∧ wr.heap[r]? = some (.cells rowCells 85 (0, 0)) ∧ Below w.heap.size w wr) (fun i _ => 4 - (intOf i).toNat)
  case atStart => exact ⟨.inl rfl, HR1.out, HB1.out⟩
  case round =>
    obtain ⟨hi, hR, hB⟩ := hrel
    have HR := Lib.hid hR; have HB := Lib.hid hB
    have r0 := cells_of_block hR 0
    have r3 := cells_of_block hR 3
    have r6 := cells_of_block hR 6
    have r9 := cells_of_block hR 9
    clear hR hB HR1 HB1
    simp at r0 r3 r6 r9
    rcases hi with rfl | ⟨rfl, K⟩ | ⟨rfl, K⟩ | ⟨rfl, K⟩ | ⟨rfl, K⟩
    · by_cases hp : s.take 7 = pre0
      · have hl : 7 ≤ s.length := by
          have := congrArg List.length hp
          rw [List.length_take] at this
          have h2 : pre0.length = 7 := rfl
          omega
        have he := is0 s hp
        cases hn : numOf (s.drop 7) with
        | none =>
          have H : Hid (hit pre0 s = none) := Lib.hid (by unfold hit; rw [if_pos (show s.take pre0.length = pre0 from hp)]; exact hn)
          have HN := Lib.hid (num_none s 7 hn)
          clear hn hp
          go_wp2_with (go_at_call 51; refine (HN.out _).mono ?_; rintro e w2 ⟨rfl, hb2⟩; have H2 := Lib.hid hb2; clear hb2)
          go_roundw
          case rel => exact ⟨.inr (.inl ⟨rfl, Lib.hid H.out⟩), rows_on HR.out H2.out, HB.out.trans (H2.out.mono HB.out.size)⟩
          case measure => simp [intOf]
        | some n =>
          have H : Hid (hit pre0 s = some n) := Lib.hid (by unfold hit; rw [if_pos (show s.take pre0.length = pre0 from hp)]; exact hn)
          have HN := Lib.hid (num_some s 7 n hn)
          clear hn hp
          go_wp2_with (go_at_call 51; refine (HN.out _).mono ?_; rintro e w2 ⟨rfl, hb2⟩; have H2 := Lib.hid hb2; clear hb2)
          go_ret2
          have hq : rset s = (0, n) := by unfold rset; rw [H.out]
          rw [hq]
          exact ⟨rfl, HB.out.trans (H2.out.mono HB.out.size)⟩
      · have H : Hid (hit pre0 s = none) := Lib.hid (by unfold hit; rw [if_neg (show ¬ s.take pre0.length = pre0 from hp)])
        by_cases hl : s.length < 7
        · clear hp
          go_wp2
          go_roundw
          case rel => exact ⟨.inr (.inl ⟨rfl, Lib.hid H.out⟩), HR.out, HB.out⟩
          case measure => simp [intOf]
        · have he := no0 s hp
          have hl2 : 7 ≤ s.length := by omega
          clear hp hl
          go_wp2
          go_roundw
          case rel => exact ⟨.inr (.inl ⟨rfl, Lib.hid H.out⟩), HR.out, HB.out⟩
          case measure => simp [intOf]
    · by_cases hp : s.take 6 = pre1
      · have hl : 6 ≤ s.length := by
          have := congrArg List.length hp
          rw [List.length_take] at this
          have h2 : pre1.length = 6 := rfl
          omega
        have he := is1 s hp
        cases hn : numOf (s.drop 6) with
        | none =>
          have H : Hid (hit pre1 s = none) := Lib.hid (by unfold hit; rw [if_pos (show s.take pre1.length = pre1 from hp)]; exact hn)
          have HN := Lib.hid (num_none s 6 hn)
          clear hn hp
          go_wp2_with (go_at_call 51; refine (HN.out _).mono ?_; rintro e w2 ⟨rfl, hb2⟩; have H2 := Lib.hid hb2; clear hb2)
          go_roundw
          case rel => exact ⟨.inr (.inr (.inl ⟨rfl, Lib.hid ⟨K.out, H.out⟩⟩)), rows_on HR.out H2.out, HB.out.trans (H2.out.mono HB.out.size)⟩
          case measure => simp [intOf]
        | some n =>
          have H : Hid (hit pre1 s = some n) := Lib.hid (by unfold hit; rw [if_pos (show s.take pre1.length = pre1 from hp)]; exact hn)
          have HN := Lib.hid (num_some s 6 n hn)
          clear hn hp
          go_wp2_with (go_at_call 51; refine (HN.out _).mono ?_; rintro e w2 ⟨rfl, hb2⟩; have H2 := Lib.hid hb2; clear hb2)
          go_ret2
          have hq : rset s = (1, n) := by unfold rset; rw [K.out, H.out]
          rw [hq]
          exact ⟨rfl, HB.out.trans (H2.out.mono HB.out.size)⟩
      · have H : Hid (hit pre1 s = none) := Lib.hid (by unfold hit; rw [if_neg (show ¬ s.take pre1.length = pre1 from hp)])
        by_cases hl : s.length < 6
        · clear hp
          go_wp2
          go_roundw
          case rel => exact ⟨.inr (.inr (.inl ⟨rfl, Lib.hid ⟨K.out, H.out⟩⟩)), HR.out, HB.out⟩
          case measure => simp [intOf]
        · have he := no1 s hp
          have hl2 : 6 ≤ s.length := by omega
          clear hp hl
          go_wp2
          go_roundw
          case rel => exact ⟨.inr (.inr (.inl ⟨rfl, Lib.hid ⟨K.out, H.out⟩⟩)), HR.out, HB.out⟩
          case measure => simp [intOf]
    · by_cases hp : s.take 6 = pre2
      · have hl : 6 ≤ s.length := by
          have := congrArg List.length hp
          rw [List.length_take] at this
          have h2 : pre2.length = 6 := rfl
          omega
        have he := is2 s hp
        cases hn : numOf (s.drop 6) with
        | none =>
          have H : Hid (hit pre2 s = none) := Lib.hid (by unfold hit; rw [if_pos (show s.take pre2.length = pre2 from hp)]; exact hn)
          have HN := Lib.hid (num_none s 6 hn)
          clear hn hp
          go_wp2_with (go_at_call 51; refine (HN.out _).mono ?_; rintro e w2 ⟨rfl, hb2⟩; have H2 := Lib.hid hb2; clear hb2)
          go_roundw
          case rel => exact ⟨.inr (.inr (.inr (.inl ⟨rfl, Lib.hid ⟨K.out.1, K.out.2, H.out⟩⟩))), rows_on HR.out H2.out, HB.out.trans (H2.out.mono HB.out.size)⟩
          case measure => simp [intOf]
        | some n =>
          have H : Hid (hit pre2 s = some n) := Lib.hid (by unfold hit; rw [if_pos (show s.take pre2.length = pre2 from hp)]; exact hn)
          have HN := Lib.hid (num_some s 6 n hn)
          clear hn hp
          go_wp2_with (go_at_call 51; refine (HN.out _).mono ?_; rintro e w2 ⟨rfl, hb2⟩; have H2 := Lib.hid hb2; clear hb2)
          go_ret2
          have hq : rset s = (2, n) := by unfold rset; rw [K.out.1, K.out.2, H.out]
          rw [hq]
          exact ⟨rfl, HB.out.trans (H2.out.mono HB.out.size)⟩
      · have H : Hid (hit pre2 s = none) := Lib.hid (by unfold hit; rw [if_neg (show ¬ s.take pre2.length = pre2 from hp)])
        by_cases hl : s.length < 6
        · clear hp
          go_wp2
          go_roundw
          case rel => exact ⟨.inr (.inr (.inr (.inl ⟨rfl, Lib.hid ⟨K.out.1, K.out.2, H.out⟩⟩))), HR.out, HB.out⟩
          case measure => simp [intOf]
        · have he := no2 s hp
          have hl2 : 6 ≤ s.length := by omega
          clear hp hl
          go_wp2
          go_roundw
          case rel => exact ⟨.inr (.inr (.inr (.inl ⟨rfl, Lib.hid ⟨K.out.1, K.out.2, H.out⟩⟩))), HR.out, HB.out⟩
          case measure => simp [intOf]
    · by_cases hp : s.take 6 = pre3
      · have hl : 6 ≤ s.length := by
          have := congrArg List.length hp
          rw [List.length_take] at this
          have h2 : pre3.length = 6 := rfl
          omega
        have he := is3 s hp
        cases hn : numOf (s.drop 6) with
        | none =>
          have H : Hid (hit pre3 s = none) := Lib.hid (by unfold hit; rw [if_pos (show s.take pre3.length = pre3 from hp)]; exact hn)
          have HN := Lib.hid (num_none s 6 hn)
          clear hn hp
          go_wp2_with (go_at_call 51; refine (HN.out _).mono ?_; rintro e w2 ⟨rfl, hb2⟩; have H2 := Lib.hid hb2; clear hb2)
          go_roundw
          case rel => exact ⟨.inr (.inr (.inr (.inr ⟨rfl, Lib.hid ⟨K.out.1, K.out.2.1, K.out.2.2, H.out⟩⟩))), rows_on HR.out H2.out, HB.out.trans (H2.out.mono HB.out.size)⟩
          case measure => simp [intOf]
        | some n =>
          have H : Hid (hit pre3 s = some n) := Lib.hid (by unfold hit; rw [if_pos (show s.take pre3.length = pre3 from hp)]; exact hn)
          have HN := Lib.hid (num_some s 6 n hn)
          clear hn hp
          go_wp2_with (go_at_call 51; refine (HN.out _).mono ?_; rintro e w2 ⟨rfl, hb2⟩; have H2 := Lib.hid hb2; clear hb2)
          go_ret2
          have hq : rset s = (3, n) := by unfold rset; rw [K.out.1, K.out.2.1, K.out.2.2, H.out]
          rw [hq]
          exact ⟨rfl, HB.out.trans (H2.out.mono HB.out.size)⟩
      · have H : Hid (hit pre3 s = none) := Lib.hid (by unfold hit; rw [if_neg (show ¬ s.take pre3.length = pre3 from hp)])
        by_cases hl : s.length < 6
        · clear hp
          go_wp2
          go_roundw
          case rel => exact ⟨.inr (.inr (.inr (.inr ⟨rfl, Lib.hid ⟨K.out.1, K.out.2.1, K.out.2.2, H.out⟩⟩))), HR.out, HB.out⟩
          case measure => simp [intOf]
        · have he := no3 s hp
          have hl2 : 6 ≤ s.length := by omega
          clear hp hl
          go_wp2
          go_roundw
          case rel => exact ⟨.inr (.inr (.inr (.inr ⟨rfl, Lib.hid ⟨K.out.1, K.out.2.1, K.out.2.2, H.out⟩⟩))), HR.out, HB.out⟩
          case measure => simp [intOf]
    · go_wp2
      go_ret2
      have hq : rset s = (-1, 0) := by unfold rset; rw [K.out.1, K.out.2.1, K.out.2.2.1, K.out.2.2.2]
      rw [hq]
      exact ⟨rfl, HB.out⟩
end
section

theorem spl_snoc (c x : UInt8) (l : List UInt8) : ∃ p q, spl c l = p ++ [q] ∧ spl c (l ++ [x]) = if x = c then p ++ [q, []] else p ++ [q ++ [x]] := by
  induction l with
  | nil =>
    refine ⟨[], [], rfl, ?_⟩
    by_cases h : x = c
    · simp [spl, h]
    · simp [spl, h]
  | cons b l ih =>
    obtain ⟨p, q, h1, h2⟩ := ih
    by_cases hb : b = c
    · refine ⟨[] :: p, q, by simp [spl, hb, h1], ?_⟩
      simp only [List.cons_append, spl, hb, if_true, h2]
      split <;> rfl
    · cases p with
      | nil =>
        refine ⟨[], b :: q, by simp [spl, hb, h1], ?_⟩
        simp only [List.cons_append, spl, hb, if_false, h2]
        by_cases h : x = c
        · simp [h]
        · simp [h]
      | cons p0 ps =>
        refine ⟨(b :: p0) :: ps, q, by simp [spl, hb, h1], ?_⟩
        simp only [List.cons_append, spl, hb, if_false, h2]
        by_cases h : x = c
        · simp [h]
        · simp [h]
theorem spl_short (c : UInt8) (l : List UInt8) : (spl c l).length ≤ l.length + 1 := by
  induction l with
  | nil => simp [spl]
  | cons b l ih =>
    unfold spl
    split
    · simp; omega
    · split
      · simp
      · rename_i p ps h
        rw [h] at ih
        simp at ih ⊢
        omega
theorem spl_last_len (c : UInt8) (l p : List UInt8) (ps : List (List UInt8)) (h : spl c l = ps ++ [p]) : p.length ≤ l.length :=
  spl_part_len c l.length l (Nat.le_refl _) p (by rw [h]; simp)

def strs (l : List (List UInt8)) : List Value := l.map fun x => Value.string ⟨x.toArray⟩
theorem info9 : (Tryd.prog.info? 9).map (fun i => (i.zero, i.size, i.bytes)) = some (some (.string ⟨#[]⟩), 1, 16) := by kernel_rfl
noncomputable def addR' (a b : ByteArray) (W : World) := (Op.stringOp .add a b).run Tryd.prog W
theorem addR'_is (a b : ByteArray) (W : World) : (Op.stringOp .add a b).run Tryd.prog W = addR' a b W := rfl
theorem add_byte (q s : List UInt8) (k : Nat) (c : UInt8) (hk : s[k]? = some c) (hq : q.length ≤ 4294967280) (W : World) :
    addR' ⟨q.toArray⟩ ((⟨s.toArray⟩ : ByteArray).extract k (k + 1)) W = .ok (.string ⟨(q ++ [c]).toArray⟩) W := by
  have e : (⟨s.toArray⟩ : ByteArray).extract k (k + 1) = ⟨#[c]⟩ := by
    apply ByteArray.ext
    simp
    obtain ⟨h1, h2⟩ := List.getElem?_eq_some_iff.1 hk
    rw [List.drop_eq_getElem_cons h1, h2]
    rfl
  rw [e]
  unfold addR'
  rw [run_string_add_sum W _ _ (by simp [ByteArray.size]; omega)]
  congr 2
theorem own_ge {w : World} {base : Nat} {e : TypeId} {size n : Nat} {v : Value} {xs : List Value} (h : w.ownsRow base e size v n xs) (k : Nat) (hk : v.ownBlock = some k) : base ≤ k := by
  rcases h.2 with ⟨rfl, _⟩ | ⟨g, cap, cur, rfl, hb, _⟩
  · simp [Value.ownBlock] at hk
  · have : g = k := by simpa [Value.ownBlock] using hk
    omega
theorem own_cap {w : World} {base : Nat} {e : TypeId} {size n G cap : Nat} {xs : List Value} (h : w.ownsRow base e size (.slice (some ⟨G, 0, none⟩) n cap) n xs) : n ≤ cap := by
  rcases h.2 with ⟨h, _⟩ | ⟨g, cap', cur, h, _, _, hc, _⟩
  · cases h
  · injection h with _ _ h; omega
theorem addr_add0 (g j : Nat) : (⟨g, 0, none⟩ : Addr).add j = ⟨g, j, none⟩ := by
  unfold Addr.add
  split
  · rename_i h; subst h; rfl
  · simp
attribute [local go_sem ↓] addR'_is

set_option maxRecDepth 100000 in
set_option maxHeartbeats 4000000 in
theorem rsplit_some (s : List UInt8) (w : World) (hs : s.length ≤ 4294967280) (hne : s ≠ []) :
    Calls Tryd.prog 39 #[.string ⟨s.toArray⟩] w fun e w' => ∃ G cap, e = .returned (.slice (some ⟨G, 0, none⟩) (spl 32 s).length cap) ∧ Below w.heap.size w w' ∧ w'.ownsRow w.heap.size 9 1 (.slice (some ⟨G, 0, none⟩) (spl 32 s).length cap) (spl 32 s).length (strs (spl 32 s)) := by
  have hs1 : (s.length : Int) ≤ 4294967280 := by omega
  have hs2 : 1 ≤ s.length := List.length_pos_iff.2 hne
  have hs3 : (1 : Int) ≤ s.length := by omega
  obtain ⟨i0, hi, hz0, hz1, hz2⟩ := info_parts info9
  have hE : s.isEmpty = false := by
    cases s with
    | nil => exact absurd rfl hne
    | cons c l => rfl
  clear hne
  go_enter Tryd.func39, Tryd.ntmps39
  go_wp2
  go_loopw [3, 4] (fun v i wr => ∃ k : Nat, k ≤ s.length ∧ i = .int .i64 k ∧ ∃ G cap, v = .slice (some ⟨G, 0, none⟩) (spl 32 (s.take k)).length cap ∧ wr.ownsRow w.heap.size 9 1 (.slice (some ⟨G, 0, none⟩) (spl 32 (s.take k)).length cap) (spl 32 (s.take k)).length (strs (spl 32 (s.take k))) ∧ Below w.heap.size w wr) (fun _ i _ => s.length - (intOf i).toNat)
  case atStart =>
    exact ⟨0, by omega, rfl, _, _, rfl, ⟨rfl, .inr ⟨w.heap.size, 1, #[.string ⟨#[]⟩], rfl, Nat.le_refl _, block_new w _ _ rfl, by simp [spl], by decide, rfl, by simp [spl, strs]⟩⟩, (Below.refl _ _).alloc (Nat.le_refl _) _⟩
  case round =>
    obtain ⟨k, hk, rfl, G, cap, rfl, hown, hb⟩ := hrel
    by_cases hlt : k < s.length
    · have hg := List.getElem?_eq_getElem hlt
      have ht : s.take (k + 1) = s.take k ++ [s[k]] := List.take_succ_eq_append_getElem hlt
      obtain ⟨p, q, h1, h2⟩ := spl_snoc 32 s[k] (s.take k)
      rw [← ht] at h2
      have hq := spl_last_len 32 _ _ _ h1
      have hsh := spl_short 32 (s.take k)
      rw [List.length_take] at hq hsh
      rw [h1] at hown hsh
      rw [h1]
      have hlen : (p ++ [q]).length = p.length + 1 := by simp
      rw [hlen] at hown hsh ⊢
      have hpl : p.length ≤ 4294967280 := by omega
      have hql : q.length ≤ 4294967280 := by omega
      have HT := Lib.hid h2
      have HB := Lib.hid hb
      have hz := hb.size
      have hadd := add_byte q s k s[k] hg hql
      clear h1 h2 hb ht hg hsh hq hlen
      have hsz : k < (⟨s.toArray⟩ : ByteArray).size := by show k < s.toArray.size; simpa using hlt
      by_cases hc : s[k] = 32
      · have hcb : ((((⟨s.toArray⟩ : ByteArray)[k]'hsz).toNat : Int) == 32) = true := by
          have : (⟨s.toArray⟩ : ByteArray)[k]'hsz = s[k] := rfl
          rw [this, hc]; rfl
        have HC := Lib.hid hc
        clear hc hadd
        have hn1 : ∀ j u, [Value.string ⟨#[]⟩][j]? = some u → (wr.alloc (.cells #[.string ⟨#[]⟩] 9)).cell? ((⟨wr.heap.size, 0, none⟩ : Addr).add j) = some u := fun j u hu => by
          cases j with
          | zero =>
            have : u = .string ⟨#[]⟩ := by simpa using hu.symm
            subst this
            exact cells_of_block (block_new wr (.cells #[.string ⟨#[]⟩] 9) _ rfl) 0
          | succ j => simp at hu
        have ho := hown.alloc (.cells #[.string ⟨#[]⟩] 9)
        have hz1' : w.heap.size ≤ (wr.alloc (.cells #[.string ⟨#[]⟩] 9)).heap.size := by simp; omega
        go_wp2_with (at_builtin; refine wpList_append_own _ rfl (.tmp 18) (.tmp 19) 36 rfl w.heap.size 9 i0 (.string ⟨#[]⟩) 1 16 Tryd.underlying36 hi hz0 hz1 hz2 rfl (by decide) _ _ _ rfl ho ⟨wr.heap.size, 0, none⟩ 1 1 [.string ⟨#[]⟩] rfl rfl hn1 (by simp [Value.oneCell']) (by show p.length + 1 + 1 ≤ 2 ^ 63 - 1; omega) (by omega) hz1' ?_; intro v1 w1 ho2 hg1 _; refine Hid.out ?_)
        obtain ⟨G2, cap2, rfl, -, -⟩ := ho2.form (by omega)
        have HB2 := Lib.hid ((HB.out.alloc hz (.cells #[.string ⟨#[]⟩] 9)).grown hg1 hz1' (own_ge ho))
        have HO2 := Lib.hid ho2
        clear hown ho ho2 hg1 hn1 hz1' HB
        refine Lib.hid ?_
        go_wp2
        go_roundw
        case rel =>
          have hT := HT.out
          rw [if_pos HC.out] at hT
          refine ⟨k + 1, by omega, by go_num, G2, cap2, ?_, ?_, HB2.out⟩
          · rw [hT]; simp
          · rw [hT]
            have := HO2.out
            simpa [strs] using this
        case measure => simp [intOf]; omega
      · have hcb : ((((⟨s.toArray⟩ : ByteArray)[k]'hsz).toNat : Int) == 32) = false := by
          have : (⟨s.toArray⟩ : ByteArray)[k]'hsz = s[k] := rfl
          rw [this]
          exact beq_eq_false_iff_ne.2 fun e => hc (UInt8.toNat_inj.1 (by simpa using (Int.ofNat_inj.1 e : s[k].toNat = 32)))
        have HC := Lib.hid hc
        clear hc
        have hcell : wr.cell? ⟨G, p.length, none⟩ = some (.string ⟨q.toArray⟩) := by
          have := hown.cells (g := G) rfl p.length (.string ⟨q.toArray⟩) (by simp [strs])
          rwa [addr_add0] at this
        have hfr := hown.frozenAt p.length
        have hcap : p.length + 1 ≤ cap := own_cap hown
        have hst := hown.stored p.length (.string ⟨(q ++ [s[k]]).toArray⟩)
        have hGb := own_ge hown G rfl
        have HO := Lib.hid hst
        have hlG := World.block_lt_of_cell? wr _ hcell
        generalize s[k] = c at *
        clear hown hst
        go_wp2
        go_region
        go_wp2
        go_roundw
        case rel =>
          have hT := HT.out
          rw [if_neg HC.out] at hT
          refine ⟨k + 1, by omega, by go_num, G, cap, ?_, ?_, ?_⟩
          · rw [hT]; simp
          · rw [hT]
            have := HO.out.1.drew
            simpa [strs] using this
          · exact (HB.out.setCell (by show w.heap.size ≤ G; exact hGb) _).drew
        case measure => simp [intOf]; omega
    · have hkn : k = s.length := by omega
      subst hkn
      rw [List.take_length] at hown ⊢
      have HO := Lib.hid hown; have HB := Lib.hid hb
      clear hown hb
      go_wp2
      go_ret
      exact ⟨G, cap, rfl, HB.out, HO.out⟩
end
section

theorem hit_some {p s : List UInt8} {n : Int} (h : hit p s = some n) : s = p ++ s.drop p.length ∧ numOf (s.drop p.length) = some n := by
  unfold hit at h
  by_cases e : s.take p.length = p
  · rw [if_pos e] at h
    refine ⟨?_, h⟩
    calc s = s.take p.length ++ s.drop p.length := (List.take_append_drop _ _).symm
      _ = p ++ s.drop p.length := by rw [e]
  · rw [if_neg e] at h; cases h
theorem hit_of {p v : List UInt8} : hit p (p ++ v) = numOf v := by
  unfold hit
  rw [if_pos (by simp)]
  simp
/-- What a setting does, by what it is. -/
theorem step_kinds (st : PS) (x : List UInt8) :
    ((rset x).1 = -1 ∧ st.step x = none) ∨
    (∃ n, rset x = (0, n) ∧ ((st.p = true ∧ st.step x = none) ∨ (st.p = false ∧ st.step x = some { st with p := true, a := n }))) ∨
    (∃ n, rset x = (1, n) ∧ ((st.q = true ∧ st.step x = none) ∨ (st.q = false ∧ st.step x = some { st with q := true, b := n }))) ∨
    (∃ n, rset x = (2, n) ∧ ((st.r = true ∧ st.step x = none) ∨ (st.r = false ∧ st.step x = some { st with r := true, c := n }))) ∨
    (∃ n, rset x = (3, n) ∧ ((st.t = true ∧ st.step x = none) ∨ (st.t = false ∧ st.step x = some { st with t := true, d := n }))) := by
  cases h0 : hit pre0 x with
  | some n =>
    obtain ⟨e, hn⟩ := hit_some h0
    refine .inr (.inl ⟨n, by unfold rset; rw [h0], ?_⟩)
    rw [e, step0, hn]
    cases hp : st.p
    · exact .inr ⟨rfl, by simp⟩
    · exact .inl ⟨rfl, by simp⟩
  | none =>
    cases h1 : hit pre1 x with
    | some n =>
      obtain ⟨e, hn⟩ := hit_some h1
      refine .inr (.inr (.inl ⟨n, by unfold rset; rw [h0, h1], ?_⟩))
      rw [e, step1, hn]
      cases hp : st.q
      · exact .inr ⟨rfl, by simp⟩
      · exact .inl ⟨rfl, by simp⟩
    | none =>
      cases h2 : hit pre2 x with
      | some n =>
        obtain ⟨e, hn⟩ := hit_some h2
        refine .inr (.inr (.inr (.inl ⟨n, by unfold rset; rw [h0, h1, h2], ?_⟩)))
        rw [e, step2, hn]
        cases hp : st.r
        · exact .inr ⟨rfl, by simp⟩
        · exact .inl ⟨rfl, by simp⟩
      | none =>
        cases h3 : hit pre3 x with
        | some n =>
          obtain ⟨e, hn⟩ := hit_some h3
          refine .inr (.inr (.inr (.inr ⟨n, by unfold rset; rw [h0, h1, h2, h3], ?_⟩)))
          rw [e, step3, hn]
          cases hp : st.t
          · exact .inr ⟨rfl, by simp⟩
          · exact .inl ⟨rfl, by simp⟩
        | none =>
          refine .inl ⟨by unfold rset; rw [h0, h1, h2, h3], ?_⟩
          cases hs : st.step x with
          | none => rfl
          | some st2 =>
            exfalso
            rcases step_some hs with ⟨n, rfl, g0, g1, -⟩ | ⟨n, rfl, g0, g1, -⟩ | ⟨n, rfl, g0, g1, -⟩ | ⟨n, rfl, g0, g1, -⟩
            · rw [hit_of, numOf_itoa n g0 g1] at h0; cases h0
            · rw [hit_of, numOf_itoa n g0 g1] at h1; cases h1
            · rw [hit_of, numOf_itoa n g0 g1] at h2; cases h2
            · rw [hit_of, numOf_itoa n g0 g1] at h3; cases h3

def parts (s : List UInt8) : List (List UInt8) := if s = [] then [] else spl 32 s
theorem parsed_parts (s : List UInt8) : parsed s = PS.start.run (parts s) := by
  unfold parsed parts
  by_cases h : s = []
  · rw [if_pos h, if_pos h]; rfl
  · rw [if_neg h, if_neg h]
theorem parts_len (s : List UInt8) : ∀ x ∈ parts s, x.length ≤ s.length := by
  intro x hx
  unfold parts at hx
  by_cases h : s = []
  · rw [if_pos h] at hx; simp at hx
  · rw [if_neg h] at hx; exact spl_part_len 32 s.length s (Nat.le_refl _) x hx
theorem parts_short (s : List UInt8) : (parts s).length ≤ s.length + 1 := by
  unfold parts
  by_cases h : s = []
  · rw [if_pos h]; simp
  · rw [if_neg h]; exact spl_short 32 s
theorem run_stop {l : List (List UInt8)} {k : Nat} {x : List UInt8} {st : PS} (hx : l[k]? = some x) (h : PS.start.run (l.take k) = some st) (hs : st.step x = none) : PS.start.run l = none := by
  obtain ⟨h1, h2⟩ := List.getElem?_eq_some_iff.1 hx
  have e : l = l.take k ++ x :: l.drop (k + 1) := by
    rw [← h2, ← List.drop_eq_getElem_cons h1, List.take_append_drop]
  rw [e, run_append, h]
  simp [PS.run, hs]
theorem run_next {l : List (List UInt8)} {k : Nat} {x : List UInt8} {st st2 : PS} (hx : l[k]? = some x) (h : PS.start.run (l.take k) = some st) (hs : st.step x = some st2) : PS.start.run (l.take (k + 1)) = some st2 := by
  obtain ⟨h1, h2⟩ := List.getElem?_eq_some_iff.1 hx
  rw [List.take_succ_eq_append_getElem h1, h2, run_append, h]
  simp [PS.run, hs]

theorem rsplit_any (s : List UInt8) (w : World) (hs : s.length ≤ 4294967280) :
    Calls Tryd.prog 39 #[.string ⟨s.toArray⟩] w fun e w' => ∃ A G cap, e = .returned (.slice A (parts s).length cap) ∧ Below w.heap.size w w' ∧ w.heap.size ≤ G ∧ (0 < (parts s).length → A = some ⟨G, 0, none⟩) ∧ ∀ j x, (parts s)[j]? = some x → w'.cell? ⟨G, j, none⟩ = some (.string ⟨x.toArray⟩) := by
  by_cases h : s = []
  · subst h
    have e : parts [] = [] := rfl
    rw [e]
    go_enter Tryd.func39, Tryd.ntmps39
    go_wp2
    go_ret
    exact ⟨none, w.heap.size, 0, rfl, Below.refl _ _, Nat.le_refl _, fun h => absurd h (by simp), fun j x hx => by simp at hx⟩
  · have e : parts s = spl 32 s := if_neg h
    rw [e]
    refine (rsplit_some s w hs h).mono ?_
    rintro e w' ⟨G, cap, rfl, hb, ho⟩
    refine ⟨_, G, cap, rfl, hb, own_ge ho G rfl, fun _ => rfl, fun j x hx => ?_⟩
    have := ho.cells (g := G) rfl j (.string ⟨x.toArray⟩) (by simp [strs, hx])
    rwa [addr_add0] at this

/-- Where the reference's Parse stands: its result, the numbers, and which of them a setting has given. -/
structure RP (w0 : World) (rb g sb G : Nat) (l : List (List UInt8)) (st : PS) (w : World) : Prop where
  bx : Box rb 0 0 0 0 w
  l4 : L4 g st.a st.b st.c st.d w
  sn : w.heap[sb]? = some (.cells #[.bool st.p, .bool st.q, .bool st.r, .bool st.t] 57 (0, 0))
  pc : ∀ j x, l[j]? = some x → w.cell? ⟨G, j, none⟩ = some (.string ⟨x.toArray⟩)
  fr : Below w0.heap.size w0 w
theorem RP.on {w0 : World} {rb g sb G : Nat} {l : List (List UInt8)} {st : PS} {w w' : World} (h : RP w0 rb g sb G l st w) (hb : Below w.heap.size w w') : RP w0 rb g sb G l st w' :=
  ⟨h.bx.on hb, ⟨(hb.block _ (Array.getElem?_eq_some_iff.1 h.l4.bh).1).trans h.l4.bh⟩, (hb.block _ (Array.getElem?_eq_some_iff.1 h.sn).1).trans h.sn,
    fun j x hx => (hb.cell (p := ⟨G, j, none⟩) (World.block_lt_of_cell? w _ (h.pc j x hx))).trans (h.pc j x hx), h.fr.trans (hb.mono h.fr.size)⟩
theorem RP.put0 {w0 : World} {rb g sb G : Nat} {l : List (List UInt8)} {st : PS} {w : World} (h : RP w0 rb g sb G l st w) (h1 : rb < g) (h2 : g < sb) (h3 : sb < G) (h0 : w0.heap.size ≤ rb) (n : Int) :
    RP w0 rb g sb G l { st with p := true, a := n } ((w.setCell ⟨sb, 0, none⟩ (.bool true)).setCell ⟨g, 0, none⟩ (.int .i64 n)) :=
  ⟨(h.bx.setOther (x := sb) (by omega) _ _).setOther (x := g) (by omega) _ _,
    ⟨by rw [set_same ((Below.heap_setCell w ⟨sb, 0, none⟩ (.bool true) g (by show g ≠ sb; omega)).trans h.l4.bh)]; rfl⟩,
    (Below.heap_setCell _ ⟨g, 0, none⟩ _ sb (by show sb ≠ g; omega)).trans (by rw [set_same h.sn]; rfl),
    fun j x hx => by
      rw [World.cell?_setCell_other _ _ _ _ (by intro e; injection e with e; omega), World.cell?_setCell_other _ _ _ _ (by intro e; injection e with e; omega)]
      exact h.pc j x hx,
    (h.fr.setCell (by show w0.heap.size ≤ sb; omega) _).setCell (by show w0.heap.size ≤ g; omega) _⟩
theorem RP.put1 {w0 : World} {rb g sb G : Nat} {l : List (List UInt8)} {st : PS} {w : World} (h : RP w0 rb g sb G l st w) (h1 : rb < g) (h2 : g < sb) (h3 : sb < G) (h0 : w0.heap.size ≤ rb) (n : Int) :
    RP w0 rb g sb G l { st with q := true, b := n } ((w.setCell ⟨sb, 1, none⟩ (.bool true)).setCell ⟨g, 1, none⟩ (.int .i64 n)) :=
  ⟨(h.bx.setOther (x := sb) (by omega) _ _).setOther (x := g) (by omega) _ _,
    ⟨by rw [set_same ((Below.heap_setCell w ⟨sb, 1, none⟩ (.bool true) g (by show g ≠ sb; omega)).trans h.l4.bh)]; rfl⟩,
    (Below.heap_setCell _ ⟨g, 1, none⟩ _ sb (by show sb ≠ g; omega)).trans (by rw [set_same h.sn]; rfl),
    fun j x hx => by
      rw [World.cell?_setCell_other _ _ _ _ (by intro e; injection e with e; omega), World.cell?_setCell_other _ _ _ _ (by intro e; injection e with e; omega)]
      exact h.pc j x hx,
    (h.fr.setCell (by show w0.heap.size ≤ sb; omega) _).setCell (by show w0.heap.size ≤ g; omega) _⟩
theorem RP.put2 {w0 : World} {rb g sb G : Nat} {l : List (List UInt8)} {st : PS} {w : World} (h : RP w0 rb g sb G l st w) (h1 : rb < g) (h2 : g < sb) (h3 : sb < G) (h0 : w0.heap.size ≤ rb) (n : Int) :
    RP w0 rb g sb G l { st with r := true, c := n } ((w.setCell ⟨sb, 2, none⟩ (.bool true)).setCell ⟨g, 2, none⟩ (.int .i64 n)) :=
  ⟨(h.bx.setOther (x := sb) (by omega) _ _).setOther (x := g) (by omega) _ _,
    ⟨by rw [set_same ((Below.heap_setCell w ⟨sb, 2, none⟩ (.bool true) g (by show g ≠ sb; omega)).trans h.l4.bh)]; rfl⟩,
    (Below.heap_setCell _ ⟨g, 2, none⟩ _ sb (by show sb ≠ g; omega)).trans (by rw [set_same h.sn]; rfl),
    fun j x hx => by
      rw [World.cell?_setCell_other _ _ _ _ (by intro e; injection e with e; omega), World.cell?_setCell_other _ _ _ _ (by intro e; injection e with e; omega)]
      exact h.pc j x hx,
    (h.fr.setCell (by show w0.heap.size ≤ sb; omega) _).setCell (by show w0.heap.size ≤ g; omega) _⟩
theorem RP.put3 {w0 : World} {rb g sb G : Nat} {l : List (List UInt8)} {st : PS} {w : World} (h : RP w0 rb g sb G l st w) (h1 : rb < g) (h2 : g < sb) (h3 : sb < G) (h0 : w0.heap.size ≤ rb) (n : Int) :
    RP w0 rb g sb G l { st with t := true, d := n } ((w.setCell ⟨sb, 3, none⟩ (.bool true)).setCell ⟨g, 3, none⟩ (.int .i64 n)) :=
  ⟨(h.bx.setOther (x := sb) (by omega) _ _).setOther (x := g) (by omega) _ _,
    ⟨by rw [set_same ((Below.heap_setCell w ⟨sb, 3, none⟩ (.bool true) g (by show g ≠ sb; omega)).trans h.l4.bh)]; rfl⟩,
    (Below.heap_setCell _ ⟨g, 3, none⟩ _ sb (by show sb ≠ g; omega)).trans (by rw [set_same h.sn]; rfl),
    fun j x hx => by
      rw [World.cell?_setCell_other _ _ _ _ (by intro e; injection e with e; omega), World.cell?_setCell_other _ _ _ _ (by intro e; injection e with e; omega)]
      exact h.pc j x hx,
    (h.fr.setCell (by show w0.heap.size ≤ sb; omega) _).setCell (by show w0.heap.size ≤ g; omega) _⟩

theorem seen4 {w : World} {sb : Nat} {p q r t : Bool} (h : w.heap[sb]? = some (.cells #[.bool p, .bool q, .bool r, .bool t] 57 (0, 0))) :
    sb < w.heap.size ∧ w.cell? ⟨sb, 0, none⟩ = some (.bool p) ∧ w.cell? ⟨sb, 1, none⟩ = some (.bool q) ∧ w.cell? ⟨sb, 2, none⟩ = some (.bool r) ∧ w.cell? ⟨sb, 3, none⟩ = some (.bool t) :=
  ⟨(Array.getElem?_eq_some_iff.1 h).1, cells_of_block h 0, cells_of_block h 1, cells_of_block h 2, cells_of_block h 3⟩

set_option maxRecDepth 100000 in
set_option maxHeartbeats 8000000 in
theorem rparse_any (s : List UInt8) (w : World) (hs : s.length ≤ 2000) : Calls Tryd.prog 14 #[.string ⟨s.toArray⟩] w (Answers s w) := by
  have hps := parts_short s
  have hpl := parts_len s
  have hpd := parsed_parts s
  have HPL := Lib.hid hpl; have HPD := Lib.hid hpd
  have hsp := fun w1 => rsplit_any s w1 (by omega)
  generalize parts s = l at *
  have HSP := Lib.hid hsp
  have hl1 : (l.length : Int) ≤ 2001 := by omega
  clear hpl hpd hsp
  go_enter Tryd.func14, Tryd.ntmps14
  go_wp2_with (go_at_call 33; refine (rdefault_any' _).mono ?_; rintro e w1 ⟨rfl, hb1⟩; refine Hid.out ?_)
  have B1 : Hid (Box w.heap.size 0 0 0 0 w1) := Lib.hid (Box.on (Box.new w 0 0 0 0) hb1)
  have F1 := Lib.hid (show Below w.heap.size w w1 from ((Below.refl _ _).alloc (Nat.le_refl _) _).trans (hb1.mono (by simp)))
  clear hb1
  refine Lib.hid ?_
  go_wp2_with (go_at_call 38; refine (rfields_any _ _ _ _ _).mono ?_; rintro e w2 ⟨g, rfl, hg, hb2, hL⟩; refine Hid.out ?_)
  have hg1 : w.heap.size < g := Nat.lt_of_lt_of_le B1.out.lt hg
  have hgl := (Array.getElem?_eq_some_iff.1 hL.bh).1
  have B2 := Lib.hid (B1.out.on hb2)
  have F2 := Lib.hid (F1.out.trans (hb2.mono F1.out.size))
  have L2 := Lib.hid hL
  clear hb2 hL B1 F1 hg
  refine Lib.hid ?_
  go_wp2_with (go_at_call 39; refine (HSP.out _).mono ?_; rintro e w3 ⟨A, G, cap, rfl, hb3, hG, hA, hpc⟩; refine Hid.out ?_)
  have hG2 : w2.heap.size < G := Nat.lt_of_succ_le (by simpa using hG)
  have hR : RP w w.heap.size g w2.heap.size G l PS.start w3 := by
    have h1 : Box w.heap.size 0 0 0 0 w3 := Box.on (Box.on B2.out ((Below.refl _ _).alloc (Nat.le_refl _) _)) hb3
    refine ⟨h1, ⟨(hb3.block _ (by simp; omega)).trans ((Below.heap_alloc w2 _ _ hgl).trans L2.out.bh)⟩, (hb3.block _ (by simp)).trans (block_new w2 _ _ rfl), hpc, (F2.out.alloc F2.out.size _).trans (hb3.mono (by simp; exact Nat.le_succ_of_le F2.out.size))⟩
  have HR := Lib.hid hR; have HA := Lib.hid hA
  generalize w2.heap.size = sb at *
  clear hb3 hG hA hpc hR B2 F2 L2 HSP
  refine Lib.hid ?_
  go_wp2_with fail
  go_loopw [7] (fun i wr => ∃ k : Nat, k ≤ l.length ∧ i = .int .i64 k ∧ ∃ st, Hid (PS.start.run (l.take k) = some st) ∧ RP w w.heap.size g sb G l st wr) (fun i _ => l.length - (intOf i).toNat)
  case atStart => exact ⟨0, by omega, rfl, PS.start, Lib.hid rfl, HR.out⟩
  case round =>
    obtain ⟨k, hk, rfl, st, hrun, hP⟩ := hrel
    have HP := Lib.hid hP
    clear hP HR
    by_cases hlt : k < l.length
    · obtain rfl := HA.out (by omega)
      have hx := List.getElem?_eq_getElem hlt
      have hxl := HPL.out _ (List.getElem_mem hlt)
      have hxc := HP.out.pc k _ hx
      have hkd := step_kinds st l[k]
      generalize l[k] = x at *
      have HX := Lib.hid hx
      have hc := fun w1 => rsetting_any x w1 (by omega)
      have HC := Lib.hid hc
      clear hx hc
      go_wp2_with (go_at_call 40; refine (HC.out _).mono ?_; rintro e w4 ⟨rfl, hb4⟩; refine Hid.out ?_)
      have HP4 := Lib.hid (HP.out.on hb4)
      obtain ⟨hbl, b0, b1, b2, b3⟩ := quad_at HP4.out.bx.bh
      obtain ⟨hgl', l0, l1, l2, l3⟩ := quad_at HP4.out.l4.bh
      obtain ⟨hsl, s0, s1, s2, s3⟩ := seen4 HP4.out.sn
      have fb := HP4.out.bx.frozen
      have fg := frozen_of_block HP4.out.l4.bh
      have fs := frozen_of_block HP4.out.sn
      clear hb4 HP hxc hxl
      refine Lib.hid ?_
      rcases hkd with ⟨hr, hst⟩ | ⟨n, hr, hst⟩ | ⟨n, hr, hst⟩ | ⟨n, hr, hst⟩ | ⟨n, hr, hst⟩
      · rw [hr]
        have hans : parsed s = none := HPD.out.trans (run_stop HX.out hrun.out hst)
        have HANS := Lib.hid hans
        clear hr hst hans l0 l1 l2 l3 s0 s1 s2 s3 fg fs
        go_wp2
        refine bodyPost_ret (v := .tuple #[quad 0 0 0 0, .int .i64 15]) (by simp [results, Tryd.results14, go_sem, b0, b1, b2, b3]) rfl ?_
        unfold Answers
        rw [HANS.out]
        exact ⟨rfl, below_quad HP4.out.fr (Nat.le_refl _) _ _ _ _⟩
      · rw [hr]
        clear hr
        rcases hst with ⟨hp, hst⟩ | ⟨hp, hst⟩
        · rw [hp] at s0
          have hans : parsed s = none := HPD.out.trans (run_stop HX.out hrun.out hst)
          have HANS := Lib.hid hans
          clear hst hans hp l0 l1 l2 l3 fg fs
          go_wp2
          refine bodyPost_ret (v := .tuple #[quad 0 0 0 0, .int .i64 15]) (by simp [results, Tryd.results14, go_sem, b0, b1, b2, b3]) rfl ?_
          unfold Answers
          rw [HANS.out]
          exact ⟨rfl, below_quad HP4.out.fr (Nat.le_refl _) _ _ _ _⟩
        · rw [hp] at s0
          have HN := Lib.hid (run_next HX.out hrun.out hst)
          have HP5 := Lib.hid (HP4.out.put0 hg1 (by omega) hG2 (Nat.le_refl _) n)
          have hgs : g ≠ sb := by omega
          clear hst hp b0 b1 b2 b3 fb
          go_wp2
          go_roundw
          case rel => exact ⟨k + 1, by omega, by go_num, _, HN, HP5.out⟩
          case measure => simp [intOf]; omega
      · rw [hr]
        clear hr
        rcases hst with ⟨hp, hst⟩ | ⟨hp, hst⟩
        · rw [hp] at s1
          have hans : parsed s = none := HPD.out.trans (run_stop HX.out hrun.out hst)
          have HANS := Lib.hid hans
          clear hst hans hp l0 l1 l2 l3 fg fs
          go_wp2
          refine bodyPost_ret (v := .tuple #[quad 0 0 0 0, .int .i64 15]) (by simp [results, Tryd.results14, go_sem, b0, b1, b2, b3]) rfl ?_
          unfold Answers
          rw [HANS.out]
          exact ⟨rfl, below_quad HP4.out.fr (Nat.le_refl _) _ _ _ _⟩
        · rw [hp] at s1
          have HN := Lib.hid (run_next HX.out hrun.out hst)
          have HP5 := Lib.hid (HP4.out.put1 hg1 (by omega) hG2 (Nat.le_refl _) n)
          have hgs : g ≠ sb := by omega
          clear hst hp b0 b1 b2 b3 fb
          go_wp2
          go_roundw
          case rel => exact ⟨k + 1, by omega, by go_num, _, HN, HP5.out⟩
          case measure => simp [intOf]; omega
      · rw [hr]
        clear hr
        rcases hst with ⟨hp, hst⟩ | ⟨hp, hst⟩
        · rw [hp] at s2
          have hans : parsed s = none := HPD.out.trans (run_stop HX.out hrun.out hst)
          have HANS := Lib.hid hans
          clear hst hans hp l0 l1 l2 l3 fg fs
          go_wp2
          refine bodyPost_ret (v := .tuple #[quad 0 0 0 0, .int .i64 15]) (by simp [results, Tryd.results14, go_sem, b0, b1, b2, b3]) rfl ?_
          unfold Answers
          rw [HANS.out]
          exact ⟨rfl, below_quad HP4.out.fr (Nat.le_refl _) _ _ _ _⟩
        · rw [hp] at s2
          have HN := Lib.hid (run_next HX.out hrun.out hst)
          have HP5 := Lib.hid (HP4.out.put2 hg1 (by omega) hG2 (Nat.le_refl _) n)
          have hgs : g ≠ sb := by omega
          clear hst hp b0 b1 b2 b3 fb
          go_wp2
          go_roundw
          case rel => exact ⟨k + 1, by omega, by go_num, _, HN, HP5.out⟩
          case measure => simp [intOf]; omega
      · rw [hr]
        clear hr
        rcases hst with ⟨hp, hst⟩ | ⟨hp, hst⟩
        · rw [hp] at s3
          have hans : parsed s = none := HPD.out.trans (run_stop HX.out hrun.out hst)
          have HANS := Lib.hid hans
          clear hst hans hp l0 l1 l2 l3 fg fs
          go_wp2
          refine bodyPost_ret (v := .tuple #[quad 0 0 0 0, .int .i64 15]) (by simp [results, Tryd.results14, go_sem, b0, b1, b2, b3]) rfl ?_
          unfold Answers
          rw [HANS.out]
          exact ⟨rfl, below_quad HP4.out.fr (Nat.le_refl _) _ _ _ _⟩
        · rw [hp] at s3
          have HN := Lib.hid (run_next HX.out hrun.out hst)
          have HP5 := Lib.hid (HP4.out.put3 hg1 (by omega) hG2 (Nat.le_refl _) n)
          have hgs : g ≠ sb := by omega
          clear hst hp b0 b1 b2 b3 fb
          go_wp2
          go_roundw
          case rel => exact ⟨k + 1, by omega, by go_num, _, HN, HP5.out⟩
          case measure => simp [intOf]; omega
    · have hkl : k = l.length := by omega
      subst hkl
      have hans : parsed s = some st := by rw [HPD.out, ← hrun.out, List.take_length]
      have HANS := Lib.hid hans
      clear hans hrun hk hlt
      rcases st with ⟨a, b, c, d, p, q, r, t⟩
      have hL4 : L4 g a b c d wr := HP.out.l4
      have HL4 := Lib.hid hL4
      have HBX := Lib.hid HP.out.bx
      have HF := Lib.hid HP.out.fr
      clear hL4 HP
      have hst : Valid a b c d ∧ answer (some ⟨a, b, c, d, p, q, r, t⟩) = (a, b, c, d, 0) ∨ ¬ Valid a b c d ∧ answer (some ⟨a, b, c, d, p, q, r, t⟩) = (0, 0, 0, 0, 2) := by
        by_cases h : Valid a b c d
        · exact .inl ⟨h, answer_valid h⟩
        · exact .inr ⟨h, answer_bad h⟩
      have HST := Lib.hid hst
      clear hst
      go_wp2_with (go_at_call 41; refine (rmade_any _ _ _ _ _ _ HL4.out).mono ?_; rintro e w5 ⟨rfl, hb5⟩; refine Hid.out ?_)
      have hs5 : w.heap.size ≤ w5.heap.size := Nat.le_trans HF.out.size hb5.size
      have HF5 := Lib.hid ((HF.out.trans (hb5.mono HF.out.size)).alloc hs5 (.cells #[.int .i64 a, .int .i64 b, .int .i64 c, .int .i64 d] 24))
      have HX5 := Lib.hid ((HBX.out.on hb5).alloc (.cells #[.int .i64 a, .int .i64 b, .int .i64 c, .int .i64 d] 24))
      have C5 := Lib.hid (Box.new w5 a b c d)
      clear hb5 hs5 HF HBX HL4
      refine Lib.hid ?_
      go_wp2_with (go_at_call 30; refine (rcheck_any _ _ _ _ _).mono ?_; rintro e w6 ⟨rfl, hb6⟩; refine Hid.out ?_)
      have HF6 := Lib.hid (HF5.out.trans (hb6.mono HF5.out.size))
      have HX6 := Lib.hid (HX5.out.on hb6)
      have C6 := Lib.hid (C5.out.on hb6)
      generalize w5.heap.size = z at *
      clear hb6 HF5 HX5 C5
      obtain ⟨c0, c1, c2, c3⟩ := C6.out.cells
      obtain ⟨x0, x1, x2, x3⟩ := HX6.out.cells
      have f0 := HX6.out.frozen 0
      have f1 := HX6.out.frozen 1
      have f2 := HX6.out.frozen 2
      have f3 := HX6.out.frozen 3
      refine Lib.hid ?_
      rcases HST.out with ⟨hv, ho⟩ | ⟨hv, ho⟩
      · rw [chk_ok hv]
        clear hv
        have HO := Lib.hid ho
        clear ho
        go_wp2
        refine bodyPost_ret (v := .tuple #[quad a b c d, .int .i64 0]) (by simp [results, Tryd.results14, go_sem, x0, x1, x2, x3]) rfl ?_
        unfold Answers
        rw [HANS.out, HO.out]
        exact ⟨rfl, below_quad HF6.out (Nat.le_refl _) _ _ _ _⟩
      · rw [chk_bad hv]
        clear hv
        have HO := Lib.hid ho
        clear ho
        go_wp2
        refine bodyPost_ret (v := .tuple #[quad 0 0 0 0, .int .i64 2]) (by simp [results, Tryd.results14, go_sem, x0, x1, x2, x3]) rfl ?_
        unfold Answers
        rw [HANS.out, HO.out]
        exact ⟨rfl, below_quad HF6.out (Nat.le_refl _) _ _ _ _⟩
end
section
attribute [local go_sem ↓] eq24 ne24
attribute [local go_sem] same4_self

set_option maxRecDepth 100000 in
theorem reads_long (s : List UInt8) (w : World) (hG : G w) (hn : 2000 < s.length) :
    Calls Tryd.prog 3 #[.string ⟨s.toArray⟩] w fun e w' => e = .returned (.bool true) ∧ Below w.heap.size w w' := by
  have HG : Hid (At w w) := Lib.hid ⟨hG, Below.refl _ _⟩
  clear hG
  have hn1 : (2000 : Int) < (s.length : Int) := by omega
  go_enter Tryd.func3, Tryd.ntmps3
  go_wp2_with (first | (go_at_call 12; refine (works_any _ HG.out.g).mono ?_; rintro e w1 ⟨rfl, hb1⟩; have H1 := Lib.hid (HG.out.on hb1); clear hb1))
  go_ret
  exact ⟨rfl, H1.out.fr⟩

set_option maxRecDepth 100000 in
set_option maxHeartbeats 4000000 in
theorem reads_short (s : List UInt8) (w : World) (hG : G w) (hn : s.length ≤ 2000) :
    Calls Tryd.prog 3 #[.string ⟨s.toArray⟩] w fun e w' => e = .returned (.bool true) ∧ Below w.heap.size w w' := by
  have HG : Hid (At w w) := Lib.hid ⟨hG, Below.refl _ _⟩
  clear hG
  have hn1 : (s.length : Int) ≤ 2000 := by omega
  have h1 := fun w1 (h : G w1) => parse_any s (by omega) w1 h
  have h2 := fun w1 => rparse_any s w1 hn
  unfold Answers at h1 h2
  rcases ha : answer (parsed s) with ⟨A, B, C, D, F⟩
  rw [ha] at h1 h2
  have P1 := Lib.hid h1; have P2 := Lib.hid h2
  clear h1 h2 ha hn
  go_enter Tryd.func3, Tryd.ntmps3
  go_wp2_with (first | (go_at_call 13; refine (P1.out _ HG.out.g).mono ?_; rintro e w1 ⟨rfl, hb1⟩; refine Hid.out ?_))
  have H1 := Lib.hid ((HG.out.on hb1).alloc (.cells #[.int .i64 A, .int .i64 B, .int .i64 C, .int .i64 D] 24))
  have C1 := Lib.hid (Box.new w1 A B C D)
  clear hb1
  refine Lib.hid ?_
  go_wp2_with (first | (go_at_call 14; refine (P2.out _).mono ?_; rintro e w2 ⟨rfl, hb2⟩; refine Hid.out ?_))
  have H2 := Lib.hid ((H1.out.on hb2).alloc (.cells #[.int .i64 A, .int .i64 B, .int .i64 C, .int .i64 D] 24))
  have C2 := Lib.hid ((C1.out.on hb2).alloc (.cells #[.int .i64 A, .int .i64 B, .int .i64 C, .int .i64 D] 24))
  have D2 := Lib.hid (Box.new w2 A B C D)
  clear hb2 H1 C1
  obtain ⟨c0, c1, c2, c3⟩ := C2.out.cells
  obtain ⟨d0, d1, d2, d3⟩ := D2.out.cells
  refine Lib.hid ?_
  go_wp2_with (first
    | (go_at_call 12; refine (works_any _ H2.out.g).mono ?_; rintro e w5 ⟨rfl, hb5⟩; have H5 := Lib.hid (H2.out.on hb5); clear hb5))
  go_ret
  exact ⟨rfl, H5.out.fr⟩
/-- For any string. -/
theorem reads_any (x : ByteArray) (w : World) (hG : G w) :
    Calls Tryd.prog 3 #[.string x] w fun e w' => e = .returned (.bool true) ∧ Below w.heap.size w w' := by
  have e : x = ⟨x.data.toList.toArray⟩ := by apply ByteArray.ext; simp
  generalize x.data.toList = l at *
  subst e
  by_cases h : l.length ≤ 2000
  · exact reads_short l w hG h
  · exact reads_long l w hG (by omega)
end
end Go.Proofs.YtlnfpkknhmiegaaDoor
