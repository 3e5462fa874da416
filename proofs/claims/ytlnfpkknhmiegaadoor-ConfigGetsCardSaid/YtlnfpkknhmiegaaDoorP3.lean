/- The bytes of a configuration are read back. -/
import Derived.Test.YtlnfpkknhmiegaaDoorA11
import Derived.Laws.BitsLemmas
namespace Go.Proofs.YtlnfpkknhmiegaaDoor
open Go Go.RowKit

def IsB (x : Int) : Prop := 0 ≤ x ∧ x ≤ 255
theorem or_i64 (x y : Int) (hx : x % 256 = 0) (h0 : 0 ≤ y) (h1 : y < 256) : bits .or .i64 x y = wrap64 (x + y) := by
  obtain ⟨b, rfl⟩ := Int.eq_ofNat_of_zero_le h0
  have hb : b < 256 := by omega
  have ha0 : 0 ≤ x % 18446744073709551616 := by omega
  obtain ⟨a, ha⟩ := Int.eq_ofNat_of_zero_le ha0
  have h256 : a = 2 ^ 8 * (a / 256) := by omega
  have hor : a ||| b = a + b := by
    rw [h256, ← Nat.two_pow_add_eq_or_of_lt (by omega)]
  have e1 : (BitVec.ofInt 64 x).toNat = a := by rw [BitVec.toNat_ofInt]; omega
  have e2 : (BitVec.ofInt 64 (b : Int)).toNat = b := by rw [BitVec.toNat_ofInt]; omega
  show IntKind.i64.wrap (((BitVec.ofInt 64 x) ||| (BitVec.ofInt 64 (b : Int))).toNat : Nat) = _
  rw [BitVec.toNat_or, e1, e2, hor]
  simp only [IntKind.wrap, IntKind.bits, IntKind.signed, wrap64]
  simp
  split <;> omega

def sum8 (s : Int) (l : List Int) : Int := l.foldl (fun s x => s * 256 + x) s
theorem fold_sum (l : List Int) : ∀ s, (∀ x ∈ l, IsB x) → l.foldl gstep (wrap64 s) = wrap64 (sum8 s l) := by
  induction l with
  | nil => intro s _; rfl
  | cons x l ih =>
    intro s h
    have hx : 0 ≤ x ∧ x ≤ 255 := h x (by simp)
    have e : gstep (wrap64 s) x = wrap64 (s * 256 + x) := by
      unfold gstep
      have e1 : wrap64 x = x := by unfold wrap64; omega
      have e2 : wrap64 (wrap64 s * 256) = wrap64 (s * 256) := by unfold wrap64; omega
      rw [e1, e2, or_i64 _ _ (by unfold wrap64; omega) hx.1 (by omega)]
      unfold wrap64; omega
    show l.foldl gstep (gstep (wrap64 s) x) = _
    rw [e, ih _ (fun y hy => h y (by simp [hy]))]
    rfl
theorem fold_zero (l : List Int) (h : ∀ x ∈ l, IsB x) : l.foldl gstep 0 = wrap64 (sum8 0 l) := by
  have := fold_sum l 0 h
  rwa [show wrap64 0 = 0 by unfold wrap64; omega] at this

theorem be8_all (x : Int) : ∀ y ∈ be8 x, IsB y := by
  intro y hy
  simp only [be8, List.mem_map] at hy
  obtain ⟨k, -, rfl⟩ := hy
  unfold byteAt IsB
  omega
theorem be8_eq (x : Int) : be8 x = [x / 72057594037927936 % 256, x / 281474976710656 % 256, x / 1099511627776 % 256, x / 4294967296 % 256, x / 16777216 % 256, x / 65536 % 256, x / 256 % 256, x / 1 % 256] := rfl
theorem sum_be8 (x : Int) (h0 : 0 ≤ x) (h1 : x < 18446744073709551616) : sum8 0 (be8 x) = x := by
  rw [be8_eq]
  simp only [sum8, List.foldl_cons, List.foldl_nil]
  omega
theorem be8_sum (l : List Int) (hl : l.length = 8) (h : ∀ x ∈ l, IsB x) : be8 (sum8 0 l) = l ∧ 0 ≤ sum8 0 l ∧ sum8 0 l < 18446744073709551616 := by
  match l, hl with
  | [a, b, c, d, e, f, g, i], _ =>
    have ha : 0 ≤ a ∧ a ≤ 255 := h a (by simp)
    have hb : 0 ≤ b ∧ b ≤ 255 := h b (by simp)
    have hc : 0 ≤ c ∧ c ≤ 255 := h c (by simp)
    have hd : 0 ≤ d ∧ d ≤ 255 := h d (by simp)
    have he : 0 ≤ e ∧ e ≤ 255 := h e (by simp)
    have hf : 0 ≤ f ∧ f ≤ 255 := h f (by simp)
    have hg : 0 ≤ g ∧ g ≤ 255 := h g (by simp)
    have hi : 0 ≤ i ∧ i ≤ 255 := h i (by simp)
    rw [be8_eq]
    simp only [sum8, List.foldl_cons, List.foldl_nil]
    refine ⟨?_, by omega, by omega⟩
    congr 1
    · omega
    congr 1
    · omega
    congr 1
    · omega
    congr 1
    · omega
    congr 1
    · omega
    congr 1
    · omega
    congr 1
    · omega
    congr 1
    omega

theorem getV_sum (xs : List Int) (h : ∀ x ∈ xs, IsB x) (i : Nat) (hi : i < 4) : getV xs 32 i = wrap64 (sum8 0 ((xs.drop (8 * i)).take 8)) := by
  unfold getV
  have e : ((xs.take 32).drop (8 * i)).take 8 = (xs.drop (8 * i)).take 8 := by
    rw [List.drop_take, List.take_take, Nat.min_eq_left (by omega)]
  rw [e, fold_zero]
  exact fun x hx => h x (List.mem_of_mem_drop (List.mem_of_mem_take hx))
theorem put_all (a b c d : Int) : ∀ x ∈ putL a b c d, IsB x := by
  intro x hx
  simp only [putL, List.mem_append] at hx
  rcases hx with ((hx | hx) | hx) | hx <;> exact be8_all _ x hx
theorem be8_len (x : Int) : (be8 x).length = 8 := by simp [be8]
theorem drop_at {A B : List Int} {n : Nat} (h : A.length = n) : (A ++ B).drop n = B := by rw [← h]; simp
theorem take_at {A B : List Int} {n : Nat} (h : A.length = n) : (A ++ B).take n = A := by rw [← h]; simp
/-- The four numbers of the bytes of a configuration, whatever follows. -/
theorem getV_put {a b c d : Int} (hv : Valid a b c d) (more : List Int) (hm : ∀ x ∈ more, IsB x) :
    getV (putL a b c d ++ more) 32 0 = a ∧ getV (putL a b c d ++ more) 32 1 = b ∧ getV (putL a b c d ++ more) 32 2 = c ∧ getV (putL a b c d ++ more) 32 3 = d := by
  obtain ⟨h0, h1, h2, h3, h4, h5, h6, h7⟩ := hv
  have hall : ∀ x ∈ putL a b c d ++ more, IsB x := fun x hx => (List.mem_append.1 hx).elim (put_all a b c d x) (hm x)
  have e : putL a b c d ++ more = be8 a ++ (be8 b ++ (be8 c ++ (be8 d ++ more))) := by simp [putL]
  have w : ∀ x : Int, 0 ≤ x → x ≤ 9223372036854775807 → wrap64 (sum8 0 (be8 x)) = x := fun x a b => by
    rw [sum_be8 x a (by omega)]; unfold wrap64; omega
  rw [getV_sum _ hall 0 (by decide), getV_sum _ hall 1 (by decide), getV_sum _ hall 2 (by decide), getV_sum _ hall 3 (by decide), e]
  refine ⟨?_, ?_, ?_, ?_⟩
  · rw [Nat.mul_zero, List.drop_zero, take_at (be8_len a)]; exact w a (by omega) (by omega)
  · rw [show 8 * 1 = 8 from rfl, drop_at (be8_len a), take_at (be8_len b)]; exact w b (by omega) (by omega)
  · rw [show 8 * 2 = 8 + 8 from rfl, ← List.drop_drop, drop_at (be8_len a), drop_at (be8_len b), take_at (be8_len c)]; exact w c (by omega) (by omega)
  · rw [show 8 * 3 = 8 + (8 + 8) from rfl, ← List.drop_drop, ← List.drop_drop, drop_at (be8_len a), drop_at (be8_len b), drop_at (be8_len c), take_at (be8_len d)]; exact w d (by omega) (by omega)
theorem getOf_put {a b c d : Int} (hv : Valid a b c d) (more : List Int) (hm : ∀ x ∈ more, IsB x) : getOf (putL a b c d ++ more) = (a, b, c, d, 32, 0) := by
  obtain ⟨e0, e1, e2, e3⟩ := getV_put hv more hm
  unfold getOf
  rw [e0, e1, e2, e3]
  exact if_pos hv

/-- What is read from 32 bytes, as a valid configuration, has these bytes. -/
theorem put_get (xs : List Int) (hl : xs.length = 32) (h : ∀ x ∈ xs, IsB x) (h0 : 0 ≤ getV xs 32 0) (h1 : 0 ≤ getV xs 32 1) (h2 : 0 ≤ getV xs 32 2) (h3 : 0 ≤ getV xs 32 3) :
    putL (getV xs 32 0) (getV xs 32 1) (getV xs 32 2) (getV xs 32 3) = xs := by
  have key : ∀ i, i < 4 → 0 ≤ getV xs 32 i → be8 (getV xs 32 i) = (xs.drop (8 * i)).take 8 := by
    intro i hi hp
    rw [getV_sum xs h i hi] at hp ⊢
    obtain ⟨e, a0, a1⟩ := be8_sum ((xs.drop (8 * i)).take 8) (by rw [List.length_take, List.length_drop]; omega) (fun x hx => h x (List.mem_of_mem_drop (List.mem_of_mem_take hx)))
    have ew : wrap64 (sum8 0 ((xs.drop (8 * i)).take 8)) = sum8 0 ((xs.drop (8 * i)).take 8) := by
      revert hp; unfold wrap64; omega
    rw [ew, e]
  unfold putL
  rw [key 0 (by decide) h0, key 1 (by decide) h1, key 2 (by decide) h2, key 3 (by decide) h3]
  match xs, hl with
  | [_, _, _, _, _, _, _, _, _, _, _, _, _, _, _, _, _, _, _, _, _, _, _, _, _, _, _, _, _, _, _, _], _ => rfl

theorem xor_byte (x y : Int) (hx : IsB x) (hy : IsB y) : IsB (bits .xor .u8 x y) ∧ (bits .xor .u8 x y = x ↔ y = 0) := by
  obtain ⟨hx0, hx1⟩ := hx
  obtain ⟨hy0, hy1⟩ := hy
  obtain ⟨a, rfl⟩ := Int.eq_ofNat_of_zero_le hx0
  obtain ⟨b, rfl⟩ := Int.eq_ofNat_of_zero_le hy0
  have ha : a < 2 ^ 8 := by omega
  have hb : b < 2 ^ 8 := by omega
  have hc := Nat.xor_lt_two_pow ha hb
  have e1 : (BitVec.ofInt 8 (a : Int)).toNat = a := by rw [BitVec.toNat_ofInt]; omega
  have e2 : (BitVec.ofInt 8 (b : Int)).toNat = b := by rw [BitVec.toNat_ofInt]; omega
  have e : bits .xor .u8 (a : Int) (b : Int) = ((a ^^^ b : Nat) : Int) := by
    show IntKind.u8.wrap (((BitVec.ofInt 8 (a : Int)) ^^^ (BitVec.ofInt 8 (b : Int))).toNat : Nat) = _
    rw [BitVec.toNat_xor, e1, e2]
    simp only [IntKind.wrap, IntKind.bits, IntKind.signed]
    simp
    omega
  rw [e]
  refine ⟨⟨by omega, by omega⟩, ?_⟩
  constructor
  · intro h
    have h1 : a ^^^ b = a := by omega
    have h2 := congrArg (a ^^^ ·) h1
    simp only [← Nat.xor_assoc, Nat.xor_self, Nat.zero_xor] at h2
    omega
  · intro h
    have : b = 0 := by omega
    rw [this, Nat.xor_zero]
theorem xor_set (xs : List Int) (m : Nat) (y : Int) (hm : m < xs.length) (h : ∀ x ∈ xs, IsB x) (hy : IsB y) :
    (∀ x ∈ xs.set m (bits .xor .u8 (xs.getD m 0) y), IsB x) ∧ (xs.set m (bits .xor .u8 (xs.getD m 0) y) = xs ↔ y = 0) := by
  have hg : xs.getD m 0 = xs[m] := by simp [List.getD_eq_getElem?_getD, List.getElem?_eq_getElem hm]
  have hx := xor_byte _ y (h _ (List.getElem_mem hm)) hy
  rw [hg]
  refine ⟨fun x hx' => ?_, ?_⟩
  · rcases List.mem_or_eq_of_mem_set hx' with h1 | rfl
    · exact h x h1
    · exact hx.1
  · rw [← hx.2]
    constructor
    · intro e
      have := congrArg (·[m]?) e
      simpa [List.getElem?_set, hm, List.getElem?_eq_getElem hm] using this
    · intro e; rw [e]; simp
end Go.Proofs.YtlnfpkknhmiegaaDoor
