/- The reference's Put, and the walk of ConfigChecks. -/
import Derived.Test.YtlnfpkknhmiegaaDoorE15
import Derived.Test.YtlnfpkknhmiegaaDoorA11
namespace Go.Proofs.YtlnfpkknhmiegaaDoor
open Go Go.RowKit
section
open Go.Proofs.YtlnfpkknhmiegaaDoorW.PrintWords Go.Proofs.YtlnfpkknhmiegaaDoorW.PrintLast Go.Proofs.YtlnfpkknhmiegaaDoorW.PrintMore
theorem shr_byte (x z : Int) (h0 : 0 ≤ z) (h8 : z < 8) : (shr .i64 x (wrap64 (8 * z))) % 256 = byteAt x (7 - z.toNat) := by
  have e : wrap64 (8 * z) = 8 * z := by unfold wrap64; omega
  have e2 : min (8 * z).toNat IntKind.i64.bits = 56 - 8 * (7 - z.toNat) := by
    have : IntKind.i64.bits = 64 := rfl
    omega
  unfold shr byteAt
  rw [e, e2]
theorem put_step (k : Nat) (x4 x5 : List Int) (x6 z : Int) (h0 : 0 ≤ z) (h8 : z < 8) (i0 : 0 ≤ x6) (i1 : x6 < (x5.length : Int)) (hl : x4.length ≤ 1000) :
    PConfigChecks.seepageref39_Put.l1 (k + 1) x4 x5 x6 z = PConfigChecks.seepageref39_Put.l1 k (x4 ++ [byteAt (rd x5 x6) (7 - z.toNat)]) x5 x6 (z - 1) := by
  have e : wrap64 (8 * z) = 8 * z := by unfold wrap64; omega
  have e1 : wrap64 (z - 1) = z - 1 := by unfold wrap64; omega
  simp only [PConfigChecks.seepageref39_Put.l1, shr_byte _ z h0 h8]
  rw [if_pos h0, if_pos i0, if_pos i1, e, if_pos (by omega), if_pos (by omega), e1]
theorem be8_is (x : Int) : be8 x = [byteAt x 0, byteAt x 1, byteAt x 2, byteAt x 3, byteAt x 4, byteAt x 5, byteAt x 6, byteAt x 7] := rfl
theorem put_row (k : Nat) (x4 x5 : List Int) (x6 : Int) (i0 : 0 ≤ x6) (i1 : x6 < (x5.length : Int)) (hl : x4.length ≤ 500) (h6 : x6 ≤ 100) :
    PConfigChecks.seepageref39_Put.l0 (k + 10) x4 x5 x6 = PConfigChecks.seepageref39_Put.l0 k (x4 ++ be8 (rd x5 x6)) x5 (x6 + 1) := by
  have e1 : wrap64 (x6 + 1) = x6 + 1 := by unfold wrap64; omega
  simp only [PConfigChecks.seepageref39_Put.l0]
  rw [if_pos i1]
  rw [put_step _ _ _ _ 7 (by omega) (by omega) i0 i1 (by omega), show (7 : Int) - 1 = 6 from rfl]
  rw [put_step _ _ _ _ 6 (by omega) (by omega) i0 i1 (by simp; omega), show (6 : Int) - 1 = 5 from rfl]
  rw [put_step _ _ _ _ 5 (by omega) (by omega) i0 i1 (by simp; omega), show (5 : Int) - 1 = 4 from rfl]
  rw [put_step _ _ _ _ 4 (by omega) (by omega) i0 i1 (by simp; omega), show (4 : Int) - 1 = 3 from rfl]
  rw [put_step _ _ _ _ 3 (by omega) (by omega) i0 i1 (by simp; omega), show (3 : Int) - 1 = 2 from rfl]
  rw [put_step _ _ _ _ 2 (by omega) (by omega) i0 i1 (by simp; omega), show (2 : Int) - 1 = 1 from rfl]
  rw [put_step _ _ _ _ 1 (by omega) (by omega) i0 i1 (by simp; omega), show (1 : Int) - 1 = 0 from rfl]
  rw [put_step _ _ _ _ 0 (by omega) (by omega) i0 i1 (by simp; omega), show (0 : Int) - 1 = -1 from rfl]
  simp only [PConfigChecks.seepageref39_Put.l1]
  rw [if_neg (by omega), e1, be8_is]
  simp
theorem rcheck_more (a b c d : Int) (k : Nat) : PConfigChecks.seepageref39_Check.f (9 + k) a b c d = some (chk a b c d) := by
  induction k with
  | zero => exact rcheck a b c d
  | succ k ih => exact PConfigChecks.seepageref39_Check.mono a b c d (9 + k) _ ih
theorem put_all4 (k : Nat) (a b c d : Int) : PConfigChecks.seepageref39_Put.l0 (k + 41) [] [a, b, c, d] 0 = some (putL a b c d, 0) := by
  rw [show k + 41 = (k + 31) + 10 by omega, put_row _ _ _ _ (by omega) (by simp) (by simp) (by omega)]
  rw [show k + 31 = (k + 21) + 10 by omega, put_row _ _ _ _ (by omega) (by simp) (by simp [be8_length]) (by omega)]
  rw [show k + 21 = (k + 11) + 10 by omega, put_row _ _ _ _ (by omega) (by simp) (by simp [be8_length]) (by omega)]
  rw [show k + 11 = (k + 1) + 10 by omega, put_row _ _ _ _ (by omega) (by simp) (by simp [be8_length]) (by omega)]
  simp only [PConfigChecks.seepageref39_Put.l0]
  rw [if_neg (by simp)]
  simp [putL, rd]
theorem rput_f (a b c d : Int) : PConfigChecks.seepageref39_Put.f 60 a b c d = some (if chk a b c d = 0 then (putL a b c d, 0) else ([], 2)) := by
  unfold PConfigChecks.seepageref39_Put.f
  rw [show (60 : Nat) = 9 + 51 from rfl, rcheck_more, Option.bind_some]
  by_cases h : chk a b c d = 0
  · rw [if_pos h, if_pos h]
    simp only [PConfigChecks.seepageref39_Fields.f, Option.bind_some]
    exact put_all4 19 a b c d
  · rw [if_neg h, if_neg h]

theorem rput_ok (a b c d : Int) (w : World) (hv : Valid a b c d) :
    Calls Tryd.prog 29 #[quad a b c d] w fun e w' => ∃ ad cp, e = .returned (.tuple #[.slice (some ad) 32 cp, .int .i64 0]) ∧ Below w.heap.size w w' ∧ ∀ j, j < 32 → w'.cell? (ad.add j) = some (.int .u8 ((putL a b c d).getD j 0)) := by
  have h := rput_f a b c d
  rw [if_pos (chk_ok hv)] at h
  refine (PConfigChecks.seepageref39_Put.calls 60 a b c d _ _ w h).mono ?_
  rintro e w' ⟨v0, rfl, hR, hb⟩
  obtain ⟨A, cp, rfl, -, hC⟩ := Kd.R_reads hR
  obtain ⟨-, -, hc⟩ := Kd.reads_of_C (d := 0) hC
  rw [putL_length] at hc
  obtain ⟨ad, rfl, hc2⟩ := hc (by decide)
  exact ⟨ad, cp, by rw [putL_length], hb, hc2⟩
theorem rput_bad (a b c d : Int) (w : World) (hv : ¬ Valid a b c d) :
    Calls Tryd.prog 29 #[quad a b c d] w fun e w' => ∃ A cp, e = .returned (.tuple #[.slice A 0 cp, .int .i64 2]) ∧ Below w.heap.size w w' := by
  have h := rput_f a b c d
  rw [if_neg (by rw [chk_bad hv]; decide)] at h
  refine (PConfigChecks.seepageref39_Put.calls 60 a b c d _ _ w h).mono ?_
  rintro e w' ⟨v0, rfl, hR, hb⟩
  obtain ⟨A, cp, rfl, -, hC⟩ := Kd.R_reads hR
  exact ⟨A, cp, rfl, hb⟩
end

theorem add_at2 (g o j : Nat) : (⟨g, o, none⟩ : Addr).add j = ⟨g, o + j, none⟩ := by
  unfold Addr.add
  split
  · rename_i h; subst h; rfl
  · rfl
theorem keep_cell {w w' : World} {p : Addr} {v : Value} (h : w.cell? p = some v) (hb : Below w.heap.size w w') : w'.cell? p = some v := (hb.cell (World.block_lt_of_cell? w _ h)).trans h
theorem put_cells {g : Nat} {a b c d : Int} {w : World} (h : w.heap[g]? = some (.cells (laid (putL a b c d) 32) 5 (0, 0))) (j : Nat) (hj : j < 32) : w.cell? ((⟨g, 0, none⟩ : Addr).add j) = some (.int .u8 ((putL a b c d).getD j 0)) := by
  rw [add_at2, Nat.zero_add, cells_of_block h]
  have hl := putL_length a b c d
  have ht : (putL a b c d).take 32 = putL a b c d := List.take_of_length_le (by omega)
  simp [laid, ht, List.getD_eq_getElem?_getD, List.getElem?_eq_getElem (show j < (putL a b c d).length by omega)]
set_option maxRecDepth 100000 in
set_option maxHeartbeats 1000000 in
theorem same_at2 (A B : Addr) (ca cb : Nat) (xs : List Int) (w : World) (hl : xs.length ≤ 4294967280) (hx : ∀ j, j < xs.length → w.cell? (A.add j) = some (.int .u8 (xs.getD j 0))) (hy : ∀ j, j < xs.length → w.cell? (B.add j) = some (.int .u8 (xs.getD j 0))) :
    Calls Tryd.prog 27 #[.slice (some A) xs.length ca, .slice (some B) xs.length cb] w fun e w' => e = .returned (.bool true) ∧ Below w.heap.size w w' := by
  have HX := Lib.hid hx; have HY := Lib.hid hy
  clear hx hy
  go_enter Tryd.func27, Tryd.ntmps27
  go_wp2
  go_loopw [5] (fun i wr => ∃ k : Nat, k ≤ xs.length ∧ i = .int .i64 k ∧ (∀ p, wr.cell? p = w.cell? p) ∧ Below w.heap.size w wr) (fun i _ => xs.length - (intOf i).toNat)
  case atStart => exact ⟨0, by omega, rfl, fun _ => rfl, Below.refl _ _⟩
  case round =>
    obtain ⟨k, hk, rfl, hc, hb⟩ := hrel
    have HC := Lib.hid hc; have HB := Lib.hid hb
    by_cases hlt : k < xs.length
    · have h1 := (hc _).trans (HX.out k hlt)
      have h2 := (hc _).trans (HY.out k hlt)
      clear hc hb
      generalize xs.getD k 0 = v at *
      go_wp2
      go_region
      go_wp2
      go_roundw
      case rel => exact ⟨k + 1, by omega, by go_num, fun p => HC.out p, HB.out.drew⟩
      case measure => simp [intOf]; omega
    · have hkn : k = xs.length := by omega
      subst hkn
      clear hc hb
      go_wp2
      go_ret
      exact ⟨rfl, HB.out⟩
theorem same_empty2 (A B : Option Addr) (ca cb : Nat) (w : World) : Calls Tryd.prog 27 #[.slice A 0 ca, .slice B 0 cb] w fun e w' => e = .returned (.bool true) ∧ Below w.heap.size w w' := by
  go_enter Tryd.func27, Tryd.ntmps27
  go_wp2
  refine wp_loop_rounds 2 ?_
  rw [rounds_succ]
  go_wp2
  go_ret
  exact ⟨rfl, Below.refl _ _⟩

theorem same_n (A B : Addr) (ca cb n : Nat) (xs : List Int) (hn : xs.length = n) (w : World) (hl : n ≤ 4294967280) (hx : ∀ j, j < n → w.cell? (A.add j) = some (.int .u8 (xs.getD j 0))) (hy : ∀ j, j < n → w.cell? (B.add j) = some (.int .u8 (xs.getD j 0))) :
    Calls Tryd.prog 27 #[.slice (some A) n ca, .slice (some B) n cb] w fun e w' => e = .returned (.bool true) ∧ Below w.heap.size w w' := by
  subst hn
  exact same_at2 A B ca cb xs w hl hx hy
attribute [local go_sem ↓] eq24 ne24
attribute [local go_sem] same4_self

set_option maxRecDepth 100000 in
set_option maxHeartbeats 4000000 in
theorem checks_ok (a b c d : Int) (w : World) (hG : G w) (hv : Valid a b c d) :
    Calls Tryd.prog 9 #[quad a b c d] w fun e w' => e = .returned (.bool true) ∧ Below w.heap.size w w' := by
  have HG : Hid (At w w) := Lib.hid ⟨hG, Below.refl _ _⟩
  have HV := Lib.hid hv
  clear hG hv
  have H1 := Lib.hid (HG.out.alloc (.cells #[.int .i64 a, .int .i64 b, .int .i64 c, .int .i64 d] 24))
  have C1 := Lib.hid (Box.new w a b c d)
  go_enter Tryd.func9, Tryd.ntmps9
  go_wp2_with (first | (go_at_call 16; refine (text_ok _ _ _ _ _ H1.out.g HV.out).mono ?_; rintro e w2 ⟨rfl, hb2⟩; refine Hid.out ?_))
  have H2 := Lib.hid (H1.out.on hb2)
  have C2 := Lib.hid (C1.out.on hb2)
  clear hb2 H1 C1
  obtain ⟨c0, c1, c2, c3⟩ := C2.out.cells
  refine Lib.hid ?_
  go_wp2_with (first | (go_at_call 28; refine (rtext_ok _ _ _ _ _ HV.out).mono ?_; rintro e w3 ⟨rfl, hb3⟩; refine Hid.out ?_))
  have H3 := Lib.hid (H2.out.on hb3)
  have C3 := Lib.hid (C2.out.on hb3)
  clear hb3 H2 C2 c0 c1 c2 c3
  obtain ⟨c0, c1, c2, c3⟩ := C3.out.cells
  refine Lib.hid ?_
  generalize (⟨(textL a b c d).toArray⟩ : ByteArray) = T at *
  go_wp2_with (first | (go_at_call 24; refine (put_ok _ _ _ _ _ H3.out.g HV.out).mono ?_; rintro e w4 ⟨g, rfl, hg, hb4, hbb⟩; refine Hid.out ?_))
  have P4 := Lib.hid (put_cells hbb)
  have hgl := (Array.getElem?_eq_some_iff.1 hbb).1
  clear hbb hg
  have H4 := Lib.hid (H3.out.on hb4)
  have C4 := Lib.hid (C3.out.on hb4)
  clear hb4 H3 C3 c0 c1 c2 c3
  obtain ⟨c0, c1, c2, c3⟩ := C4.out.cells
  refine Lib.hid ?_
  go_wp2_with (first | (go_at_call 29; refine (rput_ok _ _ _ _ _ HV.out).mono ?_; rintro e w5 ⟨ad, cp, rfl, hb5, hcells⟩; refine Hid.out ?_))
  have P5 : Hid (∀ j, j < 32 → w5.cell? ((⟨g, 0, none⟩ : Addr).add j) = some (.int .u8 ((putL a b c d).getD j 0))) := Lib.hid fun j hj => (hb5.cell (p := (⟨g, 0, none⟩ : Addr).add j) (by rw [add_at2]; exact hgl)).trans (P4.out j hj)
  have Q5 := Lib.hid hcells
  clear P4 hcells hgl
  have H5 := Lib.hid (H4.out.on hb5)
  have C5 := Lib.hid (C4.out.on hb5)
  clear hb5 H4 C4 c0 c1 c2 c3
  generalize w.heap.size = m at *
  generalize hK : chk a b c d = ck at *
  generalize hF : fieldOf a b c d = fs at *
  generalize hA : cl 1 9223372036854775807 a = A at *
  generalize hB : cl 1 16384 b = B at *
  generalize hC : cl 2 4096 c = C at *
  generalize hD : cl 0 16384 d = D at *
  have HK := Lib.hid hK; have HF := Lib.hid hF; have HA := Lib.hid hA; have HB := Lib.hid hB; have HC := Lib.hid hC; have HD := Lib.hid hD
  clear hK hF hA hB hC hD
  have K1 : ∀ w : World, Tab w → Calls Tryd.prog 18 #[quad a b c d] w fun e w' => e = .returned (.int .i64 ck) ∧ Below w.heap.size w w' := fun w h => by rw [← HK.out]; exact check_any a b c d w h
  have K2 : ∀ w : World, Calls Tryd.prog 30 #[quad a b c d] w fun e w' => e = .returned (.int .i64 ck) ∧ Below w.heap.size w w' := fun w => by rw [← HK.out]; exact rcheck_any a b c d w
  have K3 : ∀ w : World, Tab w → Calls Tryd.prog 23 #[quad a b c d] w fun e w' => e = .returned (.string fs) ∧ Below w.heap.size w w' := fun w h => by rw [← HF.out]; exact field_any a b c d w h
  have K4 : ∀ w : World, Calls Tryd.prog 31 #[quad a b c d] w fun e w' => e = .returned (.string fs) ∧ Below w.heap.size w w' := fun w => by rw [← HF.out]; exact rfield_any a b c d w
  have K5 : ∀ w : World, Tab w → Calls Tryd.prog 21 #[quad a b c d] w fun e w' => e = .returned (quad A B C D) ∧ Below w.heap.size w w' := fun w h => by rw [← HA.out, ← HB.out, ← HC.out, ← HD.out]; exact clamp_cl a b c d w h
  have K6 : ∀ w : World, Calls Tryd.prog 32 #[quad a b c d] w fun e w' => e = .returned (quad A B C D) ∧ Below w.heap.size w w' := fun w => by rw [← HA.out, ← HB.out, ← HC.out, ← HD.out]; exact rclamp_any a b c d w
  have L1 := Lib.hid K1; have L2 := Lib.hid K2; have L3 := Lib.hid K3; have L4' := Lib.hid K4; have L5 := Lib.hid K5; have L6 := Lib.hid K6
  clear K1 K2 K3 K4 K5 K6 HK HF HA HB HC HD
  refine Lib.hid ?_
  go_upto_region 5 with fail
  have hbd : Below w5.heap.size w5 w5.drew := (Below.refl _ _).drew
  obtain ⟨c0, c1, c2, c3⟩ := C5.out.cells
  go_cut [49] (fun s wx => s = .bool false ∧ Below w5.heap.size w5 wx)
  case first =>
    go_region_held3 (fun w' => Below w5.heap.size w5 w' ∧ w'.cell? ⟨m, 0, none⟩ = some (.int .i64 a) ∧ w'.cell? ⟨m, 1, none⟩ = some (.int .i64 b) ∧ w'.cell? ⟨m, 2, none⟩ = some (.int .i64 c) ∧ w'.cell? ⟨m, 3, none⟩ = some (.int .i64 d))
      (first | exact ⟨(Below.refl _ _).drew, (C5.out.on (Below.refl _ _).drew).cells⟩ | exact ⟨Below.refl _ _, C5.out.cells⟩ | exact ⟨‹_›, (C5.out.on ‹_›).cells⟩)
      (first
        | (go_at_call 18; refine (L1.out _ (H5.out.g.on ‹Below w5.heap.size w5 _›).tab).mono ?_; rintro e w8 ⟨rfl, hb8⟩; have hc8 := (‹Below w5.heap.size w5 _›).trans (hb8.mono (‹Below w5.heap.size w5 _›).size); clear hb8)
        | (go_at_call 30; refine (L2.out _).mono ?_; rintro e w8 ⟨rfl, hb8⟩; have hc8 := (‹Below w5.heap.size w5 _›).trans (hb8.mono (‹Below w5.heap.size w5 _›).size); clear hb8)
        | (go_at_call 23; refine (L3.out _ (H5.out.g.on ‹Below w5.heap.size w5 _›).tab).mono ?_; rintro e w8 ⟨rfl, hb8⟩; have hc8 := (‹Below w5.heap.size w5 _›).trans (hb8.mono (‹Below w5.heap.size w5 _›).size); clear hb8)
        | (go_at_call 31; refine (L4'.out _).mono ?_; rintro e w8 ⟨rfl, hb8⟩; have hc8 := (‹Below w5.heap.size w5 _›).trans (hb8.mono (‹Below w5.heap.size w5 _›).size); clear hb8)
        | (go_at_call 21; refine (L5.out _ (H5.out.g.on ‹Below w5.heap.size w5 _›).tab).mono ?_; rintro e w8 ⟨rfl, hb8⟩; have hc8 := (‹Below w5.heap.size w5 _›).trans (hb8.mono (‹Below w5.heap.size w5 _›).size); clear hb8)
        | (go_at_call 32; refine (L6.out _).mono ?_; rintro e w8 ⟨rfl, hb8⟩; have hc8 := (‹Below w5.heap.size w5 _›).trans (hb8.mono (‹Below w5.heap.size w5 _›).size); clear hb8))
    all_goals (go_wp2_with fail; go_meet; exact ⟨rfl, ‹_›⟩)
  case rest =>
  obtain ⟨rfl, hcut⟩ := hcut
  have H8 := Lib.hid (H5.out.on hcut)
  have P8 := Lib.hid fun j (hj : j < 32) => keep_cell (P5.out j hj) hcut
  have Q8 := Lib.hid fun j (hj : j < 32) => keep_cell (Q5.out j hj) hcut
  clear P5 Q5
  clear hcut hbd c0 c1 c2 c3 H5 C5 L1 L2 L3 L4' L5 L6
  go_wp2_with (first
    | (go_at_call 27; refine (same_n ⟨g, 0, none⟩ ad 32 cp 32 (putL a b c d) (putL_length a b c d) _ (by decide) P8.out Q8.out).mono ?_; rintro e w9 ⟨rfl, hb9⟩; have H9 := Lib.hid (H8.out.on hb9); clear hb9)
    | (go_at_call 19; refine (default_any _).mono ?_; rintro e w10 ⟨rfl, hb10⟩; have H10 := Lib.hid (H9.out.on hb10); clear hb10)
    | (go_at_call 33; refine (rdefault_any _).mono ?_; rintro e w11 ⟨rfl, hb11⟩; have H11 := Lib.hid (H10.out.on hb11); clear hb11)
    | (go_at_call 12; refine (works_any _ H11.out.g).mono ?_; rintro e w12 ⟨rfl, hb12⟩; have H12 := Lib.hid (H11.out.on hb12); clear hb12))
  go_ret
  exact ⟨rfl, H12.out.fr⟩

set_option maxRecDepth 100000 in
set_option maxHeartbeats 4000000 in
theorem checks_bad (a b c d : Int) (w : World) (hG : G w) (hv : ¬ Valid a b c d) :
    Calls Tryd.prog 9 #[quad a b c d] w fun e w' => e = .returned (.bool true) ∧ Below w.heap.size w w' := by
  have HG : Hid (At w w) := Lib.hid ⟨hG, Below.refl _ _⟩
  have HV := Lib.hid hv
  clear hG hv
  have H1 := Lib.hid (HG.out.alloc (.cells #[.int .i64 a, .int .i64 b, .int .i64 c, .int .i64 d] 24))
  have C1 := Lib.hid (Box.new w a b c d)
  go_enter Tryd.func9, Tryd.ntmps9
  go_wp2_with (first | (go_at_call 16; refine (text_bad _ _ _ _ _ H1.out.g HV.out).mono ?_; rintro e w2 ⟨rfl, hb2⟩; refine Hid.out ?_))
  have H2 := Lib.hid (H1.out.on hb2)
  have C2 := Lib.hid (C1.out.on hb2)
  clear hb2 H1 C1
  obtain ⟨c0, c1, c2, c3⟩ := C2.out.cells
  refine Lib.hid ?_
  go_wp2_with (first | (go_at_call 28; refine (rtext_bad _ _ _ _ _ HV.out).mono ?_; rintro e w3 ⟨rfl, hb3⟩; refine Hid.out ?_))
  have H3 := Lib.hid (H2.out.on hb3)
  have C3 := Lib.hid (C2.out.on hb3)
  clear hb3 H2 C2 c0 c1 c2 c3
  obtain ⟨c0, c1, c2, c3⟩ := C3.out.cells
  refine Lib.hid ?_
  go_wp2_with (first | (go_at_call 24; refine (put_bad _ _ _ _ _ H3.out.g HV.out).mono ?_; rintro e w4 ⟨rfl, hb4⟩; refine Hid.out ?_))
  have H4 := Lib.hid (H3.out.on hb4)
  have C4 := Lib.hid (C3.out.on hb4)
  clear hb4 H3 C3 c0 c1 c2 c3
  obtain ⟨c0, c1, c2, c3⟩ := C4.out.cells
  refine Lib.hid ?_
  go_wp2_with (first | (go_at_call 29; refine (rput_bad _ _ _ _ _ HV.out).mono ?_; rintro e w5 ⟨AA, cp, rfl, hb5⟩; refine Hid.out ?_))
  have H5 := Lib.hid (H4.out.on hb5)
  have C5 := Lib.hid (C4.out.on hb5)
  clear hb5 H4 C4 c0 c1 c2 c3
  generalize w.heap.size = m at *
  generalize hK : chk a b c d = ck at *
  generalize hF : fieldOf a b c d = fs at *
  generalize hA : cl 1 9223372036854775807 a = A at *
  generalize hB : cl 1 16384 b = B at *
  generalize hC : cl 2 4096 c = C at *
  generalize hD : cl 0 16384 d = D at *
  have HK := Lib.hid hK; have HF := Lib.hid hF; have HA := Lib.hid hA; have HB := Lib.hid hB; have HC := Lib.hid hC; have HD := Lib.hid hD
  clear hK hF hA hB hC hD
  have K1 : ∀ w : World, Tab w → Calls Tryd.prog 18 #[quad a b c d] w fun e w' => e = .returned (.int .i64 ck) ∧ Below w.heap.size w w' := fun w h => by rw [← HK.out]; exact check_any a b c d w h
  have K2 : ∀ w : World, Calls Tryd.prog 30 #[quad a b c d] w fun e w' => e = .returned (.int .i64 ck) ∧ Below w.heap.size w w' := fun w => by rw [← HK.out]; exact rcheck_any a b c d w
  have K3 : ∀ w : World, Tab w → Calls Tryd.prog 23 #[quad a b c d] w fun e w' => e = .returned (.string fs) ∧ Below w.heap.size w w' := fun w h => by rw [← HF.out]; exact field_any a b c d w h
  have K4 : ∀ w : World, Calls Tryd.prog 31 #[quad a b c d] w fun e w' => e = .returned (.string fs) ∧ Below w.heap.size w w' := fun w => by rw [← HF.out]; exact rfield_any a b c d w
  have K5 : ∀ w : World, Tab w → Calls Tryd.prog 21 #[quad a b c d] w fun e w' => e = .returned (quad A B C D) ∧ Below w.heap.size w w' := fun w h => by rw [← HA.out, ← HB.out, ← HC.out, ← HD.out]; exact clamp_cl a b c d w h
  have K6 : ∀ w : World, Calls Tryd.prog 32 #[quad a b c d] w fun e w' => e = .returned (quad A B C D) ∧ Below w.heap.size w w' := fun w => by rw [← HA.out, ← HB.out, ← HC.out, ← HD.out]; exact rclamp_any a b c d w
  have L1 := Lib.hid K1; have L2 := Lib.hid K2; have L3 := Lib.hid K3; have L4' := Lib.hid K4; have L5 := Lib.hid K5; have L6 := Lib.hid K6
  clear K1 K2 K3 K4 K5 K6 HK HF HA HB HC HD
  refine Lib.hid ?_
  go_upto_region 5 with fail
  have hbd : Below w5.heap.size w5 w5.drew := (Below.refl _ _).drew
  obtain ⟨c0, c1, c2, c3⟩ := C5.out.cells
  go_cut [49] (fun s wx => s = .bool false ∧ Below w5.heap.size w5 wx)
  case first =>
    go_region_held3 (fun w' => Below w5.heap.size w5 w' ∧ w'.cell? ⟨m, 0, none⟩ = some (.int .i64 a) ∧ w'.cell? ⟨m, 1, none⟩ = some (.int .i64 b) ∧ w'.cell? ⟨m, 2, none⟩ = some (.int .i64 c) ∧ w'.cell? ⟨m, 3, none⟩ = some (.int .i64 d))
      (first | exact ⟨(Below.refl _ _).drew, (C5.out.on (Below.refl _ _).drew).cells⟩ | exact ⟨Below.refl _ _, C5.out.cells⟩ | exact ⟨‹_›, (C5.out.on ‹_›).cells⟩)
      (first
        | (go_at_call 18; refine (L1.out _ (H5.out.g.on ‹Below w5.heap.size w5 _›).tab).mono ?_; rintro e w8 ⟨rfl, hb8⟩; have hc8 := (‹Below w5.heap.size w5 _›).trans (hb8.mono (‹Below w5.heap.size w5 _›).size); clear hb8)
        | (go_at_call 30; refine (L2.out _).mono ?_; rintro e w8 ⟨rfl, hb8⟩; have hc8 := (‹Below w5.heap.size w5 _›).trans (hb8.mono (‹Below w5.heap.size w5 _›).size); clear hb8)
        | (go_at_call 23; refine (L3.out _ (H5.out.g.on ‹Below w5.heap.size w5 _›).tab).mono ?_; rintro e w8 ⟨rfl, hb8⟩; have hc8 := (‹Below w5.heap.size w5 _›).trans (hb8.mono (‹Below w5.heap.size w5 _›).size); clear hb8)
        | (go_at_call 31; refine (L4'.out _).mono ?_; rintro e w8 ⟨rfl, hb8⟩; have hc8 := (‹Below w5.heap.size w5 _›).trans (hb8.mono (‹Below w5.heap.size w5 _›).size); clear hb8)
        | (go_at_call 21; refine (L5.out _ (H5.out.g.on ‹Below w5.heap.size w5 _›).tab).mono ?_; rintro e w8 ⟨rfl, hb8⟩; have hc8 := (‹Below w5.heap.size w5 _›).trans (hb8.mono (‹Below w5.heap.size w5 _›).size); clear hb8)
        | (go_at_call 32; refine (L6.out _).mono ?_; rintro e w8 ⟨rfl, hb8⟩; have hc8 := (‹Below w5.heap.size w5 _›).trans (hb8.mono (‹Below w5.heap.size w5 _›).size); clear hb8))
    all_goals (go_wp2_with fail; go_meet; exact ⟨rfl, ‹_›⟩)
  case rest =>
  obtain ⟨rfl, hcut⟩ := hcut
  have H8 := Lib.hid (H5.out.on hcut)
  clear hcut hbd c0 c1 c2 c3 H5 C5 L1 L2 L3 L4' L5 L6
  go_wp2_with (first
    | (go_at_call 27; refine (same_empty2 _ _ _ _ _).mono ?_; rintro e w9 ⟨rfl, hb9⟩; have H9 := Lib.hid (H8.out.on hb9); clear hb9)
    | (go_at_call 19; refine (default_any _).mono ?_; rintro e w10 ⟨rfl, hb10⟩; have H10 := Lib.hid (H9.out.on hb10); clear hb10)
    | (go_at_call 33; refine (rdefault_any _).mono ?_; rintro e w11 ⟨rfl, hb11⟩; have H11 := Lib.hid (H10.out.on hb11); clear hb11)
    | (go_at_call 12; refine (works_any _ H11.out.g).mono ?_; rintro e w12 ⟨rfl, hb12⟩; have H12 := Lib.hid (H11.out.on hb12); clear hb12))
  go_ret
  exact ⟨rfl, H12.out.fr⟩
/-- For any configuration. -/
theorem checks_any (a b c d : Int) (w : World) (hG : G w) : Calls Tryd.prog 9 #[quad a b c d] w fun e w' => e = .returned (.bool true) ∧ Below w.heap.size w w' := by
  by_cases hv : Valid a b c d
  · exact checks_ok a b c d w hG hv
  · exact checks_bad a b c d w hG hv
end Go.Proofs.YtlnfpkknhmiegaaDoor
