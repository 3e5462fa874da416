/- The contracts of config.number. -/
import Derived.Test.YtlnfpkknhmiegaaDoorA3
namespace Go.Proofs.YtlnfpkknhmiegaaDoor
open Go Go.RowKit

abbrev formErr : List PanicEntry := [{ v := .iface 25 (.int .i64 15), recovered := false }]
def digs : List UInt8 := [48, 49, 50, 51, 52, 53, 54, 55, 56, 57]

/-- What config.number returns; none: it panics. -/
def numOf : List UInt8 → Option Int
  | [] => none
  | c :: l => if c = 48 ∧ l ≠ [] then none else if Lib.trimS (c :: l) digs = [] then (match Lib.parseIntB 64 (c :: l) with | .ok v => some v | _ => none) else none

theorem hid_trans {w w1 w2 : World} (a : Hid (Below w.heap.size w w1)) (b : Hid (Below w1.heap.size w1 w2)) : Below w.heap.size w w2 := a.out.trans (b.out.mono a.out.size)

theorem trim_any (s : List UInt8) (w : World) (hs : s.length ≤ 4294967280) :
    Calls Tryd.prog 58 #[.string ⟨s.toArray⟩, .string ⟨#[48, 49, 50, 51, 52, 53, 54, 55, 56, 57]⟩] w fun e w' => e = .returned (.string ⟨(Lib.trimS s digs).toArray⟩) ∧ Below w.heap.size w w' :=
  Tryd.strings_Trim_laid ⟨s.toArray⟩ ⟨#[48, 49, 50, 51, 52, 53, 54, 55, 56, 57]⟩ w (by simp [ByteArray.size]; omega) (by decide) (ascii_of_all (by decide))

theorem bytesWorld_or {w w' : World} (h : w' = w ∨ ∃ t, w' = Lib.bytesWorld w 5 t) : Below w.heap.size w w' := by
  rcases h with rfl | ⟨t, rfl⟩
  · exact Below.refl _ _
  · exact Lib.bytesWorld_below w 5 t

theorem parse_ok (s : List UInt8) (v : Int) (w : World) (hs : s.length ≤ 4294967280) (h : Lib.parseIntB 64 s = .ok v) :
    Calls Tryd.prog 59 #[.string ⟨s.toArray⟩, .int .i64 10, .int .i64 64] w fun e w' => e = .returned (.tuple #[.int .i64 v, .nilIface]) ∧ Below w.heap.size w w' :=
  (Tryd.strconv_ParseInt_10_at64_ok ⟨s.toArray⟩ (by simp [ByteArray.size]; omega) v h w).mono fun e w' ⟨he, hw⟩ => ⟨he, bytesWorld_or hw⟩
/-- ParseInt returns an error, not nil. -/
def ParseBad (w : World) (e : Ending) (w' : World) : Prop := ∃ n p, e = .returned (.tuple #[.int .i64 n, .iface 130 (.pointer (some p))]) ∧ Below w.heap.size w w'
theorem parse_bad (s : List UInt8) (w : World) (hs : s.length ≤ 4294967280) (hG : G w) (h : ∀ v, Lib.parseIntB 64 s ≠ .ok v) :
    Calls Tryd.prog 59 #[.string ⟨s.toArray⟩, .int .i64 10, .int .i64 64] w (ParseBad w) := by
  cases hp : Lib.parseIntB 64 s with
  | ok v => exact absurd hp (h v)
  | range =>
    obtain ⟨tp, p, hv⟩ := hG.rng
    exact (Tryd.strconv_ParseInt_10_at64_range_var ⟨s.toArray⟩ (by simp [ByteArray.size]; omega) hp tp p w hv).mono fun e w' ⟨N, he, _, _, hb⟩ => ⟨_, _, he, hb⟩
  | _ =>
    obtain ⟨tp, p, hv⟩ := hG.syn
    exact (Tryd.strconv_ParseInt_10_at64_syntax_var ⟨s.toArray⟩ (by simp [ByteArray.size]; omega) hp tp p w hv).mono fun e w' ⟨N, he, _, _, hb⟩ => ⟨_, _, he, hb⟩

theorem numOf_some {s : List UInt8} {n : Int} (h : numOf s = some n) : ∃ c l, s = c :: l ∧ (l = [] ∨ c ≠ 48) ∧ Lib.trimS s digs = [] ∧ Lib.parseIntB 64 s = .ok n := by
  cases s with
  | nil => simp [numOf] at h
  | cons c l =>
    simp only [numOf] at h
    by_cases h1 : c = 48 ∧ l ≠ []
    · simp [h1] at h
    · rw [if_neg h1] at h
      by_cases h2 : Lib.trimS (c :: l) digs = []
      · rw [if_pos h2] at h
        refine ⟨c, l, rfl, ?_, h2, ?_⟩
        · by_cases hl : l = []
          · exact .inl hl
          · exact .inr fun e => h1 ⟨e, hl⟩
        · cases hp : Lib.parseIntB 64 (c :: l) with
          | ok v => rw [hp] at h; simp at h; rw [h]
          | range => rw [hp] at h; simp at h
          | _ => rw [hp] at h; simp at h
      · rw [if_neg h2] at h; simp at h

theorem numOf_none {s : List UInt8} (h : numOf s = none) : s = [] ∨ ∃ c l, s = c :: l ∧ ((c = 48 ∧ l ≠ []) ∨ (l = [] ∨ c ≠ 48) ∧ (Lib.trimS s digs ≠ [] ∨ Lib.trimS s digs = [] ∧ ∀ v, Lib.parseIntB 64 s ≠ .ok v)) := by
  cases s with
  | nil => exact .inl rfl
  | cons c l =>
    refine .inr ⟨c, l, rfl, ?_⟩
    simp only [numOf] at h
    by_cases h1 : c = 48 ∧ l ≠ []
    · exact .inl h1
    · rw [if_neg h1] at h
      refine .inr ⟨?_, ?_⟩
      · by_cases hl : l = []
        · exact .inl hl
        · exact .inr fun e => h1 ⟨e, hl⟩
      · by_cases h2 : Lib.trimS (c :: l) digs = []
        · rw [if_pos h2] at h
          refine .inr ⟨h2, fun v hv => ?_⟩
          rw [hv] at h; simp at h
        · exact .inl h2

set_option maxRecDepth 100000 in
set_option maxHeartbeats 1000000 in
theorem number_some (s : List UInt8) (n : Int) (w : World) (hs : s.length ≤ 4294967280) (h : numOf s = some n) :
    Calls Tryd.prog 50 #[.string ⟨s.toArray⟩] w fun e w' => e = .returned (.int .i64 n) ∧ Below w.heap.size w w' := by
  obtain ⟨c, l, rfl, hcl, ht, hp⟩ := numOf_some h
  have h1 := trim_any (c :: l) w hs
  rw [ht] at h1
  have h2 := fun w1 => parse_ok (c :: l) n w1 hs hp
  have H1 := Lib.hid h1; have H2 := Lib.hid h2
  clear h1 h2 ht hp h
  rcases hcl with rfl | hc
  all_goals
    try have hc' : (c.toNat : Int) ≠ 48 := fun e => hc (UInt8.toNat_inj.1 (by simpa using (Int.ofNat_inj.1 e : c.toNat = 48)))
    go_enter Tryd.func50, Tryd.ntmps50
    go_wp2_with (first | (go_at_call 58; refine (H1.out).mono ?_; rintro e w1 ⟨rfl, hb1⟩; have HB1 := Lib.hid hb1; clear hb1) | (go_at_call 59; refine (H2.out _).mono ?_; rintro e w2 ⟨rfl, hb2⟩; have HB2 := Lib.hid hb2; clear hb2))
    all_goals
      go_ret
      exact ⟨rfl, hid_trans HB1 HB2⟩

set_option maxRecDepth 100000 in
set_option maxHeartbeats 1000000 in
theorem number_none (s : List UInt8) (w : World) (hG : G w) (hs : s.length ≤ 4294967280) (h : numOf s = none) :
    Calls Tryd.prog 50 #[.string ⟨s.toArray⟩] w fun e w' => e = .panicked formErr ∧ Below w.heap.size w w' := by
  rcases numOf_none h with rfl | ⟨c, l, rfl, ⟨rfl, hl⟩ | ⟨hcl, ht | ⟨ht, hp⟩⟩⟩
  · clear hG hs h
    go_enter Tryd.func50, Tryd.ntmps50
    go_wp2
    exact ⟨rfl, rfl, Below.refl _ _⟩
  · have hl' : 1 ≤ l.length := by cases l <;> simp_all
    have hs' : l.length ≤ 4294967280 := by simp at hs; omega
    clear hG hs h hl
    go_enter Tryd.func50, Tryd.ntmps50
    go_wp2
    exact ⟨rfl, rfl, Below.refl _ _⟩
  · have h1 := trim_any (c :: l) w hs
    cases hT : Lib.trimS (c :: l) digs with
    | nil => exact absurd hT ht
    | cons x t =>
      rw [hT] at h1
      have H1 := Lib.hid h1
      clear h1 hT ht hG h
      rcases hcl with rfl | hc
      all_goals
        try have hc' : (c.toNat : Int) ≠ 48 := fun e => hc (UInt8.toNat_inj.1 (by simpa using (Int.ofNat_inj.1 e : c.toNat = 48)))
        go_enter Tryd.func50, Tryd.ntmps50
        go_wp2_with (first | (go_at_call 58; refine (H1.out).mono ?_; rintro e w1 ⟨rfl, hb1⟩; have HB1 := Lib.hid hb1; clear hb1))
        all_goals exact ⟨rfl, rfl, HB1.out⟩
  · have h1 := trim_any (c :: l) w hs
    rw [ht] at h1
    have h2 := fun w1 (hb : Below w.heap.size w w1) => parse_bad (c :: l) w1 hs (hG.on hb) hp
    have H1 := Lib.hid h1; have H2 := Lib.hid h2
    clear h1 h2 ht hp h hG
    rcases hcl with rfl | hc
    all_goals
      try have hc' : (c.toNat : Int) ≠ 48 := fun e => hc (UInt8.toNat_inj.1 (by simpa using (Int.ofNat_inj.1 e : c.toNat = 48)))
      go_enter Tryd.func50, Tryd.ntmps50
      go_wp2_with (first | (go_at_call 58; refine (H1.out).mono ?_; rintro e w1 ⟨rfl, hb1⟩; have HB1 := Lib.hid hb1; clear hb1) | (go_at_call 59; refine (H2.out _ HB1.out).mono ?_; rintro e w2 ⟨m, p, rfl, hb2⟩; have HB2 := Lib.hid hb2; clear hb2))
      go_ways
      all_goals exact ⟨rfl, rfl, hid_trans HB1 HB2⟩
end Go.Proofs.YtlnfpkknhmiegaaDoor
