/- The walk of ConfigGets. -/
import Derived.OwnWalk
import Derived.Laws.AppendOwnNone
import Derived.Test.YtlnfpkknhmiegaaDoorE11
namespace Go.Proofs.YtlnfpkknhmiegaaDoor
open Go Go.RowKit

theorem info5' : (Tryd.prog.info? 5).map (fun i => (i.zero, i.size, i.bytes)) = some (some (.int .u8 0), 1, 1) := by kernel_rfl
theorem add_at' (g o j : Nat) : (⟨g, o, none⟩ : Addr).add j = ⟨g, o + j, none⟩ := by
  unfold Addr.add
  split
  · rename_i h; subst h; rfl
  · rfl
theorem own_empty' (w : World) : (w.alloc (.cells #[] 5)).ownsRow w.heap.size 5 1 (.slice (some ⟨w.heap.size, 0, none⟩) 0 0) 0 [] :=
  ⟨rfl, .inr ⟨w.heap.size, 0, #[], rfl, Nat.le_refl _, block_new w _ _ rfl, Nat.le_refl _, by decide, rfl, rfl⟩⟩
theorem map_getElem' {L : List Int} {j : Nat} {u : Value} (h : (L.map (Value.int .u8))[j]? = some u) : j < L.length ∧ u = .int .u8 (L.getD j 0) := by
  rw [List.getElem?_map] at h
  cases hj : L[j]? with
  | none => rw [hj] at h; cases h
  | some x =>
    rw [hj] at h
    injection h with h
    refine ⟨(List.getElem?_eq_some_iff.1 hj).1, ?_⟩
    rw [← h, List.getD_eq_getElem?_getD, hj]; rfl

/-- What Get answers. -/
def ans (M : List Int) : Int × Int × Int × Int × Int × Int := if M.length < 32 then (0, 0, 0, 0, 0, 15) else getOf M
def AnsIs (M : List Int) (w : World) (e : Ending) (w' : World) : Prop :=
  e = .returned (.tuple #[quad (ans M).1 (ans M).2.1 (ans M).2.2.1 (ans M).2.2.2.1, .int .i64 (ans M).2.2.2.2.1, .int .i64 (ans M).2.2.2.2.2]) ∧ Below w.heap.size w w'
theorem get_ans (G cap : Nat) (M : List Int) (w : World) (hG : G < w.heap.size ∨ M.length < 32) (hP : Go.Proofs.YtlnfpkknhmiegaaDoor.G w) (hc : M.length ≤ cap) (h : ∀ j, j < M.length → w.cell? ⟨G, j, none⟩ = some (.int .u8 (M.getD j 0))) :
    Calls Tryd.prog 25 #[.slice (some ⟨G, 0, none⟩) M.length cap] w (AnsIs M w) := by
  unfold AnsIs ans
  by_cases h32 : M.length < 32
  · simp only [h32, if_true]
    exact get_short _ _ _ _ h32
  · simp only [h32, if_false]
    exact get_any G 0 cap M w hP (by omega) hc (fun j hj => by rw [Nat.zero_add]; exact h j hj) (by omega)
theorem rget_ans (ad : Addr) (ca : Nat) (M : List Int) (w : World) (hl : M.length ≤ 200) (h : ∀ j, j < M.length → w.cell? (ad.add j) = some (.int .u8 (M.getD j 0))) :
    Calls Tryd.prog 26 #[.slice (some ad) M.length ca] w (AnsIs M w) := by
  unfold AnsIs ans
  by_cases h32 : M.length < 32
  · simp only [h32, if_true]
    exact rget_short _ _ _ _ h32
  · simp only [h32, if_false]
    exact rget_any ad ca M w hl (by omega) h

set_option maxRecDepth 100000 in
set_option maxHeartbeats 1000000 in
theorem same_at (A B : Addr) (ca cb : Nat) (xs : List Int) (w : World) (hl : xs.length ≤ 4294967280) (hx : ∀ j, j < xs.length → w.cell? (A.add j) = some (.int .u8 (xs.getD j 0))) (hy : ∀ j, j < xs.length → w.cell? (B.add j) = some (.int .u8 (xs.getD j 0))) :
    Calls Tryd.prog 27 #[.slice (some A) xs.length ca, .slice (some B) xs.length cb] w fun e w' => e = .returned (.bool true) ∧ Below w.heap.size w w' := by
  have HX := Lib.hid hx; have HY := Lib.hid hy
  clear hx hy
  go_enter Tryd.func27, Tryd.ntmps27
  go_wp2
  go_loopw [5] (fun i wr => ∃ k : Nat, k ≤ xs.length ∧ i = .int .i64 k ∧ (∀ p, wr.cell? p = w.cell? p) ∧ Below w.heap.size w wr) (fun i _ => xs.length - (intOf i).toNat)
  case atStart => exact ⟨0, by omega, rfl, fun _ => rfl, Below.refl _ _⟩
  case round =>
    obtain ⟨k, hk, rfl, hc, hb⟩ := hrel
    have HC := Lib.hid hc; have HB := Lib.hid hb
    by_cases hlt : k < xs.length
    · have h1 := (hc _).trans (HX.out k hlt)
      have h2 := (hc _).trans (HY.out k hlt)
      clear hc hb
      generalize xs.getD k 0 = v at *
      go_wp2
      go_region
      go_wp2
      go_roundw
      case rel => exact ⟨k + 1, by omega, by go_num, fun p => HC.out p, HB.out.drew⟩
      case measure => simp [intOf]; omega
    · have hkn : k = xs.length := by omega
      subst hkn
      clear hc hb
      go_wp2
      go_ret
      exact ⟨rfl, HB.out⟩
theorem same_empty (A B : Option Addr) (ca cb : Nat) (w : World) : Calls Tryd.prog 27 #[.slice A 0 ca, .slice B 0 cb] w fun e w' => e = .returned (.bool true) ∧ Below w.heap.size w w' := by
  go_enter Tryd.func27, Tryd.ntmps27
  go_wp2
  refine wp_loop_rounds 2 ?_
  rw [rounds_succ]
  go_wp2
  go_ret
  exact ⟨rfl, Below.refl _ _⟩

theorem own_some {w : World} {base n : Nat} {v : Value} {L : List Int} (h : w.ownsRow base 5 1 v n (L.map (Value.int .u8))) (hn : v ≠ .slice none 0 0) :
    L.length = n ∧ ∃ G cap, v = .slice (some ⟨G, 0, none⟩) n cap ∧ base ≤ G ∧ n ≤ cap ∧ G < w.heap.size ∧ ∀ j, j < L.length → w.cell? ⟨G, j, none⟩ = some (.int .u8 (L.getD j 0)) := by
  obtain ⟨h0, h1⟩ := h
  have hl : L.length = n := by simpa using h0
  refine ⟨hl, ?_⟩
  rcases h1 with ⟨h1, -⟩ | ⟨G, cap, cur, rfl, hG, hb, hc, -, hs, ht⟩
  · exact absurd h1 hn
  · refine ⟨G, cap, rfl, hG, hc, (Array.getElem?_eq_some_iff.1 hb).1, fun j hj => ?_⟩
    rw [cells_of_block hb]
    have e : cur[j]? = (cur.toList.take (n * 1))[j]? := by
      rw [List.getElem?_take_of_lt (by omega)]; simp
    rw [e, ht]
    simp [List.getD_eq_getElem?_getD, List.getElem?_eq_getElem hj]

attribute [local go_sem ↓] eq24 ne24
attribute [local go_sem] same4_self

set_option maxRecDepth 100000 in
set_option maxHeartbeats 4000000 in
theorem gets_some (ad : Addr) (ca : Nat) (M : List Int) (w : World) (hG : G w) (hl : M.length ≤ 200) (hM : ∀ j, j < M.length → w.cell? (ad.add j) = some (.int .u8 (M.getD j 0))) :
    Calls Tryd.prog 8 #[.slice (some ad) M.length ca] w fun e w' => e = .returned (.bool true) ∧ Below w.heap.size w w' := by
  have HG : Hid (At w w) := Lib.hid ⟨hG, Below.refl _ _⟩
  have HM := Lib.hid hM
  clear hG hM
  obtain ⟨i0, hi, hz0, hz1, hz2⟩ := info_parts info5'
  have hl1 : (M.length : Int) ≤ 200 := by omega
  have ho1 := own_empty' w
  have hz : w.heap.size ≤ (w.alloc (.cells #[] 5)).heap.size := by simp
  have hn2 : ∀ j u, (M.map (Value.int .u8))[j]? = some u → (w.alloc (.cells #[] 5)).cell? (ad.add j) = some u := fun j u hu => by
    obtain ⟨hj, rfl⟩ := map_getElem' hu
    have := HM.out j hj
    have hlt := World.block_lt_of_cell? w _ this
    exact (((Below.refl _ _).alloc (Nat.le_refl _) (.cells #[] 5)).cell (p := ad.add j) hlt).trans this
  go_enter Tryd.func8, Tryd.ntmps8
  go_wp2_with (at_builtin; refine wpList_append_own _ rfl (.tmp 14) (.tmp 15) 34 rfl w.heap.size 5 i0 (.int .u8 0) 1 1 Tryd.underlying34 hi hz0 hz1 hz2 rfl (by decide) _ _ _ rfl ho1 ad M.length ca (M.map (Value.int .u8)) rfl (by rw [List.length_map, Nat.mul_one]) hn2 (ints_oneCell _ _) (by show 0 + M.length ≤ 2 ^ 63 - 1; omega) (by omega) hz ?_; intro v1 w1 ho2 hg1 hnn; refine Hid.out ?_)
  have ho2' : w1.ownsRow w.heap.size 5 1 v1 M.length (M.map (Value.int .u8)) := by simpa using ho2
  obtain ⟨-, G, cap, rfl, hGb, hcap, hGlt, hcells⟩ := own_some ho2' (fun e => by have := (hnn.1 e).1; cases this)
  have hb1 : Below w.heap.size w w1 := ((Below.refl _ _).alloc (Nat.le_refl _) (.cells #[] 5)).grown hg1 hz (fun k hk => by have h1 : some w.heap.size = some k := hk; injection h1 with h1; omega)
  have H1 := Lib.hid (HG.out.on hb1)
  have HC := Lib.hid hcells
  have HM1 : Hid (∀ j, j < M.length → w1.cell? (ad.add j) = some (.int .u8 (M.getD j 0))) := Lib.hid (fun j hj => by
    have := HM.out j hj
    exact (hb1.cell (p := ad.add j) (World.block_lt_of_cell? w _ this)).trans this)
  clear ho1 hn2 hz ho2 ho2' hg1 hnn hb1 hcells HM hi hz0 hz1 hz2
  refine Lib.hid ?_
  rcases hans : ans M with ⟨X1, X2, X3, X4, N, E⟩
  have hg1 := get_ans G cap M w1 (.inl hGlt) H1.out.g hcap HC.out
  unfold AnsIs at hg1
  rw [hans] at hg1
  have HGET := Lib.hid hg1
  clear hg1
  go_wp2_with (go_at_call 25; refine HGET.out.mono ?_; rintro e w2 ⟨rfl, hb2⟩; refine Hid.out ?_)
  have H2 := Lib.hid ((H1.out.on hb2).alloc (.cells #[.int .i64 X1, .int .i64 X2, .int .i64 X3, .int .i64 X4] 24))
  have C2 := Lib.hid (Box.new w2 X1 X2 X3 X4)
  have hbb : Below w1.heap.size w1 (w2.alloc (.cells #[.int .i64 X1, .int .i64 X2, .int .i64 X3, .int .i64 X4] 24)) := hb2.alloc hb2.size _
  have HC2 : Hid (∀ j, j < M.length → (w2.alloc (.cells #[.int .i64 X1, .int .i64 X2, .int .i64 X3, .int .i64 X4] 24)).cell? ⟨G, j, none⟩ = some (.int .u8 (M.getD j 0))) := Lib.hid (fun j hj => (hbb.cell (p := ⟨G, j, none⟩) hGlt).trans (HC.out j hj))
  have HM2 : Hid (∀ j, j < M.length → (w2.alloc (.cells #[.int .i64 X1, .int .i64 X2, .int .i64 X3, .int .i64 X4] 24)).cell? (ad.add j) = some (.int .u8 (M.getD j 0))) := Lib.hid (fun j hj => by
    have := HM1.out j hj
    exact (hbb.cell (p := ad.add j) (World.block_lt_of_cell? w1 _ this)).trans this)
  have hGlt2 : G < (w2.alloc (.cells #[.int .i64 X1, .int .i64 X2, .int .i64 X3, .int .i64 X4] 24)).heap.size := Nat.lt_of_lt_of_le hGlt hbb.size
  clear hb2 hbb H1 HC HM1 HGET hGlt
  refine Lib.hid ?_
  go_wp2_with fail
  generalize w2.alloc (.cells #[.int .i64 X1, .int .i64 X2, .int .i64 X3, .int .i64 X4] 24) = W at *
  generalize w2.heap.size = p at *
  have hr1 := rget_ans ad ca M W hl HM2.out
  unfold AnsIs at hr1
  rw [hans] at hr1
  have HR := Lib.hid hr1
  clear hr1
  refine HR.out.mono ?_
  rintro e w3 ⟨rfl, hb3⟩
  refine Hid.out ?_
  have H3 := Lib.hid ((H2.out.on hb3).alloc (.cells #[.int .i64 X1, .int .i64 X2, .int .i64 X3, .int .i64 X4] 24))
  have C3 := Lib.hid ((C2.out.on hb3).alloc (.cells #[.int .i64 X1, .int .i64 X2, .int .i64 X3, .int .i64 X4] 24))
  have D3 := Lib.hid (Box.new w3 X1 X2 X3 X4)
  have hbb : Below W.heap.size W (w3.alloc (.cells #[.int .i64 X1, .int .i64 X2, .int .i64 X3, .int .i64 X4] 24)) := hb3.alloc hb3.size _
  have HC3 : Hid (∀ j, j < M.length → (w3.alloc (.cells #[.int .i64 X1, .int .i64 X2, .int .i64 X3, .int .i64 X4] 24)).cell? ((⟨G, 0, none⟩ : Addr).add j) = some (.int .u8 (M.getD j 0))) := Lib.hid (fun j hj => by
    rw [add_at', Nat.zero_add]
    exact (hbb.cell (p := ⟨G, j, none⟩) hGlt2).trans (HC2.out j hj))
  have HM3 : Hid (∀ j, j < M.length → (w3.alloc (.cells #[.int .i64 X1, .int .i64 X2, .int .i64 X3, .int .i64 X4] 24)).cell? (ad.add j) = some (.int .u8 (M.getD j 0))) := Lib.hid (fun j hj => by
    have := HM2.out j hj
    exact (hbb.cell (p := ad.add j) (World.block_lt_of_cell? W _ this)).trans this)
  clear hb3 hbb H2 C2 HC2 HM2 HR hGlt2
  obtain ⟨c0, c1, c2, c3⟩ := C3.out.cells
  obtain ⟨d0, d1, d2, d3⟩ := D3.out.cells
  refine Lib.hid ?_
  go_wp2_with (first
    | (go_at_call 27; refine (same_at ⟨G, 0, none⟩ ad cap ca M _ (by omega) HC3.out HM3.out).mono ?_; rintro e w4 ⟨rfl, hb4⟩; have H4 := Lib.hid (H3.out.on hb4); clear hb4 c0 c1 c2 c3 d0 d1 d2 d3)
    | (go_at_call 12; refine (works_any _ H4.out.g).mono ?_; rintro e w5 ⟨rfl, hb5⟩; have H5 := Lib.hid (H4.out.on hb5); clear hb5))
  go_ret
  exact ⟨rfl, H5.out.fr⟩

set_option maxRecDepth 100000 in
theorem gets_long (A : Option Addr) (n ca : Nat) (w : World) (hG : G w) (hn : 200 < n) :
    Calls Tryd.prog 8 #[.slice A n ca] w fun e w' => e = .returned (.bool true) ∧ Below w.heap.size w w' := by
  have HG : Hid (At w w) := Lib.hid ⟨hG, Below.refl _ _⟩
  clear hG
  have hn1 : (200 : Int) < (n : Int) := by omega
  go_enter Tryd.func8, Tryd.ntmps8
  go_wp2_with (first | (go_at_call 12; refine (works_any _ HG.out.g).mono ?_; rintro e w1 ⟨rfl, hb1⟩; have H1 := Lib.hid (HG.out.on hb1); clear hb1))
  go_ret
  exact ⟨rfl, H1.out.fr⟩

set_option maxRecDepth 100000 in
set_option maxHeartbeats 4000000 in
theorem gets_nil (w : World) (hG : G w) : Calls Tryd.prog 8 #[.slice none 0 0] w fun e w' => e = .returned (.bool true) ∧ Below w.heap.size w w' := by
  have HG : Hid (At w w) := Lib.hid ⟨hG, Below.refl _ _⟩
  clear hG
  obtain ⟨i0, hi, hz0, hz1, hz2⟩ := info_parts info5'
  have ho1 := own_empty' w
  have H1 := Lib.hid (HG.out.alloc (.cells #[] 5))
  go_enter Tryd.func8, Tryd.ntmps8
  go_wp2_with (first
    | (at_builtin; refine wpList_append_own_none rfl (.tmp 14) (.tmp 15) 34 rfl w.heap.size 5 i0 1 Tryd.underlying34 hi _ _ _ rfl ho1 rfl ?_)
    | (go_at_call 25; refine (get_short _ 0 _ _ (by decide)).mono ?_; rintro e w2 ⟨rfl, hb2⟩; refine Hid.out ?_))
  have H2 := Lib.hid ((H1.out.on hb2).alloc (.cells #[.int .i64 0, .int .i64 0, .int .i64 0, .int .i64 0] 24))
  have C2 := Lib.hid (Box.new w2 0 0 0 0)
  clear hb2 H1
  refine Lib.hid ?_
  go_wp2_with (go_at_call 26; refine (rget_short _ 0 _ _ (by decide)).mono ?_; rintro e w3 ⟨rfl, hb3⟩; refine Hid.out ?_)
  have H3 := Lib.hid ((H2.out.on hb3).alloc (.cells #[.int .i64 0, .int .i64 0, .int .i64 0, .int .i64 0] 24))
  have C3 := Lib.hid ((C2.out.on hb3).alloc (.cells #[.int .i64 0, .int .i64 0, .int .i64 0, .int .i64 0] 24))
  have D3 := Lib.hid (Box.new w3 0 0 0 0)
  clear hb3 H2 C2
  obtain ⟨c0, c1, c2, c3⟩ := C3.out.cells
  obtain ⟨d0, d1, d2, d3⟩ := D3.out.cells
  refine Lib.hid ?_
  go_wp2_with (first
    | (go_at_call 27; refine (same_empty _ _ _ _ _).mono ?_; rintro e w4 ⟨rfl, hb4⟩; have H4 := Lib.hid (H3.out.on hb4); clear hb4 c0 c1 c2 c3 d0 d1 d2 d3)
    | (go_at_call 12; refine (works_any _ H4.out.g).mono ?_; rintro e w5 ⟨rfl, hb5⟩; have H5 := Lib.hid (H4.out.on hb5); clear hb5))
  go_ret
  exact ⟨rfl, H5.out.fr⟩

/-- For any bytes. -/
theorem gets_any (v : Value) (w : World) (hG : G w)
    (hv : v = .slice none 0 0 ∨ ∃ (ad : Addr) (M : List Int) (c : Nat), v = .slice (some ad) M.length c ∧ M.length ≤ c ∧ (∀ x ∈ M, IsB x) ∧ ∀ j, j < M.length → w.cell? (ad.add j) = some (.int .u8 (M.getD j 0))) :
    Calls Tryd.prog 8 #[v] w fun e w' => e = .returned (.bool true) ∧ Below w.heap.size w w' := by
  rcases hv with rfl | ⟨ad, M, ca, rfl, -, -, h2⟩
  · exact gets_nil w hG
  · by_cases hl : M.length ≤ 200
    · exact gets_some ad ca M w hG hl h2
    · exact gets_long (some ad) M.length ca w hG (by omega)
end Go.Proofs.YtlnfpkknhmiegaaDoor
