/- The walk of ConfigBack. -/
import Derived.Test.YtlnfpkknhmiegaaDoorE9
import Derived.Test.YtlnfpkknhmiegaaDoorE7
import Derived.OwnWalk
import Derived.Laws.AppendOwnNone
import Derived.Deep.RegionHeld3
import Derived.Deep.DeepCutAuto
namespace Go.Proofs.YtlnfpkknhmiegaaDoor
open Go Go.RowKit

theorem info5 : (Tryd.prog.info? 5).map (fun i => (i.zero, i.size, i.bytes)) = some (some (.int .u8 0), 1, 1) := by kernel_rfl

theorem own_bytes {w : World} {base n : Nat} {v : Value} {L : List Int} (h : w.ownsRow base 5 1 v n (L.map (Value.int .u8))) (hn : 0 < n) :
    L.length = n ∧ ∃ G cap, v = .slice (some ⟨G, 0, none⟩) n cap ∧ base ≤ G ∧ n ≤ cap ∧ G < w.heap.size ∧ ∀ j, j < L.length → w.cell? ⟨G, j, none⟩ = some (.int .u8 (L.getD j 0)) := by
  obtain ⟨h0, h1⟩ := h
  have hl : L.length = n := by simpa using h0
  refine ⟨hl, ?_⟩
  rcases h1 with ⟨-, h1⟩ | ⟨G, cap, cur, rfl, hG, hb, hc, -, hs, ht⟩
  · omega
  · refine ⟨G, cap, rfl, hG, hc, (Array.getElem?_eq_some_iff.1 hb).1, fun j hj => ?_⟩
    rw [cells_of_block hb]
    have e : cur[j]? = (cur.toList.take (n * 1))[j]? := by
      rw [List.getElem?_take_of_lt (by omega)]; simp
    rw [e, ht]
    simp [List.getD_eq_getElem?_getD, List.getElem?_eq_getElem hj]
theorem add_at (g o j : Nat) : (⟨g, o, none⟩ : Addr).add j = ⟨g, o + j, none⟩ := by
  unfold Addr.add
  split
  · rename_i h; subst h; rfl
  · rfl
theorem own_empty (w : World) : (w.alloc (.cells #[] 5)).ownsRow w.heap.size 5 1 (.slice (some ⟨w.heap.size, 0, none⟩) 0 0) 0 [] :=
  ⟨rfl, .inr ⟨w.heap.size, 0, #[], rfl, Nat.le_refl _, block_new w _ _ rfl, Nat.le_refl _, by decide, rfl, rfl⟩⟩
theorem map_getElem {L : List Int} {j : Nat} {u : Value} (h : (L.map (Value.int .u8))[j]? = some u) : j < L.length ∧ u = .int .u8 (L.getD j 0) := by
  rw [List.getElem?_map] at h
  cases hj : L[j]? with
  | none => rw [hj] at h; cases h
  | some x =>
    rw [hj] at h
    injection h with h
    refine ⟨(List.getElem?_eq_some_iff.1 hj).1, ?_⟩
    rw [← h, List.getD_eq_getElem?_getD, hj]; rfl

theorem three_cells' {x y n : Nat} {a0 a1 a2 a3 b0 b1 b2 b3 A B C D : Int} {V w' : World} (h1 : Box x a0 a1 a2 a3 V) (h2 : Box y b0 b1 b2 b3 V) (h3 : Box n A B C D V) (hb : Below V.heap.size V w') :
    Below V.heap.size V w' ∧ w'.cell? ⟨x, 0, none⟩ = some (.int .i64 a0) ∧ w'.cell? ⟨x, 1, none⟩ = some (.int .i64 a1) ∧ w'.cell? ⟨x, 2, none⟩ = some (.int .i64 a2) ∧ w'.cell? ⟨x, 3, none⟩ = some (.int .i64 a3) ∧ w'.cell? ⟨y, 0, none⟩ = some (.int .i64 b0) ∧ w'.cell? ⟨y, 1, none⟩ = some (.int .i64 b1) ∧ w'.cell? ⟨y, 2, none⟩ = some (.int .i64 b2) ∧ w'.cell? ⟨y, 3, none⟩ = some (.int .i64 b3) ∧ w'.cell? ⟨n, 0, none⟩ = some (.int .i64 A) ∧ w'.cell? ⟨n, 1, none⟩ = some (.int .i64 B) ∧ w'.cell? ⟨n, 2, none⟩ = some (.int .i64 C) ∧ w'.cell? ⟨n, 3, none⟩ = some (.int .i64 D) :=
  ⟨hb, (h1.on hb).cells.1, (h1.on hb).cells.2.1, (h1.on hb).cells.2.2.1, (h1.on hb).cells.2.2.2, (h2.on hb).cells.1, (h2.on hb).cells.2.1, (h2.on hb).cells.2.2.1, (h2.on hb).cells.2.2.2, (h3.on hb).cells⟩
theorem field_as (a b c d : Int) (w : World) (hT : Tab w) {nm : ByteArray} (h : fieldOf a b c d = nm) :
    Calls Tryd.prog 23 #[quad a b c d] w fun e w' => e = .returned (.string nm) ∧ Below w.heap.size w w' := h ▸ field_any a b c d w hT

attribute [local go_sem ↓] eq24 ne24
attribute [local go_sem] same4_self

set_option maxRecDepth 100000 in
set_option maxHeartbeats 4000000 in
theorem back_some (a b c d : Int) (ad : Addr) (ca : Nat) (M : List Int) (w : World) (hG : G w) (ha : 0 ≤ a ∧ a ≤ 18446744073709551615) (hb : 0 ≤ b ∧ b ≤ 65535) (hc : 0 ≤ c ∧ c ≤ 65535) (hd : 0 ≤ d ∧ d ≤ 65535)
    (hM : ∀ j, j < M.length → w.cell? (ad.add j) = some (.int .u8 (M.getD j 0))) (hMB : ∀ x ∈ M, IsB x) (hl : M.length ≤ 100) :
    Calls Tryd.prog 11 #[.int .u64 a, .int .u16 b, .int .u16 c, .int .u16 d, .slice (some ad) M.length ca] w fun e w' => e = .returned (.bool true) ∧ Below w.heap.size w w' := by
  have HG : Hid (At w w) := Lib.hid ⟨hG, Below.refl _ _⟩
  have HM := Lib.hid hM; have HMB := Lib.hid hMB
  clear hG hM hMB
  obtain ⟨i0, hi, hz0, hz1, hz2⟩ := info_parts info5
  have hl1 : (M.length : Int) ≤ 100 := by omega
  go_enter Tryd.func11, Tryd.ntmps11
  go_wp2_with (go_at_call 15; refine (drawn_any _ _ _ _ _ ha hb hc hd).mono ?_; rintro e w1 ⟨rfl, hb⟩; refine Hid.out ?_)
  have hv := dr_valid a b c d
  have H1 := Lib.hid ((HG.out.on hb).alloc (.cells #[.int .i64 (dr0 a), .int .i64 (dr1 b), .int .i64 (dr2 c), .int .i64 (dr3 d)] 24))
  have B1 := Lib.hid (Box.new w1 (dr0 a) (dr1 b) (dr2 c) (dr3 d))
  generalize dr0 a = x at *
  generalize dr1 b = y at *
  generalize dr2 c = z at *
  generalize dr3 d = t at *
  have HV := Lib.hid hv
  clear hb hv HG ha hc hd
  refine Lib.hid ?_
  go_wp2_with (go_at_call 16; refine (text_is _ _ _ _ _ H1.out.g HV.out).mono ?_; rintro e w2 ⟨rfl, hb2⟩; refine Hid.out ?_)
  have H2 := Lib.hid (H1.out.on hb2)
  have B2 := Lib.hid (B1.out.on hb2)
  have hT := text_len x y z t HV.out
  generalize w1.heap.size = p at *
  clear hb2 H1 B1
  refine Lib.hid ?_
  go_wp2_with (go_at_call 13; refine (parse_is _ _ rfl (by omega) _ H2.out.g (answer_text HV.out)).mono ?_; rintro e w3 ⟨rfl, hb3⟩; refine Hid.out ?_)
  have H3 := Lib.hid ((H2.out.on hb3).alloc (.cells #[.int .i64 x, .int .i64 y, .int .i64 z, .int .i64 t] 24))
  have B3 := Lib.hid ((B2.out.on hb3).alloc (.cells #[.int .i64 x, .int .i64 y, .int .i64 z, .int .i64 t] 24))
  have D3 := Lib.hid (Box.new w3 x y z t)
  clear hb3 H2 B2 hT
  obtain ⟨b0, b1, b2, b3⟩ := B3.out.cells
  refine Lib.hid ?_
  go_wp2_with (go_at_call 24; refine (put_ok _ _ _ _ _ H3.out.g HV.out).mono ?_; rintro e w4 ⟨g, rfl, hg, hb4, hbb⟩; refine Hid.out ?_)
  have H4 := Lib.hid (H3.out.on hb4)
  have B4 := Lib.hid (B3.out.on hb4)
  have D4 := Lib.hid (D3.out.on hb4)
  have P4 := Lib.hid (BB.of_laid (by simp [putL, be8]) hbb)
  clear hb4 hbb H3 B3 D3 hg b0 b1 b2 b3
  have hl32 : (putL x y z t).length = 32 := by simp [putL, be8]
  have hn1 : ∀ j u, ((putL x y z t).map (Value.int .u8))[j]? = some u → (w4.alloc (.cells #[] 5)).cell? ((⟨g, 0, none⟩ : Addr).add j) = some u := fun j u hu => by
    obtain ⟨hj, rfl⟩ := map_getElem hu
    have := (P4.out.on ((Below.refl _ _).alloc (Nat.le_refl _) (.cells #[] 5))).cell j hj
    rw [add_at, Nat.zero_add]; exact this
  have ho1 := own_empty w4
  have hz : w4.heap.size ≤ (w4.alloc (.cells #[] 5)).heap.size := by simp
  refine Lib.hid ?_
  go_wp2_with (at_builtin; refine wpList_append_own _ rfl (.tmp 46) (.tmp 47) 34 rfl w4.heap.size 5 i0 (.int .u8 0) 1 1 Tryd.underlying34 hi hz0 hz1 hz2 rfl (by decide) _ _ _ rfl ho1 ⟨g, 0, none⟩ 32 32 ((putL x y z t).map (Value.int .u8)) rfl (by rw [List.length_map, hl32]) hn1 (ints_oneCell _ _) (by decide) (by decide) hz ?_; intro v1 w5 ho2 hg5 hnn; refine Hid.out ?_)
  have hb5 : Below w4.heap.size w4 w5 := ((Below.refl _ _).alloc (Nat.le_refl _) (.cells #[] 5)).grown hg5 hz (fun k hk => by have h1 : some w4.heap.size = some k := hk; injection h1 with h1; omega)
  have hn2 : ∀ j u, (M.map (Value.int .u8))[j]? = some u → w5.cell? (ad.add j) = some u := fun j u hu => by
    obtain ⟨hj, rfl⟩ := map_getElem hu
    have := HM.out j hj
    have hlt := World.block_lt_of_cell? w _ this
    rw [← H4.out.fr.cell (p := ad.add j) hlt] at this
    exact (hb5.cell (p := ad.add j) (Nat.lt_of_lt_of_le hlt H4.out.fr.size)).trans this
  have ho2' : w5.ownsRow w4.heap.size 5 1 v1 32 ((putL x y z t).map (Value.int .u8)) := by simpa using ho2
  have H5 := Lib.hid (H4.out.on hb5)
  have B5 := Lib.hid (B4.out.on hb5)
  have D5 := Lib.hid (D4.out.on hb5)
  have hz5 : w4.heap.size ≤ w5.heap.size := hb5.size
  have HB5 := Lib.hid hb5
  clear ho1 hn1 hz ho2 hg5 hnn hb5
  refine Lib.hid ?_
  go_wp2_with (at_builtin; refine wpList_append_own _ rfl (.tmp 48) (.tmp 49) 34 rfl w4.heap.size 5 i0 (.int .u8 0) 1 1 Tryd.underlying34 hi hz0 hz1 hz2 rfl (by decide) _ _ _ rfl ho2' ad M.length ca (M.map (Value.int .u8)) rfl (by rw [List.length_map, Nat.mul_one]) hn2 (ints_oneCell _ _) (by show 32 + M.length ≤ 2 ^ 63 - 1; omega) (by omega) hz5 ?_; intro v2 w6 ho3 hg6 hnn; refine Hid.out ?_)
  have ho3' : w6.ownsRow w4.heap.size 5 1 v2 (32 + M.length) ((putL x y z t ++ M).map (Value.int .u8)) := by rw [List.map_append]; exact ho3
  obtain ⟨hl3, G, cap, rfl, hGb, hcap, hGlt, hcells⟩ := own_bytes ho3' (by omega)
  have hv1 : ∀ k, v1.ownBlock = some k → w4.heap.size ≤ k := fun k hk => by
    obtain ⟨-, G1, c1, rfl, hG1, -⟩ := own_bytes ho2' (by omega)
    have h1 : some G1 = some k := hk
    injection h1 with h1; omega
  have hb6 : Below w4.heap.size w4 w6 := HB5.out.grown hg6 hz5 hv1
  have H6 := Lib.hid (H4.out.on hb6)
  have B6 := Lib.hid (B4.out.on hb6)
  have D6 := Lib.hid (D4.out.on hb6)
  have hall : ∀ x' ∈ putL x y z t ++ M, IsB x' := fun x' hx => (List.mem_append.1 hx).elim (put_all x y z t x') (HMB.out x')
  have hget := get_any G 0 cap (putL x y z t ++ M) w6 H6.out.g (by omega) (by omega) (fun j hj => by rw [Nat.zero_add]; exact hcells j hj) hGlt
  rw [hl3] at hget
  unfold Gets at hget
  rw [getOf_put HV.out M HMB.out] at hget
  have HGET := Lib.hid hget
  clear ho2' ho3 ho3' hg6 hnn hn2 hz5 hcells hv1 hb6 hall hget H5 B5 D5 HB5
  refine Lib.hid ?_
  go_wp2_with (go_at_call 25; refine HGET.out.mono ?_; rintro e w7 ⟨rfl, hb7⟩; refine Hid.out ?_)
  have H7 := Lib.hid ((H6.out.on hb7).alloc (.cells #[.int .i64 x, .int .i64 y, .int .i64 z, .int .i64 t] 24))
  have B7 := Lib.hid ((B6.out.on hb7).alloc (.cells #[.int .i64 x, .int .i64 y, .int .i64 z, .int .i64 t] 24))
  have D7 := Lib.hid ((D6.out.on hb7).alloc (.cells #[.int .i64 x, .int .i64 y, .int .i64 z, .int .i64 t] 24))
  have E7 := Lib.hid (Box.new w7 x y z t)
  clear hb7 H6 B6 D6
  refine Lib.hid ?_
  go_upto_region 8 with fail
  generalize hW : w7.alloc (.cells #[.int .i64 x, .int .i64 y, .int .i64 z, .int .i64 t] 24) = W at *
  generalize w3.heap.size = q at *
  generalize w7.heap.size = r at *
  clear hW HGET
  have hf := fieldOf_valid HV.out
  obtain ⟨b0, b1, b2, b3⟩ := B7.out.cells
  have hbd : Below W.heap.size W W.drew := (Below.refl _ _).drew
  go_cut [68] (fun s wx => s = .bool false ∧ Below W.heap.size W wx)
  case first =>
    go_region_held3 (fun w' => Below W.heap.size W w' ∧ w'.cell? ⟨p, 0, none⟩ = some (.int .i64 x) ∧ w'.cell? ⟨p, 1, none⟩ = some (.int .i64 y) ∧ w'.cell? ⟨p, 2, none⟩ = some (.int .i64 z) ∧ w'.cell? ⟨p, 3, none⟩ = some (.int .i64 t))
      (first | exact ⟨(Below.refl _ _).drew, (B7.out.on (Below.refl _ _).drew).cells⟩ | exact ⟨Below.refl _ _, B7.out.cells⟩ | exact ⟨‹_›, (B7.out.on ‹_›).cells⟩)
      (first
        | (go_at_call 18; refine (check_ok _ _ _ _ _ (H7.out.g.on ‹Below W.heap.size W _›).tab HV.out).mono ?_; rintro e w8 ⟨rfl, hb8⟩; have hc8 := (‹Below W.heap.size W _›).trans (hb8.mono (‹Below W.heap.size W _›).size); clear hb8)
        | (go_at_call 23; refine (field_as _ _ _ _ _ (H7.out.g.on ‹Below W.heap.size W _›).tab hf).mono ?_; rintro e w8 ⟨rfl, hb8⟩; have hc8 := (‹Below W.heap.size W _›).trans (hb8.mono (‹Below W.heap.size W _›).size); clear hb8)
        | (go_at_call 21; refine (clamp_valid _ _ _ _ _ (H7.out.g.on ‹Below W.heap.size W _›).tab HV.out).mono ?_; rintro e w8 ⟨rfl, hb8⟩; have hc8 := (‹Below W.heap.size W _›).trans (hb8.mono (‹Below W.heap.size W _›).size); clear hb8))
    all_goals (go_wp2_with fail; go_meet; exact ⟨rfl, ‹_›⟩)
  case rest =>
  obtain ⟨rfl, hcut⟩ := hcut
  have H8 := Lib.hid (H7.out.on hcut)
  have B8 := Lib.hid (B7.out.on hcut)
  have D8 := Lib.hid (D7.out.on hcut)
  have E8 := Lib.hid (E7.out.on hcut)
  clear hcut hbd b0 b1 b2 b3 H7 B7 D7 E7 hf
  obtain ⟨b0, b1, b2, b3⟩ := B8.out.cells
  obtain ⟨d0, d1, d2, d3⟩ := D8.out.cells
  obtain ⟨e0, e1, e2, e3⟩ := E8.out.cells
  go_wp2_with (first | (go_at_call 12; refine (works_any _ H8.out.g).mono ?_; rintro e w9 ⟨rfl, hb9⟩; have H9 := Lib.hid (H8.out.on hb9); clear hb9))
  go_ret
  exact ⟨rfl, H9.out.fr⟩
set_option maxRecDepth 100000 in
set_option maxHeartbeats 4000000 in
theorem back_none (a b c d : Int) (w : World) (hG : G w) (ha : 0 ≤ a ∧ a ≤ 18446744073709551615) (hb : 0 ≤ b ∧ b ≤ 65535) (hc : 0 ≤ c ∧ c ≤ 65535) (hd : 0 ≤ d ∧ d ≤ 65535) :
    Calls Tryd.prog 11 #[.int .u64 a, .int .u16 b, .int .u16 c, .int .u16 d, .slice none 0 0] w fun e w' => e = .returned (.bool true) ∧ Below w.heap.size w w' := by
  have HG : Hid (At w w) := Lib.hid ⟨hG, Below.refl _ _⟩
  clear hG
  obtain ⟨i0, hi, hz0, hz1, hz2⟩ := info_parts info5
  go_enter Tryd.func11, Tryd.ntmps11
  go_wp2_with (go_at_call 15; refine (drawn_any _ _ _ _ _ ha hb hc hd).mono ?_; rintro e w1 ⟨rfl, hb⟩; refine Hid.out ?_)
  have hv := dr_valid a b c d
  have H1 := Lib.hid ((HG.out.on hb).alloc (.cells #[.int .i64 (dr0 a), .int .i64 (dr1 b), .int .i64 (dr2 c), .int .i64 (dr3 d)] 24))
  have B1 := Lib.hid (Box.new w1 (dr0 a) (dr1 b) (dr2 c) (dr3 d))
  generalize dr0 a = x at *
  generalize dr1 b = y at *
  generalize dr2 c = z at *
  generalize dr3 d = t at *
  have HV := Lib.hid hv
  clear hb hv HG ha hc hd
  refine Lib.hid ?_
  go_wp2_with (go_at_call 16; refine (text_is _ _ _ _ _ H1.out.g HV.out).mono ?_; rintro e w2 ⟨rfl, hb2⟩; refine Hid.out ?_)
  have H2 := Lib.hid (H1.out.on hb2)
  have B2 := Lib.hid (B1.out.on hb2)
  have hT := text_len x y z t HV.out
  generalize w1.heap.size = p at *
  clear hb2 H1 B1
  refine Lib.hid ?_
  go_wp2_with (go_at_call 13; refine (parse_is _ _ rfl (by omega) _ H2.out.g (answer_text HV.out)).mono ?_; rintro e w3 ⟨rfl, hb3⟩; refine Hid.out ?_)
  have H3 := Lib.hid ((H2.out.on hb3).alloc (.cells #[.int .i64 x, .int .i64 y, .int .i64 z, .int .i64 t] 24))
  have B3 := Lib.hid ((B2.out.on hb3).alloc (.cells #[.int .i64 x, .int .i64 y, .int .i64 z, .int .i64 t] 24))
  have D3 := Lib.hid (Box.new w3 x y z t)
  clear hb3 H2 B2 hT
  obtain ⟨b0, b1, b2, b3⟩ := B3.out.cells
  refine Lib.hid ?_
  go_wp2_with (go_at_call 24; refine (put_ok _ _ _ _ _ H3.out.g HV.out).mono ?_; rintro e w4 ⟨g, rfl, hg, hb4, hbb⟩; refine Hid.out ?_)
  have H4 := Lib.hid (H3.out.on hb4)
  have B4 := Lib.hid (B3.out.on hb4)
  have D4 := Lib.hid (D3.out.on hb4)
  have P4 := Lib.hid (BB.of_laid (by simp [putL, be8]) hbb)
  clear hb4 hbb H3 B3 D3 hg b0 b1 b2 b3
  have hl32 : (putL x y z t).length = 32 := by simp [putL, be8]
  have hn1 : ∀ j u, ((putL x y z t).map (Value.int .u8))[j]? = some u → (w4.alloc (.cells #[] 5)).cell? ((⟨g, 0, none⟩ : Addr).add j) = some u := fun j u hu => by
    obtain ⟨hj, rfl⟩ := map_getElem hu
    have := (P4.out.on ((Below.refl _ _).alloc (Nat.le_refl _) (.cells #[] 5))).cell j hj
    rw [add_at, Nat.zero_add]; exact this
  have ho1 := own_empty w4
  have hz : w4.heap.size ≤ (w4.alloc (.cells #[] 5)).heap.size := by simp
  refine Lib.hid ?_
  go_wp2_with (at_builtin; refine wpList_append_own _ rfl (.tmp 46) (.tmp 47) 34 rfl w4.heap.size 5 i0 (.int .u8 0) 1 1 Tryd.underlying34 hi hz0 hz1 hz2 rfl (by decide) _ _ _ rfl ho1 ⟨g, 0, none⟩ 32 32 ((putL x y z t).map (Value.int .u8)) rfl (by rw [List.length_map, hl32]) hn1 (ints_oneCell _ _) (by decide) (by decide) hz ?_; intro v1 w5 ho2 hg5 hnn; refine Hid.out ?_)
  have hb5 : Below w4.heap.size w4 w5 := ((Below.refl _ _).alloc (Nat.le_refl _) (.cells #[] 5)).grown hg5 hz (fun k hk => by have h1 : some w4.heap.size = some k := hk; injection h1 with h1; omega)
  have ho2' : w5.ownsRow w4.heap.size 5 1 v1 32 ((putL x y z t).map (Value.int .u8)) := by simpa using ho2
  obtain ⟨hl3, G, cap, rfl, hGb, hcap, hGlt, hcells⟩ := own_bytes ho2' (by omega)
  have H6 := Lib.hid (H4.out.on hb5)
  have B6 := Lib.hid (B4.out.on hb5)
  have D6 := Lib.hid (D4.out.on hb5)
  have hget := get_any G 0 cap (putL x y z t) w5 H6.out.g (by omega) (by omega) (fun j hj => by rw [Nat.zero_add]; exact hcells j hj) hGlt
  rw [hl3] at hget
  unfold Gets at hget
  have hgp := getOf_put HV.out [] (by simp)
  rw [List.append_nil] at hgp
  rw [hgp] at hget
  have HGET := Lib.hid hget
  clear ho1 hn1 hz ho2 hg5 hnn hb5 hcells hget hgp
  refine Lib.hid ?_
  go_wp2_with (first
    | (at_builtin; refine wpList_append_own_none rfl (.tmp 48) (.tmp 49) 34 rfl w4.heap.size 5 i0 1 Tryd.underlying34 hi _ _ _ rfl ho2' rfl ?_)
    | (go_at_call 25; refine HGET.out.mono ?_; rintro e w7 ⟨rfl, hb7⟩; refine Hid.out ?_))
  have H7 := Lib.hid ((H6.out.on hb7).alloc (.cells #[.int .i64 x, .int .i64 y, .int .i64 z, .int .i64 t] 24))
  have B7 := Lib.hid ((B6.out.on hb7).alloc (.cells #[.int .i64 x, .int .i64 y, .int .i64 z, .int .i64 t] 24))
  have D7 := Lib.hid ((D6.out.on hb7).alloc (.cells #[.int .i64 x, .int .i64 y, .int .i64 z, .int .i64 t] 24))
  have E7 := Lib.hid (Box.new w7 x y z t)
  clear hb7 H6 B6 D6
  refine Lib.hid ?_
  go_upto_region 8 with fail
  generalize hW : w7.alloc (.cells #[.int .i64 x, .int .i64 y, .int .i64 z, .int .i64 t] 24) = W at *
  generalize w3.heap.size = q at *
  generalize w7.heap.size = r at *
  clear hW HGET ho2'
  have hf := fieldOf_valid HV.out
  obtain ⟨b0, b1, b2, b3⟩ := B7.out.cells
  have hbd : Below W.heap.size W W.drew := (Below.refl _ _).drew
  go_cut [68] (fun s wx => s = .bool false ∧ Below W.heap.size W wx)
  case first =>
    go_region_held3 (fun w' => Below W.heap.size W w' ∧ w'.cell? ⟨p, 0, none⟩ = some (.int .i64 x) ∧ w'.cell? ⟨p, 1, none⟩ = some (.int .i64 y) ∧ w'.cell? ⟨p, 2, none⟩ = some (.int .i64 z) ∧ w'.cell? ⟨p, 3, none⟩ = some (.int .i64 t))
      (first | exact ⟨(Below.refl _ _).drew, (B7.out.on (Below.refl _ _).drew).cells⟩ | exact ⟨Below.refl _ _, B7.out.cells⟩ | exact ⟨‹_›, (B7.out.on ‹_›).cells⟩)
      (first
        | (go_at_call 18; refine (check_ok _ _ _ _ _ (H7.out.g.on ‹Below W.heap.size W _›).tab HV.out).mono ?_; rintro e w8 ⟨rfl, hb8⟩; have hc8 := (‹Below W.heap.size W _›).trans (hb8.mono (‹Below W.heap.size W _›).size); clear hb8)
        | (go_at_call 23; refine (field_as _ _ _ _ _ (H7.out.g.on ‹Below W.heap.size W _›).tab hf).mono ?_; rintro e w8 ⟨rfl, hb8⟩; have hc8 := (‹Below W.heap.size W _›).trans (hb8.mono (‹Below W.heap.size W _›).size); clear hb8)
        | (go_at_call 21; refine (clamp_valid _ _ _ _ _ (H7.out.g.on ‹Below W.heap.size W _›).tab HV.out).mono ?_; rintro e w8 ⟨rfl, hb8⟩; have hc8 := (‹Below W.heap.size W _›).trans (hb8.mono (‹Below W.heap.size W _›).size); clear hb8))
    all_goals (go_wp2_with fail; go_meet; exact ⟨rfl, ‹_›⟩)
  case rest =>
  obtain ⟨rfl, hcut⟩ := hcut
  have H8 := Lib.hid (H7.out.on hcut)
  have B8 := Lib.hid (B7.out.on hcut)
  have D8 := Lib.hid (D7.out.on hcut)
  have E8 := Lib.hid (E7.out.on hcut)
  clear hcut hbd b0 b1 b2 b3 H7 B7 D7 E7 hf
  obtain ⟨b0, b1, b2, b3⟩ := B8.out.cells
  obtain ⟨d0, d1, d2, d3⟩ := D8.out.cells
  obtain ⟨e0, e1, e2, e3⟩ := E8.out.cells
  go_wp2_with (first | (go_at_call 12; refine (works_any _ H8.out.g).mono ?_; rintro e w9 ⟨rfl, hb9⟩; have H9 := Lib.hid (H8.out.on hb9); clear hb9))
  go_ret
  exact ⟨rfl, H9.out.fr⟩

set_option maxRecDepth 100000 in
theorem back_long (a b c d : Int) (A : Option Addr) (n ca : Nat) (w : World) (hG : G w) (hn : 100 < n) :
    Calls Tryd.prog 11 #[.int .u64 a, .int .u16 b, .int .u16 c, .int .u16 d, .slice A n ca] w fun e w' => e = .returned (.bool true) ∧ Below w.heap.size w w' := by
  have HG : Hid (At w w) := Lib.hid ⟨hG, Below.refl _ _⟩
  clear hG
  have hn1 : (100 : Int) < (n : Int) := by omega
  go_enter Tryd.func11, Tryd.ntmps11
  go_wp2_with (first | (go_at_call 12; refine (works_any _ HG.out.g).mono ?_; rintro e w1 ⟨rfl, hb1⟩; have H1 := Lib.hid (HG.out.on hb1); clear hb1))
  go_ret
  exact ⟨rfl, H1.out.fr⟩

/-- For any bytes that follow. -/
theorem back_any (a b c d : Int) (v : Value) (w : World) (hG : G w) (ha : 0 ≤ a ∧ a ≤ 18446744073709551615) (hb : 0 ≤ b ∧ b ≤ 65535) (hc : 0 ≤ c ∧ c ≤ 65535) (hd : 0 ≤ d ∧ d ≤ 65535)
    (hv : v = .slice none 0 0 ∨ ∃ (ad : Addr) (M : List Int) (c : Nat), v = .slice (some ad) M.length c ∧ M.length ≤ c ∧ (∀ x ∈ M, IsB x) ∧ ∀ j, j < M.length → w.cell? (ad.add j) = some (.int .u8 (M.getD j 0))) :
    Calls Tryd.prog 11 #[.int .u64 a, .int .u16 b, .int .u16 c, .int .u16 d, v] w fun e w' => e = .returned (.bool true) ∧ Below w.heap.size w w' := by
  rcases hv with rfl | ⟨ad, M, ca, rfl, -, h1, h2⟩
  · exact back_none a b c d w hG ha hb hc hd
  · by_cases hl : M.length ≤ 100
    · exact back_some a b c d ad ca M w hG ha hb hc hd h2 h1 hl
    · exact back_long a b c d (some ad) M.length ca w hG (by omega)
end Go.Proofs.YtlnfpkknhmiegaaDoor
