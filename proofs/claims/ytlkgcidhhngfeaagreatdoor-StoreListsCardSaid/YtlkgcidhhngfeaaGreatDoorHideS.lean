/- (*store.Store).Hide. -/
import Derived.Test.YtlkgcidhhngfeaaGreatDoorZA
import Derived.Test.YtlkgcidhhngfeaaGreatDoorShelf2
import Derived.StillTail
import Derived.StillTailTactics
namespace Go.Proofs.YtlkgcidhhngfeaaGreatDoor
open Go.RowKit Go.Maps
/-- all blocks that a call makes -/
abbrev NF (w : World) : Nat → Prop := fun b => w.heap.size ≤ b
theorem nf_laid {w : World} (h : Laid w) : LaidF (NF w) w := ⟨w, h, Below.refl _ _, fun _ h => h⟩
theorem nf_below {w w' : World} (h : KF (NF w) w w') : Below w.heap.size w w' := KF.toBelow h (Below.refl _ _) (Nat.le_refl _) (fun _ h => h)
theorem cloneT_any (b n : Nat) (D : DataW Value) (w : World) (h : w.ownsMap Tryz.prog 9 rawR b n D) :
    Calls Tryz.prog 26 #[.map (some b)] w fun e w' => ∃ h, e = .returned (.map (some h)) ∧ w'.ownsMap Tryz.prog 9 rawR h n D ∧ Hid (h = w.heap.size) ∧ Below w.heap.size w w' :=
  (AnyW.maps_Clone_owns Tryz.lx_cloneT 9 rawR b n D w h).mono fun _ _ ⟨e, h1, _, h2⟩ => ⟨_, e, h1, Lib.hid rfl, h2⟩
theorem cloneN_any (b n : Nat) (D : DataW Value) (w : World) (h : w.ownsMap Tryz.prog 25 rawR b n D) :
    Calls Tryz.prog 27 #[.map (some b)] w fun e w' => ∃ h, e = .returned (.map (some h)) ∧ w'.ownsMap Tryz.prog 25 rawR h n D ∧ Hid (h = w.heap.size) ∧ Below w.heap.size w w' :=
  (AnyW.maps_Clone_owns Tryz.lx_cloneN 25 rawR b n D w h).mono fun _ _ ⟨e, h1, _, h2⟩ => ⟨_, e, h1, Lib.hid rfl, h2⟩
theorem hid_row {w : World} {B : Nat} {v : Value} {S : St} {a b : ByteArray} {L : List ByteArray} {P : Prop} (h : Hid (L = namesOf S a b ∧ P)) (hr : w.ownsRow B 9 1 v L.length (L.map .string)) : w.ownsRow B 9 1 v (namesOf S a b).length ((namesOf S a b).map .string) := by
  rw [← h.out.1]
  exact hr
theorem row_mono {w : World} {B B' k : Nat} {e : TypeId} {n : Nat} {v : Value} {xs : List Value} (h : w.ownsRow B e k v n xs) (hb : B' ≤ B) : w.ownsRow B' e k v n xs :=
  ⟨h.1, h.2.imp id fun ⟨g, cap, cur, e, h0, r⟩ => ⟨g, cap, cur, e, Nat.le_trans hb h0, r⟩⟩
theorem str_cell {w : World} {B : Nat} {sa : Option Addr} {sc : Nat} {L : List ByteArray} (h : w.ownsRow B 9 1 (.slice sa L.length sc) L.length (L.map .string)) (k : Nat) (hk : k < L.length) : ∃ g, sa = some ⟨g, 0, none⟩ ∧ w.cell? ⟨g, k, none⟩ = some (.string L[k]) := by
  obtain ⟨a, c, e, _, h3⟩ := str_row h
  obtain ⟨rfl, -, rfl⟩ := Value.slice.inj e
  exact h3 k hk
theorem hid_ge {n : Nat} {w w' : World} (h : Hid (n ≤ w.heap.size)) (g : Below w.heap.size w w') : Hid (n ≤ w'.heap.size) := Lib.hid (Nat.le_trans h.out g.size)
/-- what Hide leaves -/
def HideEnds (S : St) (W Q : Nat → Prop) (lS lI : ByteArray) (w : World) (e : Ending) (w' : World) : Prop :=
  ∃ ph W' Q', e = .returned (.pointer (some ⟨ph, 0, none⟩)) ∧ Hid (StoreAt w' ph (hideS S lS lI) W' Q') ∧ Hid (∀ b, W' b → w.heap.size ≤ b) ∧ Hid (∀ b, Q' b → (Q b ∧ ¬ W b) ∨ w.heap.size ≤ b) ∧ Below w.heap.size w w'
set_option maxRecDepth 100000 in
set_option maxHeartbeats 16000000 in
theorem hide_raw (p bt bn : Nat) (S : St) (W Q : Nat → Prop) (Dt Dn : DataW Value) (lS lI : ByteArray) (h3 : Bd lS) (h4 : Bd lI) (w : World) (h : StoreIn w p S W Q bt bn Dt Dn) (hS : S.length ≤ 1000000) (hw9 : Laid w) :
    Calls Tryz.prog 11 #[.pointer (some ⟨p, 0, none⟩), .agg #[.string lS, .string lI]] w (HideEnds S W Q lS lI w) := by
  have HI := Lib.hid h
  have HS0 := Lib.hid hS
  have hp := h.ptr
  have HBL := Lib.hid (And.intro h3 h4)
  have hw : LaidF (NF w) w := nf_laid hw9
  have HT0 : Hid (w.ownsMap Tryz.prog 9 rawR bt (Maps.size Dt) Dt) := Lib.hid h.things
  have HN0 : Hid (w.ownsMap Tryz.prog 25 rawR bn (Maps.size Dn) Dn) := Lib.hid h.names
  have HLT := Lib.hid (And.intro h.things.lt h.names.lt)
  clear h hS h3 h4 hw9
  go_enter Tryz.func11, Tryz.ntmps11
  have hB0 := Below.refl w.heap.size w
  have M0 := Mem.nil w
  have hw0 := hw
  clear M0
  have M0 : Mem w [(p, .cells #[.map (some bt), .map (some bn)] 64)] := ⟨hp, trivial⟩
  have c0_0_0 := Mem.cell (v := .map (some bt)) M0.1 0 rfl
  have c0_0_1 := Mem.cell (v := .map (some bn)) M0.1 1 rfl
  have z0_0 := Mem.lt M0.1
  go_upto_region 1 with (fail)
  refine wp_named ?_
  intro w1 hW1
  have hB1 : Below w.heap.size w w1 := by rw [hW1]; exact (below_al hB0 _)
  have hw1 : LaidF (NF w) w1 := by rw [hW1]; exact (hw.alloc _)
  have M1 := (M0).new' (w.heap.size) (by rfl) (.cells #[.string lS, .string lI] 25)
  rw [← hW1] at M1
  have hS1 : Below w.heap.size w w1 := by rw [hW1]; exact (below_al (Below.refl _ _) _)
  replace HT0 := hid_map HT0 hS1
  replace HN0 := hid_map HN0 hS1
  clear hS1
  clear c0_0_0 c0_0_1 z0_0
  clear hW1
  have c1_0_0 := Mem.cell (v := .string lS) M1.1 0 rfl
  have c1_0_1 := Mem.cell (v := .string lI) M1.1 1 rfl
  have z1_0 := Mem.lt M1.1
  have c1_1_0 := Mem.cell (v := .map (some bt)) M1.2.1 0 rfl
  have c1_1_1 := Mem.cell (v := .map (some bn)) M1.2.1 1 rfl
  have z1_1 := Mem.lt M1.2.1
  go_cut [5] (fun s5 wx => ∃ ht hn ph, s5 = .pointer (some ⟨ph, 0, none⟩) ∧ Hid (wx.ownsMap Tryz.prog 9 rawR ht (Maps.size Dt) Dt) ∧ Hid (wx.ownsMap Tryz.prog 25 rawR hn (Maps.size Dn) Dn) ∧ Hid (Below w.heap.size w wx) ∧ Hid (w.heap.size ≤ ht ∧ w.heap.size ≤ hn ∧ ht < ph ∧ hn < ph ∧ ht ≠ hn ∧ w.heap.size < ht ∧ w.heap.size < hn ∧ w.heap.size < ph) ∧ Mem wx [(ph, .cells #[.map (some ht), .map (some hn)] 64), (w.heap.size, .cells #[.string lS, .string lI] 25), (p, .cells #[.map (some bt), .map (some bn)] 64)])
  case first =>
    have zl0 := Mem.lt M1.1
    have zb0 := (hB1).size
    clear c1_0_0 c1_0_1 z1_0 c1_1_0 c1_1_1 z1_1
    refine wp_region_held (S := fun w' => Mem w' [(w.heap.size, .cells #[.string lS, .string lI] 25), (p, .cells #[.map (some bt), .map (some bn)] 64)]) (by kernel_rfl) ?_
    change wpAnyH _ _ _ _ _ 13 (Array.replicate 13 false) _ w1.drew
    refine anyH_named ?_
    intro w2 hW2
    have hB2 : Below w.heap.size w w2 := by rw [hW2]; exact below_dr hB1
    have hw2 : LaidF (NF w) w2 := by rw [hW2]; exact hw1.below (below_dr (Below.refl _ _))
    have M2 : Mem w2 [(w.heap.size, .cells #[.string lS, .string lI] 25), (p, .cells #[.map (some bt), .map (some bn)] 64)] := by rw [hW2]; exact Mem.drew M1
    have zz2 : w1.heap.size ≤ w2.heap.size := by rw [hW2]; exact Nat.le_refl _
    replace HT0 := hid_map HT0 (below_dr (Below.refl _ w1))
    rw [← hW2] at HT0
    replace HN0 := hid_map HN0 (below_dr (Below.refl _ w1))
    rw [← hW2] at HN0
    clear hW2
    have zh2_0 := Mem.lt M2.1
    have zh2_1 := Mem.lt M2.2.1
    refine wpAnyH_take (i := 0) (v := ?_) rfl (by decide +kernel) (by decide +kernel) (by decide +kernel) (fun _ _ _ h => h) (Or.inl ⟨by rfl, ?_⟩) M2 ?_
    rotate_left
    · intro w hSw
      clear hSw
      go_simp; try (with_reducible rfl)
    try simp only [Act.put, List.getElem_toArray, List.getElem_cons_zero, List.setIfInBounds_toArray, List.set_cons_zero, List.set_cons_succ]
    refine wpAnyH_take (i := 5) (v := ?_) rfl (by decide +kernel) (by decide +kernel) (by decide +kernel) (fun _ _ _ h => h) (Or.inl ⟨by rfl, ?_⟩) M2 ?_
    rotate_left
    · intro w hSw
      clear hSw
      go_simp; try (with_reducible rfl)
    try simp only [Act.put, List.getElem_toArray, List.getElem_cons_succ, List.getElem_cons_zero, List.setIfInBounds_toArray, List.set_cons_zero, List.set_cons_succ]
    refine wpAnyH_take (i := 1) (v := ?_) rfl (by decide +kernel) (by decide +kernel) (by decide +kernel) (fun _ _ _ h => h) (Or.inl ⟨by rfl, ?_⟩) M2 ?_
    rotate_left
    · intro w hSw
      clear hSw
      go_simp; try (with_reducible rfl)
    try simp only [Act.put, List.getElem_toArray, List.getElem_cons_succ, List.getElem_cons_zero, List.setIfInBounds_toArray, List.set_cons_zero, List.set_cons_succ]
    refine wpAnyH_take (i := 6) (v := ?_) rfl (by decide +kernel) (by decide +kernel) (by decide +kernel) (fun _ _ _ h => h) (Or.inl ⟨by rfl, ?_⟩) M2 ?_
    rotate_left
    · intro w hSw
      clear hSw
      go_simp; try (with_reducible rfl)
    try simp only [Act.put, List.getElem_toArray, List.getElem_cons_succ, List.getElem_cons_zero, List.setIfInBounds_toArray, List.set_cons_zero, List.set_cons_succ]
    refine wpAnyH_take (i := 2) (v := ?_) rfl (by decide +kernel) (by decide +kernel) (by decide +kernel) (fun _ _ _ h => h) (Or.inl ⟨by rfl, ?_⟩) M2 ?_
    rotate_left
    · intro w hSw
      clear hSw
      go_simp; try (with_reducible rfl)
    try simp only [Act.put, List.getElem_toArray, List.getElem_cons_succ, List.getElem_cons_zero, List.setIfInBounds_toArray, List.set_cons_zero, List.set_cons_succ]
    refine wpAnyH_take (i := 7) (v := ?_) rfl (by decide +kernel) (by decide +kernel) (by decide +kernel) (fun _ _ _ h => h) (Or.inl ⟨by rfl, ?_⟩) M2 ?_
    rotate_left
    · intro w hSw
      clear hSw
      go_simp; try (with_reducible rfl)
    try simp only [Act.put, List.getElem_toArray, List.getElem_cons_succ, List.getElem_cons_zero, List.setIfInBounds_toArray, List.set_cons_zero, List.set_cons_succ]
    refine wpAnyH_take (i := 3) (v := ?_) rfl (by decide +kernel) (by decide +kernel) (by decide +kernel) (fun _ _ _ h => h) (Or.inl ⟨by rfl, ?_⟩) M2 ?_
    rotate_left
    · intro w hSw
      have s_0 := Mem.cell (v := .map (some bt)) hSw.2.1 0 rfl
      clear hSw
      go_simp; try (with_reducible rfl)
    try simp only [Act.put, List.getElem_toArray, List.getElem_cons_succ, List.getElem_cons_zero, List.setIfInBounds_toArray, List.set_cons_zero, List.set_cons_succ]
    refine wpAnyH_take (i := 8) (v := ?_) rfl (by decide +kernel) (by decide +kernel) (by decide +kernel) (fun _ _ _ h => h) (Or.inl ⟨by rfl, ?_⟩) M2 ?_
    rotate_left
    · intro w hSw
      have s_1 := Mem.cell (v := .map (some bn)) hSw.2.1 1 rfl
      clear hSw
      go_simp; try (with_reducible rfl)
    try simp only [Act.put, List.getElem_toArray, List.getElem_cons_succ, List.getElem_cons_zero, List.setIfInBounds_toArray, List.set_cons_zero, List.set_cons_succ]
    refine wpAnyH_ready (rs := [4]) (by decide +kernel) (by simp) (AllReadyH.cons rfl ?_ AllReadyH.nil)
    intro K hK
    rw [if_pos (by rfl)]
    go_simp
    go_at_call 26
    refine (cloneT_any bt (Maps.size Dt) Dt _ HT0.out).mono ?_
    rintro e w3 ⟨ht, rfl, hT1, HHT, hb3⟩
    have hB3 := below_then hB2 hb3
    have hw3 := hw2.below hb3
    have M3 := M2.below hb3
    replace HT0 := hid_map HT0 hb3
    replace HN0 := hid_map HN0 hb3
    have zz3 := hb3.size
    clear hb3
    refine hK.out _ _ M3 (fun _ => ?_)
    clear hK K
    try simp only [Act.put, List.getElem_toArray, List.getElem_cons_succ, List.getElem_cons_zero, List.setIfInBounds_toArray, List.set_cons_zero, List.set_cons_succ]
    have HT1 := Lib.hid hT1
    have lt1 := hT1.lt
    clear hT1
    refine wpAnyH_ready (rs := [9]) (by decide +kernel) (by simp) (AllReadyH.cons rfl ?_ AllReadyH.nil)
    intro K hK
    rw [if_pos (by rfl)]
    go_simp
    go_at_call 27
    refine (cloneN_any bn (Maps.size Dn) Dn _ HN0.out).mono ?_
    rintro e w4 ⟨hn, rfl, hN1, HHN, hb4⟩
    have hB4 := below_then hB3 hb4
    have hw4 := hw3.below hb4
    have M4 := M3.below hb4
    replace HT0 := hid_map HT0 hb4
    replace HN0 := hid_map HN0 hb4
    replace HT1 := hid_map HT1 hb4
    have zz4 := hb4.size
    clear hb4
    refine hK.out _ _ M4 (fun _ => ?_)
    clear hK K
    try simp only [Act.put, List.getElem_toArray, List.getElem_cons_succ, List.getElem_cons_zero, List.setIfInBounds_toArray, List.set_cons_zero, List.set_cons_succ]
    have HN1 := Lib.hid hN1
    have lt2 := hN1.lt
    clear hN1
    refine wpAnyH_take (i := 10) (v := ?_) rfl (by decide +kernel) (by decide +kernel) (by decide +kernel) (fun _ _ _ h => h) (Or.inl ⟨by rfl, ?_⟩) M4 ?_
    rotate_left
    · intro w hSw
      clear hSw
      go_simp; try (with_reducible rfl)
    try simp only [Act.put, List.getElem_toArray, List.getElem_cons_succ, List.getElem_cons_zero, List.setIfInBounds_toArray, List.set_cons_zero, List.set_cons_succ]
    refine wpAnyH_ready (rs := [11]) (by decide +kernel) (by simp) (AllReadyH.cons rfl ?_ AllReadyH.nil)
    intro K hK
    rw [if_pos (by rfl)]
    go_simp
    have N5 : Mem (w4.alloc (.cells #[.map (some ht), .map (some hn)] 64)) [(w4.heap.size, .cells #[.map (some ht), .map (some hn)] 64), (w.heap.size, .cells #[.string lS, .string lI] 25), (p, .cells #[.map (some bt), .map (some bn)] 64)] := (M4).new' (w4.heap.size) (by rfl) (.cells #[.map (some ht), .map (some hn)] 64)
    refine hK.out _ _ ⟨N5.2.1, N5.2.2.1, trivial⟩ (fun _ => ?_)
    clear hK K
    try simp only [Act.put, List.getElem_toArray, List.getElem_cons_succ, List.getElem_cons_zero, List.setIfInBounds_toArray, List.set_cons_zero, List.set_cons_succ]
    refine anyH_named ?_
    intro w5 hW5
    have hB5 : Below w.heap.size w w5 := by rw [hW5]; exact below_al hB4 _
    have hw5 : LaidF (NF w) w5 := by rw [hW5]; exact hw4.alloc _
    have M5 : Mem w5 [(w4.heap.size, .cells #[.map (some ht), .map (some hn)] 64), (w.heap.size, .cells #[.string lS, .string lI] 25), (p, .cells #[.map (some bt), .map (some bn)] 64)] := by rw [hW5]; exact N5
    replace HT0 := hid_map HT0 (below_al (Below.refl _ w4) (.cells #[.map (some ht), .map (some hn)] 64))
    rw [show w4.alloc (.cells #[.map (some ht), .map (some hn)] 64) = w5 from hW5.symm] at HT0
    replace HN0 := hid_map HN0 (below_al (Below.refl _ w4) (.cells #[.map (some ht), .map (some hn)] 64))
    rw [show w4.alloc (.cells #[.map (some ht), .map (some hn)] 64) = w5 from hW5.symm] at HN0
    replace HT1 := hid_map HT1 (below_al (Below.refl _ w4) (.cells #[.map (some ht), .map (some hn)] 64))
    rw [show w4.alloc (.cells #[.map (some ht), .map (some hn)] 64) = w5 from hW5.symm] at HT1
    replace HN1 := hid_map HN1 (below_al (Below.refl _ w4) (.cells #[.map (some ht), .map (some hn)] 64))
    rw [show w4.alloc (.cells #[.map (some ht), .map (some hn)] 64) = w5 from hW5.symm] at HN1
    clear hW5 N5
    have zz5 : w4.heap.size < w5.heap.size := Mem.lt M5.1
    refine wpAnyH_take (i := 12) (v := ?_) rfl (by decide +kernel) (by decide +kernel) (by decide +kernel) (fun _ _ _ h => h) (Or.inl ⟨by rfl, ?_⟩) ⟨M5.2.1, M5.2.2.1, trivial⟩ ?_
    rotate_left
    · intro w hSw
      clear hSw
      go_simp; try (with_reducible rfl)
    try simp only [Act.put, List.getElem_toArray, List.getElem_cons_succ, List.getElem_cons_zero, List.setIfInBounds_toArray, List.set_cons_zero, List.set_cons_succ]
    refine wpAnyH_done (by kernel_rfl) ?_ _
    have c5_0_0 := Mem.cell (v := .map (some ht)) M5.1 0 rfl
    have c5_0_1 := Mem.cell (v := .map (some hn)) M5.1 1 rfl
    have z5_0 := Mem.lt M5.1
    have c5_1_0 := Mem.cell (v := .string lS) M5.2.1 0 rfl
    have c5_1_1 := Mem.cell (v := .string lI) M5.2.1 1 rfl
    have z5_1 := Mem.lt M5.2.1
    have c5_2_0 := Mem.cell (v := .map (some bt)) M5.2.2.1 0 rfl
    have c5_2_1 := Mem.cell (v := .map (some bn)) M5.2.2.1 1 rfl
    have z5_2 := Mem.lt M5.2.2.1
    have e1 := HHT.out
    have e2 := HHN.out
    have HO : Hid (w.heap.size ≤ ht ∧ w.heap.size ≤ hn ∧ ht < w4.heap.size ∧ hn < w4.heap.size ∧ ht ≠ hn ∧ w.heap.size < ht ∧ w.heap.size < hn ∧ w.heap.size < w4.heap.size) := Lib.hid (by omega)
    clear e1 e2
    have HB := Lib.hid hB5
    have HM := Lib.hid M5
    go_wp2_with fail
    go_meet
    exact ⟨ht, hn, _, rfl, HT1, HN1, HB, HO, HM.out⟩
  case rest =>
    obtain ⟨ht, hn, ph, rfl, HT1, HN1, HB, HO, hM⟩ := hcut
    obtain ⟨w40, rfl⟩ : ∃ x, x = wc := ⟨_, rfl⟩
    have hB40 := KF.of_below (F := NF w) HB.out
    have hw40 := hw0.kf hB40
    have M40 := hM
    have hnm := (HI.out.below HB.out).names
    clear hM HB
    have HPH := Lib.hid (Mem.lt M40.1)
    have c40_0_0 := Mem.cell (v := .map (some ht)) M40.1 0 rfl
    have c40_0_1 := Mem.cell (v := .map (some hn)) M40.1 1 rfl
    have z40_0 := Mem.lt M40.1
    have c40_1_0 := Mem.cell (v := .string lS) M40.2.1 0 rfl
    have c40_1_1 := Mem.cell (v := .string lI) M40.2.1 1 rfl
    have z40_1 := Mem.lt M40.2.1
    have c40_2_0 := Mem.cell (v := .map (some bt)) M40.2.2.1 0 rfl
    have c40_2_1 := Mem.cell (v := .map (some bn)) M40.2.2.1 1 rfl
    have z40_2 := Mem.lt M40.2.2.1
    go_wp2_with (first
      | (at_range; refine wpList_range_own _ rfl _ 62 rfl 25 38 kLab Tryz.underlying62 rawR bn (Maps.size Dn) Dn rfl hnm ?_; intro wr0 hrg0 hg0 hs0)
      | go_in)
    go_frame
    have k0 : KF (fun _ => False) w40 wr0 := KF.grown hg0 (by intro j hj; cases hj)
    have HST : Hid (Hid (wr0.ranges Tryz.prog 25 rawR bn w40.heap.size (Maps.size Dn) Dn (Maps.has Dn) (Maps.size Dn)) ∧ Hid (KF (NF w) w wr0) ∧ Mem wr0 [(ph, .cells #[.map (some ht), .map (some hn)] 64), (w.heap.size, .cells #[.string lS, .string lI] 25), (p, .cells #[.map (some bt), .map (some bn)] 64)] ∧ Hid (wr0.ownsMap Tryz.prog 9 rawR ht (Maps.size Dt) Dt) ∧ Hid (wr0.ownsMap Tryz.prog 25 rawR hn (Maps.size Dn) Dn) ∧ Hid (HideT S lS lI (Maps.has Dn) Dt Dt) ∧ Hid (HideN S lS lI (Maps.has Dn) w40.heap.size wr0 Dn Dn) ∧ Hid (w40.heap.size ≤ wr0.heap.size)) := Lib.hid ⟨Lib.hid hrg0, Lib.hid (hB40.trans (k0.mono fun _ _ h => h.elim)), ⟨mem_kf M40.1 k0 (fun e => e), mem_kf M40.2.1 k0 (fun e => e), mem_kf M40.2.2.1 k0 (fun e => e), trivial⟩, Lib.hid (ownsMap_kf HT1.out k0 (fun e => e)), Lib.hid (ownsMap_kf HN1.out k0 (fun e => e)), Lib.hid (hideT_start fun s x hx => by
        have hne : namesOf S x.lS x.lI ≠ [] := List.ne_nil_of_mem (namesOf_mem.2 ⟨x, hx, rfl, rfl⟩)
        obtain ⟨v, hv, _⟩ := HI.out.rN.has _ _ hne
        rw [has_some HN0.out kLab, hv]
        rfl), Lib.hid (hideN_start (fun kl => has_some HN0.out kLab kl) HI.out.rN), Lib.hid k0.size⟩
    clear hrg0 hg0 k0 hs0 hnm HT1 HN1
    go_loopw [27] (fun _ wr => ∃ (left : Lit → Bool) (cnt : Nat) (DT DN : DataW Value), Hid (wr.ranges Tryz.prog 25 rawR bn w40.heap.size (Maps.size Dn) Dn left cnt) ∧ Hid (KF (NF w) w wr) ∧ Mem wr [(ph, .cells #[.map (some ht), .map (some hn)] 64), (w.heap.size, .cells #[.string lS, .string lI] 25), (p, .cells #[.map (some bt), .map (some bn)] 64)] ∧ Hid (wr.ownsMap Tryz.prog 9 rawR ht (Maps.size DT) DT) ∧ Hid (wr.ownsMap Tryz.prog 25 rawR hn (Maps.size DN) DN) ∧ Hid (HideT S lS lI left Dt DT) ∧ Hid (HideN S lS lI left w40.heap.size wr Dn DN) ∧ Hid (w40.heap.size ≤ wr.heap.size)) (fun _ wr => wr.rangeLeft bn w40.heap.size)
    case atStart => exact ⟨_, _, Dt, Dn, HST.out⟩
    case round =>
      obtain ⟨left, cnt, DT, DN, HRG, HKF, hM, HT1, HN1, HIT, HIN, HZ⟩ := hrel
      clear HST
      obtain ⟨w50, rfl⟩ : ∃ x, x = wr := ⟨_, rfl⟩
      have hB50 := HKF.out
      have hw50 := hw0.kf hB50
      have M50 := hM
      clear hM
      have c50_0_0 := Mem.cell (v := .map (some ht)) M50.1 0 rfl
      have c50_0_1 := Mem.cell (v := .map (some hn)) M50.1 1 rfl
      have z50_0 := Mem.lt M50.1
      have c50_1_0 := Mem.cell (v := .string lS) M50.2.1 0 rfl
      have c50_1_1 := Mem.cell (v := .string lI) M50.2.1 1 rfl
      have z50_1 := Mem.lt M50.2.1
      have c50_2_0 := Mem.cell (v := .map (some bt)) M50.2.2.1 0 rfl
      have c50_2_1 := Mem.cell (v := .map (some bn)) M50.2.2.1 1 rfl
      have z50_2 := Mem.lt M50.2.2.1
      have HLM : Hid (w50.rangeLeft bn w40.heap.size = cnt) := Lib.hid HRG.out.left_eq
      go_wp2_with (first
        | (at_next; refine next_lab _ rfl _ rfl bn w40.heap.size (Maps.size Dn) _ _ _ rfl HRG.out ?_ ?_)
        | go_in)
      · intro _ hl0
        have HL0 := Lib.hid hl0
        clear hl0
        have HM := Lib.hid M50
        go_wp2_with fail
        go_ret
        have o := HO.out
        have oz := HZ.out
        have oph := HPH.out
        exact ⟨ph, _, _, rfl, Lib.hid ⟨ht, hn, DT, DN, HI.out.hide (nf_below HKF.out) HL0.out HM.out.1 HT1.out HN1.out HIT.out HIN.out (by omega) (by omega) oz⟩, Lib.hid (fun b hb => by rcases hb with rfl | rfl | hb <;> omega), Lib.hid (fun b hb => hb.elim .inl fun e => .inr (by omega)), nf_below HKF.out⟩
      · intro a b v w51 cnt1 ha0 hb0 hlx hfv hrg1 hlt hg1 hen
        obtain ⟨a', b', ha, hb, hlk, hne0⟩ := HI.out.rN.only _ v hfv
        obtain ⟨rfl, rfl⟩ := labK_inj' ha0 hb0 (bd_max ha) (bd_max hb) hlk
        clear hlk ha0 hb0
        obtain ⟨L, hL⟩ : ∃ L, L = namesOf S a b := ⟨_, rfl⟩
        have HLL : Hid (L = namesOf S a b ∧ L ≠ [] ∧ L.length ≤ 1000000 ∧ ∀ s ∈ L, s.size ≤ 95) := Lib.hid ⟨hL, by rw [hL]; exact hne0, by
          rw [hL]
          refine Nat.le_trans ?_ HS0.out
          unfold namesOf
          rw [List.length_map]
          exact List.length_filter_le _ _, fun s hs => by
          rw [hL] at hs
          obtain ⟨z, hz, _⟩ := namesOf_mem.1 hs
          exact okE_size (HI.out.ok _ hz)⟩
        have HROW : Hid (∀ W', Below w.heap.size w W' → W'.ownsRow 0 9 1 v L.length (L.map .string)) := by
          obtain ⟨v', hv', hr⟩ := HI.out.rN.has a b hne0
          rw [hfv] at hv'
          cases hv'
          rw [← hL] at hr
          exact Lib.hid fun W' hb => ownsRow_keep hr hb
        have hblk : Hid (∀ k, v.ownBlock = some k → W k) := Lib.hid (fun k hk => HI.out.rN.wr _ v k hfv hk)
        have HFV := Lib.hid hfv
        have HLX := Lib.hid hlx
        have HBD := Lib.hid (And.intro ha hb)
        have HCL := Lib.hid hlt
        have k1 : KF (fun b => b = w40.heap.size) w50 w51 := KF.grown hg1 fun j hj => (Option.some.inj hj).symm
        have oo := HO.out
        have op := HPH.out
        have ol := HLT.out
        have oz := HZ.out
        have o40 := nf_below hB40
        have hB51 : KF (NF w) w w51 := hB50.trans (k1.mono fun k _ e => by subst e; exact o40.size)
        have hw51 := hw0.kf hB51
        have M51 : Mem w51 [(ph, .cells #[.map (some ht), .map (some hn)] 64), (w.heap.size, .cells #[.string lS, .string lI] 25), (p, .cells #[.map (some bt), .map (some bn)] 64)] := ⟨mem_kf M50.1 k1 (by omega), mem_kf M50.2.1 k1 (by omega), mem_kf M50.2.2.1 k1 (by have := Mem.lt M40.2.2.1; omega), trivial⟩
        replace HT1 := Lib.hid (ownsMap_kf HT1.out k1 (by omega))
        replace HN1 := Lib.hid (ownsMap_kf HN1.out k1 (by omega))
        replace HIN := Lib.hid (HIN.out.kf k1 fun _ _ _ k hr hk => row_ne_iter hr HRG.out k hk)
        clear HRG
        have HRG := Lib.hid hrg1
        have HZ1 := Lib.hid (Nat.le_trans oz k1.size)
        clear HZ hL hne0 hfv hlx ha hb hlt k1 hg1 hrg1 HKF
        clear oo op ol oz o40
        have c51_0_0 := Mem.cell (v := .map (some ht)) M51.1 0 rfl
        have c51_0_1 := Mem.cell (v := .map (some hn)) M51.1 1 rfl
        have z51_0 := Mem.lt M51.1
        have c51_1_0 := Mem.cell (v := .string lS) M51.2.1 0 rfl
        have c51_1_1 := Mem.cell (v := .string lI) M51.2.1 1 rfl
        have z51_1 := Mem.lt M51.2.1
        have c51_2_0 := Mem.cell (v := .map (some bt)) M51.2.2.1 0 rfl
        have c51_2_1 := Mem.cell (v := .map (some bn)) M51.2.2.1 1 rfl
        have z51_2 := Mem.lt M51.2.2.1
        obtain ⟨fl, hfl⟩ : ∃ x, x = flowsB a b lS lI := ⟨_, rfl⟩
        have HFA := Lib.hid (fun w => flows_any a b lS lI HBD.out.1 HBD.out.2 HBL.out.1 HBL.out.2 w)
        rw [← hfl] at HFA
        have HFL := Lib.hid hfl.symm
        clear hfl
        go_upto_region 5 with (fail)
        have oo51_0 : ph < w51.heap.size := Mem.lt M51.1
        have oo51_1 : w.heap.size < w51.heap.size := Mem.lt M51.2.1
        have oo51_2 : p < w51.heap.size := Mem.lt M51.2.2.1
        go_wp2_with fail
        refine Calls.named ?_
        intro W52 hW52
        have hB52_ : KF (NF w) w W52 := by rw [hW52]; exact (kf_al hB51 _)
        have hw52_ : LaidF (NF w) W52 := by rw [hW52]; exact (hw51.alloc _)
        have M52_ := (M51).new' (w51.heap.size) (by rfl) (.cells #[.string a, .string b] 25)
        rw [← hW52] at M52_
        have hS52 : Below w51.heap.size w51 W52 := by rw [hW52]; exact (below_al (Below.refl _ _) _)
        have HRG_ := hid_ranges HRG hS52
        have HT1_ := hid_map HT1 hS52
        have HN1_ := hid_map HN1 hS52
        have HIN_ := hid_hideN HIN hS52
        clear hS52 HRG HT1 HN1 HIN
        clear hW52
        have ZZ52_0 := Lib.hid (Mem.lt M52_.1)
        have ZZ52_1 := Lib.hid (Mem.lt M52_.2.1)
        have ZZ52_2 := Lib.hid (Mem.lt M52_.2.2.1)
        have ZZ52_3 := Lib.hid (Mem.lt M52_.2.2.2.1)
        clear c51_0_0 c51_0_1 z51_0 c51_1_0 c51_1_1 z51_1 c51_2_0 c51_2_1 z51_2
        refine (HFA.out _).mono ?_
        rintro e w52 ⟨rfl, hb52⟩
        have HRG := hid_ranges HRG_ hb52
        have HT1 := hid_map HT1_ hb52
        have HN1 := hid_map HN1_ hb52
        have HIN := hid_hideN HIN_ hb52
        clear HRG_ HT1_ HN1_ HIN_
        have hB52 := kf_then hB52_ hb52
        have hw52 := hw52_.below hb52
        have M52 := M52_.below hb52
        clear M52_ hB52_ hb52 hw52_
        have c52_0_0 := Mem.cell (v := .string a) M52.1 0 rfl
        have c52_0_1 := Mem.cell (v := .string b) M52.1 1 rfl
        have z52_0 := Mem.lt M52.1
        have c52_1_0 := Mem.cell (v := .map (some ht)) M52.2.1 0 rfl
        have c52_1_1 := Mem.cell (v := .map (some hn)) M52.2.1 1 rfl
        have z52_1 := Mem.lt M52.2.1
        have c52_2_0 := Mem.cell (v := .string lS) M52.2.2.1 0 rfl
        have c52_2_1 := Mem.cell (v := .string lI) M52.2.2.1 1 rfl
        have z52_2 := Mem.lt M52.2.2.1
        have c52_3_0 := Mem.cell (v := .map (some bt)) M52.2.2.2.1 0 rfl
        have c52_3_1 := Mem.cell (v := .map (some bn)) M52.2.2.2.1 1 rfl
        have z52_3 := Mem.lt M52.2.2.2.1
        cases fl with
        | true =>
          skip
          go_upto_region 6 with (fail)
          have HSZ := Lib.hid (HIN.out.size HI.out HN1.out)
          have zof := ZZ52_0.out
          have zw := hB51.size
          clear c52_0_0 c52_0_1 z52_0 c52_1_0 c52_1_1 z52_1 c52_2_0 c52_2_1 z52_2 c52_3_0 c52_3_1 z52_3
          refine wp_region_held (S := fun w' => Mem w' [(w51.heap.size, .cells #[.string a, .string b] 25), (ph, .cells #[.map (some ht), .map (some hn)] 64), (w.heap.size, .cells #[.string lS, .string lI] 25), (p, .cells #[.map (some bt), .map (some bn)] 64)]) (by kernel_rfl) ?_
          change wpAnyH _ _ _ _ _ 8 (Array.replicate 8 false) _ w52.drew
          refine anyH_named ?_
          intro w53 hW53
          have hB53 : KF (NF w) w w53 := by rw [hW53]; exact kf_dr hB52
          have hw53 : LaidF (NF w) w53 := by rw [hW53]; exact hw52.below (below_dr (Below.refl _ _))
          have M53 : Mem w53 [(w51.heap.size, .cells #[.string a, .string b] 25), (ph, .cells #[.map (some ht), .map (some hn)] 64), (w.heap.size, .cells #[.string lS, .string lI] 25), (p, .cells #[.map (some bt), .map (some bn)] 64)] := by rw [hW53]; exact Mem.drew M52
          have zz53 : w52.heap.size ≤ w53.heap.size := by rw [hW53]; exact Nat.le_refl _
          replace HRG := hid_ranges HRG (below_dr (Below.refl _ w52))
          rw [← hW53] at HRG
          replace HT1 := hid_map HT1 (below_dr (Below.refl _ w52))
          rw [← hW53] at HT1
          replace HN1 := hid_map HN1 (below_dr (Below.refl _ w52))
          rw [← hW53] at HN1
          replace HIN := hid_hideN HIN (below_dr (Below.refl _ w52))
          rw [← hW53] at HIN
          clear hW53
          have zh53_0 := Mem.lt M53.1
          have zh53_1 := Mem.lt M53.2.1
          have zh53_2 := Mem.lt M53.2.2.1
          have zh53_3 := Mem.lt M53.2.2.2.1
          refine wpAnyH_take (i := 0) (v := ?_) rfl (by decide +kernel) (by decide +kernel) (by decide +kernel) (fun _ _ _ h => h) (Or.inl ⟨by rfl, ?_⟩) M53 ?_
          rotate_left
          · intro w hSw
            clear hSw
            go_simp; try (with_reducible rfl)
          try simp only [Act.put, List.getElem_toArray, List.getElem_cons_zero, List.setIfInBounds_toArray, List.set_cons_zero, List.set_cons_succ]
          refine wpAnyH_take (i := 4) (v := ?_) rfl (by decide +kernel) (by decide +kernel) (by decide +kernel) (fun _ _ _ h => h) (Or.inl ⟨by rfl, ?_⟩) M53 ?_
          rotate_left
          · intro w hSw
            have s_0 := Mem.cell (v := .string a) hSw.1 0 rfl
            have s_1 := Mem.cell (v := .string b) hSw.1 1 rfl
            clear hSw
            go_simp; try (with_reducible rfl)
          try simp only [Act.put, List.getElem_toArray, List.getElem_cons_succ, List.getElem_cons_zero, List.setIfInBounds_toArray, List.set_cons_zero, List.set_cons_succ]
          refine wpAnyH_take (i := 5) (v := ?_) rfl (by decide +kernel) (by decide +kernel) (by decide +kernel) (fun _ _ _ h => h) (Or.inl ⟨by rfl, ?_⟩) M53 ?_
          rotate_left
          · intro w hSw
            clear hSw
            go_simp; try (with_reducible rfl)
          try simp only [Act.put, List.getElem_toArray, List.getElem_cons_succ, List.getElem_cons_zero, List.setIfInBounds_toArray, List.set_cons_zero, List.set_cons_succ]
          refine wpAnyH_take (i := 1) (v := ?_) rfl (by decide +kernel) (by decide +kernel) (by decide +kernel) (fun _ _ _ h => h) (Or.inl ⟨by rfl, ?_⟩) M53 ?_
          rotate_left
          · intro w hSw
            clear hSw
            go_simp; try (with_reducible rfl)
          try simp only [Act.put, List.getElem_toArray, List.getElem_cons_succ, List.getElem_cons_zero, List.setIfInBounds_toArray, List.set_cons_zero, List.set_cons_succ]
          refine wpAnyH_take (i := 2) (v := ?_) rfl (by decide +kernel) (by decide +kernel) (by decide +kernel) (fun _ _ _ h => h) (Or.inl ⟨by rfl, ?_⟩) M53 ?_
          rotate_left
          · intro w hSw
            clear hSw
            go_simp; try (with_reducible rfl)
          try simp only [Act.put, List.getElem_toArray, List.getElem_cons_succ, List.getElem_cons_zero, List.setIfInBounds_toArray, List.set_cons_zero, List.set_cons_succ]
          refine wpAnyH_take (i := 3) (v := ?_) rfl (by decide +kernel) (by decide +kernel) (by decide +kernel) (fun _ _ _ h => h) (Or.inl ⟨by rfl, ?_⟩) M53 ?_
          rotate_left
          · intro w hSw
            have s_1 := Mem.cell (v := .map (some hn)) hSw.2.1 1 rfl
            clear hSw
            go_simp; try (with_reducible rfl)
          try simp only [Act.put, List.getElem_toArray, List.getElem_cons_succ, List.getElem_cons_zero, List.setIfInBounds_toArray, List.set_cons_zero, List.set_cons_succ]
          refine wpAnyH_ready (rs := [6]) (by decide +kernel) (by simp) (AllReadyH.cons rfl ?_ AllReadyH.nil)
          have hbw := nf_below hB53
          have HU := Lib.hid (HIN.out.lt HI.out.ok)
          intro K hK
          rw [if_pos (by rfl)]
          go_simp
          go_at_call 28
          refine (cloneStr_any L 0 v _ (HROW.out _ (nf_below hB53)) HLL.out.2.2.1).mono ?_
          rintro e w54 ⟨v', rfl, hrow, hb54⟩
          have hB54 := kf_then hB53 hb54
          have hw54 := hw53.below hb54
          have M54 := M53.below hb54
          replace HRG := hid_ranges HRG hb54
          replace HT1 := hid_map HT1 hb54
          replace HN1 := hid_map HN1 hb54
          replace HIN := hid_hideN HIN hb54
          have zz54 := hb54.size
          clear hb54
          refine hK.out _ _ M54 (fun _ => ?_)
          clear hK K
          try simp only [Act.put, List.getElem_toArray, List.getElem_cons_succ, List.getElem_cons_zero, List.setIfInBounds_toArray, List.set_cons_zero, List.set_cons_succ]
          refine wpAnyH_ready (rs := [7]) (by decide +kernel) (by simp) (AllReadyH.cons rfl ?_ AllReadyH.nil)
          have hn1 := HN1.out
          have hsz : Maps.size DN < maxLen := by have := HSZ.out; have := HS0.out; have := HIN.out.size HI.out HN1.out; unfold maxLen; omega
          have hky := keyLab a b (bd_max HBD.out.1) (bd_max HBD.out.2)
          intro K hK
          rw [if_pos (by rfl)]
          obtain ⟨w55, hrun_, hne, hgr_⟩ := map_put hn1 kLab Tryz.underlying62 hsz hky (v')
          obtain ⟨es_, cl_, hmb_, _⟩ := hn1
          go_simp
          have M55 : Mem w55 [(w51.heap.size, .cells #[.string a, .string b] 25), (ph, .cells #[.map (some ht), .map (some hn)] 64), (w.heap.size, .cells #[.string lS, .string lI] 25), (p, .cells #[.map (some bt), .map (some bn)] 64)] := ⟨cells_put M54.1 hmb_ hgr_, cells_put M54.2.1 hmb_ hgr_, cells_put M54.2.2.1 hmb_ hgr_, cells_put M54.2.2.2.1 hmb_ hgr_, trivial⟩
          refine hK.out _ _ M55 (fun _ => ?_)
          clear hK K hrun_
          have hB55 := KF.trans hB54 (KF.grown hgr_ (fun j hj => by cases hj; exact (HO.out.2.1)))
          have hw55 : LaidF (NF w) w55 := hw0.kf hB55
          clear hmb_
          refine wpAnyH_done (by kernel_rfl) ?_ _
          have c55_0_0 := Mem.cell (v := .string a) M55.1 0 rfl
          have c55_0_1 := Mem.cell (v := .string b) M55.1 1 rfl
          have z55_0 := Mem.lt M55.1
          have c55_1_0 := Mem.cell (v := .map (some ht)) M55.2.1 0 rfl
          have c55_1_1 := Mem.cell (v := .map (some hn)) M55.2.1 1 rfl
          have z55_1 := Mem.lt M55.2.1
          have c55_2_0 := Mem.cell (v := .string lS) M55.2.2.1 0 rfl
          have c55_2_1 := Mem.cell (v := .string lI) M55.2.2.1 1 rfl
          have z55_2 := Mem.lt M55.2.2.1
          have c55_3_0 := Mem.cell (v := .map (some bt)) M55.2.2.2.1 0 rfl
          have c55_3_1 := Mem.cell (v := .map (some bn)) M55.2.2.2.1 1 rfl
          have z55_3 := Mem.lt M55.2.2.2.1
          have oo := HO.out
          have op := HPH.out
          have ol := HLT.out
          have oz := HZ1.out
          have k2 := KF.grown (F := fun k => k = hn) hgr_ fun j hj => (Option.some.inj hj).symm
          have hs2 := k2.size
          have HR2 := Lib.hid (ranges_kf HRG.out k2 (by omega) (by omega))
          have HT2 := Lib.hid (ownsMap_kf HT1.out k2 (by omega))
          have HIT2 := Lib.hid (hideT_flow HI.out.ok HBD.out.1 HBD.out.2 HFL.out HIT.out)
          have HIN2 := Lib.hid (hideN_flow HBD.out.1 HBD.out.2 (by rw [← HLL.out.1]; exact HLL.out.2.1) HFL.out HI.out.ok HN1.out HIN.out k2 (hid_row HLL (row_mono hrow (by omega))) (fun kl u k hu hl hk hv => by have h1 := HU.out kl u k hu hl hk; have h2 := hrow.lt k hv; omega))
          have HN2 := Lib.hid (map_size hne)
          have HB2 := Lib.hid hB55
          have HM2 := Lib.hid M55
          have HZ2 : Hid (w40.heap.size ≤ w55.heap.size) := Lib.hid (by omega)
          clear oo op ol oz k2 hs2 hne hgr_ hky hsz hrow
          go_wp2_with fail
          go_roundw
          case rel => exact ⟨_, cnt1, DT, _, HR2, HB2, HM2.out.2, HT2, HN2, HIT2, HIN2, HZ2⟩
          case measure => rw [HR2.out.left_eq, HLM.out]; exact HCL.out
        | false =>
          skip
          have hrow := HROW.out _ (nf_below hB52)
          obtain ⟨sa, sc, rfl, -⟩ := str_row hrow
          clear hrow
          have hsz := HLL.out.2.2.1
          have HST : Hid (Hid (w52.ranges Tryz.prog 25 rawR bn w40.heap.size (Maps.size Dn) Dn (fun z => left z && !z.sameKey (labK a b)) cnt1) ∧ Hid (KF (NF w) w w52) ∧ Mem w52 [(w51.heap.size, .cells #[.string a, .string b] 25), (ph, .cells #[.map (some ht), .map (some hn)] 64), (w.heap.size, .cells #[.string lS, .string lI] 25), (p, .cells #[.map (some bt), .map (some bn)] 64)] ∧ Hid (w52.ownsMap Tryz.prog 9 rawR ht (Maps.size DT) DT) ∧ Hid (w52.ownsMap Tryz.prog 25 rawR hn (Maps.size DN) DN) ∧ Hid (HideN S lS lI left w40.heap.size w52 Dn DN) ∧ Hid (w40.heap.size ≤ w52.heap.size)) := Lib.hid ⟨HRG, Lib.hid hB52, M52, HT1, HN1, HIN, Lib.hid (Nat.le_trans HZ1.out (Nat.le_of_lt z52_0))⟩
          clear HRG HT1 HN1 HIN
          go_wp2_with fail
          go_loopw [44] (fun i wr => ∃ (k : Nat) (DK : DataW Value), k ≤ L.length ∧ i = .int .i64 k ∧ Hid (wr.ranges Tryz.prog 25 rawR bn w40.heap.size (Maps.size Dn) Dn (fun z => left z && !z.sameKey (labK a b)) cnt1) ∧ Hid (KF (NF w) w wr) ∧ Mem wr [(w51.heap.size, .cells #[.string a, .string b] 25), (ph, .cells #[.map (some ht), .map (some hn)] 64), (w.heap.size, .cells #[.string lS, .string lI] 25), (p, .cells #[.map (some bt), .map (some bn)] 64)] ∧ Hid (wr.ownsMap Tryz.prog 9 rawR ht (Maps.size DK) DK) ∧ Hid (wr.ownsMap Tryz.prog 25 rawR hn (Maps.size DN) DN) ∧ Hid (HideN S lS lI left w40.heap.size wr Dn DN) ∧ Hid (w40.heap.size ≤ wr.heap.size) ∧ Hid (CutT (L.take k) DT DK)) (fun i _ => L.length - (intOf i).toNat)
          case atStart => exact ⟨0, DT, Nat.zero_le _, rfl, HST.out.1, HST.out.2.1, HST.out.2.2.1, HST.out.2.2.2.1, HST.out.2.2.2.2.1, HST.out.2.2.2.2.2.1, HST.out.2.2.2.2.2.2, Lib.hid (cutT_zero DT)⟩
          case round =>
            obtain ⟨k, DK, hk, rfl, HRG, HKF, hM, HT1, HN1, HIN, HZ, HCT⟩ := hrel
            clear HST
            obtain ⟨w60, rfl⟩ : ∃ x, x = wr := ⟨_, rfl⟩
            have hB60 := HKF.out
            have hw60 := hw0.kf hB60
            have M60 := hM
            clear hM
            have c60_0_0 := Mem.cell (v := .string a) M60.1 0 rfl
            have c60_0_1 := Mem.cell (v := .string b) M60.1 1 rfl
            have z60_0 := Mem.lt M60.1
            have c60_1_0 := Mem.cell (v := .map (some ht)) M60.2.1 0 rfl
            have c60_1_1 := Mem.cell (v := .map (some hn)) M60.2.1 1 rfl
            have z60_1 := Mem.lt M60.2.1
            have c60_2_0 := Mem.cell (v := .string lS) M60.2.2.1 0 rfl
            have c60_2_1 := Mem.cell (v := .string lI) M60.2.2.1 1 rfl
            have z60_2 := Mem.lt M60.2.2.1
            have c60_3_0 := Mem.cell (v := .map (some bt)) M60.2.2.2.1 0 rfl
            have c60_3_1 := Mem.cell (v := .map (some bn)) M60.2.2.2.1 1 rfl
            have z60_3 := Mem.lt M60.2.2.2.1
            by_cases hlt2 : k < L.length
            · have g1 : (0 : Int) ≤ (k : Int) := by omega
              have g2 : (k : Int) < (L.length : Int) := by omega
              have e2 : IntKind.i64.wrap ((k : Int) + 1) = (k : Int) + 1 := IntWalk.i64_in _ ⟨by omega, by omega⟩
              obtain ⟨g, rfl, hcell⟩ := str_cell (HROW.out _ (nf_below hB60)) k hlt2
              obtain ⟨s, hs⟩ : ∃ s, s = L[k] := ⟨_, rfl⟩
              have HSK : Hid (∃ h : k < L.length, s = L[k]) := Lib.hid ⟨hlt2, hs⟩
              rw [← hs] at hcell
              have hky := keyStr s (by have := HLL.out.2.2.2 s (by rw [hs]; exact List.getElem_mem _); unfold maxLen; omega)
              have hown := HT1.out
              clear hs
              go_wp2_with (first
                | (at_delete; refine wpList_delete_own _ rfl _ _ 60 9 rfl 32 kStr Tryz.underlying60 rawR ht (Maps.size DK) DK rfl hown _ _ rfl hky ?_; intro w61 hown1 hturn1; go_frame)
                | go_in)
              have oo := HO.out
              have op := HPH.out
              have ol := HLT.out
              have k2 := KF.grown (F := fun k => k = ht) hturn1.grown fun j hj => (Option.some.inj hj).symm
              have ow := nf_below hB60
              have ow := ow.size
              have zp := Mem.lt M0.1
              have HT2 := Lib.hid (map_size hown1)
              have HN2 := Lib.hid (ownsMap_kf HN1.out k2 (by omega))
              have HR2 := Lib.hid (ranges_kf HRG.out k2 (by omega) (by omega))
              have HIN2 := Lib.hid (HIN.out.kf k2 fun _ _ _ j hr hj => row_ne_map hr hown j hj)
              have HB2 : Hid (KF (NF w) w w61) := Lib.hid (hB60.trans (k2.mono fun k _ e => by subst e; exact oo.1))
              have HM2 : Hid (Mem w61 [(w51.heap.size, .cells #[.string a, .string b] 25), (ph, .cells #[.map (some ht), .map (some hn)] 64), (w.heap.size, .cells #[.string lS, .string lI] 25), (p, .cells #[.map (some bt), .map (some bn)] 64)]) := Lib.hid ⟨mem_kf M60.1 k2 (by have := hB51.size; omega), mem_kf M60.2.1 k2 (by omega), mem_kf M60.2.2.1 k2 (by omega), mem_kf M60.2.2.2.1 k2 (by omega), trivial⟩
              have HZ2 : Hid (w40.heap.size ≤ w61.heap.size) := Lib.hid (Nat.le_trans HZ.out k2.size)
              have HCT2 : Hid (CutT (L.take (k + 1)) DT (DK.del (.string s.data.toList))) := Lib.hid (by
                obtain ⟨h, e⟩ := HSK.out
                rw [e]
                exact cutT_step h HCT.out)
              go_roundw
              case rel => exact ⟨k + 1, _, by omega, by go_num, HR2, HB2, HM2.out, HT2, HN2, HIN2, HZ2, HCT2⟩
              case measure => simp [intOf]; omega
            · obtain rfl : k = L.length := by omega
              have g2 : ¬ ((L.length : Int) < (L.length : Int)) := by omega
              clear hlt2 hk
              have HCA : Hid (CutT L DT DK) := Lib.hid (by have := HCT.out; rw [List.take_length] at this; exact this)
              clear HCT
              go_upto_region 12 with (fail)
              clear g2
              have hsz0 := Lib.hid (Nat.le_refl w60.heap.size)
              go_still_tail 5, (by kernel_rfl)
              change wpList _ _ _ _ _ w60.drew
              obtain ⟨w61, hW61⟩ : ∃ x, x = w60.drew := ⟨_, rfl⟩
              have hB61 : KF (NF w) w w61 := by rw [hW61]; exact kf_dr hB60
              have hw61 : LaidF (NF w) w61 := hw0.kf hB61
              have M61 := Mem.drew M60
              rw [← hW61] at M61
              rw [← hW61]
              replace HRG := hid_ranges HRG (below_dr (Below.refl _ w60))
              rw [← hW61] at HRG
              replace HT1 := hid_map HT1 (below_dr (Below.refl _ w60))
              rw [← hW61] at HT1
              replace HN1 := hid_map HN1 (below_dr (Below.refl _ w60))
              rw [← hW61] at HN1
              replace HIN := hid_hideN HIN (below_dr (Below.refl _ w60))
              rw [← hW61] at HIN
              replace hsz0 := hid_ge hsz0 (below_dr (Below.refl _ w60))
              rw [← hW61] at hsz0
              clear c60_0_0 c60_0_1 z60_0 c60_1_0 c60_1_1 z60_1 c60_2_0 c60_2_1 z60_2 c60_3_0 c60_3_1 z60_3
              clear hW61
              have c61_0_0 := Mem.cell (v := .string a) M61.1 0 rfl
              have c61_0_1 := Mem.cell (v := .string b) M61.1 1 rfl
              have z61_0 := Mem.lt M61.1
              have c61_1_0 := Mem.cell (v := .map (some ht)) M61.2.1 0 rfl
              have c61_1_1 := Mem.cell (v := .map (some hn)) M61.2.1 1 rfl
              have z61_1 := Mem.lt M61.2.1
              have c61_2_0 := Mem.cell (v := .string lS) M61.2.2.1 0 rfl
              have c61_2_1 := Mem.cell (v := .string lI) M61.2.2.1 1 rfl
              have z61_2 := Mem.lt M61.2.2.1
              have c61_3_0 := Mem.cell (v := .map (some bt)) M61.2.2.2.1 0 rfl
              have c61_3_1 := Mem.cell (v := .map (some bn)) M61.2.2.2.1 1 rfl
              have z61_3 := Mem.lt M61.2.2.2.1
              have hsz61 := hsz0.out
              have hky := keyLab a b (bd_max HBD.out.1) (bd_max HBD.out.2)
              have hown := HN1.out
              go_wp2_with (first
                | (at_delete; refine wpList_delete_own _ rfl _ _ 62 25 rfl 38 kLab Tryz.underlying62 rawR hn (Maps.size DN) DN rfl hown _ _ rfl hky ?_; intro w62 hown1 hturn1; go_frame)
                | go_in)
              have oo := HO.out
              have op := HPH.out
              have ol := HLT.out
              have k2 := KF.grown (F := fun k => k = hn) hturn1.grown fun j hj => (Option.some.inj hj).symm
              have zp := Mem.lt M0.1
              have HT2 := Lib.hid (ownsMap_kf HT1.out k2 (by omega))
              have HN2 := Lib.hid (map_size hown1)
              have HR2 := Lib.hid (ranges_kf HRG.out k2 (by omega) (by omega))
              have HIN2 := Lib.hid (hideN_gone HBD.out.1 HBD.out.2 HFL.out HI.out.ok hown HIN.out k2)
              have HIT2 := Lib.hid (hideT_gone HI.out.sorted HI.out.ok HBD.out.1 HBD.out.2 HFL.out HIT.out (by rw [← HLL.out.1]; exact HCA.out.1) (by rw [← HLL.out.1]; exact HCA.out.2))
              have HB2 : Hid (KF (NF w) w w62) := Lib.hid (hB61.trans (k2.mono fun k _ e => by subst e; exact oo.2.1))
              have HM2 : Hid (Mem w62 [(ph, .cells #[.map (some ht), .map (some hn)] 64), (w.heap.size, .cells #[.string lS, .string lI] 25), (p, .cells #[.map (some bt), .map (some bn)] 64)]) := Lib.hid ⟨mem_kf M61.2.1 k2 (by omega), mem_kf M61.2.2.1 k2 (by omega), mem_kf M61.2.2.2.1 k2 (by omega), trivial⟩
              have HZ2 : Hid (w40.heap.size ≤ w62.heap.size) := Lib.hid (Nat.le_trans HZ.out (Nat.le_trans hsz61 k2.size))
              go_roundw
              case rel => exact ⟨_, cnt1, DK, _, HR2, HB2, HM2.out, HT2, HN2, HIT2, HIN2, HZ2⟩
              case measure => rw [HR2.out.left_eq, HLM.out]; exact HCL.out
theorem hide_any (p : Nat) (S : St) (W Q : Nat → Prop) (lS lI : ByteArray) (h3 : Bd lS) (h4 : Bd lI) (w : World) (h : StoreAt w p S W Q) (hS : S.length ≤ 1000000) (hw : Laid w) :
    Calls Tryz.prog 11 #[.pointer (some ⟨p, 0, none⟩), .agg #[.string lS, .string lI]] w (HideEnds S W Q lS lI w) := by
  obtain ⟨bt, bn, Dt, Dn, h⟩ := h
  exact hide_raw p bt bn S W Q Dt Dn lS lI h3 h4 w h hS hw
end Go.Proofs.YtlkgcidhhngfeaaGreatDoor
