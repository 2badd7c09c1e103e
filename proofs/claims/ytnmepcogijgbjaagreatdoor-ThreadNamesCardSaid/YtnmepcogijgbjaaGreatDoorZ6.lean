/- NameCmp, NameTwoT: joined into one text; each part says below what it holds. -/
import Derived.Test.YtnmepcogijgbjaaGreatDoorNameChild
/- name.Parts, name.Right, name.Child, name.Under, name.Order, slices.Compare at ints. -/
namespace Go.Proofs.YtnmepcogijgbjaaGreatDoor
open Go.RowKit
theorem cmpL_drop {x y : List Int} {k : Nat} (hk : k < x.length) (hk2 : k < y.length) : cmpL (x.drop k) (y.drop k) = if x.getD k 0 < y.getD k 0 then -1 else if y.getD k 0 < x.getD k 0 then 1 else cmpL (x.drop (k + 1)) (y.drop (k + 1)) := by
  rw [List.drop_eq_getElem_cons hk, List.drop_eq_getElem_cons hk2, cmpL]
  simp [hk, hk2]
set_option maxHeartbeats 1000000 in
theorem compare_any (b1 o1 c1 b2 o2 c2 : Nat) (x y : List Int) (w : World) (hx : x.length ≤ 9223372036854775807) (hy : y.length ≤ 9223372036854775807)
    (h1 : ∀ j, j < x.length → w.cell? ⟨b1, o1 + j, none⟩ = some (.int .i64 (x.getD j 0))) (h2 : ∀ j, j < y.length → w.cell? ⟨b2, o2 + j, none⟩ = some (.int .i64 (y.getD j 0))) :
    Calls Tryz.prog 47 #[.slice (some ⟨b1, o1, none⟩) x.length c1, .slice (some ⟨b2, o2, none⟩) y.length c2] w fun e w' => e = .returned (.int .i64 (cmpL x y)) ∧ w = w' := by
  obtain ⟨R, hR⟩ : ∃ R, R = cmpL x y := ⟨_, rfl⟩
  rw [← hR]
  have HR : Hid (R = cmpL (x.drop 0) (y.drop 0)) := Lib.hid (by simpa using hR)
  have H1 := Lib.hid h1
  have H2 := Lib.hid h2
  obtain ⟨n, hn⟩ : ∃ n, n = x.length := ⟨_, rfl⟩
  obtain ⟨m, hm⟩ : ∃ m, m = y.length := ⟨_, rfl⟩
  rw [← hn] at hx ⊢
  rw [← hm] at hy ⊢
  have HN := Lib.hid hn
  have HM := Lib.hid hm
  clear hR h1 h2 hn hm
  go_enter Tryz.func47, Tryz.ntmps47
  go_wp2_with fail
  go_loop [5, 6, 7, 8, 11] (fun _ _ _ _ i => ∃ k : Nat, k ≤ n ∧ k ≤ m ∧ i = .int .i64 k ∧ Hid (R = cmpL (x.drop k) (y.drop k))) (fun _ _ _ _ i => n - (intOf i).toNat)
  case atStart => exact ⟨0, by omega, by omega, rfl, HR⟩
  case round =>
    obtain ⟨k, hk, hk2, rfl, hr⟩ := hrel
    by_cases hlt : k < n
    · have hltI : (k : Int) < n := by omega
      have cw := H1.out k (by rw [← HN.out]; exact hlt)
      by_cases hlt2 : k < m
      · have hltI2 : (k : Int) < m := by omega
        have dw := H2.out k (by rw [← HM.out]; exact hlt2)
        have hstep := cmpL_drop (x := x) (y := y) (k := k) (by rw [← HN.out]; exact hlt) (by rw [← HM.out]; exact hlt2)
        obtain ⟨a, ha⟩ : ∃ a, a = x.getD k 0 := ⟨_, rfl⟩
        obtain ⟨b, hb⟩ : ∃ b, b = y.getD k 0 := ⟨_, rfl⟩
        rw [← ha] at cw hstep
        rw [← hb] at dw hstep
        rw [← hr.out] at hstep
        have HS := Lib.hid hstep
        clear ha hb hstep hr HR H1 H2
        have hcase : Lib.compareInt a b = (if a < b then -1 else if b < a then 1 else 0) := rfl
        by_cases e1 : a < b
        · rw [if_pos e1] at hcase
          have HC := Lib.hid hcase
          have HE : Hid (Ending.returned (.int .i64 (-1)) = .returned (.int .i64 R)) := Lib.hid (by rw [HS.out, if_pos e1])
          clear hcase HS
          go_wp2_with fail
          refine (Go.Proofs.Tryz.cmp_Compare_int _ _ _).mono ?_
          rw [HC.out]
          rintro e _ ⟨rfl, rfl⟩
          go_wp2_with fail
          go_ret
          exact ⟨HE.out, rfl⟩
        · rw [if_neg e1] at hcase
          by_cases e2 : b < a
          · rw [if_pos e2] at hcase
            have HC := Lib.hid hcase
            have HE : Hid (Ending.returned (.int .i64 1) = .returned (.int .i64 R)) := Lib.hid (by rw [HS.out, if_neg e1, if_pos e2])
            clear hcase HS
            go_wp2_with fail
            refine (Go.Proofs.Tryz.cmp_Compare_int _ _ _).mono ?_
            rw [HC.out]
            rintro e _ ⟨rfl, rfl⟩
            go_wp2_with fail
            go_ret
            exact ⟨HE.out, rfl⟩
          · rw [if_neg e2] at hcase
            have HC := Lib.hid hcase
            have HE : Hid (R = cmpL (x.drop (k + 1)) (y.drop (k + 1))) := Lib.hid (by rw [HS.out, if_neg e1, if_neg e2])
            clear hcase HS
            go_wp2_with fail
            refine (Go.Proofs.Tryz.cmp_Compare_int _ _ _).mono ?_
            rw [HC.out]
            rintro e _ ⟨rfl, rfl⟩
            go_wp2_with fail
            go_round
            case rel => exact ⟨k + 1, by omega, by omega, by go_num, HE⟩
            case measure => simp [intOf]; omega
      · obtain rfl : k = m := by omega
        have HE : Hid (Ending.returned (.int .i64 1) = .returned (.int .i64 R)) := Lib.hid (by
          rw [hr.out, List.drop_of_length_le (l := y) (by rw [← HM.out]; exact Nat.le_refl _), List.drop_eq_getElem_cons (l := x) (by rw [← HN.out]; exact hlt)]
          rfl)
        clear hr HR H1 H2
        go_wp2_with fail
        go_ret
        exact ⟨HE.out, rfl⟩
    · obtain rfl : k = n := by omega
      by_cases hlt2 : k < m
      · have hltI2 : (k : Int) < m := by omega
        have HE : Hid (Ending.returned (.int .i64 (-1)) = .returned (.int .i64 R)) := Lib.hid (by
          rw [hr.out, List.drop_of_length_le (l := x) (by rw [← HN.out]; exact Nat.le_refl _), List.drop_eq_getElem_cons (l := y) (by rw [← HM.out]; exact hlt2)]
          rfl)
        clear hr HR H1 H2
        go_wp2_with fail
        go_ret
        exact ⟨HE.out, rfl⟩
      · obtain rfl : k = m := by omega
        have HE : Hid (Ending.returned (.int .i64 0) = .returned (.int .i64 R)) := Lib.hid (by
          rw [hr.out, List.drop_of_length_le (l := x) (by rw [← HN.out]; exact Nat.le_refl _), List.drop_of_length_le (l := y) (by rw [← HM.out]; exact Nat.le_refl _)]
          rfl)
        clear hr HR H1 H2
        go_wp2_with fail
        go_ret
        exact ⟨HE.out, rfl⟩
end Go.Proofs.YtnmepcogijgbjaaGreatDoor
/- name.Under, name.Order. -/
namespace Go.Proofs.YtnmepcogijgbjaaGreatDoor
open Go.RowKit
theorem ownsRow_ints {w : World} {B : Nat} {v : Value} {l : List Int} (h : w.ownsRow B 3 1 v l.length (ic l)) (h1 : 1 ≤ l.length) :
    ∃ g cap, v = .slice (some ⟨g, 0, none⟩) l.length cap ∧ l.length ≤ cap ∧ cap ≤ 9223372036854775807 ∧ ∀ j, j < l.length → w.cell? ⟨g, 0 + j, none⟩ = some (.int .i64 (l.getD j 0)) := by
  have hI := IntsAt.of_row h
  rcases h.2 with ⟨_, h0⟩ | ⟨g, cap, cur, hv, _⟩
  · omega
  · rcases hI with ⟨_, _, _, h0⟩ | ⟨b, off, cap', hv', k1, k2, hc⟩
    · subst h0; simp at h1
    · rw [hv] at hv'
      simp only [Value.slice.injEq, Option.some.injEq, Addr.mk.injEq, true_and, and_true] at hv'
      obtain ⟨⟨rfl, rfl⟩, rfl⟩ := hv'
      exact ⟨g, cap, hv, k1, by unfold maxLen at k2; omega, hc⟩
set_option maxHeartbeats 1000000 in
theorem under_a (a b : ByteArray) (w : World) (ha : a.size ≤ 140737488351232) (hw : Laid w) (h : readL a.data.toList = none) :
    Calls Tryz.prog 20 #[.string a, .string b] w fun e w' => e = .returned (.bool (underS a.data.toList b.data.toList)) ∧ Below w.heap.size w w' := by
  have hf : underS a.data.toList b.data.toList = false := by unfold underS; rw [h]
  rw [hf]
  have H := Lib.hid h
  clear h hf
  go_enter Tryz.func20, Tryz.ntmps20
  go_wp2_with fail
  refine (read_any a _ ha hw).mono ?_
  rw [H.out]
  rintro e w1 ⟨v, rfl, hrow, hb, hnil⟩
  clear hrow hnil
  go_wp2_with fail
  go_ret
  exact ⟨rfl, hb⟩
set_option maxHeartbeats 1000000 in
theorem under_b (a b : ByteArray) (w : World) (ha : a.size ≤ 140737488351232) (hbs : b.size ≤ 140737488351232) (hw : Laid w) (x : List Int) (h : readL a.data.toList = some x) (hb : readL b.data.toList = none) :
    Calls Tryz.prog 20 #[.string a, .string b] w fun e w' => e = .returned (.bool (underS a.data.toList b.data.toList)) ∧ Below w.heap.size w w' := by
  have hf : underS a.data.toList b.data.toList = false := by unfold underS; rw [h, hb]
  rw [hf]
  have H := Lib.hid h
  have H2 := Lib.hid hb
  clear h hf hb
  go_enter Tryz.func20, Tryz.ntmps20
  go_wp2_with fail
  refine (read_any a _ ha hw).mono ?_
  rw [H.out]
  rintro e w1 ⟨v, rfl, hrow, hb1, hnil⟩
  clear hrow hnil
  go_wp2_with fail
  refine (read_any b _ hbs (hw.below hb1)).mono ?_
  rw [H2.out]
  rintro e w2 ⟨v2, rfl, hrow, hb2, hnil⟩
  clear hrow hnil
  go_wp2_with fail
  go_ret
  exact ⟨rfl, below_then hb1 hb2⟩
set_option maxHeartbeats 1000000 in
theorem under_c (a b : ByteArray) (w : World) (ha : a.size ≤ 140737488351232) (hbs : b.size ≤ 140737488351232) (hw : Laid w) (x y : List Int) (h : readL a.data.toList = some x) (hb : readL b.data.toList = some y) :
    Calls Tryz.prog 20 #[.string a, .string b] w fun e w' => e = .returned (.bool (underS a.data.toList b.data.toList)) ∧ Below w.heap.size w w' := by
  have hf : underS a.data.toList b.data.toList = (decide (x.length ≤ y.length) && (x == y.take x.length)) := by unfold underS; rw [h, hb]
  obtain ⟨R, hR⟩ : ∃ R, R = underS a.data.toList b.data.toList := ⟨_, rfl⟩
  rw [← hR]
  rw [← hR] at hf
  have HF := Lib.hid hf
  have H := Lib.hid h
  have H2 := Lib.hid hb
  have lx1 := (readL_some h).1.1
  have ly1 := (readL_some hb).1.1
  have lx2 := (readL_some h).1.2.1
  have ly2 := (readL_some hb).1.2.1
  clear h hf hb hR
  go_enter Tryz.func20, Tryz.ntmps20
  go_wp2_with fail
  refine (read_any a _ ha hw).mono ?_
  rw [H.out]
  rintro e w1 ⟨v, rfl, hrow, hb1, hnil⟩
  have hr1 : w1.ownsRow w.heap.size 3 1 v x.length (ic x) := hrow
  clear hrow hnil
  go_wp2_with fail
  refine (read_any b _ hbs (hw.below hb1)).mono ?_
  rw [H2.out]
  rintro e w2 ⟨v2, rfl, hrow, hb2, hnil⟩
  have hr2 : w2.ownsRow w1.heap.size 3 1 v2 y.length (ic y) := hrow
  have hr3 := ownsRow_below hr1 hb2
  clear hrow hnil hr1
  obtain ⟨g, cap, rfl, k1, k2, hc1⟩ := ownsRow_ints hr3 lx1
  obtain ⟨g2, cap2, rfl, k3, k4, hc2⟩ := ownsRow_ints hr2 ly1
  have HC1 := Lib.hid hc1
  have HC2 := Lib.hid hc2
  have HB := Lib.hid (below_then hb1 hb2)
  clear hr2 hr3 hc1 hc2 hb1 hb2
  by_cases hle : x.length ≤ y.length
  · have d1 : decide ((x.length : Int) ≤ (y.length : Int)) = true := by simp; omega
    have hfin : (List.take x.length x == List.take x.length y) = R := by
      rw [HF.out, decide_eq_true hle, List.take_length]; rfl
    have HE := Lib.hid hfin
    clear hfin
    have hle2 : x.length ≤ cap2 := by omega
    go_wp2_with fail
    refine (Go.Proofs.Tryz.slices_Equal_int g 0 x.length cap g2 0 x.length cap2 x y _ (Nat.le_refl _) hle (by omega) (by omega) HC1.out HC2.out).mono ?_
    rintro e w3 ⟨rfl, q, rfl⟩
    have hB3 : Below w.heap.size w (w2.drewN q) := HB.out.trans ⟨rfl, rfl, rfl, Nat.le_refl _, fun _ _ => rfl⟩
    have HB3 := Lib.hid hB3
    clear hB3
    rw [HE.out]
    go_wp2_with fail
    go_ret
    exact ⟨rfl, HB3.out⟩
  · have d1 : decide ((x.length : Int) ≤ (y.length : Int)) = false := by simp; omega
    have hfin : false = R := by rw [HF.out, decide_eq_false hle]; rfl
    have HE := Lib.hid hfin
    clear hfin
    go_wp2_with fail
    go_ret
    exact ⟨ret_bool HE.out, HB.out⟩
theorem under_any (a b : ByteArray) (w : World) (ha : a.size ≤ 140737488351232) (hb : b.size ≤ 140737488351232) (hw : Laid w) :
    Calls Tryz.prog 20 #[.string a, .string b] w fun e w' => e = .returned (.bool (underS a.data.toList b.data.toList)) ∧ Below w.heap.size w w' := by
  cases h : readL a.data.toList with
  | none => exact under_a a b w ha hw h
  | some x =>
    cases h2 : readL b.data.toList with
    | none => exact under_b a b w ha hb hw x h h2
    | some y => exact under_c a b w ha hb hw x y h h2
set_option maxHeartbeats 1000000 in
theorem order_any (a b : ByteArray) (w : World) (ha : a.size ≤ 140737488351232) (hbs : b.size ≤ 140737488351232) (hw : Laid w) :
    Calls Tryz.prog 21 #[.string a, .string b] w fun e w' => e = .returned (.int .i64 (orderS a.data.toList b.data.toList)) ∧ Below w.heap.size w w' := by
  obtain ⟨R, hR⟩ : ∃ R, R = orderS a.data.toList b.data.toList := ⟨_, rfl⟩
  rw [← hR]
  unfold orderS at hR
  cases h : readL a.data.toList with
  | none =>
    rw [h] at hR
    have H := Lib.hid h
    clear h
    cases h2 : readL b.data.toList with
    | none =>
      rw [h2] at hR
      have H2 := Lib.hid h2
      have HR : Hid (Lib.compareBytes a.data.toList b.data.toList = R) := Lib.hid hR.symm
      clear h2 hR
      go_enter Tryz.func21, Tryz.ntmps21
      go_wp2_with fail
      refine (read_any a _ ha hw).mono ?_
      rw [H.out]
      rintro e w1 ⟨v, rfl, hrow, hb1, hnil⟩
      clear hrow hnil
      go_wp2_with fail
      refine (read_any b _ hbs (hw.below hb1)).mono ?_
      rw [H2.out]
      rintro e w2 ⟨v2, rfl, hrow, hb2, hnil⟩
      clear hrow hnil
      have HB := Lib.hid (below_then hb1 hb2)
      clear hb1 hb2
      go_wp2_with fail
      refine (Go.Proofs.Tryz.strings_Compare _ _ _).mono ?_
      rw [HR.out]
      rintro e _ ⟨rfl, rfl⟩
      go_wp2_with fail
      go_ret
      exact ⟨rfl, HB.out⟩
    | some y =>
      rw [h2] at hR
      have H2 := Lib.hid h2
      have HR : Hid (R = 1) := Lib.hid hR
      clear h2 hR
      go_enter Tryz.func21, Tryz.ntmps21
      go_wp2_with fail
      refine (read_any a _ ha hw).mono ?_
      rw [H.out]
      rintro e w1 ⟨v, rfl, hrow, hb1, hnil⟩
      clear hrow hnil
      go_wp2_with fail
      refine (read_any b _ hbs (hw.below hb1)).mono ?_
      rw [H2.out]
      rintro e w2 ⟨v2, rfl, hrow, hb2, hnil⟩
      clear hrow hnil
      have HB := Lib.hid (below_then hb1 hb2)
      clear hb1 hb2
      go_wp2_with fail
      go_ret
      exact ⟨ret_int HR.out.symm, HB.out⟩
  | some x =>
    rw [h] at hR
    have H := Lib.hid h
    have lx1 := (readL_some h).1.1
    have lx2 := (readL_some h).1.2.1
    clear h
    cases h2 : readL b.data.toList with
    | none =>
      rw [h2] at hR
      have H2 := Lib.hid h2
      have HR : Hid (R = -1) := Lib.hid hR
      clear h2 hR
      go_enter Tryz.func21, Tryz.ntmps21
      go_wp2_with fail
      refine (read_any a _ ha hw).mono ?_
      rw [H.out]
      rintro e w1 ⟨v, rfl, hrow, hb1, hnil⟩
      clear hrow hnil
      go_wp2_with fail
      refine (read_any b _ hbs (hw.below hb1)).mono ?_
      rw [H2.out]
      rintro e w2 ⟨v2, rfl, hrow, hb2, hnil⟩
      clear hrow hnil
      have HB := Lib.hid (below_then hb1 hb2)
      clear hb1 hb2
      go_wp2_with fail
      go_ret
      exact ⟨ret_int HR.out.symm, HB.out⟩
    | some y =>
      rw [h2] at hR
      have H2 := Lib.hid h2
      have ly1 := (readL_some h2).1.1
      have ly2 := (readL_some h2).1.2.1
      have HR : Hid (cmpL x y = R) := Lib.hid hR.symm
      clear h2 hR
      go_enter Tryz.func21, Tryz.ntmps21
      go_wp2_with fail
      refine (read_any a _ ha hw).mono ?_
      rw [H.out]
      rintro e w1 ⟨v, rfl, hrow, hb1, hnil⟩
      have hr1 : w1.ownsRow w.heap.size 3 1 v x.length (ic x) := hrow
      clear hrow hnil
      go_wp2_with fail
      refine (read_any b _ hbs (hw.below hb1)).mono ?_
      rw [H2.out]
      rintro e w2 ⟨v2, rfl, hrow, hb2, hnil⟩
      have hr2 : w2.ownsRow w1.heap.size 3 1 v2 y.length (ic y) := hrow
      have hr3 := ownsRow_below hr1 hb2
      clear hrow hnil hr1
      obtain ⟨g, cap, rfl, k1, k2, hc1⟩ := ownsRow_ints hr3 lx1
      obtain ⟨g2, cap2, rfl, k3, k4, hc2⟩ := ownsRow_ints hr2 ly1
      have HC1 := Lib.hid hc1
      have HC2 := Lib.hid hc2
      have HB := Lib.hid (below_then hb1 hb2)
      clear hr2 hr3 hc1 hc2 hb1 hb2
      go_wp2_with fail
      refine (compare_any g 0 cap g2 0 cap2 x y _ (by omega) (by omega) HC1.out HC2.out).mono ?_
      rw [HR.out]
      rintro e _ ⟨rfl, rfl⟩
      go_wp2_with fail
      go_ret
      exact ⟨rfl, HB.out⟩
end Go.Proofs.YtnmepcogijgbjaaGreatDoor
