/- IntsS, NameCmpS, NameTwoS: joined into one text; each part says below what it holds. -/
import Derived.Test.YtlkgcidhhngfeaaGreatDoorZ3
/- name.made, name.Of, name.Parts, name.Right, name.Child. -/
namespace Go.Proofs.YtlkgcidhhngfeaaGreatDoor
open Go.RowKit
/-- a slice of ints, nil or not, that reads so -/
def IntsAt (w : World) (v : Value) (l : List Int) : Prop :=
  (∃ ao cap, v = .slice ao 0 cap ∧ l = []) ∨ ∃ b off cap, v = .slice (some ⟨b, off, none⟩) l.length cap ∧ l.length ≤ cap ∧ cap ≤ maxLen ∧ ∀ j, j < l.length → w.cell? ⟨b, off + j, none⟩ = some (.int .i64 (l.getD j 0))
theorem IntsAt.below {w w' : World} {v : Value} {l : List Int} (h : IntsAt w v l) (hb : Below w.heap.size w w') : IntsAt w' v l := by
  rcases h with h | ⟨b, off, cap, hv, h1, h2, hc⟩
  · exact Or.inl h
  · refine Or.inr ⟨b, off, cap, hv, h1, h2, fun j hj => ?_⟩
    have := hc j hj
    exact (hb.cell (p := ⟨b, off + j, none⟩) (World.block_lt_of_cell? _ _ this)).trans this
theorem IntsAt.of_row {w : World} {B : Nat} {v : Value} {l : List Int} (h : w.ownsRow B 3 1 v l.length (ic l)) : IntsAt w v l := by
  rcases h.2 with ⟨hv, h0⟩ | ⟨g, cap, cur, hv, _, hg, h1, h2, _, h4⟩
  · exact Or.inl ⟨_, _, hv, List.length_eq_zero_iff.1 h0⟩
  · refine Or.inr ⟨g, 0, cap, hv, h1, h2, fun j hj => ?_⟩
    rw [Nat.mul_one] at h4
    unfold World.cell?
    rw [hg, Nat.zero_add]
    show cur[j]? = _
    have h5 : (cur.toList.take l.length)[j]? = cur[j]? := by
      rw [List.getElem?_take_of_lt hj]
      simp
    rw [← h5, h4]
    unfold ic
    rw [List.getElem?_map, List.getElem?_eq_getElem hj]
    simp [hj]
end Go.Proofs.YtlkgcidhhngfeaaGreatDoor
/- name.Parts, name.Right, name.Child, name.Under, name.Order, slices.Compare at ints. -/
namespace Go.Proofs.YtlkgcidhhngfeaaGreatDoor
open Go.RowKit
theorem cmpL_drop {x y : List Int} {k : Nat} (hk : k < x.length) (hk2 : k < y.length) : cmpL (x.drop k) (y.drop k) = if x.getD k 0 < y.getD k 0 then -1 else if y.getD k 0 < x.getD k 0 then 1 else cmpL (x.drop (k + 1)) (y.drop (k + 1)) := by
  rw [List.drop_eq_getElem_cons hk, List.drop_eq_getElem_cons hk2, cmpL]
  simp [hk, hk2]
set_option maxHeartbeats 1000000 in
theorem compare_any (b1 o1 c1 b2 o2 c2 : Nat) (x y : List Int) (w : World) (hx : x.length ≤ 9223372036854775807) (hy : y.length ≤ 9223372036854775807)
    (h1 : ∀ j, j < x.length → w.cell? ⟨b1, o1 + j, none⟩ = some (.int .i64 (x.getD j 0))) (h2 : ∀ j, j < y.length → w.cell? ⟨b2, o2 + j, none⟩ = some (.int .i64 (y.getD j 0))) :
    Calls Tryz.prog 53 #[.slice (some ⟨b1, o1, none⟩) x.length c1, .slice (some ⟨b2, o2, none⟩) y.length c2] w fun e w' => e = .returned (.int .i64 (cmpL x y)) ∧ w = w' := by
  obtain ⟨R, hR⟩ : ∃ R, R = cmpL x y := ⟨_, rfl⟩
  rw [← hR]
  have HR : Hid (R = cmpL (x.drop 0) (y.drop 0)) := Lib.hid (by simpa using hR)
  have H1 := Lib.hid h1
  have H2 := Lib.hid h2
  obtain ⟨n, hn⟩ : ∃ n, n = x.length := ⟨_, rfl⟩
  obtain ⟨m, hm⟩ : ∃ m, m = y.length := ⟨_, rfl⟩
  rw [← hn] at hx ⊢
  rw [← hm] at hy ⊢
  have HN := Lib.hid hn
  have HM := Lib.hid hm
  clear hR h1 h2 hn hm
  go_enter Tryz.func53, Tryz.ntmps53
  go_wp2_with fail
  go_loop [5, 6, 7, 8, 11] (fun _ _ _ _ i => ∃ k : Nat, k ≤ n ∧ k ≤ m ∧ i = .int .i64 k ∧ Hid (R = cmpL (x.drop k) (y.drop k))) (fun _ _ _ _ i => n - (intOf i).toNat)
  case atStart => exact ⟨0, by omega, by omega, rfl, HR⟩
  case round =>
    obtain ⟨k, hk, hk2, rfl, hr⟩ := hrel
    by_cases hlt : k < n
    · have hltI : (k : Int) < n := by omega
      have cw := H1.out k (by rw [← HN.out]; exact hlt)
      by_cases hlt2 : k < m
      · have hltI2 : (k : Int) < m := by omega
        have dw := H2.out k (by rw [← HM.out]; exact hlt2)
        have hstep := cmpL_drop (x := x) (y := y) (k := k) (by rw [← HN.out]; exact hlt) (by rw [← HM.out]; exact hlt2)
        obtain ⟨a, ha⟩ : ∃ a, a = x.getD k 0 := ⟨_, rfl⟩
        obtain ⟨b, hb⟩ : ∃ b, b = y.getD k 0 := ⟨_, rfl⟩
        rw [← ha] at cw hstep
        rw [← hb] at dw hstep
        rw [← hr.out] at hstep
        have HS := Lib.hid hstep
        clear ha hb hstep hr HR H1 H2
        have hcase : Lib.compareInt a b = (if a < b then -1 else if b < a then 1 else 0) := rfl
        by_cases e1 : a < b
        · rw [if_pos e1] at hcase
          have HC := Lib.hid hcase
          have HE : Hid (Ending.returned (.int .i64 (-1)) = .returned (.int .i64 R)) := Lib.hid (by rw [HS.out, if_pos e1])
          clear hcase HS
          go_wp2_with fail
          refine (Go.Proofs.Tryz.cmp_Compare_int _ _ _).mono ?_
          rw [HC.out]
          rintro e _ ⟨rfl, rfl⟩
          go_wp2_with fail
          go_ret
          exact ⟨HE.out, rfl⟩
        · rw [if_neg e1] at hcase
          by_cases e2 : b < a
          · rw [if_pos e2] at hcase
            have HC := Lib.hid hcase
            have HE : Hid (Ending.returned (.int .i64 1) = .returned (.int .i64 R)) := Lib.hid (by rw [HS.out, if_neg e1, if_pos e2])
            clear hcase HS
            go_wp2_with fail
            refine (Go.Proofs.Tryz.cmp_Compare_int _ _ _).mono ?_
            rw [HC.out]
            rintro e _ ⟨rfl, rfl⟩
            go_wp2_with fail
            go_ret
            exact ⟨HE.out, rfl⟩
          · rw [if_neg e2] at hcase
            have HC := Lib.hid hcase
            have HE : Hid (R = cmpL (x.drop (k + 1)) (y.drop (k + 1))) := Lib.hid (by rw [HS.out, if_neg e1, if_neg e2])
            clear hcase HS
            go_wp2_with fail
            refine (Go.Proofs.Tryz.cmp_Compare_int _ _ _).mono ?_
            rw [HC.out]
            rintro e _ ⟨rfl, rfl⟩
            go_wp2_with fail
            go_round
            case rel => exact ⟨k + 1, by omega, by omega, by go_num, HE⟩
            case measure => simp [intOf]; omega
      · obtain rfl : k = m := by omega
        have HE : Hid (Ending.returned (.int .i64 1) = .returned (.int .i64 R)) := Lib.hid (by
          rw [hr.out, List.drop_of_length_le (l := y) (by rw [← HM.out]; exact Nat.le_refl _), List.drop_eq_getElem_cons (l := x) (by rw [← HN.out]; exact hlt)]
          rfl)
        clear hr HR H1 H2
        go_wp2_with fail
        go_ret
        exact ⟨HE.out, rfl⟩
    · obtain rfl : k = n := by omega
      by_cases hlt2 : k < m
      · have hltI2 : (k : Int) < m := by omega
        have HE : Hid (Ending.returned (.int .i64 (-1)) = .returned (.int .i64 R)) := Lib.hid (by
          rw [hr.out, List.drop_of_length_le (l := x) (by rw [← HN.out]; exact Nat.le_refl _), List.drop_eq_getElem_cons (l := y) (by rw [← HM.out]; exact hlt2)]
          rfl)
        clear hr HR H1 H2
        go_wp2_with fail
        go_ret
        exact ⟨HE.out, rfl⟩
      · obtain rfl : k = m := by omega
        have HE : Hid (Ending.returned (.int .i64 0) = .returned (.int .i64 R)) := Lib.hid (by
          rw [hr.out, List.drop_of_length_le (l := x) (by rw [← HN.out]; exact Nat.le_refl _), List.drop_of_length_le (l := y) (by rw [← HM.out]; exact Nat.le_refl _)]
          rfl)
        clear hr HR H1 H2
        go_wp2_with fail
        go_ret
        exact ⟨HE.out, rfl⟩
theorem nright_any (s : ByteArray) (w : World) (hs : s.size ≤ 140737488351232) (hw : Laid w) :
    Calls Tryz.prog 30 #[.string s] w fun e w' => e = .returned (.bool (readL s.data.toList).isSome) ∧ Below w.heap.size w w' := by
  go_enter Tryz.func30, Tryz.ntmps30
  go_wp2_with fail
  refine (read_any s _ hs hw).mono ?_
  rintro e w1 ⟨v, rfl, hrow, hb, hnil⟩
  clear hrow hnil
  go_wp2_with fail
  go_ret
  exact ⟨rfl, hb⟩
end Go.Proofs.YtlkgcidhhngfeaaGreatDoor
/- name.Under, name.Order. -/
namespace Go.Proofs.YtlkgcidhhngfeaaGreatDoor
open Go.RowKit
theorem ownsRow_ints {w : World} {B : Nat} {v : Value} {l : List Int} (h : w.ownsRow B 3 1 v l.length (ic l)) (h1 : 1 ≤ l.length) :
    ∃ g cap, v = .slice (some ⟨g, 0, none⟩) l.length cap ∧ l.length ≤ cap ∧ cap ≤ 9223372036854775807 ∧ ∀ j, j < l.length → w.cell? ⟨g, 0 + j, none⟩ = some (.int .i64 (l.getD j 0)) := by
  have hI := IntsAt.of_row h
  rcases h.2 with ⟨_, h0⟩ | ⟨g, cap, cur, hv, _⟩
  · omega
  · rcases hI with ⟨_, _, _, h0⟩ | ⟨b, off, cap', hv', k1, k2, hc⟩
    · subst h0; simp at h1
    · rw [hv] at hv'
      simp only [Value.slice.injEq, Option.some.injEq, Addr.mk.injEq, true_and, and_true] at hv'
      obtain ⟨⟨rfl, rfl⟩, rfl⟩ := hv'
      exact ⟨g, cap, hv, k1, by unfold maxLen at k2; omega, hc⟩
set_option maxHeartbeats 1000000 in
theorem order_any (a b : ByteArray) (w : World) (ha : a.size ≤ 140737488351232) (hbs : b.size ≤ 140737488351232) (hw : Laid w) :
    Calls Tryz.prog 33 #[.string a, .string b] w fun e w' => e = .returned (.int .i64 (orderS a.data.toList b.data.toList)) ∧ Below w.heap.size w w' := by
  obtain ⟨R, hR⟩ : ∃ R, R = orderS a.data.toList b.data.toList := ⟨_, rfl⟩
  rw [← hR]
  unfold orderS at hR
  cases h : readL a.data.toList with
  | none =>
    rw [h] at hR
    have H := Lib.hid h
    clear h
    cases h2 : readL b.data.toList with
    | none =>
      rw [h2] at hR
      have H2 := Lib.hid h2
      have HR : Hid (Lib.compareBytes a.data.toList b.data.toList = R) := Lib.hid hR.symm
      clear h2 hR
      go_enter Tryz.func33, Tryz.ntmps33
      go_wp2_with fail
      refine (read_any a _ ha hw).mono ?_
      rw [H.out]
      rintro e w1 ⟨v, rfl, hrow, hb1, hnil⟩
      clear hrow hnil
      go_wp2_with fail
      refine (read_any b _ hbs (hw.below hb1)).mono ?_
      rw [H2.out]
      rintro e w2 ⟨v2, rfl, hrow, hb2, hnil⟩
      clear hrow hnil
      have HB := Lib.hid (below_then hb1 hb2)
      clear hb1 hb2
      go_wp2_with fail
      refine (Go.Proofs.Tryz.strings_Compare _ _ _).mono ?_
      rw [HR.out]
      rintro e _ ⟨rfl, rfl⟩
      go_wp2_with fail
      go_ret
      exact ⟨rfl, HB.out⟩
    | some y =>
      rw [h2] at hR
      have H2 := Lib.hid h2
      have HR : Hid (R = 1) := Lib.hid hR
      clear h2 hR
      go_enter Tryz.func33, Tryz.ntmps33
      go_wp2_with fail
      refine (read_any a _ ha hw).mono ?_
      rw [H.out]
      rintro e w1 ⟨v, rfl, hrow, hb1, hnil⟩
      clear hrow hnil
      go_wp2_with fail
      refine (read_any b _ hbs (hw.below hb1)).mono ?_
      rw [H2.out]
      rintro e w2 ⟨v2, rfl, hrow, hb2, hnil⟩
      clear hrow hnil
      have HB := Lib.hid (below_then hb1 hb2)
      clear hb1 hb2
      go_wp2_with fail
      go_ret
      exact ⟨ret_int HR.out.symm, HB.out⟩
  | some x =>
    rw [h] at hR
    have H := Lib.hid h
    have lx1 := (readL_some h).1.1
    have lx2 := (readL_some h).1.2.1
    clear h
    cases h2 : readL b.data.toList with
    | none =>
      rw [h2] at hR
      have H2 := Lib.hid h2
      have HR : Hid (R = -1) := Lib.hid hR
      clear h2 hR
      go_enter Tryz.func33, Tryz.ntmps33
      go_wp2_with fail
      refine (read_any a _ ha hw).mono ?_
      rw [H.out]
      rintro e w1 ⟨v, rfl, hrow, hb1, hnil⟩
      clear hrow hnil
      go_wp2_with fail
      refine (read_any b _ hbs (hw.below hb1)).mono ?_
      rw [H2.out]
      rintro e w2 ⟨v2, rfl, hrow, hb2, hnil⟩
      clear hrow hnil
      have HB := Lib.hid (below_then hb1 hb2)
      clear hb1 hb2
      go_wp2_with fail
      go_ret
      exact ⟨ret_int HR.out.symm, HB.out⟩
    | some y =>
      rw [h2] at hR
      have H2 := Lib.hid h2
      have ly1 := (readL_some h2).1.1
      have ly2 := (readL_some h2).1.2.1
      have HR : Hid (cmpL x y = R) := Lib.hid hR.symm
      clear h2 hR
      go_enter Tryz.func33, Tryz.ntmps33
      go_wp2_with fail
      refine (read_any a _ ha hw).mono ?_
      rw [H.out]
      rintro e w1 ⟨v, rfl, hrow, hb1, hnil⟩
      have hr1 : w1.ownsRow w.heap.size 3 1 v x.length (ic x) := hrow
      clear hrow hnil
      go_wp2_with fail
      refine (read_any b _ hbs (hw.below hb1)).mono ?_
      rw [H2.out]
      rintro e w2 ⟨v2, rfl, hrow, hb2, hnil⟩
      have hr2 : w2.ownsRow w1.heap.size 3 1 v2 y.length (ic y) := hrow
      have hr3 := ownsRow_below hr1 hb2
      clear hrow hnil hr1
      obtain ⟨g, cap, rfl, k1, k2, hc1⟩ := ownsRow_ints hr3 lx1
      obtain ⟨g2, cap2, rfl, k3, k4, hc2⟩ := ownsRow_ints hr2 ly1
      have HC1 := Lib.hid hc1
      have HC2 := Lib.hid hc2
      have HB := Lib.hid (below_then hb1 hb2)
      clear hr2 hr3 hc1 hc2 hb1 hb2
      go_wp2_with fail
      refine (compare_any g 0 cap g2 0 cap2 x y _ (by omega) (by omega) HC1.out HC2.out).mono ?_
      rw [HR.out]
      rintro e _ ⟨rfl, rfl⟩
      go_wp2_with fail
      go_ret
      exact ⟨rfl, HB.out⟩
end Go.Proofs.YtlkgcidhhngfeaaGreatDoor
