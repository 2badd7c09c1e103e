/- The reference's package of chapter 6: Order. -/
import Derived.Test.YthgmogaiigkgfaaDoorRef6c
namespace Go.Proofs.YthgmogaiigkgfaaDoor
open Go.RowKit
def Order6 (w : World) (o : Int) (e : Ending) (w' : World) : Prop := ∃ r : Int, e = .returned (.int .i64 r) ∧ (r < 0 ↔ o < 0) ∧ (0 < r ↔ 0 < o) ∧ -100 ≤ r ∧ r ≤ 100 ∧ Below w.heap.size w w'
theorem Order6.mk {w w' : World} {o r : Int} (h1 : r < 0 ↔ o < 0) (h2 : 0 < r ↔ 0 < o) (h3 : -100 ≤ r) (h4 : r ≤ 100) (hb : Below w.heap.size w w') : Order6 w o (.returned (.int .i64 r)) w' := ⟨r, rfl, h1, h2, h3, h4, hb⟩
theorem bytesLess_eq : ∀ l m : List UInt8, Op.bytesLess l m = true ↔ Lib.compareBytes l m < 0
  | [], [] => by simp [Op.bytesLess, Lib.compareBytes]
  | [], _ :: _ => by simp [Op.bytesLess, Lib.compareBytes]
  | _ :: _, [] => by simp [Op.bytesLess, Lib.compareBytes]
  | a :: l, b :: m => by
    unfold Op.bytesLess Lib.compareBytes
    have ih := bytesLess_eq l m
    by_cases h1 : a < b
    · simp [h1]
    · by_cases h2 : b < a
      · have h3 : ¬ a = b := by rintro rfl; exact h1 h2
        simp [h1, h2, h3]
      · have h3 : a = b := by
          apply UInt8.toNat_inj.1
          simp only [UInt8.lt_iff_toNat_lt] at h1 h2
          omega
        subst h3
        simp [ih]
theorem orderS_none {a b : List UInt8} (h : readL a = none) (k : readL b = none) : orderS a b = Lib.compareBytes a b := by unfold orderS; rw [h, k]
set_option maxHeartbeats 2000000 in
theorem order6_nn (a b : ByteArray) (w : World) (ha : a.size ≤ 1048576) (hb : b.size ≤ 1048576) (hw : Laid w) (h : readL a.data.toList = none) (h2 : readL b.data.toList = none) :
    Calls Tryd.prog 17 #[.string a, .string b] w (Order6 w (orderS a.data.toList b.data.toList)) := by
  have H := Lib.hid h
  have H2 := Lib.hid h2
  clear h h2
  go_enter Tryd.func17, Tryd.ntmps17
  have hB0 := Below.refl w.heap.size w
  have M0 := Mem.nil w
  go_wp2_with fail
  refine Calls.named ?_
  intro W1 hW1
  have hB1_ : Below w.heap.size w W1 := by rw [hW1]; exact hB0
  have hw1_ : Laid W1 := by rw [hW1]; exact hw
  have M1_ := Mem.nil W1
  clear hW1
  refine (parts6_f H.out _ ha hw1_).mono ?_
  rintro e w1 ⟨rfl, hb1⟩
  have hB1 := below_then hB1_ hb1
  have hw1 := hw1_.below hb1
  have M1 := M1_.below hb1
  clear M1_ hB1_ hb1 hw1_
  go_wp2_with fail
  refine Calls.named ?_
  intro W2 hW2
  have hB2_ : Below w.heap.size w W2 := by rw [hW2]; exact hB1
  have hw2_ : Laid W2 := by rw [hW2]; exact hw1
  have M2_ := Mem.nil W2
  clear hW2
  refine (parts6_f H2.out _ hb hw2_).mono ?_
  rintro e w2 ⟨rfl, hb2⟩
  have hB2 := below_then hB2_ hb2
  have hw2 := hw2_.below hb2
  have M2 := M2_.below hb2
  clear M2_ hB2_ hb2 hw2_
  have hl := bytesLess_eq a.data.toList b.data.toList
  have hz := orderS_none H.out H2.out
  rw [← ByteArray.toList_eq, ← ByteArray.toList_eq] at hl hz
  have HL := Lib.hid hl
  have HZ := Lib.hid hz
  clear hl hz
  cases hlt : Op.bytesLess a.toList b.toList with
  | true =>
    have HE : Hid (Order6 w (orderS a.data.toList b.data.toList) (.returned (.int .i64 (-1))) w2) := Lib.hid (by
      refine Order6.mk ?_ ?_ (by omega) (by omega) hB2
      all_goals
        rw [← ByteArray.toList_eq, ← ByteArray.toList_eq, HZ.out]
        have := HL.out.1 hlt
        omega)
    go_wp2_with fail
    go_ret
    exact HE.out
  | false =>
    have hge : ¬ Lib.compareBytes a.toList b.toList < 0 := fun h => by rw [HL.out.2 h] at hlt; cases hlt
    by_cases he : a.toList = b.toList
    · have HE : Hid (Order6 w (orderS a.data.toList b.data.toList) (.returned (.int .i64 0)) w2) := Lib.hid (by
        refine Order6.mk ?_ ?_ (by omega) (by omega) hB2
        all_goals
          rw [← ByteArray.toList_eq, ← ByteArray.toList_eq, HZ.out, he, compareBytes_eq, cmpL_refl])
      have e1 : (!a.toList == b.toList) = false := by rw [he]; simp
      clear hge he
      go_wp2_with fail
      go_ret
      exact HE.out
    · have hne : Lib.compareBytes a.toList b.toList ≠ 0 := fun h => he (by rw [compareBytes_eq] at h; exact nums_inj (cmpL_eq h))
      have HE : Hid (Order6 w (orderS a.data.toList b.data.toList) (.returned (.int .i64 1)) w2) := Lib.hid (by
        refine Order6.mk ?_ ?_ (by omega) (by omega) hB2
        all_goals
          rw [← ByteArray.toList_eq, ← ByteArray.toList_eq, HZ.out]
          omega)
      have e1 : (!a.toList == b.toList) = true := by simp [he]
      clear hge he hne
      go_wp2_with fail
      go_ret
      exact HE.out
set_option maxHeartbeats 2000000 in
theorem order6_ns (a b : ByteArray) (w : World) (ha : a.size ≤ 1048576) (hb : b.size ≤ 1048576) (hw : Laid w) (h : readL a.data.toList = none) (y : List Int) (h2 : readL b.data.toList = some y) :
    Calls Tryd.prog 17 #[.string a, .string b] w (Order6 w (orderS a.data.toList b.data.toList)) := by
  have H := Lib.hid h
  have H2 := Lib.hid h2
  have ly1 := (readL_some h2).1.1
  have ly2 := (readL_some h2).1.2.1
  have ey : ((y.length : Int) == 0) = false := by rw [beq_eq_false_iff_ne]; omega
  have ho : orderS a.data.toList b.data.toList = 1 := by unfold orderS; rw [h, h2]
  rw [ho]
  clear h h2 ho
  go_enter Tryd.func17, Tryd.ntmps17
  have hB0 := Below.refl w.heap.size w
  have M0 := Mem.nil w
  go_wp2_with fail
  refine Calls.named ?_
  intro W1 hW1
  have hB1_ : Below w.heap.size w W1 := by rw [hW1]; exact hB0
  have hw1_ : Laid W1 := by rw [hW1]; exact hw
  have M1_ := Mem.nil W1
  clear hW1
  refine (parts6_f H.out _ ha hw1_).mono ?_
  rintro e w1 ⟨rfl, hb1⟩
  have hB1 := below_then hB1_ hb1
  have hw1 := hw1_.below hb1
  have M1 := M1_.below hb1
  clear M1_ hB1_ hb1 hw1_
  go_wp2_with fail
  refine Calls.named ?_
  intro W2 hW2
  have hB2_ : Below w.heap.size w W2 := by rw [hW2]; exact hB1
  have hw2_ : Laid W2 := by rw [hW2]; exact hw1
  have M2_ := Mem.nil W2
  clear hW2
  refine (parts6_t H2.out _ hb hw2_).mono ?_
  rintro e w2 ⟨g, cp, rfl, hb2, hrow⟩
  have hB2 := below_then hB2_ hb2
  have hw2 := hw2_.below hb2
  have M2 := M2_.below hb2
  clear M2_ hB2_ hb2 hw2_
  clear hrow
  have HE := Lib.hid (Order6.mk (w := w) (w' := w2) (o := 1) (r := 1) (by omega) (by omega) (by omega) (by omega) hB2)
  go_wp2_with fail
  go_ret
  exact HE.out
set_option maxHeartbeats 2000000 in
theorem order6_sn (a b : ByteArray) (w : World) (ha : a.size ≤ 1048576) (hb : b.size ≤ 1048576) (hw : Laid w) (x : List Int) (h : readL a.data.toList = some x) (h2 : readL b.data.toList = none) :
    Calls Tryd.prog 17 #[.string a, .string b] w (Order6 w (orderS a.data.toList b.data.toList)) := by
  have H := Lib.hid h
  have H2 := Lib.hid h2
  have lx1 := (readL_some h).1.1
  have lx2 := (readL_some h).1.2.1
  have ex : ((x.length : Int) == 0) = false := by rw [beq_eq_false_iff_ne]; omega
  have ho : orderS a.data.toList b.data.toList = -1 := by unfold orderS; rw [h, h2]
  rw [ho]
  clear h h2 ho
  go_enter Tryd.func17, Tryd.ntmps17
  have hB0 := Below.refl w.heap.size w
  have M0 := Mem.nil w
  go_wp2_with fail
  refine Calls.named ?_
  intro W1 hW1
  have hB1_ : Below w.heap.size w W1 := by rw [hW1]; exact hB0
  have hw1_ : Laid W1 := by rw [hW1]; exact hw
  have M1_ := Mem.nil W1
  clear hW1
  refine (parts6_t H.out _ ha hw1_).mono ?_
  rintro e w1 ⟨g, cp, rfl, hb1, hrow⟩
  have hB1 := below_then hB1_ hb1
  have hw1 := hw1_.below hb1
  have M1 := M1_.below hb1
  clear M1_ hB1_ hb1 hw1_
  clear hrow
  go_wp2_with fail
  refine Calls.named ?_
  intro W2 hW2
  have hB2_ : Below w.heap.size w W2 := by rw [hW2]; exact hB1
  have hw2_ : Laid W2 := by rw [hW2]; exact hw1
  have M2_ := Mem.nil W2
  clear hW2
  refine (parts6_f H2.out _ hb hw2_).mono ?_
  rintro e w2 ⟨rfl, hb2⟩
  have hB2 := below_then hB2_ hb2
  have hw2 := hw2_.below hb2
  have M2 := M2_.below hb2
  clear M2_ hB2_ hb2 hw2_
  have HE := Lib.hid (Order6.mk (w := w) (w' := w2) (o := -1) (r := -1) (by omega) (by omega) (by omega) (by omega) hB2)
  go_wp2_with fail
  go_ret
  exact HE.out
theorem cmpL_ends : ∀ {x y : List Int}, cmpL x y = 0 ∨ ¬ (x = [] ∨ y = []) ∨ (cmpL x y < 0 ↔ x.length < y.length) ∧ (0 < cmpL x y ↔ y.length < x.length)
  | [], [] => Or.inl rfl
  | [], _ :: _ => Or.inr (Or.inr (by simp [cmpL]))
  | _ :: _, [] => Or.inr (Or.inr (by simp [cmpL]))
  | _ :: _, _ :: _ => Or.inr (Or.inl (by simp))
theorem cmp_end {x y : List Int} {k : Nat} (hk : k ≤ x.length) (hk2 : k ≤ y.length) (he : k = x.length ∨ k = y.length) (r : Int) (hr : r = (x.length : Int) - y.length) : (r < 0 ↔ cmpL (x.drop k) (y.drop k) < 0) ∧ (0 < r ↔ 0 < cmpL (x.drop k) (y.drop k)) := by
  have hx : (x.drop k).length = x.length - k := by simp
  have hy : (y.drop k).length = y.length - k := by simp
  rcases cmpL_ends (x := x.drop k) (y := y.drop k) with h | h | ⟨h1, h2⟩
  · have := congrArg List.length (cmpL_eq h)
    rw [hx, hy] at this
    rw [h]
    omega
  · exfalso
    apply h
    rcases he with he | he
    · exact Or.inl (List.drop_of_length_le (by omega))
    · exact Or.inr (List.drop_of_length_le (by omega))
  · rw [h1, h2, hx, hy]
    omega
set_option maxHeartbeats 4000000 in
theorem order6_ss (a b : ByteArray) (w : World) (ha : a.size ≤ 1048576) (hb : b.size ≤ 1048576) (hw : Laid w) (x : List Int) (h : readL a.data.toList = some x) (y : List Int) (h2 : readL b.data.toList = some y) :
    Calls Tryd.prog 17 #[.string a, .string b] w (Order6 w (orderS a.data.toList b.data.toList)) := by
  have H := Lib.hid h
  have H2 := Lib.hid h2
  have lx1 := (readL_some h).1.1
  have lx2 := (readL_some h).1.2.1
  have ly1 := (readL_some h2).1.1
  have ly2 := (readL_some h2).1.2.1
  have ex : ((x.length : Int) == 0) = false := by rw [beq_eq_false_iff_ne]; omega
  have ey : ((y.length : Int) == 0) = false := by rw [beq_eq_false_iff_ne]; omega
  have ho : orderS a.data.toList b.data.toList = cmpL x y := by unfold orderS; rw [h, h2]
  rw [ho]
  obtain ⟨R, hR⟩ : ∃ R, R = cmpL x y := ⟨_, rfl⟩
  rw [← hR]
  have HR : Hid (R = cmpL (x.drop 0) (y.drop 0)) := Lib.hid (by simpa using hR)
  clear h h2 ho hR
  go_enter Tryd.func17, Tryd.ntmps17
  have hB0 := Below.refl w.heap.size w
  have M0 := Mem.nil w
  go_wp2_with fail
  refine Calls.named ?_
  intro W1 hW1
  have hB1_ : Below w.heap.size w W1 := by rw [hW1]; exact hB0
  have hw1_ : Laid W1 := by rw [hW1]; exact hw
  have M1_ := Mem.nil W1
  clear hW1
  refine (parts6_t H.out _ ha hw1_).mono ?_
  rintro e w1 ⟨g, cp, rfl, hb1, hrow⟩
  have hB1 := below_then hB1_ hb1
  have hw1 := hw1_.below hb1
  have M1 := M1_.below hb1
  clear M1_ hB1_ hb1 hw1_
  go_wp2_with fail
  refine Calls.named ?_
  intro W2 hW2
  have hB2_ : Below w.heap.size w W2 := by rw [hW2]; exact hB1
  have hw2_ : Laid W2 := by rw [hW2]; exact hw1
  have M2_ := Mem.nil W2
  have hS2 : Below w1.heap.size w1 W2 := by rw [hW2]; exact (Below.refl _ _)
  have hrow_ := ownsRow_below hrow hS2
  clear hS2 hrow
  clear hW2
  refine (parts6_t H2.out _ hb hw2_).mono ?_
  rintro e w2 ⟨g2, cp2, rfl, hb2, hrow2⟩
  have hrow := ownsRow_below hrow_ hb2
  clear hrow_
  have hB2 := below_then hB2_ hb2
  have hw2 := hw2_.below hb2
  have M2 := M2_.below hb2
  clear M2_ hB2_ hb2 hw2_
  clear hB1 hw1 M1 M0 hB0
  have i1 := IntsAt.of_row hrow
  have i2 := IntsAt.of_row hrow2
  clear hrow hrow2
  go_wp2_with fail
  go_loopw [7] (fun i W => ∃ k : Nat, k ≤ x.length ∧ k ≤ y.length ∧ i = .int .i64 k ∧ Below w.heap.size w W ∧ IntsAt W (.slice (some ⟨g, 0, none⟩) x.length cp) x ∧ IntsAt W (.slice (some ⟨g2, 0, none⟩) y.length cp2) y ∧ Hid (R = cmpL (x.drop k) (y.drop k))) (fun i _ => x.length - (intOf i).toNat)
  case atStart => exact ⟨0, by omega, by omega, rfl, hB2, i1, i2, HR⟩
  case round =>
    obtain ⟨k, hk, hk2, rfl, hbl, j1, j2, hr⟩ := hrel
    refine wp_named ?_
    intro W hW
    subst hW
    clear i1 i2 hB2 HR
    by_cases hgo : k < x.length ∧ k < y.length
    · obtain ⟨hlt, hlt2⟩ := hgo
      have hltI : (k : Int) < x.length := by omega
      have hltJ : (k : Int) < y.length := by omega
      have k0 : (0 : Int) ≤ k := by omega
      obtain ⟨b1, o1, hv1, cw⟩ : ∃ b off, (some ⟨g, 0, none⟩ : Option Addr) = some ⟨b, off, none⟩ ∧ W.cell? ⟨b, off + k, none⟩ = some (.int .i64 (x.getD k 0)) := by
        rcases j1 with ⟨_, _, _, h0⟩ | ⟨b, off, cap', hv, h1, h2, hc⟩
        · subst h0; simp at hlt
        · simp only [Value.slice.injEq] at hv
          exact ⟨b, off, hv.1, hc k hlt⟩
      obtain ⟨b2, o2, hv2, dw⟩ : ∃ b off, (some ⟨g2, 0, none⟩ : Option Addr) = some ⟨b, off, none⟩ ∧ W.cell? ⟨b, off + k, none⟩ = some (.int .i64 (y.getD k 0)) := by
        rcases j2 with ⟨_, _, _, h0⟩ | ⟨b, off, cap', hv, h1, h2, hc⟩
        · subst h0; simp at ly1
        · simp only [Value.slice.injEq] at hv
          exact ⟨b, off, hv.1, hc k hlt2⟩
      simp only [Option.some.injEq, Addr.mk.injEq, and_true] at hv1 hv2
      obtain ⟨rfl, rfl⟩ := hv1
      obtain ⟨rfl, rfl⟩ := hv2
      rw [Nat.zero_add] at cw dw
      have hst := cmpL_drop hlt hlt2
      obtain ⟨m, hm⟩ : ∃ m, m = x.getD k 0 := ⟨_, rfl⟩
      obtain ⟨n, hn⟩ : ∃ n, n = y.getD k 0 := ⟨_, rfl⟩
      rw [← hm] at cw hst
      rw [← hn] at dw hst
      rw [← hr.out] at hst
      have cw2 : ∀ q, (W.drewN q).cell? ⟨g, k, none⟩ = some (.int .i64 m) := fun _ => cw
      have dw2 : ∀ q, (W.drewN q).cell? ⟨g2, k, none⟩ = some (.int .i64 n) := fun _ => dw
      clear hm hn
      by_cases e1 : m < n
      · rw [if_pos e1] at hst
        subst hst
        have HE : Hid (∀ q, Order6 w (-1) (.returned (.int .i64 (-1))) (W.drewN q)) := Lib.hid (fun q => Order6.mk (by omega) (by omega) (by omega) (by omega) (below_then hbl (below_dn _ _)))
        clear hr hbl
        go_wp2_with fail
        go_quiet (fail)
        go_wp2_with fail
        go_ret
        exact HE.out _
      · rw [if_neg e1] at hst
        have e1' : n ≤ m := by omega
        clear e1
        by_cases e2 : n < m
        · rw [if_pos e2] at hst
          subst hst
          have HE : Hid (∀ q q', Order6 w 1 (.returned (.int .i64 1)) ((W.drewN q).drewN q')) := Lib.hid (fun q q' => Order6.mk (by omega) (by omega) (by omega) (by omega) (below_then (below_then hbl (below_dn _ _)) (below_dn _ _)))
          clear hr hbl
          go_wp2_with fail
          go_quiet (fail)
          go_wp2_with fail
          go_quiet (fail)
          go_wp2_with fail
          go_ret
          exact HE.out _ _
        · rw [if_neg e2] at hst
          have HS := Lib.hid hst
          have e2' : m ≤ n := by omega
          clear hst e2 hr
          go_wp2_with fail
          go_quiet (fail)
          go_wp2_with fail
          go_quiet (fail)
          go_wp2_with fail
          go_roundw
          case rel => exact ⟨k + 1, by omega, by omega, by go_num, below_then hbl (below_dn _ _), j1.below (below_dn _ _), j2.below (below_dn _ _), HS⟩
          case measure => simp [intOf]; omega
    · have hend : (x.length : Int) ≤ k ∨ ((k : Int) < x.length ∧ (y.length : Int) ≤ k) := by omega
      have hce := cmp_end hk hk2 (by omega) _ rfl
      rw [← hr.out] at hce
      have HE : Hid (Order6 w R (.returned (.int .i64 ((x.length : Int) - y.length))) W) := Lib.hid (Order6.mk hce.1 hce.2 (by omega) (by omega) hbl)
      clear hce hr hbl hgo
      rcases hend with hend | ⟨hend, hend2⟩
      all_goals
        go_wp2_with fail
        go_ret
        exact HE.out
theorem order6_any (a b : ByteArray) (w : World) (ha : a.size ≤ 1048576) (hb : b.size ≤ 1048576) (hw : Laid w) :
    Calls Tryd.prog 17 #[.string a, .string b] w (Order6 w (orderS a.data.toList b.data.toList)) := by
  cases h : readL a.data.toList with
  | none =>
    cases h2 : readL b.data.toList with
    | none => exact order6_nn a b w ha hb hw h h2
    | some y => exact order6_ns a b w ha hb hw h y h2
  | some x =>
    cases h2 : readL b.data.toList with
    | none => exact order6_sn a b w ha hb hw x h h2
    | some y => exact order6_ss a b w ha hb hw x h y h2
end Go.Proofs.YthgmogaiigkgfaaDoor
