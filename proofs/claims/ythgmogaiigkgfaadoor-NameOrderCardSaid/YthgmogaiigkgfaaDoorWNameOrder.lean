/- Order is one: of three texts it goes on, either way it is turned, at one place just the same; what is under a name stands behind it, and ahead of all that is behind it, and not under it. The walk: the law answers true; no memory that was there is turned. Conditions: the integers are of their kinds, a string has at most 140737488351232 bytes, the listed package variables hold what the program's text lays. -/
import Derived.Test.YthgmogaiigkgfaaDoorNameLawMade
import Derived.Test.YthgmogaiigkgfaaDoorWNameUnder
namespace Go.Proofs.YthgmogaiigkgfaaDoor
open Go.RowKit
def neS (a b : ByteArray) : Prop := (a.toList == b.toList) = false ∧ (a.data.toList == b.data.toList) = false
theorem neS_mk {a b : ByteArray} (h : a ≠ b) : neS a b := by
  have k : a.data.toList ≠ b.data.toList := fun e => h (ByteArray.ext (Array.toList_inj.1 e))
  exact ⟨by rw [ByteArray.toList_eq, ByteArray.toList_eq]; exact beq_eq_false_iff_ne.2 k, beq_eq_false_iff_ne.2 k⟩
set_option maxHeartbeats 8000000 in
theorem norder_core (a b c : ByteArray) (vl : Value) (l : List UInt8) (vm : Value) (m : List UInt8) (w : World) (il : BytesAt w vl l) (im : BytesAt w vm m) (hw : Laid w) (x y : ByteArray) (z : List UInt8)
    (ha : a.size ≤ 140737488351232) (hb : b.size ≤ 140737488351232) (hc : c.size ≤ 140737488351232) (hx : x.size ≤ 140737488351232) (hy : y.size ≤ 140737488351232) (hz : (⟨z.toArray⟩ : ByteArray).size ≤ 140737488351232)
    (ML : Hid (∀ W, BytesAt W vl l → Laid W → Calls Tryd.prog 22 #[vl, .int .i64 4] W fun e w' => e = .returned (.string x) ∧ Below W.heap.size W w')) (MM : Hid (∀ W, BytesAt W vm m → Laid W → Calls Tryd.prog 22 #[vm, .int .i64 6] W fun e w' => e = .returned (.string y) ∧ Below W.heap.size W w'))
    (o1 o1' o2 o3 o4 o5 : Int) (u : Bool)
    (F1 : Hid (orderS a.data.toList b.data.toList = o1)) (F2 : Hid (orderS b.data.toList a.data.toList = o1')) (F3 : Hid (orderS b.data.toList c.data.toList = o2)) (F4 : Hid (orderS a.data.toList c.data.toList = o3))
    (F5 : Hid (orderS x.data.toList y.data.toList = o4)) (F6 : Hid (orderS (⟨z.toArray⟩ : ByteArray).data.toList y.data.toList = o5)) (F7 : Hid (underS x.data.toList y.data.toList = u)) (CH : Hid (childS x.data.toList 998 = some z))
    (P : (o1 = 0 ∧ o1' = 0 ∧ a = b) ∨ (o1 = 1 ∧ o1' = -1 ∧ neS a b) ∨ (o1 = -1 ∧ o1' = 1 ∧ neS a b ∧ o2 = 0) ∨ (o1 = -1 ∧ o1' = 1 ∧ neS a b ∧ o2 = 1) ∨ (o1 = -1 ∧ o1' = 1 ∧ neS a b ∧ o2 = -1 ∧ o3 = -1))
    (Q : (u = true ∧ x = y ∧ o4 = 0) ∨ (u = true ∧ neS x y ∧ o4 = -1) ∨ (u = false ∧ (o4 = 1 ∨ o4 = 0)) ∨ (u = false ∧ o4 = -1 ∧ o5 = -1)) :
    Calls Tryd.prog 8 #[.string a, .string b, .string c, vl, vm] w fun e w' => e = .returned (.bool true) ∧ Below w.heap.size w w' := by
  rcases P with ⟨rfl, rfl, rfl⟩ | ⟨rfl, rfl, n1, n2⟩ | ⟨rfl, rfl, ⟨n1, n2⟩, rfl⟩ | ⟨rfl, rfl, ⟨n1, n2⟩, rfl⟩ | ⟨rfl, rfl, ⟨n1, n2⟩, rfl, rfl⟩
  all_goals rcases Q with ⟨rfl, rfl, rfl⟩ | ⟨rfl, ⟨k1, k2⟩, rfl⟩ | ⟨rfl, rfl | rfl⟩ | ⟨rfl, rfl, rfl⟩
  all_goals
    go_enter Tryd.func8, Tryd.ntmps8
    go_wp2_with fail
    refine (nexamples_any _ hw).mono ?_
    rintro e w1 ⟨rfl, hB⟩
    replace hw := hw.below hB
    replace il := il.below hB
    replace im := im.below hB
    repeat (go_wp2_with fail; (first | with_reducible refine (order_any _ _ _ (by assumption) (by assumption) hw).mono ?_ | with_reducible refine (under_any _ _ _ (by assumption) (by assumption) hw).mono ?_ | with_reducible refine (ML.out _ il hw).mono ?_ | with_reducible refine (MM.out _ im hw).mono ?_ | with_reducible refine (child_t CH.out _ (by assumption) hw).mono ?_); (first | rw [F1.out] | rw [F2.out] | rw [F3.out] | rw [F4.out] | rw [F5.out] | rw [F6.out] | rw [F7.out] | skip); rintro e w9 ⟨rfl, hb9⟩; replace hw := hw.below hb9; replace il := il.below hb9; replace im := im.below hb9; replace hB := below_then hB hb9; clear hb9)
    go_wp2_with fail
    go_ret
    exact ⟨rfl, hB⟩
theorem nameOrder_walk (a b c : ByteArray) (vl : Value) (l : List UInt8) (vm : Value) (m : List UInt8) (ha : a.size ≤ 140737488351232) (hb : b.size ≤ 140737488351232) (hc : c.size ≤ 140737488351232) (w : World) (il : BytesAt w vl l) (im : BytesAt w vm m) (hw : Laid w) :
    Calls Tryd.prog 8 #[.string a, .string b, .string c, vl, vm] w fun e w' => e = .returned (.bool true) ∧ Below w.heap.size w w' := by
  have fl := mkN_fits l 4 (by omega)
  have fm := mkN_fits m 6 (by omega)
  have fz : Fits (mkN l 4 ++ [998]) := by
    obtain ⟨h1, h2, h3⟩ := mkN_fits l 4 (by omega)
    refine ⟨by simp, ?_, ?_⟩
    · have := nsL_len l 4
      simp [mkN]
      omega
    · intro n hn
      rcases List.mem_append.1 hn with hn | hn
      · exact h3 n hn
      · simp at hn; omega
  have hch : childS (⟨(joinL (mkN l 4)).toArray⟩ : ByteArray).data.toList 998 = some (joinL (mkN l 4 ++ [998])) := by
    unfold childS
    rw [readL_mk fl]
    exact if_pos fz
  refine norder_core a b c vl l vm m w il im hw _ _ _ ha hb hc (joinL_le fl) (joinL_le fm) (joinL_le fz) (Lib.hid fun W h k => lmade_any vl l 4 (by omega) (by omega) W h k) (Lib.hid fun W h k => lmade_any vm m 6 (by omega) (by omega) W h k)
    _ _ _ _ _ _ _ (Lib.hid rfl) (Lib.hid rfl) (Lib.hid rfl) (Lib.hid rfl) (Lib.hid rfl) (Lib.hid rfl) (Lib.hid rfl) (Lib.hid hch) ?_ ?_
  · rw [orderS_swap a.data.toList b.data.toList]
    have hne : orderS a.data.toList b.data.toList ≠ 0 → neS a b := fun h => neS_mk fun e => h (orderS_zero.2 (by rw [e]))
    rcases orderS_range a.data.toList b.data.toList with h | h | h
    · have hn := hne (by rw [h]; decide)
      rcases orderS_range b.data.toList c.data.toList with k | k | k
      · have h3 := orderS_trans (a := a.data.toList) (b := b.data.toList) (c := c.data.toList) (by rw [h]; decide) (by rw [k]; decide)
        refine Or.inr (Or.inr (Or.inr (Or.inr ⟨h, by rw [h]; rfl, hn, k, ?_⟩)))
        rcases orderS_range a.data.toList c.data.toList with r | r | r <;> omega
      · exact Or.inr (Or.inr (Or.inl ⟨h, by rw [h]; rfl, hn, k⟩))
      · exact Or.inr (Or.inr (Or.inr (Or.inl ⟨h, by rw [h]; rfl, hn, k⟩)))
    · have e := orderS_zero.1 h
      exact Or.inl ⟨h, by rw [h]; rfl, ByteArray.ext (Array.toList_inj.1 e)⟩
    · exact Or.inr (Or.inl ⟨h, by rw [h], hne (by rw [h]; decide)⟩)
  · rw [orderS_mk fl fm, orderS_mk fz fm]
    cases hu : underS (⟨(joinL (mkN l 4)).toArray⟩ : ByteArray).data.toList (⟨(joinL (mkN m 6)).toArray⟩ : ByteArray).data.toList with
    | true =>
      have hp := (underS_mk fl fm).1 hu
      by_cases he : mkN l 4 = mkN m 6
      · rw [he]
        exact Or.inl ⟨rfl, rfl, cmpL_refl _⟩
      · refine Or.inr (Or.inl ⟨rfl, neS_mk fun e => he (mk_inj fl fm e), ?_⟩)
        have := cmpL_prefix hp he
        rcases cmpL_range (mkN l 4) (mkN m 6) with r | r | r <;> omega
    | false =>
      have hp : ¬ mkN l 4 <+: mkN m 6 := fun h => by rw [(underS_mk fl fm).2 h] at hu; cases hu
      rcases cmpL_range (mkN l 4) (mkN m 6) with r | r | r
      · refine Or.inr (Or.inr (Or.inr ⟨rfl, r, ?_⟩))
        have := cmpL_behind (x := mkN l 4) (y := mkN m 6) [998] (by omega) hp
        rcases cmpL_range (mkN l 4 ++ [998]) (mkN m 6) with r | r | r <;> omega
      · exact Or.inr (Or.inr (Or.inl ⟨rfl, Or.inr r⟩))
      · exact Or.inr (Or.inr (Or.inl ⟨rfl, Or.inl r⟩))
end Go.Proofs.YthgmogaiigkgfaaDoor
