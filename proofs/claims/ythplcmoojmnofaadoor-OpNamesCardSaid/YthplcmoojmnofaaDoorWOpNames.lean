/- Names of codes. The walk: the law answers true; no memory that was there is turned. Conditions: the integers are of their kinds, the listed package variables hold what the program's text lays. -/
import Derived.Test.YthplcmoojmnofaaDoorOpLaws
namespace Go.Proofs.YthplcmoojmnofaaDoor
open Go.RowKit
set_option maxHeartbeats 1000000 in
theorem opNames_core (a b : Int) (w : World) (hw : LaidOp w) (nm nk : ByteArray) (x p q x' p' q' : Int) (l l' ok is : Bool)
    (HA : ∀ w, LaidOp w → Calls Tryd.prog 14 #[.int .i64 a] w fun e w' => e = .returned (.tuple #[.agg #[.string nm, .int .i64 x, .int .i64 p, .int .i64 q, .bool l], .bool ok]) ∧ Below w.heap.size w w')
    (HB : ∀ w, LaidOp w → Calls Tryd.prog 14 #[.int .i64 b] w fun e w' => e = .returned (.tuple #[.agg #[.string nk, .int .i64 x', .int .i64 p', .int .i64 q', .bool l'], .bool is]) ∧ Below w.heap.size w w')
    (hn : Hid (∀ j (h : j < nm.size), 97 ≤ nm[j].toNat ∧ nm[j].toNat ≤ 122)) (hs : nm.size ≤ 5)
    (hq : ok = true → is = true → (nm.toList == nk.toList) = (a == b)) (he : (nm.toList == []) = !ok)
    (h1 : 0 ≤ p ∧ p ≤ 4) (h2 : 0 ≤ q ∧ q ≤ 2) (h3 : l = true → q = 0) :
    Calls Tryd.prog 6 #[.int .i64 a, .int .i64 b] w fun e w' => e = .returned (.bool true) ∧ Below w.heap.size w w' := by
  obtain ⟨p1, p2⟩ := h1
  obtain ⟨q1, q2⟩ := h2
  cases ok
  all_goals cases is
  all_goals cases l
  all_goals simp only [Bool.not_true, Bool.not_false, true_implies, Bool.false_eq_true, false_implies] at hq he h3
  all_goals
    go_enter Tryd.func6, Tryd.ntmps6
    go_wp2_with fail
    refine (oexamples_any _ hw).mono ?_
    rintro e w1 ⟨rfl, hb1⟩
    have hw1 := hw.below hb1
    go_wp2_with fail
    refine (HA _ hw1).mono ?_
    rintro e w2 ⟨rfl, hb2⟩
    have hw2 := (hw1.below hb2)
    go_wp2_with fail
    refine (HB _ (hw2.alloc _)).mono ?_
    rintro e w3 ⟨rfl, hb3⟩
    have I3 := (Info5.new w2 _ _ _ _ _ _).below hb3
    have i0 := fun o => (I3.al o).c0
    have i1 := fun o => (I3.al o).c1
    have i2 := fun o => (I3.al o).c2
    have i3 := fun o => (I3.al o).c3
    have i4 := fun o => (I3.al o).c4
    have k3 := hb3.size
    simp at k3
    go_wp2_with fail
    go_loop [10] (fun i => ∃ k : Nat, k ≤ nm.size ∧ i = .int .i64 k) (fun i => nm.size - (intOf i).toNat)
    case atStart => exact ⟨0, Nat.zero_le _, rfl⟩
    case round =>
      obtain ⟨k, hk, rfl⟩ := hrel
      by_cases hlt : k < nm.size
      · obtain ⟨c1, c2⟩ := hn.out k hlt
        obtain ⟨c, hc⟩ : ∃ c, nm[k].toNat = c := ⟨_, rfl⟩
        rw [hc] at c1 c2
        have hltI : (k : Int) < (nm.size : Int) := by omega
        go_wp2_with fail
        go_round
        case rel => exact ⟨k + 1, by omega, by go_num⟩
        case measure => simp [intOf]; omega
      · have hge : (nm.size : Int) ≤ k := by omega
        subst_vars
        go_wp2_with fail
        go_ret
        exact ⟨rfl, below_two hb1 (below_two hb2 (below_alloc_then (hb3.alloc hb3.size _)))⟩
theorem aName_no {c : Int} (h : aOk c = false) : aName c = [] := by unfold aName; rw [aRow_no h]
theorem name_small (c : Int) : (∀ x ∈ aName c, 97 ≤ x.toNat ∧ x.toNat ≤ 122) ∧ (aName c).length ≤ 5 ∧ 0 ≤ aPop c ∧ aPop c ≤ 4 ∧ 0 ≤ aPush c ∧ aPush c ≤ 2 ∧ ((aLast c && aOk c) = true → aPush c = 0) := by
  cases h : aOk c with
  | false =>
    have hr := aRow_no h
    rw [aName_no h]
    unfold aPop aPush
    rw [hr]
    simp
  | true =>
    have h1 := name_bytes c h
    have h2 := arg_range c h
    refine ⟨h1.1, h1.2.2, h2.2.2.1, h2.2.2.2.1, h2.2.2.2.2.1, h2.2.2.2.2.2.1, fun h3 => h2.2.2.2.2.2.2 ?_⟩
    simpa using h3
theorem opNames_walk (a b : Int) (_ : InI64 a) (_ : InI64 b) (w : World) (hw : LaidOp w) :
    Calls Tryd.prog 6 #[.int .i64 a, .int .i64 b] w fun e w' => e = .returned (.bool true) ∧ Below w.heap.size w w' := by
  have E : ∀ l : List UInt8, (⟨l.toArray⟩ : ByteArray).toList = l := fun l => by rw [ByteArray.toList_eq]
  obtain ⟨n1, n2, n3, n4, n5, n6, n7⟩ := name_small a
  refine opNames_core a b w hw ⟨(aName a).toArray⟩ ⟨(aName b).toArray⟩ _ _ _ _ _ _ _ _ _ _ (fun w h => about_any a w h) (fun w h => about_any b w h) (Lib.hid ?_) ?_ ?_ ?_ ⟨n3, n4⟩ ⟨n5, n6⟩ n7
  · intro j h
    exact n1 _ (List.getElem_mem (l := aName a) (n := j) (by simpa [ByteArray.size] using h))
  · simpa [ByteArray.size] using n2
  · intro h1 h2
    rw [E, E]
    by_cases h : a = b
    · subst h; simp
    · rw [beq_eq_false_iff_ne.2 h, beq_eq_false_iff_ne]
      exact fun e => h (name_inj a b h1 h2 e)
  · rw [E]
    cases h : aOk a with
    | false => rw [aName_no h]; rfl
    | true =>
      have := (name_bytes a h).2.1
      rw [Bool.not_true, beq_eq_false_iff_ne]
      intro e
      rw [e] at this
      simp at this
end Go.Proofs.YthplcmoojmnofaaDoor
