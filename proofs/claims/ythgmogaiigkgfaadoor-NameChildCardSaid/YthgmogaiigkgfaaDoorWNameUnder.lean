/- To be under is an order: of itself, by what is between, and both ways just the same; two under which one is are under one another. The walk: the law answers true; no memory that was there is turned. Conditions: the integers are of their kinds, a string has at most 140737488351232 bytes, the listed package variables hold what the program's text lays. -/
import Derived.Test.YthgmogaiigkgfaaDoorNameLawMade
import Derived.Test.YthgmogaiigkgfaaDoorWNameOnce
namespace Go.Proofs.YthgmogaiigkgfaaDoor
open Go.RowKit
theorem joinL_le {l : List Int} (h : Fits l) : (⟨(joinL l).toArray⟩ : ByteArray).size ≤ 140737488351232 := by
  have h1 := joinL_length l h.2.2
  have h2 := h.2.1
  show (joinL l).length ≤ _
  split at h1 <;> omega
theorem readL_mk {l : List Int} (h : Fits l) : readL (⟨(joinL l).toArray⟩ : ByteArray).data.toList = some l := by simpa using readL_join h
theorem underS_mk {l m : List Int} (h : Fits l) (k : Fits m) : underS (⟨(joinL l).toArray⟩ : ByteArray).data.toList (⟨(joinL m).toArray⟩ : ByteArray).data.toList = true ↔ l <+: m := by
  rw [underS_iff, readL_mk h, readL_mk k]
  constructor
  · rintro ⟨x, y, h1, h2, h3⟩
    rw [Option.some.inj h1, Option.some.inj h2]
    exact h3
  · exact fun h => ⟨_, _, rfl, rfl, h⟩
theorem orderS_mk {l m : List Int} (h : Fits l) (k : Fits m) : orderS (⟨(joinL l).toArray⟩ : ByteArray).data.toList (⟨(joinL m).toArray⟩ : ByteArray).data.toList = cmpL l m := by
  unfold orderS
  rw [readL_mk h, readL_mk k]
theorem mk_inj {l m : List Int} (h : Fits l) (k : Fits m) (e : (⟨(joinL l).toArray⟩ : ByteArray) = ⟨(joinL m).toArray⟩) : l = m := by
  refine joinL_inj h k ?_
  have := congrArg (fun x : ByteArray => x.data.toList) e
  simpa using this
theorem prefix_two : ∀ {x y z : List Int}, x <+: z → y <+: z → x <+: y ∨ y <+: x
  | [], _, _, _, _ => Or.inl List.nil_prefix
  | _ :: _, [], _, _, _ => Or.inr List.nil_prefix
  | a :: x, b :: y, [], h, _ => by simp at h
  | a :: x, b :: y, c :: z, h, k => by
    rw [List.cons_prefix_cons] at h k
    obtain ⟨rfl, h⟩ := h
    obtain ⟨rfl, k⟩ := k
    rcases prefix_two h k with r | r
    · exact Or.inl (by rw [List.cons_prefix_cons]; exact ⟨rfl, r⟩)
    · exact Or.inr (by rw [List.cons_prefix_cons]; exact ⟨rfl, r⟩)
theorem prefix_antisymm {x y : List Int} (h : x <+: y) (k : y <+: x) : x = y := h.eq_of_length (Nat.le_antisymm h.length_le k.length_le)
set_option maxHeartbeats 4000000 in
theorem nunder_core (va : Value) (a : List UInt8) (vb : Value) (b : List UInt8) (vc : Value) (c : List UInt8) (w : World) (ia : BytesAt w va a) (ib : BytesAt w vb b) (ic : BytesAt w vc c) (hw : Laid w) (x y z : ByteArray)
    (hx : x.size ≤ 140737488351232) (hy : y.size ≤ 140737488351232) (hz : z.size ≤ 140737488351232)
    (MA : Hid (∀ W, BytesAt W va a → Laid W → Calls Tryd.prog 22 #[va, .int .i64 6] W fun e w' => e = .returned (.string x) ∧ Below W.heap.size W w')) (MB : Hid (∀ W, BytesAt W vb b → Laid W → Calls Tryd.prog 22 #[vb, .int .i64 6] W fun e w' => e = .returned (.string y) ∧ Below W.heap.size W w')) (MC : Hid (∀ W, BytesAt W vc c → Laid W → Calls Tryd.prog 22 #[vc, .int .i64 6] W fun e w' => e = .returned (.string z) ∧ Below W.heap.size W w'))
    (p q r s : Bool) (F0 : Hid (underS x.data.toList x.data.toList = true)) (F1 : Hid (underS x.data.toList y.data.toList = p)) (F2 : Hid (underS y.data.toList z.data.toList = q)) (F3 : Hid (underS x.data.toList z.data.toList = r)) (F4 : Hid (underS y.data.toList x.data.toList = s))
    (E : p = true → s = true → x = y) (T1 : p = true → q = true → r = true) (T2 : r = true → q = true → p = true ∨ s = true) :
    Calls Tryd.prog 7 #[va, vb, vc] w fun e w' => e = .returned (.bool true) ∧ Below w.heap.size w w' := by
  have hd : (p = true ∧ s = true ∧ x = y) ∨ ((p && s) = false ∧ (p = false ∨ s = false)) := by
    cases p <;> cases s <;> simp_all
  cases p
  all_goals cases q
  all_goals cases r
  all_goals cases s
  all_goals simp only [Bool.false_eq_true, true_implies, false_implies, implies_true, or_self, or_true, Bool.true_eq_false, and_self, true_and, false_and, and_false, or_false, Bool.and_self, Bool.and_false, Bool.and_true] at hd E T1 T2
  all_goals first | contradiction | skip
  all_goals first | subst E | skip
  all_goals
    clear hd
    first | clear T1 T2 | clear T1 | clear T2 | skip
    go_enter Tryd.func7, Tryd.ntmps7
    have hB0 := Below.refl w.heap.size w
    have M0 := Mem.nil w
    go_wp2_with fail
    refine Calls.named ?_
    intro W1 hW1
    have hB1_ : Below w.heap.size w W1 := by rw [hW1]; exact hB0
    have hw1_ : Laid W1 := by rw [hW1]; exact hw
    have M1_ := Mem.nil W1
    have hS1 : Below w.heap.size w W1 := by rw [hW1]; exact (Below.refl _ _)
    have ia_ := BytesAt.below ia hS1
    have ib_ := BytesAt.below ib hS1
    have ic_ := BytesAt.below ic hS1
    clear hS1 ia ib ic
    clear hW1
    refine (nexamples_any _ hw1_).mono ?_
    rintro e w1 ⟨rfl, hb1⟩
    have ia := BytesAt.below ia_ hb1
    have ib := BytesAt.below ib_ hb1
    have ic := BytesAt.below ic_ hb1
    clear ia_ ib_ ic_
    have hB1 := below_then hB1_ hb1
    have hw1 := hw1_.below hb1
    have M1 := M1_.below hb1
    clear M1_ hB1_ hb1 hw1_
    go_wp2_with fail
    refine Calls.named ?_
    intro W2 hW2
    have hB2_ : Below w.heap.size w W2 := by rw [hW2]; exact hB1
    have hw2_ : Laid W2 := by rw [hW2]; exact hw1
    have M2_ := Mem.nil W2
    have hS2 : Below w1.heap.size w1 W2 := by rw [hW2]; exact (Below.refl _ _)
    have ia_ := BytesAt.below ia hS2
    have ib_ := BytesAt.below ib hS2
    have ic_ := BytesAt.below ic hS2
    clear hS2 ia ib ic
    clear hW2
    refine (MA.out _ ia_ hw2_).mono ?_
    rintro e w2 ⟨rfl, hb2⟩
    have ia := BytesAt.below ia_ hb2
    have ib := BytesAt.below ib_ hb2
    have ic := BytesAt.below ic_ hb2
    clear ia_ ib_ ic_
    have hB2 := below_then hB2_ hb2
    have hw2 := hw2_.below hb2
    have M2 := M2_.below hb2
    clear M2_ hB2_ hb2 hw2_
    go_wp2_with fail
    refine Calls.named ?_
    intro W3 hW3
    have hB3_ : Below w.heap.size w W3 := by rw [hW3]; exact hB2
    have hw3_ : Laid W3 := by rw [hW3]; exact hw2
    have M3_ := Mem.nil W3
    have hS3 : Below w2.heap.size w2 W3 := by rw [hW3]; exact (Below.refl _ _)
    have ia_ := BytesAt.below ia hS3
    have ib_ := BytesAt.below ib hS3
    have ic_ := BytesAt.below ic hS3
    clear hS3 ia ib ic
    clear hW3
    refine (MB.out _ ib_ hw3_).mono ?_
    rintro e w3 ⟨rfl, hb3⟩
    have ia := BytesAt.below ia_ hb3
    have ib := BytesAt.below ib_ hb3
    have ic := BytesAt.below ic_ hb3
    clear ia_ ib_ ic_
    have hB3 := below_then hB3_ hb3
    have hw3 := hw3_.below hb3
    have M3 := M3_.below hb3
    clear M3_ hB3_ hb3 hw3_
    go_wp2_with fail
    refine Calls.named ?_
    intro W4 hW4
    have hB4_ : Below w.heap.size w W4 := by rw [hW4]; exact hB3
    have hw4_ : Laid W4 := by rw [hW4]; exact hw3
    have M4_ := Mem.nil W4
    have hS4 : Below w3.heap.size w3 W4 := by rw [hW4]; exact (Below.refl _ _)
    have ia_ := BytesAt.below ia hS4
    have ib_ := BytesAt.below ib hS4
    have ic_ := BytesAt.below ic hS4
    clear hS4 ia ib ic
    clear hW4
    refine (MC.out _ ic_ hw4_).mono ?_
    rintro e w4 ⟨rfl, hb4⟩
    have ia := BytesAt.below ia_ hb4
    have ib := BytesAt.below ib_ hb4
    have ic := BytesAt.below ic_ hb4
    clear ia_ ib_ ic_
    have hB4 := below_then hB4_ hb4
    have hw4 := hw4_.below hb4
    have M4 := M4_.below hb4
    clear M4_ hB4_ hb4 hw4_
    clear ia ib ic hw
    have hw := hw4
    have hB := hB4
    clear hw1 hw2 hw3 hw4 hB0 hB1 hB2 hB3 hB4 M0 M1 M2 M3 M4
    repeat (go_wp2_with fail; (first | with_reducible refine (under_any _ _ _ (by assumption) (by assumption) hw).mono ?_); (first | rw [F0.out] | rw [F1.out] | rw [F2.out] | rw [F3.out] | rw [F4.out]); rintro e w9 ⟨rfl, hb9⟩; replace hw := hw.below hb9; replace hB := below_then hB hb9; clear hb9)
    go_wp2_with fail
    go_ret
    exact ⟨rfl, hB⟩
theorem nameUnder_walk (va : Value) (a : List UInt8) (vb : Value) (b : List UInt8) (vc : Value) (c : List UInt8) (w : World) (ia : BytesAt w va a) (ib : BytesAt w vb b) (ic : BytesAt w vc c) (hw : Laid w) :
    Calls Tryd.prog 7 #[va, vb, vc] w fun e w' => e = .returned (.bool true) ∧ Below w.heap.size w w' := by
  have fa := mkN_fits a 6 (by omega)
  have fb := mkN_fits b 6 (by omega)
  have fc := mkN_fits c 6 (by omega)
  refine nunder_core va a vb b vc c w ia ib ic hw _ _ _ (joinL_le fa) (joinL_le fb) (joinL_le fc) (Lib.hid fun W h k => lmade_any va a 6 (by omega) (by omega) W h k) (Lib.hid fun W h k => lmade_any vb b 6 (by omega) (by omega) W h k) (Lib.hid fun W h k => lmade_any vc c 6 (by omega) (by omega) W h k)
    _ _ _ _ (Lib.hid ((underS_mk fa fa).2 (List.prefix_refl _))) (Lib.hid rfl) (Lib.hid rfl) (Lib.hid rfl) (Lib.hid rfl) ?_ ?_ ?_
  · intro h k
    rw [prefix_antisymm ((underS_mk fa fb).1 h) ((underS_mk fb fa).1 k)]
  · intro h k
    exact (underS_mk fa fc).2 (((underS_mk fa fb).1 h).trans ((underS_mk fb fc).1 k))
  · intro h k
    rcases prefix_two ((underS_mk fa fc).1 h) ((underS_mk fb fc).1 k) with r | r
    · exact Or.inl ((underS_mk fa fb).2 r)
    · exact Or.inr ((underS_mk fb fa).2 r)
end Go.Proofs.YthgmogaiigkgfaaDoor
