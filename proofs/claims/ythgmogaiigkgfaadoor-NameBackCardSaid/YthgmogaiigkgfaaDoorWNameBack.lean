/- Numbers that have a name are its parts; two lists have one name just if they are the same; a number below 0, or above 999, or a twenty-fifth one has none. The walk: the law answers true; no memory that was there is turned. Conditions: the listed package variables hold what the program's text lays. -/
import Derived.Test.YthgmogaiigkgfaaDoorNameLaws
namespace Go.Proofs.YthgmogaiigkgfaaDoor
open Go.RowKit
theorem IntsAt.slice {w : World} {v : Value} {l : List Int} (h : IntsAt w v l) : ∃ ao cap, v = .slice ao l.length cap ∧ l.length ≤ 9223372036854775807 := by
  rcases h with ⟨ao, cap, hv, h0⟩ | ⟨b, off, cap, hv, h1, h2, _⟩
  · subst h0; exact ⟨ao, cap, hv, by simp⟩
  · unfold maxLen at h2
    exact ⟨_, _, hv, by omega⟩
theorem IntsAt.cellAt {w : World} {ao : Option Addr} {cap : Nat} {l : List Int} (h : IntsAt w (.slice ao l.length cap) l) {k : Nat} (hk : k < l.length) : ∃ b off, ao = some ⟨b, off, none⟩ ∧ w.cell? ⟨b, off + k, none⟩ = some (.int .i64 (l.getD k 0)) := by
  rcases h with ⟨_, _, _, h0⟩ | ⟨b, off, cap', hv, h1, h2, hc⟩
  · subst h0; simp at hk
  · simp only [Value.slice.injEq] at hv
    exact ⟨b, off, hv.1, hc k hk⟩
def fitsB (a : List Int) (k : Nat) : Bool := decide (1 ≤ a.length ∧ a.length ≤ 24 ∧ ∀ j, j < k → 0 ≤ a.getD j 0 ∧ a.getD j 0 ≤ 999)
theorem fitsB_zero (a : List Int) : fitsB a 0 = (decide ((0 : Int) < a.length) && decide ((a.length : Int) ≤ 24)) := by
  unfold fitsB
  rw [Bool.eq_iff_iff]
  simp
  omega
theorem fitsB_false {a : List Int} {k : Nat} (h : fitsB a k = false) : fitsB a (k + 1) = false := by
  unfold fitsB at *
  rw [decide_eq_false_iff_not] at *
  exact fun ⟨h1, h2, h3⟩ => h ⟨h1, h2, fun j hj => h3 j (by omega)⟩
theorem fitsB_true {a : List Int} {k : Nat} (h : fitsB a k = true) : fitsB a (k + 1) = (decide (0 ≤ a.getD k 0) && decide (a.getD k 0 ≤ 999)) := by
  unfold fitsB at *
  rw [decide_eq_true_eq] at h
  obtain ⟨h1, h2, h3⟩ := h
  rw [Bool.eq_iff_iff, decide_eq_true_eq, Bool.and_eq_true, decide_eq_true_eq, decide_eq_true_eq]
  constructor
  · rintro ⟨_, _, h⟩
    exact h k (by omega)
  · intro h
    refine ⟨h1, h2, fun j hj => ?_⟩
    by_cases hjk : j < k
    · exact h3 j hjk
    · obtain rfl : j = k := by omega
      exact h
theorem fitsB_end (a : List Int) : fitsB a a.length = decide (Fits a) := by
  unfold fitsB
  rw [decide_eq_decide]
  unfold Fits
  constructor
  · rintro ⟨h1, h2, h3⟩
    refine ⟨h1, h2, fun n hn => ?_⟩
    obtain ⟨j, hj, rfl⟩ := List.getElem_of_mem hn
    have := h3 j hj
    simpa [hj] using this
  · rintro ⟨h1, h2, h3⟩
    refine ⟨h1, h2, fun j hj => ?_⟩
    exact h3 _ (by simp [hj])
def sameB (a b : List Int) (k : Nat) : Bool := decide (a.length = b.length ∧ ∀ j, j < k → a.getD j 0 = b.getD j 0)
theorem sameB_zero (a b : List Int) : sameB a b 0 = ((a.length : Int) == b.length) := by
  unfold sameB
  rw [Bool.eq_iff_iff]
  simp
  omega
theorem sameB_step {a b : List Int} {k : Nat} (h : sameB a b k = true) : sameB a b (k + 1) = (a.getD k 0 == b.getD k 0) := by
  unfold sameB at *
  rw [decide_eq_true_eq] at h
  rw [Bool.eq_iff_iff, decide_eq_true_eq, beq_iff_eq]
  constructor
  · rintro ⟨_, h⟩
    exact h k (by omega)
  · intro e
    refine ⟨h.1, fun j hj => ?_⟩
    by_cases hjk : j < k
    · exact h.2 j hjk
    · obtain rfl : j = k := by omega
      exact e
theorem sameB_end {a b : List Int} (h : sameB a b a.length = true) : a = b := by
  unfold sameB at h
  rw [decide_eq_true_eq] at h
  apply List.ext_getElem h.1
  intro i h1 h2
  have := h.2 i h1
  simpa [h1, h2] using this
theorem sameB_no {a b : List Int} {k : Nat} (h : sameB a b k = false) : a ≠ b := by
  rintro rfl
  unfold sameB at h
  simp at h
theorem sameB_len {a b : List Int} {k : Nat} (h : sameB a b k = true) : a.length = b.length := by
  unfold sameB at h
  rw [decide_eq_true_eq] at h
  exact h.1
/-- what is kept while the law runs -/
structure NB (w : World) (va vb : Value) (a b : List Int) (W : World) : Prop where
  base : Below w.heap.size w W
  laid : Laid W
  ia : IntsAt W va a
  ib : IntsAt W vb b
theorem NB.below {w W W' : World} {va vb : Value} {a b : List Int} (h : NB w va vb a b W) (hb : Below W.heap.size W W') : NB w va vb a b W' :=
  ⟨below_then h.base hb, h.laid.below hb, h.ia.below hb, h.ib.below hb⟩
theorem below_draws (w : World) (n : Nat) : Below w.heap.size w (w.drewN n) := ⟨rfl, rfl, rfl, Nat.le_refl _, fun _ _ => rfl⟩
theorem nempty : readL (⟨#[]⟩ : ByteArray).data.toList = none := by decide +kernel
set_option maxHeartbeats 4000000 in
theorem nback_yy (va vb : Value) (a b : List Int) (w : World) (hw : Laid w) (ia : IntsAt w va a) (ib : IntsAt w vb b) (fa : Fits a) (fb : Fits b) :
    Calls Tryd.prog 4 #[va, vb] w fun e w' => e = .returned (.bool true) ∧ Below w.heap.size w w' := by
  obtain ⟨ao, cap, rfl, la⟩ := ia.slice
  obtain ⟨bo, cbp, rfl, lb⟩ := ib.slice
  have hd1 : decide ((0 : Int) < a.length) = true := by have := fa.1; simp; omega
  have hd2 : decide ((a.length : Int) ≤ 24) = true := by have := fa.2.1; simp; omega
  have hf0 : Hid (true = fitsB a 0) := Lib.hid (by rw [fitsB_zero, hd1, hd2]; rfl)
  have hp1 : 0 < a.length := by have := fa.1; omega
  have hp2 : (a.length : Int) ≤ 24 := by have := fa.2.1; omega
  clear hd1 hd2
  all_goals
    go_enter Tryd.func4, Tryd.ntmps4
    have hB0 := Below.refl w.heap.size w
    have M0 := Mem.nil w
    go_wp2_with fail
    refine Calls.named ?_
    intro W1 hW1
    have hB1_ : Below w.heap.size w W1 := by rw [hW1]; exact hB0
    have hw1_ : Laid W1 := by rw [hW1]; exact hw
    have M1_ := Mem.nil W1
    have hS1 : Below w.heap.size w W1 := by rw [hW1]; exact (Below.refl _ _)
    have ia_ := IntsAt.below ia hS1
    have ib_ := IntsAt.below ib hS1
    clear hS1 ia ib
    clear hW1
    refine (nexamples_any _ hw1_).mono ?_
    rintro e w1 ⟨rfl, hb1⟩
    have ia := IntsAt.below ia_ hb1
    have ib := IntsAt.below ib_ hb1
    clear ia_ ib_
    have hB1 := below_then hB1_ hb1
    have hw1 := hw1_.below hb1
    have M1 := M1_.below hb1
    clear M1_ hB1_ hb1 hw1_
    go_wp2_with fail
    refine Calls.named ?_
    intro W2 hW2
    have hB2_ : Below w.heap.size w W2 := by rw [hW2]; exact hB1
    have hw2_ : Laid W2 := by rw [hW2]; exact hw1
    have M2_ := Mem.nil W2
    have hS2 : Below w1.heap.size w1 W2 := by rw [hW2]; exact (Below.refl _ _)
    have ia_ := IntsAt.below ia hS2
    have ib_ := IntsAt.below ib hS2
    clear hS2 ia ib
    clear hW2
    refine (of_t (if_pos fa) _ ia_ hw2_).mono ?_
    rintro e w2 ⟨rfl, hb2⟩
    have ia := IntsAt.below ia_ hb2
    have ib := IntsAt.below ib_ hb2
    clear ia_ ib_
    have hB2 := below_then hB2_ hb2
    have hw2 := hw2_.below hb2
    have M2 := M2_.below hb2
    clear M2_ hB2_ hb2 hw2_
    go_wp2_with fail
    refine Calls.named ?_
    intro W3 hW3
    have hB3_ : Below w.heap.size w W3 := by rw [hW3]; exact hB2
    have hw3_ : Laid W3 := by rw [hW3]; exact hw2
    have M3_ := Mem.nil W3
    have hS3 : Below w2.heap.size w2 W3 := by rw [hW3]; exact (Below.refl _ _)
    have ia_ := IntsAt.below ia hS3
    have ib_ := IntsAt.below ib hS3
    clear hS3 ia ib
    clear hW3
    refine (of_t (if_pos fb) _ ib_ hw3_).mono ?_
    rintro e w3 ⟨rfl, hb3⟩
    have ia := IntsAt.below ia_ hb3
    have ib := IntsAt.below ib_ hb3
    clear ia_ ib_
    have hB3 := below_then hB3_ hb3
    have hw3 := hw3_.below hb3
    have M3 := M3_.below hb3
    clear M3_ hB3_ hb3 hw3_
    have S0 : NB w (.slice ao a.length cap) (.slice bo b.length cbp) a b w3 := ⟨hB3, hw3, ia, ib⟩
    clear hB0 M0 hB1 hw1 M1 hB2 hw2 M2 hB3 hw3 M3 ia ib
    go_wp2_with fail
    go_loopw [10, 11] (fun f i W => ∃ (k : Nat) (x : Bool), k ≤ a.length ∧ i = .int .i64 k ∧ f = .bool x ∧ Hid (x = fitsB a k) ∧ NB w (.slice ao a.length cap) (.slice bo b.length cbp) a b W) (fun _ i _ => a.length - (intOf i).toNat)
    case atStart => exact ⟨0, _, by omega, rfl, rfl, hf0, S0⟩
    case round =>
      obtain ⟨k, x, hk, rfl, rfl, hx, S1⟩ := hrel
      refine wp_named ?_
      intro w4 hW
      subst hW
      clear S0 hf0
      by_cases hlt : k < a.length
      · have hltI : (k : Int) < a.length := by omega
        obtain ⟨ba, oa, rfl, cw⟩ := S1.ia.cellAt hlt
        have hx1 := fitsB_true (a := a) (k := k)
        have hx2 := fitsB_false (a := a) (k := k)
        obtain ⟨n, hn⟩ : ∃ n, n = a.getD k 0 := ⟨_, rfl⟩
        rw [← hn] at cw hx1
        have HN := Lib.hid hn
        clear hn
        cases x with
        | false =>
          have hx3 := Lib.hid (hx2 hx.out.symm)
          clear hx1 hx2
          go_wp2_with fail
          go_roundw
          case rel => exact ⟨k + 1, false, by omega, by go_num, rfl, Lib.hid hx3.out.symm, S1⟩
          case measure => simp [intOf]; omega
        | true =>
          have hx3 := Lib.hid (hx1 hx.out.symm)
          clear hx1 hx2
          by_cases n0 : 0 ≤ n
          · have e0 : decide (0 ≤ n) = true := by simpa using n0
            have hx4 : Hid (decide (n ≤ 999) = fitsB a (k + 1)) := Lib.hid (by rw [hx3.out, e0, Bool.true_and])
            clear n0
            go_wp2_with fail
            go_roundw
            case rel => exact ⟨k + 1, decide (n ≤ 999), by omega, by go_num, rfl, hx4, S1⟩
            case measure => simp [intOf]; omega
          · have e0 : decide (0 ≤ n) = false := by simpa using n0
            have hx4 : Hid (false = fitsB a (k + 1)) := Lib.hid (by rw [hx3.out, e0, Bool.false_and])
            clear n0
            go_wp2_with fail
            go_roundw
            case rel => exact ⟨k + 1, false, by omega, by go_num, rfl, hx4, S1⟩
            case measure => simp [intOf]; omega
      · obtain rfl : k = a.length := by omega
        obtain rfl : x = true := by rw [hx.out, fitsB_end]; exact decide_eq_true fa
        clear hx hlt hk
        go_wp2_with fail
        go_loopw [12, 13] (fun f i W => ∃ (k : Nat) (x : Bool), k ≤ a.length ∧ i = .int .i64 k ∧ f = .bool x ∧ Hid (x = sameB a b k) ∧ NB w (.slice ao a.length cap) (.slice bo b.length cbp) a b W) (fun _ i _ => a.length - (intOf i).toNat)
        case atStart => exact ⟨0, _, by omega, rfl, rfl, Lib.hid (sameB_zero a b).symm, S1⟩
        case round =>
          obtain ⟨k, x, hk, rfl, rfl, hx, S2⟩ := hrel
          refine wp_named ?_
          intro w5 hW
          subst hW
          clear S1
          have hgo : (k < a.length ∧ x = true) ∨ (x = decide (a = b) ∧ (x = false ∨ k = a.length)) := by
            cases x with
            | false =>
              exact Or.inr ⟨(decide_eq_false (sameB_no hx.out.symm)).symm, Or.inl rfl⟩
            | true =>
              by_cases hlt : k < a.length
              · exact Or.inl ⟨hlt, rfl⟩
              · obtain rfl : k = a.length := by omega
                exact Or.inr ⟨(decide_eq_true (sameB_end hx.out.symm)).symm, Or.inr rfl⟩
          rcases hgo with ⟨hlt, rfl⟩ | ⟨hxe, hend⟩
          · have hltI : (k : Int) < a.length := by omega
            obtain ⟨ba, oa, rfl, cw⟩ := S2.ia.cellAt hlt
            have hlb : k < b.length := by have := sameB_len hx.out.symm; omega
            have hltB : (k : Int) < b.length := by omega
            obtain ⟨bb, ob, rfl, dw⟩ := S2.ib.cellAt hlb
            have hx1 := sameB_step hx.out.symm
            have k0 : (0 : Int) ≤ k := by omega
            obtain ⟨m, hm⟩ : ∃ m, m = a.getD k 0 := ⟨_, rfl⟩
            obtain ⟨n, hn⟩ : ∃ n, n = b.getD k 0 := ⟨_, rfl⟩
            rw [← hm] at cw hx1
            rw [← hn] at dw hx1
            have HX1 := Lib.hid hx1
            clear hm hn hx1
            go_wp2_with fail
            go_quiet (fail)
            go_wp2_with fail
            go_roundw
            case rel => exact ⟨k + 1, _, by omega, by go_num, rfl, Lib.hid HX1.out.symm, S2.below (below_draws _ _)⟩
            case measure => simp [intOf]; omega
          · have HX := Lib.hid hxe
            have hend' : (a.length : Int) ≤ k ∨ ((k : Int) < a.length ∧ x = false) := by
              by_cases hkk : (k : Int) < a.length
              · refine Or.inr ⟨hkk, ?_⟩
                rcases hend with h | h
                · exact h
                · omega
              · exact Or.inl (by omega)
            clear hxe hend
            have hq : (joinL a == joinL b) = x := by
              rw [HX.out, Bool.eq_iff_iff, beq_iff_eq, decide_eq_true_eq]
              exact ⟨fun h => joinL_inj fa fb h, fun h => by rw [h]⟩
            have hend2 : ((a.length : Int) ≤ k ∧ x = true) ∨ ((a.length : Int) ≤ k ∧ x = false) ∨ ((k : Int) < a.length ∧ x = false) := by
              cases x <;> simp_all
            clear hend' HX hx
            have hj := joinL_length a fa.2.2
            have hj2 : (joinL a).length ≤ 97 := by have := fa.2.1; split at hj <;> omega
            have hsz : (⟨(joinL a).toArray⟩ : ByteArray).size ≤ 140737488351232 := by simp [ByteArray.size]; omega
            have hrl : readL (⟨(joinL a).toArray⟩ : ByteArray).data.toList = some a := by simpa using readL_join fa
            have hrs : (readL (⟨(joinL a).toArray⟩ : ByteArray).data.toList).isSome = true := by rw [hrl]; rfl
            have HRL := Lib.hid hrl
            have HRS := Lib.hid hrs
            clear hj hj2 hrl hrs
            obtain ⟨hB5, hw5, ia, ib⟩ := S2
            have M5 := Mem.nil w5
            rcases hend2 with ⟨hend3, rfl⟩ | ⟨hend3, rfl⟩ | ⟨hend3, rfl⟩
            all_goals
              go_wp2_with fail
              refine Calls.named ?_
              intro W6 hW6
              have hB6_ : Below w.heap.size w W6 := by rw [hW6]; exact hB5
              have hw6_ : Laid W6 := by rw [hW6]; exact hw5
              have M6_ := Mem.nil W6
              have hS6 : Below w5.heap.size w5 W6 := by rw [hW6]; exact (Below.refl _ _)
              have ia_ := IntsAt.below ia hS6
              have ib_ := IntsAt.below ib hS6
              clear hS6 ia ib
              clear hW6
              refine (parts_t HRL.out _ hsz hw6_).mono ?_
              rintro e w6 ⟨g, cp, rfl, hb6, hrow⟩
              have ia := IntsAt.below ia_ hb6
              have ib := IntsAt.below ib_ hb6
              clear ia_ ib_
              have hB6 := below_then hB6_ hb6
              have hw6 := hw6_.below hb6
              have M6 := M6_.below hb6
              clear M6_ hB6_ hb6 hw6_
              have S3 : NB w (.slice ao a.length cap) (.slice bo b.length cbp) a b w6 := ⟨hB6, hw6, ia, ib⟩
              have il := IntsAt.of_row hrow
              clear hB6 hw6 M6 ia ib hrow hB5 hw5 M5
              go_wp2_with fail
              go_loopw [15] (fun i W => ∃ (k : Nat), k ≤ a.length ∧ i = .int .i64 k ∧ NB w (.slice ao a.length cap) (.slice bo b.length cbp) a b W ∧ IntsAt W (.slice (some ⟨g, 0, none⟩) a.length cp) a) (fun i _ => a.length - (intOf i).toNat)
              case atStart => exact ⟨0, by omega, rfl, S3, il⟩
              case round =>
                obtain ⟨k2, hk2, rfl, S4, i4⟩ := hrel
                refine wp_named ?_
                intro w7 hW
                subst hW
                clear S3 il
                by_cases hlt : k2 < a.length
                · have hltI : (k2 : Int) < a.length := by omega
                  obtain ⟨ba, oa, rfl, cw⟩ := S4.ia.cellAt hlt
                  obtain ⟨bl, ol, hbl, dw⟩ := i4.cellAt hlt
                  simp only [Option.some.injEq, Addr.mk.injEq, and_true] at hbl
                  obtain ⟨rfl, rfl⟩ := hbl
                  rw [Nat.zero_add] at dw
                  have k0 : (0 : Int) ≤ k2 := by omega
                  obtain ⟨m, hm⟩ : ∃ m, m = a.getD k2 0 := ⟨_, rfl⟩
                  rw [← hm] at cw dw
                  clear hm
                  go_wp2_with fail
                  go_quiet (fail)
                  go_wp2_with fail
                  go_roundw
                  case rel => exact ⟨k2 + 1, by omega, by go_num, S4.below (below_draws _ _), i4.below (below_draws _ _)⟩
                  case measure => simp [intOf]; omega
                · have hge : (a.length : Int) ≤ k2 := by omega
                  obtain ⟨hB7, hw7, ia, ib⟩ := S4
                  have M7 := Mem.nil w7
                  clear i4
                  go_wp2_with fail
                  refine Calls.named ?_
                  intro W8 hW8
                  have hB8_ : Below w.heap.size w W8 := by rw [hW8]; exact hB7
                  have hw8_ : Laid W8 := by rw [hW8]; exact hw7
                  have M8_ := Mem.nil W8
                  have hS8 : Below w7.heap.size w7 W8 := by rw [hW8]; exact (Below.refl _ _)
                  have ia_ := IntsAt.below ia hS8
                  have ib_ := IntsAt.below ib hS8
                  clear hS8 ia ib
                  clear hW8
                  refine (nright_t HRS.out _ hsz hw8_).mono ?_
                  rintro e w8 ⟨rfl, hb8⟩
                  have ia := IntsAt.below ia_ hb8
                  have ib := IntsAt.below ib_ hb8
                  clear ia_ ib_
                  have hB8 := below_then hB8_ hb8
                  have hw8 := hw8_.below hb8
                  have M8 := M8_.below hb8
                  clear M8_ hB8_ hb8 hw8_
                  go_wp2_with fail
                  go_ret
                  exact ⟨rfl, hB8⟩
set_option maxHeartbeats 4000000 in
theorem nback_yn (va vb : Value) (a b : List Int) (w : World) (hw : Laid w) (ia : IntsAt w va a) (ib : IntsAt w vb b) (fa : Fits a) (fb : ¬ Fits b) :
    Calls Tryd.prog 4 #[va, vb] w fun e w' => e = .returned (.bool true) ∧ Below w.heap.size w w' := by
  obtain ⟨ao, cap, rfl, la⟩ := ia.slice
  obtain ⟨bo, cbp, rfl, lb⟩ := ib.slice
  have hd1 : decide ((0 : Int) < a.length) = true := by have := fa.1; simp; omega
  have hd2 : decide ((a.length : Int) ≤ 24) = true := by have := fa.2.1; simp; omega
  have hf0 : Hid (true = fitsB a 0) := Lib.hid (by rw [fitsB_zero, hd1, hd2]; rfl)
  have hp1 : 0 < a.length := by have := fa.1; omega
  have hp2 : (a.length : Int) ≤ 24 := by have := fa.2.1; omega
  clear hd1 hd2
  all_goals
    go_enter Tryd.func4, Tryd.ntmps4
    have hB0 := Below.refl w.heap.size w
    have M0 := Mem.nil w
    go_wp2_with fail
    refine Calls.named ?_
    intro W1 hW1
    have hB1_ : Below w.heap.size w W1 := by rw [hW1]; exact hB0
    have hw1_ : Laid W1 := by rw [hW1]; exact hw
    have M1_ := Mem.nil W1
    have hS1 : Below w.heap.size w W1 := by rw [hW1]; exact (Below.refl _ _)
    have ia_ := IntsAt.below ia hS1
    have ib_ := IntsAt.below ib hS1
    clear hS1 ia ib
    clear hW1
    refine (nexamples_any _ hw1_).mono ?_
    rintro e w1 ⟨rfl, hb1⟩
    have ia := IntsAt.below ia_ hb1
    have ib := IntsAt.below ib_ hb1
    clear ia_ ib_
    have hB1 := below_then hB1_ hb1
    have hw1 := hw1_.below hb1
    have M1 := M1_.below hb1
    clear M1_ hB1_ hb1 hw1_
    go_wp2_with fail
    refine Calls.named ?_
    intro W2 hW2
    have hB2_ : Below w.heap.size w W2 := by rw [hW2]; exact hB1
    have hw2_ : Laid W2 := by rw [hW2]; exact hw1
    have M2_ := Mem.nil W2
    have hS2 : Below w1.heap.size w1 W2 := by rw [hW2]; exact (Below.refl _ _)
    have ia_ := IntsAt.below ia hS2
    have ib_ := IntsAt.below ib hS2
    clear hS2 ia ib
    clear hW2
    refine (of_t (if_pos fa) _ ia_ hw2_).mono ?_
    rintro e w2 ⟨rfl, hb2⟩
    have ia := IntsAt.below ia_ hb2
    have ib := IntsAt.below ib_ hb2
    clear ia_ ib_
    have hB2 := below_then hB2_ hb2
    have hw2 := hw2_.below hb2
    have M2 := M2_.below hb2
    clear M2_ hB2_ hb2 hw2_
    go_wp2_with fail
    refine Calls.named ?_
    intro W3 hW3
    have hB3_ : Below w.heap.size w W3 := by rw [hW3]; exact hB2
    have hw3_ : Laid W3 := by rw [hW3]; exact hw2
    have M3_ := Mem.nil W3
    have hS3 : Below w2.heap.size w2 W3 := by rw [hW3]; exact (Below.refl _ _)
    have ia_ := IntsAt.below ia hS3
    have ib_ := IntsAt.below ib hS3
    clear hS3 ia ib
    clear hW3
    refine (of_f (if_neg fb) _ ib_ hw3_).mono ?_
    rintro e w3 ⟨rfl, hb3⟩
    have ia := IntsAt.below ia_ hb3
    have ib := IntsAt.below ib_ hb3
    clear ia_ ib_
    have hB3 := below_then hB3_ hb3
    have hw3 := hw3_.below hb3
    have M3 := M3_.below hb3
    clear M3_ hB3_ hb3 hw3_
    have S0 : NB w (.slice ao a.length cap) (.slice bo b.length cbp) a b w3 := ⟨hB3, hw3, ia, ib⟩
    clear hB0 M0 hB1 hw1 M1 hB2 hw2 M2 hB3 hw3 M3 ia ib
    go_wp2_with fail
    go_loopw [10, 11] (fun f i W => ∃ (k : Nat) (x : Bool), k ≤ a.length ∧ i = .int .i64 k ∧ f = .bool x ∧ Hid (x = fitsB a k) ∧ NB w (.slice ao a.length cap) (.slice bo b.length cbp) a b W) (fun _ i _ => a.length - (intOf i).toNat)
    case atStart => exact ⟨0, _, by omega, rfl, rfl, hf0, S0⟩
    case round =>
      obtain ⟨k, x, hk, rfl, rfl, hx, S1⟩ := hrel
      refine wp_named ?_
      intro w4 hW
      subst hW
      clear S0 hf0
      by_cases hlt : k < a.length
      · have hltI : (k : Int) < a.length := by omega
        obtain ⟨ba, oa, rfl, cw⟩ := S1.ia.cellAt hlt
        have hx1 := fitsB_true (a := a) (k := k)
        have hx2 := fitsB_false (a := a) (k := k)
        obtain ⟨n, hn⟩ : ∃ n, n = a.getD k 0 := ⟨_, rfl⟩
        rw [← hn] at cw hx1
        have HN := Lib.hid hn
        clear hn
        cases x with
        | false =>
          have hx3 := Lib.hid (hx2 hx.out.symm)
          clear hx1 hx2
          go_wp2_with fail
          go_roundw
          case rel => exact ⟨k + 1, false, by omega, by go_num, rfl, Lib.hid hx3.out.symm, S1⟩
          case measure => simp [intOf]; omega
        | true =>
          have hx3 := Lib.hid (hx1 hx.out.symm)
          clear hx1 hx2
          by_cases n0 : 0 ≤ n
          · have e0 : decide (0 ≤ n) = true := by simpa using n0
            have hx4 : Hid (decide (n ≤ 999) = fitsB a (k + 1)) := Lib.hid (by rw [hx3.out, e0, Bool.true_and])
            clear n0
            go_wp2_with fail
            go_roundw
            case rel => exact ⟨k + 1, decide (n ≤ 999), by omega, by go_num, rfl, hx4, S1⟩
            case measure => simp [intOf]; omega
          · have e0 : decide (0 ≤ n) = false := by simpa using n0
            have hx4 : Hid (false = fitsB a (k + 1)) := Lib.hid (by rw [hx3.out, e0, Bool.false_and])
            clear n0
            go_wp2_with fail
            go_roundw
            case rel => exact ⟨k + 1, false, by omega, by go_num, rfl, hx4, S1⟩
            case measure => simp [intOf]; omega
      · obtain rfl : k = a.length := by omega
        obtain rfl : x = true := by rw [hx.out, fitsB_end]; exact decide_eq_true fa
        clear hx hlt hk
        go_wp2_with fail
        go_loopw [12, 13] (fun f i W => ∃ (k : Nat) (x : Bool), k ≤ a.length ∧ i = .int .i64 k ∧ f = .bool x ∧ Hid (x = sameB a b k) ∧ NB w (.slice ao a.length cap) (.slice bo b.length cbp) a b W) (fun _ i _ => a.length - (intOf i).toNat)
        case atStart => exact ⟨0, _, by omega, rfl, rfl, Lib.hid (sameB_zero a b).symm, S1⟩
        case round =>
          obtain ⟨k, x, hk, rfl, rfl, hx, S2⟩ := hrel
          refine wp_named ?_
          intro w5 hW
          subst hW
          clear S1
          have hgo : (k < a.length ∧ x = true) ∨ (x = decide (a = b) ∧ (x = false ∨ k = a.length)) := by
            cases x with
            | false =>
              exact Or.inr ⟨(decide_eq_false (sameB_no hx.out.symm)).symm, Or.inl rfl⟩
            | true =>
              by_cases hlt : k < a.length
              · exact Or.inl ⟨hlt, rfl⟩
              · obtain rfl : k = a.length := by omega
                exact Or.inr ⟨(decide_eq_true (sameB_end hx.out.symm)).symm, Or.inr rfl⟩
          rcases hgo with ⟨hlt, rfl⟩ | ⟨hxe, hend⟩
          · have hltI : (k : Int) < a.length := by omega
            obtain ⟨ba, oa, rfl, cw⟩ := S2.ia.cellAt hlt
            have hlb : k < b.length := by have := sameB_len hx.out.symm; omega
            have hltB : (k : Int) < b.length := by omega
            obtain ⟨bb, ob, rfl, dw⟩ := S2.ib.cellAt hlb
            have hx1 := sameB_step hx.out.symm
            have k0 : (0 : Int) ≤ k := by omega
            obtain ⟨m, hm⟩ : ∃ m, m = a.getD k 0 := ⟨_, rfl⟩
            obtain ⟨n, hn⟩ : ∃ n, n = b.getD k 0 := ⟨_, rfl⟩
            rw [← hm] at cw hx1
            rw [← hn] at dw hx1
            have HX1 := Lib.hid hx1
            clear hm hn hx1
            go_wp2_with fail
            go_quiet (fail)
            go_wp2_with fail
            go_roundw
            case rel => exact ⟨k + 1, _, by omega, by go_num, rfl, Lib.hid HX1.out.symm, S2.below (below_draws _ _)⟩
            case measure => simp [intOf]; omega
          · have HX := Lib.hid hxe
            have hend' : (a.length : Int) ≤ k ∨ ((k : Int) < a.length ∧ x = false) := by
              by_cases hkk : (k : Int) < a.length
              · refine Or.inr ⟨hkk, ?_⟩
                rcases hend with h | h
                · exact h
                · omega
              · exact Or.inl (by omega)
            clear hxe hend
            have hend2 : ((a.length : Int) ≤ k ∧ x = true) ∨ ((a.length : Int) ≤ k ∧ x = false) ∨ ((k : Int) < a.length ∧ x = false) := by
              cases x <;> simp_all
            clear hend' HX hx
            have hj := joinL_length a fa.2.2
            have hj2 : (joinL a).length ≤ 97 := by have := fa.2.1; split at hj <;> omega
            have hsz : (⟨(joinL a).toArray⟩ : ByteArray).size ≤ 140737488351232 := by simp [ByteArray.size]; omega
            have hrl : readL (⟨(joinL a).toArray⟩ : ByteArray).data.toList = some a := by simpa using readL_join fa
            have hrs : (readL (⟨(joinL a).toArray⟩ : ByteArray).data.toList).isSome = true := by rw [hrl]; rfl
            have HRL := Lib.hid hrl
            have HRS := Lib.hid hrs
            clear hj hj2 hrl hrs
            obtain ⟨hB5, hw5, ia, ib⟩ := S2
            have M5 := Mem.nil w5
            rcases hend2 with ⟨hend3, rfl⟩ | ⟨hend3, rfl⟩ | ⟨hend3, rfl⟩
            all_goals
              go_wp2_with fail
              refine Calls.named ?_
              intro W6 hW6
              have hB6_ : Below w.heap.size w W6 := by rw [hW6]; exact hB5
              have hw6_ : Laid W6 := by rw [hW6]; exact hw5
              have M6_ := Mem.nil W6
              have hS6 : Below w5.heap.size w5 W6 := by rw [hW6]; exact (Below.refl _ _)
              have ia_ := IntsAt.below ia hS6
              have ib_ := IntsAt.below ib hS6
              clear hS6 ia ib
              clear hW6
              refine (parts_t HRL.out _ hsz hw6_).mono ?_
              rintro e w6 ⟨g, cp, rfl, hb6, hrow⟩
              have ia := IntsAt.below ia_ hb6
              have ib := IntsAt.below ib_ hb6
              clear ia_ ib_
              have hB6 := below_then hB6_ hb6
              have hw6 := hw6_.below hb6
              have M6 := M6_.below hb6
              clear M6_ hB6_ hb6 hw6_
              have S3 : NB w (.slice ao a.length cap) (.slice bo b.length cbp) a b w6 := ⟨hB6, hw6, ia, ib⟩
              have il := IntsAt.of_row hrow
              clear hB6 hw6 M6 ia ib hrow hB5 hw5 M5
              go_wp2_with fail
              go_loopw [15] (fun i W => ∃ (k : Nat), k ≤ a.length ∧ i = .int .i64 k ∧ NB w (.slice ao a.length cap) (.slice bo b.length cbp) a b W ∧ IntsAt W (.slice (some ⟨g, 0, none⟩) a.length cp) a) (fun i _ => a.length - (intOf i).toNat)
              case atStart => exact ⟨0, by omega, rfl, S3, il⟩
              case round =>
                obtain ⟨k2, hk2, rfl, S4, i4⟩ := hrel
                refine wp_named ?_
                intro w7 hW
                subst hW
                clear S3 il
                by_cases hlt : k2 < a.length
                · have hltI : (k2 : Int) < a.length := by omega
                  obtain ⟨ba, oa, rfl, cw⟩ := S4.ia.cellAt hlt
                  obtain ⟨bl, ol, hbl, dw⟩ := i4.cellAt hlt
                  simp only [Option.some.injEq, Addr.mk.injEq, and_true] at hbl
                  obtain ⟨rfl, rfl⟩ := hbl
                  rw [Nat.zero_add] at dw
                  have k0 : (0 : Int) ≤ k2 := by omega
                  obtain ⟨m, hm⟩ : ∃ m, m = a.getD k2 0 := ⟨_, rfl⟩
                  rw [← hm] at cw dw
                  clear hm
                  go_wp2_with fail
                  go_quiet (fail)
                  go_wp2_with fail
                  go_roundw
                  case rel => exact ⟨k2 + 1, by omega, by go_num, S4.below (below_draws _ _), i4.below (below_draws _ _)⟩
                  case measure => simp [intOf]; omega
                · have hge : (a.length : Int) ≤ k2 := by omega
                  obtain ⟨hB7, hw7, ia, ib⟩ := S4
                  have M7 := Mem.nil w7
                  clear i4
                  go_wp2_with fail
                  refine Calls.named ?_
                  intro W8 hW8
                  have hB8_ : Below w.heap.size w W8 := by rw [hW8]; exact hB7
                  have hw8_ : Laid W8 := by rw [hW8]; exact hw7
                  have M8_ := Mem.nil W8
                  have hS8 : Below w7.heap.size w7 W8 := by rw [hW8]; exact (Below.refl _ _)
                  have ia_ := IntsAt.below ia hS8
                  have ib_ := IntsAt.below ib hS8
                  clear hS8 ia ib
                  clear hW8
                  refine (nright_t HRS.out _ hsz hw8_).mono ?_
                  rintro e w8 ⟨rfl, hb8⟩
                  have ia := IntsAt.below ia_ hb8
                  have ib := IntsAt.below ib_ hb8
                  clear ia_ ib_
                  have hB8 := below_then hB8_ hb8
                  have hw8 := hw8_.below hb8
                  have M8 := M8_.below hb8
                  clear M8_ hB8_ hb8 hw8_
                  go_wp2_with fail
                  go_ret
                  exact ⟨rfl, hB8⟩
set_option maxHeartbeats 4000000 in
theorem nback_n (va vb : Value) (a b : List Int) (w : World) (hw : Laid w) (ia : IntsAt w va a) (ib : IntsAt w vb b) (fa : ¬ Fits a) (t : ByteArray) (is : Bool) (HB : ∀ W, IntsAt W vb b → Laid W → Calls Tryd.prog 10 #[vb] W fun e w' => e = .returned (.tuple #[.string t, .bool is]) ∧ Below W.heap.size W w') :
    Calls Tryd.prog 4 #[va, vb] w fun e w' => e = .returned (.bool true) ∧ Below w.heap.size w w' := by
  obtain ⟨ao, cap, rfl, la⟩ := ia.slice
  obtain ⟨bo, cbp, rfl, lb⟩ := ib.slice
  have hcs : (a.length ≤ 0 ∧ Hid (false = fitsB a 0)) ∨ (0 < a.length ∧ decide ((a.length : Int) ≤ 24) = false ∧ Hid (false = fitsB a 0)) ∨ (0 < a.length ∧ (a.length : Int) ≤ 24 ∧ Hid (true = fitsB a 0)) := by
    rw [fitsB_zero]
    by_cases h1 : 0 < a.length
    · by_cases h2 : (a.length : Int) ≤ 24
      · exact Or.inr (Or.inr ⟨h1, h2, Lib.hid (by simp; omega)⟩)
      · exact Or.inr (Or.inl ⟨h1, decide_eq_false h2, Lib.hid (by simp; omega)⟩)
    · exact Or.inl ⟨by omega, Lib.hid (by simp; omega)⟩
  rcases hcs with ⟨hp1, hf0⟩ | ⟨hp1, hp2, hf0⟩ | ⟨hp1, hp2, hf0⟩
  all_goals
    go_enter Tryd.func4, Tryd.ntmps4
    have hB0 := Below.refl w.heap.size w
    have M0 := Mem.nil w
    go_wp2_with fail
    refine Calls.named ?_
    intro W1 hW1
    have hB1_ : Below w.heap.size w W1 := by rw [hW1]; exact hB0
    have hw1_ : Laid W1 := by rw [hW1]; exact hw
    have M1_ := Mem.nil W1
    have hS1 : Below w.heap.size w W1 := by rw [hW1]; exact (Below.refl _ _)
    have ia_ := IntsAt.below ia hS1
    have ib_ := IntsAt.below ib hS1
    clear hS1 ia ib
    clear hW1
    refine (nexamples_any _ hw1_).mono ?_
    rintro e w1 ⟨rfl, hb1⟩
    have ia := IntsAt.below ia_ hb1
    have ib := IntsAt.below ib_ hb1
    clear ia_ ib_
    have hB1 := below_then hB1_ hb1
    have hw1 := hw1_.below hb1
    have M1 := M1_.below hb1
    clear M1_ hB1_ hb1 hw1_
    go_wp2_with fail
    refine Calls.named ?_
    intro W2 hW2
    have hB2_ : Below w.heap.size w W2 := by rw [hW2]; exact hB1
    have hw2_ : Laid W2 := by rw [hW2]; exact hw1
    have M2_ := Mem.nil W2
    have hS2 : Below w1.heap.size w1 W2 := by rw [hW2]; exact (Below.refl _ _)
    have ia_ := IntsAt.below ia hS2
    have ib_ := IntsAt.below ib hS2
    clear hS2 ia ib
    clear hW2
    refine (of_f (if_neg fa) _ ia_ hw2_).mono ?_
    rintro e w2 ⟨rfl, hb2⟩
    have ia := IntsAt.below ia_ hb2
    have ib := IntsAt.below ib_ hb2
    clear ia_ ib_
    have hB2 := below_then hB2_ hb2
    have hw2 := hw2_.below hb2
    have M2 := M2_.below hb2
    clear M2_ hB2_ hb2 hw2_
    go_wp2_with fail
    refine Calls.named ?_
    intro W3 hW3
    have hB3_ : Below w.heap.size w W3 := by rw [hW3]; exact hB2
    have hw3_ : Laid W3 := by rw [hW3]; exact hw2
    have M3_ := Mem.nil W3
    have hS3 : Below w2.heap.size w2 W3 := by rw [hW3]; exact (Below.refl _ _)
    have ia_ := IntsAt.below ia hS3
    have ib_ := IntsAt.below ib hS3
    clear hS3 ia ib
    clear hW3
    refine (HB _ ib_ hw3_).mono ?_
    rintro e w3 ⟨rfl, hb3⟩
    have ia := IntsAt.below ia_ hb3
    have ib := IntsAt.below ib_ hb3
    clear ia_ ib_
    have hB3 := below_then hB3_ hb3
    have hw3 := hw3_.below hb3
    have M3 := M3_.below hb3
    clear M3_ hB3_ hb3 hw3_
    have S0 : NB w (.slice ao a.length cap) (.slice bo b.length cbp) a b w3 := ⟨hB3, hw3, ia, ib⟩
    clear hB0 M0 hB1 hw1 M1 hB2 hw2 M2 hB3 hw3 M3 ia ib
    go_wp2_with fail
    go_loopw [10, 11] (fun f i W => ∃ (k : Nat) (x : Bool), k ≤ a.length ∧ i = .int .i64 k ∧ f = .bool x ∧ Hid (x = fitsB a k) ∧ NB w (.slice ao a.length cap) (.slice bo b.length cbp) a b W) (fun _ i _ => a.length - (intOf i).toNat)
    case atStart => exact ⟨0, _, by omega, rfl, rfl, hf0, S0⟩
    case round =>
      obtain ⟨k, x, hk, rfl, rfl, hx, S1⟩ := hrel
      refine wp_named ?_
      intro w4 hW
      subst hW
      clear S0 hf0
      by_cases hlt : k < a.length
      · have hltI : (k : Int) < a.length := by omega
        obtain ⟨ba, oa, rfl, cw⟩ := S1.ia.cellAt hlt
        have hx1 := fitsB_true (a := a) (k := k)
        have hx2 := fitsB_false (a := a) (k := k)
        obtain ⟨n, hn⟩ : ∃ n, n = a.getD k 0 := ⟨_, rfl⟩
        rw [← hn] at cw hx1
        have HN := Lib.hid hn
        clear hn
        cases x with
        | false =>
          have hx3 := Lib.hid (hx2 hx.out.symm)
          clear hx1 hx2
          go_wp2_with fail
          go_roundw
          case rel => exact ⟨k + 1, false, by omega, by go_num, rfl, Lib.hid hx3.out.symm, S1⟩
          case measure => simp [intOf]; omega
        | true =>
          have hx3 := Lib.hid (hx1 hx.out.symm)
          clear hx1 hx2
          by_cases n0 : 0 ≤ n
          · have e0 : decide (0 ≤ n) = true := by simpa using n0
            have hx4 : Hid (decide (n ≤ 999) = fitsB a (k + 1)) := Lib.hid (by rw [hx3.out, e0, Bool.true_and])
            clear n0
            go_wp2_with fail
            go_roundw
            case rel => exact ⟨k + 1, decide (n ≤ 999), by omega, by go_num, rfl, hx4, S1⟩
            case measure => simp [intOf]; omega
          · have e0 : decide (0 ≤ n) = false := by simpa using n0
            have hx4 : Hid (false = fitsB a (k + 1)) := Lib.hid (by rw [hx3.out, e0, Bool.false_and])
            clear n0
            go_wp2_with fail
            go_roundw
            case rel => exact ⟨k + 1, false, by omega, by go_num, rfl, hx4, S1⟩
            case measure => simp [intOf]; omega
      · obtain rfl : k = a.length := by omega
        obtain rfl : x = false := by rw [hx.out, fitsB_end]; exact decide_eq_false fa
        clear hx hlt hk
        go_wp2_with fail
        go_loopw [12, 13] (fun f i W => ∃ (k : Nat) (x : Bool), k ≤ a.length ∧ i = .int .i64 k ∧ f = .bool x ∧ Hid (x = sameB a b k) ∧ NB w (.slice ao a.length cap) (.slice bo b.length cbp) a b W) (fun _ i _ => a.length - (intOf i).toNat)
        case atStart => exact ⟨0, _, by omega, rfl, rfl, Lib.hid (sameB_zero a b).symm, S1⟩
        case round =>
          obtain ⟨k, x, hk, rfl, rfl, hx, S2⟩ := hrel
          refine wp_named ?_
          intro w5 hW
          subst hW
          clear S1
          have hgo : (k < a.length ∧ x = true) ∨ (x = decide (a = b) ∧ (x = false ∨ k = a.length)) := by
            cases x with
            | false =>
              exact Or.inr ⟨(decide_eq_false (sameB_no hx.out.symm)).symm, Or.inl rfl⟩
            | true =>
              by_cases hlt : k < a.length
              · exact Or.inl ⟨hlt, rfl⟩
              · obtain rfl : k = a.length := by omega
                exact Or.inr ⟨(decide_eq_true (sameB_end hx.out.symm)).symm, Or.inr rfl⟩
          rcases hgo with ⟨hlt, rfl⟩ | ⟨hxe, hend⟩
          · have hltI : (k : Int) < a.length := by omega
            obtain ⟨ba, oa, rfl, cw⟩ := S2.ia.cellAt hlt
            have hlb : k < b.length := by have := sameB_len hx.out.symm; omega
            have hltB : (k : Int) < b.length := by omega
            obtain ⟨bb, ob, rfl, dw⟩ := S2.ib.cellAt hlb
            have hx1 := sameB_step hx.out.symm
            have k0 : (0 : Int) ≤ k := by omega
            obtain ⟨m, hm⟩ : ∃ m, m = a.getD k 0 := ⟨_, rfl⟩
            obtain ⟨n, hn⟩ : ∃ n, n = b.getD k 0 := ⟨_, rfl⟩
            rw [← hm] at cw hx1
            rw [← hn] at dw hx1
            have HX1 := Lib.hid hx1
            clear hm hn hx1
            go_wp2_with fail
            go_quiet (fail)
            go_wp2_with fail
            go_roundw
            case rel => exact ⟨k + 1, _, by omega, by go_num, rfl, Lib.hid HX1.out.symm, S2.below (below_draws _ _)⟩
            case measure => simp [intOf]; omega
          · have HX := Lib.hid hxe
            have hend' : (a.length : Int) ≤ k ∨ ((k : Int) < a.length ∧ x = false) := by
              by_cases hkk : (k : Int) < a.length
              · refine Or.inr ⟨hkk, ?_⟩
                rcases hend with h | h
                · exact h
                · omega
              · exact Or.inl (by omega)
            clear hxe hend
            have hend2 : ((a.length : Int) ≤ k ∧ x = true) ∨ ((a.length : Int) ≤ k ∧ x = false) ∨ ((k : Int) < a.length ∧ x = false) := by
              cases x <;> simp_all
            clear hend' HX hx
            have HRL := Lib.hid nempty
            have HRS : Hid ((readL (⟨#[]⟩ : ByteArray).data.toList).isSome = false) := Lib.hid (by rw [nempty]; rfl)
            obtain ⟨hB5, hw5, ia, ib⟩ := S2
            have M5 := Mem.nil w5
            rcases hend2 with ⟨hend3, rfl⟩ | ⟨hend3, rfl⟩ | ⟨hend3, rfl⟩
            all_goals
              go_wp2_with fail
              refine Calls.named ?_
              intro W6 hW6
              have hB6_ : Below w.heap.size w W6 := by rw [hW6]; exact hB5
              have hw6_ : Laid W6 := by rw [hW6]; exact hw5
              have M6_ := Mem.nil W6
              have hS6 : Below w5.heap.size w5 W6 := by rw [hW6]; exact (Below.refl _ _)
              have ia_ := IntsAt.below ia hS6
              have ib_ := IntsAt.below ib hS6
              clear hS6 ia ib
              clear hW6
              refine (parts_f HRL.out _ (by decide) hw6_).mono ?_
              rintro e w6 ⟨rfl, hb6⟩
              have ia := IntsAt.below ia_ hb6
              have ib := IntsAt.below ib_ hb6
              clear ia_ ib_
              have hB6 := below_then hB6_ hb6
              have hw6 := hw6_.below hb6
              have M6 := M6_.below hb6
              clear M6_ hB6_ hb6 hw6_
              have S3 : NB w (.slice ao a.length cap) (.slice bo b.length cbp) a b w6 := ⟨hB6, hw6, ia, ib⟩
              clear hB6 hw6 M6 ia ib hB5 hw5 M5
              go_wp2_with fail
              go_loopw [15] (fun i W => i = .int .i64 0 ∧ NB w (.slice ao a.length cap) (.slice bo b.length cbp) a b W) (fun _ _ => 0)
              case atStart => exact ⟨rfl, S3⟩
              case round =>
                obtain ⟨rfl, S4⟩ := hrel
                refine wp_named ?_
                intro w7 hW
                subst hW
                clear S3
                obtain ⟨hB7, hw7, ia, ib⟩ := S4
                have M7 := Mem.nil w7
                go_wp2_with fail
                refine Calls.named ?_
                intro W8 hW8
                have hB8_ : Below w.heap.size w W8 := by rw [hW8]; exact hB7
                have hw8_ : Laid W8 := by rw [hW8]; exact hw7
                have M8_ := Mem.nil W8
                have hS8 : Below w7.heap.size w7 W8 := by rw [hW8]; exact (Below.refl _ _)
                have ia_ := IntsAt.below ia hS8
                have ib_ := IntsAt.below ib hS8
                clear hS8 ia ib
                clear hW8
                refine (nright_t HRS.out _ (by decide) hw8_).mono ?_
                rintro e w8 ⟨rfl, hb8⟩
                have ia := IntsAt.below ia_ hb8
                have ib := IntsAt.below ib_ hb8
                clear ia_ ib_
                have hB8 := below_then hB8_ hb8
                have hw8 := hw8_.below hb8
                have M8 := M8_.below hb8
                clear M8_ hB8_ hb8 hw8_
                go_wp2_with fail
                go_ret
                exact ⟨rfl, hB8⟩
theorem nameBack_walk (va : Value) (a : List Int) (vb : Value) (b : List Int) (w : World) (ia : IntsAt w va a) (ib : IntsAt w vb b) (hw : Laid w) :
    Calls Tryd.prog 4 #[va, vb] w fun e w' => e = .returned (.bool true) ∧ Below w.heap.size w w' := by
  by_cases fa : Fits a
  · by_cases fb : Fits b
    · exact nback_yy va vb a b w hw ia ib fa fb
    · exact nback_yn va vb a b w hw ia ib fa fb
  · by_cases fb : Fits b
    · exact nback_n va vb a b w hw ia ib fa _ _ (fun W h k => of_t (if_pos fb) W h k)
    · exact nback_n va vb a b w hw ia ib fa _ _ (fun W h k => of_f (if_neg fb) W h k)
end Go.Proofs.YthgmogaiigkgfaaDoor
