/- The reference's package of chapter 6: Under, Order. -/
import Derived.Test.YthgmogaiigkgfaaDoorRef6b
namespace Go.Proofs.YthgmogaiigkgfaaDoor
open Go.RowKit
theorem below_dn (w : World) (n : Nat) : Below w.heap.size w (w.drewN n) := ⟨rfl, rfl, rfl, Nat.le_refl _, fun _ _ => rfl⟩
set_option maxHeartbeats 2000000 in
theorem under6_any (a b : ByteArray) (w : World) (ha : a.size ≤ 1048576) (hb : b.size ≤ 1048576) (hw : Laid w) :
    Calls Tryd.prog 21 #[.string a, .string b] w fun e w' => e = .returned (.bool (underS a.data.toList b.data.toList)) ∧ Below w.heap.size w w' := by
  cases h : readL a.data.toList with
  | none =>
    have hf : underS a.data.toList b.data.toList = false := by unfold underS; rw [h]
    rw [hf]
    have H := Lib.hid h
    clear h hf
    cases h2 : readL b.data.toList with
    | none =>
      have H2 := Lib.hid h2
      clear h2
      go_enter Tryd.func21, Tryd.ntmps21
      have hB0 := Below.refl w.heap.size w
      have M0 := Mem.nil w
      go_wp2_with fail
      refine Calls.named ?_
      intro W1 hW1
      have hB1_ : Below w.heap.size w W1 := by rw [hW1]; exact hB0
      have hw1_ : Laid W1 := by rw [hW1]; exact hw
      have M1_ := Mem.nil W1
      clear hW1
      refine (parts6_f H.out _ ha hw1_).mono ?_
      rintro e w1 ⟨rfl, hb1⟩
      have hB1 := below_then hB1_ hb1
      have hw1 := hw1_.below hb1
      have M1 := M1_.below hb1
      clear M1_ hB1_ hb1 hw1_
      go_wp2_with fail
      refine Calls.named ?_
      intro W2 hW2
      have hB2_ : Below w.heap.size w W2 := by rw [hW2]; exact hB1
      have hw2_ : Laid W2 := by rw [hW2]; exact hw1
      have M2_ := Mem.nil W2
      clear hW2
      refine (parts6_f H2.out _ hb hw2_).mono ?_
      rintro e w2 ⟨rfl, hb2⟩
      have hB2 := below_then hB2_ hb2
      have hw2 := hw2_.below hb2
      have M2 := M2_.below hb2
      clear M2_ hB2_ hb2 hw2_
      go_wp2_with fail
      go_ret
      exact ⟨rfl, hB2⟩
    | some y =>
      have H2 := Lib.hid h2
      clear h2
      go_enter Tryd.func21, Tryd.ntmps21
      have hB0 := Below.refl w.heap.size w
      have M0 := Mem.nil w
      go_wp2_with fail
      refine Calls.named ?_
      intro W1 hW1
      have hB1_ : Below w.heap.size w W1 := by rw [hW1]; exact hB0
      have hw1_ : Laid W1 := by rw [hW1]; exact hw
      have M1_ := Mem.nil W1
      clear hW1
      refine (parts6_f H.out _ ha hw1_).mono ?_
      rintro e w1 ⟨rfl, hb1⟩
      have hB1 := below_then hB1_ hb1
      have hw1 := hw1_.below hb1
      have M1 := M1_.below hb1
      clear M1_ hB1_ hb1 hw1_
      go_wp2_with fail
      refine Calls.named ?_
      intro W2 hW2
      have hB2_ : Below w.heap.size w W2 := by rw [hW2]; exact hB1
      have hw2_ : Laid W2 := by rw [hW2]; exact hw1
      have M2_ := Mem.nil W2
      clear hW2
      refine (parts6_t H2.out _ hb hw2_).mono ?_
      rintro e w2 ⟨g, cp, rfl, hb2, hrow⟩
      have hB2 := below_then hB2_ hb2
      have hw2 := hw2_.below hb2
      have M2 := M2_.below hb2
      clear M2_ hB2_ hb2 hw2_
      clear hrow
      go_wp2_with fail
      go_ret
      exact ⟨rfl, hB2⟩
  | some x =>
    have H := Lib.hid h
    have lx1 := (readL_some h).1.1
    have lx2 := (readL_some h).1.2.1
    have ex : ((x.length : Int) == 0) = false := by rw [beq_eq_false_iff_ne]; omega
    cases h2 : readL b.data.toList with
    | none =>
      have hf : underS a.data.toList b.data.toList = false := by unfold underS; rw [h, h2]
      rw [hf]
      have H2 := Lib.hid h2
      clear h h2 hf
      go_enter Tryd.func21, Tryd.ntmps21
      have hB0 := Below.refl w.heap.size w
      have M0 := Mem.nil w
      go_wp2_with fail
      refine Calls.named ?_
      intro W1 hW1
      have hB1_ : Below w.heap.size w W1 := by rw [hW1]; exact hB0
      have hw1_ : Laid W1 := by rw [hW1]; exact hw
      have M1_ := Mem.nil W1
      clear hW1
      refine (parts6_t H.out _ ha hw1_).mono ?_
      rintro e w1 ⟨g, cp, rfl, hb1, hrow⟩
      have hB1 := below_then hB1_ hb1
      have hw1 := hw1_.below hb1
      have M1 := M1_.below hb1
      clear M1_ hB1_ hb1 hw1_
      clear hrow
      go_wp2_with fail
      refine Calls.named ?_
      intro W2 hW2
      have hB2_ : Below w.heap.size w W2 := by rw [hW2]; exact hB1
      have hw2_ : Laid W2 := by rw [hW2]; exact hw1
      have M2_ := Mem.nil W2
      clear hW2
      refine (parts6_f H2.out _ hb hw2_).mono ?_
      rintro e w2 ⟨rfl, hb2⟩
      have hB2 := below_then hB2_ hb2
      have hw2 := hw2_.below hb2
      have M2 := M2_.below hb2
      clear M2_ hB2_ hb2 hw2_
      go_wp2_with fail
      go_ret
      exact ⟨rfl, hB2⟩
    | some y =>
      have hf : underS a.data.toList b.data.toList = (decide (x.length ≤ y.length) && (x == y.take x.length)) := by unfold underS; rw [h, h2]
      obtain ⟨R, hR⟩ : ∃ R, R = underS a.data.toList b.data.toList := ⟨_, rfl⟩
      rw [← hR]
      rw [← hR] at hf
      have HF := Lib.hid hf
      have H2 := Lib.hid h2
      have ly1 := (readL_some h2).1.1
      have ly2 := (readL_some h2).1.2.1
      have ey : ((y.length : Int) == 0) = false := by rw [beq_eq_false_iff_ne]; omega
      clear h h2 hf hR
      go_enter Tryd.func21, Tryd.ntmps21
      have hB0 := Below.refl w.heap.size w
      have M0 := Mem.nil w
      go_wp2_with fail
      refine Calls.named ?_
      intro W1 hW1
      have hB1_ : Below w.heap.size w W1 := by rw [hW1]; exact hB0
      have hw1_ : Laid W1 := by rw [hW1]; exact hw
      have M1_ := Mem.nil W1
      clear hW1
      refine (parts6_t H.out _ ha hw1_).mono ?_
      rintro e w1 ⟨g, cp, rfl, hb1, hrow⟩
      have hB1 := below_then hB1_ hb1
      have hw1 := hw1_.below hb1
      have M1 := M1_.below hb1
      clear M1_ hB1_ hb1 hw1_
      go_wp2_with fail
      refine Calls.named ?_
      intro W2 hW2
      have hB2_ : Below w.heap.size w W2 := by rw [hW2]; exact hB1
      have hw2_ : Laid W2 := by rw [hW2]; exact hw1
      have M2_ := Mem.nil W2
      have hS2 : Below w1.heap.size w1 W2 := by rw [hW2]; exact (Below.refl _ _)
      have hrow_ := ownsRow_below hrow hS2
      clear hS2 hrow
      clear hW2
      refine (parts6_t H2.out _ hb hw2_).mono ?_
      rintro e w2 ⟨g2, cp2, rfl, hb2, hrow2⟩
      have hrow := ownsRow_below hrow_ hb2
      clear hrow_
      have hB2 := below_then hB2_ hb2
      have hw2 := hw2_.below hb2
      have M2 := M2_.below hb2
      clear M2_ hB2_ hb2 hw2_
      clear hB1 hw1 M1 M0 hB0
      by_cases hle : x.length ≤ y.length
      · have hleI : (x.length : Int) ≤ y.length := by omega
        have i1 := IntsAt.of_row hrow
        have i2 := IntsAt.of_row hrow2
        clear hrow hrow2
        go_wp2_with fail
        go_loopw [7] (fun i W => ∃ k : Nat, k ≤ x.length ∧ i = .int .i64 k ∧ Below w.heap.size w W ∧ IntsAt W (.slice (some ⟨g, 0, none⟩) x.length cp) x ∧ IntsAt W (.slice (some ⟨g2, 0, none⟩) y.length cp2) y ∧ Hid (∀ j, j < k → x.getD j 0 = y.getD j 0)) (fun i _ => x.length - (intOf i).toNat)
        case atStart => exact ⟨0, by omega, rfl, hB2, i1, i2, Lib.hid (fun j hj => by omega)⟩
        case round =>
          obtain ⟨k, hk, rfl, hbl, j1, j2, hr⟩ := hrel
          refine wp_named ?_
          intro W hW
          subst hW
          clear i1 i2 hB2
          by_cases hlt : k < x.length
          · have hltI : (k : Int) < x.length := by omega
            have hltJ : (k : Int) < y.length := by omega
            have k0 : (0 : Int) ≤ k := by omega
            obtain ⟨b1, o1, hv1, cw⟩ : ∃ b off, (some ⟨g, 0, none⟩ : Option Addr) = some ⟨b, off, none⟩ ∧ W.cell? ⟨b, off + k, none⟩ = some (.int .i64 (x.getD k 0)) := by
              rcases j1 with ⟨_, _, _, h0⟩ | ⟨b, off, cap', hv, h1, h2, hc⟩
              · subst h0; simp at hlt
              · simp only [Value.slice.injEq] at hv
                exact ⟨b, off, hv.1, hc k hlt⟩
            obtain ⟨b2, o2, hv2, dw⟩ : ∃ b off, (some ⟨g2, 0, none⟩ : Option Addr) = some ⟨b, off, none⟩ ∧ W.cell? ⟨b, off + k, none⟩ = some (.int .i64 (y.getD k 0)) := by
              rcases j2 with ⟨_, _, _, h0⟩ | ⟨b, off, cap', hv, h1, h2, hc⟩
              · subst h0; simp at ly1
              · simp only [Value.slice.injEq] at hv
                exact ⟨b, off, hv.1, hc k (by omega)⟩
            simp only [Option.some.injEq, Addr.mk.injEq, and_true] at hv1 hv2
            obtain ⟨rfl, rfl⟩ := hv1
            obtain ⟨rfl, rfl⟩ := hv2
            rw [Nat.zero_add] at cw dw
            obtain ⟨m, hm⟩ : ∃ m, m = x.getD k 0 := ⟨_, rfl⟩
            obtain ⟨n, hn⟩ : ∃ n, n = y.getD k 0 := ⟨_, rfl⟩
            rw [← hm] at cw
            rw [← hn] at dw
            have HM := Lib.hid hm
            have HN := Lib.hid hn
            clear hm hn
            by_cases hmn : m = n
            · have hr2 : Hid (∀ j, j < k + 1 → x.getD j 0 = y.getD j 0) := Lib.hid (fun j hj => by
                by_cases hjk : j < k
                · exact hr.out j hjk
                · obtain rfl : j = k := by omega
                  rw [← HM.out, ← HN.out]
                  exact hmn)
              subst hmn
              clear HM HN
              go_wp2_with fail
              go_quiet (fail)
              go_wp2_with fail
              go_roundw
              case rel => exact ⟨k + 1, by omega, by go_num, below_then hbl (below_dn _ _), j1.below (below_dn _ _), j2.below (below_dn _ _), hr2⟩
              case measure => simp [intOf]; omega
            · have hq : (m != n) = true := by rw [bne_iff_ne]; exact hmn
              have hRf : R = false := by
                rw [HF.out, Bool.and_eq_false_iff]
                right
                rw [beq_eq_false_iff_ne]
                intro e
                apply hmn
                rw [HM.out, HN.out, e]
                simp [hlt, show k < y.length by omega]
              subst hRf
              clear HM HN hmn
              go_wp2_with fail
              go_quiet (fail)
              go_wp2_with fail
              go_ret
              exact ⟨rfl, below_then hbl (below_dn _ _)⟩
          · obtain rfl : k = x.length := by omega
            have hRt : R = true := by
              rw [HF.out, Bool.and_eq_true, decide_eq_true_eq, beq_iff_eq]
              refine ⟨hle, List.ext_getElem (by simp; omega) fun i h1 h2 => ?_⟩
              have := hr.out i h1
              simpa [h1, show i < y.length by omega] using this
            subst hRt
            clear hlt
            go_wp2_with fail
            go_ret
            exact ⟨rfl, hbl⟩
      · have hgt : (y.length : Int) < x.length := by omega
        have hRf : R = false := by
          rw [HF.out, Bool.and_eq_false_iff]
          exact Or.inl (decide_eq_false hle)
        subst hRf
        clear hrow hrow2 hle
        go_wp2_with fail
        go_ret
        exact ⟨rfl, hB2⟩
end Go.Proofs.YthgmogaiigkgfaaDoor
