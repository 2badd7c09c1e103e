/- The reference's package of chapter 6: Right, Of, Child, Under, Order. -/
import Derived.Test.YthgmogaiigkgfaaDoorRef6
import Derived.Test.YthgmogaiigkgfaaDoorNameLaws
import Derived.Test.YthgmogaiigkgfaaDoorOpen
namespace Go.Proofs.YthgmogaiigkgfaaDoor
open Go.RowKit
theorem parts6_t {s : ByteArray} {l : List Int} (hf : readL s.data.toList = some l) (w : World) (hs : s.size ≤ 1048576) (hw : Laid w) :
    Calls Tryd.prog 15 #[.string s] w fun e w' => ∃ g cap, e = .returned (.slice (some ⟨g, 0, none⟩) l.length cap) ∧ Below w.heap.size w w' ∧ w'.ownsRow w.heap.size 3 1 (.slice (some ⟨g, 0, none⟩) l.length cap) l.length (ic l) := by
  refine (parts6_any s w hs hw).mono ?_
  rw [hf]
  rintro e w' ⟨v, rfl, hrow, hb, -⟩
  have hr : w'.ownsRow w.heap.size 3 1 v l.length (ic l) := hrow
  obtain ⟨g, cap, rfl, _⟩ := ownsRow_ints hr (readL_some hf).1.1
  exact ⟨g, cap, rfl, hb, hr⟩
theorem parts6_f {s : ByteArray} (hf : readL s.data.toList = none) (w : World) (hs : s.size ≤ 1048576) (hw : Laid w) :
    Calls Tryd.prog 15 #[.string s] w fun e w' => e = .returned (.slice none 0 0) ∧ Below w.heap.size w w' := by
  refine (parts6_any s w hs hw).mono ?_
  rw [hf]
  rintro e w' ⟨v, rfl, hrow, hb, hnil⟩
  rw [hnil rfl]
  exact ⟨rfl, hb⟩
theorem right6_any (s : ByteArray) (w : World) (hs : s.size ≤ 1048576) (hw : Laid w) :
    Calls Tryd.prog 19 #[.string s] w fun e w' => e = .returned (.bool (readL s.data.toList).isSome) ∧ Below w.heap.size w w' := by
  cases h : readL s.data.toList with
  | none =>
    have H := Lib.hid h
    clear h
    go_enter Tryd.func19, Tryd.ntmps19
    have hB0 := Below.refl w.heap.size w
    have M0 := Mem.nil w
    go_wp2_with fail
    refine Calls.named ?_
    intro W1 hW1
    have hB1_ : Below w.heap.size w W1 := by rw [hW1]; exact hB0
    have hw1_ : Laid W1 := by rw [hW1]; exact hw
    have M1_ := Mem.nil W1
    clear hW1
    refine (parts6_f H.out _ hs hw1_).mono ?_
    rintro e w1 ⟨rfl, hb1⟩
    have hB1 := below_then hB1_ hb1
    have hw1 := hw1_.below hb1
    have M1 := M1_.below hb1
    clear M1_ hB1_ hb1 hw1_
    go_wp2_with fail
    go_ret
    exact ⟨rfl, hB1⟩
  | some l =>
    have H := Lib.hid h
    have hl := (readL_some h).1.1
    have hl2 : 0 < l.length := by omega
    clear h
    go_enter Tryd.func19, Tryd.ntmps19
    have hB0 := Below.refl w.heap.size w
    have M0 := Mem.nil w
    go_wp2_with fail
    refine Calls.named ?_
    intro W1 hW1
    have hB1_ : Below w.heap.size w W1 := by rw [hW1]; exact hB0
    have hw1_ : Laid W1 := by rw [hW1]; exact hw
    have M1_ := Mem.nil W1
    clear hW1
    refine (parts6_t H.out _ hs hw1_).mono ?_
    rintro e w1 ⟨g, cp, rfl, hb1, hrow⟩
    have hB1 := below_then hB1_ hb1
    have hw1 := hw1_.below hb1
    have M1 := M1_.below hb1
    clear M1_ hB1_ hb1 hw1_
    clear hrow
    go_wp2_with fail
    go_ret
    exact ⟨rfl, hB1⟩
set_option maxHeartbeats 2000000 in
theorem of6_any (v : Value) (l : List Int) (w : World) (ia : IntsAt w v l) (hl : l.length ≤ 1048577) (_ : Laid w) :
    Calls Tryd.prog 11 #[v] w (MadeEnds w l) := by
  obtain ⟨ao, cap, rfl, _⟩ : ∃ ao cap, v = .slice ao l.length cap ∧ True := by
    rcases ia with ⟨ao, cap, hv, h0⟩ | ⟨b, off, cap, hv, h1, h2, _⟩
    · subst h0; exact ⟨ao, cap, hv, trivial⟩
    · exact ⟨_, _, hv, trivial⟩
  go_enter Tryd.func11, Tryd.ntmps11
  go_wp2_with fail
  go_loopw [4, 5] (fun u i W => ∃ (k : Nat) (t : List UInt8), k ≤ l.length ∧ i = .int .i64 k ∧ u = .string ⟨t.toArray⟩ ∧ Hid (t = joinL (l.take k)) ∧ (t.length ≤ 4 * k) ∧ Hid (∀ j, j < k → 0 ≤ l.getD j 0 ∧ l.getD j 0 ≤ 999) ∧ Below w.heap.size w W) (fun _ i _ => l.length - (intOf i).toNat)
  case atStart => exact ⟨0, [], by omega, rfl, rfl, Lib.hid rfl, by simp, Lib.hid (fun j hj => by omega), Below.refl _ _⟩
  case round =>
    obtain ⟨k, t, hk, rfl, rfl, ht, htl, hr, hb⟩ := hrel
    refine wp_named ?_
    intro W hW
    subst hW
    by_cases hlt : k < l.length
    · have hltI : (k : Int) < l.length := by omega
      obtain ⟨b, off, rfl, cw⟩ : ∃ b off, ao = some ⟨b, off, none⟩ ∧ W.cell? ⟨b, off + k, none⟩ = some (.int .i64 (l.getD k 0)) := by
        rcases ia.below hb with ⟨_, _, _, h0⟩ | ⟨b, off, cap', hv, h1, h2, hc⟩
        · subst h0; simp at hlt
        · simp only [Value.slice.injEq] at hv
          exact ⟨b, off, hv.1, hc k hlt⟩
      obtain ⟨n, hn⟩ : ∃ n, n = l.getD k 0 := ⟨_, rfl⟩
      rw [← hn] at cw
      have HN := Lib.hid hn
      clear hn
      have hnf : ¬ (0 ≤ n ∧ n ≤ 999) → ¬ Fits l := fun h hf => h (by
        have := hf.2.2 (l.getD k 0) (by simp [hlt])
        rw [← HN.out] at this
        exact this)
      by_cases n0 : n < 0
      · have HE := Lib.hid (MadeEnds.no (hnf (by omega)) hb)
        clear hnf hb ht hr
        go_wp2_with fail
        go_ret2
        exact HE.out
      · have n0' : 0 ≤ n := by omega
        clear n0
        by_cases n1 : 999 < n
        · have HE := Lib.hid (MadeEnds.no (hnf (by omega)) hb)
          clear hnf hb ht hr
          go_wp2_with fail
          go_ret2
          exact HE.out
        · have n1' : n ≤ 999 := by omega
          have hst := joinL_step l k hlt
          rw [← HN.out, ← ht.out] at hst
          have hil := (itoa_small_bytes ⟨n0', n1'⟩).2.2.1
          have hr' : Hid (∀ j, j < k + 1 → 0 ≤ l.getD j 0 ∧ l.getD j 0 ≤ 999) := Lib.hid (fun j hj => by
            by_cases hjk : j < k
            · exact hr.out j hjk
            · obtain rfl : j = k := by omega
              rw [← HN.out]
              exact ⟨n0', n1'⟩)
          clear n1 hnf
          have htl2 : t.length ≤ 4194308 := by omega
          by_cases k0 : k = 0
          · rw [if_pos k0, List.append_nil] at hst
            have k1 : (k : Int) ≤ 0 := by omega
            have HS := Lib.hid hst.symm
            have hcat := Lib.hid (cat_list t (Lib.itoa n))
            clear hst k0
            go_wp2_with fail
            refine (rtext_any _ _ (inI64_999 ⟨n0', n1'⟩)).mono ?_
            rintro e w2 ⟨rfl, hb2⟩
            have hbl := below_then hb hb2
            clear hb hb2
            go_wp2_with fail
            rw [hcat.out]
            go_roundw
            case rel => exact ⟨k + 1, _, by omega, by go_num, rfl, HS, by simp; omega, hr', hbl⟩
            case measure => simp [intOf]; omega
          · rw [if_neg k0] at hst
            have k1 : (0 : Int) < k := by omega
            have HS := Lib.hid hst.symm
            have hcat := Lib.hid (cat_list t [46])
            have hcat2 := Lib.hid (cat_list (t ++ [46]) (Lib.itoa n))
            clear hst k0
            go_wp2_with fail
            refine (rtext_any _ _ (inI64_999 ⟨n0', n1'⟩)).mono ?_
            rintro e w2 ⟨rfl, hb2⟩
            have hbl := below_then hb hb2
            clear hb hb2
            go_wp2_with fail
            go_roundw
            case rel => exact ⟨k + 1, _, by omega, by go_num, by rw [hcat.out, hcat2.out], HS, by simp; omega, hr', hbl⟩
            case measure => simp [intOf]; omega
    · obtain rfl : k = l.length := by omega
      have ht2 := ht.out
      rw [List.take_length] at ht2
      by_cases hf : Fits l
      · have HE := Lib.hid (MadeEnds.yes hf hb)
        have h1 : 0 < l.length := by have := hf.1; omega
        have h2 : (l.length : Int) ≤ 24 := by have := hf.2.1; omega
        have HT := Lib.hid ht2
        have h4 : ((l.length : Int) == 0) = false := by rw [beq_eq_false_iff_ne]; omega
        clear ht2 ht hr hb hf hlt
        go_wp2_with fail
        go_ret2
        rw [HT.out]
        exact HE.out
      · have HE := Lib.hid (MadeEnds.no hf hb)
        have hc : ((l.length : Int) == 0) = true ∨ (((l.length : Int) == 0) = false ∧ (24 : Int) < l.length) := by
          by_cases h0 : l.length = 0
          · exact Or.inl (by rw [beq_iff_eq]; omega)
          · refine Or.inr ⟨by rw [beq_eq_false_iff_ne]; omega, ?_⟩
            by_cases h24 : l.length ≤ 24
            · refine absurd ⟨by omega, h24, fun n hn => ?_⟩ hf
              obtain ⟨j, hj, rfl⟩ := List.getElem_of_mem hn
              have := hr.out j hj
              simpa [hj] using this
            · omega
        clear ht2 ht hr hb hf hlt
        rcases hc with hc | ⟨hc, hc2⟩
        all_goals
          go_wp2_with fail
          go_ret2
          exact HE.out
set_option maxRecDepth 100000 in
set_option maxHeartbeats 2000000 in
theorem child6_any (s : ByteArray) (n : Int) (w : World) (hs : s.size ≤ 1048576) (hw : Laid w) :
    Calls Tryd.prog 13 #[.string s, .int .i64 n] w (ChildEnds w (childS s.data.toList n)) := by
  cases h : readL s.data.toList with
  | none =>
    have hf : childS s.data.toList n = none := by unfold childS; rw [h]
    have hr : (readL s.data.toList).isSome = false := by rw [h]; rfl
    have HR := Lib.hid hr
    rw [hf]
    clear h hf hr
    go_enter Tryd.func13, Tryd.ntmps13
    go_wp2_with fail
    refine (right6_any s _ hs hw).mono ?_
    rw [HR.out]
    rintro e w1 ⟨rfl, hb⟩
    go_wp2_with fail
    go_ret2
    exact ⟨rfl, hb⟩
  | some l =>
    obtain ⟨i0, hi, hz0, hz1, hz2⟩ := info_parts intInfo
    have hf : childS s.data.toList n = ofL (l ++ [n]) := by unfold childS; rw [h]
    have hr : (readL s.data.toList).isSome = true := by rw [h]; rfl
    have HR := Lib.hid hr
    have H := Lib.hid h
    have hlen := (readL_some h).1.2.1
    have hlen1 := (readL_some h).1.1
    rw [hf]
    clear h hf hr
    go_enter Tryd.func13, Tryd.ntmps13
    go_wp2_with fail
    refine (right6_any s _ hs hw).mono ?_
    rw [HR.out]
    rintro e w1 ⟨rfl, hb1⟩
    go_wp2_with fail
    refine (parts6_t H.out _ hs (hw.below hb1)).mono ?_
    rintro e w2 ⟨g, cap, rfl, hb2, hown⟩
    have hb := below_then hb1 hb2
    have hz := hb.size
    rcases hown.2 with ⟨h0, _⟩ | ⟨g', cap', cur, hv, hg1, hg2, hg3, hg4, hg5, hg6⟩
    · cases h0
    simp only [Value.slice.injEq, Option.some.injEq, Addr.mk.injEq, true_and, and_true] at hv
    obtain ⟨rfl, rfl⟩ := hv
    clear hb1 hb2
    go_wp2_with (at_builtin; refine wpList_append_own _ rfl _ _ 22 rfl w2.heap.size 3 i0 (.int .i64 0) 1 8 Tryd.underlying22 hi hz0 hz1 hz2 rfl (by decide) (.slice none 0 0) 0 [] rfl (World.ownsRow_nil _ _ _ _) ⟨g, 0, none⟩ l.length cap (ic l) rfl (by rw [ic_len]; omega) ?c1 ?c2 ?c3 ?c4 ?c5 ?_)
    case c1 =>
      intro j u hj
      rw [addr_add rfl, Nat.zero_add]
      unfold World.cell?
      rw [hg2]
      show cur[j]? = some u
      rw [← hg6] at hj
      have hjl : j < l.length := by
        have := (List.getElem?_eq_some_iff.1 hj).1
        simp at this
        omega
      rw [List.getElem?_take_of_lt (by omega)] at hj
      simpa using hj
    case c2 =>
      intro u hu
      unfold ic at hu
      rw [List.mem_map] at hu
      obtain ⟨q, _, rfl⟩ := hu
      rfl
    case c3 => unfold maxLen; omega
    case c4 => omega
    case c5 => exact Nat.le_refl _
    intro v' w3 hown' hgrow _
    have hb3 : Below w.heap.size w w3 := hb.grown hgrow hz (fun q hq => by simp [Value.ownBlock] at hq)
    have hz3 := hb3.size
    obtain ⟨ao3, cap3, rfl⟩ := ownsRow_slice hown'
    have hw2 := hgrow.size
    clear hown hgrow hg2 hg5 hg6 hb
    go_wp2_with (at_builtin; refine wpList_append_own _ rfl _ _ 22 rfl w.heap.size 3 i0 (.int .i64 0) 1 8 Tryd.underlying22 hi hz0 hz1 hz2 rfl (by decide) _ _ _ rfl ((ownsRow_mono hown' hz).alloc _) ⟨w3.heap.size, 0, none⟩ 1 1 [.int .i64 n] rfl rfl ?d1 ?d2 ?d3 ?d4 ?d5 ?_)
    case d1 =>
      intro j u hj
      match j, hj with
      | 0, hj => simp at hj; subst hj; simp [Addr.add]
    case d2 => intro u hu; simp at hu; subst hu; rfl
    case d3 => unfold maxLen; omega
    case d4 => omega
    case d5 => simp; omega
    intro v'' w4 hown'' hgrow _
    have hb4 : Below w.heap.size w w4 := (below_al hb3 _).grown hgrow (by simp; omega) (fun q hq => by have := (hown'.lt q hq).1; omega)
    have hI : IntsAt w4 v'' (l ++ [n]) := IntsAt.of_row (B := w.heap.size) (by rw [ic_app]; simpa [ic] using hown'')
    have HI := Lib.hid hI
    clear hI hown' hown'' hgrow hb3
    go_wp2_with fail
    refine (of6_any _ _ _ HI.out (by simp; omega) (hw.below hb4)).mono ?_
    rintro e w5 ⟨rfl, hb5⟩
    have HB5 := Lib.hid (below_then hb4 hb5)
    clear hb4 hb5
    go_wp2_with fail
    go_ret2
    exact ⟨rfl, HB5.out⟩
end Go.Proofs.YthgmogaiigkgfaaDoor
