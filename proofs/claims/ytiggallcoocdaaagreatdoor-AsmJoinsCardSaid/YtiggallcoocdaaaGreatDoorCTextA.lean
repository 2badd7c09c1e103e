/- cnf.Text. -/
import Derived.Test.YtiggallcoocdaaaGreatDoorPText
import Derived.Test.YtiggallcoocdaaaGreatDoorLabelA
namespace Go.Proofs.YtiggallcoocdaaaGreatDoor
open Go.RowKit Go.Shelf
attribute [local go_sem] Oper.semAt_some
theorem textP_ne_all (c : UInt8) : textP c ≠ [] := by
  have h2 : ∀ i : Fin 256, textP (UInt8.ofNat i.val) ≠ [] := by decide +kernel
  have := h2 ⟨c.toNat, c.toNat_lt⟩
  rwa [UInt8.ofNat_toNat] at this
theorem joinP_nil : ∀ {l : List UInt8}, joinP l = [] → l = []
  | [], _ => rfl
  | [c], h => absurd h (textP_ne_all c)
  | c :: d :: l, h => by simp [joinP] at h
set_option maxRecDepth 100000 in
set_option maxHeartbeats 2000000 in
theorem ctext_go (s : ByteArray) (hs : s.size ≤ 140737488351232) (w : World) (hL : Letters w) (h0 : normL s.data.toList ≠ []) (h1 : normL s.data.toList ≠ [0]) :
    Calls Tryz.prog 46 #[.string s] w fun e w' => e = .returned (.string ⟨(joinP (normL s.data.toList)).toArray⟩) ∧ Below w.heap.size w w' := by
  have hn := norm_any s hs
  have hlen := normL_length s.data.toList
  obtain ⟨N, hN⟩ : ∃ N, N = normL s.data.toList := ⟨_, rfl⟩
  rw [← hN] at hn hlen h0 h1 ⊢
  clear hN
  obtain ⟨A, hA⟩ : ∃ A, A = Ending.returned (.string ⟨(joinP N).toArray⟩) := ⟨_, rfl⟩
  rw [← hA]
  have HA := Lib.hid hA
  clear hA
  obtain ⟨f, hf⟩ : ∃ f : ByteArray, f = ⟨N.toArray⟩ := ⟨_, rfl⟩
  have hfl : N = f.data.toList := by rw [hf]
  have hfs : f.size ≤ 140737488351232 := by rw [hf]; show N.toArray.size ≤ _; simp; omega
  have e0 : f.toList.isEmpty = false := by
    rw [ByteArray.toList_eq, ← hfl]
    cases N with
    | nil => exact absurd rfl h0
    | cons a b => rfl
  have e1 : (f.toList == [0]) = false := by
    rw [ByteArray.toList_eq, ← hfl, beq_eq_false_iff_ne]
    exact h1
  rw [← hf] at hn
  have HF := Lib.hid hfl
  have HL := Lib.hid hL
  clear hf h0 h1 hfl
  refine (callsIn_wide (n := 9)).1 ?_
  refine callsIn_of_wp_marks Tryz.func46 rfl trivial ?_ rfl
  simp only [Tryz.ntmps46, List.size_toArray, List.length_cons, List.length_nil, Nat.reduceAdd, Nat.reduceSub, Array.replicate_succ, Array.replicate_zero, List.push_toArray, List.append_toArray, List.nil_append, List.cons_append]
  gi_wp2_with fail
  refine ⟨trivial, ?_⟩
  refine (callsIn_wide.2 (hn _)).mono ?_
  rintro e w1 ⟨rfl, hb1⟩
  have hw1 := hb1.size
  gi_wp2_with fail
  refine ⟨trivial, ?_⟩
  refine (each_in Fence.wide _ trivial rfl _ _).mono ?_
  rintro e w' ⟨rfl, rfl⟩
  gi_wp2_with fail
  have h3 : Below w.heap.size w ((w1.alloc (.cells #[.pointer none, .slice none 0 0] 76)).alloc (.cells #[.string f] 46)) := below_al (below_al hb1 _) _
  have bB : BlA w1.heap.size (w1.heap.size + 2) [] ((w1.alloc (.cells #[.pointer none, .slice none 0 0] 76)).alloc (.cells #[.string f] 46)) :=
    ⟨by omega, by simp, _, _, (Lib.alloc_old _ _ w1.heap.size (by simp)).trans (heap_alloc_new w1 _), Or.inl rfl, World.ownsRow_nil _ _ _ _⟩
  have bS := Boxed.new (w1.alloc (.cells #[.pointer none, .slice none 0 0] 76)) 46 (.string f)
  rw [World.size_alloc] at bS
  refine wpIn_rangeFunc_ownG rfl (by omega) (gf := 85) (lb := #[.pointer (some ⟨w1.heap.size + 1, 0, none⟩)]) rfl trivial (enters_of Tryz.func85 (by kernel_rfl) rfl)
    (each_stops Fence.wide _ trivial rfl (by omega) (w1.heap.size + 1) f hfs N HF.out _ bS) KB.trans (KB.put (by simp)) (Below.refl _ _) (fun _ => rfl)
    (fun pre W => BlA w1.heap.size (w1.heap.size + 2) (joinP pre) W ∧ Boxed W (w1.heap.size + 1) 46 (.string f) ∧ Below w.heap.size w W)
    (fun _ _ _ => False)
    (OwnFrom.and (Own.from (BlA.own _ _ joinP) _) (OwnFrom.and (Own.from (boxed_own _ _ _) _) (ownFrom_below (Nat.le_refl _) (by simp; omega))))
    (fun _ _ _ _ _ hs _ _ => hs)
    ⟨bB, bS, h3⟩
    (fun x => { tmps := #[.string f, undef, .string ⟨#[]⟩, .pointer (some ⟨w1.heap.size, 0, none⟩), .int .u8 (x.toNat : Int), .string s, .string f, .string f, .bool false, .bool false, .bool false, .bool false, .string f, .func (.func 85) #[] #[.pointer (some ⟨w1.heap.size + 1, 0, none⟩)], .int .u8 (x.toNat : Int), undef, undef, undef, undef, undef, undef, undef], defers := [] }) ?assign ?body ?done ?stop
  case assign =>
    intro l x W K hK
    gi_wp2
    exact hK
  case body =>
    rintro l pre x W ⟨hA, hS, hB⟩ hlt
    have hjl := joinP_length pre
    have htl := textP_length (c := x)
    have htx := ptext_any x
    have HS : Hid (joinP (pre ++ [x]) = joinP pre ++ (if pre.isEmpty then [] else [38]) ++ textP x) := Lib.hid (joinP_snoc pre x)
    have hE : joinP pre = [] → pre = [] := joinP_nil
    have hE2 : pre.length ≤ 64 := by omega
    obtain ⟨T, hT⟩ : ∃ T, T = joinP pre := ⟨_, rfl⟩
    obtain ⟨X, hX⟩ : ∃ X, X = textP x := ⟨_, rfl⟩
    rw [← hT] at HS hA hjl hE
    rw [← hX] at htl htx HS
    have hXs : (⟨X.toArray⟩ : ByteArray).size = X.length := rfl
    have HXs := Lib.hid hXs
    have hlt0 := fun (W' : World) (hb : Below w.heap.size w W') => HL.out.below hb
    gi_wp2_with fail
    refine ⟨trivial, ?_⟩
    refine (CallsIn.inRound l (callsIn_wide.2 (blen_any _ _ _ _ hA))).mono ?_
    rintro e _ ⟨rfl, rfl⟩
    by_cases hT0 : T = []
    · have hT1 : (T.length : Int) = 0 := by rw [hT0]; rfl
      have HT : Hid (T ++ (if pre.isEmpty then [] else [38]) ++ X = T ++ X) := Lib.hid (by rw [hE hT0]; simp)
      clear hT0 hT hX hXs hE
      gi_wp2_with fail
      refine ⟨trivial, ?_⟩
      refine (CallsIn.inRound l (callsIn_wide.2 (htx _ (hlt0 _ hB)))).mono ?_
      rintro e w2 ⟨rfl, hb2⟩
      have hA2 := hA.below hb2
      have hk2 : BlK w1.heap.size (w1.heap.size + 2) W w2 := BlK.of_below hb2 hA.size
      gi_wp2_with fail
      refine ⟨trivial, ?_⟩
      refine (CallsIn.inRound l (callsIn_wide.2 (writeString2 _ _ _ _ _ hA2 (by rw [HXs.out]; omega)))).mono ?_
      rintro e w3 ⟨rfl, hA3, hk3⟩
      gi_wp2
      have hk := hk2.trans hk3
      have hkb := hk.kb (x := w1.heap.size + 1) (by omega) (by omega)
      exact ⟨hk.others.from _, hkb, by rw [HS.out, HT.out]; exact hA3, boxed_kb hS hkb, hk.below hB hw1 (by omega)⟩
    · have hT1 : (0 : Int) < T.length := by
        cases T with
        | nil => exact absurd rfl hT0
        | cons a b => simp
      have HT : Hid (T ++ (if pre.isEmpty then [] else [38]) ++ X = T ++ [38] ++ X) := Lib.hid (by
        cases pre with
        | nil => exact absurd (by rw [hT]; rfl) hT0
        | cons a b => rfl)
      clear hT0 hT hX hXs hE
      gi_wp2_with fail
      refine ⟨trivial, ?_⟩
      refine (CallsIn.inRound l (callsIn_wide.2 (writeByte2 _ _ _ 38 _ hA (by omega)))).mono ?_
      rintro e w2 ⟨rfl, hA2, hk2⟩
      have hB2 := hk2.below hB hw1 (by omega)
      gi_wp2_with fail
      refine ⟨trivial, ?_⟩
      refine (CallsIn.inRound l (callsIn_wide.2 (htx _ (hlt0 _ hB2)))).mono ?_
      rintro e w3 ⟨rfl, hb3⟩
      have hA3 := hA2.below hb3
      have hk3 := hk2.trans (BlK.of_below hb3 hA2.size)
      gi_wp2_with fail
      refine ⟨trivial, ?_⟩
      refine (CallsIn.inRound l (callsIn_wide.2 (writeString2 _ _ _ _ _ hA3 (by rw [HXs.out]; simp only [List.length_append, List.length_cons, List.length_nil]; omega)))).mono ?_
      rintro e w4 ⟨rfl, hA4, hk4⟩
      gi_wp2
      have hk := hk3.trans hk4
      have hkb := hk.kb (x := w1.heap.size + 1) (by omega) (by omega)
      exact ⟨hk.others.from _, hkb, by rw [HS.out, HT.out]; exact hA4, boxed_kb hS hkb, hk.below hB hw1 (by omega)⟩
  case done =>
    rintro D ys W hD rfl ⟨hA, hS, hB⟩ hK
    gi_wp2_with fail
    refine ⟨trivial, ?_⟩
    refine (callsIn_wide.2 (builderString_k _ _ _ hA.bld (by have := hA.lt; have := hA.size; omega) hB hw1 hK)).mono ?_
    rintro e w2 ⟨rfl, hb2, hK2⟩
    gi_wp2
    refine ⟨by simp, .inl ⟨_, _, rfl, run_takeDeferred hK2, ?_⟩⟩
    refine ⟨_, results_tmp rfl _ _ _, ?_, ?_⟩
    · exact HA.out.symm
    · exact hb2.trans (belowK_b (w := w) (Nat.le_refl _) w2 D _ _ (by simp at hD; omega) hK2 rfl rfl)
  case stop =>
    rintro D c pre W _ _ h _
    exact h.elim
theorem ctext_any (s : ByteArray) (hs : s.size ≤ 140737488351232) (w : World) (hL : Letters w) :
    Calls Tryz.prog 46 #[.string s] w fun e w' => e = .returned (.string ⟨(textFm s.data.toList).toArray⟩) ∧ Below w.heap.size w w' := by
  unfold textFm textN
  by_cases h0 : normL s.data.toList = []
  · rw [if_pos h0]
    have hn := norm_any s hs
    rw [h0] at hn
    go_enter Tryz.func46, Tryz.ntmps46
    go_wp2_with fail
    refine (hn _).mono ?_
    rintro e w1 ⟨rfl, hb1⟩
    go_wp2_with fail
    go_ret
    exact ⟨rfl, hb1⟩
  · rw [if_neg h0]
    by_cases h1 : normL s.data.toList = [0]
    · rw [if_pos h1]
      have hn := norm_any s hs
      rw [h1] at hn
      go_enter Tryz.func46, Tryz.ntmps46
      go_wp2_with fail
      refine (hn _).mono ?_
      rintro e w1 ⟨rfl, hb1⟩
      go_wp2_with fail
      go_ret
      exact ⟨rfl, hb1⟩
    · rw [if_neg h1]
      exact ctext_go s hs w hL h0 h1
end Go.Proofs.YtiggallcoocdaaaGreatDoor
