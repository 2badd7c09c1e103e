/- prin.Parse. -/
import Derived.Test.YtiggallcoocdaaaGreatDoorPText
import Derived.Test.YtiggallcoocdaaaGreatDoorZ6
namespace Go.Proofs.YtiggallcoocdaaaGreatDoor
open Go.RowKit Go.Shelf
attribute [local go_sem] Oper.semAt_some
theorem idx_contains (c : UInt8) : ∀ l : List UInt8, (l.contains c = true ∧ 0 ≤ Lib.indexByte l c) ∨ (l.contains c = false ∧ Lib.indexByte l c = -1)
  | [] => .inr ⟨rfl, rfl⟩
  | a :: l => by
    unfold Lib.indexByte
    by_cases h : a = c
    · subst h
      exact .inl ⟨by simp, by simp⟩
    · have h1 : (a == c) = false := by simpa using h
      have h2 : (c == a) = false := by simpa using fun e => h e.symm
      rcases idx_contains c l with ⟨g1, g2⟩ | ⟨g1, g2⟩
      · have h3 : (Lib.indexByte l c == -1) = false := beq_eq_false_iff_ne.2 (by omega)
        exact .inl ⟨by rw [List.contains_cons, h2, g1]; rfl, by simp only [h1, h3, Bool.false_eq_true, if_false]; omega⟩
      · exact .inr ⟨by rw [List.contains_cons, h2, g1]; rfl, by simp [h1, g2]⟩
theorem idxB (s : ByteArray) (c : UInt8) (w : World) :
    Calls Tryz.prog 113 #[.string s, .int .u8 (c.toNat : Int)] w fun e w' => e = .returned (.int .i64 (Lib.indexByte s.data.toList c)) ∧ w' = w := by
  obtain ⟨R, hR⟩ : ∃ R, R = Lib.indexByte s.data.toList c := ⟨_, rfl⟩
  have hc := fun W => Go.Proofs.Tryz.stringslite_IndexByte s (c.toNat : Int) W
  have he : ((c.toNat : Int)).toNat.toUInt8 = c := by
    rw [Int.toNat_natCast]
    exact UInt8.ofNat_toNat
  rw [he, ← hR] at hc
  rw [← hR]
  obtain ⟨x, hx⟩ : ∃ x : Int, x = c.toNat := ⟨_, rfl⟩
  rw [← hx] at hc ⊢
  clear hR he hx
  go_enter Tryz.func113, Tryz.ntmps113
  go_wp2_with fail
  refine (hc _).mono ?_
  rintro e _ ⟨rfl, rfl⟩
  go_wp2_with fail
  go_ret
  exact ⟨rfl, rfl⟩
def bitStep (L : List UInt8) (a : UInt8) (p : Fin 6) : UInt8 := if L.contains (UInt8.ofNat (97 + p.val)) then a ||| (1 <<< UInt8.ofNat p.val) else a
def bitsL (L : List UInt8) (pre : List (Fin 6)) : UInt8 := pre.foldl (bitStep L) 0
theorem bitsL_snoc (L : List UInt8) (pre : List (Fin 6)) (p : Fin 6) : bitsL L (pre ++ [p]) = bitStep L (bitsL L pre) p := by simp [bitsL]
theorem bitsL_all (L : List UInt8) : bitsL L (plc 63 6) = bitsOf L 6 := by
  have h : plc 63 6 = [0, 1, 2, 3, 4, 5] := by decide +kernel
  rw [h]
  rfl
theorem bit_or (a : UInt8) (X : Nat) (hX : X < 6) : bits .or .u8 (a.toNat : Int) (IntKind.u8.wrap (2 ^ X)) = ((a ||| (1 <<< UInt8.ofNat X)).toNat : Int) := by
  have h1 : ∀ j : Fin 6, IntKind.u8.wrap (2 ^ j.val) = (((1 : UInt8) <<< UInt8.ofNat j.val).toNat : Int) := by decide +kernel
  rw [h1 ⟨X, hX⟩, u8_or_nat _ _ a.toNat_lt (UInt8.toNat_lt _), UInt8.toNat_or]
theorem keeps_below {W W' : World} (h : Below W.heap.size W W') : KeepsOthers W W' := ⟨h.size, fun k _ hk _ => (h.block k (Array.getElem?_eq_some_iff.1 hk).1).trans hk⟩
def ppEnd (L : List UInt8) : Ending := .returned (.tuple #[.int .u8 (((parseP L).getD 0).toNat : Int), .bool (parseP L).isSome])
set_option maxRecDepth 100000 in
set_option maxHeartbeats 2000000 in
theorem pparse_go (s : ByteArray) (w : World) (hL : Letters w) (h1 : s.data.toList ≠ [45]) (h2 : s.data.toList ≠ []) (h3 : s.size ≤ 11) :
    Calls Tryz.prog 95 #[.string s] w fun e w' => e = ppEnd s.data.toList ∧ Below w.heap.size w w' := by
  obtain ⟨L, hLL⟩ : ∃ L, L = s.data.toList := ⟨_, rfl⟩
  have e1 : (s.toList == [45]) = false := by
    rw [ByteArray.toList_eq, beq_eq_false_iff_ne]
    exact h1
  have e2 : s.toList.isEmpty = false := by
    rw [ByteArray.toList_eq, List.isEmpty_eq_false_iff]
    exact h2
  have e2' : (s.toList == []) = false := by
    rw [ByteArray.toList_eq, beq_eq_false_iff_ne]
    exact h2
  have e3 : ¬ (11 : Int) < (s.size : Int) := by omega
  have HP : Hid (ppEnd s.data.toList = if bitsOf L 6 = 0 then .returned (.tuple #[.int .u8 0, .bool false]) else if textP (bitsOf L 6) = L then .returned (.tuple #[.int .u8 ((bitsOf L 6).toNat : Int), .bool true]) else .returned (.tuple #[.int .u8 0, .bool false])) := Lib.hid (by
    unfold ppEnd
    have hsz : s.data.toList.length = s.size := Array.length_toList
    rw [parseP_eq, ← hLL, if_neg (by rw [hLL]; exact h1), if_neg (by rw [hLL, hsz]; rintro (e | e); exact h2 e; omega)]
    by_cases g : bitsOf L 6 = 0
    · rw [if_pos g, if_pos g]
      rfl
    · rw [if_neg g, if_neg g]
      by_cases g2 : textP (bitsOf L 6) = L
      · rw [if_pos g2, if_pos g2]
        rfl
      · rw [if_neg g2, if_neg g2]
        rfl)
  obtain ⟨A, hA⟩ : ∃ A, A = ppEnd s.data.toList := ⟨_, rfl⟩
  rw [← hA] at HP ⊢
  have hix := idxB s
  rw [← hLL] at hix
  have HLL := Lib.hid hLL
  have HL := Lib.hid hL
  clear hLL hL h1 h2 h3 hA
  refine (callsIn_wide (n := 9)).1 ?_
  refine callsIn_of_wp_marks Tryz.func95 rfl trivial ?_ rfl
  simp only [Tryz.ntmps95, List.size_toArray, List.length_cons, List.length_nil, Nat.reduceAdd, Nat.reduceSub, Array.replicate_succ, Array.replicate_zero, List.push_toArray, List.append_toArray, List.nil_append, List.cons_append]
  gi_wp2_with fail
  refine ⟨trivial, ?_⟩
  refine (places_in Fence.wide _ trivial rfl _ _).mono ?_
  rintro e w' ⟨rfl, rfl⟩
  gi_wp2_with fail
  have b0 := Boxed.new w 9 (.string s)
  have b1 := Boxed.new (w.alloc (.cells #[.string s] 9)) 5 (.int .u8 0)
  have bS := Boxed.new ((w.alloc (.cells #[.string s] 9)).alloc (.cells #[.int .u8 0] 5)) 5 (.int .u8 63)
  simp only [World.size_alloc] at b1 bS
  have h3 : Below w.heap.size w (((w.alloc (.cells #[.string s] 9)).alloc (.cells #[.int .u8 0] 5)).alloc (.cells #[.int .u8 63] 5)) := below_al (below_al (below_al (Below.refl _ _) _) _) _
  refine wpIn_rangeFunc_ownG rfl (by omega) (gf := 106) (lb := #[.pointer (some ⟨w.heap.size + 1 + 1, 0, none⟩)]) rfl trivial (enters_of Tryz.func106 (by kernel_rfl) rfl)
    (places_stops Fence.wide _ trivial rfl (by omega) (w.heap.size + 1 + 1) 63 _ bS) KB.trans (KB.put (by simp)) (Below.refl _ _) (fun _ => rfl)
    (fun pre W => Boxed W w.heap.size 9 (.string s) ∧ Boxed W (w.heap.size + 1) 5 (.int .u8 ((bitsL L pre).toNat : Int)) ∧ Boxed W (w.heap.size + 1 + 1) 5 (.int .u8 63) ∧ Below w.heap.size w W)
    (fun _ _ _ => False)
    (OwnFrom.and (Own.from (boxed_own _ _ _) _) (OwnFrom.and (Own.from (boxed_own _ _ (fun pre : List (Fin 6) => .int .u8 ((bitsL L pre).toNat : Int))) _) (OwnFrom.and (Own.from (boxed_own _ _ _) _) (ownFrom_below (Nat.le_refl _) (by simp; omega)))))
    (fun _ _ _ _ _ hs _ _ => hs)
    ⟨(b0.alloc _).alloc _, b1.alloc _, bS, h3⟩
    (fun x => { tmps := #[.string s, .pointer (some ⟨w.heap.size, 0, none⟩), .int .u8 0, .bool false, .pointer (some ⟨w.heap.size + 1, 0, none⟩), .int .i64 ((x.val : Nat) : Int), .string s, .bool false, .string s, .bool false, .bool false, .string s, .int .i64 (s.size : Int), .bool false, .bool false, .func (.func 106) #[] #[.pointer (some ⟨w.heap.size + 1 + 1, 0, none⟩)], .int .i64 ((x.val : Nat) : Int), undef, undef, undef, undef, undef, undef, undef, undef, undef, undef, undef, undef, undef, undef, undef, undef, undef, undef, undef], defers := [] }) ?assign ?body ?done ?stop
  case assign =>
    intro l x W K hK
    gi_wp2
    exact hK
  case body =>
    rintro l pre x W ⟨h0, hv, hS, hB⟩ hlt
    have hx := x.isLt
    have HS : Hid (bitsL L (pre ++ [x]) = bitStep L (bitsL L pre) x) := Lib.hid (bitsL_snoc L pre x)
    obtain ⟨X, hX⟩ : ∃ X : Nat, X = x.val := ⟨_, rfl⟩
    have HSx : Hid (bitStep L (bitsL L pre) x = if L.contains (UInt8.ofNat (97 + X)) then bitsL L pre ||| (1 <<< UInt8.ofNat X) else bitsL L pre) := Lib.hid (by rw [hX]; rfl)
    rw [← hX] at hx ⊢
    have hxI : (X : Int) < 6 := by omega
    obtain ⟨ch, hch⟩ : ∃ ch : UInt8, ch = UInt8.ofNat (97 + X) := ⟨_, rfl⟩
    have hlt0 := fun (W' : World) (hb : Below w.heap.size w W') => (HL.out.below hb) X hx
    rw [← hch] at hlt0 HSx
    obtain ⟨V, hV⟩ : ∃ V, V = bitsL L pre := ⟨_, rfl⟩
    rw [← hV] at HS HSx hv
    have hor := bit_or V X hx
    clear hX hch hV
    have hc0 := hlt0 _ hB
    have ct := h0.cell
    have cv := hv.cell
    have fv := hv.frozen
    have hic := hix ch
    rcases idx_contains ch L with ⟨g1, g2⟩ | ⟨g1, g2⟩
    · obtain ⟨j, hj⟩ : ∃ j, j = Lib.indexByte L ch := ⟨_, rfl⟩
      rw [← hj] at g2 hic
      have g3 : ¬ j < 0 := by omega
      obtain ⟨V2, hV2⟩ : ∃ V2, V2 = V ||| (1 <<< UInt8.ofNat X) := ⟨_, rfl⟩
      have HN : Hid (bitsL L (pre ++ [x]) = V2) := Lib.hid (by rw [HS.out, HSx.out, g1, hV2]; rfl)
      rw [← hV2] at hor
      clear hV2
      clear hj g1
      gi_wp2_with fail
      refine wpIn_region_any (by kernel_rfl) ?_
      change wpAnyIn _ _ _ _ _ _ _ _ _ (World.drew _)
      repeat' (first
        | with_reducible exact AllReadyIn.nil
        | with_reducible refine AllReadyIn.cons rfl (fun K hK => ?_) ?_
        | refine wpAnyIn_ready (rs := [0, 1]) (by decide +kernel) (by simp) ?_
        | refine wpAnyIn_ready (rs := [1]) (by decide +kernel) (by simp) ?_
        | refine wpAnyIn_ready (rs := [0, 2]) (by decide +kernel) (by simp) ?_
        | refine wpAnyIn_ready (rs := [2]) (by decide +kernel) (by simp) ?_
        | refine wpAnyIn_ready (rs := [0, 3]) (by decide +kernel) (by simp) ?_
        | refine wpAnyIn_ready (rs := [3]) (by decide +kernel) (by simp) ?_
        | refine wpAnyIn_ready (rs := [0]) (by decide +kernel) (by simp) ?_
        | refine wpAnyIn_ready (rs := [4]) (by decide +kernel) (by simp) ?_
        | refine wpAnyIn_ready (rs := [5]) (by decide +kernel) (by simp) ?_
        | refine wpAnyIn_done (by decide +kernel) ?_ _
        | (go_simp; with_reducible refine hK _ _ ?_; clear hK K)
        | (go_simp; refine ⟨trivial, ?_⟩; refine (CallsIn.inRound l (callsIn_wide.2 (hic _))).mono ?_; rintro e _ ⟨rfl, rfl⟩; refine hK _ _ ?_; clear hK K))
      all_goals gi_wp2_with fail
      all_goals gi_region
      all_goals
        gi_wp2_with fail
        have hd : Below (W.setCell ⟨w.heap.size + 1, 0, none⟩ (.int .u8 (V2.toNat : Int))).heap.size (W.setCell ⟨w.heap.size + 1, 0, none⟩ (.int .u8 (V2.toNat : Int))) (W.setCell ⟨w.heap.size + 1, 0, none⟩ (.int .u8 (V2.toNat : Int))).drew.drew := below_dr (below_dr (Below.refl _ _))
        have q0 := h0.other (B' := w.heap.size + 1) (by omega) (.int .u8 (V2.toNat : Int))
        have q1 := hv.set (.int .u8 (V2.toNat : Int))
        have qS := hS.other (B' := w.heap.size + 1) (by omega) (.int .u8 (V2.toNat : Int))
        have hBs := hB.setCell (p := ⟨w.heap.size + 1, 0, none⟩) (by simp) (.int .u8 (V2.toNat : Int))
        refine ⟨((KeepsOthers.setCell _ _ _).trans (keeps_below hd)).from _, KB.trans (Below.heap_setCell _ _ _ _ (show w.heap.size + 1 + 1 ≠ w.heap.size + 1 by omega)) (KB.of_below hd qS.lt), boxed_kb q0 (KB.of_below hd q0.lt), ?_, boxed_kb qS (KB.of_below hd qS.lt), below_then hBs hd⟩
        rw [HN.out]
        exact boxed_kb q1 (KB.of_below hd q1.lt)
    · have HN : Hid (bitsL L (pre ++ [x]) = V) := Lib.hid (by rw [HS.out, HSx.out, g1]; rfl)
      rw [g2] at hic
      gi_wp2_with fail
      refine wpIn_region_any (by kernel_rfl) ?_
      change wpAnyIn _ _ _ _ _ _ _ _ _ (World.drew _)
      repeat' (first
        | with_reducible exact AllReadyIn.nil
        | with_reducible refine AllReadyIn.cons rfl (fun K hK => ?_) ?_
        | refine wpAnyIn_ready (rs := [0, 1]) (by decide +kernel) (by simp) ?_
        | refine wpAnyIn_ready (rs := [1]) (by decide +kernel) (by simp) ?_
        | refine wpAnyIn_ready (rs := [0, 2]) (by decide +kernel) (by simp) ?_
        | refine wpAnyIn_ready (rs := [2]) (by decide +kernel) (by simp) ?_
        | refine wpAnyIn_ready (rs := [0, 3]) (by decide +kernel) (by simp) ?_
        | refine wpAnyIn_ready (rs := [3]) (by decide +kernel) (by simp) ?_
        | refine wpAnyIn_ready (rs := [0]) (by decide +kernel) (by simp) ?_
        | refine wpAnyIn_ready (rs := [4]) (by decide +kernel) (by simp) ?_
        | refine wpAnyIn_ready (rs := [5]) (by decide +kernel) (by simp) ?_
        | refine wpAnyIn_done (by decide +kernel) ?_ _
        | (go_simp; with_reducible refine hK _ _ ?_; clear hK K)
        | (go_simp; refine ⟨trivial, ?_⟩; refine (CallsIn.inRound l (callsIn_wide.2 (hic _))).mono ?_; rintro e _ ⟨rfl, rfl⟩; refine hK _ _ ?_; clear hK K))
      all_goals
        gi_wp2_with fail
        have hd : Below W.heap.size W W.drew := below_dr (Below.refl _ _)
        exact ⟨(keeps_below hd).from _, KB.of_below hd hS.lt, boxed_kb h0 (KB.of_below hd h0.lt), by rw [HN.out]; exact boxed_kb hv (KB.of_below hd hv.lt), boxed_kb hS (KB.of_below hd hS.lt), below_then hB hd⟩
  case done =>
    rintro D ys W hD rfl ⟨h0, hv, hS, hB⟩ hK
    rw [bitsL_all] at hv
    have hKeep : ∀ W2, Below W.heap.size W W2 → W2.heap[D]? = some (.deferred (some [])) := fun W2 hb => (hb.block D (Array.getElem?_eq_some_iff.1 hK).1).trans hK
    obtain ⟨V, hV⟩ : ∃ V, V = bitsOf L 6 := ⟨_, rfl⟩
    rw [← hV] at HP hv
    have pt := fun p : After W => (boxed_kb h0 (KB.of_below p.h h0.lt)).cell
    have pv := fun p : After W => (boxed_kb hv (KB.of_below p.h hv.lt)).cell
    by_cases g : V = 0
    · have HA : Hid (A = .returned (.tuple #[.int .u8 0, .bool false])) := Lib.hid (by rw [HP.out, if_pos g])
      subst g
      have e0 : ((0 : UInt8).toNat : Int) = 0 := rfl
      rw [e0] at pv
      clear HP hV
      gi_wp2_with fail
      refine wpIn_wide.2 ?_
      refine wp_region_after (by kernel_rfl) (by kernel_rfl) ?_
      repeat (go_big_quiet_step (fail))
      refine wpQuiet_nil ?_
      rintro _ ⟨p1, rfl⟩
      have hK2 := hKeep _ p1.h
      have hB2 := below_then hB p1.h
      gi_wp2_with fail
      refine ⟨by simp, .inl ⟨_, _, rfl, run_takeDeferred hK2, ?_⟩⟩
      refine ⟨.tuple #[.int .u8 0, .bool false], ?_, HA.out.symm, hB2.trans (belowK_b (w := w) (Nat.le_refl _) _ D _ _ (by simp at hD; omega) hK2 rfl rfl)⟩
      simp [results, Tryz.results95, go_sem]
    · have g0 : ((V.toNat : Int) == 0) = false := by
        rw [beq_eq_false_iff_ne]
        intro e
        apply g
        apply UInt8.toNat_inj.1
        show V.toNat = 0
        omega
      have g0' : ¬ (V.toNat : Int) = 0 := by simpa using g0
      have htx := fun p : After W => ptext_any V p.world (HL.out.below (below_then hB p.h))
      by_cases g2 : textP V = L
      · have HA : Hid (A = .returned (.tuple #[.int .u8 (V.toNat : Int), .bool true])) := Lib.hid (by rw [HP.out, if_neg g, if_pos g2])
        have hcmp : ((⟨(textP V).toArray⟩ : ByteArray).toList == s.toList) = true := by
          rw [ByteArray.toList_eq, ByteArray.toList_eq, ← HLL.out, beq_iff_eq]
          exact g2
        obtain ⟨P, hP⟩ : ∃ P : ByteArray, P = ⟨(textP V).toArray⟩ := ⟨_, rfl⟩
        rw [← hP] at htx hcmp
        clear HP hV hP g2 g
        gi_wp2_with fail
        refine wpIn_wide.2 ?_
        refine wp_region_after (by kernel_rfl) (by kernel_rfl) ?_
        repeat (go_big_quiet_step ((go_at_call 68; with_reducible exact After.call (htx _))))
        refine wpQuiet_nil ?_
        rintro _ ⟨p1, rfl⟩
        obtain ⟨w2, hb2, hw2⟩ : ∃ w2, Below W.heap.size W w2 ∧ p1.world = w2 := ⟨_, p1.h, rfl⟩
        rw [hw2]
        clear hw2 p1 pt pv
        have ct2 := (boxed_kb h0 (KB.of_below hb2 h0.lt)).cell
        have cv2 := (boxed_kb hv (KB.of_below hb2 hv.lt)).cell
        have hK2 := hKeep _ hb2
        gi_wp2_with fail
        refine ⟨by simp, .inl ⟨_, _, rfl, run_takeDeferred hK2, ?_⟩⟩
        refine ⟨.tuple #[.int .u8 (V.toNat : Int), .bool true], ?_, HA.out.symm, (below_then hB hb2).trans (belowK_b (w := w) (Nat.le_refl _) w2 D _ _ (by simp at hD; omega) hK2 rfl rfl)⟩
        simp [results, Tryz.results95, go_sem]
      · have HA : Hid (A = .returned (.tuple #[.int .u8 0, .bool false])) := Lib.hid (by rw [HP.out, if_neg g, if_neg g2])
        have hcmp : ((⟨(textP V).toArray⟩ : ByteArray).toList == s.toList) = false := by
          rw [ByteArray.toList_eq, ByteArray.toList_eq, ← HLL.out, beq_eq_false_iff_ne]
          exact g2
        obtain ⟨P, hP⟩ : ∃ P : ByteArray, P = ⟨(textP V).toArray⟩ := ⟨_, rfl⟩
        rw [← hP] at htx hcmp
        clear HP hV hP g2 g
        gi_wp2_with fail
        refine wpIn_wide.2 ?_
        refine wp_region_after (by kernel_rfl) (by kernel_rfl) ?_
        repeat (go_big_quiet_step ((go_at_call 68; with_reducible exact After.call (htx _))))
        refine wpQuiet_nil ?_
        rintro _ ⟨p1, rfl⟩
        obtain ⟨w2, hb2, hw2⟩ : ∃ w2, Below W.heap.size W w2 ∧ p1.world = w2 := ⟨_, p1.h, rfl⟩
        rw [hw2]
        clear hw2 p1 pt pv
        have ct2 := (boxed_kb h0 (KB.of_below hb2 h0.lt)).cell
        have cv2 := (boxed_kb hv (KB.of_below hb2 hv.lt)).cell
        have hK2 := hKeep _ hb2
        gi_wp2_with fail
        refine ⟨by simp, .inl ⟨_, _, rfl, run_takeDeferred hK2, ?_⟩⟩
        refine ⟨.tuple #[.int .u8 0, .bool false], ?_, HA.out.symm, (below_then hB hb2).trans (belowK_b (w := w) (Nat.le_refl _) w2 D _ _ (by simp at hD; omega) hK2 rfl rfl)⟩
        simp [results, Tryz.results95, go_sem]
  case stop =>
    rintro D c pre W _ _ h _
    exact h.elim
set_option maxRecDepth 100000 in
set_option maxHeartbeats 1000000 in
theorem pparse_any (s : ByteArray) (w : World) (hs : s.size ≤ 140737488351232) (hL : Letters w) :
    Calls Tryz.prog 95 #[.string s] w fun e w' => e = ppEnd s.data.toList ∧ Below w.heap.size w w' := by
  have hsz : s.data.toList.length = s.size := Array.length_toList
  by_cases h1 : s.data.toList = [45]
  · have HP : Hid (ppEnd s.data.toList = .returned (.tuple #[.int .u8 0, .bool true])) := Lib.hid (by
      unfold ppEnd
      rw [parseP_eq, if_pos h1]
      rfl)
    have e1 : (s.toList == [45]) = true := by rw [ByteArray.toList_eq, h1]; rfl
    obtain ⟨A, hA⟩ : ∃ A, A = ppEnd s.data.toList := ⟨_, rfl⟩
    rw [← hA] at HP ⊢
    clear hA h1 hsz
    have hB := below_al (Below.refl w.heap.size w) (.cells #[.string s] 9)
    go_enter Tryz.func95, Tryz.ntmps95
    go_wp2_with fail
    go_ret2
    exact ⟨HP.out.symm, hB⟩
  · by_cases h2 : s.data.toList = []
    · have HP : Hid (ppEnd s.data.toList = .returned (.tuple #[.int .u8 0, .bool false])) := Lib.hid (by
        unfold ppEnd
        rw [parseP_eq, if_neg h1, if_pos (.inl h2)]
        rfl)
      have e1 : (s.toList == [45]) = false := by rw [ByteArray.toList_eq, h2]; rfl
      have e2 : s.toList.isEmpty = true := by rw [ByteArray.toList_eq, h2]; rfl
      obtain ⟨A, hA⟩ : ∃ A, A = ppEnd s.data.toList := ⟨_, rfl⟩
      rw [← hA] at HP ⊢
      clear hA h1 hsz h2
      have hB := below_al (Below.refl w.heap.size w) (.cells #[.string s] 9)
      go_enter Tryz.func95, Tryz.ntmps95
      go_wp2_with fail
      go_ret2
      exact ⟨HP.out.symm, hB⟩
    · by_cases h3 : s.size ≤ 11
      · exact pparse_go s w hL h1 h2 h3
      · have HP : Hid (ppEnd s.data.toList = .returned (.tuple #[.int .u8 0, .bool false])) := Lib.hid (by
          unfold ppEnd
          rw [parseP_eq, if_neg h1, if_pos (.inr (by omega))]
          rfl)
        have e1 : (s.toList == [45]) = false := by
          rw [ByteArray.toList_eq, beq_eq_false_iff_ne]
          exact h1
        have e2 : s.toList.isEmpty = false := by
          rw [ByteArray.toList_eq, List.isEmpty_eq_false_iff]
          exact h2
        have e3 : (11 : Int) < (s.size : Int) := by omega
        obtain ⟨A, hA⟩ : ∃ A, A = ppEnd s.data.toList := ⟨_, rfl⟩
        rw [← hA] at HP ⊢
        clear hA h1 hsz h2 h3
        have hB := below_al (Below.refl w.heap.size w) (.cells #[.string s] 9)
        go_enter Tryz.func95, Tryz.ntmps95
        go_wp2_with fail
        go_ret2
        exact ⟨HP.out.symm, hB⟩
end Go.Proofs.YtiggallcoocdaaaGreatDoor
