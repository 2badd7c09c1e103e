/- Level, Known: joined into one text; each part says below what it holds. -/
import Derived.Test.YtnmepcogijgbjaaGreatDoorZE
/- The label of a level, the last one too; how many levels flow to a label. -/
namespace Go.Proofs.YtnmepcogijgbjaaGreatDoor
open Go.RowKit
def lvS (l : List Sc) (cS : ByteArray) (i : Nat) : ByteArray := match l[i]? with | some s => s.cS | none => cS
def lvI (l : List Sc) (cI : ByteArray) (i : Nat) : ByteArray := match l[i]? with | some s => s.cI | none => cI
/-- the first level that does not flow to that label; as many as there are, if all do -/
def knownV (l : List Sc) (cS cI mS mI : ByteArray) : Nat := ((List.range (l.length + 1)).find? (fun i => !flowsB (lvS l cS i) (lvI l cI i) mS mI)).getD (l.length + 1)
theorem label_lv (v : Sl) (l : List Sc) (k : Nat) (hk : k ≤ l.length) (cS cI : ByteArray) (w : World) (h : ScAt w v l) :
    Calls Tryz.prog 62 #[.agg #[.slice v.a v.n v.c, .string cS, .string cI], .int .i64 (k : Int)] w fun e w' => e = .returned (.agg #[.string (lvS l cS k), .string (lvI l cI k)]) ∧ Below w.heap.size w w' := by
  by_cases hkl : k < l.length
  · have e1 : lvS l cS k = l[k].cS := by unfold lvS; simp [hkl]
    have e2 : lvI l cI k = l[k].cI := by unfold lvI; simp [hkl]
    rw [e1, e2]
    exact label_at v l k hkl cS cI w h
  · have e : k = l.length := by omega
    have e1 : lvS l cS k = cS := by unfold lvS; simp [e]
    have e2 : lvI l cI k = cI := by unfold lvI; simp [e]
    rw [e1, e2, e, ← h.len]
    exact label_last v cS cI w
end Go.Proofs.YtnmepcogijgbjaaGreatDoor
/- thread.ladder.known. -/
namespace Go.Proofs.YtnmepcogijgbjaaGreatDoor
open Go.RowKit
theorem known_hit {l : List Sc} {cS cI mS mI : ByteArray} {k : Nat} (hk : k < l.length + 1) (h : ∀ j, j < k → flowsB (lvS l cS j) (lvI l cI j) mS mI = true) (hf : flowsB (lvS l cS k) (lvI l cI k) mS mI = false) : knownV l cS cI mS mI = k := by
  have e : (List.range (l.length + 1)).find? (fun i => !flowsB (lvS l cS i) (lvI l cI i) mS mI) = some k := by
    rw [List.find?_range_eq_some]
    exact ⟨by rw [hf]; rfl, by simpa using hk, fun j hj => by rw [h j hj]; rfl⟩
  unfold knownV
  rw [e]
  rfl
theorem known_all {l : List Sc} {cS cI mS mI : ByteArray} (h : ∀ j, j < l.length + 1 → flowsB (lvS l cS j) (lvI l cI j) mS mI = true) : knownV l cS cI mS mI = l.length + 1 := by
  have e : (List.range (l.length + 1)).find? (fun i => !flowsB (lvS l cS i) (lvI l cI i) mS mI) = none := by
    rw [List.find?_range_eq_none]
    exact fun j hj => by rw [h j hj]; rfl
  unfold knownV
  rw [e]
  rfl
set_option maxRecDepth 100000 in
set_option maxHeartbeats 2000000 in
theorem known_any (v : Sl) (l : List Sc) (hl : l.length ≤ 1000000) (cS cI mS mI : ByteArray) (hb1 : ∀ i, Bd (lvS l cS i)) (hb2 : ∀ i, Bd (lvI l cI i)) (hb3 : Bd mS) (hb4 : Bd mI) (R : Nat) (hR : R = knownV l cS cI mS mI) (w : World) (h : ScAt w v l) :
    Calls Tryz.prog 40 #[.agg #[.slice v.a v.n v.c, .string cS, .string cI], .agg #[.string mS, .string mI]] w fun e w' => e = .returned (.int .i64 (R : Int)) ∧ Below w.heap.size w w' := by
  have hn := h.len
  have HNL := Lib.hid hn
  have HRR := Lib.hid hR
  have HSC := Lib.hid fun (W : World) (hb : Below w.heap.size w W) => h.below hb
  have HFL := Lib.hid fun (i : Nat) (W : World) => flows_any (lvS l cS i) (lvI l cI i) mS mI (hb1 i) (hb2 i) hb3 hb4 W
  have hv : v.n ≤ 1000000 := by omega
  have hLV := fun w => levels_any v hv cS cI w
  obtain ⟨n, hnn⟩ : ∃ n, n = v.n := ⟨_, rfl⟩
  have HN := Lib.hid hnn
  have hn9 : n ≤ 1000000 := by omega
  clear h hn hR hb1 hb2 hb3 hb4 hnn
  go_enter Tryz.func40, Tryz.ntmps40
  have hB0 := Below.refl w.heap.size w
  have M0 := Mem.nil w
  go_upto_region 1 with (fail)
  refine wp_named ?_
  intro w1 hW1
  have hB1 : Below w.heap.size w w1 := by rw [hW1]; exact (below_al (below_al hB0 _) _)
  have M1 := ((M0).new' (w.heap.size) (by rfl) (.cells #[.slice v.a v.n v.c, .string cS, .string cI] 76)).new' (w.heap.size + 1) (by simp) (.cells #[.string mS, .string mI] 24)
  rw [← hW1] at M1
  clear hW1
  have c1_0_0 := Mem.cell (v := .string mS) M1.1 0 rfl
  have c1_0_1 := Mem.cell (v := .string mI) M1.1 1 rfl
  have z1_0 := Mem.lt M1.1
  have c1_1_0 := Mem.cell (v := .slice v.a v.n v.c) M1.2.1 0 rfl
  have c1_1_1 := Mem.cell (v := .string cS) M1.2.1 1 rfl
  have c1_1_2 := Mem.cell (v := .string cI) M1.2.1 2 rfl
  have z1_1 := Mem.lt M1.2.1
  go_wp2_with fail
  refine Calls.named ?_
  intro W2 hW2
  have hB2_ : Below w.heap.size w W2 := by rw [hW2]; exact hB1
  have M2_ := M1
  rw [← hW2] at M2_
  clear hW2
  have ZZ2_0 := Lib.hid (Mem.lt M2_.1)
  have ZZ2_1 := Lib.hid (Mem.lt M2_.2.1)
  clear c1_0_0 c1_0_1 z1_0 c1_1_0 c1_1_1 c1_1_2 z1_1
  refine (hLV _).mono ?_
  rintro e w2 ⟨rfl, hb2⟩
  have hB2 := below_then hB2_ hb2
  have M2 := M2_.below hb2
  clear M2_ hB2_ hb2
  have c2_0_0 := Mem.cell (v := .string mS) M2.1 0 rfl
  have c2_0_1 := Mem.cell (v := .string mI) M2.1 1 rfl
  have z2_0 := Mem.lt M2.1
  have c2_1_0 := Mem.cell (v := .slice v.a v.n v.c) M2.2.1 0 rfl
  have c2_1_1 := Mem.cell (v := .string cS) M2.2.1 1 rfl
  have c2_1_2 := Mem.cell (v := .string cI) M2.2.1 2 rfl
  have z2_1 := Mem.lt M2.2.1
  rw [← HN.out]
  go_wp2_with fail
  go_loopw [8] (fun i wr => ∃ k : Nat, k ≤ n + 1 ∧ i = .int .i64 k ∧ Below w2.heap.size w2 wr ∧ Hid (∀ j, j < k → flowsB (lvS l cS j) (lvI l cI j) mS mI = true)) (fun i _ => n + 1 - (intOf i).toNat)
  case atStart => exact ⟨0, by omega, rfl, Below.refl _ _, Lib.hid (fun j hj => by omega)⟩
  case round =>
    obtain ⟨k, hk, rfl, hb, hno⟩ := hrel
    obtain ⟨w3, rfl⟩ : ∃ x, x = wr := ⟨_, rfl⟩
    have hB3 := below_then hB2 hb
    have M3 := M2.below hb
    by_cases hlt : k < n + 1
    · have g2 : (k : Int) < (n : Int) + 1 := by omega
      cases hf : flowsB (lvS l cS k) (lvI l cI k) mS mI with
      | true =>
        have XF := fun (W : World) => HFL.out k W
        rw [hf] at XF
        have hno' : Hid (∀ j, j < k + 1 → flowsB (lvS l cS j) (lvI l cI j) mS mI = true) := Lib.hid (fun j hj => by
          by_cases e : j < k
          · exact hno.out j e
          · obtain rfl : j = k := by omega
            exact hf)
        have HNO := hno
        have HB := Lib.hid hb
        have HFF := Lib.hid hf
        have XB := hb
        clear hf hb
        have c3_0_0 := Mem.cell (v := .string mS) M3.1 0 rfl
        have c3_0_1 := Mem.cell (v := .string mI) M3.1 1 rfl
        have z3_0 := Mem.lt M3.1
        have c3_1_0 := Mem.cell (v := .slice v.a v.n v.c) M3.2.1 0 rfl
        have c3_1_1 := Mem.cell (v := .string cS) M3.2.1 1 rfl
        have c3_1_2 := Mem.cell (v := .string cI) M3.2.1 2 rfl
        have z3_1 := Mem.lt M3.2.1
        go_upto_region 4 with (fail)
        have p3_0_0 := fun p : After w3 => Mem.cell (v := .string mS) (Mem.after M3 p).1 0 rfl
        have p3_0_1 := fun p : After w3 => Mem.cell (v := .string mI) (Mem.after M3 p).1 1 rfl
        have p3_1_0 := fun p : After w3 => Mem.cell (v := .slice v.a v.n v.c) (Mem.after M3 p).2.1 0 rfl
        have p3_1_1 := fun p : After w3 => Mem.cell (v := .string cS) (Mem.after M3 p).2.1 1 rfl
        have p3_1_2 := fun p : After w3 => Mem.cell (v := .string cI) (Mem.after M3 p).2.1 2 rfl
        refine wp_region_after (by kernel_rfl) (by kernel_rfl) ?_
        repeat (go_big_quiet_step ((first | (go_at_call 62; with_reducible exact After.call (label_lv v l k (by have := HN.out; have := HNL.out; omega) cS cI _ (HSC.out _ (below_then hB3 (After.h _))))) | (go_at_call 56; with_reducible exact After.call (XF _)))))
        refine wpQuiet_nil ?_
        rintro _ ⟨p3, rfl⟩
        clear p3_0_0 p3_0_1 p3_1_0 p3_1_1 p3_1_2
        clear c3_0_0 c3_0_1 z3_0 c3_1_0 c3_1_1 c3_1_2 z3_1
        obtain ⟨w4, hW4⟩ : ∃ x, x = p3.world := ⟨_, rfl⟩
        have hB4 : Below w.heap.size w w4 := by rw [hW4]; exact below_then hB3 p3.h
        have M4 := M3.below p3.h
        rw [← hW4] at M4
        rw [← hW4]
        replace XB := below_then XB p3.h
        rw [← hW4] at XB
        clear hW4
        clear p3
        have c4_0_0 := Mem.cell (v := .string mS) M4.1 0 rfl
        have c4_0_1 := Mem.cell (v := .string mI) M4.1 1 rfl
        have z4_0 := Mem.lt M4.1
        have c4_1_0 := Mem.cell (v := .slice v.a v.n v.c) M4.2.1 0 rfl
        have c4_1_1 := Mem.cell (v := .string cS) M4.2.1 1 rfl
        have c4_1_2 := Mem.cell (v := .string cI) M4.2.1 2 rfl
        have z4_1 := Mem.lt M4.2.1
        have HXB := Lib.hid XB
        clear XB
        go_wp2_with fail
        go_roundw
        case rel => exact ⟨k + 1, by omega, by go_num, HXB.out, hno'⟩
        case measure => simp [intOf]; omega
      | false =>
        have XF := fun (W : World) => HFL.out k W
        rw [hf] at XF
        have HNO := hno
        have HB := Lib.hid hb
        have HFF := Lib.hid hf
        have XB := hb
        clear hf hb
        have c3_0_0 := Mem.cell (v := .string mS) M3.1 0 rfl
        have c3_0_1 := Mem.cell (v := .string mI) M3.1 1 rfl
        have z3_0 := Mem.lt M3.1
        have c3_1_0 := Mem.cell (v := .slice v.a v.n v.c) M3.2.1 0 rfl
        have c3_1_1 := Mem.cell (v := .string cS) M3.2.1 1 rfl
        have c3_1_2 := Mem.cell (v := .string cI) M3.2.1 2 rfl
        have z3_1 := Mem.lt M3.2.1
        go_upto_region 4 with (fail)
        have p3_0_0 := fun p : After w3 => Mem.cell (v := .string mS) (Mem.after M3 p).1 0 rfl
        have p3_0_1 := fun p : After w3 => Mem.cell (v := .string mI) (Mem.after M3 p).1 1 rfl
        have p3_1_0 := fun p : After w3 => Mem.cell (v := .slice v.a v.n v.c) (Mem.after M3 p).2.1 0 rfl
        have p3_1_1 := fun p : After w3 => Mem.cell (v := .string cS) (Mem.after M3 p).2.1 1 rfl
        have p3_1_2 := fun p : After w3 => Mem.cell (v := .string cI) (Mem.after M3 p).2.1 2 rfl
        refine wp_region_after (by kernel_rfl) (by kernel_rfl) ?_
        repeat (go_big_quiet_step ((first | (go_at_call 62; with_reducible exact After.call (label_lv v l k (by have := HN.out; have := HNL.out; omega) cS cI _ (HSC.out _ (below_then hB3 (After.h _))))) | (go_at_call 56; with_reducible exact After.call (XF _)))))
        refine wpQuiet_nil ?_
        rintro _ ⟨p3, rfl⟩
        clear p3_0_0 p3_0_1 p3_1_0 p3_1_1 p3_1_2
        clear c3_0_0 c3_0_1 z3_0 c3_1_0 c3_1_1 c3_1_2 z3_1
        obtain ⟨w4, hW4⟩ : ∃ x, x = p3.world := ⟨_, rfl⟩
        have hB4 : Below w.heap.size w w4 := by rw [hW4]; exact below_then hB3 p3.h
        have M4 := M3.below p3.h
        rw [← hW4] at M4
        rw [← hW4]
        replace XB := below_then XB p3.h
        rw [← hW4] at XB
        clear hW4
        clear p3
        have c4_0_0 := Mem.cell (v := .string mS) M4.1 0 rfl
        have c4_0_1 := Mem.cell (v := .string mI) M4.1 1 rfl
        have z4_0 := Mem.lt M4.1
        have c4_1_0 := Mem.cell (v := .slice v.a v.n v.c) M4.2.1 0 rfl
        have c4_1_1 := Mem.cell (v := .string cS) M4.2.1 1 rfl
        have c4_1_2 := Mem.cell (v := .string cI) M4.2.1 2 rfl
        have z4_1 := Mem.lt M4.2.1
        have hk9 : R = k := by rw [HRR.out]; exact known_hit (by have := HN.out; have := HNL.out; omega) (fun j hj => HNO.out j hj) HFF.out
        subst hk9
        clear XB
        go_wp2_with fail
        go_ret
        exact ⟨rfl, hB4⟩
    · have hR : R = v.n + 1 := by rw [HRR.out, HNL.out]; exact known_all (fun j hj => hno.out j (by have := HN.out; have := HNL.out; omega))
      have g2 : ¬ (k : Int) < (n : Int) + 1 := by omega
      clear hb hno
      have c3_0_0 := Mem.cell (v := .string mS) M3.1 0 rfl
      have c3_0_1 := Mem.cell (v := .string mI) M3.1 1 rfl
      have z3_0 := Mem.lt M3.1
      have c3_1_0 := Mem.cell (v := .slice v.a v.n v.c) M3.2.1 0 rfl
      have c3_1_1 := Mem.cell (v := .string cS) M3.2.1 1 rfl
      have c3_1_2 := Mem.cell (v := .string cI) M3.2.1 2 rfl
      have z3_1 := Mem.lt M3.2.1
      go_wp2_with fail
      refine Calls.named ?_
      intro W4 hW4
      have hB4_ : Below w.heap.size w W4 := by rw [hW4]; exact hB3
      have M4_ := M3
      rw [← hW4] at M4_
      clear hW4
      have ZZ4_0 := Lib.hid (Mem.lt M4_.1)
      have ZZ4_1 := Lib.hid (Mem.lt M4_.2.1)
      clear c3_0_0 c3_0_1 z3_0 c3_1_0 c3_1_1 c3_1_2 z3_1
      refine (hLV _).mono ?_
      rintro e w4 ⟨rfl, hb4⟩
      have hB4 := below_then hB4_ hb4
      have M4 := M4_.below hb4
      clear M4_ hB4_ hb4
      have c4_0_0 := Mem.cell (v := .string mS) M4.1 0 rfl
      have c4_0_1 := Mem.cell (v := .string mI) M4.1 1 rfl
      have z4_0 := Mem.lt M4.1
      have c4_1_0 := Mem.cell (v := .slice v.a v.n v.c) M4.2.1 0 rfl
      have c4_1_1 := Mem.cell (v := .string cS) M4.2.1 1 rfl
      have c4_1_2 := Mem.cell (v := .string cI) M4.2.1 2 rfl
      have z4_1 := Mem.lt M4.2.1
      go_wp2_with fail
      go_ret
      refine ⟨?_, hB4⟩
      rw [hR]
      simp
end Go.Proofs.YtnmepcogijgbjaaGreatDoor
