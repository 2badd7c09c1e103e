/- core.cut, add, Push, Cut, Enter. -/
import Derived.ArgAppend
import Derived.Deep.RegionLawGrows
import Derived.Deep.AppendLies
import Derived.Test.YtnmepcogijgbjaaGreatDoorGuard
namespace Go.Proofs.YtnmepcogijgbjaaGreatDoor
open Go.RowKit
/-- so many are left -/
def cutN (m : Int) (n : Nat) : Nat := (min (max m 0) (n : Int)).toNat
set_option maxRecDepth 100000 in
set_option maxHeartbeats 1000000 in
theorem cut_core.Frame_any (ao : Option Addr) (n cap : Nat) (m : Int) (hn : n ≤ cap) (_ : cap ≤ maxLen) (w : World) :
    Calls Tryz.prog 57 #[.slice ao n cap, .int .i64 m] w fun e w' => e = .returned (.slice ao (cutN m n) (cutN m n)) ∧ w = w' := by
  have h1 : min (max m 0) (n : Int) = (cutN m n : Int) := by unfold cutN; omega
  have h2 : cutN m n ≤ n := by unfold cutN; omega
  obtain ⟨k, hk⟩ : ∃ k, k = cutN m n := ⟨_, rfl⟩
  rw [← hk] at h1 h2 ⊢
  clear hk
  unfold maxLen at *
  go_enter Tryz.func57, Tryz.ntmps57
  have hB0 := Below.refl w.heap.size w
  have M0 := Mem.nil w
  go_wp2
  all_goals
    first
    | (go_ret; exact ⟨rfl, rfl⟩)
    | (rename_i hif; go_ret; refine ⟨?_, rfl⟩; first | (have e : n = k := (by split at hif <;> omega); rw [← e]; rfl) | (have e : 0 = k := (by split at hif <;> omega); rw [← e]; rfl) | (have e : m.toNat = k := (by split at hif <;> omega); rw [← e]; rfl))
set_option maxRecDepth 100000 in
set_option maxHeartbeats 1000000 in
theorem cut_val.Value_any (ao : Option Addr) (n cap : Nat) (m : Int) (hn : n ≤ cap) (_ : cap ≤ maxLen) (w : World) :
    Calls Tryz.prog 58 #[.slice ao n cap, .int .i64 m] w fun e w' => e = .returned (.slice ao (cutN m n) (cutN m n)) ∧ w = w' := by
  have h1 : min (max m 0) (n : Int) = (cutN m n : Int) := by unfold cutN; omega
  have h2 : cutN m n ≤ n := by unfold cutN; omega
  obtain ⟨k, hk⟩ : ∃ k, k = cutN m n := ⟨_, rfl⟩
  rw [← hk] at h1 h2 ⊢
  clear hk
  unfold maxLen at *
  go_enter Tryz.func58, Tryz.ntmps58
  have hB0 := Below.refl w.heap.size w
  have M0 := Mem.nil w
  go_wp2
  all_goals
    first
    | (go_ret; exact ⟨rfl, rfl⟩)
    | (rename_i hif; go_ret; refine ⟨?_, rfl⟩; first | (have e : n = k := (by split at hif <;> omega); rw [← e]; rfl) | (have e : 0 = k := (by split at hif <;> omega); rw [← e]; rfl) | (have e : m.toNat = k := (by split at hif <;> omega); rw [← e]; rfl))
set_option maxRecDepth 100000 in
set_option maxHeartbeats 1000000 in
theorem cut_core.Try_any (ao : Option Addr) (n cap : Nat) (m : Int) (hn : n ≤ cap) (_ : cap ≤ maxLen) (w : World) :
    Calls Tryz.prog 59 #[.slice ao n cap, .int .i64 m] w fun e w' => e = .returned (.slice ao (cutN m n) (cutN m n)) ∧ w = w' := by
  have h1 : min (max m 0) (n : Int) = (cutN m n : Int) := by unfold cutN; omega
  have h2 : cutN m n ≤ n := by unfold cutN; omega
  obtain ⟨k, hk⟩ : ∃ k, k = cutN m n := ⟨_, rfl⟩
  rw [← hk] at h1 h2 ⊢
  clear hk
  unfold maxLen at *
  go_enter Tryz.func59, Tryz.ntmps59
  have hB0 := Below.refl w.heap.size w
  have M0 := Mem.nil w
  go_wp2
  all_goals
    first
    | (go_ret; exact ⟨rfl, rfl⟩)
    | (rename_i hif; go_ret; refine ⟨?_, rfl⟩; first | (have e : n = k := (by split at hif <;> omega); rw [← e]; rfl) | (have e : 0 = k := (by split at hif <;> omega); rw [← e]; rfl) | (have e : m.toNat = k := (by split at hif <;> omega); rw [← e]; rfl))
/-- the cells of a slice's elements -/
def RowsIn (w : World) (ao : Option Addr) (xs : List Value) : Prop := ∀ b, ao = some b → b.block < w.heap.size ∧ ∀ j u, xs[j]? = some u → w.cell? (b.add j) = some u
theorem RowsIn.below {w w' : World} {ao : Option Addr} {xs : List Value} (h : RowsIn w ao xs) (hb : Below w.heap.size w w') : RowsIn w' ao xs := by
  intro b hbo
  obtain ⟨h1, h2⟩ := h b hbo
  refine ⟨Nat.lt_of_lt_of_le h1 hb.size, fun j u hj => ?_⟩
  rw [hb.cell (p := b.add j) (by unfold Addr.add; split <;> exact h1)]
  exact h2 j u hj
theorem ownsRow_low {w : World} {B B' k : Nat} {e : TypeId} {v : Value} {n : Nat} {xs : List Value} (h : w.ownsRow B' e k v n xs) (hb : B ≤ B') : w.ownsRow B e k v n xs :=
  ⟨h.1, h.2.imp id fun ⟨g, cap, cur, hv, hB, r⟩ => ⟨g, cap, cur, hv, Nat.le_trans hb hB, r⟩⟩
/-- a row of the call's own, as the slice that it is -/
theorem rows_owned {w : World} {B k : Nat} {e : TypeId} {v : Value} {n : Nat} {xs : List Value} (h : w.ownsRow B e k v n xs) : ∃ ao cap, v = .slice ao n cap ∧ n ≤ cap ∧ cap ≤ maxLen ∧ (ao = none → n = 0) ∧ RowsIn w ao xs ∧ xs.length = n * k := by
  obtain ⟨hl, h2⟩ := h
  rcases h2 with ⟨rfl, h0⟩ | ⟨g, cap, cur, rfl, hB, hg, h1, h3, h4, h5⟩
  · refine ⟨none, 0, by rw [h0], by omega, by unfold maxLen; omega, fun _ => h0, fun b hb => (by cases hb), hl⟩
  · refine ⟨some ⟨g, 0, none⟩, cap, rfl, h1, h3, fun h => (by cases h), fun b hb => ?_, hl⟩
    cases hb
    refine ⟨(Array.getElem?_eq_some_iff.1 hg).1, fun j u hj => ?_⟩
    rw [← h5, List.getElem?_take] at hj
    split at hj
    · have ha : (⟨g, 0, none⟩ : Addr).add j = ⟨g, j, none⟩ := by unfold Addr.add; split <;> simp_all
      rw [ha]
      simp only [World.cell?, hg]
      simpa using hj
    · cases hj
theorem info_Value : (Tryz.prog.info? 28).map (fun i => (i.zero, i.size, i.bytes)) = some (some (.agg #[.int .i64 0, .int .i64 0, .string ⟨#[]⟩, .string ⟨#[]⟩, .string ⟨#[]⟩]), 5, 64) := by kernel_rfl
set_option maxRecDepth 100000 in
set_option maxHeartbeats 2000000 in
theorem add_Value_any (ao : Option Addr) (n cap : Nat) (xs : List Value) (hl : xs.length = n * 5) (hn : n ≤ cap) (hc : cap ≤ maxLen) (hs : n ≤ 1000000) (h0 : ao = none → n = 0) (k x : Int) (m sS sI : ByteArray) (w : World) (hR : RowsIn w ao xs) :
    Calls Tryz.prog 51 #[.slice ao n cap, .agg #[.int .i64 k, .int .i64 x, .string m, .string sS, .string sI]] w fun e w' => ∃ v, e = .returned v ∧ w'.ownsRow w.heap.size 28 5 v (n + 1) (xs ++ [.int .i64 k, .int .i64 x, .string m, .string sS, .string sI]) ∧ Below w.heap.size w w' := by
  obtain ⟨i0, hi, hz0, hz1, hz2⟩ := info_parts info_Value
  have HR := Lib.hid fun (W : World) (hb : Below w.heap.size w W) => fun b hbo => ((hR.below hb) b hbo).2
  have hcn : cutN (n : Int) n = n := by unfold cutN; omega
  have hcu := fun w => cut_val.Value_any ao n cap (n : Int) hn hc w
  rw [hcn] at hcu
  have H0 := Lib.hid h0
  clear hR hcn h0
  unfold maxLen at *
  go_enter Tryz.func51, Tryz.ntmps51
  have hB0 := Below.refl w.heap.size w
  have M0 := Mem.nil w
  go_upto_region 1 with (fail)
  refine wp_named ?_
  intro w1 hW1
  have hB1 : Below w.heap.size w w1 := by rw [hW1]; exact (below_al hB0 _)
  have M1 := (M0).new' (w.heap.size) (by rfl) (.cells #[.int .i64 k, .int .i64 x, .string m, .string sS, .string sI] 28)
  rw [← hW1] at M1
  clear hW1
  have c1_0_0 := Mem.cell (v := .int .i64 k) M1.1 0 rfl
  have c1_0_1 := Mem.cell (v := .int .i64 x) M1.1 1 rfl
  have c1_0_2 := Mem.cell (v := .string m) M1.1 2 rfl
  have c1_0_3 := Mem.cell (v := .string sS) M1.1 3 rfl
  have c1_0_4 := Mem.cell (v := .string sI) M1.1 4 rfl
  have z1_0 := Mem.lt M1.1
  go_region_held3 (fun w' => w'.cell? ⟨w.heap.size, 0, none⟩ = some (.int .i64 k) ∧ w'.cell? ⟨w.heap.size, 1, none⟩ = some (.int .i64 x) ∧ w'.cell? ⟨w.heap.size, 2, none⟩ = some (.string m) ∧ w'.cell? ⟨w.heap.size, 3, none⟩ = some (.string sS) ∧ w'.cell? ⟨w.heap.size, 4, none⟩ = some (.string sI))
    (go_keep)
    (first
      | (go_at_call 58; (with_reducible refine (hcu _).mono ?_); rintro e _ ⟨rfl, rfl⟩)
      | (refine step_append_grows (by rfl) _ _ 33 (by rfl) 28 i0 _ 5 64 Tryz.underlying33 hi hz0 hz1 hz2 rfl (by omega) ao n n xs (by rfl) (fun h => ⟨H0.out h, H0.out h⟩) hl (HR.out _ (by repeat' (first | exact hB1 | refine below_dr ?_ | refine below_al ?_ _))) ⟨w1.heap.size, 0, none⟩ 1 1 [.int .i64 k, .int .i64 x, .string m, .string sS, .string sI] (by rfl) (by rfl) (World.news_of_block (cs := #[.int .i64 k, .int .i64 x, .string m, .string sS, .string sI]) (t := 28) (fr := (0, 0)) (heap_alloc_new _ _)) (by simp [Value.oneCell']) (by omega) (by unfold maxLen; omega) (by omega) ?_; intro v' w2 hown2 hgrow; have hb2 := (Below.refl _ _).grown hgrow (Nat.le_refl _) (fun k hk => by cases hk); have hk := (fun o => hb2.cell (p := ⟨w.heap.size, o, none⟩) (by simp; omega))))
  all_goals
    have HB := Lib.hid (below_then (below_al (below_dr hB1) _) hb2)
    have HO := Lib.hid (ownsRow_low (B := w.heap.size) hown2 (by simp; omega))
    clear hb2 hk hgrow hown2
    go_wp2_with fail
    go_ret
    exact ⟨_, rfl, HO.out, HB.out⟩
theorem info_Frame : (Tryz.prog.info? 104).map (fun i => (i.zero, i.size, i.bytes)) = some (some (.agg #[.int .i64 0, .int .i64 0, .int .i64 0, .int .u8 0, .slice none 0 0]), 5, 56) := by kernel_rfl
set_option maxRecDepth 100000 in
set_option maxHeartbeats 2000000 in
theorem add_Frame_any (ao : Option Addr) (n cap : Nat) (xs : List Value) (hl : xs.length = n * 5) (hn : n ≤ cap) (hc : cap ≤ maxLen) (hs : n ≤ 1000000) (h0 : ao = none → n = 0) (k x m : Int) (sS : Int) (sv : Option Addr) (sn sc : Nat) (w : World) (hR : RowsIn w ao xs) :
    Calls Tryz.prog 50 #[.slice ao n cap, .agg #[.int .i64 k, .int .i64 x, .int .i64 m, .int .u8 sS, .slice sv sn sc]] w fun e w' => ∃ v, e = .returned v ∧ w'.ownsRow w.heap.size 104 5 v (n + 1) (xs ++ [.int .i64 k, .int .i64 x, .int .i64 m, .int .u8 sS, .slice sv sn sc]) ∧ Below w.heap.size w w' := by
  obtain ⟨i0, hi, hz0, hz1, hz2⟩ := info_parts info_Frame
  have HR := Lib.hid fun (W : World) (hb : Below w.heap.size w W) => fun b hbo => ((hR.below hb) b hbo).2
  have hcn : cutN (n : Int) n = n := by unfold cutN; omega
  have hcu := fun w => cut_core.Frame_any ao n cap (n : Int) hn hc w
  rw [hcn] at hcu
  have H0 := Lib.hid h0
  clear hR hcn h0
  unfold maxLen at *
  go_enter Tryz.func50, Tryz.ntmps50
  have hB0 := Below.refl w.heap.size w
  have M0 := Mem.nil w
  go_upto_region 1 with (fail)
  refine wp_named ?_
  intro w1 hW1
  have hB1 : Below w.heap.size w w1 := by rw [hW1]; exact (below_al hB0 _)
  have M1 := (M0).new' (w.heap.size) (by rfl) (.cells #[.int .i64 k, .int .i64 x, .int .i64 m, .int .u8 sS, .slice sv sn sc] 104)
  rw [← hW1] at M1
  clear hW1
  have c1_0_0 := Mem.cell (v := .int .i64 k) M1.1 0 rfl
  have c1_0_1 := Mem.cell (v := .int .i64 x) M1.1 1 rfl
  have c1_0_2 := Mem.cell (v := .int .i64 m) M1.1 2 rfl
  have c1_0_3 := Mem.cell (v := .int .u8 sS) M1.1 3 rfl
  have c1_0_4 := Mem.cell (v := .slice sv sn sc) M1.1 4 rfl
  have z1_0 := Mem.lt M1.1
  go_region_held3 (fun w' => w'.cell? ⟨w.heap.size, 0, none⟩ = some (.int .i64 k) ∧ w'.cell? ⟨w.heap.size, 1, none⟩ = some (.int .i64 x) ∧ w'.cell? ⟨w.heap.size, 2, none⟩ = some (.int .i64 m) ∧ w'.cell? ⟨w.heap.size, 3, none⟩ = some (.int .u8 sS) ∧ w'.cell? ⟨w.heap.size, 4, none⟩ = some (.slice sv sn sc))
    (go_keep)
    (first
      | (go_at_call 57; (with_reducible refine (hcu _).mono ?_); rintro e _ ⟨rfl, rfl⟩)
      | (refine step_append_grows (by rfl) _ _ 32 (by rfl) 104 i0 _ 5 56 Tryz.underlying32 hi hz0 hz1 hz2 rfl (by omega) ao n n xs (by rfl) (fun h => ⟨H0.out h, H0.out h⟩) hl (HR.out _ (by repeat' (first | exact hB1 | refine below_dr ?_ | refine below_al ?_ _))) ⟨w1.heap.size, 0, none⟩ 1 1 [.int .i64 k, .int .i64 x, .int .i64 m, .int .u8 sS, .slice sv sn sc] (by rfl) (by rfl) (World.news_of_block (cs := #[.int .i64 k, .int .i64 x, .int .i64 m, .int .u8 sS, .slice sv sn sc]) (t := 104) (fr := (0, 0)) (heap_alloc_new _ _)) (by simp [Value.oneCell']) (by omega) (by unfold maxLen; omega) (by omega) ?_; intro v' w2 hown2 hgrow; have hb2 := (Below.refl _ _).grown hgrow (Nat.le_refl _) (fun k hk => by cases hk); have hk := (fun o => hb2.cell (p := ⟨w.heap.size, o, none⟩) (by simp; omega))))
  all_goals
    have HB := Lib.hid (below_then (below_al (below_dr hB1) _) hb2)
    have HO := Lib.hid (ownsRow_low (B := w.heap.size) hown2 (by simp; omega))
    clear hb2 hk hgrow hown2
    go_wp2_with fail
    go_ret
    exact ⟨_, rfl, HO.out, HB.out⟩
theorem ownsRow_set {w : World} {B k : Nat} {e : TypeId} {v : Value} {n : Nat} {xs : List Value} (h : w.ownsRow B e k v n xs) {b : Nat} (hb : b < B) (o : Nat) (vs : List Value) : (w.setCells b o vs).ownsRow B e k v n xs :=
  ⟨h.1, h.2.imp id fun ⟨g, cap, cur, hv, hB, hg, r⟩ => ⟨g, cap, cur, hv, hB, (setCells_other vs o w g (by omega)).trans hg, r⟩⟩
set_option maxRecDepth 100000 in
set_option maxHeartbeats 2000000 in
theorem push_any (fo so to' : Option Addr) (fn fc sn sc tn tc : Nat) (xs : List Value) (hl : xs.length = sn * 5) (hn : sn ≤ sc) (hc : sc ≤ maxLen) (hs : sn ≤ 1000000) (h0 : so = none → sn = 0) (k x : Int) (m sS sI : ByteArray) (w : World) (hR : RowsIn w so xs) :
    Calls Tryz.prog 25 #[.agg #[.slice fo fn fc, .slice so sn sc, .slice to' tn tc], .agg #[.int .i64 k, .int .i64 x, .string m, .string sS, .string sI]] w fun e w' => ∃ ao cap, e = .returned (.agg #[.slice fo fn fc, .slice ao (sn + 1) cap, .slice to' tn tc]) ∧ w'.ownsRow w.heap.size 28 5 (.slice ao (sn + 1) cap) (sn + 1) (xs ++ [.int .i64 k, .int .i64 x, .string m, .string sS, .string sI]) ∧ Below w.heap.size w w' := by
  have hin := hR
  clear hR
  go_enter Tryz.func25, Tryz.ntmps25
  have hB0 := Below.refl w.heap.size w
  have M0 := Mem.nil w
  go_wp2_with fail
  refine Calls.named ?_
  intro W1 hW1
  have hB1_ : Below w.heap.size w W1 := by rw [hW1]; exact (below_al (below_al (below_al hB0 _) _) _)
  have M1_ := (((M0).new' (w.heap.size) (by rfl) (.cells #[.slice fo fn fc, .slice so sn sc, .slice to' tn tc] 36)).new' (w.heap.size + 1) (by simp) (.cells #[.int .i64 k, .int .i64 x, .string m, .string sS, .string sI] 28)).new' (w.heap.size + 1 + 1) (by simp) (.cells #[.slice none 0 0, .slice none 0 0, .slice none 0 0] 36)
  rw [← hW1] at M1_
  have hS1 : Below w.heap.size w W1 := by rw [hW1]; exact (below_al (below_al (below_al (Below.refl _ _) _) _) _)
  have hin_ := RowsIn.below hin hS1
  clear hS1 hin
  clear hW1
  have ZZ1_0 := Lib.hid (Mem.lt M1_.1)
  have ZZ1_1 := Lib.hid (Mem.lt M1_.2.1)
  have ZZ1_2 := Lib.hid (Mem.lt M1_.2.2.1)
  refine (add_Value_any so sn sc xs hl hn hc hs h0 k x m sS sI _ hin_).mono ?_
  rintro e w1 ⟨v, rfl, hO, hb1⟩
  have hin := RowsIn.below hin_ hb1
  clear hin_
  have hB1 := below_then hB1_ hb1
  have M1 := M1_.below hb1
  clear M1_ hB1_ hb1
  have c1_0_0 := Mem.cell (v := .slice none 0 0) M1.1 0 rfl
  have c1_0_1 := Mem.cell (v := .slice none 0 0) M1.1 1 rfl
  have c1_0_2 := Mem.cell (v := .slice none 0 0) M1.1 2 rfl
  have z1_0 := Mem.lt M1.1
  have c1_1_0 := Mem.cell (v := .int .i64 k) M1.2.1 0 rfl
  have c1_1_1 := Mem.cell (v := .int .i64 x) M1.2.1 1 rfl
  have c1_1_2 := Mem.cell (v := .string m) M1.2.1 2 rfl
  have c1_1_3 := Mem.cell (v := .string sS) M1.2.1 3 rfl
  have c1_1_4 := Mem.cell (v := .string sI) M1.2.1 4 rfl
  have z1_1 := Mem.lt M1.2.1
  have c1_2_0 := Mem.cell (v := .slice fo fn fc) M1.2.2.1 0 rfl
  have c1_2_1 := Mem.cell (v := .slice so sn sc) M1.2.2.1 1 rfl
  have c1_2_2 := Mem.cell (v := .slice to' tn tc) M1.2.2.1 2 rfl
  have z1_2 := Mem.lt M1.2.2.1
  clear hin
  obtain ⟨ao, cap, rfl, -⟩ := rows_owned hO
  replace hO := ownsRow_low (B := w.heap.size + 1 + 1 + 1) hO (by have := ZZ1_0.out; omega)
  have f2 := fun j => Mem.free M1.2.2.1 j
  go_upto_region 2 with (fail)
  have hX1 : (w1.setCells (w.heap.size) 1 [.slice ao (sn + 1) cap]).heap[w.heap.size]? = some (.cells #[.slice fo fn fc, .slice ao (sn + 1) cap, .slice to' tn tc] 36) := by rw [setCells_block [.slice ao (sn + 1) cap] 1 _ _ (M1).2.2.1 (by simp)]; rfl
  have hY1 := below_setCells (B := w.heap.size) hB1 (b := w.heap.size) (by have := hB1.size; omega) 1 [.slice ao (sn + 1) cap]
  refine wp_named ?_
  intro w2 hW2
  have hB2 : Below w.heap.size w w2 := by rw [hW2]; exact hY1
  have M2 : Mem w2 [(w.heap.size + 1 + 1, .cells #[.slice none 0 0, .slice none 0 0, .slice none 0 0] 36), (w.heap.size + 1, .cells #[.int .i64 k, .int .i64 x, .string m, .string sS, .string sI] 28), (w.heap.size, .cells #[.slice fo fn fc, .slice ao (sn + 1) cap, .slice to' tn tc] 36)] := by rw [hW2]; exact ⟨(setCells_other [.slice ao (sn + 1) cap] 1 _ _ (by omega)).trans (M1).1, (setCells_other [.slice ao (sn + 1) cap] 1 _ _ (by omega)).trans (M1).2.1, hX1, trivial⟩
  have hO2 := ownsRow_set hO (b := w.heap.size) (by omega) 1 [.slice ao (sn + 1) cap]
  rw [show w1.setCells (w.heap.size) 1 [.slice ao (sn + 1) cap] = w2 from hW2.symm] at hO2
  clear c1_0_0 c1_0_1 c1_0_2 z1_0 c1_1_0 c1_1_1 c1_1_2 c1_1_3 c1_1_4 z1_1 c1_2_0 c1_2_1 c1_2_2 z1_2
  clear hW2 hX1 hY1
  have c2_0_0 := Mem.cell (v := .slice none 0 0) M2.1 0 rfl
  have c2_0_1 := Mem.cell (v := .slice none 0 0) M2.1 1 rfl
  have c2_0_2 := Mem.cell (v := .slice none 0 0) M2.1 2 rfl
  have z2_0 := Mem.lt M2.1
  have c2_1_0 := Mem.cell (v := .int .i64 k) M2.2.1 0 rfl
  have c2_1_1 := Mem.cell (v := .int .i64 x) M2.2.1 1 rfl
  have c2_1_2 := Mem.cell (v := .string m) M2.2.1 2 rfl
  have c2_1_3 := Mem.cell (v := .string sS) M2.2.1 3 rfl
  have c2_1_4 := Mem.cell (v := .string sI) M2.2.1 4 rfl
  have z2_1 := Mem.lt M2.2.1
  have c2_2_0 := Mem.cell (v := .slice fo fn fc) M2.2.2.1 0 rfl
  have c2_2_1 := Mem.cell (v := .slice ao (sn + 1) cap) M2.2.2.1 1 rfl
  have c2_2_2 := Mem.cell (v := .slice to' tn tc) M2.2.2.1 2 rfl
  have z2_2 := Mem.lt M2.2.2.1
  have f3 := fun j => Mem.free M2.1 j
  go_wp2_with fail
  have hX2 := set_block (M2).1 [.slice fo fn fc, .slice ao (sn + 1) cap, .slice to' tn tc] rfl
  have hY2 := below_setCells (B := w.heap.size) hB2 (b := w.heap.size + 1 + 1) (by have := hB2.size; omega) 0 [.slice fo fn fc, .slice ao (sn + 1) cap, .slice to' tn tc]
  obtain ⟨W_e, hW_e⟩ : ∃ W_e, W_e = w2.setCells (w.heap.size + 1 + 1) 0 [.slice fo fn fc, .slice ao (sn + 1) cap, .slice to' tn tc] := ⟨_, rfl⟩
  have hO3 := ownsRow_low (B := w.heap.size) (ownsRow_set hO2 (b := w.heap.size + 1 + 1) (by omega) 0 [.slice fo fn fc, .slice ao (sn + 1) cap, .slice to' tn tc]) (by omega)
  rw [← hW_e] at hO3
  rw [← hW_e] at hX2 hY2
  refine at_world hW_e ?_
  have k_0 := Mem.cell (v := .slice fo fn fc) hX2 0 rfl
  have k_1 := Mem.cell (v := .slice ao (sn + 1) cap) hX2 1 rfl
  have k_2 := Mem.cell (v := .slice to' tn tc) hX2 2 rfl
  refine bodyPost_ret (v := .agg #[.slice fo fn fc, .slice ao (sn + 1) cap, .slice to' tn tc]) (by simp [results, Tryz.results25, go_sem, k_0, k_1, k_2]) rfl ⟨_, _, rfl, hO3, hY2⟩
set_option maxRecDepth 100000 in
set_option maxHeartbeats 2000000 in
theorem cutC_gen (fo so to' : Option Addr) (fn fc sn sc tn tc : Nat) (a b c : Int) (f s t : Nat)
    (h1 : ∀ w, Calls Tryz.prog 57 #[.slice fo fn fc, .int .i64 a] w fun e w' => e = .returned (.slice fo f f) ∧ w = w')
    (h2 : ∀ w, Calls Tryz.prog 58 #[.slice so sn sc, .int .i64 b] w fun e w' => e = .returned (.slice so s s) ∧ w = w')
    (h3 : ∀ w, Calls Tryz.prog 59 #[.slice to' tn tc, .int .i64 c] w fun e w' => e = .returned (.slice to' t t) ∧ w = w') (w : World) :
    Calls Tryz.prog 32 #[.agg #[.slice fo fn fc, .slice so sn sc, .slice to' tn tc], .int .i64 a, .int .i64 b, .int .i64 c] w fun e w' => e = .returned (.agg #[.slice fo f f, .slice so s s, .slice to' t t]) ∧ Below w.heap.size w w' := by
  go_enter Tryz.func32, Tryz.ntmps32
  have hB0 := Below.refl w.heap.size w
  have M0 := Mem.nil w
  go_upto_region 1 with (fail)
  refine wp_named ?_
  intro w1 hW1
  have hB1 : Below w.heap.size w w1 := by rw [hW1]; exact (below_al (below_al hB0 _) _)
  have M1 := ((M0).new' (w.heap.size) (by rfl) (.cells #[.slice fo fn fc, .slice so sn sc, .slice to' tn tc] 36)).new' (w.heap.size + 1) (by simp) (.cells #[.slice none 0 0, .slice none 0 0, .slice none 0 0] 36)
  rw [← hW1] at M1
  clear hW1
  have c1_0_0 := Mem.cell (v := .slice none 0 0) M1.1 0 rfl
  have c1_0_1 := Mem.cell (v := .slice none 0 0) M1.1 1 rfl
  have c1_0_2 := Mem.cell (v := .slice none 0 0) M1.1 2 rfl
  have z1_0 := Mem.lt M1.1
  have c1_1_0 := Mem.cell (v := .slice fo fn fc) M1.2.1 0 rfl
  have c1_1_1 := Mem.cell (v := .slice so sn sc) M1.2.1 1 rfl
  have c1_1_2 := Mem.cell (v := .slice to' tn tc) M1.2.1 2 rfl
  have z1_1 := Mem.lt M1.2.1
  have f0 := fun j => Mem.free M1.1 j
  have hne := cell_other (b := w.heap.size) (b' := w.heap.size + 1) (by omega)
  go_region_held3 (fun w' => w'.cell? ⟨w.heap.size, 0, none⟩ = some (.slice fo fn fc) ∧ w'.cell? ⟨w.heap.size, 1, none⟩ = some (.slice so sn sc) ∧ w'.cell? ⟨w.heap.size, 2, none⟩ = some (.slice to' tn tc))
    (go_keep)
    (first
      | (go_at_call 57; (with_reducible refine (h1 _).mono ?_); rintro e _ ⟨rfl, rfl⟩)
      | (go_at_call 58; (with_reducible refine (h2 _).mono ?_); rintro e _ ⟨rfl, rfl⟩)
      | (go_at_call 59; (with_reducible refine (h3 _).mono ?_); rintro e _ ⟨rfl, rfl⟩))
  all_goals
    have hX := set_block (Mem.drew M1).1 [.slice fo f f, .slice so s s, .slice to' t t] rfl
    have hY := below_setCells (B := w.heap.size) (below_dr hB1) (b := w.heap.size + 1) (by omega) 0 [.slice fo f f, .slice so s s, .slice to' t t]
    go_wp2_with fail
    obtain ⟨W_e, hW_e⟩ : ∃ W_e, W_e = w1.drew.setCells (w.heap.size + 1) 0 [.slice fo f f, .slice so s s, .slice to' t t] := ⟨_, rfl⟩
    rw [← hW_e] at hX hY
    refine at_world hW_e ?_
    have k_0 := Mem.cell (v := .slice fo f f) hX 0 rfl
    have k_1 := Mem.cell (v := .slice so s s) hX 1 rfl
    have k_2 := Mem.cell (v := .slice to' t t) hX 2 rfl
    refine bodyPost_ret (v := .agg #[.slice fo f f, .slice so s s, .slice to' t t]) (by simp [results, Tryz.results32, go_sem, k_0, k_1, k_2]) rfl ⟨rfl, hY⟩
theorem cutC_any (fo so to' : Option Addr) (fn fc sn sc tn tc : Nat) (a b c : Int) (hf : fn ≤ fc) (hf2 : fc ≤ maxLen) (hs : sn ≤ sc) (hs2 : sc ≤ maxLen) (ht : tn ≤ tc) (ht2 : tc ≤ maxLen) (w : World) :
    Calls Tryz.prog 32 #[.agg #[.slice fo fn fc, .slice so sn sc, .slice to' tn tc], .int .i64 a, .int .i64 b, .int .i64 c] w fun e w' => e = .returned (.agg #[.slice fo (cutN a fn) (cutN a fn), .slice so (cutN b sn) (cutN b sn), .slice to' (cutN c tn) (cutN c tn)]) ∧ Below w.heap.size w w' :=
  cutC_gen fo so to' fn fc sn sc tn tc a b c _ _ _ (cut_core.Frame_any fo fn fc a hf hf2) (cut_val.Value_any so sn sc b hs hs2) (cut_core.Try_any to' tn tc c ht ht2) w
end Go.Proofs.YtnmepcogijgbjaaGreatDoor
