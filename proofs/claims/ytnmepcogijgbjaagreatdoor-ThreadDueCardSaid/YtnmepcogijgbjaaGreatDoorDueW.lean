/- The first scope is due whose time is over; once a scope that is due is left none ahead of it is; the times of scopes are as they were entered. The walk: the law answers true; no memory that was there is turned. Conditions: the integers are of their kinds, a string has at most 140737488351232 bytes, the listed package variables hold what the program's text lays. -/
import Derived.Test.YtnmepcogijgbjaaGreatDoorDueC
namespace Go.Proofs.YtnmepcogijgbjaaGreatDoor
open Go.RowKit
theorem load_th_w {ops : Array Oper} {rest : List Oper} {op : Oper} {a : Act} {w : World} {Q : Exit → Act → World → Prop} (hgd : Region.wanted op (yielded ops a.tmps) = true) (x : Operand) (ho : op.op = .load 39 x)
    (b : Nat) (hx : a.eval x = .pointer (some ⟨b, 0, none⟩)) (t : Th) (hb : w.heap[b]? = some (.cells (th t) 39))
    (h : wpList Tryz.prog ops Q rest (a.put op.dst (.agg (th t))) w) : wpList Tryz.prog ops Q (op :: rest) a w := by
  show (if Region.wanted op (yielded ops a.tmps) then _ else _)
  rw [if_pos hgd]
  exact .inl (wp_load_mid 39 x ho b 0 hx (th t).toList _ (range_block hb) Tryz.underlying39 rfl info_th h)
set_option maxRecDepth 100000 in
set_option maxHeartbeats 8000000 in
theorem threaddue_core (cS cI kS kI : ByteArray) (h1 : Bd cS) (h2 : Bd cI) (h3 : Bd kS) (h4 : Bd kI)
    (e0 e1 e2 e3 e4 e5 e8 e9 : Int) (e6 e7 e10 e11 e12 : ByteArray) (f0 f1 f2 f3 f4 f5 f8 f9 : Int) (f6 f7 f10 f11 f12 : ByteArray) (now : Int)
    (A1 A2 N1 B2 T1 T2 N2 U1 U2 : Int) (eA1 : (max e2 0).tmod 1000 = A1) (eA2 : (max f2 0).tmod 1000 = A2) (eN1 : (max e4 0).tmod 1000000 = N1) (eB2 : (max f4 0).tmod 1000 = B2)
    (eT1 : IntKind.i64.wrap (1 + A1) = T1) (eT2 : IntKind.i64.wrap (1 + A2) = T2) (eN2 : IntKind.i64.wrap (N1 + B2) = N2) (eU1 : IntKind.i64.wrap (N1 + T1) = U1) (eU2 : IntKind.i64.wrap (N2 + T2) = U2)
    (hT1 : 1 ≤ T1 ∧ T1 ≤ 1000) (hT2 : 1 ≤ T2 ∧ T2 ≤ 1000) (w : World) (hw : Laid w) (HEX : ∀ W, Laid W → Calls Tryz.prog 6 #[] W fun e w' => e = .returned (.bool true) ∧ Below W.heap.size W w') :
    Calls Tryz.prog 3 #[.agg #[.string cS, .string cI, .string kS, .string kI], .agg #[.int .i64 e0, .int .i64 e1, .int .i64 e2, .int .i64 e3, .int .i64 e4, .int .u8 e5, .string e6, .string e7, .int .i64 e8, .int .i64 e9, .string e10, .string e11, .string e12], .agg #[.int .i64 f0, .int .i64 f1, .int .i64 f2, .int .i64 f3, .int .i64 f4, .int .u8 f5, .string f6, .string f7, .int .i64 f8, .int .i64 f9, .string f10, .string f11, .string f12], .int .i64 now] w fun e w' => e = .returned (.bool true) ∧ Below w.heap.size w w' := by
  obtain ⟨CS, hCS⟩ : ∃ x, x = NB (tk4 cS) := ⟨_, rfl⟩
  obtain ⟨CI, hCI⟩ : ∃ x, x = NB (tk4 cI) := ⟨_, rfl⟩
  have b5 : Bd CS := by have := nb_size (tk4 cS); rw [← hCS] at this; unfold Bd; omega
  have b6 : Bd CI := by have := nb_size (tk4 cI); rw [← hCI] at this; unfold Bd; omega
  have HBEG := Lib.hid (fun W => by have := begun_nil cS cI kS kI h1 h2 h3 h4 255 (by decide) (by decide) W; rw [← hCS, ← hCI] at this; exact this)
  have B5 := Lib.hid b5
  have B6 := Lib.hid b6
  have HT1 := Lib.hid hT1
  have HT2 := Lib.hid hT2
  clear hCS hCI h1 h2 h3 h4 b5 b6 hT1 hT2
  go_enter Tryz.func3, Tryz.ntmps3
  have hB0 := Below.refl w.heap.size w
  have M0 := Mem.nil w
  have hw0 := hw
  go_wp2_with fail
  refine Calls.named ?_
  intro W1 hW1
  have hB1_ : Below w.heap.size w W1 := by rw [hW1]; exact (below_al (below_al (below_al hB0 _) _) _)
  have hw1_ : Laid W1 := by rw [hW1]; exact (((hw.alloc _).alloc _).alloc _)
  have M1_ := (((M0).new' (w.heap.size) (by rfl) (.cells #[.string cS, .string cI, .string kS, .string kI] 26)).new' (w.heap.size + 1) (by simp) (.cells #[.int .i64 e0, .int .i64 e1, .int .i64 e2, .int .i64 e3, .int .i64 e4, .int .u8 e5, .string e6, .string e7, .int .i64 e8, .int .i64 e9, .string e10, .string e11, .string e12] 30)).new' (w.heap.size + 1 + 1) (by simp) (.cells #[.int .i64 f0, .int .i64 f1, .int .i64 f2, .int .i64 f3, .int .i64 f4, .int .u8 f5, .string f6, .string f7, .int .i64 f8, .int .i64 f9, .string f10, .string f11, .string f12] 30)
  rw [← hW1] at M1_
  clear hW1
  have ZZ1_0 := Lib.hid (Mem.lt M1_.1)
  have ZZ1_1 := Lib.hid (Mem.lt M1_.2.1)
  have ZZ1_2 := Lib.hid (Mem.lt M1_.2.2.1)
  refine (HEX _ hw1_).mono ?_
  rintro e w1 ⟨rfl, hb1⟩
  have hB1 := below_then hB1_ hb1
  have hw1 := hw1_.below hb1
  have M1 := M1_.below hb1
  clear M1_ hB1_ hb1 hw1_
  have c1_0_0 := Mem.cell (v := .int .i64 f0) M1.1 0 rfl
  have c1_0_1 := Mem.cell (v := .int .i64 f1) M1.1 1 rfl
  have c1_0_2 := Mem.cell (v := .int .i64 f2) M1.1 2 rfl
  have c1_0_3 := Mem.cell (v := .int .i64 f3) M1.1 3 rfl
  have c1_0_4 := Mem.cell (v := .int .i64 f4) M1.1 4 rfl
  have c1_0_5 := Mem.cell (v := .int .u8 f5) M1.1 5 rfl
  have c1_0_6 := Mem.cell (v := .string f6) M1.1 6 rfl
  have c1_0_7 := Mem.cell (v := .string f7) M1.1 7 rfl
  have c1_0_8 := Mem.cell (v := .int .i64 f8) M1.1 8 rfl
  have c1_0_9 := Mem.cell (v := .int .i64 f9) M1.1 9 rfl
  have c1_0_10 := Mem.cell (v := .string f10) M1.1 10 rfl
  have c1_0_11 := Mem.cell (v := .string f11) M1.1 11 rfl
  have c1_0_12 := Mem.cell (v := .string f12) M1.1 12 rfl
  have z1_0 := Mem.lt M1.1
  have c1_1_0 := Mem.cell (v := .int .i64 e0) M1.2.1 0 rfl
  have c1_1_1 := Mem.cell (v := .int .i64 e1) M1.2.1 1 rfl
  have c1_1_2 := Mem.cell (v := .int .i64 e2) M1.2.1 2 rfl
  have c1_1_3 := Mem.cell (v := .int .i64 e3) M1.2.1 3 rfl
  have c1_1_4 := Mem.cell (v := .int .i64 e4) M1.2.1 4 rfl
  have c1_1_5 := Mem.cell (v := .int .u8 e5) M1.2.1 5 rfl
  have c1_1_6 := Mem.cell (v := .string e6) M1.2.1 6 rfl
  have c1_1_7 := Mem.cell (v := .string e7) M1.2.1 7 rfl
  have c1_1_8 := Mem.cell (v := .int .i64 e8) M1.2.1 8 rfl
  have c1_1_9 := Mem.cell (v := .int .i64 e9) M1.2.1 9 rfl
  have c1_1_10 := Mem.cell (v := .string e10) M1.2.1 10 rfl
  have c1_1_11 := Mem.cell (v := .string e11) M1.2.1 11 rfl
  have c1_1_12 := Mem.cell (v := .string e12) M1.2.1 12 rfl
  have z1_1 := Mem.lt M1.2.1
  have c1_2_0 := Mem.cell (v := .string cS) M1.2.2.1 0 rfl
  have c1_2_1 := Mem.cell (v := .string cI) M1.2.2.1 1 rfl
  have c1_2_2 := Mem.cell (v := .string kS) M1.2.2.1 2 rfl
  have c1_2_3 := Mem.cell (v := .string kI) M1.2.2.1 3 rfl
  have z1_2 := Mem.lt M1.2.2.1
  go_wp2_with fail
  refine Calls.named ?_
  intro W2 hW2
  have hB2_ : Below w.heap.size w W2 := by rw [hW2]; exact hB1
  have hw2_ : Laid W2 := by rw [hW2]; exact hw1
  have M2_ := M1
  rw [← hW2] at M2_
  clear hW2
  have ZZ2_0 := Lib.hid (Mem.lt M2_.1)
  have ZZ2_1 := Lib.hid (Mem.lt M2_.2.1)
  have ZZ2_2 := Lib.hid (Mem.lt M2_.2.2.1)
  clear c1_0_0 c1_0_1 c1_0_2 c1_0_3 c1_0_4 c1_0_5 c1_0_6 c1_0_7 c1_0_8 c1_0_9 c1_0_10 c1_0_11 c1_0_12 z1_0 c1_1_0 c1_1_1 c1_1_2 c1_1_3 c1_1_4 c1_1_5 c1_1_6 c1_1_7 c1_1_8 c1_1_9 c1_1_10 c1_1_11 c1_1_12 z1_1 c1_2_0 c1_2_1 c1_2_2 c1_2_3 z1_2
  refine (HBEG.out _).mono ?_
  rintro e w2 ⟨fo, fc, jS, jI, rfl, ⟨xf, hown⟩, hb2⟩
  have hB2 := below_then hB2_ hb2
  have hw2 := hw2_.below hb2
  have M2 := M2_.below hb2
  clear M2_ hB2_ hb2 hw2_
  have c2_0_0 := Mem.cell (v := .int .i64 f0) M2.1 0 rfl
  have c2_0_1 := Mem.cell (v := .int .i64 f1) M2.1 1 rfl
  have c2_0_2 := Mem.cell (v := .int .i64 f2) M2.1 2 rfl
  have c2_0_3 := Mem.cell (v := .int .i64 f3) M2.1 3 rfl
  have c2_0_4 := Mem.cell (v := .int .i64 f4) M2.1 4 rfl
  have c2_0_5 := Mem.cell (v := .int .u8 f5) M2.1 5 rfl
  have c2_0_6 := Mem.cell (v := .string f6) M2.1 6 rfl
  have c2_0_7 := Mem.cell (v := .string f7) M2.1 7 rfl
  have c2_0_8 := Mem.cell (v := .int .i64 f8) M2.1 8 rfl
  have c2_0_9 := Mem.cell (v := .int .i64 f9) M2.1 9 rfl
  have c2_0_10 := Mem.cell (v := .string f10) M2.1 10 rfl
  have c2_0_11 := Mem.cell (v := .string f11) M2.1 11 rfl
  have c2_0_12 := Mem.cell (v := .string f12) M2.1 12 rfl
  have z2_0 := Mem.lt M2.1
  have c2_1_0 := Mem.cell (v := .int .i64 e0) M2.2.1 0 rfl
  have c2_1_1 := Mem.cell (v := .int .i64 e1) M2.2.1 1 rfl
  have c2_1_2 := Mem.cell (v := .int .i64 e2) M2.2.1 2 rfl
  have c2_1_3 := Mem.cell (v := .int .i64 e3) M2.2.1 3 rfl
  have c2_1_4 := Mem.cell (v := .int .i64 e4) M2.2.1 4 rfl
  have c2_1_5 := Mem.cell (v := .int .u8 e5) M2.2.1 5 rfl
  have c2_1_6 := Mem.cell (v := .string e6) M2.2.1 6 rfl
  have c2_1_7 := Mem.cell (v := .string e7) M2.2.1 7 rfl
  have c2_1_8 := Mem.cell (v := .int .i64 e8) M2.2.1 8 rfl
  have c2_1_9 := Mem.cell (v := .int .i64 e9) M2.2.1 9 rfl
  have c2_1_10 := Mem.cell (v := .string e10) M2.2.1 10 rfl
  have c2_1_11 := Mem.cell (v := .string e11) M2.2.1 11 rfl
  have c2_1_12 := Mem.cell (v := .string e12) M2.2.1 12 rfl
  have z2_1 := Mem.lt M2.2.1
  have c2_2_0 := Mem.cell (v := .string cS) M2.2.2.1 0 rfl
  have c2_2_1 := Mem.cell (v := .string cI) M2.2.2.1 1 rfl
  have c2_2_2 := Mem.cell (v := .string kS) M2.2.2.1 2 rfl
  have c2_2_3 := Mem.cell (v := .string kI) M2.2.2.1 3 rfl
  have z2_2 := Mem.lt M2.2.2.1
  have hxl : xf.length = 5 := hown.1
  obtain ⟨gf, cf, rfl, hgf, hgc, hfc, hfc2, hft⟩ := own_box hown
  have HFT := Lib.hid hft
  have HXL := Lib.hid hxl
  clear hown hft hxl
  have ogf : w.heap.size + 1 + 1 < gf := by have := ZZ2_0.out; omega
  replace M2 : Mem w2 [(w.heap.size + 1 + 1, .cells #[.int .i64 f0, .int .i64 f1, .int .i64 f2, .int .i64 f3, .int .i64 f4, .int .u8 f5, .string f6, .string f7, .int .i64 f8, .int .i64 f9, .string f10, .string f11, .string f12] 30), (w.heap.size + 1, .cells #[.int .i64 e0, .int .i64 e1, .int .i64 e2, .int .i64 e3, .int .i64 e4, .int .u8 e5, .string e6, .string e7, .int .i64 e8, .int .i64 e9, .string e10, .string e11, .string e12] 30), (w.heap.size, .cells #[.string cS, .string cI, .string kS, .string kI] 26), (gf, .cells cf 104)] := ⟨M2.1, M2.2.1, M2.2.2.1, hgc, trivial⟩
  simp only
  iterate 4 go_step
  have oo2_0 : w.heap.size + 1 + 1 < w2.heap.size := Mem.lt M2.1
  have oo2_1 : w.heap.size + 1 < w2.heap.size := Mem.lt M2.2.1
  have oo2_2 : w.heap.size < w2.heap.size := Mem.lt M2.2.2.1
  have oo2_3 : gf < w2.heap.size := Mem.lt M2.2.2.2.1
  refine wpl_named ?_
  intro w3 hW3
  have hB3 : Below w.heap.size w w3 := by rw [hW3]; exact (below_al hB2 _)
  have hw3 : Laid w3 := by rw [hW3]; exact (hw2.alloc _)
  have M3 : Mem w3 [(w2.heap.size, .cells (th (th0)) 39), (w.heap.size + 1 + 1, .cells #[.int .i64 f0, .int .i64 f1, .int .i64 f2, .int .i64 f3, .int .i64 f4, .int .u8 f5, .string f6, .string f7, .int .i64 f8, .int .i64 f9, .string f10, .string f11, .string f12] 30), (w.heap.size + 1, .cells #[.int .i64 e0, .int .i64 e1, .int .i64 e2, .int .i64 e3, .int .i64 e4, .int .u8 e5, .string e6, .string e7, .int .i64 e8, .int .i64 e9, .string e10, .string e11, .string e12] 30), (w.heap.size, .cells #[.string cS, .string cI, .string kS, .string kI] 26), (gf, .cells cf 104)] := by rw [hW3]; exact (M2).new' (w2.heap.size) (by rfl) (.cells (th (th0)) 39)
  clear c2_0_0 c2_0_1 c2_0_2 c2_0_3 c2_0_4 c2_0_5 c2_0_6 c2_0_7 c2_0_8 c2_0_9 c2_0_10 c2_0_11 c2_0_12 z2_0 c2_1_0 c2_1_1 c2_1_2 c2_1_3 c2_1_4 c2_1_5 c2_1_6 c2_1_7 c2_1_8 c2_1_9 c2_1_10 c2_1_11 c2_1_12 z2_1 c2_2_0 c2_2_1 c2_2_2 c2_2_3 z2_2
  clear hW3
  have z3_0 := Mem.lt M3.1
  have c3_1_0 := Mem.cell (v := .int .i64 f0) M3.2.1 0 rfl
  have c3_1_1 := Mem.cell (v := .int .i64 f1) M3.2.1 1 rfl
  have c3_1_2 := Mem.cell (v := .int .i64 f2) M3.2.1 2 rfl
  have c3_1_3 := Mem.cell (v := .int .i64 f3) M3.2.1 3 rfl
  have c3_1_4 := Mem.cell (v := .int .i64 f4) M3.2.1 4 rfl
  have c3_1_5 := Mem.cell (v := .int .u8 f5) M3.2.1 5 rfl
  have c3_1_6 := Mem.cell (v := .string f6) M3.2.1 6 rfl
  have c3_1_7 := Mem.cell (v := .string f7) M3.2.1 7 rfl
  have c3_1_8 := Mem.cell (v := .int .i64 f8) M3.2.1 8 rfl
  have c3_1_9 := Mem.cell (v := .int .i64 f9) M3.2.1 9 rfl
  have c3_1_10 := Mem.cell (v := .string f10) M3.2.1 10 rfl
  have c3_1_11 := Mem.cell (v := .string f11) M3.2.1 11 rfl
  have c3_1_12 := Mem.cell (v := .string f12) M3.2.1 12 rfl
  have z3_1 := Mem.lt M3.2.1
  have c3_2_0 := Mem.cell (v := .int .i64 e0) M3.2.2.1 0 rfl
  have c3_2_1 := Mem.cell (v := .int .i64 e1) M3.2.2.1 1 rfl
  have c3_2_2 := Mem.cell (v := .int .i64 e2) M3.2.2.1 2 rfl
  have c3_2_3 := Mem.cell (v := .int .i64 e3) M3.2.2.1 3 rfl
  have c3_2_4 := Mem.cell (v := .int .i64 e4) M3.2.2.1 4 rfl
  have c3_2_5 := Mem.cell (v := .int .u8 e5) M3.2.2.1 5 rfl
  have c3_2_6 := Mem.cell (v := .string e6) M3.2.2.1 6 rfl
  have c3_2_7 := Mem.cell (v := .string e7) M3.2.2.1 7 rfl
  have c3_2_8 := Mem.cell (v := .int .i64 e8) M3.2.2.1 8 rfl
  have c3_2_9 := Mem.cell (v := .int .i64 e9) M3.2.2.1 9 rfl
  have c3_2_10 := Mem.cell (v := .string e10) M3.2.2.1 10 rfl
  have c3_2_11 := Mem.cell (v := .string e11) M3.2.2.1 11 rfl
  have c3_2_12 := Mem.cell (v := .string e12) M3.2.2.1 12 rfl
  have z3_2 := Mem.lt M3.2.2.1
  have c3_3_0 := Mem.cell (v := .string cS) M3.2.2.2.1 0 rfl
  have c3_3_1 := Mem.cell (v := .string cI) M3.2.2.2.1 1 rfl
  have c3_3_2 := Mem.cell (v := .string kS) M3.2.2.2.1 2 rfl
  have c3_3_3 := Mem.cell (v := .string kI) M3.2.2.2.1 3 rfl
  have z3_3 := Mem.lt M3.2.2.2.1
  have z3_4 := Mem.lt M3.2.2.2.2.1
  refine store_th rfl _ _ rfl (w2.heap.size) rfl (th0) ((thNew ⟨#[51]⟩ CS CI jS jI ⟨ptA gf, 1, fc⟩ ⟨none, 0, 0⟩ ⟨none, 0, 0⟩ 255)) rfl M3.1 (one_th _) ?_
  intro w4 hW4
  have hB4 : Below w.heap.size w w4 := by rw [hW4]; exact below_setCells (B := w.heap.size) hB3 (b := w2.heap.size) (by have := hB3.size; omega) 0 _
  have hw4 : Laid w4 := hw0.below hB4
  have M4 : Mem w4 [(w2.heap.size, .cells (th ((thNew ⟨#[51]⟩ CS CI jS jI ⟨ptA gf, 1, fc⟩ ⟨none, 0, 0⟩ ⟨none, 0, 0⟩ 255))) 39), (w.heap.size + 1 + 1, .cells #[.int .i64 f0, .int .i64 f1, .int .i64 f2, .int .i64 f3, .int .i64 f4, .int .u8 f5, .string f6, .string f7, .int .i64 f8, .int .i64 f9, .string f10, .string f11, .string f12] 30), (w.heap.size + 1, .cells #[.int .i64 e0, .int .i64 e1, .int .i64 e2, .int .i64 e3, .int .i64 e4, .int .u8 e5, .string e6, .string e7, .int .i64 e8, .int .i64 e9, .string e10, .string e11, .string e12] 30), (w.heap.size, .cells #[.string cS, .string cI, .string kS, .string kI] 26), (gf, .cells cf 104)] := by rw [hW4]; exact ⟨set_th M3.1 _, (setCells_other _ 0 _ _ (by omega)).trans M3.2.1, (setCells_other _ 0 _ _ (by omega)).trans M3.2.2.1, (setCells_other _ 0 _ _ (by omega)).trans M3.2.2.2.1, (setCells_other _ 0 _ _ (by omega)).trans M3.2.2.2.2.1, trivial⟩
  clear z3_0 c3_1_0 c3_1_1 c3_1_2 c3_1_3 c3_1_4 c3_1_5 c3_1_6 c3_1_7 c3_1_8 c3_1_9 c3_1_10 c3_1_11 c3_1_12 z3_1 c3_2_0 c3_2_1 c3_2_2 c3_2_3 c3_2_4 c3_2_5 c3_2_6 c3_2_7 c3_2_8 c3_2_9 c3_2_10 c3_2_11 c3_2_12 z3_2 c3_3_0 c3_3_1 c3_3_2 c3_3_3 z3_3 z3_4
  clear hW4
  have z4_0 := Mem.lt M4.1
  have c4_1_0 := Mem.cell (v := .int .i64 f0) M4.2.1 0 rfl
  have c4_1_1 := Mem.cell (v := .int .i64 f1) M4.2.1 1 rfl
  have c4_1_2 := Mem.cell (v := .int .i64 f2) M4.2.1 2 rfl
  have c4_1_3 := Mem.cell (v := .int .i64 f3) M4.2.1 3 rfl
  have c4_1_4 := Mem.cell (v := .int .i64 f4) M4.2.1 4 rfl
  have c4_1_5 := Mem.cell (v := .int .u8 f5) M4.2.1 5 rfl
  have c4_1_6 := Mem.cell (v := .string f6) M4.2.1 6 rfl
  have c4_1_7 := Mem.cell (v := .string f7) M4.2.1 7 rfl
  have c4_1_8 := Mem.cell (v := .int .i64 f8) M4.2.1 8 rfl
  have c4_1_9 := Mem.cell (v := .int .i64 f9) M4.2.1 9 rfl
  have c4_1_10 := Mem.cell (v := .string f10) M4.2.1 10 rfl
  have c4_1_11 := Mem.cell (v := .string f11) M4.2.1 11 rfl
  have c4_1_12 := Mem.cell (v := .string f12) M4.2.1 12 rfl
  have z4_1 := Mem.lt M4.2.1
  have c4_2_0 := Mem.cell (v := .int .i64 e0) M4.2.2.1 0 rfl
  have c4_2_1 := Mem.cell (v := .int .i64 e1) M4.2.2.1 1 rfl
  have c4_2_2 := Mem.cell (v := .int .i64 e2) M4.2.2.1 2 rfl
  have c4_2_3 := Mem.cell (v := .int .i64 e3) M4.2.2.1 3 rfl
  have c4_2_4 := Mem.cell (v := .int .i64 e4) M4.2.2.1 4 rfl
  have c4_2_5 := Mem.cell (v := .int .u8 e5) M4.2.2.1 5 rfl
  have c4_2_6 := Mem.cell (v := .string e6) M4.2.2.1 6 rfl
  have c4_2_7 := Mem.cell (v := .string e7) M4.2.2.1 7 rfl
  have c4_2_8 := Mem.cell (v := .int .i64 e8) M4.2.2.1 8 rfl
  have c4_2_9 := Mem.cell (v := .int .i64 e9) M4.2.2.1 9 rfl
  have c4_2_10 := Mem.cell (v := .string e10) M4.2.2.1 10 rfl
  have c4_2_11 := Mem.cell (v := .string e11) M4.2.2.1 11 rfl
  have c4_2_12 := Mem.cell (v := .string e12) M4.2.2.1 12 rfl
  have z4_2 := Mem.lt M4.2.2.1
  have c4_3_0 := Mem.cell (v := .string cS) M4.2.2.2.1 0 rfl
  have c4_3_1 := Mem.cell (v := .string cI) M4.2.2.2.1 1 rfl
  have c4_3_2 := Mem.cell (v := .string kS) M4.2.2.2.1 2 rfl
  have c4_3_3 := Mem.cell (v := .string kI) M4.2.2.2.1 3 rfl
  have z4_3 := Mem.lt M4.2.2.2.1
  have z4_4 := Mem.lt M4.2.2.2.2.1
  go_wp2_with fail
  refine Calls.named ?_
  intro W5 hW5
  have hB5_ : Below w.heap.size w W5 := by rw [hW5]; exact hB4
  have hw5_ : Laid W5 := by rw [hW5]; exact hw4
  have M5_ := M4
  rw [← hW5] at M5_
  clear hW5
  have ZZ5_0 := Lib.hid (Mem.lt M5_.1)
  have ZZ5_1 := Lib.hid (Mem.lt M5_.2.1)
  have ZZ5_2 := Lib.hid (Mem.lt M5_.2.2.1)
  have ZZ5_3 := Lib.hid (Mem.lt M5_.2.2.2.1)
  have ZZ5_4 := Lib.hid (Mem.lt M5_.2.2.2.2.1)
  clear z4_0 c4_1_0 c4_1_1 c4_1_2 c4_1_3 c4_1_4 c4_1_5 c4_1_6 c4_1_7 c4_1_8 c4_1_9 c4_1_10 c4_1_11 c4_1_12 z4_1 c4_2_0 c4_2_1 c4_2_2 c4_2_3 c4_2_4 c4_2_5 c4_2_6 c4_2_7 c4_2_8 c4_2_9 c4_2_10 c4_2_11 c4_2_12 z4_2 c4_3_0 c4_3_1 c4_3_2 c4_3_3 z4_3 z4_4
  refine (high_any _).mono ?_
  rintro e w5 ⟨rfl, hb5⟩
  have hB5 := below_then hB5_ hb5
  have hw5 := hw5_.below hb5
  have M5 := M5_.below hb5
  clear M5_ hB5_ hb5 hw5_
  have z5_0 := Mem.lt M5.1
  have c5_1_0 := Mem.cell (v := .int .i64 f0) M5.2.1 0 rfl
  have c5_1_1 := Mem.cell (v := .int .i64 f1) M5.2.1 1 rfl
  have c5_1_2 := Mem.cell (v := .int .i64 f2) M5.2.1 2 rfl
  have c5_1_3 := Mem.cell (v := .int .i64 f3) M5.2.1 3 rfl
  have c5_1_4 := Mem.cell (v := .int .i64 f4) M5.2.1 4 rfl
  have c5_1_5 := Mem.cell (v := .int .u8 f5) M5.2.1 5 rfl
  have c5_1_6 := Mem.cell (v := .string f6) M5.2.1 6 rfl
  have c5_1_7 := Mem.cell (v := .string f7) M5.2.1 7 rfl
  have c5_1_8 := Mem.cell (v := .int .i64 f8) M5.2.1 8 rfl
  have c5_1_9 := Mem.cell (v := .int .i64 f9) M5.2.1 9 rfl
  have c5_1_10 := Mem.cell (v := .string f10) M5.2.1 10 rfl
  have c5_1_11 := Mem.cell (v := .string f11) M5.2.1 11 rfl
  have c5_1_12 := Mem.cell (v := .string f12) M5.2.1 12 rfl
  have z5_1 := Mem.lt M5.2.1
  have c5_2_0 := Mem.cell (v := .int .i64 e0) M5.2.2.1 0 rfl
  have c5_2_1 := Mem.cell (v := .int .i64 e1) M5.2.2.1 1 rfl
  have c5_2_2 := Mem.cell (v := .int .i64 e2) M5.2.2.1 2 rfl
  have c5_2_3 := Mem.cell (v := .int .i64 e3) M5.2.2.1 3 rfl
  have c5_2_4 := Mem.cell (v := .int .i64 e4) M5.2.2.1 4 rfl
  have c5_2_5 := Mem.cell (v := .int .u8 e5) M5.2.2.1 5 rfl
  have c5_2_6 := Mem.cell (v := .string e6) M5.2.2.1 6 rfl
  have c5_2_7 := Mem.cell (v := .string e7) M5.2.2.1 7 rfl
  have c5_2_8 := Mem.cell (v := .int .i64 e8) M5.2.2.1 8 rfl
  have c5_2_9 := Mem.cell (v := .int .i64 e9) M5.2.2.1 9 rfl
  have c5_2_10 := Mem.cell (v := .string e10) M5.2.2.1 10 rfl
  have c5_2_11 := Mem.cell (v := .string e11) M5.2.2.1 11 rfl
  have c5_2_12 := Mem.cell (v := .string e12) M5.2.2.1 12 rfl
  have z5_2 := Mem.lt M5.2.2.1
  have c5_3_0 := Mem.cell (v := .string cS) M5.2.2.2.1 0 rfl
  have c5_3_1 := Mem.cell (v := .string cI) M5.2.2.2.1 1 rfl
  have c5_3_2 := Mem.cell (v := .string kS) M5.2.2.2.1 2 rfl
  have c5_3_3 := Mem.cell (v := .string kI) M5.2.2.2.1 3 rfl
  have z5_3 := Mem.lt M5.2.2.2.1
  have z5_4 := Mem.lt M5.2.2.2.2.1
  have oo5_0 : w2.heap.size < w5.heap.size := Mem.lt M5.1
  have oo5_1 : w.heap.size + 1 + 1 < w5.heap.size := Mem.lt M5.2.1
  have oo5_2 : w.heap.size + 1 < w5.heap.size := Mem.lt M5.2.2.1
  have oo5_3 : w.heap.size < w5.heap.size := Mem.lt M5.2.2.2.1
  have oo5_4 : gf < w5.heap.size := Mem.lt M5.2.2.2.2.1
  go_upto_region 6 with (fail)
  refine wp_named ?_
  intro w6 hW6
  have hB6 : Below w.heap.size w w6 := by rw [hW6]; exact (below_al hB5 _)
  have hw6 : Laid w6 := by rw [hW6]; exact (hw5.alloc _)
  have M6 := (M5).new' (w5.heap.size) (by rfl) (.cells #[.string hiS, .string noS] 24)
  rw [← hW6] at M6
  clear z5_0 c5_1_0 c5_1_1 c5_1_2 c5_1_3 c5_1_4 c5_1_5 c5_1_6 c5_1_7 c5_1_8 c5_1_9 c5_1_10 c5_1_11 c5_1_12 z5_1 c5_2_0 c5_2_1 c5_2_2 c5_2_3 c5_2_4 c5_2_5 c5_2_6 c5_2_7 c5_2_8 c5_2_9 c5_2_10 c5_2_11 c5_2_12 z5_2 c5_3_0 c5_3_1 c5_3_2 c5_3_3 z5_3 z5_4
  clear hW6
  have c6_0_0 := Mem.cell (v := .string hiS) M6.1 0 rfl
  have c6_0_1 := Mem.cell (v := .string noS) M6.1 1 rfl
  have z6_0 := Mem.lt M6.1
  have z6_1 := Mem.lt M6.2.1
  have c6_2_0 := Mem.cell (v := .int .i64 f0) M6.2.2.1 0 rfl
  have c6_2_1 := Mem.cell (v := .int .i64 f1) M6.2.2.1 1 rfl
  have c6_2_2 := Mem.cell (v := .int .i64 f2) M6.2.2.1 2 rfl
  have c6_2_3 := Mem.cell (v := .int .i64 f3) M6.2.2.1 3 rfl
  have c6_2_4 := Mem.cell (v := .int .i64 f4) M6.2.2.1 4 rfl
  have c6_2_5 := Mem.cell (v := .int .u8 f5) M6.2.2.1 5 rfl
  have c6_2_6 := Mem.cell (v := .string f6) M6.2.2.1 6 rfl
  have c6_2_7 := Mem.cell (v := .string f7) M6.2.2.1 7 rfl
  have c6_2_8 := Mem.cell (v := .int .i64 f8) M6.2.2.1 8 rfl
  have c6_2_9 := Mem.cell (v := .int .i64 f9) M6.2.2.1 9 rfl
  have c6_2_10 := Mem.cell (v := .string f10) M6.2.2.1 10 rfl
  have c6_2_11 := Mem.cell (v := .string f11) M6.2.2.1 11 rfl
  have c6_2_12 := Mem.cell (v := .string f12) M6.2.2.1 12 rfl
  have z6_2 := Mem.lt M6.2.2.1
  have c6_3_0 := Mem.cell (v := .int .i64 e0) M6.2.2.2.1 0 rfl
  have c6_3_1 := Mem.cell (v := .int .i64 e1) M6.2.2.2.1 1 rfl
  have c6_3_2 := Mem.cell (v := .int .i64 e2) M6.2.2.2.1 2 rfl
  have c6_3_3 := Mem.cell (v := .int .i64 e3) M6.2.2.2.1 3 rfl
  have c6_3_4 := Mem.cell (v := .int .i64 e4) M6.2.2.2.1 4 rfl
  have c6_3_5 := Mem.cell (v := .int .u8 e5) M6.2.2.2.1 5 rfl
  have c6_3_6 := Mem.cell (v := .string e6) M6.2.2.2.1 6 rfl
  have c6_3_7 := Mem.cell (v := .string e7) M6.2.2.2.1 7 rfl
  have c6_3_8 := Mem.cell (v := .int .i64 e8) M6.2.2.2.1 8 rfl
  have c6_3_9 := Mem.cell (v := .int .i64 e9) M6.2.2.2.1 9 rfl
  have c6_3_10 := Mem.cell (v := .string e10) M6.2.2.2.1 10 rfl
  have c6_3_11 := Mem.cell (v := .string e11) M6.2.2.2.1 11 rfl
  have c6_3_12 := Mem.cell (v := .string e12) M6.2.2.2.1 12 rfl
  have z6_3 := Mem.lt M6.2.2.2.1
  have c6_4_0 := Mem.cell (v := .string cS) M6.2.2.2.2.1 0 rfl
  have c6_4_1 := Mem.cell (v := .string cI) M6.2.2.2.2.1 1 rfl
  have c6_4_2 := Mem.cell (v := .string kS) M6.2.2.2.2.1 2 rfl
  have c6_4_3 := Mem.cell (v := .string kI) M6.2.2.2.2.1 3 rfl
  have z6_4 := Mem.lt M6.2.2.2.2.1
  have z6_5 := Mem.lt M6.2.2.2.2.2.1
  have fa := fun j => Mem.free M6.2.2.2.1 j
  go_upto_region 7 with (fail)
  clear fa
  have hX6_0 : (w6.setCells (w.heap.size + 1) 2 [.int .i64 T1]).heap[w.heap.size + 1]? = some (.cells #[.int .i64 e0, .int .i64 e1, .int .i64 T1, .int .i64 e3, .int .i64 e4, .int .u8 e5, .string e6, .string e7, .int .i64 e8, .int .i64 e9, .string e10, .string e11, .string e12] 30) := by rw [setCells_block [.int .i64 T1] 2 _ _ ((M6).2.2.2.1) (by simp)]; rfl
  have hY6_0 := below_setCells (B := w.heap.size) hB6 (b := w.heap.size + 1) (by have := hB6.size; omega) 2 [.int .i64 T1]
  refine wp_named ?_
  intro w7 hW7
  have hB7 : Below w.heap.size w w7 := by rw [hW7]; exact hY6_0
  have hw7 : Laid w7 := hw0.below hB7
  have M7 : Mem w7 [(w5.heap.size, .cells #[.string hiS, .string noS] 24), (w2.heap.size, .cells (th ((thNew ⟨#[51]⟩ CS CI jS jI ⟨ptA gf, 1, fc⟩ ⟨none, 0, 0⟩ ⟨none, 0, 0⟩ 255))) 39), (w.heap.size + 1 + 1, .cells #[.int .i64 f0, .int .i64 f1, .int .i64 f2, .int .i64 f3, .int .i64 f4, .int .u8 f5, .string f6, .string f7, .int .i64 f8, .int .i64 f9, .string f10, .string f11, .string f12] 30), (w.heap.size + 1, .cells #[.int .i64 e0, .int .i64 e1, .int .i64 T1, .int .i64 e3, .int .i64 e4, .int .u8 e5, .string e6, .string e7, .int .i64 e8, .int .i64 e9, .string e10, .string e11, .string e12] 30), (w.heap.size, .cells #[.string cS, .string cI, .string kS, .string kI] 26), (gf, .cells cf 104)] := by rw [hW7]; exact ⟨(setCells_other [.int .i64 T1] 2 _ _ (by omega)).trans ((M6).1), (setCells_other [.int .i64 T1] 2 _ _ (by omega)).trans ((M6).2.1), (setCells_other [.int .i64 T1] 2 _ _ (by omega)).trans ((M6).2.2.1), hX6_0, (setCells_other [.int .i64 T1] 2 _ _ (by omega)).trans ((M6).2.2.2.2.1), (setCells_other [.int .i64 T1] 2 _ _ (by omega)).trans ((M6).2.2.2.2.2.1), trivial⟩
  clear c6_0_0 c6_0_1 z6_0 z6_1 c6_2_0 c6_2_1 c6_2_2 c6_2_3 c6_2_4 c6_2_5 c6_2_6 c6_2_7 c6_2_8 c6_2_9 c6_2_10 c6_2_11 c6_2_12 z6_2 c6_3_0 c6_3_1 c6_3_2 c6_3_3 c6_3_4 c6_3_5 c6_3_6 c6_3_7 c6_3_8 c6_3_9 c6_3_10 c6_3_11 c6_3_12 z6_3 c6_4_0 c6_4_1 c6_4_2 c6_4_3 z6_4 z6_5
  clear hW7 hX6_0 hY6_0
  have c7_0_0 := Mem.cell (v := .string hiS) M7.1 0 rfl
  have c7_0_1 := Mem.cell (v := .string noS) M7.1 1 rfl
  have z7_0 := Mem.lt M7.1
  have z7_1 := Mem.lt M7.2.1
  have c7_2_0 := Mem.cell (v := .int .i64 f0) M7.2.2.1 0 rfl
  have c7_2_1 := Mem.cell (v := .int .i64 f1) M7.2.2.1 1 rfl
  have c7_2_2 := Mem.cell (v := .int .i64 f2) M7.2.2.1 2 rfl
  have c7_2_3 := Mem.cell (v := .int .i64 f3) M7.2.2.1 3 rfl
  have c7_2_4 := Mem.cell (v := .int .i64 f4) M7.2.2.1 4 rfl
  have c7_2_5 := Mem.cell (v := .int .u8 f5) M7.2.2.1 5 rfl
  have c7_2_6 := Mem.cell (v := .string f6) M7.2.2.1 6 rfl
  have c7_2_7 := Mem.cell (v := .string f7) M7.2.2.1 7 rfl
  have c7_2_8 := Mem.cell (v := .int .i64 f8) M7.2.2.1 8 rfl
  have c7_2_9 := Mem.cell (v := .int .i64 f9) M7.2.2.1 9 rfl
  have c7_2_10 := Mem.cell (v := .string f10) M7.2.2.1 10 rfl
  have c7_2_11 := Mem.cell (v := .string f11) M7.2.2.1 11 rfl
  have c7_2_12 := Mem.cell (v := .string f12) M7.2.2.1 12 rfl
  have z7_2 := Mem.lt M7.2.2.1
  have c7_3_0 := Mem.cell (v := .int .i64 e0) M7.2.2.2.1 0 rfl
  have c7_3_1 := Mem.cell (v := .int .i64 e1) M7.2.2.2.1 1 rfl
  have c7_3_2 := Mem.cell (v := .int .i64 T1) M7.2.2.2.1 2 rfl
  have c7_3_3 := Mem.cell (v := .int .i64 e3) M7.2.2.2.1 3 rfl
  have c7_3_4 := Mem.cell (v := .int .i64 e4) M7.2.2.2.1 4 rfl
  have c7_3_5 := Mem.cell (v := .int .u8 e5) M7.2.2.2.1 5 rfl
  have c7_3_6 := Mem.cell (v := .string e6) M7.2.2.2.1 6 rfl
  have c7_3_7 := Mem.cell (v := .string e7) M7.2.2.2.1 7 rfl
  have c7_3_8 := Mem.cell (v := .int .i64 e8) M7.2.2.2.1 8 rfl
  have c7_3_9 := Mem.cell (v := .int .i64 e9) M7.2.2.2.1 9 rfl
  have c7_3_10 := Mem.cell (v := .string e10) M7.2.2.2.1 10 rfl
  have c7_3_11 := Mem.cell (v := .string e11) M7.2.2.2.1 11 rfl
  have c7_3_12 := Mem.cell (v := .string e12) M7.2.2.2.1 12 rfl
  have z7_3 := Mem.lt M7.2.2.2.1
  have c7_4_0 := Mem.cell (v := .string cS) M7.2.2.2.2.1 0 rfl
  have c7_4_1 := Mem.cell (v := .string cI) M7.2.2.2.2.1 1 rfl
  have c7_4_2 := Mem.cell (v := .string kS) M7.2.2.2.2.1 2 rfl
  have c7_4_3 := Mem.cell (v := .string kI) M7.2.2.2.2.1 3 rfl
  have z7_4 := Mem.lt M7.2.2.2.2.1
  have z7_5 := Mem.lt M7.2.2.2.2.2.1
  have fa := fun j => Mem.free M7.2.2.1 j
  go_upto_region 8 with (fail)
  clear fa
  have hX7_0 : (w7.setCells (w.heap.size + 1 + 1) 2 [.int .i64 T2]).heap[w.heap.size + 1 + 1]? = some (.cells #[.int .i64 f0, .int .i64 f1, .int .i64 T2, .int .i64 f3, .int .i64 f4, .int .u8 f5, .string f6, .string f7, .int .i64 f8, .int .i64 f9, .string f10, .string f11, .string f12] 30) := by rw [setCells_block [.int .i64 T2] 2 _ _ ((M7).2.2.1) (by simp)]; rfl
  have hY7_0 := below_setCells (B := w.heap.size) hB7 (b := w.heap.size + 1 + 1) (by have := hB7.size; omega) 2 [.int .i64 T2]
  refine wp_named ?_
  intro w8 hW8
  have hB8 : Below w.heap.size w w8 := by rw [hW8]; exact hY7_0
  have hw8 : Laid w8 := hw0.below hB8
  have M8 : Mem w8 [(w5.heap.size, .cells #[.string hiS, .string noS] 24), (w2.heap.size, .cells (th ((thNew ⟨#[51]⟩ CS CI jS jI ⟨ptA gf, 1, fc⟩ ⟨none, 0, 0⟩ ⟨none, 0, 0⟩ 255))) 39), (w.heap.size + 1 + 1, .cells #[.int .i64 f0, .int .i64 f1, .int .i64 T2, .int .i64 f3, .int .i64 f4, .int .u8 f5, .string f6, .string f7, .int .i64 f8, .int .i64 f9, .string f10, .string f11, .string f12] 30), (w.heap.size + 1, .cells #[.int .i64 e0, .int .i64 e1, .int .i64 T1, .int .i64 e3, .int .i64 e4, .int .u8 e5, .string e6, .string e7, .int .i64 e8, .int .i64 e9, .string e10, .string e11, .string e12] 30), (w.heap.size, .cells #[.string cS, .string cI, .string kS, .string kI] 26), (gf, .cells cf 104)] := by rw [hW8]; exact ⟨(setCells_other [.int .i64 T2] 2 _ _ (by omega)).trans ((M7).1), (setCells_other [.int .i64 T2] 2 _ _ (by omega)).trans ((M7).2.1), hX7_0, (setCells_other [.int .i64 T2] 2 _ _ (by omega)).trans ((M7).2.2.2.1), (setCells_other [.int .i64 T2] 2 _ _ (by omega)).trans ((M7).2.2.2.2.1), (setCells_other [.int .i64 T2] 2 _ _ (by omega)).trans ((M7).2.2.2.2.2.1), trivial⟩
  clear c7_0_0 c7_0_1 z7_0 z7_1 c7_2_0 c7_2_1 c7_2_2 c7_2_3 c7_2_4 c7_2_5 c7_2_6 c7_2_7 c7_2_8 c7_2_9 c7_2_10 c7_2_11 c7_2_12 z7_2 c7_3_0 c7_3_1 c7_3_2 c7_3_3 c7_3_4 c7_3_5 c7_3_6 c7_3_7 c7_3_8 c7_3_9 c7_3_10 c7_3_11 c7_3_12 z7_3 c7_4_0 c7_4_1 c7_4_2 c7_4_3 z7_4 z7_5
  clear hW8 hX7_0 hY7_0
  have c8_0_0 := Mem.cell (v := .string hiS) M8.1 0 rfl
  have c8_0_1 := Mem.cell (v := .string noS) M8.1 1 rfl
  have z8_0 := Mem.lt M8.1
  have z8_1 := Mem.lt M8.2.1
  have c8_2_0 := Mem.cell (v := .int .i64 f0) M8.2.2.1 0 rfl
  have c8_2_1 := Mem.cell (v := .int .i64 f1) M8.2.2.1 1 rfl
  have c8_2_2 := Mem.cell (v := .int .i64 T2) M8.2.2.1 2 rfl
  have c8_2_3 := Mem.cell (v := .int .i64 f3) M8.2.2.1 3 rfl
  have c8_2_4 := Mem.cell (v := .int .i64 f4) M8.2.2.1 4 rfl
  have c8_2_5 := Mem.cell (v := .int .u8 f5) M8.2.2.1 5 rfl
  have c8_2_6 := Mem.cell (v := .string f6) M8.2.2.1 6 rfl
  have c8_2_7 := Mem.cell (v := .string f7) M8.2.2.1 7 rfl
  have c8_2_8 := Mem.cell (v := .int .i64 f8) M8.2.2.1 8 rfl
  have c8_2_9 := Mem.cell (v := .int .i64 f9) M8.2.2.1 9 rfl
  have c8_2_10 := Mem.cell (v := .string f10) M8.2.2.1 10 rfl
  have c8_2_11 := Mem.cell (v := .string f11) M8.2.2.1 11 rfl
  have c8_2_12 := Mem.cell (v := .string f12) M8.2.2.1 12 rfl
  have z8_2 := Mem.lt M8.2.2.1
  have c8_3_0 := Mem.cell (v := .int .i64 e0) M8.2.2.2.1 0 rfl
  have c8_3_1 := Mem.cell (v := .int .i64 e1) M8.2.2.2.1 1 rfl
  have c8_3_2 := Mem.cell (v := .int .i64 T1) M8.2.2.2.1 2 rfl
  have c8_3_3 := Mem.cell (v := .int .i64 e3) M8.2.2.2.1 3 rfl
  have c8_3_4 := Mem.cell (v := .int .i64 e4) M8.2.2.2.1 4 rfl
  have c8_3_5 := Mem.cell (v := .int .u8 e5) M8.2.2.2.1 5 rfl
  have c8_3_6 := Mem.cell (v := .string e6) M8.2.2.2.1 6 rfl
  have c8_3_7 := Mem.cell (v := .string e7) M8.2.2.2.1 7 rfl
  have c8_3_8 := Mem.cell (v := .int .i64 e8) M8.2.2.2.1 8 rfl
  have c8_3_9 := Mem.cell (v := .int .i64 e9) M8.2.2.2.1 9 rfl
  have c8_3_10 := Mem.cell (v := .string e10) M8.2.2.2.1 10 rfl
  have c8_3_11 := Mem.cell (v := .string e11) M8.2.2.2.1 11 rfl
  have c8_3_12 := Mem.cell (v := .string e12) M8.2.2.2.1 12 rfl
  have z8_3 := Mem.lt M8.2.2.2.1
  have c8_4_0 := Mem.cell (v := .string cS) M8.2.2.2.2.1 0 rfl
  have c8_4_1 := Mem.cell (v := .string cI) M8.2.2.2.2.1 1 rfl
  have c8_4_2 := Mem.cell (v := .string kS) M8.2.2.2.2.1 2 rfl
  have c8_4_3 := Mem.cell (v := .string kI) M8.2.2.2.2.1 3 rfl
  have z8_4 := Mem.lt M8.2.2.2.2.1
  have z8_5 := Mem.lt M8.2.2.2.2.2.1
  have fa := fun j => Mem.free M8.2.2.2.1 j
  go_upto_region 9 with (fail)
  clear fa
  have hX8_0 : (w8.setCells (w.heap.size + 1) 4 [.int .i64 N1]).heap[w.heap.size + 1]? = some (.cells #[.int .i64 e0, .int .i64 e1, .int .i64 T1, .int .i64 e3, .int .i64 N1, .int .u8 e5, .string e6, .string e7, .int .i64 e8, .int .i64 e9, .string e10, .string e11, .string e12] 30) := by rw [setCells_block [.int .i64 N1] 4 _ _ ((M8).2.2.2.1) (by simp)]; rfl
  have hY8_0 := below_setCells (B := w.heap.size) hB8 (b := w.heap.size + 1) (by have := hB8.size; omega) 4 [.int .i64 N1]
  refine wp_named ?_
  intro w9 hW9
  have hB9 : Below w.heap.size w w9 := by rw [hW9]; exact hY8_0
  have hw9 : Laid w9 := hw0.below hB9
  have M9 : Mem w9 [(w5.heap.size, .cells #[.string hiS, .string noS] 24), (w2.heap.size, .cells (th ((thNew ⟨#[51]⟩ CS CI jS jI ⟨ptA gf, 1, fc⟩ ⟨none, 0, 0⟩ ⟨none, 0, 0⟩ 255))) 39), (w.heap.size + 1 + 1, .cells #[.int .i64 f0, .int .i64 f1, .int .i64 T2, .int .i64 f3, .int .i64 f4, .int .u8 f5, .string f6, .string f7, .int .i64 f8, .int .i64 f9, .string f10, .string f11, .string f12] 30), (w.heap.size + 1, .cells #[.int .i64 e0, .int .i64 e1, .int .i64 T1, .int .i64 e3, .int .i64 N1, .int .u8 e5, .string e6, .string e7, .int .i64 e8, .int .i64 e9, .string e10, .string e11, .string e12] 30), (w.heap.size, .cells #[.string cS, .string cI, .string kS, .string kI] 26), (gf, .cells cf 104)] := by rw [hW9]; exact ⟨(setCells_other [.int .i64 N1] 4 _ _ (by omega)).trans ((M8).1), (setCells_other [.int .i64 N1] 4 _ _ (by omega)).trans ((M8).2.1), (setCells_other [.int .i64 N1] 4 _ _ (by omega)).trans ((M8).2.2.1), hX8_0, (setCells_other [.int .i64 N1] 4 _ _ (by omega)).trans ((M8).2.2.2.2.1), (setCells_other [.int .i64 N1] 4 _ _ (by omega)).trans ((M8).2.2.2.2.2.1), trivial⟩
  clear c8_0_0 c8_0_1 z8_0 z8_1 c8_2_0 c8_2_1 c8_2_2 c8_2_3 c8_2_4 c8_2_5 c8_2_6 c8_2_7 c8_2_8 c8_2_9 c8_2_10 c8_2_11 c8_2_12 z8_2 c8_3_0 c8_3_1 c8_3_2 c8_3_3 c8_3_4 c8_3_5 c8_3_6 c8_3_7 c8_3_8 c8_3_9 c8_3_10 c8_3_11 c8_3_12 z8_3 c8_4_0 c8_4_1 c8_4_2 c8_4_3 z8_4 z8_5
  clear hW9 hX8_0 hY8_0
  have c9_0_0 := Mem.cell (v := .string hiS) M9.1 0 rfl
  have c9_0_1 := Mem.cell (v := .string noS) M9.1 1 rfl
  have z9_0 := Mem.lt M9.1
  have z9_1 := Mem.lt M9.2.1
  have c9_2_0 := Mem.cell (v := .int .i64 f0) M9.2.2.1 0 rfl
  have c9_2_1 := Mem.cell (v := .int .i64 f1) M9.2.2.1 1 rfl
  have c9_2_2 := Mem.cell (v := .int .i64 T2) M9.2.2.1 2 rfl
  have c9_2_3 := Mem.cell (v := .int .i64 f3) M9.2.2.1 3 rfl
  have c9_2_4 := Mem.cell (v := .int .i64 f4) M9.2.2.1 4 rfl
  have c9_2_5 := Mem.cell (v := .int .u8 f5) M9.2.2.1 5 rfl
  have c9_2_6 := Mem.cell (v := .string f6) M9.2.2.1 6 rfl
  have c9_2_7 := Mem.cell (v := .string f7) M9.2.2.1 7 rfl
  have c9_2_8 := Mem.cell (v := .int .i64 f8) M9.2.2.1 8 rfl
  have c9_2_9 := Mem.cell (v := .int .i64 f9) M9.2.2.1 9 rfl
  have c9_2_10 := Mem.cell (v := .string f10) M9.2.2.1 10 rfl
  have c9_2_11 := Mem.cell (v := .string f11) M9.2.2.1 11 rfl
  have c9_2_12 := Mem.cell (v := .string f12) M9.2.2.1 12 rfl
  have z9_2 := Mem.lt M9.2.2.1
  have c9_3_0 := Mem.cell (v := .int .i64 e0) M9.2.2.2.1 0 rfl
  have c9_3_1 := Mem.cell (v := .int .i64 e1) M9.2.2.2.1 1 rfl
  have c9_3_2 := Mem.cell (v := .int .i64 T1) M9.2.2.2.1 2 rfl
  have c9_3_3 := Mem.cell (v := .int .i64 e3) M9.2.2.2.1 3 rfl
  have c9_3_4 := Mem.cell (v := .int .i64 N1) M9.2.2.2.1 4 rfl
  have c9_3_5 := Mem.cell (v := .int .u8 e5) M9.2.2.2.1 5 rfl
  have c9_3_6 := Mem.cell (v := .string e6) M9.2.2.2.1 6 rfl
  have c9_3_7 := Mem.cell (v := .string e7) M9.2.2.2.1 7 rfl
  have c9_3_8 := Mem.cell (v := .int .i64 e8) M9.2.2.2.1 8 rfl
  have c9_3_9 := Mem.cell (v := .int .i64 e9) M9.2.2.2.1 9 rfl
  have c9_3_10 := Mem.cell (v := .string e10) M9.2.2.2.1 10 rfl
  have c9_3_11 := Mem.cell (v := .string e11) M9.2.2.2.1 11 rfl
  have c9_3_12 := Mem.cell (v := .string e12) M9.2.2.2.1 12 rfl
  have z9_3 := Mem.lt M9.2.2.2.1
  have c9_4_0 := Mem.cell (v := .string cS) M9.2.2.2.2.1 0 rfl
  have c9_4_1 := Mem.cell (v := .string cI) M9.2.2.2.2.1 1 rfl
  have c9_4_2 := Mem.cell (v := .string kS) M9.2.2.2.2.1 2 rfl
  have c9_4_3 := Mem.cell (v := .string kI) M9.2.2.2.2.1 3 rfl
  have z9_4 := Mem.lt M9.2.2.2.2.1
  have z9_5 := Mem.lt M9.2.2.2.2.2.1
  have fa := fun j => Mem.free M9.2.2.1 j
  go_upto_region 10 with (fail)
  clear fa
  have hX9_0 : (w9.setCells (w.heap.size + 1 + 1) 4 [.int .i64 N2]).heap[w.heap.size + 1 + 1]? = some (.cells #[.int .i64 f0, .int .i64 f1, .int .i64 T2, .int .i64 f3, .int .i64 N2, .int .u8 f5, .string f6, .string f7, .int .i64 f8, .int .i64 f9, .string f10, .string f11, .string f12] 30) := by rw [setCells_block [.int .i64 N2] 4 _ _ ((M9).2.2.1) (by simp)]; rfl
  have hY9_0 := below_setCells (B := w.heap.size) hB9 (b := w.heap.size + 1 + 1) (by have := hB9.size; omega) 4 [.int .i64 N2]
  refine wp_named ?_
  intro w10 hW10
  have hB10 : Below w.heap.size w w10 := by rw [hW10]; exact hY9_0
  have hw10 : Laid w10 := hw0.below hB10
  have M10 : Mem w10 [(w5.heap.size, .cells #[.string hiS, .string noS] 24), (w2.heap.size, .cells (th ((thNew ⟨#[51]⟩ CS CI jS jI ⟨ptA gf, 1, fc⟩ ⟨none, 0, 0⟩ ⟨none, 0, 0⟩ 255))) 39), (w.heap.size + 1 + 1, .cells #[.int .i64 f0, .int .i64 f1, .int .i64 T2, .int .i64 f3, .int .i64 N2, .int .u8 f5, .string f6, .string f7, .int .i64 f8, .int .i64 f9, .string f10, .string f11, .string f12] 30), (w.heap.size + 1, .cells #[.int .i64 e0, .int .i64 e1, .int .i64 T1, .int .i64 e3, .int .i64 N1, .int .u8 e5, .string e6, .string e7, .int .i64 e8, .int .i64 e9, .string e10, .string e11, .string e12] 30), (w.heap.size, .cells #[.string cS, .string cI, .string kS, .string kI] 26), (gf, .cells cf 104)] := by rw [hW10]; exact ⟨(setCells_other [.int .i64 N2] 4 _ _ (by omega)).trans ((M9).1), (setCells_other [.int .i64 N2] 4 _ _ (by omega)).trans ((M9).2.1), hX9_0, (setCells_other [.int .i64 N2] 4 _ _ (by omega)).trans ((M9).2.2.2.1), (setCells_other [.int .i64 N2] 4 _ _ (by omega)).trans ((M9).2.2.2.2.1), (setCells_other [.int .i64 N2] 4 _ _ (by omega)).trans ((M9).2.2.2.2.2.1), trivial⟩
  clear c9_0_0 c9_0_1 z9_0 z9_1 c9_2_0 c9_2_1 c9_2_2 c9_2_3 c9_2_4 c9_2_5 c9_2_6 c9_2_7 c9_2_8 c9_2_9 c9_2_10 c9_2_11 c9_2_12 z9_2 c9_3_0 c9_3_1 c9_3_2 c9_3_3 c9_3_4 c9_3_5 c9_3_6 c9_3_7 c9_3_8 c9_3_9 c9_3_10 c9_3_11 c9_3_12 z9_3 c9_4_0 c9_4_1 c9_4_2 c9_4_3 z9_4 z9_5
  clear hW10 hX9_0 hY9_0
  have c10_0_0 := Mem.cell (v := .string hiS) M10.1 0 rfl
  have c10_0_1 := Mem.cell (v := .string noS) M10.1 1 rfl
  have z10_0 := Mem.lt M10.1
  have z10_1 := Mem.lt M10.2.1
  have c10_2_0 := Mem.cell (v := .int .i64 f0) M10.2.2.1 0 rfl
  have c10_2_1 := Mem.cell (v := .int .i64 f1) M10.2.2.1 1 rfl
  have c10_2_2 := Mem.cell (v := .int .i64 T2) M10.2.2.1 2 rfl
  have c10_2_3 := Mem.cell (v := .int .i64 f3) M10.2.2.1 3 rfl
  have c10_2_4 := Mem.cell (v := .int .i64 N2) M10.2.2.1 4 rfl
  have c10_2_5 := Mem.cell (v := .int .u8 f5) M10.2.2.1 5 rfl
  have c10_2_6 := Mem.cell (v := .string f6) M10.2.2.1 6 rfl
  have c10_2_7 := Mem.cell (v := .string f7) M10.2.2.1 7 rfl
  have c10_2_8 := Mem.cell (v := .int .i64 f8) M10.2.2.1 8 rfl
  have c10_2_9 := Mem.cell (v := .int .i64 f9) M10.2.2.1 9 rfl
  have c10_2_10 := Mem.cell (v := .string f10) M10.2.2.1 10 rfl
  have c10_2_11 := Mem.cell (v := .string f11) M10.2.2.1 11 rfl
  have c10_2_12 := Mem.cell (v := .string f12) M10.2.2.1 12 rfl
  have z10_2 := Mem.lt M10.2.2.1
  have c10_3_0 := Mem.cell (v := .int .i64 e0) M10.2.2.2.1 0 rfl
  have c10_3_1 := Mem.cell (v := .int .i64 e1) M10.2.2.2.1 1 rfl
  have c10_3_2 := Mem.cell (v := .int .i64 T1) M10.2.2.2.1 2 rfl
  have c10_3_3 := Mem.cell (v := .int .i64 e3) M10.2.2.2.1 3 rfl
  have c10_3_4 := Mem.cell (v := .int .i64 N1) M10.2.2.2.1 4 rfl
  have c10_3_5 := Mem.cell (v := .int .u8 e5) M10.2.2.2.1 5 rfl
  have c10_3_6 := Mem.cell (v := .string e6) M10.2.2.2.1 6 rfl
  have c10_3_7 := Mem.cell (v := .string e7) M10.2.2.2.1 7 rfl
  have c10_3_8 := Mem.cell (v := .int .i64 e8) M10.2.2.2.1 8 rfl
  have c10_3_9 := Mem.cell (v := .int .i64 e9) M10.2.2.2.1 9 rfl
  have c10_3_10 := Mem.cell (v := .string e10) M10.2.2.2.1 10 rfl
  have c10_3_11 := Mem.cell (v := .string e11) M10.2.2.2.1 11 rfl
  have c10_3_12 := Mem.cell (v := .string e12) M10.2.2.2.1 12 rfl
  have z10_3 := Mem.lt M10.2.2.2.1
  have c10_4_0 := Mem.cell (v := .string cS) M10.2.2.2.2.1 0 rfl
  have c10_4_1 := Mem.cell (v := .string cI) M10.2.2.2.2.1 1 rfl
  have c10_4_2 := Mem.cell (v := .string kS) M10.2.2.2.2.1 2 rfl
  have c10_4_3 := Mem.cell (v := .string kI) M10.2.2.2.2.1 3 rfl
  have z10_4 := Mem.lt M10.2.2.2.2.1
  have z10_5 := Mem.lt M10.2.2.2.2.2.1
  have c10_1_2 := Mem.cell (v := .string (thNew ⟨#[51]⟩ CS CI jS jI ⟨ptA gf, 1, fc⟩ ⟨none, 0, 0⟩ ⟨none, 0, 0⟩ 255).cS) M10.2.1 2 rfl
  have c10_1_3 := Mem.cell (v := .string (thNew ⟨#[51]⟩ CS CI jS jI ⟨ptA gf, 1, fc⟩ ⟨none, 0, 0⟩ ⟨none, 0, 0⟩ 255).cI) M10.2.1 3 rfl
  have c10_1_4 := Mem.cell (v := .string (thNew ⟨#[51]⟩ CS CI jS jI ⟨ptA gf, 1, fc⟩ ⟨none, 0, 0⟩ ⟨none, 0, 0⟩ 255).kS) M10.2.1 4 rfl
  have c10_1_5 := Mem.cell (v := .string (thNew ⟨#[51]⟩ CS CI jS jI ⟨ptA gf, 1, fc⟩ ⟨none, 0, 0⟩ ⟨none, 0, 0⟩ 255).kI) M10.2.1 5 rfl
  have fa := fun j => Mem.free M10.2.1 j
  go_upto_region 11 with (fail)
  clear fa
  have hX10_0 : (w10.setCells (w2.heap.size) 2 [.string CS, .string CI, .string hiS, .string noS]).heap[w2.heap.size]? = some (.cells (th ({ (thNew ⟨#[51]⟩ CS CI jS jI ⟨ptA gf, 1, fc⟩ ⟨none, 0, 0⟩ ⟨none, 0, 0⟩ 255) with cS := CS, cI := CI, kS := hiS, kI := noS })) 39) := by rw [setCells_block [.string CS, .string CI, .string hiS, .string noS] 2 _ _ ((M10).2.1) (by simp)]; rfl
  have hY10_0 := below_setCells (B := w.heap.size) hB10 (b := w2.heap.size) (by have := hB10.size; omega) 2 [.string CS, .string CI, .string hiS, .string noS]
  refine wp_named ?_
  intro w11 hW11
  have hB11 : Below w.heap.size w w11 := by rw [hW11]; exact hY10_0
  have hw11 : Laid w11 := hw0.below hB11
  have M11 : Mem w11 [(w5.heap.size, .cells #[.string hiS, .string noS] 24), (w2.heap.size, .cells (th ({ (thNew ⟨#[51]⟩ CS CI jS jI ⟨ptA gf, 1, fc⟩ ⟨none, 0, 0⟩ ⟨none, 0, 0⟩ 255) with cS := CS, cI := CI, kS := hiS, kI := noS })) 39), (w.heap.size + 1 + 1, .cells #[.int .i64 f0, .int .i64 f1, .int .i64 T2, .int .i64 f3, .int .i64 N2, .int .u8 f5, .string f6, .string f7, .int .i64 f8, .int .i64 f9, .string f10, .string f11, .string f12] 30), (w.heap.size + 1, .cells #[.int .i64 e0, .int .i64 e1, .int .i64 T1, .int .i64 e3, .int .i64 N1, .int .u8 e5, .string e6, .string e7, .int .i64 e8, .int .i64 e9, .string e10, .string e11, .string e12] 30), (w.heap.size, .cells #[.string cS, .string cI, .string kS, .string kI] 26), (gf, .cells cf 104)] := by rw [hW11]; exact ⟨(setCells_other [.string CS, .string CI, .string hiS, .string noS] 2 _ _ (by omega)).trans ((M10).1), hX10_0, (setCells_other [.string CS, .string CI, .string hiS, .string noS] 2 _ _ (by omega)).trans ((M10).2.2.1), (setCells_other [.string CS, .string CI, .string hiS, .string noS] 2 _ _ (by omega)).trans ((M10).2.2.2.1), (setCells_other [.string CS, .string CI, .string hiS, .string noS] 2 _ _ (by omega)).trans ((M10).2.2.2.2.1), (setCells_other [.string CS, .string CI, .string hiS, .string noS] 2 _ _ (by omega)).trans ((M10).2.2.2.2.2.1), trivial⟩
  clear c10_0_0 c10_0_1 z10_0 z10_1 c10_2_0 c10_2_1 c10_2_2 c10_2_3 c10_2_4 c10_2_5 c10_2_6 c10_2_7 c10_2_8 c10_2_9 c10_2_10 c10_2_11 c10_2_12 z10_2 c10_3_0 c10_3_1 c10_3_2 c10_3_3 c10_3_4 c10_3_5 c10_3_6 c10_3_7 c10_3_8 c10_3_9 c10_3_10 c10_3_11 c10_3_12 z10_3 c10_4_0 c10_4_1 c10_4_2 c10_4_3 z10_4 z10_5 c10_1_2 c10_1_3 c10_1_4 c10_1_5
  clear hW11 hX10_0 hY10_0
  have c11_0_0 := Mem.cell (v := .string hiS) M11.1 0 rfl
  have c11_0_1 := Mem.cell (v := .string noS) M11.1 1 rfl
  have z11_0 := Mem.lt M11.1
  have z11_1 := Mem.lt M11.2.1
  have c11_2_0 := Mem.cell (v := .int .i64 f0) M11.2.2.1 0 rfl
  have c11_2_1 := Mem.cell (v := .int .i64 f1) M11.2.2.1 1 rfl
  have c11_2_2 := Mem.cell (v := .int .i64 T2) M11.2.2.1 2 rfl
  have c11_2_3 := Mem.cell (v := .int .i64 f3) M11.2.2.1 3 rfl
  have c11_2_4 := Mem.cell (v := .int .i64 N2) M11.2.2.1 4 rfl
  have c11_2_5 := Mem.cell (v := .int .u8 f5) M11.2.2.1 5 rfl
  have c11_2_6 := Mem.cell (v := .string f6) M11.2.2.1 6 rfl
  have c11_2_7 := Mem.cell (v := .string f7) M11.2.2.1 7 rfl
  have c11_2_8 := Mem.cell (v := .int .i64 f8) M11.2.2.1 8 rfl
  have c11_2_9 := Mem.cell (v := .int .i64 f9) M11.2.2.1 9 rfl
  have c11_2_10 := Mem.cell (v := .string f10) M11.2.2.1 10 rfl
  have c11_2_11 := Mem.cell (v := .string f11) M11.2.2.1 11 rfl
  have c11_2_12 := Mem.cell (v := .string f12) M11.2.2.1 12 rfl
  have z11_2 := Mem.lt M11.2.2.1
  have c11_3_0 := Mem.cell (v := .int .i64 e0) M11.2.2.2.1 0 rfl
  have c11_3_1 := Mem.cell (v := .int .i64 e1) M11.2.2.2.1 1 rfl
  have c11_3_2 := Mem.cell (v := .int .i64 T1) M11.2.2.2.1 2 rfl
  have c11_3_3 := Mem.cell (v := .int .i64 e3) M11.2.2.2.1 3 rfl
  have c11_3_4 := Mem.cell (v := .int .i64 N1) M11.2.2.2.1 4 rfl
  have c11_3_5 := Mem.cell (v := .int .u8 e5) M11.2.2.2.1 5 rfl
  have c11_3_6 := Mem.cell (v := .string e6) M11.2.2.2.1 6 rfl
  have c11_3_7 := Mem.cell (v := .string e7) M11.2.2.2.1 7 rfl
  have c11_3_8 := Mem.cell (v := .int .i64 e8) M11.2.2.2.1 8 rfl
  have c11_3_9 := Mem.cell (v := .int .i64 e9) M11.2.2.2.1 9 rfl
  have c11_3_10 := Mem.cell (v := .string e10) M11.2.2.2.1 10 rfl
  have c11_3_11 := Mem.cell (v := .string e11) M11.2.2.2.1 11 rfl
  have c11_3_12 := Mem.cell (v := .string e12) M11.2.2.2.1 12 rfl
  have z11_3 := Mem.lt M11.2.2.2.1
  have c11_4_0 := Mem.cell (v := .string cS) M11.2.2.2.2.1 0 rfl
  have c11_4_1 := Mem.cell (v := .string cI) M11.2.2.2.2.1 1 rfl
  have c11_4_2 := Mem.cell (v := .string kS) M11.2.2.2.2.1 2 rfl
  have c11_4_3 := Mem.cell (v := .string kI) M11.2.2.2.2.1 3 rfl
  have z11_4 := Mem.lt M11.2.2.2.2.1
  have z11_5 := Mem.lt M11.2.2.2.2.2.1
  replace M11 : Mem w11 [(w5.heap.size, .cells #[.string hiS, .string noS] 24), (w2.heap.size, .cells (th ((dT CS CI gf fc))) 39), (w.heap.size + 1 + 1, .cells #[.int .i64 f0, .int .i64 f1, .int .i64 T2, .int .i64 f3, .int .i64 N2, .int .u8 f5, .string f6, .string f7, .int .i64 f8, .int .i64 f9, .string f10, .string f11, .string f12] 30), (w.heap.size + 1, .cells #[.int .i64 e0, .int .i64 e1, .int .i64 T1, .int .i64 e3, .int .i64 N1, .int .u8 e5, .string e6, .string e7, .int .i64 e8, .int .i64 e9, .string e10, .string e11, .string e12] 30), (w.heap.size, .cells #[.string cS, .string cI, .string kS, .string kI] 26), (gf, .cells cf 104)] := M11
  replace M11 : Mem w11 [(w2.heap.size, .cells (th ((dT CS CI gf fc))) 39), (w.heap.size + 1, .cells #[.int .i64 e0, .int .i64 e1, .int .i64 T1, .int .i64 e3, .int .i64 N1, .int .u8 e5, .string e6, .string e7, .int .i64 e8, .int .i64 e9, .string e10, .string e11, .string e12] 30), (w.heap.size + 1 + 1, .cells #[.int .i64 f0, .int .i64 f1, .int .i64 T2, .int .i64 f3, .int .i64 N2, .int .u8 f5, .string f6, .string f7, .int .i64 f8, .int .i64 f9, .string f10, .string f11, .string f12] 30), (w5.heap.size, .cells #[.string hiS, .string noS] 24), (gf, .cells cf 104)] := ⟨M11.2.1, M11.2.2.2.1, M11.2.2.1, M11.1, M11.2.2.2.2.2.1, trivial⟩
  clear c11_0_0 c11_0_1 z11_0 z11_1 c11_2_0 c11_2_1 c11_2_2 c11_2_3 c11_2_4 c11_2_5 c11_2_6 c11_2_7 c11_2_8 c11_2_9 c11_2_10 c11_2_11 c11_2_12 z11_2 c11_3_0 c11_3_1 c11_3_2 c11_3_3 c11_3_4 c11_3_5 c11_3_6 c11_3_7 c11_3_8 c11_3_9 c11_3_10 c11_3_11 c11_3_12 z11_3 c11_4_0 c11_4_1 c11_4_2 c11_4_3 z11_4 z11_5
  have z11_0 := Mem.lt M11.1
  have c11_1_0 := Mem.cell (v := .int .i64 e0) M11.2.1 0 rfl
  have c11_1_1 := Mem.cell (v := .int .i64 e1) M11.2.1 1 rfl
  have c11_1_2 := Mem.cell (v := .int .i64 T1) M11.2.1 2 rfl
  have c11_1_3 := Mem.cell (v := .int .i64 e3) M11.2.1 3 rfl
  have c11_1_4 := Mem.cell (v := .int .i64 N1) M11.2.1 4 rfl
  have c11_1_5 := Mem.cell (v := .int .u8 e5) M11.2.1 5 rfl
  have c11_1_6 := Mem.cell (v := .string e6) M11.2.1 6 rfl
  have c11_1_7 := Mem.cell (v := .string e7) M11.2.1 7 rfl
  have c11_1_8 := Mem.cell (v := .int .i64 e8) M11.2.1 8 rfl
  have c11_1_9 := Mem.cell (v := .int .i64 e9) M11.2.1 9 rfl
  have c11_1_10 := Mem.cell (v := .string e10) M11.2.1 10 rfl
  have c11_1_11 := Mem.cell (v := .string e11) M11.2.1 11 rfl
  have c11_1_12 := Mem.cell (v := .string e12) M11.2.1 12 rfl
  have z11_1 := Mem.lt M11.2.1
  have c11_2_0 := Mem.cell (v := .int .i64 f0) M11.2.2.1 0 rfl
  have c11_2_1 := Mem.cell (v := .int .i64 f1) M11.2.2.1 1 rfl
  have c11_2_2 := Mem.cell (v := .int .i64 T2) M11.2.2.1 2 rfl
  have c11_2_3 := Mem.cell (v := .int .i64 f3) M11.2.2.1 3 rfl
  have c11_2_4 := Mem.cell (v := .int .i64 N2) M11.2.2.1 4 rfl
  have c11_2_5 := Mem.cell (v := .int .u8 f5) M11.2.2.1 5 rfl
  have c11_2_6 := Mem.cell (v := .string f6) M11.2.2.1 6 rfl
  have c11_2_7 := Mem.cell (v := .string f7) M11.2.2.1 7 rfl
  have c11_2_8 := Mem.cell (v := .int .i64 f8) M11.2.2.1 8 rfl
  have c11_2_9 := Mem.cell (v := .int .i64 f9) M11.2.2.1 9 rfl
  have c11_2_10 := Mem.cell (v := .string f10) M11.2.2.1 10 rfl
  have c11_2_11 := Mem.cell (v := .string f11) M11.2.2.1 11 rfl
  have c11_2_12 := Mem.cell (v := .string f12) M11.2.2.1 12 rfl
  have z11_2 := Mem.lt M11.2.2.1
  have c11_3_0 := Mem.cell (v := .string hiS) M11.2.2.2.1 0 rfl
  have c11_3_1 := Mem.cell (v := .string noS) M11.2.2.2.1 1 rfl
  have z11_3 := Mem.lt M11.2.2.2.1
  have z11_4 := Mem.lt M11.2.2.2.2.1
  have HFC := Lib.hid (And.intro hfc hfc2)
  go_cut [12, 13] (fun s12 s13 wx => ∃ b g cf2 fc2 gs cs sc, s12 = .pointer (some ⟨b, 0, none⟩) ∧ s13 = .int .i64 0 ∧ Below w11.heap.size w11 wx ∧ wx.heap[b]? = some (.cells (th (dU1 CS CI g fc2 gs sc)) 39) ∧ wx.heap[g]? = some (.cells cf2 104) ∧ wx.heap[gs]? = some (.cells cs 56) ∧ Hid ((∃ ys, ys.length = 10 ∧ cf2.toList.take 10 = ys) ∧ 2 ≤ fc2 ∧ fc2 ≤ maxLen ∧ 1 ≤ sc ∧ sc ≤ maxLen) ∧ Hid (cs.toList.take 14 = scL (dS1 CS CI U1)) ∧ w11.heap.size ≤ b ∧ w11.heap.size ≤ g ∧ w11.heap.size ≤ gs)
  case first =>
    have hX := Lib.hid (Below.refl w11.heap.size w11)
    clear z11_0 c11_1_0 c11_1_1 c11_1_2 c11_1_3 c11_1_4 c11_1_5 c11_1_6 c11_1_7 c11_1_8 c11_1_9 c11_1_10 c11_1_11 c11_1_12 z11_1 c11_2_0 c11_2_1 c11_2_2 c11_2_3 c11_2_4 c11_2_5 c11_2_6 c11_2_7 c11_2_8 c11_2_9 c11_2_10 c11_2_11 c11_2_12 z11_2 c11_3_0 c11_3_1 z11_3 z11_4
    refine wp_region_held (S := fun w' => Mem w' [(w2.heap.size, .cells (th ((dT CS CI gf fc))) 39), (w.heap.size + 1, .cells #[.int .i64 e0, .int .i64 e1, .int .i64 T1, .int .i64 e3, .int .i64 N1, .int .u8 e5, .string e6, .string e7, .int .i64 e8, .int .i64 e9, .string e10, .string e11, .string e12] 30), (w.heap.size + 1 + 1, .cells #[.int .i64 f0, .int .i64 f1, .int .i64 T2, .int .i64 f3, .int .i64 N2, .int .u8 f5, .string f6, .string f7, .int .i64 f8, .int .i64 f9, .string f10, .string f11, .string f12] 30), (w5.heap.size, .cells #[.string hiS, .string noS] 24), (gf, .cells cf 104)]) (by kernel_rfl) ?_
    change wpAnyH _ _ _ _ _ 14 (Array.replicate 14 false) _ w11.drew
    refine anyH_named ?_
    intro w12 hW12
    have hB12 : Below w.heap.size w w12 := by rw [hW12]; exact below_dr hB11
    have hw12 : Laid w12 := by rw [hW12]; exact hw11.below (below_dr (Below.refl _ _))
    have M12 : Mem w12 [(w2.heap.size, .cells (th ((dT CS CI gf fc))) 39), (w.heap.size + 1, .cells #[.int .i64 e0, .int .i64 e1, .int .i64 T1, .int .i64 e3, .int .i64 N1, .int .u8 e5, .string e6, .string e7, .int .i64 e8, .int .i64 e9, .string e10, .string e11, .string e12] 30), (w.heap.size + 1 + 1, .cells #[.int .i64 f0, .int .i64 f1, .int .i64 T2, .int .i64 f3, .int .i64 N2, .int .u8 f5, .string f6, .string f7, .int .i64 f8, .int .i64 f9, .string f10, .string f11, .string f12] 30), (w5.heap.size, .cells #[.string hiS, .string noS] 24), (gf, .cells cf 104)] := by rw [hW12]; exact Mem.drew M11
    have zz12 : w11.heap.size ≤ w12.heap.size := by rw [hW12]; exact Nat.le_refl _
    replace hX := hid_then hX (below_dr (Below.refl _ w11))
    rw [← hW12] at hX
    clear hW12
    have zh12_0 := Mem.lt M12.1
    have zh12_1 := Mem.lt M12.2.1
    have zh12_2 := Mem.lt M12.2.2.1
    have zh12_3 := Mem.lt M12.2.2.2.1
    have zh12_4 := Mem.lt M12.2.2.2.2.1
    refine wpAnyH_take (i := 0) (v := .agg (th ((dT CS CI gf fc)))) rfl (by decide +kernel) (by decide +kernel) (by decide +kernel) (fun _ _ _ h => h) (yieldsIf_load_mid (by rfl) 39 _ rfl (w2.heap.size) 0 (by rfl) (th ((dT CS CI gf fc))).toList _ (fun w hSw => range_block hSw.1) Tryz.underlying39 rfl info_th) M12 ?_
    try simp only [Act.put, List.getElem_toArray, List.getElem_cons_zero, List.setIfInBounds_toArray, List.set_cons_zero, List.set_cons_succ]
    refine wpAnyH_take (i := 2) (v := ?_) rfl (by decide +kernel) (by decide +kernel) (by decide +kernel) (fun _ _ _ h => h) (Or.inl ⟨by rfl, ?_⟩) M12 ?_
    rotate_left
    · intro w hSw
      have s_0 := Mem.cell (v := .string hiS) hSw.2.2.2.1 0 rfl
      have s_1 := Mem.cell (v := .string noS) hSw.2.2.2.1 1 rfl
      clear hSw
      go_simp; try (with_reducible rfl)
    try simp only [Act.put, List.getElem_toArray, List.getElem_cons_succ, List.getElem_cons_zero, List.setIfInBounds_toArray, List.set_cons_zero, List.set_cons_succ]
    refine wpAnyH_take (i := 3) (v := ?_) rfl (by decide +kernel) (by decide +kernel) (by decide +kernel) (fun _ _ _ h => h) (Or.inl ⟨by rfl, ?_⟩) M12 ?_
    rotate_left
    · intro w hSw
      clear hSw
      go_simp; try (with_reducible rfl)
    try simp only [Act.put, List.getElem_toArray, List.getElem_cons_succ, List.getElem_cons_zero, List.setIfInBounds_toArray, List.set_cons_zero, List.set_cons_succ]
    refine wpAnyH_take (i := 5) (v := ?_) rfl (by decide +kernel) (by decide +kernel) (by decide +kernel) (fun _ _ _ h => h) (Or.inl ⟨by rfl, ?_⟩) M12 ?_
    rotate_left
    · intro w hSw
      clear hSw
      go_simp; try (with_reducible rfl)
    try simp only [Act.put, List.getElem_toArray, List.getElem_cons_succ, List.getElem_cons_zero, List.setIfInBounds_toArray, List.set_cons_zero, List.set_cons_succ]
    refine wpAnyH_take (i := 4) (v := ?_) rfl (by decide +kernel) (by decide +kernel) (by decide +kernel) (fun _ _ _ h => h) (Or.inl ⟨by rfl, ?_⟩) M12 ?_
    rotate_left
    · intro w hSw
      have s_2 := Mem.cell (v := .int .i64 T1) hSw.2.1 2 rfl
      clear hSw
      go_simp; try (with_reducible rfl)
    try simp only [Act.put, List.getElem_toArray, List.getElem_cons_succ, List.getElem_cons_zero, List.setIfInBounds_toArray, List.set_cons_zero, List.set_cons_succ]
    refine wpAnyH_take (i := 6) (v := ?_) rfl (by decide +kernel) (by decide +kernel) (by decide +kernel) (fun _ _ _ h => h) (Or.inl ⟨by rfl, ?_⟩) M12 ?_
    rotate_left
    · intro w hSw
      have s_4 := Mem.cell (v := .int .i64 N1) hSw.2.1 4 rfl
      clear hSw
      go_simp; try (with_reducible rfl)
    try simp only [Act.put, List.getElem_toArray, List.getElem_cons_succ, List.getElem_cons_zero, List.setIfInBounds_toArray, List.set_cons_zero, List.set_cons_succ]
    refine wpAnyH_ready (rs := [1, 11]) (by decide +kernel) (by simp) (AllReadyH.cons rfl ?_ (AllReadyH.cons rfl ?_ AllReadyH.nil))
    · skip
      intro K hK
      rw [if_pos (by rfl)]
      go_simp
      go_at_call 10
      refine (number_any 1 _).mono ?_
      rintro e w13 ⟨rfl, hb13⟩
      have hB13 := below_then hB12 hb13
      have hw13 := hw12.below hb13
      have M13 := M12.below hb13
      replace hX := hid_then hX hb13
      have zz13 := hb13.size
      clear hb13
      refine hK.out _ _ M13 (fun _ => ?_)
      clear hK K
      try simp only [Act.put, List.getElem_toArray, List.getElem_cons_succ, List.getElem_cons_zero, List.setIfInBounds_toArray, List.set_cons_zero, List.set_cons_succ]
      refine wpAnyH_ready (rs := [7, 11]) (by decide +kernel) (by simp) (AllReadyH.cons rfl ?_ (AllReadyH.cons rfl ?_ AllReadyH.nil))
      · skip
        intro K hK
        rw [if_pos (by rfl)]
        go_simp
        go_at_call 9
        refine (due_enter1 CS CI B5.out B6.out gf fc xf HXL.out HFC.out.1 HFC.out.2 T1 N1 U1 HT1.out.1 HT1.out.2 eU1 _ hw13 (rows_box M13.2.2.2.2.1 HFT.out)).mono ?_
        rintro e w14 ⟨g, cf2, fc2, gs, cs, sc, rfl, hg, hgc, hgt, hf1, hf2, hs, hsc, hst, hs1, hs2, hb14⟩
        have hB14 := below_then hB13 hb14
        have hw14 := hw13.below hb14
        have M14 := M13.below hb14
        replace hX := hid_then hX hb14
        have zz14 := hb14.size
        clear hb14
        refine hK.out _ _ M14 (fun _ => ?_)
        clear hK K
        try simp only [Act.put, List.getElem_toArray, List.getElem_cons_succ, List.getElem_cons_zero, List.setIfInBounds_toArray, List.set_cons_zero, List.set_cons_succ]
        have HGT := Lib.hid (And.intro hgt (And.intro hf1 (And.intro hf2 (And.intro hs1 hs2))))
        have HST := Lib.hid hst
        clear hgt hst hf1 hf2 hs1 hs2
        replace M14 : Mem w14 [(w2.heap.size, .cells (th ((dT CS CI gf fc))) 39), (w.heap.size + 1, .cells #[.int .i64 e0, .int .i64 e1, .int .i64 T1, .int .i64 e3, .int .i64 N1, .int .u8 e5, .string e6, .string e7, .int .i64 e8, .int .i64 e9, .string e10, .string e11, .string e12] 30), (w.heap.size + 1 + 1, .cells #[.int .i64 f0, .int .i64 f1, .int .i64 T2, .int .i64 f3, .int .i64 N2, .int .u8 f5, .string f6, .string f7, .int .i64 f8, .int .i64 f9, .string f10, .string f11, .string f12] 30), (w5.heap.size, .cells #[.string hiS, .string noS] 24), (gf, .cells cf 104), (g, .cells cf2 104)] := ⟨M14.1, M14.2.1, M14.2.2.1, M14.2.2.2.1, M14.2.2.2.2.1, hgc, trivial⟩
        replace M14 : Mem w14 [(w2.heap.size, .cells (th ((dT CS CI gf fc))) 39), (w.heap.size + 1, .cells #[.int .i64 e0, .int .i64 e1, .int .i64 T1, .int .i64 e3, .int .i64 N1, .int .u8 e5, .string e6, .string e7, .int .i64 e8, .int .i64 e9, .string e10, .string e11, .string e12] 30), (w.heap.size + 1 + 1, .cells #[.int .i64 f0, .int .i64 f1, .int .i64 T2, .int .i64 f3, .int .i64 N2, .int .u8 f5, .string f6, .string f7, .int .i64 f8, .int .i64 f9, .string f10, .string f11, .string f12] 30), (w5.heap.size, .cells #[.string hiS, .string noS] 24), (gf, .cells cf 104), (g, .cells cf2 104), (gs, .cells cs 56)] := ⟨M14.1, M14.2.1, M14.2.2.1, M14.2.2.2.1, M14.2.2.2.2.1, M14.2.2.2.2.2.1, hsc, trivial⟩
        have yg := Mem.lt M14.2.2.2.2.2.1
        have ygs := Mem.lt M14.2.2.2.2.2.2.1
        refine wpAnyH_take (i := 8) (v := ?_) rfl (by decide +kernel) (by decide +kernel) (by decide +kernel) (fun _ _ _ h => h) (Or.inl ⟨by rfl, ?_⟩) ⟨M14.1, M14.2.1, M14.2.2.1, M14.2.2.2.1, M14.2.2.2.2.1, trivial⟩ ?_
        rotate_left
        · intro w hSw
          clear hSw
          go_simp; try (with_reducible rfl)
        try simp only [Act.put, List.getElem_toArray, List.getElem_cons_succ, List.getElem_cons_zero, List.setIfInBounds_toArray, List.set_cons_zero, List.set_cons_succ]
        refine wpAnyH_take (i := 9) (v := ?_) rfl (by decide +kernel) (by decide +kernel) (by decide +kernel) (fun _ _ _ h => h) (Or.inl ⟨by rfl, ?_⟩) ⟨M14.1, M14.2.1, M14.2.2.1, M14.2.2.2.1, M14.2.2.2.2.1, trivial⟩ ?_
        rotate_left
        · intro w hSw
          clear hSw
          go_simp; try (with_reducible rfl)
        try simp only [Act.put, List.getElem_toArray, List.getElem_cons_succ, List.getElem_cons_zero, List.setIfInBounds_toArray, List.set_cons_zero, List.set_cons_succ]
        refine wpAnyH_take (i := 10) (v := ?_) rfl (by decide +kernel) (by decide +kernel) (by decide +kernel) (fun _ _ _ h => h) (Or.inl ⟨by rfl, ?_⟩) ⟨M14.1, M14.2.1, M14.2.2.1, M14.2.2.2.1, M14.2.2.2.2.1, trivial⟩ ?_
        rotate_left
        · intro w hSw
          clear hSw
          go_simp; try (with_reducible rfl)
        try simp only [Act.put, List.getElem_toArray, List.getElem_cons_succ, List.getElem_cons_zero, List.setIfInBounds_toArray, List.set_cons_zero, List.set_cons_succ]
        refine wpAnyH_ready (rs := [11]) (by decide +kernel) (by simp) (AllReadyH.cons rfl ?_ AllReadyH.nil)
        intro K hK
        rw [if_pos (by rfl)]
        go_simp
        have N15 : Mem (w14.alloc (.cells (th (th0)) 39)) [(w14.heap.size, .cells (th (th0)) 39), (w2.heap.size, .cells (th ((dT CS CI gf fc))) 39), (w.heap.size + 1, .cells #[.int .i64 e0, .int .i64 e1, .int .i64 T1, .int .i64 e3, .int .i64 N1, .int .u8 e5, .string e6, .string e7, .int .i64 e8, .int .i64 e9, .string e10, .string e11, .string e12] 30), (w.heap.size + 1 + 1, .cells #[.int .i64 f0, .int .i64 f1, .int .i64 T2, .int .i64 f3, .int .i64 N2, .int .u8 f5, .string f6, .string f7, .int .i64 f8, .int .i64 f9, .string f10, .string f11, .string f12] 30), (w5.heap.size, .cells #[.string hiS, .string noS] 24), (gf, .cells cf 104), (g, .cells cf2 104), (gs, .cells cs 56)] := (M14).new' (w14.heap.size) (by rfl) (.cells (th (th0)) 39)
        refine hK.out _ _ ⟨N15.2.1, N15.2.2.1, N15.2.2.2.1, N15.2.2.2.2.1, N15.2.2.2.2.2.1, trivial⟩ (fun _ => ?_)
        clear hK K
        try simp only [Act.put, List.getElem_toArray, List.getElem_cons_succ, List.getElem_cons_zero, List.setIfInBounds_toArray, List.set_cons_zero, List.set_cons_succ]
        refine anyH_named ?_
        intro w15 hW15
        have hB15 : Below w.heap.size w w15 := by rw [hW15]; exact below_al hB14 _
        have hw15 : Laid w15 := by rw [hW15]; exact hw14.alloc _
        have M15 : Mem w15 [(w14.heap.size, .cells (th (th0)) 39), (w2.heap.size, .cells (th ((dT CS CI gf fc))) 39), (w.heap.size + 1, .cells #[.int .i64 e0, .int .i64 e1, .int .i64 T1, .int .i64 e3, .int .i64 N1, .int .u8 e5, .string e6, .string e7, .int .i64 e8, .int .i64 e9, .string e10, .string e11, .string e12] 30), (w.heap.size + 1 + 1, .cells #[.int .i64 f0, .int .i64 f1, .int .i64 T2, .int .i64 f3, .int .i64 N2, .int .u8 f5, .string f6, .string f7, .int .i64 f8, .int .i64 f9, .string f10, .string f11, .string f12] 30), (w5.heap.size, .cells #[.string hiS, .string noS] 24), (gf, .cells cf 104), (g, .cells cf2 104), (gs, .cells cs 56)] := by rw [hW15]; exact N15
        replace hX := hid_then hX (below_al (Below.refl _ w14) (.cells (th (th0)) 39))
        rw [show w14.alloc (.cells (th (th0)) 39) = w15 from hW15.symm] at hX
        clear hW15 N15
        have zz15 : w14.heap.size < w15.heap.size := Mem.lt M15.1
        refine wpAnyH_ready (rs := [12]) (by decide +kernel) (by simp) (AllReadyH.cons rfl ?_ AllReadyH.nil)
        intro K hK
        rw [if_pos (by rfl)]
        refine wp_store_mid 39 _ _ rfl (w14.heap.size) 0 (th ((dU1 CS CI g fc2 gs sc))) (by rfl) (by rfl) (there_block M15.1 (Nat.le_refl 20)) info_th (one_th _) ?_
        have N16 : Mem (w15.setCells (w14.heap.size) 0 (th ((dU1 CS CI g fc2 gs sc))).toList) [(w14.heap.size, .cells (th ((dU1 CS CI g fc2 gs sc))) 39), (w2.heap.size, .cells (th ((dT CS CI gf fc))) 39), (w.heap.size + 1, .cells #[.int .i64 e0, .int .i64 e1, .int .i64 T1, .int .i64 e3, .int .i64 N1, .int .u8 e5, .string e6, .string e7, .int .i64 e8, .int .i64 e9, .string e10, .string e11, .string e12] 30), (w.heap.size + 1 + 1, .cells #[.int .i64 f0, .int .i64 f1, .int .i64 T2, .int .i64 f3, .int .i64 N2, .int .u8 f5, .string f6, .string f7, .int .i64 f8, .int .i64 f9, .string f10, .string f11, .string f12] 30), (w5.heap.size, .cells #[.string hiS, .string noS] 24), (gf, .cells cf 104), (g, .cells cf2 104), (gs, .cells cs 56)] := ⟨set_th M15.1 _, (setCells_other _ 0 _ _ (by omega)).trans M15.2.1, (setCells_other _ 0 _ _ (by omega)).trans M15.2.2.1, (setCells_other _ 0 _ _ (by omega)).trans M15.2.2.2.1, (setCells_other _ 0 _ _ (by omega)).trans M15.2.2.2.2.1, (setCells_other _ 0 _ _ (by omega)).trans M15.2.2.2.2.2.1, (setCells_other _ 0 _ _ (by omega)).trans M15.2.2.2.2.2.2.1, (setCells_other _ 0 _ _ (by omega)).trans M15.2.2.2.2.2.2.2.1, trivial⟩
        refine hK.out _ _ ⟨N16.2.1, N16.2.2.1, N16.2.2.2.1, N16.2.2.2.2.1, N16.2.2.2.2.2.1, trivial⟩ (fun _ => ?_)
        clear hK K
        try simp only [Act.put, List.getElem_toArray, List.getElem_cons_succ, List.getElem_cons_zero]
        refine anyH_named ?_
        intro w16 hW16
        have hB16 : Below w.heap.size w w16 := by rw [hW16]; exact below_setCells (B := w.heap.size) hB15 (b := w14.heap.size) (by have := hB15.size; omega) 0 _
        have hw16 : Laid w16 := hw0.below hB16
        have M16 : Mem w16 [(w14.heap.size, .cells (th ((dU1 CS CI g fc2 gs sc))) 39), (w2.heap.size, .cells (th ((dT CS CI gf fc))) 39), (w.heap.size + 1, .cells #[.int .i64 e0, .int .i64 e1, .int .i64 T1, .int .i64 e3, .int .i64 N1, .int .u8 e5, .string e6, .string e7, .int .i64 e8, .int .i64 e9, .string e10, .string e11, .string e12] 30), (w.heap.size + 1 + 1, .cells #[.int .i64 f0, .int .i64 f1, .int .i64 T2, .int .i64 f3, .int .i64 N2, .int .u8 f5, .string f6, .string f7, .int .i64 f8, .int .i64 f9, .string f10, .string f11, .string f12] 30), (w5.heap.size, .cells #[.string hiS, .string noS] 24), (gf, .cells cf 104), (g, .cells cf2 104), (gs, .cells cs 56)] := by rw [hW16]; exact N16
        have hY := below_setCells hX.out (b := w14.heap.size) (by omega) 0 (th ((dU1 CS CI g fc2 gs sc))).toList
        rw [show w15.setCells (w14.heap.size) 0 (th ((dU1 CS CI g fc2 gs sc))).toList = w16 from hW16.symm] at hY
        clear hW16 N16
        refine wpAnyH_take (i := 13) (v := ?_) rfl (by decide +kernel) (by decide +kernel) (by decide +kernel) (fun _ _ _ h => h) (Or.inl ⟨by rfl, ?_⟩) ⟨M16.2.1, M16.2.2.1, M16.2.2.2.1, M16.2.2.2.2.1, M16.2.2.2.2.2.1, trivial⟩ ?_
        rotate_left
        · intro w hSw
          clear hSw
          go_simp; try (with_reducible rfl)
        try simp only [Act.put, List.getElem_toArray, List.getElem_cons_succ, List.getElem_cons_zero, List.setIfInBounds_toArray, List.set_cons_zero, List.set_cons_succ]
        refine wpAnyH_done (by kernel_rfl) ?_ _
        have z16_0 := Mem.lt M16.1
        have z16_1 := Mem.lt M16.2.1
        have c16_2_0 := Mem.cell (v := .int .i64 e0) M16.2.2.1 0 rfl
        have c16_2_1 := Mem.cell (v := .int .i64 e1) M16.2.2.1 1 rfl
        have c16_2_2 := Mem.cell (v := .int .i64 T1) M16.2.2.1 2 rfl
        have c16_2_3 := Mem.cell (v := .int .i64 e3) M16.2.2.1 3 rfl
        have c16_2_4 := Mem.cell (v := .int .i64 N1) M16.2.2.1 4 rfl
        have c16_2_5 := Mem.cell (v := .int .u8 e5) M16.2.2.1 5 rfl
        have c16_2_6 := Mem.cell (v := .string e6) M16.2.2.1 6 rfl
        have c16_2_7 := Mem.cell (v := .string e7) M16.2.2.1 7 rfl
        have c16_2_8 := Mem.cell (v := .int .i64 e8) M16.2.2.1 8 rfl
        have c16_2_9 := Mem.cell (v := .int .i64 e9) M16.2.2.1 9 rfl
        have c16_2_10 := Mem.cell (v := .string e10) M16.2.2.1 10 rfl
        have c16_2_11 := Mem.cell (v := .string e11) M16.2.2.1 11 rfl
        have c16_2_12 := Mem.cell (v := .string e12) M16.2.2.1 12 rfl
        have z16_2 := Mem.lt M16.2.2.1
        have c16_3_0 := Mem.cell (v := .int .i64 f0) M16.2.2.2.1 0 rfl
        have c16_3_1 := Mem.cell (v := .int .i64 f1) M16.2.2.2.1 1 rfl
        have c16_3_2 := Mem.cell (v := .int .i64 T2) M16.2.2.2.1 2 rfl
        have c16_3_3 := Mem.cell (v := .int .i64 f3) M16.2.2.2.1 3 rfl
        have c16_3_4 := Mem.cell (v := .int .i64 N2) M16.2.2.2.1 4 rfl
        have c16_3_5 := Mem.cell (v := .int .u8 f5) M16.2.2.2.1 5 rfl
        have c16_3_6 := Mem.cell (v := .string f6) M16.2.2.2.1 6 rfl
        have c16_3_7 := Mem.cell (v := .string f7) M16.2.2.2.1 7 rfl
        have c16_3_8 := Mem.cell (v := .int .i64 f8) M16.2.2.2.1 8 rfl
        have c16_3_9 := Mem.cell (v := .int .i64 f9) M16.2.2.2.1 9 rfl
        have c16_3_10 := Mem.cell (v := .string f10) M16.2.2.2.1 10 rfl
        have c16_3_11 := Mem.cell (v := .string f11) M16.2.2.2.1 11 rfl
        have c16_3_12 := Mem.cell (v := .string f12) M16.2.2.2.1 12 rfl
        have z16_3 := Mem.lt M16.2.2.2.1
        have c16_4_0 := Mem.cell (v := .string hiS) M16.2.2.2.2.1 0 rfl
        have c16_4_1 := Mem.cell (v := .string noS) M16.2.2.2.2.1 1 rfl
        have z16_4 := Mem.lt M16.2.2.2.2.1
        have z16_5 := Mem.lt M16.2.2.2.2.2.1
        have z16_6 := Mem.lt M16.2.2.2.2.2.2.1
        have z16_7 := Mem.lt M16.2.2.2.2.2.2.2.1
        go_wp2_with fail
        go_meet
        exact ⟨_, g, cf2, fc2, gs, cs, sc, rfl, rfl, hY, M16.1, M16.2.2.2.2.2.2.1, M16.2.2.2.2.2.2.2.1, HGT, HST, by omega, by omega, by omega⟩
      · skip
        intro K hK
        rw [if_pos (by rfl)]
        go_simp
        have N14 : Mem (w13.alloc (.cells (th (th0)) 39)) [(w13.heap.size, .cells (th (th0)) 39), (w2.heap.size, .cells (th ((dT CS CI gf fc))) 39), (w.heap.size + 1, .cells #[.int .i64 e0, .int .i64 e1, .int .i64 T1, .int .i64 e3, .int .i64 N1, .int .u8 e5, .string e6, .string e7, .int .i64 e8, .int .i64 e9, .string e10, .string e11, .string e12] 30), (w.heap.size + 1 + 1, .cells #[.int .i64 f0, .int .i64 f1, .int .i64 T2, .int .i64 f3, .int .i64 N2, .int .u8 f5, .string f6, .string f7, .int .i64 f8, .int .i64 f9, .string f10, .string f11, .string f12] 30), (w5.heap.size, .cells #[.string hiS, .string noS] 24), (gf, .cells cf 104)] := (M13).new' (w13.heap.size) (by rfl) (.cells (th (th0)) 39)
        refine hK.out _ _ ⟨N14.2.1, N14.2.2.1, N14.2.2.2.1, N14.2.2.2.2.1, N14.2.2.2.2.2.1, trivial⟩ (fun _ => ?_)
        clear hK K
        try simp only [Act.put, List.getElem_toArray, List.getElem_cons_succ, List.getElem_cons_zero, List.setIfInBounds_toArray, List.set_cons_zero, List.set_cons_succ]
        refine anyH_named ?_
        intro w14 hW14
        have hB14 : Below w.heap.size w w14 := by rw [hW14]; exact below_al hB13 _
        have hw14 : Laid w14 := by rw [hW14]; exact hw13.alloc _
        have M14 : Mem w14 [(w13.heap.size, .cells (th (th0)) 39), (w2.heap.size, .cells (th ((dT CS CI gf fc))) 39), (w.heap.size + 1, .cells #[.int .i64 e0, .int .i64 e1, .int .i64 T1, .int .i64 e3, .int .i64 N1, .int .u8 e5, .string e6, .string e7, .int .i64 e8, .int .i64 e9, .string e10, .string e11, .string e12] 30), (w.heap.size + 1 + 1, .cells #[.int .i64 f0, .int .i64 f1, .int .i64 T2, .int .i64 f3, .int .i64 N2, .int .u8 f5, .string f6, .string f7, .int .i64 f8, .int .i64 f9, .string f10, .string f11, .string f12] 30), (w5.heap.size, .cells #[.string hiS, .string noS] 24), (gf, .cells cf 104)] := by rw [hW14]; exact N14
        replace hX := hid_then hX (below_al (Below.refl _ w13) (.cells (th (th0)) 39))
        rw [show w13.alloc (.cells (th (th0)) 39) = w14 from hW14.symm] at hX
        clear hW14 N14
        have zz14 : w13.heap.size < w14.heap.size := Mem.lt M14.1
        refine wpAnyH_ready (rs := [7]) (by decide +kernel) (by simp) (AllReadyH.cons rfl ?_ AllReadyH.nil)
        intro K hK
        rw [if_pos (by rfl)]
        go_simp
        go_at_call 9
        refine (due_enter1 CS CI B5.out B6.out gf fc xf HXL.out HFC.out.1 HFC.out.2 T1 N1 U1 HT1.out.1 HT1.out.2 eU1 _ hw14 (rows_box M14.2.2.2.2.2.1 HFT.out)).mono ?_
        rintro e w15 ⟨g, cf2, fc2, gs, cs, sc, rfl, hg, hgc, hgt, hf1, hf2, hs, hsc, hst, hs1, hs2, hb15⟩
        have hB15 := below_then hB14 hb15
        have hw15 := hw14.below hb15
        have M15 := M14.below hb15
        replace hX := hid_then hX hb15
        have zz15 := hb15.size
        clear hb15
        refine hK.out _ _ ⟨M15.2.1, M15.2.2.1, M15.2.2.2.1, M15.2.2.2.2.1, M15.2.2.2.2.2.1, trivial⟩ (fun _ => ?_)
        clear hK K
        try simp only [Act.put, List.getElem_toArray, List.getElem_cons_succ, List.getElem_cons_zero, List.setIfInBounds_toArray, List.set_cons_zero, List.set_cons_succ]
        have HGT := Lib.hid (And.intro hgt (And.intro hf1 (And.intro hf2 (And.intro hs1 hs2))))
        have HST := Lib.hid hst
        clear hgt hst hf1 hf2 hs1 hs2
        replace M15 : Mem w15 [(w13.heap.size, .cells (th (th0)) 39), (w2.heap.size, .cells (th ((dT CS CI gf fc))) 39), (w.heap.size + 1, .cells #[.int .i64 e0, .int .i64 e1, .int .i64 T1, .int .i64 e3, .int .i64 N1, .int .u8 e5, .string e6, .string e7, .int .i64 e8, .int .i64 e9, .string e10, .string e11, .string e12] 30), (w.heap.size + 1 + 1, .cells #[.int .i64 f0, .int .i64 f1, .int .i64 T2, .int .i64 f3, .int .i64 N2, .int .u8 f5, .string f6, .string f7, .int .i64 f8, .int .i64 f9, .string f10, .string f11, .string f12] 30), (w5.heap.size, .cells #[.string hiS, .string noS] 24), (gf, .cells cf 104), (g, .cells cf2 104)] := ⟨M15.1, M15.2.1, M15.2.2.1, M15.2.2.2.1, M15.2.2.2.2.1, M15.2.2.2.2.2.1, hgc, trivial⟩
        replace M15 : Mem w15 [(w13.heap.size, .cells (th (th0)) 39), (w2.heap.size, .cells (th ((dT CS CI gf fc))) 39), (w.heap.size + 1, .cells #[.int .i64 e0, .int .i64 e1, .int .i64 T1, .int .i64 e3, .int .i64 N1, .int .u8 e5, .string e6, .string e7, .int .i64 e8, .int .i64 e9, .string e10, .string e11, .string e12] 30), (w.heap.size + 1 + 1, .cells #[.int .i64 f0, .int .i64 f1, .int .i64 T2, .int .i64 f3, .int .i64 N2, .int .u8 f5, .string f6, .string f7, .int .i64 f8, .int .i64 f9, .string f10, .string f11, .string f12] 30), (w5.heap.size, .cells #[.string hiS, .string noS] 24), (gf, .cells cf 104), (g, .cells cf2 104), (gs, .cells cs 56)] := ⟨M15.1, M15.2.1, M15.2.2.1, M15.2.2.2.1, M15.2.2.2.2.1, M15.2.2.2.2.2.1, M15.2.2.2.2.2.2.1, hsc, trivial⟩
        have yg := Mem.lt M15.2.2.2.2.2.2.1
        have ygs := Mem.lt M15.2.2.2.2.2.2.2.1
        refine wpAnyH_take (i := 8) (v := ?_) rfl (by decide +kernel) (by decide +kernel) (by decide +kernel) (fun _ _ _ h => h) (Or.inl ⟨by rfl, ?_⟩) ⟨M15.2.1, M15.2.2.1, M15.2.2.2.1, M15.2.2.2.2.1, M15.2.2.2.2.2.1, trivial⟩ ?_
        rotate_left
        · intro w hSw
          clear hSw
          go_simp; try (with_reducible rfl)
        try simp only [Act.put, List.getElem_toArray, List.getElem_cons_succ, List.getElem_cons_zero, List.setIfInBounds_toArray, List.set_cons_zero, List.set_cons_succ]
        refine wpAnyH_take (i := 9) (v := ?_) rfl (by decide +kernel) (by decide +kernel) (by decide +kernel) (fun _ _ _ h => h) (Or.inl ⟨by rfl, ?_⟩) ⟨M15.2.1, M15.2.2.1, M15.2.2.2.1, M15.2.2.2.2.1, M15.2.2.2.2.2.1, trivial⟩ ?_
        rotate_left
        · intro w hSw
          clear hSw
          go_simp; try (with_reducible rfl)
        try simp only [Act.put, List.getElem_toArray, List.getElem_cons_succ, List.getElem_cons_zero, List.setIfInBounds_toArray, List.set_cons_zero, List.set_cons_succ]
        refine wpAnyH_take (i := 10) (v := ?_) rfl (by decide +kernel) (by decide +kernel) (by decide +kernel) (fun _ _ _ h => h) (Or.inl ⟨by rfl, ?_⟩) ⟨M15.2.1, M15.2.2.1, M15.2.2.2.1, M15.2.2.2.2.1, M15.2.2.2.2.2.1, trivial⟩ ?_
        rotate_left
        · intro w hSw
          clear hSw
          go_simp; try (with_reducible rfl)
        try simp only [Act.put, List.getElem_toArray, List.getElem_cons_succ, List.getElem_cons_zero, List.setIfInBounds_toArray, List.set_cons_zero, List.set_cons_succ]
        refine wpAnyH_ready (rs := [12]) (by decide +kernel) (by simp) (AllReadyH.cons rfl ?_ AllReadyH.nil)
        intro K hK
        rw [if_pos (by rfl)]
        refine wp_store_mid 39 _ _ rfl (w13.heap.size) 0 (th ((dU1 CS CI g fc2 gs sc))) (by rfl) (by rfl) (there_block M15.1 (Nat.le_refl 20)) info_th (one_th _) ?_
        have N16 : Mem (w15.setCells (w13.heap.size) 0 (th ((dU1 CS CI g fc2 gs sc))).toList) [(w13.heap.size, .cells (th ((dU1 CS CI g fc2 gs sc))) 39), (w2.heap.size, .cells (th ((dT CS CI gf fc))) 39), (w.heap.size + 1, .cells #[.int .i64 e0, .int .i64 e1, .int .i64 T1, .int .i64 e3, .int .i64 N1, .int .u8 e5, .string e6, .string e7, .int .i64 e8, .int .i64 e9, .string e10, .string e11, .string e12] 30), (w.heap.size + 1 + 1, .cells #[.int .i64 f0, .int .i64 f1, .int .i64 T2, .int .i64 f3, .int .i64 N2, .int .u8 f5, .string f6, .string f7, .int .i64 f8, .int .i64 f9, .string f10, .string f11, .string f12] 30), (w5.heap.size, .cells #[.string hiS, .string noS] 24), (gf, .cells cf 104), (g, .cells cf2 104), (gs, .cells cs 56)] := ⟨set_th M15.1 _, (setCells_other _ 0 _ _ (by omega)).trans M15.2.1, (setCells_other _ 0 _ _ (by omega)).trans M15.2.2.1, (setCells_other _ 0 _ _ (by omega)).trans M15.2.2.2.1, (setCells_other _ 0 _ _ (by omega)).trans M15.2.2.2.2.1, (setCells_other _ 0 _ _ (by omega)).trans M15.2.2.2.2.2.1, (setCells_other _ 0 _ _ (by omega)).trans M15.2.2.2.2.2.2.1, (setCells_other _ 0 _ _ (by omega)).trans M15.2.2.2.2.2.2.2.1, trivial⟩
        refine hK.out _ _ ⟨N16.2.1, N16.2.2.1, N16.2.2.2.1, N16.2.2.2.2.1, N16.2.2.2.2.2.1, trivial⟩ (fun _ => ?_)
        clear hK K
        try simp only [Act.put, List.getElem_toArray, List.getElem_cons_succ, List.getElem_cons_zero]
        refine anyH_named ?_
        intro w16 hW16
        have hB16 : Below w.heap.size w w16 := by rw [hW16]; exact below_setCells (B := w.heap.size) hB15 (b := w13.heap.size) (by have := hB15.size; omega) 0 _
        have hw16 : Laid w16 := hw0.below hB16
        have M16 : Mem w16 [(w13.heap.size, .cells (th ((dU1 CS CI g fc2 gs sc))) 39), (w2.heap.size, .cells (th ((dT CS CI gf fc))) 39), (w.heap.size + 1, .cells #[.int .i64 e0, .int .i64 e1, .int .i64 T1, .int .i64 e3, .int .i64 N1, .int .u8 e5, .string e6, .string e7, .int .i64 e8, .int .i64 e9, .string e10, .string e11, .string e12] 30), (w.heap.size + 1 + 1, .cells #[.int .i64 f0, .int .i64 f1, .int .i64 T2, .int .i64 f3, .int .i64 N2, .int .u8 f5, .string f6, .string f7, .int .i64 f8, .int .i64 f9, .string f10, .string f11, .string f12] 30), (w5.heap.size, .cells #[.string hiS, .string noS] 24), (gf, .cells cf 104), (g, .cells cf2 104), (gs, .cells cs 56)] := by rw [hW16]; exact N16
        have hY := below_setCells hX.out (b := w13.heap.size) (by omega) 0 (th ((dU1 CS CI g fc2 gs sc))).toList
        rw [show w15.setCells (w13.heap.size) 0 (th ((dU1 CS CI g fc2 gs sc))).toList = w16 from hW16.symm] at hY
        clear hW16 N16
        refine wpAnyH_take (i := 13) (v := ?_) rfl (by decide +kernel) (by decide +kernel) (by decide +kernel) (fun _ _ _ h => h) (Or.inl ⟨by rfl, ?_⟩) ⟨M16.2.1, M16.2.2.1, M16.2.2.2.1, M16.2.2.2.2.1, M16.2.2.2.2.2.1, trivial⟩ ?_
        rotate_left
        · intro w hSw
          clear hSw
          go_simp; try (with_reducible rfl)
        try simp only [Act.put, List.getElem_toArray, List.getElem_cons_succ, List.getElem_cons_zero, List.setIfInBounds_toArray, List.set_cons_zero, List.set_cons_succ]
        refine wpAnyH_done (by kernel_rfl) ?_ _
        have z16_0 := Mem.lt M16.1
        have z16_1 := Mem.lt M16.2.1
        have c16_2_0 := Mem.cell (v := .int .i64 e0) M16.2.2.1 0 rfl
        have c16_2_1 := Mem.cell (v := .int .i64 e1) M16.2.2.1 1 rfl
        have c16_2_2 := Mem.cell (v := .int .i64 T1) M16.2.2.1 2 rfl
        have c16_2_3 := Mem.cell (v := .int .i64 e3) M16.2.2.1 3 rfl
        have c16_2_4 := Mem.cell (v := .int .i64 N1) M16.2.2.1 4 rfl
        have c16_2_5 := Mem.cell (v := .int .u8 e5) M16.2.2.1 5 rfl
        have c16_2_6 := Mem.cell (v := .string e6) M16.2.2.1 6 rfl
        have c16_2_7 := Mem.cell (v := .string e7) M16.2.2.1 7 rfl
        have c16_2_8 := Mem.cell (v := .int .i64 e8) M16.2.2.1 8 rfl
        have c16_2_9 := Mem.cell (v := .int .i64 e9) M16.2.2.1 9 rfl
        have c16_2_10 := Mem.cell (v := .string e10) M16.2.2.1 10 rfl
        have c16_2_11 := Mem.cell (v := .string e11) M16.2.2.1 11 rfl
        have c16_2_12 := Mem.cell (v := .string e12) M16.2.2.1 12 rfl
        have z16_2 := Mem.lt M16.2.2.1
        have c16_3_0 := Mem.cell (v := .int .i64 f0) M16.2.2.2.1 0 rfl
        have c16_3_1 := Mem.cell (v := .int .i64 f1) M16.2.2.2.1 1 rfl
        have c16_3_2 := Mem.cell (v := .int .i64 T2) M16.2.2.2.1 2 rfl
        have c16_3_3 := Mem.cell (v := .int .i64 f3) M16.2.2.2.1 3 rfl
        have c16_3_4 := Mem.cell (v := .int .i64 N2) M16.2.2.2.1 4 rfl
        have c16_3_5 := Mem.cell (v := .int .u8 f5) M16.2.2.2.1 5 rfl
        have c16_3_6 := Mem.cell (v := .string f6) M16.2.2.2.1 6 rfl
        have c16_3_7 := Mem.cell (v := .string f7) M16.2.2.2.1 7 rfl
        have c16_3_8 := Mem.cell (v := .int .i64 f8) M16.2.2.2.1 8 rfl
        have c16_3_9 := Mem.cell (v := .int .i64 f9) M16.2.2.2.1 9 rfl
        have c16_3_10 := Mem.cell (v := .string f10) M16.2.2.2.1 10 rfl
        have c16_3_11 := Mem.cell (v := .string f11) M16.2.2.2.1 11 rfl
        have c16_3_12 := Mem.cell (v := .string f12) M16.2.2.2.1 12 rfl
        have z16_3 := Mem.lt M16.2.2.2.1
        have c16_4_0 := Mem.cell (v := .string hiS) M16.2.2.2.2.1 0 rfl
        have c16_4_1 := Mem.cell (v := .string noS) M16.2.2.2.2.1 1 rfl
        have z16_4 := Mem.lt M16.2.2.2.2.1
        have z16_5 := Mem.lt M16.2.2.2.2.2.1
        have z16_6 := Mem.lt M16.2.2.2.2.2.2.1
        have z16_7 := Mem.lt M16.2.2.2.2.2.2.2.1
        go_wp2_with fail
        go_meet
        exact ⟨_, g, cf2, fc2, gs, cs, sc, rfl, rfl, hY, M16.1, M16.2.2.2.2.2.2.1, M16.2.2.2.2.2.2.2.1, HGT, HST, by omega, by omega, by omega⟩
    · skip
      intro K hK
      rw [if_pos (by rfl)]
      go_simp
      have N13 : Mem (w12.alloc (.cells (th (th0)) 39)) [(w12.heap.size, .cells (th (th0)) 39), (w2.heap.size, .cells (th ((dT CS CI gf fc))) 39), (w.heap.size + 1, .cells #[.int .i64 e0, .int .i64 e1, .int .i64 T1, .int .i64 e3, .int .i64 N1, .int .u8 e5, .string e6, .string e7, .int .i64 e8, .int .i64 e9, .string e10, .string e11, .string e12] 30), (w.heap.size + 1 + 1, .cells #[.int .i64 f0, .int .i64 f1, .int .i64 T2, .int .i64 f3, .int .i64 N2, .int .u8 f5, .string f6, .string f7, .int .i64 f8, .int .i64 f9, .string f10, .string f11, .string f12] 30), (w5.heap.size, .cells #[.string hiS, .string noS] 24), (gf, .cells cf 104)] := (M12).new' (w12.heap.size) (by rfl) (.cells (th (th0)) 39)
      refine hK.out _ _ ⟨N13.2.1, N13.2.2.1, N13.2.2.2.1, N13.2.2.2.2.1, N13.2.2.2.2.2.1, trivial⟩ (fun _ => ?_)
      clear hK K
      try simp only [Act.put, List.getElem_toArray, List.getElem_cons_succ, List.getElem_cons_zero, List.setIfInBounds_toArray, List.set_cons_zero, List.set_cons_succ]
      refine anyH_named ?_
      intro w13 hW13
      have hB13 : Below w.heap.size w w13 := by rw [hW13]; exact below_al hB12 _
      have hw13 : Laid w13 := by rw [hW13]; exact hw12.alloc _
      have M13 : Mem w13 [(w12.heap.size, .cells (th (th0)) 39), (w2.heap.size, .cells (th ((dT CS CI gf fc))) 39), (w.heap.size + 1, .cells #[.int .i64 e0, .int .i64 e1, .int .i64 T1, .int .i64 e3, .int .i64 N1, .int .u8 e5, .string e6, .string e7, .int .i64 e8, .int .i64 e9, .string e10, .string e11, .string e12] 30), (w.heap.size + 1 + 1, .cells #[.int .i64 f0, .int .i64 f1, .int .i64 T2, .int .i64 f3, .int .i64 N2, .int .u8 f5, .string f6, .string f7, .int .i64 f8, .int .i64 f9, .string f10, .string f11, .string f12] 30), (w5.heap.size, .cells #[.string hiS, .string noS] 24), (gf, .cells cf 104)] := by rw [hW13]; exact N13
      replace hX := hid_then hX (below_al (Below.refl _ w12) (.cells (th (th0)) 39))
      rw [show w12.alloc (.cells (th (th0)) 39) = w13 from hW13.symm] at hX
      clear hW13 N13
      have zz13 : w12.heap.size < w13.heap.size := Mem.lt M13.1
      refine wpAnyH_ready (rs := [1]) (by decide +kernel) (by simp) (AllReadyH.cons rfl ?_ AllReadyH.nil)
      intro K hK
      rw [if_pos (by rfl)]
      go_simp
      go_at_call 10
      refine (number_any 1 _).mono ?_
      rintro e w14 ⟨rfl, hb14⟩
      have hB14 := below_then hB13 hb14
      have hw14 := hw13.below hb14
      have M14 := M13.below hb14
      replace hX := hid_then hX hb14
      have zz14 := hb14.size
      clear hb14
      refine hK.out _ _ ⟨M14.2.1, M14.2.2.1, M14.2.2.2.1, M14.2.2.2.2.1, M14.2.2.2.2.2.1, trivial⟩ (fun _ => ?_)
      clear hK K
      try simp only [Act.put, List.getElem_toArray, List.getElem_cons_succ, List.getElem_cons_zero, List.setIfInBounds_toArray, List.set_cons_zero, List.set_cons_succ]
      refine wpAnyH_ready (rs := [7]) (by decide +kernel) (by simp) (AllReadyH.cons rfl ?_ AllReadyH.nil)
      intro K hK
      rw [if_pos (by rfl)]
      go_simp
      go_at_call 9
      refine (due_enter1 CS CI B5.out B6.out gf fc xf HXL.out HFC.out.1 HFC.out.2 T1 N1 U1 HT1.out.1 HT1.out.2 eU1 _ hw14 (rows_box M14.2.2.2.2.2.1 HFT.out)).mono ?_
      rintro e w15 ⟨g, cf2, fc2, gs, cs, sc, rfl, hg, hgc, hgt, hf1, hf2, hs, hsc, hst, hs1, hs2, hb15⟩
      have hB15 := below_then hB14 hb15
      have hw15 := hw14.below hb15
      have M15 := M14.below hb15
      replace hX := hid_then hX hb15
      have zz15 := hb15.size
      clear hb15
      refine hK.out _ _ ⟨M15.2.1, M15.2.2.1, M15.2.2.2.1, M15.2.2.2.2.1, M15.2.2.2.2.2.1, trivial⟩ (fun _ => ?_)
      clear hK K
      try simp only [Act.put, List.getElem_toArray, List.getElem_cons_succ, List.getElem_cons_zero, List.setIfInBounds_toArray, List.set_cons_zero, List.set_cons_succ]
      have HGT := Lib.hid (And.intro hgt (And.intro hf1 (And.intro hf2 (And.intro hs1 hs2))))
      have HST := Lib.hid hst
      clear hgt hst hf1 hf2 hs1 hs2
      replace M15 : Mem w15 [(w12.heap.size, .cells (th (th0)) 39), (w2.heap.size, .cells (th ((dT CS CI gf fc))) 39), (w.heap.size + 1, .cells #[.int .i64 e0, .int .i64 e1, .int .i64 T1, .int .i64 e3, .int .i64 N1, .int .u8 e5, .string e6, .string e7, .int .i64 e8, .int .i64 e9, .string e10, .string e11, .string e12] 30), (w.heap.size + 1 + 1, .cells #[.int .i64 f0, .int .i64 f1, .int .i64 T2, .int .i64 f3, .int .i64 N2, .int .u8 f5, .string f6, .string f7, .int .i64 f8, .int .i64 f9, .string f10, .string f11, .string f12] 30), (w5.heap.size, .cells #[.string hiS, .string noS] 24), (gf, .cells cf 104), (g, .cells cf2 104)] := ⟨M15.1, M15.2.1, M15.2.2.1, M15.2.2.2.1, M15.2.2.2.2.1, M15.2.2.2.2.2.1, hgc, trivial⟩
      replace M15 : Mem w15 [(w12.heap.size, .cells (th (th0)) 39), (w2.heap.size, .cells (th ((dT CS CI gf fc))) 39), (w.heap.size + 1, .cells #[.int .i64 e0, .int .i64 e1, .int .i64 T1, .int .i64 e3, .int .i64 N1, .int .u8 e5, .string e6, .string e7, .int .i64 e8, .int .i64 e9, .string e10, .string e11, .string e12] 30), (w.heap.size + 1 + 1, .cells #[.int .i64 f0, .int .i64 f1, .int .i64 T2, .int .i64 f3, .int .i64 N2, .int .u8 f5, .string f6, .string f7, .int .i64 f8, .int .i64 f9, .string f10, .string f11, .string f12] 30), (w5.heap.size, .cells #[.string hiS, .string noS] 24), (gf, .cells cf 104), (g, .cells cf2 104), (gs, .cells cs 56)] := ⟨M15.1, M15.2.1, M15.2.2.1, M15.2.2.2.1, M15.2.2.2.2.1, M15.2.2.2.2.2.1, M15.2.2.2.2.2.2.1, hsc, trivial⟩
      have yg := Mem.lt M15.2.2.2.2.2.2.1
      have ygs := Mem.lt M15.2.2.2.2.2.2.2.1
      refine wpAnyH_take (i := 8) (v := ?_) rfl (by decide +kernel) (by decide +kernel) (by decide +kernel) (fun _ _ _ h => h) (Or.inl ⟨by rfl, ?_⟩) ⟨M15.2.1, M15.2.2.1, M15.2.2.2.1, M15.2.2.2.2.1, M15.2.2.2.2.2.1, trivial⟩ ?_
      rotate_left
      · intro w hSw
        clear hSw
        go_simp; try (with_reducible rfl)
      try simp only [Act.put, List.getElem_toArray, List.getElem_cons_succ, List.getElem_cons_zero, List.setIfInBounds_toArray, List.set_cons_zero, List.set_cons_succ]
      refine wpAnyH_take (i := 9) (v := ?_) rfl (by decide +kernel) (by decide +kernel) (by decide +kernel) (fun _ _ _ h => h) (Or.inl ⟨by rfl, ?_⟩) ⟨M15.2.1, M15.2.2.1, M15.2.2.2.1, M15.2.2.2.2.1, M15.2.2.2.2.2.1, trivial⟩ ?_
      rotate_left
      · intro w hSw
        clear hSw
        go_simp; try (with_reducible rfl)
      try simp only [Act.put, List.getElem_toArray, List.getElem_cons_succ, List.getElem_cons_zero, List.setIfInBounds_toArray, List.set_cons_zero, List.set_cons_succ]
      refine wpAnyH_take (i := 10) (v := ?_) rfl (by decide +kernel) (by decide +kernel) (by decide +kernel) (fun _ _ _ h => h) (Or.inl ⟨by rfl, ?_⟩) ⟨M15.2.1, M15.2.2.1, M15.2.2.2.1, M15.2.2.2.2.1, M15.2.2.2.2.2.1, trivial⟩ ?_
      rotate_left
      · intro w hSw
        clear hSw
        go_simp; try (with_reducible rfl)
      try simp only [Act.put, List.getElem_toArray, List.getElem_cons_succ, List.getElem_cons_zero, List.setIfInBounds_toArray, List.set_cons_zero, List.set_cons_succ]
      refine wpAnyH_ready (rs := [12]) (by decide +kernel) (by simp) (AllReadyH.cons rfl ?_ AllReadyH.nil)
      intro K hK
      rw [if_pos (by rfl)]
      refine wp_store_mid 39 _ _ rfl (w12.heap.size) 0 (th ((dU1 CS CI g fc2 gs sc))) (by rfl) (by rfl) (there_block M15.1 (Nat.le_refl 20)) info_th (one_th _) ?_
      have N16 : Mem (w15.setCells (w12.heap.size) 0 (th ((dU1 CS CI g fc2 gs sc))).toList) [(w12.heap.size, .cells (th ((dU1 CS CI g fc2 gs sc))) 39), (w2.heap.size, .cells (th ((dT CS CI gf fc))) 39), (w.heap.size + 1, .cells #[.int .i64 e0, .int .i64 e1, .int .i64 T1, .int .i64 e3, .int .i64 N1, .int .u8 e5, .string e6, .string e7, .int .i64 e8, .int .i64 e9, .string e10, .string e11, .string e12] 30), (w.heap.size + 1 + 1, .cells #[.int .i64 f0, .int .i64 f1, .int .i64 T2, .int .i64 f3, .int .i64 N2, .int .u8 f5, .string f6, .string f7, .int .i64 f8, .int .i64 f9, .string f10, .string f11, .string f12] 30), (w5.heap.size, .cells #[.string hiS, .string noS] 24), (gf, .cells cf 104), (g, .cells cf2 104), (gs, .cells cs 56)] := ⟨set_th M15.1 _, (setCells_other _ 0 _ _ (by omega)).trans M15.2.1, (setCells_other _ 0 _ _ (by omega)).trans M15.2.2.1, (setCells_other _ 0 _ _ (by omega)).trans M15.2.2.2.1, (setCells_other _ 0 _ _ (by omega)).trans M15.2.2.2.2.1, (setCells_other _ 0 _ _ (by omega)).trans M15.2.2.2.2.2.1, (setCells_other _ 0 _ _ (by omega)).trans M15.2.2.2.2.2.2.1, (setCells_other _ 0 _ _ (by omega)).trans M15.2.2.2.2.2.2.2.1, trivial⟩
      refine hK.out _ _ ⟨N16.2.1, N16.2.2.1, N16.2.2.2.1, N16.2.2.2.2.1, N16.2.2.2.2.2.1, trivial⟩ (fun _ => ?_)
      clear hK K
      try simp only [Act.put, List.getElem_toArray, List.getElem_cons_succ, List.getElem_cons_zero]
      refine anyH_named ?_
      intro w16 hW16
      have hB16 : Below w.heap.size w w16 := by rw [hW16]; exact below_setCells (B := w.heap.size) hB15 (b := w12.heap.size) (by have := hB15.size; omega) 0 _
      have hw16 : Laid w16 := hw0.below hB16
      have M16 : Mem w16 [(w12.heap.size, .cells (th ((dU1 CS CI g fc2 gs sc))) 39), (w2.heap.size, .cells (th ((dT CS CI gf fc))) 39), (w.heap.size + 1, .cells #[.int .i64 e0, .int .i64 e1, .int .i64 T1, .int .i64 e3, .int .i64 N1, .int .u8 e5, .string e6, .string e7, .int .i64 e8, .int .i64 e9, .string e10, .string e11, .string e12] 30), (w.heap.size + 1 + 1, .cells #[.int .i64 f0, .int .i64 f1, .int .i64 T2, .int .i64 f3, .int .i64 N2, .int .u8 f5, .string f6, .string f7, .int .i64 f8, .int .i64 f9, .string f10, .string f11, .string f12] 30), (w5.heap.size, .cells #[.string hiS, .string noS] 24), (gf, .cells cf 104), (g, .cells cf2 104), (gs, .cells cs 56)] := by rw [hW16]; exact N16
      have hY := below_setCells hX.out (b := w12.heap.size) (by omega) 0 (th ((dU1 CS CI g fc2 gs sc))).toList
      rw [show w15.setCells (w12.heap.size) 0 (th ((dU1 CS CI g fc2 gs sc))).toList = w16 from hW16.symm] at hY
      clear hW16 N16
      refine wpAnyH_take (i := 13) (v := ?_) rfl (by decide +kernel) (by decide +kernel) (by decide +kernel) (fun _ _ _ h => h) (Or.inl ⟨by rfl, ?_⟩) ⟨M16.2.1, M16.2.2.1, M16.2.2.2.1, M16.2.2.2.2.1, M16.2.2.2.2.2.1, trivial⟩ ?_
      rotate_left
      · intro w hSw
        clear hSw
        go_simp; try (with_reducible rfl)
      try simp only [Act.put, List.getElem_toArray, List.getElem_cons_succ, List.getElem_cons_zero, List.setIfInBounds_toArray, List.set_cons_zero, List.set_cons_succ]
      refine wpAnyH_done (by kernel_rfl) ?_ _
      have z16_0 := Mem.lt M16.1
      have z16_1 := Mem.lt M16.2.1
      have c16_2_0 := Mem.cell (v := .int .i64 e0) M16.2.2.1 0 rfl
      have c16_2_1 := Mem.cell (v := .int .i64 e1) M16.2.2.1 1 rfl
      have c16_2_2 := Mem.cell (v := .int .i64 T1) M16.2.2.1 2 rfl
      have c16_2_3 := Mem.cell (v := .int .i64 e3) M16.2.2.1 3 rfl
      have c16_2_4 := Mem.cell (v := .int .i64 N1) M16.2.2.1 4 rfl
      have c16_2_5 := Mem.cell (v := .int .u8 e5) M16.2.2.1 5 rfl
      have c16_2_6 := Mem.cell (v := .string e6) M16.2.2.1 6 rfl
      have c16_2_7 := Mem.cell (v := .string e7) M16.2.2.1 7 rfl
      have c16_2_8 := Mem.cell (v := .int .i64 e8) M16.2.2.1 8 rfl
      have c16_2_9 := Mem.cell (v := .int .i64 e9) M16.2.2.1 9 rfl
      have c16_2_10 := Mem.cell (v := .string e10) M16.2.2.1 10 rfl
      have c16_2_11 := Mem.cell (v := .string e11) M16.2.2.1 11 rfl
      have c16_2_12 := Mem.cell (v := .string e12) M16.2.2.1 12 rfl
      have z16_2 := Mem.lt M16.2.2.1
      have c16_3_0 := Mem.cell (v := .int .i64 f0) M16.2.2.2.1 0 rfl
      have c16_3_1 := Mem.cell (v := .int .i64 f1) M16.2.2.2.1 1 rfl
      have c16_3_2 := Mem.cell (v := .int .i64 T2) M16.2.2.2.1 2 rfl
      have c16_3_3 := Mem.cell (v := .int .i64 f3) M16.2.2.2.1 3 rfl
      have c16_3_4 := Mem.cell (v := .int .i64 N2) M16.2.2.2.1 4 rfl
      have c16_3_5 := Mem.cell (v := .int .u8 f5) M16.2.2.2.1 5 rfl
      have c16_3_6 := Mem.cell (v := .string f6) M16.2.2.2.1 6 rfl
      have c16_3_7 := Mem.cell (v := .string f7) M16.2.2.2.1 7 rfl
      have c16_3_8 := Mem.cell (v := .int .i64 f8) M16.2.2.2.1 8 rfl
      have c16_3_9 := Mem.cell (v := .int .i64 f9) M16.2.2.2.1 9 rfl
      have c16_3_10 := Mem.cell (v := .string f10) M16.2.2.2.1 10 rfl
      have c16_3_11 := Mem.cell (v := .string f11) M16.2.2.2.1 11 rfl
      have c16_3_12 := Mem.cell (v := .string f12) M16.2.2.2.1 12 rfl
      have z16_3 := Mem.lt M16.2.2.2.1
      have c16_4_0 := Mem.cell (v := .string hiS) M16.2.2.2.2.1 0 rfl
      have c16_4_1 := Mem.cell (v := .string noS) M16.2.2.2.2.1 1 rfl
      have z16_4 := Mem.lt M16.2.2.2.2.1
      have z16_5 := Mem.lt M16.2.2.2.2.2.1
      have z16_6 := Mem.lt M16.2.2.2.2.2.2.1
      have z16_7 := Mem.lt M16.2.2.2.2.2.2.2.1
      go_wp2_with fail
      go_meet
      exact ⟨_, g, cf2, fc2, gs, cs, sc, rfl, rfl, hY, M16.1, M16.2.2.2.2.2.2.1, M16.2.2.2.2.2.2.2.1, HGT, HST, by omega, by omega, by omega⟩
  case rest =>
    obtain ⟨bs, g, cf2, fc2, gs, cs, sc, rfl, rfl, hbS, hbs, hgc, hsc, HGT, HST, q1, q2, q3⟩ := hcut
    obtain ⟨w12, rfl⟩ : ∃ x, x = wc := ⟨_, rfl⟩
    have hB12 := below_then hB11 hbS
    have hw12 := hw11.below hbS
    have M12 : Mem w12 [(bs, .cells (th ((dU1 CS CI g fc2 gs sc))) 39), (w2.heap.size, .cells (th ((dT CS CI gf fc))) 39), (w.heap.size + 1, .cells #[.int .i64 e0, .int .i64 e1, .int .i64 T1, .int .i64 e3, .int .i64 N1, .int .u8 e5, .string e6, .string e7, .int .i64 e8, .int .i64 e9, .string e10, .string e11, .string e12] 30), (w.heap.size + 1 + 1, .cells #[.int .i64 f0, .int .i64 f1, .int .i64 T2, .int .i64 f3, .int .i64 N2, .int .u8 f5, .string f6, .string f7, .int .i64 f8, .int .i64 f9, .string f10, .string f11, .string f12] 30), (w5.heap.size, .cells #[.string hiS, .string noS] 24), (gf, .cells cf 104)] := ⟨hbs, M11.below hbS⟩
    clear z11_0 c11_1_0 c11_1_1 c11_1_2 c11_1_3 c11_1_4 c11_1_5 c11_1_6 c11_1_7 c11_1_8 c11_1_9 c11_1_10 c11_1_11 c11_1_12 z11_1 c11_2_0 c11_2_1 c11_2_2 c11_2_3 c11_2_4 c11_2_5 c11_2_6 c11_2_7 c11_2_8 c11_2_9 c11_2_10 c11_2_11 c11_2_12 z11_2 c11_3_0 c11_3_1 z11_3 z11_4
    have z12_0 := Mem.lt M12.1
    have z12_1 := Mem.lt M12.2.1
    have c12_2_0 := Mem.cell (v := .int .i64 e0) M12.2.2.1 0 rfl
    have c12_2_1 := Mem.cell (v := .int .i64 e1) M12.2.2.1 1 rfl
    have c12_2_2 := Mem.cell (v := .int .i64 T1) M12.2.2.1 2 rfl
    have c12_2_3 := Mem.cell (v := .int .i64 e3) M12.2.2.1 3 rfl
    have c12_2_4 := Mem.cell (v := .int .i64 N1) M12.2.2.1 4 rfl
    have c12_2_5 := Mem.cell (v := .int .u8 e5) M12.2.2.1 5 rfl
    have c12_2_6 := Mem.cell (v := .string e6) M12.2.2.1 6 rfl
    have c12_2_7 := Mem.cell (v := .string e7) M12.2.2.1 7 rfl
    have c12_2_8 := Mem.cell (v := .int .i64 e8) M12.2.2.1 8 rfl
    have c12_2_9 := Mem.cell (v := .int .i64 e9) M12.2.2.1 9 rfl
    have c12_2_10 := Mem.cell (v := .string e10) M12.2.2.1 10 rfl
    have c12_2_11 := Mem.cell (v := .string e11) M12.2.2.1 11 rfl
    have c12_2_12 := Mem.cell (v := .string e12) M12.2.2.1 12 rfl
    have z12_2 := Mem.lt M12.2.2.1
    have c12_3_0 := Mem.cell (v := .int .i64 f0) M12.2.2.2.1 0 rfl
    have c12_3_1 := Mem.cell (v := .int .i64 f1) M12.2.2.2.1 1 rfl
    have c12_3_2 := Mem.cell (v := .int .i64 T2) M12.2.2.2.1 2 rfl
    have c12_3_3 := Mem.cell (v := .int .i64 f3) M12.2.2.2.1 3 rfl
    have c12_3_4 := Mem.cell (v := .int .i64 N2) M12.2.2.2.1 4 rfl
    have c12_3_5 := Mem.cell (v := .int .u8 f5) M12.2.2.2.1 5 rfl
    have c12_3_6 := Mem.cell (v := .string f6) M12.2.2.2.1 6 rfl
    have c12_3_7 := Mem.cell (v := .string f7) M12.2.2.2.1 7 rfl
    have c12_3_8 := Mem.cell (v := .int .i64 f8) M12.2.2.2.1 8 rfl
    have c12_3_9 := Mem.cell (v := .int .i64 f9) M12.2.2.2.1 9 rfl
    have c12_3_10 := Mem.cell (v := .string f10) M12.2.2.2.1 10 rfl
    have c12_3_11 := Mem.cell (v := .string f11) M12.2.2.2.1 11 rfl
    have c12_3_12 := Mem.cell (v := .string f12) M12.2.2.2.1 12 rfl
    have z12_3 := Mem.lt M12.2.2.2.1
    have c12_4_0 := Mem.cell (v := .string hiS) M12.2.2.2.2.1 0 rfl
    have c12_4_1 := Mem.cell (v := .string noS) M12.2.2.2.2.1 1 rfl
    have z12_4 := Mem.lt M12.2.2.2.2.1
    have z12_5 := Mem.lt M12.2.2.2.2.2.1
    replace M12 : Mem w12 [(bs, .cells (th ((dU1 CS CI g fc2 gs sc))) 39), (w2.heap.size, .cells (th ((dT CS CI gf fc))) 39), (w.heap.size + 1, .cells #[.int .i64 e0, .int .i64 e1, .int .i64 T1, .int .i64 e3, .int .i64 N1, .int .u8 e5, .string e6, .string e7, .int .i64 e8, .int .i64 e9, .string e10, .string e11, .string e12] 30), (w.heap.size + 1 + 1, .cells #[.int .i64 f0, .int .i64 f1, .int .i64 T2, .int .i64 f3, .int .i64 N2, .int .u8 f5, .string f6, .string f7, .int .i64 f8, .int .i64 f9, .string f10, .string f11, .string f12] 30), (w5.heap.size, .cells #[.string hiS, .string noS] 24), (gf, .cells cf 104), (g, .cells cf2 104)] := ⟨M12.1, M12.2.1, M12.2.2.1, M12.2.2.2.1, M12.2.2.2.2.1, M12.2.2.2.2.2.1, hgc, trivial⟩
    replace M12 : Mem w12 [(bs, .cells (th ((dU1 CS CI g fc2 gs sc))) 39), (w2.heap.size, .cells (th ((dT CS CI gf fc))) 39), (w.heap.size + 1, .cells #[.int .i64 e0, .int .i64 e1, .int .i64 T1, .int .i64 e3, .int .i64 N1, .int .u8 e5, .string e6, .string e7, .int .i64 e8, .int .i64 e9, .string e10, .string e11, .string e12] 30), (w.heap.size + 1 + 1, .cells #[.int .i64 f0, .int .i64 f1, .int .i64 T2, .int .i64 f3, .int .i64 N2, .int .u8 f5, .string f6, .string f7, .int .i64 f8, .int .i64 f9, .string f10, .string f11, .string f12] 30), (w5.heap.size, .cells #[.string hiS, .string noS] 24), (gf, .cells cf 104), (g, .cells cf2 104), (gs, .cells cs 56)] := ⟨M12.1, M12.2.1, M12.2.2.1, M12.2.2.2.1, M12.2.2.2.2.1, M12.2.2.2.2.2.1, M12.2.2.2.2.2.2.1, hsc, trivial⟩
    replace M12 : Mem w12 [(bs, .cells (th ((dU1 CS CI g fc2 gs sc))) 39), (w.heap.size + 1 + 1, .cells #[.int .i64 f0, .int .i64 f1, .int .i64 T2, .int .i64 f3, .int .i64 N2, .int .u8 f5, .string f6, .string f7, .int .i64 f8, .int .i64 f9, .string f10, .string f11, .string f12] 30), (w5.heap.size, .cells #[.string hiS, .string noS] 24), (g, .cells cf2 104), (gs, .cells cs 56), (w.heap.size + 1, .cells #[.int .i64 e0, .int .i64 e1, .int .i64 T1, .int .i64 e3, .int .i64 N1, .int .u8 e5, .string e6, .string e7, .int .i64 e8, .int .i64 e9, .string e10, .string e11, .string e12] 30)] := ⟨M12.1, M12.2.2.2.1, M12.2.2.2.2.1, M12.2.2.2.2.2.2.1, M12.2.2.2.2.2.2.2.1, M12.2.2.1, trivial⟩
    clear z12_0 z12_1 c12_2_0 c12_2_1 c12_2_2 c12_2_3 c12_2_4 c12_2_5 c12_2_6 c12_2_7 c12_2_8 c12_2_9 c12_2_10 c12_2_11 c12_2_12 z12_2 c12_3_0 c12_3_1 c12_3_2 c12_3_3 c12_3_4 c12_3_5 c12_3_6 c12_3_7 c12_3_8 c12_3_9 c12_3_10 c12_3_11 c12_3_12 z12_3 c12_4_0 c12_4_1 z12_4 z12_5
    have z12_0 := Mem.lt M12.1
    have c12_1_0 := Mem.cell (v := .int .i64 f0) M12.2.1 0 rfl
    have c12_1_1 := Mem.cell (v := .int .i64 f1) M12.2.1 1 rfl
    have c12_1_2 := Mem.cell (v := .int .i64 T2) M12.2.1 2 rfl
    have c12_1_3 := Mem.cell (v := .int .i64 f3) M12.2.1 3 rfl
    have c12_1_4 := Mem.cell (v := .int .i64 N2) M12.2.1 4 rfl
    have c12_1_5 := Mem.cell (v := .int .u8 f5) M12.2.1 5 rfl
    have c12_1_6 := Mem.cell (v := .string f6) M12.2.1 6 rfl
    have c12_1_7 := Mem.cell (v := .string f7) M12.2.1 7 rfl
    have c12_1_8 := Mem.cell (v := .int .i64 f8) M12.2.1 8 rfl
    have c12_1_9 := Mem.cell (v := .int .i64 f9) M12.2.1 9 rfl
    have c12_1_10 := Mem.cell (v := .string f10) M12.2.1 10 rfl
    have c12_1_11 := Mem.cell (v := .string f11) M12.2.1 11 rfl
    have c12_1_12 := Mem.cell (v := .string f12) M12.2.1 12 rfl
    have z12_1 := Mem.lt M12.2.1
    have c12_2_0 := Mem.cell (v := .string hiS) M12.2.2.1 0 rfl
    have c12_2_1 := Mem.cell (v := .string noS) M12.2.2.1 1 rfl
    have z12_2 := Mem.lt M12.2.2.1
    have z12_3 := Mem.lt M12.2.2.2.1
    have z12_4 := Mem.lt M12.2.2.2.2.1
    have c12_5_0 := Mem.cell (v := .int .i64 e0) M12.2.2.2.2.2.1 0 rfl
    have c12_5_1 := Mem.cell (v := .int .i64 e1) M12.2.2.2.2.2.1 1 rfl
    have c12_5_2 := Mem.cell (v := .int .i64 T1) M12.2.2.2.2.2.1 2 rfl
    have c12_5_3 := Mem.cell (v := .int .i64 e3) M12.2.2.2.2.2.1 3 rfl
    have c12_5_4 := Mem.cell (v := .int .i64 N1) M12.2.2.2.2.2.1 4 rfl
    have c12_5_5 := Mem.cell (v := .int .u8 e5) M12.2.2.2.2.2.1 5 rfl
    have c12_5_6 := Mem.cell (v := .string e6) M12.2.2.2.2.2.1 6 rfl
    have c12_5_7 := Mem.cell (v := .string e7) M12.2.2.2.2.2.1 7 rfl
    have c12_5_8 := Mem.cell (v := .int .i64 e8) M12.2.2.2.2.2.1 8 rfl
    have c12_5_9 := Mem.cell (v := .int .i64 e9) M12.2.2.2.2.2.1 9 rfl
    have c12_5_10 := Mem.cell (v := .string e10) M12.2.2.2.2.2.1 10 rfl
    have c12_5_11 := Mem.cell (v := .string e11) M12.2.2.2.2.2.1 11 rfl
    have c12_5_12 := Mem.cell (v := .string e12) M12.2.2.2.2.2.1 12 rfl
    have z12_5 := Mem.lt M12.2.2.2.2.2.1
    go_upto_region 12 with (fail)
    have HF2 := Lib.hid HGT.out.1
    go_cut [14, 15] (fun s14 s15 wx => ∃ b g3 fc3 gs2 cs2 sc2, s14 = .pointer (some ⟨b, 0, none⟩) ∧ s15 = .int .i64 0 ∧ Below w12.heap.size w12 wx ∧ wx.heap[b]? = some (.cells (th (dU2 CS CI g3 fc3 gs2 sc2)) 39) ∧ wx.heap[gs2]? = some (.cells cs2 56) ∧ Hid (3 ≤ fc3 ∧ fc3 ≤ maxLen ∧ 2 ≤ sc2 ∧ sc2 ≤ maxLen) ∧ Hid (cs2.toList.take 28 = scL (dS1 CS CI U1) ++ scL (dS2 CS CI U2)) ∧ w12.heap.size ≤ b ∧ w12.heap.size ≤ gs2)
    case first =>
      have hX := Lib.hid (Below.refl w12.heap.size w12)
      clear z12_0 c12_1_0 c12_1_1 c12_1_2 c12_1_3 c12_1_4 c12_1_5 c12_1_6 c12_1_7 c12_1_8 c12_1_9 c12_1_10 c12_1_11 c12_1_12 z12_1 c12_2_0 c12_2_1 z12_2 z12_3 z12_4 c12_5_0 c12_5_1 c12_5_2 c12_5_3 c12_5_4 c12_5_5 c12_5_6 c12_5_7 c12_5_8 c12_5_9 c12_5_10 c12_5_11 c12_5_12 z12_5
      refine wp_region_held (S := fun w' => Mem w' [(bs, .cells (th ((dU1 CS CI g fc2 gs sc))) 39), (w.heap.size + 1 + 1, .cells #[.int .i64 f0, .int .i64 f1, .int .i64 T2, .int .i64 f3, .int .i64 N2, .int .u8 f5, .string f6, .string f7, .int .i64 f8, .int .i64 f9, .string f10, .string f11, .string f12] 30), (w5.heap.size, .cells #[.string hiS, .string noS] 24), (g, .cells cf2 104), (gs, .cells cs 56), (w.heap.size + 1, .cells #[.int .i64 e0, .int .i64 e1, .int .i64 T1, .int .i64 e3, .int .i64 N1, .int .u8 e5, .string e6, .string e7, .int .i64 e8, .int .i64 e9, .string e10, .string e11, .string e12] 30)]) (by kernel_rfl) ?_
      change wpAnyH _ _ _ _ _ 14 (Array.replicate 14 false) _ w12.drew
      refine anyH_named ?_
      intro w13 hW13
      have hB13 : Below w.heap.size w w13 := by rw [hW13]; exact below_dr hB12
      have hw13 : Laid w13 := by rw [hW13]; exact hw12.below (below_dr (Below.refl _ _))
      have M13 : Mem w13 [(bs, .cells (th ((dU1 CS CI g fc2 gs sc))) 39), (w.heap.size + 1 + 1, .cells #[.int .i64 f0, .int .i64 f1, .int .i64 T2, .int .i64 f3, .int .i64 N2, .int .u8 f5, .string f6, .string f7, .int .i64 f8, .int .i64 f9, .string f10, .string f11, .string f12] 30), (w5.heap.size, .cells #[.string hiS, .string noS] 24), (g, .cells cf2 104), (gs, .cells cs 56), (w.heap.size + 1, .cells #[.int .i64 e0, .int .i64 e1, .int .i64 T1, .int .i64 e3, .int .i64 N1, .int .u8 e5, .string e6, .string e7, .int .i64 e8, .int .i64 e9, .string e10, .string e11, .string e12] 30)] := by rw [hW13]; exact Mem.drew M12
      have zz13 : w12.heap.size ≤ w13.heap.size := by rw [hW13]; exact Nat.le_refl _
      replace hX := hid_then hX (below_dr (Below.refl _ w12))
      rw [← hW13] at hX
      clear hW13
      have zh13_0 := Mem.lt M13.1
      have zh13_1 := Mem.lt M13.2.1
      have zh13_2 := Mem.lt M13.2.2.1
      have zh13_3 := Mem.lt M13.2.2.2.1
      have zh13_4 := Mem.lt M13.2.2.2.2.1
      have zh13_5 := Mem.lt M13.2.2.2.2.2.1
      refine wpAnyH_take (i := 0) (v := .agg (th ((dU1 CS CI g fc2 gs sc)))) rfl (by decide +kernel) (by decide +kernel) (by decide +kernel) (fun _ _ _ h => h) (yieldsIf_load_mid (by rfl) 39 _ rfl (bs) 0 (by rfl) (th ((dU1 CS CI g fc2 gs sc))).toList _ (fun w hSw => range_block hSw.1) Tryz.underlying39 rfl info_th) M13 ?_
      try simp only [Act.put, List.getElem_toArray, List.getElem_cons_zero, List.setIfInBounds_toArray, List.set_cons_zero, List.set_cons_succ]
      refine wpAnyH_take (i := 2) (v := ?_) rfl (by decide +kernel) (by decide +kernel) (by decide +kernel) (fun _ _ _ h => h) (Or.inl ⟨by rfl, ?_⟩) M13 ?_
      rotate_left
      · intro w hSw
        have s_0 := Mem.cell (v := .string hiS) hSw.2.2.1 0 rfl
        have s_1 := Mem.cell (v := .string noS) hSw.2.2.1 1 rfl
        clear hSw
        go_simp; try (with_reducible rfl)
      try simp only [Act.put, List.getElem_toArray, List.getElem_cons_succ, List.getElem_cons_zero, List.setIfInBounds_toArray, List.set_cons_zero, List.set_cons_succ]
      refine wpAnyH_take (i := 3) (v := ?_) rfl (by decide +kernel) (by decide +kernel) (by decide +kernel) (fun _ _ _ h => h) (Or.inl ⟨by rfl, ?_⟩) M13 ?_
      rotate_left
      · intro w hSw
        clear hSw
        go_simp; try (with_reducible rfl)
      try simp only [Act.put, List.getElem_toArray, List.getElem_cons_succ, List.getElem_cons_zero, List.setIfInBounds_toArray, List.set_cons_zero, List.set_cons_succ]
      refine wpAnyH_take (i := 5) (v := ?_) rfl (by decide +kernel) (by decide +kernel) (by decide +kernel) (fun _ _ _ h => h) (Or.inl ⟨by rfl, ?_⟩) M13 ?_
      rotate_left
      · intro w hSw
        clear hSw
        go_simp; try (with_reducible rfl)
      try simp only [Act.put, List.getElem_toArray, List.getElem_cons_succ, List.getElem_cons_zero, List.setIfInBounds_toArray, List.set_cons_zero, List.set_cons_succ]
      refine wpAnyH_take (i := 4) (v := ?_) rfl (by decide +kernel) (by decide +kernel) (by decide +kernel) (fun _ _ _ h => h) (Or.inl ⟨by rfl, ?_⟩) M13 ?_
      rotate_left
      · intro w hSw
        have s_2 := Mem.cell (v := .int .i64 T2) hSw.2.1 2 rfl
        clear hSw
        go_simp; try (with_reducible rfl)
      try simp only [Act.put, List.getElem_toArray, List.getElem_cons_succ, List.getElem_cons_zero, List.setIfInBounds_toArray, List.set_cons_zero, List.set_cons_succ]
      refine wpAnyH_take (i := 6) (v := ?_) rfl (by decide +kernel) (by decide +kernel) (by decide +kernel) (fun _ _ _ h => h) (Or.inl ⟨by rfl, ?_⟩) M13 ?_
      rotate_left
      · intro w hSw
        have s_4 := Mem.cell (v := .int .i64 N2) hSw.2.1 4 rfl
        clear hSw
        go_simp; try (with_reducible rfl)
      try simp only [Act.put, List.getElem_toArray, List.getElem_cons_succ, List.getElem_cons_zero, List.setIfInBounds_toArray, List.set_cons_zero, List.set_cons_succ]
      refine wpAnyH_ready (rs := [1, 11]) (by decide +kernel) (by simp) (AllReadyH.cons rfl ?_ (AllReadyH.cons rfl ?_ AllReadyH.nil))
      · skip
        intro K hK
        rw [if_pos (by rfl)]
        go_simp
        go_at_call 10
        refine (number_any 1 _).mono ?_
        rintro e w14 ⟨rfl, hb14⟩
        have hB14 := below_then hB13 hb14
        have hw14 := hw13.below hb14
        have M14 := M13.below hb14
        replace hX := hid_then hX hb14
        have zz14 := hb14.size
        clear hb14
        refine hK.out _ _ M14 (fun _ => ?_)
        clear hK K
        try simp only [Act.put, List.getElem_toArray, List.getElem_cons_succ, List.getElem_cons_zero, List.setIfInBounds_toArray, List.set_cons_zero, List.set_cons_succ]
        refine wpAnyH_ready (rs := [7, 11]) (by decide +kernel) (by simp) (AllReadyH.cons rfl ?_ (AllReadyH.cons rfl ?_ AllReadyH.nil))
        · skip
          intro K hK
          rw [if_pos (by rfl)]
          go_simp
          go_at_call 9
          refine (due_enter2 CS CI B5.out B6.out g fc2 gs sc cf2 cs HGT.out.2.1 HGT.out.2.2.1 HGT.out.2.2.2.1 HGT.out.2.2.2.2 T2 N2 U2 U1 HT2.out.1 HT2.out.2 eU2 _ hw14 M14.2.2.2.1 HF2.out M14.2.2.2.2.1 HST.out).mono ?_
          rintro e w15 ⟨g3, fc3, gs2, cs2, sc2, rfl, hf1, hf2, hs, hsc, hst, hs1, hs2, hb15⟩
          have hB15 := below_then hB14 hb15
          have hw15 := hw14.below hb15
          have M15 := M14.below hb15
          replace hX := hid_then hX hb15
          have zz15 := hb15.size
          clear hb15
          refine hK.out _ _ M15 (fun _ => ?_)
          clear hK K
          try simp only [Act.put, List.getElem_toArray, List.getElem_cons_succ, List.getElem_cons_zero, List.setIfInBounds_toArray, List.set_cons_zero, List.set_cons_succ]
          have HGT3 := Lib.hid (And.intro hf1 (And.intro hf2 (And.intro hs1 hs2)))
          have HST3 := Lib.hid hst
          clear hst hf1 hf2 hs1 hs2
          replace M15 : Mem w15 [(bs, .cells (th ((dU1 CS CI g fc2 gs sc))) 39), (w.heap.size + 1 + 1, .cells #[.int .i64 f0, .int .i64 f1, .int .i64 T2, .int .i64 f3, .int .i64 N2, .int .u8 f5, .string f6, .string f7, .int .i64 f8, .int .i64 f9, .string f10, .string f11, .string f12] 30), (w5.heap.size, .cells #[.string hiS, .string noS] 24), (g, .cells cf2 104), (gs, .cells cs 56), (w.heap.size + 1, .cells #[.int .i64 e0, .int .i64 e1, .int .i64 T1, .int .i64 e3, .int .i64 N1, .int .u8 e5, .string e6, .string e7, .int .i64 e8, .int .i64 e9, .string e10, .string e11, .string e12] 30), (gs2, .cells cs2 56)] := ⟨M15.1, M15.2.1, M15.2.2.1, M15.2.2.2.1, M15.2.2.2.2.1, M15.2.2.2.2.2.1, hsc, trivial⟩
          have ygs2 := Mem.lt M15.2.2.2.2.2.2.1
          refine wpAnyH_take (i := 8) (v := ?_) rfl (by decide +kernel) (by decide +kernel) (by decide +kernel) (fun _ _ _ h => h) (Or.inl ⟨by rfl, ?_⟩) ⟨M15.1, M15.2.1, M15.2.2.1, M15.2.2.2.1, M15.2.2.2.2.1, M15.2.2.2.2.2.1, trivial⟩ ?_
          rotate_left
          · intro w hSw
            clear hSw
            go_simp; try (with_reducible rfl)
          try simp only [Act.put, List.getElem_toArray, List.getElem_cons_succ, List.getElem_cons_zero, List.setIfInBounds_toArray, List.set_cons_zero, List.set_cons_succ]
          refine wpAnyH_take (i := 9) (v := ?_) rfl (by decide +kernel) (by decide +kernel) (by decide +kernel) (fun _ _ _ h => h) (Or.inl ⟨by rfl, ?_⟩) ⟨M15.1, M15.2.1, M15.2.2.1, M15.2.2.2.1, M15.2.2.2.2.1, M15.2.2.2.2.2.1, trivial⟩ ?_
          rotate_left
          · intro w hSw
            clear hSw
            go_simp; try (with_reducible rfl)
          try simp only [Act.put, List.getElem_toArray, List.getElem_cons_succ, List.getElem_cons_zero, List.setIfInBounds_toArray, List.set_cons_zero, List.set_cons_succ]
          refine wpAnyH_take (i := 10) (v := ?_) rfl (by decide +kernel) (by decide +kernel) (by decide +kernel) (fun _ _ _ h => h) (Or.inl ⟨by rfl, ?_⟩) ⟨M15.1, M15.2.1, M15.2.2.1, M15.2.2.2.1, M15.2.2.2.2.1, M15.2.2.2.2.2.1, trivial⟩ ?_
          rotate_left
          · intro w hSw
            clear hSw
            go_simp; try (with_reducible rfl)
          try simp only [Act.put, List.getElem_toArray, List.getElem_cons_succ, List.getElem_cons_zero, List.setIfInBounds_toArray, List.set_cons_zero, List.set_cons_succ]
          refine wpAnyH_ready (rs := [11]) (by decide +kernel) (by simp) (AllReadyH.cons rfl ?_ AllReadyH.nil)
          intro K hK
          rw [if_pos (by rfl)]
          go_simp
          have N16 : Mem (w15.alloc (.cells (th (th0)) 39)) [(w15.heap.size, .cells (th (th0)) 39), (bs, .cells (th ((dU1 CS CI g fc2 gs sc))) 39), (w.heap.size + 1 + 1, .cells #[.int .i64 f0, .int .i64 f1, .int .i64 T2, .int .i64 f3, .int .i64 N2, .int .u8 f5, .string f6, .string f7, .int .i64 f8, .int .i64 f9, .string f10, .string f11, .string f12] 30), (w5.heap.size, .cells #[.string hiS, .string noS] 24), (g, .cells cf2 104), (gs, .cells cs 56), (w.heap.size + 1, .cells #[.int .i64 e0, .int .i64 e1, .int .i64 T1, .int .i64 e3, .int .i64 N1, .int .u8 e5, .string e6, .string e7, .int .i64 e8, .int .i64 e9, .string e10, .string e11, .string e12] 30), (gs2, .cells cs2 56)] := (M15).new' (w15.heap.size) (by rfl) (.cells (th (th0)) 39)
          refine hK.out _ _ ⟨N16.2.1, N16.2.2.1, N16.2.2.2.1, N16.2.2.2.2.1, N16.2.2.2.2.2.1, N16.2.2.2.2.2.2.1, trivial⟩ (fun _ => ?_)
          clear hK K
          try simp only [Act.put, List.getElem_toArray, List.getElem_cons_succ, List.getElem_cons_zero, List.setIfInBounds_toArray, List.set_cons_zero, List.set_cons_succ]
          refine anyH_named ?_
          intro w16 hW16
          have hB16 : Below w.heap.size w w16 := by rw [hW16]; exact below_al hB15 _
          have hw16 : Laid w16 := by rw [hW16]; exact hw15.alloc _
          have M16 : Mem w16 [(w15.heap.size, .cells (th (th0)) 39), (bs, .cells (th ((dU1 CS CI g fc2 gs sc))) 39), (w.heap.size + 1 + 1, .cells #[.int .i64 f0, .int .i64 f1, .int .i64 T2, .int .i64 f3, .int .i64 N2, .int .u8 f5, .string f6, .string f7, .int .i64 f8, .int .i64 f9, .string f10, .string f11, .string f12] 30), (w5.heap.size, .cells #[.string hiS, .string noS] 24), (g, .cells cf2 104), (gs, .cells cs 56), (w.heap.size + 1, .cells #[.int .i64 e0, .int .i64 e1, .int .i64 T1, .int .i64 e3, .int .i64 N1, .int .u8 e5, .string e6, .string e7, .int .i64 e8, .int .i64 e9, .string e10, .string e11, .string e12] 30), (gs2, .cells cs2 56)] := by rw [hW16]; exact N16
          replace hX := hid_then hX (below_al (Below.refl _ w15) (.cells (th (th0)) 39))
          rw [show w15.alloc (.cells (th (th0)) 39) = w16 from hW16.symm] at hX
          clear hW16 N16
          have zz16 : w15.heap.size < w16.heap.size := Mem.lt M16.1
          refine wpAnyH_ready (rs := [12]) (by decide +kernel) (by simp) (AllReadyH.cons rfl ?_ AllReadyH.nil)
          intro K hK
          rw [if_pos (by rfl)]
          refine wp_store_mid 39 _ _ rfl (w15.heap.size) 0 (th ((dU2 CS CI g3 fc3 gs2 sc2))) (by rfl) (by rfl) (there_block M16.1 (Nat.le_refl 20)) info_th (one_th _) ?_
          have N17 : Mem (w16.setCells (w15.heap.size) 0 (th ((dU2 CS CI g3 fc3 gs2 sc2))).toList) [(w15.heap.size, .cells (th ((dU2 CS CI g3 fc3 gs2 sc2))) 39), (bs, .cells (th ((dU1 CS CI g fc2 gs sc))) 39), (w.heap.size + 1 + 1, .cells #[.int .i64 f0, .int .i64 f1, .int .i64 T2, .int .i64 f3, .int .i64 N2, .int .u8 f5, .string f6, .string f7, .int .i64 f8, .int .i64 f9, .string f10, .string f11, .string f12] 30), (w5.heap.size, .cells #[.string hiS, .string noS] 24), (g, .cells cf2 104), (gs, .cells cs 56), (w.heap.size + 1, .cells #[.int .i64 e0, .int .i64 e1, .int .i64 T1, .int .i64 e3, .int .i64 N1, .int .u8 e5, .string e6, .string e7, .int .i64 e8, .int .i64 e9, .string e10, .string e11, .string e12] 30), (gs2, .cells cs2 56)] := ⟨set_th M16.1 _, (setCells_other _ 0 _ _ (by omega)).trans M16.2.1, (setCells_other _ 0 _ _ (by omega)).trans M16.2.2.1, (setCells_other _ 0 _ _ (by omega)).trans M16.2.2.2.1, (setCells_other _ 0 _ _ (by omega)).trans M16.2.2.2.2.1, (setCells_other _ 0 _ _ (by omega)).trans M16.2.2.2.2.2.1, (setCells_other _ 0 _ _ (by omega)).trans M16.2.2.2.2.2.2.1, (setCells_other _ 0 _ _ (by omega)).trans M16.2.2.2.2.2.2.2.1, trivial⟩
          refine hK.out _ _ ⟨N17.2.1, N17.2.2.1, N17.2.2.2.1, N17.2.2.2.2.1, N17.2.2.2.2.2.1, N17.2.2.2.2.2.2.1, trivial⟩ (fun _ => ?_)
          clear hK K
          try simp only [Act.put, List.getElem_toArray, List.getElem_cons_succ, List.getElem_cons_zero]
          refine anyH_named ?_
          intro w17 hW17
          have hB17 : Below w.heap.size w w17 := by rw [hW17]; exact below_setCells (B := w.heap.size) hB16 (b := w15.heap.size) (by have := hB16.size; omega) 0 _
          have hw17 : Laid w17 := hw0.below hB17
          have M17 : Mem w17 [(w15.heap.size, .cells (th ((dU2 CS CI g3 fc3 gs2 sc2))) 39), (bs, .cells (th ((dU1 CS CI g fc2 gs sc))) 39), (w.heap.size + 1 + 1, .cells #[.int .i64 f0, .int .i64 f1, .int .i64 T2, .int .i64 f3, .int .i64 N2, .int .u8 f5, .string f6, .string f7, .int .i64 f8, .int .i64 f9, .string f10, .string f11, .string f12] 30), (w5.heap.size, .cells #[.string hiS, .string noS] 24), (g, .cells cf2 104), (gs, .cells cs 56), (w.heap.size + 1, .cells #[.int .i64 e0, .int .i64 e1, .int .i64 T1, .int .i64 e3, .int .i64 N1, .int .u8 e5, .string e6, .string e7, .int .i64 e8, .int .i64 e9, .string e10, .string e11, .string e12] 30), (gs2, .cells cs2 56)] := by rw [hW17]; exact N17
          have hY := below_setCells hX.out (b := w15.heap.size) (by omega) 0 (th ((dU2 CS CI g3 fc3 gs2 sc2))).toList
          rw [show w16.setCells (w15.heap.size) 0 (th ((dU2 CS CI g3 fc3 gs2 sc2))).toList = w17 from hW17.symm] at hY
          clear hW17 N17
          refine wpAnyH_take (i := 13) (v := ?_) rfl (by decide +kernel) (by decide +kernel) (by decide +kernel) (fun _ _ _ h => h) (Or.inl ⟨by rfl, ?_⟩) ⟨M17.2.1, M17.2.2.1, M17.2.2.2.1, M17.2.2.2.2.1, M17.2.2.2.2.2.1, M17.2.2.2.2.2.2.1, trivial⟩ ?_
          rotate_left
          · intro w hSw
            clear hSw
            go_simp; try (with_reducible rfl)
          try simp only [Act.put, List.getElem_toArray, List.getElem_cons_succ, List.getElem_cons_zero, List.setIfInBounds_toArray, List.set_cons_zero, List.set_cons_succ]
          refine wpAnyH_done (by kernel_rfl) ?_ _
          have z17_0 := Mem.lt M17.1
          have z17_1 := Mem.lt M17.2.1
          have c17_2_0 := Mem.cell (v := .int .i64 f0) M17.2.2.1 0 rfl
          have c17_2_1 := Mem.cell (v := .int .i64 f1) M17.2.2.1 1 rfl
          have c17_2_2 := Mem.cell (v := .int .i64 T2) M17.2.2.1 2 rfl
          have c17_2_3 := Mem.cell (v := .int .i64 f3) M17.2.2.1 3 rfl
          have c17_2_4 := Mem.cell (v := .int .i64 N2) M17.2.2.1 4 rfl
          have c17_2_5 := Mem.cell (v := .int .u8 f5) M17.2.2.1 5 rfl
          have c17_2_6 := Mem.cell (v := .string f6) M17.2.2.1 6 rfl
          have c17_2_7 := Mem.cell (v := .string f7) M17.2.2.1 7 rfl
          have c17_2_8 := Mem.cell (v := .int .i64 f8) M17.2.2.1 8 rfl
          have c17_2_9 := Mem.cell (v := .int .i64 f9) M17.2.2.1 9 rfl
          have c17_2_10 := Mem.cell (v := .string f10) M17.2.2.1 10 rfl
          have c17_2_11 := Mem.cell (v := .string f11) M17.2.2.1 11 rfl
          have c17_2_12 := Mem.cell (v := .string f12) M17.2.2.1 12 rfl
          have z17_2 := Mem.lt M17.2.2.1
          have c17_3_0 := Mem.cell (v := .string hiS) M17.2.2.2.1 0 rfl
          have c17_3_1 := Mem.cell (v := .string noS) M17.2.2.2.1 1 rfl
          have z17_3 := Mem.lt M17.2.2.2.1
          have z17_4 := Mem.lt M17.2.2.2.2.1
          have z17_5 := Mem.lt M17.2.2.2.2.2.1
          have c17_6_0 := Mem.cell (v := .int .i64 e0) M17.2.2.2.2.2.2.1 0 rfl
          have c17_6_1 := Mem.cell (v := .int .i64 e1) M17.2.2.2.2.2.2.1 1 rfl
          have c17_6_2 := Mem.cell (v := .int .i64 T1) M17.2.2.2.2.2.2.1 2 rfl
          have c17_6_3 := Mem.cell (v := .int .i64 e3) M17.2.2.2.2.2.2.1 3 rfl
          have c17_6_4 := Mem.cell (v := .int .i64 N1) M17.2.2.2.2.2.2.1 4 rfl
          have c17_6_5 := Mem.cell (v := .int .u8 e5) M17.2.2.2.2.2.2.1 5 rfl
          have c17_6_6 := Mem.cell (v := .string e6) M17.2.2.2.2.2.2.1 6 rfl
          have c17_6_7 := Mem.cell (v := .string e7) M17.2.2.2.2.2.2.1 7 rfl
          have c17_6_8 := Mem.cell (v := .int .i64 e8) M17.2.2.2.2.2.2.1 8 rfl
          have c17_6_9 := Mem.cell (v := .int .i64 e9) M17.2.2.2.2.2.2.1 9 rfl
          have c17_6_10 := Mem.cell (v := .string e10) M17.2.2.2.2.2.2.1 10 rfl
          have c17_6_11 := Mem.cell (v := .string e11) M17.2.2.2.2.2.2.1 11 rfl
          have c17_6_12 := Mem.cell (v := .string e12) M17.2.2.2.2.2.2.1 12 rfl
          have z17_6 := Mem.lt M17.2.2.2.2.2.2.1
          have z17_7 := Mem.lt M17.2.2.2.2.2.2.2.1
          go_wp2_with fail
          go_meet
          exact ⟨_, g3, fc3, gs2, cs2, sc2, rfl, rfl, hY, M17.1, M17.2.2.2.2.2.2.2.1, HGT3, HST3, by omega, by omega⟩
        · skip
          intro K hK
          rw [if_pos (by rfl)]
          go_simp
          have N15 : Mem (w14.alloc (.cells (th (th0)) 39)) [(w14.heap.size, .cells (th (th0)) 39), (bs, .cells (th ((dU1 CS CI g fc2 gs sc))) 39), (w.heap.size + 1 + 1, .cells #[.int .i64 f0, .int .i64 f1, .int .i64 T2, .int .i64 f3, .int .i64 N2, .int .u8 f5, .string f6, .string f7, .int .i64 f8, .int .i64 f9, .string f10, .string f11, .string f12] 30), (w5.heap.size, .cells #[.string hiS, .string noS] 24), (g, .cells cf2 104), (gs, .cells cs 56), (w.heap.size + 1, .cells #[.int .i64 e0, .int .i64 e1, .int .i64 T1, .int .i64 e3, .int .i64 N1, .int .u8 e5, .string e6, .string e7, .int .i64 e8, .int .i64 e9, .string e10, .string e11, .string e12] 30)] := (M14).new' (w14.heap.size) (by rfl) (.cells (th (th0)) 39)
          refine hK.out _ _ ⟨N15.2.1, N15.2.2.1, N15.2.2.2.1, N15.2.2.2.2.1, N15.2.2.2.2.2.1, N15.2.2.2.2.2.2.1, trivial⟩ (fun _ => ?_)
          clear hK K
          try simp only [Act.put, List.getElem_toArray, List.getElem_cons_succ, List.getElem_cons_zero, List.setIfInBounds_toArray, List.set_cons_zero, List.set_cons_succ]
          refine anyH_named ?_
          intro w15 hW15
          have hB15 : Below w.heap.size w w15 := by rw [hW15]; exact below_al hB14 _
          have hw15 : Laid w15 := by rw [hW15]; exact hw14.alloc _
          have M15 : Mem w15 [(w14.heap.size, .cells (th (th0)) 39), (bs, .cells (th ((dU1 CS CI g fc2 gs sc))) 39), (w.heap.size + 1 + 1, .cells #[.int .i64 f0, .int .i64 f1, .int .i64 T2, .int .i64 f3, .int .i64 N2, .int .u8 f5, .string f6, .string f7, .int .i64 f8, .int .i64 f9, .string f10, .string f11, .string f12] 30), (w5.heap.size, .cells #[.string hiS, .string noS] 24), (g, .cells cf2 104), (gs, .cells cs 56), (w.heap.size + 1, .cells #[.int .i64 e0, .int .i64 e1, .int .i64 T1, .int .i64 e3, .int .i64 N1, .int .u8 e5, .string e6, .string e7, .int .i64 e8, .int .i64 e9, .string e10, .string e11, .string e12] 30)] := by rw [hW15]; exact N15
          replace hX := hid_then hX (below_al (Below.refl _ w14) (.cells (th (th0)) 39))
          rw [show w14.alloc (.cells (th (th0)) 39) = w15 from hW15.symm] at hX
          clear hW15 N15
          have zz15 : w14.heap.size < w15.heap.size := Mem.lt M15.1
          refine wpAnyH_ready (rs := [7]) (by decide +kernel) (by simp) (AllReadyH.cons rfl ?_ AllReadyH.nil)
          intro K hK
          rw [if_pos (by rfl)]
          go_simp
          go_at_call 9
          refine (due_enter2 CS CI B5.out B6.out g fc2 gs sc cf2 cs HGT.out.2.1 HGT.out.2.2.1 HGT.out.2.2.2.1 HGT.out.2.2.2.2 T2 N2 U2 U1 HT2.out.1 HT2.out.2 eU2 _ hw15 M15.2.2.2.2.1 HF2.out M15.2.2.2.2.2.1 HST.out).mono ?_
          rintro e w16 ⟨g3, fc3, gs2, cs2, sc2, rfl, hf1, hf2, hs, hsc, hst, hs1, hs2, hb16⟩
          have hB16 := below_then hB15 hb16
          have hw16 := hw15.below hb16
          have M16 := M15.below hb16
          replace hX := hid_then hX hb16
          have zz16 := hb16.size
          clear hb16
          refine hK.out _ _ ⟨M16.2.1, M16.2.2.1, M16.2.2.2.1, M16.2.2.2.2.1, M16.2.2.2.2.2.1, M16.2.2.2.2.2.2.1, trivial⟩ (fun _ => ?_)
          clear hK K
          try simp only [Act.put, List.getElem_toArray, List.getElem_cons_succ, List.getElem_cons_zero, List.setIfInBounds_toArray, List.set_cons_zero, List.set_cons_succ]
          have HGT3 := Lib.hid (And.intro hf1 (And.intro hf2 (And.intro hs1 hs2)))
          have HST3 := Lib.hid hst
          clear hst hf1 hf2 hs1 hs2
          replace M16 : Mem w16 [(w14.heap.size, .cells (th (th0)) 39), (bs, .cells (th ((dU1 CS CI g fc2 gs sc))) 39), (w.heap.size + 1 + 1, .cells #[.int .i64 f0, .int .i64 f1, .int .i64 T2, .int .i64 f3, .int .i64 N2, .int .u8 f5, .string f6, .string f7, .int .i64 f8, .int .i64 f9, .string f10, .string f11, .string f12] 30), (w5.heap.size, .cells #[.string hiS, .string noS] 24), (g, .cells cf2 104), (gs, .cells cs 56), (w.heap.size + 1, .cells #[.int .i64 e0, .int .i64 e1, .int .i64 T1, .int .i64 e3, .int .i64 N1, .int .u8 e5, .string e6, .string e7, .int .i64 e8, .int .i64 e9, .string e10, .string e11, .string e12] 30), (gs2, .cells cs2 56)] := ⟨M16.1, M16.2.1, M16.2.2.1, M16.2.2.2.1, M16.2.2.2.2.1, M16.2.2.2.2.2.1, M16.2.2.2.2.2.2.1, hsc, trivial⟩
          have ygs2 := Mem.lt M16.2.2.2.2.2.2.2.1
          refine wpAnyH_take (i := 8) (v := ?_) rfl (by decide +kernel) (by decide +kernel) (by decide +kernel) (fun _ _ _ h => h) (Or.inl ⟨by rfl, ?_⟩) ⟨M16.2.1, M16.2.2.1, M16.2.2.2.1, M16.2.2.2.2.1, M16.2.2.2.2.2.1, M16.2.2.2.2.2.2.1, trivial⟩ ?_
          rotate_left
          · intro w hSw
            clear hSw
            go_simp; try (with_reducible rfl)
          try simp only [Act.put, List.getElem_toArray, List.getElem_cons_succ, List.getElem_cons_zero, List.setIfInBounds_toArray, List.set_cons_zero, List.set_cons_succ]
          refine wpAnyH_take (i := 9) (v := ?_) rfl (by decide +kernel) (by decide +kernel) (by decide +kernel) (fun _ _ _ h => h) (Or.inl ⟨by rfl, ?_⟩) ⟨M16.2.1, M16.2.2.1, M16.2.2.2.1, M16.2.2.2.2.1, M16.2.2.2.2.2.1, M16.2.2.2.2.2.2.1, trivial⟩ ?_
          rotate_left
          · intro w hSw
            clear hSw
            go_simp; try (with_reducible rfl)
          try simp only [Act.put, List.getElem_toArray, List.getElem_cons_succ, List.getElem_cons_zero, List.setIfInBounds_toArray, List.set_cons_zero, List.set_cons_succ]
          refine wpAnyH_take (i := 10) (v := ?_) rfl (by decide +kernel) (by decide +kernel) (by decide +kernel) (fun _ _ _ h => h) (Or.inl ⟨by rfl, ?_⟩) ⟨M16.2.1, M16.2.2.1, M16.2.2.2.1, M16.2.2.2.2.1, M16.2.2.2.2.2.1, M16.2.2.2.2.2.2.1, trivial⟩ ?_
          rotate_left
          · intro w hSw
            clear hSw
            go_simp; try (with_reducible rfl)
          try simp only [Act.put, List.getElem_toArray, List.getElem_cons_succ, List.getElem_cons_zero, List.setIfInBounds_toArray, List.set_cons_zero, List.set_cons_succ]
          refine wpAnyH_ready (rs := [12]) (by decide +kernel) (by simp) (AllReadyH.cons rfl ?_ AllReadyH.nil)
          intro K hK
          rw [if_pos (by rfl)]
          refine wp_store_mid 39 _ _ rfl (w14.heap.size) 0 (th ((dU2 CS CI g3 fc3 gs2 sc2))) (by rfl) (by rfl) (there_block M16.1 (Nat.le_refl 20)) info_th (one_th _) ?_
          have N17 : Mem (w16.setCells (w14.heap.size) 0 (th ((dU2 CS CI g3 fc3 gs2 sc2))).toList) [(w14.heap.size, .cells (th ((dU2 CS CI g3 fc3 gs2 sc2))) 39), (bs, .cells (th ((dU1 CS CI g fc2 gs sc))) 39), (w.heap.size + 1 + 1, .cells #[.int .i64 f0, .int .i64 f1, .int .i64 T2, .int .i64 f3, .int .i64 N2, .int .u8 f5, .string f6, .string f7, .int .i64 f8, .int .i64 f9, .string f10, .string f11, .string f12] 30), (w5.heap.size, .cells #[.string hiS, .string noS] 24), (g, .cells cf2 104), (gs, .cells cs 56), (w.heap.size + 1, .cells #[.int .i64 e0, .int .i64 e1, .int .i64 T1, .int .i64 e3, .int .i64 N1, .int .u8 e5, .string e6, .string e7, .int .i64 e8, .int .i64 e9, .string e10, .string e11, .string e12] 30), (gs2, .cells cs2 56)] := ⟨set_th M16.1 _, (setCells_other _ 0 _ _ (by omega)).trans M16.2.1, (setCells_other _ 0 _ _ (by omega)).trans M16.2.2.1, (setCells_other _ 0 _ _ (by omega)).trans M16.2.2.2.1, (setCells_other _ 0 _ _ (by omega)).trans M16.2.2.2.2.1, (setCells_other _ 0 _ _ (by omega)).trans M16.2.2.2.2.2.1, (setCells_other _ 0 _ _ (by omega)).trans M16.2.2.2.2.2.2.1, (setCells_other _ 0 _ _ (by omega)).trans M16.2.2.2.2.2.2.2.1, trivial⟩
          refine hK.out _ _ ⟨N17.2.1, N17.2.2.1, N17.2.2.2.1, N17.2.2.2.2.1, N17.2.2.2.2.2.1, N17.2.2.2.2.2.2.1, trivial⟩ (fun _ => ?_)
          clear hK K
          try simp only [Act.put, List.getElem_toArray, List.getElem_cons_succ, List.getElem_cons_zero]
          refine anyH_named ?_
          intro w17 hW17
          have hB17 : Below w.heap.size w w17 := by rw [hW17]; exact below_setCells (B := w.heap.size) hB16 (b := w14.heap.size) (by have := hB16.size; omega) 0 _
          have hw17 : Laid w17 := hw0.below hB17
          have M17 : Mem w17 [(w14.heap.size, .cells (th ((dU2 CS CI g3 fc3 gs2 sc2))) 39), (bs, .cells (th ((dU1 CS CI g fc2 gs sc))) 39), (w.heap.size + 1 + 1, .cells #[.int .i64 f0, .int .i64 f1, .int .i64 T2, .int .i64 f3, .int .i64 N2, .int .u8 f5, .string f6, .string f7, .int .i64 f8, .int .i64 f9, .string f10, .string f11, .string f12] 30), (w5.heap.size, .cells #[.string hiS, .string noS] 24), (g, .cells cf2 104), (gs, .cells cs 56), (w.heap.size + 1, .cells #[.int .i64 e0, .int .i64 e1, .int .i64 T1, .int .i64 e3, .int .i64 N1, .int .u8 e5, .string e6, .string e7, .int .i64 e8, .int .i64 e9, .string e10, .string e11, .string e12] 30), (gs2, .cells cs2 56)] := by rw [hW17]; exact N17
          have hY := below_setCells hX.out (b := w14.heap.size) (by omega) 0 (th ((dU2 CS CI g3 fc3 gs2 sc2))).toList
          rw [show w16.setCells (w14.heap.size) 0 (th ((dU2 CS CI g3 fc3 gs2 sc2))).toList = w17 from hW17.symm] at hY
          clear hW17 N17
          refine wpAnyH_take (i := 13) (v := ?_) rfl (by decide +kernel) (by decide +kernel) (by decide +kernel) (fun _ _ _ h => h) (Or.inl ⟨by rfl, ?_⟩) ⟨M17.2.1, M17.2.2.1, M17.2.2.2.1, M17.2.2.2.2.1, M17.2.2.2.2.2.1, M17.2.2.2.2.2.2.1, trivial⟩ ?_
          rotate_left
          · intro w hSw
            clear hSw
            go_simp; try (with_reducible rfl)
          try simp only [Act.put, List.getElem_toArray, List.getElem_cons_succ, List.getElem_cons_zero, List.setIfInBounds_toArray, List.set_cons_zero, List.set_cons_succ]
          refine wpAnyH_done (by kernel_rfl) ?_ _
          have z17_0 := Mem.lt M17.1
          have z17_1 := Mem.lt M17.2.1
          have c17_2_0 := Mem.cell (v := .int .i64 f0) M17.2.2.1 0 rfl
          have c17_2_1 := Mem.cell (v := .int .i64 f1) M17.2.2.1 1 rfl
          have c17_2_2 := Mem.cell (v := .int .i64 T2) M17.2.2.1 2 rfl
          have c17_2_3 := Mem.cell (v := .int .i64 f3) M17.2.2.1 3 rfl
          have c17_2_4 := Mem.cell (v := .int .i64 N2) M17.2.2.1 4 rfl
          have c17_2_5 := Mem.cell (v := .int .u8 f5) M17.2.2.1 5 rfl
          have c17_2_6 := Mem.cell (v := .string f6) M17.2.2.1 6 rfl
          have c17_2_7 := Mem.cell (v := .string f7) M17.2.2.1 7 rfl
          have c17_2_8 := Mem.cell (v := .int .i64 f8) M17.2.2.1 8 rfl
          have c17_2_9 := Mem.cell (v := .int .i64 f9) M17.2.2.1 9 rfl
          have c17_2_10 := Mem.cell (v := .string f10) M17.2.2.1 10 rfl
          have c17_2_11 := Mem.cell (v := .string f11) M17.2.2.1 11 rfl
          have c17_2_12 := Mem.cell (v := .string f12) M17.2.2.1 12 rfl
          have z17_2 := Mem.lt M17.2.2.1
          have c17_3_0 := Mem.cell (v := .string hiS) M17.2.2.2.1 0 rfl
          have c17_3_1 := Mem.cell (v := .string noS) M17.2.2.2.1 1 rfl
          have z17_3 := Mem.lt M17.2.2.2.1
          have z17_4 := Mem.lt M17.2.2.2.2.1
          have z17_5 := Mem.lt M17.2.2.2.2.2.1
          have c17_6_0 := Mem.cell (v := .int .i64 e0) M17.2.2.2.2.2.2.1 0 rfl
          have c17_6_1 := Mem.cell (v := .int .i64 e1) M17.2.2.2.2.2.2.1 1 rfl
          have c17_6_2 := Mem.cell (v := .int .i64 T1) M17.2.2.2.2.2.2.1 2 rfl
          have c17_6_3 := Mem.cell (v := .int .i64 e3) M17.2.2.2.2.2.2.1 3 rfl
          have c17_6_4 := Mem.cell (v := .int .i64 N1) M17.2.2.2.2.2.2.1 4 rfl
          have c17_6_5 := Mem.cell (v := .int .u8 e5) M17.2.2.2.2.2.2.1 5 rfl
          have c17_6_6 := Mem.cell (v := .string e6) M17.2.2.2.2.2.2.1 6 rfl
          have c17_6_7 := Mem.cell (v := .string e7) M17.2.2.2.2.2.2.1 7 rfl
          have c17_6_8 := Mem.cell (v := .int .i64 e8) M17.2.2.2.2.2.2.1 8 rfl
          have c17_6_9 := Mem.cell (v := .int .i64 e9) M17.2.2.2.2.2.2.1 9 rfl
          have c17_6_10 := Mem.cell (v := .string e10) M17.2.2.2.2.2.2.1 10 rfl
          have c17_6_11 := Mem.cell (v := .string e11) M17.2.2.2.2.2.2.1 11 rfl
          have c17_6_12 := Mem.cell (v := .string e12) M17.2.2.2.2.2.2.1 12 rfl
          have z17_6 := Mem.lt M17.2.2.2.2.2.2.1
          have z17_7 := Mem.lt M17.2.2.2.2.2.2.2.1
          go_wp2_with fail
          go_meet
          exact ⟨_, g3, fc3, gs2, cs2, sc2, rfl, rfl, hY, M17.1, M17.2.2.2.2.2.2.2.1, HGT3, HST3, by omega, by omega⟩
      · skip
        intro K hK
        rw [if_pos (by rfl)]
        go_simp
        have N14 : Mem (w13.alloc (.cells (th (th0)) 39)) [(w13.heap.size, .cells (th (th0)) 39), (bs, .cells (th ((dU1 CS CI g fc2 gs sc))) 39), (w.heap.size + 1 + 1, .cells #[.int .i64 f0, .int .i64 f1, .int .i64 T2, .int .i64 f3, .int .i64 N2, .int .u8 f5, .string f6, .string f7, .int .i64 f8, .int .i64 f9, .string f10, .string f11, .string f12] 30), (w5.heap.size, .cells #[.string hiS, .string noS] 24), (g, .cells cf2 104), (gs, .cells cs 56), (w.heap.size + 1, .cells #[.int .i64 e0, .int .i64 e1, .int .i64 T1, .int .i64 e3, .int .i64 N1, .int .u8 e5, .string e6, .string e7, .int .i64 e8, .int .i64 e9, .string e10, .string e11, .string e12] 30)] := (M13).new' (w13.heap.size) (by rfl) (.cells (th (th0)) 39)
        refine hK.out _ _ ⟨N14.2.1, N14.2.2.1, N14.2.2.2.1, N14.2.2.2.2.1, N14.2.2.2.2.2.1, N14.2.2.2.2.2.2.1, trivial⟩ (fun _ => ?_)
        clear hK K
        try simp only [Act.put, List.getElem_toArray, List.getElem_cons_succ, List.getElem_cons_zero, List.setIfInBounds_toArray, List.set_cons_zero, List.set_cons_succ]
        refine anyH_named ?_
        intro w14 hW14
        have hB14 : Below w.heap.size w w14 := by rw [hW14]; exact below_al hB13 _
        have hw14 : Laid w14 := by rw [hW14]; exact hw13.alloc _
        have M14 : Mem w14 [(w13.heap.size, .cells (th (th0)) 39), (bs, .cells (th ((dU1 CS CI g fc2 gs sc))) 39), (w.heap.size + 1 + 1, .cells #[.int .i64 f0, .int .i64 f1, .int .i64 T2, .int .i64 f3, .int .i64 N2, .int .u8 f5, .string f6, .string f7, .int .i64 f8, .int .i64 f9, .string f10, .string f11, .string f12] 30), (w5.heap.size, .cells #[.string hiS, .string noS] 24), (g, .cells cf2 104), (gs, .cells cs 56), (w.heap.size + 1, .cells #[.int .i64 e0, .int .i64 e1, .int .i64 T1, .int .i64 e3, .int .i64 N1, .int .u8 e5, .string e6, .string e7, .int .i64 e8, .int .i64 e9, .string e10, .string e11, .string e12] 30)] := by rw [hW14]; exact N14
        replace hX := hid_then hX (below_al (Below.refl _ w13) (.cells (th (th0)) 39))
        rw [show w13.alloc (.cells (th (th0)) 39) = w14 from hW14.symm] at hX
        clear hW14 N14
        have zz14 : w13.heap.size < w14.heap.size := Mem.lt M14.1
        refine wpAnyH_ready (rs := [1]) (by decide +kernel) (by simp) (AllReadyH.cons rfl ?_ AllReadyH.nil)
        intro K hK
        rw [if_pos (by rfl)]
        go_simp
        go_at_call 10
        refine (number_any 1 _).mono ?_
        rintro e w15 ⟨rfl, hb15⟩
        have hB15 := below_then hB14 hb15
        have hw15 := hw14.below hb15
        have M15 := M14.below hb15
        replace hX := hid_then hX hb15
        have zz15 := hb15.size
        clear hb15
        refine hK.out _ _ ⟨M15.2.1, M15.2.2.1, M15.2.2.2.1, M15.2.2.2.2.1, M15.2.2.2.2.2.1, M15.2.2.2.2.2.2.1, trivial⟩ (fun _ => ?_)
        clear hK K
        try simp only [Act.put, List.getElem_toArray, List.getElem_cons_succ, List.getElem_cons_zero, List.setIfInBounds_toArray, List.set_cons_zero, List.set_cons_succ]
        refine wpAnyH_ready (rs := [7]) (by decide +kernel) (by simp) (AllReadyH.cons rfl ?_ AllReadyH.nil)
        intro K hK
        rw [if_pos (by rfl)]
        go_simp
        go_at_call 9
        refine (due_enter2 CS CI B5.out B6.out g fc2 gs sc cf2 cs HGT.out.2.1 HGT.out.2.2.1 HGT.out.2.2.2.1 HGT.out.2.2.2.2 T2 N2 U2 U1 HT2.out.1 HT2.out.2 eU2 _ hw15 M15.2.2.2.2.1 HF2.out M15.2.2.2.2.2.1 HST.out).mono ?_
        rintro e w16 ⟨g3, fc3, gs2, cs2, sc2, rfl, hf1, hf2, hs, hsc, hst, hs1, hs2, hb16⟩
        have hB16 := below_then hB15 hb16
        have hw16 := hw15.below hb16
        have M16 := M15.below hb16
        replace hX := hid_then hX hb16
        have zz16 := hb16.size
        clear hb16
        refine hK.out _ _ ⟨M16.2.1, M16.2.2.1, M16.2.2.2.1, M16.2.2.2.2.1, M16.2.2.2.2.2.1, M16.2.2.2.2.2.2.1, trivial⟩ (fun _ => ?_)
        clear hK K
        try simp only [Act.put, List.getElem_toArray, List.getElem_cons_succ, List.getElem_cons_zero, List.setIfInBounds_toArray, List.set_cons_zero, List.set_cons_succ]
        have HGT3 := Lib.hid (And.intro hf1 (And.intro hf2 (And.intro hs1 hs2)))
        have HST3 := Lib.hid hst
        clear hst hf1 hf2 hs1 hs2
        replace M16 : Mem w16 [(w13.heap.size, .cells (th (th0)) 39), (bs, .cells (th ((dU1 CS CI g fc2 gs sc))) 39), (w.heap.size + 1 + 1, .cells #[.int .i64 f0, .int .i64 f1, .int .i64 T2, .int .i64 f3, .int .i64 N2, .int .u8 f5, .string f6, .string f7, .int .i64 f8, .int .i64 f9, .string f10, .string f11, .string f12] 30), (w5.heap.size, .cells #[.string hiS, .string noS] 24), (g, .cells cf2 104), (gs, .cells cs 56), (w.heap.size + 1, .cells #[.int .i64 e0, .int .i64 e1, .int .i64 T1, .int .i64 e3, .int .i64 N1, .int .u8 e5, .string e6, .string e7, .int .i64 e8, .int .i64 e9, .string e10, .string e11, .string e12] 30), (gs2, .cells cs2 56)] := ⟨M16.1, M16.2.1, M16.2.2.1, M16.2.2.2.1, M16.2.2.2.2.1, M16.2.2.2.2.2.1, M16.2.2.2.2.2.2.1, hsc, trivial⟩
        have ygs2 := Mem.lt M16.2.2.2.2.2.2.2.1
        refine wpAnyH_take (i := 8) (v := ?_) rfl (by decide +kernel) (by decide +kernel) (by decide +kernel) (fun _ _ _ h => h) (Or.inl ⟨by rfl, ?_⟩) ⟨M16.2.1, M16.2.2.1, M16.2.2.2.1, M16.2.2.2.2.1, M16.2.2.2.2.2.1, M16.2.2.2.2.2.2.1, trivial⟩ ?_
        rotate_left
        · intro w hSw
          clear hSw
          go_simp; try (with_reducible rfl)
        try simp only [Act.put, List.getElem_toArray, List.getElem_cons_succ, List.getElem_cons_zero, List.setIfInBounds_toArray, List.set_cons_zero, List.set_cons_succ]
        refine wpAnyH_take (i := 9) (v := ?_) rfl (by decide +kernel) (by decide +kernel) (by decide +kernel) (fun _ _ _ h => h) (Or.inl ⟨by rfl, ?_⟩) ⟨M16.2.1, M16.2.2.1, M16.2.2.2.1, M16.2.2.2.2.1, M16.2.2.2.2.2.1, M16.2.2.2.2.2.2.1, trivial⟩ ?_
        rotate_left
        · intro w hSw
          clear hSw
          go_simp; try (with_reducible rfl)
        try simp only [Act.put, List.getElem_toArray, List.getElem_cons_succ, List.getElem_cons_zero, List.setIfInBounds_toArray, List.set_cons_zero, List.set_cons_succ]
        refine wpAnyH_take (i := 10) (v := ?_) rfl (by decide +kernel) (by decide +kernel) (by decide +kernel) (fun _ _ _ h => h) (Or.inl ⟨by rfl, ?_⟩) ⟨M16.2.1, M16.2.2.1, M16.2.2.2.1, M16.2.2.2.2.1, M16.2.2.2.2.2.1, M16.2.2.2.2.2.2.1, trivial⟩ ?_
        rotate_left
        · intro w hSw
          clear hSw
          go_simp; try (with_reducible rfl)
        try simp only [Act.put, List.getElem_toArray, List.getElem_cons_succ, List.getElem_cons_zero, List.setIfInBounds_toArray, List.set_cons_zero, List.set_cons_succ]
        refine wpAnyH_ready (rs := [12]) (by decide +kernel) (by simp) (AllReadyH.cons rfl ?_ AllReadyH.nil)
        intro K hK
        rw [if_pos (by rfl)]
        refine wp_store_mid 39 _ _ rfl (w13.heap.size) 0 (th ((dU2 CS CI g3 fc3 gs2 sc2))) (by rfl) (by rfl) (there_block M16.1 (Nat.le_refl 20)) info_th (one_th _) ?_
        have N17 : Mem (w16.setCells (w13.heap.size) 0 (th ((dU2 CS CI g3 fc3 gs2 sc2))).toList) [(w13.heap.size, .cells (th ((dU2 CS CI g3 fc3 gs2 sc2))) 39), (bs, .cells (th ((dU1 CS CI g fc2 gs sc))) 39), (w.heap.size + 1 + 1, .cells #[.int .i64 f0, .int .i64 f1, .int .i64 T2, .int .i64 f3, .int .i64 N2, .int .u8 f5, .string f6, .string f7, .int .i64 f8, .int .i64 f9, .string f10, .string f11, .string f12] 30), (w5.heap.size, .cells #[.string hiS, .string noS] 24), (g, .cells cf2 104), (gs, .cells cs 56), (w.heap.size + 1, .cells #[.int .i64 e0, .int .i64 e1, .int .i64 T1, .int .i64 e3, .int .i64 N1, .int .u8 e5, .string e6, .string e7, .int .i64 e8, .int .i64 e9, .string e10, .string e11, .string e12] 30), (gs2, .cells cs2 56)] := ⟨set_th M16.1 _, (setCells_other _ 0 _ _ (by omega)).trans M16.2.1, (setCells_other _ 0 _ _ (by omega)).trans M16.2.2.1, (setCells_other _ 0 _ _ (by omega)).trans M16.2.2.2.1, (setCells_other _ 0 _ _ (by omega)).trans M16.2.2.2.2.1, (setCells_other _ 0 _ _ (by omega)).trans M16.2.2.2.2.2.1, (setCells_other _ 0 _ _ (by omega)).trans M16.2.2.2.2.2.2.1, (setCells_other _ 0 _ _ (by omega)).trans M16.2.2.2.2.2.2.2.1, trivial⟩
        refine hK.out _ _ ⟨N17.2.1, N17.2.2.1, N17.2.2.2.1, N17.2.2.2.2.1, N17.2.2.2.2.2.1, N17.2.2.2.2.2.2.1, trivial⟩ (fun _ => ?_)
        clear hK K
        try simp only [Act.put, List.getElem_toArray, List.getElem_cons_succ, List.getElem_cons_zero]
        refine anyH_named ?_
        intro w17 hW17
        have hB17 : Below w.heap.size w w17 := by rw [hW17]; exact below_setCells (B := w.heap.size) hB16 (b := w13.heap.size) (by have := hB16.size; omega) 0 _
        have hw17 : Laid w17 := hw0.below hB17
        have M17 : Mem w17 [(w13.heap.size, .cells (th ((dU2 CS CI g3 fc3 gs2 sc2))) 39), (bs, .cells (th ((dU1 CS CI g fc2 gs sc))) 39), (w.heap.size + 1 + 1, .cells #[.int .i64 f0, .int .i64 f1, .int .i64 T2, .int .i64 f3, .int .i64 N2, .int .u8 f5, .string f6, .string f7, .int .i64 f8, .int .i64 f9, .string f10, .string f11, .string f12] 30), (w5.heap.size, .cells #[.string hiS, .string noS] 24), (g, .cells cf2 104), (gs, .cells cs 56), (w.heap.size + 1, .cells #[.int .i64 e0, .int .i64 e1, .int .i64 T1, .int .i64 e3, .int .i64 N1, .int .u8 e5, .string e6, .string e7, .int .i64 e8, .int .i64 e9, .string e10, .string e11, .string e12] 30), (gs2, .cells cs2 56)] := by rw [hW17]; exact N17
        have hY := below_setCells hX.out (b := w13.heap.size) (by omega) 0 (th ((dU2 CS CI g3 fc3 gs2 sc2))).toList
        rw [show w16.setCells (w13.heap.size) 0 (th ((dU2 CS CI g3 fc3 gs2 sc2))).toList = w17 from hW17.symm] at hY
        clear hW17 N17
        refine wpAnyH_take (i := 13) (v := ?_) rfl (by decide +kernel) (by decide +kernel) (by decide +kernel) (fun _ _ _ h => h) (Or.inl ⟨by rfl, ?_⟩) ⟨M17.2.1, M17.2.2.1, M17.2.2.2.1, M17.2.2.2.2.1, M17.2.2.2.2.2.1, M17.2.2.2.2.2.2.1, trivial⟩ ?_
        rotate_left
        · intro w hSw
          clear hSw
          go_simp; try (with_reducible rfl)
        try simp only [Act.put, List.getElem_toArray, List.getElem_cons_succ, List.getElem_cons_zero, List.setIfInBounds_toArray, List.set_cons_zero, List.set_cons_succ]
        refine wpAnyH_done (by kernel_rfl) ?_ _
        have z17_0 := Mem.lt M17.1
        have z17_1 := Mem.lt M17.2.1
        have c17_2_0 := Mem.cell (v := .int .i64 f0) M17.2.2.1 0 rfl
        have c17_2_1 := Mem.cell (v := .int .i64 f1) M17.2.2.1 1 rfl
        have c17_2_2 := Mem.cell (v := .int .i64 T2) M17.2.2.1 2 rfl
        have c17_2_3 := Mem.cell (v := .int .i64 f3) M17.2.2.1 3 rfl
        have c17_2_4 := Mem.cell (v := .int .i64 N2) M17.2.2.1 4 rfl
        have c17_2_5 := Mem.cell (v := .int .u8 f5) M17.2.2.1 5 rfl
        have c17_2_6 := Mem.cell (v := .string f6) M17.2.2.1 6 rfl
        have c17_2_7 := Mem.cell (v := .string f7) M17.2.2.1 7 rfl
        have c17_2_8 := Mem.cell (v := .int .i64 f8) M17.2.2.1 8 rfl
        have c17_2_9 := Mem.cell (v := .int .i64 f9) M17.2.2.1 9 rfl
        have c17_2_10 := Mem.cell (v := .string f10) M17.2.2.1 10 rfl
        have c17_2_11 := Mem.cell (v := .string f11) M17.2.2.1 11 rfl
        have c17_2_12 := Mem.cell (v := .string f12) M17.2.2.1 12 rfl
        have z17_2 := Mem.lt M17.2.2.1
        have c17_3_0 := Mem.cell (v := .string hiS) M17.2.2.2.1 0 rfl
        have c17_3_1 := Mem.cell (v := .string noS) M17.2.2.2.1 1 rfl
        have z17_3 := Mem.lt M17.2.2.2.1
        have z17_4 := Mem.lt M17.2.2.2.2.1
        have z17_5 := Mem.lt M17.2.2.2.2.2.1
        have c17_6_0 := Mem.cell (v := .int .i64 e0) M17.2.2.2.2.2.2.1 0 rfl
        have c17_6_1 := Mem.cell (v := .int .i64 e1) M17.2.2.2.2.2.2.1 1 rfl
        have c17_6_2 := Mem.cell (v := .int .i64 T1) M17.2.2.2.2.2.2.1 2 rfl
        have c17_6_3 := Mem.cell (v := .int .i64 e3) M17.2.2.2.2.2.2.1 3 rfl
        have c17_6_4 := Mem.cell (v := .int .i64 N1) M17.2.2.2.2.2.2.1 4 rfl
        have c17_6_5 := Mem.cell (v := .int .u8 e5) M17.2.2.2.2.2.2.1 5 rfl
        have c17_6_6 := Mem.cell (v := .string e6) M17.2.2.2.2.2.2.1 6 rfl
        have c17_6_7 := Mem.cell (v := .string e7) M17.2.2.2.2.2.2.1 7 rfl
        have c17_6_8 := Mem.cell (v := .int .i64 e8) M17.2.2.2.2.2.2.1 8 rfl
        have c17_6_9 := Mem.cell (v := .int .i64 e9) M17.2.2.2.2.2.2.1 9 rfl
        have c17_6_10 := Mem.cell (v := .string e10) M17.2.2.2.2.2.2.1 10 rfl
        have c17_6_11 := Mem.cell (v := .string e11) M17.2.2.2.2.2.2.1 11 rfl
        have c17_6_12 := Mem.cell (v := .string e12) M17.2.2.2.2.2.2.1 12 rfl
        have z17_6 := Mem.lt M17.2.2.2.2.2.2.1
        have z17_7 := Mem.lt M17.2.2.2.2.2.2.2.1
        go_wp2_with fail
        go_meet
        exact ⟨_, g3, fc3, gs2, cs2, sc2, rfl, rfl, hY, M17.1, M17.2.2.2.2.2.2.2.1, HGT3, HST3, by omega, by omega⟩
    case rest =>
      obtain ⟨bu, g3, fc3, gs2, cs2, sc2, rfl, rfl, hbU, hbu, hsc2, HG3, HST3, q4, q5⟩ := hcut
      obtain ⟨w13, rfl⟩ : ∃ x, x = wc := ⟨_, rfl⟩
      have hB13 := below_then hB12 hbU
      have hw13 := hw12.below hbU
      have M13 : Mem w13 [(bu, .cells (th ((dU2 CS CI g3 fc3 gs2 sc2))) 39), (bs, .cells (th ((dU1 CS CI g fc2 gs sc))) 39), (w.heap.size + 1 + 1, .cells #[.int .i64 f0, .int .i64 f1, .int .i64 T2, .int .i64 f3, .int .i64 N2, .int .u8 f5, .string f6, .string f7, .int .i64 f8, .int .i64 f9, .string f10, .string f11, .string f12] 30), (w5.heap.size, .cells #[.string hiS, .string noS] 24), (g, .cells cf2 104), (gs, .cells cs 56), (w.heap.size + 1, .cells #[.int .i64 e0, .int .i64 e1, .int .i64 T1, .int .i64 e3, .int .i64 N1, .int .u8 e5, .string e6, .string e7, .int .i64 e8, .int .i64 e9, .string e10, .string e11, .string e12] 30)] := ⟨hbu, M12.below hbU⟩
      clear z12_0 c12_1_0 c12_1_1 c12_1_2 c12_1_3 c12_1_4 c12_1_5 c12_1_6 c12_1_7 c12_1_8 c12_1_9 c12_1_10 c12_1_11 c12_1_12 z12_1 c12_2_0 c12_2_1 z12_2 z12_3 z12_4 c12_5_0 c12_5_1 c12_5_2 c12_5_3 c12_5_4 c12_5_5 c12_5_6 c12_5_7 c12_5_8 c12_5_9 c12_5_10 c12_5_11 c12_5_12 z12_5
      have z13_0 := Mem.lt M13.1
      have z13_1 := Mem.lt M13.2.1
      have c13_2_0 := Mem.cell (v := .int .i64 f0) M13.2.2.1 0 rfl
      have c13_2_1 := Mem.cell (v := .int .i64 f1) M13.2.2.1 1 rfl
      have c13_2_2 := Mem.cell (v := .int .i64 T2) M13.2.2.1 2 rfl
      have c13_2_3 := Mem.cell (v := .int .i64 f3) M13.2.2.1 3 rfl
      have c13_2_4 := Mem.cell (v := .int .i64 N2) M13.2.2.1 4 rfl
      have c13_2_5 := Mem.cell (v := .int .u8 f5) M13.2.2.1 5 rfl
      have c13_2_6 := Mem.cell (v := .string f6) M13.2.2.1 6 rfl
      have c13_2_7 := Mem.cell (v := .string f7) M13.2.2.1 7 rfl
      have c13_2_8 := Mem.cell (v := .int .i64 f8) M13.2.2.1 8 rfl
      have c13_2_9 := Mem.cell (v := .int .i64 f9) M13.2.2.1 9 rfl
      have c13_2_10 := Mem.cell (v := .string f10) M13.2.2.1 10 rfl
      have c13_2_11 := Mem.cell (v := .string f11) M13.2.2.1 11 rfl
      have c13_2_12 := Mem.cell (v := .string f12) M13.2.2.1 12 rfl
      have z13_2 := Mem.lt M13.2.2.1
      have c13_3_0 := Mem.cell (v := .string hiS) M13.2.2.2.1 0 rfl
      have c13_3_1 := Mem.cell (v := .string noS) M13.2.2.2.1 1 rfl
      have z13_3 := Mem.lt M13.2.2.2.1
      have z13_4 := Mem.lt M13.2.2.2.2.1
      have z13_5 := Mem.lt M13.2.2.2.2.2.1
      have c13_6_0 := Mem.cell (v := .int .i64 e0) M13.2.2.2.2.2.2.1 0 rfl
      have c13_6_1 := Mem.cell (v := .int .i64 e1) M13.2.2.2.2.2.2.1 1 rfl
      have c13_6_2 := Mem.cell (v := .int .i64 T1) M13.2.2.2.2.2.2.1 2 rfl
      have c13_6_3 := Mem.cell (v := .int .i64 e3) M13.2.2.2.2.2.2.1 3 rfl
      have c13_6_4 := Mem.cell (v := .int .i64 N1) M13.2.2.2.2.2.2.1 4 rfl
      have c13_6_5 := Mem.cell (v := .int .u8 e5) M13.2.2.2.2.2.2.1 5 rfl
      have c13_6_6 := Mem.cell (v := .string e6) M13.2.2.2.2.2.2.1 6 rfl
      have c13_6_7 := Mem.cell (v := .string e7) M13.2.2.2.2.2.2.1 7 rfl
      have c13_6_8 := Mem.cell (v := .int .i64 e8) M13.2.2.2.2.2.2.1 8 rfl
      have c13_6_9 := Mem.cell (v := .int .i64 e9) M13.2.2.2.2.2.2.1 9 rfl
      have c13_6_10 := Mem.cell (v := .string e10) M13.2.2.2.2.2.2.1 10 rfl
      have c13_6_11 := Mem.cell (v := .string e11) M13.2.2.2.2.2.2.1 11 rfl
      have c13_6_12 := Mem.cell (v := .string e12) M13.2.2.2.2.2.2.1 12 rfl
      have z13_6 := Mem.lt M13.2.2.2.2.2.2.1
      replace M13 : Mem w13 [(bu, .cells (th ((dU2 CS CI g3 fc3 gs2 sc2))) 39), (bs, .cells (th ((dU1 CS CI g fc2 gs sc))) 39), (w.heap.size + 1 + 1, .cells #[.int .i64 f0, .int .i64 f1, .int .i64 T2, .int .i64 f3, .int .i64 N2, .int .u8 f5, .string f6, .string f7, .int .i64 f8, .int .i64 f9, .string f10, .string f11, .string f12] 30), (w5.heap.size, .cells #[.string hiS, .string noS] 24), (g, .cells cf2 104), (gs, .cells cs 56), (w.heap.size + 1, .cells #[.int .i64 e0, .int .i64 e1, .int .i64 T1, .int .i64 e3, .int .i64 N1, .int .u8 e5, .string e6, .string e7, .int .i64 e8, .int .i64 e9, .string e10, .string e11, .string e12] 30), (gs2, .cells cs2 56)] := ⟨M13.1, M13.2.1, M13.2.2.1, M13.2.2.2.1, M13.2.2.2.2.1, M13.2.2.2.2.2.1, M13.2.2.2.2.2.2.1, hsc2, trivial⟩
      replace M13 : Mem w13 [(bu, .cells (th ((dU2 CS CI g3 fc3 gs2 sc2))) 39), (gs2, .cells cs2 56), (w.heap.size + 1, .cells #[.int .i64 e0, .int .i64 e1, .int .i64 T1, .int .i64 e3, .int .i64 N1, .int .u8 e5, .string e6, .string e7, .int .i64 e8, .int .i64 e9, .string e10, .string e11, .string e12] 30), (w.heap.size + 1 + 1, .cells #[.int .i64 f0, .int .i64 f1, .int .i64 T2, .int .i64 f3, .int .i64 N2, .int .u8 f5, .string f6, .string f7, .int .i64 f8, .int .i64 f9, .string f10, .string f11, .string f12] 30)] := ⟨M13.1, M13.2.2.2.2.2.2.2.1, M13.2.2.2.2.2.2.1, M13.2.2.1, trivial⟩
      clear z13_0 z13_1 c13_2_0 c13_2_1 c13_2_2 c13_2_3 c13_2_4 c13_2_5 c13_2_6 c13_2_7 c13_2_8 c13_2_9 c13_2_10 c13_2_11 c13_2_12 z13_2 c13_3_0 c13_3_1 z13_3 z13_4 z13_5 c13_6_0 c13_6_1 c13_6_2 c13_6_3 c13_6_4 c13_6_5 c13_6_6 c13_6_7 c13_6_8 c13_6_9 c13_6_10 c13_6_11 c13_6_12 z13_6
      have z13_0 := Mem.lt M13.1
      have z13_1 := Mem.lt M13.2.1
      have c13_2_0 := Mem.cell (v := .int .i64 e0) M13.2.2.1 0 rfl
      have c13_2_1 := Mem.cell (v := .int .i64 e1) M13.2.2.1 1 rfl
      have c13_2_2 := Mem.cell (v := .int .i64 T1) M13.2.2.1 2 rfl
      have c13_2_3 := Mem.cell (v := .int .i64 e3) M13.2.2.1 3 rfl
      have c13_2_4 := Mem.cell (v := .int .i64 N1) M13.2.2.1 4 rfl
      have c13_2_5 := Mem.cell (v := .int .u8 e5) M13.2.2.1 5 rfl
      have c13_2_6 := Mem.cell (v := .string e6) M13.2.2.1 6 rfl
      have c13_2_7 := Mem.cell (v := .string e7) M13.2.2.1 7 rfl
      have c13_2_8 := Mem.cell (v := .int .i64 e8) M13.2.2.1 8 rfl
      have c13_2_9 := Mem.cell (v := .int .i64 e9) M13.2.2.1 9 rfl
      have c13_2_10 := Mem.cell (v := .string e10) M13.2.2.1 10 rfl
      have c13_2_11 := Mem.cell (v := .string e11) M13.2.2.1 11 rfl
      have c13_2_12 := Mem.cell (v := .string e12) M13.2.2.1 12 rfl
      have z13_2 := Mem.lt M13.2.2.1
      have c13_3_0 := Mem.cell (v := .int .i64 f0) M13.2.2.2.1 0 rfl
      have c13_3_1 := Mem.cell (v := .int .i64 f1) M13.2.2.2.1 1 rfl
      have c13_3_2 := Mem.cell (v := .int .i64 T2) M13.2.2.2.1 2 rfl
      have c13_3_3 := Mem.cell (v := .int .i64 f3) M13.2.2.2.1 3 rfl
      have c13_3_4 := Mem.cell (v := .int .i64 N2) M13.2.2.2.1 4 rfl
      have c13_3_5 := Mem.cell (v := .int .u8 f5) M13.2.2.2.1 5 rfl
      have c13_3_6 := Mem.cell (v := .string f6) M13.2.2.2.1 6 rfl
      have c13_3_7 := Mem.cell (v := .string f7) M13.2.2.2.1 7 rfl
      have c13_3_8 := Mem.cell (v := .int .i64 f8) M13.2.2.2.1 8 rfl
      have c13_3_9 := Mem.cell (v := .int .i64 f9) M13.2.2.2.1 9 rfl
      have c13_3_10 := Mem.cell (v := .string f10) M13.2.2.2.1 10 rfl
      have c13_3_11 := Mem.cell (v := .string f11) M13.2.2.2.1 11 rfl
      have c13_3_12 := Mem.cell (v := .string f12) M13.2.2.2.1 12 rfl
      have z13_3 := Mem.lt M13.2.2.2.1
      have hcs : (U1 ≤ now ∧ U2 ≤ now ∧ dueD now U1 U2 = 0) ∨ (U1 ≤ now ∧ ¬ U2 ≤ now ∧ dueD now U1 U2 = 0) ∨ (¬ U1 ≤ now ∧ U2 ≤ now ∧ dueD now U1 U2 = 1) ∨ (¬ U1 ≤ now ∧ ¬ U2 ≤ now ∧ dueD now U1 U2 = -1) := by
        unfold dueD
        by_cases k1 : U1 ≤ now
        · by_cases k2 : U2 ≤ now
          · exact .inl ⟨k1, k2, by rw [if_pos k1]⟩
          · exact .inr (.inl ⟨k1, k2, by rw [if_pos k1]⟩)
        · by_cases k2 : U2 ≤ now
          · exact .inr (.inr (.inl ⟨k1, k2, by rw [if_neg k1, if_pos k2]⟩))
          · exact .inr (.inr (.inr ⟨k1, k2, by rw [if_neg k1, if_neg k2]⟩))
      have cu9 := Mem.cell (v := .slice (ptA gs2) 2 sc2) M13.1 9 rfl
      go_upto_region 15 with (fail)
      clear cu9
      rcases hcs with ⟨k1, k2, hd⟩ | ⟨k1, k2, hd⟩ | ⟨k1, k2, hd⟩ | ⟨k1, k2, hd⟩
      · skip
        have HD := Lib.hid hd
        clear hd
        go_upto_region 17 with (fail)
        refine wp_region_lit ?_
        refine load_th rfl _ rfl (bu) rfl ((dU2 CS CI g3 fc3 gs2 sc2)) M13.1 ?_
        go_wp2_with fail
        refine Calls.named ?_
        intro W14 hW14
        have hB14_ : Below w.heap.size w W14 := by rw [hW14]; exact hB13
        have hw14_ : Laid W14 := by rw [hW14]; exact hw13
        have M14_ := M13
        rw [← hW14] at M14_
        clear hW14
        have ZZ14_0 := Lib.hid (Mem.lt M14_.1)
        have ZZ14_1 := Lib.hid (Mem.lt M14_.2.1)
        have ZZ14_2 := Lib.hid (Mem.lt M14_.2.2.1)
        have ZZ14_3 := Lib.hid (Mem.lt M14_.2.2.2.1)
        clear z13_0 z13_1 c13_2_0 c13_2_1 c13_2_2 c13_2_3 c13_2_4 c13_2_5 c13_2_6 c13_2_7 c13_2_8 c13_2_9 c13_2_10 c13_2_11 c13_2_12 z13_2 c13_3_0 c13_3_1 c13_3_2 c13_3_3 c13_3_4 c13_3_5 c13_3_6 c13_3_7 c13_3_8 c13_3_9 c13_3_10 c13_3_11 c13_3_12 z13_3
        refine (due_due now _ M14_.2.1 HST3.out HG3.out.2.2.1).mono ?_
        rw [HD.out]
        rintro e w14 ⟨rfl, hb14⟩
        have hB14 := below_then hB14_ hb14
        have hw14 := hw14_.below hb14
        have M14 := M14_.below hb14
        clear M14_ hB14_ hb14 hw14_
        have z14_0 := Mem.lt M14.1
        have z14_1 := Mem.lt M14.2.1
        have c14_2_0 := Mem.cell (v := .int .i64 e0) M14.2.2.1 0 rfl
        have c14_2_1 := Mem.cell (v := .int .i64 e1) M14.2.2.1 1 rfl
        have c14_2_2 := Mem.cell (v := .int .i64 T1) M14.2.2.1 2 rfl
        have c14_2_3 := Mem.cell (v := .int .i64 e3) M14.2.2.1 3 rfl
        have c14_2_4 := Mem.cell (v := .int .i64 N1) M14.2.2.1 4 rfl
        have c14_2_5 := Mem.cell (v := .int .u8 e5) M14.2.2.1 5 rfl
        have c14_2_6 := Mem.cell (v := .string e6) M14.2.2.1 6 rfl
        have c14_2_7 := Mem.cell (v := .string e7) M14.2.2.1 7 rfl
        have c14_2_8 := Mem.cell (v := .int .i64 e8) M14.2.2.1 8 rfl
        have c14_2_9 := Mem.cell (v := .int .i64 e9) M14.2.2.1 9 rfl
        have c14_2_10 := Mem.cell (v := .string e10) M14.2.2.1 10 rfl
        have c14_2_11 := Mem.cell (v := .string e11) M14.2.2.1 11 rfl
        have c14_2_12 := Mem.cell (v := .string e12) M14.2.2.1 12 rfl
        have z14_2 := Mem.lt M14.2.2.1
        have c14_3_0 := Mem.cell (v := .int .i64 f0) M14.2.2.2.1 0 rfl
        have c14_3_1 := Mem.cell (v := .int .i64 f1) M14.2.2.2.1 1 rfl
        have c14_3_2 := Mem.cell (v := .int .i64 T2) M14.2.2.2.1 2 rfl
        have c14_3_3 := Mem.cell (v := .int .i64 f3) M14.2.2.2.1 3 rfl
        have c14_3_4 := Mem.cell (v := .int .i64 N2) M14.2.2.2.1 4 rfl
        have c14_3_5 := Mem.cell (v := .int .u8 f5) M14.2.2.2.1 5 rfl
        have c14_3_6 := Mem.cell (v := .string f6) M14.2.2.2.1 6 rfl
        have c14_3_7 := Mem.cell (v := .string f7) M14.2.2.2.1 7 rfl
        have c14_3_8 := Mem.cell (v := .int .i64 f8) M14.2.2.2.1 8 rfl
        have c14_3_9 := Mem.cell (v := .int .i64 f9) M14.2.2.2.1 9 rfl
        have c14_3_10 := Mem.cell (v := .string f10) M14.2.2.2.1 10 rfl
        have c14_3_11 := Mem.cell (v := .string f11) M14.2.2.2.1 11 rfl
        have c14_3_12 := Mem.cell (v := .string f12) M14.2.2.2.1 12 rfl
        have z14_3 := Mem.lt M14.2.2.2.1
        go_upto_region 27 with (fail)
        refine wp_region_lit ?_
        refine load_th rfl _ rfl (bu) rfl ((dU2 CS CI g3 fc3 gs2 sc2)) M14.1 ?_
        go_wp2_with fail
        refine Calls.named ?_
        intro W15 hW15
        have hB15_ : Below w.heap.size w W15 := by rw [hW15]; exact hB14
        have hw15_ : Laid W15 := by rw [hW15]; exact hw14
        have M15_ := M14
        rw [← hW15] at M15_
        clear hW15
        have ZZ15_0 := Lib.hid (Mem.lt M15_.1)
        have ZZ15_1 := Lib.hid (Mem.lt M15_.2.1)
        have ZZ15_2 := Lib.hid (Mem.lt M15_.2.2.1)
        have ZZ15_3 := Lib.hid (Mem.lt M15_.2.2.2.1)
        clear z14_0 z14_1 c14_2_0 c14_2_1 c14_2_2 c14_2_3 c14_2_4 c14_2_5 c14_2_6 c14_2_7 c14_2_8 c14_2_9 c14_2_10 c14_2_11 c14_2_12 z14_2 c14_3_0 c14_3_1 c14_3_2 c14_3_3 c14_3_4 c14_3_5 c14_3_6 c14_3_7 c14_3_8 c14_3_9 c14_3_10 c14_3_11 c14_3_12 z14_3
        refine (due_leave 0 (dS1 CS CI U1) (by decide) rfl HG3.out.1 HG3.out.2.1 _ M15_.2.1 HST3.out HG3.out.2.2.1 HG3.out.2.2.2).mono ?_
        rintro e w15 ⟨ao, cap, nm, oo, rfl, hb15⟩
        have hB15 := below_then hB15_ hb15
        have hw15 := hw15_.below hb15
        have M15 := M15_.below hb15
        clear M15_ hB15_ hb15 hw15_
        have z15_0 := Mem.lt M15.1
        have z15_1 := Mem.lt M15.2.1
        have c15_2_0 := Mem.cell (v := .int .i64 e0) M15.2.2.1 0 rfl
        have c15_2_1 := Mem.cell (v := .int .i64 e1) M15.2.2.1 1 rfl
        have c15_2_2 := Mem.cell (v := .int .i64 T1) M15.2.2.1 2 rfl
        have c15_2_3 := Mem.cell (v := .int .i64 e3) M15.2.2.1 3 rfl
        have c15_2_4 := Mem.cell (v := .int .i64 N1) M15.2.2.1 4 rfl
        have c15_2_5 := Mem.cell (v := .int .u8 e5) M15.2.2.1 5 rfl
        have c15_2_6 := Mem.cell (v := .string e6) M15.2.2.1 6 rfl
        have c15_2_7 := Mem.cell (v := .string e7) M15.2.2.1 7 rfl
        have c15_2_8 := Mem.cell (v := .int .i64 e8) M15.2.2.1 8 rfl
        have c15_2_9 := Mem.cell (v := .int .i64 e9) M15.2.2.1 9 rfl
        have c15_2_10 := Mem.cell (v := .string e10) M15.2.2.1 10 rfl
        have c15_2_11 := Mem.cell (v := .string e11) M15.2.2.1 11 rfl
        have c15_2_12 := Mem.cell (v := .string e12) M15.2.2.1 12 rfl
        have z15_2 := Mem.lt M15.2.2.1
        have c15_3_0 := Mem.cell (v := .int .i64 f0) M15.2.2.2.1 0 rfl
        have c15_3_1 := Mem.cell (v := .int .i64 f1) M15.2.2.2.1 1 rfl
        have c15_3_2 := Mem.cell (v := .int .i64 T2) M15.2.2.2.1 2 rfl
        have c15_3_3 := Mem.cell (v := .int .i64 f3) M15.2.2.2.1 3 rfl
        have c15_3_4 := Mem.cell (v := .int .i64 N2) M15.2.2.2.1 4 rfl
        have c15_3_5 := Mem.cell (v := .int .u8 f5) M15.2.2.2.1 5 rfl
        have c15_3_6 := Mem.cell (v := .string f6) M15.2.2.2.1 6 rfl
        have c15_3_7 := Mem.cell (v := .string f7) M15.2.2.2.1 7 rfl
        have c15_3_8 := Mem.cell (v := .int .i64 f8) M15.2.2.2.1 8 rfl
        have c15_3_9 := Mem.cell (v := .int .i64 f9) M15.2.2.2.1 9 rfl
        have c15_3_10 := Mem.cell (v := .string f10) M15.2.2.2.1 10 rfl
        have c15_3_11 := Mem.cell (v := .string f11) M15.2.2.2.1 11 rfl
        have c15_3_12 := Mem.cell (v := .string f12) M15.2.2.2.1 12 rfl
        have z15_3 := Mem.lt M15.2.2.2.1
        simp only
        iterate 19 go_step
        have oo15_0 : bu < w15.heap.size := Mem.lt M15.1
        have oo15_1 : gs2 < w15.heap.size := Mem.lt M15.2.1
        have oo15_2 : w.heap.size + 1 < w15.heap.size := Mem.lt M15.2.2.1
        have oo15_3 : w.heap.size + 1 + 1 < w15.heap.size := Mem.lt M15.2.2.2.1
        refine wpl_named ?_
        intro w16 hW16
        have hB16 : Below w.heap.size w w16 := by rw [hW16]; exact (below_al (below_al hB15 _) _)
        have hw16 : Laid w16 := by rw [hW16]; exact ((hw15.alloc _).alloc _)
        have M16 : Mem w16 [(w15.heap.size + 1, .cells (ob (ob0)) 50), (w15.heap.size, .cells (th (th0)) 39), (bu, .cells (th ((dU2 CS CI g3 fc3 gs2 sc2))) 39), (gs2, .cells cs2 56), (w.heap.size + 1, .cells #[.int .i64 e0, .int .i64 e1, .int .i64 T1, .int .i64 e3, .int .i64 N1, .int .u8 e5, .string e6, .string e7, .int .i64 e8, .int .i64 e9, .string e10, .string e11, .string e12] 30), (w.heap.size + 1 + 1, .cells #[.int .i64 f0, .int .i64 f1, .int .i64 T2, .int .i64 f3, .int .i64 N2, .int .u8 f5, .string f6, .string f7, .int .i64 f8, .int .i64 f9, .string f10, .string f11, .string f12] 30)] := by rw [hW16]; exact ((M15).new' (w15.heap.size) (by rfl) (.cells (th (th0)) 39)).new' (w15.heap.size + 1) (by simp) (.cells (ob (ob0)) 50)
        clear z15_0 z15_1 c15_2_0 c15_2_1 c15_2_2 c15_2_3 c15_2_4 c15_2_5 c15_2_6 c15_2_7 c15_2_8 c15_2_9 c15_2_10 c15_2_11 c15_2_12 z15_2 c15_3_0 c15_3_1 c15_3_2 c15_3_3 c15_3_4 c15_3_5 c15_3_6 c15_3_7 c15_3_8 c15_3_9 c15_3_10 c15_3_11 c15_3_12 z15_3
        clear hW16
        have z16_0 := Mem.lt M16.1
        have z16_1 := Mem.lt M16.2.1
        have z16_2 := Mem.lt M16.2.2.1
        have z16_3 := Mem.lt M16.2.2.2.1
        have c16_4_0 := Mem.cell (v := .int .i64 e0) M16.2.2.2.2.1 0 rfl
        have c16_4_1 := Mem.cell (v := .int .i64 e1) M16.2.2.2.2.1 1 rfl
        have c16_4_2 := Mem.cell (v := .int .i64 T1) M16.2.2.2.2.1 2 rfl
        have c16_4_3 := Mem.cell (v := .int .i64 e3) M16.2.2.2.2.1 3 rfl
        have c16_4_4 := Mem.cell (v := .int .i64 N1) M16.2.2.2.2.1 4 rfl
        have c16_4_5 := Mem.cell (v := .int .u8 e5) M16.2.2.2.2.1 5 rfl
        have c16_4_6 := Mem.cell (v := .string e6) M16.2.2.2.2.1 6 rfl
        have c16_4_7 := Mem.cell (v := .string e7) M16.2.2.2.2.1 7 rfl
        have c16_4_8 := Mem.cell (v := .int .i64 e8) M16.2.2.2.2.1 8 rfl
        have c16_4_9 := Mem.cell (v := .int .i64 e9) M16.2.2.2.2.1 9 rfl
        have c16_4_10 := Mem.cell (v := .string e10) M16.2.2.2.2.1 10 rfl
        have c16_4_11 := Mem.cell (v := .string e11) M16.2.2.2.2.1 11 rfl
        have c16_4_12 := Mem.cell (v := .string e12) M16.2.2.2.2.1 12 rfl
        have z16_4 := Mem.lt M16.2.2.2.2.1
        have c16_5_0 := Mem.cell (v := .int .i64 f0) M16.2.2.2.2.2.1 0 rfl
        have c16_5_1 := Mem.cell (v := .int .i64 f1) M16.2.2.2.2.2.1 1 rfl
        have c16_5_2 := Mem.cell (v := .int .i64 T2) M16.2.2.2.2.2.1 2 rfl
        have c16_5_3 := Mem.cell (v := .int .i64 f3) M16.2.2.2.2.2.1 3 rfl
        have c16_5_4 := Mem.cell (v := .int .i64 N2) M16.2.2.2.2.2.1 4 rfl
        have c16_5_5 := Mem.cell (v := .int .u8 f5) M16.2.2.2.2.2.1 5 rfl
        have c16_5_6 := Mem.cell (v := .string f6) M16.2.2.2.2.2.1 6 rfl
        have c16_5_7 := Mem.cell (v := .string f7) M16.2.2.2.2.2.1 7 rfl
        have c16_5_8 := Mem.cell (v := .int .i64 f8) M16.2.2.2.2.2.1 8 rfl
        have c16_5_9 := Mem.cell (v := .int .i64 f9) M16.2.2.2.2.2.1 9 rfl
        have c16_5_10 := Mem.cell (v := .string f10) M16.2.2.2.2.2.1 10 rfl
        have c16_5_11 := Mem.cell (v := .string f11) M16.2.2.2.2.2.1 11 rfl
        have c16_5_12 := Mem.cell (v := .string f12) M16.2.2.2.2.2.1 12 rfl
        have z16_5 := Mem.lt M16.2.2.2.2.2.1
        refine store_th rfl _ _ rfl (w15.heap.size) rfl (th0) ((dV CS CI g3 fc3 gs2 sc2 0 (dS1 CS CI U1) ao cap)) rfl M16.2.1 (one_th _) ?_
        intro w17 hW17
        have hB17 : Below w.heap.size w w17 := by rw [hW17]; exact below_setCells (B := w.heap.size) hB16 (b := w15.heap.size) (by have := hB16.size; omega) 0 _
        have hw17 : Laid w17 := hw0.below hB17
        have M17 : Mem w17 [(w15.heap.size + 1, .cells (ob (ob0)) 50), (w15.heap.size, .cells (th ((dV CS CI g3 fc3 gs2 sc2 0 (dS1 CS CI U1) ao cap))) 39), (bu, .cells (th ((dU2 CS CI g3 fc3 gs2 sc2))) 39), (gs2, .cells cs2 56), (w.heap.size + 1, .cells #[.int .i64 e0, .int .i64 e1, .int .i64 T1, .int .i64 e3, .int .i64 N1, .int .u8 e5, .string e6, .string e7, .int .i64 e8, .int .i64 e9, .string e10, .string e11, .string e12] 30), (w.heap.size + 1 + 1, .cells #[.int .i64 f0, .int .i64 f1, .int .i64 T2, .int .i64 f3, .int .i64 N2, .int .u8 f5, .string f6, .string f7, .int .i64 f8, .int .i64 f9, .string f10, .string f11, .string f12] 30)] := by rw [hW17]; exact ⟨(setCells_other _ 0 _ _ (by omega)).trans M16.1, set_th M16.2.1 _, (setCells_other _ 0 _ _ (by omega)).trans M16.2.2.1, (setCells_other _ 0 _ _ (by omega)).trans M16.2.2.2.1, (setCells_other _ 0 _ _ (by omega)).trans M16.2.2.2.2.1, (setCells_other _ 0 _ _ (by omega)).trans M16.2.2.2.2.2.1, trivial⟩
        clear z16_0 z16_1 z16_2 z16_3 c16_4_0 c16_4_1 c16_4_2 c16_4_3 c16_4_4 c16_4_5 c16_4_6 c16_4_7 c16_4_8 c16_4_9 c16_4_10 c16_4_11 c16_4_12 z16_4 c16_5_0 c16_5_1 c16_5_2 c16_5_3 c16_5_4 c16_5_5 c16_5_6 c16_5_7 c16_5_8 c16_5_9 c16_5_10 c16_5_11 c16_5_12 z16_5
        clear hW17
        have z17_0 := Mem.lt M17.1
        have z17_1 := Mem.lt M17.2.1
        have z17_2 := Mem.lt M17.2.2.1
        have z17_3 := Mem.lt M17.2.2.2.1
        have c17_4_0 := Mem.cell (v := .int .i64 e0) M17.2.2.2.2.1 0 rfl
        have c17_4_1 := Mem.cell (v := .int .i64 e1) M17.2.2.2.2.1 1 rfl
        have c17_4_2 := Mem.cell (v := .int .i64 T1) M17.2.2.2.2.1 2 rfl
        have c17_4_3 := Mem.cell (v := .int .i64 e3) M17.2.2.2.2.1 3 rfl
        have c17_4_4 := Mem.cell (v := .int .i64 N1) M17.2.2.2.2.1 4 rfl
        have c17_4_5 := Mem.cell (v := .int .u8 e5) M17.2.2.2.2.1 5 rfl
        have c17_4_6 := Mem.cell (v := .string e6) M17.2.2.2.2.1 6 rfl
        have c17_4_7 := Mem.cell (v := .string e7) M17.2.2.2.2.1 7 rfl
        have c17_4_8 := Mem.cell (v := .int .i64 e8) M17.2.2.2.2.1 8 rfl
        have c17_4_9 := Mem.cell (v := .int .i64 e9) M17.2.2.2.2.1 9 rfl
        have c17_4_10 := Mem.cell (v := .string e10) M17.2.2.2.2.1 10 rfl
        have c17_4_11 := Mem.cell (v := .string e11) M17.2.2.2.2.1 11 rfl
        have c17_4_12 := Mem.cell (v := .string e12) M17.2.2.2.2.1 12 rfl
        have z17_4 := Mem.lt M17.2.2.2.2.1
        have c17_5_0 := Mem.cell (v := .int .i64 f0) M17.2.2.2.2.2.1 0 rfl
        have c17_5_1 := Mem.cell (v := .int .i64 f1) M17.2.2.2.2.2.1 1 rfl
        have c17_5_2 := Mem.cell (v := .int .i64 T2) M17.2.2.2.2.2.1 2 rfl
        have c17_5_3 := Mem.cell (v := .int .i64 f3) M17.2.2.2.2.2.1 3 rfl
        have c17_5_4 := Mem.cell (v := .int .i64 N2) M17.2.2.2.2.2.1 4 rfl
        have c17_5_5 := Mem.cell (v := .int .u8 f5) M17.2.2.2.2.2.1 5 rfl
        have c17_5_6 := Mem.cell (v := .string f6) M17.2.2.2.2.2.1 6 rfl
        have c17_5_7 := Mem.cell (v := .string f7) M17.2.2.2.2.2.1 7 rfl
        have c17_5_8 := Mem.cell (v := .int .i64 f8) M17.2.2.2.2.2.1 8 rfl
        have c17_5_9 := Mem.cell (v := .int .i64 f9) M17.2.2.2.2.2.1 9 rfl
        have c17_5_10 := Mem.cell (v := .string f10) M17.2.2.2.2.2.1 10 rfl
        have c17_5_11 := Mem.cell (v := .string f11) M17.2.2.2.2.2.1 11 rfl
        have c17_5_12 := Mem.cell (v := .string f12) M17.2.2.2.2.2.1 12 rfl
        have z17_5 := Mem.lt M17.2.2.2.2.2.1
        iterate 3 go_step
        refine store_ob rfl _ _ rfl (w15.heap.size + 1) rfl (ob0) (oo) rfl M17.1 ?_
        intro w18 hW18
        have hB18 : Below w.heap.size w w18 := by rw [hW18]; exact below_setCells (B := w.heap.size) hB17 (b := w15.heap.size + 1) (by have := hB17.size; omega) 0 _
        have hw18 : Laid w18 := hw0.below hB18
        have M18 : Mem w18 [(w15.heap.size + 1, .cells (ob (oo)) 50), (w15.heap.size, .cells (th ((dV CS CI g3 fc3 gs2 sc2 0 (dS1 CS CI U1) ao cap))) 39), (bu, .cells (th ((dU2 CS CI g3 fc3 gs2 sc2))) 39), (gs2, .cells cs2 56), (w.heap.size + 1, .cells #[.int .i64 e0, .int .i64 e1, .int .i64 T1, .int .i64 e3, .int .i64 N1, .int .u8 e5, .string e6, .string e7, .int .i64 e8, .int .i64 e9, .string e10, .string e11, .string e12] 30), (w.heap.size + 1 + 1, .cells #[.int .i64 f0, .int .i64 f1, .int .i64 T2, .int .i64 f3, .int .i64 N2, .int .u8 f5, .string f6, .string f7, .int .i64 f8, .int .i64 f9, .string f10, .string f11, .string f12] 30)] := by rw [hW18]; exact ⟨set_ob M17.1 _, (setCells_other _ 0 _ _ (by omega)).trans M17.2.1, (setCells_other _ 0 _ _ (by omega)).trans M17.2.2.1, (setCells_other _ 0 _ _ (by omega)).trans M17.2.2.2.1, (setCells_other _ 0 _ _ (by omega)).trans M17.2.2.2.2.1, (setCells_other _ 0 _ _ (by omega)).trans M17.2.2.2.2.2.1, trivial⟩
        clear z17_0 z17_1 z17_2 z17_3 c17_4_0 c17_4_1 c17_4_2 c17_4_3 c17_4_4 c17_4_5 c17_4_6 c17_4_7 c17_4_8 c17_4_9 c17_4_10 c17_4_11 c17_4_12 z17_4 c17_5_0 c17_5_1 c17_5_2 c17_5_3 c17_5_4 c17_5_5 c17_5_6 c17_5_7 c17_5_8 c17_5_9 c17_5_10 c17_5_11 c17_5_12 z17_5
        clear hW18
        have z18_0 := Mem.lt M18.1
        have z18_1 := Mem.lt M18.2.1
        have z18_2 := Mem.lt M18.2.2.1
        have z18_3 := Mem.lt M18.2.2.2.1
        have c18_4_0 := Mem.cell (v := .int .i64 e0) M18.2.2.2.2.1 0 rfl
        have c18_4_1 := Mem.cell (v := .int .i64 e1) M18.2.2.2.2.1 1 rfl
        have c18_4_2 := Mem.cell (v := .int .i64 T1) M18.2.2.2.2.1 2 rfl
        have c18_4_3 := Mem.cell (v := .int .i64 e3) M18.2.2.2.2.1 3 rfl
        have c18_4_4 := Mem.cell (v := .int .i64 N1) M18.2.2.2.2.1 4 rfl
        have c18_4_5 := Mem.cell (v := .int .u8 e5) M18.2.2.2.2.1 5 rfl
        have c18_4_6 := Mem.cell (v := .string e6) M18.2.2.2.2.1 6 rfl
        have c18_4_7 := Mem.cell (v := .string e7) M18.2.2.2.2.1 7 rfl
        have c18_4_8 := Mem.cell (v := .int .i64 e8) M18.2.2.2.2.1 8 rfl
        have c18_4_9 := Mem.cell (v := .int .i64 e9) M18.2.2.2.2.1 9 rfl
        have c18_4_10 := Mem.cell (v := .string e10) M18.2.2.2.2.1 10 rfl
        have c18_4_11 := Mem.cell (v := .string e11) M18.2.2.2.2.1 11 rfl
        have c18_4_12 := Mem.cell (v := .string e12) M18.2.2.2.2.1 12 rfl
        have z18_4 := Mem.lt M18.2.2.2.2.1
        have c18_5_0 := Mem.cell (v := .int .i64 f0) M18.2.2.2.2.2.1 0 rfl
        have c18_5_1 := Mem.cell (v := .int .i64 f1) M18.2.2.2.2.2.1 1 rfl
        have c18_5_2 := Mem.cell (v := .int .i64 T2) M18.2.2.2.2.2.1 2 rfl
        have c18_5_3 := Mem.cell (v := .int .i64 f3) M18.2.2.2.2.2.1 3 rfl
        have c18_5_4 := Mem.cell (v := .int .i64 N2) M18.2.2.2.2.2.1 4 rfl
        have c18_5_5 := Mem.cell (v := .int .u8 f5) M18.2.2.2.2.2.1 5 rfl
        have c18_5_6 := Mem.cell (v := .string f6) M18.2.2.2.2.2.1 6 rfl
        have c18_5_7 := Mem.cell (v := .string f7) M18.2.2.2.2.2.1 7 rfl
        have c18_5_8 := Mem.cell (v := .int .i64 f8) M18.2.2.2.2.2.1 8 rfl
        have c18_5_9 := Mem.cell (v := .int .i64 f9) M18.2.2.2.2.2.1 9 rfl
        have c18_5_10 := Mem.cell (v := .string f10) M18.2.2.2.2.2.1 10 rfl
        have c18_5_11 := Mem.cell (v := .string f11) M18.2.2.2.2.2.1 11 rfl
        have c18_5_12 := Mem.cell (v := .string f12) M18.2.2.2.2.2.1 12 rfl
        have z18_5 := Mem.lt M18.2.2.2.2.2.1
        go_upto_region 28 with (fail)
        refine wp_region_lit ?_
        iterate 6 go_step
        refine load_th_w rfl _ rfl (w15.heap.size) rfl (((dV CS CI g3 fc3 gs2 sc2 0 (dS1 CS CI U1) ao cap))) M18.2.1 ?_
        go_wp2_with fail
        refine Calls.named ?_
        intro W19 hW19
        have hB19_ : Below w.heap.size w W19 := by rw [hW19]; exact hB18
        have hw19_ : Laid W19 := by rw [hW19]; exact hw18
        have M19_ := M18
        rw [← hW19] at M19_
        clear hW19
        have ZZ19_0 := Lib.hid (Mem.lt M19_.1)
        have ZZ19_1 := Lib.hid (Mem.lt M19_.2.1)
        have ZZ19_2 := Lib.hid (Mem.lt M19_.2.2.1)
        have ZZ19_3 := Lib.hid (Mem.lt M19_.2.2.2.1)
        have ZZ19_4 := Lib.hid (Mem.lt M19_.2.2.2.2.1)
        have ZZ19_5 := Lib.hid (Mem.lt M19_.2.2.2.2.2.1)
        clear z18_0 z18_1 z18_2 z18_3 c18_4_0 c18_4_1 c18_4_2 c18_4_3 c18_4_4 c18_4_5 c18_4_6 c18_4_7 c18_4_8 c18_4_9 c18_4_10 c18_4_11 c18_4_12 z18_4 c18_5_0 c18_5_1 c18_5_2 c18_5_3 c18_5_4 c18_5_5 c18_5_6 c18_5_7 c18_5_8 c18_5_9 c18_5_10 c18_5_11 c18_5_12 z18_5
        refine (due_behind 0 (dS1 CS CI U1) ao cap (by decide) now (fun j hj => absurd hj (Nat.not_lt_zero j)) _ M19_.2.2.2.1 HST3.out).mono ?_
        rintro e w19 ⟨rfl, hb19⟩
        have hB19 := below_then hB19_ hb19
        have hw19 := hw19_.below hb19
        have M19 := M19_.below hb19
        clear M19_ hB19_ hb19 hw19_
        have z19_0 := Mem.lt M19.1
        have z19_1 := Mem.lt M19.2.1
        have z19_2 := Mem.lt M19.2.2.1
        have z19_3 := Mem.lt M19.2.2.2.1
        have c19_4_0 := Mem.cell (v := .int .i64 e0) M19.2.2.2.2.1 0 rfl
        have c19_4_1 := Mem.cell (v := .int .i64 e1) M19.2.2.2.2.1 1 rfl
        have c19_4_2 := Mem.cell (v := .int .i64 T1) M19.2.2.2.2.1 2 rfl
        have c19_4_3 := Mem.cell (v := .int .i64 e3) M19.2.2.2.2.1 3 rfl
        have c19_4_4 := Mem.cell (v := .int .i64 N1) M19.2.2.2.2.1 4 rfl
        have c19_4_5 := Mem.cell (v := .int .u8 e5) M19.2.2.2.2.1 5 rfl
        have c19_4_6 := Mem.cell (v := .string e6) M19.2.2.2.2.1 6 rfl
        have c19_4_7 := Mem.cell (v := .string e7) M19.2.2.2.2.1 7 rfl
        have c19_4_8 := Mem.cell (v := .int .i64 e8) M19.2.2.2.2.1 8 rfl
        have c19_4_9 := Mem.cell (v := .int .i64 e9) M19.2.2.2.2.1 9 rfl
        have c19_4_10 := Mem.cell (v := .string e10) M19.2.2.2.2.1 10 rfl
        have c19_4_11 := Mem.cell (v := .string e11) M19.2.2.2.2.1 11 rfl
        have c19_4_12 := Mem.cell (v := .string e12) M19.2.2.2.2.1 12 rfl
        have z19_4 := Mem.lt M19.2.2.2.2.1
        have c19_5_0 := Mem.cell (v := .int .i64 f0) M19.2.2.2.2.2.1 0 rfl
        have c19_5_1 := Mem.cell (v := .int .i64 f1) M19.2.2.2.2.2.1 1 rfl
        have c19_5_2 := Mem.cell (v := .int .i64 T2) M19.2.2.2.2.2.1 2 rfl
        have c19_5_3 := Mem.cell (v := .int .i64 f3) M19.2.2.2.2.2.1 3 rfl
        have c19_5_4 := Mem.cell (v := .int .i64 N2) M19.2.2.2.2.2.1 4 rfl
        have c19_5_5 := Mem.cell (v := .int .u8 f5) M19.2.2.2.2.2.1 5 rfl
        have c19_5_6 := Mem.cell (v := .string f6) M19.2.2.2.2.2.1 6 rfl
        have c19_5_7 := Mem.cell (v := .string f7) M19.2.2.2.2.2.1 7 rfl
        have c19_5_8 := Mem.cell (v := .int .i64 f8) M19.2.2.2.2.2.1 8 rfl
        have c19_5_9 := Mem.cell (v := .int .i64 f9) M19.2.2.2.2.2.1 9 rfl
        have c19_5_10 := Mem.cell (v := .string f10) M19.2.2.2.2.2.1 10 rfl
        have c19_5_11 := Mem.cell (v := .string f11) M19.2.2.2.2.2.1 11 rfl
        have c19_5_12 := Mem.cell (v := .string f12) M19.2.2.2.2.2.1 12 rfl
        have z19_5 := Mem.lt M19.2.2.2.2.2.1
        have cv9 := Mem.cell (v := .slice (ptA gs2) 0 0) M19.2.1 9 rfl
        go_wp2_with fail
        go_ret
        exact ⟨rfl, hB19⟩
      · skip
        have HD := Lib.hid hd
        clear hd
        go_upto_region 17 with (fail)
        refine wp_region_lit ?_
        refine load_th rfl _ rfl (bu) rfl ((dU2 CS CI g3 fc3 gs2 sc2)) M13.1 ?_
        go_wp2_with fail
        refine Calls.named ?_
        intro W14 hW14
        have hB14_ : Below w.heap.size w W14 := by rw [hW14]; exact hB13
        have hw14_ : Laid W14 := by rw [hW14]; exact hw13
        have M14_ := M13
        rw [← hW14] at M14_
        clear hW14
        have ZZ14_0 := Lib.hid (Mem.lt M14_.1)
        have ZZ14_1 := Lib.hid (Mem.lt M14_.2.1)
        have ZZ14_2 := Lib.hid (Mem.lt M14_.2.2.1)
        have ZZ14_3 := Lib.hid (Mem.lt M14_.2.2.2.1)
        clear z13_0 z13_1 c13_2_0 c13_2_1 c13_2_2 c13_2_3 c13_2_4 c13_2_5 c13_2_6 c13_2_7 c13_2_8 c13_2_9 c13_2_10 c13_2_11 c13_2_12 z13_2 c13_3_0 c13_3_1 c13_3_2 c13_3_3 c13_3_4 c13_3_5 c13_3_6 c13_3_7 c13_3_8 c13_3_9 c13_3_10 c13_3_11 c13_3_12 z13_3
        refine (due_due now _ M14_.2.1 HST3.out HG3.out.2.2.1).mono ?_
        rw [HD.out]
        rintro e w14 ⟨rfl, hb14⟩
        have hB14 := below_then hB14_ hb14
        have hw14 := hw14_.below hb14
        have M14 := M14_.below hb14
        clear M14_ hB14_ hb14 hw14_
        have z14_0 := Mem.lt M14.1
        have z14_1 := Mem.lt M14.2.1
        have c14_2_0 := Mem.cell (v := .int .i64 e0) M14.2.2.1 0 rfl
        have c14_2_1 := Mem.cell (v := .int .i64 e1) M14.2.2.1 1 rfl
        have c14_2_2 := Mem.cell (v := .int .i64 T1) M14.2.2.1 2 rfl
        have c14_2_3 := Mem.cell (v := .int .i64 e3) M14.2.2.1 3 rfl
        have c14_2_4 := Mem.cell (v := .int .i64 N1) M14.2.2.1 4 rfl
        have c14_2_5 := Mem.cell (v := .int .u8 e5) M14.2.2.1 5 rfl
        have c14_2_6 := Mem.cell (v := .string e6) M14.2.2.1 6 rfl
        have c14_2_7 := Mem.cell (v := .string e7) M14.2.2.1 7 rfl
        have c14_2_8 := Mem.cell (v := .int .i64 e8) M14.2.2.1 8 rfl
        have c14_2_9 := Mem.cell (v := .int .i64 e9) M14.2.2.1 9 rfl
        have c14_2_10 := Mem.cell (v := .string e10) M14.2.2.1 10 rfl
        have c14_2_11 := Mem.cell (v := .string e11) M14.2.2.1 11 rfl
        have c14_2_12 := Mem.cell (v := .string e12) M14.2.2.1 12 rfl
        have z14_2 := Mem.lt M14.2.2.1
        have c14_3_0 := Mem.cell (v := .int .i64 f0) M14.2.2.2.1 0 rfl
        have c14_3_1 := Mem.cell (v := .int .i64 f1) M14.2.2.2.1 1 rfl
        have c14_3_2 := Mem.cell (v := .int .i64 T2) M14.2.2.2.1 2 rfl
        have c14_3_3 := Mem.cell (v := .int .i64 f3) M14.2.2.2.1 3 rfl
        have c14_3_4 := Mem.cell (v := .int .i64 N2) M14.2.2.2.1 4 rfl
        have c14_3_5 := Mem.cell (v := .int .u8 f5) M14.2.2.2.1 5 rfl
        have c14_3_6 := Mem.cell (v := .string f6) M14.2.2.2.1 6 rfl
        have c14_3_7 := Mem.cell (v := .string f7) M14.2.2.2.1 7 rfl
        have c14_3_8 := Mem.cell (v := .int .i64 f8) M14.2.2.2.1 8 rfl
        have c14_3_9 := Mem.cell (v := .int .i64 f9) M14.2.2.2.1 9 rfl
        have c14_3_10 := Mem.cell (v := .string f10) M14.2.2.2.1 10 rfl
        have c14_3_11 := Mem.cell (v := .string f11) M14.2.2.2.1 11 rfl
        have c14_3_12 := Mem.cell (v := .string f12) M14.2.2.2.1 12 rfl
        have z14_3 := Mem.lt M14.2.2.2.1
        go_upto_region 27 with (fail)
        refine wp_region_lit ?_
        refine load_th rfl _ rfl (bu) rfl ((dU2 CS CI g3 fc3 gs2 sc2)) M14.1 ?_
        go_wp2_with fail
        refine Calls.named ?_
        intro W15 hW15
        have hB15_ : Below w.heap.size w W15 := by rw [hW15]; exact hB14
        have hw15_ : Laid W15 := by rw [hW15]; exact hw14
        have M15_ := M14
        rw [← hW15] at M15_
        clear hW15
        have ZZ15_0 := Lib.hid (Mem.lt M15_.1)
        have ZZ15_1 := Lib.hid (Mem.lt M15_.2.1)
        have ZZ15_2 := Lib.hid (Mem.lt M15_.2.2.1)
        have ZZ15_3 := Lib.hid (Mem.lt M15_.2.2.2.1)
        clear z14_0 z14_1 c14_2_0 c14_2_1 c14_2_2 c14_2_3 c14_2_4 c14_2_5 c14_2_6 c14_2_7 c14_2_8 c14_2_9 c14_2_10 c14_2_11 c14_2_12 z14_2 c14_3_0 c14_3_1 c14_3_2 c14_3_3 c14_3_4 c14_3_5 c14_3_6 c14_3_7 c14_3_8 c14_3_9 c14_3_10 c14_3_11 c14_3_12 z14_3
        refine (due_leave 0 (dS1 CS CI U1) (by decide) rfl HG3.out.1 HG3.out.2.1 _ M15_.2.1 HST3.out HG3.out.2.2.1 HG3.out.2.2.2).mono ?_
        rintro e w15 ⟨ao, cap, nm, oo, rfl, hb15⟩
        have hB15 := below_then hB15_ hb15
        have hw15 := hw15_.below hb15
        have M15 := M15_.below hb15
        clear M15_ hB15_ hb15 hw15_
        have z15_0 := Mem.lt M15.1
        have z15_1 := Mem.lt M15.2.1
        have c15_2_0 := Mem.cell (v := .int .i64 e0) M15.2.2.1 0 rfl
        have c15_2_1 := Mem.cell (v := .int .i64 e1) M15.2.2.1 1 rfl
        have c15_2_2 := Mem.cell (v := .int .i64 T1) M15.2.2.1 2 rfl
        have c15_2_3 := Mem.cell (v := .int .i64 e3) M15.2.2.1 3 rfl
        have c15_2_4 := Mem.cell (v := .int .i64 N1) M15.2.2.1 4 rfl
        have c15_2_5 := Mem.cell (v := .int .u8 e5) M15.2.2.1 5 rfl
        have c15_2_6 := Mem.cell (v := .string e6) M15.2.2.1 6 rfl
        have c15_2_7 := Mem.cell (v := .string e7) M15.2.2.1 7 rfl
        have c15_2_8 := Mem.cell (v := .int .i64 e8) M15.2.2.1 8 rfl
        have c15_2_9 := Mem.cell (v := .int .i64 e9) M15.2.2.1 9 rfl
        have c15_2_10 := Mem.cell (v := .string e10) M15.2.2.1 10 rfl
        have c15_2_11 := Mem.cell (v := .string e11) M15.2.2.1 11 rfl
        have c15_2_12 := Mem.cell (v := .string e12) M15.2.2.1 12 rfl
        have z15_2 := Mem.lt M15.2.2.1
        have c15_3_0 := Mem.cell (v := .int .i64 f0) M15.2.2.2.1 0 rfl
        have c15_3_1 := Mem.cell (v := .int .i64 f1) M15.2.2.2.1 1 rfl
        have c15_3_2 := Mem.cell (v := .int .i64 T2) M15.2.2.2.1 2 rfl
        have c15_3_3 := Mem.cell (v := .int .i64 f3) M15.2.2.2.1 3 rfl
        have c15_3_4 := Mem.cell (v := .int .i64 N2) M15.2.2.2.1 4 rfl
        have c15_3_5 := Mem.cell (v := .int .u8 f5) M15.2.2.2.1 5 rfl
        have c15_3_6 := Mem.cell (v := .string f6) M15.2.2.2.1 6 rfl
        have c15_3_7 := Mem.cell (v := .string f7) M15.2.2.2.1 7 rfl
        have c15_3_8 := Mem.cell (v := .int .i64 f8) M15.2.2.2.1 8 rfl
        have c15_3_9 := Mem.cell (v := .int .i64 f9) M15.2.2.2.1 9 rfl
        have c15_3_10 := Mem.cell (v := .string f10) M15.2.2.2.1 10 rfl
        have c15_3_11 := Mem.cell (v := .string f11) M15.2.2.2.1 11 rfl
        have c15_3_12 := Mem.cell (v := .string f12) M15.2.2.2.1 12 rfl
        have z15_3 := Mem.lt M15.2.2.2.1
        simp only
        iterate 19 go_step
        have oo15_0 : bu < w15.heap.size := Mem.lt M15.1
        have oo15_1 : gs2 < w15.heap.size := Mem.lt M15.2.1
        have oo15_2 : w.heap.size + 1 < w15.heap.size := Mem.lt M15.2.2.1
        have oo15_3 : w.heap.size + 1 + 1 < w15.heap.size := Mem.lt M15.2.2.2.1
        refine wpl_named ?_
        intro w16 hW16
        have hB16 : Below w.heap.size w w16 := by rw [hW16]; exact (below_al (below_al hB15 _) _)
        have hw16 : Laid w16 := by rw [hW16]; exact ((hw15.alloc _).alloc _)
        have M16 : Mem w16 [(w15.heap.size + 1, .cells (ob (ob0)) 50), (w15.heap.size, .cells (th (th0)) 39), (bu, .cells (th ((dU2 CS CI g3 fc3 gs2 sc2))) 39), (gs2, .cells cs2 56), (w.heap.size + 1, .cells #[.int .i64 e0, .int .i64 e1, .int .i64 T1, .int .i64 e3, .int .i64 N1, .int .u8 e5, .string e6, .string e7, .int .i64 e8, .int .i64 e9, .string e10, .string e11, .string e12] 30), (w.heap.size + 1 + 1, .cells #[.int .i64 f0, .int .i64 f1, .int .i64 T2, .int .i64 f3, .int .i64 N2, .int .u8 f5, .string f6, .string f7, .int .i64 f8, .int .i64 f9, .string f10, .string f11, .string f12] 30)] := by rw [hW16]; exact ((M15).new' (w15.heap.size) (by rfl) (.cells (th (th0)) 39)).new' (w15.heap.size + 1) (by simp) (.cells (ob (ob0)) 50)
        clear z15_0 z15_1 c15_2_0 c15_2_1 c15_2_2 c15_2_3 c15_2_4 c15_2_5 c15_2_6 c15_2_7 c15_2_8 c15_2_9 c15_2_10 c15_2_11 c15_2_12 z15_2 c15_3_0 c15_3_1 c15_3_2 c15_3_3 c15_3_4 c15_3_5 c15_3_6 c15_3_7 c15_3_8 c15_3_9 c15_3_10 c15_3_11 c15_3_12 z15_3
        clear hW16
        have z16_0 := Mem.lt M16.1
        have z16_1 := Mem.lt M16.2.1
        have z16_2 := Mem.lt M16.2.2.1
        have z16_3 := Mem.lt M16.2.2.2.1
        have c16_4_0 := Mem.cell (v := .int .i64 e0) M16.2.2.2.2.1 0 rfl
        have c16_4_1 := Mem.cell (v := .int .i64 e1) M16.2.2.2.2.1 1 rfl
        have c16_4_2 := Mem.cell (v := .int .i64 T1) M16.2.2.2.2.1 2 rfl
        have c16_4_3 := Mem.cell (v := .int .i64 e3) M16.2.2.2.2.1 3 rfl
        have c16_4_4 := Mem.cell (v := .int .i64 N1) M16.2.2.2.2.1 4 rfl
        have c16_4_5 := Mem.cell (v := .int .u8 e5) M16.2.2.2.2.1 5 rfl
        have c16_4_6 := Mem.cell (v := .string e6) M16.2.2.2.2.1 6 rfl
        have c16_4_7 := Mem.cell (v := .string e7) M16.2.2.2.2.1 7 rfl
        have c16_4_8 := Mem.cell (v := .int .i64 e8) M16.2.2.2.2.1 8 rfl
        have c16_4_9 := Mem.cell (v := .int .i64 e9) M16.2.2.2.2.1 9 rfl
        have c16_4_10 := Mem.cell (v := .string e10) M16.2.2.2.2.1 10 rfl
        have c16_4_11 := Mem.cell (v := .string e11) M16.2.2.2.2.1 11 rfl
        have c16_4_12 := Mem.cell (v := .string e12) M16.2.2.2.2.1 12 rfl
        have z16_4 := Mem.lt M16.2.2.2.2.1
        have c16_5_0 := Mem.cell (v := .int .i64 f0) M16.2.2.2.2.2.1 0 rfl
        have c16_5_1 := Mem.cell (v := .int .i64 f1) M16.2.2.2.2.2.1 1 rfl
        have c16_5_2 := Mem.cell (v := .int .i64 T2) M16.2.2.2.2.2.1 2 rfl
        have c16_5_3 := Mem.cell (v := .int .i64 f3) M16.2.2.2.2.2.1 3 rfl
        have c16_5_4 := Mem.cell (v := .int .i64 N2) M16.2.2.2.2.2.1 4 rfl
        have c16_5_5 := Mem.cell (v := .int .u8 f5) M16.2.2.2.2.2.1 5 rfl
        have c16_5_6 := Mem.cell (v := .string f6) M16.2.2.2.2.2.1 6 rfl
        have c16_5_7 := Mem.cell (v := .string f7) M16.2.2.2.2.2.1 7 rfl
        have c16_5_8 := Mem.cell (v := .int .i64 f8) M16.2.2.2.2.2.1 8 rfl
        have c16_5_9 := Mem.cell (v := .int .i64 f9) M16.2.2.2.2.2.1 9 rfl
        have c16_5_10 := Mem.cell (v := .string f10) M16.2.2.2.2.2.1 10 rfl
        have c16_5_11 := Mem.cell (v := .string f11) M16.2.2.2.2.2.1 11 rfl
        have c16_5_12 := Mem.cell (v := .string f12) M16.2.2.2.2.2.1 12 rfl
        have z16_5 := Mem.lt M16.2.2.2.2.2.1
        refine store_th rfl _ _ rfl (w15.heap.size) rfl (th0) ((dV CS CI g3 fc3 gs2 sc2 0 (dS1 CS CI U1) ao cap)) rfl M16.2.1 (one_th _) ?_
        intro w17 hW17
        have hB17 : Below w.heap.size w w17 := by rw [hW17]; exact below_setCells (B := w.heap.size) hB16 (b := w15.heap.size) (by have := hB16.size; omega) 0 _
        have hw17 : Laid w17 := hw0.below hB17
        have M17 : Mem w17 [(w15.heap.size + 1, .cells (ob (ob0)) 50), (w15.heap.size, .cells (th ((dV CS CI g3 fc3 gs2 sc2 0 (dS1 CS CI U1) ao cap))) 39), (bu, .cells (th ((dU2 CS CI g3 fc3 gs2 sc2))) 39), (gs2, .cells cs2 56), (w.heap.size + 1, .cells #[.int .i64 e0, .int .i64 e1, .int .i64 T1, .int .i64 e3, .int .i64 N1, .int .u8 e5, .string e6, .string e7, .int .i64 e8, .int .i64 e9, .string e10, .string e11, .string e12] 30), (w.heap.size + 1 + 1, .cells #[.int .i64 f0, .int .i64 f1, .int .i64 T2, .int .i64 f3, .int .i64 N2, .int .u8 f5, .string f6, .string f7, .int .i64 f8, .int .i64 f9, .string f10, .string f11, .string f12] 30)] := by rw [hW17]; exact ⟨(setCells_other _ 0 _ _ (by omega)).trans M16.1, set_th M16.2.1 _, (setCells_other _ 0 _ _ (by omega)).trans M16.2.2.1, (setCells_other _ 0 _ _ (by omega)).trans M16.2.2.2.1, (setCells_other _ 0 _ _ (by omega)).trans M16.2.2.2.2.1, (setCells_other _ 0 _ _ (by omega)).trans M16.2.2.2.2.2.1, trivial⟩
        clear z16_0 z16_1 z16_2 z16_3 c16_4_0 c16_4_1 c16_4_2 c16_4_3 c16_4_4 c16_4_5 c16_4_6 c16_4_7 c16_4_8 c16_4_9 c16_4_10 c16_4_11 c16_4_12 z16_4 c16_5_0 c16_5_1 c16_5_2 c16_5_3 c16_5_4 c16_5_5 c16_5_6 c16_5_7 c16_5_8 c16_5_9 c16_5_10 c16_5_11 c16_5_12 z16_5
        clear hW17
        have z17_0 := Mem.lt M17.1
        have z17_1 := Mem.lt M17.2.1
        have z17_2 := Mem.lt M17.2.2.1
        have z17_3 := Mem.lt M17.2.2.2.1
        have c17_4_0 := Mem.cell (v := .int .i64 e0) M17.2.2.2.2.1 0 rfl
        have c17_4_1 := Mem.cell (v := .int .i64 e1) M17.2.2.2.2.1 1 rfl
        have c17_4_2 := Mem.cell (v := .int .i64 T1) M17.2.2.2.2.1 2 rfl
        have c17_4_3 := Mem.cell (v := .int .i64 e3) M17.2.2.2.2.1 3 rfl
        have c17_4_4 := Mem.cell (v := .int .i64 N1) M17.2.2.2.2.1 4 rfl
        have c17_4_5 := Mem.cell (v := .int .u8 e5) M17.2.2.2.2.1 5 rfl
        have c17_4_6 := Mem.cell (v := .string e6) M17.2.2.2.2.1 6 rfl
        have c17_4_7 := Mem.cell (v := .string e7) M17.2.2.2.2.1 7 rfl
        have c17_4_8 := Mem.cell (v := .int .i64 e8) M17.2.2.2.2.1 8 rfl
        have c17_4_9 := Mem.cell (v := .int .i64 e9) M17.2.2.2.2.1 9 rfl
        have c17_4_10 := Mem.cell (v := .string e10) M17.2.2.2.2.1 10 rfl
        have c17_4_11 := Mem.cell (v := .string e11) M17.2.2.2.2.1 11 rfl
        have c17_4_12 := Mem.cell (v := .string e12) M17.2.2.2.2.1 12 rfl
        have z17_4 := Mem.lt M17.2.2.2.2.1
        have c17_5_0 := Mem.cell (v := .int .i64 f0) M17.2.2.2.2.2.1 0 rfl
        have c17_5_1 := Mem.cell (v := .int .i64 f1) M17.2.2.2.2.2.1 1 rfl
        have c17_5_2 := Mem.cell (v := .int .i64 T2) M17.2.2.2.2.2.1 2 rfl
        have c17_5_3 := Mem.cell (v := .int .i64 f3) M17.2.2.2.2.2.1 3 rfl
        have c17_5_4 := Mem.cell (v := .int .i64 N2) M17.2.2.2.2.2.1 4 rfl
        have c17_5_5 := Mem.cell (v := .int .u8 f5) M17.2.2.2.2.2.1 5 rfl
        have c17_5_6 := Mem.cell (v := .string f6) M17.2.2.2.2.2.1 6 rfl
        have c17_5_7 := Mem.cell (v := .string f7) M17.2.2.2.2.2.1 7 rfl
        have c17_5_8 := Mem.cell (v := .int .i64 f8) M17.2.2.2.2.2.1 8 rfl
        have c17_5_9 := Mem.cell (v := .int .i64 f9) M17.2.2.2.2.2.1 9 rfl
        have c17_5_10 := Mem.cell (v := .string f10) M17.2.2.2.2.2.1 10 rfl
        have c17_5_11 := Mem.cell (v := .string f11) M17.2.2.2.2.2.1 11 rfl
        have c17_5_12 := Mem.cell (v := .string f12) M17.2.2.2.2.2.1 12 rfl
        have z17_5 := Mem.lt M17.2.2.2.2.2.1
        iterate 3 go_step
        refine store_ob rfl _ _ rfl (w15.heap.size + 1) rfl (ob0) (oo) rfl M17.1 ?_
        intro w18 hW18
        have hB18 : Below w.heap.size w w18 := by rw [hW18]; exact below_setCells (B := w.heap.size) hB17 (b := w15.heap.size + 1) (by have := hB17.size; omega) 0 _
        have hw18 : Laid w18 := hw0.below hB18
        have M18 : Mem w18 [(w15.heap.size + 1, .cells (ob (oo)) 50), (w15.heap.size, .cells (th ((dV CS CI g3 fc3 gs2 sc2 0 (dS1 CS CI U1) ao cap))) 39), (bu, .cells (th ((dU2 CS CI g3 fc3 gs2 sc2))) 39), (gs2, .cells cs2 56), (w.heap.size + 1, .cells #[.int .i64 e0, .int .i64 e1, .int .i64 T1, .int .i64 e3, .int .i64 N1, .int .u8 e5, .string e6, .string e7, .int .i64 e8, .int .i64 e9, .string e10, .string e11, .string e12] 30), (w.heap.size + 1 + 1, .cells #[.int .i64 f0, .int .i64 f1, .int .i64 T2, .int .i64 f3, .int .i64 N2, .int .u8 f5, .string f6, .string f7, .int .i64 f8, .int .i64 f9, .string f10, .string f11, .string f12] 30)] := by rw [hW18]; exact ⟨set_ob M17.1 _, (setCells_other _ 0 _ _ (by omega)).trans M17.2.1, (setCells_other _ 0 _ _ (by omega)).trans M17.2.2.1, (setCells_other _ 0 _ _ (by omega)).trans M17.2.2.2.1, (setCells_other _ 0 _ _ (by omega)).trans M17.2.2.2.2.1, (setCells_other _ 0 _ _ (by omega)).trans M17.2.2.2.2.2.1, trivial⟩
        clear z17_0 z17_1 z17_2 z17_3 c17_4_0 c17_4_1 c17_4_2 c17_4_3 c17_4_4 c17_4_5 c17_4_6 c17_4_7 c17_4_8 c17_4_9 c17_4_10 c17_4_11 c17_4_12 z17_4 c17_5_0 c17_5_1 c17_5_2 c17_5_3 c17_5_4 c17_5_5 c17_5_6 c17_5_7 c17_5_8 c17_5_9 c17_5_10 c17_5_11 c17_5_12 z17_5
        clear hW18
        have z18_0 := Mem.lt M18.1
        have z18_1 := Mem.lt M18.2.1
        have z18_2 := Mem.lt M18.2.2.1
        have z18_3 := Mem.lt M18.2.2.2.1
        have c18_4_0 := Mem.cell (v := .int .i64 e0) M18.2.2.2.2.1 0 rfl
        have c18_4_1 := Mem.cell (v := .int .i64 e1) M18.2.2.2.2.1 1 rfl
        have c18_4_2 := Mem.cell (v := .int .i64 T1) M18.2.2.2.2.1 2 rfl
        have c18_4_3 := Mem.cell (v := .int .i64 e3) M18.2.2.2.2.1 3 rfl
        have c18_4_4 := Mem.cell (v := .int .i64 N1) M18.2.2.2.2.1 4 rfl
        have c18_4_5 := Mem.cell (v := .int .u8 e5) M18.2.2.2.2.1 5 rfl
        have c18_4_6 := Mem.cell (v := .string e6) M18.2.2.2.2.1 6 rfl
        have c18_4_7 := Mem.cell (v := .string e7) M18.2.2.2.2.1 7 rfl
        have c18_4_8 := Mem.cell (v := .int .i64 e8) M18.2.2.2.2.1 8 rfl
        have c18_4_9 := Mem.cell (v := .int .i64 e9) M18.2.2.2.2.1 9 rfl
        have c18_4_10 := Mem.cell (v := .string e10) M18.2.2.2.2.1 10 rfl
        have c18_4_11 := Mem.cell (v := .string e11) M18.2.2.2.2.1 11 rfl
        have c18_4_12 := Mem.cell (v := .string e12) M18.2.2.2.2.1 12 rfl
        have z18_4 := Mem.lt M18.2.2.2.2.1
        have c18_5_0 := Mem.cell (v := .int .i64 f0) M18.2.2.2.2.2.1 0 rfl
        have c18_5_1 := Mem.cell (v := .int .i64 f1) M18.2.2.2.2.2.1 1 rfl
        have c18_5_2 := Mem.cell (v := .int .i64 T2) M18.2.2.2.2.2.1 2 rfl
        have c18_5_3 := Mem.cell (v := .int .i64 f3) M18.2.2.2.2.2.1 3 rfl
        have c18_5_4 := Mem.cell (v := .int .i64 N2) M18.2.2.2.2.2.1 4 rfl
        have c18_5_5 := Mem.cell (v := .int .u8 f5) M18.2.2.2.2.2.1 5 rfl
        have c18_5_6 := Mem.cell (v := .string f6) M18.2.2.2.2.2.1 6 rfl
        have c18_5_7 := Mem.cell (v := .string f7) M18.2.2.2.2.2.1 7 rfl
        have c18_5_8 := Mem.cell (v := .int .i64 f8) M18.2.2.2.2.2.1 8 rfl
        have c18_5_9 := Mem.cell (v := .int .i64 f9) M18.2.2.2.2.2.1 9 rfl
        have c18_5_10 := Mem.cell (v := .string f10) M18.2.2.2.2.2.1 10 rfl
        have c18_5_11 := Mem.cell (v := .string f11) M18.2.2.2.2.2.1 11 rfl
        have c18_5_12 := Mem.cell (v := .string f12) M18.2.2.2.2.2.1 12 rfl
        have z18_5 := Mem.lt M18.2.2.2.2.2.1
        go_upto_region 28 with (fail)
        refine wp_region_lit ?_
        iterate 6 go_step
        refine load_th_w rfl _ rfl (w15.heap.size) rfl (((dV CS CI g3 fc3 gs2 sc2 0 (dS1 CS CI U1) ao cap))) M18.2.1 ?_
        go_wp2_with fail
        refine Calls.named ?_
        intro W19 hW19
        have hB19_ : Below w.heap.size w W19 := by rw [hW19]; exact hB18
        have hw19_ : Laid W19 := by rw [hW19]; exact hw18
        have M19_ := M18
        rw [← hW19] at M19_
        clear hW19
        have ZZ19_0 := Lib.hid (Mem.lt M19_.1)
        have ZZ19_1 := Lib.hid (Mem.lt M19_.2.1)
        have ZZ19_2 := Lib.hid (Mem.lt M19_.2.2.1)
        have ZZ19_3 := Lib.hid (Mem.lt M19_.2.2.2.1)
        have ZZ19_4 := Lib.hid (Mem.lt M19_.2.2.2.2.1)
        have ZZ19_5 := Lib.hid (Mem.lt M19_.2.2.2.2.2.1)
        clear z18_0 z18_1 z18_2 z18_3 c18_4_0 c18_4_1 c18_4_2 c18_4_3 c18_4_4 c18_4_5 c18_4_6 c18_4_7 c18_4_8 c18_4_9 c18_4_10 c18_4_11 c18_4_12 z18_4 c18_5_0 c18_5_1 c18_5_2 c18_5_3 c18_5_4 c18_5_5 c18_5_6 c18_5_7 c18_5_8 c18_5_9 c18_5_10 c18_5_11 c18_5_12 z18_5
        refine (due_behind 0 (dS1 CS CI U1) ao cap (by decide) now (fun j hj => absurd hj (Nat.not_lt_zero j)) _ M19_.2.2.2.1 HST3.out).mono ?_
        rintro e w19 ⟨rfl, hb19⟩
        have hB19 := below_then hB19_ hb19
        have hw19 := hw19_.below hb19
        have M19 := M19_.below hb19
        clear M19_ hB19_ hb19 hw19_
        have z19_0 := Mem.lt M19.1
        have z19_1 := Mem.lt M19.2.1
        have z19_2 := Mem.lt M19.2.2.1
        have z19_3 := Mem.lt M19.2.2.2.1
        have c19_4_0 := Mem.cell (v := .int .i64 e0) M19.2.2.2.2.1 0 rfl
        have c19_4_1 := Mem.cell (v := .int .i64 e1) M19.2.2.2.2.1 1 rfl
        have c19_4_2 := Mem.cell (v := .int .i64 T1) M19.2.2.2.2.1 2 rfl
        have c19_4_3 := Mem.cell (v := .int .i64 e3) M19.2.2.2.2.1 3 rfl
        have c19_4_4 := Mem.cell (v := .int .i64 N1) M19.2.2.2.2.1 4 rfl
        have c19_4_5 := Mem.cell (v := .int .u8 e5) M19.2.2.2.2.1 5 rfl
        have c19_4_6 := Mem.cell (v := .string e6) M19.2.2.2.2.1 6 rfl
        have c19_4_7 := Mem.cell (v := .string e7) M19.2.2.2.2.1 7 rfl
        have c19_4_8 := Mem.cell (v := .int .i64 e8) M19.2.2.2.2.1 8 rfl
        have c19_4_9 := Mem.cell (v := .int .i64 e9) M19.2.2.2.2.1 9 rfl
        have c19_4_10 := Mem.cell (v := .string e10) M19.2.2.2.2.1 10 rfl
        have c19_4_11 := Mem.cell (v := .string e11) M19.2.2.2.2.1 11 rfl
        have c19_4_12 := Mem.cell (v := .string e12) M19.2.2.2.2.1 12 rfl
        have z19_4 := Mem.lt M19.2.2.2.2.1
        have c19_5_0 := Mem.cell (v := .int .i64 f0) M19.2.2.2.2.2.1 0 rfl
        have c19_5_1 := Mem.cell (v := .int .i64 f1) M19.2.2.2.2.2.1 1 rfl
        have c19_5_2 := Mem.cell (v := .int .i64 T2) M19.2.2.2.2.2.1 2 rfl
        have c19_5_3 := Mem.cell (v := .int .i64 f3) M19.2.2.2.2.2.1 3 rfl
        have c19_5_4 := Mem.cell (v := .int .i64 N2) M19.2.2.2.2.2.1 4 rfl
        have c19_5_5 := Mem.cell (v := .int .u8 f5) M19.2.2.2.2.2.1 5 rfl
        have c19_5_6 := Mem.cell (v := .string f6) M19.2.2.2.2.2.1 6 rfl
        have c19_5_7 := Mem.cell (v := .string f7) M19.2.2.2.2.2.1 7 rfl
        have c19_5_8 := Mem.cell (v := .int .i64 f8) M19.2.2.2.2.2.1 8 rfl
        have c19_5_9 := Mem.cell (v := .int .i64 f9) M19.2.2.2.2.2.1 9 rfl
        have c19_5_10 := Mem.cell (v := .string f10) M19.2.2.2.2.2.1 10 rfl
        have c19_5_11 := Mem.cell (v := .string f11) M19.2.2.2.2.2.1 11 rfl
        have c19_5_12 := Mem.cell (v := .string f12) M19.2.2.2.2.2.1 12 rfl
        have z19_5 := Mem.lt M19.2.2.2.2.2.1
        have cv9 := Mem.cell (v := .slice (ptA gs2) 0 0) M19.2.1 9 rfl
        go_wp2_with fail
        go_ret
        exact ⟨rfl, hB19⟩
      · skip
        have HD := Lib.hid hd
        clear hd
        go_upto_region 17 with (fail)
        refine wp_region_lit ?_
        refine load_th rfl _ rfl (bu) rfl ((dU2 CS CI g3 fc3 gs2 sc2)) M13.1 ?_
        go_wp2_with fail
        refine Calls.named ?_
        intro W14 hW14
        have hB14_ : Below w.heap.size w W14 := by rw [hW14]; exact hB13
        have hw14_ : Laid W14 := by rw [hW14]; exact hw13
        have M14_ := M13
        rw [← hW14] at M14_
        clear hW14
        have ZZ14_0 := Lib.hid (Mem.lt M14_.1)
        have ZZ14_1 := Lib.hid (Mem.lt M14_.2.1)
        have ZZ14_2 := Lib.hid (Mem.lt M14_.2.2.1)
        have ZZ14_3 := Lib.hid (Mem.lt M14_.2.2.2.1)
        clear z13_0 z13_1 c13_2_0 c13_2_1 c13_2_2 c13_2_3 c13_2_4 c13_2_5 c13_2_6 c13_2_7 c13_2_8 c13_2_9 c13_2_10 c13_2_11 c13_2_12 z13_2 c13_3_0 c13_3_1 c13_3_2 c13_3_3 c13_3_4 c13_3_5 c13_3_6 c13_3_7 c13_3_8 c13_3_9 c13_3_10 c13_3_11 c13_3_12 z13_3
        refine (due_due now _ M14_.2.1 HST3.out HG3.out.2.2.1).mono ?_
        rw [HD.out]
        rintro e w14 ⟨rfl, hb14⟩
        have hB14 := below_then hB14_ hb14
        have hw14 := hw14_.below hb14
        have M14 := M14_.below hb14
        clear M14_ hB14_ hb14 hw14_
        have z14_0 := Mem.lt M14.1
        have z14_1 := Mem.lt M14.2.1
        have c14_2_0 := Mem.cell (v := .int .i64 e0) M14.2.2.1 0 rfl
        have c14_2_1 := Mem.cell (v := .int .i64 e1) M14.2.2.1 1 rfl
        have c14_2_2 := Mem.cell (v := .int .i64 T1) M14.2.2.1 2 rfl
        have c14_2_3 := Mem.cell (v := .int .i64 e3) M14.2.2.1 3 rfl
        have c14_2_4 := Mem.cell (v := .int .i64 N1) M14.2.2.1 4 rfl
        have c14_2_5 := Mem.cell (v := .int .u8 e5) M14.2.2.1 5 rfl
        have c14_2_6 := Mem.cell (v := .string e6) M14.2.2.1 6 rfl
        have c14_2_7 := Mem.cell (v := .string e7) M14.2.2.1 7 rfl
        have c14_2_8 := Mem.cell (v := .int .i64 e8) M14.2.2.1 8 rfl
        have c14_2_9 := Mem.cell (v := .int .i64 e9) M14.2.2.1 9 rfl
        have c14_2_10 := Mem.cell (v := .string e10) M14.2.2.1 10 rfl
        have c14_2_11 := Mem.cell (v := .string e11) M14.2.2.1 11 rfl
        have c14_2_12 := Mem.cell (v := .string e12) M14.2.2.1 12 rfl
        have z14_2 := Mem.lt M14.2.2.1
        have c14_3_0 := Mem.cell (v := .int .i64 f0) M14.2.2.2.1 0 rfl
        have c14_3_1 := Mem.cell (v := .int .i64 f1) M14.2.2.2.1 1 rfl
        have c14_3_2 := Mem.cell (v := .int .i64 T2) M14.2.2.2.1 2 rfl
        have c14_3_3 := Mem.cell (v := .int .i64 f3) M14.2.2.2.1 3 rfl
        have c14_3_4 := Mem.cell (v := .int .i64 N2) M14.2.2.2.1 4 rfl
        have c14_3_5 := Mem.cell (v := .int .u8 f5) M14.2.2.2.1 5 rfl
        have c14_3_6 := Mem.cell (v := .string f6) M14.2.2.2.1 6 rfl
        have c14_3_7 := Mem.cell (v := .string f7) M14.2.2.2.1 7 rfl
        have c14_3_8 := Mem.cell (v := .int .i64 f8) M14.2.2.2.1 8 rfl
        have c14_3_9 := Mem.cell (v := .int .i64 f9) M14.2.2.2.1 9 rfl
        have c14_3_10 := Mem.cell (v := .string f10) M14.2.2.2.1 10 rfl
        have c14_3_11 := Mem.cell (v := .string f11) M14.2.2.2.1 11 rfl
        have c14_3_12 := Mem.cell (v := .string f12) M14.2.2.2.1 12 rfl
        have z14_3 := Mem.lt M14.2.2.2.1
        go_upto_region 27 with (fail)
        refine wp_region_lit ?_
        refine load_th rfl _ rfl (bu) rfl ((dU2 CS CI g3 fc3 gs2 sc2)) M14.1 ?_
        go_wp2_with fail
        refine Calls.named ?_
        intro W15 hW15
        have hB15_ : Below w.heap.size w W15 := by rw [hW15]; exact hB14
        have hw15_ : Laid W15 := by rw [hW15]; exact hw14
        have M15_ := M14
        rw [← hW15] at M15_
        clear hW15
        have ZZ15_0 := Lib.hid (Mem.lt M15_.1)
        have ZZ15_1 := Lib.hid (Mem.lt M15_.2.1)
        have ZZ15_2 := Lib.hid (Mem.lt M15_.2.2.1)
        have ZZ15_3 := Lib.hid (Mem.lt M15_.2.2.2.1)
        clear z14_0 z14_1 c14_2_0 c14_2_1 c14_2_2 c14_2_3 c14_2_4 c14_2_5 c14_2_6 c14_2_7 c14_2_8 c14_2_9 c14_2_10 c14_2_11 c14_2_12 z14_2 c14_3_0 c14_3_1 c14_3_2 c14_3_3 c14_3_4 c14_3_5 c14_3_6 c14_3_7 c14_3_8 c14_3_9 c14_3_10 c14_3_11 c14_3_12 z14_3
        refine (due_leave 1 (dS2 CS CI U2) (by decide) rfl HG3.out.1 HG3.out.2.1 _ M15_.2.1 HST3.out HG3.out.2.2.1 HG3.out.2.2.2).mono ?_
        rintro e w15 ⟨ao, cap, nm, oo, rfl, hb15⟩
        have hB15 := below_then hB15_ hb15
        have hw15 := hw15_.below hb15
        have M15 := M15_.below hb15
        clear M15_ hB15_ hb15 hw15_
        have z15_0 := Mem.lt M15.1
        have z15_1 := Mem.lt M15.2.1
        have c15_2_0 := Mem.cell (v := .int .i64 e0) M15.2.2.1 0 rfl
        have c15_2_1 := Mem.cell (v := .int .i64 e1) M15.2.2.1 1 rfl
        have c15_2_2 := Mem.cell (v := .int .i64 T1) M15.2.2.1 2 rfl
        have c15_2_3 := Mem.cell (v := .int .i64 e3) M15.2.2.1 3 rfl
        have c15_2_4 := Mem.cell (v := .int .i64 N1) M15.2.2.1 4 rfl
        have c15_2_5 := Mem.cell (v := .int .u8 e5) M15.2.2.1 5 rfl
        have c15_2_6 := Mem.cell (v := .string e6) M15.2.2.1 6 rfl
        have c15_2_7 := Mem.cell (v := .string e7) M15.2.2.1 7 rfl
        have c15_2_8 := Mem.cell (v := .int .i64 e8) M15.2.2.1 8 rfl
        have c15_2_9 := Mem.cell (v := .int .i64 e9) M15.2.2.1 9 rfl
        have c15_2_10 := Mem.cell (v := .string e10) M15.2.2.1 10 rfl
        have c15_2_11 := Mem.cell (v := .string e11) M15.2.2.1 11 rfl
        have c15_2_12 := Mem.cell (v := .string e12) M15.2.2.1 12 rfl
        have z15_2 := Mem.lt M15.2.2.1
        have c15_3_0 := Mem.cell (v := .int .i64 f0) M15.2.2.2.1 0 rfl
        have c15_3_1 := Mem.cell (v := .int .i64 f1) M15.2.2.2.1 1 rfl
        have c15_3_2 := Mem.cell (v := .int .i64 T2) M15.2.2.2.1 2 rfl
        have c15_3_3 := Mem.cell (v := .int .i64 f3) M15.2.2.2.1 3 rfl
        have c15_3_4 := Mem.cell (v := .int .i64 N2) M15.2.2.2.1 4 rfl
        have c15_3_5 := Mem.cell (v := .int .u8 f5) M15.2.2.2.1 5 rfl
        have c15_3_6 := Mem.cell (v := .string f6) M15.2.2.2.1 6 rfl
        have c15_3_7 := Mem.cell (v := .string f7) M15.2.2.2.1 7 rfl
        have c15_3_8 := Mem.cell (v := .int .i64 f8) M15.2.2.2.1 8 rfl
        have c15_3_9 := Mem.cell (v := .int .i64 f9) M15.2.2.2.1 9 rfl
        have c15_3_10 := Mem.cell (v := .string f10) M15.2.2.2.1 10 rfl
        have c15_3_11 := Mem.cell (v := .string f11) M15.2.2.2.1 11 rfl
        have c15_3_12 := Mem.cell (v := .string f12) M15.2.2.2.1 12 rfl
        have z15_3 := Mem.lt M15.2.2.2.1
        simp only
        iterate 19 go_step
        have oo15_0 : bu < w15.heap.size := Mem.lt M15.1
        have oo15_1 : gs2 < w15.heap.size := Mem.lt M15.2.1
        have oo15_2 : w.heap.size + 1 < w15.heap.size := Mem.lt M15.2.2.1
        have oo15_3 : w.heap.size + 1 + 1 < w15.heap.size := Mem.lt M15.2.2.2.1
        refine wpl_named ?_
        intro w16 hW16
        have hB16 : Below w.heap.size w w16 := by rw [hW16]; exact (below_al (below_al hB15 _) _)
        have hw16 : Laid w16 := by rw [hW16]; exact ((hw15.alloc _).alloc _)
        have M16 : Mem w16 [(w15.heap.size + 1, .cells (ob (ob0)) 50), (w15.heap.size, .cells (th (th0)) 39), (bu, .cells (th ((dU2 CS CI g3 fc3 gs2 sc2))) 39), (gs2, .cells cs2 56), (w.heap.size + 1, .cells #[.int .i64 e0, .int .i64 e1, .int .i64 T1, .int .i64 e3, .int .i64 N1, .int .u8 e5, .string e6, .string e7, .int .i64 e8, .int .i64 e9, .string e10, .string e11, .string e12] 30), (w.heap.size + 1 + 1, .cells #[.int .i64 f0, .int .i64 f1, .int .i64 T2, .int .i64 f3, .int .i64 N2, .int .u8 f5, .string f6, .string f7, .int .i64 f8, .int .i64 f9, .string f10, .string f11, .string f12] 30)] := by rw [hW16]; exact ((M15).new' (w15.heap.size) (by rfl) (.cells (th (th0)) 39)).new' (w15.heap.size + 1) (by simp) (.cells (ob (ob0)) 50)
        clear z15_0 z15_1 c15_2_0 c15_2_1 c15_2_2 c15_2_3 c15_2_4 c15_2_5 c15_2_6 c15_2_7 c15_2_8 c15_2_9 c15_2_10 c15_2_11 c15_2_12 z15_2 c15_3_0 c15_3_1 c15_3_2 c15_3_3 c15_3_4 c15_3_5 c15_3_6 c15_3_7 c15_3_8 c15_3_9 c15_3_10 c15_3_11 c15_3_12 z15_3
        clear hW16
        have z16_0 := Mem.lt M16.1
        have z16_1 := Mem.lt M16.2.1
        have z16_2 := Mem.lt M16.2.2.1
        have z16_3 := Mem.lt M16.2.2.2.1
        have c16_4_0 := Mem.cell (v := .int .i64 e0) M16.2.2.2.2.1 0 rfl
        have c16_4_1 := Mem.cell (v := .int .i64 e1) M16.2.2.2.2.1 1 rfl
        have c16_4_2 := Mem.cell (v := .int .i64 T1) M16.2.2.2.2.1 2 rfl
        have c16_4_3 := Mem.cell (v := .int .i64 e3) M16.2.2.2.2.1 3 rfl
        have c16_4_4 := Mem.cell (v := .int .i64 N1) M16.2.2.2.2.1 4 rfl
        have c16_4_5 := Mem.cell (v := .int .u8 e5) M16.2.2.2.2.1 5 rfl
        have c16_4_6 := Mem.cell (v := .string e6) M16.2.2.2.2.1 6 rfl
        have c16_4_7 := Mem.cell (v := .string e7) M16.2.2.2.2.1 7 rfl
        have c16_4_8 := Mem.cell (v := .int .i64 e8) M16.2.2.2.2.1 8 rfl
        have c16_4_9 := Mem.cell (v := .int .i64 e9) M16.2.2.2.2.1 9 rfl
        have c16_4_10 := Mem.cell (v := .string e10) M16.2.2.2.2.1 10 rfl
        have c16_4_11 := Mem.cell (v := .string e11) M16.2.2.2.2.1 11 rfl
        have c16_4_12 := Mem.cell (v := .string e12) M16.2.2.2.2.1 12 rfl
        have z16_4 := Mem.lt M16.2.2.2.2.1
        have c16_5_0 := Mem.cell (v := .int .i64 f0) M16.2.2.2.2.2.1 0 rfl
        have c16_5_1 := Mem.cell (v := .int .i64 f1) M16.2.2.2.2.2.1 1 rfl
        have c16_5_2 := Mem.cell (v := .int .i64 T2) M16.2.2.2.2.2.1 2 rfl
        have c16_5_3 := Mem.cell (v := .int .i64 f3) M16.2.2.2.2.2.1 3 rfl
        have c16_5_4 := Mem.cell (v := .int .i64 N2) M16.2.2.2.2.2.1 4 rfl
        have c16_5_5 := Mem.cell (v := .int .u8 f5) M16.2.2.2.2.2.1 5 rfl
        have c16_5_6 := Mem.cell (v := .string f6) M16.2.2.2.2.2.1 6 rfl
        have c16_5_7 := Mem.cell (v := .string f7) M16.2.2.2.2.2.1 7 rfl
        have c16_5_8 := Mem.cell (v := .int .i64 f8) M16.2.2.2.2.2.1 8 rfl
        have c16_5_9 := Mem.cell (v := .int .i64 f9) M16.2.2.2.2.2.1 9 rfl
        have c16_5_10 := Mem.cell (v := .string f10) M16.2.2.2.2.2.1 10 rfl
        have c16_5_11 := Mem.cell (v := .string f11) M16.2.2.2.2.2.1 11 rfl
        have c16_5_12 := Mem.cell (v := .string f12) M16.2.2.2.2.2.1 12 rfl
        have z16_5 := Mem.lt M16.2.2.2.2.2.1
        refine store_th rfl _ _ rfl (w15.heap.size) rfl (th0) ((dV CS CI g3 fc3 gs2 sc2 1 (dS2 CS CI U2) ao cap)) rfl M16.2.1 (one_th _) ?_
        intro w17 hW17
        have hB17 : Below w.heap.size w w17 := by rw [hW17]; exact below_setCells (B := w.heap.size) hB16 (b := w15.heap.size) (by have := hB16.size; omega) 0 _
        have hw17 : Laid w17 := hw0.below hB17
        have M17 : Mem w17 [(w15.heap.size + 1, .cells (ob (ob0)) 50), (w15.heap.size, .cells (th ((dV CS CI g3 fc3 gs2 sc2 1 (dS2 CS CI U2) ao cap))) 39), (bu, .cells (th ((dU2 CS CI g3 fc3 gs2 sc2))) 39), (gs2, .cells cs2 56), (w.heap.size + 1, .cells #[.int .i64 e0, .int .i64 e1, .int .i64 T1, .int .i64 e3, .int .i64 N1, .int .u8 e5, .string e6, .string e7, .int .i64 e8, .int .i64 e9, .string e10, .string e11, .string e12] 30), (w.heap.size + 1 + 1, .cells #[.int .i64 f0, .int .i64 f1, .int .i64 T2, .int .i64 f3, .int .i64 N2, .int .u8 f5, .string f6, .string f7, .int .i64 f8, .int .i64 f9, .string f10, .string f11, .string f12] 30)] := by rw [hW17]; exact ⟨(setCells_other _ 0 _ _ (by omega)).trans M16.1, set_th M16.2.1 _, (setCells_other _ 0 _ _ (by omega)).trans M16.2.2.1, (setCells_other _ 0 _ _ (by omega)).trans M16.2.2.2.1, (setCells_other _ 0 _ _ (by omega)).trans M16.2.2.2.2.1, (setCells_other _ 0 _ _ (by omega)).trans M16.2.2.2.2.2.1, trivial⟩
        clear z16_0 z16_1 z16_2 z16_3 c16_4_0 c16_4_1 c16_4_2 c16_4_3 c16_4_4 c16_4_5 c16_4_6 c16_4_7 c16_4_8 c16_4_9 c16_4_10 c16_4_11 c16_4_12 z16_4 c16_5_0 c16_5_1 c16_5_2 c16_5_3 c16_5_4 c16_5_5 c16_5_6 c16_5_7 c16_5_8 c16_5_9 c16_5_10 c16_5_11 c16_5_12 z16_5
        clear hW17
        have z17_0 := Mem.lt M17.1
        have z17_1 := Mem.lt M17.2.1
        have z17_2 := Mem.lt M17.2.2.1
        have z17_3 := Mem.lt M17.2.2.2.1
        have c17_4_0 := Mem.cell (v := .int .i64 e0) M17.2.2.2.2.1 0 rfl
        have c17_4_1 := Mem.cell (v := .int .i64 e1) M17.2.2.2.2.1 1 rfl
        have c17_4_2 := Mem.cell (v := .int .i64 T1) M17.2.2.2.2.1 2 rfl
        have c17_4_3 := Mem.cell (v := .int .i64 e3) M17.2.2.2.2.1 3 rfl
        have c17_4_4 := Mem.cell (v := .int .i64 N1) M17.2.2.2.2.1 4 rfl
        have c17_4_5 := Mem.cell (v := .int .u8 e5) M17.2.2.2.2.1 5 rfl
        have c17_4_6 := Mem.cell (v := .string e6) M17.2.2.2.2.1 6 rfl
        have c17_4_7 := Mem.cell (v := .string e7) M17.2.2.2.2.1 7 rfl
        have c17_4_8 := Mem.cell (v := .int .i64 e8) M17.2.2.2.2.1 8 rfl
        have c17_4_9 := Mem.cell (v := .int .i64 e9) M17.2.2.2.2.1 9 rfl
        have c17_4_10 := Mem.cell (v := .string e10) M17.2.2.2.2.1 10 rfl
        have c17_4_11 := Mem.cell (v := .string e11) M17.2.2.2.2.1 11 rfl
        have c17_4_12 := Mem.cell (v := .string e12) M17.2.2.2.2.1 12 rfl
        have z17_4 := Mem.lt M17.2.2.2.2.1
        have c17_5_0 := Mem.cell (v := .int .i64 f0) M17.2.2.2.2.2.1 0 rfl
        have c17_5_1 := Mem.cell (v := .int .i64 f1) M17.2.2.2.2.2.1 1 rfl
        have c17_5_2 := Mem.cell (v := .int .i64 T2) M17.2.2.2.2.2.1 2 rfl
        have c17_5_3 := Mem.cell (v := .int .i64 f3) M17.2.2.2.2.2.1 3 rfl
        have c17_5_4 := Mem.cell (v := .int .i64 N2) M17.2.2.2.2.2.1 4 rfl
        have c17_5_5 := Mem.cell (v := .int .u8 f5) M17.2.2.2.2.2.1 5 rfl
        have c17_5_6 := Mem.cell (v := .string f6) M17.2.2.2.2.2.1 6 rfl
        have c17_5_7 := Mem.cell (v := .string f7) M17.2.2.2.2.2.1 7 rfl
        have c17_5_8 := Mem.cell (v := .int .i64 f8) M17.2.2.2.2.2.1 8 rfl
        have c17_5_9 := Mem.cell (v := .int .i64 f9) M17.2.2.2.2.2.1 9 rfl
        have c17_5_10 := Mem.cell (v := .string f10) M17.2.2.2.2.2.1 10 rfl
        have c17_5_11 := Mem.cell (v := .string f11) M17.2.2.2.2.2.1 11 rfl
        have c17_5_12 := Mem.cell (v := .string f12) M17.2.2.2.2.2.1 12 rfl
        have z17_5 := Mem.lt M17.2.2.2.2.2.1
        iterate 3 go_step
        refine store_ob rfl _ _ rfl (w15.heap.size + 1) rfl (ob0) (oo) rfl M17.1 ?_
        intro w18 hW18
        have hB18 : Below w.heap.size w w18 := by rw [hW18]; exact below_setCells (B := w.heap.size) hB17 (b := w15.heap.size + 1) (by have := hB17.size; omega) 0 _
        have hw18 : Laid w18 := hw0.below hB18
        have M18 : Mem w18 [(w15.heap.size + 1, .cells (ob (oo)) 50), (w15.heap.size, .cells (th ((dV CS CI g3 fc3 gs2 sc2 1 (dS2 CS CI U2) ao cap))) 39), (bu, .cells (th ((dU2 CS CI g3 fc3 gs2 sc2))) 39), (gs2, .cells cs2 56), (w.heap.size + 1, .cells #[.int .i64 e0, .int .i64 e1, .int .i64 T1, .int .i64 e3, .int .i64 N1, .int .u8 e5, .string e6, .string e7, .int .i64 e8, .int .i64 e9, .string e10, .string e11, .string e12] 30), (w.heap.size + 1 + 1, .cells #[.int .i64 f0, .int .i64 f1, .int .i64 T2, .int .i64 f3, .int .i64 N2, .int .u8 f5, .string f6, .string f7, .int .i64 f8, .int .i64 f9, .string f10, .string f11, .string f12] 30)] := by rw [hW18]; exact ⟨set_ob M17.1 _, (setCells_other _ 0 _ _ (by omega)).trans M17.2.1, (setCells_other _ 0 _ _ (by omega)).trans M17.2.2.1, (setCells_other _ 0 _ _ (by omega)).trans M17.2.2.2.1, (setCells_other _ 0 _ _ (by omega)).trans M17.2.2.2.2.1, (setCells_other _ 0 _ _ (by omega)).trans M17.2.2.2.2.2.1, trivial⟩
        clear z17_0 z17_1 z17_2 z17_3 c17_4_0 c17_4_1 c17_4_2 c17_4_3 c17_4_4 c17_4_5 c17_4_6 c17_4_7 c17_4_8 c17_4_9 c17_4_10 c17_4_11 c17_4_12 z17_4 c17_5_0 c17_5_1 c17_5_2 c17_5_3 c17_5_4 c17_5_5 c17_5_6 c17_5_7 c17_5_8 c17_5_9 c17_5_10 c17_5_11 c17_5_12 z17_5
        clear hW18
        have z18_0 := Mem.lt M18.1
        have z18_1 := Mem.lt M18.2.1
        have z18_2 := Mem.lt M18.2.2.1
        have z18_3 := Mem.lt M18.2.2.2.1
        have c18_4_0 := Mem.cell (v := .int .i64 e0) M18.2.2.2.2.1 0 rfl
        have c18_4_1 := Mem.cell (v := .int .i64 e1) M18.2.2.2.2.1 1 rfl
        have c18_4_2 := Mem.cell (v := .int .i64 T1) M18.2.2.2.2.1 2 rfl
        have c18_4_3 := Mem.cell (v := .int .i64 e3) M18.2.2.2.2.1 3 rfl
        have c18_4_4 := Mem.cell (v := .int .i64 N1) M18.2.2.2.2.1 4 rfl
        have c18_4_5 := Mem.cell (v := .int .u8 e5) M18.2.2.2.2.1 5 rfl
        have c18_4_6 := Mem.cell (v := .string e6) M18.2.2.2.2.1 6 rfl
        have c18_4_7 := Mem.cell (v := .string e7) M18.2.2.2.2.1 7 rfl
        have c18_4_8 := Mem.cell (v := .int .i64 e8) M18.2.2.2.2.1 8 rfl
        have c18_4_9 := Mem.cell (v := .int .i64 e9) M18.2.2.2.2.1 9 rfl
        have c18_4_10 := Mem.cell (v := .string e10) M18.2.2.2.2.1 10 rfl
        have c18_4_11 := Mem.cell (v := .string e11) M18.2.2.2.2.1 11 rfl
        have c18_4_12 := Mem.cell (v := .string e12) M18.2.2.2.2.1 12 rfl
        have z18_4 := Mem.lt M18.2.2.2.2.1
        have c18_5_0 := Mem.cell (v := .int .i64 f0) M18.2.2.2.2.2.1 0 rfl
        have c18_5_1 := Mem.cell (v := .int .i64 f1) M18.2.2.2.2.2.1 1 rfl
        have c18_5_2 := Mem.cell (v := .int .i64 T2) M18.2.2.2.2.2.1 2 rfl
        have c18_5_3 := Mem.cell (v := .int .i64 f3) M18.2.2.2.2.2.1 3 rfl
        have c18_5_4 := Mem.cell (v := .int .i64 N2) M18.2.2.2.2.2.1 4 rfl
        have c18_5_5 := Mem.cell (v := .int .u8 f5) M18.2.2.2.2.2.1 5 rfl
        have c18_5_6 := Mem.cell (v := .string f6) M18.2.2.2.2.2.1 6 rfl
        have c18_5_7 := Mem.cell (v := .string f7) M18.2.2.2.2.2.1 7 rfl
        have c18_5_8 := Mem.cell (v := .int .i64 f8) M18.2.2.2.2.2.1 8 rfl
        have c18_5_9 := Mem.cell (v := .int .i64 f9) M18.2.2.2.2.2.1 9 rfl
        have c18_5_10 := Mem.cell (v := .string f10) M18.2.2.2.2.2.1 10 rfl
        have c18_5_11 := Mem.cell (v := .string f11) M18.2.2.2.2.2.1 11 rfl
        have c18_5_12 := Mem.cell (v := .string f12) M18.2.2.2.2.2.1 12 rfl
        have z18_5 := Mem.lt M18.2.2.2.2.2.1
        go_upto_region 28 with (fail)
        refine wp_region_lit ?_
        iterate 6 go_step
        refine load_th_w rfl _ rfl (w15.heap.size) rfl (((dV CS CI g3 fc3 gs2 sc2 1 (dS2 CS CI U2) ao cap))) M18.2.1 ?_
        go_wp2_with fail
        refine Calls.named ?_
        intro W19 hW19
        have hB19_ : Below w.heap.size w W19 := by rw [hW19]; exact hB18
        have hw19_ : Laid W19 := by rw [hW19]; exact hw18
        have M19_ := M18
        rw [← hW19] at M19_
        clear hW19
        have ZZ19_0 := Lib.hid (Mem.lt M19_.1)
        have ZZ19_1 := Lib.hid (Mem.lt M19_.2.1)
        have ZZ19_2 := Lib.hid (Mem.lt M19_.2.2.1)
        have ZZ19_3 := Lib.hid (Mem.lt M19_.2.2.2.1)
        have ZZ19_4 := Lib.hid (Mem.lt M19_.2.2.2.2.1)
        have ZZ19_5 := Lib.hid (Mem.lt M19_.2.2.2.2.2.1)
        clear z18_0 z18_1 z18_2 z18_3 c18_4_0 c18_4_1 c18_4_2 c18_4_3 c18_4_4 c18_4_5 c18_4_6 c18_4_7 c18_4_8 c18_4_9 c18_4_10 c18_4_11 c18_4_12 z18_4 c18_5_0 c18_5_1 c18_5_2 c18_5_3 c18_5_4 c18_5_5 c18_5_6 c18_5_7 c18_5_8 c18_5_9 c18_5_10 c18_5_11 c18_5_12 z18_5
        refine (due_behind 1 (dS2 CS CI U2) ao cap (by decide) now (show ∀ j, j < 1 → ¬ U1 ≤ now from fun _ _ => by omega) _ M19_.2.2.2.1 HST3.out).mono ?_
        rintro e w19 ⟨rfl, hb19⟩
        have hB19 := below_then hB19_ hb19
        have hw19 := hw19_.below hb19
        have M19 := M19_.below hb19
        clear M19_ hB19_ hb19 hw19_
        have z19_0 := Mem.lt M19.1
        have z19_1 := Mem.lt M19.2.1
        have z19_2 := Mem.lt M19.2.2.1
        have z19_3 := Mem.lt M19.2.2.2.1
        have c19_4_0 := Mem.cell (v := .int .i64 e0) M19.2.2.2.2.1 0 rfl
        have c19_4_1 := Mem.cell (v := .int .i64 e1) M19.2.2.2.2.1 1 rfl
        have c19_4_2 := Mem.cell (v := .int .i64 T1) M19.2.2.2.2.1 2 rfl
        have c19_4_3 := Mem.cell (v := .int .i64 e3) M19.2.2.2.2.1 3 rfl
        have c19_4_4 := Mem.cell (v := .int .i64 N1) M19.2.2.2.2.1 4 rfl
        have c19_4_5 := Mem.cell (v := .int .u8 e5) M19.2.2.2.2.1 5 rfl
        have c19_4_6 := Mem.cell (v := .string e6) M19.2.2.2.2.1 6 rfl
        have c19_4_7 := Mem.cell (v := .string e7) M19.2.2.2.2.1 7 rfl
        have c19_4_8 := Mem.cell (v := .int .i64 e8) M19.2.2.2.2.1 8 rfl
        have c19_4_9 := Mem.cell (v := .int .i64 e9) M19.2.2.2.2.1 9 rfl
        have c19_4_10 := Mem.cell (v := .string e10) M19.2.2.2.2.1 10 rfl
        have c19_4_11 := Mem.cell (v := .string e11) M19.2.2.2.2.1 11 rfl
        have c19_4_12 := Mem.cell (v := .string e12) M19.2.2.2.2.1 12 rfl
        have z19_4 := Mem.lt M19.2.2.2.2.1
        have c19_5_0 := Mem.cell (v := .int .i64 f0) M19.2.2.2.2.2.1 0 rfl
        have c19_5_1 := Mem.cell (v := .int .i64 f1) M19.2.2.2.2.2.1 1 rfl
        have c19_5_2 := Mem.cell (v := .int .i64 T2) M19.2.2.2.2.2.1 2 rfl
        have c19_5_3 := Mem.cell (v := .int .i64 f3) M19.2.2.2.2.2.1 3 rfl
        have c19_5_4 := Mem.cell (v := .int .i64 N2) M19.2.2.2.2.2.1 4 rfl
        have c19_5_5 := Mem.cell (v := .int .u8 f5) M19.2.2.2.2.2.1 5 rfl
        have c19_5_6 := Mem.cell (v := .string f6) M19.2.2.2.2.2.1 6 rfl
        have c19_5_7 := Mem.cell (v := .string f7) M19.2.2.2.2.2.1 7 rfl
        have c19_5_8 := Mem.cell (v := .int .i64 f8) M19.2.2.2.2.2.1 8 rfl
        have c19_5_9 := Mem.cell (v := .int .i64 f9) M19.2.2.2.2.2.1 9 rfl
        have c19_5_10 := Mem.cell (v := .string f10) M19.2.2.2.2.2.1 10 rfl
        have c19_5_11 := Mem.cell (v := .string f11) M19.2.2.2.2.2.1 11 rfl
        have c19_5_12 := Mem.cell (v := .string f12) M19.2.2.2.2.2.1 12 rfl
        have z19_5 := Mem.lt M19.2.2.2.2.2.1
        have cv9 := Mem.cell (v := .slice (ptA gs2) 1 1) M19.2.1 9 rfl
        go_wp2_with fail
        go_ret
        exact ⟨rfl, hB19⟩
      · skip
        have HD := Lib.hid hd
        clear hd
        go_upto_region 17 with (fail)
        refine wp_region_lit ?_
        refine load_th rfl _ rfl (bu) rfl ((dU2 CS CI g3 fc3 gs2 sc2)) M13.1 ?_
        go_wp2_with fail
        refine Calls.named ?_
        intro W14 hW14
        have hB14_ : Below w.heap.size w W14 := by rw [hW14]; exact hB13
        have hw14_ : Laid W14 := by rw [hW14]; exact hw13
        have M14_ := M13
        rw [← hW14] at M14_
        clear hW14
        have ZZ14_0 := Lib.hid (Mem.lt M14_.1)
        have ZZ14_1 := Lib.hid (Mem.lt M14_.2.1)
        have ZZ14_2 := Lib.hid (Mem.lt M14_.2.2.1)
        have ZZ14_3 := Lib.hid (Mem.lt M14_.2.2.2.1)
        clear z13_0 z13_1 c13_2_0 c13_2_1 c13_2_2 c13_2_3 c13_2_4 c13_2_5 c13_2_6 c13_2_7 c13_2_8 c13_2_9 c13_2_10 c13_2_11 c13_2_12 z13_2 c13_3_0 c13_3_1 c13_3_2 c13_3_3 c13_3_4 c13_3_5 c13_3_6 c13_3_7 c13_3_8 c13_3_9 c13_3_10 c13_3_11 c13_3_12 z13_3
        refine (due_due now _ M14_.2.1 HST3.out HG3.out.2.2.1).mono ?_
        rw [HD.out]
        rintro e w14 ⟨rfl, hb14⟩
        have hB14 := below_then hB14_ hb14
        have hw14 := hw14_.below hb14
        have M14 := M14_.below hb14
        clear M14_ hB14_ hb14 hw14_
        have z14_0 := Mem.lt M14.1
        have z14_1 := Mem.lt M14.2.1
        have c14_2_0 := Mem.cell (v := .int .i64 e0) M14.2.2.1 0 rfl
        have c14_2_1 := Mem.cell (v := .int .i64 e1) M14.2.2.1 1 rfl
        have c14_2_2 := Mem.cell (v := .int .i64 T1) M14.2.2.1 2 rfl
        have c14_2_3 := Mem.cell (v := .int .i64 e3) M14.2.2.1 3 rfl
        have c14_2_4 := Mem.cell (v := .int .i64 N1) M14.2.2.1 4 rfl
        have c14_2_5 := Mem.cell (v := .int .u8 e5) M14.2.2.1 5 rfl
        have c14_2_6 := Mem.cell (v := .string e6) M14.2.2.1 6 rfl
        have c14_2_7 := Mem.cell (v := .string e7) M14.2.2.1 7 rfl
        have c14_2_8 := Mem.cell (v := .int .i64 e8) M14.2.2.1 8 rfl
        have c14_2_9 := Mem.cell (v := .int .i64 e9) M14.2.2.1 9 rfl
        have c14_2_10 := Mem.cell (v := .string e10) M14.2.2.1 10 rfl
        have c14_2_11 := Mem.cell (v := .string e11) M14.2.2.1 11 rfl
        have c14_2_12 := Mem.cell (v := .string e12) M14.2.2.1 12 rfl
        have z14_2 := Mem.lt M14.2.2.1
        have c14_3_0 := Mem.cell (v := .int .i64 f0) M14.2.2.2.1 0 rfl
        have c14_3_1 := Mem.cell (v := .int .i64 f1) M14.2.2.2.1 1 rfl
        have c14_3_2 := Mem.cell (v := .int .i64 T2) M14.2.2.2.1 2 rfl
        have c14_3_3 := Mem.cell (v := .int .i64 f3) M14.2.2.2.1 3 rfl
        have c14_3_4 := Mem.cell (v := .int .i64 N2) M14.2.2.2.1 4 rfl
        have c14_3_5 := Mem.cell (v := .int .u8 f5) M14.2.2.2.1 5 rfl
        have c14_3_6 := Mem.cell (v := .string f6) M14.2.2.2.1 6 rfl
        have c14_3_7 := Mem.cell (v := .string f7) M14.2.2.2.1 7 rfl
        have c14_3_8 := Mem.cell (v := .int .i64 f8) M14.2.2.2.1 8 rfl
        have c14_3_9 := Mem.cell (v := .int .i64 f9) M14.2.2.2.1 9 rfl
        have c14_3_10 := Mem.cell (v := .string f10) M14.2.2.2.1 10 rfl
        have c14_3_11 := Mem.cell (v := .string f11) M14.2.2.2.1 11 rfl
        have c14_3_12 := Mem.cell (v := .string f12) M14.2.2.2.1 12 rfl
        have z14_3 := Mem.lt M14.2.2.2.1
        go_wp2_with fail
        go_ret
        exact ⟨rfl, hB14⟩
end Go.Proofs.YtnmepcogijgbjaaGreatDoor
