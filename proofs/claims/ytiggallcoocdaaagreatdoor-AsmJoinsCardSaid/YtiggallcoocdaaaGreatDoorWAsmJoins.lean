/- Texts of two programs without constants, one behind the other, are the program of the functions of both. The walk: the law answers true; no memory that was there is turned. Conditions: the listed package variables hold what the program's text lays; every other argument of the parameter types. -/
import Derived.Test.YtiggallcoocdaaaGreatDoorZD
namespace Go.Proofs.YtiggallcoocdaaaGreatDoor
open Go.RowKit
theorem ow_other {w : World} {B k n b : Nat} {e T : TypeId} {v : Value} {xs : List Value} {cur : Array Value} (h : w.ownsRow B e k v n xs) (hb : w.heap[b]? = some (.cells cur T)) (ht : T ≠ e) (o : Nat) (vs : List Value) : (w.setCells b o vs).ownsRow B e k v n xs := by
  refine ⟨h.1, ?_⟩
  rcases h.2 with h0 | ⟨g, cap, cu, hv, hB, hg, r⟩
  · exact .inl h0
  · refine .inr ⟨g, cap, cu, hv, hB, (setCells_other vs o w g ?_).trans hg, r⟩
    intro e2
    subst e2
    rw [hb] at hg
    cases hg
    exact ht rfl
theorem FnOwn.other {w : World} {B b : Nat} {T : TypeId} {v : Value} {fs : List Fn} {cur : Array Value} (h : FnOwn w B v fs) (hb : w.heap[b]? = some (.cells cur T)) (h1 : T ≠ 37) (h2 : T ≠ 52) (o : Nat) (vs : List Value) : FnOwn (w.setCells b o vs) B v fs := by
  obtain ⟨rows, r1, r2, r3⟩ := h
  refine ⟨rows, r1, ow_other r2 hb h1 o vs, fun i f hi => ?_⟩
  obtain ⟨ao, cap, e, ho⟩ := r3 i f hi
  exact ⟨ao, cap, e, ow_other ho hb h2 o vs⟩
theorem addr_add0 (g j : Nat) : (⟨g, 0, none⟩ : Addr).add j = ⟨g, j, none⟩ := by unfold Addr.add; split <;> simp_all
theorem keep_new {wA wB : World} {N k n : Nat} {e : TypeId} {v : Value} {xs : List Value} (h : wA.ownsRow N e k v n xs) (X : Array Value) (T : TypeId) (hT : T ≠ e) (hg : (wA.alloc (.cells X T)).grownBy wB v.ownBlock) : wB.heap[wA.heap.size]? = some (.cells X T) :=
  (hg.block wA.heap.size (by simp) (ne_row (h.alloc (.cells X T)) (heap_alloc_new wA (.cells X T)) hT)).trans (heap_alloc_new wA (.cells X T))
/-- functions of the call's own as an append takes them -/
theorem FnOwn.news {w : World} {B : Nat} {fo : Option Addr} {n fc : Nat} {fs : List Fn} (h : FnOwn w B (.slice fo n fc) fs) (h0 : 0 < fs.length) :
    ∃ (g : Nat) (rows : List (List Value)), fo = some ⟨g, 0, none⟩ ∧ n = fs.length ∧ rows.length = fs.length ∧ rows.flatten.length = fs.length * 3 ∧ (∀ u ∈ rows.flatten, u.oneCell' = true) ∧ (∀ W, Below w.heap.size w W → ∀ j u, rows.flatten[j]? = some u → W.cell? ((⟨g, 0, none⟩ : Addr).add j) = some u) ∧
      ∀ (i : Nat) (f : Fn), fs[i]? = some f → ∃ c, rows[i]? = some (frow f c) ∧ OsAt w c f.c := by
  have hF := h.at
  obtain ⟨rows, r1, r2, r3⟩ := h
  have hw : Wide 3 rows := by
    intro r hr
    obtain ⟨i, hi⟩ := List.getElem?_of_mem hr
    have hlt : i < fs.length := by rw [← r1]; exact (List.getElem?_eq_some_iff.1 hi).1
    obtain ⟨ao, cap, e, _⟩ := r3 i fs[i] (List.getElem?_eq_getElem hlt)
    rw [e] at hi
    obtain rfl := Option.some.inj hi
    refine ⟨rfl, fun x hx => ?_⟩
    simp only [frow, List.mem_cons, List.not_mem_nil, or_false] at hx
    rcases hx with rfl | rfl | rfl <;> rfl
  rcases r2.2 with ⟨hv, h1⟩ | ⟨g, cap, cur, hv, hB, hg, q1, q2, q3, q4⟩
  · omega
  · simp only [Value.slice.injEq] at hv
    obtain ⟨rfl, rfl, rfl⟩ := hv
    refine ⟨g, rows, rfl, rfl, r1, r2.1, hw.one, fun W hb j u hj => ?_, fun i f hi => ?_⟩
    · rw [addr_add0, hb.cell (p := ⟨g, j, none⟩) (Mem.lt hg)]
      refine Mem.cell hg j ?_
      rw [← q4, List.getElem?_take] at hj
      split at hj
      · rwa [Array.getElem?_toList] at hj
      · cases hj
    · obtain ⟨ao, cp, e, ho⟩ := r3 i f hi
      have hwo : Wide 2 (f.c.map orow) := wide_os f.c
      exact ⟨_, e, SlotsAt.of_owns hwo ho (by simp) rfl⟩
theorem FsAt.join {w : World} {B : Nat} {v : Value} {a b : List Fn} {ra rb : List (List Value)} (ha : ra.length = a.length) (hb : rb.length = b.length) (ca : ∀ (i : Nat) (f : Fn), a[i]? = some f → ∃ c, ra[i]? = some (frow f c) ∧ OsAt w c f.c) (cb : ∀ (i : Nat) (f : Fn), b[i]? = some f → ∃ c, rb[i]? = some (frow f c) ∧ OsAt w c f.c)
    (h : w.ownsRow B 37 3 v (a.length + b.length) (ra.flatten ++ rb.flatten)) : FsAt w v (a ++ b) := by
  have key : ∀ (i : Nat) (f : Fn), (a ++ b)[i]? = some f → ∃ c, (ra ++ rb)[i]? = some (frow f c) ∧ OsAt w c f.c := by
    intro i f hi
    by_cases hl : i < a.length
    · rw [List.getElem?_append_left hl] at hi
      rw [List.getElem?_append_left (by omega)]
      exact ca i f hi
    · rw [List.getElem?_append_right (by omega)] at hi
      rw [List.getElem?_append_right (by omega), ha]
      exact cb _ f hi
  have hlen : (ra ++ rb).length = (a ++ b).length := by simp [ha, hb]
  refine ⟨ra ++ rb, hlen, SlotsAt.of_owns ?_ h (by simp [ha, hb]) (by simp), key⟩
  intro r hr
  obtain ⟨i, hi⟩ := List.getElem?_of_mem hr
  have hlt : i < (a ++ b).length := by rw [← hlen]; exact (List.getElem?_eq_some_iff.1 hi).1
  obtain ⟨c, e, _⟩ := key i (a ++ b)[i] (List.getElem?_eq_getElem hlt)
  rw [e] at hi
  obtain rfl := Option.some.inj hi
  refine ⟨rfl, fun x hx => ?_⟩
  have hc : c.oneCell' = true := by
    obtain ⟨_, _, ho⟩ := (show OsAt w c _ by assumption).slice
    rw [ho]
    rfl
  simp only [frow, List.mem_cons, List.not_mem_nil, or_false] at hx
  rcases hx with rfl | rfl | rfl
  · rfl
  · rfl
  · exact hc
theorem none_check {fs : List Fn} (h0 : 0 < fs.length) (hl : fs.length ≤ 16) (hg : ∀ f ∈ fs, fnGood f) : Im.check ⟨[], fs⟩ = 0 := by
  unfold Im.check
  rw [if_neg (by simp; omega), if_pos (show ([] : List Vl).all Vl.const = true from rfl), if_neg (by simp only; omega)]
  exact firstE_none fun f hf => fn_check (hg f hf)
theorem nil_at (w : World) : VsAt w (.slice none 0 0) [] := VsAt.of_owns (B := 0) ⟨rfl, .inl ⟨rfl, rfl⟩⟩
theorem nil_sized (fs : List Fn) : Im.sized ⟨[], fs⟩ := fun v hv => by simp at hv
set_option maxRecDepth 100000 in
set_option maxHeartbeats 8000000 in
theorem asmJoins_walk (v : Value) (ll : List (List UInt8)) (v2 : Value) (ll2 : List (List UInt8)) (w : World) (hL : LsAt w v ll) (hK : LsAt w v2 ll2) (hw : LaidI w) :
    Calls Tryz.prog 7 #[v, v2] w fun e w' => e = .returned (.bool true) ∧ Below w.heap.size w w' := by
  obtain ⟨vo, vc, rfl⟩ := hL.slice
  obtain ⟨vo2, vc2, rfl⟩ := hK.slice
  go_enter Tryz.func7, Tryz.ntmps7
  have hB0 := Below.refl w.heap.size w
  have M0 := Mem.nil w
  have hw0 := hw
  go_wp2_with fail
  refine Calls.named ?_
  intro W1 hW1
  have hB1_ : Below w.heap.size w W1 := by rw [hW1]; exact hB0
  have hw1_ : LaidI W1 := by rw [hW1]; exact hw
  have M1_ := Mem.nil W1
  have hS1 : Below w.heap.size w W1 := by rw [hW1]; exact (Below.refl _ _)
  have hL_ := LsAt.below hL hS1
  have hK_ := LsAt.below hK hS1
  clear hS1 hL hK
  clear hW1
  refine (aex_any _ hw1_).mono ?_
  rintro e w1 ⟨rfl, hb1⟩
  have hL := LsAt.below hL_ hb1
  have hK := LsAt.below hK_ hb1
  clear hL_ hK_
  have hB1 := below_then hB1_ hb1
  have hw1 := hw1_.below hb1
  have M1 := M1_.below hb1
  clear M1_ hB1_ hb1 hw1_
  go_wp2_with fail
  refine Calls.named ?_
  intro W2 hW2
  have hB2_ : Below w.heap.size w W2 := by rw [hW2]; exact hB1
  have hw2_ : LaidI W2 := by rw [hW2]; exact hw1
  have M2_ := Mem.nil W2
  have hS2 : Below w1.heap.size w1 W2 := by rw [hW2]; exact (Below.refl _ _)
  have hL_ := LsAt.below hL hS2
  have hK_ := LsAt.below hK hS2
  clear hS2 hL hK
  clear hW2
  refine (made_c _ _ _ hL_).mono ?_
  rintro e w2 ⟨fa, co, cc, fo, fc, rfl, hA0, hb2⟩
  have hL := LsAt.below hL_ hb2
  have hK := LsAt.below hK_ hb2
  clear hL_ hK_
  have hB2 := below_then hB2_ hb2
  have hw2 := hw2_.below hb2
  have M2 := M2_.below hb2
  clear M2_ hB2_ hb2 hw2_
  clear hL
  have lenA := hA0.len
  have goodA := hA0.good
  have hA := hA0.fn
  clear hA0
  go_wp2_with fail
  refine Calls.named ?_
  intro W3 hW3
  have hB3_ : Below w.heap.size w W3 := by rw [hW3]; exact (below_al hB2 _)
  have hw3_ : LaidI W3 := by rw [hW3]; exact (hw2.alloc _)
  have M3_ := (M2).new' (w2.heap.size) (by rfl) (.cells #[.slice co 16 cc, .slice fo 3 fc] 27)
  rw [← hW3] at M3_
  have hS3 : Below w2.heap.size w2 W3 := by rw [hW3]; exact (below_al (Below.refl _ _) _)
  have hK_ := LsAt.below hK hS3
  have hA_ := FnOwn.keep hA hS3
  clear hS3 hK hA
  clear hW3
  have ZZ3_0 := Lib.hid (Mem.lt M3_.1)
  refine (made_c _ _ _ hK_).mono ?_
  rintro e w3 ⟨fb, co2, cc2, fo2, fc2, rfl, hC0, hb3⟩
  have hK := LsAt.below hK_ hb3
  have hA := FnOwn.keep hA_ hb3
  clear hK_ hA_
  have hB3 := below_then hB3_ hb3
  have hw3 := hw3_.below hb3
  have M3 := M3_.below hb3
  clear M3_ hB3_ hb3 hw3_
  have c3_0_0 := Mem.cell (v := .slice co 16 cc) M3.1 0 rfl
  have c3_0_1 := Mem.cell (v := .slice fo 3 fc) M3.1 1 rfl
  have z3_0 := Mem.lt M3.1
  clear hK
  have hne23 : w2.heap.size < w3.heap.size := Mem.lt M3.1
  have hn2 := hB2.size
  have hn3 := hB3.size
  have lenB := hC0.len
  have goodB := hC0.good
  have hC := hC0.fn
  clear hC0
  go_upto_region 6 with (fail)
  refine wp_named ?_
  intro w4 hW4
  have hB4 : Below w.heap.size w w4 := by rw [hW4]; exact (below_al hB3 _)
  have hw4 : LaidI w4 := by rw [hW4]; exact (hw3.alloc _)
  have M4 := (M3).new' (w3.heap.size) (by rfl) (.cells #[.slice co2 16 cc2, .slice fo2 3 fc2] 27)
  rw [← hW4] at M4
  have hS4 : Below w3.heap.size w3 w4 := by rw [hW4]; exact (below_al (Below.refl _ _) _)
  replace hA := FnOwn.keep hA hS4
  replace hC := FnOwn.keep hC hS4
  clear hS4
  clear c3_0_0 c3_0_1 z3_0
  clear hW4
  have c4_0_0 := Mem.cell (v := .slice co2 16 cc2) M4.1 0 rfl
  have c4_0_1 := Mem.cell (v := .slice fo2 3 fc2) M4.1 1 rfl
  have z4_0 := Mem.lt M4.1
  have c4_1_0 := Mem.cell (v := .slice co 16 cc) M4.2.1 0 rfl
  have c4_1_1 := Mem.cell (v := .slice fo 3 fc) M4.2.1 1 rfl
  have z4_1 := Mem.lt M4.2.1
  have LA := Lib.hid lenA
  have LB := Lib.hid lenB
  have GA := Lib.hid goodA
  have GB := Lib.hid goodB
  clear lenA lenB goodA goodB
  have f4a := fun j => Mem.free M4.1 j
  have f4b := fun j => Mem.free M4.2.1 j
  have hXb4 := M4.1
  go_upto_region 7 with (fail)
  have hX4 : (w4.setCells (w2.heap.size) 0 [.slice none 0 0]).heap[w2.heap.size]? = some (.cells #[.slice none 0 0, .slice fo 3 fc] 27) := by rw [setCells_block [.slice none 0 0] 0 _ _ (M4).2.1 (by simp)]; rfl
  have hY4 := below_setCells (B := w.heap.size) hB4 (b := w2.heap.size) (by have := hB4.size; omega) 0 [.slice none 0 0]
  refine wp_named ?_
  intro w5 hW5
  have hB5 : Below w.heap.size w w5 := by rw [hW5]; exact hY4
  have hw5 : LaidI w5 := hw0.below hB5
  have M5 : Mem w5 [(w2.heap.size, .cells #[.slice none 0 0, .slice fo 3 fc] 27)] := by rw [hW5]; exact ⟨hX4, trivial⟩
  have hA := FnOwn.other hA M4.2.1 (by decide) (by decide) 0 [.slice none 0 0]
  rw [show w4.setCells (w2.heap.size) 0 [.slice none 0 0] = w5 from hW5.symm] at hA
  have hC := FnOwn.other hC M4.2.1 (by decide) (by decide) 0 [.slice none 0 0]
  rw [show w4.setCells (w2.heap.size) 0 [.slice none 0 0] = w5 from hW5.symm] at hC
  have hXb := (setCells_other (b := w2.heap.size) [.slice none 0 0] 0 w4 w3.heap.size (by omega)).trans hXb4
  rw [show w4.setCells (w2.heap.size) 0 [.slice none 0 0] = w5 from hW5.symm] at hXb
  clear c4_0_0 c4_0_1 z4_0 c4_1_0 c4_1_1 z4_1
  clear hW5 hX4 hY4
  have c5_0_0 := Mem.cell (v := .slice none 0 0) M5.1 0 rfl
  have c5_0_1 := Mem.cell (v := .slice fo 3 fc) M5.1 1 rfl
  have z5_0 := Mem.lt M5.1
  have d5a := Mem.cell (v := .slice co2 16 cc2) hXb 0 rfl
  have f5a := fun j => Mem.free hXb j
  go_upto_region 8 with (fail)
  refine wp_named ?_
  intro w6 hW6
  have hB6 : Below w.heap.size w w6 := by rw [hW6]; exact hB5.setCell (p := ⟨w3.heap.size, 0, none⟩) hn3 _
  have hw6 : LaidI w6 := hw0.below hB6
  have hXb6 : w6.heap[w3.heap.size]? = some (.cells #[.slice none 0 0, .slice fo2 3 fc2] 27) := by rw [hW6]; exact setCell_block hXb _
  have hXa6 : w6.heap[w2.heap.size]? = some (.cells #[.slice none 0 0, .slice fo 3 fc] 27) := by rw [hW6]; exact setCell_other (b := w3.heap.size) M5.1 (by omega) _
  replace hA := FnOwn.other hA hXb (by decide) (by decide) 0 [.slice none 0 0]
  rw [show w5.setCells w3.heap.size 0 [.slice none 0 0] = w6 from hW6.symm] at hA
  replace hC := FnOwn.other hC hXb (by decide) (by decide) 0 [.slice none 0 0]
  rw [show w5.setCells w3.heap.size 0 [.slice none 0 0] = w6 from hW6.symm] at hC
  clear hW6 d5a f5a f4a f4b hXb4 M5 M4
  have iA : ImAt (.slice none 0 0) (.slice fo 3 fc) ⟨[], fa⟩ w6 := ⟨nil_at _, hA.at⟩
  have iC : ImAt (.slice none 0 0) (.slice fo2 3 fc2) ⟨[], fb⟩ w6 := ⟨nil_at _, hC.at⟩
  have hcA := none_check (fs := fa) (by rw [LA.out]; omega) (by rw [LA.out]; omega) GA.out
  have hcC := none_check (fs := fb) (by rw [LB.out]; omega) (by rw [LB.out]; omega) GB.out
  have hcAC := none_check (fs := fa ++ fb) (by rw [List.length_append, LA.out]; omega) (by rw [List.length_append, LA.out, LB.out]; omega) (fun f hf => (List.mem_append.1 hf).elim (GA.out f) (GB.out f))
  obtain ⟨P, hP⟩ : ∃ P : ByteArray, P = ⟨(printI (Im.mk [] fa)).toArray⟩ := ⟨_, rfl⟩
  obtain ⟨Q, hQ⟩ : ∃ P : ByteArray, P = ⟨(printI (Im.mk [] fb)).toArray⟩ := ⟨_, rfl⟩
  have hPs : P.size ≤ 200000 := by rw [hP, b_size]; exact print_small (fun v hv => by simp at hv)
  have hQs : Q.size ≤ 200000 := by rw [hQ, b_size]; exact print_small (fun v hv => by simp at hv)
  have hpa : parseA (P ++ Q).data.toList = (⟨[], fa ++ fb⟩, 0, 0) := by
    rw [← parse_joins hcA hcC hcAC, hP, hQ]
    simp [ByteArray.data_append]
  have hPQ : (P ++ Q).size ≤ 500000000 := by rw [ByteArray.size_append]; omega
  have hq1 : ¬ 9223372036854775807 < P.size + Q.size := by omega
  have hlen : (fa ++ fb).length = 6 := by rw [List.length_append, LA.out, LB.out]
  have KA := fun W (hb : Below w6.heap.size w6 W) => print_im _ _ _ (nil_sized fa) W (hw6.below hb) (iA.below hb) P hP
  have KC := fun W (hb : Below w6.heap.size w6 W) => print_im _ _ _ (nil_sized fb) W (hw6.below hb) (iC.below hb) Q hQ
  have KP := fun W (hb : Below w6.heap.size w6 W) => parse_im (P ++ Q) W hPQ (hw6.below hb) ⟨[], fa ++ fb⟩ 0 0 hpa 0 6 rfl hlen
  have HA6 := Lib.hid hA
  have HC6 := Lib.hid hC
  have HFIT := Lib.hid (check_fit hcAC)
  have HM6 := Lib.hid hXb6
  have HM6' := Lib.hid hXa6
  have HB6 := Lib.hid hB6
  have hz6 := Mem.lt hXb6
  have hz6' := Mem.lt hXa6
  have a0 := Mem.cell (v := .slice none 0 0) hXa6 0 rfl
  have a1 := Mem.cell (v := .slice fo 3 fc) hXa6 1 rfl
  have b0 := Mem.cell (v := .slice none 0 0) hXb6 0 rfl
  have b1 := Mem.cell (v := .slice fo2 3 fc2) hXb6 1 rfl
  clear iA iC hcA hcC hcAC hP hQ hPs hQs hpa hPQ hlen hA hC
  go_cut [8, 9, 10] (fun s8 s9 s10 wx => s9 = .int .i64 0 ∧ s10 = .int .i64 0 ∧ ∃ bb c1 d1 c2 d2 N, s8 = .pointer (some ⟨bb, 0, none⟩) ∧ wx.heap[bb]? = some (.cells #[.slice c1 0 d1, .slice c2 6 d2] 27) ∧ ImOwn N (.slice c1 0 d1) (.slice c2 6 d2) ⟨[], fa ++ fb⟩ wx ∧ Below w6.heap.size w6 wx)
  case first =>
    go_region_law (first
      | (go_simp; go_at_call 12; (with_reducible refine (KA _ (by repeat' (first | assumption | exact Below.refl _ _ | refine below_dr ?_ | refine below_al ?_ _))).mono ?_); rintro e wp ⟨rfl, hbp⟩; have hBp : Below w6.heap.size w6 wp := below_then (by repeat' (first | assumption | exact Below.refl _ _ | refine below_dr ?_ | refine below_al ?_ _)) hbp; have h3p := Nat.lt_of_lt_of_le hz6 hBp.size; have h2p := Nat.lt_of_lt_of_le hz6' hBp.size; have hsp := hbp.size; (try simp [Nat.add_one_le_iff] at hsp); (first | (have hlp : w6.heap.size < wp.heap.size := by omega) | skip); have hgp := (fun (b o : Nat) (h : b < _) => hbp.cell (p := ⟨b, o, none⟩) h); have hfp := (fun (b o : Nat) (h : b < _) => hbp.frozen (p := ⟨b, o, none⟩) h); have xa0 := (hBp.cell (p := ⟨w2.heap.size, 0, none⟩) hz6').trans a0; have xa1 := (hBp.cell (p := ⟨w2.heap.size, 1, none⟩) hz6').trans a1; have xb0 := (hBp.cell (p := ⟨w3.heap.size, 0, none⟩) hz6).trans b0; have xb1 := (hBp.cell (p := ⟨w3.heap.size, 1, none⟩) hz6).trans b1)
      | (go_simp; go_at_call 12; (with_reducible refine (KC _ (by repeat' (first | assumption | exact Below.refl _ _ | refine below_dr ?_ | refine below_al ?_ _))).mono ?_); rintro e wq ⟨rfl, hbq⟩; have hBq : Below w6.heap.size w6 wq := below_then (by repeat' (first | assumption | exact Below.refl _ _ | refine below_dr ?_ | refine below_al ?_ _)) hbq; have h3q := Nat.lt_of_lt_of_le hz6 hBq.size; have h2q := Nat.lt_of_lt_of_le hz6' hBq.size; have hsq := hbq.size; (try simp [Nat.add_one_le_iff] at hsq); (first | (have hlq : w6.heap.size < wq.heap.size := by omega) | skip); have hgq := (fun (b o : Nat) (h : b < _) => hbq.cell (p := ⟨b, o, none⟩) h); have hfq := (fun (b o : Nat) (h : b < _) => hbq.frozen (p := ⟨b, o, none⟩) h); have ya0 := (hBq.cell (p := ⟨w2.heap.size, 0, none⟩) hz6').trans a0; have ya1 := (hBq.cell (p := ⟨w2.heap.size, 1, none⟩) hz6').trans a1; have yb0 := (hBq.cell (p := ⟨w3.heap.size, 0, none⟩) hz6).trans b0; have yb1 := (hBq.cell (p := ⟨w3.heap.size, 1, none⟩) hz6).trans b1)
      | (go_simp; go_at_call 9; refine (KP _ (by repeat' (first | assumption | exact Below.refl _ _ | refine below_dr ?_ | refine below_al ?_ _))).mono ?_; rintro e wz ⟨c1, d1, c2, d2, rfl, hI, hbz⟩; have hBz : Below w6.heap.size w6 wz := below_then (by repeat' (first | assumption | exact Below.refl _ _ | refine below_dr ?_ | refine below_al ?_ _)) hbz; have h3z := Nat.lt_of_lt_of_le hz6 hBz.size; have h2z := Nat.lt_of_lt_of_le hz6' hBz.size; have hsz := hbz.size; (try simp [Nat.add_one_le_iff] at hsz); (first | (have hlz : w6.heap.size < wz.heap.size := by omega) | skip); have hgz := (fun (b o : Nat) (h : b < _) => hbz.cell (p := ⟨b, o, none⟩) h); have hfz := (fun (b o : Nat) (h : b < _) => hbz.frozen (p := ⟨b, o, none⟩) h)))
    all_goals
      go_wp2_with fail
      go_meet
      first
        | exact ⟨rfl, rfl, wz.heap.size, c1, d1, c2, d2, _, rfl, heap_alloc_new _ _, hI.below (below_al (Below.refl _ _) _), below_al hBz _⟩
        | (have hold : wz.heap[wq.heap.size]? = some (.cells #[.slice none 0 0, .slice none 0 0] 27) := (hbz.block _ (by first | (simp; done) | omega | (simp; omega))).trans (heap_alloc_new wq _); exact ⟨rfl, rfl, wq.heap.size, c1, d1, c2, d2, _, rfl, set_block hold [.slice c1 0 d1, .slice c2 6 d2] rfl, ⟨ow_other hI.cs hold (by decide) 0 [.slice c1 0 d1, .slice c2 6 d2], FnOwn.other hI.fn hold (by decide) (by decide) 0 [.slice c1 0 d1, .slice c2 6 d2]⟩, below_setCells hBz (b := wq.heap.size) (by first | exact Nat.le_refl _ | omega) 0 [.slice c1 0 d1, .slice c2 6 d2]⟩)
        | (have hold : wz.heap[wp.heap.size]? = some (.cells #[.slice none 0 0, .slice none 0 0] 27) := (hbz.block _ (by first | (simp; done) | omega | (simp; omega))).trans ((hbq.block _ (by first | (simp; done) | omega | (simp; omega))).trans (heap_alloc_new wp _)); exact ⟨rfl, rfl, wp.heap.size, c1, d1, c2, d2, _, rfl, set_block hold [.slice c1 0 d1, .slice c2 6 d2] rfl, ⟨ow_other hI.cs hold (by decide) 0 [.slice c1 0 d1, .slice c2 6 d2], FnOwn.other hI.fn hold (by decide) (by decide) 0 [.slice c1 0 d1, .slice c2 6 d2]⟩, below_setCells hBz (b := wp.heap.size) (by first | exact Nat.le_refl _ | omega) 0 [.slice c1 0 d1, .slice c2 6 d2]⟩)
        | (have hold : wz.heap[w6.heap.size]? = some (.cells #[.slice none 0 0, .slice none 0 0] 27) := (hbz.block _ (by first | (simp; done) | omega | (simp; omega))).trans ((hbq.block _ (by first | (simp; done) | omega | (simp; omega))).trans ((hbp.block _ (by first | (simp; done) | omega | (simp; omega))).trans (heap_alloc_new w6.drew _))); exact ⟨rfl, rfl, w6.heap.size, c1, d1, c2, d2, _, rfl, set_block hold [.slice c1 0 d1, .slice c2 6 d2] rfl, ⟨ow_other hI.cs hold (by decide) 0 [.slice c1 0 d1, .slice c2 6 d2], FnOwn.other hI.fn hold (by decide) (by decide) 0 [.slice c1 0 d1, .slice c2 6 d2]⟩, below_setCells hBz (b := w6.heap.size) (by first | exact Nat.le_refl _ | omega) 0 [.slice c1 0 d1, .slice c2 6 d2]⟩)
        | (have hold : wz.heap[w6.heap.size]? = some (.cells #[.slice none 0 0, .slice none 0 0] 27) := (hbz.block _ (by first | (simp; done) | omega | (simp; omega))).trans ((hbq.block _ (by first | (simp; done) | omega | (simp; omega))).trans ((hbp.block _ (by first | (simp; done) | omega | (simp; omega))).trans (heap_alloc_new w6 _))); exact ⟨rfl, rfl, w6.heap.size, c1, d1, c2, d2, _, rfl, set_block hold [.slice c1 0 d1, .slice c2 6 d2] rfl, ⟨ow_other hI.cs hold (by decide) 0 [.slice c1 0 d1, .slice c2 6 d2], FnOwn.other hI.fn hold (by decide) (by decide) 0 [.slice c1 0 d1, .slice c2 6 d2]⟩, below_setCells hBz (b := w6.heap.size) (by first | exact Nat.le_refl _ | omega) 0 [.slice c1 0 d1, .slice c2 6 d2]⟩)
  obtain ⟨rfl, rfl, bb, c1, d1, c2, d2, N, rfl, hX7, hI, hB7_⟩ := hcut
  obtain ⟨w7, rfl⟩ : ∃ x, x = wc := ⟨_, rfl⟩
  have HI := Lib.hid hI
  have HB7 := Lib.hid (below_then HB6.out hB7_)
  have HW7 := Lib.hid (hw6.below hB7_)
  have hA7 := HA6.out.keep hB7_
  have hC7 := HC6.out.keep hB7_
  obtain ⟨g1, ra, rfl, -, la, lfa, onea, cella, coda⟩ := hA7.news (by rw [LA.out]; omega)
  obtain ⟨g2, rb, rfl, -, lb, lfb, oneb, cellb, codb⟩ := hC7.news (by rw [LB.out]; omega)
  rw [LA.out] at lfa
  rw [LB.out] at lfb
  have a17 := (hB7_.cell (p := ⟨w2.heap.size, 1, none⟩) hz6').trans a1
  have b17 := (hB7_.cell (p := ⟨w3.heap.size, 1, none⟩) hz6).trans b1
  have h27 := Nat.lt_of_lt_of_le hz6' hB7_.size
  have h37 := Nat.lt_of_lt_of_le hz6 hB7_.size
  have HX7 := Lib.hid hX7
  obtain ⟨i0, hi, hz0, hz1, hz2⟩ := info_parts infLF
  have CA := Lib.hid (And.intro la (And.intro lb (And.intro coda codb)))
  clear a0 a1 b0 b1 KA KC KP hA7 hC7 HA6 HC6 hX7 hI hB7_ hz6 hz6' la lb coda codb hXa6 hXb6
  go_upto_region 9 with (fail)
  go_cut [11] (fun s11 wx => ∃ bx a2 c3, s11 = .pointer (some ⟨bx, 0, none⟩) ∧ wx.heap[bx]? = some (.cells #[.slice none 0 0, .slice a2 6 c3] 27) ∧ wx.ownsRow w7.heap.size 37 3 (.slice a2 6 c3) 6 (ra.flatten ++ rb.flatten) ∧ Below w7.heap.size w7 wx)
  case first =>
    go_region_law (first
      | (refine step_append_own (by rfl) _ _ 25 (by rfl) w7.heap.size 37 i0 _ 3 40 Tryz.underlying25 hi hz0 hz1 hz2 rfl (by omega) (.slice none 0 0) 0 [] (by rfl) ⟨rfl, .inl ⟨rfl, rfl⟩⟩ ⟨g1, 0, none⟩ 3 fc ra.flatten (by rfl) lfa (cella _ (by repeat' (first | assumption | exact Below.refl _ _ | refine below_dr ?_ | refine below_al ?_ _))) onea (by unfold maxLen; omega) (by omega) (((by repeat' (first | assumption | exact Below.refl _ _ | refine below_dr ?_ | refine below_al ?_ _)) : Below w7.heap.size w7 _).size) ?_; intro v1 wA hown1 hgrow1; obtain ⟨aa, ca, rfl⟩ := owns_form hown1; have hBA : Below w7.heap.size w7 wA := Below.grown (by repeat' (first | assumption | exact Below.refl _ _ | refine below_dr ?_ | refine below_al ?_ _)) hgrow1 (((by repeat' (first | assumption | exact Below.refl _ _ | refine below_dr ?_ | refine below_al ?_ _)) : Below w7.heap.size w7 _).size) (fun k e => by cases e); have hsA := hBA.size; have h2A := Nat.lt_of_lt_of_le h27 hsA; have h3A := Nat.lt_of_lt_of_le h37 hsA; have a1A := (hBA.cell (p := ⟨w2.heap.size, 1, none⟩) h27).trans a17; have b1A := (hBA.cell (p := ⟨w3.heap.size, 1, none⟩) h37).trans b17; (first | (have hbxA : wA.heap[w7.heap.size]? = some (.cells #[.slice none 0 0, .slice none 0 0] 27) := (hgrow1.block _ (by simp) (by intro e; cases e)).trans (heap_alloc_new w7.drew _); have xA0 := Mem.cell (v := .slice none 0 0) hbxA 0 rfl; have xA1 := Mem.cell (v := .slice none 0 0) hbxA 1 rfl; have xAf := fun j => Mem.free hbxA j) | skip))
      | (refine step_append_own (by rfl) _ _ 25 (by rfl) w7.heap.size 37 i0 _ 3 40 Tryz.underlying25 hi hz0 hz1 hz2 rfl (by omega) (.slice aa (0 + 3) ca) (0 + 3) _ (by rfl) (ownsRow_keep hown1 (by repeat' (first | assumption | exact Below.refl _ _ | refine below_dr ?_ | refine below_al ?_ _))) ⟨g2, 0, none⟩ 3 fc2 rb.flatten (by rfl) lfb (cellb _ (hBA.trans (((by repeat' (first | assumption | exact Below.refl _ _ | refine below_dr ?_ | refine below_al ?_ _)) : Below wA.heap.size wA _).mono hsA))) oneb (by unfold maxLen; omega) (by omega) (Nat.le_trans hsA ((by repeat' (first | assumption | exact Below.refl _ _ | refine below_dr ?_ | refine below_al ?_ _)) : Below wA.heap.size wA _).size) ?_; intro v2 wB hown2 hgrow2; obtain ⟨ab, cb, rfl⟩ := owns_form hown2; have hBB : Below w7.heap.size w7 wB := Below.grown (hBA.trans (((by repeat' (first | assumption | exact Below.refl _ _ | refine below_dr ?_ | refine below_al ?_ _)) : Below wA.heap.size wA _).mono hsA)) hgrow2 (Nat.le_trans hsA ((by repeat' (first | assumption | exact Below.refl _ _ | refine below_dr ?_ | refine below_al ?_ _)) : Below wA.heap.size wA _).size) (fun k e => row_low hown1 k e); (first | (have hbxB : wB.heap[w7.heap.size]? = some (.cells #[.slice none 0 0, .slice none 0 0] 27) := (hgrow2.block _ (Mem.lt hbxA) (ne_row hown1 hbxA (by decide))).trans hbxA; have xB0 := Mem.cell (v := .slice none 0 0) hbxB 0 rfl; have xB1 := Mem.cell (v := .slice none 0 0) hbxB 1 rfl; have xBf := fun j => Mem.free hbxB j) | (have hbxC := keep_new hown1 #[.slice none 0 0, .slice none 0 0] 27 (by decide) hgrow2; have yB0 := Mem.cell (v := .slice none 0 0) hbxC 0 rfl; have yB1 := Mem.cell (v := .slice none 0 0) hbxC 1 rfl; have yBf := fun j => Mem.free hbxC j) | skip)))
    all_goals
      go_wp2_with fail
      go_meet
      first
        | exact ⟨wB.heap.size, ab, cb, rfl, heap_alloc_new _ _, hown2.alloc _, below_al hBB _⟩
        | exact ⟨wA.heap.size, ab, cb, rfl, set_block hbxC [.slice none 0 0, .slice ab 6 cb] rfl, ow_other hown2 hbxC (by decide) 0 [.slice none 0 0, .slice ab 6 cb], below_setCells hBB (b := wA.heap.size) hsA 0 [.slice none 0 0, .slice ab 6 cb]⟩
        | exact ⟨w7.heap.size, ab, cb, rfl, set_block hbxB [.slice none 0 0, .slice ab 6 cb] rfl, ow_other hown2 hbxB (by decide) 0 [.slice none 0 0, .slice ab 6 cb], below_setCells hBB (b := w7.heap.size) (Nat.le_refl _) 0 [.slice none 0 0, .slice ab 6 cb]⟩
  obtain ⟨bx, a2, c3, rfl, hX8, hown8, hb8⟩ := hcut
  obtain ⟨w8, rfl⟩ : ∃ x, x = wc := ⟨_, rfl⟩
  obtain ⟨la, lb, coda, codb⟩ := CA.out
  have hF8 : FsAt w8 (.slice a2 6 c3) (fa ++ fb) := FsAt.join la lb (fun i f hi => (coda i f hi).imp fun c h => ⟨h.1, OsAt.below h.2 hb8⟩) (fun i f hi => (codb i f hi).imp fun c h => ⟨h.1, OsAt.below h.2 hb8⟩) (by rw [LA.out, LB.out]; exact hown8)
  have iB : ImAt (.slice none 0 0) (.slice a2 6 c3) ⟨[], fa ++ fb⟩ w8 := ⟨nil_at _, hF8⟩
  have iI := HI.out.at.below hb8
  have hX7 := (hb8.block bb (Mem.lt HX7.out)).trans HX7.out
  have s0 := Mem.cell (v := .slice c1 0 d1) hX7 0 rfl
  have s1 := Mem.cell (v := .slice c2 6 d2) hX7 1 rfl
  have t0 := Mem.cell (v := .slice none 0 0) hX8 0 rfl
  have t1 := Mem.cell (v := .slice a2 6 c3) hX8 1 rfl
  have KS := same_im _ _ _ _ _ _ HFIT.out HFIT.out w8 iI iB true (decide_eq_true rfl)
  have HB8 := Lib.hid (below_then HB7.out hb8)
  clear la lb coda codb hF8 iB iI hX7 hX8 hown8 hb8 a17 b17 cella cellb onea oneb lfa lfb
  go_wp2_with fail
  refine KS.mono ?_
  rintro e w9 ⟨rfl, hb9⟩
  have HB9 := Lib.hid (below_then HB8.out hb9)
  clear hb9 s0 s1 t0 t1
  go_wp2_with fail
  go_ret
  exact ⟨rfl, HB9.out⟩
end Go.Proofs.YtiggallcoocdaaaGreatDoor
