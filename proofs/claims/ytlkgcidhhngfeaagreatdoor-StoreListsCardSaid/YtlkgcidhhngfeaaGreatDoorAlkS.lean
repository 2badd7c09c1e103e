/- store.Alike: are all fields of two things the same? -/
import Derived.Test.YtlkgcidhhngfeaaGreatDoorZ6
namespace Go.Proofs.YtlkgcidhhngfeaaGreatDoor
open Go.RowKit
def labB (a b c d : ByteArray) : Bool := a.toList == c.toList && b.toList == d.toList
theorem labB_iff (a b c d : ByteArray) : labB a b c d = true ↔ a = c ∧ b = d := by simp [labB, bytes_toList]
theorem equalIn_lab (w : World) (a b c d : ByteArray) : (Op.equalIn 10000 25 (.agg #[.string a, .string b]) (.agg #[.string c, .string d])).run Tryz.prog w = .ok (labB a b c d) w := by
  obtain ⟨r, hr⟩ : ∃ r, labB a b c d = r := ⟨_, rfl⟩
  rw [hr]
  have H := Lib.hid hr
  clear hr
  go_simp
  rw [← H.out]
  unfold labB
  (repeat' split) <;> simp_all
theorem neq_lab (w : World) (a b c d : ByteArray) : (binOp .neq 25 (.agg #[.string a, .string b]) (.agg #[.string c, .string d])).run Tryz.prog w = .ok (.bool (!labB a b c d)) w := by
  rw [run_neq_struct, equalIn_lab]
  rfl
theorem eql_lab (w : World) (a b c d : ByteArray) : (binOp .eql 25 (.agg #[.string a, .string b]) (.agg #[.string c, .string d])).run Tryz.prog w = .ok (.bool (labB a b c d)) w := by
  rw [run_eql_struct, equalIn_lab]
  rfl
theorem msame_any (f : Bool) (k n : Int) (m s i : ByteArray) (q : List Wt) (v : Value) (f' : Bool) (k' n' : Int) (m' s' i' : ByteArray) (q' : List Wt) (v' : Value) (R : Bool) (hR : R = ((f == f' && V5.eqb ⟨k, n, m, s, i⟩ ⟨k', n', m', s', i'⟩) && decide (q = q'))) (w : World) (h : QAt w v q) (h' : QAt w v' q') (hlen : q.length * 88 ≤ 140737488355328) (hlen' : q'.length * 88 ≤ 140737488355328) :
    Calls Tryz.prog 46 #[.agg #[.bool f, .int .i64 k, .int .i64 n, .string m, .string s, .string i, v], .agg #[.bool f', .int .i64 k', .int .i64 n', .string m', .string s', .string i', v']] w
      fun e w' => e = .returned (.bool R) ∧ Below w.heap.size w w' := by
  subst hR
  have HQ : Hid (∀ W, Below w.heap.size w W → QAt W v q) := Lib.hid (fun W hb => h.below hb)
  have HQ' : Hid (∀ W, Below w.heap.size w W → QAt W v' q') := Lib.hid (fun W hb => h'.below hb)
  clear h h'
  have hE := fun w => eql_val w k n k' n' m s i m' s' i'
  generalize V5.eqb ⟨k, n, m, s, i⟩ ⟨k', n', m', s', i'⟩ = b at *
  have hff : (f == f') = true ∨ (f == f') = false := by cases (f == f') <;> simp
  rcases hff with hf | hf
  · cases b
    · rw [hf]
      go_enter Tryz.func46, Tryz.ntmps46
      go_wp2_with fail
      go_ret
      exact ⟨rfl, below_al (below_al (Below.refl _ _) _) _⟩
    · rw [hf]
      go_enter Tryz.func46, Tryz.ntmps46
      go_wp2_with fail
      refine (equal_any q q' v v' _ (HQ.out _ (below_al (below_al (Below.refl _ _) _) _)) (HQ'.out _ (below_al (below_al (Below.refl _ _) _) _)) hlen hlen').mono ?_
      rintro e w1 ⟨rfl, hb1⟩
      have HB := Lib.hid (below_then (below_al (below_al (Below.refl _ _) _) _) hb1)
      clear hb1
      go_wp2_with fail
      go_ret
      exact ⟨rfl, HB.out⟩
  · rw [hf]
    go_enter Tryz.func46, Tryz.ntmps46
    go_wp2_with fail
    go_ret
    exact ⟨rfl, below_al (below_al (Below.refl _ _) _) _⟩
set_option maxRecDepth 100000 in
set_option maxHeartbeats 4000000 in
theorem alike_raw (o p : Ox) (w : World) (bl bv : Bool) (hl : labB o.lS o.lI p.lS p.lI = bl) (hv : V5.eqb ⟨o.vk, o.vx, o.vm, o.vS, o.vI⟩ ⟨p.vk, p.vx, p.vm, p.vS, p.vI⟩ = bv)
    (bq : Bool) (hs : ∀ W, Below w.heap.size w W → Calls Tryz.prog 46 #[.agg #[.bool o.vf, .int .i64 o.wk, .int .i64 o.wx, .string o.wm, .string o.wS, .string o.wI, .slice o.q.a o.q.n o.q.c], .agg #[.bool p.vf, .int .i64 p.wk, .int .i64 p.wx, .string p.wm, .string p.wS, .string p.wI, .slice p.q.a p.q.n p.q.c]] W fun e w' => e = .returned (.bool bq) ∧ Below W.heap.size W w') :
    Calls Tryz.prog 23 #[.agg (ox o), .agg (ox p)] w fun e w' => e = .returned (.bool (o.kd == p.kd && bl && bv && (o.ex == p.ex) && (o.dn == p.dn) && bq && (o.fn == p.fn) && (o.ma == p.ma))) ∧ Below w.heap.size w w' := by
  have hL := fun w => neq_lab w o.lS o.lI p.lS p.lI
  have hV := fun w => neq_val w o.vk o.vx p.vk p.vx o.vm o.vS o.vI p.vm p.vS p.vI
  rw [hl] at hL
  rw [hv] at hV
  clear hl hv
  go_enter Tryz.func23, Tryz.ntmps23
  have hB0 := Below.refl w.heap.size w
  have M0 := Mem.nil w
  go_upto_region 1 with (fail)
  refine wp_named ?_
  intro w1 hW1
  have hB1 : Below w.heap.size w w1 := by rw [hW1]; exact (below_al (below_al hB0 _) _)
  have M1 : Mem w1 [(w.heap.size + 1, .cells (ox (p)) 32), (w.heap.size, .cells (ox (o)) 32)] := by rw [hW1]; exact ((M0).new' (w.heap.size) (by rfl) (.cells (ox (o)) 32)).new' (w.heap.size + 1) (by simp) (.cells (ox (p)) 32)
  clear hW1
  have z1_0 := Mem.lt M1.1
  have z1_1 := Mem.lt M1.2.1
  have c1_1_0 := Mem.cell (v := .int .i64 o.kd) M1.2.1 0 rfl
  have c1_1_1 := Mem.cell (v := .string o.lS) M1.2.1 1 rfl
  have c1_1_2 := Mem.cell (v := .string o.lI) M1.2.1 2 rfl
  have c1_1_3 := Mem.cell (v := .int .i64 o.vk) M1.2.1 3 rfl
  have c1_1_4 := Mem.cell (v := .int .i64 o.vx) M1.2.1 4 rfl
  have c1_1_5 := Mem.cell (v := .string o.vm) M1.2.1 5 rfl
  have c1_1_6 := Mem.cell (v := .string o.vS) M1.2.1 6 rfl
  have c1_1_7 := Mem.cell (v := .string o.vI) M1.2.1 7 rfl
  have c1_1_8 := Mem.cell (v := .bool o.ex) M1.2.1 8 rfl
  have c1_1_9 := Mem.cell (v := .bool o.dn) M1.2.1 9 rfl
  have c1_1_10 := Mem.cell (v := .bool o.vf) M1.2.1 10 rfl
  have c1_1_11 := Mem.cell (v := .int .i64 o.wk) M1.2.1 11 rfl
  have c1_1_12 := Mem.cell (v := .int .i64 o.wx) M1.2.1 12 rfl
  have c1_1_13 := Mem.cell (v := .string o.wm) M1.2.1 13 rfl
  have c1_1_14 := Mem.cell (v := .string o.wS) M1.2.1 14 rfl
  have c1_1_15 := Mem.cell (v := .string o.wI) M1.2.1 15 rfl
  have c1_1_16 := Mem.cell (v := .slice o.q.a o.q.n o.q.c) M1.2.1 16 rfl
  have c1_1_17 := Mem.cell (v := .int .i64 o.fn) M1.2.1 17 rfl
  have c1_1_18 := Mem.cell (v := .int .u8 o.ma) M1.2.1 18 rfl
  have c1_0_0 := Mem.cell (v := .int .i64 p.kd) M1.1 0 rfl
  have c1_0_1 := Mem.cell (v := .string p.lS) M1.1 1 rfl
  have c1_0_2 := Mem.cell (v := .string p.lI) M1.1 2 rfl
  have c1_0_3 := Mem.cell (v := .int .i64 p.vk) M1.1 3 rfl
  have c1_0_4 := Mem.cell (v := .int .i64 p.vx) M1.1 4 rfl
  have c1_0_5 := Mem.cell (v := .string p.vm) M1.1 5 rfl
  have c1_0_6 := Mem.cell (v := .string p.vS) M1.1 6 rfl
  have c1_0_7 := Mem.cell (v := .string p.vI) M1.1 7 rfl
  have c1_0_8 := Mem.cell (v := .bool p.ex) M1.1 8 rfl
  have c1_0_9 := Mem.cell (v := .bool p.dn) M1.1 9 rfl
  have c1_0_10 := Mem.cell (v := .bool p.vf) M1.1 10 rfl
  have c1_0_11 := Mem.cell (v := .int .i64 p.wk) M1.1 11 rfl
  have c1_0_12 := Mem.cell (v := .int .i64 p.wx) M1.1 12 rfl
  have c1_0_13 := Mem.cell (v := .string p.wm) M1.1 13 rfl
  have c1_0_14 := Mem.cell (v := .string p.wS) M1.1 14 rfl
  have c1_0_15 := Mem.cell (v := .string p.wI) M1.1 15 rfl
  have c1_0_16 := Mem.cell (v := .slice p.q.a p.q.n p.q.c) M1.1 16 rfl
  have c1_0_17 := Mem.cell (v := .int .i64 p.fn) M1.1 17 rfl
  have c1_0_18 := Mem.cell (v := .int .u8 p.ma) M1.1 18 rfl
  go_wp2_with fail
  all_goals (try (go_ret; exact ⟨by congr 2; simp_all, hB1⟩))
  refine (hs _ hB1).mono ?_
  rintro e w2 ⟨rfl, hb2⟩
  have M2 := M1.below hb2
  have hB2 := below_then hB1 hb2
  clear M1 hb2 hs c1_0_0 c1_0_1 c1_0_2 c1_0_3 c1_0_4 c1_0_5 c1_0_6 c1_0_7 c1_0_8 c1_0_9 c1_0_10 c1_0_11 c1_0_12 c1_0_13 c1_0_14 c1_0_15 c1_0_16 c1_0_17 c1_0_18 c1_1_0 c1_1_1 c1_1_2 c1_1_3 c1_1_4 c1_1_5 c1_1_6 c1_1_7 c1_1_8 c1_1_9 c1_1_10 c1_1_11 c1_1_12 c1_1_13 c1_1_14 c1_1_15 c1_1_16 c1_1_17 c1_1_18
  have d1 := Mem.cell (v := .int .i64 p.fn) M2.1 17 rfl
  have d2 := Mem.cell (v := .int .u8 p.ma) M2.1 18 rfl
  have d3 := Mem.cell (v := .int .i64 o.fn) M2.2.1 17 rfl
  have d4 := Mem.cell (v := .int .u8 o.ma) M2.2.1 18 rfl
  have HB := Lib.hid hB2
  clear hB2
  go_wp2_with fail
  all_goals (go_ret; exact ⟨by congr 2; simp_all, HB.out⟩)
theorem alike_eq (x y : OB) : (x.kd == y.kd && labB x.lS x.lI y.lS y.lI && V5.eqb ⟨x.vk, x.vx, x.vm, x.vS, x.vI⟩ ⟨y.vk, y.vx, y.vm, y.vS, y.vI⟩ && (x.ex == y.ex) && (x.dn == y.dn) && ((x.vf == y.vf && V5.eqb ⟨x.wk, x.wx, x.wm, x.wS, x.wI⟩ ⟨y.wk, y.wx, y.wm, y.wS, y.wI⟩) && decide (x.q = y.q)) && (x.fn == y.fn) && (x.ma == y.ma)) = decide (x = y) := by
  have h1 := labB_iff x.lS x.lI y.lS y.lI
  have h2 := V5.eqb_iff ⟨x.vk, x.vx, x.vm, x.vS, x.vI⟩ ⟨y.vk, y.vx, y.vm, y.vS, y.vI⟩
  have h3 := V5.eqb_iff ⟨x.wk, x.wx, x.wm, x.wS, x.wI⟩ ⟨y.wk, y.wx, y.wm, y.wS, y.wI⟩
  obtain ⟨a0, a1, a2, a3, a4, a5, a6, a7, a8, a9, a10, a11, a12, a13, a14, a15, a16, a17, a18⟩ := x
  obtain ⟨b0, b1, b2, b3, b4, b5, b6, b7, b8, b9, b10, b11, b12, b13, b14, b15, b16, b17, b18⟩ := y
  simp only at h1 h2 h3 ⊢
  rw [Bool.eq_iff_iff]
  simp only [Bool.and_eq_true, beq_iff_eq, decide_eq_true_eq, h1, h2, h3, V5.mk.injEq, OB.mk.injEq]
  constructor
  · rintro ⟨⟨⟨⟨⟨⟨⟨rfl, rfl, rfl⟩, rfl, rfl, rfl, rfl, rfl⟩, rfl⟩, rfl⟩, ⟨rfl, rfl, rfl, rfl, rfl, rfl⟩, rfl⟩, rfl⟩, rfl⟩
    simp
  · rintro ⟨rfl, rfl, rfl, rfl, rfl, rfl, rfl, rfl, rfl, rfl, rfl, rfl, rfl, rfl, rfl, rfl, rfl, rfl, rfl⟩
    simp
theorem alike_any (x y : OB) (A A' : Nat → Prop) (u v : Value) (w : World) (h : ObIn w A u x) (g : ObIn w A' v y) :
    Calls Tryz.prog 23 #[u, v] w fun e w' => e = .returned (.bool (decide (x = y))) ∧ Below w.heap.size w w' := by
  obtain ⟨a, c, rfl, hq, hl, _⟩ := h
  obtain ⟨b, d, rfl, hq', hl', _⟩ := g
  have := alike_raw (x.raw a c) (y.raw b d) w _ _ rfl rfl _ (fun W hb => msame_any x.vf x.wk x.wx x.wm x.wS x.wI x.q (.slice a x.q.length c) y.vf y.wk y.wx y.wm y.wS y.wI y.q (.slice b y.q.length d) _ rfl W (hq.below hb) (hq'.below hb) hl hl')
  rw [← alike_eq x y]
  exact this
end Go.Proofs.YtlkgcidhhngfeaaGreatDoor
