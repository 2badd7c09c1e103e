/- The chapter's examples (lazarettolaw12.examples): they are so. -/
import Derived.Test.YtdpmilffadalkaaDoorMvRight
import Derived.Deep.DeepCutAuto
namespace Go.Proofs.YtdpmilffadalkaaDoor
open Go.RowKit
theorem ex1 (w : World) : Calls Tryd.prog 10 #[.agg #[.bool false, .int .i64 0, .int .i64 0, .string ⟨#[]⟩, .string ⟨#[]⟩, .string ⟨#[]⟩, .slice none 0 0], .string ⟨#[48]⟩] w (TakeEnds12 false ⟨0, 0, ⟨#[]⟩, ⟨#[]⟩, ⟨#[]⟩⟩ ⟨0, 0, ⟨#[]⟩, ⟨#[]⟩, ⟨#[]⟩⟩ [⟨⟨#[48]⟩, false, ⟨0, 0, ⟨#[]⟩, ⟨#[]⟩, ⟨#[]⟩⟩⟩] false ⟨#[]⟩ w) :=
  mtake_any false 0 0 ⟨#[]⟩ ⟨#[]⟩ ⟨#[]⟩ ⟨#[48]⟩ [] _ w ⟨fun _ h => (by cases h), .inl ⟨⟨none, 0, rfl⟩, rfl⟩⟩ (by simp)
theorem ex2 (v : Value) (w : World) (h : QAt w v [⟨⟨#[48]⟩, false, ⟨0, 0, ⟨#[]⟩, ⟨#[]⟩, ⟨#[]⟩⟩⟩]) : Calls Tryd.prog 11 #[.agg #[.bool false, .int .i64 0, .int .i64 0, .string ⟨#[]⟩, .string ⟨#[]⟩, .string ⟨#[]⟩, v], .string ⟨#[49]⟩, .agg #[.int .i64 1, .int .i64 5, .string ⟨#[]⟩, .string ⟨#[]⟩, .string ⟨#[]⟩]] w (PutEnds12 false ⟨0, 0, ⟨#[]⟩, ⟨#[]⟩, ⟨#[]⟩⟩ [] true ⟨#[48]⟩ w) :=
  mput_any false 0 0 ⟨#[]⟩ ⟨#[]⟩ ⟨#[]⟩ ⟨#[49]⟩ 1 5 ⟨#[]⟩ ⟨#[]⟩ ⟨#[]⟩ _ v w h (by simp)
theorem ex3 (v : Value) (w : World) (h : QAt w v []) : Calls Tryd.prog 11 #[.agg #[.bool false, .int .i64 0, .int .i64 0, .string ⟨#[]⟩, .string ⟨#[]⟩, .string ⟨#[]⟩, v], .string ⟨#[49]⟩, .agg #[.int .i64 1, .int .i64 6, .string ⟨#[]⟩, .string ⟨#[]⟩, .string ⟨#[]⟩]] w (PutEnds12 true ⟨1, 6, ⟨#[]⟩, ⟨#[]⟩, ⟨#[]⟩⟩ [] true ⟨#[]⟩ w) :=
  mput_any false 0 0 ⟨#[]⟩ ⟨#[]⟩ ⟨#[]⟩ ⟨#[49]⟩ 1 6 ⟨#[]⟩ ⟨#[]⟩ ⟨#[]⟩ _ v w h (by simp)
theorem ex4 (v : Value) (w : World) (h : QAt w v []) : Calls Tryd.prog 11 #[.agg #[.bool true, .int .i64 1, .int .i64 6, .string ⟨#[]⟩, .string ⟨#[]⟩, .string ⟨#[]⟩, v], .string ⟨#[50]⟩, .agg #[.int .i64 1, .int .i64 7, .string ⟨#[]⟩, .string ⟨#[]⟩, .string ⟨#[]⟩]] w (PutEnds12 true ⟨1, 6, ⟨#[]⟩, ⟨#[]⟩, ⟨#[]⟩⟩ [⟨⟨#[50]⟩, true, ⟨1, 7, ⟨#[]⟩, ⟨#[]⟩, ⟨#[]⟩⟩⟩] false ⟨#[]⟩ w) :=
  mput_any true 1 6 ⟨#[]⟩ ⟨#[]⟩ ⟨#[]⟩ ⟨#[50]⟩ 1 7 ⟨#[]⟩ ⟨#[]⟩ ⟨#[]⟩ _ v w h (by simp)
theorem ex5 (v : Value) (w : World) (h : QAt w v [⟨⟨#[50]⟩, true, ⟨1, 7, ⟨#[]⟩, ⟨#[]⟩, ⟨#[]⟩⟩⟩]) : Calls Tryd.prog 10 #[.agg #[.bool true, .int .i64 1, .int .i64 6, .string ⟨#[]⟩, .string ⟨#[]⟩, .string ⟨#[]⟩, v], .string ⟨#[51]⟩] w (TakeEnds12 true ⟨1, 7, ⟨#[]⟩, ⟨#[]⟩, ⟨#[]⟩⟩ ⟨1, 6, ⟨#[]⟩, ⟨#[]⟩, ⟨#[]⟩⟩ [] true ⟨#[50]⟩ w) :=
  mtake_any true 1 6 ⟨#[]⟩ ⟨#[]⟩ ⟨#[]⟩ ⟨#[51]⟩ _ _ w h (by simp)
theorem ex6 (v : Value) (w : World) (h : QAt w v [⟨⟨#[50]⟩, true, ⟨1, 7, ⟨#[]⟩, ⟨#[]⟩, ⟨#[]⟩⟩⟩]) : Calls Tryd.prog 13 #[.agg #[.bool true, .int .i64 1, .int .i64 6, .string ⟨#[]⟩, .string ⟨#[]⟩, .string ⟨#[]⟩, v], .string ⟨#[50]⟩] w (LeaveEnds w true ⟨1, 6, ⟨#[]⟩, ⟨#[]⟩, ⟨#[]⟩⟩ [] true) := by
  have h1 := mleave_any true 1 6 ⟨#[]⟩ ⟨#[]⟩ ⟨#[]⟩ ⟨#[50]⟩ _ v w h (by simp)
  have e : leaveM ⟨true, ⟨1, 6, ⟨#[]⟩, ⟨#[]⟩, ⟨#[]⟩⟩, [⟨⟨#[50]⟩, true, ⟨1, 7, ⟨#[]⟩, ⟨#[]⟩, ⟨#[]⟩⟩⟩]⟩ ⟨#[50]⟩ = ⟨⟨true, ⟨1, 6, ⟨#[]⟩, ⟨#[]⟩, ⟨#[]⟩⟩, []⟩, true⟩ := by
    unfold leaveM
    simp [List.findIdx?_cons]
  rw [e] at h1
  exact h1
/-- a pointer to a box of the call's own that holds this variable -/
def VarBox (W : World) (x : VM) (s : Value) (wx : World) : Prop := ∃ b ao cap, s = .pointer (some ⟨b, 0, none⟩) ∧ wx.heap[b]? = some (.cells #[.bool x.full, .int .i64 x.v.k, .int .i64 x.v.n, .string x.v.nm, .string x.v.s, .string x.v.i, .slice ao x.q.length cap] 31) ∧
  W.heap.size ≤ b ∧ QAt wx (.slice ao x.q.length cap) x.q ∧ Below W.heap.size W wx
theorem have_it (T : Prop) {G : Prop} (h : T) (k : T → G) : G := k h
theorem mem_cons {W : World} {b : Nat} {o : Obj} {L : List (Nat × Obj)} (h : W.heap[b]? = some o) (hl : Mem W L) : Mem W ((b, o) :: L) := ⟨h, hl⟩
theorem same_ex : sameM ⟨true, ⟨1, 6, ⟨#[]⟩, ⟨#[]⟩, ⟨#[]⟩⟩, []⟩ ⟨true, ⟨1, 6, ⟨#[]⟩, ⟨#[]⟩, ⟨#[]⟩⟩, []⟩ = true := by
  unfold sameM
  simp [(V5.eqb_iff _ _).2 rfl]
set_option maxRecDepth 100000 in
set_option maxHeartbeats 4000000 in
theorem examples_any (w : World) (hw : Laid w) : Calls Tryd.prog 7 #[] w fun e w' => e = .returned (.bool true) ∧ Below w.heap.size w w' := by
  go_enter Tryd.func7, Tryd.ntmps7
  have hB0 := Below.refl w.heap.size w
  have M0 := Mem.nil w
  go_wp2_with fail
  refine Calls.named ?_
  intro W1 hW1
  have hB1_ : Below w.heap.size w W1 := by rw [hW1]; exact hB0
  have hw1_ : Laid W1 := by rw [hW1]; exact hw
  have M1_ := Mem.nil W1
  clear hW1
  refine (ex1 _).mono ?_
  rintro e w1 ⟨v1, rfl, hq1o, hb1⟩
  have hB1 := below_then hB1_ hb1
  have hw1 := hw1_.below hb1
  have M1 := M1_.below hb1
  clear M1_ hB1_ hb1 hw1_
  have hq1 := hq1o.at
  clear hq1o
  obtain ⟨ao1, cap1, rfl⟩ := hq1.slice
  replace hq1 : QAt w1 (.slice ao1 1 cap1) [⟨⟨#[48]⟩, false, ⟨0, 0, ⟨#[]⟩, ⟨#[]⟩, ⟨#[]⟩⟩⟩] := hq1
  go_upto_region 2 with (fail)
  refine wp_named ?_
  intro w2 hW2
  have hB2 : Below w.heap.size w w2 := by rw [hW2]; exact (below_al (below_al hB1 _) _)
  have hw2 : Laid w2 := by rw [hW2]; exact ((hw1.alloc _).alloc _)
  have M2 := ((M1).new' (w1.heap.size) (by rfl) (.cells #[.bool false, .int .i64 0, .int .i64 0, .string ⟨#[]⟩, .string ⟨#[]⟩, .string ⟨#[]⟩, .slice ao1 1 cap1] 31)).new' (w1.heap.size + 1) (by simp) (.cells #[.int .i64 0, .int .i64 0, .string ⟨#[]⟩, .string ⟨#[]⟩, .string ⟨#[]⟩] 28)
  rw [← hW2] at M2
  have hS2 : Below w1.heap.size w1 w2 := by rw [hW2]; exact (below_al (below_al (Below.refl _ _) _) _)
  replace hq1 := QAt.below hq1 hS2
  clear hS2
  clear hW2
  have c2_0_0 := Mem.cell (v := .int .i64 0) M2.1 0 rfl
  have c2_0_1 := Mem.cell (v := .int .i64 0) M2.1 1 rfl
  have c2_0_2 := Mem.cell (v := .string ⟨#[]⟩) M2.1 2 rfl
  have c2_0_3 := Mem.cell (v := .string ⟨#[]⟩) M2.1 3 rfl
  have c2_0_4 := Mem.cell (v := .string ⟨#[]⟩) M2.1 4 rfl
  have z2_0 := Mem.lt M2.1
  have c2_1_0 := Mem.cell (v := .bool false) M2.2.1 0 rfl
  have c2_1_1 := Mem.cell (v := .int .i64 0) M2.2.1 1 rfl
  have c2_1_2 := Mem.cell (v := .int .i64 0) M2.2.1 2 rfl
  have c2_1_3 := Mem.cell (v := .string ⟨#[]⟩) M2.2.1 3 rfl
  have c2_1_4 := Mem.cell (v := .string ⟨#[]⟩) M2.2.1 4 rfl
  have c2_1_5 := Mem.cell (v := .string ⟨#[]⟩) M2.2.1 5 rfl
  have c2_1_6 := Mem.cell (v := .slice ao1 1 cap1) M2.2.1 6 rfl
  have z2_1 := Mem.lt M2.2.1
  go_cut [5, 6, 7] (fun s5 s6 s7 wx => s6 = .bool true ∧ s7 = .string ⟨#[48]⟩ ∧ VarBox w2 ⟨false, ⟨0, 0, ⟨#[]⟩, ⟨#[]⟩, ⟨#[]⟩⟩, []⟩ s5 wx)
  case first =>
    have hB_lt : w1.heap.size < w2.heap.size := by first | assumption | omega
    have ho2 := cell_other (b := w1.heap.size) (b' := w2.heap.size) (by omega)
    have HQ1 := Lib.hid (fun W hb => QAt.below (w' := W) hq1 hb)
    go_region_held3 (fun w' => w'.cell? ⟨w1.heap.size, 0, none⟩ = some (.bool false) ∧ w'.cell? ⟨w1.heap.size, 1, none⟩ = some (.int .i64 0) ∧ w'.cell? ⟨w1.heap.size, 2, none⟩ = some (.int .i64 0) ∧ w'.cell? ⟨w1.heap.size, 3, none⟩ = some (.string ⟨#[]⟩) ∧ w'.cell? ⟨w1.heap.size, 4, none⟩ = some (.string ⟨#[]⟩) ∧ w'.cell? ⟨w1.heap.size, 5, none⟩ = some (.string ⟨#[]⟩) ∧ w'.cell? ⟨w1.heap.size, 6, none⟩ = some (.slice ao1 1 cap1))
      (go_keep)
      (first
        | (go_at_call 12; (with_reducible refine (number_any (5) _).mono ?_); rintro e wn ⟨rfl, hbn⟩; have hBn : Below w2.heap.size w2 wn := ((by repeat' (first | exact Below.refl _ _ | exact hBn | refine below_dr ?_ | refine below_al ?_ _)) : Below w2.heap.size w2 _).trans (hbn.mono (by simp <;> omega)); have hzn := hBn.size; have hcn := (fun o => hbn.cell (p := ⟨w1.heap.size, o, none⟩) (by simp <;> omega)); have hwn : w1.heap.size < wn.heap.size := (by omega); have hon := cell_other (b := w1.heap.size) (b' := wn.heap.size) (by omega); have hgn := (fun (b o : Nat) (h : b < _) => hbn.cell (p := ⟨b, o, none⟩) h); have hfn := (fun (b o : Nat) (h : b < _) => hbn.frozen (p := ⟨b, o, none⟩) h); first | (refine have_it (w2.heap.size < wn.heap.size) ?_ ?_; have h9 := hbn.size; simp at h9; omega; intro hlt) | skip)
        | (go_at_call 11; (with_reducible refine (ex2 _ _ (HQ1.out _ (by repeat' (first | exact Below.refl _ _ | exact hBn | refine below_dr ?_ | refine below_al ?_ _)))).mono ?_); rintro e wp ⟨v2, rfl, hq2, hbp⟩; obtain ⟨ao2, cap2, rfl⟩ := hq2.at.slice; have hBp : Below w2.heap.size w2 wp := ((by repeat' (first | exact Below.refl _ _ | exact hBn | refine below_dr ?_ | refine below_al ?_ _)) : Below w2.heap.size w2 _).trans (hbp.mono (by first | omega | (simp <;> omega))); have hcp := (fun o => hbp.cell (p := ⟨w1.heap.size, o, none⟩) (by first | omega | (simp <;> omega))); have hgp := (fun (b o : Nat) (h : b < _) => hbp.cell (p := ⟨b, o, none⟩) h); have hfp := (fun (b o : Nat) (h : b < _) => hbp.frozen (p := ⟨b, o, none⟩) h)))
    · go_wp2_with fail
      go_meet
      exact ⟨rfl, rfl, wp.heap.size, ao2, cap2, rfl, heap_alloc_new _ _, hBp.size, (OwnQ.keep hq2 (below_al (Below.refl _ _) _)).at, below_al hBp _⟩
    · have hold := (hbp.block wn.heap.size (by simp)).trans (heap_alloc_new wn _)
      have hA := set_block hold [.bool false, .int .i64 0, .int .i64 0, .string ⟨#[]⟩, .string ⟨#[]⟩, .string ⟨#[]⟩, .slice ao2 0 cap2] rfl
      have hB := (own_set hq2 (b := wn.heap.size) (by simp) [.bool false, .int .i64 0, .int .i64 0, .string ⟨#[]⟩, .string ⟨#[]⟩, .string ⟨#[]⟩, .slice ao2 0 cap2] 0).at
      have hC := below_setCells hBp (b := wn.heap.size) hzn 0 [.bool false, .int .i64 0, .int .i64 0, .string ⟨#[]⟩, .string ⟨#[]⟩, .string ⟨#[]⟩, .slice ao2 0 cap2]
      go_wp2_with fail
      go_meet
      exact ⟨rfl, rfl, wn.heap.size, ao2, cap2, rfl, hA, hzn, hB, hC⟩
    · have hold := (hbp.block w2.heap.size hlt).trans ((hbn.block w2.heap.size (by simp)).trans (heap_alloc_new w2 _))
      have hA := set_block hold [.bool false, .int .i64 0, .int .i64 0, .string ⟨#[]⟩, .string ⟨#[]⟩, .string ⟨#[]⟩, .slice ao2 0 cap2] rfl
      have hB := (own_set hq2 (b := w2.heap.size) hlt [.bool false, .int .i64 0, .int .i64 0, .string ⟨#[]⟩, .string ⟨#[]⟩, .string ⟨#[]⟩, .slice ao2 0 cap2] 0).at
      have hC := below_setCells hBp (b := w2.heap.size) (Nat.le_refl _) 0 [.bool false, .int .i64 0, .int .i64 0, .string ⟨#[]⟩, .string ⟨#[]⟩, .string ⟨#[]⟩, .slice ao2 0 cap2]
      go_wp2_with fail
      go_meet
      exact ⟨rfl, rfl, w2.heap.size, ao2, cap2, rfl, hA, Nat.le_refl _, hB, hC⟩
  obtain ⟨rfl, rfl, bY, aoY, capY, rfl, hXY, hleY, hqqY, hbXY⟩ := hcut
  replace hXY : wc.heap[bY]? = some (.cells #[.bool false, .int .i64 0, .int .i64 0, .string ⟨#[]⟩, .string ⟨#[]⟩, .string ⟨#[]⟩, .slice aoY 0 capY] 31) := hXY
  replace hqqY : QAt wc (.slice aoY (0) capY) [] := hqqY
  obtain ⟨w3, rfl⟩ : ∃ x, x = wc := ⟨_, rfl⟩
  have hB3 := below_then hB2 hbXY
  have hw3 := hw2.below hbXY
  have M3 := mem_cons hXY (M2.below hbXY)
  replace hq1 := QAt.below hq1 hbXY
  clear c2_0_0 c2_0_1 c2_0_2 c2_0_3 c2_0_4 z2_0 c2_1_0 c2_1_1 c2_1_2 c2_1_3 c2_1_4 c2_1_5 c2_1_6 z2_1
  have c3_0_0 := Mem.cell (v := .bool false) M3.1 0 rfl
  have c3_0_1 := Mem.cell (v := .int .i64 0) M3.1 1 rfl
  have c3_0_2 := Mem.cell (v := .int .i64 0) M3.1 2 rfl
  have c3_0_3 := Mem.cell (v := .string ⟨#[]⟩) M3.1 3 rfl
  have c3_0_4 := Mem.cell (v := .string ⟨#[]⟩) M3.1 4 rfl
  have c3_0_5 := Mem.cell (v := .string ⟨#[]⟩) M3.1 5 rfl
  have c3_0_6 := Mem.cell (v := .slice aoY 0 capY) M3.1 6 rfl
  have z3_0 := Mem.lt M3.1
  have c3_1_0 := Mem.cell (v := .int .i64 0) M3.2.1 0 rfl
  have c3_1_1 := Mem.cell (v := .int .i64 0) M3.2.1 1 rfl
  have c3_1_2 := Mem.cell (v := .string ⟨#[]⟩) M3.2.1 2 rfl
  have c3_1_3 := Mem.cell (v := .string ⟨#[]⟩) M3.2.1 3 rfl
  have c3_1_4 := Mem.cell (v := .string ⟨#[]⟩) M3.2.1 4 rfl
  have z3_1 := Mem.lt M3.2.1
  have c3_2_0 := Mem.cell (v := .bool false) M3.2.2.1 0 rfl
  have c3_2_1 := Mem.cell (v := .int .i64 0) M3.2.2.1 1 rfl
  have c3_2_2 := Mem.cell (v := .int .i64 0) M3.2.2.1 2 rfl
  have c3_2_3 := Mem.cell (v := .string ⟨#[]⟩) M3.2.2.1 3 rfl
  have c3_2_4 := Mem.cell (v := .string ⟨#[]⟩) M3.2.2.1 4 rfl
  have c3_2_5 := Mem.cell (v := .string ⟨#[]⟩) M3.2.2.1 5 rfl
  have c3_2_6 := Mem.cell (v := .slice ao1 1 cap1) M3.2.2.1 6 rfl
  have z3_2 := Mem.lt M3.2.2.1
  go_upto_region 3 with (fail)
  refine wp_named ?_
  intro w4 hW4
  have hB4 : Below w.heap.size w w4 := by rw [hW4]; exact hB3
  have hw4 : Laid w4 := by rw [hW4]; exact hw3
  have M4 := M3
  rw [← hW4] at M4
  have hS4 : Below w3.heap.size w3 w4 := by rw [hW4]; exact (Below.refl _ _)
  replace hq1 := QAt.below hq1 hS4
  replace hqqY := QAt.below hqqY hS4
  clear hS4
  clear c3_0_0 c3_0_1 c3_0_2 c3_0_3 c3_0_4 c3_0_5 c3_0_6 z3_0 c3_1_0 c3_1_1 c3_1_2 c3_1_3 c3_1_4 z3_1 c3_2_0 c3_2_1 c3_2_2 c3_2_3 c3_2_4 c3_2_5 c3_2_6 z3_2
  clear hW4
  have c4_0_0 := Mem.cell (v := .bool false) M4.1 0 rfl
  have c4_0_1 := Mem.cell (v := .int .i64 0) M4.1 1 rfl
  have c4_0_2 := Mem.cell (v := .int .i64 0) M4.1 2 rfl
  have c4_0_3 := Mem.cell (v := .string ⟨#[]⟩) M4.1 3 rfl
  have c4_0_4 := Mem.cell (v := .string ⟨#[]⟩) M4.1 4 rfl
  have c4_0_5 := Mem.cell (v := .string ⟨#[]⟩) M4.1 5 rfl
  have c4_0_6 := Mem.cell (v := .slice aoY 0 capY) M4.1 6 rfl
  have z4_0 := Mem.lt M4.1
  have c4_1_0 := Mem.cell (v := .int .i64 0) M4.2.1 0 rfl
  have c4_1_1 := Mem.cell (v := .int .i64 0) M4.2.1 1 rfl
  have c4_1_2 := Mem.cell (v := .string ⟨#[]⟩) M4.2.1 2 rfl
  have c4_1_3 := Mem.cell (v := .string ⟨#[]⟩) M4.2.1 3 rfl
  have c4_1_4 := Mem.cell (v := .string ⟨#[]⟩) M4.2.1 4 rfl
  have z4_1 := Mem.lt M4.2.1
  have c4_2_0 := Mem.cell (v := .bool false) M4.2.2.1 0 rfl
  have c4_2_1 := Mem.cell (v := .int .i64 0) M4.2.2.1 1 rfl
  have c4_2_2 := Mem.cell (v := .int .i64 0) M4.2.2.1 2 rfl
  have c4_2_3 := Mem.cell (v := .string ⟨#[]⟩) M4.2.2.1 3 rfl
  have c4_2_4 := Mem.cell (v := .string ⟨#[]⟩) M4.2.2.1 4 rfl
  have c4_2_5 := Mem.cell (v := .string ⟨#[]⟩) M4.2.2.1 5 rfl
  have c4_2_6 := Mem.cell (v := .slice ao1 1 cap1) M4.2.2.1 6 rfl
  have z4_2 := Mem.lt M4.2.2.1
  go_cut [8, 9, 10] (fun s5 s6 s7 wx => s6 = .bool true ∧ s7 = .string ⟨#[]⟩ ∧ VarBox w4 ⟨true, ⟨1, 6, ⟨#[]⟩, ⟨#[]⟩, ⟨#[]⟩⟩, []⟩ s5 wx)
  case first =>
    have hB_lt : bY < w4.heap.size := by first | assumption | omega
    have ho2 := cell_other (b := bY) (b' := w4.heap.size) (by omega)
    have HQ1 := Lib.hid (fun W hb => QAt.below (w' := W) hqqY hb)
    go_region_held3 (fun w' => w'.cell? ⟨bY, 0, none⟩ = some (.bool false) ∧ w'.cell? ⟨bY, 1, none⟩ = some (.int .i64 0) ∧ w'.cell? ⟨bY, 2, none⟩ = some (.int .i64 0) ∧ w'.cell? ⟨bY, 3, none⟩ = some (.string ⟨#[]⟩) ∧ w'.cell? ⟨bY, 4, none⟩ = some (.string ⟨#[]⟩) ∧ w'.cell? ⟨bY, 5, none⟩ = some (.string ⟨#[]⟩) ∧ w'.cell? ⟨bY, 6, none⟩ = some (.slice aoY 0 capY))
      (go_keep)
      (first
        | (go_at_call 12; (with_reducible refine (number_any (6) _).mono ?_); rintro e wn ⟨rfl, hbn⟩; have hBn : Below w4.heap.size w4 wn := ((by repeat' (first | exact Below.refl _ _ | exact hBn | refine below_dr ?_ | refine below_al ?_ _)) : Below w4.heap.size w4 _).trans (hbn.mono (by simp <;> omega)); have hzn := hBn.size; have hcn := (fun o => hbn.cell (p := ⟨bY, o, none⟩) (by simp <;> omega)); have hwn : bY < wn.heap.size := (by omega); have hon := cell_other (b := bY) (b' := wn.heap.size) (by omega); have hgn := (fun (b o : Nat) (h : b < _) => hbn.cell (p := ⟨b, o, none⟩) h); have hfn := (fun (b o : Nat) (h : b < _) => hbn.frozen (p := ⟨b, o, none⟩) h); first | (refine have_it (w4.heap.size < wn.heap.size) ?_ ?_; have h9 := hbn.size; simp at h9; omega; intro hlt) | skip)
        | (go_at_call 11; (with_reducible refine (ex3 _ _ (HQ1.out _ (by repeat' (first | exact Below.refl _ _ | exact hBn | refine below_dr ?_ | refine below_al ?_ _)))).mono ?_); rintro e wp ⟨v2, rfl, hq2, hbp⟩; obtain ⟨ao2, cap2, rfl⟩ := hq2.at.slice; have hBp : Below w4.heap.size w4 wp := ((by repeat' (first | exact Below.refl _ _ | exact hBn | refine below_dr ?_ | refine below_al ?_ _)) : Below w4.heap.size w4 _).trans (hbp.mono (by first | omega | (simp <;> omega))); have hcp := (fun o => hbp.cell (p := ⟨bY, o, none⟩) (by first | omega | (simp <;> omega))); have hgp := (fun (b o : Nat) (h : b < _) => hbp.cell (p := ⟨b, o, none⟩) h); have hfp := (fun (b o : Nat) (h : b < _) => hbp.frozen (p := ⟨b, o, none⟩) h)))
    · go_wp2_with fail
      go_meet
      exact ⟨rfl, rfl, wp.heap.size, ao2, cap2, rfl, heap_alloc_new _ _, hBp.size, (OwnQ.keep hq2 (below_al (Below.refl _ _) _)).at, below_al hBp _⟩
    · have hold := (hbp.block wn.heap.size (by simp)).trans (heap_alloc_new wn _)
      have hA := set_block hold [.bool true, .int .i64 1, .int .i64 6, .string ⟨#[]⟩, .string ⟨#[]⟩, .string ⟨#[]⟩, .slice ao2 0 cap2] rfl
      have hB := (own_set hq2 (b := wn.heap.size) (by simp) [.bool true, .int .i64 1, .int .i64 6, .string ⟨#[]⟩, .string ⟨#[]⟩, .string ⟨#[]⟩, .slice ao2 0 cap2] 0).at
      have hC := below_setCells hBp (b := wn.heap.size) hzn 0 [.bool true, .int .i64 1, .int .i64 6, .string ⟨#[]⟩, .string ⟨#[]⟩, .string ⟨#[]⟩, .slice ao2 0 cap2]
      go_wp2_with fail
      go_meet
      exact ⟨rfl, rfl, wn.heap.size, ao2, cap2, rfl, hA, hzn, hB, hC⟩
    · have hold := (hbp.block w4.heap.size hlt).trans ((hbn.block w4.heap.size (by simp)).trans (heap_alloc_new w4 _))
      have hA := set_block hold [.bool true, .int .i64 1, .int .i64 6, .string ⟨#[]⟩, .string ⟨#[]⟩, .string ⟨#[]⟩, .slice ao2 0 cap2] rfl
      have hB := (own_set hq2 (b := w4.heap.size) hlt [.bool true, .int .i64 1, .int .i64 6, .string ⟨#[]⟩, .string ⟨#[]⟩, .string ⟨#[]⟩, .slice ao2 0 cap2] 0).at
      have hC := below_setCells hBp (b := w4.heap.size) (Nat.le_refl _) 0 [.bool true, .int .i64 1, .int .i64 6, .string ⟨#[]⟩, .string ⟨#[]⟩, .string ⟨#[]⟩, .slice ao2 0 cap2]
      go_wp2_with fail
      go_meet
      exact ⟨rfl, rfl, w4.heap.size, ao2, cap2, rfl, hA, Nat.le_refl _, hB, hC⟩
  obtain ⟨rfl, rfl, bZ, aoZ, capZ, rfl, hXZ, hleZ, hqqZ, hbXZ⟩ := hcut
  replace hXZ : wc.heap[bZ]? = some (.cells #[.bool true, .int .i64 1, .int .i64 6, .string ⟨#[]⟩, .string ⟨#[]⟩, .string ⟨#[]⟩, .slice aoZ 0 capZ] 31) := hXZ
  replace hqqZ : QAt wc (.slice aoZ (0) capZ) [] := hqqZ
  obtain ⟨w5, rfl⟩ : ∃ x, x = wc := ⟨_, rfl⟩
  have hB5 := below_then hB4 hbXZ
  have hw5 := hw4.below hbXZ
  have M5 := mem_cons hXZ (M4.below hbXZ)
  replace hq1 := QAt.below hq1 hbXZ
  replace hqqY := QAt.below hqqY hbXZ
  clear c4_0_0 c4_0_1 c4_0_2 c4_0_3 c4_0_4 c4_0_5 c4_0_6 z4_0 c4_1_0 c4_1_1 c4_1_2 c4_1_3 c4_1_4 z4_1 c4_2_0 c4_2_1 c4_2_2 c4_2_3 c4_2_4 c4_2_5 c4_2_6 z4_2
  have c5_0_0 := Mem.cell (v := .bool true) M5.1 0 rfl
  have c5_0_1 := Mem.cell (v := .int .i64 1) M5.1 1 rfl
  have c5_0_2 := Mem.cell (v := .int .i64 6) M5.1 2 rfl
  have c5_0_3 := Mem.cell (v := .string ⟨#[]⟩) M5.1 3 rfl
  have c5_0_4 := Mem.cell (v := .string ⟨#[]⟩) M5.1 4 rfl
  have c5_0_5 := Mem.cell (v := .string ⟨#[]⟩) M5.1 5 rfl
  have c5_0_6 := Mem.cell (v := .slice aoZ 0 capZ) M5.1 6 rfl
  have z5_0 := Mem.lt M5.1
  have c5_1_0 := Mem.cell (v := .bool false) M5.2.1 0 rfl
  have c5_1_1 := Mem.cell (v := .int .i64 0) M5.2.1 1 rfl
  have c5_1_2 := Mem.cell (v := .int .i64 0) M5.2.1 2 rfl
  have c5_1_3 := Mem.cell (v := .string ⟨#[]⟩) M5.2.1 3 rfl
  have c5_1_4 := Mem.cell (v := .string ⟨#[]⟩) M5.2.1 4 rfl
  have c5_1_5 := Mem.cell (v := .string ⟨#[]⟩) M5.2.1 5 rfl
  have c5_1_6 := Mem.cell (v := .slice aoY 0 capY) M5.2.1 6 rfl
  have z5_1 := Mem.lt M5.2.1
  have c5_2_0 := Mem.cell (v := .int .i64 0) M5.2.2.1 0 rfl
  have c5_2_1 := Mem.cell (v := .int .i64 0) M5.2.2.1 1 rfl
  have c5_2_2 := Mem.cell (v := .string ⟨#[]⟩) M5.2.2.1 2 rfl
  have c5_2_3 := Mem.cell (v := .string ⟨#[]⟩) M5.2.2.1 3 rfl
  have c5_2_4 := Mem.cell (v := .string ⟨#[]⟩) M5.2.2.1 4 rfl
  have z5_2 := Mem.lt M5.2.2.1
  have c5_3_0 := Mem.cell (v := .bool false) M5.2.2.2.1 0 rfl
  have c5_3_1 := Mem.cell (v := .int .i64 0) M5.2.2.2.1 1 rfl
  have c5_3_2 := Mem.cell (v := .int .i64 0) M5.2.2.2.1 2 rfl
  have c5_3_3 := Mem.cell (v := .string ⟨#[]⟩) M5.2.2.2.1 3 rfl
  have c5_3_4 := Mem.cell (v := .string ⟨#[]⟩) M5.2.2.2.1 4 rfl
  have c5_3_5 := Mem.cell (v := .string ⟨#[]⟩) M5.2.2.2.1 5 rfl
  have c5_3_6 := Mem.cell (v := .slice ao1 1 cap1) M5.2.2.2.1 6 rfl
  have z5_3 := Mem.lt M5.2.2.2.1
  go_upto_region 4 with (fail)
  refine wp_named ?_
  intro w6 hW6
  have hB6 : Below w.heap.size w w6 := by rw [hW6]; exact hB5
  have hw6 : Laid w6 := by rw [hW6]; exact hw5
  have M6 := M5
  rw [← hW6] at M6
  have hS6 : Below w5.heap.size w5 w6 := by rw [hW6]; exact (Below.refl _ _)
  replace hq1 := QAt.below hq1 hS6
  replace hqqY := QAt.below hqqY hS6
  replace hqqZ := QAt.below hqqZ hS6
  clear hS6
  clear c5_0_0 c5_0_1 c5_0_2 c5_0_3 c5_0_4 c5_0_5 c5_0_6 z5_0 c5_1_0 c5_1_1 c5_1_2 c5_1_3 c5_1_4 c5_1_5 c5_1_6 z5_1 c5_2_0 c5_2_1 c5_2_2 c5_2_3 c5_2_4 z5_2 c5_3_0 c5_3_1 c5_3_2 c5_3_3 c5_3_4 c5_3_5 c5_3_6 z5_3
  clear hW6
  have c6_0_0 := Mem.cell (v := .bool true) M6.1 0 rfl
  have c6_0_1 := Mem.cell (v := .int .i64 1) M6.1 1 rfl
  have c6_0_2 := Mem.cell (v := .int .i64 6) M6.1 2 rfl
  have c6_0_3 := Mem.cell (v := .string ⟨#[]⟩) M6.1 3 rfl
  have c6_0_4 := Mem.cell (v := .string ⟨#[]⟩) M6.1 4 rfl
  have c6_0_5 := Mem.cell (v := .string ⟨#[]⟩) M6.1 5 rfl
  have c6_0_6 := Mem.cell (v := .slice aoZ 0 capZ) M6.1 6 rfl
  have z6_0 := Mem.lt M6.1
  have c6_1_0 := Mem.cell (v := .bool false) M6.2.1 0 rfl
  have c6_1_1 := Mem.cell (v := .int .i64 0) M6.2.1 1 rfl
  have c6_1_2 := Mem.cell (v := .int .i64 0) M6.2.1 2 rfl
  have c6_1_3 := Mem.cell (v := .string ⟨#[]⟩) M6.2.1 3 rfl
  have c6_1_4 := Mem.cell (v := .string ⟨#[]⟩) M6.2.1 4 rfl
  have c6_1_5 := Mem.cell (v := .string ⟨#[]⟩) M6.2.1 5 rfl
  have c6_1_6 := Mem.cell (v := .slice aoY 0 capY) M6.2.1 6 rfl
  have z6_1 := Mem.lt M6.2.1
  have c6_2_0 := Mem.cell (v := .int .i64 0) M6.2.2.1 0 rfl
  have c6_2_1 := Mem.cell (v := .int .i64 0) M6.2.2.1 1 rfl
  have c6_2_2 := Mem.cell (v := .string ⟨#[]⟩) M6.2.2.1 2 rfl
  have c6_2_3 := Mem.cell (v := .string ⟨#[]⟩) M6.2.2.1 3 rfl
  have c6_2_4 := Mem.cell (v := .string ⟨#[]⟩) M6.2.2.1 4 rfl
  have z6_2 := Mem.lt M6.2.2.1
  have c6_3_0 := Mem.cell (v := .bool false) M6.2.2.2.1 0 rfl
  have c6_3_1 := Mem.cell (v := .int .i64 0) M6.2.2.2.1 1 rfl
  have c6_3_2 := Mem.cell (v := .int .i64 0) M6.2.2.2.1 2 rfl
  have c6_3_3 := Mem.cell (v := .string ⟨#[]⟩) M6.2.2.2.1 3 rfl
  have c6_3_4 := Mem.cell (v := .string ⟨#[]⟩) M6.2.2.2.1 4 rfl
  have c6_3_5 := Mem.cell (v := .string ⟨#[]⟩) M6.2.2.2.1 5 rfl
  have c6_3_6 := Mem.cell (v := .slice ao1 1 cap1) M6.2.2.2.1 6 rfl
  have z6_3 := Mem.lt M6.2.2.2.1
  go_cut [11, 12, 13] (fun s5 s6 s7 wx => s6 = .bool false ∧ s7 = .string ⟨#[]⟩ ∧ VarBox w6 ⟨true, ⟨1, 6, ⟨#[]⟩, ⟨#[]⟩, ⟨#[]⟩⟩, [⟨⟨#[50]⟩, true, ⟨1, 7, ⟨#[]⟩, ⟨#[]⟩, ⟨#[]⟩⟩⟩]⟩ s5 wx)
  case first =>
    have hB_lt : bZ < w6.heap.size := by first | assumption | omega
    have ho2 := cell_other (b := bZ) (b' := w6.heap.size) (by omega)
    have HQ1 := Lib.hid (fun W hb => QAt.below (w' := W) hqqZ hb)
    go_region_held3 (fun w' => w'.cell? ⟨bZ, 0, none⟩ = some (.bool true) ∧ w'.cell? ⟨bZ, 1, none⟩ = some (.int .i64 1) ∧ w'.cell? ⟨bZ, 2, none⟩ = some (.int .i64 6) ∧ w'.cell? ⟨bZ, 3, none⟩ = some (.string ⟨#[]⟩) ∧ w'.cell? ⟨bZ, 4, none⟩ = some (.string ⟨#[]⟩) ∧ w'.cell? ⟨bZ, 5, none⟩ = some (.string ⟨#[]⟩) ∧ w'.cell? ⟨bZ, 6, none⟩ = some (.slice aoZ 0 capZ))
      (go_keep)
      (first
        | (go_at_call 12; (with_reducible refine (number_any (7) _).mono ?_); rintro e wn ⟨rfl, hbn⟩; have hBn : Below w6.heap.size w6 wn := ((by repeat' (first | exact Below.refl _ _ | exact hBn | refine below_dr ?_ | refine below_al ?_ _)) : Below w6.heap.size w6 _).trans (hbn.mono (by simp <;> omega)); have hzn := hBn.size; have hcn := (fun o => hbn.cell (p := ⟨bZ, o, none⟩) (by simp <;> omega)); have hwn : bZ < wn.heap.size := (by omega); have hon := cell_other (b := bZ) (b' := wn.heap.size) (by omega); have hgn := (fun (b o : Nat) (h : b < _) => hbn.cell (p := ⟨b, o, none⟩) h); have hfn := (fun (b o : Nat) (h : b < _) => hbn.frozen (p := ⟨b, o, none⟩) h); first | (refine have_it (w6.heap.size < wn.heap.size) ?_ ?_; have h9 := hbn.size; simp at h9; omega; intro hlt) | skip)
        | (go_at_call 11; (with_reducible refine (ex4 _ _ (HQ1.out _ (by repeat' (first | exact Below.refl _ _ | exact hBn | refine below_dr ?_ | refine below_al ?_ _)))).mono ?_); rintro e wp ⟨v2, rfl, hq2, hbp⟩; obtain ⟨ao2, cap2, rfl⟩ := hq2.at.slice; have hBp : Below w6.heap.size w6 wp := ((by repeat' (first | exact Below.refl _ _ | exact hBn | refine below_dr ?_ | refine below_al ?_ _)) : Below w6.heap.size w6 _).trans (hbp.mono (by first | omega | (simp <;> omega))); have hcp := (fun o => hbp.cell (p := ⟨bZ, o, none⟩) (by first | omega | (simp <;> omega))); have hgp := (fun (b o : Nat) (h : b < _) => hbp.cell (p := ⟨b, o, none⟩) h); have hfp := (fun (b o : Nat) (h : b < _) => hbp.frozen (p := ⟨b, o, none⟩) h)))
    · go_wp2_with fail
      go_meet
      exact ⟨rfl, rfl, wp.heap.size, ao2, cap2, rfl, heap_alloc_new _ _, hBp.size, (OwnQ.keep hq2 (below_al (Below.refl _ _) _)).at, below_al hBp _⟩
    · have hold := (hbp.block wn.heap.size (by simp)).trans (heap_alloc_new wn _)
      have hA := set_block hold [.bool true, .int .i64 1, .int .i64 6, .string ⟨#[]⟩, .string ⟨#[]⟩, .string ⟨#[]⟩, .slice ao2 1 cap2] rfl
      have hB := (own_set hq2 (b := wn.heap.size) (by simp) [.bool true, .int .i64 1, .int .i64 6, .string ⟨#[]⟩, .string ⟨#[]⟩, .string ⟨#[]⟩, .slice ao2 1 cap2] 0).at
      have hC := below_setCells hBp (b := wn.heap.size) hzn 0 [.bool true, .int .i64 1, .int .i64 6, .string ⟨#[]⟩, .string ⟨#[]⟩, .string ⟨#[]⟩, .slice ao2 1 cap2]
      go_wp2_with fail
      go_meet
      exact ⟨rfl, rfl, wn.heap.size, ao2, cap2, rfl, hA, hzn, hB, hC⟩
    · have hold := (hbp.block w6.heap.size hlt).trans ((hbn.block w6.heap.size (by simp)).trans (heap_alloc_new w6 _))
      have hA := set_block hold [.bool true, .int .i64 1, .int .i64 6, .string ⟨#[]⟩, .string ⟨#[]⟩, .string ⟨#[]⟩, .slice ao2 1 cap2] rfl
      have hB := (own_set hq2 (b := w6.heap.size) hlt [.bool true, .int .i64 1, .int .i64 6, .string ⟨#[]⟩, .string ⟨#[]⟩, .string ⟨#[]⟩, .slice ao2 1 cap2] 0).at
      have hC := below_setCells hBp (b := w6.heap.size) (Nat.le_refl _) 0 [.bool true, .int .i64 1, .int .i64 6, .string ⟨#[]⟩, .string ⟨#[]⟩, .string ⟨#[]⟩, .slice ao2 1 cap2]
      go_wp2_with fail
      go_meet
      exact ⟨rfl, rfl, w6.heap.size, ao2, cap2, rfl, hA, Nat.le_refl _, hB, hC⟩
  obtain ⟨rfl, rfl, bW, aoW, capW, rfl, hXW, hleW, hqqW, hbXW⟩ := hcut
  replace hXW : wc.heap[bW]? = some (.cells #[.bool true, .int .i64 1, .int .i64 6, .string ⟨#[]⟩, .string ⟨#[]⟩, .string ⟨#[]⟩, .slice aoW 1 capW] 31) := hXW
  replace hqqW : QAt wc (.slice aoW (1) capW) [⟨⟨#[50]⟩, true, ⟨1, 7, ⟨#[]⟩, ⟨#[]⟩, ⟨#[]⟩⟩⟩] := hqqW
  obtain ⟨w7, rfl⟩ : ∃ x, x = wc := ⟨_, rfl⟩
  have hB7 := below_then hB6 hbXW
  have hw7 := hw6.below hbXW
  have M7 := mem_cons hXW (M6.below hbXW)
  replace hq1 := QAt.below hq1 hbXW
  replace hqqY := QAt.below hqqY hbXW
  replace hqqZ := QAt.below hqqZ hbXW
  clear c6_0_0 c6_0_1 c6_0_2 c6_0_3 c6_0_4 c6_0_5 c6_0_6 z6_0 c6_1_0 c6_1_1 c6_1_2 c6_1_3 c6_1_4 c6_1_5 c6_1_6 z6_1 c6_2_0 c6_2_1 c6_2_2 c6_2_3 c6_2_4 z6_2 c6_3_0 c6_3_1 c6_3_2 c6_3_3 c6_3_4 c6_3_5 c6_3_6 z6_3
  have c7_0_0 := Mem.cell (v := .bool true) M7.1 0 rfl
  have c7_0_1 := Mem.cell (v := .int .i64 1) M7.1 1 rfl
  have c7_0_2 := Mem.cell (v := .int .i64 6) M7.1 2 rfl
  have c7_0_3 := Mem.cell (v := .string ⟨#[]⟩) M7.1 3 rfl
  have c7_0_4 := Mem.cell (v := .string ⟨#[]⟩) M7.1 4 rfl
  have c7_0_5 := Mem.cell (v := .string ⟨#[]⟩) M7.1 5 rfl
  have c7_0_6 := Mem.cell (v := .slice aoW 1 capW) M7.1 6 rfl
  have z7_0 := Mem.lt M7.1
  have c7_1_0 := Mem.cell (v := .bool true) M7.2.1 0 rfl
  have c7_1_1 := Mem.cell (v := .int .i64 1) M7.2.1 1 rfl
  have c7_1_2 := Mem.cell (v := .int .i64 6) M7.2.1 2 rfl
  have c7_1_3 := Mem.cell (v := .string ⟨#[]⟩) M7.2.1 3 rfl
  have c7_1_4 := Mem.cell (v := .string ⟨#[]⟩) M7.2.1 4 rfl
  have c7_1_5 := Mem.cell (v := .string ⟨#[]⟩) M7.2.1 5 rfl
  have c7_1_6 := Mem.cell (v := .slice aoZ 0 capZ) M7.2.1 6 rfl
  have z7_1 := Mem.lt M7.2.1
  have c7_2_0 := Mem.cell (v := .bool false) M7.2.2.1 0 rfl
  have c7_2_1 := Mem.cell (v := .int .i64 0) M7.2.2.1 1 rfl
  have c7_2_2 := Mem.cell (v := .int .i64 0) M7.2.2.1 2 rfl
  have c7_2_3 := Mem.cell (v := .string ⟨#[]⟩) M7.2.2.1 3 rfl
  have c7_2_4 := Mem.cell (v := .string ⟨#[]⟩) M7.2.2.1 4 rfl
  have c7_2_5 := Mem.cell (v := .string ⟨#[]⟩) M7.2.2.1 5 rfl
  have c7_2_6 := Mem.cell (v := .slice aoY 0 capY) M7.2.2.1 6 rfl
  have z7_2 := Mem.lt M7.2.2.1
  have c7_3_0 := Mem.cell (v := .int .i64 0) M7.2.2.2.1 0 rfl
  have c7_3_1 := Mem.cell (v := .int .i64 0) M7.2.2.2.1 1 rfl
  have c7_3_2 := Mem.cell (v := .string ⟨#[]⟩) M7.2.2.2.1 2 rfl
  have c7_3_3 := Mem.cell (v := .string ⟨#[]⟩) M7.2.2.2.1 3 rfl
  have c7_3_4 := Mem.cell (v := .string ⟨#[]⟩) M7.2.2.2.1 4 rfl
  have z7_3 := Mem.lt M7.2.2.2.1
  have c7_4_0 := Mem.cell (v := .bool false) M7.2.2.2.2.1 0 rfl
  have c7_4_1 := Mem.cell (v := .int .i64 0) M7.2.2.2.2.1 1 rfl
  have c7_4_2 := Mem.cell (v := .int .i64 0) M7.2.2.2.2.1 2 rfl
  have c7_4_3 := Mem.cell (v := .string ⟨#[]⟩) M7.2.2.2.2.1 3 rfl
  have c7_4_4 := Mem.cell (v := .string ⟨#[]⟩) M7.2.2.2.2.1 4 rfl
  have c7_4_5 := Mem.cell (v := .string ⟨#[]⟩) M7.2.2.2.2.1 5 rfl
  have c7_4_6 := Mem.cell (v := .slice ao1 1 cap1) M7.2.2.2.2.1 6 rfl
  have z7_4 := Mem.lt M7.2.2.2.2.1
  go_wp2_with fail
  refine Calls.named ?_
  intro W8 hW8
  have hB8_ : Below w.heap.size w W8 := by rw [hW8]; exact hB7
  have hw8_ : Laid W8 := by rw [hW8]; exact hw7
  have M8_ := M7
  rw [← hW8] at M8_
  have hS8 : Below w7.heap.size w7 W8 := by rw [hW8]; exact (Below.refl _ _)
  have hq1_ := QAt.below hq1 hS8
  have hqqY_ := QAt.below hqqY hS8
  have hqqZ_ := QAt.below hqqZ hS8
  have hqqW_ := QAt.below hqqW hS8
  clear hS8 hq1 hqqY hqqZ hqqW
  clear hW8
  clear c7_0_0 c7_0_1 c7_0_2 c7_0_3 c7_0_4 c7_0_5 c7_0_6 z7_0 c7_1_0 c7_1_1 c7_1_2 c7_1_3 c7_1_4 c7_1_5 c7_1_6 z7_1 c7_2_0 c7_2_1 c7_2_2 c7_2_3 c7_2_4 c7_2_5 c7_2_6 z7_2 c7_3_0 c7_3_1 c7_3_2 c7_3_3 c7_3_4 z7_3 c7_4_0 c7_4_1 c7_4_2 c7_4_3 c7_4_4 c7_4_5 c7_4_6 z7_4
  refine (ex5 _ _ hqqW_).mono ?_
  rintro e w8 ⟨v5, rfl, hq5o, hb8⟩
  have hq1 := QAt.below hq1_ hb8
  have hqqY := QAt.below hqqY_ hb8
  have hqqZ := QAt.below hqqZ_ hb8
  have hqqW := QAt.below hqqW_ hb8
  clear hq1_ hqqY_ hqqZ_ hqqW_
  have hB8 := below_then hB8_ hb8
  have hw8 := hw8_.below hb8
  have M8 := M8_.below hb8
  clear M8_ hB8_ hb8 hw8_
  have c8_0_0 := Mem.cell (v := .bool true) M8.1 0 rfl
  have c8_0_1 := Mem.cell (v := .int .i64 1) M8.1 1 rfl
  have c8_0_2 := Mem.cell (v := .int .i64 6) M8.1 2 rfl
  have c8_0_3 := Mem.cell (v := .string ⟨#[]⟩) M8.1 3 rfl
  have c8_0_4 := Mem.cell (v := .string ⟨#[]⟩) M8.1 4 rfl
  have c8_0_5 := Mem.cell (v := .string ⟨#[]⟩) M8.1 5 rfl
  have c8_0_6 := Mem.cell (v := .slice aoW 1 capW) M8.1 6 rfl
  have z8_0 := Mem.lt M8.1
  have c8_1_0 := Mem.cell (v := .bool true) M8.2.1 0 rfl
  have c8_1_1 := Mem.cell (v := .int .i64 1) M8.2.1 1 rfl
  have c8_1_2 := Mem.cell (v := .int .i64 6) M8.2.1 2 rfl
  have c8_1_3 := Mem.cell (v := .string ⟨#[]⟩) M8.2.1 3 rfl
  have c8_1_4 := Mem.cell (v := .string ⟨#[]⟩) M8.2.1 4 rfl
  have c8_1_5 := Mem.cell (v := .string ⟨#[]⟩) M8.2.1 5 rfl
  have c8_1_6 := Mem.cell (v := .slice aoZ 0 capZ) M8.2.1 6 rfl
  have z8_1 := Mem.lt M8.2.1
  have c8_2_0 := Mem.cell (v := .bool false) M8.2.2.1 0 rfl
  have c8_2_1 := Mem.cell (v := .int .i64 0) M8.2.2.1 1 rfl
  have c8_2_2 := Mem.cell (v := .int .i64 0) M8.2.2.1 2 rfl
  have c8_2_3 := Mem.cell (v := .string ⟨#[]⟩) M8.2.2.1 3 rfl
  have c8_2_4 := Mem.cell (v := .string ⟨#[]⟩) M8.2.2.1 4 rfl
  have c8_2_5 := Mem.cell (v := .string ⟨#[]⟩) M8.2.2.1 5 rfl
  have c8_2_6 := Mem.cell (v := .slice aoY 0 capY) M8.2.2.1 6 rfl
  have z8_2 := Mem.lt M8.2.2.1
  have c8_3_0 := Mem.cell (v := .int .i64 0) M8.2.2.2.1 0 rfl
  have c8_3_1 := Mem.cell (v := .int .i64 0) M8.2.2.2.1 1 rfl
  have c8_3_2 := Mem.cell (v := .string ⟨#[]⟩) M8.2.2.2.1 2 rfl
  have c8_3_3 := Mem.cell (v := .string ⟨#[]⟩) M8.2.2.2.1 3 rfl
  have c8_3_4 := Mem.cell (v := .string ⟨#[]⟩) M8.2.2.2.1 4 rfl
  have z8_3 := Mem.lt M8.2.2.2.1
  have c8_4_0 := Mem.cell (v := .bool false) M8.2.2.2.2.1 0 rfl
  have c8_4_1 := Mem.cell (v := .int .i64 0) M8.2.2.2.2.1 1 rfl
  have c8_4_2 := Mem.cell (v := .int .i64 0) M8.2.2.2.2.1 2 rfl
  have c8_4_3 := Mem.cell (v := .string ⟨#[]⟩) M8.2.2.2.2.1 3 rfl
  have c8_4_4 := Mem.cell (v := .string ⟨#[]⟩) M8.2.2.2.2.1 4 rfl
  have c8_4_5 := Mem.cell (v := .string ⟨#[]⟩) M8.2.2.2.2.1 5 rfl
  have c8_4_6 := Mem.cell (v := .slice ao1 1 cap1) M8.2.2.2.2.1 6 rfl
  have z8_4 := Mem.lt M8.2.2.2.2.1
  have hq5 := hq5o.at
  clear hq5o
  obtain ⟨ao5, cap5, rfl⟩ := hq5.slice
  clear hq5
  go_wp2_with fail
  refine Calls.named ?_
  intro W9 hW9
  have hB9_ : Below w.heap.size w W9 := by rw [hW9]; exact (below_al (below_al hB8 _) _)
  have hw9_ : Laid W9 := by rw [hW9]; exact ((hw8.alloc _).alloc _)
  have M9_ := ((M8).new' (w8.heap.size) (by rfl) (.cells #[.bool true, .int .i64 1, .int .i64 7, .string ⟨#[]⟩, .string ⟨#[]⟩, .string ⟨#[]⟩, .slice ao5 0 cap5] 31)).new' (w8.heap.size + 1) (by simp) (.cells #[.int .i64 1, .int .i64 6, .string ⟨#[]⟩, .string ⟨#[]⟩, .string ⟨#[]⟩] 28)
  rw [← hW9] at M9_
  have hS9 : Below w8.heap.size w8 W9 := by rw [hW9]; exact (below_al (below_al (Below.refl _ _) _) _)
  have hq1_ := QAt.below hq1 hS9
  have hqqY_ := QAt.below hqqY hS9
  have hqqZ_ := QAt.below hqqZ hS9
  have hqqW_ := QAt.below hqqW hS9
  clear hS9 hq1 hqqY hqqZ hqqW
  clear hW9
  clear c8_0_0 c8_0_1 c8_0_2 c8_0_3 c8_0_4 c8_0_5 c8_0_6 z8_0 c8_1_0 c8_1_1 c8_1_2 c8_1_3 c8_1_4 c8_1_5 c8_1_6 z8_1 c8_2_0 c8_2_1 c8_2_2 c8_2_3 c8_2_4 c8_2_5 c8_2_6 z8_2 c8_3_0 c8_3_1 c8_3_2 c8_3_3 c8_3_4 z8_3 c8_4_0 c8_4_1 c8_4_2 c8_4_3 c8_4_4 c8_4_5 c8_4_6 z8_4
  refine (ex6 _ _ hqqW_).mono ?_
  rintro e w9 ⟨v6, rfl, hq6o, hb9⟩
  have hq1 := QAt.below hq1_ hb9
  have hqqY := QAt.below hqqY_ hb9
  have hqqZ := QAt.below hqqZ_ hb9
  have hqqW := QAt.below hqqW_ hb9
  clear hq1_ hqqY_ hqqZ_ hqqW_
  have hB9 := below_then hB9_ hb9
  have hw9 := hw9_.below hb9
  have M9 := M9_.below hb9
  clear M9_ hB9_ hb9 hw9_
  have c9_0_0 := Mem.cell (v := .int .i64 1) M9.1 0 rfl
  have c9_0_1 := Mem.cell (v := .int .i64 6) M9.1 1 rfl
  have c9_0_2 := Mem.cell (v := .string ⟨#[]⟩) M9.1 2 rfl
  have c9_0_3 := Mem.cell (v := .string ⟨#[]⟩) M9.1 3 rfl
  have c9_0_4 := Mem.cell (v := .string ⟨#[]⟩) M9.1 4 rfl
  have z9_0 := Mem.lt M9.1
  have c9_1_0 := Mem.cell (v := .bool true) M9.2.1 0 rfl
  have c9_1_1 := Mem.cell (v := .int .i64 1) M9.2.1 1 rfl
  have c9_1_2 := Mem.cell (v := .int .i64 7) M9.2.1 2 rfl
  have c9_1_3 := Mem.cell (v := .string ⟨#[]⟩) M9.2.1 3 rfl
  have c9_1_4 := Mem.cell (v := .string ⟨#[]⟩) M9.2.1 4 rfl
  have c9_1_5 := Mem.cell (v := .string ⟨#[]⟩) M9.2.1 5 rfl
  have c9_1_6 := Mem.cell (v := .slice ao5 0 cap5) M9.2.1 6 rfl
  have z9_1 := Mem.lt M9.2.1
  have c9_2_0 := Mem.cell (v := .bool true) M9.2.2.1 0 rfl
  have c9_2_1 := Mem.cell (v := .int .i64 1) M9.2.2.1 1 rfl
  have c9_2_2 := Mem.cell (v := .int .i64 6) M9.2.2.1 2 rfl
  have c9_2_3 := Mem.cell (v := .string ⟨#[]⟩) M9.2.2.1 3 rfl
  have c9_2_4 := Mem.cell (v := .string ⟨#[]⟩) M9.2.2.1 4 rfl
  have c9_2_5 := Mem.cell (v := .string ⟨#[]⟩) M9.2.2.1 5 rfl
  have c9_2_6 := Mem.cell (v := .slice aoW 1 capW) M9.2.2.1 6 rfl
  have z9_2 := Mem.lt M9.2.2.1
  have c9_3_0 := Mem.cell (v := .bool true) M9.2.2.2.1 0 rfl
  have c9_3_1 := Mem.cell (v := .int .i64 1) M9.2.2.2.1 1 rfl
  have c9_3_2 := Mem.cell (v := .int .i64 6) M9.2.2.2.1 2 rfl
  have c9_3_3 := Mem.cell (v := .string ⟨#[]⟩) M9.2.2.2.1 3 rfl
  have c9_3_4 := Mem.cell (v := .string ⟨#[]⟩) M9.2.2.2.1 4 rfl
  have c9_3_5 := Mem.cell (v := .string ⟨#[]⟩) M9.2.2.2.1 5 rfl
  have c9_3_6 := Mem.cell (v := .slice aoZ 0 capZ) M9.2.2.2.1 6 rfl
  have z9_3 := Mem.lt M9.2.2.2.1
  have c9_4_0 := Mem.cell (v := .bool false) M9.2.2.2.2.1 0 rfl
  have c9_4_1 := Mem.cell (v := .int .i64 0) M9.2.2.2.2.1 1 rfl
  have c9_4_2 := Mem.cell (v := .int .i64 0) M9.2.2.2.2.1 2 rfl
  have c9_4_3 := Mem.cell (v := .string ⟨#[]⟩) M9.2.2.2.2.1 3 rfl
  have c9_4_4 := Mem.cell (v := .string ⟨#[]⟩) M9.2.2.2.2.1 4 rfl
  have c9_4_5 := Mem.cell (v := .string ⟨#[]⟩) M9.2.2.2.2.1 5 rfl
  have c9_4_6 := Mem.cell (v := .slice aoY 0 capY) M9.2.2.2.2.1 6 rfl
  have z9_4 := Mem.lt M9.2.2.2.2.1
  have c9_5_0 := Mem.cell (v := .int .i64 0) M9.2.2.2.2.2.1 0 rfl
  have c9_5_1 := Mem.cell (v := .int .i64 0) M9.2.2.2.2.2.1 1 rfl
  have c9_5_2 := Mem.cell (v := .string ⟨#[]⟩) M9.2.2.2.2.2.1 2 rfl
  have c9_5_3 := Mem.cell (v := .string ⟨#[]⟩) M9.2.2.2.2.2.1 3 rfl
  have c9_5_4 := Mem.cell (v := .string ⟨#[]⟩) M9.2.2.2.2.2.1 4 rfl
  have z9_5 := Mem.lt M9.2.2.2.2.2.1
  have c9_6_0 := Mem.cell (v := .bool false) M9.2.2.2.2.2.2.1 0 rfl
  have c9_6_1 := Mem.cell (v := .int .i64 0) M9.2.2.2.2.2.2.1 1 rfl
  have c9_6_2 := Mem.cell (v := .int .i64 0) M9.2.2.2.2.2.2.1 2 rfl
  have c9_6_3 := Mem.cell (v := .string ⟨#[]⟩) M9.2.2.2.2.2.2.1 3 rfl
  have c9_6_4 := Mem.cell (v := .string ⟨#[]⟩) M9.2.2.2.2.2.2.1 4 rfl
  have c9_6_5 := Mem.cell (v := .string ⟨#[]⟩) M9.2.2.2.2.2.2.1 5 rfl
  have c9_6_6 := Mem.cell (v := .slice ao1 1 cap1) M9.2.2.2.2.2.2.1 6 rfl
  have z9_6 := Mem.lt M9.2.2.2.2.2.2.1
  have hq6 := hq6o.at
  clear hq6o
  obtain ⟨ao6, cap6, rfl⟩ := hq6.slice
  replace hq6 : QAt _ (.slice ao6 0 cap6) [] := hq6
  go_wp2_with fail
  refine Calls.named ?_
  intro W10 hW10
  have hB10_ : Below w.heap.size w W10 := by rw [hW10]; exact (below_al hB9 _)
  have hw10_ : Laid W10 := by rw [hW10]; exact (hw9.alloc _)
  have M10_ := (M9).new' (w9.heap.size) (by rfl) (.cells #[.bool true, .int .i64 1, .int .i64 6, .string ⟨#[]⟩, .string ⟨#[]⟩, .string ⟨#[]⟩, .slice ao6 0 cap6] 31)
  rw [← hW10] at M10_
  have hS10 : Below w9.heap.size w9 W10 := by rw [hW10]; exact (below_al (Below.refl _ _) _)
  have hq1_ := QAt.below hq1 hS10
  have hqqY_ := QAt.below hqqY hS10
  have hqqZ_ := QAt.below hqqZ hS10
  have hqqW_ := QAt.below hqqW hS10
  have hq6_ := QAt.below hq6 hS10
  clear hS10 hq1 hqqY hqqZ hqqW hq6
  clear hW10
  clear c9_0_0 c9_0_1 c9_0_2 c9_0_3 c9_0_4 z9_0 c9_1_0 c9_1_1 c9_1_2 c9_1_3 c9_1_4 c9_1_5 c9_1_6 z9_1 c9_2_0 c9_2_1 c9_2_2 c9_2_3 c9_2_4 c9_2_5 c9_2_6 z9_2 c9_3_0 c9_3_1 c9_3_2 c9_3_3 c9_3_4 c9_3_5 c9_3_6 z9_3 c9_4_0 c9_4_1 c9_4_2 c9_4_3 c9_4_4 c9_4_5 c9_4_6 z9_4 c9_5_0 c9_5_1 c9_5_2 c9_5_3 c9_5_4 z9_5 c9_6_0 c9_6_1 c9_6_2 c9_6_3 c9_6_4 c9_6_5 c9_6_6 z9_6
  refine (msame_any true 1 6 ⟨#[]⟩ ⟨#[]⟩ ⟨#[]⟩ [] _ true 1 6 ⟨#[]⟩ ⟨#[]⟩ ⟨#[]⟩ [] _ _ hq6_ hqqZ_ (by simp) (by simp)).mono ?_
  rw [same_ex]
  rintro e w10 ⟨rfl, hb10⟩
  have hq1 := QAt.below hq1_ hb10
  have hqqY := QAt.below hqqY_ hb10
  have hqqZ := QAt.below hqqZ_ hb10
  have hqqW := QAt.below hqqW_ hb10
  have hq6 := QAt.below hq6_ hb10
  clear hq1_ hqqY_ hqqZ_ hqqW_ hq6_
  have hB10 := below_then hB10_ hb10
  have hw10 := hw10_.below hb10
  have M10 := M10_.below hb10
  clear M10_ hB10_ hb10 hw10_
  have c10_0_0 := Mem.cell (v := .bool true) M10.1 0 rfl
  have c10_0_1 := Mem.cell (v := .int .i64 1) M10.1 1 rfl
  have c10_0_2 := Mem.cell (v := .int .i64 6) M10.1 2 rfl
  have c10_0_3 := Mem.cell (v := .string ⟨#[]⟩) M10.1 3 rfl
  have c10_0_4 := Mem.cell (v := .string ⟨#[]⟩) M10.1 4 rfl
  have c10_0_5 := Mem.cell (v := .string ⟨#[]⟩) M10.1 5 rfl
  have c10_0_6 := Mem.cell (v := .slice ao6 0 cap6) M10.1 6 rfl
  have z10_0 := Mem.lt M10.1
  have c10_1_0 := Mem.cell (v := .int .i64 1) M10.2.1 0 rfl
  have c10_1_1 := Mem.cell (v := .int .i64 6) M10.2.1 1 rfl
  have c10_1_2 := Mem.cell (v := .string ⟨#[]⟩) M10.2.1 2 rfl
  have c10_1_3 := Mem.cell (v := .string ⟨#[]⟩) M10.2.1 3 rfl
  have c10_1_4 := Mem.cell (v := .string ⟨#[]⟩) M10.2.1 4 rfl
  have z10_1 := Mem.lt M10.2.1
  have c10_2_0 := Mem.cell (v := .bool true) M10.2.2.1 0 rfl
  have c10_2_1 := Mem.cell (v := .int .i64 1) M10.2.2.1 1 rfl
  have c10_2_2 := Mem.cell (v := .int .i64 7) M10.2.2.1 2 rfl
  have c10_2_3 := Mem.cell (v := .string ⟨#[]⟩) M10.2.2.1 3 rfl
  have c10_2_4 := Mem.cell (v := .string ⟨#[]⟩) M10.2.2.1 4 rfl
  have c10_2_5 := Mem.cell (v := .string ⟨#[]⟩) M10.2.2.1 5 rfl
  have c10_2_6 := Mem.cell (v := .slice ao5 0 cap5) M10.2.2.1 6 rfl
  have z10_2 := Mem.lt M10.2.2.1
  have c10_3_0 := Mem.cell (v := .bool true) M10.2.2.2.1 0 rfl
  have c10_3_1 := Mem.cell (v := .int .i64 1) M10.2.2.2.1 1 rfl
  have c10_3_2 := Mem.cell (v := .int .i64 6) M10.2.2.2.1 2 rfl
  have c10_3_3 := Mem.cell (v := .string ⟨#[]⟩) M10.2.2.2.1 3 rfl
  have c10_3_4 := Mem.cell (v := .string ⟨#[]⟩) M10.2.2.2.1 4 rfl
  have c10_3_5 := Mem.cell (v := .string ⟨#[]⟩) M10.2.2.2.1 5 rfl
  have c10_3_6 := Mem.cell (v := .slice aoW 1 capW) M10.2.2.2.1 6 rfl
  have z10_3 := Mem.lt M10.2.2.2.1
  have c10_4_0 := Mem.cell (v := .bool true) M10.2.2.2.2.1 0 rfl
  have c10_4_1 := Mem.cell (v := .int .i64 1) M10.2.2.2.2.1 1 rfl
  have c10_4_2 := Mem.cell (v := .int .i64 6) M10.2.2.2.2.1 2 rfl
  have c10_4_3 := Mem.cell (v := .string ⟨#[]⟩) M10.2.2.2.2.1 3 rfl
  have c10_4_4 := Mem.cell (v := .string ⟨#[]⟩) M10.2.2.2.2.1 4 rfl
  have c10_4_5 := Mem.cell (v := .string ⟨#[]⟩) M10.2.2.2.2.1 5 rfl
  have c10_4_6 := Mem.cell (v := .slice aoZ 0 capZ) M10.2.2.2.2.1 6 rfl
  have z10_4 := Mem.lt M10.2.2.2.2.1
  have c10_5_0 := Mem.cell (v := .bool false) M10.2.2.2.2.2.1 0 rfl
  have c10_5_1 := Mem.cell (v := .int .i64 0) M10.2.2.2.2.2.1 1 rfl
  have c10_5_2 := Mem.cell (v := .int .i64 0) M10.2.2.2.2.2.1 2 rfl
  have c10_5_3 := Mem.cell (v := .string ⟨#[]⟩) M10.2.2.2.2.2.1 3 rfl
  have c10_5_4 := Mem.cell (v := .string ⟨#[]⟩) M10.2.2.2.2.2.1 4 rfl
  have c10_5_5 := Mem.cell (v := .string ⟨#[]⟩) M10.2.2.2.2.2.1 5 rfl
  have c10_5_6 := Mem.cell (v := .slice aoY 0 capY) M10.2.2.2.2.2.1 6 rfl
  have z10_5 := Mem.lt M10.2.2.2.2.2.1
  have c10_6_0 := Mem.cell (v := .int .i64 0) M10.2.2.2.2.2.2.1 0 rfl
  have c10_6_1 := Mem.cell (v := .int .i64 0) M10.2.2.2.2.2.2.1 1 rfl
  have c10_6_2 := Mem.cell (v := .string ⟨#[]⟩) M10.2.2.2.2.2.2.1 2 rfl
  have c10_6_3 := Mem.cell (v := .string ⟨#[]⟩) M10.2.2.2.2.2.2.1 3 rfl
  have c10_6_4 := Mem.cell (v := .string ⟨#[]⟩) M10.2.2.2.2.2.2.1 4 rfl
  have z10_6 := Mem.lt M10.2.2.2.2.2.2.1
  have c10_7_0 := Mem.cell (v := .bool false) M10.2.2.2.2.2.2.2.1 0 rfl
  have c10_7_1 := Mem.cell (v := .int .i64 0) M10.2.2.2.2.2.2.2.1 1 rfl
  have c10_7_2 := Mem.cell (v := .int .i64 0) M10.2.2.2.2.2.2.2.1 2 rfl
  have c10_7_3 := Mem.cell (v := .string ⟨#[]⟩) M10.2.2.2.2.2.2.2.1 3 rfl
  have c10_7_4 := Mem.cell (v := .string ⟨#[]⟩) M10.2.2.2.2.2.2.2.1 4 rfl
  have c10_7_5 := Mem.cell (v := .string ⟨#[]⟩) M10.2.2.2.2.2.2.2.1 5 rfl
  have c10_7_6 := Mem.cell (v := .slice ao1 1 cap1) M10.2.2.2.2.2.2.2.1 6 rfl
  have z10_7 := Mem.lt M10.2.2.2.2.2.2.2.1
  go_wp2_with fail
  refine Calls.named ?_
  intro W11 hW11
  have hB11_ : Below w.heap.size w W11 := by rw [hW11]; exact hB10
  have hw11_ : Laid W11 := by rw [hW11]; exact hw10
  have M11_ := M10
  rw [← hW11] at M11_
  have hS11 : Below w10.heap.size w10 W11 := by rw [hW11]; exact (Below.refl _ _)
  have hq1_ := QAt.below hq1 hS11
  have hqqY_ := QAt.below hqqY hS11
  have hqqZ_ := QAt.below hqqZ hS11
  have hqqW_ := QAt.below hqqW hS11
  have hq6_ := QAt.below hq6 hS11
  clear hS11 hq1 hqqY hqqZ hqqW hq6
  clear hW11
  clear c10_0_0 c10_0_1 c10_0_2 c10_0_3 c10_0_4 c10_0_5 c10_0_6 z10_0 c10_1_0 c10_1_1 c10_1_2 c10_1_3 c10_1_4 z10_1 c10_2_0 c10_2_1 c10_2_2 c10_2_3 c10_2_4 c10_2_5 c10_2_6 z10_2 c10_3_0 c10_3_1 c10_3_2 c10_3_3 c10_3_4 c10_3_5 c10_3_6 z10_3 c10_4_0 c10_4_1 c10_4_2 c10_4_3 c10_4_4 c10_4_5 c10_4_6 z10_4 c10_5_0 c10_5_1 c10_5_2 c10_5_3 c10_5_4 c10_5_5 c10_5_6 z10_5 c10_6_0 c10_6_1 c10_6_2 c10_6_3 c10_6_4 z10_6 c10_7_0 c10_7_1 c10_7_2 c10_7_3 c10_7_4 c10_7_5 c10_7_6 z10_7
  refine (right_ex _ _ hw11_ hqqW_).mono ?_
  rintro e w11 ⟨rfl, hb11⟩
  have hq1 := QAt.below hq1_ hb11
  have hqqY := QAt.below hqqY_ hb11
  have hqqZ := QAt.below hqqZ_ hb11
  have hqqW := QAt.below hqqW_ hb11
  have hq6 := QAt.below hq6_ hb11
  clear hq1_ hqqY_ hqqZ_ hqqW_ hq6_
  have hB11 := below_then hB11_ hb11
  have hw11 := hw11_.below hb11
  have M11 := M11_.below hb11
  clear M11_ hB11_ hb11 hw11_
  have c11_0_0 := Mem.cell (v := .bool true) M11.1 0 rfl
  have c11_0_1 := Mem.cell (v := .int .i64 1) M11.1 1 rfl
  have c11_0_2 := Mem.cell (v := .int .i64 6) M11.1 2 rfl
  have c11_0_3 := Mem.cell (v := .string ⟨#[]⟩) M11.1 3 rfl
  have c11_0_4 := Mem.cell (v := .string ⟨#[]⟩) M11.1 4 rfl
  have c11_0_5 := Mem.cell (v := .string ⟨#[]⟩) M11.1 5 rfl
  have c11_0_6 := Mem.cell (v := .slice ao6 0 cap6) M11.1 6 rfl
  have z11_0 := Mem.lt M11.1
  have c11_1_0 := Mem.cell (v := .int .i64 1) M11.2.1 0 rfl
  have c11_1_1 := Mem.cell (v := .int .i64 6) M11.2.1 1 rfl
  have c11_1_2 := Mem.cell (v := .string ⟨#[]⟩) M11.2.1 2 rfl
  have c11_1_3 := Mem.cell (v := .string ⟨#[]⟩) M11.2.1 3 rfl
  have c11_1_4 := Mem.cell (v := .string ⟨#[]⟩) M11.2.1 4 rfl
  have z11_1 := Mem.lt M11.2.1
  have c11_2_0 := Mem.cell (v := .bool true) M11.2.2.1 0 rfl
  have c11_2_1 := Mem.cell (v := .int .i64 1) M11.2.2.1 1 rfl
  have c11_2_2 := Mem.cell (v := .int .i64 7) M11.2.2.1 2 rfl
  have c11_2_3 := Mem.cell (v := .string ⟨#[]⟩) M11.2.2.1 3 rfl
  have c11_2_4 := Mem.cell (v := .string ⟨#[]⟩) M11.2.2.1 4 rfl
  have c11_2_5 := Mem.cell (v := .string ⟨#[]⟩) M11.2.2.1 5 rfl
  have c11_2_6 := Mem.cell (v := .slice ao5 0 cap5) M11.2.2.1 6 rfl
  have z11_2 := Mem.lt M11.2.2.1
  have c11_3_0 := Mem.cell (v := .bool true) M11.2.2.2.1 0 rfl
  have c11_3_1 := Mem.cell (v := .int .i64 1) M11.2.2.2.1 1 rfl
  have c11_3_2 := Mem.cell (v := .int .i64 6) M11.2.2.2.1 2 rfl
  have c11_3_3 := Mem.cell (v := .string ⟨#[]⟩) M11.2.2.2.1 3 rfl
  have c11_3_4 := Mem.cell (v := .string ⟨#[]⟩) M11.2.2.2.1 4 rfl
  have c11_3_5 := Mem.cell (v := .string ⟨#[]⟩) M11.2.2.2.1 5 rfl
  have c11_3_6 := Mem.cell (v := .slice aoW 1 capW) M11.2.2.2.1 6 rfl
  have z11_3 := Mem.lt M11.2.2.2.1
  have c11_4_0 := Mem.cell (v := .bool true) M11.2.2.2.2.1 0 rfl
  have c11_4_1 := Mem.cell (v := .int .i64 1) M11.2.2.2.2.1 1 rfl
  have c11_4_2 := Mem.cell (v := .int .i64 6) M11.2.2.2.2.1 2 rfl
  have c11_4_3 := Mem.cell (v := .string ⟨#[]⟩) M11.2.2.2.2.1 3 rfl
  have c11_4_4 := Mem.cell (v := .string ⟨#[]⟩) M11.2.2.2.2.1 4 rfl
  have c11_4_5 := Mem.cell (v := .string ⟨#[]⟩) M11.2.2.2.2.1 5 rfl
  have c11_4_6 := Mem.cell (v := .slice aoZ 0 capZ) M11.2.2.2.2.1 6 rfl
  have z11_4 := Mem.lt M11.2.2.2.2.1
  have c11_5_0 := Mem.cell (v := .bool false) M11.2.2.2.2.2.1 0 rfl
  have c11_5_1 := Mem.cell (v := .int .i64 0) M11.2.2.2.2.2.1 1 rfl
  have c11_5_2 := Mem.cell (v := .int .i64 0) M11.2.2.2.2.2.1 2 rfl
  have c11_5_3 := Mem.cell (v := .string ⟨#[]⟩) M11.2.2.2.2.2.1 3 rfl
  have c11_5_4 := Mem.cell (v := .string ⟨#[]⟩) M11.2.2.2.2.2.1 4 rfl
  have c11_5_5 := Mem.cell (v := .string ⟨#[]⟩) M11.2.2.2.2.2.1 5 rfl
  have c11_5_6 := Mem.cell (v := .slice aoY 0 capY) M11.2.2.2.2.2.1 6 rfl
  have z11_5 := Mem.lt M11.2.2.2.2.2.1
  have c11_6_0 := Mem.cell (v := .int .i64 0) M11.2.2.2.2.2.2.1 0 rfl
  have c11_6_1 := Mem.cell (v := .int .i64 0) M11.2.2.2.2.2.2.1 1 rfl
  have c11_6_2 := Mem.cell (v := .string ⟨#[]⟩) M11.2.2.2.2.2.2.1 2 rfl
  have c11_6_3 := Mem.cell (v := .string ⟨#[]⟩) M11.2.2.2.2.2.2.1 3 rfl
  have c11_6_4 := Mem.cell (v := .string ⟨#[]⟩) M11.2.2.2.2.2.2.1 4 rfl
  have z11_6 := Mem.lt M11.2.2.2.2.2.2.1
  have c11_7_0 := Mem.cell (v := .bool false) M11.2.2.2.2.2.2.2.1 0 rfl
  have c11_7_1 := Mem.cell (v := .int .i64 0) M11.2.2.2.2.2.2.2.1 1 rfl
  have c11_7_2 := Mem.cell (v := .int .i64 0) M11.2.2.2.2.2.2.2.1 2 rfl
  have c11_7_3 := Mem.cell (v := .string ⟨#[]⟩) M11.2.2.2.2.2.2.2.1 3 rfl
  have c11_7_4 := Mem.cell (v := .string ⟨#[]⟩) M11.2.2.2.2.2.2.2.1 4 rfl
  have c11_7_5 := Mem.cell (v := .string ⟨#[]⟩) M11.2.2.2.2.2.2.2.1 5 rfl
  have c11_7_6 := Mem.cell (v := .slice ao1 1 cap1) M11.2.2.2.2.2.2.2.1 6 rfl
  have z11_7 := Mem.lt M11.2.2.2.2.2.2.2.1
  go_wp2_with fail
  refine Calls.named ?_
  intro W12 hW12
  have hB12_ : Below w.heap.size w W12 := by rw [hW12]; exact hB11
  have hw12_ : Laid W12 := by rw [hW12]; exact hw11
  have M12_ := M11
  rw [← hW12] at M12_
  have hS12 : Below w11.heap.size w11 W12 := by rw [hW12]; exact (Below.refl _ _)
  have hq1_ := QAt.below hq1 hS12
  have hqqY_ := QAt.below hqqY hS12
  have hqqZ_ := QAt.below hqqZ hS12
  have hqqW_ := QAt.below hqqW hS12
  have hq6_ := QAt.below hq6 hS12
  clear hS12 hq1 hqqY hqqZ hqqW hq6
  clear hW12
  clear c11_0_0 c11_0_1 c11_0_2 c11_0_3 c11_0_4 c11_0_5 c11_0_6 z11_0 c11_1_0 c11_1_1 c11_1_2 c11_1_3 c11_1_4 z11_1 c11_2_0 c11_2_1 c11_2_2 c11_2_3 c11_2_4 c11_2_5 c11_2_6 z11_2 c11_3_0 c11_3_1 c11_3_2 c11_3_3 c11_3_4 c11_3_5 c11_3_6 z11_3 c11_4_0 c11_4_1 c11_4_2 c11_4_3 c11_4_4 c11_4_5 c11_4_6 z11_4 c11_5_0 c11_5_1 c11_5_2 c11_5_3 c11_5_4 c11_5_5 c11_5_6 z11_5 c11_6_0 c11_6_1 c11_6_2 c11_6_3 c11_6_4 z11_6 c11_7_0 c11_7_1 c11_7_2 c11_7_3 c11_7_4 c11_7_5 c11_7_6 z11_7
  refine (right_bad _).mono ?_
  rintro e w12 ⟨rfl, hb12⟩
  have hq1 := QAt.below hq1_ hb12
  have hqqY := QAt.below hqqY_ hb12
  have hqqZ := QAt.below hqqZ_ hb12
  have hqqW := QAt.below hqqW_ hb12
  have hq6 := QAt.below hq6_ hb12
  clear hq1_ hqqY_ hqqZ_ hqqW_ hq6_
  have hB12 := below_then hB12_ hb12
  have hw12 := hw12_.below hb12
  have M12 := M12_.below hb12
  clear M12_ hB12_ hb12 hw12_
  have c12_0_0 := Mem.cell (v := .bool true) M12.1 0 rfl
  have c12_0_1 := Mem.cell (v := .int .i64 1) M12.1 1 rfl
  have c12_0_2 := Mem.cell (v := .int .i64 6) M12.1 2 rfl
  have c12_0_3 := Mem.cell (v := .string ⟨#[]⟩) M12.1 3 rfl
  have c12_0_4 := Mem.cell (v := .string ⟨#[]⟩) M12.1 4 rfl
  have c12_0_5 := Mem.cell (v := .string ⟨#[]⟩) M12.1 5 rfl
  have c12_0_6 := Mem.cell (v := .slice ao6 0 cap6) M12.1 6 rfl
  have z12_0 := Mem.lt M12.1
  have c12_1_0 := Mem.cell (v := .int .i64 1) M12.2.1 0 rfl
  have c12_1_1 := Mem.cell (v := .int .i64 6) M12.2.1 1 rfl
  have c12_1_2 := Mem.cell (v := .string ⟨#[]⟩) M12.2.1 2 rfl
  have c12_1_3 := Mem.cell (v := .string ⟨#[]⟩) M12.2.1 3 rfl
  have c12_1_4 := Mem.cell (v := .string ⟨#[]⟩) M12.2.1 4 rfl
  have z12_1 := Mem.lt M12.2.1
  have c12_2_0 := Mem.cell (v := .bool true) M12.2.2.1 0 rfl
  have c12_2_1 := Mem.cell (v := .int .i64 1) M12.2.2.1 1 rfl
  have c12_2_2 := Mem.cell (v := .int .i64 7) M12.2.2.1 2 rfl
  have c12_2_3 := Mem.cell (v := .string ⟨#[]⟩) M12.2.2.1 3 rfl
  have c12_2_4 := Mem.cell (v := .string ⟨#[]⟩) M12.2.2.1 4 rfl
  have c12_2_5 := Mem.cell (v := .string ⟨#[]⟩) M12.2.2.1 5 rfl
  have c12_2_6 := Mem.cell (v := .slice ao5 0 cap5) M12.2.2.1 6 rfl
  have z12_2 := Mem.lt M12.2.2.1
  have c12_3_0 := Mem.cell (v := .bool true) M12.2.2.2.1 0 rfl
  have c12_3_1 := Mem.cell (v := .int .i64 1) M12.2.2.2.1 1 rfl
  have c12_3_2 := Mem.cell (v := .int .i64 6) M12.2.2.2.1 2 rfl
  have c12_3_3 := Mem.cell (v := .string ⟨#[]⟩) M12.2.2.2.1 3 rfl
  have c12_3_4 := Mem.cell (v := .string ⟨#[]⟩) M12.2.2.2.1 4 rfl
  have c12_3_5 := Mem.cell (v := .string ⟨#[]⟩) M12.2.2.2.1 5 rfl
  have c12_3_6 := Mem.cell (v := .slice aoW 1 capW) M12.2.2.2.1 6 rfl
  have z12_3 := Mem.lt M12.2.2.2.1
  have c12_4_0 := Mem.cell (v := .bool true) M12.2.2.2.2.1 0 rfl
  have c12_4_1 := Mem.cell (v := .int .i64 1) M12.2.2.2.2.1 1 rfl
  have c12_4_2 := Mem.cell (v := .int .i64 6) M12.2.2.2.2.1 2 rfl
  have c12_4_3 := Mem.cell (v := .string ⟨#[]⟩) M12.2.2.2.2.1 3 rfl
  have c12_4_4 := Mem.cell (v := .string ⟨#[]⟩) M12.2.2.2.2.1 4 rfl
  have c12_4_5 := Mem.cell (v := .string ⟨#[]⟩) M12.2.2.2.2.1 5 rfl
  have c12_4_6 := Mem.cell (v := .slice aoZ 0 capZ) M12.2.2.2.2.1 6 rfl
  have z12_4 := Mem.lt M12.2.2.2.2.1
  have c12_5_0 := Mem.cell (v := .bool false) M12.2.2.2.2.2.1 0 rfl
  have c12_5_1 := Mem.cell (v := .int .i64 0) M12.2.2.2.2.2.1 1 rfl
  have c12_5_2 := Mem.cell (v := .int .i64 0) M12.2.2.2.2.2.1 2 rfl
  have c12_5_3 := Mem.cell (v := .string ⟨#[]⟩) M12.2.2.2.2.2.1 3 rfl
  have c12_5_4 := Mem.cell (v := .string ⟨#[]⟩) M12.2.2.2.2.2.1 4 rfl
  have c12_5_5 := Mem.cell (v := .string ⟨#[]⟩) M12.2.2.2.2.2.1 5 rfl
  have c12_5_6 := Mem.cell (v := .slice aoY 0 capY) M12.2.2.2.2.2.1 6 rfl
  have z12_5 := Mem.lt M12.2.2.2.2.2.1
  have c12_6_0 := Mem.cell (v := .int .i64 0) M12.2.2.2.2.2.2.1 0 rfl
  have c12_6_1 := Mem.cell (v := .int .i64 0) M12.2.2.2.2.2.2.1 1 rfl
  have c12_6_2 := Mem.cell (v := .string ⟨#[]⟩) M12.2.2.2.2.2.2.1 2 rfl
  have c12_6_3 := Mem.cell (v := .string ⟨#[]⟩) M12.2.2.2.2.2.2.1 3 rfl
  have c12_6_4 := Mem.cell (v := .string ⟨#[]⟩) M12.2.2.2.2.2.2.1 4 rfl
  have z12_6 := Mem.lt M12.2.2.2.2.2.2.1
  have c12_7_0 := Mem.cell (v := .bool false) M12.2.2.2.2.2.2.2.1 0 rfl
  have c12_7_1 := Mem.cell (v := .int .i64 0) M12.2.2.2.2.2.2.2.1 1 rfl
  have c12_7_2 := Mem.cell (v := .int .i64 0) M12.2.2.2.2.2.2.2.1 2 rfl
  have c12_7_3 := Mem.cell (v := .string ⟨#[]⟩) M12.2.2.2.2.2.2.2.1 3 rfl
  have c12_7_4 := Mem.cell (v := .string ⟨#[]⟩) M12.2.2.2.2.2.2.2.1 4 rfl
  have c12_7_5 := Mem.cell (v := .string ⟨#[]⟩) M12.2.2.2.2.2.2.2.1 5 rfl
  have c12_7_6 := Mem.cell (v := .slice ao1 1 cap1) M12.2.2.2.2.2.2.2.1 6 rfl
  have z12_7 := Mem.lt M12.2.2.2.2.2.2.2.1
  go_wp2_with fail
  go_ret
  exact ⟨rfl, hB12⟩
end Go.Proofs.YtdpmilffadalkaaDoor
