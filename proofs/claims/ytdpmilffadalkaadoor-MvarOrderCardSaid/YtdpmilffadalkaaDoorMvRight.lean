/- mvar.Right at the example with one that waits. -/
import Derived.Test.YtdpmilffadalkaaDoorMvLaw
import Derived.WideMake
namespace Go.Proofs.YtdpmilffadalkaaDoor
open Go.RowKit
/-- 'm[k]' on a map of the call's own that is empty -/
theorem run_lookup_empty {P : Program} (t k e : TypeId) (ht : P.underlying t = some (.map k e)) (hk : P.underlying k = some .string) (w : World) (r c : Nat) (s : ByteArray) (z : Value) (hz : (zeroValue e).run P w = .ok z w)
    (hb : w.heap[r]? = some (.map #[] c)) : (Instr.lookup t (.map (some r)) (.string s) false).run P w = .ok z w := by
  have hf : Instr.findNow .string (.string s) ([] : List MapEntry) 0 = some none := rfl
  have hc := MapKept.run_checkKey (P := P) (w := w) (k := .string s) hk (by simp [MapKept.IsKey]) true 9999
  have hfk := MapKept.run_findKey (P := P) (w := w) (k := .string s) hk hf
  unfold Instr.lookup
  simp only [Sem.run_bind, run_underlying ht, Result.andThen_ok, MapKept.run_getObj_map hb, Sem.run_pure]
  simp [hc, hfk, hz]
theorem below_heap {B r : Nat} {w W : World} {o : Obj} (h : Below B w W) (hr : B ≤ r) : Below B w { W with heap := W.heap.setIfInBounds r o } :=
  ⟨h.os, h.tape, h.output, by simpa using h.size, fun k hk => by
    show (W.heap.setIfInBounds r o)[k]? = _
    rw [Array.getElem?_setIfInBounds, if_neg (by omega)]
    exact h.block k hk⟩
set_option maxRecDepth 100000 in
set_option maxHeartbeats 1000000 in
theorem right_ex (v : Value) (w : World) (hw : Laid w) (h : QAt w v [⟨⟨#[50]⟩, true, ⟨1, 7, ⟨#[]⟩, ⟨#[]⟩, ⟨#[]⟩⟩⟩]) :
    Calls Tryd.prog 15 #[.agg #[.bool true, .int .i64 1, .int .i64 6, .string ⟨#[]⟩, .string ⟨#[]⟩, .string ⟨#[]⟩, v]] w fun e w' => e = .returned (.bool true) ∧ Below w.heap.size w w' := by
  obtain ⟨ao, cap, rfl⟩ := h.slice
  obtain ⟨b, off, rfl, -, hqb, hg⟩ := slots_someQ h (by simp)
  have r0 := hg 0 0 (by simp) _ rfl
  have r1 := hg 0 1 (by simp) _ rfl
  have r2 := hg 0 2 (by simp) _ rfl
  have r3 := hg 0 3 (by simp) _ rfl
  have r4 := hg 0 4 (by simp) _ rfl
  have r5 := hg 0 5 (by simp) _ rfl
  have r6 := hg 0 6 (by simp) _ rfl
  simp only [Nat.zero_mul, Nat.add_zero] at r0 r1 r2 r3 r4 r5 r6
  clear h hg
  have hmm := @run_makeMap Tryd.prog
  go_enter Tryd.func15, Tryd.ntmps15
  have hB0 := Below.refl w.heap.size w
  have M0 := Mem.nil w
  go_wp2_with fail
  refine Calls.named ?_
  intro W1 hW1
  have hB1_ : Below w.heap.size w W1 := by rw [hW1]; exact (below_al hB0 _)
  have hw1_ : Laid W1 := by rw [hW1]; exact (hw.alloc _)
  have M1_ := (M0).new' (w.heap.size) (by rfl) (.cells #[.bool true, .int .i64 1, .int .i64 6, .string ⟨#[]⟩, .string ⟨#[]⟩, .string ⟨#[]⟩, .slice (some ⟨b, off, none⟩) 1 cap] 31)
  rw [← hW1] at M1_
  clear hW1
  refine (vright_int _ _).mono ?_
  rintro e w1 ⟨rfl, hb1⟩
  have hB1 := below_then hB1_ hb1
  have hw1 := hw1_.below hb1
  have M1 := M1_.below hb1
  clear M1_ hB1_ hb1 hw1_
  have c1_0_0 := Mem.cell (v := .bool true) M1.1 0 rfl
  have c1_0_1 := Mem.cell (v := .int .i64 1) M1.1 1 rfl
  have c1_0_2 := Mem.cell (v := .int .i64 6) M1.1 2 rfl
  have c1_0_3 := Mem.cell (v := .string ⟨#[]⟩) M1.1 3 rfl
  have c1_0_4 := Mem.cell (v := .string ⟨#[]⟩) M1.1 4 rfl
  have c1_0_5 := Mem.cell (v := .string ⟨#[]⟩) M1.1 5 rfl
  have c1_0_6 := Mem.cell (v := .slice (some ⟨b, off, none⟩) 1 cap) M1.1 6 rfl
  have z1_0 := Mem.lt M1.1
  go_wp2_with fail
  refine wp_named ?_
  intro W hW
  have hB2 : Below w.heap.size w W := by rw [hW]; exact below_al hB1 _
  have M2 : Mem W [(w1.heap.size, .map #[] 0), (w.heap.size, .cells #[.bool true, .int .i64 1, .int .i64 6, .string ⟨#[]⟩, .string ⟨#[]⟩, .string ⟨#[]⟩, .slice (some ⟨b, off, none⟩) 1 cap] 31)] := by
    rw [hW]
    exact (M1.new _)
  have hw2 : Laid W := by rw [hW]; exact hw1.alloc _
  clear hW
  obtain ⟨R, hR⟩ : ∃ R, R = w1.heap.size := ⟨_, rfl⟩
  rw [← hR] at M2 ⊢
  have hRB : w.heap.size ≤ R := by rw [hR]; exact hB1.size
  have d0 := Mem.cell M2.2.1 0 rfl
  have d1 := Mem.cell M2.2.1 1 rfl
  have d6 := Mem.cell M2.2.1 6 rfl
  have q0 := (hB2.cell (p := ⟨b, off, none⟩) hqb).trans r0
  have q1 := (hB2.cell (p := ⟨b, off + 1, none⟩) hqb).trans r1
  have q2 := (hB2.cell (p := ⟨b, off + 2, none⟩) hqb).trans r2
  have q3 := (hB2.cell (p := ⟨b, off + 3, none⟩) hqb).trans r3
  have q4 := (hB2.cell (p := ⟨b, off + 4, none⟩) hqb).trans r4
  have q5 := (hB2.cell (p := ⟨b, off + 5, none⟩) hqb).trans r5
  have q6 := (hB2.cell (p := ⟨b, off + 6, none⟩) hqb).trans r6
  clear c1_0_0 c1_0_1 c1_0_2 c1_0_3 c1_0_4 c1_0_5 c1_0_6 z1_0 r0 r1 r2 r3 r4 r5 r6 hR hw1 M1 hB1 hw hB0 M0
  refine wp_loop_rounds 2 ?_
  rw [rounds_succ]
  go_wp2_with fail
  have M2' := M2.new (.cells #[.string ⟨#[50]⟩, .bool true, .int .i64 1, .int .i64 7, .string ⟨#[]⟩, .string ⟨#[]⟩, .string ⟨#[]⟩] 48)
  refine (nright_12 ⟨#[50]⟩ _ (by decide) (hw2.alloc _)).mono ?_
  rw [show (readL (⟨#[50]⟩ : ByteArray).data.toList).isSome = true from by decide +kernel]
  rintro e w3 ⟨rfl, hb3⟩
  have M3 := M2'.below hb3
  have hB3 := below_then (below_al hB2 _) hb3
  obtain ⟨X, hX⟩ : ∃ X, X = W.heap.size := ⟨_, rfl⟩
  rw [← hX] at M3 ⊢
  have hXR : R < X := by rw [hX]; exact Mem.lt M2.1
  have hXw : w.heap.size < X := by rw [hX]; exact Mem.lt M2.2.1
  clear M2 M2' hb3 hX q0 q1 q2 q3 q4 q5 q6 d0 d1 d6 hw2 hB2
  have hlk := run_lookup_empty (P := Tryd.prog) 58 9 4 Tryd.underlying58 Tryd.underlying9 w3 R 0 ⟨#[50]⟩ (.bool false) (by kernel_rfl) M3.2.1
  have hmu := run_mapUpdate_first (P := Tryd.prog) (w := w3) 58 9 4 R 0 ⟨#[50]⟩ (.bool true) Tryd.underlying58 Tryd.underlying9 M3.2.1
  obtain ⟨W4, hW4⟩ : ∃ W4, W4 = { w3 with heap := w3.heap.setIfInBounds R (.map #[{ key := .string ⟨#[50]⟩, val := .bool true, born := 0 }] (0 + 1)) } := ⟨_, rfl⟩
  rw [← hW4] at hmu
  have hB4 : Below w.heap.size w W4 := by rw [hW4]; exact below_heap hB3 hRB
  have hother : ∀ k, R ≠ k → W4.heap[k]? = w3.heap[k]? := fun k hk => by
    rw [hW4]
    show (w3.heap.setIfInBounds R _)[k]? = _
    rw [Array.getElem?_setIfInBounds, if_neg hk]
  have hRw : R ≠ w.heap.size := by
    intro e
    have := M3.2.1
    rw [e, M3.2.2.1] at this
    cases this
  have M4 : Mem W4 [(X, .cells #[.string ⟨#[50]⟩, .bool true, .int .i64 1, .int .i64 7, .string ⟨#[]⟩, .string ⟨#[]⟩, .string ⟨#[]⟩] 48), (w.heap.size, .cells #[.bool true, .int .i64 1, .int .i64 6, .string ⟨#[]⟩, .string ⟨#[]⟩, .string ⟨#[]⟩, .slice (some ⟨b, off, none⟩) 1 cap] 31)] :=
    ⟨(hother X (by omega)).trans M3.1, (hother _ hRw).trans M3.2.2.1, trivial⟩
  have e0 := Mem.cell (v := .string ⟨#[50]⟩) M3.1 0 rfl
  have e1 := Mem.cell (v := .bool true) M3.1 1 rfl
  have e2 := Mem.cell (v := .bool true) M3.2.2.1 0 rfl
  have g0 := Mem.cell (v := .string ⟨#[50]⟩) M4.1 0 rfl
  have g1 := Mem.cell (v := .bool true) M4.1 1 rfl
  have g2 := Mem.cell (v := .int .i64 1) M4.1 2 rfl
  have g3 := Mem.cell (v := .int .i64 7) M4.1 3 rfl
  have g4 := Mem.cell (v := .string ⟨#[]⟩) M4.1 4 rfl
  have g5 := Mem.cell (v := .string ⟨#[]⟩) M4.1 5 rfl
  have g6 := Mem.cell (v := .string ⟨#[]⟩) M4.1 6 rfl
  have HB4 := Lib.hid hB4
  have HM4 := Lib.hid M4
  clear hW4 hother M3 M4 hB3 hB4 hRw hRB hXR hXw
  go_wp2_with fail
  refine (vright_int 7 _).mono ?_
  rintro e w5 ⟨rfl, hb5⟩
  have HB5 := Lib.hid (below_then HB4.out hb5)
  have M5 := HM4.out.below hb5
  have g1' := Mem.cell (v := .bool true) M5.1 1 rfl
  clear M5 HM4
  clear hb5 g0 g1 g2 g3 g4 g5 g6 e0 e1 e2 hlk hmu
  go_wp2_with fail
  rw [rounds_succ]
  go_wp2_with fail
  go_ret
  exact ⟨rfl, HB5.out⟩
end Go.Proofs.YtdpmilffadalkaaDoor
