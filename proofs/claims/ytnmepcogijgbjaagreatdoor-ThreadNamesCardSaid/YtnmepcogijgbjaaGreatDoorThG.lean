/- thread.ladder.levels, label. -/
import Derived.Test.YtnmepcogijgbjaaGreatDoorThD
namespace Go.Proofs.YtnmepcogijgbjaaGreatDoor
open Go.RowKit
set_option maxRecDepth 100000 in
set_option maxHeartbeats 2000000 in
theorem levels_any (v : Sl) (hv : v.n ≤ 1000000) (cS cI : ByteArray) (w : World) :
    Calls Tryz.prog 41 #[.agg #[.slice v.a v.n v.c, .string cS, .string cI]] w fun e w' => e = .returned (.int .i64 ((v.n : Int) + 1)) ∧ Below w.heap.size w w' := by
  have e1 : IntKind.i64.wrap ((v.n : Int) + 1) = (v.n : Int) + 1 := IntWalk.i64_in _ ⟨by omega, by omega⟩
  go_enter Tryz.func41, Tryz.ntmps41
  have hB0 := Below.refl w.heap.size w
  have M0 := Mem.nil w
  go_upto_region 1 with (fail)
  refine wp_named ?_
  intro w1 hW1
  have hB1 : Below w.heap.size w w1 := by rw [hW1]; exact (below_al hB0 _)
  have M1 := (M0).new' (w.heap.size) (by rfl) (.cells #[.slice v.a v.n v.c, .string cS, .string cI] 76)
  rw [← hW1] at M1
  clear hW1
  have c1_0_0 := Mem.cell (v := .slice v.a v.n v.c) M1.1 0 rfl
  have c1_0_1 := Mem.cell (v := .string cS) M1.1 1 rfl
  have c1_0_2 := Mem.cell (v := .string cI) M1.1 2 rfl
  have z1_0 := Mem.lt M1.1
  go_wp2_with fail
  go_ret
  exact ⟨rfl, hB1⟩
set_option maxRecDepth 100000 in
set_option maxHeartbeats 2000000 in
theorem label_last (v : Sl) (cS cI : ByteArray) (w : World) :
    Calls Tryz.prog 62 #[.agg #[.slice v.a v.n v.c, .string cS, .string cI], .int .i64 v.n] w fun e w' => e = .returned (.agg #[.string cS, .string cI]) ∧ Below w.heap.size w w' := by
  have g2 : ¬ ((v.n : Int) < (v.n : Int)) := by omega
  go_enter Tryz.func62, Tryz.ntmps62
  have hB0 := Below.refl w.heap.size w
  have M0 := Mem.nil w
  go_upto_region 1 with (fail)
  refine wp_named ?_
  intro w1 hW1
  have hB1 : Below w.heap.size w w1 := by rw [hW1]; exact (below_al (below_al hB0 _) _)
  have M1 := ((M0).new' (w.heap.size) (by rfl) (.cells #[.slice v.a v.n v.c, .string cS, .string cI] 76)).new' (w.heap.size + 1) (by simp) (.cells #[.string ⟨#[]⟩, .string ⟨#[]⟩] 24)
  rw [← hW1] at M1
  clear hW1
  have c1_0_0 := Mem.cell (v := .string ⟨#[]⟩) M1.1 0 rfl
  have c1_0_1 := Mem.cell (v := .string ⟨#[]⟩) M1.1 1 rfl
  have z1_0 := Mem.lt M1.1
  have c1_1_0 := Mem.cell (v := .slice v.a v.n v.c) M1.2.1 0 rfl
  have c1_1_1 := Mem.cell (v := .string cS) M1.2.1 1 rfl
  have c1_1_2 := Mem.cell (v := .string cI) M1.2.1 2 rfl
  have z1_1 := Mem.lt M1.2.1
  have f0 := fun j => Mem.free M1.1 j
  go_wp2_with fail
  have hX1 := set_block (M1).1 [.string cS, .string cI] rfl
  have hY1 := below_setCells (B := w.heap.size) hB1 (b := w.heap.size + 1) (by have := hB1.size; omega) 0 [.string cS, .string cI]
  obtain ⟨W_e, hW_e⟩ : ∃ W_e, W_e = w1.setCells (w.heap.size + 1) 0 [.string cS, .string cI] := ⟨_, rfl⟩
  rw [← hW_e] at hX1 hY1
  refine at_world hW_e ?_
  have k_0 := Mem.cell (v := .string cS) hX1 0 rfl
  have k_1 := Mem.cell (v := .string cI) hX1 1 rfl
  refine bodyPost_ret (v := .agg #[.string cS, .string cI]) (by simp [results, Tryz.results62, go_sem, k_0, k_1]) rfl ⟨rfl, hY1⟩
set_option maxRecDepth 100000 in
set_option maxHeartbeats 2000000 in
theorem label_at (v : Sl) (l : List Sc) (k : Nat) (hkl : k < l.length) (cS cI : ByteArray) (w : World) (h : ScAt w v l) :
    Calls Tryz.prog 62 #[.agg #[.slice v.a v.n v.c, .string cS, .string cI], .int .i64 (k : Int)] w fun e w' => e = .returned (.agg #[.string l[k].cS, .string l[k].cI]) ∧ Below w.heap.size w w' := by
  have hn := h.len
  have g1 : (0 : Int) ≤ (k : Int) := by omega
  have g2 : (k : Int) < (v.n : Int) := by omega
  obtain ⟨s, hs⟩ : ∃ s, s = l[k] := ⟨_, rfl⟩
  rw [← hs]
  have HSS := Lib.hid hs
  have HSC := Lib.hid fun (W : World) (hb : Below w.heap.size w W) => h.below hb
  clear hs h hn
  go_enter Tryz.func62, Tryz.ntmps62
  have hB0 := Below.refl w.heap.size w
  have M0 := Mem.nil w
  go_upto_region 1 with (fail)
  refine wp_named ?_
  intro w1 hW1
  have hB1 : Below w.heap.size w w1 := by rw [hW1]; exact (below_al (below_al hB0 _) _)
  have M1 := ((M0).new' (w.heap.size) (by rfl) (.cells #[.slice v.a v.n v.c, .string cS, .string cI] 76)).new' (w.heap.size + 1) (by simp) (.cells #[.string ⟨#[]⟩, .string ⟨#[]⟩] 24)
  rw [← hW1] at M1
  clear hW1
  have c1_0_0 := Mem.cell (v := .string ⟨#[]⟩) M1.1 0 rfl
  have c1_0_1 := Mem.cell (v := .string ⟨#[]⟩) M1.1 1 rfl
  have z1_0 := Mem.lt M1.1
  have c1_1_0 := Mem.cell (v := .slice v.a v.n v.c) M1.2.1 0 rfl
  have c1_1_1 := Mem.cell (v := .string cS) M1.2.1 1 rfl
  have c1_1_2 := Mem.cell (v := .string cI) M1.2.1 2 rfl
  have z1_1 := Mem.lt M1.2.1
  obtain ⟨b, off, hva, hvc, hbl, hrg⟩ := (HSC.out _ hB1).row hkl
  rw [← HSS.out] at hrg
  rw [hva] at c1_1_0
  have q7 := hrg 7 (.string s.cS) rfl
  have q8 := hrg 8 (.string s.cI) rfl
  clear hrg
  have f0 := fun j => Mem.free M1.1 j
  go_wp2_with fail
  have hX1 := set_block (M1).1 [.string s.cS, .string s.cI] rfl
  have hY1 := below_setCells (B := w.heap.size) hB1 (b := w.heap.size + 1) (by have := hB1.size; omega) 0 [.string s.cS, .string s.cI]
  obtain ⟨W_e, hW_e⟩ : ∃ W_e, W_e = w1.setCells (w.heap.size + 1) 0 [.string s.cS, .string s.cI] := ⟨_, rfl⟩
  rw [← hW_e] at hX1 hY1
  refine at_world hW_e ?_
  have k_0 := Mem.cell (v := .string s.cS) hX1 0 rfl
  have k_1 := Mem.cell (v := .string s.cI) hX1 1 rfl
  refine bodyPost_ret (v := .agg #[.string s.cS, .string s.cI]) (by simp [results, Tryz.results62, go_sem, k_0, k_1]) rfl ⟨rfl, hY1⟩
end Go.Proofs.YtnmepcogijgbjaaGreatDoor
