/- thread.brought. -/
import Derived.Test.YtnmepcogijgbjaaGreatDoorThC
import Derived.Test.YtnmepcogijgbjaaGreatDoorLat
import Derived.StillTailTactics
import Derived.Deep.RegionHeld3
namespace Go.Proofs.YtnmepcogijgbjaaGreatDoor
open Go.RowKit
set_option maxRecDepth 100000 in
set_option maxHeartbeats 2000000 in
theorem brought_st (t : Th) (hst : (t.st != 2) = true) (k : Int) (w : World) :
    Calls Tryz.prog 31 #[.agg (th t), .int .i64 k] w fun e w' => e = .returned (.tuple #[.agg #[.int .i64 1, .int .i64 (-7), .string ⟨#[]⟩, .string ⟨#[]⟩, .string ⟨#[]⟩], .bool true]) ∧ Below w.heap.size w w' := by
  have hst2 : (t.st == 2) = false := by simpa using hst
  have hst3 : ¬ t.st = 2 := by simpa using hst
  go_enter Tryz.func31, Tryz.ntmps31
  have hB0 := Below.refl w.heap.size w
  have M0 := Mem.nil w
  go_upto_region 1 with (fail)
  refine wp_named ?_
  intro w1 hW1
  have hB1 : Below w.heap.size w w1 := by rw [hW1]; exact (below_al (below_al hB0 _) _)
  have M1 : Mem w1 [(w.heap.size + 1, .cells #[.int .i64 0, .int .i64 0, .string ⟨#[]⟩, .string ⟨#[]⟩, .string ⟨#[]⟩] 28), (w.heap.size, .cells (th (t)) 39)] := by rw [hW1]; exact ((M0).new' (w.heap.size) (by rfl) (.cells (th (t)) 39)).new' (w.heap.size + 1) (by simp) (.cells #[.int .i64 0, .int .i64 0, .string ⟨#[]⟩, .string ⟨#[]⟩, .string ⟨#[]⟩] 28)
  clear hW1
  have c1_0_0 := Mem.cell (v := .int .i64 0) M1.1 0 rfl
  have c1_0_1 := Mem.cell (v := .int .i64 0) M1.1 1 rfl
  have c1_0_2 := Mem.cell (v := .string ⟨#[]⟩) M1.1 2 rfl
  have c1_0_3 := Mem.cell (v := .string ⟨#[]⟩) M1.1 3 rfl
  have c1_0_4 := Mem.cell (v := .string ⟨#[]⟩) M1.1 4 rfl
  have z1_0 := Mem.lt M1.1
  have c1_1_0 := Mem.cell (v := .string t.id) M1.2.1 0 rfl
  have c1_1_1 := Mem.cell (v := .string t.pa) M1.2.1 1 rfl
  have c1_1_2 := Mem.cell (v := .string t.cS) M1.2.1 2 rfl
  have c1_1_3 := Mem.cell (v := .string t.cI) M1.2.1 3 rfl
  have c1_1_4 := Mem.cell (v := .string t.kS) M1.2.1 4 rfl
  have c1_1_5 := Mem.cell (v := .string t.kI) M1.2.1 5 rfl
  have c1_1_6 := Mem.cell (v := .slice t.fr.a t.fr.n t.fr.c) M1.2.1 6 rfl
  have c1_1_7 := Mem.cell (v := .slice t.sk.a t.sk.n t.sk.c) M1.2.1 7 rfl
  have c1_1_8 := Mem.cell (v := .slice t.tr.a t.tr.n t.tr.c) M1.2.1 8 rfl
  have c1_1_9 := Mem.cell (v := .slice t.sc.a t.sc.n t.sc.c) M1.2.1 9 rfl
  have c1_1_10 := Mem.cell (v := .int .i64 t.md) M1.2.1 10 rfl
  have c1_1_11 := Mem.cell (v := .int .i64 t.rm) M1.2.1 11 rfl
  have c1_1_12 := Mem.cell (v := .int .i64 t.st) M1.2.1 12 rfl
  have c1_1_13 := Mem.cell (v := .string t.on) M1.2.1 13 rfl
  have c1_1_14 := Mem.cell (v := .int .i64 t.vk) M1.2.1 14 rfl
  have c1_1_15 := Mem.cell (v := .int .i64 t.vx) M1.2.1 15 rfl
  have c1_1_16 := Mem.cell (v := .string t.vm) M1.2.1 16 rfl
  have c1_1_17 := Mem.cell (v := .string t.vS) M1.2.1 17 rfl
  have c1_1_18 := Mem.cell (v := .string t.vI) M1.2.1 18 rfl
  have c1_1_19 := Mem.cell (v := .bool t.ex) M1.2.1 19 rfl
  have z1_1 := Mem.lt M1.2.1
  have f0 := fun j => Mem.free M1.1 j
  go_wp2_with fail
  have hX1 := set_block (M1).1 [.int .i64 1, .int .i64 (-7), .string ⟨#[]⟩, .string ⟨#[]⟩, .string ⟨#[]⟩] rfl
  have hY1 := below_setCells (B := w.heap.size) hB1 (b := w.heap.size + 1) (by have := hB1.size; omega) 0 [.int .i64 1, .int .i64 (-7), .string ⟨#[]⟩, .string ⟨#[]⟩, .string ⟨#[]⟩]
  obtain ⟨W_e, hW_e⟩ : ∃ W_e, W_e = w1.setCells (w.heap.size + 1) 0 [.int .i64 1, .int .i64 (-7), .string ⟨#[]⟩, .string ⟨#[]⟩, .string ⟨#[]⟩] := ⟨_, rfl⟩
  rw [← hW_e] at hX1 hY1
  refine at_world hW_e ?_
  have k_0 := Mem.cell (v := .int .i64 1) hX1 0 rfl
  have k_1 := Mem.cell (v := .int .i64 (-7)) hX1 1 rfl
  have k_2 := Mem.cell (v := .string ⟨#[]⟩) hX1 2 rfl
  have k_3 := Mem.cell (v := .string ⟨#[]⟩) hX1 3 rfl
  have k_4 := Mem.cell (v := .string ⟨#[]⟩) hX1 4 rfl
  refine bodyPost_ret (v := .tuple #[.agg #[.int .i64 1, .int .i64 (-7), .string ⟨#[]⟩, .string ⟨#[]⟩, .string ⟨#[]⟩], .bool true]) (by simp [results, Tryz.results31, go_sem, k_0, k_1, k_2, k_3, k_4]) rfl ⟨rfl, hY1⟩
set_option maxRecDepth 100000 in
set_option maxHeartbeats 2000000 in
theorem brought_ok (t : Th) (k : Nat) (hk : t.sc.n = k + 1) (hk9 : k ≤ 1000000) (hst : t.st = 2) (l : List Sc) (hkl : k < l.length) (w : World) (h : ScAt w t.sc l) (h1 : Bd t.cS) (h2 : Bd t.cI) (h3 : Bd l[k].lS) (h4 : Bd l[k].lI) (hf : flowsB t.cS t.cI l[k].lS l[k].lI = true) :
    Calls Tryz.prog 31 #[.agg (th t), .int .i64 k] w fun e w' => e = .returned (.tuple #[.agg #[.int .i64 t.vk, .int .i64 t.vx, .string t.vm, .string t.vS, .string t.vI], .bool t.ex]) ∧ Below w.heap.size w w' := by
  have hst1 : (t.st != 2) = false := by simpa using hst
  have hst2 : (t.st == 2) = true := by simpa using hst
  have e1 : IntKind.i64.wrap ((t.sc.n : Int) - 1) = (k : Int) := by rw [hk, show (((k + 1 : Nat) : Int) - 1) = (k : Int) by omega]; exact IntWalk.i64_in _ ⟨by omega, by omega⟩
  have e2 : ((k : Int) == (k : Int)) = true := by simp
  have g1 : (0 : Int) ≤ (k : Int) := by omega
  have g2 : (k : Int) < (t.sc.n : Int) := by omega
  have HS := h
  obtain ⟨s, hs⟩ : ∃ s, s = l[k] := ⟨_, rfl⟩
  rw [← hs] at h3 h4 hf
  have HF := fun w => (flows_any t.cS t.cI s.lS s.lI h1 h2 h3 h4 w)
  rw [hf] at HF
  clear h1 h2 h3 h4 hf hk
  go_enter Tryz.func31, Tryz.ntmps31
  have hB0 := Below.refl w.heap.size w
  have M0 := Mem.nil w
  go_upto_region 1 with (fail)
  refine wp_named ?_
  intro w1 hW1
  have hB1 : Below w.heap.size w w1 := by rw [hW1]; exact (below_al (below_al hB0 _) _)
  have M1 : Mem w1 [(w.heap.size + 1, .cells #[.int .i64 0, .int .i64 0, .string ⟨#[]⟩, .string ⟨#[]⟩, .string ⟨#[]⟩] 28), (w.heap.size, .cells (th (t)) 39)] := by rw [hW1]; exact ((M0).new' (w.heap.size) (by rfl) (.cells (th (t)) 39)).new' (w.heap.size + 1) (by simp) (.cells #[.int .i64 0, .int .i64 0, .string ⟨#[]⟩, .string ⟨#[]⟩, .string ⟨#[]⟩] 28)
  clear hW1
  have c1_0_0 := Mem.cell (v := .int .i64 0) M1.1 0 rfl
  have c1_0_1 := Mem.cell (v := .int .i64 0) M1.1 1 rfl
  have c1_0_2 := Mem.cell (v := .string ⟨#[]⟩) M1.1 2 rfl
  have c1_0_3 := Mem.cell (v := .string ⟨#[]⟩) M1.1 3 rfl
  have c1_0_4 := Mem.cell (v := .string ⟨#[]⟩) M1.1 4 rfl
  have z1_0 := Mem.lt M1.1
  have c1_1_0 := Mem.cell (v := .string t.id) M1.2.1 0 rfl
  have c1_1_1 := Mem.cell (v := .string t.pa) M1.2.1 1 rfl
  have c1_1_2 := Mem.cell (v := .string t.cS) M1.2.1 2 rfl
  have c1_1_3 := Mem.cell (v := .string t.cI) M1.2.1 3 rfl
  have c1_1_4 := Mem.cell (v := .string t.kS) M1.2.1 4 rfl
  have c1_1_5 := Mem.cell (v := .string t.kI) M1.2.1 5 rfl
  have c1_1_6 := Mem.cell (v := .slice t.fr.a t.fr.n t.fr.c) M1.2.1 6 rfl
  have c1_1_7 := Mem.cell (v := .slice t.sk.a t.sk.n t.sk.c) M1.2.1 7 rfl
  have c1_1_8 := Mem.cell (v := .slice t.tr.a t.tr.n t.tr.c) M1.2.1 8 rfl
  have c1_1_9 := Mem.cell (v := .slice t.sc.a t.sc.n t.sc.c) M1.2.1 9 rfl
  have c1_1_10 := Mem.cell (v := .int .i64 t.md) M1.2.1 10 rfl
  have c1_1_11 := Mem.cell (v := .int .i64 t.rm) M1.2.1 11 rfl
  have c1_1_12 := Mem.cell (v := .int .i64 t.st) M1.2.1 12 rfl
  have c1_1_13 := Mem.cell (v := .string t.on) M1.2.1 13 rfl
  have c1_1_14 := Mem.cell (v := .int .i64 t.vk) M1.2.1 14 rfl
  have c1_1_15 := Mem.cell (v := .int .i64 t.vx) M1.2.1 15 rfl
  have c1_1_16 := Mem.cell (v := .string t.vm) M1.2.1 16 rfl
  have c1_1_17 := Mem.cell (v := .string t.vS) M1.2.1 17 rfl
  have c1_1_18 := Mem.cell (v := .string t.vI) M1.2.1 18 rfl
  have c1_1_19 := Mem.cell (v := .bool t.ex) M1.2.1 19 rfl
  have z1_1 := Mem.lt M1.2.1
  go_upto_region 3 with (fail)
  obtain ⟨b, off, hva, hvc, hbl, hrg⟩ := (HS.below hB1).row hkl
  rw [← hs] at hrg
  have q1 := fun p : After w1 => (p.h.cell (p := ⟨b, off + k * 14 + 1, none⟩) hbl).trans (hrg 1 (.string s.lS) rfl)
  have q2 := fun p : After w1 => (p.h.cell (p := ⟨b, off + k * 14 + 2, none⟩) hbl).trans (hrg 2 (.string s.lI) rfl)
  have HRG := Lib.hid hrg
  have HSS := Lib.hid hs
  clear hrg hs HS h
  rw [hva] at c1_1_9
  have p1_0_0 := fun p : After w1 => Mem.cell (v := .int .i64 0) (Mem.after M1 p).1 0 rfl
  have p1_0_1 := fun p : After w1 => Mem.cell (v := .int .i64 0) (Mem.after M1 p).1 1 rfl
  have p1_0_2 := fun p : After w1 => Mem.cell (v := .string ⟨#[]⟩) (Mem.after M1 p).1 2 rfl
  have p1_0_3 := fun p : After w1 => Mem.cell (v := .string ⟨#[]⟩) (Mem.after M1 p).1 3 rfl
  have p1_0_4 := fun p : After w1 => Mem.cell (v := .string ⟨#[]⟩) (Mem.after M1 p).1 4 rfl
  have p1_1_0 := fun p : After w1 => Mem.cell (v := .string t.id) (Mem.after M1 p).2.1 0 rfl
  have p1_1_1 := fun p : After w1 => Mem.cell (v := .string t.pa) (Mem.after M1 p).2.1 1 rfl
  have p1_1_2 := fun p : After w1 => Mem.cell (v := .string t.cS) (Mem.after M1 p).2.1 2 rfl
  have p1_1_3 := fun p : After w1 => Mem.cell (v := .string t.cI) (Mem.after M1 p).2.1 3 rfl
  have p1_1_4 := fun p : After w1 => Mem.cell (v := .string t.kS) (Mem.after M1 p).2.1 4 rfl
  have p1_1_5 := fun p : After w1 => Mem.cell (v := .string t.kI) (Mem.after M1 p).2.1 5 rfl
  have p1_1_6 := fun p : After w1 => Mem.cell (v := .slice t.fr.a t.fr.n t.fr.c) (Mem.after M1 p).2.1 6 rfl
  have p1_1_7 := fun p : After w1 => Mem.cell (v := .slice t.sk.a t.sk.n t.sk.c) (Mem.after M1 p).2.1 7 rfl
  have p1_1_8 := fun p : After w1 => Mem.cell (v := .slice t.tr.a t.tr.n t.tr.c) (Mem.after M1 p).2.1 8 rfl
  have p1_1_9 := fun p : After w1 => Mem.cell (v := .slice t.sc.a t.sc.n t.sc.c) (Mem.after M1 p).2.1 9 rfl
  have p1_1_10 := fun p : After w1 => Mem.cell (v := .int .i64 t.md) (Mem.after M1 p).2.1 10 rfl
  have p1_1_11 := fun p : After w1 => Mem.cell (v := .int .i64 t.rm) (Mem.after M1 p).2.1 11 rfl
  have p1_1_12 := fun p : After w1 => Mem.cell (v := .int .i64 t.st) (Mem.after M1 p).2.1 12 rfl
  have p1_1_13 := fun p : After w1 => Mem.cell (v := .string t.on) (Mem.after M1 p).2.1 13 rfl
  have p1_1_14 := fun p : After w1 => Mem.cell (v := .int .i64 t.vk) (Mem.after M1 p).2.1 14 rfl
  have p1_1_15 := fun p : After w1 => Mem.cell (v := .int .i64 t.vx) (Mem.after M1 p).2.1 15 rfl
  have p1_1_16 := fun p : After w1 => Mem.cell (v := .string t.vm) (Mem.after M1 p).2.1 16 rfl
  have p1_1_17 := fun p : After w1 => Mem.cell (v := .string t.vS) (Mem.after M1 p).2.1 17 rfl
  have p1_1_18 := fun p : After w1 => Mem.cell (v := .string t.vI) (Mem.after M1 p).2.1 18 rfl
  have p1_1_19 := fun p : After w1 => Mem.cell (v := .bool t.ex) (Mem.after M1 p).2.1 19 rfl
  refine wp_region_after (by kernel_rfl) (by kernel_rfl) ?_
  repeat (go_big_quiet_step ((go_at_call 56; with_reducible exact After.call (HF _))))
  refine wpQuiet_nil ?_
  rintro _ ⟨p1, rfl⟩
  clear p1_0_0 p1_0_1 p1_0_2 p1_0_3 p1_0_4 p1_1_0 p1_1_1 p1_1_2 p1_1_3 p1_1_4 p1_1_5 p1_1_6 p1_1_7 p1_1_8 p1_1_9 p1_1_10 p1_1_11 p1_1_12 p1_1_13 p1_1_14 p1_1_15 p1_1_16 p1_1_17 p1_1_18 p1_1_19
  clear c1_0_0 c1_0_1 c1_0_2 c1_0_3 c1_0_4 z1_0 c1_1_0 c1_1_1 c1_1_2 c1_1_3 c1_1_4 c1_1_5 c1_1_6 c1_1_7 c1_1_8 c1_1_9 c1_1_10 c1_1_11 c1_1_12 c1_1_13 c1_1_14 c1_1_15 c1_1_16 c1_1_17 c1_1_18 c1_1_19 z1_1
  obtain ⟨w2, hW2⟩ : ∃ x, x = p1.world := ⟨_, rfl⟩
  have hB2 : Below w.heap.size w w2 := by rw [hW2]; exact below_then hB1 p1.h
  have M2 := M1.below p1.h
  rw [← hW2] at M2
  rw [← hW2]
  clear hW2
  clear p1
  have c2_0_0 := Mem.cell (v := .int .i64 0) M2.1 0 rfl
  have c2_0_1 := Mem.cell (v := .int .i64 0) M2.1 1 rfl
  have c2_0_2 := Mem.cell (v := .string ⟨#[]⟩) M2.1 2 rfl
  have c2_0_3 := Mem.cell (v := .string ⟨#[]⟩) M2.1 3 rfl
  have c2_0_4 := Mem.cell (v := .string ⟨#[]⟩) M2.1 4 rfl
  have z2_0 := Mem.lt M2.1
  have c2_1_0 := Mem.cell (v := .string t.id) M2.2.1 0 rfl
  have c2_1_1 := Mem.cell (v := .string t.pa) M2.2.1 1 rfl
  have c2_1_2 := Mem.cell (v := .string t.cS) M2.2.1 2 rfl
  have c2_1_3 := Mem.cell (v := .string t.cI) M2.2.1 3 rfl
  have c2_1_4 := Mem.cell (v := .string t.kS) M2.2.1 4 rfl
  have c2_1_5 := Mem.cell (v := .string t.kI) M2.2.1 5 rfl
  have c2_1_6 := Mem.cell (v := .slice t.fr.a t.fr.n t.fr.c) M2.2.1 6 rfl
  have c2_1_7 := Mem.cell (v := .slice t.sk.a t.sk.n t.sk.c) M2.2.1 7 rfl
  have c2_1_8 := Mem.cell (v := .slice t.tr.a t.tr.n t.tr.c) M2.2.1 8 rfl
  have c2_1_9 := Mem.cell (v := .slice t.sc.a t.sc.n t.sc.c) M2.2.1 9 rfl
  have c2_1_10 := Mem.cell (v := .int .i64 t.md) M2.2.1 10 rfl
  have c2_1_11 := Mem.cell (v := .int .i64 t.rm) M2.2.1 11 rfl
  have c2_1_12 := Mem.cell (v := .int .i64 t.st) M2.2.1 12 rfl
  have c2_1_13 := Mem.cell (v := .string t.on) M2.2.1 13 rfl
  have c2_1_14 := Mem.cell (v := .int .i64 t.vk) M2.2.1 14 rfl
  have c2_1_15 := Mem.cell (v := .int .i64 t.vx) M2.2.1 15 rfl
  have c2_1_16 := Mem.cell (v := .string t.vm) M2.2.1 16 rfl
  have c2_1_17 := Mem.cell (v := .string t.vS) M2.2.1 17 rfl
  have c2_1_18 := Mem.cell (v := .string t.vI) M2.2.1 18 rfl
  have c2_1_19 := Mem.cell (v := .bool t.ex) M2.2.1 19 rfl
  have z2_1 := Mem.lt M2.2.1
  go_upto_region 5 with (fail)
  have f0 := fun j => Mem.free M2.1 j
  go_region_held3 (fun w' => w'.cell? ⟨w.heap.size, 14, none⟩ = some (.int .i64 t.vk) ∧ w'.cell? ⟨w.heap.size, 15, none⟩ = some (.int .i64 t.vx) ∧ w'.cell? ⟨w.heap.size, 16, none⟩ = some (.string t.vm) ∧ w'.cell? ⟨w.heap.size, 17, none⟩ = some (.string t.vS) ∧ w'.cell? ⟨w.heap.size, 18, none⟩ = some (.string t.vI) ∧ w'.cell? ⟨w.heap.size, 19, none⟩ = some (.bool t.ex))
    (go_keep)
    (fail)
  have hX2_0 : (w2.setCells (w.heap.size + 1) 0 [.int .i64 t.vk, .int .i64 t.vx, .string t.vm, .string t.vS, .string t.vI]).heap[w.heap.size + 1]? = some (.cells #[.int .i64 t.vk, .int .i64 t.vx, .string t.vm, .string t.vS, .string t.vI] 28) := by rw [setCells_block [.int .i64 t.vk, .int .i64 t.vx, .string t.vm, .string t.vS, .string t.vI] 0 _ _ (M2.1) (by simp)]; rfl
  have hY2_0 := below_setCells (B := w.heap.size) hB2 (b := w.heap.size + 1) (by have := hB2.size; omega) 0 [.int .i64 t.vk, .int .i64 t.vx, .string t.vm, .string t.vS, .string t.vI]
  obtain ⟨w3, hW3⟩ : ∃ x, x = (w2.setCells (w.heap.size + 1) 0 [.int .i64 t.vk, .int .i64 t.vx, .string t.vm, .string t.vS, .string t.vI]).drew := ⟨_, rfl⟩
  refine at_world hW3 ?_
  rename_i hHeld_; clear hHeld_
  have hB3 : Below w.heap.size w w3 := by rw [hW3]; exact below_dr hY2_0
  have M3 : Mem w3 [(w.heap.size + 1, .cells #[.int .i64 t.vk, .int .i64 t.vx, .string t.vm, .string t.vS, .string t.vI] 28), (w.heap.size, .cells (th (t)) 39)] := by rw [hW3]; exact Mem.drew ⟨hX2_0, (setCells_other [.int .i64 t.vk, .int .i64 t.vx, .string t.vm, .string t.vS, .string t.vI] 0 _ _ (by omega)).trans (M2.2.1), trivial⟩
  clear c2_0_0 c2_0_1 c2_0_2 c2_0_3 c2_0_4 z2_0 c2_1_0 c2_1_1 c2_1_2 c2_1_3 c2_1_4 c2_1_5 c2_1_6 c2_1_7 c2_1_8 c2_1_9 c2_1_10 c2_1_11 c2_1_12 c2_1_13 c2_1_14 c2_1_15 c2_1_16 c2_1_17 c2_1_18 c2_1_19 z2_1
  clear hW3 hX2_0 hY2_0
  have c3_0_0 := Mem.cell (v := .int .i64 t.vk) M3.1 0 rfl
  have c3_0_1 := Mem.cell (v := .int .i64 t.vx) M3.1 1 rfl
  have c3_0_2 := Mem.cell (v := .string t.vm) M3.1 2 rfl
  have c3_0_3 := Mem.cell (v := .string t.vS) M3.1 3 rfl
  have c3_0_4 := Mem.cell (v := .string t.vI) M3.1 4 rfl
  have z3_0 := Mem.lt M3.1
  have c3_1_0 := Mem.cell (v := .string t.id) M3.2.1 0 rfl
  have c3_1_1 := Mem.cell (v := .string t.pa) M3.2.1 1 rfl
  have c3_1_2 := Mem.cell (v := .string t.cS) M3.2.1 2 rfl
  have c3_1_3 := Mem.cell (v := .string t.cI) M3.2.1 3 rfl
  have c3_1_4 := Mem.cell (v := .string t.kS) M3.2.1 4 rfl
  have c3_1_5 := Mem.cell (v := .string t.kI) M3.2.1 5 rfl
  have c3_1_6 := Mem.cell (v := .slice t.fr.a t.fr.n t.fr.c) M3.2.1 6 rfl
  have c3_1_7 := Mem.cell (v := .slice t.sk.a t.sk.n t.sk.c) M3.2.1 7 rfl
  have c3_1_8 := Mem.cell (v := .slice t.tr.a t.tr.n t.tr.c) M3.2.1 8 rfl
  have c3_1_9 := Mem.cell (v := .slice t.sc.a t.sc.n t.sc.c) M3.2.1 9 rfl
  have c3_1_10 := Mem.cell (v := .int .i64 t.md) M3.2.1 10 rfl
  have c3_1_11 := Mem.cell (v := .int .i64 t.rm) M3.2.1 11 rfl
  have c3_1_12 := Mem.cell (v := .int .i64 t.st) M3.2.1 12 rfl
  have c3_1_13 := Mem.cell (v := .string t.on) M3.2.1 13 rfl
  have c3_1_14 := Mem.cell (v := .int .i64 t.vk) M3.2.1 14 rfl
  have c3_1_15 := Mem.cell (v := .int .i64 t.vx) M3.2.1 15 rfl
  have c3_1_16 := Mem.cell (v := .string t.vm) M3.2.1 16 rfl
  have c3_1_17 := Mem.cell (v := .string t.vS) M3.2.1 17 rfl
  have c3_1_18 := Mem.cell (v := .string t.vI) M3.2.1 18 rfl
  have c3_1_19 := Mem.cell (v := .bool t.ex) M3.2.1 19 rfl
  have z3_1 := Mem.lt M3.2.1
  go_wp2_with fail
  refine bodyPost_ret (v := .tuple #[.agg #[.int .i64 t.vk, .int .i64 t.vx, .string t.vm, .string t.vS, .string t.vI], .bool t.ex]) (by simp [results, Tryz.results31, go_sem, c3_0_0, c3_0_1, c3_0_2, c3_0_3, c3_0_4]) rfl ⟨rfl, hB3⟩
end Go.Proofs.YtnmepcogijgbjaaGreatDoor
