/- thread.ladder.due, thread.Due. -/
import Derived.Test.YtnmepcogijgbjaaGreatDoorThB
import Derived.Test.YtnmepcogijgbjaaGreatDoorSc
namespace Go.Proofs.YtnmepcogijgbjaaGreatDoor
open Go.RowKit
def dueAt (now : Int) : List Sc → Option Nat := fun l => l.findIdx? (fun s => decide (s.un ≤ now))
def dueV (now : Int) (l : List Sc) : Int := match dueAt now l with | some i => (i : Int) | none => -1
theorem dueV_hit {now : Int} {l : List Sc} {k : Nat} (hk : k < l.length) (h : ∀ j (hj : j < l.length), j < k → ¬ l[j].un ≤ now) (hh : l[k].un ≤ now) : dueV now l = k := by
  have e : dueAt now l = some k := by
    unfold dueAt
    rw [List.findIdx?_eq_some_iff_getElem]
    exact ⟨hk, by simpa using hh, fun j hj => by simpa using h j (by omega) hj⟩
  unfold dueV
  rw [e]
theorem dueV_none {now : Int} {l : List Sc} (h : ∀ j (hj : j < l.length), ¬ l[j].un ≤ now) : dueV now l = -1 := by
  have e : dueAt now l = none := by
    unfold dueAt
    rw [List.findIdx?_eq_none_iff]
    intro x hx
    obtain ⟨j, hj, rfl⟩ := List.mem_iff_getElem.1 hx
    simpa using h j hj
  unfold dueV
  rw [e]
set_option maxRecDepth 100000 in
set_option maxHeartbeats 2000000 in
theorem ldue_any (v : Sl) (l : List Sc) (hl : l.length ≤ 1000000) (cS cI : ByteArray) (now : Int) (w : World) (h : ScAt w v l) :
    Calls Tryz.prog 30 #[.agg #[.slice v.a v.n v.c, .string cS, .string cI], .int .i64 now] w fun e w' => e = .returned (.int .i64 (dueV now l)) ∧ Below w.heap.size w w' := by
  obtain ⟨n, hn⟩ : ∃ n, n = v.n := ⟨_, rfl⟩
  have hnl : n = l.length := by rw [hn]; exact h.len
  have HL := Lib.hid h
  have HR := Lib.hid (rfl : dueV now l = dueV now l)
  obtain ⟨R, hR⟩ : ∃ R, dueV now l = R := ⟨_, rfl⟩
  rw [← hn]
  rw [hR]
  clear h HR
  have HRR := Lib.hid hR
  have HNL := Lib.hid hnl
  have HN := Lib.hid hn
  clear hR hnl hn
  go_enter Tryz.func30, Tryz.ntmps30
  go_wp2_with fail
  go_loopw [10] (fun i wr => ∃ k : Nat, k ≤ n ∧ i = .int .i64 k ∧ Below w.heap.size w wr ∧ Hid (∀ j (hj : j < l.length), j < k → ¬ l[j].un ≤ now)) (fun i _ => n - (intOf i).toNat)
  case atStart => exact ⟨0, by omega, rfl, (Below.refl _ _).alloc (Nat.le_refl _) _, Lib.hid (fun j hj hjk => by omega)⟩
  case round =>
    obtain ⟨k, hk, rfl, hb, hno⟩ := hrel
    by_cases hlt : k < n
    · have hkl : k < l.length := by rw [← HNL.out]; exact hlt
      obtain ⟨b, off, hva, hvc, hbl, hrg⟩ := (HL.out.below hb).row hkl
      have g1 : (0 : Int) ≤ (k : Int) := by omega
      have g2 : (k : Int) < (n : Int) := by omega
      rw [hva]
      go_upto_region 3 with (fail)
      refine wp_region_lit ?_
      iterate 6 go_step
      refine load_sc rfl _ rfl b (off + k * 14) rfl l[k] hrg ?_
      iterate 6 go_step
      refine store_sc rfl _ _ rfl wr.heap.size rfl sc0 l[k] rfl (heap_alloc_new wr _) ?_
      intro w1 hW1
      have hX : w1.heap[wr.heap.size]? = some (.cells (sc l[k]) 56) := by rw [hW1]; exact set_sc (s0 := sc0) (heap_alloc_new wr _) _
      have hY : Below w.heap.size w w1 := by rw [hW1]; exact below_setCells (hb.alloc hb.size _) hb.size 0 _
      clear hW1 hrg hva hb
      obtain ⟨s, hs⟩ : ∃ s, s = l[k] := ⟨_, rfl⟩
      rw [← hs] at hX ⊢
      have HS := Lib.hid hs
      clear hs
      have c3 := Mem.cell (v := .int .i64 s.un) hX 3 rfl
      clear hX
      by_cases hun : s.un ≤ now
      · have hR : R = (k : Int) := by rw [← HRR.out]; exact dueV_hit hkl hno.out (by rw [← HS.out]; exact hun)
        go_wp2_with fail
        go_ret

        exact ⟨rfl, hY⟩
      · have hno' : Hid (∀ j (hj : j < l.length), j < k + 1 → ¬ l[j].un ≤ now) := Lib.hid (fun j hj hjk => by
          by_cases e : j < k
          · exact hno.out j hj e
          · obtain rfl : j = k := by omega
            rw [← HS.out]
            exact hun)
        clear hno
        have HY := Lib.hid hY
        clear hY
        go_wp2_with fail
        go_roundw
        case rel => exact ⟨k + 1, by omega, by go_num, HY.out, hno'⟩
        case measure => simp [intOf]; omega
    · have hR : R = -1 := by
        rw [← HRR.out]
        exact dueV_none (fun j hj => hno.out j hj (by have := HNL.out; omega))
      have g2 : ¬ (k : Int) < (n : Int) := by omega
      go_wp2_with fail
      go_ret

      exact ⟨rfl, hb⟩
theorem field_walk (v : Sl) (x y : ByteArray) (w : World) : (Instr.field 78 (.agg #[.slice v.a v.n v.c, .string x, .string y]) 0).run Tryz.prog w = .ok (.agg #[.slice v.a v.n v.c, .string x, .string y]) w := by
  unfold Instr.field
  simp [go_sem, Sem.run_bind, part, asAgg]
set_option maxRecDepth 100000 in
set_option maxHeartbeats 2000000 in
theorem due_any (t : Th) (l : List Sc) (hl : l.length ≤ 1000000) (now : Int) (w : World) (h : ScAt w t.sc l) :
    Calls Tryz.prog 11 #[.agg (th t), .int .i64 now] w fun e w' => e = .returned (.int .i64 (dueV now l)) ∧ Below w.heap.size w w' := by
  have HS := h
  clear h
  go_enter Tryz.func11, Tryz.ntmps11
  have hB0 := Below.refl w.heap.size w
  have M0 := Mem.nil w
  go_upto_region 1 with (fail)
  refine wp_named ?_
  intro w1 hW1
  have hB1 : Below w.heap.size w w1 := by rw [hW1]; exact (below_al hB0 _)
  have M1 : Mem w1 [(w.heap.size, .cells (th (t)) 39)] := by rw [hW1]; exact (M0).new' (w.heap.size) (by rfl) (.cells (th (t)) 39)
  have hS1 : Below w.heap.size w w1 := by rw [hW1]; exact (below_al (Below.refl _ _) _)
  replace HS := ScAt.below HS hS1
  clear hS1
  clear hW1
  have c1_0_0 := Mem.cell (v := .string t.id) M1.1 0 rfl
  have c1_0_1 := Mem.cell (v := .string t.pa) M1.1 1 rfl
  have c1_0_2 := Mem.cell (v := .string t.cS) M1.1 2 rfl
  have c1_0_3 := Mem.cell (v := .string t.cI) M1.1 3 rfl
  have c1_0_4 := Mem.cell (v := .string t.kS) M1.1 4 rfl
  have c1_0_5 := Mem.cell (v := .string t.kI) M1.1 5 rfl
  have c1_0_6 := Mem.cell (v := .slice t.fr.a t.fr.n t.fr.c) M1.1 6 rfl
  have c1_0_7 := Mem.cell (v := .slice t.sk.a t.sk.n t.sk.c) M1.1 7 rfl
  have c1_0_8 := Mem.cell (v := .slice t.tr.a t.tr.n t.tr.c) M1.1 8 rfl
  have c1_0_9 := Mem.cell (v := .slice t.sc.a t.sc.n t.sc.c) M1.1 9 rfl
  have c1_0_10 := Mem.cell (v := .int .i64 t.md) M1.1 10 rfl
  have c1_0_11 := Mem.cell (v := .int .i64 t.rm) M1.1 11 rfl
  have c1_0_12 := Mem.cell (v := .int .i64 t.st) M1.1 12 rfl
  have c1_0_13 := Mem.cell (v := .string t.on) M1.1 13 rfl
  have c1_0_14 := Mem.cell (v := .int .i64 t.vk) M1.1 14 rfl
  have c1_0_15 := Mem.cell (v := .int .i64 t.vx) M1.1 15 rfl
  have c1_0_16 := Mem.cell (v := .string t.vm) M1.1 16 rfl
  have c1_0_17 := Mem.cell (v := .string t.vS) M1.1 17 rfl
  have c1_0_18 := Mem.cell (v := .string t.vI) M1.1 18 rfl
  have c1_0_19 := Mem.cell (v := .bool t.ex) M1.1 19 rfl
  have z1_0 := Mem.lt M1.1
  have hF := fun w => field_walk t.sc t.cS t.cI w
  refine wp_region_lit ?_
  refine load_th rfl _ rfl (w.heap.size) rfl (t) M1.1 ?_
  go_wp2_with fail
  refine Calls.named ?_
  intro W2 hW2
  have hB2_ : Below w.heap.size w W2 := by rw [hW2]; exact hB1
  have M2_ := M1
  rw [← hW2] at M2_
  have hS2 : Below w1.heap.size w1 W2 := by rw [hW2]; exact (Below.refl _ _)
  have HS_ := ScAt.below HS hS2
  clear hS2 HS
  clear hW2
  have ZZ2_0 := Lib.hid (Mem.lt M2_.1)
  clear c1_0_0 c1_0_1 c1_0_2 c1_0_3 c1_0_4 c1_0_5 c1_0_6 c1_0_7 c1_0_8 c1_0_9 c1_0_10 c1_0_11 c1_0_12 c1_0_13 c1_0_14 c1_0_15 c1_0_16 c1_0_17 c1_0_18 c1_0_19 z1_0
  refine (parts_any t _).mono ?_
  rintro e w2 ⟨rfl, hb2⟩
  have HS := ScAt.below HS_ hb2
  clear HS_
  have hB2 := below_then hB2_ hb2
  have M2 := M2_.below hb2
  clear M2_ hB2_ hb2
  have c2_0_0 := Mem.cell (v := .string t.id) M2.1 0 rfl
  have c2_0_1 := Mem.cell (v := .string t.pa) M2.1 1 rfl
  have c2_0_2 := Mem.cell (v := .string t.cS) M2.1 2 rfl
  have c2_0_3 := Mem.cell (v := .string t.cI) M2.1 3 rfl
  have c2_0_4 := Mem.cell (v := .string t.kS) M2.1 4 rfl
  have c2_0_5 := Mem.cell (v := .string t.kI) M2.1 5 rfl
  have c2_0_6 := Mem.cell (v := .slice t.fr.a t.fr.n t.fr.c) M2.1 6 rfl
  have c2_0_7 := Mem.cell (v := .slice t.sk.a t.sk.n t.sk.c) M2.1 7 rfl
  have c2_0_8 := Mem.cell (v := .slice t.tr.a t.tr.n t.tr.c) M2.1 8 rfl
  have c2_0_9 := Mem.cell (v := .slice t.sc.a t.sc.n t.sc.c) M2.1 9 rfl
  have c2_0_10 := Mem.cell (v := .int .i64 t.md) M2.1 10 rfl
  have c2_0_11 := Mem.cell (v := .int .i64 t.rm) M2.1 11 rfl
  have c2_0_12 := Mem.cell (v := .int .i64 t.st) M2.1 12 rfl
  have c2_0_13 := Mem.cell (v := .string t.on) M2.1 13 rfl
  have c2_0_14 := Mem.cell (v := .int .i64 t.vk) M2.1 14 rfl
  have c2_0_15 := Mem.cell (v := .int .i64 t.vx) M2.1 15 rfl
  have c2_0_16 := Mem.cell (v := .string t.vm) M2.1 16 rfl
  have c2_0_17 := Mem.cell (v := .string t.vS) M2.1 17 rfl
  have c2_0_18 := Mem.cell (v := .string t.vI) M2.1 18 rfl
  have c2_0_19 := Mem.cell (v := .bool t.ex) M2.1 19 rfl
  have z2_0 := Mem.lt M2.1
  go_wp2_with fail
  refine Calls.named ?_
  intro W3 hW3
  have hB3_ : Below w.heap.size w W3 := by rw [hW3]; exact hB2
  have M3_ := M2
  rw [← hW3] at M3_
  have hS3 : Below w2.heap.size w2 W3 := by rw [hW3]; exact (Below.refl _ _)
  have HS_ := ScAt.below HS hS3
  clear hS3 HS
  clear hW3
  have ZZ3_0 := Lib.hid (Mem.lt M3_.1)
  clear c2_0_0 c2_0_1 c2_0_2 c2_0_3 c2_0_4 c2_0_5 c2_0_6 c2_0_7 c2_0_8 c2_0_9 c2_0_10 c2_0_11 c2_0_12 c2_0_13 c2_0_14 c2_0_15 c2_0_16 c2_0_17 c2_0_18 c2_0_19 z2_0
  refine (ldue_any t.sc l hl t.cS t.cI now _ HS_).mono ?_
  rintro e w3 ⟨rfl, hb3⟩
  have HS := ScAt.below HS_ hb3
  clear HS_
  have hB3 := below_then hB3_ hb3
  have M3 := M3_.below hb3
  clear M3_ hB3_ hb3
  have c3_0_0 := Mem.cell (v := .string t.id) M3.1 0 rfl
  have c3_0_1 := Mem.cell (v := .string t.pa) M3.1 1 rfl
  have c3_0_2 := Mem.cell (v := .string t.cS) M3.1 2 rfl
  have c3_0_3 := Mem.cell (v := .string t.cI) M3.1 3 rfl
  have c3_0_4 := Mem.cell (v := .string t.kS) M3.1 4 rfl
  have c3_0_5 := Mem.cell (v := .string t.kI) M3.1 5 rfl
  have c3_0_6 := Mem.cell (v := .slice t.fr.a t.fr.n t.fr.c) M3.1 6 rfl
  have c3_0_7 := Mem.cell (v := .slice t.sk.a t.sk.n t.sk.c) M3.1 7 rfl
  have c3_0_8 := Mem.cell (v := .slice t.tr.a t.tr.n t.tr.c) M3.1 8 rfl
  have c3_0_9 := Mem.cell (v := .slice t.sc.a t.sc.n t.sc.c) M3.1 9 rfl
  have c3_0_10 := Mem.cell (v := .int .i64 t.md) M3.1 10 rfl
  have c3_0_11 := Mem.cell (v := .int .i64 t.rm) M3.1 11 rfl
  have c3_0_12 := Mem.cell (v := .int .i64 t.st) M3.1 12 rfl
  have c3_0_13 := Mem.cell (v := .string t.on) M3.1 13 rfl
  have c3_0_14 := Mem.cell (v := .int .i64 t.vk) M3.1 14 rfl
  have c3_0_15 := Mem.cell (v := .int .i64 t.vx) M3.1 15 rfl
  have c3_0_16 := Mem.cell (v := .string t.vm) M3.1 16 rfl
  have c3_0_17 := Mem.cell (v := .string t.vS) M3.1 17 rfl
  have c3_0_18 := Mem.cell (v := .string t.vI) M3.1 18 rfl
  have c3_0_19 := Mem.cell (v := .bool t.ex) M3.1 19 rfl
  have z3_0 := Mem.lt M3.1
  go_wp2_with fail
  go_ret
  exact ⟨rfl, hB3⟩
end Go.Proofs.YtnmepcogijgbjaaGreatDoor
