/- slices.Clip of scopes; thread.Leave. -/
import Derived.Test.YtnmepcogijgbjaaGreatDoorThD
import Derived.Test.YtnmepcogijgbjaaGreatDoorOb
import Derived.Deep.RegionHeld
import Derived.Test.YtnmepcogijgbjaaGreatDoorCoreE
namespace Go.Proofs.YtnmepcogijgbjaaGreatDoor
open Go.RowKit
set_option maxRecDepth 100000 in
set_option maxHeartbeats 2000000 in
theorem clip_any (ao : Option Addr) (n cap : Nat) (hn : n ≤ cap) (w : World) :
    Calls Tryz.prog 28 #[.slice ao n cap] w fun e w' => e = .returned (.slice ao n n) ∧ w = w' := by
  have g1 : (0 : Int) ≤ (n : Int) := by omega
  have g2 : (n : Int) ≤ (cap : Int) := by omega
  go_enter Tryz.func28, Tryz.ntmps28
  go_wp2_with fail
  go_ret
  exact ⟨rfl, rfl⟩
theorem rows_take {w : World} {ao : Option Addr} {xs : List Value} (h : RowsIn w ao xs) (n : Nat) : RowsIn w ao (xs.take n) := by
  intro b hb
  obtain ⟨h1, h2⟩ := h b hb
  refine ⟨h1, fun j u hj => h2 j u ?_⟩
  rw [List.getElem?_take] at hj
  split at hj
  · exact hj
  · cases hj
theorem actH {P : Program} {md : Region.Mode} {ops : Array Oper} {Q : Exit → Act → World → Prop} {S : World → Prop} {n : Nat} {l : Array Bool} {a : Act} {w : World} (h : ∀ a', a' = a → wpAnyH P md ops Q S n l a' w) : wpAnyH P md ops Q S n l a w := h a rfl
theorem results_leave {fn : Func} {p u q : Tmp} (h : fn.results = #[.cell p 39, .tmp u, .cell q 50]) (tmps : Array Value) (w : World) (g g2 : Nat) (t : Th) (o : Ob) (hp : tmps.getD p undef = .pointer (some ⟨g, 0, none⟩)) (hg : w.heap[g]? = some (.cells (th t) 39)) (hq : tmps.getD q undef = .pointer (some ⟨g2, 0, none⟩)) (hg2 : w.heap[g2]? = some (.cells (ob o) 50)) :
    (results fn tmps).run Tryz.prog w = .ok (.tuple #[.agg (th t), tmps.getD u undef, .agg (ob o)]) w := by
  have hp' : tmps[p]?.getD undef = .pointer (some ⟨g, 0, none⟩) := by simpa using hp
  have hq' : tmps[q]?.getD undef = .pointer (some ⟨g2, 0, none⟩) := by simpa using hq
  have hl := run_loadVar_row w g _ _ (th t) (0, 0) _ hg Tryz.underlying39 rfl info_th
  have hl2 := run_loadVar_row w g2 _ _ (ob o) (0, 0) _ hg2 Tryz.underlying50 rfl info_ob
  simp [results, h, hp', hq', asAddr, hl, hl2]
theorem wpOp_of {P : Program} {ops : Array Oper} {Q : Exit → Act → World → Prop} {i : Nat} {K : Act → World → Prop} {a : Act} {w : World} {o : Oper} (ho : ops[i]? = some o) (hw : Region.wanted o (yielded ops a.tmps) = true) (h : o.wp P a w K Q) : wpOp P ops Q i K a w := by
  unfold wpOp
  simp only [ho, hw, if_true]
  exact .inl h
def thLeft (t : Th) (s : Sc) (k : Nat) (ao : Option Addr) (cap : Nat) : Th := { t with sc := ⟨t.sc.a, k, k⟩, cS := s.cS, cI := s.cI, kS := s.kS, kI := s.kI, pa := s.pa, md := s.md, rm := s.rm, fr := ⟨t.fr.a, cutN s.fr t.fr.n, cutN s.fr t.fr.n⟩, sk := ⟨ao, cutN s.ht t.sk.n + 1, cap⟩, tr := ⟨t.tr.a, cutN s.tr t.tr.n, cutN s.tr t.tr.n⟩, st := 0, on := ⟨#[]⟩, vk := 0, vx := 0, vm := ⟨#[]⟩, vS := ⟨#[]⟩, vI := ⟨#[]⟩, ex := false }
set_option maxRecDepth 100000 in
set_option maxHeartbeats 2000000 in
theorem leave_gen (t : Th) (k : Nat) (l : List Sc) (hkl : k < l.length) (hk9 : l.length ≤ 1000000) (xs : List Value) (hxl : xs.length = t.sk.n * 5) (hs0 : t.sk.a = none → t.sk.n = 0) (hs9 : t.sk.n ≤ 1000000) (hsc : t.sk.n ≤ t.sk.c) (hsc2 : t.sk.c ≤ maxLen) (hfc : t.fr.n ≤ t.fr.c) (hfc2 : t.fr.c ≤ maxLen) (htc : t.tr.n ≤ t.tr.c) (htc2 : t.tr.c ≤ maxLen)
    (bk bx : Int) (bm bS bI : ByteArray) (bex : Bool) (w : World) (h : ScAt w t.sc l) (_ : t.sc.c ≤ maxLen) (hR : RowsIn w t.sk.a xs)
    (HBR : ∀ W, Below w.heap.size w W → Calls Tryz.prog 31 #[.agg (th t), .int .i64 k] W fun e w' => e = .returned (.tuple #[.agg #[.int .i64 bk, .int .i64 bx, .string bm, .string bS, .string bI], .bool bex]) ∧ Below W.heap.size W w') :
    Calls Tryz.prog 12 #[.agg (th t), .int .i64 k] w fun e w' => ∃ ao cap, e = .returned (.tuple #[.agg (th (thLeft t l[k] k ao cap)), .string l[k].nm, .agg (ob ⟨3, l[k].lS, l[k].lI, bk, bx, bm, bS, bI, bex⟩)]) ∧ w'.ownsRow w.heap.size 28 5 (.slice ao (cutN l[k].ht t.sk.n + 1) cap) (cutN l[k].ht t.sk.n + 1) (xs.take (cutN l[k].ht t.sk.n * 5) ++ [.int .i64 3, .int .i64 0, .string l[k].nm, .string l[k].lS, .string l[k].lI]) ∧ Below w.heap.size w w' := by
  have hn := h.len
  have g0 : ¬ ((k : Int) < 0) := by omega
  have g1 : (0 : Int) ≤ (k : Int) := by omega
  have g2 : (k : Int) < (t.sc.n : Int) := by omega
  have g3 : ¬ ((t.sc.n : Int) ≤ (k : Int)) := by omega
  have HS := h
  obtain ⟨s, hs⟩ : ∃ s, s = l[k] := ⟨_, rfl⟩
  rw [← hs]
  have HSS := Lib.hid hs
  have HRR := Lib.hid fun (W : World) (hb : Below w.heap.size w W) => hR.below hb
  have HSC := Lib.hid fun (W : World) (hb : Below w.heap.size w W) => HS.below hb
  have HBB := Lib.hid HBR
  clear hs hR HS h HBR
  obtain ⟨f, hf⟩ : ∃ f, f = cutN s.fr t.fr.n := ⟨_, rfl⟩
  obtain ⟨h, hh⟩ : ∃ h, h = cutN s.ht t.sk.n := ⟨_, rfl⟩
  obtain ⟨r, hr⟩ : ∃ r, r = cutN s.tr t.tr.n := ⟨_, rfl⟩
  have hhn : h ≤ t.sk.n := by rw [hh]; unfold cutN; omega
  unfold thLeft
  rw [← hf, ← hh, ← hr]
  have HQF := Lib.hid hf
  have HQH := Lib.hid hh
  have HQR := Lib.hid hr
  clear hf hh hr
  go_enter Tryz.func12, Tryz.ntmps12
  have hB0 := Below.refl w.heap.size w
  have M0 := Mem.nil w
  go_upto_region 1 with (fail)
  refine wp_named ?_
  intro w1 hW1
  have hB1 : Below w.heap.size w w1 := by rw [hW1]; exact (below_al (below_al (below_al hB0 _) _) _)
  have M1 : Mem w1 [(w.heap.size + 1 + 1, .cells (ob (ob0)) 50), (w.heap.size + 1, .cells (th (th0)) 39), (w.heap.size, .cells (th (t)) 39)] := by rw [hW1]; exact (((M0).new' (w.heap.size) (by rfl) (.cells (th (t)) 39)).new' (w.heap.size + 1) (by simp) (.cells (th (th0)) 39)).new' (w.heap.size + 1 + 1) (by simp) (.cells (ob (ob0)) 50)
  clear hW1
  have z1_0 := Mem.lt M1.1
  have z1_1 := Mem.lt M1.2.1
  have c1_2_0 := Mem.cell (v := .string t.id) M1.2.2.1 0 rfl
  have c1_2_1 := Mem.cell (v := .string t.pa) M1.2.2.1 1 rfl
  have c1_2_2 := Mem.cell (v := .string t.cS) M1.2.2.1 2 rfl
  have c1_2_3 := Mem.cell (v := .string t.cI) M1.2.2.1 3 rfl
  have c1_2_4 := Mem.cell (v := .string t.kS) M1.2.2.1 4 rfl
  have c1_2_5 := Mem.cell (v := .string t.kI) M1.2.2.1 5 rfl
  have c1_2_6 := Mem.cell (v := .slice t.fr.a t.fr.n t.fr.c) M1.2.2.1 6 rfl
  have c1_2_7 := Mem.cell (v := .slice t.sk.a t.sk.n t.sk.c) M1.2.2.1 7 rfl
  have c1_2_8 := Mem.cell (v := .slice t.tr.a t.tr.n t.tr.c) M1.2.2.1 8 rfl
  have c1_2_9 := Mem.cell (v := .slice t.sc.a t.sc.n t.sc.c) M1.2.2.1 9 rfl
  have c1_2_10 := Mem.cell (v := .int .i64 t.md) M1.2.2.1 10 rfl
  have c1_2_11 := Mem.cell (v := .int .i64 t.rm) M1.2.2.1 11 rfl
  have c1_2_12 := Mem.cell (v := .int .i64 t.st) M1.2.2.1 12 rfl
  have c1_2_13 := Mem.cell (v := .string t.on) M1.2.2.1 13 rfl
  have c1_2_14 := Mem.cell (v := .int .i64 t.vk) M1.2.2.1 14 rfl
  have c1_2_15 := Mem.cell (v := .int .i64 t.vx) M1.2.2.1 15 rfl
  have c1_2_16 := Mem.cell (v := .string t.vm) M1.2.2.1 16 rfl
  have c1_2_17 := Mem.cell (v := .string t.vS) M1.2.2.1 17 rfl
  have c1_2_18 := Mem.cell (v := .string t.vI) M1.2.2.1 18 rfl
  have c1_2_19 := Mem.cell (v := .bool t.ex) M1.2.2.1 19 rfl
  have z1_2 := Mem.lt M1.2.2.1
  have yS : w.heap.size + 1 + 1 < w1.heap.size := z1_0
  go_upto_region 3 with (fail)
  obtain ⟨b, off, hva, hvc, hbl, hrg⟩ := (HSC.out _ hB1).row hkl
  rw [← HSS.out] at hrg
  rw [hva] at c1_2_9
  refine wp_region_lit ?_
  iterate 12 go_step
  refine load_sc rfl _ rfl b (off + k * 14) rfl s hrg ?_
  clear hrg
  iterate 3 go_step
  refine wpl_named ?_
  intro w2 hW2
  have hB2 : Below w.heap.size w w2 := by rw [hW2]; exact (below_al hB1 _)
  have M2 : Mem w2 [(w1.heap.size, .cells (sc (sc0)) 56), (w.heap.size + 1 + 1, .cells (ob (ob0)) 50), (w.heap.size + 1, .cells (th (th0)) 39), (w.heap.size, .cells (th (t)) 39)] := by rw [hW2]; exact (M1).new' (w1.heap.size) (by rfl) (.cells (sc (sc0)) 56)
  clear z1_0 z1_1 c1_2_0 c1_2_1 c1_2_2 c1_2_3 c1_2_4 c1_2_5 c1_2_6 c1_2_7 c1_2_8 c1_2_9 c1_2_10 c1_2_11 c1_2_12 c1_2_13 c1_2_14 c1_2_15 c1_2_16 c1_2_17 c1_2_18 c1_2_19 z1_2
  clear hW2
  have z2_0 := Mem.lt M2.1
  have z2_1 := Mem.lt M2.2.1
  have z2_2 := Mem.lt M2.2.2.1
  have c2_3_0 := Mem.cell (v := .string t.id) M2.2.2.2.1 0 rfl
  have c2_3_1 := Mem.cell (v := .string t.pa) M2.2.2.2.1 1 rfl
  have c2_3_2 := Mem.cell (v := .string t.cS) M2.2.2.2.1 2 rfl
  have c2_3_3 := Mem.cell (v := .string t.cI) M2.2.2.2.1 3 rfl
  have c2_3_4 := Mem.cell (v := .string t.kS) M2.2.2.2.1 4 rfl
  have c2_3_5 := Mem.cell (v := .string t.kI) M2.2.2.2.1 5 rfl
  have c2_3_6 := Mem.cell (v := .slice t.fr.a t.fr.n t.fr.c) M2.2.2.2.1 6 rfl
  have c2_3_7 := Mem.cell (v := .slice t.sk.a t.sk.n t.sk.c) M2.2.2.2.1 7 rfl
  have c2_3_8 := Mem.cell (v := .slice t.tr.a t.tr.n t.tr.c) M2.2.2.2.1 8 rfl
  have c2_3_9 := Mem.cell (v := .slice t.sc.a t.sc.n t.sc.c) M2.2.2.2.1 9 rfl
  have c2_3_10 := Mem.cell (v := .int .i64 t.md) M2.2.2.2.1 10 rfl
  have c2_3_11 := Mem.cell (v := .int .i64 t.rm) M2.2.2.2.1 11 rfl
  have c2_3_12 := Mem.cell (v := .int .i64 t.st) M2.2.2.2.1 12 rfl
  have c2_3_13 := Mem.cell (v := .string t.on) M2.2.2.2.1 13 rfl
  have c2_3_14 := Mem.cell (v := .int .i64 t.vk) M2.2.2.2.1 14 rfl
  have c2_3_15 := Mem.cell (v := .int .i64 t.vx) M2.2.2.2.1 15 rfl
  have c2_3_16 := Mem.cell (v := .string t.vm) M2.2.2.2.1 16 rfl
  have c2_3_17 := Mem.cell (v := .string t.vS) M2.2.2.2.1 17 rfl
  have c2_3_18 := Mem.cell (v := .string t.vI) M2.2.2.2.1 18 rfl
  have c2_3_19 := Mem.cell (v := .bool t.ex) M2.2.2.2.1 19 rfl
  have z2_3 := Mem.lt M2.2.2.2.1
  refine store_sc rfl _ _ rfl (w1.heap.size) rfl (sc0) (s) rfl M2.1 ?_
  intro w3 hW3
  have hB3 : Below w.heap.size w w3 := by rw [hW3]; exact below_setCells (B := w.heap.size) hB2 (b := w1.heap.size) (by have := hB2.size; omega) 0 _
  have M3 : Mem w3 [(w1.heap.size, .cells (sc (s)) 56), (w.heap.size + 1 + 1, .cells (ob (ob0)) 50), (w.heap.size + 1, .cells (th (th0)) 39), (w.heap.size, .cells (th (t)) 39)] := by rw [hW3]; exact ⟨set_sc M2.1 _, (setCells_other _ 0 _ _ (by omega)).trans M2.2.1, (setCells_other _ 0 _ _ (by omega)).trans M2.2.2.1, (setCells_other _ 0 _ _ (by omega)).trans M2.2.2.2.1, trivial⟩
  clear z2_0 z2_1 z2_2 c2_3_0 c2_3_1 c2_3_2 c2_3_3 c2_3_4 c2_3_5 c2_3_6 c2_3_7 c2_3_8 c2_3_9 c2_3_10 c2_3_11 c2_3_12 c2_3_13 c2_3_14 c2_3_15 c2_3_16 c2_3_17 c2_3_18 c2_3_19 z2_3
  clear hW3
  have c3_0_0 := Mem.cell (v := .string s.nm) M3.1 0 rfl
  have c3_0_1 := Mem.cell (v := .string s.lS) M3.1 1 rfl
  have c3_0_2 := Mem.cell (v := .string s.lI) M3.1 2 rfl
  have c3_0_3 := Mem.cell (v := .int .i64 s.un) M3.1 3 rfl
  have c3_0_4 := Mem.cell (v := .int .i64 s.fr) M3.1 4 rfl
  have c3_0_5 := Mem.cell (v := .int .i64 s.ht) M3.1 5 rfl
  have c3_0_6 := Mem.cell (v := .int .i64 s.tr) M3.1 6 rfl
  have c3_0_7 := Mem.cell (v := .string s.cS) M3.1 7 rfl
  have c3_0_8 := Mem.cell (v := .string s.cI) M3.1 8 rfl
  have c3_0_9 := Mem.cell (v := .string s.kS) M3.1 9 rfl
  have c3_0_10 := Mem.cell (v := .string s.kI) M3.1 10 rfl
  have c3_0_11 := Mem.cell (v := .string s.pa) M3.1 11 rfl
  have c3_0_12 := Mem.cell (v := .int .i64 s.md) M3.1 12 rfl
  have c3_0_13 := Mem.cell (v := .int .i64 s.rm) M3.1 13 rfl
  have z3_0 := Mem.lt M3.1
  have z3_1 := Mem.lt M3.2.1
  have z3_2 := Mem.lt M3.2.2.1
  have c3_3_0 := Mem.cell (v := .string t.id) M3.2.2.2.1 0 rfl
  have c3_3_1 := Mem.cell (v := .string t.pa) M3.2.2.2.1 1 rfl
  have c3_3_2 := Mem.cell (v := .string t.cS) M3.2.2.2.1 2 rfl
  have c3_3_3 := Mem.cell (v := .string t.cI) M3.2.2.2.1 3 rfl
  have c3_3_4 := Mem.cell (v := .string t.kS) M3.2.2.2.1 4 rfl
  have c3_3_5 := Mem.cell (v := .string t.kI) M3.2.2.2.1 5 rfl
  have c3_3_6 := Mem.cell (v := .slice t.fr.a t.fr.n t.fr.c) M3.2.2.2.1 6 rfl
  have c3_3_7 := Mem.cell (v := .slice t.sk.a t.sk.n t.sk.c) M3.2.2.2.1 7 rfl
  have c3_3_8 := Mem.cell (v := .slice t.tr.a t.tr.n t.tr.c) M3.2.2.2.1 8 rfl
  have c3_3_9 := Mem.cell (v := .slice t.sc.a t.sc.n t.sc.c) M3.2.2.2.1 9 rfl
  have c3_3_10 := Mem.cell (v := .int .i64 t.md) M3.2.2.2.1 10 rfl
  have c3_3_11 := Mem.cell (v := .int .i64 t.rm) M3.2.2.2.1 11 rfl
  have c3_3_12 := Mem.cell (v := .int .i64 t.st) M3.2.2.2.1 12 rfl
  have c3_3_13 := Mem.cell (v := .string t.on) M3.2.2.2.1 13 rfl
  have c3_3_14 := Mem.cell (v := .int .i64 t.vk) M3.2.2.2.1 14 rfl
  have c3_3_15 := Mem.cell (v := .int .i64 t.vx) M3.2.2.2.1 15 rfl
  have c3_3_16 := Mem.cell (v := .string t.vm) M3.2.2.2.1 16 rfl
  have c3_3_17 := Mem.cell (v := .string t.vS) M3.2.2.2.1 17 rfl
  have c3_3_18 := Mem.cell (v := .string t.vI) M3.2.2.2.1 18 rfl
  have c3_3_19 := Mem.cell (v := .bool t.ex) M3.2.2.2.1 19 rfl
  have z3_3 := Mem.lt M3.2.2.2.1
  go_upto_region 4 with (fail)
  refine wp_region_lit ?_
  iterate 9 go_step
  refine store_ob rfl _ _ rfl (w.heap.size + 1 + 1) rfl (ob0) ({ ob0 with kd := 3, lS := s.lS, lI := s.lI }) rfl M3.2.1 ?_
  intro w4 hW4
  have hB4 : Below w.heap.size w w4 := by rw [hW4]; exact below_setCells (B := w.heap.size) hB3 (b := w.heap.size + 1 + 1) (by have := hB3.size; omega) 0 _
  have M4 : Mem w4 [(w1.heap.size, .cells (sc (s)) 56), (w.heap.size + 1 + 1, .cells (ob ({ ob0 with kd := 3, lS := s.lS, lI := s.lI })) 50), (w.heap.size + 1, .cells (th (th0)) 39), (w.heap.size, .cells (th (t)) 39)] := by rw [hW4]; exact ⟨(setCells_other _ 0 _ _ (by omega)).trans M3.1, set_ob M3.2.1 _, (setCells_other _ 0 _ _ (by omega)).trans M3.2.2.1, (setCells_other _ 0 _ _ (by omega)).trans M3.2.2.2.1, trivial⟩
  clear c3_0_0 c3_0_1 c3_0_2 c3_0_3 c3_0_4 c3_0_5 c3_0_6 c3_0_7 c3_0_8 c3_0_9 c3_0_10 c3_0_11 c3_0_12 c3_0_13 z3_0 z3_1 z3_2 c3_3_0 c3_3_1 c3_3_2 c3_3_3 c3_3_4 c3_3_5 c3_3_6 c3_3_7 c3_3_8 c3_3_9 c3_3_10 c3_3_11 c3_3_12 c3_3_13 c3_3_14 c3_3_15 c3_3_16 c3_3_17 c3_3_18 c3_3_19 z3_3
  clear hW4
  have c4_0_0 := Mem.cell (v := .string s.nm) M4.1 0 rfl
  have c4_0_1 := Mem.cell (v := .string s.lS) M4.1 1 rfl
  have c4_0_2 := Mem.cell (v := .string s.lI) M4.1 2 rfl
  have c4_0_3 := Mem.cell (v := .int .i64 s.un) M4.1 3 rfl
  have c4_0_4 := Mem.cell (v := .int .i64 s.fr) M4.1 4 rfl
  have c4_0_5 := Mem.cell (v := .int .i64 s.ht) M4.1 5 rfl
  have c4_0_6 := Mem.cell (v := .int .i64 s.tr) M4.1 6 rfl
  have c4_0_7 := Mem.cell (v := .string s.cS) M4.1 7 rfl
  have c4_0_8 := Mem.cell (v := .string s.cI) M4.1 8 rfl
  have c4_0_9 := Mem.cell (v := .string s.kS) M4.1 9 rfl
  have c4_0_10 := Mem.cell (v := .string s.kI) M4.1 10 rfl
  have c4_0_11 := Mem.cell (v := .string s.pa) M4.1 11 rfl
  have c4_0_12 := Mem.cell (v := .int .i64 s.md) M4.1 12 rfl
  have c4_0_13 := Mem.cell (v := .int .i64 s.rm) M4.1 13 rfl
  have z4_0 := Mem.lt M4.1
  have c4_1_0 := Mem.cell (v := .int .i64 3) M4.2.1 0 rfl
  have c4_1_1 := Mem.cell (v := .string s.lS) M4.2.1 1 rfl
  have c4_1_2 := Mem.cell (v := .string s.lI) M4.2.1 2 rfl
  have c4_1_3 := Mem.cell (v := .int .i64 ob0.vk) M4.2.1 3 rfl
  have c4_1_4 := Mem.cell (v := .int .i64 ob0.vx) M4.2.1 4 rfl
  have c4_1_5 := Mem.cell (v := .string ob0.vm) M4.2.1 5 rfl
  have c4_1_6 := Mem.cell (v := .string ob0.vS) M4.2.1 6 rfl
  have c4_1_7 := Mem.cell (v := .string ob0.vI) M4.2.1 7 rfl
  have c4_1_8 := Mem.cell (v := .bool ob0.ex) M4.2.1 8 rfl
  have c4_1_9 := Mem.cell (v := .bool false) M4.2.1 9 rfl
  have c4_1_10 := Mem.cell (v := .bool false) M4.2.1 10 rfl
  have c4_1_11 := Mem.cell (v := .int .i64 0) M4.2.1 11 rfl
  have c4_1_12 := Mem.cell (v := .int .i64 0) M4.2.1 12 rfl
  have c4_1_13 := Mem.cell (v := .string ⟨#[]⟩) M4.2.1 13 rfl
  have c4_1_14 := Mem.cell (v := .string ⟨#[]⟩) M4.2.1 14 rfl
  have c4_1_15 := Mem.cell (v := .string ⟨#[]⟩) M4.2.1 15 rfl
  have c4_1_16 := Mem.cell (v := .slice none 0 0) M4.2.1 16 rfl
  have c4_1_17 := Mem.cell (v := .int .i64 0) M4.2.1 17 rfl
  have c4_1_18 := Mem.cell (v := .int .u8 0) M4.2.1 18 rfl
  have z4_1 := Mem.lt M4.2.1
  have z4_2 := Mem.lt M4.2.2.1
  have c4_3_0 := Mem.cell (v := .string t.id) M4.2.2.2.1 0 rfl
  have c4_3_1 := Mem.cell (v := .string t.pa) M4.2.2.2.1 1 rfl
  have c4_3_2 := Mem.cell (v := .string t.cS) M4.2.2.2.1 2 rfl
  have c4_3_3 := Mem.cell (v := .string t.cI) M4.2.2.2.1 3 rfl
  have c4_3_4 := Mem.cell (v := .string t.kS) M4.2.2.2.1 4 rfl
  have c4_3_5 := Mem.cell (v := .string t.kI) M4.2.2.2.1 5 rfl
  have c4_3_6 := Mem.cell (v := .slice t.fr.a t.fr.n t.fr.c) M4.2.2.2.1 6 rfl
  have c4_3_7 := Mem.cell (v := .slice t.sk.a t.sk.n t.sk.c) M4.2.2.2.1 7 rfl
  have c4_3_8 := Mem.cell (v := .slice t.tr.a t.tr.n t.tr.c) M4.2.2.2.1 8 rfl
  have c4_3_9 := Mem.cell (v := .slice t.sc.a t.sc.n t.sc.c) M4.2.2.2.1 9 rfl
  have c4_3_10 := Mem.cell (v := .int .i64 t.md) M4.2.2.2.1 10 rfl
  have c4_3_11 := Mem.cell (v := .int .i64 t.rm) M4.2.2.2.1 11 rfl
  have c4_3_12 := Mem.cell (v := .int .i64 t.st) M4.2.2.2.1 12 rfl
  have c4_3_13 := Mem.cell (v := .string t.on) M4.2.2.2.1 13 rfl
  have c4_3_14 := Mem.cell (v := .int .i64 t.vk) M4.2.2.2.1 14 rfl
  have c4_3_15 := Mem.cell (v := .int .i64 t.vx) M4.2.2.2.1 15 rfl
  have c4_3_16 := Mem.cell (v := .string t.vm) M4.2.2.2.1 16 rfl
  have c4_3_17 := Mem.cell (v := .string t.vS) M4.2.2.2.1 17 rfl
  have c4_3_18 := Mem.cell (v := .string t.vI) M4.2.2.2.1 18 rfl
  have c4_3_19 := Mem.cell (v := .bool t.ex) M4.2.2.2.1 19 rfl
  have z4_3 := Mem.lt M4.2.2.2.1
  have hne1 : w1.heap.size ≠ w.heap.size := by omega
  have hne2 : w.heap.size ≠ w1.heap.size := by omega
  have g4 : (k : Int) ≤ (t.sc.c : Int) := by omega
  have HVA := Lib.hid hva
  clear hva
  go_upto_region 5 with (fail)
  refine wp_region_lit ?_
  refine load_th rfl _ rfl (w.heap.size) rfl (t) M4.2.2.2.1 ?_
  go_wp2_with fail
  refine Calls.named ?_
  intro W5 hW5
  have hB5_ : Below w.heap.size w W5 := by rw [hW5]; exact hB4
  have M5_ := M4
  rw [← hW5] at M5_
  clear hW5
  have ZZ5_0 := Lib.hid (Mem.lt M5_.1)
  have ZZ5_1 := Lib.hid (Mem.lt M5_.2.1)
  have ZZ5_2 := Lib.hid (Mem.lt M5_.2.2.1)
  have ZZ5_3 := Lib.hid (Mem.lt M5_.2.2.2.1)
  clear c4_0_0 c4_0_1 c4_0_2 c4_0_3 c4_0_4 c4_0_5 c4_0_6 c4_0_7 c4_0_8 c4_0_9 c4_0_10 c4_0_11 c4_0_12 c4_0_13 z4_0 c4_1_0 c4_1_1 c4_1_2 c4_1_3 c4_1_4 c4_1_5 c4_1_6 c4_1_7 c4_1_8 c4_1_9 c4_1_10 c4_1_11 c4_1_12 c4_1_13 c4_1_14 c4_1_15 c4_1_16 c4_1_17 c4_1_18 z4_1 z4_2 c4_3_0 c4_3_1 c4_3_2 c4_3_3 c4_3_4 c4_3_5 c4_3_6 c4_3_7 c4_3_8 c4_3_9 c4_3_10 c4_3_11 c4_3_12 c4_3_13 c4_3_14 c4_3_15 c4_3_16 c4_3_17 c4_3_18 c4_3_19 z4_3
  refine (HBB.out _ hB5_).mono ?_
  rintro e w5 ⟨rfl, hb5⟩
  have hB5 := below_then hB5_ hb5
  have M5 := M5_.below hb5
  clear M5_ hB5_ hb5
  have c5_0_0 := Mem.cell (v := .string s.nm) M5.1 0 rfl
  have c5_0_1 := Mem.cell (v := .string s.lS) M5.1 1 rfl
  have c5_0_2 := Mem.cell (v := .string s.lI) M5.1 2 rfl
  have c5_0_3 := Mem.cell (v := .int .i64 s.un) M5.1 3 rfl
  have c5_0_4 := Mem.cell (v := .int .i64 s.fr) M5.1 4 rfl
  have c5_0_5 := Mem.cell (v := .int .i64 s.ht) M5.1 5 rfl
  have c5_0_6 := Mem.cell (v := .int .i64 s.tr) M5.1 6 rfl
  have c5_0_7 := Mem.cell (v := .string s.cS) M5.1 7 rfl
  have c5_0_8 := Mem.cell (v := .string s.cI) M5.1 8 rfl
  have c5_0_9 := Mem.cell (v := .string s.kS) M5.1 9 rfl
  have c5_0_10 := Mem.cell (v := .string s.kI) M5.1 10 rfl
  have c5_0_11 := Mem.cell (v := .string s.pa) M5.1 11 rfl
  have c5_0_12 := Mem.cell (v := .int .i64 s.md) M5.1 12 rfl
  have c5_0_13 := Mem.cell (v := .int .i64 s.rm) M5.1 13 rfl
  have z5_0 := Mem.lt M5.1
  have c5_1_0 := Mem.cell (v := .int .i64 3) M5.2.1 0 rfl
  have c5_1_1 := Mem.cell (v := .string s.lS) M5.2.1 1 rfl
  have c5_1_2 := Mem.cell (v := .string s.lI) M5.2.1 2 rfl
  have c5_1_3 := Mem.cell (v := .int .i64 ob0.vk) M5.2.1 3 rfl
  have c5_1_4 := Mem.cell (v := .int .i64 ob0.vx) M5.2.1 4 rfl
  have c5_1_5 := Mem.cell (v := .string ob0.vm) M5.2.1 5 rfl
  have c5_1_6 := Mem.cell (v := .string ob0.vS) M5.2.1 6 rfl
  have c5_1_7 := Mem.cell (v := .string ob0.vI) M5.2.1 7 rfl
  have c5_1_8 := Mem.cell (v := .bool ob0.ex) M5.2.1 8 rfl
  have c5_1_9 := Mem.cell (v := .bool false) M5.2.1 9 rfl
  have c5_1_10 := Mem.cell (v := .bool false) M5.2.1 10 rfl
  have c5_1_11 := Mem.cell (v := .int .i64 0) M5.2.1 11 rfl
  have c5_1_12 := Mem.cell (v := .int .i64 0) M5.2.1 12 rfl
  have c5_1_13 := Mem.cell (v := .string ⟨#[]⟩) M5.2.1 13 rfl
  have c5_1_14 := Mem.cell (v := .string ⟨#[]⟩) M5.2.1 14 rfl
  have c5_1_15 := Mem.cell (v := .string ⟨#[]⟩) M5.2.1 15 rfl
  have c5_1_16 := Mem.cell (v := .slice none 0 0) M5.2.1 16 rfl
  have c5_1_17 := Mem.cell (v := .int .i64 0) M5.2.1 17 rfl
  have c5_1_18 := Mem.cell (v := .int .u8 0) M5.2.1 18 rfl
  have z5_1 := Mem.lt M5.2.1
  have z5_2 := Mem.lt M5.2.2.1
  have c5_3_0 := Mem.cell (v := .string t.id) M5.2.2.2.1 0 rfl
  have c5_3_1 := Mem.cell (v := .string t.pa) M5.2.2.2.1 1 rfl
  have c5_3_2 := Mem.cell (v := .string t.cS) M5.2.2.2.1 2 rfl
  have c5_3_3 := Mem.cell (v := .string t.cI) M5.2.2.2.1 3 rfl
  have c5_3_4 := Mem.cell (v := .string t.kS) M5.2.2.2.1 4 rfl
  have c5_3_5 := Mem.cell (v := .string t.kI) M5.2.2.2.1 5 rfl
  have c5_3_6 := Mem.cell (v := .slice t.fr.a t.fr.n t.fr.c) M5.2.2.2.1 6 rfl
  have c5_3_7 := Mem.cell (v := .slice t.sk.a t.sk.n t.sk.c) M5.2.2.2.1 7 rfl
  have c5_3_8 := Mem.cell (v := .slice t.tr.a t.tr.n t.tr.c) M5.2.2.2.1 8 rfl
  have c5_3_9 := Mem.cell (v := .slice t.sc.a t.sc.n t.sc.c) M5.2.2.2.1 9 rfl
  have c5_3_10 := Mem.cell (v := .int .i64 t.md) M5.2.2.2.1 10 rfl
  have c5_3_11 := Mem.cell (v := .int .i64 t.rm) M5.2.2.2.1 11 rfl
  have c5_3_12 := Mem.cell (v := .int .i64 t.st) M5.2.2.2.1 12 rfl
  have c5_3_13 := Mem.cell (v := .string t.on) M5.2.2.2.1 13 rfl
  have c5_3_14 := Mem.cell (v := .int .i64 t.vk) M5.2.2.2.1 14 rfl
  have c5_3_15 := Mem.cell (v := .int .i64 t.vx) M5.2.2.2.1 15 rfl
  have c5_3_16 := Mem.cell (v := .string t.vm) M5.2.2.2.1 16 rfl
  have c5_3_17 := Mem.cell (v := .string t.vS) M5.2.2.2.1 17 rfl
  have c5_3_18 := Mem.cell (v := .string t.vI) M5.2.2.2.1 18 rfl
  have c5_3_19 := Mem.cell (v := .bool t.ex) M5.2.2.2.1 19 rfl
  have z5_3 := Mem.lt M5.2.2.2.1
  have f5 := fun j => Mem.free M5.2.1 j
  go_upto_region 6 with (fail)
  clear f5
  have hX5_0 : (w5.setCells (w.heap.size + 1 + 1) 3 [.int .i64 bk, .int .i64 bx, .string bm, .string bS, .string bI]).heap[w.heap.size + 1 + 1]? = some (.cells (ob ({ ob0 with kd := 3, lS := s.lS, lI := s.lI, vk := bk, vx := bx, vm := bm, vS := bS, vI := bI })) 50) := by rw [setCells_block [.int .i64 bk, .int .i64 bx, .string bm, .string bS, .string bI] 3 _ _ ((M5).2.1) (by simp)]; rfl
  have hY5_0 := below_setCells (B := w.heap.size) hB5 (b := w.heap.size + 1 + 1) (by have := hB5.size; omega) 3 [.int .i64 bk, .int .i64 bx, .string bm, .string bS, .string bI]
  have hX5_1 : ((w5.setCells (w.heap.size + 1 + 1) 3 [.int .i64 bk, .int .i64 bx, .string bm, .string bS, .string bI]).setCells (w.heap.size + 1 + 1) 8 [.bool bex]).heap[w.heap.size + 1 + 1]? = some (.cells (ob ({ ob0 with kd := 3, lS := s.lS, lI := s.lI, vk := bk, vx := bx, vm := bm, vS := bS, vI := bI, ex := bex })) 50) := by rw [setCells_block [.bool bex] 8 _ _ (hX5_0) (by simp)]; rfl
  have hY5_1 := below_setCells (B := w.heap.size) hY5_0 (b := w.heap.size + 1 + 1) (by have := hB5.size; omega) 8 [.bool bex]
  refine wp_named ?_
  intro w6 hW6
  have hB6 : Below w.heap.size w w6 := by rw [hW6]; exact hY5_1
  have M6 : Mem w6 [(w1.heap.size, .cells (sc (s)) 56), (w.heap.size + 1 + 1, .cells (ob ({ ob0 with kd := 3, lS := s.lS, lI := s.lI, vk := bk, vx := bx, vm := bm, vS := bS, vI := bI, ex := bex })) 50), (w.heap.size + 1, .cells (th (th0)) 39), (w.heap.size, .cells (th (t)) 39)] := by rw [hW6]; exact ⟨(setCells_other [.bool bex] 8 _ _ (by omega)).trans ((setCells_other [.int .i64 bk, .int .i64 bx, .string bm, .string bS, .string bI] 3 _ _ (by omega)).trans ((M5).1)), hX5_1, (setCells_other [.bool bex] 8 _ _ (by omega)).trans ((setCells_other [.int .i64 bk, .int .i64 bx, .string bm, .string bS, .string bI] 3 _ _ (by omega)).trans ((M5).2.2.1)), (setCells_other [.bool bex] 8 _ _ (by omega)).trans ((setCells_other [.int .i64 bk, .int .i64 bx, .string bm, .string bS, .string bI] 3 _ _ (by omega)).trans ((M5).2.2.2.1)), trivial⟩
  clear c5_0_0 c5_0_1 c5_0_2 c5_0_3 c5_0_4 c5_0_5 c5_0_6 c5_0_7 c5_0_8 c5_0_9 c5_0_10 c5_0_11 c5_0_12 c5_0_13 z5_0 c5_1_0 c5_1_1 c5_1_2 c5_1_3 c5_1_4 c5_1_5 c5_1_6 c5_1_7 c5_1_8 c5_1_9 c5_1_10 c5_1_11 c5_1_12 c5_1_13 c5_1_14 c5_1_15 c5_1_16 c5_1_17 c5_1_18 z5_1 z5_2 c5_3_0 c5_3_1 c5_3_2 c5_3_3 c5_3_4 c5_3_5 c5_3_6 c5_3_7 c5_3_8 c5_3_9 c5_3_10 c5_3_11 c5_3_12 c5_3_13 c5_3_14 c5_3_15 c5_3_16 c5_3_17 c5_3_18 c5_3_19 z5_3
  clear hW6 hX5_0 hY5_0 hX5_1 hY5_1
  have c6_0_0 := Mem.cell (v := .string s.nm) M6.1 0 rfl
  have c6_0_1 := Mem.cell (v := .string s.lS) M6.1 1 rfl
  have c6_0_2 := Mem.cell (v := .string s.lI) M6.1 2 rfl
  have c6_0_3 := Mem.cell (v := .int .i64 s.un) M6.1 3 rfl
  have c6_0_4 := Mem.cell (v := .int .i64 s.fr) M6.1 4 rfl
  have c6_0_5 := Mem.cell (v := .int .i64 s.ht) M6.1 5 rfl
  have c6_0_6 := Mem.cell (v := .int .i64 s.tr) M6.1 6 rfl
  have c6_0_7 := Mem.cell (v := .string s.cS) M6.1 7 rfl
  have c6_0_8 := Mem.cell (v := .string s.cI) M6.1 8 rfl
  have c6_0_9 := Mem.cell (v := .string s.kS) M6.1 9 rfl
  have c6_0_10 := Mem.cell (v := .string s.kI) M6.1 10 rfl
  have c6_0_11 := Mem.cell (v := .string s.pa) M6.1 11 rfl
  have c6_0_12 := Mem.cell (v := .int .i64 s.md) M6.1 12 rfl
  have c6_0_13 := Mem.cell (v := .int .i64 s.rm) M6.1 13 rfl
  have z6_0 := Mem.lt M6.1
  have c6_1_0 := Mem.cell (v := .int .i64 3) M6.2.1 0 rfl
  have c6_1_1 := Mem.cell (v := .string s.lS) M6.2.1 1 rfl
  have c6_1_2 := Mem.cell (v := .string s.lI) M6.2.1 2 rfl
  have c6_1_3 := Mem.cell (v := .int .i64 bk) M6.2.1 3 rfl
  have c6_1_4 := Mem.cell (v := .int .i64 bx) M6.2.1 4 rfl
  have c6_1_5 := Mem.cell (v := .string bm) M6.2.1 5 rfl
  have c6_1_6 := Mem.cell (v := .string bS) M6.2.1 6 rfl
  have c6_1_7 := Mem.cell (v := .string bI) M6.2.1 7 rfl
  have c6_1_8 := Mem.cell (v := .bool bex) M6.2.1 8 rfl
  have c6_1_9 := Mem.cell (v := .bool false) M6.2.1 9 rfl
  have c6_1_10 := Mem.cell (v := .bool false) M6.2.1 10 rfl
  have c6_1_11 := Mem.cell (v := .int .i64 0) M6.2.1 11 rfl
  have c6_1_12 := Mem.cell (v := .int .i64 0) M6.2.1 12 rfl
  have c6_1_13 := Mem.cell (v := .string ⟨#[]⟩) M6.2.1 13 rfl
  have c6_1_14 := Mem.cell (v := .string ⟨#[]⟩) M6.2.1 14 rfl
  have c6_1_15 := Mem.cell (v := .string ⟨#[]⟩) M6.2.1 15 rfl
  have c6_1_16 := Mem.cell (v := .slice none 0 0) M6.2.1 16 rfl
  have c6_1_17 := Mem.cell (v := .int .i64 0) M6.2.1 17 rfl
  have c6_1_18 := Mem.cell (v := .int .u8 0) M6.2.1 18 rfl
  have z6_1 := Mem.lt M6.2.1
  have z6_2 := Mem.lt M6.2.2.1
  have c6_3_0 := Mem.cell (v := .string t.id) M6.2.2.2.1 0 rfl
  have c6_3_1 := Mem.cell (v := .string t.pa) M6.2.2.2.1 1 rfl
  have c6_3_2 := Mem.cell (v := .string t.cS) M6.2.2.2.1 2 rfl
  have c6_3_3 := Mem.cell (v := .string t.cI) M6.2.2.2.1 3 rfl
  have c6_3_4 := Mem.cell (v := .string t.kS) M6.2.2.2.1 4 rfl
  have c6_3_5 := Mem.cell (v := .string t.kI) M6.2.2.2.1 5 rfl
  have c6_3_6 := Mem.cell (v := .slice t.fr.a t.fr.n t.fr.c) M6.2.2.2.1 6 rfl
  have c6_3_7 := Mem.cell (v := .slice t.sk.a t.sk.n t.sk.c) M6.2.2.2.1 7 rfl
  have c6_3_8 := Mem.cell (v := .slice t.tr.a t.tr.n t.tr.c) M6.2.2.2.1 8 rfl
  have c6_3_9 := Mem.cell (v := .slice t.sc.a t.sc.n t.sc.c) M6.2.2.2.1 9 rfl
  have c6_3_10 := Mem.cell (v := .int .i64 t.md) M6.2.2.2.1 10 rfl
  have c6_3_11 := Mem.cell (v := .int .i64 t.rm) M6.2.2.2.1 11 rfl
  have c6_3_12 := Mem.cell (v := .int .i64 t.st) M6.2.2.2.1 12 rfl
  have c6_3_13 := Mem.cell (v := .string t.on) M6.2.2.2.1 13 rfl
  have c6_3_14 := Mem.cell (v := .int .i64 t.vk) M6.2.2.2.1 14 rfl
  have c6_3_15 := Mem.cell (v := .int .i64 t.vx) M6.2.2.2.1 15 rfl
  have c6_3_16 := Mem.cell (v := .string t.vm) M6.2.2.2.1 16 rfl
  have c6_3_17 := Mem.cell (v := .string t.vS) M6.2.2.2.1 17 rfl
  have c6_3_18 := Mem.cell (v := .string t.vI) M6.2.2.2.1 18 rfl
  have c6_3_19 := Mem.cell (v := .bool t.ex) M6.2.2.2.1 19 rfl
  have z6_3 := Mem.lt M6.2.2.2.1
  have f6 := fun j => Mem.free M6.2.2.2.1 j
  go_upto_region 7 with (go_at_call 28; (with_reducible refine (clip_any t.sc.a k t.sc.c (by omega) _).mono ?_); rintro e _ ⟨rfl, rfl⟩)
  clear f6
  have hX6_0 : (w6.setCells (w.heap.size) 9 [.slice t.sc.a k k]).heap[w.heap.size]? = some (.cells (th ({ t with sc := ⟨t.sc.a, k, k⟩ })) 39) := by rw [setCells_block [.slice t.sc.a k k] 9 _ _ ((M6).2.2.2.1) (by simp)]; rfl
  have hY6_0 := below_setCells (B := w.heap.size) hB6 (b := w.heap.size) (by have := hB6.size; omega) 9 [.slice t.sc.a k k]
  refine wp_named ?_
  intro w7 hW7
  have hB7 : Below w.heap.size w w7 := by rw [hW7]; exact hY6_0
  have M7 : Mem w7 [(w1.heap.size, .cells (sc (s)) 56), (w.heap.size + 1 + 1, .cells (ob ({ ob0 with kd := 3, lS := s.lS, lI := s.lI, vk := bk, vx := bx, vm := bm, vS := bS, vI := bI, ex := bex })) 50), (w.heap.size + 1, .cells (th (th0)) 39), (w.heap.size, .cells (th ({ t with sc := ⟨t.sc.a, k, k⟩ })) 39)] := by rw [hW7]; exact ⟨(setCells_other [.slice t.sc.a k k] 9 _ _ (by omega)).trans ((M6).1), (setCells_other [.slice t.sc.a k k] 9 _ _ (by omega)).trans ((M6).2.1), (setCells_other [.slice t.sc.a k k] 9 _ _ (by omega)).trans ((M6).2.2.1), hX6_0, trivial⟩
  clear c6_0_0 c6_0_1 c6_0_2 c6_0_3 c6_0_4 c6_0_5 c6_0_6 c6_0_7 c6_0_8 c6_0_9 c6_0_10 c6_0_11 c6_0_12 c6_0_13 z6_0 c6_1_0 c6_1_1 c6_1_2 c6_1_3 c6_1_4 c6_1_5 c6_1_6 c6_1_7 c6_1_8 c6_1_9 c6_1_10 c6_1_11 c6_1_12 c6_1_13 c6_1_14 c6_1_15 c6_1_16 c6_1_17 c6_1_18 z6_1 z6_2 c6_3_0 c6_3_1 c6_3_2 c6_3_3 c6_3_4 c6_3_5 c6_3_6 c6_3_7 c6_3_8 c6_3_9 c6_3_10 c6_3_11 c6_3_12 c6_3_13 c6_3_14 c6_3_15 c6_3_16 c6_3_17 c6_3_18 c6_3_19 z6_3
  clear hW7 hX6_0 hY6_0
  have c7_0_0 := Mem.cell (v := .string s.nm) M7.1 0 rfl
  have c7_0_1 := Mem.cell (v := .string s.lS) M7.1 1 rfl
  have c7_0_2 := Mem.cell (v := .string s.lI) M7.1 2 rfl
  have c7_0_3 := Mem.cell (v := .int .i64 s.un) M7.1 3 rfl
  have c7_0_4 := Mem.cell (v := .int .i64 s.fr) M7.1 4 rfl
  have c7_0_5 := Mem.cell (v := .int .i64 s.ht) M7.1 5 rfl
  have c7_0_6 := Mem.cell (v := .int .i64 s.tr) M7.1 6 rfl
  have c7_0_7 := Mem.cell (v := .string s.cS) M7.1 7 rfl
  have c7_0_8 := Mem.cell (v := .string s.cI) M7.1 8 rfl
  have c7_0_9 := Mem.cell (v := .string s.kS) M7.1 9 rfl
  have c7_0_10 := Mem.cell (v := .string s.kI) M7.1 10 rfl
  have c7_0_11 := Mem.cell (v := .string s.pa) M7.1 11 rfl
  have c7_0_12 := Mem.cell (v := .int .i64 s.md) M7.1 12 rfl
  have c7_0_13 := Mem.cell (v := .int .i64 s.rm) M7.1 13 rfl
  have z7_0 := Mem.lt M7.1
  have c7_1_0 := Mem.cell (v := .int .i64 3) M7.2.1 0 rfl
  have c7_1_1 := Mem.cell (v := .string s.lS) M7.2.1 1 rfl
  have c7_1_2 := Mem.cell (v := .string s.lI) M7.2.1 2 rfl
  have c7_1_3 := Mem.cell (v := .int .i64 bk) M7.2.1 3 rfl
  have c7_1_4 := Mem.cell (v := .int .i64 bx) M7.2.1 4 rfl
  have c7_1_5 := Mem.cell (v := .string bm) M7.2.1 5 rfl
  have c7_1_6 := Mem.cell (v := .string bS) M7.2.1 6 rfl
  have c7_1_7 := Mem.cell (v := .string bI) M7.2.1 7 rfl
  have c7_1_8 := Mem.cell (v := .bool bex) M7.2.1 8 rfl
  have c7_1_9 := Mem.cell (v := .bool false) M7.2.1 9 rfl
  have c7_1_10 := Mem.cell (v := .bool false) M7.2.1 10 rfl
  have c7_1_11 := Mem.cell (v := .int .i64 0) M7.2.1 11 rfl
  have c7_1_12 := Mem.cell (v := .int .i64 0) M7.2.1 12 rfl
  have c7_1_13 := Mem.cell (v := .string ⟨#[]⟩) M7.2.1 13 rfl
  have c7_1_14 := Mem.cell (v := .string ⟨#[]⟩) M7.2.1 14 rfl
  have c7_1_15 := Mem.cell (v := .string ⟨#[]⟩) M7.2.1 15 rfl
  have c7_1_16 := Mem.cell (v := .slice none 0 0) M7.2.1 16 rfl
  have c7_1_17 := Mem.cell (v := .int .i64 0) M7.2.1 17 rfl
  have c7_1_18 := Mem.cell (v := .int .u8 0) M7.2.1 18 rfl
  have z7_1 := Mem.lt M7.2.1
  have z7_2 := Mem.lt M7.2.2.1
  have c7_3_0 := Mem.cell (v := .string t.id) M7.2.2.2.1 0 rfl
  have c7_3_1 := Mem.cell (v := .string t.pa) M7.2.2.2.1 1 rfl
  have c7_3_2 := Mem.cell (v := .string t.cS) M7.2.2.2.1 2 rfl
  have c7_3_3 := Mem.cell (v := .string t.cI) M7.2.2.2.1 3 rfl
  have c7_3_4 := Mem.cell (v := .string t.kS) M7.2.2.2.1 4 rfl
  have c7_3_5 := Mem.cell (v := .string t.kI) M7.2.2.2.1 5 rfl
  have c7_3_6 := Mem.cell (v := .slice t.fr.a t.fr.n t.fr.c) M7.2.2.2.1 6 rfl
  have c7_3_7 := Mem.cell (v := .slice t.sk.a t.sk.n t.sk.c) M7.2.2.2.1 7 rfl
  have c7_3_8 := Mem.cell (v := .slice t.tr.a t.tr.n t.tr.c) M7.2.2.2.1 8 rfl
  have c7_3_9 := Mem.cell (v := .slice t.sc.a k k) M7.2.2.2.1 9 rfl
  have c7_3_10 := Mem.cell (v := .int .i64 t.md) M7.2.2.2.1 10 rfl
  have c7_3_11 := Mem.cell (v := .int .i64 t.rm) M7.2.2.2.1 11 rfl
  have c7_3_12 := Mem.cell (v := .int .i64 t.st) M7.2.2.2.1 12 rfl
  have c7_3_13 := Mem.cell (v := .string t.on) M7.2.2.2.1 13 rfl
  have c7_3_14 := Mem.cell (v := .int .i64 t.vk) M7.2.2.2.1 14 rfl
  have c7_3_15 := Mem.cell (v := .int .i64 t.vx) M7.2.2.2.1 15 rfl
  have c7_3_16 := Mem.cell (v := .string t.vm) M7.2.2.2.1 16 rfl
  have c7_3_17 := Mem.cell (v := .string t.vS) M7.2.2.2.1 17 rfl
  have c7_3_18 := Mem.cell (v := .string t.vI) M7.2.2.2.1 18 rfl
  have c7_3_19 := Mem.cell (v := .bool t.ex) M7.2.2.2.1 19 rfl
  have z7_3 := Mem.lt M7.2.2.2.1
  have f7 := fun j => Mem.free M7.2.2.2.1 j
  have hco := fun (W : World) (o o' : Nat) (v : Value) => cell_other (b := w1.heap.size) (b' := w.heap.size) (by omega) W o o' v
  go_region_held3 (fun w' => w'.cell? ⟨w1.heap.size, 7, none⟩ = some (.string s.cS) ∧ w'.cell? ⟨w1.heap.size, 8, none⟩ = some (.string s.cI) ∧ w'.cell? ⟨w1.heap.size, 9, none⟩ = some (.string s.kS) ∧ w'.cell? ⟨w1.heap.size, 10, none⟩ = some (.string s.kI) ∧ w'.cell? ⟨w1.heap.size, 11, none⟩ = some (.string s.pa) ∧ w'.cell? ⟨w1.heap.size, 12, none⟩ = some (.int .i64 s.md) ∧ w'.cell? ⟨w1.heap.size, 13, none⟩ = some (.int .i64 s.rm))
    (go_keep)
    (fail)
  have hX7_0 : (w7.setCells (w.heap.size) 2 [.string s.cS, .string s.cI, .string s.kS, .string s.kI]).heap[w.heap.size]? = some (.cells (th ({ t with sc := ⟨t.sc.a, k, k⟩, cS := s.cS, cI := s.cI, kS := s.kS, kI := s.kI })) 39) := by rw [setCells_block [.string s.cS, .string s.cI, .string s.kS, .string s.kI] 2 _ _ (M7.2.2.2.1) (by simp)]; rfl
  have hY7_0 := below_setCells (B := w.heap.size) hB7 (b := w.heap.size) (by have := hB7.size; omega) 2 [.string s.cS, .string s.cI, .string s.kS, .string s.kI]
  have hX7_1 : ((w7.setCells (w.heap.size) 2 [.string s.cS, .string s.cI, .string s.kS, .string s.kI]).setCells (w.heap.size) 1 [.string s.pa]).heap[w.heap.size]? = some (.cells (th ({ t with sc := ⟨t.sc.a, k, k⟩, cS := s.cS, cI := s.cI, kS := s.kS, kI := s.kI, pa := s.pa })) 39) := by rw [setCells_block [.string s.pa] 1 _ _ (hX7_0) (by simp)]; rfl
  have hY7_1 := below_setCells (B := w.heap.size) hY7_0 (b := w.heap.size) (by have := hB7.size; omega) 1 [.string s.pa]
  have hX7_2 : (((w7.setCells (w.heap.size) 2 [.string s.cS, .string s.cI, .string s.kS, .string s.kI]).setCells (w.heap.size) 1 [.string s.pa]).setCells (w.heap.size) 10 [.int .i64 s.md]).heap[w.heap.size]? = some (.cells (th ({ t with sc := ⟨t.sc.a, k, k⟩, cS := s.cS, cI := s.cI, kS := s.kS, kI := s.kI, pa := s.pa, md := s.md })) 39) := by rw [setCells_block [.int .i64 s.md] 10 _ _ (hX7_1) (by simp)]; rfl
  have hY7_2 := below_setCells (B := w.heap.size) hY7_1 (b := w.heap.size) (by have := hB7.size; omega) 10 [.int .i64 s.md]
  have hX7_3 : ((((w7.setCells (w.heap.size) 2 [.string s.cS, .string s.cI, .string s.kS, .string s.kI]).setCells (w.heap.size) 1 [.string s.pa]).setCells (w.heap.size) 10 [.int .i64 s.md]).setCells (w.heap.size) 11 [.int .i64 s.rm]).heap[w.heap.size]? = some (.cells (th ({ t with sc := ⟨t.sc.a, k, k⟩, cS := s.cS, cI := s.cI, kS := s.kS, kI := s.kI, pa := s.pa, md := s.md, rm := s.rm })) 39) := by rw [setCells_block [.int .i64 s.rm] 11 _ _ (hX7_2) (by simp)]; rfl
  have hY7_3 := below_setCells (B := w.heap.size) hY7_2 (b := w.heap.size) (by have := hB7.size; omega) 11 [.int .i64 s.rm]
  obtain ⟨w8, hW8⟩ : ∃ x, x = ((((w7.setCells (w.heap.size) 2 [.string s.cS, .string s.cI, .string s.kS, .string s.kI]).setCells (w.heap.size) 1 [.string s.pa]).setCells (w.heap.size) 10 [.int .i64 s.md]).setCells (w.heap.size) 11 [.int .i64 s.rm]).drew := ⟨_, rfl⟩
  refine at_world hW8 ?_
  rename_i hHeld_; clear hHeld_
  have hB8 : Below w.heap.size w w8 := by rw [hW8]; exact below_dr hY7_3
  have M8 : Mem w8 [(w1.heap.size, .cells (sc (s)) 56), (w.heap.size + 1 + 1, .cells (ob ({ ob0 with kd := 3, lS := s.lS, lI := s.lI, vk := bk, vx := bx, vm := bm, vS := bS, vI := bI, ex := bex })) 50), (w.heap.size + 1, .cells (th (th0)) 39), (w.heap.size, .cells (th ({ t with sc := ⟨t.sc.a, k, k⟩, cS := s.cS, cI := s.cI, kS := s.kS, kI := s.kI, pa := s.pa, md := s.md, rm := s.rm })) 39)] := by rw [hW8]; exact Mem.drew ⟨(setCells_other [.int .i64 s.rm] 11 _ _ (by omega)).trans ((setCells_other [.int .i64 s.md] 10 _ _ (by omega)).trans ((setCells_other [.string s.pa] 1 _ _ (by omega)).trans ((setCells_other [.string s.cS, .string s.cI, .string s.kS, .string s.kI] 2 _ _ (by omega)).trans (M7.1)))), (setCells_other [.int .i64 s.rm] 11 _ _ (by omega)).trans ((setCells_other [.int .i64 s.md] 10 _ _ (by omega)).trans ((setCells_other [.string s.pa] 1 _ _ (by omega)).trans ((setCells_other [.string s.cS, .string s.cI, .string s.kS, .string s.kI] 2 _ _ (by omega)).trans (M7.2.1)))), (setCells_other [.int .i64 s.rm] 11 _ _ (by omega)).trans ((setCells_other [.int .i64 s.md] 10 _ _ (by omega)).trans ((setCells_other [.string s.pa] 1 _ _ (by omega)).trans ((setCells_other [.string s.cS, .string s.cI, .string s.kS, .string s.kI] 2 _ _ (by omega)).trans (M7.2.2.1)))), hX7_3, trivial⟩
  clear c7_0_0 c7_0_1 c7_0_2 c7_0_3 c7_0_4 c7_0_5 c7_0_6 c7_0_7 c7_0_8 c7_0_9 c7_0_10 c7_0_11 c7_0_12 c7_0_13 z7_0 c7_1_0 c7_1_1 c7_1_2 c7_1_3 c7_1_4 c7_1_5 c7_1_6 c7_1_7 c7_1_8 c7_1_9 c7_1_10 c7_1_11 c7_1_12 c7_1_13 c7_1_14 c7_1_15 c7_1_16 c7_1_17 c7_1_18 z7_1 z7_2 c7_3_0 c7_3_1 c7_3_2 c7_3_3 c7_3_4 c7_3_5 c7_3_6 c7_3_7 c7_3_8 c7_3_9 c7_3_10 c7_3_11 c7_3_12 c7_3_13 c7_3_14 c7_3_15 c7_3_16 c7_3_17 c7_3_18 c7_3_19 z7_3
  clear hW8 hX7_0 hY7_0 hX7_1 hY7_1 hX7_2 hY7_2 hX7_3 hY7_3
  have c8_0_0 := Mem.cell (v := .string s.nm) M8.1 0 rfl
  have c8_0_1 := Mem.cell (v := .string s.lS) M8.1 1 rfl
  have c8_0_2 := Mem.cell (v := .string s.lI) M8.1 2 rfl
  have c8_0_3 := Mem.cell (v := .int .i64 s.un) M8.1 3 rfl
  have c8_0_4 := Mem.cell (v := .int .i64 s.fr) M8.1 4 rfl
  have c8_0_5 := Mem.cell (v := .int .i64 s.ht) M8.1 5 rfl
  have c8_0_6 := Mem.cell (v := .int .i64 s.tr) M8.1 6 rfl
  have c8_0_7 := Mem.cell (v := .string s.cS) M8.1 7 rfl
  have c8_0_8 := Mem.cell (v := .string s.cI) M8.1 8 rfl
  have c8_0_9 := Mem.cell (v := .string s.kS) M8.1 9 rfl
  have c8_0_10 := Mem.cell (v := .string s.kI) M8.1 10 rfl
  have c8_0_11 := Mem.cell (v := .string s.pa) M8.1 11 rfl
  have c8_0_12 := Mem.cell (v := .int .i64 s.md) M8.1 12 rfl
  have c8_0_13 := Mem.cell (v := .int .i64 s.rm) M8.1 13 rfl
  have z8_0 := Mem.lt M8.1
  have c8_1_0 := Mem.cell (v := .int .i64 3) M8.2.1 0 rfl
  have c8_1_1 := Mem.cell (v := .string s.lS) M8.2.1 1 rfl
  have c8_1_2 := Mem.cell (v := .string s.lI) M8.2.1 2 rfl
  have c8_1_3 := Mem.cell (v := .int .i64 bk) M8.2.1 3 rfl
  have c8_1_4 := Mem.cell (v := .int .i64 bx) M8.2.1 4 rfl
  have c8_1_5 := Mem.cell (v := .string bm) M8.2.1 5 rfl
  have c8_1_6 := Mem.cell (v := .string bS) M8.2.1 6 rfl
  have c8_1_7 := Mem.cell (v := .string bI) M8.2.1 7 rfl
  have c8_1_8 := Mem.cell (v := .bool bex) M8.2.1 8 rfl
  have c8_1_9 := Mem.cell (v := .bool false) M8.2.1 9 rfl
  have c8_1_10 := Mem.cell (v := .bool false) M8.2.1 10 rfl
  have c8_1_11 := Mem.cell (v := .int .i64 0) M8.2.1 11 rfl
  have c8_1_12 := Mem.cell (v := .int .i64 0) M8.2.1 12 rfl
  have c8_1_13 := Mem.cell (v := .string ⟨#[]⟩) M8.2.1 13 rfl
  have c8_1_14 := Mem.cell (v := .string ⟨#[]⟩) M8.2.1 14 rfl
  have c8_1_15 := Mem.cell (v := .string ⟨#[]⟩) M8.2.1 15 rfl
  have c8_1_16 := Mem.cell (v := .slice none 0 0) M8.2.1 16 rfl
  have c8_1_17 := Mem.cell (v := .int .i64 0) M8.2.1 17 rfl
  have c8_1_18 := Mem.cell (v := .int .u8 0) M8.2.1 18 rfl
  have z8_1 := Mem.lt M8.2.1
  have z8_2 := Mem.lt M8.2.2.1
  have c8_3_0 := Mem.cell (v := .string t.id) M8.2.2.2.1 0 rfl
  have c8_3_1 := Mem.cell (v := .string s.pa) M8.2.2.2.1 1 rfl
  have c8_3_2 := Mem.cell (v := .string s.cS) M8.2.2.2.1 2 rfl
  have c8_3_3 := Mem.cell (v := .string s.cI) M8.2.2.2.1 3 rfl
  have c8_3_4 := Mem.cell (v := .string s.kS) M8.2.2.2.1 4 rfl
  have c8_3_5 := Mem.cell (v := .string s.kI) M8.2.2.2.1 5 rfl
  have c8_3_6 := Mem.cell (v := .slice t.fr.a t.fr.n t.fr.c) M8.2.2.2.1 6 rfl
  have c8_3_7 := Mem.cell (v := .slice t.sk.a t.sk.n t.sk.c) M8.2.2.2.1 7 rfl
  have c8_3_8 := Mem.cell (v := .slice t.tr.a t.tr.n t.tr.c) M8.2.2.2.1 8 rfl
  have c8_3_9 := Mem.cell (v := .slice t.sc.a k k) M8.2.2.2.1 9 rfl
  have c8_3_10 := Mem.cell (v := .int .i64 s.md) M8.2.2.2.1 10 rfl
  have c8_3_11 := Mem.cell (v := .int .i64 s.rm) M8.2.2.2.1 11 rfl
  have c8_3_12 := Mem.cell (v := .int .i64 t.st) M8.2.2.2.1 12 rfl
  have c8_3_13 := Mem.cell (v := .string t.on) M8.2.2.2.1 13 rfl
  have c8_3_14 := Mem.cell (v := .int .i64 t.vk) M8.2.2.2.1 14 rfl
  have c8_3_15 := Mem.cell (v := .int .i64 t.vx) M8.2.2.2.1 15 rfl
  have c8_3_16 := Mem.cell (v := .string t.vm) M8.2.2.2.1 16 rfl
  have c8_3_17 := Mem.cell (v := .string t.vS) M8.2.2.2.1 17 rfl
  have c8_3_18 := Mem.cell (v := .string t.vI) M8.2.2.2.1 18 rfl
  have c8_3_19 := Mem.cell (v := .bool t.ex) M8.2.2.2.1 19 rfl
  have z8_3 := Mem.lt M8.2.2.2.1
  clear f7 hco
  go_wp2_with fail
  refine Calls.named ?_
  intro W9 hW9
  have hB9_ : Below w.heap.size w W9 := by rw [hW9]; exact hB8
  have M9_ := M8
  rw [← hW9] at M9_
  clear hW9
  have ZZ9_0 := Lib.hid (Mem.lt M9_.1)
  have ZZ9_1 := Lib.hid (Mem.lt M9_.2.1)
  have ZZ9_2 := Lib.hid (Mem.lt M9_.2.2.1)
  have ZZ9_3 := Lib.hid (Mem.lt M9_.2.2.2.1)
  clear c8_0_0 c8_0_1 c8_0_2 c8_0_3 c8_0_4 c8_0_5 c8_0_6 c8_0_7 c8_0_8 c8_0_9 c8_0_10 c8_0_11 c8_0_12 c8_0_13 z8_0 c8_1_0 c8_1_1 c8_1_2 c8_1_3 c8_1_4 c8_1_5 c8_1_6 c8_1_7 c8_1_8 c8_1_9 c8_1_10 c8_1_11 c8_1_12 c8_1_13 c8_1_14 c8_1_15 c8_1_16 c8_1_17 c8_1_18 z8_1 z8_2 c8_3_0 c8_3_1 c8_3_2 c8_3_3 c8_3_4 c8_3_5 c8_3_6 c8_3_7 c8_3_8 c8_3_9 c8_3_10 c8_3_11 c8_3_12 c8_3_13 c8_3_14 c8_3_15 c8_3_16 c8_3_17 c8_3_18 c8_3_19 z8_3
  refine (cutC_any t.fr.a t.sk.a t.tr.a t.fr.n t.fr.c t.sk.n t.sk.c t.tr.n t.tr.c s.fr s.ht s.tr hfc hfc2 hsc hsc2 htc htc2 _).mono ?_
  rw [← HQF.out, ← HQH.out, ← HQR.out]
  rintro e w9 ⟨rfl, hb9⟩
  have hB9 := below_then hB9_ hb9
  have M9 := M9_.below hb9
  clear M9_ hB9_ hb9
  have c9_0_0 := Mem.cell (v := .string s.nm) M9.1 0 rfl
  have c9_0_1 := Mem.cell (v := .string s.lS) M9.1 1 rfl
  have c9_0_2 := Mem.cell (v := .string s.lI) M9.1 2 rfl
  have c9_0_3 := Mem.cell (v := .int .i64 s.un) M9.1 3 rfl
  have c9_0_4 := Mem.cell (v := .int .i64 s.fr) M9.1 4 rfl
  have c9_0_5 := Mem.cell (v := .int .i64 s.ht) M9.1 5 rfl
  have c9_0_6 := Mem.cell (v := .int .i64 s.tr) M9.1 6 rfl
  have c9_0_7 := Mem.cell (v := .string s.cS) M9.1 7 rfl
  have c9_0_8 := Mem.cell (v := .string s.cI) M9.1 8 rfl
  have c9_0_9 := Mem.cell (v := .string s.kS) M9.1 9 rfl
  have c9_0_10 := Mem.cell (v := .string s.kI) M9.1 10 rfl
  have c9_0_11 := Mem.cell (v := .string s.pa) M9.1 11 rfl
  have c9_0_12 := Mem.cell (v := .int .i64 s.md) M9.1 12 rfl
  have c9_0_13 := Mem.cell (v := .int .i64 s.rm) M9.1 13 rfl
  have z9_0 := Mem.lt M9.1
  have c9_1_0 := Mem.cell (v := .int .i64 3) M9.2.1 0 rfl
  have c9_1_1 := Mem.cell (v := .string s.lS) M9.2.1 1 rfl
  have c9_1_2 := Mem.cell (v := .string s.lI) M9.2.1 2 rfl
  have c9_1_3 := Mem.cell (v := .int .i64 bk) M9.2.1 3 rfl
  have c9_1_4 := Mem.cell (v := .int .i64 bx) M9.2.1 4 rfl
  have c9_1_5 := Mem.cell (v := .string bm) M9.2.1 5 rfl
  have c9_1_6 := Mem.cell (v := .string bS) M9.2.1 6 rfl
  have c9_1_7 := Mem.cell (v := .string bI) M9.2.1 7 rfl
  have c9_1_8 := Mem.cell (v := .bool bex) M9.2.1 8 rfl
  have c9_1_9 := Mem.cell (v := .bool false) M9.2.1 9 rfl
  have c9_1_10 := Mem.cell (v := .bool false) M9.2.1 10 rfl
  have c9_1_11 := Mem.cell (v := .int .i64 0) M9.2.1 11 rfl
  have c9_1_12 := Mem.cell (v := .int .i64 0) M9.2.1 12 rfl
  have c9_1_13 := Mem.cell (v := .string ⟨#[]⟩) M9.2.1 13 rfl
  have c9_1_14 := Mem.cell (v := .string ⟨#[]⟩) M9.2.1 14 rfl
  have c9_1_15 := Mem.cell (v := .string ⟨#[]⟩) M9.2.1 15 rfl
  have c9_1_16 := Mem.cell (v := .slice none 0 0) M9.2.1 16 rfl
  have c9_1_17 := Mem.cell (v := .int .i64 0) M9.2.1 17 rfl
  have c9_1_18 := Mem.cell (v := .int .u8 0) M9.2.1 18 rfl
  have z9_1 := Mem.lt M9.2.1
  have z9_2 := Mem.lt M9.2.2.1
  have c9_3_0 := Mem.cell (v := .string t.id) M9.2.2.2.1 0 rfl
  have c9_3_1 := Mem.cell (v := .string s.pa) M9.2.2.2.1 1 rfl
  have c9_3_2 := Mem.cell (v := .string s.cS) M9.2.2.2.1 2 rfl
  have c9_3_3 := Mem.cell (v := .string s.cI) M9.2.2.2.1 3 rfl
  have c9_3_4 := Mem.cell (v := .string s.kS) M9.2.2.2.1 4 rfl
  have c9_3_5 := Mem.cell (v := .string s.kI) M9.2.2.2.1 5 rfl
  have c9_3_6 := Mem.cell (v := .slice t.fr.a t.fr.n t.fr.c) M9.2.2.2.1 6 rfl
  have c9_3_7 := Mem.cell (v := .slice t.sk.a t.sk.n t.sk.c) M9.2.2.2.1 7 rfl
  have c9_3_8 := Mem.cell (v := .slice t.tr.a t.tr.n t.tr.c) M9.2.2.2.1 8 rfl
  have c9_3_9 := Mem.cell (v := .slice t.sc.a k k) M9.2.2.2.1 9 rfl
  have c9_3_10 := Mem.cell (v := .int .i64 s.md) M9.2.2.2.1 10 rfl
  have c9_3_11 := Mem.cell (v := .int .i64 s.rm) M9.2.2.2.1 11 rfl
  have c9_3_12 := Mem.cell (v := .int .i64 t.st) M9.2.2.2.1 12 rfl
  have c9_3_13 := Mem.cell (v := .string t.on) M9.2.2.2.1 13 rfl
  have c9_3_14 := Mem.cell (v := .int .i64 t.vk) M9.2.2.2.1 14 rfl
  have c9_3_15 := Mem.cell (v := .int .i64 t.vx) M9.2.2.2.1 15 rfl
  have c9_3_16 := Mem.cell (v := .string t.vm) M9.2.2.2.1 16 rfl
  have c9_3_17 := Mem.cell (v := .string t.vS) M9.2.2.2.1 17 rfl
  have c9_3_18 := Mem.cell (v := .string t.vI) M9.2.2.2.1 18 rfl
  have c9_3_19 := Mem.cell (v := .bool t.ex) M9.2.2.2.1 19 rfl
  have z9_3 := Mem.lt M9.2.2.2.1
  have f9 := fun j => Mem.free M9.2.2.2.1 j
  go_upto_region 9 with (fail)
  clear f9
  have hX9_0 : (w9.setCells (w.heap.size) 6 [.slice t.fr.a f f, .slice t.sk.a h h, .slice t.tr.a r r]).heap[w.heap.size]? = some (.cells (th ({ t with sc := ⟨t.sc.a, k, k⟩, cS := s.cS, cI := s.cI, kS := s.kS, kI := s.kI, pa := s.pa, md := s.md, rm := s.rm, fr := ⟨t.fr.a, f, f⟩, sk := ⟨t.sk.a, h, h⟩, tr := ⟨t.tr.a, r, r⟩ })) 39) := by rw [setCells_block [.slice t.fr.a f f, .slice t.sk.a h h, .slice t.tr.a r r] 6 _ _ ((M9).2.2.2.1) (by simp)]; rfl
  have hY9_0 := below_setCells (B := w.heap.size) hB9 (b := w.heap.size) (by have := hB9.size; omega) 6 [.slice t.fr.a f f, .slice t.sk.a h h, .slice t.tr.a r r]
  refine wp_named ?_
  intro w10 hW10
  have hB10 : Below w.heap.size w w10 := by rw [hW10]; exact hY9_0
  have M10 : Mem w10 [(w1.heap.size, .cells (sc (s)) 56), (w.heap.size + 1 + 1, .cells (ob ({ ob0 with kd := 3, lS := s.lS, lI := s.lI, vk := bk, vx := bx, vm := bm, vS := bS, vI := bI, ex := bex })) 50), (w.heap.size + 1, .cells (th (th0)) 39), (w.heap.size, .cells (th ({ t with sc := ⟨t.sc.a, k, k⟩, cS := s.cS, cI := s.cI, kS := s.kS, kI := s.kI, pa := s.pa, md := s.md, rm := s.rm, fr := ⟨t.fr.a, f, f⟩, sk := ⟨t.sk.a, h, h⟩, tr := ⟨t.tr.a, r, r⟩ })) 39)] := by rw [hW10]; exact ⟨(setCells_other [.slice t.fr.a f f, .slice t.sk.a h h, .slice t.tr.a r r] 6 _ _ (by omega)).trans ((M9).1), (setCells_other [.slice t.fr.a f f, .slice t.sk.a h h, .slice t.tr.a r r] 6 _ _ (by omega)).trans ((M9).2.1), (setCells_other [.slice t.fr.a f f, .slice t.sk.a h h, .slice t.tr.a r r] 6 _ _ (by omega)).trans ((M9).2.2.1), hX9_0, trivial⟩
  clear c9_0_0 c9_0_1 c9_0_2 c9_0_3 c9_0_4 c9_0_5 c9_0_6 c9_0_7 c9_0_8 c9_0_9 c9_0_10 c9_0_11 c9_0_12 c9_0_13 z9_0 c9_1_0 c9_1_1 c9_1_2 c9_1_3 c9_1_4 c9_1_5 c9_1_6 c9_1_7 c9_1_8 c9_1_9 c9_1_10 c9_1_11 c9_1_12 c9_1_13 c9_1_14 c9_1_15 c9_1_16 c9_1_17 c9_1_18 z9_1 z9_2 c9_3_0 c9_3_1 c9_3_2 c9_3_3 c9_3_4 c9_3_5 c9_3_6 c9_3_7 c9_3_8 c9_3_9 c9_3_10 c9_3_11 c9_3_12 c9_3_13 c9_3_14 c9_3_15 c9_3_16 c9_3_17 c9_3_18 c9_3_19 z9_3
  clear hW10 hX9_0 hY9_0
  have c10_0_0 := Mem.cell (v := .string s.nm) M10.1 0 rfl
  have c10_0_1 := Mem.cell (v := .string s.lS) M10.1 1 rfl
  have c10_0_2 := Mem.cell (v := .string s.lI) M10.1 2 rfl
  have c10_0_3 := Mem.cell (v := .int .i64 s.un) M10.1 3 rfl
  have c10_0_4 := Mem.cell (v := .int .i64 s.fr) M10.1 4 rfl
  have c10_0_5 := Mem.cell (v := .int .i64 s.ht) M10.1 5 rfl
  have c10_0_6 := Mem.cell (v := .int .i64 s.tr) M10.1 6 rfl
  have c10_0_7 := Mem.cell (v := .string s.cS) M10.1 7 rfl
  have c10_0_8 := Mem.cell (v := .string s.cI) M10.1 8 rfl
  have c10_0_9 := Mem.cell (v := .string s.kS) M10.1 9 rfl
  have c10_0_10 := Mem.cell (v := .string s.kI) M10.1 10 rfl
  have c10_0_11 := Mem.cell (v := .string s.pa) M10.1 11 rfl
  have c10_0_12 := Mem.cell (v := .int .i64 s.md) M10.1 12 rfl
  have c10_0_13 := Mem.cell (v := .int .i64 s.rm) M10.1 13 rfl
  have z10_0 := Mem.lt M10.1
  have c10_1_0 := Mem.cell (v := .int .i64 3) M10.2.1 0 rfl
  have c10_1_1 := Mem.cell (v := .string s.lS) M10.2.1 1 rfl
  have c10_1_2 := Mem.cell (v := .string s.lI) M10.2.1 2 rfl
  have c10_1_3 := Mem.cell (v := .int .i64 bk) M10.2.1 3 rfl
  have c10_1_4 := Mem.cell (v := .int .i64 bx) M10.2.1 4 rfl
  have c10_1_5 := Mem.cell (v := .string bm) M10.2.1 5 rfl
  have c10_1_6 := Mem.cell (v := .string bS) M10.2.1 6 rfl
  have c10_1_7 := Mem.cell (v := .string bI) M10.2.1 7 rfl
  have c10_1_8 := Mem.cell (v := .bool bex) M10.2.1 8 rfl
  have c10_1_9 := Mem.cell (v := .bool false) M10.2.1 9 rfl
  have c10_1_10 := Mem.cell (v := .bool false) M10.2.1 10 rfl
  have c10_1_11 := Mem.cell (v := .int .i64 0) M10.2.1 11 rfl
  have c10_1_12 := Mem.cell (v := .int .i64 0) M10.2.1 12 rfl
  have c10_1_13 := Mem.cell (v := .string ⟨#[]⟩) M10.2.1 13 rfl
  have c10_1_14 := Mem.cell (v := .string ⟨#[]⟩) M10.2.1 14 rfl
  have c10_1_15 := Mem.cell (v := .string ⟨#[]⟩) M10.2.1 15 rfl
  have c10_1_16 := Mem.cell (v := .slice none 0 0) M10.2.1 16 rfl
  have c10_1_17 := Mem.cell (v := .int .i64 0) M10.2.1 17 rfl
  have c10_1_18 := Mem.cell (v := .int .u8 0) M10.2.1 18 rfl
  have z10_1 := Mem.lt M10.2.1
  have z10_2 := Mem.lt M10.2.2.1
  have c10_3_0 := Mem.cell (v := .string t.id) M10.2.2.2.1 0 rfl
  have c10_3_1 := Mem.cell (v := .string s.pa) M10.2.2.2.1 1 rfl
  have c10_3_2 := Mem.cell (v := .string s.cS) M10.2.2.2.1 2 rfl
  have c10_3_3 := Mem.cell (v := .string s.cI) M10.2.2.2.1 3 rfl
  have c10_3_4 := Mem.cell (v := .string s.kS) M10.2.2.2.1 4 rfl
  have c10_3_5 := Mem.cell (v := .string s.kI) M10.2.2.2.1 5 rfl
  have c10_3_6 := Mem.cell (v := .slice t.fr.a f f) M10.2.2.2.1 6 rfl
  have c10_3_7 := Mem.cell (v := .slice t.sk.a h h) M10.2.2.2.1 7 rfl
  have c10_3_8 := Mem.cell (v := .slice t.tr.a r r) M10.2.2.2.1 8 rfl
  have c10_3_9 := Mem.cell (v := .slice t.sc.a k k) M10.2.2.2.1 9 rfl
  have c10_3_10 := Mem.cell (v := .int .i64 s.md) M10.2.2.2.1 10 rfl
  have c10_3_11 := Mem.cell (v := .int .i64 s.rm) M10.2.2.2.1 11 rfl
  have c10_3_12 := Mem.cell (v := .int .i64 t.st) M10.2.2.2.1 12 rfl
  have c10_3_13 := Mem.cell (v := .string t.on) M10.2.2.2.1 13 rfl
  have c10_3_14 := Mem.cell (v := .int .i64 t.vk) M10.2.2.2.1 14 rfl
  have c10_3_15 := Mem.cell (v := .int .i64 t.vx) M10.2.2.2.1 15 rfl
  have c10_3_16 := Mem.cell (v := .string t.vm) M10.2.2.2.1 16 rfl
  have c10_3_17 := Mem.cell (v := .string t.vS) M10.2.2.2.1 17 rfl
  have c10_3_18 := Mem.cell (v := .string t.vI) M10.2.2.2.1 18 rfl
  have c10_3_19 := Mem.cell (v := .bool t.ex) M10.2.2.2.1 19 rfl
  have z10_3 := Mem.lt M10.2.2.2.1
  have HXT : (xs.take (h * 5)).length = h * 5 := by rw [List.length_take, hxl]; omega
  go_wp2_with fail
  refine Calls.named ?_
  intro W11 hW11
  have hB11_ : Below w.heap.size w W11 := by rw [hW11]; exact hB10
  have M11_ := M10
  rw [← hW11] at M11_
  clear hW11
  have ZZ11_0 := Lib.hid (Mem.lt M11_.1)
  have ZZ11_1 := Lib.hid (Mem.lt M11_.2.1)
  have ZZ11_2 := Lib.hid (Mem.lt M11_.2.2.1)
  have ZZ11_3 := Lib.hid (Mem.lt M11_.2.2.2.1)
  clear c10_0_0 c10_0_1 c10_0_2 c10_0_3 c10_0_4 c10_0_5 c10_0_6 c10_0_7 c10_0_8 c10_0_9 c10_0_10 c10_0_11 c10_0_12 c10_0_13 z10_0 c10_1_0 c10_1_1 c10_1_2 c10_1_3 c10_1_4 c10_1_5 c10_1_6 c10_1_7 c10_1_8 c10_1_9 c10_1_10 c10_1_11 c10_1_12 c10_1_13 c10_1_14 c10_1_15 c10_1_16 c10_1_17 c10_1_18 z10_1 z10_2 c10_3_0 c10_3_1 c10_3_2 c10_3_3 c10_3_4 c10_3_5 c10_3_6 c10_3_7 c10_3_8 c10_3_9 c10_3_10 c10_3_11 c10_3_12 c10_3_13 c10_3_14 c10_3_15 c10_3_16 c10_3_17 c10_3_18 c10_3_19 z10_3
  refine (push_any t.fr.a t.sk.a t.tr.a f f h h r r (xs.take (h * 5)) HXT (Nat.le_refl h) (by omega) (by omega) (fun e => by have := hs0 e; omega) 3 0 s.nm s.lS s.lI _ (rows_take (HRR.out _ hB11_) _)).mono ?_
  rintro e w11 ⟨ao, cap, rfl, hown, hb11⟩
  have hB11 := below_then hB11_ hb11
  have M11 := M11_.below hb11
  clear M11_ hB11_ hb11
  have c11_0_0 := Mem.cell (v := .string s.nm) M11.1 0 rfl
  have c11_0_1 := Mem.cell (v := .string s.lS) M11.1 1 rfl
  have c11_0_2 := Mem.cell (v := .string s.lI) M11.1 2 rfl
  have c11_0_3 := Mem.cell (v := .int .i64 s.un) M11.1 3 rfl
  have c11_0_4 := Mem.cell (v := .int .i64 s.fr) M11.1 4 rfl
  have c11_0_5 := Mem.cell (v := .int .i64 s.ht) M11.1 5 rfl
  have c11_0_6 := Mem.cell (v := .int .i64 s.tr) M11.1 6 rfl
  have c11_0_7 := Mem.cell (v := .string s.cS) M11.1 7 rfl
  have c11_0_8 := Mem.cell (v := .string s.cI) M11.1 8 rfl
  have c11_0_9 := Mem.cell (v := .string s.kS) M11.1 9 rfl
  have c11_0_10 := Mem.cell (v := .string s.kI) M11.1 10 rfl
  have c11_0_11 := Mem.cell (v := .string s.pa) M11.1 11 rfl
  have c11_0_12 := Mem.cell (v := .int .i64 s.md) M11.1 12 rfl
  have c11_0_13 := Mem.cell (v := .int .i64 s.rm) M11.1 13 rfl
  have z11_0 := Mem.lt M11.1
  have c11_1_0 := Mem.cell (v := .int .i64 3) M11.2.1 0 rfl
  have c11_1_1 := Mem.cell (v := .string s.lS) M11.2.1 1 rfl
  have c11_1_2 := Mem.cell (v := .string s.lI) M11.2.1 2 rfl
  have c11_1_3 := Mem.cell (v := .int .i64 bk) M11.2.1 3 rfl
  have c11_1_4 := Mem.cell (v := .int .i64 bx) M11.2.1 4 rfl
  have c11_1_5 := Mem.cell (v := .string bm) M11.2.1 5 rfl
  have c11_1_6 := Mem.cell (v := .string bS) M11.2.1 6 rfl
  have c11_1_7 := Mem.cell (v := .string bI) M11.2.1 7 rfl
  have c11_1_8 := Mem.cell (v := .bool bex) M11.2.1 8 rfl
  have c11_1_9 := Mem.cell (v := .bool false) M11.2.1 9 rfl
  have c11_1_10 := Mem.cell (v := .bool false) M11.2.1 10 rfl
  have c11_1_11 := Mem.cell (v := .int .i64 0) M11.2.1 11 rfl
  have c11_1_12 := Mem.cell (v := .int .i64 0) M11.2.1 12 rfl
  have c11_1_13 := Mem.cell (v := .string ⟨#[]⟩) M11.2.1 13 rfl
  have c11_1_14 := Mem.cell (v := .string ⟨#[]⟩) M11.2.1 14 rfl
  have c11_1_15 := Mem.cell (v := .string ⟨#[]⟩) M11.2.1 15 rfl
  have c11_1_16 := Mem.cell (v := .slice none 0 0) M11.2.1 16 rfl
  have c11_1_17 := Mem.cell (v := .int .i64 0) M11.2.1 17 rfl
  have c11_1_18 := Mem.cell (v := .int .u8 0) M11.2.1 18 rfl
  have z11_1 := Mem.lt M11.2.1
  have z11_2 := Mem.lt M11.2.2.1
  have c11_3_0 := Mem.cell (v := .string t.id) M11.2.2.2.1 0 rfl
  have c11_3_1 := Mem.cell (v := .string s.pa) M11.2.2.2.1 1 rfl
  have c11_3_2 := Mem.cell (v := .string s.cS) M11.2.2.2.1 2 rfl
  have c11_3_3 := Mem.cell (v := .string s.cI) M11.2.2.2.1 3 rfl
  have c11_3_4 := Mem.cell (v := .string s.kS) M11.2.2.2.1 4 rfl
  have c11_3_5 := Mem.cell (v := .string s.kI) M11.2.2.2.1 5 rfl
  have c11_3_6 := Mem.cell (v := .slice t.fr.a f f) M11.2.2.2.1 6 rfl
  have c11_3_7 := Mem.cell (v := .slice t.sk.a h h) M11.2.2.2.1 7 rfl
  have c11_3_8 := Mem.cell (v := .slice t.tr.a r r) M11.2.2.2.1 8 rfl
  have c11_3_9 := Mem.cell (v := .slice t.sc.a k k) M11.2.2.2.1 9 rfl
  have c11_3_10 := Mem.cell (v := .int .i64 s.md) M11.2.2.2.1 10 rfl
  have c11_3_11 := Mem.cell (v := .int .i64 s.rm) M11.2.2.2.1 11 rfl
  have c11_3_12 := Mem.cell (v := .int .i64 t.st) M11.2.2.2.1 12 rfl
  have c11_3_13 := Mem.cell (v := .string t.on) M11.2.2.2.1 13 rfl
  have c11_3_14 := Mem.cell (v := .int .i64 t.vk) M11.2.2.2.1 14 rfl
  have c11_3_15 := Mem.cell (v := .int .i64 t.vx) M11.2.2.2.1 15 rfl
  have c11_3_16 := Mem.cell (v := .string t.vm) M11.2.2.2.1 16 rfl
  have c11_3_17 := Mem.cell (v := .string t.vS) M11.2.2.2.1 17 rfl
  have c11_3_18 := Mem.cell (v := .string t.vI) M11.2.2.2.1 18 rfl
  have c11_3_19 := Mem.cell (v := .bool t.ex) M11.2.2.2.1 19 rfl
  have z11_3 := Mem.lt M11.2.2.2.1
  have f11 := fun j => Mem.free M11.2.2.2.1 j
  have HZ := ZZ11_3
  go_upto_region 10 with (fail)
  clear f11
  have hX11_0 : (w11.setCells (w.heap.size) 6 [.slice t.fr.a f f, .slice ao (h + 1) cap, .slice t.tr.a r r]).heap[w.heap.size]? = some (.cells (th ({ t with sc := ⟨t.sc.a, k, k⟩, cS := s.cS, cI := s.cI, kS := s.kS, kI := s.kI, pa := s.pa, md := s.md, rm := s.rm, fr := ⟨t.fr.a, f, f⟩, sk := ⟨ao, (h + 1), cap⟩, tr := ⟨t.tr.a, r, r⟩ })) 39) := by rw [setCells_block [.slice t.fr.a f f, .slice ao (h + 1) cap, .slice t.tr.a r r] 6 _ _ ((M11).2.2.2.1) (by simp)]; rfl
  have hY11_0 := below_setCells (B := w.heap.size) hB11 (b := w.heap.size) (by have := hB11.size; omega) 6 [.slice t.fr.a f f, .slice ao (h + 1) cap, .slice t.tr.a r r]
  refine wp_named ?_
  intro w12 hW12
  have hB12 : Below w.heap.size w w12 := by rw [hW12]; exact hY11_0
  have M12 : Mem w12 [(w1.heap.size, .cells (sc (s)) 56), (w.heap.size + 1 + 1, .cells (ob ({ ob0 with kd := 3, lS := s.lS, lI := s.lI, vk := bk, vx := bx, vm := bm, vS := bS, vI := bI, ex := bex })) 50), (w.heap.size + 1, .cells (th (th0)) 39), (w.heap.size, .cells (th ({ t with sc := ⟨t.sc.a, k, k⟩, cS := s.cS, cI := s.cI, kS := s.kS, kI := s.kI, pa := s.pa, md := s.md, rm := s.rm, fr := ⟨t.fr.a, f, f⟩, sk := ⟨ao, (h + 1), cap⟩, tr := ⟨t.tr.a, r, r⟩ })) 39)] := by rw [hW12]; exact ⟨(setCells_other [.slice t.fr.a f f, .slice ao (h + 1) cap, .slice t.tr.a r r] 6 _ _ (by omega)).trans ((M11).1), (setCells_other [.slice t.fr.a f f, .slice ao (h + 1) cap, .slice t.tr.a r r] 6 _ _ (by omega)).trans ((M11).2.1), (setCells_other [.slice t.fr.a f f, .slice ao (h + 1) cap, .slice t.tr.a r r] 6 _ _ (by omega)).trans ((M11).2.2.1), hX11_0, trivial⟩
  have hown := ownsRow_set hown (b := w.heap.size) HZ.out 6 [.slice t.fr.a f f, .slice ao (h + 1) cap, .slice t.tr.a r r]
  rw [show (w11.setCells (w.heap.size) 6 [.slice t.fr.a f f, .slice ao (h + 1) cap, .slice t.tr.a r r]) = w12 from hW12.symm] at hown
  clear c11_0_0 c11_0_1 c11_0_2 c11_0_3 c11_0_4 c11_0_5 c11_0_6 c11_0_7 c11_0_8 c11_0_9 c11_0_10 c11_0_11 c11_0_12 c11_0_13 z11_0 c11_1_0 c11_1_1 c11_1_2 c11_1_3 c11_1_4 c11_1_5 c11_1_6 c11_1_7 c11_1_8 c11_1_9 c11_1_10 c11_1_11 c11_1_12 c11_1_13 c11_1_14 c11_1_15 c11_1_16 c11_1_17 c11_1_18 z11_1 z11_2 c11_3_0 c11_3_1 c11_3_2 c11_3_3 c11_3_4 c11_3_5 c11_3_6 c11_3_7 c11_3_8 c11_3_9 c11_3_10 c11_3_11 c11_3_12 c11_3_13 c11_3_14 c11_3_15 c11_3_16 c11_3_17 c11_3_18 c11_3_19 z11_3
  clear hW12 hX11_0 hY11_0
  have c12_0_0 := Mem.cell (v := .string s.nm) M12.1 0 rfl
  have c12_0_1 := Mem.cell (v := .string s.lS) M12.1 1 rfl
  have c12_0_2 := Mem.cell (v := .string s.lI) M12.1 2 rfl
  have c12_0_3 := Mem.cell (v := .int .i64 s.un) M12.1 3 rfl
  have c12_0_4 := Mem.cell (v := .int .i64 s.fr) M12.1 4 rfl
  have c12_0_5 := Mem.cell (v := .int .i64 s.ht) M12.1 5 rfl
  have c12_0_6 := Mem.cell (v := .int .i64 s.tr) M12.1 6 rfl
  have c12_0_7 := Mem.cell (v := .string s.cS) M12.1 7 rfl
  have c12_0_8 := Mem.cell (v := .string s.cI) M12.1 8 rfl
  have c12_0_9 := Mem.cell (v := .string s.kS) M12.1 9 rfl
  have c12_0_10 := Mem.cell (v := .string s.kI) M12.1 10 rfl
  have c12_0_11 := Mem.cell (v := .string s.pa) M12.1 11 rfl
  have c12_0_12 := Mem.cell (v := .int .i64 s.md) M12.1 12 rfl
  have c12_0_13 := Mem.cell (v := .int .i64 s.rm) M12.1 13 rfl
  have z12_0 := Mem.lt M12.1
  have c12_1_0 := Mem.cell (v := .int .i64 3) M12.2.1 0 rfl
  have c12_1_1 := Mem.cell (v := .string s.lS) M12.2.1 1 rfl
  have c12_1_2 := Mem.cell (v := .string s.lI) M12.2.1 2 rfl
  have c12_1_3 := Mem.cell (v := .int .i64 bk) M12.2.1 3 rfl
  have c12_1_4 := Mem.cell (v := .int .i64 bx) M12.2.1 4 rfl
  have c12_1_5 := Mem.cell (v := .string bm) M12.2.1 5 rfl
  have c12_1_6 := Mem.cell (v := .string bS) M12.2.1 6 rfl
  have c12_1_7 := Mem.cell (v := .string bI) M12.2.1 7 rfl
  have c12_1_8 := Mem.cell (v := .bool bex) M12.2.1 8 rfl
  have c12_1_9 := Mem.cell (v := .bool false) M12.2.1 9 rfl
  have c12_1_10 := Mem.cell (v := .bool false) M12.2.1 10 rfl
  have c12_1_11 := Mem.cell (v := .int .i64 0) M12.2.1 11 rfl
  have c12_1_12 := Mem.cell (v := .int .i64 0) M12.2.1 12 rfl
  have c12_1_13 := Mem.cell (v := .string ⟨#[]⟩) M12.2.1 13 rfl
  have c12_1_14 := Mem.cell (v := .string ⟨#[]⟩) M12.2.1 14 rfl
  have c12_1_15 := Mem.cell (v := .string ⟨#[]⟩) M12.2.1 15 rfl
  have c12_1_16 := Mem.cell (v := .slice none 0 0) M12.2.1 16 rfl
  have c12_1_17 := Mem.cell (v := .int .i64 0) M12.2.1 17 rfl
  have c12_1_18 := Mem.cell (v := .int .u8 0) M12.2.1 18 rfl
  have z12_1 := Mem.lt M12.2.1
  have z12_2 := Mem.lt M12.2.2.1
  have c12_3_0 := Mem.cell (v := .string t.id) M12.2.2.2.1 0 rfl
  have c12_3_1 := Mem.cell (v := .string s.pa) M12.2.2.2.1 1 rfl
  have c12_3_2 := Mem.cell (v := .string s.cS) M12.2.2.2.1 2 rfl
  have c12_3_3 := Mem.cell (v := .string s.cI) M12.2.2.2.1 3 rfl
  have c12_3_4 := Mem.cell (v := .string s.kS) M12.2.2.2.1 4 rfl
  have c12_3_5 := Mem.cell (v := .string s.kI) M12.2.2.2.1 5 rfl
  have c12_3_6 := Mem.cell (v := .slice t.fr.a f f) M12.2.2.2.1 6 rfl
  have c12_3_7 := Mem.cell (v := .slice ao (h + 1) cap) M12.2.2.2.1 7 rfl
  have c12_3_8 := Mem.cell (v := .slice t.tr.a r r) M12.2.2.2.1 8 rfl
  have c12_3_9 := Mem.cell (v := .slice t.sc.a k k) M12.2.2.2.1 9 rfl
  have c12_3_10 := Mem.cell (v := .int .i64 s.md) M12.2.2.2.1 10 rfl
  have c12_3_11 := Mem.cell (v := .int .i64 s.rm) M12.2.2.2.1 11 rfl
  have c12_3_12 := Mem.cell (v := .int .i64 t.st) M12.2.2.2.1 12 rfl
  have c12_3_13 := Mem.cell (v := .string t.on) M12.2.2.2.1 13 rfl
  have c12_3_14 := Mem.cell (v := .int .i64 t.vk) M12.2.2.2.1 14 rfl
  have c12_3_15 := Mem.cell (v := .int .i64 t.vx) M12.2.2.2.1 15 rfl
  have c12_3_16 := Mem.cell (v := .string t.vm) M12.2.2.2.1 16 rfl
  have c12_3_17 := Mem.cell (v := .string t.vS) M12.2.2.2.1 17 rfl
  have c12_3_18 := Mem.cell (v := .string t.vI) M12.2.2.2.1 18 rfl
  have c12_3_19 := Mem.cell (v := .bool t.ex) M12.2.2.2.1 19 rfl
  have z12_3 := Mem.lt M12.2.2.2.1
  have f12 := fun j => Mem.free M12.2.2.2.1 j
  have HOW := Lib.hid hown
  clear hown
  go_upto_region 11 with (fail)
  clear f12
  have hown := HOW.out
  have hX12_0 : (w12.setCells (w.heap.size) 12 [.int .i64 0]).heap[w.heap.size]? = some (.cells (th ({ t with sc := ⟨t.sc.a, k, k⟩, cS := s.cS, cI := s.cI, kS := s.kS, kI := s.kI, pa := s.pa, md := s.md, rm := s.rm, fr := ⟨t.fr.a, f, f⟩, sk := ⟨ao, (h + 1), cap⟩, tr := ⟨t.tr.a, r, r⟩, st := 0 })) 39) := by rw [setCells_block [.int .i64 0] 12 _ _ ((M12).2.2.2.1) (by simp)]; rfl
  have hY12_0 := below_setCells (B := w.heap.size) hB12 (b := w.heap.size) (by have := hB12.size; omega) 12 [.int .i64 0]
  have hX12_1 : ((w12.setCells (w.heap.size) 12 [.int .i64 0]).setCells (w.heap.size) 13 [.string ⟨#[]⟩]).heap[w.heap.size]? = some (.cells (th ({ t with sc := ⟨t.sc.a, k, k⟩, cS := s.cS, cI := s.cI, kS := s.kS, kI := s.kI, pa := s.pa, md := s.md, rm := s.rm, fr := ⟨t.fr.a, f, f⟩, sk := ⟨ao, (h + 1), cap⟩, tr := ⟨t.tr.a, r, r⟩, st := 0, on := ⟨#[]⟩ })) 39) := by rw [setCells_block [.string ⟨#[]⟩] 13 _ _ (hX12_0) (by simp)]; rfl
  have hY12_1 := below_setCells (B := w.heap.size) hY12_0 (b := w.heap.size) (by have := hB12.size; omega) 13 [.string ⟨#[]⟩]
  have hX12_2 : (((w12.setCells (w.heap.size) 12 [.int .i64 0]).setCells (w.heap.size) 13 [.string ⟨#[]⟩]).setCells (w.heap.size) 14 [.int .i64 0, .int .i64 0, .string ⟨#[]⟩, .string ⟨#[]⟩, .string ⟨#[]⟩]).heap[w.heap.size]? = some (.cells (th ({ t with sc := ⟨t.sc.a, k, k⟩, cS := s.cS, cI := s.cI, kS := s.kS, kI := s.kI, pa := s.pa, md := s.md, rm := s.rm, fr := ⟨t.fr.a, f, f⟩, sk := ⟨ao, (h + 1), cap⟩, tr := ⟨t.tr.a, r, r⟩, st := 0, on := ⟨#[]⟩, vk := 0, vx := 0, vm := ⟨#[]⟩, vS := ⟨#[]⟩, vI := ⟨#[]⟩ })) 39) := by rw [setCells_block [.int .i64 0, .int .i64 0, .string ⟨#[]⟩, .string ⟨#[]⟩, .string ⟨#[]⟩] 14 _ _ (hX12_1) (by simp)]; rfl
  have hY12_2 := below_setCells (B := w.heap.size) hY12_1 (b := w.heap.size) (by have := hB12.size; omega) 14 [.int .i64 0, .int .i64 0, .string ⟨#[]⟩, .string ⟨#[]⟩, .string ⟨#[]⟩]
  have hX12_3 : ((((w12.setCells (w.heap.size) 12 [.int .i64 0]).setCells (w.heap.size) 13 [.string ⟨#[]⟩]).setCells (w.heap.size) 14 [.int .i64 0, .int .i64 0, .string ⟨#[]⟩, .string ⟨#[]⟩, .string ⟨#[]⟩]).setCells (w.heap.size) 19 [.bool false]).heap[w.heap.size]? = some (.cells (th ({ t with sc := ⟨t.sc.a, k, k⟩, cS := s.cS, cI := s.cI, kS := s.kS, kI := s.kI, pa := s.pa, md := s.md, rm := s.rm, fr := ⟨t.fr.a, f, f⟩, sk := ⟨ao, (h + 1), cap⟩, tr := ⟨t.tr.a, r, r⟩, st := 0, on := ⟨#[]⟩, vk := 0, vx := 0, vm := ⟨#[]⟩, vS := ⟨#[]⟩, vI := ⟨#[]⟩, ex := false })) 39) := by rw [setCells_block [.bool false] 19 _ _ (hX12_2) (by simp)]; rfl
  have hY12_3 := below_setCells (B := w.heap.size) hY12_2 (b := w.heap.size) (by have := hB12.size; omega) 19 [.bool false]
  refine wp_named ?_
  intro w13 hW13
  have hB13 : Below w.heap.size w w13 := by rw [hW13]; exact hY12_3
  have M13 : Mem w13 [(w1.heap.size, .cells (sc (s)) 56), (w.heap.size + 1 + 1, .cells (ob ({ ob0 with kd := 3, lS := s.lS, lI := s.lI, vk := bk, vx := bx, vm := bm, vS := bS, vI := bI, ex := bex })) 50), (w.heap.size + 1, .cells (th (th0)) 39), (w.heap.size, .cells (th ({ t with sc := ⟨t.sc.a, k, k⟩, cS := s.cS, cI := s.cI, kS := s.kS, kI := s.kI, pa := s.pa, md := s.md, rm := s.rm, fr := ⟨t.fr.a, f, f⟩, sk := ⟨ao, (h + 1), cap⟩, tr := ⟨t.tr.a, r, r⟩, st := 0, on := ⟨#[]⟩, vk := 0, vx := 0, vm := ⟨#[]⟩, vS := ⟨#[]⟩, vI := ⟨#[]⟩, ex := false })) 39)] := by rw [hW13]; exact ⟨(setCells_other [.bool false] 19 _ _ (by omega)).trans ((setCells_other [.int .i64 0, .int .i64 0, .string ⟨#[]⟩, .string ⟨#[]⟩, .string ⟨#[]⟩] 14 _ _ (by omega)).trans ((setCells_other [.string ⟨#[]⟩] 13 _ _ (by omega)).trans ((setCells_other [.int .i64 0] 12 _ _ (by omega)).trans ((M12).1)))), (setCells_other [.bool false] 19 _ _ (by omega)).trans ((setCells_other [.int .i64 0, .int .i64 0, .string ⟨#[]⟩, .string ⟨#[]⟩, .string ⟨#[]⟩] 14 _ _ (by omega)).trans ((setCells_other [.string ⟨#[]⟩] 13 _ _ (by omega)).trans ((setCells_other [.int .i64 0] 12 _ _ (by omega)).trans ((M12).2.1)))), (setCells_other [.bool false] 19 _ _ (by omega)).trans ((setCells_other [.int .i64 0, .int .i64 0, .string ⟨#[]⟩, .string ⟨#[]⟩, .string ⟨#[]⟩] 14 _ _ (by omega)).trans ((setCells_other [.string ⟨#[]⟩] 13 _ _ (by omega)).trans ((setCells_other [.int .i64 0] 12 _ _ (by omega)).trans ((M12).2.2.1)))), hX12_3, trivial⟩
  have hown := ownsRow_set (ownsRow_set (ownsRow_set (ownsRow_set hown (b := w.heap.size) HZ.out 12 [.int .i64 0]) (b := w.heap.size) HZ.out 13 [.string ⟨#[]⟩]) (b := w.heap.size) HZ.out 14 [.int .i64 0, .int .i64 0, .string ⟨#[]⟩, .string ⟨#[]⟩, .string ⟨#[]⟩]) (b := w.heap.size) HZ.out 19 [.bool false]
  rw [show ((((w12.setCells (w.heap.size) 12 [.int .i64 0]).setCells (w.heap.size) 13 [.string ⟨#[]⟩]).setCells (w.heap.size) 14 [.int .i64 0, .int .i64 0, .string ⟨#[]⟩, .string ⟨#[]⟩, .string ⟨#[]⟩]).setCells (w.heap.size) 19 [.bool false]) = w13 from hW13.symm] at hown
  clear c12_0_0 c12_0_1 c12_0_2 c12_0_3 c12_0_4 c12_0_5 c12_0_6 c12_0_7 c12_0_8 c12_0_9 c12_0_10 c12_0_11 c12_0_12 c12_0_13 z12_0 c12_1_0 c12_1_1 c12_1_2 c12_1_3 c12_1_4 c12_1_5 c12_1_6 c12_1_7 c12_1_8 c12_1_9 c12_1_10 c12_1_11 c12_1_12 c12_1_13 c12_1_14 c12_1_15 c12_1_16 c12_1_17 c12_1_18 z12_1 z12_2 c12_3_0 c12_3_1 c12_3_2 c12_3_3 c12_3_4 c12_3_5 c12_3_6 c12_3_7 c12_3_8 c12_3_9 c12_3_10 c12_3_11 c12_3_12 c12_3_13 c12_3_14 c12_3_15 c12_3_16 c12_3_17 c12_3_18 c12_3_19 z12_3
  clear hW13 hX12_0 hY12_0 hX12_1 hY12_1 hX12_2 hY12_2 hX12_3 hY12_3
  have c13_0_0 := Mem.cell (v := .string s.nm) M13.1 0 rfl
  have c13_0_1 := Mem.cell (v := .string s.lS) M13.1 1 rfl
  have c13_0_2 := Mem.cell (v := .string s.lI) M13.1 2 rfl
  have c13_0_3 := Mem.cell (v := .int .i64 s.un) M13.1 3 rfl
  have c13_0_4 := Mem.cell (v := .int .i64 s.fr) M13.1 4 rfl
  have c13_0_5 := Mem.cell (v := .int .i64 s.ht) M13.1 5 rfl
  have c13_0_6 := Mem.cell (v := .int .i64 s.tr) M13.1 6 rfl
  have c13_0_7 := Mem.cell (v := .string s.cS) M13.1 7 rfl
  have c13_0_8 := Mem.cell (v := .string s.cI) M13.1 8 rfl
  have c13_0_9 := Mem.cell (v := .string s.kS) M13.1 9 rfl
  have c13_0_10 := Mem.cell (v := .string s.kI) M13.1 10 rfl
  have c13_0_11 := Mem.cell (v := .string s.pa) M13.1 11 rfl
  have c13_0_12 := Mem.cell (v := .int .i64 s.md) M13.1 12 rfl
  have c13_0_13 := Mem.cell (v := .int .i64 s.rm) M13.1 13 rfl
  have z13_0 := Mem.lt M13.1
  have c13_1_0 := Mem.cell (v := .int .i64 3) M13.2.1 0 rfl
  have c13_1_1 := Mem.cell (v := .string s.lS) M13.2.1 1 rfl
  have c13_1_2 := Mem.cell (v := .string s.lI) M13.2.1 2 rfl
  have c13_1_3 := Mem.cell (v := .int .i64 bk) M13.2.1 3 rfl
  have c13_1_4 := Mem.cell (v := .int .i64 bx) M13.2.1 4 rfl
  have c13_1_5 := Mem.cell (v := .string bm) M13.2.1 5 rfl
  have c13_1_6 := Mem.cell (v := .string bS) M13.2.1 6 rfl
  have c13_1_7 := Mem.cell (v := .string bI) M13.2.1 7 rfl
  have c13_1_8 := Mem.cell (v := .bool bex) M13.2.1 8 rfl
  have c13_1_9 := Mem.cell (v := .bool false) M13.2.1 9 rfl
  have c13_1_10 := Mem.cell (v := .bool false) M13.2.1 10 rfl
  have c13_1_11 := Mem.cell (v := .int .i64 0) M13.2.1 11 rfl
  have c13_1_12 := Mem.cell (v := .int .i64 0) M13.2.1 12 rfl
  have c13_1_13 := Mem.cell (v := .string ⟨#[]⟩) M13.2.1 13 rfl
  have c13_1_14 := Mem.cell (v := .string ⟨#[]⟩) M13.2.1 14 rfl
  have c13_1_15 := Mem.cell (v := .string ⟨#[]⟩) M13.2.1 15 rfl
  have c13_1_16 := Mem.cell (v := .slice none 0 0) M13.2.1 16 rfl
  have c13_1_17 := Mem.cell (v := .int .i64 0) M13.2.1 17 rfl
  have c13_1_18 := Mem.cell (v := .int .u8 0) M13.2.1 18 rfl
  have z13_1 := Mem.lt M13.2.1
  have z13_2 := Mem.lt M13.2.2.1
  have c13_3_0 := Mem.cell (v := .string t.id) M13.2.2.2.1 0 rfl
  have c13_3_1 := Mem.cell (v := .string s.pa) M13.2.2.2.1 1 rfl
  have c13_3_2 := Mem.cell (v := .string s.cS) M13.2.2.2.1 2 rfl
  have c13_3_3 := Mem.cell (v := .string s.cI) M13.2.2.2.1 3 rfl
  have c13_3_4 := Mem.cell (v := .string s.kS) M13.2.2.2.1 4 rfl
  have c13_3_5 := Mem.cell (v := .string s.kI) M13.2.2.2.1 5 rfl
  have c13_3_6 := Mem.cell (v := .slice t.fr.a f f) M13.2.2.2.1 6 rfl
  have c13_3_7 := Mem.cell (v := .slice ao (h + 1) cap) M13.2.2.2.1 7 rfl
  have c13_3_8 := Mem.cell (v := .slice t.tr.a r r) M13.2.2.2.1 8 rfl
  have c13_3_9 := Mem.cell (v := .slice t.sc.a k k) M13.2.2.2.1 9 rfl
  have c13_3_10 := Mem.cell (v := .int .i64 s.md) M13.2.2.2.1 10 rfl
  have c13_3_11 := Mem.cell (v := .int .i64 s.rm) M13.2.2.2.1 11 rfl
  have c13_3_12 := Mem.cell (v := .int .i64 0) M13.2.2.2.1 12 rfl
  have c13_3_13 := Mem.cell (v := .string ⟨#[]⟩) M13.2.2.2.1 13 rfl
  have c13_3_14 := Mem.cell (v := .int .i64 0) M13.2.2.2.1 14 rfl
  have c13_3_15 := Mem.cell (v := .int .i64 0) M13.2.2.2.1 15 rfl
  have c13_3_16 := Mem.cell (v := .string ⟨#[]⟩) M13.2.2.2.1 16 rfl
  have c13_3_17 := Mem.cell (v := .string ⟨#[]⟩) M13.2.2.2.1 17 rfl
  have c13_3_18 := Mem.cell (v := .string ⟨#[]⟩) M13.2.2.2.1 18 rfl
  have c13_3_19 := Mem.cell (v := .bool false) M13.2.2.2.1 19 rfl
  have z13_3 := Mem.lt M13.2.2.2.1
  have HOW2 := Lib.hid hown
  clear hown
  obtain ⟨T, hT⟩ : ∃ T : Th, T = { t with sc := ⟨t.sc.a, k, k⟩, cS := s.cS, cI := s.cI, kS := s.kS, kI := s.kI, pa := s.pa, md := s.md, rm := s.rm, fr := ⟨t.fr.a, f, f⟩, sk := ⟨ao, h + 1, cap⟩, tr := ⟨t.tr.a, r, r⟩, st := 0, on := ⟨#[]⟩, vk := 0, vx := 0, vm := ⟨#[]⟩, vS := ⟨#[]⟩, vI := ⟨#[]⟩, ex := false } := ⟨_, rfl⟩
  obtain ⟨o, ho⟩ : ∃ o : Ob, o = ⟨3, s.lS, s.lI, bk, bx, bm, bS, bI, bex⟩ := ⟨_, rfl⟩
  have b2 : w13.heap[w.heap.size]? = some (.cells (th T) 39) := by rw [hT]; exact M13.2.2.2.1
  have b4 : w13.heap[w.heap.size + 1]? = some (.cells (th th0) 39) := M13.2.2.1
  have b6 : w13.heap[w.heap.size + 1 + 1]? = some (.cells (ob o) 50) := by rw [ho]; exact M13.2.1
  have b7 : w13.heap[w1.heap.size]? = some (.cells (sc s) 56) := M13.1
  refine wp_region_held (S := fun w' => w'.heap[w.heap.size]? = some (.cells (th T) 39) ∧ w'.heap[w1.heap.size]? = some (.cells (sc s) 56) ∧ w'.heap[w.heap.size + 1 + 1]? = some (.cells (ob o) 50)) (by kernel_rfl) ?_
  change wpAnyH _ _ _ _ _ 7 (Array.replicate 7 false) _ w13.drew
  refine wpAnyH_take (i := 0) (v := .agg (th T)) rfl (by kernel_rfl) (by kernel_rfl) (by kernel_rfl) (fun _ _ _ h => h) (yieldsIf_load_mid rfl 39 _ rfl w.heap.size 0 rfl (th T).toList _ (fun w' h => range_block h.1) Tryz.underlying39 rfl info_th) ⟨b2, b7, b6⟩ ?_
  refine wpAnyH_take (i := 1) (v := .pointer (some ⟨w1.heap.size, 0, none⟩)) rfl (by kernel_rfl) (by kernel_rfl) (by kernel_rfl) (fun _ _ _ h => h) (.inl ⟨rfl, fun w' _ => by simp [execOp, go_sem]⟩) ⟨b2, b7, b6⟩ ?_
  refine wpAnyH_take (i := 2) (v := .string s.nm) rfl (by kernel_rfl) (by kernel_rfl) (by kernel_rfl) (fun _ _ _ h => h) (.inl ⟨rfl, fun w' hw => by have c := Mem.cell (v := .string s.nm) hw.2.1 0 rfl; simp [execOp, go_sem, c]⟩) ⟨b2, b7, b6⟩ ?_
  refine wpAnyH_take (i := 3) (v := .agg (ob o)) rfl (by kernel_rfl) (by kernel_rfl) (by kernel_rfl) (fun _ _ _ h => h) (yieldsIf_load_mid rfl 50 _ rfl (w.heap.size + 1 + 1) 0 rfl (obL o) _ (fun w' h => range_block h.2.2) Tryz.underlying50 rfl info_ob) ⟨b2, b7, b6⟩ ?_
  refine actH ?_
  intro a4 ha4
  have e77 : a4.eval (.tmp 77) = .agg (th T) := by rw [ha4]; rfl
  have e4 : a4.eval (.tmp 4) = .pointer (some ⟨w.heap.size + 1, 0, none⟩) := by rw [ha4]; rfl
  have e79 : a4.eval (.tmp 79) = .string s.nm := by rw [ha4]; rfl
  have HA := Lib.hid ha4
  clear ha4
  refine wpAnyH_ready (rs := [4]) (by kernel_rfl) (by simp) (AllReadyH.cons rfl ?_ AllReadyH.nil)
  intro K4 hK4
  rw [if_pos (by rfl)]
  refine wp_store_mid 39 _ _ rfl (w.heap.size + 1) 0 (th T) e4 e77 (there_block b4 (Nat.le_refl 20)) info_th (one_th _) ?_
  have c2 := (setCells_other (b := w.heap.size + 1) (th T).toList 0 w13.drew w.heap.size (by omega)).trans b2
  have c7 := (setCells_other (b := w.heap.size + 1) (th T).toList 0 w13.drew w1.heap.size (by omega)).trans b7
  have c6 := (setCells_other (b := w.heap.size + 1) (th T).toList 0 w13.drew (w.heap.size + 1 + 1) (by omega)).trans b6
  have c4 := set_th (w := w13.drew) (b := w.heap.size + 1) (t0 := th0) b4 T
  refine hK4.out _ _ ⟨c2, c7, c6⟩ (fun _ => ?_)
  refine wpAnyH_take (i := 5) (v := .string s.nm) rfl (by kernel_rfl) (by kernel_rfl) (by kernel_rfl) (fun _ _ _ h => h) (.inl ⟨rfl, fun w' _ => by have e := e79; simp [execOp, go_sem, Act.put] at e ⊢; exact e⟩) ⟨c2, c7, c6⟩ ?_
  refine actH ?_
  intro a6 ha6
  have e80 : a6.eval (.tmp 80) = .agg (ob o) := by rw [ha6, HA.out]; rfl
  have e6 : a6.eval (.tmp 6) = .pointer (some ⟨w.heap.size + 1 + 1, 0, none⟩) := by rw [ha6, HA.out]; rfl
  have HA6 := Lib.hid ha6
  clear ha6
  refine wpAnyH_ready (rs := [6]) (by kernel_rfl) (by simp) (AllReadyH.cons rfl ?_ AllReadyH.nil)
  intro K6 hK6
  rw [if_pos (by rfl)]
  refine wp_store_mid 50 _ _ rfl (w.heap.size + 1 + 1) 0 (ob o) e6 e80 (there_block c6 (Nat.le_refl 19)) info_ob (one_ob _) ?_
  obtain ⟨W, hW⟩ : ∃ W, W = (w13.drew.setCells (w.heap.size + 1) 0 (th T).toList).setCells (w.heap.size + 1 + 1) 0 (ob o).toList := ⟨_, rfl⟩
  have d2 : W.heap[w.heap.size]? = some (.cells (th T) 39) := by rw [hW]; exact (setCells_other _ 0 _ _ (by omega)).trans c2
  have d7 : W.heap[w1.heap.size]? = some (.cells (sc s) 56) := by rw [hW]; exact (setCells_other _ 0 _ _ (by omega)).trans c7
  have d4 : W.heap[w.heap.size + 1]? = some (.cells (th T) 39) := by rw [hW]; exact (setCells_other _ 0 _ _ (by omega)).trans c4
  have d6 : W.heap[w.heap.size + 1 + 1]? = some (.cells (ob o) 50) := by rw [hW]; exact set_ob c6 o
  have hown := ownsRow_set (ownsRow_set (HOW2.out.drew) (b := w.heap.size + 1) (by have := ZZ11_2.out; omega) 0 (th T).toList) (b := w.heap.size + 1 + 1) (by have := ZZ11_1.out; omega) 0 (ob o).toList
  have hB := below_setCells (below_setCells (below_dr hB13) (b := w.heap.size + 1) (by omega) 0 (th T).toList) (b := w.heap.size + 1 + 1) (by omega) 0 (ob o).toList
  rw [← hW] at hown hB ⊢
  clear hW
  refine hK6.out _ _ ⟨d2, d7, d6⟩ (fun _ => ?_)
  refine wpAnyH_done (by kernel_rfl) ?_ _
  rw [HA6.out, HA.out]
  clear HA6 HA e77 e4 e79 e80 e6 hK4 hK6
  go_wp2_with fail
  refine bodyPost_ret (v := .tuple #[.agg (th T), .string s.nm, .agg (ob o)]) (results_leave Tryz.results12 _ _ (w.heap.size + 1) (w.heap.size + 1 + 1) T o rfl d4 rfl d6) rfl ⟨ao, cap, by rw [hT, ho], ownsRow_low hown (Nat.le_of_lt ZZ11_3.out), hB⟩
end Go.Proofs.YtnmepcogijgbjaaGreatDoor
