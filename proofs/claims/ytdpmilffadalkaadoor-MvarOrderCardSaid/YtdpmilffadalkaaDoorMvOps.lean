/- mvar.Leave (found), mvar.Put, mvar.Take: each way. Printed by gen_mvops.py. -/
import Derived.Test.YtdpmilffadalkaaDoorMvLeave
namespace Go.Proofs.YtdpmilffadalkaaDoor
open Go.RowKit
theorem frozen_other {b b' : Nat} (W : World) (o o' : Nat) (v : Value) : (W.setCell ⟨b', o', none⟩ v).frozen? ⟨b, o, none⟩ = W.frozen? ⟨b, o, none⟩ := by
  exact World.frozen?_setCell _ _ _ _
def TakeEnds12 (f : Bool) (x y : V5) (q : List Wt) (ok : Bool) (woken : ByteArray) (w : World) (e : Ending) (w' : World) : Prop :=
  ∃ v, e = .returned (.tuple #[.agg #[.bool f, .int .i64 x.k, .int .i64 x.n, .string x.nm, .string x.s, .string x.i, v], .agg #[.int .i64 y.k, .int .i64 y.n, .string y.nm, .string y.s, .string y.i], .bool ok, .string woken]) ∧ OwnQ w.heap.size w' v q ∧ Below w.heap.size w w'
def PutEnds12 (f : Bool) (x : V5) (q : List Wt) (ok : Bool) (woken : ByteArray) (w : World) (e : Ending) (w' : World) : Prop :=
  ∃ v, e = .returned (.tuple #[.agg #[.bool f, .int .i64 x.k, .int .i64 x.n, .string x.nm, .string x.s, .string x.i, v], .bool ok, .string woken]) ∧ OwnQ w.heap.size w' v q ∧ Below w.heap.size w w'
set_option maxRecDepth 100000 in
set_option maxHeartbeats 2000000 in
theorem mtake_wait (k n : Int) (m s i : ByteArray) (id : ByteArray) (q : List Wt) (v : Value) (w : World) (h : QAt w v q) (hlen : q.length * 88 ≤ 140737488355328 - 88) :
    Calls Tryd.prog 10 #[.agg #[.bool false, .int .i64 k, .int .i64 n, .string m, .string s, .string i, v], .string id] w (TakeEnds12 false ⟨k, n, m, s, i⟩ ⟨0, 0, ⟨#[]⟩, ⟨#[]⟩, ⟨#[]⟩⟩ (q ++ [⟨id, false, ⟨0, 0, ⟨#[]⟩, ⟨#[]⟩, ⟨#[]⟩⟩⟩]) false ⟨#[]⟩ w) := by
  have HQ : Hid (∀ W, Below w.heap.size w W → QAt W v q) := Lib.hid (fun W hb => h.below hb)
  clear h
  go_enter Tryd.func10, Tryd.ntmps10
  go_wp2_with fail
  refine wp_named ?_
  intro w1 hW
  have hB1 : Below w.heap.size w w1 := by rw [hW]; exact below_al (below_al (below_al (Below.refl _ _) _) _) _
  have M1 : Mem w1 [(w.heap.size + 1 + 1, .cells #[.int .i64 0, .int .i64 0, .string ⟨#[]⟩, .string ⟨#[]⟩, .string ⟨#[]⟩] 28), (w.heap.size + 1, .cells #[.bool false, .int .i64 0, .int .i64 0, .string ⟨#[]⟩, .string ⟨#[]⟩, .string ⟨#[]⟩, .slice none 0 0] 31), (w.heap.size, .cells #[.bool false, .int .i64 k, .int .i64 n, .string m, .string s, .string i, v] 31)] := by
    rw [hW]
    exact ((((Mem.nil w).new' _ rfl _).new' _ (by simp) _).new' _ (by simp) _)
  have hz : w1.heap.size = w.heap.size + 3 := by rw [hW]; simp
  have hz1 : w.heap.size + 3 ≤ w1.heap.size := by omega
  clear hW hz
  have M2 := M1
  have hB2 := hB1
  clear M1 hB1
  have c0_0 := Mem.cell M2.2.2.1 0 rfl
  have c0_1 := Mem.cell M2.2.2.1 1 rfl
  have c0_2 := Mem.cell M2.2.2.1 2 rfl
  have c0_3 := Mem.cell M2.2.2.1 3 rfl
  have c0_4 := Mem.cell M2.2.2.1 4 rfl
  have c0_5 := Mem.cell M2.2.2.1 5 rfl
  have c0_6 := Mem.cell M2.2.2.1 6 rfl
  have f0 := Mem.free M2.2.2.1
  have c1_0 := Mem.cell M2.2.1 0 rfl
  have c1_1 := Mem.cell M2.2.1 1 rfl
  have c1_2 := Mem.cell M2.2.1 2 rfl
  have c1_3 := Mem.cell M2.2.1 3 rfl
  have c1_4 := Mem.cell M2.2.1 4 rfl
  have c1_5 := Mem.cell M2.2.1 5 rfl
  have c1_6 := Mem.cell M2.2.1 6 rfl
  have f1 := Mem.free M2.2.1
  have c2_0 := Mem.cell M2.1 0 rfl
  have c2_1 := Mem.cell M2.1 1 rfl
  have c2_2 := Mem.cell M2.1 2 rfl
  have c2_3 := Mem.cell M2.1 3 rfl
  have c2_4 := Mem.cell M2.1 4 rfl
  have f2 := Mem.free M2.1
  have ho1_0 := cell_other (b := w.heap.size) (b' := w.heap.size + 1) (by omega)
  have ho1_2 := cell_other (b := w.heap.size + 1 + 1) (b' := w.heap.size + 1) (by omega)
  have hx1_2 := frozen_other (b := w.heap.size + 1 + 1) (b' := w.heap.size + 1)
  have ho2_0 := cell_other (b := w.heap.size) (b' := w.heap.size + 1 + 1) (by omega)
  have ho2_1 := cell_other (b := w.heap.size + 1) (b' := w.heap.size + 1 + 1) (by omega)
  have hx2_1 := frozen_other (b := w.heap.size + 1) (b' := w.heap.size + 1 + 1)
  go_wp2_with fail
  go_region_held3 (fun w' => w'.cell? ⟨w.heap.size, 0, none⟩ = some (.bool false) ∧ w'.cell? ⟨w.heap.size, 1, none⟩ = some (.int .i64 k) ∧ w'.cell? ⟨w.heap.size, 2, none⟩ = some (.int .i64 n) ∧ w'.cell? ⟨w.heap.size, 3, none⟩ = some (.string m) ∧ w'.cell? ⟨w.heap.size, 4, none⟩ = some (.string s) ∧ w'.cell? ⟨w.heap.size, 5, none⟩ = some (.string i) ∧ w'.cell? ⟨w.heap.size, 6, none⟩ = some (v))
    (go_keep)
    (first
      | (go_at_call 16; (with_reducible refine (with_any q v _ (HQ.out _ (by repeat' (first | exact hB2 | refine below_dr ?_ | (refine Below.setCell ?_ (by simp <;> omega) _)))) hlen id false 0 0 ⟨#[]⟩ ⟨#[]⟩ ⟨#[]⟩).mono ?_); rintro e w2 ⟨v1, rfl, hown, hb2⟩; obtain ⟨ao2, cap2, rfl⟩ := QAt.slice hown.at; have hc0 := (fun o => hb2.cell (p := ⟨w.heap.size, o, none⟩) (by simp <;> omega)); have hf0 := (fun o => hb2.frozen (p := ⟨w.heap.size, o, none⟩) (by simp <;> omega)); have hc1 := (fun o => hb2.cell (p := ⟨w.heap.size + 1, o, none⟩) (by simp <;> omega)); have hf1 := (fun o => hb2.frozen (p := ⟨w.heap.size + 1, o, none⟩) (by simp <;> omega)); have hc2 := (fun o => hb2.cell (p := ⟨w.heap.size + 1 + 1, o, none⟩) (by simp <;> omega)); have hf2 := (fun o => hb2.frozen (p := ⟨w.heap.size + 1 + 1, o, none⟩) (by simp <;> omega)))
      | (fail))
  all_goals
    have M3 := (Mem.drew M2).below hb2
    have hlq : (q ++ [⟨id, false, ⟨0, 0, ⟨#[]⟩, ⟨#[]⟩, ⟨#[]⟩⟩⟩] : List Wt).length = (q.length + 1) := by simp
    rw [hlq] at hown
    clear hlq
    obtain ⟨W3, hW3⟩ : ∃ W3, W3 = ((w2.setCells (w.heap.size + 1) 0 [.bool false, .int .i64 k, .int .i64 n, .string m, .string s, .string i, .slice ao2 (q.length + 1) cap2]).setCells (w.heap.size + 1 + 1) 0 [.int .i64 0, .int .i64 0, .string ⟨#[]⟩, .string ⟨#[]⟩, .string ⟨#[]⟩]) := ⟨_, rfl⟩
    have hY : Below w.heap.size w W3 := by rw [hW3]; exact (below_setCells (below_setCells ((below_dr hB2).trans (hb2.mono (by simp; omega))) (b := w.heap.size + 1) (by omega) 0 [.bool false, .int .i64 k, .int .i64 n, .string m, .string s, .string i, .slice ao2 (q.length + 1) cap2]) (b := w.heap.size + 1 + 1) (by omega) 0 [.int .i64 0, .int .i64 0, .string ⟨#[]⟩, .string ⟨#[]⟩, .string ⟨#[]⟩])
    have hZ : OwnQ w.heap.size W3 (.slice ao2 (q.length + 1) cap2) (q ++ [⟨id, false, ⟨0, 0, ⟨#[]⟩, ⟨#[]⟩, ⟨#[]⟩⟩⟩]) := by rw [hW3]; exact OwnQ.low (own_set (own_set hown (b := w.heap.size + 1) (by simp; omega) [.bool false, .int .i64 k, .int .i64 n, .string m, .string s, .string i, .slice ao2 (q.length + 1) cap2] 0) (b := w.heap.size + 1 + 1) (by simp; omega) [.int .i64 0, .int .i64 0, .string ⟨#[]⟩, .string ⟨#[]⟩, .string ⟨#[]⟩] 0) (by simp; omega)
    have hX1 : W3.heap[w.heap.size + 1]? = some (.cells [.bool false, .int .i64 k, .int .i64 n, .string m, .string s, .string i, .slice ao2 (q.length + 1) cap2].toArray 31) := by rw [hW3]; exact ((setCells_other [.int .i64 0, .int .i64 0, .string ⟨#[]⟩, .string ⟨#[]⟩, .string ⟨#[]⟩] 0 _ _ (by omega)).trans (set_block M3.2.1 [.bool false, .int .i64 k, .int .i64 n, .string m, .string s, .string i, .slice ao2 (q.length + 1) cap2] rfl))
    have hX2 : W3.heap[w.heap.size + 1 + 1]? = some (.cells [.int .i64 0, .int .i64 0, .string ⟨#[]⟩, .string ⟨#[]⟩, .string ⟨#[]⟩].toArray 28) := by rw [hW3]; exact (set_block ((setCells_other [.bool false, .int .i64 k, .int .i64 n, .string m, .string s, .string i, .slice ao2 (q.length + 1) cap2] 0 _ _ (by omega)).trans M3.1) [.int .i64 0, .int .i64 0, .string ⟨#[]⟩, .string ⟨#[]⟩, .string ⟨#[]⟩] rfl)
    refine at_world hW3 ?_
    have k1_0 := Mem.cell hX1 0 rfl
    have k1_1 := Mem.cell hX1 1 rfl
    have k1_2 := Mem.cell hX1 2 rfl
    have k1_3 := Mem.cell hX1 3 rfl
    have k1_4 := Mem.cell hX1 4 rfl
    have k1_5 := Mem.cell hX1 5 rfl
    have k1_6 := Mem.cell hX1 6 rfl
    have k2_0 := Mem.cell hX2 0 rfl
    have k2_1 := Mem.cell hX2 1 rfl
    have k2_2 := Mem.cell hX2 2 rfl
    have k2_3 := Mem.cell hX2 3 rfl
    have k2_4 := Mem.cell hX2 4 rfl
    have HY2 := Lib.hid hY
    have HZ2 := Lib.hid hZ
    clear hY hZ hW3 hb2 hown M2 M3 ho1_0 ho2_0 ho1_2 hx1_2 ho2_1 hx2_1 hc0 hf0 hc1 hf1 hc2 hf2 hX1 hX2
    go_wp2_with fail
    refine bodyPost_ret (v := .tuple #[.agg #[.bool false, .int .i64 k, .int .i64 n, .string m, .string s, .string i, .slice ao2 (q.length + 1) cap2], .agg #[.int .i64 0, .int .i64 0, .string ⟨#[]⟩, .string ⟨#[]⟩, .string ⟨#[]⟩], .bool false, .string ⟨#[]⟩]) (by simp [results, Tryd.results10, go_sem, k1_0, k1_1, k1_2, k1_3, k1_4, k1_5, k1_6, k2_0, k2_1, k2_2, k2_3, k2_4]) rfl ⟨_, rfl, HZ2.out, HY2.out⟩
set_option maxRecDepth 100000 in
set_option maxHeartbeats 2000000 in
theorem mtake_none (k n : Int) (m s i : ByteArray) (id : ByteArray) (q : List Wt) (v : Value) (w : World) (h : QAt w v q) (hlen : q.length * 88 ≤ 140737488355328 - 88) (hno : firstI (fun x => x.put) q = -1) :
    Calls Tryd.prog 10 #[.agg #[.bool true, .int .i64 k, .int .i64 n, .string m, .string s, .string i, v], .string id] w (TakeEnds12 false ⟨0, 0, ⟨#[]⟩, ⟨#[]⟩, ⟨#[]⟩⟩ ⟨k, n, m, s, i⟩ q true ⟨#[]⟩ w) := by
  have HQ : Hid (∀ W, Below w.heap.size w W → QAt W v q) := Lib.hid (fun W hb => h.below hb)
  clear h
  have HN := Lib.hid hno
  clear hno
  go_enter Tryd.func10, Tryd.ntmps10
  go_wp2_with fail
  refine Calls.named ?_
  intro W hW
  have hB1 : Below w.heap.size w W := by rw [hW]; exact below_al (below_al (below_al (Below.refl _ _) _) _) _
  have M1 : Mem W [(w.heap.size + 1 + 1, .cells #[.int .i64 0, .int .i64 0, .string ⟨#[]⟩, .string ⟨#[]⟩, .string ⟨#[]⟩] 28), (w.heap.size + 1, .cells #[.bool false, .int .i64 0, .int .i64 0, .string ⟨#[]⟩, .string ⟨#[]⟩, .string ⟨#[]⟩, .slice none 0 0] 31), (w.heap.size, .cells #[.bool true, .int .i64 k, .int .i64 n, .string m, .string s, .string i, v] 31)] := by
    rw [hW]
    exact ((((Mem.nil w).new' _ rfl _).new' _ (by simp) _).new' _ (by simp) _)
  have hz : W.heap.size = w.heap.size + 3 := by rw [hW]; simp
  have HZ := Lib.hid hz
  clear hW hz
  refine (first_put q v _ (HQ.out _ hB1) (by omega)).mono ?_
  rw [HN.out]
  rintro e w1 ⟨rfl, hb1⟩
  have M2 := M1.below hb1
  have hB2 := below_then hB1 hb1
  have hz1 : w.heap.size + 3 ≤ w1.heap.size := by have := HZ.out; have := hb1.size; omega
  clear M1 hB1 hb1
  have c0_0 := Mem.cell M2.2.2.1 0 rfl
  have c0_1 := Mem.cell M2.2.2.1 1 rfl
  have c0_2 := Mem.cell M2.2.2.1 2 rfl
  have c0_3 := Mem.cell M2.2.2.1 3 rfl
  have c0_4 := Mem.cell M2.2.2.1 4 rfl
  have c0_5 := Mem.cell M2.2.2.1 5 rfl
  have c0_6 := Mem.cell M2.2.2.1 6 rfl
  have f0 := Mem.free M2.2.2.1
  have c1_0 := Mem.cell M2.2.1 0 rfl
  have c1_1 := Mem.cell M2.2.1 1 rfl
  have c1_2 := Mem.cell M2.2.1 2 rfl
  have c1_3 := Mem.cell M2.2.1 3 rfl
  have c1_4 := Mem.cell M2.2.1 4 rfl
  have c1_5 := Mem.cell M2.2.1 5 rfl
  have c1_6 := Mem.cell M2.2.1 6 rfl
  have f1 := Mem.free M2.2.1
  have c2_0 := Mem.cell M2.1 0 rfl
  have c2_1 := Mem.cell M2.1 1 rfl
  have c2_2 := Mem.cell M2.1 2 rfl
  have c2_3 := Mem.cell M2.1 3 rfl
  have c2_4 := Mem.cell M2.1 4 rfl
  have f2 := Mem.free M2.1
  have ho1_0 := cell_other (b := w.heap.size) (b' := w.heap.size + 1) (by omega)
  have ho1_2 := cell_other (b := w.heap.size + 1 + 1) (b' := w.heap.size + 1) (by omega)
  have hx1_2 := frozen_other (b := w.heap.size + 1 + 1) (b' := w.heap.size + 1)
  have ho2_0 := cell_other (b := w.heap.size) (b' := w.heap.size + 1 + 1) (by omega)
  have ho2_1 := cell_other (b := w.heap.size + 1) (b' := w.heap.size + 1 + 1) (by omega)
  have hx2_1 := frozen_other (b := w.heap.size + 1) (b' := w.heap.size + 1 + 1)
  go_wp2_with fail
  go_region_held3 (fun w' => w'.cell? ⟨w.heap.size, 0, none⟩ = some (.bool true) ∧ w'.cell? ⟨w.heap.size, 1, none⟩ = some (.int .i64 k) ∧ w'.cell? ⟨w.heap.size, 2, none⟩ = some (.int .i64 n) ∧ w'.cell? ⟨w.heap.size, 3, none⟩ = some (.string m) ∧ w'.cell? ⟨w.heap.size, 4, none⟩ = some (.string s) ∧ w'.cell? ⟨w.heap.size, 5, none⟩ = some (.string i) ∧ w'.cell? ⟨w.heap.size, 6, none⟩ = some (v))
    (go_keep)
    (first
      | (go_at_call 19; (with_reducible refine (cloneQ q v _ (HQ.out _ (by repeat' (first | exact hB2 | refine below_dr ?_ | (refine Below.setCell ?_ (by simp <;> omega) _)))) (by omega)).mono ?_); rintro e w2 ⟨v1, rfl, hown, hb2⟩; obtain ⟨ao2, cap2, rfl⟩ := QAt.slice hown.at; have hc0 := (fun o => hb2.cell (p := ⟨w.heap.size, o, none⟩) (by simp <;> omega)); have hf0 := (fun o => hb2.frozen (p := ⟨w.heap.size, o, none⟩) (by simp <;> omega)); have hc1 := (fun o => hb2.cell (p := ⟨w.heap.size + 1, o, none⟩) (by simp <;> omega)); have hf1 := (fun o => hb2.frozen (p := ⟨w.heap.size + 1, o, none⟩) (by simp <;> omega)); have hc2 := (fun o => hb2.cell (p := ⟨w.heap.size + 1 + 1, o, none⟩) (by simp <;> omega)); have hf2 := (fun o => hb2.frozen (p := ⟨w.heap.size + 1 + 1, o, none⟩) (by simp <;> omega)))
      | (fail))
  all_goals
    have M3 := (Mem.drew M2).below hb2
    obtain ⟨W3, hW3⟩ : ∃ W3, W3 = ((w2.setCells (w.heap.size + 1) 0 [.bool false, .int .i64 0, .int .i64 0, .string ⟨#[]⟩, .string ⟨#[]⟩, .string ⟨#[]⟩, .slice ao2 q.length cap2]).setCells (w.heap.size + 1 + 1) 0 [.int .i64 k, .int .i64 n, .string m, .string s, .string i]) := ⟨_, rfl⟩
    have hY : Below w.heap.size w W3 := by rw [hW3]; exact (below_setCells (below_setCells ((below_dr hB2).trans (hb2.mono (by simp; omega))) (b := w.heap.size + 1) (by omega) 0 [.bool false, .int .i64 0, .int .i64 0, .string ⟨#[]⟩, .string ⟨#[]⟩, .string ⟨#[]⟩, .slice ao2 q.length cap2]) (b := w.heap.size + 1 + 1) (by omega) 0 [.int .i64 k, .int .i64 n, .string m, .string s, .string i])
    have hZ : OwnQ w.heap.size W3 (.slice ao2 q.length cap2) (q) := by rw [hW3]; exact OwnQ.low (own_set (own_set hown (b := w.heap.size + 1) (by simp; omega) [.bool false, .int .i64 0, .int .i64 0, .string ⟨#[]⟩, .string ⟨#[]⟩, .string ⟨#[]⟩, .slice ao2 q.length cap2] 0) (b := w.heap.size + 1 + 1) (by simp; omega) [.int .i64 k, .int .i64 n, .string m, .string s, .string i] 0) (by simp; omega)
    have hX1 : W3.heap[w.heap.size + 1]? = some (.cells [.bool false, .int .i64 0, .int .i64 0, .string ⟨#[]⟩, .string ⟨#[]⟩, .string ⟨#[]⟩, .slice ao2 q.length cap2].toArray 31) := by rw [hW3]; exact ((setCells_other [.int .i64 k, .int .i64 n, .string m, .string s, .string i] 0 _ _ (by omega)).trans (set_block M3.2.1 [.bool false, .int .i64 0, .int .i64 0, .string ⟨#[]⟩, .string ⟨#[]⟩, .string ⟨#[]⟩, .slice ao2 q.length cap2] rfl))
    have hX2 : W3.heap[w.heap.size + 1 + 1]? = some (.cells [.int .i64 k, .int .i64 n, .string m, .string s, .string i].toArray 28) := by rw [hW3]; exact (set_block ((setCells_other [.bool false, .int .i64 0, .int .i64 0, .string ⟨#[]⟩, .string ⟨#[]⟩, .string ⟨#[]⟩, .slice ao2 q.length cap2] 0 _ _ (by omega)).trans M3.1) [.int .i64 k, .int .i64 n, .string m, .string s, .string i] rfl)
    refine at_world hW3 ?_
    have k1_0 := Mem.cell hX1 0 rfl
    have k1_1 := Mem.cell hX1 1 rfl
    have k1_2 := Mem.cell hX1 2 rfl
    have k1_3 := Mem.cell hX1 3 rfl
    have k1_4 := Mem.cell hX1 4 rfl
    have k1_5 := Mem.cell hX1 5 rfl
    have k1_6 := Mem.cell hX1 6 rfl
    have k2_0 := Mem.cell hX2 0 rfl
    have k2_1 := Mem.cell hX2 1 rfl
    have k2_2 := Mem.cell hX2 2 rfl
    have k2_3 := Mem.cell hX2 3 rfl
    have k2_4 := Mem.cell hX2 4 rfl
    have HY2 := Lib.hid hY
    have HZ2 := Lib.hid hZ
    clear hY hZ hW3 hb2 hown M2 M3 ho1_0 ho2_0 ho1_2 hx1_2 ho2_1 hx2_1 hc0 hf0 hc1 hf1 hc2 hf2 hX1 hX2
    go_wp2_with fail
    refine bodyPost_ret (v := .tuple #[.agg #[.bool false, .int .i64 0, .int .i64 0, .string ⟨#[]⟩, .string ⟨#[]⟩, .string ⟨#[]⟩, .slice ao2 q.length cap2], .agg #[.int .i64 k, .int .i64 n, .string m, .string s, .string i], .bool true, .string ⟨#[]⟩]) (by simp [results, Tryd.results10, go_sem, k1_0, k1_1, k1_2, k1_3, k1_4, k1_5, k1_6, k2_0, k2_1, k2_2, k2_3, k2_4]) rfl ⟨_, rfl, HZ2.out, HY2.out⟩
set_option maxRecDepth 100000 in
set_option maxHeartbeats 2000000 in
theorem mtake_next (k n : Int) (m s i : ByteArray) (id : ByteArray) (q : List Wt) (v : Value) (w : World) (h : QAt w v q) (hlen : q.length * 88 ≤ 140737488355328 - 88) (at_ : Nat) (hat : at_ < q.length) (hno : firstI (fun x => x.put) q = (at_ : Int)) (y0 : ByteArray) (y1 : Bool) (y2 y3 : Int) (y4 y5 y6 : ByteArray) (hy : q[at_] = ⟨y0, y1, ⟨y2, y3, y4, y5, y6⟩⟩) :
    Calls Tryd.prog 10 #[.agg #[.bool true, .int .i64 k, .int .i64 n, .string m, .string s, .string i, v], .string id] w (TakeEnds12 true ⟨y2, y3, y4, y5, y6⟩ ⟨k, n, m, s, i⟩ (q.eraseIdx at_) true y0 w) := by
  have HQ : Hid (∀ W, Below w.heap.size w W → QAt W v q) := Lib.hid (fun W hb => h.below hb)
  clear h
  have HN := Lib.hid hno
  have HY0 := Lib.hid hy
  clear hno hy
  go_enter Tryd.func10, Tryd.ntmps10
  go_wp2_with fail
  refine Calls.named ?_
  intro W hW
  have hB1 : Below w.heap.size w W := by rw [hW]; exact below_al (below_al (below_al (Below.refl _ _) _) _) _
  have M1 : Mem W [(w.heap.size + 1 + 1, .cells #[.int .i64 0, .int .i64 0, .string ⟨#[]⟩, .string ⟨#[]⟩, .string ⟨#[]⟩] 28), (w.heap.size + 1, .cells #[.bool false, .int .i64 0, .int .i64 0, .string ⟨#[]⟩, .string ⟨#[]⟩, .string ⟨#[]⟩, .slice none 0 0] 31), (w.heap.size, .cells #[.bool true, .int .i64 k, .int .i64 n, .string m, .string s, .string i, v] 31)] := by
    rw [hW]
    exact ((((Mem.nil w).new' _ rfl _).new' _ (by simp) _).new' _ (by simp) _)
  have hz : W.heap.size = w.heap.size + 3 := by rw [hW]; simp
  have HZ := Lib.hid hz
  clear hW hz
  refine (first_put q v _ (HQ.out _ hB1) (by omega)).mono ?_
  rw [HN.out]
  rintro e w1 ⟨rfl, hb1⟩
  have M2 := M1.below hb1
  have hB2 := below_then hB1 hb1
  have hz1 : w.heap.size + 3 ≤ w1.heap.size := by have := HZ.out; have := hb1.size; omega
  clear M1 hB1 hb1
  have c0_0 := Mem.cell M2.2.2.1 0 rfl
  have c0_1 := Mem.cell M2.2.2.1 1 rfl
  have c0_2 := Mem.cell M2.2.2.1 2 rfl
  have c0_3 := Mem.cell M2.2.2.1 3 rfl
  have c0_4 := Mem.cell M2.2.2.1 4 rfl
  have c0_5 := Mem.cell M2.2.2.1 5 rfl
  have c0_6 := Mem.cell M2.2.2.1 6 rfl
  have f0 := Mem.free M2.2.2.1
  have c1_0 := Mem.cell M2.2.1 0 rfl
  have c1_1 := Mem.cell M2.2.1 1 rfl
  have c1_2 := Mem.cell M2.2.1 2 rfl
  have c1_3 := Mem.cell M2.2.1 3 rfl
  have c1_4 := Mem.cell M2.2.1 4 rfl
  have c1_5 := Mem.cell M2.2.1 5 rfl
  have c1_6 := Mem.cell M2.2.1 6 rfl
  have f1 := Mem.free M2.2.1
  have c2_0 := Mem.cell M2.1 0 rfl
  have c2_1 := Mem.cell M2.1 1 rfl
  have c2_2 := Mem.cell M2.1 2 rfl
  have c2_3 := Mem.cell M2.1 3 rfl
  have c2_4 := Mem.cell M2.1 4 rfl
  have f2 := Mem.free M2.1
  obtain ⟨ao, cap, rfl⟩ := (HQ.out _ hB2).slice
  obtain ⟨qb, off, rfl, -, hqb, hg⟩ := slots_someQ (HQ.out _ (Below.refl _ w)) (by omega)
  have hy := HY0.out
  have hg2 := hg at_
  clear hg
  have r0 := (hB2.cell (p := ⟨qb, off + at_ * 7 + 0, none⟩) hqb).trans (hg2 0 hat _ (by rw [hy]; rfl))
  have r1 := (hB2.cell (p := ⟨qb, off + at_ * 7 + 1, none⟩) hqb).trans (hg2 1 hat _ (by rw [hy]; rfl))
  have r2 := (hB2.cell (p := ⟨qb, off + at_ * 7 + 2, none⟩) hqb).trans (hg2 2 hat _ (by rw [hy]; rfl))
  have r3 := (hB2.cell (p := ⟨qb, off + at_ * 7 + 3, none⟩) hqb).trans (hg2 3 hat _ (by rw [hy]; rfl))
  have r4 := (hB2.cell (p := ⟨qb, off + at_ * 7 + 4, none⟩) hqb).trans (hg2 4 hat _ (by rw [hy]; rfl))
  have r5 := (hB2.cell (p := ⟨qb, off + at_ * 7 + 5, none⟩) hqb).trans (hg2 5 hat _ (by rw [hy]; rfl))
  have r6 := (hB2.cell (p := ⟨qb, off + at_ * 7 + 6, none⟩) hqb).trans (hg2 6 hat _ (by rw [hy]; rfl))
  simp only [Nat.add_zero] at r0
  have HY := Lib.hid hy
  clear hg2 hy
  have g1 : (0 : Int) ≤ (at_ : Int) := by omega
  have g2 : (at_ : Int) < (q.length : Int) := by omega
  have ho1_0 := cell_other (b := w.heap.size) (b' := w.heap.size + 1) (by omega)
  have ho1_2 := cell_other (b := w.heap.size + 1 + 1) (b' := w.heap.size + 1) (by omega)
  have hx1_2 := frozen_other (b := w.heap.size + 1 + 1) (b' := w.heap.size + 1)
  have ho1_q := cell_other (b := qb) (b' := w.heap.size + 1) (by omega)
  have ho2_0 := cell_other (b := w.heap.size) (b' := w.heap.size + 1 + 1) (by omega)
  have ho2_1 := cell_other (b := w.heap.size + 1) (b' := w.heap.size + 1 + 1) (by omega)
  have hx2_1 := frozen_other (b := w.heap.size + 1) (b' := w.heap.size + 1 + 1)
  have ho2_q := cell_other (b := qb) (b' := w.heap.size + 1 + 1) (by omega)
  go_wp2_with fail
  go_region_held3 (fun w' => w'.cell? ⟨w.heap.size, 0, none⟩ = some (.bool true) ∧ w'.cell? ⟨w.heap.size, 1, none⟩ = some (.int .i64 k) ∧ w'.cell? ⟨w.heap.size, 2, none⟩ = some (.int .i64 n) ∧ w'.cell? ⟨w.heap.size, 3, none⟩ = some (.string m) ∧ w'.cell? ⟨w.heap.size, 4, none⟩ = some (.string s) ∧ w'.cell? ⟨w.heap.size, 5, none⟩ = some (.string i) ∧ w'.cell? ⟨w.heap.size, 6, none⟩ = some (.slice (some ⟨qb, off, none⟩) q.length cap) ∧ w'.cell? ⟨qb, off + at_ * 7, none⟩ = some (.string y0) ∧ w'.cell? ⟨qb, off + at_ * 7 + 2, none⟩ = some (.int .i64 y2) ∧ w'.cell? ⟨qb, off + at_ * 7 + 3, none⟩ = some (.int .i64 y3) ∧ w'.cell? ⟨qb, off + at_ * 7 + 4, none⟩ = some (.string y4) ∧ w'.cell? ⟨qb, off + at_ * 7 + 5, none⟩ = some (.string y5) ∧ w'.cell? ⟨qb, off + at_ * 7 + 6, none⟩ = some (.string y6))
    (go_keep)
    (first
      | (go_at_call 20; (with_reducible refine (without_any q (.slice (some ⟨qb, off, none⟩) q.length cap) _ (HQ.out _ (by repeat' (first | exact hB2 | refine below_dr ?_ | (refine Below.setCell ?_ (by simp <;> omega) _)))) (by omega) at_ hat).mono ?_); rintro e w2 ⟨v1, rfl, hown, hb2⟩; obtain ⟨ao2, cap2, rfl⟩ := QAt.slice hown.at; have hc0 := (fun o => hb2.cell (p := ⟨w.heap.size, o, none⟩) (by simp <;> omega)); have hf0 := (fun o => hb2.frozen (p := ⟨w.heap.size, o, none⟩) (by simp <;> omega)); have hc1 := (fun o => hb2.cell (p := ⟨w.heap.size + 1, o, none⟩) (by simp <;> omega)); have hf1 := (fun o => hb2.frozen (p := ⟨w.heap.size + 1, o, none⟩) (by simp <;> omega)); have hc2 := (fun o => hb2.cell (p := ⟨w.heap.size + 1 + 1, o, none⟩) (by simp <;> omega)); have hf2 := (fun o => hb2.frozen (p := ⟨w.heap.size + 1 + 1, o, none⟩) (by simp <;> omega)); have hcq := (fun o => hb2.cell (p := ⟨qb, o, none⟩) (by simp <;> omega)))
      | (fail))
  all_goals
    have M3 := (Mem.drew M2).below hb2
    obtain ⟨W3, hW3⟩ : ∃ W3, W3 = ((w2.setCells (w.heap.size + 1) 0 [.bool true, .int .i64 y2, .int .i64 y3, .string y4, .string y5, .string y6, .slice ao2 (q.eraseIdx at_).length cap2]).setCells (w.heap.size + 1 + 1) 0 [.int .i64 k, .int .i64 n, .string m, .string s, .string i]) := ⟨_, rfl⟩
    have hY : Below w.heap.size w W3 := by rw [hW3]; exact (below_setCells (below_setCells ((below_dr hB2).trans (hb2.mono (by simp; omega))) (b := w.heap.size + 1) (by omega) 0 [.bool true, .int .i64 y2, .int .i64 y3, .string y4, .string y5, .string y6, .slice ao2 (q.eraseIdx at_).length cap2]) (b := w.heap.size + 1 + 1) (by omega) 0 [.int .i64 k, .int .i64 n, .string m, .string s, .string i])
    have hZ : OwnQ w.heap.size W3 (.slice ao2 (q.eraseIdx at_).length cap2) (q.eraseIdx at_) := by rw [hW3]; exact OwnQ.low (own_set (own_set hown (b := w.heap.size + 1) (by simp; omega) [.bool true, .int .i64 y2, .int .i64 y3, .string y4, .string y5, .string y6, .slice ao2 (q.eraseIdx at_).length cap2] 0) (b := w.heap.size + 1 + 1) (by simp; omega) [.int .i64 k, .int .i64 n, .string m, .string s, .string i] 0) (by simp; omega)
    have hX1 : W3.heap[w.heap.size + 1]? = some (.cells [.bool true, .int .i64 y2, .int .i64 y3, .string y4, .string y5, .string y6, .slice ao2 (q.eraseIdx at_).length cap2].toArray 31) := by rw [hW3]; exact ((setCells_other [.int .i64 k, .int .i64 n, .string m, .string s, .string i] 0 _ _ (by omega)).trans (set_block M3.2.1 [.bool true, .int .i64 y2, .int .i64 y3, .string y4, .string y5, .string y6, .slice ao2 (q.eraseIdx at_).length cap2] rfl))
    have hX2 : W3.heap[w.heap.size + 1 + 1]? = some (.cells [.int .i64 k, .int .i64 n, .string m, .string s, .string i].toArray 28) := by rw [hW3]; exact (set_block ((setCells_other [.bool true, .int .i64 y2, .int .i64 y3, .string y4, .string y5, .string y6, .slice ao2 (q.eraseIdx at_).length cap2] 0 _ _ (by omega)).trans M3.1) [.int .i64 k, .int .i64 n, .string m, .string s, .string i] rfl)
    refine at_world hW3 ?_
    have k1_0 := Mem.cell hX1 0 rfl
    have k1_1 := Mem.cell hX1 1 rfl
    have k1_2 := Mem.cell hX1 2 rfl
    have k1_3 := Mem.cell hX1 3 rfl
    have k1_4 := Mem.cell hX1 4 rfl
    have k1_5 := Mem.cell hX1 5 rfl
    have k1_6 := Mem.cell hX1 6 rfl
    have k2_0 := Mem.cell hX2 0 rfl
    have k2_1 := Mem.cell hX2 1 rfl
    have k2_2 := Mem.cell hX2 2 rfl
    have k2_3 := Mem.cell hX2 3 rfl
    have k2_4 := Mem.cell hX2 4 rfl
    have HY2 := Lib.hid hY
    have HZ2 := Lib.hid hZ
    clear hY hZ hW3 hb2 hown M2 M3 ho1_0 ho2_0 ho1_2 hx1_2 ho2_1 hx2_1 ho1_q ho2_q hcq hc0 hf0 hc1 hf1 hc2 hf2 hX1 hX2
    go_wp2_with fail
    refine bodyPost_ret (v := .tuple #[.agg #[.bool true, .int .i64 y2, .int .i64 y3, .string y4, .string y5, .string y6, .slice ao2 (q.eraseIdx at_).length cap2], .agg #[.int .i64 k, .int .i64 n, .string m, .string s, .string i], .bool true, .string y0]) (by simp [results, Tryd.results10, go_sem, k1_0, k1_1, k1_2, k1_3, k1_4, k1_5, k1_6, k2_0, k2_1, k2_2, k2_3, k2_4]) rfl ⟨_, rfl, HZ2.out, HY2.out⟩
set_option maxRecDepth 100000 in
set_option maxHeartbeats 2000000 in
theorem mput_wait (k n : Int) (m s i : ByteArray) (id : ByteArray) (k2 n2 : Int) (m2 s2 i2 : ByteArray) (q : List Wt) (v : Value) (w : World) (h : QAt w v q) (hlen : q.length * 88 ≤ 140737488355328 - 88) :
    Calls Tryd.prog 11 #[.agg #[.bool true, .int .i64 k, .int .i64 n, .string m, .string s, .string i, v], .string id, .agg #[.int .i64 k2, .int .i64 n2, .string m2, .string s2, .string i2]] w (PutEnds12 true ⟨k, n, m, s, i⟩ (q ++ [⟨id, true, ⟨k2, n2, m2, s2, i2⟩⟩]) false ⟨#[]⟩ w) := by
  have HQ : Hid (∀ W, Below w.heap.size w W → QAt W v q) := Lib.hid (fun W hb => h.below hb)
  clear h
  go_enter Tryd.func11, Tryd.ntmps11
  go_wp2_with fail
  refine wp_named ?_
  intro w1 hW
  have hB1 : Below w.heap.size w w1 := by rw [hW]; exact below_al (below_al (below_al (Below.refl _ _) _) _) _
  have M1 : Mem w1 [(w.heap.size + 1 + 1, .cells #[.bool false, .int .i64 0, .int .i64 0, .string ⟨#[]⟩, .string ⟨#[]⟩, .string ⟨#[]⟩, .slice none 0 0] 31), (w.heap.size + 1, .cells #[.int .i64 k2, .int .i64 n2, .string m2, .string s2, .string i2] 28), (w.heap.size, .cells #[.bool true, .int .i64 k, .int .i64 n, .string m, .string s, .string i, v] 31)] := by
    rw [hW]
    exact ((((Mem.nil w).new' _ rfl _).new' _ (by simp) _).new' _ (by simp) _)
  have hz : w1.heap.size = w.heap.size + 3 := by rw [hW]; simp
  have hz1 : w.heap.size + 3 ≤ w1.heap.size := by omega
  clear hW hz
  have M2 := M1
  have hB2 := hB1
  clear M1 hB1
  have c0_0 := Mem.cell M2.2.2.1 0 rfl
  have c0_1 := Mem.cell M2.2.2.1 1 rfl
  have c0_2 := Mem.cell M2.2.2.1 2 rfl
  have c0_3 := Mem.cell M2.2.2.1 3 rfl
  have c0_4 := Mem.cell M2.2.2.1 4 rfl
  have c0_5 := Mem.cell M2.2.2.1 5 rfl
  have c0_6 := Mem.cell M2.2.2.1 6 rfl
  have f0 := Mem.free M2.2.2.1
  have c1_0 := Mem.cell M2.2.1 0 rfl
  have c1_1 := Mem.cell M2.2.1 1 rfl
  have c1_2 := Mem.cell M2.2.1 2 rfl
  have c1_3 := Mem.cell M2.2.1 3 rfl
  have c1_4 := Mem.cell M2.2.1 4 rfl
  have f1 := Mem.free M2.2.1
  have c2_0 := Mem.cell M2.1 0 rfl
  have c2_1 := Mem.cell M2.1 1 rfl
  have c2_2 := Mem.cell M2.1 2 rfl
  have c2_3 := Mem.cell M2.1 3 rfl
  have c2_4 := Mem.cell M2.1 4 rfl
  have c2_5 := Mem.cell M2.1 5 rfl
  have c2_6 := Mem.cell M2.1 6 rfl
  have f2 := Mem.free M2.1
  have ho2_0 := cell_other (b := w.heap.size) (b' := w.heap.size + 1 + 1) (by omega)
  have ho2_1 := cell_other (b := w.heap.size + 1) (b' := w.heap.size + 1 + 1) (by omega)
  go_wp2_with fail
  go_region_held3 (fun w' => w'.cell? ⟨w.heap.size, 0, none⟩ = some (.bool true) ∧ w'.cell? ⟨w.heap.size, 1, none⟩ = some (.int .i64 k) ∧ w'.cell? ⟨w.heap.size, 2, none⟩ = some (.int .i64 n) ∧ w'.cell? ⟨w.heap.size, 3, none⟩ = some (.string m) ∧ w'.cell? ⟨w.heap.size, 4, none⟩ = some (.string s) ∧ w'.cell? ⟨w.heap.size, 5, none⟩ = some (.string i) ∧ w'.cell? ⟨w.heap.size, 6, none⟩ = some (v) ∧ w'.cell? ⟨w.heap.size + 1, 0, none⟩ = some (.int .i64 k2) ∧ w'.cell? ⟨w.heap.size + 1, 1, none⟩ = some (.int .i64 n2) ∧ w'.cell? ⟨w.heap.size + 1, 2, none⟩ = some (.string m2) ∧ w'.cell? ⟨w.heap.size + 1, 3, none⟩ = some (.string s2) ∧ w'.cell? ⟨w.heap.size + 1, 4, none⟩ = some (.string i2))
    (go_keep)
    (first
      | (go_at_call 16; (with_reducible refine (with_any q v _ (HQ.out _ (by repeat' (first | exact hB2 | refine below_dr ?_ | (refine Below.setCell ?_ (by simp <;> omega) _)))) hlen id true k2 n2 m2 s2 i2).mono ?_); rintro e w2 ⟨v1, rfl, hown, hb2⟩; obtain ⟨ao2, cap2, rfl⟩ := QAt.slice hown.at; have hc0 := (fun o => hb2.cell (p := ⟨w.heap.size, o, none⟩) (by simp <;> omega)); have hf0 := (fun o => hb2.frozen (p := ⟨w.heap.size, o, none⟩) (by simp <;> omega)); have hc1 := (fun o => hb2.cell (p := ⟨w.heap.size + 1, o, none⟩) (by simp <;> omega)); have hf1 := (fun o => hb2.frozen (p := ⟨w.heap.size + 1, o, none⟩) (by simp <;> omega)); have hc2 := (fun o => hb2.cell (p := ⟨w.heap.size + 1 + 1, o, none⟩) (by simp <;> omega)); have hf2 := (fun o => hb2.frozen (p := ⟨w.heap.size + 1 + 1, o, none⟩) (by simp <;> omega)))
      | (fail))
  all_goals
    have M3 := (Mem.drew M2).below hb2
    have hlq : (q ++ [⟨id, true, ⟨k2, n2, m2, s2, i2⟩⟩] : List Wt).length = (q.length + 1) := by simp
    rw [hlq] at hown
    clear hlq
    obtain ⟨W3, hW3⟩ : ∃ W3, W3 = (w2.setCells (w.heap.size + 1 + 1) 0 [.bool true, .int .i64 k, .int .i64 n, .string m, .string s, .string i, .slice ao2 (q.length + 1) cap2]) := ⟨_, rfl⟩
    have hY : Below w.heap.size w W3 := by rw [hW3]; exact (below_setCells ((below_dr hB2).trans (hb2.mono (by simp; omega))) (b := w.heap.size + 1 + 1) (by omega) 0 [.bool true, .int .i64 k, .int .i64 n, .string m, .string s, .string i, .slice ao2 (q.length + 1) cap2])
    have hZ : OwnQ w.heap.size W3 (.slice ao2 (q.length + 1) cap2) (q ++ [⟨id, true, ⟨k2, n2, m2, s2, i2⟩⟩]) := by rw [hW3]; exact OwnQ.low (own_set hown (b := w.heap.size + 1 + 1) (by simp; omega) [.bool true, .int .i64 k, .int .i64 n, .string m, .string s, .string i, .slice ao2 (q.length + 1) cap2] 0) (by simp; omega)
    have hX2 : W3.heap[w.heap.size + 1 + 1]? = some (.cells [.bool true, .int .i64 k, .int .i64 n, .string m, .string s, .string i, .slice ao2 (q.length + 1) cap2].toArray 31) := by rw [hW3]; exact (set_block M3.1 [.bool true, .int .i64 k, .int .i64 n, .string m, .string s, .string i, .slice ao2 (q.length + 1) cap2] rfl)
    refine at_world hW3 ?_
    have k2_0 := Mem.cell hX2 0 rfl
    have k2_1 := Mem.cell hX2 1 rfl
    have k2_2 := Mem.cell hX2 2 rfl
    have k2_3 := Mem.cell hX2 3 rfl
    have k2_4 := Mem.cell hX2 4 rfl
    have k2_5 := Mem.cell hX2 5 rfl
    have k2_6 := Mem.cell hX2 6 rfl
    have HY2 := Lib.hid hY
    have HZ2 := Lib.hid hZ
    clear hY hZ hW3 hb2 hown M2 M3 ho2_0 ho2_1  hc0 hf0 hc1 hf1 hc2 hf2 hX2
    go_wp2_with fail
    refine bodyPost_ret (v := .tuple #[.agg #[.bool true, .int .i64 k, .int .i64 n, .string m, .string s, .string i, .slice ao2 (q.length + 1) cap2], .bool false, .string ⟨#[]⟩]) (by simp [results, Tryd.results11, go_sem, k2_0, k2_1, k2_2, k2_3, k2_4, k2_5, k2_6]) rfl ⟨_, rfl, HZ2.out, HY2.out⟩
set_option maxRecDepth 100000 in
set_option maxHeartbeats 2000000 in
theorem mput_none (k n : Int) (m s i : ByteArray) (id : ByteArray) (k2 n2 : Int) (m2 s2 i2 : ByteArray) (q : List Wt) (v : Value) (w : World) (h : QAt w v q) (hlen : q.length * 88 ≤ 140737488355328 - 88) (hno : firstI (fun x => !x.put) q = -1) :
    Calls Tryd.prog 11 #[.agg #[.bool false, .int .i64 k, .int .i64 n, .string m, .string s, .string i, v], .string id, .agg #[.int .i64 k2, .int .i64 n2, .string m2, .string s2, .string i2]] w (PutEnds12 true ⟨k2, n2, m2, s2, i2⟩ q true ⟨#[]⟩ w) := by
  have HQ : Hid (∀ W, Below w.heap.size w W → QAt W v q) := Lib.hid (fun W hb => h.below hb)
  clear h
  have HN := Lib.hid hno
  clear hno
  go_enter Tryd.func11, Tryd.ntmps11
  go_wp2_with fail
  refine Calls.named ?_
  intro W hW
  have hB1 : Below w.heap.size w W := by rw [hW]; exact below_al (below_al (below_al (Below.refl _ _) _) _) _
  have M1 : Mem W [(w.heap.size + 1 + 1, .cells #[.bool false, .int .i64 0, .int .i64 0, .string ⟨#[]⟩, .string ⟨#[]⟩, .string ⟨#[]⟩, .slice none 0 0] 31), (w.heap.size + 1, .cells #[.int .i64 k2, .int .i64 n2, .string m2, .string s2, .string i2] 28), (w.heap.size, .cells #[.bool false, .int .i64 k, .int .i64 n, .string m, .string s, .string i, v] 31)] := by
    rw [hW]
    exact ((((Mem.nil w).new' _ rfl _).new' _ (by simp) _).new' _ (by simp) _)
  have hz : W.heap.size = w.heap.size + 3 := by rw [hW]; simp
  have HZ := Lib.hid hz
  clear hW hz
  refine (first_take q v _ (HQ.out _ hB1) (by omega)).mono ?_
  rw [HN.out]
  rintro e w1 ⟨rfl, hb1⟩
  have M2 := M1.below hb1
  have hB2 := below_then hB1 hb1
  have hz1 : w.heap.size + 3 ≤ w1.heap.size := by have := HZ.out; have := hb1.size; omega
  clear M1 hB1 hb1
  have c0_0 := Mem.cell M2.2.2.1 0 rfl
  have c0_1 := Mem.cell M2.2.2.1 1 rfl
  have c0_2 := Mem.cell M2.2.2.1 2 rfl
  have c0_3 := Mem.cell M2.2.2.1 3 rfl
  have c0_4 := Mem.cell M2.2.2.1 4 rfl
  have c0_5 := Mem.cell M2.2.2.1 5 rfl
  have c0_6 := Mem.cell M2.2.2.1 6 rfl
  have f0 := Mem.free M2.2.2.1
  have c1_0 := Mem.cell M2.2.1 0 rfl
  have c1_1 := Mem.cell M2.2.1 1 rfl
  have c1_2 := Mem.cell M2.2.1 2 rfl
  have c1_3 := Mem.cell M2.2.1 3 rfl
  have c1_4 := Mem.cell M2.2.1 4 rfl
  have f1 := Mem.free M2.2.1
  have c2_0 := Mem.cell M2.1 0 rfl
  have c2_1 := Mem.cell M2.1 1 rfl
  have c2_2 := Mem.cell M2.1 2 rfl
  have c2_3 := Mem.cell M2.1 3 rfl
  have c2_4 := Mem.cell M2.1 4 rfl
  have c2_5 := Mem.cell M2.1 5 rfl
  have c2_6 := Mem.cell M2.1 6 rfl
  have f2 := Mem.free M2.1
  have ho2_0 := cell_other (b := w.heap.size) (b' := w.heap.size + 1 + 1) (by omega)
  have ho2_1 := cell_other (b := w.heap.size + 1) (b' := w.heap.size + 1 + 1) (by omega)
  go_wp2_with fail
  go_region_held3 (fun w' => w'.cell? ⟨w.heap.size, 0, none⟩ = some (.bool false) ∧ w'.cell? ⟨w.heap.size, 1, none⟩ = some (.int .i64 k) ∧ w'.cell? ⟨w.heap.size, 2, none⟩ = some (.int .i64 n) ∧ w'.cell? ⟨w.heap.size, 3, none⟩ = some (.string m) ∧ w'.cell? ⟨w.heap.size, 4, none⟩ = some (.string s) ∧ w'.cell? ⟨w.heap.size, 5, none⟩ = some (.string i) ∧ w'.cell? ⟨w.heap.size, 6, none⟩ = some (v) ∧ w'.cell? ⟨w.heap.size + 1, 0, none⟩ = some (.int .i64 k2) ∧ w'.cell? ⟨w.heap.size + 1, 1, none⟩ = some (.int .i64 n2) ∧ w'.cell? ⟨w.heap.size + 1, 2, none⟩ = some (.string m2) ∧ w'.cell? ⟨w.heap.size + 1, 3, none⟩ = some (.string s2) ∧ w'.cell? ⟨w.heap.size + 1, 4, none⟩ = some (.string i2))
    (go_keep)
    (first
      | (go_at_call 19; (with_reducible refine (cloneQ q v _ (HQ.out _ (by repeat' (first | exact hB2 | refine below_dr ?_ | (refine Below.setCell ?_ (by simp <;> omega) _)))) (by omega)).mono ?_); rintro e w2 ⟨v1, rfl, hown, hb2⟩; obtain ⟨ao2, cap2, rfl⟩ := QAt.slice hown.at; have hc0 := (fun o => hb2.cell (p := ⟨w.heap.size, o, none⟩) (by simp <;> omega)); have hf0 := (fun o => hb2.frozen (p := ⟨w.heap.size, o, none⟩) (by simp <;> omega)); have hc1 := (fun o => hb2.cell (p := ⟨w.heap.size + 1, o, none⟩) (by simp <;> omega)); have hf1 := (fun o => hb2.frozen (p := ⟨w.heap.size + 1, o, none⟩) (by simp <;> omega)); have hc2 := (fun o => hb2.cell (p := ⟨w.heap.size + 1 + 1, o, none⟩) (by simp <;> omega)); have hf2 := (fun o => hb2.frozen (p := ⟨w.heap.size + 1 + 1, o, none⟩) (by simp <;> omega)))
      | (fail))
  all_goals
    have M3 := (Mem.drew M2).below hb2
    obtain ⟨W3, hW3⟩ : ∃ W3, W3 = (w2.setCells (w.heap.size + 1 + 1) 0 [.bool true, .int .i64 k2, .int .i64 n2, .string m2, .string s2, .string i2, .slice ao2 q.length cap2]) := ⟨_, rfl⟩
    have hY : Below w.heap.size w W3 := by rw [hW3]; exact (below_setCells ((below_dr hB2).trans (hb2.mono (by simp; omega))) (b := w.heap.size + 1 + 1) (by omega) 0 [.bool true, .int .i64 k2, .int .i64 n2, .string m2, .string s2, .string i2, .slice ao2 q.length cap2])
    have hZ : OwnQ w.heap.size W3 (.slice ao2 q.length cap2) (q) := by rw [hW3]; exact OwnQ.low (own_set hown (b := w.heap.size + 1 + 1) (by simp; omega) [.bool true, .int .i64 k2, .int .i64 n2, .string m2, .string s2, .string i2, .slice ao2 q.length cap2] 0) (by simp; omega)
    have hX2 : W3.heap[w.heap.size + 1 + 1]? = some (.cells [.bool true, .int .i64 k2, .int .i64 n2, .string m2, .string s2, .string i2, .slice ao2 q.length cap2].toArray 31) := by rw [hW3]; exact (set_block M3.1 [.bool true, .int .i64 k2, .int .i64 n2, .string m2, .string s2, .string i2, .slice ao2 q.length cap2] rfl)
    refine at_world hW3 ?_
    have k2_0 := Mem.cell hX2 0 rfl
    have k2_1 := Mem.cell hX2 1 rfl
    have k2_2 := Mem.cell hX2 2 rfl
    have k2_3 := Mem.cell hX2 3 rfl
    have k2_4 := Mem.cell hX2 4 rfl
    have k2_5 := Mem.cell hX2 5 rfl
    have k2_6 := Mem.cell hX2 6 rfl
    have HY2 := Lib.hid hY
    have HZ2 := Lib.hid hZ
    clear hY hZ hW3 hb2 hown M2 M3 ho2_0 ho2_1  hc0 hf0 hc1 hf1 hc2 hf2 hX2
    go_wp2_with fail
    refine bodyPost_ret (v := .tuple #[.agg #[.bool true, .int .i64 k2, .int .i64 n2, .string m2, .string s2, .string i2, .slice ao2 q.length cap2], .bool true, .string ⟨#[]⟩]) (by simp [results, Tryd.results11, go_sem, k2_0, k2_1, k2_2, k2_3, k2_4, k2_5, k2_6]) rfl ⟨_, rfl, HZ2.out, HY2.out⟩
set_option maxRecDepth 100000 in
set_option maxHeartbeats 2000000 in
theorem mput_next (k n : Int) (m s i : ByteArray) (id : ByteArray) (k2 n2 : Int) (m2 s2 i2 : ByteArray) (q : List Wt) (v : Value) (w : World) (h : QAt w v q) (hlen : q.length * 88 ≤ 140737488355328 - 88) (at_ : Nat) (hat : at_ < q.length) (hno : firstI (fun x => !x.put) q = (at_ : Int)) (y0 : ByteArray) (y1 : Bool) (y2 y3 : Int) (y4 y5 y6 : ByteArray) (hy : q[at_] = ⟨y0, y1, ⟨y2, y3, y4, y5, y6⟩⟩) :
    Calls Tryd.prog 11 #[.agg #[.bool false, .int .i64 k, .int .i64 n, .string m, .string s, .string i, v], .string id, .agg #[.int .i64 k2, .int .i64 n2, .string m2, .string s2, .string i2]] w (PutEnds12 false ⟨k, n, m, s, i⟩ (q.eraseIdx at_) true y0 w) := by
  have HQ : Hid (∀ W, Below w.heap.size w W → QAt W v q) := Lib.hid (fun W hb => h.below hb)
  clear h
  have HN := Lib.hid hno
  have HY0 := Lib.hid hy
  clear hno hy
  go_enter Tryd.func11, Tryd.ntmps11
  go_wp2_with fail
  refine Calls.named ?_
  intro W hW
  have hB1 : Below w.heap.size w W := by rw [hW]; exact below_al (below_al (below_al (Below.refl _ _) _) _) _
  have M1 : Mem W [(w.heap.size + 1 + 1, .cells #[.bool false, .int .i64 0, .int .i64 0, .string ⟨#[]⟩, .string ⟨#[]⟩, .string ⟨#[]⟩, .slice none 0 0] 31), (w.heap.size + 1, .cells #[.int .i64 k2, .int .i64 n2, .string m2, .string s2, .string i2] 28), (w.heap.size, .cells #[.bool false, .int .i64 k, .int .i64 n, .string m, .string s, .string i, v] 31)] := by
    rw [hW]
    exact ((((Mem.nil w).new' _ rfl _).new' _ (by simp) _).new' _ (by simp) _)
  have hz : W.heap.size = w.heap.size + 3 := by rw [hW]; simp
  have HZ := Lib.hid hz
  clear hW hz
  refine (first_take q v _ (HQ.out _ hB1) (by omega)).mono ?_
  rw [HN.out]
  rintro e w1 ⟨rfl, hb1⟩
  have M2 := M1.below hb1
  have hB2 := below_then hB1 hb1
  have hz1 : w.heap.size + 3 ≤ w1.heap.size := by have := HZ.out; have := hb1.size; omega
  clear M1 hB1 hb1
  have c0_0 := Mem.cell M2.2.2.1 0 rfl
  have c0_1 := Mem.cell M2.2.2.1 1 rfl
  have c0_2 := Mem.cell M2.2.2.1 2 rfl
  have c0_3 := Mem.cell M2.2.2.1 3 rfl
  have c0_4 := Mem.cell M2.2.2.1 4 rfl
  have c0_5 := Mem.cell M2.2.2.1 5 rfl
  have c0_6 := Mem.cell M2.2.2.1 6 rfl
  have f0 := Mem.free M2.2.2.1
  have c1_0 := Mem.cell M2.2.1 0 rfl
  have c1_1 := Mem.cell M2.2.1 1 rfl
  have c1_2 := Mem.cell M2.2.1 2 rfl
  have c1_3 := Mem.cell M2.2.1 3 rfl
  have c1_4 := Mem.cell M2.2.1 4 rfl
  have f1 := Mem.free M2.2.1
  have c2_0 := Mem.cell M2.1 0 rfl
  have c2_1 := Mem.cell M2.1 1 rfl
  have c2_2 := Mem.cell M2.1 2 rfl
  have c2_3 := Mem.cell M2.1 3 rfl
  have c2_4 := Mem.cell M2.1 4 rfl
  have c2_5 := Mem.cell M2.1 5 rfl
  have c2_6 := Mem.cell M2.1 6 rfl
  have f2 := Mem.free M2.1
  obtain ⟨ao, cap, rfl⟩ := (HQ.out _ hB2).slice
  obtain ⟨qb, off, rfl, -, hqb, hg⟩ := slots_someQ (HQ.out _ (Below.refl _ w)) (by omega)
  have hy := HY0.out
  have hg2 := hg at_
  clear hg
  have r0 := (hB2.cell (p := ⟨qb, off + at_ * 7 + 0, none⟩) hqb).trans (hg2 0 hat _ (by rw [hy]; rfl))
  have r1 := (hB2.cell (p := ⟨qb, off + at_ * 7 + 1, none⟩) hqb).trans (hg2 1 hat _ (by rw [hy]; rfl))
  have r2 := (hB2.cell (p := ⟨qb, off + at_ * 7 + 2, none⟩) hqb).trans (hg2 2 hat _ (by rw [hy]; rfl))
  have r3 := (hB2.cell (p := ⟨qb, off + at_ * 7 + 3, none⟩) hqb).trans (hg2 3 hat _ (by rw [hy]; rfl))
  have r4 := (hB2.cell (p := ⟨qb, off + at_ * 7 + 4, none⟩) hqb).trans (hg2 4 hat _ (by rw [hy]; rfl))
  have r5 := (hB2.cell (p := ⟨qb, off + at_ * 7 + 5, none⟩) hqb).trans (hg2 5 hat _ (by rw [hy]; rfl))
  have r6 := (hB2.cell (p := ⟨qb, off + at_ * 7 + 6, none⟩) hqb).trans (hg2 6 hat _ (by rw [hy]; rfl))
  simp only [Nat.add_zero] at r0
  have HY := Lib.hid hy
  clear hg2 hy
  have g1 : (0 : Int) ≤ (at_ : Int) := by omega
  have g2 : (at_ : Int) < (q.length : Int) := by omega
  have ho2_0 := cell_other (b := w.heap.size) (b' := w.heap.size + 1 + 1) (by omega)
  have ho2_q := cell_other (b := qb) (b' := w.heap.size + 1 + 1) (by omega)
  go_wp2_with fail
  go_region_held3 (fun w' => w'.cell? ⟨w.heap.size, 0, none⟩ = some (.bool false) ∧ w'.cell? ⟨w.heap.size, 1, none⟩ = some (.int .i64 k) ∧ w'.cell? ⟨w.heap.size, 2, none⟩ = some (.int .i64 n) ∧ w'.cell? ⟨w.heap.size, 3, none⟩ = some (.string m) ∧ w'.cell? ⟨w.heap.size, 4, none⟩ = some (.string s) ∧ w'.cell? ⟨w.heap.size, 5, none⟩ = some (.string i) ∧ w'.cell? ⟨w.heap.size, 6, none⟩ = some (.slice (some ⟨qb, off, none⟩) q.length cap) ∧ w'.cell? ⟨qb, off + at_ * 7, none⟩ = some (.string y0) ∧ w'.cell? ⟨qb, off + at_ * 7 + 2, none⟩ = some (.int .i64 y2) ∧ w'.cell? ⟨qb, off + at_ * 7 + 3, none⟩ = some (.int .i64 y3) ∧ w'.cell? ⟨qb, off + at_ * 7 + 4, none⟩ = some (.string y4) ∧ w'.cell? ⟨qb, off + at_ * 7 + 5, none⟩ = some (.string y5) ∧ w'.cell? ⟨qb, off + at_ * 7 + 6, none⟩ = some (.string y6))
    (go_keep)
    (first
      | (go_at_call 20; (with_reducible refine (without_any q (.slice (some ⟨qb, off, none⟩) q.length cap) _ (HQ.out _ (by repeat' (first | exact hB2 | refine below_dr ?_ | (refine Below.setCell ?_ (by simp <;> omega) _)))) (by omega) at_ hat).mono ?_); rintro e w2 ⟨v1, rfl, hown, hb2⟩; obtain ⟨ao2, cap2, rfl⟩ := QAt.slice hown.at; have hc0 := (fun o => hb2.cell (p := ⟨w.heap.size, o, none⟩) (by simp <;> omega)); have hf0 := (fun o => hb2.frozen (p := ⟨w.heap.size, o, none⟩) (by simp <;> omega)); have hc1 := (fun o => hb2.cell (p := ⟨w.heap.size + 1, o, none⟩) (by simp <;> omega)); have hf1 := (fun o => hb2.frozen (p := ⟨w.heap.size + 1, o, none⟩) (by simp <;> omega)); have hc2 := (fun o => hb2.cell (p := ⟨w.heap.size + 1 + 1, o, none⟩) (by simp <;> omega)); have hf2 := (fun o => hb2.frozen (p := ⟨w.heap.size + 1 + 1, o, none⟩) (by simp <;> omega)); have hcq := (fun o => hb2.cell (p := ⟨qb, o, none⟩) (by simp <;> omega)))
      | (fail))
  all_goals
    have M3 := (Mem.drew M2).below hb2
    obtain ⟨W3, hW3⟩ : ∃ W3, W3 = (w2.setCells (w.heap.size + 1 + 1) 0 [.bool false, .int .i64 k, .int .i64 n, .string m, .string s, .string i, .slice ao2 (q.eraseIdx at_).length cap2]) := ⟨_, rfl⟩
    have hY : Below w.heap.size w W3 := by rw [hW3]; exact (below_setCells ((below_dr hB2).trans (hb2.mono (by simp; omega))) (b := w.heap.size + 1 + 1) (by omega) 0 [.bool false, .int .i64 k, .int .i64 n, .string m, .string s, .string i, .slice ao2 (q.eraseIdx at_).length cap2])
    have hZ : OwnQ w.heap.size W3 (.slice ao2 (q.eraseIdx at_).length cap2) (q.eraseIdx at_) := by rw [hW3]; exact OwnQ.low (own_set hown (b := w.heap.size + 1 + 1) (by simp; omega) [.bool false, .int .i64 k, .int .i64 n, .string m, .string s, .string i, .slice ao2 (q.eraseIdx at_).length cap2] 0) (by simp; omega)
    have hX2 : W3.heap[w.heap.size + 1 + 1]? = some (.cells [.bool false, .int .i64 k, .int .i64 n, .string m, .string s, .string i, .slice ao2 (q.eraseIdx at_).length cap2].toArray 31) := by rw [hW3]; exact (set_block M3.1 [.bool false, .int .i64 k, .int .i64 n, .string m, .string s, .string i, .slice ao2 (q.eraseIdx at_).length cap2] rfl)
    refine at_world hW3 ?_
    have k2_0 := Mem.cell hX2 0 rfl
    have k2_1 := Mem.cell hX2 1 rfl
    have k2_2 := Mem.cell hX2 2 rfl
    have k2_3 := Mem.cell hX2 3 rfl
    have k2_4 := Mem.cell hX2 4 rfl
    have k2_5 := Mem.cell hX2 5 rfl
    have k2_6 := Mem.cell hX2 6 rfl
    have HY2 := Lib.hid hY
    have HZ2 := Lib.hid hZ
    clear hY hZ hW3 hb2 hown M2 M3 ho2_0  ho2_q hcq hc0 hf0 hc1 hf1 hc2 hf2 hX2
    go_wp2_with fail
    refine bodyPost_ret (v := .tuple #[.agg #[.bool false, .int .i64 k, .int .i64 n, .string m, .string s, .string i, .slice ao2 (q.eraseIdx at_).length cap2], .bool true, .string y0]) (by simp [results, Tryd.results11, go_sem, k2_0, k2_1, k2_2, k2_3, k2_4, k2_5, k2_6]) rfl ⟨_, rfl, HZ2.out, HY2.out⟩
set_option maxRecDepth 100000 in
set_option maxHeartbeats 2000000 in
theorem mleave_yes (f : Bool) (k n : Int) (m s i : ByteArray) (id : ByteArray) (q : List Wt) (v : Value) (w : World) (h : QAt w v q) (hlen : q.length * 88 ≤ 140737488355328 - 88) (at_ : Nat) (hat : at_ < q.length) (hno : firstI (fun x => x.id.toList == id.toList) q = (at_ : Int)) :
    Calls Tryd.prog 13 #[.agg #[.bool f, .int .i64 k, .int .i64 n, .string m, .string s, .string i, v], .string id] w (LeaveEnds w f ⟨k, n, m, s, i⟩ (q.eraseIdx at_) true) := by
  have HQ : Hid (∀ W, Below w.heap.size w W → QAt W v q) := Lib.hid (fun W hb => h.below hb)
  clear h
  have HN := Lib.hid hno
  clear hno
  have g1 : (0 : Int) ≤ (at_ : Int) := by omega
  go_enter Tryd.func13, Tryd.ntmps13
  go_wp2_with fail
  refine Calls.named ?_
  intro W hW
  have hB1 : Below w.heap.size w W := by rw [hW]; exact below_al (below_al (below_al (Below.refl _ _) _) _) _
  have M1 : Mem W [(w.heap.size + 1 + 1, .cells #[.bool false, .int .i64 0, .int .i64 0, .string ⟨#[]⟩, .string ⟨#[]⟩, .string ⟨#[]⟩, .slice none 0 0] 31), (w.heap.size + 1, .cells #[.string id] 9), (w.heap.size, .cells #[.bool f, .int .i64 k, .int .i64 n, .string m, .string s, .string i, v] 31)] := by
    rw [hW]
    exact ((((Mem.nil w).new' _ rfl _).new' _ (by simp) _).new' _ (by simp) _)
  have hz : W.heap.size = w.heap.size + 3 := by rw [hW]; simp
  have HZ := Lib.hid hz
  clear hW hz
  refine (first_id q v _ (HQ.out _ hB1) (by omega) _ id (Lib.hid M1.2.1)).mono ?_
  rw [HN.out]
  rintro e w1 ⟨rfl, hb1⟩
  have M2 := M1.below hb1
  have hB2 := below_then hB1 hb1
  have hz1 : w.heap.size + 3 ≤ w1.heap.size := by have := HZ.out; have := hb1.size; omega
  clear M1 hB1 hb1
  have c0_0 := Mem.cell M2.2.2.1 0 rfl
  have c0_1 := Mem.cell M2.2.2.1 1 rfl
  have c0_2 := Mem.cell M2.2.2.1 2 rfl
  have c0_3 := Mem.cell M2.2.2.1 3 rfl
  have c0_4 := Mem.cell M2.2.2.1 4 rfl
  have c0_5 := Mem.cell M2.2.2.1 5 rfl
  have c0_6 := Mem.cell M2.2.2.1 6 rfl
  have f0 := Mem.free M2.2.2.1
  have c1_0 := Mem.cell M2.2.1 0 rfl
  have f1 := Mem.free M2.2.1
  have c2_0 := Mem.cell M2.1 0 rfl
  have c2_1 := Mem.cell M2.1 1 rfl
  have c2_2 := Mem.cell M2.1 2 rfl
  have c2_3 := Mem.cell M2.1 3 rfl
  have c2_4 := Mem.cell M2.1 4 rfl
  have c2_5 := Mem.cell M2.1 5 rfl
  have c2_6 := Mem.cell M2.1 6 rfl
  have f2 := Mem.free M2.1
  have ho2_0 := cell_other (b := w.heap.size) (b' := w.heap.size + 1 + 1) (by omega)
  go_wp2_with fail
  go_region_held3 (fun w' => w'.cell? ⟨w.heap.size, 0, none⟩ = some (.bool f) ∧ w'.cell? ⟨w.heap.size, 1, none⟩ = some (.int .i64 k) ∧ w'.cell? ⟨w.heap.size, 2, none⟩ = some (.int .i64 n) ∧ w'.cell? ⟨w.heap.size, 3, none⟩ = some (.string m) ∧ w'.cell? ⟨w.heap.size, 4, none⟩ = some (.string s) ∧ w'.cell? ⟨w.heap.size, 5, none⟩ = some (.string i) ∧ w'.cell? ⟨w.heap.size, 6, none⟩ = some (v))
    (go_keep)
    (first
      | (go_at_call 20; (with_reducible refine (without_any q v _ (HQ.out _ (by repeat' (first | exact hB2 | refine below_dr ?_ | (refine Below.setCell ?_ (by simp <;> omega) _)))) (by omega) at_ hat).mono ?_); rintro e w2 ⟨v1, rfl, hown, hb2⟩; obtain ⟨ao2, cap2, rfl⟩ := QAt.slice hown.at; have hc0 := (fun o => hb2.cell (p := ⟨w.heap.size, o, none⟩) (by simp <;> omega)); have hf0 := (fun o => hb2.frozen (p := ⟨w.heap.size, o, none⟩) (by simp <;> omega)); have hc1 := (fun o => hb2.cell (p := ⟨w.heap.size + 1, o, none⟩) (by simp <;> omega)); have hf1 := (fun o => hb2.frozen (p := ⟨w.heap.size + 1, o, none⟩) (by simp <;> omega)); have hc2 := (fun o => hb2.cell (p := ⟨w.heap.size + 1 + 1, o, none⟩) (by simp <;> omega)); have hf2 := (fun o => hb2.frozen (p := ⟨w.heap.size + 1 + 1, o, none⟩) (by simp <;> omega)))
      | (fail))
  all_goals
    have M3 := (Mem.drew M2).below hb2
    obtain ⟨W3, hW3⟩ : ∃ W3, W3 = (w2.setCells (w.heap.size + 1 + 1) 0 [.bool f, .int .i64 k, .int .i64 n, .string m, .string s, .string i, .slice ao2 (q.eraseIdx at_).length cap2]) := ⟨_, rfl⟩
    have hY : Below w.heap.size w W3 := by rw [hW3]; exact (below_setCells ((below_dr hB2).trans (hb2.mono (by simp; omega))) (b := w.heap.size + 1 + 1) (by omega) 0 [.bool f, .int .i64 k, .int .i64 n, .string m, .string s, .string i, .slice ao2 (q.eraseIdx at_).length cap2])
    have hZ : OwnQ w.heap.size W3 (.slice ao2 (q.eraseIdx at_).length cap2) (q.eraseIdx at_) := by rw [hW3]; exact OwnQ.low (own_set hown (b := w.heap.size + 1 + 1) (by simp; omega) [.bool f, .int .i64 k, .int .i64 n, .string m, .string s, .string i, .slice ao2 (q.eraseIdx at_).length cap2] 0) (by simp; omega)
    have hX2 : W3.heap[w.heap.size + 1 + 1]? = some (.cells [.bool f, .int .i64 k, .int .i64 n, .string m, .string s, .string i, .slice ao2 (q.eraseIdx at_).length cap2].toArray 31) := by rw [hW3]; exact (set_block M3.1 [.bool f, .int .i64 k, .int .i64 n, .string m, .string s, .string i, .slice ao2 (q.eraseIdx at_).length cap2] rfl)
    refine at_world hW3 ?_
    have k2_0 := Mem.cell hX2 0 rfl
    have k2_1 := Mem.cell hX2 1 rfl
    have k2_2 := Mem.cell hX2 2 rfl
    have k2_3 := Mem.cell hX2 3 rfl
    have k2_4 := Mem.cell hX2 4 rfl
    have k2_5 := Mem.cell hX2 5 rfl
    have k2_6 := Mem.cell hX2 6 rfl
    have HY2 := Lib.hid hY
    have HZ2 := Lib.hid hZ
    clear hY hZ hW3 hb2 hown M2 M3 ho2_0  hc0 hf0 hc1 hf1 hc2 hf2 hX2
    go_wp2_with fail
    refine bodyPost_ret (v := .tuple #[.agg #[.bool f, .int .i64 k, .int .i64 n, .string m, .string s, .string i, .slice ao2 (q.eraseIdx at_).length cap2], .bool true]) (by simp [results, Tryd.results13, go_sem, k2_0, k2_1, k2_2, k2_3, k2_4, k2_5, k2_6]) rfl ⟨_, rfl, HZ2.out, HY2.out⟩
end Go.Proofs.YtdpmilffadalkaaDoor
