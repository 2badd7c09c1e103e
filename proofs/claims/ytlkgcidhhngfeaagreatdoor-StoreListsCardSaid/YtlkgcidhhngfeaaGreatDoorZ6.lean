/- ObS, ObF: joined into one text; each part says below what it holds. -/
import Derived.Test.YtlkgcidhhngfeaaGreatDoorBlkS
import Derived.Test.YtlkgcidhhngfeaaGreatDoorMvEqS
import Derived.Test.YtlkgcidhhngfeaaGreatDoorMvCloneS
/- A thing of the store (19 cells) under one letter, all its fields. -/
namespace Go.Proofs.YtlkgcidhhngfeaaGreatDoor
open Go.RowKit
/-- a thing as it lies: its list is a slice -/
structure Ox where
  kd : Int
  lS : ByteArray
  lI : ByteArray
  vk : Int
  vx : Int
  vm : ByteArray
  vS : ByteArray
  vI : ByteArray
  ex : Bool
  dn : Bool
  vf : Bool
  wk : Int
  wx : Int
  wm : ByteArray
  wS : ByteArray
  wI : ByteArray
  q : Sl
  fn : Int
  ma : Int
def oxL (o : Ox) : List Value := [.int .i64 o.kd, .string o.lS, .string o.lI, .int .i64 o.vk, .int .i64 o.vx, .string o.vm, .string o.vS, .string o.vI, .bool o.ex, .bool o.dn, .bool o.vf, .int .i64 o.wk, .int .i64 o.wx, .string o.wm, .string o.wS, .string o.wI, .slice o.q.a o.q.n o.q.c, .int .i64 o.fn, .int .u8 o.ma]
def ox (o : Ox) : Array Value := (oxL o).toArray
def ox0 : Ox := ⟨0, ⟨#[]⟩, ⟨#[]⟩, 0, 0, ⟨#[]⟩, ⟨#[]⟩, ⟨#[]⟩, false, false, false, 0, 0, ⟨#[]⟩, ⟨#[]⟩, ⟨#[]⟩, ⟨none, 0, 0⟩, 0, 0⟩
theorem zero_ox (w : World) : (zeroValue 32).run Tryz.prog w = .ok (.agg (ox ox0)) w := by kernel_rfl
theorem one_ox (o : Ox) : (ox o).all (·.oneCell') = true := by
  rw [← Array.all_toList]
  rfl
@[simp] theorem ox_size (o : Ox) : (ox o).size = 19 := rfl
theorem info_ox : (Tryz.prog.info? 32).map (·.size) = some 19 := by kernel_rfl
theorem load_ox {ops : Array Oper} {rest : List Oper} {op : Oper} {a : Act} {w : World} {Q : Exit → Act → World → Prop} (hgd : op.guard = none) (x : Operand) (ho : op.op = .load 32 x)
    (b : Nat) (hx : a.eval x = .pointer (some ⟨b, 0, none⟩)) (s : Ox) (hb : w.heap[b]? = some (.cells (ox s) 32))
    (h : wpList Tryz.prog ops Q rest (a.put op.dst (.agg (ox s))) w) : wpList Tryz.prog ops Q (op :: rest) a w :=
  wpList_load_mid hgd 32 x ho b 0 hx (oxL s) _ (range_block hb) Tryz.underlying32 rfl info_ox h
theorem load_ox_at {ops : Array Oper} {rest : List Oper} {op : Oper} {a : Act} {w : World} {Q : Exit → Act → World → Prop} (hgd : op.guard = none) (x : Operand) (ho : op.op = .load 32 x)
    (b o : Nat) (hx : a.eval x = .pointer (some ⟨b, o, none⟩)) (s : Ox) (hb : w.rangeAt b o (oxL s))
    (h : wpList Tryz.prog ops Q rest (a.put op.dst (.agg (ox s))) w) : wpList Tryz.prog ops Q (op :: rest) a w :=
  wpList_load_mid hgd 32 x ho b o hx (oxL s) _ hb Tryz.underlying32 rfl info_ox h
theorem store_ox {ops : Array Oper} {rest : List Oper} {op : Oper} {a : Act} {w : World} {Q : Exit → Act → World → Prop} (hgd : op.guard = none) (x y : Operand) (ho : op.op = .store 32 x y)
    (b : Nat) (hx : a.eval x = .pointer (some ⟨b, 0, none⟩)) (s0 s : Ox) (hy : a.eval y = .agg (ox s)) (hb : w.heap[b]? = some (.cells (ox s0) 32))
    (h : ∀ W, W = w.setCells b 0 (oxL s) → wpList Tryz.prog ops Q rest (a.put op.dst undef) W) : wpList Tryz.prog ops Q (op :: rest) a w :=
  wpList_store_mid hgd 32 x y ho b 0 (ox s) hx hy (there_block hb (Nat.le_refl 19)) info_ox (one_ox s) (h _ rfl)
theorem set_ox {w : World} {b : Nat} {s0 : Ox} (hb : w.heap[b]? = some (.cells (ox s0) 32)) (s : Ox) : (w.setCells b 0 (oxL s)).heap[b]? = some (.cells (ox s) 32) :=
  set_block hb (oxL s) rfl
theorem results_ox1 {fn : Func} {p : Tmp} (h : fn.results = #[.cell p 32]) (tmps : Array Value) (w : World) (g : Nat) (t : Ox) (hp : tmps.getD p undef = .pointer (some ⟨g, 0, none⟩)) (hg : w.heap[g]? = some (.cells (ox t) 32)) :
    (results fn tmps).run Tryz.prog w = .ok (.agg (ox t)) w :=
  results_cell_row h tmps w g _ (ox t) (0, 0) _ hp hg Tryz.underlying32 rfl info_ox
theorem results_ox2 {fn : Func} {p u : Tmp} (h : fn.results = #[.cell p 32, .tmp u]) (tmps : Array Value) (w : World) (g : Nat) (t : Ox) (hp : tmps.getD p undef = .pointer (some ⟨g, 0, none⟩)) (hg : w.heap[g]? = some (.cells (ox t) 32)) :
    (results fn tmps).run Tryz.prog w = .ok (.tuple #[.agg (ox t), tmps.getD u undef]) w := by
  have hp' : tmps[p]?.getD undef = .pointer (some ⟨g, 0, none⟩) := by simpa using hp
  have hl := run_loadVar_row w g _ _ (ox t) (0, 0) _ hg Tryz.underlying32 rfl info_ox
  simp [results, h, hp', asAddr, hl]
theorem ox_inj {a b : Ox} (h : ox a = ox b) : a = b := by
  obtain ⟨a0, a1, a2, a3, a4, a5, a6, a7, a8, a9, a10, a11, a12, a13, a14, a15, ⟨p, q, r⟩, s, t⟩ := a
  obtain ⟨b0, b1, b2, b3, b4, b5, b6, b7, b8, b9, b10, b11, b12, b13, b14, b15, ⟨p', q', r'⟩, s', t'⟩ := b
  have h1 := congrArg Array.toList h
  simp only [ox, oxL, List.cons.injEq, Value.int.injEq, Value.string.injEq, Value.bool.injEq, Value.slice.injEq, true_and, and_true] at h1
  simp_all
/-- a thing in plain words -/
structure OB where
  kd : Int
  lS : ByteArray
  lI : ByteArray
  vk : Int
  vx : Int
  vm : ByteArray
  vS : ByteArray
  vI : ByteArray
  ex : Bool
  dn : Bool
  vf : Bool
  wk : Int
  wx : Int
  wm : ByteArray
  wS : ByteArray
  wI : ByteArray
  q : List Wt
  fn : Int
  ma : Int
deriving DecidableEq
/-- as it lies, its list behind a slice at a -/
def OB.raw (x : OB) (a : Option Addr) (c : Nat) : Ox := ⟨x.kd, x.lS, x.lI, x.vk, x.vx, x.vm, x.vS, x.vI, x.ex, x.dn, x.vf, x.wk, x.wx, x.wm, x.wS, x.wI, ⟨a, x.q.length, c⟩, x.fn, x.ma⟩
/-- v is such a thing; its list lies where A lets it lie -/
def ObIn (w : World) (A : Nat → Prop) (v : Value) (x : OB) : Prop := ∃ a c, v = .agg (ox (x.raw a c)) ∧ QAt w (.slice a x.q.length c) x.q ∧ x.q.length * 88 ≤ 140737488355328 ∧ (x.q = [] ∨ ∀ p, a = some p → A p.block ∧ p.block < w.heap.size)
theorem ObIn.below {w w' : World} {A : Nat → Prop} {v : Value} {x : OB} (h : ObIn w A v x) (hb : Below w.heap.size w w') : ObIn w' A v x := by
  obtain ⟨a, c, hv, hq, hl, ha⟩ := h
  exact ⟨a, c, hv, hq.below hb, hl, ha.imp id fun ha p hp => ⟨(ha p hp).1, Nat.lt_of_lt_of_le (ha p hp).2 hb.size⟩⟩
end Go.Proofs.YtlkgcidhhngfeaaGreatDoor
/- store.copied: a thing of which the list is a copy of its own. -/
namespace Go.Proofs.YtlkgcidhhngfeaaGreatDoor
open Go.RowKit
theorem clone_q (l : List Wt) (v : Value) (w : World) (h : QAt w v l) (hlen : l.length * 88 ≤ 140737488355328) :
    Calls Tryz.prog 51 #[v] w fun e w' => ∃ a c, e = .returned (.slice a l.length c) ∧ Hid (w'.ownsRow w.heap.size 94 7 (.slice a l.length c) l.length (rowsQ l).flatten) ∧ Below w.heap.size w w' := by
  refine (clone_any (rowsQ l) v w h (by rw [rowsQ_len]; exact hlen)).mono ?_
  rintro e w' ⟨v', rfl, hown, hb⟩
  rw [rowsQ_len] at hown
  rcases hown.2 with ⟨rfl, h0⟩ | ⟨g, cap, cur, rfl, _⟩
  · rw [h0] at hown ⊢
    exact ⟨none, 0, rfl, Lib.hid hown, hb⟩
  · exact ⟨_, _, rfl, Lib.hid hown, hb⟩
theorem ownsRow_set {w : World} {B k : Nat} {e : TypeId} {v : Value} {n : Nat} {xs : List Value} (h : w.ownsRow B e k v n xs) {b : Nat} (hb : b < B) (o : Nat) (vs : List Value) : (w.setCells b o vs).ownsRow B e k v n xs := by
  refine ⟨h.1, ?_⟩
  rcases h.2 with h0 | ⟨g, cap, cur, hv, hB, hg, hr⟩
  · exact .inl h0
  · exact .inr ⟨g, cap, cur, hv, hB, (setCells_other vs o w g (by omega)).trans hg, hr⟩
theorem hid_own {w w' : World} {B k : Nat} {e : TypeId} {n : Nat} {v : Value} {xs : List Value} (h : Hid (w.ownsRow B e k v n xs)) (hb : Below w.heap.size w w') : Hid (w'.ownsRow B e k v n xs) := Lib.hid (ownsRow_keep h.out hb)
set_option maxRecDepth 100000 in
set_option maxHeartbeats 4000000 in
theorem copied_raw (o : Ox) (l : List Wt) (w : World) (hq : QAt w (.slice o.q.a o.q.n o.q.c) l) (hlen : l.length * 88 ≤ 140737488355328) :
    Calls Tryz.prog 29 #[.agg (ox o)] w fun e w' => ∃ a c, e = .returned (.agg (ox { o with q := ⟨a, l.length, c⟩ })) ∧ Hid (w'.ownsRow w.heap.size 94 7 (.slice a l.length c) l.length (rowsQ l).flatten) ∧ Below w.heap.size w w' := by
  have HQ := Lib.hid fun (W : World) (hb : Below w.heap.size w W) => hq.below hb
  clear hq
  go_enter Tryz.func29, Tryz.ntmps29
  have hB0 := Below.refl w.heap.size w
  have M0 := Mem.nil w
  go_upto_region 1 with (fail)
  refine wp_named ?_
  intro w1 hW1
  have hB1 : Below w.heap.size w w1 := by rw [hW1]; exact (below_al (below_al hB0 _) _)
  have M1 : Mem w1 [(w.heap.size + 1, .cells (ox (ox0)) 32), (w.heap.size, .cells (ox (o)) 32)] := by rw [hW1]; exact ((M0).new' (w.heap.size) (by rfl) (.cells (ox (o)) 32)).new' (w.heap.size + 1) (by simp) (.cells (ox (ox0)) 32)
  clear hW1
  have z1_0 := Mem.lt M1.1
  have z1_1 := Mem.lt M1.2.1
  have c1_1_16 := Mem.cell (v := .slice o.q.a o.q.n o.q.c) M1.2.1 16 rfl
  go_wp2_with fail
  refine Calls.named ?_
  intro W2 hW2
  have hB2_ : Below w.heap.size w W2 := by rw [hW2]; exact hB1
  have M2_ := M1
  rw [← hW2] at M2_
  clear hW2
  have ZZ2_0 := Lib.hid (Mem.lt M2_.1)
  have ZZ2_1 := Lib.hid (Mem.lt M2_.2.1)
  clear z1_0 z1_1 c1_1_16
  refine (clone_q l _ _ (HQ.out _ hB2_) hlen).mono ?_
  rintro e w2 ⟨a, c, rfl, hown, hb2⟩
  have hB2 := below_then hB2_ hb2
  have M2 := M2_.below hb2
  clear M2_ hB2_ hb2
  have z2_0 := Mem.lt M2.1
  have z2_1 := Mem.lt M2.2.1
  have c2_1_16 := Mem.cell (v := .slice o.q.a o.q.n o.q.c) M2.2.1 16 rfl
  have fa := fun j => Mem.free M2.2.1 j
  go_upto_region 2 with (fail)
  clear fa
  have zo := ZZ2_1.out
  have zr := ZZ2_0.out
  have hX2_0 : (w2.setCells (w.heap.size) 16 [.slice a l.length c]).heap[w.heap.size]? = some (.cells (ox ({ o with q := ⟨a, l.length, c⟩ })) 32) := by rw [setCells_block [.slice a l.length c] 16 _ _ ((M2).2.1) (by simp)]; rfl
  have hY2_0 := below_setCells (B := w.heap.size) hB2 (b := w.heap.size) (by have := hB2.size; omega) 16 [.slice a l.length c]
  refine wp_named ?_
  intro w3 hW3
  have hB3 : Below w.heap.size w w3 := by rw [hW3]; exact hY2_0
  have M3 : Mem w3 [(w.heap.size + 1, .cells (ox (ox0)) 32), (w.heap.size, .cells (ox ({ o with q := ⟨a, l.length, c⟩ })) 32)] := by rw [hW3]; exact ⟨(setCells_other [.slice a l.length c] 16 _ _ (by omega)).trans ((M2).1), hX2_0, trivial⟩
  have hown2 := Lib.hid (ownsRow_set (b := w.heap.size) hown.out (by omega) 16 [.slice a l.length c])
  rw [show (w2.setCells (w.heap.size) 16 [.slice a l.length c]) = w3 from hW3.symm] at hown2
  clear z2_0 z2_1 c2_1_16
  clear hW3 hX2_0 hY2_0
  have z3_0 := Mem.lt M3.1
  have z3_1 := Mem.lt M3.2.1
  clear hown
  refine wp_region_lit ?_
  refine load_ox rfl _ rfl (w.heap.size) rfl ({ o with q := ⟨a, l.length, c⟩ }) M3.2.1 ?_
  refine store_ox rfl _ _ rfl (w.heap.size + 1) rfl (ox0) ({ o with q := ⟨a, l.length, c⟩ }) rfl M3.1 ?_
  intro w4 hW4
  have hB4 : Below w.heap.size w w4 := by rw [hW4]; exact below_setCells (B := w.heap.size) hB3 (b := w.heap.size + 1) (by have := hB3.size; omega) 0 _
  have M4 : Mem w4 [(w.heap.size + 1, .cells (ox ({ o with q := ⟨a, l.length, c⟩ })) 32), (w.heap.size, .cells (ox ({ o with q := ⟨a, l.length, c⟩ })) 32)] := by rw [hW4]; exact ⟨set_ox M3.1 _, (setCells_other _ 0 _ _ (by omega)).trans M3.2.1, trivial⟩
  have hown3 := Lib.hid (ownsRow_set (b := w.heap.size + 1) hown2.out (by omega) 0 (oxL ({ o with q := ⟨a, l.length, c⟩ })))
  rw [← hW4] at hown3
  clear z3_0 z3_1
  clear hW4
  have z4_0 := Mem.lt M4.1
  have z4_1 := Mem.lt M4.2.1
  have hown4 : Hid (w4.ownsRow w.heap.size 94 7 (.slice a l.length c) l.length (rowsQ l).flatten) := Lib.hid (by
    have h1 := hown3.out
    refine ⟨h1.1, ?_⟩
    rcases h1.2 with h0 | ⟨g, cap, cur, hv, hB, hg, hr⟩
    · exact .inl h0
    · exact .inr ⟨g, cap, cur, hv, by omega, hg, hr⟩)
  go_wp2_with fail
  refine bodyPost_ret (v := .agg (ox ({ o with q := ⟨a, l.length, c⟩ }))) (results_ox1 Tryz.results29 _ _ (w.heap.size + 1) ({ o with q := ⟨a, l.length, c⟩ }) rfl M4.1) rfl ⟨_, _, rfl, hown4, hB4⟩
theorem ObIn.copied {w w' : World} {A' : Nat → Prop} {x : OB} {a' : Option Addr} {c' : Nat} (hl : x.q.length * 88 ≤ 140737488355328) (hown : w'.ownsRow w.heap.size 94 7 (.slice a' x.q.length c') x.q.length (rowsQ x.q).flatten) (hA : ∀ b, w.heap.size ≤ b → A' b) :
    ObIn w' A' (.agg (ox (x.raw a' c'))) x := by
  refine ⟨a', c', rfl, SlotsAt.of_owns (rowsQ_wide _) hown (rowsQ_len _).symm rfl, hl, .inr fun p hp => ?_⟩
  subst hp
  rcases hown.2 with ⟨h0, _⟩ | ⟨g, cap, cur, hv, hB, hg, _⟩
  · cases h0
  · obtain ⟨e1, -, -⟩ := Value.slice.inj hv
    cases e1
    exact ⟨hA _ hB, (Array.getElem?_eq_some_iff.1 hg).1⟩
/-- copied, of a thing in memory -/
theorem copied_any (x : OB) (A : Nat → Prop) (v : Value) (w : World) (h : ObIn w A v x) (A' : Nat → Prop) (hA : ∀ b, w.heap.size ≤ b → A' b) :
    Calls Tryz.prog 29 #[v] w fun e w' => ∃ a c, e = .returned (.agg (ox (x.raw a c))) ∧ Hid (ObIn w' A' (.agg (ox (x.raw a c))) x) ∧ Below w.heap.size w w' := by
  obtain ⟨a, c, rfl, hq, hl, _⟩ := h
  refine (copied_raw (x.raw a c) x.q w hq hl).mono ?_
  rintro e w' ⟨a', c', rfl, hown, hb⟩
  exact ⟨a', c', rfl, Lib.hid (ObIn.copied hl hown.out hA), hb⟩
end Go.Proofs.YtlkgcidhhngfeaaGreatDoor
