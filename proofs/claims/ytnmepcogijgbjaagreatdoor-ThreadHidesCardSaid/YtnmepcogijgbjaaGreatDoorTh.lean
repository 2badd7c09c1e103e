/- A thread of 20 cells under one letter: its load and its store take one step each. -/
import Derived.Deep.MidRow
import Derived.Test.YtnmepcogijgbjaaGreatDoorZ1
import Derived.Test.YtnmepcogijgbjaaGreatDoorProg
namespace Go.Proofs.YtnmepcogijgbjaaGreatDoor
open Go.RowKit
/-- a slice -/
structure Sl where
  a : Option Addr
  n : Nat
  c : Nat
structure Th where
  id : ByteArray
  pa : ByteArray
  cS : ByteArray
  cI : ByteArray
  kS : ByteArray
  kI : ByteArray
  fr : Sl
  sk : Sl
  tr : Sl
  sc : Sl
  md : Int
  rm : Int
  st : Int
  on : ByteArray
  vk : Int
  vx : Int
  vm : ByteArray
  vS : ByteArray
  vI : ByteArray
  ex : Bool
def th (t : Th) : Array Value := #[.string t.id, .string t.pa, .string t.cS, .string t.cI, .string t.kS, .string t.kI, .slice t.fr.a t.fr.n t.fr.c, .slice t.sk.a t.sk.n t.sk.c, .slice t.tr.a t.tr.n t.tr.c, .slice t.sc.a t.sc.n t.sc.c, .int .i64 t.md, .int .i64 t.rm, .int .i64 t.st, .string t.on, .int .i64 t.vk, .int .i64 t.vx, .string t.vm, .string t.vS, .string t.vI, .bool t.ex]
def th0 : Th := ⟨⟨#[]⟩, ⟨#[]⟩, ⟨#[]⟩, ⟨#[]⟩, ⟨#[]⟩, ⟨#[]⟩, ⟨none, 0, 0⟩, ⟨none, 0, 0⟩, ⟨none, 0, 0⟩, ⟨none, 0, 0⟩, 0, 0, 0, ⟨#[]⟩, 0, 0, ⟨#[]⟩, ⟨#[]⟩, ⟨#[]⟩, false⟩
theorem zero_th (w : World) : (zeroValue 39).run Tryz.prog w = .ok (.agg (th th0)) w := by kernel_rfl
theorem one_th (t : Th) : (th t).all (·.oneCell') = true := by
  rw [← Array.all_toList]
  rfl
@[simp] theorem th_size (t : Th) : (th t).size = 20 := rfl
theorem info_th : (Tryz.prog.info? 39).map (·.size) = some 20 := by kernel_rfl
theorem there_block {w : World} {b n : Nat} {c : Array Value} {t : TypeId} (h : w.heap[b]? = some (.cells c t)) (hn : n ≤ c.size) : w.there b 0 n := by
  intro j hj
  have hj' : j < c.size := by omega
  refine ⟨?_, ?_⟩
  · rw [Nat.zero_add]
    unfold World.cell?
    simp only [h]
    simp [hj']
  · rw [Nat.zero_add]
    exact Mem.free h j
theorem range_block {w : World} {b : Nat} {cs : List Value} {t : TypeId} (h : w.heap[b]? = some (.cells cs.toArray t)) : w.rangeAt b 0 cs := by
  intro j v hj
  rw [Nat.zero_add]
  unfold World.cell?
  simp only [h]
  simpa using hj
theorem wpl_named {P : Program} {ops : Array Oper} {l : List Oper} {Q : Exit → Act → World → Prop} {a : Act} {E : World} (h : ∀ W, W = E → wpList P ops Q l a W) : wpList P ops Q l a E := h E rfl
theorem load_th {ops : Array Oper} {rest : List Oper} {op : Oper} {a : Act} {w : World} {Q : Exit → Act → World → Prop} (hgd : op.guard = none) (x : Operand) (ho : op.op = .load 39 x)
    (b : Nat) (hx : a.eval x = .pointer (some ⟨b, 0, none⟩)) (t : Th) (hb : w.heap[b]? = some (.cells (th t) 39))
    (h : wpList Tryz.prog ops Q rest (a.put op.dst (.agg (th t))) w) : wpList Tryz.prog ops Q (op :: rest) a w :=
  wpList_load_mid hgd 39 x ho b 0 hx (th t).toList _ (range_block hb) Tryz.underlying39 rfl info_th h
theorem store_th {ops : Array Oper} {rest : List Oper} {op : Oper} {a : Act} {w : World} {Q : Exit → Act → World → Prop} (hgd : op.guard = none) (x y : Operand) (ho : op.op = .store 39 x y)
    (b : Nat) (hx : a.eval x = .pointer (some ⟨b, 0, none⟩)) (t0 t : Th) (hy : a.eval y = .agg (th t)) (hb : w.heap[b]? = some (.cells (th t0) 39)) (h1 : (th t).all (·.oneCell') = true)
    (h : ∀ W, W = w.setCells b 0 (th t).toList → wpList Tryz.prog ops Q rest (a.put op.dst undef) W) : wpList Tryz.prog ops Q (op :: rest) a w :=
  wpList_store_mid hgd 39 x y ho b 0 (th t) hx hy (there_block hb (Nat.le_refl 20)) info_th h1 (h _ rfl)
/-- marks: the next operation stores, loads a whole thread -/
theorem at_store {ops : Array Oper} {rest : List Oper} {op : Oper} {a : Act} {w : World} {Q : Exit → Act → World → Prop} {x y : Operand} (_ : op.op = .store 39 x y) (h : wpList Tryz.prog ops Q (op :: rest) a w) : wpList Tryz.prog ops Q (op :: rest) a w := h
theorem at_load {ops : Array Oper} {rest : List Oper} {op : Oper} {a : Act} {w : World} {Q : Exit → Act → World → Prop} {x : Operand} (_ : op.op = .load 39 x) (h : wpList Tryz.prog ops Q (op :: rest) a w) : wpList Tryz.prog ops Q (op :: rest) a w := h
theorem set_th {w : World} {b : Nat} {t0 : Th} (hb : w.heap[b]? = some (.cells (th t0) 39)) (t : Th) : (w.setCells b 0 (th t).toList).heap[b]? = some (.cells (th t) 39) :=
  set_block hb (th t).toList rfl
theorem results_th1 {fn : Func} {p : Tmp} (h : fn.results = #[.cell p 39]) (tmps : Array Value) (w : World) (g : Nat) (t : Th) (hp : tmps.getD p undef = .pointer (some ⟨g, 0, none⟩)) (hg : w.heap[g]? = some (.cells (th t) 39)) :
    (results fn tmps).run Tryz.prog w = .ok (.agg (th t)) w :=
  results_cell_row h tmps w g _ (th t) (0, 0) _ hp hg Tryz.underlying39 rfl info_th
theorem results_th2 {fn : Func} {p u : Tmp} (h : fn.results = #[.cell p 39, .tmp u]) (tmps : Array Value) (w : World) (g : Nat) (t : Th) (hp : tmps.getD p undef = .pointer (some ⟨g, 0, none⟩)) (hg : w.heap[g]? = some (.cells (th t) 39)) :
    (results fn tmps).run Tryz.prog w = .ok (.tuple #[.agg (th t), tmps.getD u undef]) w := by
  have hp' : tmps[p]?.getD undef = .pointer (some ⟨g, 0, none⟩) := by simpa using hp
  have hl := run_loadVar_row w g _ _ (th t) (0, 0) _ hg Tryz.underlying39 rfl info_th
  simp [results, h, hp', asAddr, hl]
theorem results_th3 {fn : Func} {p u v : Tmp} (h : fn.results = #[.cell p 39, .tmp u, .tmp v]) (tmps : Array Value) (w : World) (g : Nat) (t : Th) (hp : tmps.getD p undef = .pointer (some ⟨g, 0, none⟩)) (hg : w.heap[g]? = some (.cells (th t) 39)) :
    (results fn tmps).run Tryz.prog w = .ok (.tuple #[.agg (th t), tmps.getD u undef, tmps.getD v undef]) w := by
  have hp' : tmps[p]?.getD undef = .pointer (some ⟨g, 0, none⟩) := by simpa using hp
  have hl := run_loadVar_row w g _ _ (th t) (0, 0) _ hg Tryz.underlying39 rfl info_th
  simp [results, h, hp', asAddr, hl]
end Go.Proofs.YtnmepcogijgbjaaGreatDoor
