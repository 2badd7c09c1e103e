/- A scope of 14 cells under one letter; lists of scopes in memory. -/
import Derived.Test.YtnmepcogijgbjaaGreatDoorTh
import Derived.Test.YtnmepcogijgbjaaGreatDoorZ1
namespace Go.Proofs.YtnmepcogijgbjaaGreatDoor
open Go.RowKit
structure Sc where
  nm : ByteArray
  lS : ByteArray
  lI : ByteArray
  un : Int
  fr : Int
  ht : Int
  tr : Int
  cS : ByteArray
  cI : ByteArray
  kS : ByteArray
  kI : ByteArray
  pa : ByteArray
  md : Int
  rm : Int
def scL (s : Sc) : List Value := [.string s.nm, .string s.lS, .string s.lI, .int .i64 s.un, .int .i64 s.fr, .int .i64 s.ht, .int .i64 s.tr, .string s.cS, .string s.cI, .string s.kS, .string s.kI, .string s.pa, .int .i64 s.md, .int .i64 s.rm]
def sc (s : Sc) : Array Value := (scL s).toArray
def sc0 : Sc := ⟨⟨#[]⟩, ⟨#[]⟩, ⟨#[]⟩, 0, 0, 0, 0, ⟨#[]⟩, ⟨#[]⟩, ⟨#[]⟩, ⟨#[]⟩, ⟨#[]⟩, 0, 0⟩
theorem one_sc (s : Sc) : (sc s).all (·.oneCell') = true := by
  rw [← Array.all_toList]
  rfl
@[simp] theorem sc_size (s : Sc) : (sc s).size = 14 := rfl
theorem info_sc : (Tryz.prog.info? 56).map (·.size) = some 14 := by kernel_rfl
theorem wide_sc (l : List Sc) : Wide 14 (l.map scL) := by
  intro r hr
  obtain ⟨s, _, rfl⟩ := List.mem_map.1 hr
  refine ⟨rfl, fun x hx => ?_⟩
  have h := one_sc s
  rw [Array.all_eq_true_iff_forall_mem] at h
  exact h x (by simpa [sc] using hx)
/-- a slice that holds these scopes -/
def ScAt (w : World) (v : Sl) (l : List Sc) : Prop := SlotsAt w 14 (.slice v.a v.n v.c) (l.map scL)
theorem ScAt.below {w w' : World} {v : Sl} {l : List Sc} (h : ScAt w v l) (hb : Below w.heap.size w w') : ScAt w' v l := SlotsAt.below h hb
theorem ScAt.len {w : World} {v : Sl} {l : List Sc} (h : ScAt w v l) : v.n = l.length := by
  obtain ⟨ao, cap, e⟩ := SlotsAt.slice h
  simpa using (Value.slice.inj e).2.1
theorem ScAt.row {w : World} {v : Sl} {l : List Sc} (h : ScAt w v l) {i : Nat} (hi : i < l.length) : ∃ b off, v.a = some ⟨b, off, none⟩ ∧ v.n ≤ v.c ∧ b < w.heap.size ∧ w.rangeAt b (off + i * 14) (scL l[i]) := by
  obtain ⟨b, off, cap, e, hc, hlt, hg⟩ := SlotsAt.some h (by simp; omega)
  obtain ⟨e1, e2, e3⟩ := Value.slice.inj e
  refine ⟨b, off, e1, by rw [e2, e3]; exact hc, hlt, fun j u hj => ?_⟩
  rw [Nat.add_assoc]
  exact hg i j (scL l[i]) u (by simp [hi]) hj
theorem load_sc {ops : Array Oper} {rest : List Oper} {op : Oper} {a : Act} {w : World} {Q : Exit → Act → World → Prop} (hgd : op.guard = none) (x : Operand) (ho : op.op = .load 56 x)
    (b o : Nat) (hx : a.eval x = .pointer (some ⟨b, o, none⟩)) (s : Sc) (hb : w.rangeAt b o (scL s))
    (h : wpList Tryz.prog ops Q rest (a.put op.dst (.agg (sc s))) w) : wpList Tryz.prog ops Q (op :: rest) a w :=
  wpList_load_mid hgd 56 x ho b o hx (scL s) _ hb Tryz.underlying56 rfl info_sc h
theorem loadb_sc {ops : Array Oper} {rest : List Oper} {op : Oper} {a : Act} {w : World} {Q : Exit → Act → World → Prop} (hgd : op.guard = none) (x : Operand) (ho : op.op = .load 56 x)
    (b : Nat) (hx : a.eval x = .pointer (some ⟨b, 0, none⟩)) (s : Sc) (hb : w.heap[b]? = some (.cells (sc s) 56))
    (h : wpList Tryz.prog ops Q rest (a.put op.dst (.agg (sc s))) w) : wpList Tryz.prog ops Q (op :: rest) a w :=
  load_sc hgd x ho b 0 hx s (range_block hb) h
theorem store_sc {ops : Array Oper} {rest : List Oper} {op : Oper} {a : Act} {w : World} {Q : Exit → Act → World → Prop} (hgd : op.guard = none) (x y : Operand) (ho : op.op = .store 56 x y)
    (b : Nat) (hx : a.eval x = .pointer (some ⟨b, 0, none⟩)) (s0 s : Sc) (hy : a.eval y = .agg (sc s)) (hb : w.heap[b]? = some (.cells (sc s0) 56))
    (h : ∀ W, W = w.setCells b 0 (scL s) → wpList Tryz.prog ops Q rest (a.put op.dst undef) W) : wpList Tryz.prog ops Q (op :: rest) a w :=
  wpList_store_mid hgd 56 x y ho b 0 (sc s) hx hy (there_block hb (Nat.le_refl 14)) info_sc (one_sc s) (h _ rfl)
theorem set_sc {w : World} {b : Nat} {s0 : Sc} (hb : w.heap[b]? = some (.cells (sc s0) 56)) (s : Sc) : (w.setCells b 0 (scL s)).heap[b]? = some (.cells (sc s) 56) :=
  set_block hb (scL s) rfl
end Go.Proofs.YtnmepcogijgbjaaGreatDoor
