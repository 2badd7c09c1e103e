/- A thing of the store (19 cells) under one letter: Kind, L, V, Ex; all else nought. -/
import Derived.Test.YtnmepcogijgbjaaGreatDoorSc
namespace Go.Proofs.YtnmepcogijgbjaaGreatDoor
open Go.RowKit
structure Ob where
  kd : Int
  lS : ByteArray
  lI : ByteArray
  vk : Int
  vx : Int
  vm : ByteArray
  vS : ByteArray
  vI : ByteArray
  ex : Bool
def obL (o : Ob) : List Value := [.int .i64 o.kd, .string o.lS, .string o.lI, .int .i64 o.vk, .int .i64 o.vx, .string o.vm, .string o.vS, .string o.vI, .bool o.ex, .bool false, .bool false, .int .i64 0, .int .i64 0, .string ⟨#[]⟩, .string ⟨#[]⟩, .string ⟨#[]⟩, .slice none 0 0, .int .i64 0, .int .u8 0]
def ob (o : Ob) : Array Value := (obL o).toArray
def ob0 : Ob := ⟨0, ⟨#[]⟩, ⟨#[]⟩, 0, 0, ⟨#[]⟩, ⟨#[]⟩, ⟨#[]⟩, false⟩
theorem zero_ob (w : World) : (zeroValue 50).run Tryz.prog w = .ok (.agg (ob ob0)) w := by kernel_rfl
theorem one_ob (o : Ob) : (ob o).all (·.oneCell') = true := by
  rw [← Array.all_toList]
  rfl
@[simp] theorem ob_size (o : Ob) : (ob o).size = 19 := rfl
theorem info_ob : (Tryz.prog.info? 50).map (·.size) = some 19 := by kernel_rfl
theorem load_ob {ops : Array Oper} {rest : List Oper} {op : Oper} {a : Act} {w : World} {Q : Exit → Act → World → Prop} (hgd : op.guard = none) (x : Operand) (ho : op.op = .load 50 x)
    (b : Nat) (hx : a.eval x = .pointer (some ⟨b, 0, none⟩)) (s : Ob) (hb : w.heap[b]? = some (.cells (ob s) 50))
    (h : wpList Tryz.prog ops Q rest (a.put op.dst (.agg (ob s))) w) : wpList Tryz.prog ops Q (op :: rest) a w :=
  wpList_load_mid hgd 50 x ho b 0 hx (obL s) _ (range_block hb) Tryz.underlying50 rfl info_ob h
theorem store_ob {ops : Array Oper} {rest : List Oper} {op : Oper} {a : Act} {w : World} {Q : Exit → Act → World → Prop} (hgd : op.guard = none) (x y : Operand) (ho : op.op = .store 50 x y)
    (b : Nat) (hx : a.eval x = .pointer (some ⟨b, 0, none⟩)) (s0 s : Ob) (hy : a.eval y = .agg (ob s)) (hb : w.heap[b]? = some (.cells (ob s0) 50))
    (h : ∀ W, W = w.setCells b 0 (obL s) → wpList Tryz.prog ops Q rest (a.put op.dst undef) W) : wpList Tryz.prog ops Q (op :: rest) a w :=
  wpList_store_mid hgd 50 x y ho b 0 (ob s) hx hy (there_block hb (Nat.le_refl 19)) info_ob (one_ob s) (h _ rfl)
theorem set_ob {w : World} {b : Nat} {s0 : Ob} (hb : w.heap[b]? = some (.cells (ob s0) 50)) (s : Ob) : (w.setCells b 0 (obL s)).heap[b]? = some (.cells (ob s) 50) :=
  set_block hb (obL s) rfl
end Go.Proofs.YtnmepcogijgbjaaGreatDoor
