/- A whole thread loaded under a guard. -/
import Derived.Test.YtnmepcogijgbjaaGreatDoorTh
namespace Go.Proofs.YtnmepcogijgbjaaGreatDoor
open Go.RowKit
theorem load_th_w {ops : Array Oper} {rest : List Oper} {op : Oper} {a : Act} {w : World} {Q : Exit → Act → World → Prop} (hgd : Region.wanted op (yielded ops a.tmps) = true) (x : Operand) (ho : op.op = .load 39 x)
    (b : Nat) (hx : a.eval x = .pointer (some ⟨b, 0, none⟩)) (t : Th) (hb : w.heap[b]? = some (.cells (th t) 39))
    (h : wpList Tryz.prog ops Q rest (a.put op.dst (.agg (th t))) w) : wpList Tryz.prog ops Q (op :: rest) a w := by
  show (if Region.wanted op (yielded ops a.tmps) then _ else _)
  rw [if_pos hgd]
  exact .inl (wp_load_mid 39 x ho b 0 hx (th t).toList _ (range_block hb) Tryz.underlying39 rfl info_th h)
end Go.Proofs.YtnmepcogijgbjaaGreatDoor
