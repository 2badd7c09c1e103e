/- Blocks that are loaded and stored as wholes. -/
import Derived.Deep.MidRow
import Derived.Test.YtlkgcidhhngfeaaGreatDoorZ1
import Derived.Test.YtlkgcidhhngfeaaGreatDoorProg
namespace Go.Proofs.YtlkgcidhhngfeaaGreatDoor
open Go.RowKit
/-- a slice -/
structure Sl where
  a : Option Addr
  n : Nat
  c : Nat
theorem there_block {w : World} {b n : Nat} {c : Array Value} {t : TypeId} (h : w.heap[b]? = some (.cells c t)) (hn : n ≤ c.size) : w.there b 0 n := by
  intro j hj
  have hj' : j < c.size := by omega
  refine ⟨?_, ?_⟩
  · rw [Nat.zero_add]
    unfold World.cell?
    simp only [h]
    simp [hj']
  · rw [Nat.zero_add]
    exact Mem.free h j
theorem range_block {w : World} {b : Nat} {cs : List Value} {t : TypeId} (h : w.heap[b]? = some (.cells cs.toArray t)) : w.rangeAt b 0 cs := by
  intro j v hj
  rw [Nat.zero_add]
  unfold World.cell?
  simp only [h]
  simpa using hj
theorem wpl_named {P : Program} {ops : Array Oper} {l : List Oper} {Q : Exit → Act → World → Prop} {a : Act} {E : World} (h : ∀ W, W = E → wpList P ops Q l a W) : wpList P ops Q l a E := h E rfl
theorem anyH_named {P : Program} {md : Region.Mode} {ops : Array Oper} {Q : Exit → Act → World → Prop} {S : World → Prop} {n : Nat} {l : Array Bool} {a : Act} {w : World} (h : ∀ W, W = w → wpAnyH P md ops Q S n l a W) : wpAnyH P md ops Q S n l a w := h w rfl
theorem quiet_load_mid {P : Program} {C : World → Prop} {K : Act → Prop} {op : Oper} {a : Act} (ty : TypeId) (x : Operand) (ho : op.op = .load ty x)
    (b o : Nat) (hx : a.eval x = .pointer (some ⟨b, o, none⟩)) (cs : List Value) (v : Value) (hv : v = .agg cs.toArray) (d : TypeDesc) (hS : ∀ w, C w → w.rangeAt b o cs)
    (hu : P.underlying ty = some d) (hd : d.isRow = true) (hi : (P.info? ty).map (·.size) = some cs.length) (h : K (a.put op.dst v)) : op.quiet P a C K := by
  refine ⟨v, fun w hw => ?_, h⟩
  unfold Oper.quietAt execOp
  simp only [ho, hx, Instr.loadAt, Instr.sureAddr, Sem.run_bind, Sem.run_pure, Result.andThen_ok, run_loadVar_mid w b o ty cs d (hS w hw) hu hd hi]
  exact ⟨rfl, hv.symm⟩
theorem raw_cell {W : World} {b m : Nat} {cur : Array Value} {T : TypeId} {xs : List Value} (h : W.heap[b]? = some (.cells cur T)) (ht : cur.toList.take m = xs) {j : Nat} {v : Value} (hj : xs[j]? = some v) : W.cell? ⟨b, j, none⟩ = some v := by
  rw [← ht, List.getElem?_take] at hj
  split at hj
  · simp only [World.cell?, h]
    simpa using hj
  · cases hj
end Go.Proofs.YtlkgcidhhngfeaaGreatDoor
