/- Blocks that a call knows whole, carried through a walk; worlds under a name. They speak of no program. -/
import Derived.Test.YtcgelcccboifjaaDoorLib
import Derived.Deep.Cut
import Derived.Outline
namespace Go.Proofs.YtcgelcccboifjaaDoor
open Go.RowKit
/-- these blocks hold this -/
def Mem (W : World) : List (Nat × Obj) → Prop
  | [] => True
  | (b, o) :: l => W.heap[b]? = some o ∧ Mem W l
theorem Mem.below {W w' : World} : ∀ {L : List (Nat × Obj)}, Mem W L → Below W.heap.size W w' → Mem w' L
  | [], _, _ => trivial
  | (b, _) :: _, h, hb => ⟨(hb.block b (Array.getElem?_eq_some_iff.1 h.1).1).trans h.1, Mem.below h.2 hb⟩
theorem Mem.al {W : World} {L : List (Nat × Obj)} (h : Mem W L) (o : Obj) : Mem (W.alloc o) L := h.below ((Below.refl _ _).alloc (Nat.le_refl _) _)
theorem Mem.new {W : World} {L : List (Nat × Obj)} (h : Mem W L) (o : Obj) : Mem (W.alloc o) ((W.heap.size, o) :: L) :=
  ⟨by show (W.heap.push _)[W.heap.size]? = _; simp, h.al o⟩
theorem Mem.new' {W : World} {L : List (Nat × Obj)} (h : Mem W L) (n : Nat) (hn : W.heap.size = n) (o : Obj) : Mem (W.alloc o) ((n, o) :: L) := hn ▸ h.new o
theorem Mem.drew {W : World} : ∀ {L : List (Nat × Obj)}, Mem W L → Mem W.drew L
  | [], _ => trivial
  | _ :: _, h => ⟨h.1, Mem.drew h.2⟩
theorem Mem.nil (W : World) : Mem W [] := trivial
/-- a store into a block that stands first in the list -/
theorem setCell_block {W : World} {b i : Nat} {cs : Array Value} {T : TypeId} {fr : Nat × Nat} (h : W.heap[b]? = some (.cells cs T fr)) (v : Value) : (W.setCell ⟨b, i, none⟩ v).heap[b]? = some (.cells (cs.setIfInBounds i v) T fr) := by
  show (W.heap.modify b _)[b]? = _
  rw [Array.getElem?_modify, if_pos rfl, h]
  rfl
theorem setCell_other {W : World} {b b' i : Nat} {o : Obj} (h : W.heap[b']? = some o) (hne : b ≠ b') (v : Value) : (W.setCell ⟨b, i, none⟩ v).heap[b']? = some o := by
  show (W.heap.modify b _)[b']? = _
  rw [Array.getElem?_modify, if_neg hne, h]
theorem Mem.lt {W : World} {b : Nat} {o : Obj} (h : W.heap[b]? = some o) : b < W.heap.size := (Array.getElem?_eq_some_iff.1 h).1
theorem Mem.cell {W : World} {b : Nat} {cs : Array Value} {T : TypeId} {fr : Nat × Nat} (h : W.heap[b]? = some (.cells cs T fr)) (i : Nat) {v : Value} (hv : cs[i]? = some v) : W.cell? ⟨b, i, none⟩ = some v := by
  unfold World.cell?
  rw [h]
  exact hv
theorem Mem.free {W : World} {b : Nat} {cs : Array Value} {T : TypeId} (h : W.heap[b]? = some (.cells cs T)) (i : Nat) : W.frozen? ⟨b, i, none⟩ = false := by
  unfold World.frozen?
  rw [h]
  simp
/-- the world under a name, at a call and elsewhere -/
theorem Calls.named {P : Program} {f : FuncId} {args : Array Value} {E : World} {R : Ending → World → Prop} (h : ∀ W, W = E → Calls P f args W R) : Calls P f args E R := h E rfl
theorem wp_named {P : Program} {Q : Exit → Act → World → Prop} {a : Act} {E : World} {c : Code} (h : ∀ W, W = E → c.wp P Q a W) : c.wp P Q a E := h E rfl
theorem below_al {w W : World} (h : Below w.heap.size w W) (o : Obj) : Below w.heap.size w (W.alloc o) := h.trans ((Below.refl _ _).alloc h.size o)
theorem below_dr {n : Nat} {w W : World} (h : Below n w W) : Below n w W.drew := h.trans ((Below.refl _ _).drew)
theorem below_then {w w1 w2 : World} (h : Below w.heap.size w w1) (h' : Below w1.heap.size w1 w2) : Below w.heap.size w w2 := h.trans (h'.mono h.size)
theorem Mem.after {W : World} {L : List (Nat × Obj)} (h : Mem W L) (p : After W) : Mem p.world L := h.below p.h
end Go.Proofs.YtcgelcccboifjaaDoor
