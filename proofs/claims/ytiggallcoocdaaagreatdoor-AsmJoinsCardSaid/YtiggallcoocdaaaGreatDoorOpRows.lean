/- A listed table of rows (a string and three bytes each), read back to its cells. -/
import Derived.Test.YtiggallcoocdaaaGreatDoorOpTab
import Derived.Lib.LaidTab
import Derived.Lib.SmallJoins
import Derived.OpenShut
import Derived.Shelf.Vars
namespace Go.Proofs.YtiggallcoocdaaaGreatDoor
open Go.RowKit Go.Joins Go.Deep
def rowData {H : Type} (r : List UInt8 × Nat × Nat × Nat) : DataW H := .agg [.lit (.string r.1), .lit (.int .u8 r.2.1), .lit (.int .u8 r.2.2.1), .lit (.int .u8 r.2.2.2)]
theorem chunk : ∀ (rows : List (List UInt8 × Nat × Nat × Nat)) (cs : List Value), cs.length = rows.length * 4 → (∀ (i : Nat) r, rows[i]? = some r → (cs.drop (i * 4)).take 4 = rowCells r) → cs = rows.flatMap rowCells
  | [], cs, hl, _ => by simpa using hl
  | r :: rows, cs, hl, h => by
    have h0 := h 0 r rfl
    have ih := chunk rows (cs.drop 4) (by simp at hl ⊢; omega) (fun i x hx => by
      have := h (i + 1) x (by simpa using hx)
      rw [List.drop_drop, show 4 + i * 4 = (i + 1) * 4 by omega]
      exact this)
    simp only [Nat.zero_mul, List.drop_zero] at h0
    rw [List.flatMap_cons, ← ih, ← h0, List.take_append_drop]
theorem cells_of_rows {H : Type} {enc : TypeId × Value → H} {P : Program} {w : World} {base : Nat} {sp : Nat → Bool} {held : Bool} {fuel : Nat} {t e : TypeId} {n : Nat} {f0 f1 f2 f3 : Field} {cs : List Value} {rows : List (List UInt8 × Nat × Nat × Nat)} {p : List MemPlace}
    (ht : P.underlying t = some (.array n e)) (he : P.underlying e = some (.struct #[f0, f1, f2, f3])) (hone : oneCellFields P #[f0, f1, f2, f3] = true) (hce : P.cellsOf e = 4) (hct : P.cellsOf t = n * 4)
    (u0 : P.underlying f0.type = some .string) (u1 : P.underlying f1.type = some (.int .u8)) (u2 : P.underlying f2.type = some (.int .u8)) (u3 : P.underlying f3.type = some (.int .u8))
    (h : DataW.trod enc P w base sp held fuel t cs = some (.agg (rows.map rowData), p)) : cs = rows.flatMap rowCells := by
  obtain ⟨xs, m, -, hx, hl, hn, hf⟩ := DataW.trod_array ht h
  have hxs : rows.map (rowData (H := H)) = xs.map (·.1) := by
    have := congrArg Prod.fst hx
    simpa using this
  have hrl : rows.length = n := by
    have := congrArg List.length hxs
    simpa [hn] using this
  refine chunk rows cs (by rw [hl, hct, hrl]) fun i r hr => ?_
  have hi : i < n := by
    have := (List.getElem?_eq_some_iff.1 hr).1
    omega
  have h1 := hf i hi
  rw [hce] at h1
  obtain ⟨x, hx1⟩ : ∃ x, xs[i]? = some x := ⟨_, List.getElem?_eq_getElem (by omega)⟩
  rw [hx1] at h1
  have hd : rowData r = x.1 := by
    have := congrArg (·[i]?) hxs
    simpa [hr, hx1] using this
  obtain ⟨y0, y1, y2, y3, k, rfl, hlen, k0, k1, k2, k3⟩ := trod_struct4 he h1
  obtain ⟨o0, q0⟩ := hone_of hone 0 f0 rfl
  obtain ⟨o1, q1⟩ := hone_of hone 1 f1 rfl
  obtain ⟨o2, q2⟩ := hone_of hone 2 f2 rfl
  obtain ⟨o3, q3⟩ := hone_of hone 3 f3 rfl
  rw [hce] at hlen
  generalize (cs.drop (i * 4)).take 4 = L at *
  match L, hlen with
  | [a, b, c, d], _ =>
    rw [o0, q0] at k0
    rw [o1, q1] at k1
    rw [o2, q2] at k2
    rw [o3, q3] at k3
    obtain ⟨s, e0, rfl, -⟩ := DataW.trod_string u0 k0
    obtain ⟨z1, e1, rfl, -⟩ := DataW.trod_int u1 k1
    obtain ⟨z2, e2, rfl, -⟩ := DataW.trod_int u2 k2
    obtain ⟨z3, e3, rfl, -⟩ := DataW.trod_int u3 k3
    simp only [rowData, DataW.agg.injEq, List.cons.injEq, DataW.lit.injEq, Lit.string.injEq, Lit.int.injEq, true_and, and_true] at hd
    obtain ⟨d0, d1, d2, d3⟩ := hd
    simp at e0 e1 e2 e3
    subst e0 e1 e2 e3
    unfold rowCells
    rw [d0, d1, d2, d3]
end Go.Proofs.YtiggallcoocdaaaGreatDoor
