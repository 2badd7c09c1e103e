/- What the package op needs of a world: its own table, and what num needs; and what its function About tells. -/
import Derived.Test.YtiggallcoocdaaaGreatDoorLaid
import Derived.Test.YtiggallcoocdaaaGreatDoorZ2
import Derived.Lib.IndexMore
import Derived.Lib.IndexBytes
namespace Go.Proofs.YtiggallcoocdaaaGreatDoor
open Go.RowKit
theorem gTab : Tryz.prog.globalNamed "lazaretto/op.table" = some 0 := by kernel_rfl
def rowCells (r : List UInt8 × Nat × Nat × Nat) : List Value := [.string ⟨r.1.toArray⟩, .int .u8 r.2.1, .int .u8 r.2.2.1, .int .u8 r.2.2.2]
def tabCells : List Value := opRows.flatMap rowCells
theorem flat_at : ∀ (l : List (List UInt8 × Nat × Nat × Nat)) (i j : Nat) (r : List UInt8 × Nat × Nat × Nat), l[i]? = some r → j < 4 → (l.flatMap rowCells)[i * 4 + j]? = (rowCells r)[j]?
  | [], i, j, r, h, _ => by simp at h
  | x :: l, 0, j, r, h, hj => by
    simp only [List.getElem?_cons_zero, Option.some.injEq] at h
    subst h
    rw [List.flatMap_cons, Nat.zero_mul, Nat.zero_add, List.getElem?_append_left (by simp [rowCells]; exact hj)]
  | x :: l, i + 1, j, r, h, hj => by
    rw [List.getElem?_cons_succ] at h
    rw [List.flatMap_cons, List.getElem?_append_right (by simp [rowCells]; omega)]
    have e : (i + 1) * 4 + j - (rowCells x).length = i * 4 + j := by simp [rowCells]; omega
    rw [e]
    exact flat_at l i j r h hj
def OpTab (w : World) : Prop := w.var? Tryz.prog "lazaretto/op.table" = some tabCells.toArray
def MaxLenAt (w : World) : Prop := ∃ m, w.cell? ⟨1, 0, none⟩ = some (.int .i64 m)
def LaidOp (w : World) : Prop := Laid w ∧ OpTab w ∧ MaxLenAt w
theorem MaxLenAt.below {w w' : World} (h : MaxLenAt w) (hb : Below w.heap.size w w') : MaxLenAt w' := by
  obtain ⟨m, hm⟩ := h
  exact ⟨m, (hb.cell (World.block_lt_of_cell? _ _ hm)).trans hm⟩
theorem LaidOp.below {w w' : World} (h : LaidOp w) (hb : Below w.heap.size w w') : LaidOp w' :=
  ⟨h.1.below hb, var?_below hb gTab (var_lt gTab h.2.1) h.2.1, h.2.2.below hb⟩
theorem LaidOp.after {w : World} (h : LaidOp w) (p : After w) : LaidOp p.world := h.below p.h
theorem OpTab.cell {w : World} (h : OpTab w) (i j : Nat) (r : List UInt8 × Nat × Nat × Nat) (hi : opRows[i]? = some r) (hj : j < 4) : w.cell? ⟨0, i * 4 + j, none⟩ = (rowCells r)[j]? := by
  have h1 := World.var?_cell gTab h (i * 4 + j)
  rw [h1, List.getElem?_toArray]
  exact flat_at opRows i j r hi hj
theorem OpTab.size {w : World} (h : OpTab w) : 0 < w.heap.size := var_lt gTab h
/-- what About hands back -/
def infoV (c : Int) : Value := .agg #[.string ⟨(aName c).toArray⟩, .int .i64 (aArg c), .int .i64 (aPop c), .int .i64 (aPush c), .bool (aLast c && aOk c)]
theorem about_core (i : Nat) (hi : i < 47) (nm : ByteArray) (p q r : Int) (b b15 b18 b19 : Bool) (w : World) (hsz : 0 < w.heap.size) (hp : 0 ≤ p ∧ p ≤ 9) (hq : 0 ≤ q ∧ q ≤ 9) (hr : 0 ≤ r ∧ r ≤ 9)
    (c0 : w.cell? ⟨0, i * 4, none⟩ = some (.string nm)) (c1 : w.cell? ⟨0, i * 4 + 1, none⟩ = some (.int .u8 p))
    (c2 : w.cell? ⟨0, i * 4 + 2, none⟩ = some (.int .u8 q)) (c3 : w.cell? ⟨0, i * 4 + 3, none⟩ = some (.int .u8 r))
    (e15 : ((i : Int) + 1 == 15) = b15) (e18 : ((i : Int) + 1 == 18) = b18) (e19 : ((i : Int) + 1 == 19) = b19) (hc : (b15 = true ∧ b18 = false ∧ b19 = false ∧ b = true) ∨ (b15 = false ∧ b18 = true ∧ b19 = false ∧ b = true) ∨ (b15 = false ∧ b18 = false ∧ b19 = true ∧ b = true) ∨ (b15 = false ∧ b18 = false ∧ b19 = false ∧ b = false)) :
    Calls Tryz.prog 49 #[.int .i64 ((i : Int) + 1)] w fun e w' => e = .returned (.tuple #[.agg #[.string nm, .int .i64 p, .int .i64 q, .int .i64 r, .bool b], .bool true]) ∧ Below w.heap.size w w' := by
  obtain ⟨p1, p2⟩ := hp
  obtain ⟨q1, q2⟩ := hq
  obtain ⟨r1, r2⟩ := hr
  have d1 : decide ((i : Int) + 1 < 1) = false := by simp; omega
  have d2 : decide ((47 : Int) < (i : Int) + 1) = false := by simp; omega
  rcases hc with ⟨rfl, rfl, rfl, rfl⟩ | ⟨rfl, rfl, rfl, rfl⟩ | ⟨rfl, rfl, rfl, rfl⟩ | ⟨rfl, rfl, rfl, rfl⟩
  all_goals
    go_enter Tryz.func49, Tryz.ntmps49
    go_wp2_with fail
    refine bodyPost_ret (v := .tuple #[.agg #[.string nm, .int .i64 p, .int .i64 q, .int .i64 r, .bool _], .bool true]) (by simp [results, Tryz.results49, go_sem]) rfl ⟨rfl, ?_⟩
    exact ((Below.refl _ _).alloc (Nat.le_refl _) _).alloc (by simp) _
theorem about_no (c : Int) (w : World) (h : c < 1 ∨ 47 < c) : Calls Tryz.prog 49 #[.int .i64 c] w fun e w' => e = .returned (.tuple #[.agg #[.string ⟨#[]⟩, .int .i64 0, .int .i64 0, .int .i64 0, .bool false], .bool false]) ∧ Below w.heap.size w w' := by
  rcases h with h | h
  all_goals
    go_enter Tryz.func49, Tryz.ntmps49
    go_wp2_with fail
    refine bodyPost_ret (v := .tuple #[.agg #[.string ⟨#[]⟩, .int .i64 0, .int .i64 0, .int .i64 0, .bool false], .bool false]) (by simp [results, Tryz.results49, go_sem]) rfl ⟨rfl, ?_⟩
    exact (Below.refl _ _).alloc (Nat.le_refl _) _
theorem last_cases (c : Int) (h : aOk c = true) : ((c == 15) = true ∧ (c == 18) = false ∧ (c == 19) = false ∧ (aLast c && aOk c) = true) ∨ ((c == 15) = false ∧ (c == 18) = true ∧ (c == 19) = false ∧ (aLast c && aOk c) = true) ∨
    ((c == 15) = false ∧ (c == 18) = false ∧ (c == 19) = true ∧ (aLast c && aOk c) = true) ∨ ((c == 15) = false ∧ (c == 18) = false ∧ (c == 19) = false ∧ (aLast c && aOk c) = false) := by
  rw [h]
  by_cases h1 : c = 15
  · subst h1; decide
  · by_cases h2 : c = 18
    · subst h2; decide
    · by_cases h3 : c = 19
      · subst h3; decide
      · refine Or.inr (Or.inr (Or.inr ⟨by simp [h1], by simp [h2], by simp [h3], by simp [aLast, h1, h2, h3]⟩))
/-- op.About, at every code -/
theorem about_any (c : Int) (w : World) (hw : LaidOp w) : Calls Tryz.prog 49 #[.int .i64 c] w fun e w' =>
    e = .returned (.tuple #[.agg #[.string ⟨(aName c).toArray⟩, .int .i64 (aArg c), .int .i64 (aPop c), .int .i64 (aPush c), .bool (aLast c && aOk c)], .bool (aOk c)]) ∧ Below w.heap.size w w' := by
  cases h : aOk c with
  | false =>
    have hr := aRow_no h
    unfold aName aArg aPop aPush
    rw [hr, Bool.and_false]
    exact about_no c w (aOk_false h)
  | true =>
    obtain ⟨h1, h2⟩ := aOk_true h
    obtain ⟨i, rfl⟩ : ∃ i : Nat, c = (i : Int) + 1 := ⟨(c - 1).toNat, by omega⟩
    have hi : i < 47 := by omega
    have hlen : opRows.length = 47 := rfl
    have hrow : opRows[i]? = some (aRow ((i : Int) + 1)) := by
      unfold aRow
      rw [if_pos ⟨h1, h2⟩, show ((i : Int) + 1).toNat - 1 = i by omega, List.getD_eq_getElem?_getD, List.getElem?_eq_getElem (by omega)]
      rfl
    have hsz := hw.2.1.size
    have k0 := hw.2.1.cell i 0 _ hrow (by omega)
    have k1 := hw.2.1.cell i 1 _ hrow (by omega)
    have k2 := hw.2.1.cell i 2 _ hrow (by omega)
    have k3 := hw.2.1.cell i 3 _ hrow (by omega)
    have hrg := arg_range _ h
    have := about_core i hi ⟨(aName ((i : Int) + 1)).toArray⟩ (aArg ((i : Int) + 1)) (aPop ((i : Int) + 1)) (aPush ((i : Int) + 1)) _ _ _ _ w hsz (by omega) (by omega) (by omega) k0 k1 k2 k3 rfl rfl rfl (last_cases _ h)
    rw [h] at this
    exact this
end Go.Proofs.YtiggallcoocdaaaGreatDoor
