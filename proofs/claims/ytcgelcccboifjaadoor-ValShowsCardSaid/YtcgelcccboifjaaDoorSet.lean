/- Stores into blocks of the call's own. They speak of no program. -/
import Derived.Test.YtcgelcccboifjaaDoorMem
namespace Go.Proofs.YtcgelcccboifjaaDoor
open Go.RowKit
theorem cell_other {b b' : Nat} (h : b' ≠ b) (W : World) (o o' : Nat) (v : Value) : (W.setCell ⟨b', o', none⟩ v).cell? ⟨b, o, none⟩ = W.cell? ⟨b, o, none⟩ := by
  unfold World.cell?
  show (match (W.heap.modify b' _)[b]? with | some (.cells c _ _) => _ | _ => _) = _
  rw [Array.getElem?_modify, if_neg h]
  rfl
theorem at_world {Q : Exit → Act → World → Prop} {e : Exit} {a : Act} {E W : World} (h : W = E) (hq : Q e a W) : Q e a E := h ▸ hq
theorem setCells_block {T : TypeId} {b : Nat} : ∀ (vs : List Value) (o : Nat) (w : World) (cur : Array Value), w.heap[b]? = some (.cells cur T) → o + vs.length ≤ cur.size →
    (w.setCells b o vs).heap[b]? = some (.cells (cur.toList.take o ++ vs ++ cur.toList.drop (o + vs.length)).toArray T)
  | [], o, w, cur, h, _ => by
    show w.heap[b]? = _
    rw [h]
    simp
  | v :: r, o, w, cur, h, hl => by
    simp only [List.length_cons] at hl
    have h1 := setCells_block r (o + 1) (w.setCell ⟨b, o, none⟩ v) (cur.setIfInBounds o v) (setCell_block h v) (by simp; omega)
    show ((w.setCell ⟨b, o, none⟩ v).setCells b (o + 1) r).heap[b]? = _
    rw [h1]
    congr 3
    simp only [Array.toList_setIfInBounds, List.length_cons]
    have ho : o < cur.toList.length := by simp; omega
    have ht : (cur.toList.set o v).take (o + 1) = cur.toList.take o ++ [v] := by
      rw [List.take_add_one, List.take_set_of_le (Nat.le_refl o), List.getElem?_set_self ho]
      rfl
    have hd : (cur.toList.set o v).drop (o + 1 + r.length) = cur.toList.drop (o + (r.length + 1)) := by
      rw [List.drop_set_of_lt (by omega), show o + 1 + r.length = o + (r.length + 1) by omega]
    rw [ht, hd]
    simp
theorem setCells_other {b : Nat} : ∀ (vs : List Value) (o : Nat) (w : World) (k : Nat), k ≠ b → (w.setCells b o vs).heap[k]? = w.heap[k]?
  | [], _, _, _, _ => rfl
  | v :: r, o, w, k, hk => by
    show ((w.setCell ⟨b, o, none⟩ v).setCells b (o + 1) r).heap[k]? = _
    rw [setCells_other r (o + 1) _ k hk]
    show (w.heap.modify b _)[k]? = _
    rw [Array.getElem?_modify, if_neg (fun h => hk h.symm)]
theorem setCells_same {b : Nat} : ∀ (vs : List Value) (o : Nat) (w : World), (w.setCells b o vs).os = w.os ∧ (w.setCells b o vs).tape = w.tape ∧ (w.setCells b o vs).output = w.output ∧ (w.setCells b o vs).heap.size = w.heap.size
  | [], _, _ => ⟨rfl, rfl, rfl, rfl⟩
  | v :: r, o, w => by
    obtain ⟨h1, h2, h3, h4⟩ := setCells_same (b := b) r (o + 1) (w.setCell ⟨b, o, none⟩ v)
    refine ⟨h1, h2, h3, h4.trans ?_⟩
    show (w.heap.modify b _).size = _
    simp
theorem below_setCells {w w' : World} {B b : Nat} (h : Below B w w') (hb : B ≤ b) (o : Nat) (vs : List Value) : Below B w (w'.setCells b o vs) := by
  obtain ⟨h1, h2, h3, h4⟩ := setCells_same (b := b) vs o w'
  exact ⟨h1.trans h.os, h2.trans h.tape, h3.trans h.output, by rw [h4]; exact h.size, fun k hk => (setCells_other vs o w' k (by omega)).trans (h.block k hk)⟩
theorem set_block {W : World} {b : Nat} {T : TypeId} {old : Array Value} (h : W.heap[b]? = some (.cells old T)) (vs : List Value) (hn : vs.length = old.size) : (W.setCells b 0 vs).heap[b]? = some (.cells vs.toArray T) := by
  have h1 := setCells_block vs 0 W old h (by omega)
  rw [h1, List.take_zero, List.drop_of_length_le (by simp; omega)]
  simp
theorem setCell_same {w : World} {a : Addr} {v : Value} (h : w.cell? a = some v) : w.setCell a v = w := by
  unfold World.cell? at h
  have hh : (w.setCell a v).heap = w.heap := by
    unfold World.setCell
    apply Array.ext_getElem?
    intro i
    rw [Array.getElem?_modify]
    by_cases hi : a.block = i
    · subst hi
      rw [if_pos rfl]
      cases hh : w.heap[a.block]? with
      | none => rfl
      | some o =>
        rw [hh] at h
        cases o with
        | cells c e f =>
          simp only at h
          cases hs : a.spot with
          | some x => simp [hs] at h
          | none =>
            simp only [hs, Option.isSome_none, Bool.false_eq_true, if_false] at h
            simp only [Option.map_some, Option.isSome_none, Bool.false_eq_true, if_false, Option.some.injEq]
            congr 1
            apply Array.ext_getElem?
            intro j
            rw [Array.getElem?_setIfInBounds]
            by_cases hj : a.off = j
            · subst hj
              obtain ⟨hlt, he⟩ := Array.getElem?_eq_some_iff.1 h
              rw [if_pos rfl, if_pos hlt, h]
            · rw [if_neg hj]
        | _ => rfl
    · rw [if_neg hi]
  have e : w.setCell a v = { w with heap := (w.setCell a v).heap } := rfl
  rw [e, hh]
end Go.Proofs.YtcgelcccboifjaaDoor
