/- Lists of structs in memory: rows of k cells each. -/
import Derived.WalkKit
import Derived.Lib.SliceRun
import Derived.Deep.LoopGhost
import Derived.Lib.Walk
import Derived.Test.YtdpmilffadalkaaDoorLib
import Derived.Test.YtdpmilffadalkaaDoorMem
namespace Go.Proofs.YtdpmilffadalkaaDoor
open Go.RowKit
def Wide (k : Nat) (l : List (List Value)) : Prop := ∀ r ∈ l, r.length = k ∧ ∀ x ∈ r, x.oneCell' = true
theorem Wide.len {k : Nat} : ∀ {l : List (List Value)}, Wide k l → l.flatten.length = l.length * k
  | [], _ => by simp
  | r :: l, h => by
    rw [List.flatten_cons, List.length_append, (h r (by simp)).1, Wide.len (fun x hx => h x (by simp [hx])), List.length_cons, Nat.add_mul]
    omega
theorem Wide.get {k : Nat} : ∀ {l : List (List Value)}, Wide k l → ∀ (i j : Nat) (r : List Value), j < k → l[i]? = some r → l.flatten[i * k + j]? = r[j]?
  | [], _, i, j, r, _, hr => by simp at hr
  | x :: l, h, 0, j, r, hj, hr => by
    have : x = r := by simpa using hr
    subst this
    rw [List.flatten_cons, Nat.zero_mul, Nat.zero_add, List.getElem?_append_left (by rw [(h x (by simp)).1]; exact hj)]
  | x :: l, h, i + 1, j, r, hj, hr => by
    have hx := (h x (by simp)).1
    have hr' : l[i]? = some r := by simpa using hr
    rw [List.flatten_cons, List.getElem?_append_right (by rw [hx, Nat.add_mul]; omega), hx, show (i + 1) * k + j - k = i * k + j by rw [Nat.add_mul]; omega]
    exact Wide.get (fun x hx => h x (by simp [hx])) i j r hj hr'
theorem Wide.take {k : Nat} : ∀ {l : List (List Value)}, Wide k l → ∀ n, (l.take n).flatten = l.flatten.take (n * k)
  | [], _, n => by simp
  | x :: l, h, 0 => by simp
  | x :: l, h, n + 1 => by
    have hx := (h x (by simp)).1
    rw [List.take_succ_cons, List.flatten_cons, List.flatten_cons, Wide.take (fun x hx => h x (by simp [hx])) n, show (n + 1) * k = x.length + n * k by rw [hx, Nat.add_mul]; omega, List.take_length_add_append]
theorem Wide.drop {k : Nat} : ∀ {l : List (List Value)}, Wide k l → ∀ n, (l.drop n).flatten = l.flatten.drop (n * k)
  | [], _, n => by simp
  | x :: l, h, 0 => by simp
  | x :: l, h, n + 1 => by
    have hx := (h x (by simp)).1
    rw [List.drop_succ_cons, List.flatten_cons, Wide.drop (fun x hx => h x (by simp [hx])) n, show (n + 1) * k = x.length + n * k by rw [hx, Nat.add_mul]; omega, List.drop_length_add_append]
theorem Wide.app {k : Nat} {l m : List (List Value)} (h : Wide k l) (g : Wide k m) : Wide k (l ++ m) := fun r hr => (List.mem_append.1 hr).elim (h r) (g r)
theorem Wide.one {k : Nat} {l : List (List Value)} (h : Wide k l) : ∀ x ∈ l.flatten, x.oneCell' = true := by
  intro x hx
  obtain ⟨r, hr, hxr⟩ := List.mem_flatten.1 hx
  exact (h r hr).2 x hxr
theorem Wide.sub {k : Nat} {l m : List (List Value)} (h : Wide k l) (hm : ∀ r ∈ m, r ∈ l) : Wide k m := fun r hr => h r (hm r hr)
/-- v is a slice whose elements are the rows of l, k cells each -/
def SlotsAt (w : World) (k : Nat) (v : Value) (l : List (List Value)) : Prop :=
  Wide k l ∧ (((∃ ao cap, v = .slice ao 0 cap) ∧ l = []) ∨ ∃ b off cap, v = .slice (some ⟨b, off, none⟩) l.length cap ∧ l.length ≤ cap ∧ b < w.heap.size ∧ ∀ j u, l.flatten[j]? = some u → w.cell? ⟨b, off + j, none⟩ = some u)
theorem SlotsAt.below {w w' : World} {k : Nat} {v : Value} {l : List (List Value)} (h : SlotsAt w k v l) (hb : Below w.heap.size w w') : SlotsAt w' k v l := by
  refine ⟨h.1, ?_⟩
  rcases h.2 with h1 | ⟨b, off, cap, hv, hc, hlt, hg⟩
  · exact .inl h1
  · exact .inr ⟨b, off, cap, hv, hc, Nat.lt_of_lt_of_le hlt hb.size, fun j u hj => by rw [hb.cell (p := ⟨b, off + j, none⟩) hlt]; exact hg j u hj⟩
theorem SlotsAt.slice {w : World} {k : Nat} {v : Value} {l : List (List Value)} (h : SlotsAt w k v l) : ∃ ao cap, v = .slice ao l.length cap := by
  rcases h.2 with ⟨⟨ao, cap, hv⟩, h0⟩ | ⟨b, off, cap, hv, _⟩
  · exact ⟨ao, cap, by rw [hv, h0]; rfl⟩
  · exact ⟨_, _, hv⟩
/-- the address of its first element, where it has one -/
theorem SlotsAt.some {w : World} {k : Nat} {v : Value} {l : List (List Value)} (h : SlotsAt w k v l) (hl : 0 < l.length) :
    ∃ b off cap, v = .slice (some ⟨b, off, none⟩) l.length cap ∧ l.length ≤ cap ∧ b < w.heap.size ∧ ∀ (i j : Nat) r u, l[i]? = some r → r[j]? = some u → w.cell? ⟨b, off + (i * k + j), none⟩ = some u := by
  rcases h.2 with ⟨_, h0⟩ | ⟨b, off, cap, hv, hc, hlt, hg⟩
  · rw [h0] at hl; cases hl
  · refine ⟨b, off, cap, hv, hc, hlt, fun i j r u hi hj => hg _ _ ?_⟩
    have hm := h.1 r (List.mem_of_getElem? hi)
    have hjk : j < k := by
      have := (List.getElem?_eq_some_iff.1 hj).1
      omega
    rw [h.1.get i j r hjk hi, hj]
theorem SlotsAt.of_owns {w : World} {B : Nat} {e : TypeId} {k n : Nat} {v : Value} {xs : List Value} {l : List (List Value)} (hw : Wide k l) (h : w.ownsRow B e k v n xs) (hn : n = l.length) (hx : xs = l.flatten) : SlotsAt w k v l := by
  subst hn
  subst hx
  refine ⟨hw, ?_⟩
  rcases h.2 with ⟨hv, h0⟩ | ⟨g, cap, cur, hv, hb, hg, hnc, _, hcs, htk⟩
  · exact .inl ⟨⟨none, 0, hv⟩, List.eq_nil_of_length_eq_zero h0⟩
  · refine .inr ⟨g, 0, cap, hv, hnc, (Array.getElem?_eq_some_iff.1 hg).1, fun j u hj => ?_⟩
    rw [← htk, List.getElem?_take] at hj
    split at hj
    · simp only [World.cell?, hg]
      simpa using hj
    · cases hj
theorem ownsRow_keep {w w' : World} {B k : Nat} {e : TypeId} {n : Nat} {v : Value} {xs : List Value} (h : w.ownsRow B e k v n xs) (hb : Below w.heap.size w w') : w'.ownsRow B e k v n xs :=
  h.kept (row := none) ⟨hb.os, hb.tape, hb.output, hb.size, fun k hk _ => hb.block k hk⟩ (by cases v.ownBlock <;> simp)
theorem setCells_block {T : TypeId} {b : Nat} : ∀ (vs : List Value) (o : Nat) (w : World) (cur : Array Value), w.heap[b]? = some (.cells cur T) → o + vs.length ≤ cur.size →
    (w.setCells b o vs).heap[b]? = some (.cells (cur.toList.take o ++ vs ++ cur.toList.drop (o + vs.length)).toArray T)
  | [], o, w, cur, h, _ => by
    show w.heap[b]? = _
    rw [h]
    simp
  | v :: r, o, w, cur, h, hl => by
    simp only [List.length_cons] at hl
    have h1 := setCells_block r (o + 1) (w.setCell ⟨b, o, none⟩ v) (cur.setIfInBounds o v) (setCell_block h v) (by simp; omega)
    show ((w.setCell ⟨b, o, none⟩ v).setCells b (o + 1) r).heap[b]? = _
    rw [h1]
    congr 3
    simp only [Array.toList_setIfInBounds, List.length_cons]
    have ho : o < cur.toList.length := by simp; omega
    have ht : (cur.toList.set o v).take (o + 1) = cur.toList.take o ++ [v] := by
      rw [List.take_add_one, List.take_set_of_le (Nat.le_refl o), List.getElem?_set_self ho]
      rfl
    have hd : (cur.toList.set o v).drop (o + 1 + r.length) = cur.toList.drop (o + (r.length + 1)) := by
      rw [List.drop_set_of_lt (by omega), show o + 1 + r.length = o + (r.length + 1) by omega]
    rw [ht, hd]
    simp
theorem setCells_other {b : Nat} : ∀ (vs : List Value) (o : Nat) (w : World) (k : Nat), k ≠ b → (w.setCells b o vs).heap[k]? = w.heap[k]?
  | [], _, _, _, _ => rfl
  | v :: r, o, w, k, hk => by
    show ((w.setCell ⟨b, o, none⟩ v).setCells b (o + 1) r).heap[k]? = _
    rw [setCells_other r (o + 1) _ k hk]
    show (w.heap.modify b _)[k]? = _
    rw [Array.getElem?_modify, if_neg (fun h => hk h.symm)]
theorem setCells_same {b : Nat} : ∀ (vs : List Value) (o : Nat) (w : World), (w.setCells b o vs).os = w.os ∧ (w.setCells b o vs).tape = w.tape ∧ (w.setCells b o vs).output = w.output ∧ (w.setCells b o vs).heap.size = w.heap.size
  | [], _, _ => ⟨rfl, rfl, rfl, rfl⟩
  | v :: r, o, w => by
    obtain ⟨h1, h2, h3, h4⟩ := setCells_same (b := b) r (o + 1) (w.setCell ⟨b, o, none⟩ v)
    refine ⟨h1, h2, h3, h4.trans ?_⟩
    show (w.heap.modify b _).size = _
    simp
theorem below_setCells {w w' : World} {B b : Nat} (h : Below B w w') (hb : B ≤ b) (o : Nat) (vs : List Value) : Below B w (w'.setCells b o vs) := by
  obtain ⟨h1, h2, h3, h4⟩ := setCells_same (b := b) vs o w'
  exact ⟨h1.trans h.os, h2.trans h.tape, h3.trans h.output, by rw [h4]; exact h.size, fun k hk => (setCells_other vs o w' k (by omega)).trans (h.block k hk)⟩
section
variable {P : Program}
/-- 'clear(s)', s a slice of one element of several cells -/
theorem run_clear_one (w : World) (t e ty : TypeId) (z : Value) (zs : List Value) (ht : P.underlying t = some (.slice e)) (hv : ∀ w, (zeroValue e).run P w = .ok z w) (hz : z.cells.toList = zs) (h1 : ∀ x ∈ zs, x.oneCell' = true) (b o c : Nat)
    (hc : ∀ j, j < zs.length → (w.cell? ⟨b, o + j, none⟩).isSome = true) (hf : ∀ j, j < zs.length → w.frozen? ⟨b, o + j, none⟩ = false) :
    (Builtin.clear_ #[t] ty #[.slice (some ⟨b, o, none⟩) 1 c]).run P w = .ok (.tuple #[]) (w.setCells b o zs) := by
  have hzc : (Builtin.zeroCells z.cells 1).toList = zs := by
    rw [← hz]
    simp only [Builtin.zeroCells]
    apply List.ext_getElem
    · simp
    · intro i h1 h2
      have h3 : i < z.cells.size := by simpa using h2
      simp only [Array.getElem_toList, Array.getElem_map, Array.getElem_range, Nat.mod_eq_of_lt h3]
      rw [getElem!_pos z.cells i h3]
  have hst := run_storeCells_cells (P := P) b o zs 0 w (by simpa using hc) (by simpa using hf) h1
  simp only [Nat.add_zero] at hst
  simp [Builtin.clear_, run_underlying ht, hv, hzc, hst]
end
end Go.Proofs.YtdpmilffadalkaaDoor
