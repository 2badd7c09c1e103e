/- A slice of one-cell elements in a block of the call's own, from whatever place of it on: appended to, and cut at its head. -/
import Derived.Test.YtdpmilffadalkaaDoorMvOrd
import Derived.ArgAppend
namespace Go.Proofs.YtdpmilffadalkaaDoor
open Go.RowKit
/-- v is a slice of the call's own of these one-cell values -/
def TailV (B : Nat) (w : World) (T : TypeId) (v : Value) (xs : List Value) : Prop :=
  (∀ u ∈ xs, u.oneCell' = true) ∧ ((∃ ao, v = .slice ao 0 0 ∧ xs = [] ∧ ∀ a, ao = some a → B ≤ a.block ∧ a.block < w.heap.size) ∨ ∃ g off cap cur, v = .slice (some ⟨g, off, none⟩) xs.length cap ∧ B ≤ g ∧ w.heap[g]? = some (.cells cur T) ∧ xs.length ≤ cap ∧ cap ≤ maxLen ∧ off + cap ≤ cur.size ∧ ∀ j, j < xs.length → cur[off + j]? = xs[j]?)
theorem TailV.nil (B : Nat) (w : World) (T : TypeId) : TailV B w T (.slice none 0 0) [] := ⟨by simp, .inl ⟨none, rfl, rfl, by simp⟩⟩
theorem TailV.slice {B : Nat} {w : World} {T : TypeId} {v : Value} {xs : List Value} (h : TailV B w T v xs) : ∃ ao cap, v = .slice ao xs.length cap := by
  rcases h.2 with ⟨ao, rfl, rfl, _⟩ | ⟨g, off, cap, cur, rfl, _⟩
  · exact ⟨ao, 0, rfl⟩
  · exact ⟨_, _, rfl⟩
theorem TailV.kept {B : Nat} {w w' : World} {T : TypeId} {v : Value} {xs : List Value} {row : Option Nat} (h : TailV B w T v xs) (hg : w.grownBy w' row) (hne : v.ownBlock ≠ row ∨ v.ownBlock = none) : TailV B w' T v xs := by
  refine ⟨h.1, ?_⟩
  rcases h.2 with ⟨ao, hv, h0, ha⟩ | ⟨g, off, cap, cur, rfl, hb, hh, r⟩
  · exact .inl ⟨ao, hv, h0, fun a h9 => ⟨(ha a h9).1, Nat.lt_of_lt_of_le (ha a h9).2 hg.size⟩⟩
  · refine .inr ⟨g, off, cap, cur, rfl, hb, ?_, r⟩
    rw [hg.block g (Mem.lt hh) (by simpa [Value.ownBlock] using hne)]
    exact hh
theorem TailV.below {B : Nat} {w w' : World} {T : TypeId} {v : Value} {xs : List Value} (h : TailV B w T v xs) (hb : Below w.heap.size w w') : TailV B w' T v xs :=
  h.kept (row := none) ⟨hb.os, hb.tape, hb.output, hb.size, fun k hk _ => hb.block k hk⟩ (by cases v.ownBlock <;> simp)
theorem TailV.setOther {B : Nat} {w : World} {T : TypeId} {v : Value} {xs : List Value} (h : TailV B w T v xs) {b : Nat} (hb : b < B) (o : Nat) (vs : List Value) : TailV B (w.setCells b o vs) T v xs := by
  refine ⟨h.1, ?_⟩
  rcases h.2 with ⟨ao, hv, h0, ha⟩ | ⟨g, off, cap, cur, rfl, hB, hh, r⟩
  · exact .inl ⟨ao, hv, h0, fun a h9 => ⟨(ha a h9).1, by rw [(setCells_same vs o w).2.2.2]; exact (ha a h9).2⟩⟩
  · exact .inr ⟨g, off, cap, cur, rfl, hB, (setCells_other vs o w g (by omega)).trans hh, r⟩
theorem TailV.low {B : Nat} {w : World} {T : TypeId} {v : Value} {xs : List Value} (h : TailV B w T v xs) : ∀ k, v.ownBlock = some k → B ≤ k ∧ k < w.heap.size := by
  intro k hk
  rcases h.2 with ⟨ao, rfl, _, ha⟩ | ⟨g, off, cap, cur, rfl, hb, hh, _⟩
  · cases ao with
    | none => cases hk
    | some a => simp [Value.ownBlock] at hk; exact hk ▸ ha a rfl
  · simp [Value.ownBlock] at hk; subst hk; exact ⟨hb, Mem.lt hh⟩
/-- the cell of an element -/
theorem TailV.cell {B : Nat} {w : World} {T : TypeId} {ao : Option Addr} {n cap : Nat} {xs : List Value} (h : TailV B w T (.slice ao n cap) xs) {j : Nat} (hj : j < xs.length) : ∃ g off, ao = some ⟨g, off, none⟩ ∧ B ≤ g ∧ g < w.heap.size ∧ w.cell? ⟨g, off + j, none⟩ = some xs[j] := by
  rcases h.2 with ⟨ao', hv, rfl, _⟩ | ⟨g, off, cap', cur, hv, hb, hh, _, _, _, hc⟩
  · cases hj
  · simp only [Value.slice.injEq] at hv
    obtain ⟨rfl, _, _⟩ := hv
    refine ⟨g, off, rfl, hb, Mem.lt hh, ?_⟩
    rw [Mem.cell hh (off + j) (v := xs[j]) (by rw [hc j hj, List.getElem?_eq_getElem hj])]
/-- its head is cut off -/
theorem TailV.cut {B : Nat} {w : World} {T : TypeId} {g off n cap : Nat} {x : Value} {xs : List Value} (h : TailV B w T (.slice (some ⟨g, off, none⟩) n cap) (x :: xs)) :
    TailV B w T (.slice (if cap = 1 then some ⟨g, off, none⟩ else some ⟨g, off + 1, none⟩) xs.length (cap - 1)) xs := by
  refine ⟨fun u hu => h.1 u (by simp [hu]), ?_⟩
  rcases h.2 with ⟨ao', hv, h0, _⟩ | ⟨g', off', cap', cur, hv, hb, hh, hl, hm, hs, hc⟩
  · cases h0
  · simp only [Value.slice.injEq, Option.some.injEq, Addr.mk.injEq, and_true] at hv
    obtain ⟨⟨rfl, rfl⟩, _, rfl⟩ := hv
    simp only [List.length_cons] at hl
    by_cases h1 : cap = 1
    · subst h1
      have : xs = [] := List.eq_nil_of_length_eq_zero (by omega)
      subst this
      exact .inl ⟨_, rfl, rfl, fun a ha => by cases ha; exact ⟨hb, Mem.lt hh⟩⟩
    · rw [if_neg h1]
      refine .inr ⟨g, off + 1, cap - 1, cur, rfl, hb, hh, by omega, by omega, by omega, fun j hj => ?_⟩
      have := hc (j + 1) (by simp; omega)
      rw [show off + 1 + j = off + (j + 1) by omega, this]
      rfl
theorem grown_any {w w' : World} {row : Option Nat} (h : w.grownBy w' none) : w.grownBy w' row := ⟨h.os, h.tape, h.output, h.size, fun k hk _ => h.block k hk (by simp)⟩
theorem TailV.of_own {B B' : Nat} {w : World} {T : TypeId} {v : Value} {n : Nat} {xs : List Value} (h : w.ownsRow B' T 1 v n xs) (hB : B ≤ B') (h1 : ∀ u ∈ xs, u.oneCell' = true) : TailV B w T v xs := by
  have hl : xs.length = n := by have := h.1; omega
  refine ⟨h1, ?_⟩
  rcases h.2 with ⟨rfl, h0⟩ | ⟨g, cap, cur, rfl, hb, hh, hnc, hm, hs, ht⟩
  · exact .inl ⟨none, rfl, List.eq_nil_of_length_eq_zero (by omega), by simp⟩
  · refine .inr ⟨g, 0, cap, cur, by rw [hl], by omega, hh, by omega, hm, by omega, fun j hj => ?_⟩
    rw [← ht, List.getElem?_take, if_pos (by omega)]
    simp
theorem wpList_append_tail {P : Program} {w : World} {ops : Array Oper} {rest : List Oper} {o : Oper} {a : Act} {Q : Exit → Act → World → Prop}
    (hg : o.guard = none) (s x : Operand) (t : TypeId) (hop : o.op = Op.call { callee := Callee.builtin Builtin.append, args := #[s, x], argTypes := #[t, t] })
    (B : Nat) (e : TypeId) (i : TypeInfo) (z : Value) (bytes : Nat) (h1 : P.underlying t = some (.slice e)) (h2 : P.info? e = some i) (h3 : i.zero = some z) (h4 : i.size = 1) (h5 : i.bytes = bytes) (h6 : z.cells.size = 1)
    (v : Value) (xs : List Value) (hs : a.eval s = v) (h : TailV B w e v xs) (ad : Addr) (c : Nat) (y : Value) (hx : a.eval x = .slice (some ad) 1 c) (hc : w.cell? ad = some y) (hy : y.oneCell' = true)
    (b1 : xs.length + 1 ≤ maxLen) (b2 : (xs.length + 1) * bytes ≤ 140737488355328) (hB : B ≤ w.heap.size)
    (hK : ∀ v' w', TailV B w' e v' (xs ++ [y]) → w.grownBy w' v.ownBlock → (v'.ownBlock = v.ownBlock ∨ ∃ k, v'.ownBlock = some k ∧ w.heap.size ≤ k) → wpList P ops Q rest (a.put o.dst v') w') : wpList P ops Q (o :: rest) a w := by
  have hone : ∀ u ∈ xs ++ [y], u.oneCell' = true := by
    intro u hu
    rcases List.mem_append.1 hu with hu | hu
    · exact h.1 u hu
    · rw [List.mem_singleton.1 hu]; exact hy
  have hnews : ∀ j u, [y][j]? = some u → w.cell? (ad.add j) = some u := by
    intro j u hj
    match j, hj with
    | 0, hj =>
      simp at hj
      subst hj
      simpa [Addr.add] using hc
  have hfin : ∀ v' w', w'.ownsRow w.heap.size e 1 v' (xs.length + 1) (xs ++ [y]) → w.grownBy w' none → wpList P ops Q rest (a.put o.dst v') w' := fun v' w' ho hgr => by
    refine hK v' w' (TailV.of_own ho hB hone) (grown_any hgr) (.inr ?_)
    rcases ho.2 with ⟨_, h0⟩ | ⟨g, cap, cur, rfl, hb, _⟩
    · omega
    · exact ⟨g, rfl, hb⟩
  rcases h.2 with ⟨ao, rfl, rfl, _⟩ | ⟨g, off, cap, cur, rfl, hBg, hh, hl, hm, hsz, hcell⟩
  · exact wpList_append_grows w hg s x t hop e i z 1 bytes h1 h2 h3 h4 h5 h6 (by omega) ao 0 0 [] hs (fun _ => ⟨rfl, rfl⟩) rfl (fun b _ j u hj => by simp at hj) ad 1 c [y] hx rfl hnews (by simpa using hy) (by omega) (by simpa using b1) (by simpa using b2) (fun v' w' ho hgr => hfin v' w' (by simpa using ho) hgr)
  · refine wpList_append_arg w hg s x t hop e i z 1 bytes h1 h2 h3 h4 h5 h6 (by omega) g off xs.length cap xs hs (by omega) (fun j u hj => ?_) ad 1 c [y] hx rfl hnews (by simpa using hy) (fun hr j hj => ?_) b1 b2 (fun hr => ?_) (fun _ v' w' ho hgr => hfin v' w' ho hgr)
    · have hj' := (List.getElem?_eq_some_iff.1 hj).1
      exact Mem.cell hh (off + j) (by rw [hcell j hj', hj])
    · simp at hj
      subst hj
      have hlt : off + xs.length * 1 + 0 < cur.size := by omega
      exact ⟨by rw [Mem.cell hh _ (Array.getElem?_eq_getElem hlt)]; rfl, Mem.free hh _⟩
    · have hbk := setCells_block [y] (off + xs.length * 1) w cur hh (by simp; omega)
      refine hK _ _ ⟨hone, .inr ⟨g, off, cap, _, by simp, hBg, hbk, by simp; omega, hm, by simp; omega, fun j hj => ?_⟩⟩ ?_ (.inl rfl)
      · simp only [Nat.mul_one, List.getElem?_toArray]
        by_cases hjx : j < xs.length
        · rw [List.append_assoc, List.getElem?_append_left (by simp; omega), List.getElem?_take, if_pos (by omega), List.getElem?_append_left hjx]
          simpa using hcell j hjx
        · have : j = xs.length := by simp at hj; omega
          subst this
          rw [List.append_assoc, List.getElem?_append_right (by simp; omega), List.getElem?_append_right (Nat.le_refl _)]
          simp [Nat.min_eq_left (show off + xs.length ≤ cur.size by omega)]
      · obtain ⟨s1, s2, s3, s4⟩ := setCells_same (b := g) [y] (off + xs.length * 1) w
        exact ⟨s1, s2, s3, by rw [s4]; exact Nat.le_refl _, fun k _ hk => setCells_other [y] _ w k (by simpa [Value.ownBlock] using hk)⟩
end Go.Proofs.YtdpmilffadalkaaDoor
