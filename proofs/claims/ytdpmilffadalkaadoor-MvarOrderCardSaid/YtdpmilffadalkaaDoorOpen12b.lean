/- A slice of acts, as it comes. -/
import Derived.Test.YtdpmilffadalkaaDoorOpen12
import Derived.Test.YtdpmilffadalkaaDoorMvCnt
namespace Go.Proofs.YtdpmilffadalkaaDoor
open Go.RowKit Go.ChangeShapes Go.WideShapes
section
variable {H : Type} {enc : TypeId × Value → H}
theorem act_parts {w : World} {base : Nat} {spare : Nat → Bool} {held : Bool} {fuel : Nat} {cs : List Value} {x : DataW H × List MemPlace} (h : DataW.trod enc Tryd.prog w base spare held fuel 36 cs = some x) :
    ∃ a : A3, cs = a.row ∧ 0 ≤ a.kind ∧ a.kind ≤ 255 ∧ 0 ≤ a.id ∧ a.id ≤ 255 ∧ InI64 a.n := by
  have hl := (len_of Tryd.underlying36 h).trans (show Tryd.prog.cellsOf 36 = 3 by kernel_rfl)
  match cs, hl with
  | [c0, c1, c2], _ =>
    obtain ⟨_, y0, h0, _⟩ := leaf Tryd.underlying36 h 0 _ rfl 0 1 rfl (by kernel_rfl)
    obtain ⟨_, y1, h1, _⟩ := leaf Tryd.underlying36 h 1 _ rfl 1 1 rfl (by kernel_rfl)
    obtain ⟨_, y2, h2, _⟩ := leaf Tryd.underlying36 h 2 _ rfl 2 1 rfl (by kernel_rfl)
    obtain ⟨k, e0, _, w0⟩ := DataW.trod_int Tryd.underlying5 h0
    obtain ⟨i, e1, _, w1⟩ := DataW.trod_int Tryd.underlying5 h1
    obtain ⟨n, e2, _, w2⟩ := DataW.trod_int Tryd.underlying2 h2
    simp at e0 e1 e2
    exact ⟨⟨k, i, n⟩, by rw [e0, e1, e2]; rfl, (wf_u8 w0).1, (wf_u8 w0).2, (wf_u8 w1).1, (wf_u8 w1).2, wf_i64 w2⟩
set_option maxRecDepth 100000 in
theorem open_acts {W : World} {r : Reach} {b0 : Nat} {v : Value} {d : DataW H} {p : List MemPlace} (hv : Value.okWide Tryd.prog W r b0 22 v) (h : DataW.Trod enc Tryd.prog W 0 (fun _ => true) true 22 v d p) :
    ∃ l, ActsAt W v l := by
  obtain ⟨ao0, len0, cap0, rfl⟩ := okWide_slice Tryd.underlying22 hv
  obtain ⟨fuel, hf⟩ := h
  have hf' : DataW.trod enc Tryd.prog W 0 (fun _ => true) true fuel 22 [.slice ao0 len0 cap0] = some (d, p) := hf
  rcases Go.Deep.open_slice Tryd.underlying22 hf' with ⟨hcs, _⟩ | ⟨a, len, cap, m, n, D, Pl, hcs, _, hl, _, hm, hx, hi⟩
  · simp only [List.cons.injEq, and_true] at hcs
    rw [hcs]
    exact ⟨[], by simp, .inl ⟨⟨none, 0, rfl⟩, rfl⟩⟩
  · simp only [List.cons.injEq, and_true] at hcs
    simp only [if_true] at hm
    rw [hcs]
    have hC : Tryd.prog.cellsOf 36 = 3 := by kernel_rfl
    obtain ⟨l, hq, hp⟩ := list_of (P := fun i (y : A3) => W.cells? 0 (a.add (i * 3)) 3 = some y.row ∧ 0 ≤ y.kind ∧ y.kind ≤ 255 ∧ 0 ≤ y.id ∧ y.id ≤ 255 ∧ InI64 y.n) len (fun i hil => by
      obtain ⟨cs', h1, h2⟩ := hi i (by omega)
      obtain ⟨y, rfl, hy⟩ := act_parts h2
      rw [hC] at h1
      exact ⟨y, h1, hy⟩)
    refine ⟨l, fun y hy => ?_, ?_⟩
    · obtain ⟨i, hil, rfl⟩ := List.getElem_of_mem hy
      exact (hp i hil).2
    · by_cases h0 : len = 0
      · exact .inl ⟨⟨some a, cap, by rw [h0]⟩, List.eq_nil_of_length_eq_zero (by omega)⟩
      · have hcell : ∀ i (hi : i < l.length) (j : Nat) u, l[i].row[j]? = some u → W.cell? (a.add (i * 3 + j)) = some u := fun i hil j u hj => by
          obtain ⟨_, _, hat⟩ := World.cells?_some (hp i hil).1
          have hj3 : j < 3 := (List.getElem?_eq_some_iff.1 hj).1
          rw [← Go.Deep.add_add, hat j hj3]
          exact hj
        have h1 := hcell 0 (by omega) 0 _ rfl
        have hs := add_eq h1
        have hs' : a.spot = none := by
          unfold Addr.add at hs
          simpa using hs
        have hb := World.block_lt_of_cell? _ _ h1
        rw [addr_add hs'] at hb
        obtain ⟨b, o, s⟩ := a
        simp only at hs'
        subst hs'
        exact .inr ⟨b, o, cap, by rw [hq], hb, fun i hil j u hj => by have := hcell i hil j u hj; rw [Addr.add_lit] at this; rw [Nat.add_assoc]; exact this⟩
end
end Go.Proofs.YtdpmilffadalkaaDoor
