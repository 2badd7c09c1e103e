/- Arguments of chapter 12 as they come: a variable, a value, acts; every argument reads behind the call as before it, where nothing that was there is turned. -/
import Derived.Test.YtdpmilffadalkaaDoorWMvarKeeps
import Derived.ChangeStays
import Derived.ChangeBook
import Derived.OpenShut
import Derived.ChangeSlices
import Derived.ChangeArms
import Derived.Deep.Slices
namespace Go.Proofs.YtdpmilffadalkaaDoor
open Go.RowKit Go.ChangeShapes Go.WideShapes
section
variable {H : Type} {enc : TypeId × Value → H}
theorem carry_gen {P : Program} (hl : laidOutB P = true) {t : TypeId} (hr : P.readableRec t = true) (hrow : t < P.types.size) {W W' : World} (hb : Below W.heap.size W W') {v : Value} {d : DataW H} {p : List MemPlace}
    (h : DataW.Trod enc P W 0 (fun _ => true) true t v d p) (hlt : ∀ q ∈ p, q.block < W.heap.size) {sp : Nat → Bool} (hs : ∀ q ∈ p, sp q.block = true) : DataW.Trod enc P W' 0 sp true t v d p := by
  obtain ⟨fuel, hf⟩ := h
  exact ⟨fuel, DataW.trod_stays (kids_book hl hr) (book_sized hr) (fun h => by cases h) ⟨hrow, book_self t⟩ hf (fun q hq => hb.same (hlt q hq)) hs⟩
theorem add_eq {w : World} {a : Addr} {v : Value} (h : w.cell? a = some v) : a.spot = none := by
  unfold World.cell? at h
  split at h
  · split at h
    · cases h
    · rename_i hs
      simpa using hs
  · cases h
theorem addr_add {a : Addr} (h : a.spot = none) (j : Nat) : a.add j = ⟨a.block, a.off + j, none⟩ := by
  obtain ⟨b, o, s⟩ := a
  simp only at h
  subst h
  unfold Addr.add
  split
  · rename_i h0; subst h0; rfl
  · rfl
/-- a field of a struct -/
theorem leaf {P : Program} {w : World} {base : Nat} {spare : Nat → Bool} {held : Bool} {t : TypeId} {fs : Array Field} {fuel : Nat} {cs : List Value} {x : DataW H × List MemPlace} (ht : P.underlying t = some (.struct fs)) (h : DataW.trod enc P w base spare held fuel t cs = some x)
    (j : Nat) (f : Field) (hj : fs[j]? = some f) (off n : Nat) (ho : f.offset = off) (hc : P.cellsOf f.type = n) : ∃ fuel' y, DataW.trod enc P w base spare held fuel' f.type ((cs.drop off).take n) = some y ∧ ∀ B, (∀ z ∈ x.1.weights P t, z ≤ B) → ∀ z ∈ y.1.weights P f.type, z ≤ B := by
  obtain ⟨xs, m, _, hx, _, hxl, hf⟩ := DataW.trod_struct ht h
  have h1 := hf j f hj
  have hjl : j < xs.length := by rw [hxl]; exact (Array.getElem?_eq_some_iff.1 hj).1
  rw [List.getElem?_eq_getElem hjl, ho, hc] at h1
  refine ⟨m, _, h1, fun B hB z hz => hB z ?_⟩
  rw [hx]
  simp only [DataW.weights, ht]
  exact DataW.weights_mem_each (j := j) (t := f.type) (d := xs[j].1) (by simp [hj]) (by simp [hjl]) z hz
theorem len_of {P : Program} {w : World} {base : Nat} {spare : Nat → Bool} {held : Bool} {t : TypeId} {fs : Array Field} {fuel : Nat} {cs : List Value} {x : DataW H × List MemPlace} (ht : P.underlying t = some (.struct fs)) (h : DataW.trod enc P w base spare held fuel t cs = some x) : cs.length = P.cellsOf t := by
  obtain ⟨_, _, _, _, hl, _⟩ := DataW.trod_struct ht h
  exact hl
theorem val_parts {w : World} {base : Nat} {spare : Nat → Bool} {held : Bool} {fuel : Nat} {cs : List Value} {x : DataW H × List MemPlace} (h : DataW.trod enc Tryd.prog w base spare held fuel 28 cs = some x) :
    ∃ k n m s i, cs = [.int .i64 k, .int .i64 n, .string m, .string s, .string i] := by
  have hl := (len_of Tryd.underlying28 h).trans (show Tryd.prog.cellsOf 28 = 5 by kernel_rfl)
  match cs, hl with
  | [c0, c1, c2, c3, c4], _ =>
    obtain ⟨_, y0, h0, _⟩ := leaf Tryd.underlying28 h 0 _ rfl 0 1 rfl (by kernel_rfl)
    obtain ⟨_, y1, h1, _⟩ := leaf Tryd.underlying28 h 1 _ rfl 1 1 rfl (by kernel_rfl)
    obtain ⟨_, y2, h2, _⟩ := leaf Tryd.underlying28 h 2 _ rfl 2 1 rfl (by kernel_rfl)
    obtain ⟨_, y3, h3, _⟩ := leaf Tryd.underlying28 h 3 _ rfl 3 2 rfl (by kernel_rfl)
    obtain ⟨_, y4, h4, _⟩ := leaf Tryd.underlying26 h3 0 _ rfl 0 1 rfl (by kernel_rfl)
    obtain ⟨_, y5, h5, _⟩ := leaf Tryd.underlying26 h3 1 _ rfl 1 1 rfl (by kernel_rfl)
    obtain ⟨k, e0, _⟩ := DataW.trod_int Tryd.underlying3 h0
    obtain ⟨n, e1, _⟩ := DataW.trod_int Tryd.underlying2 h1
    obtain ⟨m, e2, _⟩ := DataW.trod_string Tryd.underlying9 h2
    obtain ⟨s, e4, _⟩ := DataW.trod_string Tryd.underlying24 h4
    obtain ⟨i, e5, _⟩ := DataW.trod_string Tryd.underlying24 h5
    simp at e0 e1 e2 e4 e5
    exact ⟨k, n, m, s, i, by rw [e0, e1, e2, e4, e5]⟩
theorem wait_parts {w : World} {base : Nat} {spare : Nat → Bool} {held : Bool} {fuel : Nat} {cs : List Value} {x : DataW H × List MemPlace} (h : DataW.trod enc Tryd.prog w base spare held fuel 48 cs = some x) :
    ∃ y : Wt, cs = y.row := by
  have hl := (len_of Tryd.underlying48 h).trans (show Tryd.prog.cellsOf 48 = 7 by kernel_rfl)
  match cs, hl with
  | [c0, c1, c2, c3, c4, c5, c6], _ =>
    obtain ⟨_, y0, h0, _⟩ := leaf Tryd.underlying48 h 0 _ rfl 0 1 rfl (by kernel_rfl)
    obtain ⟨_, y1, h1, _⟩ := leaf Tryd.underlying48 h 1 _ rfl 1 1 rfl (by kernel_rfl)
    obtain ⟨_, y2, h2, _⟩ := leaf Tryd.underlying48 h 2 _ rfl 2 5 rfl (by kernel_rfl)
    obtain ⟨id, e0, _⟩ := DataW.trod_string Tryd.underlying9 h0
    obtain ⟨p, e1, _⟩ := DataW.trod_bool Tryd.underlying4 h1
    obtain ⟨k, n, m, s, i, e2⟩ := val_parts h2
    simp at e0 e1 e2
    obtain ⟨rfl, rfl, rfl, rfl, rfl⟩ := e2
    exact ⟨⟨id, p, ⟨k, n, m, s, i⟩⟩, by rw [e0, e1]; rfl⟩
theorem list_of {α : Type} {P : Nat → α → Prop} : ∀ (n : Nat), (∀ i, i < n → ∃ x, P i x) → ∃ l : List α, l.length = n ∧ ∀ i (h : i < l.length), P i l[i]
  | 0, _ => ⟨[], rfl, fun i h => by cases h⟩
  | n + 1, h => by
    obtain ⟨l, hl, hp⟩ := list_of n (fun i hi => h i (by omega))
    obtain ⟨x, hx⟩ := h n (by omega)
    refine ⟨l ++ [x], by simp [hl], fun i hi => ?_⟩
    by_cases hin : i < l.length
    · rw [List.getElem_append_left hin]; exact hp i hin
    · have : i = n := by simp at hi; omega
      subst this
      rw [List.getElem_append_right (by omega)]
      simpa [hl] using hx
theorem slots_of {W : World} {a : Addr} {len cap : Nat} {l : List Wt} (hl : l.length = len) (hc : len ≤ cap) (h : ∀ i (hi : i < l.length) (j : Nat) u, l[i].row[j]? = some u → W.cell? (a.add (i * 7 + j)) = some u) : QAt W (.slice (some a) len cap) l := by
  refine ⟨rowsQ_wide l, ?_⟩
  by_cases h0 : len = 0
  · exact .inl ⟨⟨some a, cap, by rw [h0]⟩, by rw [show l = [] from List.eq_nil_of_length_eq_zero (by omega)]; rfl⟩
  · have h1 := h 0 (by omega) 0 _ rfl
    have hs := add_eq h1
    have hs' : a.spot = none := by
      unfold Addr.add at hs
      simpa using hs
    have hb := World.block_lt_of_cell? _ _ h1
    have hab : (a.add (0 * 7 + 0)).block = a.block := by rw [addr_add hs']
    rw [hab] at hb
    obtain ⟨b, o, s⟩ := a
    simp only at hs'
    subst hs'
    refine .inr ⟨b, o, cap, by rw [rowsQ_len, hl], by rw [rowsQ_len, hl]; exact hc, hb, fun j u hj => ?_⟩
    have hfl := (rowsQ_wide l).len
    have hjl : j < l.length * 7 := by
      have := (List.getElem?_eq_some_iff.1 hj).1
      rw [hfl, rowsQ_len] at this
      exact this
    have hi : j / 7 < l.length := by omega
    have hm : j % 7 < 7 := Nat.mod_lt _ (by omega)
    have hg := (rowsQ_wide l).get (j / 7) (j % 7) _ hm (rowsQ_get l (j / 7) hi)
    have hjj : j / 7 * 7 + j % 7 = j := by omega
    rw [hjj, hj] at hg
    have := h (j / 7) hi (j % 7) u hg.symm
    rw [hjj, Addr.add_lit] at this
    exact this
theorem q_parts {W : World} {fuel : Nat} {c : Value} {x : DataW H × List MemPlace} (h : DataW.trod enc Tryd.prog W 0 (fun _ => true) true fuel 29 [c] = some x) :
    ∃ q, QAt W c q ∧ ∀ B, (∀ z ∈ x.1.weights Tryd.prog 29, z ≤ B) → q.length * 88 ≤ B := by
  rcases Go.Deep.open_slice Tryd.underlying29 h with ⟨hcs, _⟩ | ⟨a, len, cap, m, n, D, Pl, hcs, _, hl, _, hm, hx, hi⟩
  · simp at hcs
    exact ⟨[], ⟨rowsQ_wide _, .inl ⟨⟨none, 0, hcs⟩, rfl⟩⟩, fun B _ => by simp⟩
  · simp at hcs hm
    have hC : Tryd.prog.cellsOf 48 = 7 := by kernel_rfl
    obtain ⟨q, hq, hp⟩ := list_of (P := fun i (y : Wt) => W.cells? 0 (a.add (i * 7)) 7 = some y.row) len (fun i hil => by
      obtain ⟨cs', h1, h2⟩ := hi i (by omega)
      obtain ⟨y, rfl⟩ := wait_parts h2
      rw [hC] at h1
      exact ⟨y, h1⟩)
    refine ⟨q, ?_, fun B hB => ?_⟩
    · rw [hcs]
      refine slots_of hq hl (fun i hil j u hj => ?_)
      have h1 := hp i hil
      obtain ⟨_, _, hat⟩ := World.cells?_some h1
      have hj7 : j < 7 := (List.getElem?_eq_some_iff.1 hj).1
      rw [← Go.Deep.add_add, hat j hj7]
      exact hj
    · have := hB ((len + (m - len)) * Tryd.prog.bytesOf 48) (by rw [hx]; simp [DataW.weights, Tryd.underlying29])
      rw [show Tryd.prog.bytesOf 48 = 88 by kernel_rfl] at this
      rw [hq]
      omega
set_option maxRecDepth 100000 in
theorem open_value {W : World} {r : Reach} {b0 : Nat} {v : Value} {d : DataW H} {p : List MemPlace} (hv : Value.okWide Tryd.prog W r b0 28 v) (h : DataW.Trod enc Tryd.prog W 0 (fun _ => true) true 28 v d p) :
    ∃ k n m s i, v = .agg #[.int .i64 k, .int .i64 n, .string m, .string s, .string i] := by
  obtain ⟨cs, rfl, _⟩ := okWide_struct Tryd.underlying28 hv
  obtain ⟨fuel, hf⟩ := h
  obtain ⟨k, n, m, s, i, e⟩ := val_parts hf
  exact ⟨k, n, m, s, i, by rw [show cs = #[.int .i64 k, .int .i64 n, .string m, .string s, .string i] from Array.toList_inj.1 e]⟩
set_option maxRecDepth 100000 in
theorem open_mvar {W : World} {r : Reach} {b0 : Nat} {v : Value} {d : DataW H} {p : List MemPlace} (hv : Value.okWide Tryd.prog W r b0 31 v) (h : DataW.Trod enc Tryd.prog W 0 (fun _ => true) true 31 v d p) :
    ∃ f k n m s i sv q, v = .agg #[.bool f, .int .i64 k, .int .i64 n, .string m, .string s, .string i, sv] ∧ QAt W sv q ∧ ∀ B, (∀ z ∈ d.weights Tryd.prog 31, z ≤ B) → q.length * 88 ≤ B := by
  obtain ⟨cs, rfl, _⟩ := okWide_struct Tryd.underlying31 hv
  obtain ⟨fuel, hf⟩ := h
  have hl := (len_of Tryd.underlying31 hf).trans (show Tryd.prog.cellsOf 31 = 7 by kernel_rfl)
  obtain ⟨l⟩ := cs
  match l, hl with
  | [c0, c1, c2, c3, c4, c5, c6], _ =>
    obtain ⟨_, y0, h0, _⟩ := leaf Tryd.underlying31 hf 0 _ rfl 0 1 rfl (by kernel_rfl)
    obtain ⟨_, y1, h1, _⟩ := leaf Tryd.underlying31 hf 1 _ rfl 1 5 rfl (by kernel_rfl)
    obtain ⟨_, y2, h2, hw⟩ := leaf Tryd.underlying31 hf 2 _ rfl 6 1 rfl (by kernel_rfl)
    obtain ⟨f, e0, _⟩ := DataW.trod_bool Tryd.underlying4 h0
    obtain ⟨k, n, m, s, i, e1⟩ := val_parts h1
    obtain ⟨q, hq, hB⟩ := q_parts h2
    simp [Value.cells] at e0 e1
    obtain ⟨rfl, rfl, rfl, rfl, rfl⟩ := e1
    exact ⟨f, k, n, m, s, i, c6, q, by rw [e0], hq, fun B hb => hB B (hw B hb)⟩
end
theorem laidOutAll : laidOutB Tryd.prog = true := by kernel_rfl
end Go.Proofs.YtdpmilffadalkaaDoor
