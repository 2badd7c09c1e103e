/- Arguments of chapter 7 as they come: a value, a label. -/
import Derived.Test.YtcgelcccboifjaaDoorOpen
import Derived.ChangeArms
import Derived.Test.YtcgelcccboifjaaDoorPText
import Derived.Lib.LaidTab
namespace Go.Proofs.YtcgelcccboifjaaDoor
open Go.RowKit Go.ChangeShapes Go.WideShapes
section
variable {H : Type} {enc : TypeId × Value → H}
/-- a field of a struct -/
theorem leaf {P : Program} {w : World} {base : Nat} {spare : Nat → Bool} {held : Bool} {t : TypeId} {fs : Array Field} {fuel : Nat} {cs : List Value} {x : DataW H × List MemPlace} (ht : P.underlying t = some (.struct fs)) (h : DataW.trod enc P w base spare held fuel t cs = some x)
    (j : Nat) (f : Field) (hj : fs[j]? = some f) (off n : Nat) (ho : f.offset = off) (hc : P.cellsOf f.type = n) : ∃ fuel' y, DataW.trod enc P w base spare held fuel' f.type ((cs.drop off).take n) = some y ∧ ∀ B, (∀ z ∈ x.1.weights P t, z ≤ B) → ∀ z ∈ y.1.weights P f.type, z ≤ B := by
  obtain ⟨xs, m, _, hx, _, hxl, hf⟩ := DataW.trod_struct ht h
  have h1 := hf j f hj
  have hjl : j < xs.length := by rw [hxl]; exact (Array.getElem?_eq_some_iff.1 hj).1
  rw [List.getElem?_eq_getElem hjl, ho, hc] at h1
  refine ⟨m, _, h1, fun B hB z hz => hB z ?_⟩
  rw [hx]
  simp only [DataW.weights, ht]
  exact DataW.weights_mem_each (j := j) (t := f.type) (d := xs[j].1) (by simp [hj]) (by simp [hjl]) z hz
theorem len_of {P : Program} {w : World} {base : Nat} {spare : Nat → Bool} {held : Bool} {t : TypeId} {fs : Array Field} {fuel : Nat} {cs : List Value} {x : DataW H × List MemPlace} (ht : P.underlying t = some (.struct fs)) (h : DataW.trod enc P w base spare held fuel t cs = some x) : cs.length = P.cellsOf t := by
  obtain ⟨_, _, _, _, hl, _⟩ := DataW.trod_struct ht h
  exact hl
theorem str_weight {P : Program} {t : TypeId} {s : ByteArray} {y : DataW H × List MemPlace} (h : y = (.lit (.string s.data.toList), [])) {B : Nat} (hB : ∀ z ∈ y.1.weights P t, z ≤ B) : s.size ≤ B := by
  subst h
  have := hB s.data.toList.length (by simp [DataW.weights])
  rwa [Array.length_toList] at this
theorem val_parts7 {w : World} {base : Nat} {spare : Nat → Bool} {held : Bool} {fuel : Nat} {cs : List Value} {x : DataW H × List MemPlace} (h : DataW.trod enc Tryd.prog w base spare held fuel 26 cs = some x) :
    ∃ k n m s i, cs = [.int .i64 k, .int .i64 n, .string m, .string s, .string i] ∧ InI64 n ∧ ∀ B, (∀ z ∈ x.1.weights Tryd.prog 26, z ≤ B) → m.size ≤ B ∧ s.size ≤ B ∧ i.size ≤ B := by
  have hl := (len_of Tryd.underlying26 h).trans (show Tryd.prog.cellsOf 26 = 5 by kernel_rfl)
  match cs, hl with
  | [c0, c1, c2, c3, c4], _ =>
    obtain ⟨_, y0, h0, _⟩ := leaf Tryd.underlying26 h 0 _ rfl 0 1 rfl (by kernel_rfl)
    obtain ⟨_, y1, h1, _⟩ := leaf Tryd.underlying26 h 1 _ rfl 1 1 rfl (by kernel_rfl)
    obtain ⟨_, y2, h2, w2⟩ := leaf Tryd.underlying26 h 2 _ rfl 2 1 rfl (by kernel_rfl)
    obtain ⟨_, y3, h3, w3⟩ := leaf Tryd.underlying26 h 3 _ rfl 3 2 rfl (by kernel_rfl)
    obtain ⟨_, y4, h4, w4⟩ := leaf Tryd.underlying24 h3 0 _ rfl 0 1 rfl (by kernel_rfl)
    obtain ⟨_, y5, h5, w5⟩ := leaf Tryd.underlying24 h3 1 _ rfl 1 1 rfl (by kernel_rfl)
    obtain ⟨k, e0, _⟩ := DataW.trod_int Tryd.underlying3 h0
    obtain ⟨n, e1, _, hn⟩ := DataW.trod_int Tryd.underlying2 h1
    obtain ⟨m, e2, d2, _⟩ := DataW.trod_string Tryd.underlying9 h2
    obtain ⟨s, e4, d4, _⟩ := DataW.trod_string Tryd.underlying22 h4
    obtain ⟨i, e5, d5, _⟩ := DataW.trod_string Tryd.underlying22 h5
    simp at e0 e1 e2 e4 e5
    exact ⟨k, n, m, s, i, by rw [e0, e1, e2, e4, e5], wf_i64 hn, fun B hB => ⟨str_weight d2 (w2 B hB), str_weight d4 (w4 B (w3 B hB)), str_weight d5 (w5 B (w3 B hB))⟩⟩
theorem label_parts7 {w : World} {base : Nat} {spare : Nat → Bool} {held : Bool} {fuel : Nat} {cs : List Value} {x : DataW H × List MemPlace} (h : DataW.trod enc Tryd.prog w base spare held fuel 24 cs = some x) :
    ∃ s i, cs = [.string s, .string i] ∧ ∀ B, (∀ z ∈ x.1.weights Tryd.prog 24, z ≤ B) → s.size ≤ B ∧ i.size ≤ B := by
  have hl := (len_of Tryd.underlying24 h).trans (show Tryd.prog.cellsOf 24 = 2 by kernel_rfl)
  match cs, hl with
  | [c3, c4], _ =>
    obtain ⟨_, y4, h4, w4⟩ := leaf Tryd.underlying24 h 0 _ rfl 0 1 rfl (by kernel_rfl)
    obtain ⟨_, y5, h5, w5⟩ := leaf Tryd.underlying24 h 1 _ rfl 1 1 rfl (by kernel_rfl)
    obtain ⟨s, e4, d4, _⟩ := DataW.trod_string Tryd.underlying22 h4
    obtain ⟨i, e5, d5, _⟩ := DataW.trod_string Tryd.underlying22 h5
    simp at e4 e5
    exact ⟨s, i, by rw [e4, e5], fun B hB => ⟨str_weight d4 (w4 B hB), str_weight d5 (w5 B hB)⟩⟩
set_option maxRecDepth 100000 in
theorem open_value7 {W : World} {r : Reach} {b0 : Nat} {v : Value} {d : DataW H} {p : List MemPlace} (hv : Value.okWide Tryd.prog W r b0 26 v) (h : DataW.Trod enc Tryd.prog W 0 (fun _ => true) true 26 v d p) :
    ∃ k n m s i, v = .agg #[.int .i64 k, .int .i64 n, .string m, .string s, .string i] ∧ InI64 n ∧ ∀ B, (∀ z ∈ d.weights Tryd.prog 26, z ≤ B) → m.size ≤ B ∧ s.size ≤ B ∧ i.size ≤ B := by
  obtain ⟨cs, rfl, _⟩ := okWide_struct Tryd.underlying26 hv
  obtain ⟨fuel, hf⟩ := h
  obtain ⟨k, n, m, s, i, e, hn, hB⟩ := val_parts7 hf
  exact ⟨k, n, m, s, i, by rw [show cs = #[.int .i64 k, .int .i64 n, .string m, .string s, .string i] from Array.toList_inj.1 e], hn, hB⟩
set_option maxRecDepth 100000 in
theorem open_label7 {W : World} {r : Reach} {b0 : Nat} {v : Value} {d : DataW H} {p : List MemPlace} (hv : Value.okWide Tryd.prog W r b0 24 v) (h : DataW.Trod enc Tryd.prog W 0 (fun _ => true) true 24 v d p) :
    ∃ s i, v = .agg #[.string s, .string i] ∧ ∀ B, (∀ z ∈ d.weights Tryd.prog 24, z ≤ B) → s.size ≤ B ∧ i.size ≤ B := by
  obtain ⟨cs, rfl, _⟩ := okWide_struct Tryd.underlying24 hv
  obtain ⟨fuel, hf⟩ := h
  obtain ⟨s, i, e, hB⟩ := label_parts7 hf
  exact ⟨s, i, by rw [show cs = #[.string s, .string i] from Array.toList_inj.1 e], hB⟩
end
theorem gLet7 : Tryd.prog.globalNamed "lazaretto/prin.letters" = some 0 := by kernel_rfl
theorem letters_of {W : World} (h : Lib.TabIs Tryd.prog W "lazaretto/prin.letters" .u8 [97, 98, 99, 100, 101, 102]) : Letters W := by
  unfold Lib.TabIs World.var? at h
  rw [gLet7] at h
  intro k hk
  unfold World.cell?
  cases hh : W.heap[0]? with
  | none => simp [hh] at h
  | some o =>
    cases o with
    | cells cs t fr =>
      simp [hh] at h
      subst h
      match k, hk with
      | 0, _ => rfl
      | 1, _ => rfl
      | 2, _ => rfl
      | 3, _ => rfl
      | 4, _ => rfl
      | 5, _ => rfl
    | _ => simp [hh] at h
end Go.Proofs.YtcgelcccboifjaaDoor
