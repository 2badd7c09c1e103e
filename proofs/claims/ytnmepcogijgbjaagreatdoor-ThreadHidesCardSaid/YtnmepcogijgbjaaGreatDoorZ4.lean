/- OpenT0, OpenT1, Open17: joined into one text; each part says below what it holds. -/
import Derived.Test.YtnmepcogijgbjaaGreatDoorZN
import Derived.ChangeStays
import Derived.ChangeBook
import Derived.OpenShut
import Derived.ChangeSlices
import Derived.ChangeArms
import Derived.Lib.LaidTab
/- Arguments that are slices, as they come: how they read; every argument reads behind the call as before it, where nothing that was there is turned. -/
namespace Go.Proofs.YtnmepcogijgbjaaGreatDoor
open Go.RowKit Go.ChangeShapes Go.WideShapes
section
variable {H : Type} {enc : TypeId × Value → H}
theorem carry_gen {P : Program} (hl : laidOutB P = true) {t : TypeId} (hr : P.readableRec t = true) (hrow : t < P.types.size) {W W' : World} (hb : Below W.heap.size W W') {v : Value} {d : DataW H} {p : List MemPlace}
    (h : DataW.Trod enc P W 0 (fun _ => true) true t v d p) (hlt : ∀ q ∈ p, q.block < W.heap.size) {sp : Nat → Bool} (hs : ∀ q ∈ p, sp q.block = true) : DataW.Trod enc P W' 0 sp true t v d p := by
  obtain ⟨fuel, hf⟩ := h
  exact ⟨fuel, DataW.trod_stays (kids_book hl hr) (book_sized hr) (fun h => by cases h) ⟨hrow, book_self t⟩ hf (fun q hq => hb.same (hlt q hq)) hs⟩
theorem add_eq {w : World} {a : Addr} {v : Value} (h : w.cell? a = some v) : a.spot = none := by
  unfold World.cell? at h
  split at h
  · split at h
    · cases h
    · rename_i hs
      simpa using hs
  · cases h
theorem addr_add {a : Addr} (h : a.spot = none) (j : Nat) : a.add j = ⟨a.block, a.off + j, none⟩ := by
  obtain ⟨b, o, s⟩ := a
  simp only at h
  subst h
  unfold Addr.add
  split
  · rename_i h0; subst h0; rfl
  · rfl
/-- a slice of one-cell integers of whatever kind, as it comes -/
theorem open_row {P : Program} {t e : TypeId} {k : IntKind} (ht : P.underlying t = some (.slice e)) (he : P.underlying e = some (.int k)) (hc : P.cellsOf e = 1) {W : World} {b0 : Nat} {r : Reach} {v : Value} {d : DataW H} {p : List MemPlace}
    (hv : Value.okWide P W r b0 t v) (h : DataW.Trod enc P W 0 (fun _ => true) true t v d p) :
    ∃ zs : List Int, (∀ n ∈ zs, (Lit.int k n).wf = true) ∧ ((∃ ao cap, v = .slice ao 0 cap ∧ zs = []) ∨ ∃ b off cap, v = .slice (some ⟨b, off, none⟩) zs.length cap ∧ zs.length ≤ cap ∧ cap ≤ maxLen ∧ ∀ j, j < zs.length → W.cell? ⟨b, off + j, none⟩ = some (.int k (zs.getD j 0))) := by
  obtain ⟨ao, len, cap, rfl⟩ := okWide_slice ht hv
  obtain ⟨fuel, hf⟩ := h
  rcases open_ints ht he hc hf with ⟨hcs, _⟩ | ⟨a, len', cap', zs, hcs, _, hl, hm, hz, _, hcell, hwf⟩
  · have hh : Value.slice ao len cap = .slice none 0 0 := (List.cons.inj hcs).1
    refine ⟨[], by simp, Or.inl ⟨none, 0, hh, rfl⟩⟩
  · have hh : Value.slice ao len cap = .slice (some a) len' cap' := (List.cons.inj hcs).1
    have hz' : zs.length = cap' := by simpa using hz
    by_cases h0 : len' = 0
    · subst h0
      exact ⟨[], by simp, Or.inl ⟨some a, cap', hh, rfl⟩⟩
    · have hs := add_eq (hcell 0 (by omega))
      have hs' : a.spot = none := by
        unfold Addr.add at hs
        simpa using hs
      have hlen : (zs.take len').length = len' := by simp; omega
      refine ⟨zs.take len', fun n hn => hwf n (List.mem_of_mem_take hn), Or.inr ⟨a.block, a.off, cap', ?_, by omega, hm, fun j hj => ?_⟩⟩
      · rw [hh, hlen]
        obtain ⟨b, o, s⟩ := a
        simp only at hs'
        subst hs'
        rfl
      · rw [hlen] at hj
        have := hcell j (by omega)
        rw [addr_add hs'] at this
        rw [this]
        congr 2
        simp [hj]
end
theorem laidOutAll : laidOutB Tryz.prog = true := by kernel_rfl
end Go.Proofs.YtnmepcogijgbjaaGreatDoor
/- Arguments of chapter 7 as they come: a value, a label. -/
namespace Go.Proofs.YtnmepcogijgbjaaGreatDoor
open Go.RowKit Go.ChangeShapes Go.WideShapes
section
variable {H : Type} {enc : TypeId × Value → H}
/-- a field of a struct -/
theorem leaf {P : Program} {w : World} {base : Nat} {spare : Nat → Bool} {held : Bool} {t : TypeId} {fs : Array Field} {fuel : Nat} {cs : List Value} {x : DataW H × List MemPlace} (ht : P.underlying t = some (.struct fs)) (h : DataW.trod enc P w base spare held fuel t cs = some x)
    (j : Nat) (f : Field) (hj : fs[j]? = some f) (off n : Nat) (ho : f.offset = off) (hc : P.cellsOf f.type = n) : ∃ fuel' y, DataW.trod enc P w base spare held fuel' f.type ((cs.drop off).take n) = some y ∧ ∀ B, (∀ z ∈ x.1.weights P t, z ≤ B) → ∀ z ∈ y.1.weights P f.type, z ≤ B := by
  obtain ⟨xs, m, _, hx, _, hxl, hf⟩ := DataW.trod_struct ht h
  have h1 := hf j f hj
  have hjl : j < xs.length := by rw [hxl]; exact (Array.getElem?_eq_some_iff.1 hj).1
  rw [List.getElem?_eq_getElem hjl, ho, hc] at h1
  refine ⟨m, _, h1, fun B hB z hz => hB z ?_⟩
  rw [hx]
  simp only [DataW.weights, ht]
  exact DataW.weights_mem_each (j := j) (t := f.type) (d := xs[j].1) (by simp [hj]) (by simp [hjl]) z hz
theorem len_of {P : Program} {w : World} {base : Nat} {spare : Nat → Bool} {held : Bool} {t : TypeId} {fs : Array Field} {fuel : Nat} {cs : List Value} {x : DataW H × List MemPlace} (ht : P.underlying t = some (.struct fs)) (h : DataW.trod enc P w base spare held fuel t cs = some x) : cs.length = P.cellsOf t := by
  obtain ⟨_, _, _, _, hl, _⟩ := DataW.trod_struct ht h
  exact hl
theorem str_weight {P : Program} {t : TypeId} {s : ByteArray} {y : DataW H × List MemPlace} (h : y = (.lit (.string s.data.toList), [])) {B : Nat} (hB : ∀ z ∈ y.1.weights P t, z ≤ B) : s.size ≤ B := by
  subst h
  have := hB s.data.toList.length (by simp [DataW.weights])
  rwa [Array.length_toList] at this
theorem val_parts7 {w : World} {base : Nat} {spare : Nat → Bool} {held : Bool} {fuel : Nat} {cs : List Value} {x : DataW H × List MemPlace} (h : DataW.trod enc Tryz.prog w base spare held fuel 28 cs = some x) :
    ∃ k n m s i, cs = [.int .i64 k, .int .i64 n, .string m, .string s, .string i] ∧ InI64 n ∧ ∀ B, (∀ z ∈ x.1.weights Tryz.prog 28, z ≤ B) → m.size ≤ B ∧ s.size ≤ B ∧ i.size ≤ B := by
  have hl := (len_of Tryz.underlying28 h).trans (show Tryz.prog.cellsOf 28 = 5 by kernel_rfl)
  match cs, hl with
  | [c0, c1, c2, c3, c4], _ =>
    obtain ⟨_, y0, h0, _⟩ := leaf Tryz.underlying28 h 0 _ rfl 0 1 rfl (by kernel_rfl)
    obtain ⟨_, y1, h1, _⟩ := leaf Tryz.underlying28 h 1 _ rfl 1 1 rfl (by kernel_rfl)
    obtain ⟨_, y2, h2, w2⟩ := leaf Tryz.underlying28 h 2 _ rfl 2 1 rfl (by kernel_rfl)
    obtain ⟨_, y3, h3, w3⟩ := leaf Tryz.underlying28 h 3 _ rfl 3 2 rfl (by kernel_rfl)
    obtain ⟨_, y4, h4, w4⟩ := leaf Tryz.underlying24 h3 0 _ rfl 0 1 rfl (by kernel_rfl)
    obtain ⟨_, y5, h5, w5⟩ := leaf Tryz.underlying24 h3 1 _ rfl 1 1 rfl (by kernel_rfl)
    obtain ⟨k, e0, _⟩ := DataW.trod_int Tryz.underlying3 h0
    obtain ⟨n, e1, _, hn⟩ := DataW.trod_int Tryz.underlying2 h1
    obtain ⟨m, e2, d2, _⟩ := DataW.trod_string Tryz.underlying9 h2
    obtain ⟨s, e4, d4, _⟩ := DataW.trod_string Tryz.underlying22 h4
    obtain ⟨i, e5, d5, _⟩ := DataW.trod_string Tryz.underlying22 h5
    simp at e0 e1 e2 e4 e5
    exact ⟨k, n, m, s, i, by rw [e0, e1, e2, e4, e5], wf_i64 hn, fun B hB => ⟨str_weight d2 (w2 B hB), str_weight d4 (w4 B (w3 B hB)), str_weight d5 (w5 B (w3 B hB))⟩⟩
theorem label_parts7 {w : World} {base : Nat} {spare : Nat → Bool} {held : Bool} {fuel : Nat} {cs : List Value} {x : DataW H × List MemPlace} (h : DataW.trod enc Tryz.prog w base spare held fuel 24 cs = some x) :
    ∃ s i, cs = [.string s, .string i] ∧ ∀ B, (∀ z ∈ x.1.weights Tryz.prog 24, z ≤ B) → s.size ≤ B ∧ i.size ≤ B := by
  have hl := (len_of Tryz.underlying24 h).trans (show Tryz.prog.cellsOf 24 = 2 by kernel_rfl)
  match cs, hl with
  | [c3, c4], _ =>
    obtain ⟨_, y4, h4, w4⟩ := leaf Tryz.underlying24 h 0 _ rfl 0 1 rfl (by kernel_rfl)
    obtain ⟨_, y5, h5, w5⟩ := leaf Tryz.underlying24 h 1 _ rfl 1 1 rfl (by kernel_rfl)
    obtain ⟨s, e4, d4, _⟩ := DataW.trod_string Tryz.underlying22 h4
    obtain ⟨i, e5, d5, _⟩ := DataW.trod_string Tryz.underlying22 h5
    simp at e4 e5
    exact ⟨s, i, by rw [e4, e5], fun B hB => ⟨str_weight d4 (w4 B hB), str_weight d5 (w5 B hB)⟩⟩
set_option maxRecDepth 100000 in
theorem open_value7 {W : World} {r : Reach} {b0 : Nat} {v : Value} {d : DataW H} {p : List MemPlace} (hv : Value.okWide Tryz.prog W r b0 28 v) (h : DataW.Trod enc Tryz.prog W 0 (fun _ => true) true 28 v d p) :
    ∃ k n m s i, v = .agg #[.int .i64 k, .int .i64 n, .string m, .string s, .string i] ∧ InI64 n ∧ ∀ B, (∀ z ∈ d.weights Tryz.prog 28, z ≤ B) → m.size ≤ B ∧ s.size ≤ B ∧ i.size ≤ B := by
  obtain ⟨cs, rfl, _⟩ := okWide_struct Tryz.underlying28 hv
  obtain ⟨fuel, hf⟩ := h
  obtain ⟨k, n, m, s, i, e, hn, hB⟩ := val_parts7 hf
  exact ⟨k, n, m, s, i, by rw [show cs = #[.int .i64 k, .int .i64 n, .string m, .string s, .string i] from Array.toList_inj.1 e], hn, hB⟩
set_option maxRecDepth 100000 in
theorem open_label7 {W : World} {r : Reach} {b0 : Nat} {v : Value} {d : DataW H} {p : List MemPlace} (hv : Value.okWide Tryz.prog W r b0 24 v) (h : DataW.Trod enc Tryz.prog W 0 (fun _ => true) true 24 v d p) :
    ∃ s i, v = .agg #[.string s, .string i] ∧ ∀ B, (∀ z ∈ d.weights Tryz.prog 24, z ≤ B) → s.size ≤ B ∧ i.size ≤ B := by
  obtain ⟨cs, rfl, _⟩ := okWide_struct Tryz.underlying24 hv
  obtain ⟨fuel, hf⟩ := h
  obtain ⟨s, i, e, hB⟩ := label_parts7 hf
  exact ⟨s, i, by rw [show cs = #[.string s, .string i] from Array.toList_inj.1 e], hB⟩
end
end Go.Proofs.YtnmepcogijgbjaaGreatDoor
/- Arguments of chapter 17 as they come: a state, how a scope is entered. -/
namespace Go.Proofs.YtnmepcogijgbjaaGreatDoor
open Go.RowKit Go.ChangeShapes Go.WideShapes
section
variable {H : Type} {enc : TypeId × Value → H}
theorem state_parts {w : World} {base : Nat} {spare : Nat → Bool} {held : Bool} {fuel : Nat} {cs : List Value} {x : DataW H × List MemPlace} (h : DataW.trod enc Tryz.prog w base spare held fuel 26 cs = some x) :
    ∃ a b c d, cs = [.string a, .string b, .string c, .string d] ∧ ∀ B, (∀ z ∈ x.1.weights Tryz.prog 26, z ≤ B) → a.size ≤ B ∧ b.size ≤ B ∧ c.size ≤ B ∧ d.size ≤ B := by
  have hl := (len_of Tryz.underlying26 h).trans (show Tryz.prog.cellsOf 26 = 4 by kernel_rfl)
  match cs, hl with
  | [c0, c1, c2, c3], _ =>
    obtain ⟨_, y0, h0, w0⟩ := leaf Tryz.underlying26 h 0 _ rfl 0 2 rfl (by kernel_rfl)
    obtain ⟨_, y1, h1, w1⟩ := leaf Tryz.underlying26 h 1 _ rfl 2 2 rfl (by kernel_rfl)
    obtain ⟨a, b, e0, d0⟩ := label_parts7 h0
    obtain ⟨c, d, e1, d1⟩ := label_parts7 h1
    simp at e0 e1
    exact ⟨a, b, c, d, by rw [e0.1, e0.2, e1.1, e1.2], fun B hB => ⟨(d0 B (w0 B hB)).1, (d0 B (w0 B hB)).2, (d1 B (w1 B hB)).1, (d1 B (w1 B hB)).2⟩⟩
set_option maxRecDepth 100000 in
theorem open_state {W : World} {r : Reach} {b0 : Nat} {v : Value} {d : DataW H} {p : List MemPlace} (hv : Value.okWide Tryz.prog W r b0 26 v) (h : DataW.Trod enc Tryz.prog W 0 (fun _ => true) true 26 v d p) :
    ∃ a b c e, v = .agg #[.string a, .string b, .string c, .string e] ∧ ∀ B, (∀ z ∈ d.weights Tryz.prog 26, z ≤ B) → a.size ≤ B ∧ b.size ≤ B ∧ c.size ≤ B ∧ e.size ≤ B := by
  obtain ⟨cs, rfl, _⟩ := okWide_struct Tryz.underlying26 hv
  obtain ⟨fuel, hf⟩ := h
  obtain ⟨a, b, c, e, he, hB⟩ := state_parts hf
  exact ⟨a, b, c, e, by rw [show cs = #[.string a, .string b, .string c, .string e] from Array.toList_inj.1 he], hB⟩
theorem enters_parts {w : World} {base : Nat} {spare : Nat → Bool} {held : Bool} {fuel : Nat} {cs : List Value} {x : DataW H × List MemPlace} (h : DataW.trod enc Tryz.prog w base spare held fuel 30 cs = some x) :
    ∃ (a b c e f : Int) (m : Int) (s i : ByteArray) (k n : Int) (q t u : ByteArray), cs = [.int .i64 a, .int .i64 b, .int .i64 c, .int .i64 e, .int .i64 f, .int .u8 m, .string s, .string i, .int .i64 k, .int .i64 n, .string q, .string t, .string u] ∧ (InI64 c ∧ InI64 f) := by
  have hl := (len_of Tryz.underlying30 h).trans (show Tryz.prog.cellsOf 30 = 13 by kernel_rfl)
  match cs, hl with
  | [c0, c1, c2, c3, c4, c5, c6, c7, c8, c9, c10, c11, c12], _ =>
    obtain ⟨_, y0, h0, _⟩ := leaf Tryz.underlying30 h 0 _ rfl 0 1 rfl (by kernel_rfl)
    obtain ⟨_, y1, h1, _⟩ := leaf Tryz.underlying30 h 1 _ rfl 1 1 rfl (by kernel_rfl)
    obtain ⟨_, y2, h2, _⟩ := leaf Tryz.underlying30 h 2 _ rfl 2 1 rfl (by kernel_rfl)
    obtain ⟨_, y3, h3, _⟩ := leaf Tryz.underlying30 h 3 _ rfl 3 1 rfl (by kernel_rfl)
    obtain ⟨_, y4, h4, _⟩ := leaf Tryz.underlying30 h 4 _ rfl 4 1 rfl (by kernel_rfl)
    obtain ⟨_, y5, h5, _⟩ := leaf Tryz.underlying30 h 5 _ rfl 5 1 rfl (by kernel_rfl)
    obtain ⟨_, y6, h6, _⟩ := leaf Tryz.underlying30 h 6 _ rfl 6 2 rfl (by kernel_rfl)
    obtain ⟨_, y7, h7, _⟩ := leaf Tryz.underlying30 h 7 _ rfl 8 5 rfl (by kernel_rfl)
    obtain ⟨a, e0, _⟩ := DataW.trod_int Tryz.underlying3 h0
    obtain ⟨b, e1, _⟩ := DataW.trod_int Tryz.underlying3 h1
    obtain ⟨c, e2, _, n2⟩ := DataW.trod_int Tryz.underlying3 h2
    obtain ⟨e, e3, _⟩ := DataW.trod_int Tryz.underlying3 h3
    obtain ⟨f, e4, _, n4⟩ := DataW.trod_int Tryz.underlying3 h4
    obtain ⟨m, e5, _⟩ := DataW.trod_int Tryz.underlying5 h5
    obtain ⟨s, i, e6, _⟩ := label_parts7 h6
    obtain ⟨k, n, q, t, u, e7, _⟩ := val_parts7 h7
    simp at e0 e1 e2 e3 e4 e5 e6 e7
    exact ⟨a, b, c, e, f, m, s, i, k, n, q, t, u, by rw [e0, e1, e2, e3, e4, e5, e6.1, e6.2, e7.1, e7.2.1, e7.2.2.1, e7.2.2.2.1, e7.2.2.2.2], wf_i64 n2, wf_i64 n4⟩
set_option maxRecDepth 100000 in
theorem open_enters {W : World} {r : Reach} {b0 : Nat} {v : Value} {d : DataW H} {p : List MemPlace} (hv : Value.okWide Tryz.prog W r b0 30 v) (h : DataW.Trod enc Tryz.prog W 0 (fun _ => true) true 30 v d p) :
    ∃ (a b c e f : Int) (m : Int) (s i : ByteArray) (k n : Int) (q t u : ByteArray), v = .agg #[.int .i64 a, .int .i64 b, .int .i64 c, .int .i64 e, .int .i64 f, .int .u8 m, .string s, .string i, .int .i64 k, .int .i64 n, .string q, .string t, .string u] ∧ (InI64 c ∧ InI64 f) := by
  obtain ⟨cs, rfl, _⟩ := okWide_struct Tryz.underlying30 hv
  obtain ⟨fuel, hf⟩ := h
  obtain ⟨a, b, c, e, f, m, s, i, k, n, q, t, u, he, hn⟩ := enters_parts hf
  exact ⟨a, b, c, e, f, m, s, i, k, n, q, t, u, by rw [show cs = #[.int .i64 a, .int .i64 b, .int .i64 c, .int .i64 e, .int .i64 f, .int .u8 m, .string s, .string i, .int .i64 k, .int .i64 n, .string q, .string t, .string u] from Array.toList_inj.1 he], hn⟩
end
end Go.Proofs.YtnmepcogijgbjaaGreatDoor
