/- OpenS0, OpenS1, OpenS2, OpenS3: joined into one text; each part says below what it holds. -/
import Derived.Test.YtlkgcidhhngfeaaGreatDoorWStoreLists
import Derived.ChangeStays
import Derived.ChangeBook
import Derived.OpenShut
import Derived.ChangeSlices
import Derived.ChangeArms
import Derived.Lib.LaidTab
import Derived.Test.YtlkgcidhhngfeaaGreatDoorZ1
import Derived.Deep.Slices
/- Arguments that are slices, as they come: how they read; every argument reads behind the call as before it, where nothing that was there is turned. -/
namespace Go.Proofs.YtlkgcidhhngfeaaGreatDoor
open Go.RowKit Go.ChangeShapes Go.WideShapes
section
variable {H : Type} {enc : TypeId × Value → H}
theorem carry_gen {P : Program} (hl : laidOutB P = true) {t : TypeId} (hr : P.readableRec t = true) (hrow : t < P.types.size) {W W' : World} (hb : Below W.heap.size W W') {v : Value} {d : DataW H} {p : List MemPlace}
    (h : DataW.Trod enc P W 0 (fun _ => true) true t v d p) (hlt : ∀ q ∈ p, q.block < W.heap.size) {sp : Nat → Bool} (hs : ∀ q ∈ p, sp q.block = true) : DataW.Trod enc P W' 0 sp true t v d p := by
  obtain ⟨fuel, hf⟩ := h
  exact ⟨fuel, DataW.trod_stays (kids_book hl hr) (book_sized hr) (fun h => by cases h) ⟨hrow, book_self t⟩ hf (fun q hq => hb.same (hlt q hq)) hs⟩
theorem add_eq {w : World} {a : Addr} {v : Value} (h : w.cell? a = some v) : a.spot = none := by
  unfold World.cell? at h
  split at h
  · split at h
    · cases h
    · rename_i hs
      simpa using hs
  · cases h
theorem addr_add {a : Addr} (h : a.spot = none) (j : Nat) : a.add j = ⟨a.block, a.off + j, none⟩ := by
  obtain ⟨b, o, s⟩ := a
  simp only at h
  subst h
  unfold Addr.add
  split
  · rename_i h0; subst h0; rfl
  · rfl
/-- a slice of one-cell integers of whatever kind, as it comes -/
theorem open_row {P : Program} {t e : TypeId} {k : IntKind} (ht : P.underlying t = some (.slice e)) (he : P.underlying e = some (.int k)) (hc : P.cellsOf e = 1) {W : World} {b0 : Nat} {r : Reach} {v : Value} {d : DataW H} {p : List MemPlace}
    (hv : Value.okWide P W r b0 t v) (h : DataW.Trod enc P W 0 (fun _ => true) true t v d p) :
    ∃ zs : List Int, (∀ n ∈ zs, (Lit.int k n).wf = true) ∧ ((∃ ao cap, v = .slice ao 0 cap ∧ zs = []) ∨ ∃ b off cap, v = .slice (some ⟨b, off, none⟩) zs.length cap ∧ zs.length ≤ cap ∧ cap ≤ maxLen ∧ ∀ j, j < zs.length → W.cell? ⟨b, off + j, none⟩ = some (.int k (zs.getD j 0))) := by
  obtain ⟨ao, len, cap, rfl⟩ := okWide_slice ht hv
  obtain ⟨fuel, hf⟩ := h
  rcases open_ints ht he hc hf with ⟨hcs, _⟩ | ⟨a, len', cap', zs, hcs, _, hl, hm, hz, _, hcell, hwf⟩
  · have hh : Value.slice ao len cap = .slice none 0 0 := (List.cons.inj hcs).1
    refine ⟨[], by simp, Or.inl ⟨none, 0, hh, rfl⟩⟩
  · have hh : Value.slice ao len cap = .slice (some a) len' cap' := (List.cons.inj hcs).1
    have hz' : zs.length = cap' := by simpa using hz
    by_cases h0 : len' = 0
    · subst h0
      exact ⟨[], by simp, Or.inl ⟨some a, cap', hh, rfl⟩⟩
    · have hs := add_eq (hcell 0 (by omega))
      have hs' : a.spot = none := by
        unfold Addr.add at hs
        simpa using hs
      have hlen : (zs.take len').length = len' := by simp; omega
      refine ⟨zs.take len', fun n hn => hwf n (List.mem_of_mem_take hn), Or.inr ⟨a.block, a.off, cap', ?_, by omega, hm, fun j hj => ?_⟩⟩
      · rw [hh, hlen]
        obtain ⟨b, o, s⟩ := a
        simp only at hs'
        subst hs'
        rfl
      · rw [hlen] at hj
        have := hcell j (by omega)
        rw [addr_add hs'] at this
        rw [this]
        congr 2
        simp [hj]
end
theorem laidOutAll : laidOutB Tryz.prog = true := by kernel_rfl
end Go.Proofs.YtlkgcidhhngfeaaGreatDoor
/- Arguments of chapter 7 as they come: a value, a label. -/
namespace Go.Proofs.YtlkgcidhhngfeaaGreatDoor
open Go.RowKit Go.ChangeShapes Go.WideShapes
section
variable {H : Type} {enc : TypeId × Value → H}
/-- a field of a struct -/
theorem leaf {P : Program} {w : World} {base : Nat} {spare : Nat → Bool} {held : Bool} {t : TypeId} {fs : Array Field} {fuel : Nat} {cs : List Value} {x : DataW H × List MemPlace} (ht : P.underlying t = some (.struct fs)) (h : DataW.trod enc P w base spare held fuel t cs = some x)
    (j : Nat) (f : Field) (hj : fs[j]? = some f) (off n : Nat) (ho : f.offset = off) (hc : P.cellsOf f.type = n) : ∃ fuel' y, DataW.trod enc P w base spare held fuel' f.type ((cs.drop off).take n) = some y ∧ ∀ B, (∀ z ∈ x.1.weights P t, z ≤ B) → ∀ z ∈ y.1.weights P f.type, z ≤ B := by
  obtain ⟨xs, m, _, hx, _, hxl, hf⟩ := DataW.trod_struct ht h
  have h1 := hf j f hj
  have hjl : j < xs.length := by rw [hxl]; exact (Array.getElem?_eq_some_iff.1 hj).1
  rw [List.getElem?_eq_getElem hjl, ho, hc] at h1
  refine ⟨m, _, h1, fun B hB z hz => hB z ?_⟩
  rw [hx]
  simp only [DataW.weights, ht]
  exact DataW.weights_mem_each (j := j) (t := f.type) (d := xs[j].1) (by simp [hj]) (by simp [hjl]) z hz
theorem len_of {P : Program} {w : World} {base : Nat} {spare : Nat → Bool} {held : Bool} {t : TypeId} {fs : Array Field} {fuel : Nat} {cs : List Value} {x : DataW H × List MemPlace} (ht : P.underlying t = some (.struct fs)) (h : DataW.trod enc P w base spare held fuel t cs = some x) : cs.length = P.cellsOf t := by
  obtain ⟨_, _, _, _, hl, _⟩ := DataW.trod_struct ht h
  exact hl
theorem str_weight {P : Program} {t : TypeId} {s : ByteArray} {y : DataW H × List MemPlace} (h : y = (.lit (.string s.data.toList), [])) {B : Nat} (hB : ∀ z ∈ y.1.weights P t, z ≤ B) : s.size ≤ B := by
  subst h
  have := hB s.data.toList.length (by simp [DataW.weights])
  rwa [Array.length_toList] at this
theorem val_parts7 {w : World} {base : Nat} {spare : Nat → Bool} {held : Bool} {fuel : Nat} {cs : List Value} {x : DataW H × List MemPlace} (h : DataW.trod enc Tryz.prog w base spare held fuel 27 cs = some x) :
    ∃ k n m s i, cs = [.int .i64 k, .int .i64 n, .string m, .string s, .string i] ∧ InI64 n ∧ ∀ B, (∀ z ∈ x.1.weights Tryz.prog 27, z ≤ B) → m.size ≤ B ∧ s.size ≤ B ∧ i.size ≤ B := by
  have hl := (len_of Tryz.underlying27 h).trans (show Tryz.prog.cellsOf 27 = 5 by kernel_rfl)
  match cs, hl with
  | [c0, c1, c2, c3, c4], _ =>
    obtain ⟨_, y0, h0, _⟩ := leaf Tryz.underlying27 h 0 _ rfl 0 1 rfl (by kernel_rfl)
    obtain ⟨_, y1, h1, _⟩ := leaf Tryz.underlying27 h 1 _ rfl 1 1 rfl (by kernel_rfl)
    obtain ⟨_, y2, h2, w2⟩ := leaf Tryz.underlying27 h 2 _ rfl 2 1 rfl (by kernel_rfl)
    obtain ⟨_, y3, h3, w3⟩ := leaf Tryz.underlying27 h 3 _ rfl 3 2 rfl (by kernel_rfl)
    obtain ⟨_, y4, h4, w4⟩ := leaf Tryz.underlying25 h3 0 _ rfl 0 1 rfl (by kernel_rfl)
    obtain ⟨_, y5, h5, w5⟩ := leaf Tryz.underlying25 h3 1 _ rfl 1 1 rfl (by kernel_rfl)
    obtain ⟨k, e0, _⟩ := DataW.trod_int Tryz.underlying3 h0
    obtain ⟨n, e1, _, hn⟩ := DataW.trod_int Tryz.underlying2 h1
    obtain ⟨m, e2, d2, _⟩ := DataW.trod_string Tryz.underlying9 h2
    obtain ⟨s, e4, d4, _⟩ := DataW.trod_string Tryz.underlying23 h4
    obtain ⟨i, e5, d5, _⟩ := DataW.trod_string Tryz.underlying23 h5
    simp at e0 e1 e2 e4 e5
    exact ⟨k, n, m, s, i, by rw [e0, e1, e2, e4, e5], wf_i64 hn, fun B hB => ⟨str_weight d2 (w2 B hB), str_weight d4 (w4 B (w3 B hB)), str_weight d5 (w5 B (w3 B hB))⟩⟩
theorem label_parts7 {w : World} {base : Nat} {spare : Nat → Bool} {held : Bool} {fuel : Nat} {cs : List Value} {x : DataW H × List MemPlace} (h : DataW.trod enc Tryz.prog w base spare held fuel 25 cs = some x) :
    ∃ s i, cs = [.string s, .string i] ∧ ∀ B, (∀ z ∈ x.1.weights Tryz.prog 25, z ≤ B) → s.size ≤ B ∧ i.size ≤ B := by
  have hl := (len_of Tryz.underlying25 h).trans (show Tryz.prog.cellsOf 25 = 2 by kernel_rfl)
  match cs, hl with
  | [c3, c4], _ =>
    obtain ⟨_, y4, h4, w4⟩ := leaf Tryz.underlying25 h 0 _ rfl 0 1 rfl (by kernel_rfl)
    obtain ⟨_, y5, h5, w5⟩ := leaf Tryz.underlying25 h 1 _ rfl 1 1 rfl (by kernel_rfl)
    obtain ⟨s, e4, d4, _⟩ := DataW.trod_string Tryz.underlying23 h4
    obtain ⟨i, e5, d5, _⟩ := DataW.trod_string Tryz.underlying23 h5
    simp at e4 e5
    exact ⟨s, i, by rw [e4, e5], fun B hB => ⟨str_weight d4 (w4 B hB), str_weight d5 (w5 B hB)⟩⟩
set_option maxRecDepth 100000 in
theorem open_value7 {W : World} {r : Reach} {b0 : Nat} {v : Value} {d : DataW H} {p : List MemPlace} (hv : Value.okWide Tryz.prog W r b0 27 v) (h : DataW.Trod enc Tryz.prog W 0 (fun _ => true) true 27 v d p) :
    ∃ k n m s i, v = .agg #[.int .i64 k, .int .i64 n, .string m, .string s, .string i] ∧ InI64 n ∧ ∀ B, (∀ z ∈ d.weights Tryz.prog 27, z ≤ B) → m.size ≤ B ∧ s.size ≤ B ∧ i.size ≤ B := by
  obtain ⟨cs, rfl, _⟩ := okWide_struct Tryz.underlying27 hv
  obtain ⟨fuel, hf⟩ := h
  obtain ⟨k, n, m, s, i, e, hn, hB⟩ := val_parts7 hf
  exact ⟨k, n, m, s, i, by rw [show cs = #[.int .i64 k, .int .i64 n, .string m, .string s, .string i] from Array.toList_inj.1 e], hn, hB⟩
set_option maxRecDepth 100000 in
theorem open_label7 {W : World} {r : Reach} {b0 : Nat} {v : Value} {d : DataW H} {p : List MemPlace} (hv : Value.okWide Tryz.prog W r b0 25 v) (h : DataW.Trod enc Tryz.prog W 0 (fun _ => true) true 25 v d p) :
    ∃ s i, v = .agg #[.string s, .string i] ∧ ∀ B, (∀ z ∈ d.weights Tryz.prog 25, z ≤ B) → s.size ≤ B ∧ i.size ≤ B := by
  obtain ⟨cs, rfl, _⟩ := okWide_struct Tryz.underlying25 hv
  obtain ⟨fuel, hf⟩ := h
  obtain ⟨s, i, e, hB⟩ := label_parts7 hf
  exact ⟨s, i, by rw [show cs = #[.string s, .string i] from Array.toList_inj.1 e], hB⟩
end
end Go.Proofs.YtlkgcidhhngfeaaGreatDoor
/- Arguments of chapter 9 as they come: a program, lists of bytes. -/
namespace Go.Proofs.YtlkgcidhhngfeaaGreatDoor
open Go.RowKit Go.ChangeShapes Go.WideShapes
theorem map_of {α : Type} {f : α → List Value} {Q : α → Prop} : ∀ (rows : List (List Value)), (∀ r ∈ rows, ∃ x, r = f x ∧ Q x) → ∃ l : List α, rows = l.map f ∧ ∀ x ∈ l, Q x
  | [], _ => ⟨[], rfl, fun x h => by simp at h⟩
  | r :: rows, h => by
    obtain ⟨l, e, hq⟩ := map_of rows (fun r hr => h r (by simp [hr]))
    obtain ⟨x, rfl, hx⟩ := h r (by simp)
    refine ⟨x :: l, by rw [e]; rfl, fun y hy => ?_⟩
    rcases List.mem_cons.1 hy with rfl | hy
    · exact hx
    · exact hq y hy
theorem zip_of {α : Type} {R : List Value → α → Prop} : ∀ (rows : List (List Value)), (∀ r ∈ rows, ∃ x, R r x) → ∃ l : List α, rows.length = l.length ∧ ∀ (i : Nat) (x : α), l[i]? = some x → ∃ r, rows[i]? = some r ∧ R r x
  | [], _ => ⟨[], rfl, fun i x h => by simp at h⟩
  | r :: rows, h => by
    obtain ⟨l, e, hq⟩ := zip_of rows (fun r hr => h r (by simp [hr]))
    obtain ⟨x, hx⟩ := h r (by simp)
    refine ⟨x :: l, by simp [e], fun i y hy => ?_⟩
    cases i with
    | zero =>
      obtain rfl : x = y := by simpa using hy
      exact ⟨r, rfl, hx⟩
    | succ i => simpa using hq i y (by simpa using hy)
theorem rows_of_each {P : Nat → List Value → Prop} : ∀ (n : Nat), (∀ i, i < n → ∃ r, P i r) → ∃ rows : List (List Value), rows.length = n ∧ ∀ (i : Nat) r, rows[i]? = some r → P i r
  | 0, _ => ⟨[], rfl, fun i r h => by simp at h⟩
  | n + 1, h => by
    obtain ⟨l, hl, hp⟩ := rows_of_each n (fun i hi => h i (by omega))
    obtain ⟨x, hx⟩ := h n (by omega)
    refine ⟨l ++ [x], by simp [hl], fun i r hi => ?_⟩
    by_cases hin : i < l.length
    · rw [List.getElem?_append_left hin] at hi
      exact hp i r hi
    · have : i = l.length := by
        have := (List.getElem?_eq_some_iff.1 hi).1
        simp at this
        omega
      subst this
      rw [List.getElem?_append_right (by omega)] at hi
      obtain rfl : x = r := by simpa using hi
      rw [hl]
      exact hx
theorem slots_gen {W : World} {a : Addr} {len cap k : Nat} (hk : 0 < k) {rows : List (List Value)} (hl : rows.length = len) (hc : len ≤ cap) (hw : Wide k rows) (h : ∀ (i : Nat) r, rows[i]? = some r → ∀ (j : Nat) u, r[j]? = some u → W.cell? (a.add (i * k + j)) = some u) : SlotsAt W k (.slice (some a) len cap) rows := by
  refine ⟨hw, ?_⟩
  by_cases h0 : len = 0
  · exact .inl ⟨⟨some a, cap, by rw [h0]⟩, List.eq_nil_of_length_eq_zero (by omega)⟩
  · have hr0 : rows[0]? = some rows[0] := List.getElem?_eq_getElem (by omega)
    have hr0l := (hw rows[0] (List.getElem_mem _)).1
    have h1 := h 0 _ hr0 0 _ (List.getElem?_eq_getElem (by omega))
    have hs := add_eq h1
    have hs' : a.spot = none := by
      unfold Addr.add at hs
      simpa using hs
    have hb := World.block_lt_of_cell? _ _ h1
    have hab : (a.add (0 * k + 0)).block = a.block := by rw [addr_add hs']
    rw [hab] at hb
    obtain ⟨b, o, s⟩ := a
    simp only at hs'
    subst hs'
    refine .inr ⟨b, o, cap, by rw [hl], by omega, hb, fun j u hj => ?_⟩
    have hjl : j < rows.length * k := by
      have := (List.getElem?_eq_some_iff.1 hj).1
      rwa [hw.len] at this
    have hi : j / k < rows.length := (Nat.div_lt_iff_lt_mul hk).2 hjl
    have hm : j % k < k := Nat.mod_lt _ hk
    have hg := hw.get (j / k) (j % k) _ hm (List.getElem?_eq_getElem hi)
    have hjj : j / k * k + j % k = j := by rw [Nat.mul_comm]; exact Nat.div_add_mod j k
    rw [hjj, hj] at hg
    have := h (j / k) _ (List.getElem?_eq_getElem hi) (j % k) u hg.symm
    rw [hjj, addr_add rfl] at this
    exact this
theorem weights_mem_all {H : Type} {P : Program} {e : TypeId} : ∀ {ds : List (DataW H)} {d : DataW H}, d ∈ ds → ∀ n ∈ d.weights P e, n ∈ DataW.weightsAll P e ds
  | [], _, h, _, _ => by simp at h
  | x :: ds, d, h, n, hn => by
    rw [DataW.weightsAll, List.mem_append]
    rcases List.mem_cons.1 h with rfl | h
    · exact .inl hn
    · exact .inr (weights_mem_all h n hn)
section
variable {H : Type} {enc : TypeId × Value → H}
/-- a slice as it comes: its rows, and what each of them reads as -/
theorem slice_gen {P : Program} {W : World} {t e : TypeId} {k : Nat} (hk : 0 < k) (ht : P.underlying t = some (.slice e)) (hC : P.cellsOf e = k) {fuel : Nat} {c : Value} {x : DataW H × List MemPlace} (h : DataW.trod enc P W 0 (fun _ => true) true fuel t [c] = some x) :
    ∃ rows : List (List Value), (∃ ao cap, c = .slice ao rows.length cap) ∧ rows.length ≤ maxLen ∧ (Wide k rows → SlotsAt W k c rows) ∧ ∀ r ∈ rows, ∃ fuel' y, DataW.trod enc P W 0 (fun _ => true) true fuel' e r = some y ∧ r.length = k ∧ ∀ B, (∀ z ∈ x.1.weights P t, z ≤ B) → ∀ z ∈ y.1.weights P e, z ≤ B := by
  rcases Go.Deep.open_slice ht h with ⟨hcs, _⟩ | ⟨a, len, cap, m, n, D, Pl, hcs, _, hl, hm0, hm, hx, hi⟩
  · simp at hcs
    exact ⟨[], ⟨none, 0, hcs⟩, by simp, fun hw => ⟨hw, .inl ⟨⟨none, 0, hcs⟩, rfl⟩⟩, fun r hr => by simp at hr⟩
  · simp at hcs hm
    rw [hC] at hi
    obtain ⟨rows, hq, hp⟩ := rows_of_each (P := fun i r => W.cells? 0 (a.add (i * k)) k = some r ∧ DataW.trod enc P W 0 (fun _ => true) true n e r = some (D i, Pl i)) len (fun i hil => hi i (by omega))
    refine ⟨rows, ⟨some a, cap, by rw [hcs, hq]⟩, by omega, fun hw => ?_, fun r hr => ?_⟩
    · rw [hcs]
      refine slots_gen hk hq hl hw (fun i r hir j u hj => ?_)
      obtain ⟨_, h1, hat⟩ := World.cells?_some (hp i r hir).1
      have hjk : j < k := by have := (List.getElem?_eq_some_iff.1 hj).1; omega
      rw [← Go.Deep.add_add, hat j hjk]
      exact hj
    · obtain ⟨i, hil, rfl⟩ := List.getElem_of_mem hr
      obtain ⟨h1, h2⟩ := hp i _ (List.getElem?_eq_getElem hil)
      refine ⟨n, _, h2, (World.cells?_some h1).2.1, fun B hB z hz => hB z ?_⟩
      rw [hx]
      simp only [DataW.weights, ht, List.mem_cons, List.mem_append]
      exact .inr (.inl (weights_mem_all (List.mem_map.2 ⟨i, by simp; omega, rfl⟩) z hz))
end
end Go.Proofs.YtlkgcidhhngfeaaGreatDoor
/- A thing, and acts, among the arguments. -/
namespace Go.Proofs.YtlkgcidhhngfeaaGreatDoor
open Go.RowKit Go.ChangeShapes Go.WideShapes
section
variable {H : Type} {enc : TypeId × Value → H}
theorem wait_parts {w : World} {base : Nat} {spare : Nat → Bool} {held : Bool} {fuel : Nat} {cs : List Value} {x : DataW H × List MemPlace} (h : DataW.trod enc Tryz.prog w base spare held fuel 94 cs = some x) :
    ∃ y : Wt, cs = y.row := by
  have hl := (len_of Tryz.underlying94 h).trans (show Tryz.prog.cellsOf 94 = 7 by kernel_rfl)
  match cs, hl with
  | [c0, c1, c2, c3, c4, c5, c6], _ =>
    obtain ⟨_, y0, h0, _⟩ := leaf Tryz.underlying94 h 0 _ rfl 0 1 rfl (by kernel_rfl)
    obtain ⟨_, y1, h1, _⟩ := leaf Tryz.underlying94 h 1 _ rfl 1 1 rfl (by kernel_rfl)
    obtain ⟨_, y2, h2, _⟩ := leaf Tryz.underlying94 h 2 _ rfl 2 5 rfl (by kernel_rfl)
    obtain ⟨id, e0, _⟩ := DataW.trod_string Tryz.underlying9 h0
    obtain ⟨p, e1, _⟩ := DataW.trod_bool Tryz.underlying4 h1
    obtain ⟨k, n, m, s, i, e2, _⟩ := val_parts7 h2
    simp at e0 e1 e2
    obtain ⟨rfl, rfl, rfl, rfl, rfl⟩ := e2
    exact ⟨⟨id, p, ⟨k, n, m, s, i⟩⟩, by rw [e0, e1]; rfl⟩
theorem list_of {α : Type} {P : Nat → α → Prop} : ∀ (n : Nat), (∀ i, i < n → ∃ x, P i x) → ∃ l : List α, l.length = n ∧ ∀ i (h : i < l.length), P i l[i]
  | 0, _ => ⟨[], rfl, fun i h => by cases h⟩
  | n + 1, h => by
    obtain ⟨l, hl, hp⟩ := list_of n (fun i hi => h i (by omega))
    obtain ⟨x, hx⟩ := h n (by omega)
    refine ⟨l ++ [x], by simp [hl], fun i hi => ?_⟩
    by_cases hin : i < l.length
    · rw [List.getElem_append_left hin]; exact hp i hin
    · have : i = n := by simp at hi; omega
      subst this
      rw [List.getElem_append_right (by omega)]
      simpa [hl] using hx
theorem slots_of {W : World} {a : Addr} {len cap : Nat} {l : List Wt} (hl : l.length = len) (hc : len ≤ cap) (h : ∀ i (hi : i < l.length) (j : Nat) u, l[i].row[j]? = some u → W.cell? (a.add (i * 7 + j)) = some u) : QAt W (.slice (some a) len cap) l := by
  refine ⟨rowsQ_wide l, ?_⟩
  by_cases h0 : len = 0
  · exact .inl ⟨⟨some a, cap, by rw [h0]⟩, by rw [show l = [] from List.eq_nil_of_length_eq_zero (by omega)]; rfl⟩
  · have h1 := h 0 (by omega) 0 _ rfl
    have hs := add_eq h1
    have hs' : a.spot = none := by
      unfold Addr.add at hs
      simpa using hs
    have hb := World.block_lt_of_cell? _ _ h1
    have hab : (a.add (0 * 7 + 0)).block = a.block := by rw [addr_add hs']
    rw [hab] at hb
    obtain ⟨b, o, s⟩ := a
    simp only at hs'
    subst hs'
    refine .inr ⟨b, o, cap, by rw [rowsQ_len, hl], by rw [rowsQ_len, hl]; exact hc, hb, fun j u hj => ?_⟩
    have hfl := (rowsQ_wide l).len
    have hjl : j < l.length * 7 := by
      have := (List.getElem?_eq_some_iff.1 hj).1
      rw [hfl, rowsQ_len] at this
      exact this
    have hi : j / 7 < l.length := by omega
    have hm : j % 7 < 7 := Nat.mod_lt _ (by omega)
    have hg := (rowsQ_wide l).get (j / 7) (j % 7) _ hm (rowsQ_get l (j / 7) hi)
    have hjj : j / 7 * 7 + j % 7 = j := by omega
    rw [hjj, hj] at hg
    have := h (j / 7) hi (j % 7) u hg.symm
    rw [hjj, Addr.add_lit] at this
    exact this
theorem q_parts {W : World} {fuel : Nat} {c : Value} {x : DataW H × List MemPlace} (h : DataW.trod enc Tryz.prog W 0 (fun _ => true) true fuel 28 [c] = some x) :
    ∃ q, QAt W c q ∧ ∀ B, (∀ z ∈ x.1.weights Tryz.prog 28, z ≤ B) → q.length * 88 ≤ B := by
  rcases Go.Deep.open_slice Tryz.underlying28 h with ⟨hcs, _⟩ | ⟨a, len, cap, m, n, D, Pl, hcs, _, hl, _, hm, hx, hi⟩
  · simp at hcs
    exact ⟨[], ⟨rowsQ_wide _, .inl ⟨⟨none, 0, hcs⟩, rfl⟩⟩, fun B _ => by simp⟩
  · simp at hcs hm
    have hC : Tryz.prog.cellsOf 94 = 7 := by kernel_rfl
    obtain ⟨q, hq, hp⟩ := list_of (P := fun i (y : Wt) => W.cells? 0 (a.add (i * 7)) 7 = some y.row) len (fun i hil => by
      obtain ⟨cs', h1, h2⟩ := hi i (by omega)
      obtain ⟨y, rfl⟩ := wait_parts h2
      rw [hC] at h1
      exact ⟨y, h1⟩)
    refine ⟨q, ?_, fun B hB => ?_⟩
    · rw [hcs]
      refine slots_of hq hl (fun i hil j u hj => ?_)
      have h1 := hp i hil
      obtain ⟨_, _, hat⟩ := World.cells?_some h1
      have hj7 : j < 7 := (List.getElem?_eq_some_iff.1 hj).1
      rw [← Go.Deep.add_add, hat j hj7]
      exact hj
    · have := hB ((len + (m - len)) * Tryz.prog.bytesOf 94) (by rw [hx]; simp [DataW.weights, Tryz.underlying28])
      rw [show Tryz.prog.bytesOf 94 = 88 by kernel_rfl] at this
      rw [hq]
      omega
set_option maxRecDepth 100000 in
theorem ob_parts {w : World} {fuel : Nat} {cs : List Value} {x : DataW H × List MemPlace} (h : DataW.trod enc Tryz.prog w 0 (fun _ => true) true fuel 32 cs = some x) : ∃ o : Ox, cs = oxL o ∧ ∃ y : OB, ∀ B, (∀ z ∈ x.1.weights Tryz.prog 32, z ≤ B) → B ≤ 140737488355328 → ObIn w (fun b => b < w.heap.size) (.agg (ox o)) y := by
  have hl := (len_of Tryz.underlying32 h).trans (show Tryz.prog.cellsOf 32 = 19 by kernel_rfl)
  match cs, hl with
  | [c0, c1, c2, c3, c4, c5, c6, c7, c8, c9, c10, c11, c12, c13, c14, c15, c16, c17, c18], _ =>
    obtain ⟨_, y0, h0, _⟩ := leaf Tryz.underlying32 h 0 _ rfl 0 1 rfl (by kernel_rfl)
    obtain ⟨_, y1, h1, _⟩ := leaf Tryz.underlying32 h 1 _ rfl 1 2 rfl (by kernel_rfl)
    obtain ⟨_, y2, h2, _⟩ := leaf Tryz.underlying32 h 2 _ rfl 3 5 rfl (by kernel_rfl)
    obtain ⟨_, y3, h3, _⟩ := leaf Tryz.underlying32 h 3 _ rfl 8 1 rfl (by kernel_rfl)
    obtain ⟨_, y4, h4, _⟩ := leaf Tryz.underlying32 h 4 _ rfl 9 1 rfl (by kernel_rfl)
    obtain ⟨_, y5, h5, w5⟩ := leaf Tryz.underlying32 h 5 _ rfl 10 7 rfl (by kernel_rfl)
    obtain ⟨_, y6, h6, _⟩ := leaf Tryz.underlying32 h 6 _ rfl 17 1 rfl (by kernel_rfl)
    obtain ⟨_, y7, h7, _⟩ := leaf Tryz.underlying32 h 7 _ rfl 18 1 rfl (by kernel_rfl)
    obtain ⟨_, z0, g0, _⟩ := leaf Tryz.underlying30 h5 0 _ rfl 0 1 rfl (by kernel_rfl)
    obtain ⟨_, z1, g1, _⟩ := leaf Tryz.underlying30 h5 1 _ rfl 1 5 rfl (by kernel_rfl)
    obtain ⟨_, z2, g2, v2⟩ := leaf Tryz.underlying30 h5 2 _ rfl 6 1 rfl (by kernel_rfl)
    obtain ⟨kd, e0, _⟩ := DataW.trod_int Tryz.underlying3 h0
    obtain ⟨lS, lI, e1, _⟩ := label_parts7 h1
    obtain ⟨vk, vx, vm, vS, vI, e2, _⟩ := val_parts7 h2
    obtain ⟨ex, e3, _⟩ := DataW.trod_bool Tryz.underlying4 h3
    obtain ⟨dn, e4, _⟩ := DataW.trod_bool Tryz.underlying4 h4
    obtain ⟨vf, e5, _⟩ := DataW.trod_bool Tryz.underlying4 g0
    obtain ⟨wk, wx, wm, wS, wI, e6, _⟩ := val_parts7 g1
    obtain ⟨q, hq, hB⟩ := q_parts (c := c16) g2
    obtain ⟨fn, e8, _⟩ := DataW.trod_int Tryz.underlying3 h6
    obtain ⟨ma, e9, _⟩ := DataW.trod_int Tryz.underlying5 h7
    obtain ⟨ao, cap, rfl⟩ := hq.slice
    simp at e0 e1 e2 e3 e4 e5 e6 e8 e9
    refine ⟨(⟨kd, lS, lI, vk, vx, vm, vS, vI, ex, dn, vf, wk, wx, wm, wS, wI, q, fn, ma⟩ : OB).raw ao cap, by rw [e0, e1.1, e1.2, e2.1, e2.2.1, e2.2.2.1, e2.2.2.2.1, e2.2.2.2.2, e3, e4, e5, e6.1, e6.2.1, e6.2.2.1, e6.2.2.2.1, e6.2.2.2.2, e8, e9]; rfl, ⟨kd, lS, lI, vk, vx, vm, vS, vI, ex, dn, vf, wk, wx, wm, wS, wI, q, fn, ma⟩, fun B hb hBB => ⟨ao, cap, rfl, hq, Nat.le_trans (hB B (v2 B (w5 B hb))) hBB, ?_⟩⟩
    by_cases hq0 : q = []
    · exact .inl hq0
    · refine .inr fun p hp => ?_
      subst hp
      rcases hq.2 with ⟨⟨ao', cap', e⟩, e2⟩ | ⟨b, off, cap', e, _, hlt, _⟩
      · exact absurd (List.map_eq_nil_iff.1 e2) hq0
      · obtain ⟨e1, -, -⟩ := Value.slice.inj e
        cases e1
        exact ⟨hlt, hlt⟩
set_option maxRecDepth 100000 in
theorem open_obj {W : World} {r : Reach} {b0 : Nat} {v : Value} {d : DataW H} {p : List MemPlace} (hv : Value.okWide Tryz.prog W r b0 32 v) (h : DataW.Trod enc Tryz.prog W 0 (fun _ => true) true 32 v d p) :
    ∃ (o : Ox) (y : OB), v = .agg (ox o) ∧ ∀ B, (∀ z ∈ d.weights Tryz.prog 32, z ≤ B) → B ≤ 140737488355328 → ObIn W (fun b => b < W.heap.size) (.agg (ox o)) y := by
  obtain ⟨cs, rfl, _⟩ := okWide_struct Tryz.underlying32 hv
  obtain ⟨fuel, hf⟩ := h
  obtain ⟨o, he, y, h1⟩ := ob_parts hf
  exact ⟨o, y, by rw [show cs = ox o from Array.toList_inj.1 he], h1⟩
set_option maxRecDepth 100000 in
theorem act_parts {w : World} {fuel : Nat} {cs : List Value} {x : DataW H × List MemPlace} (h : DataW.trod enc Tryz.prog w 0 (fun _ => true) true fuel 59 cs = some x) : ∃ (k i : Int) (o : Ox), cs = acL k i o ∧ 0 ≤ i ∧ i ≤ 255 ∧ ∃ y : OB, ∀ B, (∀ z ∈ x.1.weights Tryz.prog 59, z ≤ B) → B ≤ 140737488355328 → ObIn w (fun b => b < w.heap.size) (.agg (ox o)) y := by
  have hl := (len_of Tryz.underlying59 h).trans (show Tryz.prog.cellsOf 59 = 21 by kernel_rfl)
  match cs, hl with
  | c0 :: c1 :: cs, hl =>
    obtain ⟨_, y0, h0, _⟩ := leaf Tryz.underlying59 h 0 _ rfl 0 1 rfl (by kernel_rfl)
    obtain ⟨_, y1, h1, _⟩ := leaf Tryz.underlying59 h 1 _ rfl 1 1 rfl (by kernel_rfl)
    obtain ⟨_, y2, h2, w2⟩ := leaf Tryz.underlying59 h 2 _ rfl 2 19 rfl (by kernel_rfl)
    obtain ⟨k, e0, _⟩ := DataW.trod_int Tryz.underlying5 h0
    obtain ⟨i, e1, _, hi⟩ := DataW.trod_int Tryz.underlying5 h1
    have hcs : ((c0 :: c1 :: cs).drop 2).take 19 = cs := by
      show cs.take 19 = cs
      exact List.take_of_length_le (by simp at hl; omega)
    rw [hcs] at h2
    obtain ⟨o, he, y, ho⟩ := ob_parts h2
    simp at e0 e1
    exact ⟨k, i, o, by rw [e0, e1, he]; rfl, (wf_u8 hi).1, (wf_u8 hi).2, y, fun B hb => ho B (w2 B hb)⟩
theorem wide_ac (l : List ((Int × Int × Ox) × Ac)) : Wide 21 (l.map fun r => acL r.1.1 r.1.2.1 r.1.2.2) := by
  intro r hr
  obtain ⟨s, _, rfl⟩ := List.mem_map.1 hr
  refine ⟨rfl, fun x hx => ?_⟩
  have h := one_ox s.1.2.2
  rw [Array.all_eq_true_iff_forall_mem] at h
  rcases List.mem_cons.1 hx with rfl | hx
  · rfl
  · rcases List.mem_cons.1 hx with rfl | hx
    · rfl
    · exact h x (by simpa [ox] using hx)
set_option maxRecDepth 100000 in
theorem open_acts {W : World} {r : Reach} {b0 : Nat} {v : Value} {d : DataW H} {p : List MemPlace} (hv : Value.okWide Tryz.prog W r b0 22 v) (h : DataW.Trod enc Tryz.prog W 0 (fun _ => true) true 22 v d p) :
    ∃ l : List Ac, ∀ B, (∀ z ∈ d.weights Tryz.prog 22, z ≤ B) → B ≤ 140737488355328 → AcAt W v l := by
  obtain ⟨ao, len, cap, rfl⟩ := okWide_slice Tryz.underlying22 hv
  obtain ⟨fuel, hf⟩ := h
  obtain ⟨rows, ⟨a, cap, e⟩, hn, hs, hr⟩ := slice_gen (k := 21) (by omega) Tryz.underlying22 (by kernel_rfl) hf
  obtain ⟨l, rfl, hq⟩ := map_of (f := fun r : (Int × Int × Ox) × Ac => acL r.1.1 r.1.2.1 r.1.2.2) (Q := fun r => r.1.2.1 = r.2.i ∧ 0 ≤ r.2.i ∧ r.2.i ≤ 255 ∧ ∀ B, (∀ z ∈ d.weights Tryz.prog 22, z ≤ B) → B ≤ 140737488355328 → ObIn W (fun b => b < W.heap.size) (.agg (ox r.1.2.2)) r.2.x) rows (fun r hm => by
    obtain ⟨_, y, h1, _, hB⟩ := hr r hm
    obtain ⟨k, i, o, rfl, h0, h255, z, hz⟩ := act_parts h1
    exact ⟨((k, i, o), ⟨k, i, z⟩), rfl, rfl, h0, h255, fun B hb => hz B (hB B hb)⟩)
  refine ⟨l.map (·.2), fun B hb hBB => ⟨l.map (·.1), by simp, ?_, fun j r a hr ha => ?_⟩⟩
  · have h2 := hs (wide_ac l)
    rw [List.map_map]
    exact h2
  · rw [List.getElem?_map] at hr ha
    obtain ⟨s, hs1, rfl⟩ := Option.map_eq_some_iff.1 hr
    obtain ⟨s', hs2, rfl⟩ := Option.map_eq_some_iff.1 ha
    obtain rfl : s = s' := Option.some.inj (hs1.symm.trans hs2)
    obtain ⟨g1, g2, g3, g4⟩ := hq s (List.mem_of_getElem? hs1)
    exact ⟨g1, g2, g3, g4 B hb hBB⟩
end
end Go.Proofs.YtlkgcidhhngfeaaGreatDoor
