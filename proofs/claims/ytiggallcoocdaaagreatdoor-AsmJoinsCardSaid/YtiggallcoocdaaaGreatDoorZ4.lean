/- OpenA0, OpenA1, Open11, Open11b: joined into one text; each part says below what it holds. -/
import Derived.Test.YtiggallcoocdaaaGreatDoorValA
import Derived.ChangeStays
import Derived.ChangeBook
import Derived.OpenShut
import Derived.ChangeSlices
import Derived.ChangeArms
import Derived.Lib.LaidTab
import Derived.Test.YtiggallcoocdaaaGreatDoorZ5
import Derived.Deep.Slices
/- Arguments that are slices, as they come: how they read; every argument reads behind the call as before it, where nothing that was there is turned. -/
namespace Go.Proofs.YtiggallcoocdaaaGreatDoor
open Go.RowKit Go.ChangeShapes Go.WideShapes
section
variable {H : Type} {enc : TypeId × Value → H}
theorem carry_gen {P : Program} (hl : laidOutB P = true) {t : TypeId} (hr : P.readableRec t = true) (hrow : t < P.types.size) {W W' : World} (hb : Below W.heap.size W W') {v : Value} {d : DataW H} {p : List MemPlace}
    (h : DataW.Trod enc P W 0 (fun _ => true) true t v d p) (hlt : ∀ q ∈ p, q.block < W.heap.size) {sp : Nat → Bool} (hs : ∀ q ∈ p, sp q.block = true) : DataW.Trod enc P W' 0 sp true t v d p := by
  obtain ⟨fuel, hf⟩ := h
  exact ⟨fuel, DataW.trod_stays (kids_book hl hr) (book_sized hr) (fun h => by cases h) ⟨hrow, book_self t⟩ hf (fun q hq => hb.same (hlt q hq)) hs⟩
theorem add_eq {w : World} {a : Addr} {v : Value} (h : w.cell? a = some v) : a.spot = none := by
  unfold World.cell? at h
  split at h
  · split at h
    · cases h
    · rename_i hs
      simpa using hs
  · cases h
theorem addr_add {a : Addr} (h : a.spot = none) (j : Nat) : a.add j = ⟨a.block, a.off + j, none⟩ := by
  obtain ⟨b, o, s⟩ := a
  simp only at h
  subst h
  unfold Addr.add
  split
  · rename_i h0; subst h0; rfl
  · rfl
end
theorem laidOutAll : laidOutB Tryz.prog = true := by kernel_rfl
end Go.Proofs.YtiggallcoocdaaaGreatDoor
/- Arguments of chapter 7 as they come: a value, a label. -/
namespace Go.Proofs.YtiggallcoocdaaaGreatDoor
open Go.RowKit Go.ChangeShapes Go.WideShapes
section
variable {H : Type} {enc : TypeId × Value → H}
/-- a field of a struct -/
theorem leaf {P : Program} {w : World} {base : Nat} {spare : Nat → Bool} {held : Bool} {t : TypeId} {fs : Array Field} {fuel : Nat} {cs : List Value} {x : DataW H × List MemPlace} (ht : P.underlying t = some (.struct fs)) (h : DataW.trod enc P w base spare held fuel t cs = some x)
    (j : Nat) (f : Field) (hj : fs[j]? = some f) (off n : Nat) (ho : f.offset = off) (hc : P.cellsOf f.type = n) : ∃ fuel' y, DataW.trod enc P w base spare held fuel' f.type ((cs.drop off).take n) = some y ∧ ∀ B, (∀ z ∈ x.1.weights P t, z ≤ B) → ∀ z ∈ y.1.weights P f.type, z ≤ B := by
  obtain ⟨xs, m, _, hx, _, hxl, hf⟩ := DataW.trod_struct ht h
  have h1 := hf j f hj
  have hjl : j < xs.length := by rw [hxl]; exact (Array.getElem?_eq_some_iff.1 hj).1
  rw [List.getElem?_eq_getElem hjl, ho, hc] at h1
  refine ⟨m, _, h1, fun B hB z hz => hB z ?_⟩
  rw [hx]
  simp only [DataW.weights, ht]
  exact DataW.weights_mem_each (j := j) (t := f.type) (d := xs[j].1) (by simp [hj]) (by simp [hjl]) z hz
theorem len_of {P : Program} {w : World} {base : Nat} {spare : Nat → Bool} {held : Bool} {t : TypeId} {fs : Array Field} {fuel : Nat} {cs : List Value} {x : DataW H × List MemPlace} (ht : P.underlying t = some (.struct fs)) (h : DataW.trod enc P w base spare held fuel t cs = some x) : cs.length = P.cellsOf t := by
  obtain ⟨_, _, _, _, hl, _⟩ := DataW.trod_struct ht h
  exact hl
theorem str_weight {P : Program} {t : TypeId} {s : ByteArray} {y : DataW H × List MemPlace} (h : y = (.lit (.string s.data.toList), [])) {B : Nat} (hB : ∀ z ∈ y.1.weights P t, z ≤ B) : s.size ≤ B := by
  subst h
  have := hB s.data.toList.length (by simp [DataW.weights])
  rwa [Array.length_toList] at this
theorem val_parts7 {w : World} {base : Nat} {spare : Nat → Bool} {held : Bool} {fuel : Nat} {cs : List Value} {x : DataW H × List MemPlace} (h : DataW.trod enc Tryz.prog w base spare held fuel 50 cs = some x) :
    ∃ k n m s i, cs = [.int .i64 k, .int .i64 n, .string m, .string s, .string i] ∧ InI64 n ∧ ∀ B, (∀ z ∈ x.1.weights Tryz.prog 50, z ≤ B) → m.size ≤ B ∧ s.size ≤ B ∧ i.size ≤ B := by
  have hl := (len_of Tryz.underlying50 h).trans (show Tryz.prog.cellsOf 50 = 5 by kernel_rfl)
  match cs, hl with
  | [c0, c1, c2, c3, c4], _ =>
    obtain ⟨_, y0, h0, _⟩ := leaf Tryz.underlying50 h 0 _ rfl 0 1 rfl (by kernel_rfl)
    obtain ⟨_, y1, h1, _⟩ := leaf Tryz.underlying50 h 1 _ rfl 1 1 rfl (by kernel_rfl)
    obtain ⟨_, y2, h2, w2⟩ := leaf Tryz.underlying50 h 2 _ rfl 2 1 rfl (by kernel_rfl)
    obtain ⟨_, y3, h3, w3⟩ := leaf Tryz.underlying50 h 3 _ rfl 3 2 rfl (by kernel_rfl)
    obtain ⟨_, y4, h4, w4⟩ := leaf Tryz.underlying48 h3 0 _ rfl 0 1 rfl (by kernel_rfl)
    obtain ⟨_, y5, h5, w5⟩ := leaf Tryz.underlying48 h3 1 _ rfl 1 1 rfl (by kernel_rfl)
    obtain ⟨k, e0, _⟩ := DataW.trod_int Tryz.underlying3 h0
    obtain ⟨n, e1, _, hn⟩ := DataW.trod_int Tryz.underlying2 h1
    obtain ⟨m, e2, d2, _⟩ := DataW.trod_string Tryz.underlying9 h2
    obtain ⟨s, e4, d4, _⟩ := DataW.trod_string Tryz.underlying46 h4
    obtain ⟨i, e5, d5, _⟩ := DataW.trod_string Tryz.underlying46 h5
    simp at e0 e1 e2 e4 e5
    exact ⟨k, n, m, s, i, by rw [e0, e1, e2, e4, e5], wf_i64 hn, fun B hB => ⟨str_weight d2 (w2 B hB), str_weight d4 (w4 B (w3 B hB)), str_weight d5 (w5 B (w3 B hB))⟩⟩
end
end Go.Proofs.YtiggallcoocdaaaGreatDoor
/- Arguments of chapter 11 as they come: a program, lists of bytes. -/
namespace Go.Proofs.YtiggallcoocdaaaGreatDoor
open Go.RowKit Go.ChangeShapes Go.WideShapes
theorem map_of {α : Type} {f : α → List Value} {Q : α → Prop} : ∀ (rows : List (List Value)), (∀ r ∈ rows, ∃ x, r = f x ∧ Q x) → ∃ l : List α, rows = l.map f ∧ ∀ x ∈ l, Q x
  | [], _ => ⟨[], rfl, fun x h => by simp at h⟩
  | r :: rows, h => by
    obtain ⟨l, e, hq⟩ := map_of rows (fun r hr => h r (by simp [hr]))
    obtain ⟨x, rfl, hx⟩ := h r (by simp)
    refine ⟨x :: l, by rw [e]; rfl, fun y hy => ?_⟩
    rcases List.mem_cons.1 hy with rfl | hy
    · exact hx
    · exact hq y hy
theorem zip_of {α : Type} {R : List Value → α → Prop} : ∀ (rows : List (List Value)), (∀ r ∈ rows, ∃ x, R r x) → ∃ l : List α, rows.length = l.length ∧ ∀ (i : Nat) (x : α), l[i]? = some x → ∃ r, rows[i]? = some r ∧ R r x
  | [], _ => ⟨[], rfl, fun i x h => by simp at h⟩
  | r :: rows, h => by
    obtain ⟨l, e, hq⟩ := zip_of rows (fun r hr => h r (by simp [hr]))
    obtain ⟨x, hx⟩ := h r (by simp)
    refine ⟨x :: l, by simp [e], fun i y hy => ?_⟩
    cases i with
    | zero =>
      obtain rfl : x = y := by simpa using hy
      exact ⟨r, rfl, hx⟩
    | succ i => simpa using hq i y (by simpa using hy)
theorem rows_of_each {P : Nat → List Value → Prop} : ∀ (n : Nat), (∀ i, i < n → ∃ r, P i r) → ∃ rows : List (List Value), rows.length = n ∧ ∀ (i : Nat) r, rows[i]? = some r → P i r
  | 0, _ => ⟨[], rfl, fun i r h => by simp at h⟩
  | n + 1, h => by
    obtain ⟨l, hl, hp⟩ := rows_of_each n (fun i hi => h i (by omega))
    obtain ⟨x, hx⟩ := h n (by omega)
    refine ⟨l ++ [x], by simp [hl], fun i r hi => ?_⟩
    by_cases hin : i < l.length
    · rw [List.getElem?_append_left hin] at hi
      exact hp i r hi
    · have : i = l.length := by
        have := (List.getElem?_eq_some_iff.1 hi).1
        simp at this
        omega
      subst this
      rw [List.getElem?_append_right (by omega)] at hi
      obtain rfl : x = r := by simpa using hi
      rw [hl]
      exact hx
theorem slots_gen {W : World} {a : Addr} {len cap k : Nat} (hk : 0 < k) {rows : List (List Value)} (hl : rows.length = len) (hc : len ≤ cap) (hw : Wide k rows) (h : ∀ (i : Nat) r, rows[i]? = some r → ∀ (j : Nat) u, r[j]? = some u → W.cell? (a.add (i * k + j)) = some u) : SlotsAt W k (.slice (some a) len cap) rows := by
  refine ⟨hw, ?_⟩
  by_cases h0 : len = 0
  · exact .inl ⟨⟨some a, cap, by rw [h0]⟩, List.eq_nil_of_length_eq_zero (by omega)⟩
  · have hr0 : rows[0]? = some rows[0] := List.getElem?_eq_getElem (by omega)
    have hr0l := (hw rows[0] (List.getElem_mem _)).1
    have h1 := h 0 _ hr0 0 _ (List.getElem?_eq_getElem (by omega))
    have hs := add_eq h1
    have hs' : a.spot = none := by
      unfold Addr.add at hs
      simpa using hs
    have hb := World.block_lt_of_cell? _ _ h1
    have hab : (a.add (0 * k + 0)).block = a.block := by rw [addr_add hs']
    rw [hab] at hb
    obtain ⟨b, o, s⟩ := a
    simp only at hs'
    subst hs'
    refine .inr ⟨b, o, cap, by rw [hl], by omega, hb, fun j u hj => ?_⟩
    have hjl : j < rows.length * k := by
      have := (List.getElem?_eq_some_iff.1 hj).1
      rwa [hw.len] at this
    have hi : j / k < rows.length := (Nat.div_lt_iff_lt_mul hk).2 hjl
    have hm : j % k < k := Nat.mod_lt _ hk
    have hg := hw.get (j / k) (j % k) _ hm (List.getElem?_eq_getElem hi)
    have hjj : j / k * k + j % k = j := by rw [Nat.mul_comm]; exact Nat.div_add_mod j k
    rw [hjj, hj] at hg
    have := h (j / k) _ (List.getElem?_eq_getElem hi) (j % k) u hg.symm
    rw [hjj, addr_add rfl] at this
    exact this
theorem weights_mem_all {H : Type} {P : Program} {e : TypeId} : ∀ {ds : List (DataW H)} {d : DataW H}, d ∈ ds → ∀ n ∈ d.weights P e, n ∈ DataW.weightsAll P e ds
  | [], _, h, _, _ => by simp at h
  | x :: ds, d, h, n, hn => by
    rw [DataW.weightsAll, List.mem_append]
    rcases List.mem_cons.1 h with rfl | h
    · exact .inl hn
    · exact .inr (weights_mem_all h n hn)
section
variable {H : Type} {enc : TypeId × Value → H}
/-- a slice as it comes: its rows, and what each of them reads as -/
theorem slice_gen {P : Program} {W : World} {t e : TypeId} {k : Nat} (hk : 0 < k) (ht : P.underlying t = some (.slice e)) (hC : P.cellsOf e = k) {fuel : Nat} {c : Value} {x : DataW H × List MemPlace} (h : DataW.trod enc P W 0 (fun _ => true) true fuel t [c] = some x) :
    ∃ rows : List (List Value), (∃ ao cap, c = .slice ao rows.length cap) ∧ rows.length ≤ maxLen ∧ (Wide k rows → SlotsAt W k c rows) ∧ ∀ r ∈ rows, ∃ fuel' y, DataW.trod enc P W 0 (fun _ => true) true fuel' e r = some y ∧ r.length = k ∧ ∀ B, (∀ z ∈ x.1.weights P t, z ≤ B) → ∀ z ∈ y.1.weights P e, z ≤ B := by
  rcases Go.Deep.open_slice ht h with ⟨hcs, _⟩ | ⟨a, len, cap, m, n, D, Pl, hcs, _, hl, hm0, hm, hx, hi⟩
  · simp at hcs
    exact ⟨[], ⟨none, 0, hcs⟩, by simp, fun hw => ⟨hw, .inl ⟨⟨none, 0, hcs⟩, rfl⟩⟩, fun r hr => by simp at hr⟩
  · simp at hcs hm
    rw [hC] at hi
    obtain ⟨rows, hq, hp⟩ := rows_of_each (P := fun i r => W.cells? 0 (a.add (i * k)) k = some r ∧ DataW.trod enc P W 0 (fun _ => true) true n e r = some (D i, Pl i)) len (fun i hil => hi i (by omega))
    refine ⟨rows, ⟨some a, cap, by rw [hcs, hq]⟩, by omega, fun hw => ?_, fun r hr => ?_⟩
    · rw [hcs]
      refine slots_gen hk hq hl hw (fun i r hir j u hj => ?_)
      obtain ⟨_, h1, hat⟩ := World.cells?_some (hp i r hir).1
      have hjk : j < k := by have := (List.getElem?_eq_some_iff.1 hj).1; omega
      rw [← Go.Deep.add_add, hat j hjk]
      exact hj
    · obtain ⟨i, hil, rfl⟩ := List.getElem_of_mem hr
      obtain ⟨h1, h2⟩ := hp i _ (List.getElem?_eq_getElem hil)
      refine ⟨n, _, h2, (World.cells?_some h1).2.1, fun B hB z hz => hB z ?_⟩
      rw [hx]
      simp only [DataW.weights, ht, List.mem_cons, List.mem_append]
      exact .inr (.inl (weights_mem_all (List.mem_map.2 ⟨i, by simp; omega, rfl⟩) z hz))
theorem op_parts {w : World} {fuel : Nat} {cs : List Value} {x : DataW H × List MemPlace} (h : DataW.trod enc Tryz.prog w 0 (fun _ => true) true fuel 52 cs = some x) : ∃ o : Int × Int, cs = orow o := by
  have hl := (len_of Tryz.underlying52 h).trans (show Tryz.prog.cellsOf 52 = 2 by kernel_rfl)
  match cs, hl with
  | [c0, c1], _ =>
    obtain ⟨_, y0, h0, _⟩ := leaf Tryz.underlying52 h 0 _ rfl 0 1 rfl (by kernel_rfl)
    obtain ⟨_, y1, h1, _⟩ := leaf Tryz.underlying52 h 1 _ rfl 1 1 rfl (by kernel_rfl)
    obtain ⟨k, e0, _⟩ := DataW.trod_int Tryz.underlying3 h0
    obtain ⟨n, e1, _⟩ := DataW.trod_int Tryz.underlying3 h1
    simp at e0 e1
    exact ⟨(k, n), by rw [e0, e1]; rfl⟩
theorem wide_v (l : List Vl) : Wide 5 (l.map vrow) := fun r hr => by
  obtain ⟨v, _, rfl⟩ := List.mem_map.1 hr
  exact ⟨rfl, fun x hx => by simp [vrow] at hx; rcases hx with rfl | rfl | rfl | rfl | rfl <;> rfl⟩
theorem wide_o (l : List (Int × Int)) : Wide 2 (l.map orow) := fun r hr => by
  obtain ⟨v, _, rfl⟩ := List.mem_map.1 hr
  exact ⟨rfl, fun x hx => by simp [orow] at hx; rcases hx with rfl | rfl <;> rfl⟩
theorem ops_parts {w : World} {fuel : Nat} {c : Value} {x : DataW H × List MemPlace} (h : DataW.trod enc Tryz.prog w 0 (fun _ => true) true fuel 35 [c] = some x) : ∃ l, OsAt w c l := by
  obtain ⟨rows, _, _, hs, hr⟩ := slice_gen (k := 2) (by omega) Tryz.underlying35 (by kernel_rfl) h
  obtain ⟨l, rfl, _⟩ := map_of (f := orow) (Q := fun _ => True) rows (fun r hm => by
    obtain ⟨_, y, h1, _⟩ := hr r hm
    obtain ⟨o, e⟩ := op_parts h1
    exact ⟨o, e, trivial⟩)
  exact ⟨l, hs (wide_o l)⟩
theorem fun_parts {w : World} {fuel : Nat} {cs : List Value} {x : DataW H × List MemPlace} (h : DataW.trod enc Tryz.prog w 0 (fun _ => true) true fuel 37 cs = some x) : ∃ (f : Fn) (c : Value), cs = frow f c ∧ OsAt w c f.c := by
  have hl := (len_of Tryz.underlying37 h).trans (show Tryz.prog.cellsOf 37 = 3 by kernel_rfl)
  match cs, hl with
  | [c0, c1, c2], _ =>
    obtain ⟨_, y0, h0, _⟩ := leaf Tryz.underlying37 h 0 _ rfl 0 1 rfl (by kernel_rfl)
    obtain ⟨_, y1, h1, _⟩ := leaf Tryz.underlying37 h 1 _ rfl 1 1 rfl (by kernel_rfl)
    obtain ⟨_, y2, h2, _⟩ := leaf Tryz.underlying37 h 2 _ rfl 2 1 rfl (by kernel_rfl)
    obtain ⟨k, e0, _⟩ := DataW.trod_int Tryz.underlying3 h0
    obtain ⟨n, e1, _⟩ := DataW.trod_int Tryz.underlying3 h1
    simp at e0 e1 h2
    obtain ⟨l, ho⟩ := ops_parts h2
    exact ⟨⟨k, n, l⟩, c2, by rw [e0, e1]; rfl, ho⟩
theorem funs_parts {w : World} {fuel : Nat} {c : Value} {x : DataW H × List MemPlace} (h : DataW.trod enc Tryz.prog w 0 (fun _ => true) true fuel 25 [c] = some x) : ∃ l, FsAt w c l := by
  obtain ⟨rows, _, _, hs, hr⟩ := slice_gen (k := 3) (by omega) Tryz.underlying25 (by kernel_rfl) h
  obtain ⟨l, hl, hf⟩ := zip_of (R := fun r (f : Fn) => ∃ c, r = frow f c ∧ OsAt w c f.c) rows (fun r hm => by
    obtain ⟨_, y, h1, _⟩ := hr r hm
    exact fun_parts h1)
  have hw : Wide 3 rows := fun r hm => by
    obtain ⟨_, y, h1, _⟩ := hr r hm
    obtain ⟨f, c, rfl, ho⟩ := fun_parts h1
    obtain ⟨ao, cap, rfl⟩ := ho.slice
    exact ⟨rfl, fun x hx => by simp [frow] at hx; rcases hx with rfl | rfl | rfl <;> rfl⟩
  refine ⟨l, rows, hl, hs hw, fun i f hi => ?_⟩
  obtain ⟨r, h1, c, rfl, ho⟩ := hf i f hi
  exact ⟨c, h1, ho⟩
def smallV (B : Nat) (v : Vl) : Prop := InI64 v.n ∧ v.nm.length ≤ B ∧ v.l.S.length ≤ B ∧ v.l.I.length ≤ B
theorem bytes_vl (m : ByteArray) : (⟨m.data.toList.toArray⟩ : ByteArray) = m := by rw [Array.toArray_toList]
theorem vals_parts {w : World} {fuel : Nat} {c : Value} {x : DataW H × List MemPlace} (h : DataW.trod enc Tryz.prog w 0 (fun _ => true) true fuel 24 [c] = some x) : ∃ l, VsAt w c l ∧ ∀ B, (∀ z ∈ x.1.weights Tryz.prog 24, z ≤ B) → ∀ v ∈ l, smallV B v := by
  obtain ⟨rows, _, _, hs, hr⟩ := slice_gen (k := 5) (by omega) Tryz.underlying24 (by kernel_rfl) h
  obtain ⟨l, rfl, hq⟩ := map_of (f := vrow) (Q := fun v => ∀ B, (∀ z ∈ x.1.weights Tryz.prog 24, z ≤ B) → smallV B v) rows (fun r hm => by
    obtain ⟨_, y, h1, _, hB⟩ := hr r hm
    obtain ⟨k, n, m, s, i, rfl, hn, hb⟩ := val_parts7 h1
    refine ⟨⟨k, n, m.data.toList, ⟨s.data.toList, i.data.toList⟩⟩, by show _ = [Value.int .i64 k, .int .i64 n, .string ⟨m.data.toList.toArray⟩, .string ⟨s.data.toList.toArray⟩, .string ⟨i.data.toList.toArray⟩]; rw [bytes_vl, bytes_vl, bytes_vl], fun B hx => ?_⟩
    obtain ⟨b1, b2, b3⟩ := hb B (hB B hx)
    exact ⟨hn, by rw [Array.length_toList]; exact b1, by rw [Array.length_toList]; exact b2, by rw [Array.length_toList]; exact b3⟩)
  exact ⟨l, hs (wide_v l), fun B hx v hv => hq v hv B hx⟩
set_option maxRecDepth 100000 in
theorem open_image {W : World} {r : Reach} {b0 : Nat} {v : Value} {d : DataW H} {p : List MemPlace} (hv : Value.okWide Tryz.prog W r b0 27 v) (h : DataW.Trod enc Tryz.prog W 0 (fun _ => true) true 27 v d p) :
    ∃ (cv fv : Value) (im : Im), v = .agg #[cv, fv] ∧ (VsAt W cv im.cs ∧ FsAt W fv im.fs) ∧ ∀ B, (∀ z ∈ d.weights Tryz.prog 27, z ≤ B) → ∀ v ∈ im.cs, smallV B v := by
  obtain ⟨cs, rfl, _⟩ := okWide_struct Tryz.underlying27 hv
  obtain ⟨fuel, hf⟩ := h
  have hf' : DataW.trod enc Tryz.prog W 0 (fun _ => true) true fuel 27 cs.toList = some (d, p) := hf
  have hl := (len_of Tryz.underlying27 hf').trans (show Tryz.prog.cellsOf 27 = 2 by kernel_rfl)
  obtain ⟨cl⟩ := cs
  match cl, hl, hf' with
  | [c0, c1], _, hf' =>
    obtain ⟨_, y0, h0, w0⟩ := leaf Tryz.underlying27 hf' 0 _ rfl 0 1 rfl (by kernel_rfl)
    obtain ⟨_, y1, h1, _⟩ := leaf Tryz.underlying27 hf' 1 _ rfl 1 1 rfl (by kernel_rfl)
    obtain ⟨l, hV, hB⟩ := vals_parts h0
    obtain ⟨fs, hF⟩ := funs_parts h1
    exact ⟨c0, c1, ⟨l, fs⟩, rfl, ⟨hV, hF⟩, fun B hx => hB B (w0 B hx)⟩
theorem bytes_parts {w : World} {fuel : Nat} {c : Value} {x : DataW H × List MemPlace} (h : DataW.trod enc Tryz.prog w 0 (fun _ => true) true fuel 22 [c] = some x) (hB : ∀ z ∈ x.1.weights Tryz.prog 22, z ≤ 140737488351232) : ∃ l ao cap, c = .slice ao l.length cap ∧ BsAt w c l := by
  rcases open_ints Tryz.underlying22 Tryz.underlying5 (by kernel_rfl) h with ⟨hcs, _⟩ | ⟨a, len', cap', zs, hcs, _, hl, hm, hz, hx, hcell, hwf⟩
  · have hh : c = .slice none 0 0 := (List.cons.inj hcs).1
    exact ⟨[], none, 0, hh, ⟨fun r hr => by simp at hr, .inl ⟨⟨none, 0, hh⟩, rfl⟩⟩, by simp⟩
  · have hh : c = .slice (some a) len' cap' := (List.cons.inj hcs).1
    have hz' : zs.length = cap' := by simpa using hz
    have hlen : ((zs.take len').map fun n => UInt8.ofNat n.toNat).length = len' := by simp; omega
    have hwt := hB (((lits (H := H) .u8 (zs.take len')).length + (lits (H := H) .u8 (zs.drop len')).length) * Tryz.prog.bytesOf 5) (by rw [hx]; simp only [DataW.weights, Tryz.underlying22, List.mem_cons, true_or])
    rw [show Tryz.prog.bytesOf 5 = 1 by kernel_rfl] at hwt
    simp [lits] at hwt
    refine ⟨(zs.take len').map fun n => UInt8.ofNat n.toNat, some a, cap', by rw [hh, hlen], ?_, by rw [hlen]; omega⟩
    rw [hh]
    refine slots_gen (by omega) (by rw [List.length_map, hlen]) hl (fun r hr => ?_) (fun i r hi j u hj => ?_)
    · obtain ⟨c, _, rfl⟩ := List.mem_map.1 hr
      exact ⟨rfl, fun x hx => by simp at hx; rw [hx]; rfl⟩
    · rw [List.getElem?_map] at hi
      obtain ⟨c, hc, rfl⟩ := Option.map_eq_some_iff.1 hi
      have hj0 : j = 0 := by
        have := (List.getElem?_eq_some_iff.1 hj).1
        simp at this
        exact this
      subst hj0
      obtain rfl : Value.int .u8 (c.toNat : Nat) = u := by simpa using hj
      rw [List.getElem?_map] at hc
      obtain ⟨n, hn, rfl⟩ := Option.map_eq_some_iff.1 hc
      have hil : i < len' := by
        have := (List.getElem?_eq_some_iff.1 hn).1
        simp at this
        omega
      have hn' : zs[i]? = some n := by
        rw [List.getElem?_take_of_lt hil] at hn
        exact hn
      have h1 := hcell i (by omega)
      rw [List.getD_eq_getElem?_getD, hn', Option.getD_some] at h1
      have hw := wf_u8 (hwf n (List.mem_of_getElem? hn'))
      have hb : ((UInt8.ofNat n.toNat).toNat : Int) = n := by
        rw [UInt8.toNat_ofNat']
        omega
      rw [hb, Nat.mul_one, Nat.add_zero]
      exact h1
set_option maxRecDepth 100000 in
theorem open_lists {W : World} {r : Reach} {b0 : Nat} {v : Value} {d : DataW H} {p : List MemPlace} (hv : Value.okWide Tryz.prog W r b0 33 v) (h : DataW.Trod enc Tryz.prog W 0 (fun _ => true) true 33 v d p) :
    ∃ ll, (∀ z ∈ d.weights Tryz.prog 33, z ≤ 140737488351232) → LsAt W v ll := by
  by_cases hB : ∀ z ∈ d.weights Tryz.prog 33, z ≤ 140737488351232
  case neg => exact ⟨[], fun h => absurd h hB⟩
  obtain ⟨ao, len, cap, rfl⟩ := okWide_slice Tryz.underlying33 hv
  obtain ⟨fuel, hf⟩ := h
  obtain ⟨rows, _, _, hs, hr⟩ := slice_gen (k := 1) (by omega) Tryz.underlying33 (by kernel_rfl) hf
  obtain ⟨l, hl, hq⟩ := zip_of (R := fun r (b : List UInt8) => ∃ ao cap, r = [.slice ao b.length cap] ∧ BsAt W (.slice ao b.length cap) b) rows (fun r hm => by
    obtain ⟨_, y, h1, h2, hb2⟩ := hr r hm
    match r, h2 with
    | [c], _ =>
      obtain ⟨b, ao, cap, rfl, hb⟩ := bytes_parts h1 (hb2 _ hB)
      exact ⟨b, ao, cap, rfl, hb⟩)
  refine ⟨l, fun _ => ⟨rows, hl, hs (fun r hm => ?_), fun i b hi => ?_⟩⟩
  · obtain ⟨_, y, h1, h2, hb2⟩ := hr r hm
    match r, h2 with
    | [c], _ =>
      obtain ⟨b, ao, cap, rfl, hb⟩ := bytes_parts h1 (hb2 _ hB)
      exact ⟨rfl, fun x hx => by simp at hx; rw [hx]; rfl⟩
  · obtain ⟨r, h1, ao, cap, rfl, hb⟩ := hq i b hi
    exact ⟨ao, cap, h1, hb⟩
end
end Go.Proofs.YtiggallcoocdaaaGreatDoor
/- Bytes as they come among the arguments. -/
namespace Go.Proofs.YtiggallcoocdaaaGreatDoor
open Go.RowKit Go.ChangeShapes Go.WideShapes
section
variable {H : Type} {enc : TypeId × Value → H}
set_option maxRecDepth 100000 in
theorem open_bs {W : World} {r : Reach} {b0 : Nat} {v : Value} {d : DataW H} {p : List MemPlace} (hv : Value.okWide Tryz.prog W r b0 22 v) (h : DataW.Trod enc Tryz.prog W 0 (fun _ => true) true 22 v d p) :
    ∃ l, (∀ z ∈ d.weights Tryz.prog 22, z ≤ 140737488351232) → BsAt W v l := by
  by_cases hB : ∀ z ∈ d.weights Tryz.prog 22, z ≤ 140737488351232
  case neg => exact ⟨[], fun h => absurd h hB⟩
  obtain ⟨ao, len, cap, rfl⟩ := okWide_slice Tryz.underlying22 hv
  obtain ⟨fuel, hf⟩ := h
  obtain ⟨l, ao', cap', hv', hb⟩ := bytes_parts hf hB
  exact ⟨l, fun _ => hb⟩
end
theorem gLet7 : Tryz.prog.globalNamed "lazaretto/prin.letters" = some 2 := by kernel_rfl
theorem letters_of {W : World} (h : Lib.TabIs Tryz.prog W "lazaretto/prin.letters" .u8 [97, 98, 99, 100, 101, 102]) : Letters W := by
  unfold Lib.TabIs World.var? at h
  rw [gLet7] at h
  intro k hk
  unfold World.cell?
  cases hh : W.heap[2]? with
  | none => simp [hh] at h
  | some o =>
    cases o with
    | cells cs t fr =>
      simp [hh] at h
      subst h
      match k, hk with
      | 0, _ => rfl
      | 1, _ => rfl
      | 2, _ => rfl
      | 3, _ => rfl
      | 4, _ => rfl
      | 5, _ => rfl
    | _ => simp [hh] at h
end Go.Proofs.YtiggallcoocdaaaGreatDoor
