/- OpenT2, OpenT3, OpenT4, OpenT5: joined into one text; each part says below what it holds. -/
import Derived.Test.YtnmepcogijgbjaaGreatDoorZ4
import Derived.Test.YtnmepcogijgbjaaGreatDoorZ1
import Derived.Deep.Slices
import Derived.Test.YtnmepcogijgbjaaGreatDoorZI
import Derived.Test.YtnmepcogijgbjaaGreatDoorZF
/- Arguments of chapter 9 as they come: a program, lists of bytes. -/
namespace Go.Proofs.YtnmepcogijgbjaaGreatDoor
open Go.RowKit Go.ChangeShapes Go.WideShapes
theorem map_of {α : Type} {f : α → List Value} {Q : α → Prop} : ∀ (rows : List (List Value)), (∀ r ∈ rows, ∃ x, r = f x ∧ Q x) → ∃ l : List α, rows = l.map f ∧ ∀ x ∈ l, Q x
  | [], _ => ⟨[], rfl, fun x h => by simp at h⟩
  | r :: rows, h => by
    obtain ⟨l, e, hq⟩ := map_of rows (fun r hr => h r (by simp [hr]))
    obtain ⟨x, rfl, hx⟩ := h r (by simp)
    refine ⟨x :: l, by rw [e]; rfl, fun y hy => ?_⟩
    rcases List.mem_cons.1 hy with rfl | hy
    · exact hx
    · exact hq y hy
theorem zip_of {α : Type} {R : List Value → α → Prop} : ∀ (rows : List (List Value)), (∀ r ∈ rows, ∃ x, R r x) → ∃ l : List α, rows.length = l.length ∧ ∀ (i : Nat) (x : α), l[i]? = some x → ∃ r, rows[i]? = some r ∧ R r x
  | [], _ => ⟨[], rfl, fun i x h => by simp at h⟩
  | r :: rows, h => by
    obtain ⟨l, e, hq⟩ := zip_of rows (fun r hr => h r (by simp [hr]))
    obtain ⟨x, hx⟩ := h r (by simp)
    refine ⟨x :: l, by simp [e], fun i y hy => ?_⟩
    cases i with
    | zero =>
      obtain rfl : x = y := by simpa using hy
      exact ⟨r, rfl, hx⟩
    | succ i => simpa using hq i y (by simpa using hy)
theorem rows_of_each {P : Nat → List Value → Prop} : ∀ (n : Nat), (∀ i, i < n → ∃ r, P i r) → ∃ rows : List (List Value), rows.length = n ∧ ∀ (i : Nat) r, rows[i]? = some r → P i r
  | 0, _ => ⟨[], rfl, fun i r h => by simp at h⟩
  | n + 1, h => by
    obtain ⟨l, hl, hp⟩ := rows_of_each n (fun i hi => h i (by omega))
    obtain ⟨x, hx⟩ := h n (by omega)
    refine ⟨l ++ [x], by simp [hl], fun i r hi => ?_⟩
    by_cases hin : i < l.length
    · rw [List.getElem?_append_left hin] at hi
      exact hp i r hi
    · have : i = l.length := by
        have := (List.getElem?_eq_some_iff.1 hi).1
        simp at this
        omega
      subst this
      rw [List.getElem?_append_right (by omega)] at hi
      obtain rfl : x = r := by simpa using hi
      rw [hl]
      exact hx
theorem slots_gen {W : World} {a : Addr} {len cap k : Nat} (hk : 0 < k) {rows : List (List Value)} (hl : rows.length = len) (hc : len ≤ cap) (hw : Wide k rows) (h : ∀ (i : Nat) r, rows[i]? = some r → ∀ (j : Nat) u, r[j]? = some u → W.cell? (a.add (i * k + j)) = some u) : SlotsAt W k (.slice (some a) len cap) rows := by
  refine ⟨hw, ?_⟩
  by_cases h0 : len = 0
  · exact .inl ⟨⟨some a, cap, by rw [h0]⟩, List.eq_nil_of_length_eq_zero (by omega)⟩
  · have hr0 : rows[0]? = some rows[0] := List.getElem?_eq_getElem (by omega)
    have hr0l := (hw rows[0] (List.getElem_mem _)).1
    have h1 := h 0 _ hr0 0 _ (List.getElem?_eq_getElem (by omega))
    have hs := add_eq h1
    have hs' : a.spot = none := by
      unfold Addr.add at hs
      simpa using hs
    have hb := World.block_lt_of_cell? _ _ h1
    have hab : (a.add (0 * k + 0)).block = a.block := by rw [addr_add hs']
    rw [hab] at hb
    obtain ⟨b, o, s⟩ := a
    simp only at hs'
    subst hs'
    refine .inr ⟨b, o, cap, by rw [hl], by omega, hb, fun j u hj => ?_⟩
    have hjl : j < rows.length * k := by
      have := (List.getElem?_eq_some_iff.1 hj).1
      rwa [hw.len] at this
    have hi : j / k < rows.length := (Nat.div_lt_iff_lt_mul hk).2 hjl
    have hm : j % k < k := Nat.mod_lt _ hk
    have hg := hw.get (j / k) (j % k) _ hm (List.getElem?_eq_getElem hi)
    have hjj : j / k * k + j % k = j := by rw [Nat.mul_comm]; exact Nat.div_add_mod j k
    rw [hjj, hj] at hg
    have := h (j / k) _ (List.getElem?_eq_getElem hi) (j % k) u hg.symm
    rw [hjj, addr_add rfl] at this
    exact this
theorem weights_mem_all {H : Type} {P : Program} {e : TypeId} : ∀ {ds : List (DataW H)} {d : DataW H}, d ∈ ds → ∀ n ∈ d.weights P e, n ∈ DataW.weightsAll P e ds
  | [], _, h, _, _ => by simp at h
  | x :: ds, d, h, n, hn => by
    rw [DataW.weightsAll, List.mem_append]
    rcases List.mem_cons.1 h with rfl | h
    · exact .inl hn
    · exact .inr (weights_mem_all h n hn)
section
variable {H : Type} {enc : TypeId × Value → H}
/-- a slice as it comes: its rows, and what each of them reads as -/
theorem slice_gen {P : Program} {W : World} {t e : TypeId} {k : Nat} (hk : 0 < k) (ht : P.underlying t = some (.slice e)) (hC : P.cellsOf e = k) {fuel : Nat} {c : Value} {x : DataW H × List MemPlace} (h : DataW.trod enc P W 0 (fun _ => true) true fuel t [c] = some x) :
    ∃ rows : List (List Value), (∃ ao cap, c = .slice ao rows.length cap) ∧ rows.length ≤ maxLen ∧ (Wide k rows → SlotsAt W k c rows) ∧ ∀ r ∈ rows, ∃ fuel' y, DataW.trod enc P W 0 (fun _ => true) true fuel' e r = some y ∧ r.length = k ∧ ∀ B, (∀ z ∈ x.1.weights P t, z ≤ B) → ∀ z ∈ y.1.weights P e, z ≤ B := by
  rcases Go.Deep.open_slice ht h with ⟨hcs, _⟩ | ⟨a, len, cap, m, n, D, Pl, hcs, _, hl, hm0, hm, hx, hi⟩
  · simp at hcs
    exact ⟨[], ⟨none, 0, hcs⟩, by simp, fun hw => ⟨hw, .inl ⟨⟨none, 0, hcs⟩, rfl⟩⟩, fun r hr => by simp at hr⟩
  · simp at hcs hm
    rw [hC] at hi
    obtain ⟨rows, hq, hp⟩ := rows_of_each (P := fun i r => W.cells? 0 (a.add (i * k)) k = some r ∧ DataW.trod enc P W 0 (fun _ => true) true n e r = some (D i, Pl i)) len (fun i hil => hi i (by omega))
    refine ⟨rows, ⟨some a, cap, by rw [hcs, hq]⟩, by omega, fun hw => ?_, fun r hr => ?_⟩
    · rw [hcs]
      refine slots_gen hk hq hl hw (fun i r hir j u hj => ?_)
      obtain ⟨_, h1, hat⟩ := World.cells?_some (hp i r hir).1
      have hjk : j < k := by have := (List.getElem?_eq_some_iff.1 hj).1; omega
      rw [← Go.Deep.add_add, hat j hjk]
      exact hj
    · obtain ⟨i, hil, rfl⟩ := List.getElem_of_mem hr
      obtain ⟨h1, h2⟩ := hp i _ (List.getElem?_eq_getElem hil)
      refine ⟨n, _, h2, (World.cells?_some h1).2.1, fun B hB z hz => hB z ?_⟩
      rw [hx]
      simp only [DataW.weights, ht, List.mem_cons, List.mem_append]
      exact .inr (.inl (weights_mem_all (List.mem_map.2 ⟨i, by simp; omega, rfl⟩) z hz))
end
end Go.Proofs.YtnmepcogijgbjaaGreatDoor
/- Lists of values, tries and frames among the arguments. -/
namespace Go.Proofs.YtnmepcogijgbjaaGreatDoor
open Go.RowKit Go.ChangeShapes Go.WideShapes
section
variable {H : Type} {enc : TypeId × Value → H}
theorem vals_in {w : World} {fuel : Nat} {c : Value} {x : DataW H × List MemPlace} (h : DataW.trod enc Tryz.prog w 0 (fun _ => true) true fuel 33 [c] = some x) : ∃ (a : Option Addr) (n cap : Nat) (l : List V5), c = .slice a n cap ∧ n ≤ maxLen ∧ SlotsAt w 5 c (l.map V5.row) := by
  obtain ⟨rows, ⟨a, cap, e⟩, hn, hs, hr⟩ := slice_gen (k := 5) (by omega) Tryz.underlying33 (by kernel_rfl) h
  obtain ⟨l, rfl, -⟩ := map_of (f := V5.row) (Q := fun _ => True) rows (fun r hm => by
    obtain ⟨_, y, h1, _, hB⟩ := hr r hm
    obtain ⟨k, n, m, s, i, rfl, hn, hb⟩ := val_parts7 h1
    exact ⟨⟨k, n, m, s, i⟩, rfl, trivial⟩)
  exact ⟨a, _, cap, l, e, hn, hs (wide_v5 l)⟩
theorem try_parts {w : World} {fuel : Nat} {cs : List Value} {x : DataW H × List MemPlace} (h : DataW.trod enc Tryz.prog w 0 (fun _ => true) true fuel 115 cs = some x) : ∃ v : Tr, cs = v.row := by
  have hl := (len_of Tryz.underlying115 h).trans (show Tryz.prog.cellsOf 115 = 3 by kernel_rfl)
  match cs, hl with
  | [c0, c1, c2], _ =>
    obtain ⟨_, y0, h0, _⟩ := leaf Tryz.underlying115 h 0 _ rfl 0 1 rfl (by kernel_rfl)
    obtain ⟨_, y1, h1, _⟩ := leaf Tryz.underlying115 h 1 _ rfl 1 1 rfl (by kernel_rfl)
    obtain ⟨_, y2, h2, _⟩ := leaf Tryz.underlying115 h 2 _ rfl 2 1 rfl (by kernel_rfl)
    obtain ⟨a, e0, _⟩ := DataW.trod_int Tryz.underlying3 h0
    obtain ⟨b, e1, _⟩ := DataW.trod_int Tryz.underlying3 h1
    obtain ⟨c, e2, _⟩ := DataW.trod_int Tryz.underlying3 h2
    simp at e0 e1 e2
    exact ⟨⟨a, b, c⟩, by rw [e0, e1, e2]; rfl⟩
theorem tries_in {w : World} {fuel : Nat} {c : Value} {x : DataW H × List MemPlace} (h : DataW.trod enc Tryz.prog w 0 (fun _ => true) true fuel 34 [c] = some x) : ∃ (a : Option Addr) (n cap : Nat) (l : List Tr), c = .slice a n cap ∧ n ≤ maxLen ∧ SlotsAt w 3 c (l.map Tr.row) := by
  obtain ⟨rows, ⟨a, cap, e⟩, hn, hs, hr⟩ := slice_gen (k := 3) (by omega) Tryz.underlying34 (by kernel_rfl) h
  obtain ⟨l, rfl, -⟩ := map_of (f := Tr.row) (Q := fun _ => True) rows (fun r hm => by
    obtain ⟨_, y, h1, _, hB⟩ := hr r hm
    obtain ⟨v, rfl⟩ := try_parts h1
    exact ⟨v, rfl, trivial⟩)
  exact ⟨a, _, cap, l, e, hn, hs (wide_tr l)⟩
theorem frame_parts {w : World} {fuel : Nat} {cs : List Value} {x : DataW H × List MemPlace} (h : DataW.trod enc Tryz.prog w 0 (fun _ => true) true fuel 104 cs = some x) : ∃ v : Fr, cs = v.row ∧ FrOk w v := by
  have hl := (len_of Tryz.underlying104 h).trans (show Tryz.prog.cellsOf 104 = 5 by kernel_rfl)
  match cs, hl with
  | [c0, c1, c2, c3, c4], _ =>
    obtain ⟨_, y0, h0, _⟩ := leaf Tryz.underlying104 h 0 _ rfl 0 1 rfl (by kernel_rfl)
    obtain ⟨_, y1, h1, _⟩ := leaf Tryz.underlying104 h 1 _ rfl 1 1 rfl (by kernel_rfl)
    obtain ⟨_, y2, h2, _⟩ := leaf Tryz.underlying104 h 2 _ rfl 2 1 rfl (by kernel_rfl)
    obtain ⟨_, y3, h3, _⟩ := leaf Tryz.underlying104 h 3 _ rfl 3 1 rfl (by kernel_rfl)
    obtain ⟨_, y4, h4, _⟩ := leaf Tryz.underlying104 h 4 _ rfl 4 1 rfl (by kernel_rfl)
    obtain ⟨a, e0, _⟩ := DataW.trod_int Tryz.underlying3 h0
    obtain ⟨b, e1, _⟩ := DataW.trod_int Tryz.underlying3 h1
    obtain ⟨c, e2, _⟩ := DataW.trod_int Tryz.underlying3 h2
    obtain ⟨d, e3, _⟩ := DataW.trod_int Tryz.underlying5 h3
    obtain ⟨ao, n, cap, l, e4, hn, hs⟩ := vals_in (c := c4) h4
    simp at e0 e1 e2 e3
    subst e4
    unfold maxLen at hn
    exact ⟨⟨a, b, c, d, ⟨ao, n, cap⟩⟩, by rw [e0, e1, e2, e3]; rfl, by show n ≤ 9223372036854775807; omega, l, hs⟩
theorem frames_in {w : World} {fuel : Nat} {c : Value} {x : DataW H × List MemPlace} (h : DataW.trod enc Tryz.prog w 0 (fun _ => true) true fuel 32 [c] = some x) : ∃ (a : Option Addr) (n cap : Nat) (l : List Fr), c = .slice a n cap ∧ n ≤ maxLen ∧ SlotsAt w 5 c (l.map Fr.row) ∧ ∀ v ∈ l, FrOk w v := by
  obtain ⟨rows, ⟨a, cap, e⟩, hn, hs, hr⟩ := slice_gen (k := 5) (by omega) Tryz.underlying32 (by kernel_rfl) h
  obtain ⟨l, rfl, hq⟩ := map_of (f := Fr.row) (Q := fun v => FrOk w v) rows (fun r hm => by
    obtain ⟨_, y, h1, _, hB⟩ := hr r hm
    exact frame_parts h1)
  exact ⟨a, _, cap, l, e, hn, hs (wide_fr l), hq⟩
end
end Go.Proofs.YtnmepcogijgbjaaGreatDoor
/- A scope among the arguments; lists of them. -/
namespace Go.Proofs.YtnmepcogijgbjaaGreatDoor
open Go.RowKit Go.ChangeShapes Go.WideShapes
section
variable {H : Type} {enc : TypeId × Value → H}
theorem scope_parts {w : World} {fuel : Nat} {cs : List Value} {x : DataW H × List MemPlace} (h : DataW.trod enc Tryz.prog w 0 (fun _ => true) true fuel 56 cs = some x) : ∃ v : Sc, cs = scL v := by
  have hl := (len_of Tryz.underlying56 h).trans (show Tryz.prog.cellsOf 56 = 14 by kernel_rfl)
  match cs, hl with
  | [c0, c1, c2, c3, c4, c5, c6, c7, c8, c9, c10, c11, c12, c13], _ =>
    obtain ⟨_, y0, h0, _⟩ := leaf Tryz.underlying56 h 0 _ rfl 0 1 rfl (by kernel_rfl)
    obtain ⟨_, y1, h1, _⟩ := leaf Tryz.underlying56 h 1 _ rfl 1 2 rfl (by kernel_rfl)
    obtain ⟨_, y2, h2, _⟩ := leaf Tryz.underlying56 h 2 _ rfl 3 1 rfl (by kernel_rfl)
    obtain ⟨_, y3, h3, _⟩ := leaf Tryz.underlying56 h 3 _ rfl 4 1 rfl (by kernel_rfl)
    obtain ⟨_, y4, h4, _⟩ := leaf Tryz.underlying56 h 4 _ rfl 5 1 rfl (by kernel_rfl)
    obtain ⟨_, y5, h5, _⟩ := leaf Tryz.underlying56 h 5 _ rfl 6 1 rfl (by kernel_rfl)
    obtain ⟨_, y6, h6, _⟩ := leaf Tryz.underlying56 h 6 _ rfl 7 4 rfl (by kernel_rfl)
    obtain ⟨_, y7, h7, _⟩ := leaf Tryz.underlying56 h 7 _ rfl 11 1 rfl (by kernel_rfl)
    obtain ⟨_, y8, h8, _⟩ := leaf Tryz.underlying56 h 8 _ rfl 12 1 rfl (by kernel_rfl)
    obtain ⟨_, y9, h9, _⟩ := leaf Tryz.underlying56 h 9 _ rfl 13 1 rfl (by kernel_rfl)
    obtain ⟨a, e0, _⟩ := DataW.trod_string Tryz.underlying9 h0
    obtain ⟨b, c, e1, _⟩ := label_parts7 h1
    obtain ⟨d, e2, _⟩ := DataW.trod_int Tryz.underlying3 h2
    obtain ⟨e, e3, _⟩ := DataW.trod_int Tryz.underlying3 h3
    obtain ⟨f, e4, _⟩ := DataW.trod_int Tryz.underlying3 h4
    obtain ⟨g, e5, _⟩ := DataW.trod_int Tryz.underlying3 h5
    obtain ⟨h_, i, j, k, e6, _⟩ := state_parts h6
    obtain ⟨m, e7, _⟩ := DataW.trod_string Tryz.underlying9 h7
    obtain ⟨n, e8, _⟩ := DataW.trod_int Tryz.underlying3 h8
    obtain ⟨o, e9, _⟩ := DataW.trod_int Tryz.underlying3 h9
    simp at e0 e1 e2 e3 e4 e5 e6 e7 e8 e9
    exact ⟨⟨a, b, c, d, e, f, g, h_, i, j, k, m, n, o⟩, by rw [e0, e1.1, e1.2, e2, e3, e4, e5, e6.1, e6.2.1, e6.2.2.1, e6.2.2.2, e7, e8, e9]; rfl⟩
theorem scopes_in {w : World} {fuel : Nat} {c : Value} {x : DataW H × List MemPlace} (h : DataW.trod enc Tryz.prog w 0 (fun _ => true) true fuel 37 [c] = some x) : ∃ (a : Option Addr) (n cap : Nat) (l : List Sc), c = .slice a n cap ∧ n ≤ maxLen ∧ ScAt w ⟨a, n, cap⟩ l := by
  obtain ⟨rows, ⟨a, cap, e⟩, hn, hs, hr⟩ := slice_gen (k := 14) (by omega) Tryz.underlying37 (by kernel_rfl) h
  obtain ⟨l, rfl, -⟩ := map_of (f := scL) (Q := fun _ => True) rows (fun r hm => by
    obtain ⟨_, y, h1, _, hB⟩ := hr r hm
    obtain ⟨v, rfl⟩ := scope_parts h1
    exact ⟨v, rfl, trivial⟩)
  refine ⟨a, _, cap, l, e, hn, ?_⟩
  have := hs (wide_sc l)
  rw [e] at this
  exact this
end
end Go.Proofs.YtnmepcogijgbjaaGreatDoor
/- A thread among the arguments. -/
namespace Go.Proofs.YtnmepcogijgbjaaGreatDoor
open Go.RowKit Go.ChangeShapes Go.WideShapes
section
variable {H : Type} {enc : TypeId × Value → H}
theorem caps_in {P : Program} {w : World} {t e : TypeId} {fuel : Nat} {a : Option Addr} {n cap : Nat} {x : DataW H × List MemPlace} (ht : P.underlying t = some (.slice e)) (h : DataW.trod enc P w 0 (fun _ => true) true fuel t [.slice a n cap] = some x) : n ≤ cap ∧ cap ≤ maxLen := by
  rcases Go.Deep.open_slice ht h with ⟨hcs, _⟩ | ⟨a', len, cap', m, k, D, Pl, hcs, _, hl, hm0, _⟩
  · obtain ⟨-, rfl, rfl⟩ := Value.slice.inj (List.cons.inj hcs).1
    exact ⟨Nat.le_refl _, Nat.zero_le _⟩
  · obtain ⟨-, rfl, rfl⟩ := Value.slice.inj (List.cons.inj hcs).1
    exact ⟨hl, hm0⟩
set_option maxRecDepth 100000 in
theorem thread_parts {w : World} {fuel : Nat} {cs : List Value} {x : DataW H × List MemPlace} (h : DataW.trod enc Tryz.prog w 0 (fun _ => true) true fuel 39 cs = some x) : ∃ (t : Th) (l : List Sc), cs = (th t).toList ∧ Lists w t ∧ ScAt w t.sc l ∧ t.sc.n ≤ maxLen := by
  have hl := (len_of Tryz.underlying39 h).trans (show Tryz.prog.cellsOf 39 = 20 by kernel_rfl)
  match cs, hl with
  | [c0, c1, c2, c3, c4, c5, c6, c7, c8, c9, c10, c11, c12, c13, c14, c15, c16, c17, c18, c19], _ =>
    obtain ⟨_, y0, h0, _⟩ := leaf Tryz.underlying39 h 0 _ rfl 0 1 rfl (by kernel_rfl)
    obtain ⟨_, y1, h1, _⟩ := leaf Tryz.underlying39 h 1 _ rfl 1 1 rfl (by kernel_rfl)
    obtain ⟨_, y2, h2, _⟩ := leaf Tryz.underlying39 h 2 _ rfl 2 4 rfl (by kernel_rfl)
    obtain ⟨_, y3, h3, _⟩ := leaf Tryz.underlying39 h 3 _ rfl 6 3 rfl (by kernel_rfl)
    obtain ⟨_, y4, h4, _⟩ := leaf Tryz.underlying39 h 4 _ rfl 9 1 rfl (by kernel_rfl)
    obtain ⟨_, y5, h5, _⟩ := leaf Tryz.underlying39 h 5 _ rfl 10 1 rfl (by kernel_rfl)
    obtain ⟨_, y6, h6, _⟩ := leaf Tryz.underlying39 h 6 _ rfl 11 1 rfl (by kernel_rfl)
    obtain ⟨_, y7, h7, _⟩ := leaf Tryz.underlying39 h 7 _ rfl 12 1 rfl (by kernel_rfl)
    obtain ⟨_, y8, h8, _⟩ := leaf Tryz.underlying39 h 8 _ rfl 13 1 rfl (by kernel_rfl)
    obtain ⟨_, y9, h9, _⟩ := leaf Tryz.underlying39 h 9 _ rfl 14 5 rfl (by kernel_rfl)
    obtain ⟨_, y10, h10, _⟩ := leaf Tryz.underlying39 h 10 _ rfl 19 1 rfl (by kernel_rfl)
    obtain ⟨_, z0, g0, _⟩ := leaf Tryz.underlying36 h3 0 _ rfl 0 1 rfl (by kernel_rfl)
    obtain ⟨_, z1, g1, _⟩ := leaf Tryz.underlying36 h3 1 _ rfl 1 1 rfl (by kernel_rfl)
    obtain ⟨_, z2, g2, _⟩ := leaf Tryz.underlying36 h3 2 _ rfl 2 1 rfl (by kernel_rfl)
    obtain ⟨id, e0, _⟩ := DataW.trod_string Tryz.underlying9 h0
    obtain ⟨pa, e1, _⟩ := DataW.trod_string Tryz.underlying9 h1
    obtain ⟨a, b, c, d, e2, _⟩ := state_parts h2
    obtain ⟨fa, fn, fc, lf, rfl, _, sf, okf⟩ := frames_in (c := c6) g0
    obtain ⟨ka, kn, kc, ls, rfl, _, sk⟩ := vals_in (c := c7) g1
    obtain ⟨ra, rn, rc, lt, rfl, _, sr⟩ := tries_in (c := c8) g2
    obtain ⟨sa, sn, scp, l, rfl, hsn, ss⟩ := scopes_in (c := c9) h4
    obtain ⟨f1, f2⟩ := caps_in Tryz.underlying32 (a := fa) (n := fn) (cap := fc) g0
    obtain ⟨k1, k2⟩ := caps_in Tryz.underlying33 (a := ka) (n := kn) (cap := kc) g1
    obtain ⟨r1, r2⟩ := caps_in Tryz.underlying34 (a := ra) (n := rn) (cap := rc) g2
    obtain ⟨md, e5, _⟩ := DataW.trod_int Tryz.underlying3 h5
    obtain ⟨rm, e6, _⟩ := DataW.trod_int Tryz.underlying3 h6
    obtain ⟨st, e7, _⟩ := DataW.trod_int Tryz.underlying3 h7
    obtain ⟨on, e8, _⟩ := DataW.trod_string Tryz.underlying9 h8
    obtain ⟨vk, vx, vm, vS, vI, e9, _⟩ := val_parts7 h9
    obtain ⟨ex, e10, _⟩ := DataW.trod_bool Tryz.underlying4 h10
    simp at e0 e1 e2 e5 e6 e7 e8 e9 e10
    exact ⟨⟨id, pa, a, b, c, d, ⟨fa, fn, fc⟩, ⟨ka, kn, kc⟩, ⟨ra, rn, rc⟩, ⟨sa, sn, scp⟩, md, rm, st, on, vk, vx, vm, vS, vI, ex⟩, l, by rw [e0, e1, e2.1, e2.2.1, e2.2.2.1, e2.2.2.2, e5, e6, e7, e8, e9.1, e9.2.1, e9.2.2.1, e9.2.2.2.1, e9.2.2.2.2, e10]; rfl, ⟨⟨lf, sf, okf⟩, ⟨ls, sk⟩, ⟨lt, sr⟩, f1, f2, k1, k2, r1, r2⟩, ss, hsn⟩
set_option maxRecDepth 100000 in
theorem open_thread {W : World} {r : Reach} {b0 : Nat} {v : Value} {d : DataW H} {p : List MemPlace} (hv : Value.okWide Tryz.prog W r b0 39 v) (h : DataW.Trod enc Tryz.prog W 0 (fun _ => true) true 39 v d p) :
    ∃ (t : Th) (l : List Sc), v = .agg (th t) ∧ (Lists W t ∧ ScAt W t.sc l ∧ t.sc.n ≤ maxLen) := by
  obtain ⟨cs, rfl, _⟩ := okWide_struct Tryz.underlying39 hv
  obtain ⟨fuel, hf⟩ := h
  obtain ⟨t, l, he, h1⟩ := thread_parts hf
  exact ⟨t, l, by rw [show cs = th t from Array.toList_inj.1 he], h1⟩
end
end Go.Proofs.YtnmepcogijgbjaaGreatDoor
