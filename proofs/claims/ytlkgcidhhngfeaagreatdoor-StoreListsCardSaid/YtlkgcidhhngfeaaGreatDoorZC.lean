/- LisQ, LisP: joined into one text; each part says below what it holds. -/
import Derived.Test.YtlkgcidhhngfeaaGreatDoorApP
import Derived.Test.YtlkgcidhhngfeaaGreatDoorZD
/- What hiding by two labels leaves, in plain words; the names of a filled store. -/
namespace Go.Proofs.YtlkgcidhhngfeaaGreatDoor
open Go.RowKit Go.Maps
theorem nm_in (i : Int) : nm i ∈ nm8 := by
  unfold nm
  have hi : (i % 8).toNat < nm8.length := by show (i % 8).toNat < 8; omega
  have e : nm8[(i % 8).toNat]! = nm8[(i % 8).toNat]'hi := by simp [hi]
  rw [e]
  exact List.getElem_mem _
theorem fillL_names (l : List Ac) : ∀ e ∈ fillL l, e.1 ∈ nm8 := by
  unfold fillL
  suffices ∀ S : St, (∀ e ∈ S, e.1 ∈ nm8) → ∀ e ∈ l.foldl (fun S a => addT S (nm a.i) (fewB a.x)) S, e.1 ∈ nm8 from this [] (fun e he => by cases he)
  induction l with
  | nil => exact fun S h => h
  | cons a l ih =>
    intro S h
    refine ih _ fun e he => ?_
    have he : e ∈ addT S (nm a.i) (fewB a.x) := he
    unfold addT at he
    split at he
    · rcases insS_mem.1 he with rfl | he
      · exact nm_in _
      · exact h e he
    · exact h e he
theorem fillS_len8 (l : List Ac) : (fillS l).length ≤ 8 := by
  have h := nodup_sub_len ((fillS l).map (·.1)) nm8 (sorted_names (fillS_sorted l)) fun s hs => by
    obtain ⟨e, he, rfl⟩ := List.mem_map.1 hs
    exact fillL_names _ e he
  rw [List.length_map] at h
  exact h
end Go.Proofs.YtlkgcidhhngfeaaGreatDoor
/- StoreLists: the plain parts: rows of labels and of names in memory; the names of all labels are all names. -/
namespace Go.Proofs.YtlkgcidhhngfeaaGreatDoor
open Go.RowKit Go.Maps
/-- a slice of labels -/
def LabAt (w : World) (a : Option Addr) (c : Nat) (L : List LL) : Prop :=
  L = [] ∨ ∃ g, a = some ⟨g, 0, none⟩ ∧ g < w.heap.size ∧ L.length ≤ c ∧ ∀ k x, L[k]? = some x → w.cell? ⟨g, k * 2, none⟩ = some (.string x.1) ∧ w.cell? ⟨g, k * 2 + 1, none⟩ = some (.string x.2)
/-- a slice of names -/
def StrAt (w : World) (a : Option Addr) (c : Nat) (L : List ByteArray) : Prop :=
  L = [] ∨ ∃ g, a = some ⟨g, 0, none⟩ ∧ g < w.heap.size ∧ L.length ≤ c ∧ ∀ k x, L[k]? = some x → w.cell? ⟨g, k, none⟩ = some (.string x)
theorem labAt_of {w : World} {B : Nat} {v : Value} {L : List LL} (h : w.ownsRow B 25 2 v L.length (L.flatMap celL)) : ∃ a c, v = .slice a L.length c ∧ LabAt w a c L := by
  rcases h.2 with ⟨rfl, h0⟩ | ⟨g, cap, cur, rfl, hB, hg, h1, h2, h3, h4⟩
  · exact ⟨none, 0, by rw [h0], .inl (List.eq_nil_of_length_eq_zero h0)⟩
  · refine ⟨_, _, rfl, .inr ⟨g, rfl, (Array.getElem?_eq_some_iff.1 hg).1, h1, fun k x hk => ?_⟩⟩
    have hkl : k < L.length := (List.getElem?_eq_some_iff.1 hk).1
    have hf := flat_get L [] k x hk
    rw [List.append_nil] at hf
    rw [← h4] at hf
    rw [List.getElem?_take_of_lt (by omega), List.getElem?_take_of_lt (by omega)] at hf
    constructor
    · simp only [World.cell?, hg]
      simpa using hf.1
    · simp only [World.cell?, hg]
      simpa using hf.2
theorem strAt_of {w : World} {B : Nat} {v : Value} {L : List ByteArray} (h : w.ownsRow B 9 1 v L.length (L.map .string)) : ∃ a c, v = .slice a L.length c ∧ StrAt w a c L := by
  rcases h.2 with ⟨rfl, h0⟩ | ⟨g, cap, cur, rfl, hB, hg, h1, h2, h3, h4⟩
  · exact ⟨none, 0, by rw [h0], .inl (List.eq_nil_of_length_eq_zero h0)⟩
  · refine ⟨_, _, rfl, .inr ⟨g, rfl, (Array.getElem?_eq_some_iff.1 hg).1, h1, fun k x hk => ?_⟩⟩
    have hkl : k < L.length := (List.getElem?_eq_some_iff.1 hk).1
    have := World.ownsRow.cellAt h k (by omega)
    rw [this, List.getElem?_map, hk]
    rfl
theorem LabAt.below {w w' : World} {a : Option Addr} {c : Nat} {L : List LL} (h : LabAt w a c L) (hb : Below w.heap.size w w') : LabAt w' a c L := by
  rcases h with h | ⟨g, h1, h2, h3, h4⟩
  · exact .inl h
  · exact .inr ⟨g, h1, Nat.lt_of_lt_of_le h2 hb.size, h3, fun k x hk => ⟨(hb.cell (p := ⟨g, k * 2, none⟩) h2).trans (h4 k x hk).1, (hb.cell (p := ⟨g, k * 2 + 1, none⟩) h2).trans (h4 k x hk).2⟩⟩
theorem StrAt.below {w w' : World} {a : Option Addr} {c : Nat} {L : List ByteArray} (h : StrAt w a c L) (hb : Below w.heap.size w w') : StrAt w' a c L := by
  rcases h with h | ⟨g, h1, h2, h3, h4⟩
  · exact .inl h
  · exact .inr ⟨g, h1, Nat.lt_of_lt_of_le h2 hb.size, h3, fun k x hk => (hb.cell (p := ⟨g, k, none⟩) h2).trans (h4 k x hk)⟩
theorem LabAt.get {w : World} {a : Option Addr} {c : Nat} {L : List LL} (h : LabAt w a c L) {k : Nat} {x : LL} (hk : L[k]? = some x) : ∃ g, a = some ⟨g, 0, none⟩ ∧ g < w.heap.size ∧ L.length ≤ c ∧ w.cell? ⟨g, k * 2, none⟩ = some (.string x.1) ∧ w.cell? ⟨g, k * 2 + 1, none⟩ = some (.string x.2) := by
  rcases h with rfl | ⟨g, h1, h2, h3, h4⟩
  · simp at hk
  · exact ⟨g, h1, h2, h3, h4 k x hk⟩
theorem StrAt.get {w : World} {a : Option Addr} {c : Nat} {L : List ByteArray} (h : StrAt w a c L) {k : Nat} {x : ByteArray} (hk : L[k]? = some x) : ∃ g, a = some ⟨g, 0, none⟩ ∧ g < w.heap.size ∧ L.length ≤ c ∧ w.cell? ⟨g, k, none⟩ = some (.string x) := by
  rcases h with rfl | ⟨g, h1, h2, h3, h4⟩
  · simp at hk
  · exact ⟨g, h1, h2, h3, h4 k x hk⟩
/-- a later world, in which nothing of an earlier one was turned -/
theorem hid_bl {w0 w w' : World} (h : Hid (Below w0.heap.size w0 w)) (hb : Below w.heap.size w w') : Hid (Below w0.heap.size w0 w') := Lib.hid (below_then h.out hb)
theorem bl_st {w0 w : World} (h : Hid (Below w0.heap.size w0 w)) {b : Nat} (hb : w0.heap.size ≤ b) (o : Nat) (vs : List Value) : Hid (Below w0.heap.size w0 (w.setCells b o vs)) := Lib.hid (below_setCells (B := w0.heap.size) h.out (b := b) hb o vs)
/-- how many names the first labels have -/
def sumN (S : St) (L : List LL) : Nat := (L.map fun x => (namesOf S x.1 x.2).length).sum
theorem namesOf_cons (e : ByteArray × OB) (S : St) (a b : ByteArray) : (namesOf (e :: S) a b).length = (if labB e.2.lS e.2.lI a b = true then 1 else 0) + (namesOf S a b).length := by
  unfold namesOf
  rw [List.filter_cons]
  split <;> simp <;> omega
theorem sum_zero (y : LL) : ∀ {L : List LL}, y ∉ L → (L.map fun x => if labB y.1 y.2 x.1 x.2 = true then 1 else 0).sum = 0
  | [], _ => rfl
  | x :: L, h => by
    have hx : y ≠ x := fun e => h (by rw [e]; exact List.mem_cons_self)
    have : ¬ labB y.1 y.2 x.1 x.2 = true := fun e => hx (by obtain ⟨e1, e2⟩ := (labB_iff _ _ _ _).1 e; exact Prod.ext e1 e2)
    rw [List.map_cons, List.sum_cons, sum_zero y (fun hy => h (List.mem_cons_of_mem _ hy)), if_neg this]
theorem sum_one (y : LL) : ∀ {L : List LL}, L.Nodup → y ∈ L → (L.map fun x => if labB y.1 y.2 x.1 x.2 = true then 1 else 0).sum = 1
  | [], _, h => by cases h
  | x :: L, h, hy => by
    obtain ⟨h1, h2⟩ := List.nodup_cons.1 h
    by_cases hx : y = x
    · subst hx
      have : labB y.1 y.2 y.1 y.2 = true := (labB_iff _ _ _ _).2 ⟨rfl, rfl⟩
      rw [List.map_cons, List.sum_cons, sum_zero y h1, if_pos this]
    · have hne : ¬ labB y.1 y.2 x.1 x.2 = true := fun e => hx (by obtain ⟨e1, e2⟩ := (labB_iff _ _ _ _).1 e; exact Prod.ext e1 e2)
      have hm : y ∈ L := (List.mem_cons.1 hy).resolve_left hx
      rw [List.map_cons, List.sum_cons, sum_one y h2 hm, if_neg hne]
theorem sum_add (f g : LL → Nat) : ∀ L : List LL, (L.map fun x => f x + g x).sum = (L.map f).sum + (L.map g).sum
  | [] => rfl
  | x :: L => by simp only [List.map_cons, List.sum_cons, sum_add f g L]; omega
theorem sumN_all {L : List LL} (hn : L.Nodup) : ∀ {S : St}, (∀ e ∈ S, (e.2.lS, e.2.lI) ∈ L) → sumN S L = S.length
  | [], _ => by
    unfold sumN
    induction L with
    | nil => rfl
    | cons x L ih => rw [List.map_cons, List.sum_cons, ih (List.nodup_cons.1 hn).2 (fun e he => by cases he)]; rfl
  | e :: S, h => by
    have ih := sumN_all hn (S := S) fun e he => h e (List.mem_cons_of_mem _ he)
    unfold sumN at ih ⊢
    have h1 : (L.map fun x => (namesOf (e :: S) x.1 x.2).length) = L.map fun x => (if labB e.2.lS e.2.lI x.1 x.2 = true then 1 else 0) + (namesOf S x.1 x.2).length := List.map_congr_left fun x _ => namesOf_cons e S x.1 x.2
    rw [h1, sum_add, ih]
    have h2 := sum_one (e.2.lS, e.2.lI) hn (h e List.mem_cons_self)
    show (L.map fun x => if labB e.2.lS e.2.lI x.1 x.2 = true then 1 else 0).sum + S.length = S.length + 1
    rw [show (L.map fun x => if labB e.2.lS e.2.lI x.1 x.2 = true then 1 else 0).sum = 1 from h2]
    omega
theorem sumN_labels {S : St} {L : List LL} (h : L.Nodup ∧ ∀ x, x ∈ L ↔ HasN S x) (hok : ∀ e ∈ S, OkE e) : sumN S L = S.length :=
  sumN_all h.1 fun e he => (h.2 _).2 ⟨List.ne_nil_of_mem (namesOf_mem.2 ⟨e.2, he, rfl, rfl⟩), (hok e he).2⟩
theorem sumN_take {S : St} {L : List LL} {k : Nat} {x : LL} (h : L[k]? = some x) : sumN S (L.take (k + 1)) = sumN S (L.take k) + (namesOf S x.1 x.2).length := by
  unfold sumN
  rw [List.take_add_one, h]
  simp
theorem sumN_le {S : St} {L : List LL} (h : sumN S L = S.length) (k : Nat) : sumN S (L.take k) ≤ S.length := by
  rw [← h]
  unfold sumN
  conv => rhs; rw [← List.take_append_drop k L]
  rw [List.map_append, List.sum_append]
  omega
theorem names_get {S : St} (hs : SortedS S) {a b : ByteArray} {k : Nat} {key : ByteArray} (h : (namesOf S a b)[k]? = some key) : ∃ z, getS S key = some z ∧ z.lS = a ∧ z.lI = b := by
  obtain ⟨z, h1, h2, h3⟩ := namesOf_mem.1 (List.mem_of_getElem? h)
  exact ⟨z, (getS_mem hs).1 h1, h2, h3⟩
theorem one_conv {B B' : Nat} {X Y : Nat → Prop} {w : World} {p : Nat} {S : St} (h : Hid (One B X w p S)) (hB : B' ≤ B) (hY : ∀ b, Y b → b < B) : Hid (One B' Y w p S) := by
  obtain ⟨W, Q, h1, h2, _⟩ := h.out
  exact Lib.hid ⟨W, Q, h1, fun b hb => Nat.le_trans hB (h2 b hb), fun b hb hy => by have := h2 b hb; have := hY b hy; omega⟩
end Go.Proofs.YtlkgcidhhngfeaaGreatDoor
