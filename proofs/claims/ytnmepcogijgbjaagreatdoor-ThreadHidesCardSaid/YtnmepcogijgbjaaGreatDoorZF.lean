/- Rise, ArgT, HidR: joined into one text; each part says below what it holds. -/
import Derived.Test.YtnmepcogijgbjaaGreatDoorZG
import Derived.Test.YtnmepcogijgbjaaGreatDoorHidC
import Derived.Test.YtnmepcogijgbjaaGreatDoorFew
/- The list of scopes in which none has fewer frames, values, tries than those ahead of it; no program in sight. -/
namespace Go.Proofs.YtnmepcogijgbjaaGreatDoor
open Go.RowKit
/-- s behind p: no fewer than there -/
def upSc (p s : Sc) : Sc := { s with fr := max s.fr p.fr, ht := max s.ht p.ht, tr := max s.tr p.tr }
def riseFrom (p : Sc) : List Sc → List Sc
  | [] => []
  | s :: l => upSc p s :: riseFrom (upSc p s) l
def rise : List Sc → List Sc
  | [] => []
  | s :: l => s :: riseFrom s l
theorem riseFrom_length (l : List Sc) : ∀ p, (riseFrom p l).length = l.length := by
  induction l with
  | nil => intro p; rfl
  | cons s l ih => intro p; simp only [riseFrom, List.length_cons, ih]
theorem rise_length (l : List Sc) : (rise l).length = l.length := by
  cases l with
  | nil => rfl
  | cons s l => simp only [rise, List.length_cons, riseFrom_length]
theorem riseFrom_step (l : List Sc) : ∀ (p : Sc) (k : Nat) (h : k < l.length) (h1 : k < (p :: riseFrom p l).length) (h2 : k + 1 < (p :: riseFrom p l).length), (p :: riseFrom p l)[k + 1] = upSc (p :: riseFrom p l)[k] l[k] := by
  induction l with
  | nil => intro p k h; simp at h
  | cons s l ih =>
    intro p k h h1 h2
    cases k with
    | zero => simp [riseFrom]
    | succ k =>
      have := ih (upSc p s) k (by simpa using h) (by simpa [riseFrom] using h1) (by simpa [riseFrom] using h2)
      simpa [riseFrom] using this
theorem rise_step (l : List Sc) (k : Nat) (h : k + 1 < l.length) : (rise l)[k + 1]'(by rw [rise_length]; exact h) = upSc ((rise l)[k]'(by rw [rise_length]; omega)) l[k + 1] := by
  cases l with
  | nil => simp at h
  | cons s l =>
    have := riseFrom_step l s k (by simpa using h) (by simp [riseFrom_length]; simp at h; omega) (by simp [riseFrom_length]; simpa using h)
    simpa [rise] using this
theorem rise_rising (l : List Sc) : Rising (rise l) := by
  intro i j hi hj hij
  obtain ⟨d, rfl⟩ : ∃ d, j = i + d := ⟨j - i, by omega⟩
  induction d with
  | zero => exact ⟨Int.le_refl _, Int.le_refl _, Int.le_refl _⟩
  | succ d ih =>
    obtain ⟨a, b, c⟩ := ih (by omega) (by omega)
    have e := rise_step l (i + d) (by rw [rise_length] at hj; omega)
    have e' : (rise l)[i + (d + 1)] = upSc ((rise l)[i + d]'(by omega)) (l[i + d + 1]'(by rw [rise_length] at hj; omega)) := e
    rw [e']
    unfold upSc
    exact ⟨by simp only; omega, by simp only; omega, by simp only; omega⟩
end Go.Proofs.YtnmepcogijgbjaaGreatDoor
/- A thread as it comes in, and what few and the loop of max make of it: its lists lie in memory. -/
namespace Go.Proofs.YtnmepcogijgbjaaGreatDoor
open Go.RowKit
/-- the frames, values and tries of t lie in memory -/
structure Lists (w : World) (t : Th) : Prop where
  fr : ∃ lf : List Fr, SlotsAt w 5 (.slice t.fr.a t.fr.n t.fr.c) (lf.map Fr.row) ∧ ∀ x ∈ lf, FrOk w x
  sk : ∃ ls : List V5, SlotsAt w 5 (.slice t.sk.a t.sk.n t.sk.c) (ls.map V5.row)
  tr : ∃ lt : List Tr, SlotsAt w 3 (.slice t.tr.a t.tr.n t.tr.c) (lt.map Tr.row)
  f1 : t.fr.n ≤ t.fr.c
  f2 : t.fr.c ≤ maxLen
  k1 : t.sk.n ≤ t.sk.c
  k2 : t.sk.c ≤ maxLen
  r1 : t.tr.n ≤ t.tr.c
  r2 : t.tr.c ≤ maxLen
theorem Lists.below {w w' : World} {t : Th} (h : Lists w t) (hb : Below w.heap.size w w') : Lists w' t := by
  obtain ⟨⟨lf, hf, hk⟩, ⟨ls, hs⟩, ⟨lt, ht⟩, a1, a2, a3, a4, a5, a6⟩ := h
  exact ⟨⟨lf, hf.below hb, fun x hx => (hk x hx).below hb⟩, ⟨ls, hs.below hb⟩, ⟨lt, ht.below hb⟩, a1, a2, a3, a4, a5, a6⟩
/-- a scope's labels are of some size -/
def LabOk (s : Sc) : Prop := Bd s.cS ∧ Bd s.cI ∧ Bd s.lS ∧ Bd s.lI
theorem lab_few (l : List Sc) : ∀ s ∈ l.map fewSc, LabOk s := by
  intro s hs
  obtain ⟨x, _, rfl⟩ := List.mem_map.1 hs
  exact ⟨tk4_bd _, tk4_bd _, tk4_bd _, tk4_bd _⟩
theorem lab_up {p s : Sc} (h : LabOk s) : LabOk (upSc p s) := h
theorem lab_riseFrom {l : List Sc} : ∀ (p : Sc), (∀ s ∈ l, LabOk s) → ∀ s ∈ riseFrom p l, LabOk s := by
  induction l with
  | nil => intro p _ s hs; simp [riseFrom] at hs
  | cons x l ih =>
    intro p h s hs
    rcases List.mem_cons.1 hs with rfl | hs
    · exact lab_up (h x (by simp))
    · exact ih _ (fun s hs => h s (by simp [hs])) s hs
theorem lab_rise {l : List Sc} (h : ∀ s ∈ l, LabOk s) : ∀ s ∈ rise l, LabOk s := by
  cases l with
  | nil => intro s hs; simp [rise] at hs
  | cons x l =>
    intro s hs
    rcases List.mem_cons.1 hs with rfl | hs
    · exact h s (by simp)
    · exact lab_riseFrom x (fun s hs => h s (by simp [hs])) s hs
theorem At.of {w : World} {t t' : Th} {l : List Sc} (h : Lists w t) (h1 : t'.fr = t.fr) (h2 : t'.sk = t.sk) (h3 : t'.tr = t.tr) (hc : ScAt w t'.sc l) (hm : t'.sc.c ≤ maxLen) (hl : l.length ≤ 6) (hlab : ∀ s ∈ l, LabOk s) (c1 : Bd t'.cS) (c2 : Bd t'.cI) : At w t' l := by
  obtain ⟨hf, hs, ht, a1, a2, a3, a4, a5, a6⟩ := h
  exact ⟨by rw [h1]; exact hf, by rw [h2]; exact hs, by rw [h3]; exact ht, hc, by rw [h1]; exact a1, by rw [h1]; exact a2, by rw [h2]; exact a3, by rw [h2]; exact a4, by rw [h3]; exact a5, by rw [h3]; exact a6, hm, by omega, hlab, c1, c2⟩
end Go.Proofs.YtnmepcogijgbjaaGreatDoor
/- A row of scopes of the call's own, of which one field is stored; the lists of the loop of max. -/
namespace Go.Proofs.YtnmepcogijgbjaaGreatDoor
open Go.RowKit
theorem flat_set (s' : Sc) (i : Nat) (v : Value) (hi : i < 14) : ∀ (M : List Sc) (k : Nat) (hk : k < M.length), scL s' = (scL M[k]).set i v → (M.map scL).flatten.set (k * 14 + i) v = ((M.set k s').map scL).flatten
  | [], k, hk, _ => by simp at hk
  | s :: M, 0, _, h => by
    simp only [List.getElem_cons_zero] at h
    simp only [List.map_cons, List.flatten_cons, List.set_cons_zero, Nat.zero_mul, Nat.zero_add]
    rw [List.set_append, if_pos (show i < (scL s).length from hi), h]
  | s :: M, k + 1, hk, h => by
    simp only [List.getElem_cons_succ] at h
    have ih := flat_set s' i v hi M k (by simpa using hk) h
    simp only [List.map_cons, List.flatten_cons, List.set_cons_succ]
    rw [List.set_append, if_neg (by show ¬ (k + 1) * 14 + i < 14; omega), show (k + 1) * 14 + i - (scL s).length = k * 14 + i by show (k + 1) * 14 + i - 14 = _; omega, ih]
theorem row_set {w : World} {B n soc g k i : Nat} {M : List Sc} {v : Value} (h : w.ownsRow B 56 14 (.slice (some ⟨g, 0, none⟩) n soc) n ((M.map scL).flatten)) (hi : i < 14) (hk : k < M.length) (hn : n = M.length) (s' : Sc) (hs : scL s' = (scL M[k]).set i v) :
    (w.setCells g (k * 14 + i) [v]).ownsRow B 56 14 (.slice (some ⟨g, 0, none⟩) n soc) n (((M.set k s').map scL).flatten) := by
  have hl : ((M.map scL).flatten).length = n * 14 := by rw [(wide_sc M).len, List.length_map, hn]
  refine ⟨by rw [(wide_sc _).len, List.length_map, List.length_set, hn], ?_⟩
  rcases h.2 with ⟨h0, _⟩ | ⟨g', cap, cur, hv, hB, hg, h1, h3, h4, h5⟩
  · cases h0
  · obtain ⟨e1, e2, e3⟩ := Value.slice.inj hv
    obtain rfl : g = g' := by cases e1; rfl
    obtain rfl : cap = soc := e3.symm
    have hle : k * 14 + i + 1 ≤ cur.size := by omega
    refine .inr ⟨g, cap, _, rfl, hB, setCells_block [v] (k * 14 + i) w cur hg (by simpa using hle), h1, h3, ?_, ?_⟩
    · simp; omega
    · have hset : cur.toList.take (k * 14 + i) ++ [v] ++ cur.toList.drop (k * 14 + i + [v].length) = cur.toList.set (k * 14 + i) v := by
        rw [List.set_eq_take_append_cons_drop, if_pos (by simp; omega)]
        simp
      rw [show (cur.toList.take (k * 14 + i) ++ [v] ++ cur.toList.drop (k * 14 + i + [v].length)).toArray.toList = cur.toList.set (k * 14 + i) v from hset, List.take_set, h5]
      exact flat_set s' i v hi M k hk hs
theorem row_cell {w : World} {B n soc g k i : Nat} {M : List Sc} {v : Value} (h : w.ownsRow B 56 14 (.slice (some ⟨g, 0, none⟩) n soc) n ((M.map scL).flatten)) (hi : i < 14) (hk : k < M.length) (hv : (scL M[k])[i]? = some v) : w.cell? ⟨g, k * 14 + i, none⟩ = some v ∧ w.frozen? ⟨g, k * 14 + i, none⟩ = false := by
  rcases h.2 with ⟨h0, _⟩ | ⟨g', cap, cur, hv', hB, hg, h1, h3, h4, h5⟩
  · cases h0
  · obtain ⟨e1, e2, e3⟩ := Value.slice.inj hv'
    obtain rfl : g = g' := by cases e1; rfl
    refine ⟨?_, Mem.free hg _⟩
    have hx : (M.map scL).flatten[k * 14 + i]? = some v := by
      rw [(wide_sc M).get k i (scL M[k]) hi (by simp [hk])]
      exact hv
    rw [← h5, List.getElem?_take] at hx
    split at hx
    · simp only [World.cell?, hg]
      simpa using hx
    · cases hx
/-- the list as it stands when the first k scopes were gone through -/
def mix (L : List Sc) (k : Nat) : List Sc := (rise L).take k ++ L.drop k
theorem mix_length (L : List Sc) (k : Nat) : (mix L k).length = L.length := by
  unfold mix
  rw [List.length_append, List.length_take, List.length_drop, rise_length]
  omega
theorem mix_zero (L : List Sc) : mix L 0 = L := by simp [mix]
theorem mix_one (L : List Sc) : mix L 1 = L := by
  unfold mix
  cases L <;> simp [rise]
theorem mix_all (L : List Sc) : mix L L.length = rise L := by
  unfold mix
  rw [List.take_of_length_le (by rw [rise_length]; exact Nat.le_refl _), List.drop_of_length_le (Nat.le_refl _), List.append_nil]
theorem mix_get (L : List Sc) (k j : Nat) (hk : k ≤ L.length) : (mix L k)[j]? = if j < k then (rise L)[j]? else L[j]? := by
  unfold mix
  by_cases h : j < k
  · rw [if_pos h, List.getElem?_append_left (by rw [List.length_take, rise_length]; omega), List.getElem?_take, if_pos h]
  · rw [if_neg h, List.getElem?_append_right (by rw [List.length_take, rise_length]; omega), List.getElem?_drop, List.length_take, rise_length]
    congr 1
    omega
theorem mix_at (L : List Sc) (k : Nat) (h : k < L.length) : (mix L k)[k]? = some L[k] := by
  rw [mix_get L k k (by omega), if_neg (by omega)]
  simp [h]
theorem mix_ahead (L : List Sc) (k p : Nat) (h : k < L.length) (hp : p < k) : (mix L k)[p]? = (rise L)[p]? := by
  rw [mix_get L k p (by omega), if_pos hp]
theorem mix_step (L : List Sc) (k p : Nat) (h : k < L.length) (hp : p + 1 = k) {q s : Sc} (hq : (mix L k)[p]? = some q) (hs : (mix L k)[k]? = some s) : mix L (k + 1) = (mix L k).set k (upSc q s) := by
  subst hp
  rw [mix_at L _ h] at hs
  obtain rfl := Option.some.inj hs
  rw [mix_ahead L (p + 1) p h (by omega)] at hq
  have hpr : p < (rise L).length := by rw [rise_length]; omega
  obtain rfl : (rise L)[p] = q := by rw [List.getElem?_eq_getElem hpr] at hq; exact Option.some.inj hq
  rw [← rise_step L p h]
  refine List.ext_getElem? fun j => ?_
  rw [mix_get L _ j (by omega), List.getElem?_set, mix_get L _ j (by omega), mix_length]
  by_cases h1 : p + 1 = j
  · subst h1
    rw [if_pos (by omega), if_pos rfl, if_pos h, List.getElem?_eq_getElem (by rw [rise_length]; exact h)]
  · rw [if_neg h1]
    by_cases h2 : j < p + 1
    · rw [if_pos (by omega), if_pos h2]
    · rw [if_neg (by omega), if_neg h2]
theorem few6_eq (l : List Sc) : few6 l = (((l.take 6).map fewSc).map scL).flatten := rfl
set_option maxRecDepth 100000 in
theorem few_th (t : Th) (l : List Sc) (w : World) (hS : ScAt w t.sc l) (hn9 : t.sc.n ≤ 9223372036854775807) :
    Calls Tryz.prog 13 #[.agg (th t)] w fun e w' => ∃ (u : Th) (so : Option Addr) (n soc : Nat) (L : List Sc), e = .returned (.agg (th u)) ∧ Hid (u.sc = ⟨so, n, soc⟩ ∧ u.fr = t.fr ∧ u.sk = t.sk ∧ u.tr = t.tr ∧ Bd u.cS ∧ Bd u.cI ∧ n = L.length ∧ n ≤ 6 ∧ ∀ s ∈ L, LabOk s) ∧ Hid (w'.ownsRow w.heap.size 56 14 (.slice so n soc) n ((L.map scL).flatten)) ∧ Below w.heap.size w w' := by
  refine (few_any t l w hS hn9).mono ?_
  rintro e w' ⟨so, soc, rfl, hown, hb⟩
  refine ⟨_, so, min l.length 6, soc, (l.take 6).map fewSc, rfl, Lib.hid ⟨rfl, rfl, rfl, rfl, tk4_bd _, tk4_bd _, ?_, ?_, lab_few _⟩, Lib.hid hown, hb⟩
  · rw [List.length_map, List.length_take, Nat.min_comm]
  · omega
/-- a thread whose scopes are a row of the call's own -/
theorem At.own {w : World} {t u : Th} {so : Option Addr} {B n soc : Nat} {L : List Sc} (h : Lists w t) (hu : u.sc = ⟨so, n, soc⟩ ∧ u.fr = t.fr ∧ u.sk = t.sk ∧ u.tr = t.tr ∧ Bd u.cS ∧ Bd u.cI ∧ n = L.length ∧ n ≤ 6 ∧ ∀ s ∈ L, LabOk s) (hr : w.ownsRow B 56 14 (.slice so n soc) n (((rise L).map scL).flatten)) : At w u (rise L) := by
  obtain ⟨e1, e2, e3, e4, c1, c2, hn, h6, hl⟩ := hu
  have hlen : n = (rise L).length := by rw [rise_length]; exact hn
  refine At.of h e2 e3 e4 ?_ ?_ (by omega) (lab_rise hl) c1 c2
  · rw [e1]
    exact SlotsAt.of_owns (wide_sc _) hr (by rw [List.length_map]; exact hlen) rfl
  · rw [e1]
    rcases hr.2 with ⟨h0, _⟩ | ⟨g, cap, cur, hv, _, _, _, h3, _, _⟩
    · obtain ⟨-, -, rfl⟩ := Value.slice.inj h0
      exact Nat.zero_le _
    · obtain ⟨-, -, rfl⟩ := Value.slice.inj hv
      exact h3
theorem row_addr {w : World} {B n soc : Nat} {so : Option Addr} {M : List Sc} (h : w.ownsRow B 56 14 (.slice so n soc) n ((M.map scL).flatten)) (hn : 0 < n) : ∃ g, so = some ⟨g, 0, none⟩ ∧ B ≤ g ∧ g < w.heap.size := by
  rcases h.2 with ⟨_, h0⟩ | ⟨g, cap, cur, hv, hB, hg, _⟩
  · omega
  · exact ⟨g, (Value.slice.inj hv).1, hB, (Array.getElem?_eq_some_iff.1 hg).1⟩
theorem row_cellk {w : World} {B n soc g k : Nat} {M : List Sc} {s : Sc} (i : Nat) (v : Value) (h : w.ownsRow B 56 14 (.slice (some ⟨g, 0, none⟩) n soc) n (((M.set k s).map scL).flatten)) (hk : k < M.length) (hi : i < 14) (hv : (scL s)[i]? = some v) : w.cell? ⟨g, k * 14 + i, none⟩ = some v ∧ w.frozen? ⟨g, k * 14 + i, none⟩ = false :=
  row_cell h hi (by rw [List.length_set]; exact hk) (by rw [List.getElem_set_self]; exact hv)
theorem row_cellp {w : World} {B n soc g k p : Nat} {M : List Sc} {s q : Sc} (i : Nat) (v : Value) (h : w.ownsRow B 56 14 (.slice (some ⟨g, 0, none⟩) n soc) n (((M.set k s).map scL).flatten)) (hp : p ≠ k) (hq : M[p]? = some q) (hi : i < 14) (hv : (scL q)[i]? = some v) : w.cell? ⟨g, p * 14 + i, none⟩ = some v := by
  obtain ⟨hpl, hpe⟩ := List.getElem?_eq_some_iff.1 hq
  exact (row_cell h hi (by rw [List.length_set]; exact hpl) (by rw [List.getElem_set_ne (Ne.symm hp), hpe]; exact hv)).1
theorem row_setk {w : World} {B n soc g k : Nat} {M : List Sc} {s s' : Sc} (i : Nat) (v : Value) (h : w.ownsRow B 56 14 (.slice (some ⟨g, 0, none⟩) n soc) n (((M.set k s).map scL).flatten)) (hk : k < M.length) (hn : M.length = n) (hi : i < 14) (hs : scL s' = (scL s).set i v) :
    (w.setCells g (k * 14 + i) [v]).ownsRow B 56 14 (.slice (some ⟨g, 0, none⟩) n soc) n (((M.set k s').map scL).flatten) := by
  have := row_set h hi (by rw [List.length_set]; exact hk) (by rw [List.length_set]; exact hn.symm) s' (by rw [List.getElem_set_self]; exact hs)
  rw [List.set_set] at this
  exact this
theorem row_same {w : World} {B n soc g k : Nat} {M : List Sc} {s : Sc} (h : w.ownsRow B 56 14 (.slice (some ⟨g, 0, none⟩) n soc) n ((M.map scL).flatten)) (hs : M[k]? = some s) : w.ownsRow B 56 14 (.slice (some ⟨g, 0, none⟩) n soc) n (((M.set k s).map scL).flatten) := by
  obtain ⟨hk, he⟩ := List.getElem?_eq_some_iff.1 hs
  rw [← he, List.set_getElem_self]
  exact h
theorem hid_at {w w' : World} {t : Th} {l : List Sc} (h : Hid (At w t l)) (hb : Below w.heap.size w w') : Hid (At w' t l) := Lib.hid (h.out.below hb)
/-- what Hide tells of a thread at a label, at one below it, and of what is left at the one below -/
theorem hides_facts (u : Th) (R : List Sc) (hr : Rising R) {jS jI nS nI : ByteArray} (b1 : Bd jS) (b2 : Bd jI) (b3 : Bd nS) (b4 : Bd nI) (hf : flowsB nS nI jS jI = true) :
    ∃ (h : Th) (Lh : List Sc) (ok : Bool) (o : Th) (Lo : List Sc) (seen : Bool),
      (∀ W, At W u R → Calls Tryz.prog 17 #[.agg (th u), .agg #[.string jS, .string jI]] W fun e w' => e = .returned (.tuple #[.agg (th h), .bool ok]) ∧ Below W.heap.size W w') ∧
      (∀ W, At W u R → At W h Lh) ∧
      (∀ W, At W u R → Calls Tryz.prog 17 #[.agg (th u), .agg #[.string nS, .string nI]] W fun e w' => e = .returned (.tuple #[.agg (th o), .bool seen]) ∧ Below W.heap.size W w') ∧
      (∀ W, At W u R → At W o Lo) ∧
      (ok = false → seen = false ∧ h = th0) ∧
      (ok = true → ∀ W, At W h Lh → Calls Tryz.prog 17 #[.agg (th h), .agg #[.string nS, .string nI]] W fun e w' => e = .returned (.tuple #[.agg (th o), .bool seen]) ∧ Below W.heap.size W w') ∧
      (∀ W, At W u R → Calls Tryz.prog 17 #[.agg (th u), .agg #[.string ⟨#[0]⟩, .string ⟨#[]⟩]] W fun e w' => e = .returned (.tuple #[.agg (th u), .bool true]) ∧ Below W.heap.size W w') := by
  refine ⟨(hideV u R jS jI).1, hideL u R jS jI, (hideV u R jS jI).2, (hideV u R nS nI).1, hideL u R nS nI, (hideV u R nS nI).2, fun W h => hide_any u R jS jI b1 b2 W h, fun W h => h.hide jS jI, fun W h => hide_any u R nS nI b3 b4 W h, fun W h => h.hide nS nI, fun e => hide_no u R hf e, fun e W h => ?_, fun W h => ?_⟩
  · have := hide_any (hideV u R jS jI).1 (hideL u R jS jI) nS nI b3 b4 W h
    rw [hide_again u R hr hf e] at this
    exact this
  · have := hide_any u R ⟨#[0]⟩ ⟨#[]⟩ (by decide) (by decide) W h
    rw [hide_high] at this
    exact this
end Go.Proofs.YtnmepcogijgbjaaGreatDoor
