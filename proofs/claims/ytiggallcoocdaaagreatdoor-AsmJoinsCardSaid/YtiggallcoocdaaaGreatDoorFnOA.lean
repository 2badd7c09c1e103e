/- Picked for FnO: ImList, ImFn, ImFl, ImGet, ImEnv, ImPut. -/
import Derived.Test.YtiggallcoocdaaaGreatDoorImA
import Derived.Test.YtiggallcoocdaaaGreatDoorZ1
import Derived.ArgAppend
import Derived.Deep.AppendLies
import Derived.Deep.DeepCutAuto
import Derived.Deep.RegionHeld3
import Derived.Deep.RegionLawGrows
import Derived.Deep.RegionWith
import Derived.Laws.EntriesVeiled
import Derived.Lib.SliceRun
import Derived.Maps.AppendAt
import Derived.Laws.OwnMore
namespace Go.Proofs.YtiggallcoocdaaaGreatDoor
open Go.RowKit
theorem row_low {w : World} {B k : Nat} {e : TypeId} {v : Value} {n : Nat} {xs : List Value} (h : w.ownsRow B e k v n xs) : ∀ j, v.ownBlock = some j → B ≤ j := by
  intro j hj
  rcases h.2 with ⟨rfl, _⟩ | ⟨g, cap, cur, rfl, hB, _⟩
  · cases hj
  · simp [Value.ownBlock] at hj; omega
theorem owns_slice {w : World} {B k : Nat} {e : TypeId} {v : Value} {n : Nat} {xs : List Value} (h : w.ownsRow B e k v n xs) : ∃ ao n' cap, v = .slice ao n' cap := by
  rcases h.2 with ⟨rfl, _⟩ | ⟨g, cap, cur, rfl, _⟩
  · exact ⟨_, _, _, rfl⟩
  · exact ⟨_, _, _, rfl⟩
theorem owns_len {w : World} {B k : Nat} {e : TypeId} {ao : Option Addr} {n' cap n : Nat} {xs : List Value} (h : w.ownsRow B e k (.slice ao n' cap) n xs) : n' = n := by
  rcases h.2 with ⟨hv, h0⟩ | ⟨g, cap', cur, hv, _⟩
  · cases hv; omega
  · cases hv; rfl
theorem infLV : (Tryz.prog.info? 50).map (fun i => (i.zero, i.size, i.bytes)) = some (some (.agg #[.int .i64 0, .int .i64 0, .string ⟨#[]⟩, .string ⟨#[]⟩, .string ⟨#[]⟩]), 5, 64) := by kernel_rfl
theorem infLO : (Tryz.prog.info? 52).map (fun i => (i.zero, i.size, i.bytes)) = some (some (.agg #[.int .i64 0, .int .i64 0]), 2, 16) := by kernel_rfl
theorem owns_low {w : World} {B B' k : Nat} {e : TypeId} {v : Value} {n : Nat} {xs : List Value} (h : w.ownsRow B' e k v n xs) (hb : B ≤ B') : w.ownsRow B e k v n xs :=
  ⟨h.1, h.2.imp id fun ⟨g, cap, cur, hv, hB, r⟩ => ⟨g, cap, cur, hv, Nat.le_trans hb hB, r⟩⟩
theorem owns_set {w : World} {B k : Nat} {e : TypeId} {v : Value} {n : Nat} {xs : List Value} (h : w.ownsRow B e k v n xs) {b : Nat} (hb : b < B) (o : Nat) (vs : List Value) : (w.setCells b o vs).ownsRow B e k v n xs :=
  ⟨h.1, h.2.imp id fun ⟨g, cap, cur, hv, hB, hg, r⟩ => ⟨g, cap, cur, hv, hB, (setCells_other vs o w g (by omega)).trans hg, r⟩⟩
theorem infLF : (Tryz.prog.info? 37).map (fun i => (i.zero, i.size, i.bytes)) = some (some (.agg #[.int .i64 0, .int .i64 0, .slice none 0 0]), 3, 40) := by kernel_rfl
/-- functions in memory of the call's own -/
def FnOwn (w : World) (B : Nat) (v : Value) (fs : List Fn) : Prop := ∃ rows : List (List Value), rows.length = fs.length ∧ w.ownsRow B 37 3 v fs.length rows.flatten ∧
  ∀ (i : Nat) (f : Fn), fs[i]? = some f → ∃ ao cap, rows[i]? = some (frow f (.slice ao f.c.length cap)) ∧ w.ownsRow B 52 2 (.slice ao f.c.length cap) f.c.length (f.c.map orow).flatten
theorem FnOwn.nil (w : World) (B : Nat) : FnOwn w B (.slice none 0 0) [] := ⟨[], rfl, ⟨rfl, .inl ⟨rfl, rfl⟩⟩, fun i f h => by simp at h⟩
theorem wide_os (l : List (Int × Int)) : Wide 2 (l.map orow) := by
  intro r hr
  obtain ⟨o, _, rfl⟩ := List.mem_map.1 hr
  exact ⟨rfl, fun x hx => by simp only [orow, List.mem_cons, List.not_mem_nil, or_false] at hx; rcases hx with rfl | rfl <;> rfl⟩
theorem wide_vs (l : List Vl) : Wide 5 (l.map vrow) := by
  intro r hr
  obtain ⟨o, _, rfl⟩ := List.mem_map.1 hr
  exact ⟨rfl, fun x hx => by simp only [vrow, List.mem_cons, List.not_mem_nil, or_false] at hx; rcases hx with rfl | rfl | rfl | rfl | rfl <;> rfl⟩
theorem OsAt.of_owns {w : World} {B : Nat} {v : Value} {l : List (Int × Int)} (h : w.ownsRow B 52 2 v l.length (l.map orow).flatten) : OsAt w v l := SlotsAt.of_owns (wide_os l) h (by simp) rfl
theorem VsAt.of_owns {w : World} {B : Nat} {v : Value} {l : List Vl} (h : w.ownsRow B 50 5 v l.length (l.map vrow).flatten) : VsAt w v l := SlotsAt.of_owns (wide_vs l) h (by simp) rfl
theorem FnOwn.at {w : World} {B : Nat} {v : Value} {fs : List Fn} (h : FnOwn w B v fs) : FsAt w v fs := by
  obtain ⟨rows, h1, h2, h3⟩ := h
  have hw : Wide 3 rows := by
    intro r hr
    obtain ⟨i, hi⟩ := List.getElem?_of_mem hr
    have hlt : i < fs.length := by rw [← h1]; exact (List.getElem?_eq_some_iff.1 hi).1
    obtain ⟨ao, cap, e, _⟩ := h3 i fs[i] (List.getElem?_eq_getElem hlt)
    rw [hi] at e
    cases e
    exact ⟨rfl, fun x hx => by simp only [frow, List.mem_cons, List.not_mem_nil, or_false] at hx; rcases hx with rfl | rfl | rfl <;> rfl⟩
  refine ⟨rows, h1, SlotsAt.of_owns hw h2 h1.symm rfl, fun i f hi => ?_⟩
  obtain ⟨ao, cap, e, ho⟩ := h3 i f hi
  exact ⟨_, e, OsAt.of_owns ho⟩
theorem owns_grown {w w' : World} {B k n n' k' : Nat} {e e' : TypeId} {v v' : Value} {xs ys : List Value} (h : w.ownsRow B e k v n xs) (hv : w.ownsRow B e' k' v' n' ys) (hne : e ≠ e') (hg : w.grownBy w' v'.ownBlock) : w'.ownsRow B e k v n xs := by
  refine h.kept hg ?_
  rcases h.2 with ⟨rfl, _⟩ | ⟨g, cap, cur, rfl, _, hgb, _⟩
  · exact .inl rfl
  · refine .inr fun e1 => ?_
    rcases hv.2 with ⟨rfl, _⟩ | ⟨g', cap', cur', rfl, _, hgb', _⟩
    · cases e1
    · have e2 : g' = g := by simpa [Value.ownBlock, eq_comm] using e1
      subst e2
      rw [hgb] at hgb'
      cases hgb'
      exact hne rfl
theorem FnOwn.snoc {w w' : World} {B : Nat} {v v' : Value} {fs : List Fn} {rows : List (List Value)} (h1 : rows.length = fs.length) (h2 : w.ownsRow B 37 3 v fs.length rows.flatten)
    (h3 : ∀ (i : Nat) (f : Fn), fs[i]? = some f → ∃ ao cap, rows[i]? = some (frow f (.slice ao f.c.length cap)) ∧ w.ownsRow B 52 2 (.slice ao f.c.length cap) f.c.length (f.c.map orow).flatten)
    (f : Fn) (ao : Option Addr) (cap : Nat) (ho : w.ownsRow B 52 2 (.slice ao f.c.length cap) f.c.length (f.c.map orow).flatten) (hg : w.grownBy w' v.ownBlock)
    (hn : w'.ownsRow B 37 3 v' (fs.length + 1) (rows.flatten ++ frow f (.slice ao f.c.length cap))) : FnOwn w' B v' (fs ++ [f]) := by
  refine ⟨rows ++ [frow f (.slice ao f.c.length cap)], by simp [h1], ?_, fun i g hi => ?_⟩
  · rw [List.flatten_append, List.flatten_singleton, List.length_append]
    exact hn
  · by_cases hlt : i < fs.length
    · rw [List.getElem?_append_left hlt] at hi
      obtain ⟨ao', cap', e, ho'⟩ := h3 i g hi
      exact ⟨ao', cap', by rw [List.getElem?_append_left (by omega)]; exact e, owns_grown ho' h2 (by decide) hg⟩
    · rw [List.getElem?_append_right (by omega)] at hi
      have h0 : i - fs.length = 0 := by
        have := (List.getElem?_eq_some_iff.1 hi).1
        simp at this
        omega
      rw [h0] at hi
      cases hi
      exact ⟨ao, cap, by rw [List.getElem?_append_right (by omega), h1, h0]; rfl, owns_grown ho h2 (by decide) hg⟩
theorem FnOwn.slice {w : World} {B : Nat} {v : Value} {fs : List Fn} (h : FnOwn w B v fs) : ∃ ao cap, v = .slice ao fs.length cap := by
  obtain ⟨rows, h1, h2, _⟩ := h
  rcases h2.2 with ⟨rfl, h0⟩ | ⟨g, cap, cur, rfl, _⟩
  · exact ⟨none, 0, by rw [h0]⟩
  · exact ⟨_, _, rfl⟩
theorem FnOwn.alloc {w : World} {B : Nat} {v : Value} {fs : List Fn} (h : FnOwn w B v fs) (o : Obj) : FnOwn (w.alloc o) B v fs := by
  obtain ⟨rows, h1, h2, h3⟩ := h
  refine ⟨rows, h1, h2.alloc _, fun i f hi => ?_⟩
  obtain ⟨ao, cap, e, ho⟩ := h3 i f hi
  exact ⟨ao, cap, e, ho.alloc _⟩
theorem FnOwn.set {w : World} {B : Nat} {v : Value} {fs : List Fn} (h : FnOwn w B v fs) {b : Nat} (hb : b < B) (o : Nat) (vs : List Value) : FnOwn (w.setCells b o vs) B v fs := by
  obtain ⟨rows, h1, h2, h3⟩ := h
  refine ⟨rows, h1, owns_set h2 hb o vs, fun i f hi => ?_⟩
  obtain ⟨ao, cap, e, ho⟩ := h3 i f hi
  exact ⟨ao, cap, e, owns_set ho hb o vs⟩
theorem FnOwn.keep {w w' : World} {B : Nat} {v : Value} {fs : List Fn} (h : FnOwn w B v fs) (hb : Below w.heap.size w w') : FnOwn w' B v fs := by
  obtain ⟨rows, h1, h2, h3⟩ := h
  refine ⟨rows, h1, ownsRow_keep h2 hb, fun i f hi => ?_⟩
  obtain ⟨ao, cap, e, ho⟩ := h3 i f hi
  exact ⟨ao, cap, e, ownsRow_keep ho hb⟩
theorem FnOwn.lower {w : World} {B B' : Nat} {v : Value} {fs : List Fn} (h : FnOwn w B' v fs) (hb : B ≤ B') : FnOwn w B v fs := by
  obtain ⟨rows, h1, h2, h3⟩ := h
  refine ⟨rows, h1, owns_low h2 hb, fun i f hi => ?_⟩
  obtain ⟨ao, cap, e, ho⟩ := h3 i f hi
  exact ⟨ao, cap, e, owns_low ho hb⟩
theorem small_right {v : Vl} (h : v.right = true) : v.small := by
  obtain ⟨k, n, m, ⟨S, I⟩⟩ := v
  have hl : ∀ l : Lb, l.right = true → l.S.length ≤ 64 ∧ l.I.length ≤ 64 := by
    intro l hl
    unfold Lb.right at hl
    rw [Bool.and_eq_true] at hl
    exact ⟨rightFm_length hl.1, rightFm_length hl.2⟩
  unfold Vl.small
  unfold Vl.right at h
  simp only at h ⊢
  by_cases k1 : k = 1
  · rw [if_pos k1] at h
    simp only [Bool.and_eq_true, List.isEmpty_iff] at h
    obtain ⟨rfl, rfl, rfl⟩ := h
    simp
  · rw [if_neg k1] at h
    by_cases k2 : k = 2
    · rw [if_pos k2] at h
      simp only [Bool.and_eq_true, List.isEmpty_iff] at h
      obtain ⟨⟨_, rfl⟩, h3⟩ := h
      have := hl _ h3
      simp only at this
      simp
      omega
    · rw [if_neg k2] at h
      by_cases k3 : 3 ≤ k ∧ k ≤ 7
      · rw [if_pos k3] at h
        simp only [Bool.and_eq_true] at h
        obtain ⟨⟨_, h2⟩, h3⟩ := h
        have h8 : S.length ≤ 64 ∧ I.length ≤ 64 := hl _ h3
        obtain ⟨x, hx⟩ := Option.isSome_iff_exists.1 h2
        have h9 := readL_length hx
        omega
      · rw [if_neg k3] at h
        cases h
theorem fm_take_succ {α : Type} (f : α → List UInt8) (l : List α) {k : Nat} (hk : k < l.length) : (l.take (k + 1)).flatMap f = (l.take k).flatMap f ++ f l[k] := by
  rw [List.take_add_one, List.getElem?_eq_getElem hk, List.flatMap_append]
  simp
theorem fm_take_le {α : Type} (f : α → List UInt8) (B : Nat) (l : List α) (k : Nat) (h : ∀ x ∈ l, (f x).length ≤ B) : ((l.take k).flatMap f).length ≤ k * B := by
  have := flatMap_len_le f B (l.take k) (fun x hx => h x (List.mem_of_mem_take hx))
  have h2 : (l.take k).length ≤ k := by rw [List.length_take]; omega
  exact Nat.le_trans this (Nat.mul_le_mul_right _ h2)
end Go.Proofs.YtiggallcoocdaaaGreatDoor
