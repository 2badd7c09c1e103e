/- What the law on order keeps, from act to act. -/
import Derived.Test.YtdpmilffadalkaaDoorMvCnt
namespace Go.Proofs.YtdpmilffadalkaaDoor
open Go.RowKit
structure OInv (x : VM) (inn out : List Int) (tk : List ByteArray) : Prop where
  kinds : ∀ w ∈ x.q, w.put = x.full
  ids : ∀ w ∈ x.q, 0 < w.id.data.size
  takers : tk = if x.full then [] else x.q.map (·.id)
  nums : inn = out ++ (if x.full then x.v.n :: x.q.map (·.v.n) else [])
theorem OInv.zero (v : V5) : OInv ⟨false, v, []⟩ [] [] [] := ⟨by simp, by simp, by simp, by simp⟩
theorem empty_toList : (⟨#[]⟩ : ByteArray).toList = [] := by rw [toList_nil]; simp
/-- one takes -/
theorem OInv.take {x : VM} {inn out : List Int} {tk : List ByteArray} (h : OInv x inn out tk) {id : ByteArray} (hid : 0 < id.data.size) :
    ((takeM x id).ok = true → OInv (takeM x id).y inn (out ++ [(takeM x id).v.n]) tk) ∧ ((takeM x id).ok = false → OInv (takeM x id).y inn out (tk ++ [id])) := by
  obtain ⟨f, v, q⟩ := x
  obtain ⟨h1, h2, h3, h4⟩ := h
  cases f with
  | false =>
    unfold takeM
    simp only at *
    refine ⟨fun h => (by cases h), fun _ => ⟨?_, ?_, ?_, ?_⟩⟩
    · intro w hw
      simp only [List.mem_append, List.mem_singleton] at hw
      rcases hw with hw | rfl
      · exact h1 w hw
      · rfl
    · intro w hw
      simp only [List.mem_append, List.mem_singleton] at hw
      rcases hw with hw | rfl
      · exact h2 w hw
      · exact hid
    · simpa using h3
    · simpa using h4
  | true =>
    have hf := find_all (p := fun w => w.put) (q := q) (fun w hw => h1 w hw)
    unfold takeM
    simp only at *
    cases q with
    | nil =>
      simp only [if_true] at hf
      split
      · refine ⟨fun _ => ⟨by simp, by simp, by simpa using h3, ?_⟩, fun h => (by cases h)⟩
        simpa using h4
      · rename_i hk; rw [hf] at hk; cases hk
    | cons a l =>
      simp only [reduceCtorEq, if_false] at hf
      split
      · rename_i hk; rw [hf] at hk; cases hk
      · rename_i k0 hk
        rw [hf] at hk
        obtain rfl : 0 = k0 := Option.some.inj hk
        refine ⟨fun _ => ⟨fun w hw => h1 w (by simp at hw ⊢; exact .inr hw), fun w hw => h2 w (by simp at hw ⊢; exact .inr hw), by simpa using h3, ?_⟩, fun h => (by cases h)⟩
        simpa using h4
/-- one puts the number n -/
theorem OInv.put {x : VM} {inn out : List Int} {tk : List ByteArray} (h : OInv x inn out tk) {id : ByteArray} (hid : 0 < id.data.size) (u : V5) :
    ((putM x id u).woken.toList = [] → OInv (putM x id u).y (inn ++ [u.n]) out tk) ∧
    ((putM x id u).woken.toList ≠ [] → ∃ rest, tk = (putM x id u).woken :: rest ∧ (putM x id u).ok = true ∧ OInv (putM x id u).y (inn ++ [u.n]) (out ++ [u.n]) rest) := by
  obtain ⟨f, v, q⟩ := x
  obtain ⟨h1, h2, h3, h4⟩ := h
  cases f with
  | true =>
    unfold putM
    simp only at *
    refine ⟨fun _ => ⟨?_, ?_, ?_, ?_⟩, fun h => absurd empty_toList h⟩
    · intro w hw
      simp only [List.mem_append, List.mem_singleton] at hw
      rcases hw with hw | rfl
      · exact h1 w hw
      · rfl
    · intro w hw
      simp only [List.mem_append, List.mem_singleton] at hw
      rcases hw with hw | rfl
      · exact h2 w hw
      · exact hid
    · simpa using h3
    · simp at h4 ⊢
      rw [h4]
      simp
  | false =>
    have hf := find_all (p := fun w => !w.put) (q := q) (fun w hw => by rw [h1 w hw]; rfl)
    unfold putM
    simp only at *
    cases q with
    | nil =>
      simp only [if_true] at hf
      rw [hf]
      refine ⟨fun _ => ⟨by simp, by simp, by simpa using h3, ?_⟩, fun h => absurd empty_toList h⟩
      simpa using h4
    | cons a l =>
      simp only [reduceCtorEq, if_false] at hf
      rw [hf]
      have ha := h2 a (by simp)
      have hne : a.id.toList ≠ [] := by rw [Ne, toList_nil]; omega
      simp only [List.getD_cons_zero, List.eraseIdx_cons_zero]
      refine ⟨fun h => absurd h hne, fun _ => ⟨l.map (·.id), by simpa using h3, trivial, fun w hw => h1 w (by simp; exact .inr hw), fun w hw => h2 w (by simp; exact .inr hw), by simp, ?_⟩⟩
      simpa using h4
theorem OInv.pre {x : VM} {inn out : List Int} {tk : List ByteArray} (h : OInv x inn out tk) : out.length ≤ inn.length ∧ ∀ i (h1 : i < out.length) (h2 : i < inn.length), out[i] = inn[i] := by
  obtain ⟨_, _, _, h4⟩ := h
  subst h4
  refine ⟨by simp, fun i h1 h2 => ?_⟩
  rw [List.getElem_append_left h1]
end Go.Proofs.YtdpmilffadalkaaDoor
