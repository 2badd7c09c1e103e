/- What Add and Set turn of what is hidden, in plain words. -/
import Derived.Test.YtlkgcidhhngfeaaGreatDoorFillS
namespace Go.Proofs.YtlkgcidhhngfeaaGreatDoor
open Go.RowKit Go.Maps
theorem hide_ins {S : St} (h : SortedS S) (key : ByteArray) (x : OB) (lS lI : ByteArray) : hideS (insS S key x) lS lI = if flowsB x.lS x.lI lS lI = true then insS (hideS S lS lI) key x else hideS S lS lI := by
  have hp := part_sorted key h
  split
  · rename_i hf
    unfold hideS insS
    rw [List.filter_append, List.filter_cons_of_pos (by exact hf), filter_comm (fun e : ByteArray × OB => decide (ordB e.1 key < 0)), filter_comm (fun e : ByteArray × OB => !decide (ordB e.1 key < 0))]
  · rename_i hf
    unfold insS
    have e : hideS S lS lI = hideS ((S.filter fun e => decide (ordB e.1 key < 0)) ++ (S.filter fun e => !decide (ordB e.1 key < 0))) lS lI := by rw [hp]
    rw [e]
    unfold hideS
    rw [List.filter_append, List.filter_append, List.filter_cons_of_neg (by exact hf)]
theorem getS_hide {S : St} (h : SortedS S) (key lS lI : ByteArray) : getS (hideS S lS lI) key = match getS S key with | some z => if flowsB z.lS z.lI lS lI = true then some z else none | none => none := by
  have hs := hideS_sorted h lS lI
  cases hg : getS S key with
  | none =>
    cases hf : getS (hideS S lS lI) key with
    | none => rfl
    | some z =>
      have := (List.mem_filter.1 ((getS_mem hs).2 hf)).1
      rw [(getS_mem h).1 this] at hg
      cases hg
  | some z =>
    have hz := (getS_mem h).2 hg
    simp only
    split
    · rename_i hf
      exact (getS_mem hs).1 (List.mem_filter.2 ⟨hz, hf⟩)
    · rename_i hf
      cases hq : getS (hideS S lS lI) key with
      | none => rfl
      | some y =>
        have h1 := List.mem_filter.1 ((getS_mem hs).2 hq)
        have := sorted_fun h hz h1.1
        subst this
        exact absurd h1.2 hf
theorem setS_eq {S : St} (key : ByteArray) (x : OB) : setS S key x = S.map fun e => if e.1 = key then (key, x) else e := rfl
theorem hide_set {S : St} (h : SortedS S) (key : ByteArray) (x z : OB) (lS lI : ByteArray) (hg : getS S key = some z) (h1 : z.lS = x.lS) (h2 : z.lI = x.lI) : hideS (setS S key x) lS lI = if flowsB x.lS x.lI lS lI = true then setS (hideS S lS lI) key x else hideS S lS lI := by
  have hz := (getS_mem h).2 hg
  have hcl : ∀ e ∈ S, (flowsB (if e.1 = key then (key, x) else e).2.lS (if e.1 = key then (key, x) else e).2.lI lS lI) = flowsB e.2.lS e.2.lI lS lI := by
    intro e he
    split
    · rename_i hk
      obtain ⟨s, u⟩ := e
      obtain rfl : s = key := hk
      rw [sorted_fun h he hz]
      show flowsB x.lS x.lI lS lI = flowsB z.lS z.lI lS lI
      rw [h1, h2]
    · rfl
  have hf : hideS (setS S key x) lS lI = setS (hideS S lS lI) key x := by
    unfold hideS
    rw [setS_eq, List.filter_map, setS_eq]
    congr 1
    exact List.filter_congr fun e he => hcl e he
  split
  · exact hf
  · rename_i hn
    rw [hf, setS_eq]
    refine (List.map_congr_left fun e he => ?_).trans (List.map_id _)
    obtain ⟨he1, he2⟩ := List.mem_filter.1 he
    have : e.1 ≠ key := fun hk => by
      obtain ⟨s, u⟩ := e
      obtain rfl : s = key := hk
      have := sorted_fun h he1 hz
      subst this
      rw [h1, h2] at he2
      exact hn he2
    rw [if_neg this]
    rfl
/-- what the hidden store is to do -/
def apH (S H : St) (key : ByteArray) (x : OB) (lS lI : ByteArray) : St := if addE S key x = 0 ∧ flowsB x.lS x.lI lS lI = true then addT H key x else H
theorem ap_add {S : St} (h : SortedS S) (key : ByteArray) (x : OB) (lS lI : ByteArray) : hideS (addT S key x) lS lI = apH S (hideS S lS lI) key x lS lI := by
  unfold apH addT
  by_cases he : addE S key x = 0
  · rw [if_pos he, hide_ins h]
    by_cases hf : flowsB x.lS x.lI lS lI = true
    · rw [if_pos hf, if_pos ⟨he, hf⟩]
      obtain ⟨e1, e2, e3, e4, e5⟩ := addE_zero.1 he
      have : addE (hideS S lS lI) key x = 0 := addE_zero.2 ⟨e1, e2, e3, e4, by rw [getS_hide h, e5]⟩
      rw [if_pos this]
    · rw [if_neg hf, if_neg fun e => hf e.2]
  · rw [if_neg he, if_neg fun e => he e.1]
theorem ap_off {S : St} (h : SortedS S) (key : ByteArray) (x : OB) (lS lI : ByteArray) (hf : flowsB x.lS x.lI lS lI = false) : hideS (addT S key x) lS lI = hideS S lS lI := by
  rw [ap_add h]
  unfold apH
  rw [if_neg fun e => by rw [hf] at e; cases e.2]
def apG (S H : St) (key : ByteArray) (y : OB) (lS lI : ByteArray) : St := if setE S key y = 0 ∧ flowsB y.lS y.lI lS lI = true then setT H key y else H
theorem ap_set {S : St} (h : SortedS S) (key : ByteArray) (y : OB) (lS lI : ByteArray) : hideS (setT S key y) lS lI = apG S (hideS S lS lI) key y lS lI := by
  unfold apG setT
  by_cases he : setE S key y = 0
  · rw [if_pos he]
    unfold setE at he
    cases hg : getS S key with
    | none => rw [hg] at he; cases he
    | some z =>
      rw [hg] at he
      simp only at he
      split at he
      · rename_i hz
        rw [hide_set h key y z lS lI hg hz.2.1 hz.2.2]
        by_cases hf : flowsB y.lS y.lI lS lI = true
        · rw [if_pos hf, if_pos ⟨by unfold setE; rw [hg]; simp only; rw [if_pos hz], hf⟩]
          have : setE (hideS S lS lI) key y = 0 := by
            unfold setE
            rw [getS_hide h, hg]
            simp only
            rw [if_pos (by rw [hz.2.1, hz.2.2]; exact hf)]
            simp only
            rw [if_pos hz]
          rw [if_pos this]
        · rw [if_neg hf, if_neg fun e => hf e.2]
      · cases he
  · rw [if_neg he, if_neg fun e => he e.1]
theorem addT_sorted {S : St} (h : SortedS S) (key : ByteArray) (x : OB) : SortedS (addT S key x) := by
  unfold addT
  split
  · rename_i he
    exact insS_sorted h (addE_zero.1 he).2.2.2.2
  · exact h
def KdOk (S : St) : Prop := ∀ e ∈ S, 3 ≤ e.2.kd
theorem addT_kd {S : St} (h : KdOk S) (key : ByteArray) (x : OB) : KdOk (addT S key x) := by
  unfold addT
  split
  · rename_i he
    intro e hm
    rcases insS_mem.1 hm with rfl | hm
    · have := (addE_zero.1 he).2.1
      show 3 ≤ x.kd
      omega
    · exact h e hm
  · exact h
theorem fillL_inv (P : St → Prop) (h0 : P []) (hs : ∀ S k x, P S → P (addT S k x)) (l : List Ac) : P (fillL l) := by
  unfold fillL
  suffices ∀ S, P S → P (l.foldl (fun S a => addT S (nm a.i) (fewB a.x)) S) from this [] h0
  induction l with
  | nil => exact fun S h => h
  | cons a l ih => exact fun S h => ih _ (hs _ _ _ h)
theorem fillS_sorted (l : List Ac) : SortedS (fillS l) := fillL_inv SortedS List.Pairwise.nil (fun _ k x h => addT_sorted h k x) _
theorem fillS_kd (l : List Ac) : KdOk (fillS l) := fillL_inv KdOk (fun e he => by cases he) (fun _ k x h => addT_kd h k x) _
theorem fillS_length (l : List Ac) : (fillS l).length ≤ 40 := by
  have := (fillL_length (l.take 40) [] List.Pairwise.nil).2
  rw [List.length_take] at this
  exact Nat.le_trans this (by simp; omega)
theorem ap_kd {l : List Ac} {key : ByteArray} {z : OB} (h : getS (fillS l) key = some z) : 3 ≤ z.kd := fillS_kd l _ ((getS_mem (fillS_sorted l)).2 h)
theorem addE_there {S : St} {key : ByteArray} {x : OB} (h : (getS S key).isSome = true) : addE S key x ≠ 0 := fun e => by
  rw [(addE_zero.1 e).2.2.2.2] at h
  cases h
end Go.Proofs.YtlkgcidhhngfeaaGreatDoor
