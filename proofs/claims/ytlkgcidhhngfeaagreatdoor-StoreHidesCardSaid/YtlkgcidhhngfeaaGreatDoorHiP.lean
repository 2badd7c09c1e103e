/- What hiding by two labels leaves, in plain words; the names of a filled store. -/
import Derived.Test.YtlkgcidhhngfeaaGreatDoorWStoreApart
namespace Go.Proofs.YtlkgcidhhngfeaaGreatDoor
open Go.RowKit Go.Maps
theorem flows_meet (a b lS lI mS mI : ByteArray) : flowsB a b (NOr lS mS) (NAnd lI mI) = (flowsB a b lS lI && flowsB a b mS mI) := by
  rw [Bool.eq_iff_iff, Bool.and_eq_true]
  exact ⟨fun h => ⟨flows_trans h (meet_left _ _ _ _), flows_trans h (meet_right _ _ _ _)⟩, fun h => meet_most h.1 h.2⟩
theorem hide_meet (S : St) (lS lI mS mI : ByteArray) : hideS (hideS S lS lI) mS mI = hideS S (NOr lS mS) (NAnd lI mI) := by
  unfold hideS
  rw [List.filter_filter]
  refine List.filter_congr fun e _ => ?_
  rw [flows_meet, Bool.and_comm]
theorem hide_high (S : St) : hideS S ⟨#[0]⟩ ⟨#[]⟩ = S := by
  unfold hideS
  exact List.filter_eq_self.2 fun e _ => flows_high _ _
theorem hide_self (S : St) (lS lI : ByteArray) : hideS (hideS S lS lI) lS lI = hideS S lS lI := by
  unfold hideS
  rw [List.filter_filter]
  refine List.filter_congr fun e _ => ?_
  simp
theorem nm_in (i : Int) : nm i ∈ nm8 := by
  unfold nm
  have hi : (i % 8).toNat < nm8.length := by show (i % 8).toNat < 8; omega
  have e : nm8[(i % 8).toNat]! = nm8[(i % 8).toNat]'hi := by simp [hi]
  rw [e]
  exact List.getElem_mem _
theorem fillL_names (l : List Ac) : ∀ e ∈ fillL l, e.1 ∈ nm8 := by
  unfold fillL
  suffices ∀ S : St, (∀ e ∈ S, e.1 ∈ nm8) → ∀ e ∈ l.foldl (fun S a => addT S (nm a.i) (fewB a.x)) S, e.1 ∈ nm8 from this [] (fun e he => by cases he)
  induction l with
  | nil => exact fun S h => h
  | cons a l ih =>
    intro S h
    refine ih _ fun e he => ?_
    have he : e ∈ addT S (nm a.i) (fewB a.x) := he
    unfold addT at he
    split at he
    · rcases insS_mem.1 he with rfl | he
      · exact nm_in _
      · exact h e he
    · exact h e he
theorem fillS_len8 (l : List Ac) : (fillS l).length ≤ 8 := by
  have h := nodup_sub_len ((fillS l).map (·.1)) nm8 (sorted_names (fillS_sorted l)) fun s hs => by
    obtain ⟨e, he, rfl⟩ := List.mem_map.1 hs
    exact fillL_names _ e he
  rw [List.length_map] at h
  exact h
/-- how many of the first k are left -/
def leftN (S : St) (lS lI : ByteArray) (k : Nat) : Nat := (hideS (S.take k) lS lI).length
theorem leftN_zero (S : St) (lS lI : ByteArray) : leftN S lS lI 0 = 0 := rfl
theorem leftN_all (S : St) (lS lI : ByteArray) : leftN S lS lI S.length = (hideS S lS lI).length := by
  unfold leftN
  rw [List.take_length]
theorem leftN_succ {S : St} {lS lI : ByteArray} {k : Nat} {e : ByteArray × OB} (h : S[k]? = some e) : leftN S lS lI (k + 1) = leftN S lS lI k + (if flowsB e.2.lS e.2.lI lS lI = true then 1 else 0) := by
  unfold leftN
  rw [List.take_add_one, h]
  unfold hideS
  show (List.filter _ (List.take k S ++ [e])).length = _
  rw [List.filter_append, List.length_append]
  congr 1
  by_cases hf : flowsB e.2.lS e.2.lI lS lI = true
  · rw [List.filter_cons_of_pos (by exact hf), if_pos hf]; rfl
  · rw [List.filter_cons_of_neg (by exact hf), if_neg hf]; rfl
theorem leftN_le (S : St) (lS lI : ByteArray) (k : Nat) : leftN S lS lI k ≤ k := by
  unfold leftN
  refine Nat.le_trans (hideS_length _ _ _) ?_
  rw [List.length_take]
  omega
end Go.Proofs.YtlkgcidhhngfeaaGreatDoor
