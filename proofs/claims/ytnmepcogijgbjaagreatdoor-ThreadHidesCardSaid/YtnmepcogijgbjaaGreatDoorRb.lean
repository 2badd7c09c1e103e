/- A row of the call's own as a block; a list of scopes in it. -/
import Derived.Test.YtnmepcogijgbjaaGreatDoorThH
namespace Go.Proofs.YtnmepcogijgbjaaGreatDoor
open Go.RowKit
theorem own_box {w : World} {B k : Nat} {e : TypeId} {so : Option Addr} {n soc : Nat} {xs : List Value} (h : w.ownsRow B e k (.slice so (n + 1) soc) (n + 1) xs) : ∃ g cur, so = some ⟨g, 0, none⟩ ∧ B ≤ g ∧ w.heap[g]? = some (.cells cur e) ∧ n + 1 ≤ soc ∧ soc ≤ maxLen ∧ cur.toList.take ((n + 1) * k) = xs := by
  rcases h.2 with ⟨_, h0⟩ | ⟨g, cap, cur, hv, hB, hg, h1, h3, h4, h5⟩
  · cases h0
  · obtain ⟨e1, e2, e3⟩ := Value.slice.inj hv
    subst e1
    subst e3
    exact ⟨g, cur, rfl, hB, hg, h1, h3, h5⟩
theorem scat_box {w : World} {g n cap : Nat} {cur : Array Value} {l : List Sc} {e : TypeId} (h : w.heap[g]? = some (.cells cur e)) (hn : n = l.length) (hc : n ≤ cap) (ht : cur.toList.take (n * 14) = (l.map scL).flatten) : ScAt w ⟨some ⟨g, 0, none⟩, n, cap⟩ l := by
  refine ⟨wide_sc l, .inr ⟨g, 0, cap, by simp [hn], by simpa [← hn] using hc, (Array.getElem?_eq_some_iff.1 h).1, fun j u hj => ?_⟩⟩
  rw [← ht, List.getElem?_take] at hj
  split at hj
  · simp only [World.cell?, h, Nat.zero_add]
    simpa using hj
  · cases hj
theorem scat_nil (w : World) (c : Nat) (a : Option Addr) : ScAt w ⟨a, 0, c⟩ [] := ⟨wide_sc [], .inl ⟨⟨a, c, rfl⟩, rfl⟩⟩
theorem rows_box {w : World} {g m : Nat} {cur : Array Value} {xs : List Value} {e : TypeId} (h : w.heap[g]? = some (.cells cur e)) (ht : cur.toList.take m = xs) : RowsIn w (some ⟨g, 0, none⟩) xs := by
  intro b hb
  obtain rfl : (⟨g, 0, none⟩ : Addr) = b := by simpa using hb
  refine ⟨(Array.getElem?_eq_some_iff.1 h).1, fun j u hj => ?_⟩
  have ha : (⟨g, 0, none⟩ : Addr).add j = ⟨g, j, none⟩ := by unfold Addr.add; split <;> simp_all
  rw [ha]
  rw [← ht, List.getElem?_take] at hj
  split at hj
  · simp only [World.cell?, h]
    simpa using hj
  · cases hj
theorem rows_nil (w : World) (xs : List Value) : RowsIn w none xs := fun b hb => by cases hb
end Go.Proofs.YtnmepcogijgbjaaGreatDoor
