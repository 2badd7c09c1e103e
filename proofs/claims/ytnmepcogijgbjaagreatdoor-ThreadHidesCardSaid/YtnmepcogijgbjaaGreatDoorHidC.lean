/- A thread whose lists lie in memory: Hide and Same of it. -/
import Derived.Test.YtnmepcogijgbjaaGreatDoorZG
import Derived.Test.YtnmepcogijgbjaaGreatDoorZI
import Derived.Test.YtnmepcogijgbjaaGreatDoorEqSc
import Derived.Test.YtnmepcogijgbjaaGreatDoorZH
namespace Go.Proofs.YtnmepcogijgbjaaGreatDoor
open Go.RowKit
/-- its scopes are l; its other lists lie in memory -/
structure At (w : World) (t : Th) (l : List Sc) : Prop where
  fr : ∃ lf : List Fr, SlotsAt w 5 (.slice t.fr.a t.fr.n t.fr.c) (lf.map Fr.row) ∧ ∀ x ∈ lf, FrOk w x
  sk : ∃ ls : List V5, SlotsAt w 5 (.slice t.sk.a t.sk.n t.sk.c) (ls.map V5.row)
  tr : ∃ lt : List Tr, SlotsAt w 3 (.slice t.tr.a t.tr.n t.tr.c) (lt.map Tr.row)
  sc : ScAt w t.sc l
  f1 : t.fr.n ≤ t.fr.c
  f2 : t.fr.c ≤ maxLen
  k1 : t.sk.n ≤ t.sk.c
  k2 : t.sk.c ≤ maxLen
  r1 : t.tr.n ≤ t.tr.c
  r2 : t.tr.c ≤ maxLen
  s2 : t.sc.c ≤ maxLen
  len : l.length ≤ 1000000
  lab : ∀ s ∈ l, Bd s.cS ∧ Bd s.cI ∧ Bd s.lS ∧ Bd s.lI
  c1 : Bd t.cS
  c2 : Bd t.cI
theorem At.below {w w' : World} {t : Th} {l : List Sc} (h : At w t l) (hb : Below w.heap.size w w') : At w' t l := by
  obtain ⟨⟨lf, hf, hk⟩, ⟨ls, hs⟩, ⟨lt, ht⟩, hc, a1, a2, a3, a4, a5, a6, a7, a8, a9, b1, b2⟩ := h
  exact ⟨⟨lf, hf.below hb, fun x hx => (hk x hx).below hb⟩, ⟨ls, hs.below hb⟩, ⟨lt, ht.below hb⟩, hc.below hb, a1, a2, a3, a4, a5, a6, a7, a8, a9, b1, b2⟩
theorem slots_len {w : World} {k n c : Nat} {a : Option Addr} {l : List (List Value)} (h : SlotsAt w k (.slice a n c) l) : n = l.length := by
  obtain ⟨_, _, e⟩ := SlotsAt.slice h
  exact (Value.slice.inj e).2.1
theorem slots_pre {w : World} {k n c m : Nat} {a : Option Addr} {l : List (List Value)} (h : SlotsAt w k (.slice a n c) l) (hm : m ≤ n) : SlotsAt w k (.slice a m m) (l.take m) := by
  have hn := slots_len h
  obtain ⟨hw, h⟩ := h
  refine ⟨fun r hr => hw r (List.mem_of_mem_take hr), ?_⟩
  rcases h with ⟨⟨ao, cap, e⟩, rfl⟩ | ⟨b, off, cap, e, hc, hlt, hg⟩
  · obtain ⟨-, rfl, -⟩ := Value.slice.inj e
    obtain rfl : m = 0 := by omega
    exact .inl ⟨⟨a, 0, rfl⟩, by simp⟩
  · obtain ⟨rfl, -, -⟩ := Value.slice.inj e
    refine .inr ⟨b, off, m, by rw [List.length_take, Nat.min_eq_left (by omega)], by rw [List.length_take]; omega, hlt, fun j u hj => hg j u ?_⟩
    rw [Wide.take hw, List.getElem?_take] at hj
    split at hj
    · exact hj
    · cases hj
theorem At.nil (w : World) : At w th0 [] :=
  ⟨⟨[], ⟨fun r hr => by simp at hr, .inl ⟨⟨none, 0, rfl⟩, rfl⟩⟩, fun x hx => by simp at hx⟩, ⟨[], fun r hr => by simp at hr, .inl ⟨⟨none, 0, rfl⟩, rfl⟩⟩, ⟨[], fun r hr => by simp at hr, .inl ⟨⟨none, 0, rfl⟩, rfl⟩⟩, scat_nil _ _ _, Nat.le_refl _, Nat.zero_le _, Nat.le_refl _, Nat.zero_le _, Nat.le_refl _, Nat.zero_le _, Nat.zero_le _, Nat.zero_le _, fun s hs => by simp at hs, by decide, by decide⟩
theorem cutN_le (a : Int) (n : Nat) : cutN a n ≤ n := by unfold cutN; omega
theorem At.hid {w : World} {t : Th} {l : List Sc} (h : At w t l) (s : Sc) (hs : s ∈ l) (R : Nat) (hR : R ≤ l.length) : At w (thHid t s R) (l.take R) := by
  obtain ⟨⟨lf, hf, hk⟩, ⟨ls, hsk⟩, ⟨lt, ht⟩, hc, a1, a2, a3, a4, a5, a6, a7, a8, a9, b1, b2⟩ := h
  have e1 := cutN_le s.fr t.fr.n
  have e2 := cutN_le s.ht t.sk.n
  have e3 := cutN_le s.tr t.tr.n
  have e4 : t.sc.n = l.length := hc.len
  refine ⟨⟨lf.take (cutN s.fr t.fr.n), ?_, fun x hx => hk x (List.mem_of_mem_take hx)⟩, ⟨ls.take (cutN s.ht t.sk.n), ?_⟩, ⟨lt.take (cutN s.tr t.tr.n), ?_⟩, ?_, Nat.le_refl _, by show cutN s.fr t.fr.n ≤ maxLen; omega, Nat.le_refl _, by show cutN s.ht t.sk.n ≤ maxLen; omega, Nat.le_refl _, by show cutN s.tr t.tr.n ≤ maxLen; omega, by show R ≤ maxLen; unfold maxLen; omega, by rw [List.length_take]; omega, fun s hs => a9 s (List.mem_of_mem_take hs), (a9 s hs).2.2.1, (a9 s hs).2.2.2⟩
  · rw [List.map_take]; exact slots_pre hf e1
  · rw [List.map_take]; exact slots_pre hsk e2
  · rw [List.map_take]; exact slots_pre ht e3
  · show SlotsAt w 14 (.slice t.sc.a R R) ((l.take R).map scL)
    rw [List.map_take]
    exact slots_pre hc (by omega)
theorem At.hide {w : World} {t : Th} {l : List Sc} (h : At w t l) (mS mI : ByteArray) : At w (hideV t l mS mI).1 (hideL t l mS mI) := by
  have hs := (known_spec l t.cS t.cI mS mI).1
  unfold hideL
  cases hk : knownV l t.cS t.cI mS mI with
  | zero => rw [hideV_none hk]; simpa using At.nil w
  | succ j =>
    rw [hk] at hs
    by_cases hj : j < l.length
    · rw [hideV_some hj hk]
      exact h.hid _ (List.getElem_mem hj) _ (by omega)
    · rw [hideV_all (by omega), List.take_of_length_le (by omega)]
      exact h
set_option maxRecDepth 100000 in
theorem hide_any (t : Th) (l : List Sc) (mS mI : ByteArray) (h1 : Bd mS) (h2 : Bd mI) (w : World) (h : At w t l) :
    Calls Tryz.prog 17 #[.agg (th t), .agg #[.string mS, .string mI]] w fun e w' => e = .returned (.tuple #[.agg (th (hideV t l mS mI).1), .bool (hideV t l mS mI).2]) ∧ Below w.heap.size w w' := by
  have hn := h.sc.len
  have hl := h.len
  have HK : ∀ W, Below w.heap.size w W → Calls Tryz.prog 40 #[.agg #[.slice t.sc.a t.sc.n t.sc.c, .string t.cS, .string t.cI], .agg #[.string mS, .string mI]] W fun e w' => e = .returned (.int .i64 (knownV l t.cS t.cI mS mI : Int)) ∧ Below W.heap.size W w' := fun W hb =>
    known_any t.sc l hl t.cS t.cI mS mI (bd_lv h.c1 fun s hs => (h.lab s hs).1) (bd_lvI h.c2 fun s hs => (h.lab s hs).2.1) h1 h2 _ rfl W (h.sc.below hb)
  have hs := (known_spec l t.cS t.cI mS mI).1
  cases hk : knownV l t.cS t.cI mS mI with
  | zero =>
    rw [hideV_none hk]
    exact hide_none t mS mI (by omega) _ hk w HK
  | succ j =>
    rw [hk] at hs
    by_cases hj : j < l.length
    · rw [hideV_some hj hk]
      rw [hk] at HK
      exact hide_some t mS mI (by omega) l j hj (j + 1) rfl h.s2 h.k1 h.k2 h.f1 h.f2 h.r1 h.r2 w h.sc HK
    · rw [hideV_all (by omega)]
      exact hide_all t mS mI (by omega) _ (by omega) w HK
theorem same_any (t : Th) (l : List Sc) (w : World) (h : At w t l) :
    Calls Tryz.prog 18 #[.agg (th t), .agg (th t)] w fun e w' => e = .returned (.bool true) ∧ Below w.heap.size w w' := by
  have hn := h.sc.len
  have hl := h.len
  obtain ⟨lf, hf, hk⟩ := h.fr
  obtain ⟨ls, hs⟩ := h.sk
  obtain ⟨lt, ht⟩ := h.tr
  have f1 := h.f1
  have f2 := h.f2
  have k1 := h.k1
  have k2 := h.k2
  have r1 := h.r1
  have r2 := h.r2
  unfold maxLen at f2 k2 r2
  exact sameT_gen t lf ls lt w hf hs ht hk (by omega) (by omega) (by omega) (fun W hb => eqSc_same t.sc t.sc.c l W (h.sc.below hb) (by omega))
end Go.Proofs.YtnmepcogijgbjaaGreatDoor
