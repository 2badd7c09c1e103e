/- slices.Delete at []mvar.Wait, one element of a list of the call's own; mvar.without. -/
import Derived.Test.YtdpmilffadalkaaDoorMvClone
import Derived.Deep.RegionLaw
import Derived.Shelf.RegionOpenPlain
namespace Go.Proofs.YtdpmilffadalkaaDoor
open Go.RowKit
theorem wZeroRun : ∀ w, (zeroValue 48).run Tryd.prog w = .ok wZero w := by
  obtain ⟨i0, hi, hz0, hz1, hz2⟩ := info_parts wInfo
  intro w
  simp [zeroValue, typeInfo, hi, hz0]
theorem erase_split {α : Type} : ∀ (l : List α) (i : Nat), l.eraseIdx i = l.take i ++ l.drop (i + 1)
  | [], i => by simp
  | x :: l, 0 => by simp
  | x :: l, i + 1 => by
    rw [List.eraseIdx_cons_succ, erase_split l i]
    simp
set_option maxRecDepth 1000000 in
set_option maxHeartbeats 400000 in
theorem delete_own (B : Nat) (l : List (List Value)) (v : Value) (w : World) (hw : Wide 7 l) (h : w.ownsRow B 48 7 v l.length l.flatten) (i : Nat) (hi : i < l.length) :
    Calls Tryd.prog 26 #[v, .int .i64 i, .int .i64 ((i + 1 : Nat) : Int)] w fun e w' => ∃ v', e = .returned v' ∧ w'.ownsRow B 48 7 v' (l.length - 1) (l.eraseIdx i).flatten ∧ Below B w w' := by
  obtain ⟨i0, hi0, hz0, hz1, hz2⟩ := info_parts wInfo
  rcases h.2 with ⟨_, h0⟩ | ⟨b, cap, cur, rfl, hB, hb, hnc, hcm, hcs, htk⟩
  · omega
  have hlen := hw.len
  have hone := hw.one
  have hfin : (l.eraseIdx i).flatten = l.flatten.take (i * 7) ++ l.flatten.drop ((i + 1) * 7) := by
    rw [erase_split, List.flatten_append, hw.take, hw.drop]
  rw [hfin]
  clear hfin h hw
  generalize l.flatten = xs at *
  generalize l.length = n at *
  clear l
  have hcap : cap ≤ 9223372036854775807 := by unfold maxLen at hcm; omega
  obtain ⟨news, hnews⟩ : ∃ news, news = xs.drop ((i + 1) * 7) := ⟨_, rfl⟩
  have hnl : news.length = (n - (i + 1)) * 7 := by rw [hnews, List.length_drop, hlen]; omega
  have hcell : ∀ t, t < cur.size → w.cell? ⟨b, t, none⟩ = cur[t]? := fun t _ => by simp [World.cell?, hb]
  obtain ⟨A, hA, hsrc⟩ : ∃ A : Addr, (if cap = i + 1 then some (⟨b, 0, none⟩ : Addr) else some ⟨b, (i + 1) * 7, none⟩) = some A ∧ Hid (∀ t u, news[t]? = some u → w.drew.cell? (A.add t) = some u) := by
    by_cases hc : cap = i + 1
    · refine ⟨⟨b, 0, none⟩, by simp [hc], fun t u hu => ?_⟩
      have h0 : news.length = 0 := by rw [hnl]; omega
      rw [List.length_eq_zero_iff.1 h0] at hu
      simp at hu
    · refine ⟨⟨b, (i + 1) * 7, none⟩, by simp [hc], fun t u hu => ?_⟩
      have ht : t < news.length := (List.getElem?_eq_some_iff.1 hu).1
      rw [Addr.add_lit]
      show w.cell? _ = _
      rw [hcell _ (by omega), ← hu, hnews, List.getElem?_drop, ← htk, List.getElem?_take, if_pos (by omega)]
      simp
  have s1 : Hid (news.length = (n - (i + 1)) * 7) := hnl
  have s2 : Hid (∀ u ∈ news, u.oneCell' = true) := by
    intro u hu
    rw [hnews] at hu
    exact hone u (List.mem_of_mem_drop hu)
  have hfree : ∀ t, w.frozen? ⟨b, t, none⟩ = false := fun t => Mem.free hb t
  have s3 : Hid (∀ t, t < news.length → (w.drew.cell? ⟨b, 0 + i * 7 + t, none⟩).isSome = true ∧ w.drew.frozen? ⟨b, 0 + i * 7 + t, none⟩ = false) := by
    intro t ht
    refine ⟨?_, hfree _⟩
    show (w.cell? _).isSome = true
    rw [hcell _ (by omega)]
    rw [Array.getElem?_eq_getElem (by omega)]
    rfl
  obtain ⟨W1, hW1⟩ : ∃ W1, W1 = w.drew.setCells b (0 + i * 7) news := ⟨_, rfl⟩
  have hb1 : W1.heap[b]? = some (.cells (cur.toList.take (0 + i * 7) ++ news ++ cur.toList.drop (0 + i * 7 + news.length)).toArray 48) := by
    rw [hW1]
    exact setCells_block news (0 + i * 7) w.drew cur hb (by omega)
  obtain ⟨cur1, hcur1⟩ : ∃ cur1, cur1 = (cur.toList.take (0 + i * 7) ++ news ++ cur.toList.drop (0 + i * 7 + news.length)).toArray := ⟨_, rfl⟩
  rw [← hcur1] at hb1
  have hc1s : cur1.size = cur.size := by
    rw [hcur1]
    simp
    omega
  have e1 : i + (n - (i + 1)) = n - 1 := by omega
  have hcl : ∀ ty, (Builtin.clear_ #[29] ty #[.slice (some ⟨b, (i + (n - (i + 1))) * 7, none⟩) (n - (i + (n - (i + 1)))) (cap - (i + (n - (i + 1))))]).run Tryd.prog W1 = .ok (.tuple #[]) (W1.setCells b ((n - 1) * 7) wZero.cells.toList) := fun ty => by
    rw [show n - (i + (n - (i + 1))) = 1 by omega, e1]
    exact run_clear_one W1 29 48 ty wZero wZero.cells.toList Tryd.underlying29 wZeroRun rfl (by decide) b ((n - 1) * 7) (cap - (n - 1)) (fun t ht => by
      have ht7 : t < 7 := ht
      have : (n - 1) * 7 + t < cur1.size := by omega
      simp [World.cell?, hb1, this]) (fun t _ => Mem.free hb1 _)
  have hfin : cur1.toList.take ((n - 1) * 7) = xs.take (i * 7) ++ news := by
    have h1 : cur.toList.take (i * 7) = xs.take (i * 7) := by rw [← htk, List.take_take, Nat.min_eq_left (by omega)]
    have h2 : (xs.take (i * 7)).length = i * 7 := by rw [List.length_take, Nat.min_eq_left (by omega)]
    rw [hcur1]
    simp only [Nat.zero_add, h1]
    exact List.take_left' (by rw [List.length_append, h2, hnl]; omega)
  have F := Lib.hid (And.intro hfin (And.intro hc1s (And.intro hcs (And.intro hlen hnews))))
  clear hfin hc1s hcs
  have hE : Aside (i + (n - (i + 1)) = n - 1) := e1
  clear e1
  have hW : Hid (W1 = w.drew.setCells b (0 + i * 7) news) := hW1
  have hicap : i ≤ cap := by omega
  have hi1 : i + 1 ≤ cap := by omega
  have g1 : (0 : Int) ≤ (i : Int) + 1 := by omega
  have g2 : (i : Int) + 1 ≤ (n : Int) := by omega
  have mixed : Tryd.prog.follows .mixedOrders = true := by kernel_rfl
  have X : Aside (W1.heap[b]? = some (.cells cur1 48)) := hb1
  clear hb1 hb hfree hcell hW1 hnews hcur1 htk hone hnl hlen
  go_enter Tryd.func26, Tryd.ntmps26
  go_wp2_with fail
  go_region_law (refine step_append_room rfl (.tmp 22) (.tmp 25) 29 rfl 48 i0 7 Tryd.underlying29 hi0 hz1 b 0 i cap (by simp [Act.eval, Act.put]) A (n - (i + 1)) (cap - (i + 1)) news (by simp [Act.eval, Act.put]) s1.out hsrc.out s2.out (by omega) s3.out ?_; rw [← hW.out])
  simp only [List.getElem_toArray, List.getElem_cons_succ, List.getElem_cons_zero]
  go_wp2
  go_ret
  have h2 := setCells_block wZero.cells.toList ((n - 1) * 7) W1 cur1 X.out (by
    have : wZero.cells.toList.length = 7 := rfl
    have := F.out.2.1
    have := F.out.2.2.1
    omega)
  have hz7 : wZero.cells.toList.length = 7 := rfl
  obtain ⟨f1, f2, f3, f4, f5⟩ := F.out
  have s1' := s1.out
  have hfl : (List.take ((n - 1) * 7) cur1.toList).length = (n - 1) * 7 := by rw [List.length_take, Array.length_toList]; omega
  rename_i _ cs0 hq
  obtain rfl : cs0 = wZero.cells := by rw [hq]; rfl
  have hE' := hE.out
  clear hE hcl hA hsrc s2 s3 X hq
  refine ⟨.slice (some ⟨b, 0, none⟩) (i + (n - (i + 1))) cap, rfl, And.intro ⟨?_, Or.inr ⟨b, cap, _, congrArg (fun t => Value.slice (some ⟨b, 0, none⟩) t cap) hE', hB, h2, by omega, hcm, ?_, ?_⟩⟩ ?_⟩
  · simp only [List.length_append, List.length_take, List.length_drop, f4]
    omega
  · simp only [List.size_toArray, List.length_append, List.length_take, List.length_drop, Array.length_toList, hz7]
    omega
  · rw [List.take_append_of_le_length (by rw [List.length_append, hfl]; omega), List.take_append_of_le_length (by rw [hfl]; omega), List.take_of_length_le (by rw [hfl]; omega), f1, f5]
  · refine below_setCells ?_ hB _ _
    rw [hW.out]
    exact below_setCells ((Below.refl B w).drew) hB _ _
end Go.Proofs.YtdpmilffadalkaaDoor
