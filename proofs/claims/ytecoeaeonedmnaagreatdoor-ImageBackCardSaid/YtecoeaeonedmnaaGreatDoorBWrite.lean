/- (*strings.Builder).Write, at a builder of the call's own. -/
import Derived.Test.YtecoeaeonedmnaaGreatDoorBuild
import Derived.Test.YtecoeaeonedmnaaGreatDoorZ1
namespace Go.Proofs.YtecoeaeonedmnaaGreatDoor
open Go.RowKit
theorem copyCheck_k (B b : Nat) (bs : List Value) (w : World) (h : Lib.IsBuilder 85 5 B b bs w) :
    Calls Tryz.prog 54 #[.pointer (some ⟨b, 0, none⟩)] w fun e w' => e = .returned (.tuple #[]) ∧ (Lib.BuilderAt 85 5 B b (.pointer (some ⟨b, 0, none⟩)) bs w' ∧ Below B w w') ∧ (∀ k, k ≠ b → w'.heap[k]? = w.heap[k]?) ∧ w'.heap.size = w.heap.size := by
  rcases h with h | h
  · refine (copyCheck_fresh b w h.cell0 h.shape h.frozen0).mono ?_
    rintro e w' ⟨rfl, rfl⟩
    exact ⟨rfl, ⟨h.used _, (Below.refl B w).setCell (p := ⟨b, 0, none⟩) h.1 _⟩, fun k hk => Below.heap_setCell _ _ _ k hk, by simp [World.setCell]⟩
  · refine (copyCheck_used b w h.cell0).mono ?_
    rintro e w' ⟨rfl, rfl⟩
    exact ⟨rfl, ⟨h, Below.refl B _⟩, fun _ _ => rfl, rfl⟩
set_option maxRecDepth 100000 in
set_option maxHeartbeats 2000000 in
/-- Write of bytes that lie in another block x; a block k of another type stays -/
theorem bwrite_any (B b : Nat) (l xs : List UInt8) (x cap : Nat) (w : World) (h : Bld B b l w) (hlen : l.length + xs.length ≤ 140737488355328) (hBw : B ≤ w.heap.size) (hx : w.heap[x]? = some (.cells (Lib.byteCells xs).toArray 5)) (hxb : x ≠ b)
    (k : Nat) (ks : Array Value) (T : TypeId) (hk : w.heap[k]? = some (.cells ks T)) (hT : T ≠ 5) (hkb : k ≠ b) :
    Calls Tryz.prog 33 #[.pointer (some ⟨b, 0, none⟩), .slice (some ⟨x, 0, none⟩) xs.length cap] w fun e w' => e = .returned (.tuple #[.int .i64 xs.length, .nilIface]) ∧ Bld B b (l ++ xs) w' ∧ Below B w w' ∧ w'.heap[k]? = some (.cells ks T) := by
  obtain ⟨i0, hi, hz0, hz1, hz2⟩ := info_parts bInfoByte
  unfold Bld at h
  obtain ⟨bs, hbs⟩ : ∃ bs, Lib.byteCells l = bs := ⟨_, rfl⟩
  obtain ⟨ys, hys⟩ : ∃ ys, Lib.byteCells xs = ys := ⟨_, rfl⟩
  have hln : bs.length = l.length := by rw [← hbs, byteCells_len]
  have hlm : ys.length = xs.length := by rw [← hys, byteCells_len]
  have hend : Lib.byteCells (l ++ xs) = bs ++ ys := by rw [byteCells_app, hbs, hys]
  have hone : Hid (∀ u ∈ ys, u.oneCell' = true) := Lib.hid (by
    intro u hu
    rw [← hys] at hu
    simp only [Lib.byteCells, List.mem_map] at hu
    obtain ⟨c, _, rfl⟩ := hu
    rfl)
  rw [hbs] at h
  rw [hys] at hx
  unfold Bld
  rw [hend]
  obtain ⟨n, hn⟩ : ∃ n, n = xs.length := ⟨_, rfl⟩
  rw [← hn] at hlm hlen ⊢
  have hle : bs.length + n ≤ 140737488355328 := by omega
  have HX := Lib.hid hx
  have HK := Lib.hid hk
  have HLM := Lib.hid hlm
  clear hln hend hbs hlen hys hn hx hk hlm
  go_enter Tryz.func33, Tryz.ntmps33
  go_wp2_with fail
  refine (copyCheck_k B b bs _ h).mono ?_
  rintro e w1 ⟨rfl, ⟨h1, hb1⟩, hkeep, hsz⟩
  obtain ⟨hB, v, hbk, hown, hne⟩ := h1
  have c0 : w1.cell? ⟨b, 0, none⟩ = some (.pointer (some ⟨b, 0, none⟩)) := by rw [Lib.cell_of_heap hbk]; rfl
  have c1 : w1.cell? ⟨b, 1, none⟩ = some v := by rw [Lib.cell_of_heap hbk]; rfl
  have HX1 : Hid (w1.heap[x]? = some (.cells ys.toArray 5)) := Lib.hid ((hkeep x hxb).trans HX.out)
  have HK1 : Hid (w1.heap[k]? = some (.cells ks T)) := Lib.hid ((hkeep k hkb).trans HK.out)
  clear hkeep HX HK
  go_wp2_with (at_builtin; refine wpList_append_own _ rfl _ _ 38 rfl B 5 i0 (.int .u8 0) 1 1 Tryz.underlying38 hi hz0 hz1 hz2 rfl (by decide) _ _ _ rfl hown ⟨x, 0, none⟩ n cap ys rfl ?c1 ?c2 ?c3 ?c4 ?c5 ?c6 ?_)
  case c1 => rw [HLM.out]; omega
  case c2 =>
    intro j u hj
    rw [show (⟨x, 0, none⟩ : Addr).add j = ⟨x, j, none⟩ by unfold Addr.add; split <;> simp_all]
    exact Mem.cell HX1.out j (by simpa using hj)
  case c3 => exact hone.out
  case c4 => unfold maxLen; omega
  case c5 => omega
  case c6 => have := hb1.size; omega
  intro v' w2 hown' hgrow _
  have hlt : b < w1.heap.size := Mem.lt hbk
  have hb2 : w2.heap[b]? = some (.cells #[.pointer (some ⟨b, 0, none⟩), v] 85 (0, 0)) := by
    rw [hgrow.block b hlt (fun e => hne e.symm)]
    exact hbk
  have hk2 : Hid (w2.heap[k]? = some (.cells ks T)) := Lib.hid (by
    rw [hgrow.block k (Mem.lt HK1.out) (fun e => ?_)]
    · exact HK1.out
    · rcases hown.2 with ⟨rfl, _⟩ | ⟨g, cp, cur, rfl, _, hgb, _⟩
      · cases e
      · have e2 : k = g := by simpa [Value.ownBlock] using e
        subst e2
        rw [HK1.out] at hgb
        cases hgb
        exact hT rfl)
  have d0 : w2.cell? ⟨b, 0, none⟩ = some (.pointer (some ⟨b, 0, none⟩)) := by rw [Lib.cell_of_heap hb2]; rfl
  have d1 : w2.cell? ⟨b, 1, none⟩ = some v := by rw [Lib.cell_of_heap hb2]; rfl
  have f1 : w2.frozen? ⟨b, 1, none⟩ = false := Lib.frozen_of_heap hb2 1
  obtain ⟨ao, n', cap', rfl⟩ : ∃ ao n' cap, v' = .slice ao n' cap := by
    rcases hown'.2 with ⟨hv, _⟩ | ⟨g, cap, cur, hv, _⟩
    · exact ⟨_, _, _, hv⟩
    · exact ⟨_, _, _, hv⟩
  have hfin : Hid (Lib.IsBuilder 85 5 B b (bs ++ ys) (w2.setCell ⟨b, 1, none⟩ (.slice ao n' cap')) ∧ Below B w (w2.setCell ⟨b, 1, none⟩ (.slice ao n' cap')) ∧ (w2.setCell ⟨b, 1, none⟩ (.slice ao n' cap')).heap[k]? = some (.cells ks T)) := Lib.hid ⟨Or.inr (Lib.BuilderAt.put (T := 85) (e := 5) hB hb2 (bs' := bs ++ ys) (by
      have := hown'
      rw [List.length_append, HLM.out]
      exact this) builder_typed), (hb1.grown hgrow (by have := hb1.size; omega) (fun k hk => (hown.lt k hk).1)).setCell (p := ⟨b, 1, none⟩) hB _, (Below.heap_setCell _ _ _ k hkb).trans hk2.out⟩
  clear hk2 hown' hgrow hown hb1 hbk hb2 hne HX1 HK1 hB
  go_wp2
  go_ret2
  exact ⟨rfl, hfin.out.1, hfin.out.2.1, hfin.out.2.2⟩
end Go.Proofs.YtecoeaeonedmnaaGreatDoor
