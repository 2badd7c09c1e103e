/- mvar.with, mvar.without: lists of their own. -/
import Derived.Test.YtdpmilffadalkaaDoorMvFirst
import Derived.Deep.RegionHeld3
import Derived.Deep.AppendLies
namespace Go.Proofs.YtdpmilffadalkaaDoor
open Go.RowKit
/-- v is a slice of the call's own, of these -/
def OwnQ (B : Nat) (w : World) (v : Value) (l : List Wt) : Prop := w.ownsRow B 48 7 v l.length (rowsQ l).flatten
theorem OwnQ.at {B : Nat} {w : World} {v : Value} {l : List Wt} (h : OwnQ B w v l) : QAt w v l := SlotsAt.of_owns (rowsQ_wide l) h (rowsQ_len l).symm rfl
theorem cloneQ (l : List Wt) (v : Value) (w : World) (h : QAt w v l) (hlen : l.length * 88 ≤ 140737488355328) :
    Calls Tryd.prog 19 #[v] w fun e w' => ∃ v', e = .returned v' ∧ OwnQ w.heap.size w' v' l ∧ Below w.heap.size w w' := by
  refine (clone_any (rowsQ l) v w h (by rw [rowsQ_len]; exact hlen)).mono ?_
  rintro e w' ⟨v', rfl, hown, hb⟩
  rw [rowsQ_len] at hown
  exact ⟨v', rfl, hown, hb⟩
theorem deleteQ (B : Nat) (l : List Wt) (v : Value) (w : World) (h : OwnQ B w v l) (i : Nat) (hi : i < l.length) :
    Calls Tryd.prog 26 #[v, .int .i64 i, .int .i64 ((i : Int) + 1)] w fun e w' => ∃ v', e = .returned v' ∧ OwnQ B w' v' (l.eraseIdx i) ∧ Below B w w' := by
  have h' : w.ownsRow B 48 7 v (rowsQ l).length (rowsQ l).flatten := by rw [rowsQ_len]; exact h
  refine (delete_own B (rowsQ l) v w (rowsQ_wide l) h' i (by rw [rowsQ_len]; exact hi)).mono ?_
  rintro e w' ⟨v', rfl, hown, hb⟩
  refine ⟨v', rfl, ?_, hb⟩
  unfold OwnQ
  rw [rowsQ_len] at hown
  rw [List.length_eraseIdx, if_pos hi, show rowsQ (l.eraseIdx i) = (rowsQ l).eraseIdx i from by unfold rowsQ; rw [erase_split, erase_split, List.map_append, List.map_take, List.map_drop]]
  exact hown
theorem OwnQ.low {B B' : Nat} {w : World} {v : Value} {l : List Wt} (h : OwnQ B' w v l) (hB : B ≤ B') : OwnQ B w v l := by
  refine ⟨h.1, h.2.imp id ?_⟩
  rintro ⟨g, cap, cur, hv, hb, hr⟩
  exact ⟨g, cap, cur, hv, Nat.le_trans hB hb, hr⟩
theorem OwnQ.lt2 {B : Nat} {w : World} {v : Value} {l : List Wt} (h : OwnQ B w v l) : ∀ k, v.ownBlock = some k → B ≤ k := fun k hk => (World.ownsRow.lt h k hk).1
theorem OwnQ.keep {B : Nat} {w w' : World} {v : Value} {l : List Wt} (h : OwnQ B w v l) (hb : Below w.heap.size w w') : OwnQ B w' v l := ownsRow_keep h hb
theorem second_block (w : World) (o p : Obj) : ((w.alloc o).drew.alloc p).heap[w.heap.size + 1]? = some p := by
  show ((w.heap.push o).push p)[w.heap.size + 1]? = _
  rw [show w.heap.size + 1 = (w.heap.push o).size by simp]
  exact Array.getElem?_push_size
theorem OwnQ.push {B : Nat} {w : World} {v : Value} {l : List Wt} {x : Wt} (h : w.ownsRow B 48 7 v (l.length + 1) ((rowsQ l).flatten ++ x.row)) : OwnQ B w v (l ++ [x]) := by
  unfold OwnQ rowsQ
  rw [List.length_append, List.map_append, List.flatten_append]
  simpa [rowsQ] using h
set_option maxRecDepth 100000 in
set_option maxHeartbeats 2000000 in
theorem with_any (l : List Wt) (v : Value) (w : World) (h : QAt w v l) (hlen : l.length * 88 ≤ 140737488355328 - 88) (x0 : ByteArray) (x1 : Bool) (x2 x3 : Int) (x4 x5 x6 : ByteArray) :
    Calls Tryd.prog 16 #[v, .agg #[.string x0, .bool x1, .int .i64 x2, .int .i64 x3, .string x4, .string x5, .string x6]] w fun e w' => ∃ v', e = .returned v' ∧ OwnQ w.heap.size w' v' (l ++ [⟨x0, x1, ⟨x2, x3, x4, x5, x6⟩⟩]) ∧ Below w.heap.size w w' := by
  obtain ⟨i0, hi, hz0, hz1, hz2⟩ := info_parts wInfo
  have HQ : Hid (∀ W, Below w.heap.size w W → QAt W v l) := Lib.hid (fun W hb => h.below hb)
  have HR := Lib.hid (rowsQ_len l)
  clear h
  have M0 := (Mem.nil w).new' (w.heap.size) rfl (.cells #[.string x0, .bool x1, .int .i64 x2, .int .i64 x3, .string x4, .string x5, .string x6] 48)
  have c0 := Mem.cell M0.1 0 rfl
  have c1 := Mem.cell M0.1 1 rfl
  have c2 := Mem.cell M0.1 2 rfl
  have c3 := Mem.cell M0.1 3 rfl
  have c4 := Mem.cell M0.1 4 rfl
  have c5 := Mem.cell M0.1 5 rfl
  have c6 := Mem.cell M0.1 6 rfl
  go_enter Tryd.func16, Tryd.ntmps16
  go_wp2_with fail
  go_region_held3 (fun w' => w'.cell? ⟨w.heap.size, 0, none⟩ = some (.string x0) ∧ w'.cell? ⟨w.heap.size, 1, none⟩ = some (.bool x1) ∧ w'.cell? ⟨w.heap.size, 2, none⟩ = some (.int .i64 x2) ∧ w'.cell? ⟨w.heap.size, 3, none⟩ = some (.int .i64 x3) ∧ w'.cell? ⟨w.heap.size, 4, none⟩ = some (.string x4) ∧ w'.cell? ⟨w.heap.size, 5, none⟩ = some (.string x5) ∧ w'.cell? ⟨w.heap.size, 6, none⟩ = some (.string x6))
    (go_keep)
    (first
      | (go_at_call 19; (with_reducible refine (cloneQ l v _ (HQ.out _ (by repeat (first | exact Below.refl _ _ | refine below_dr ?_ | refine below_al ?_ _))) (by omega)).mono ?_); rintro e w1 ⟨v1, rfl, hown, hb⟩; have hc := (fun o => hb.cell (p := ⟨w.heap.size, o, none⟩) (by simp <;> omega)); have hzb : Below w.heap.size w w1 := (by (repeat (first | exact Below.refl _ _ | refine below_dr ?_ | refine below_al ?_ _)) : Below w.heap.size w _).trans (hb.mono (by simp <;> omega)); have hz := hzb.size; have hz3 : w.heap.size + 1 ≤ w1.heap.size := (by have := hb.size; simp at this; omega))
      | (refine step_append_lies _ (by rfl) _ _ _ (by rfl) w.heap.size 48 i0 _ 7 88 Tryd.underlying29 hi hz0 hz1 hz2 rfl (by omega) v1 l.length (rowsQ l).flatten (by rfl) (OwnQ.low hown (by simp <;> omega)) ⟨w.heap.size + 1, 0, none⟩ 1 1 [.string x0, .bool x1, .int .i64 x2, .int .i64 x3, .string x4, .string x5, .string x6] (by rfl) (by rfl) (World.news_of_block (cs := #[.string x0, .bool x1, .int .i64 x2, .int .i64 x3, .string x4, .string x5, .string x6]) (t := 48) (fr := (0, 0)) ((hb.block (w.heap.size + 1) (by simp)).trans (second_block w _ _))) (by simp [Value.oneCell']) (by omega) (by unfold maxLen; omega) (by omega) (by have := hz; omega) w1.heap.size (by simp) ?_; intro gg cap w2 hown2 hgrow hat hlt; have hk : ∀ o, w2.cell? ⟨w.heap.size, o, none⟩ = w1.cell? ⟨w.heap.size, o, none⟩ := (fun o => (hgrow.cell_far ⟨w.heap.size, o, none⟩ (by simp; omega) (fun e => by have h9 := (OwnQ.lt2 hown _ e.symm); simp at h9; omega)).trans rfl); have hb2 : Below w.heap.size w w2 := (hzb.grown hgrow (by have := hz; omega) (by intro k hk; have h9 := OwnQ.lt2 hown k hk; simp at h9; omega)); have HQ2 := Lib.hid (OwnQ.push (x := ⟨x0, x1, ⟨x2, x3, x4, x5, x6⟩⟩) hown2))
      | (refine step_append_lies _ (by rfl) _ _ _ (by rfl) w.heap.size 48 i0 _ 7 88 Tryd.underlying29 hi hz0 hz1 hz2 rfl (by omega) v1 l.length (rowsQ l).flatten (by rfl) ((OwnQ.low hown (by simp <;> omega)).keep (below_al (Below.refl _ _) _)) ⟨w1.heap.size, 0, none⟩ 1 1 [.string x0, .bool x1, .int .i64 x2, .int .i64 x3, .string x4, .string x5, .string x6] (by rfl) (by rfl) (World.news_of_block (cs := #[.string x0, .bool x1, .int .i64 x2, .int .i64 x3, .string x4, .string x5, .string x6]) (t := 48) (fr := (0, 0)) (heap_alloc_new w1 _)) (by simp [Value.oneCell']) (by omega) (by unfold maxLen; omega) (by omega) (by have := hz; simp; omega) (w1.heap.size + 1) (by simp) ?_; intro gg cap w2 hown2 hgrow hat hlt; have hk : ∀ o, w2.cell? ⟨w.heap.size, o, none⟩ = w1.cell? ⟨w.heap.size, o, none⟩ := (fun o => (hgrow.cell_far ⟨w.heap.size, o, none⟩ (by simp; omega) (fun e => by have h9 := (OwnQ.lt2 hown _ e.symm); simp at h9; omega)).trans ((below_al (Below.refl _ w1) _).cell (p := ⟨w.heap.size, o, none⟩) (by simp; omega))); have hb2 : Below w.heap.size w w2 := ((below_al hzb _).grown hgrow (by have := hz; simp; omega) (by intro k hk; have h9 := OwnQ.lt2 hown k hk; simp at h9; omega)); have HQ2 := Lib.hid (OwnQ.push (x := ⟨x0, x1, ⟨x2, x3, x4, x5, x6⟩⟩) hown2)))
  all_goals
    have HB2 := Lib.hid hb2
    clear hb2 hgrow hat hlt hk hown2 hown hb hc hzb hz hz3
    go_wp2_with fail
    go_ret
    exact ⟨_, rfl, HQ2.out, HB2.out⟩
set_option maxHeartbeats 1000000 in
theorem without_any (l : List Wt) (v : Value) (w : World) (h : QAt w v l) (hlen : l.length * 88 ≤ 140737488355328) (i : Nat) (hi : i < l.length) :
    Calls Tryd.prog 20 #[v, .int .i64 i] w fun e w' => ∃ v', e = .returned v' ∧ OwnQ w.heap.size w' v' (l.eraseIdx i) ∧ Below w.heap.size w w' := by
  have hi2 : (i : Int) < l.length := by omega
  have hl2 : (l.length : Int) ≤ 9223372036854775806 := by omega
  go_enter Tryd.func20, Tryd.ntmps20
  go_wp2_with fail
  refine (cloneQ l v _ h hlen).mono ?_
  rintro e w1 ⟨v1, rfl, hown, hb⟩
  have HO := Lib.hid hown
  have HB := Lib.hid hb
  clear hown hb
  go_wp2_with fail
  refine (deleteQ _ l v1 _ HO.out i hi).mono ?_
  rintro e w2 ⟨v2, rfl, hown, hb⟩
  have HO2 := Lib.hid hown
  have HB2 := Lib.hid (HB.out.trans hb)
  clear hown hb
  go_wp2_with fail
  go_ret
  exact ⟨_, rfl, HO2.out, HB2.out⟩
end Go.Proofs.YtdpmilffadalkaaDoor
