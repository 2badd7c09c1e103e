/- cnf.each and prin.places: the iterators' contracts. -/
import Derived.RangeFuncNested
import Derived.RangeFuncBound
import Derived.RangeFuncCalls
import Derived.RangeFuncLeaves
import Derived.RangeFuncBox
import Derived.Shelf.Abstract
import Derived.Shelf.RegionOpen
import Derived.WalkKit
import Derived.OwnWalkIn
import Derived.TacticsInMore
import Derived.LoopNIn
import Derived.LoopIn
import Derived.Test.YtlkgcidhhngfeaaGreatDoorPrin
namespace Go.Proofs.YtlkgcidhhngfeaaGreatDoor
open Go.RowKit Go.Shelf
attribute [local go_sem] Oper.semAt_some
theorem index_strF {t : TypeId} (ht : Tryz.prog.underlying t = some .string) (s : ByteArray) {L : List UInt8} (hL : L = s.data.toList) (k : Nat) (hk : k < s.size) (W : World) :
    (Instr.index t (.string s) (.int .i64 k)).run Tryz.prog W = .ok (.int .u8 ((L.getD k 0).toNat : Int)) W := by
  rw [run_index_string W t s .i64 k ht, dif_pos ⟨by omega, by omega⟩]
  subst hL
  have hk2 : k < s.data.toList.length := by rw [Array.length_toList]; exact hk
  rw [getD_lt hk2]
  rfl
theorem take_snoc8 {l : List UInt8} {k : Nat} (h : k < l.length) : l.take (k + 1) = l.take k ++ [l.getD k 0] := by
  rw [List.take_succ_eq_append_getElem h, getD_lt h]
/-- block b lies as it lay -/
def KB (b : Nat) (W W' : World) : Prop := W'.heap[b]? = W.heap[b]?
theorem KB.trans {b : Nat} {X Y Z : World} (h : KB b X Y) (k : KB b Y Z) : KB b X Z := Eq.trans k h
theorem KB.put {b : Nat} {w : World} (hb : b < w.heap.size) (W : World) (l : Nat) (o o' : Obj) (hl : w.heap.size ≤ l) (_ : W.heap[l]? = some o) (_ : o.isCells = false) (_ : o.isWalk = false) : KB b W (W.putObj l o') := World.putObj_heap_other (by omega)
theorem KB.of_below {b n : Nat} {W W' : World} (h : Below n W W') (hb : b < n) : KB b W W' := h.block b hb
theorem KB.of_grown {b : Nat} {W W' : World} {row : Option Nat} (hg : W.grownBy W' row) (hb : b < W.heap.size) (hr : some b ≠ row) : KB b W W' := hg.block b hb hr
theorem boxed_kb {b : Nat} {W W' : World} {t : TypeId} {v : Value} (h : Boxed W b t v) (k : KB b W W') : Boxed W' b t v := Eq.trans k h
theorem each_in (F : Fence) (n : Nat) (h5 : F.fn 64) (hro : F.round = none) (s : ByteArray) (w : World) :
    CallsIn F n Tryz.prog 64 #[.string s] w fun e w' => e = .returned (.func (.func 79) #[] #[.pointer (some ⟨w.heap.size, 0, none⟩)]) ∧ w' = w.alloc (.cells #[.string s] 23) := by
  refine callsIn_of_wp Tryz.func64 rfl h5 ?_ hro
  simp only [Tryz.ntmps64, List.size_toArray, List.length_cons, List.length_nil, Nat.reduceAdd, Nat.reduceSub, Array.replicate_succ, Array.replicate_zero, List.push_toArray, List.append_toArray, List.nil_append, List.cons_append]
  gi_wp2
  go_ret
  exact ⟨rfl, rfl⟩
set_option maxRecDepth 100000 in
set_option maxHeartbeats 2000000 in
theorem each1_in (F : Fence) (n : Nat) (h7 : F.fn 79) (hro : F.round = none) (hn : 1 ≤ n) (l Bs : Nat) (s : ByteArray) (hs : s.size ≤ 140737488351232) (L : List UInt8) (hL : L = s.data.toList) (J Jx : List UInt8 → World → Prop)
    (hY : ∀ pre x W, J pre W → pre.length < L.length → YieldAt F (n - 1) Tryz.prog l #[.int .u8 (x.toNat : Int)] W fun e W' =>
      (e = .returned (.bool true) ∧ J (pre ++ [x]) W' ∧ KB Bs W W') ∨ (e = .returned (.bool false) ∧ Jx (pre ++ [x]) W'))
    (W : World) (hBs : Boxed W Bs 23 (.string s)) (h0 : J [] W) :
    CallsIn F n Tryz.prog 79 #[.func (.yield l) #[] #[], .pointer (some ⟨Bs, 0, none⟩)] W fun e W' => (∃ v, e = .returned v) ∧
      ((∃ ys, ys = L ∧ J ys W') ∨ (∃ pre, pre <+: L ∧ Jx pre W')) := by
  have hLs : L.length = s.size := by rw [hL]; exact Array.length_toList
  have HL := Lib.hid hL
  have HLs := Lib.hid hLs
  have hBc := hBs.cell
  clear hL hLs
  refine callsIn_of_wp Tryz.func79 rfl h7 ?_ hro
  simp only [Tryz.ntmps79, List.size_toArray, List.length_cons, List.length_nil, Nat.reduceAdd, Nat.reduceSub, Array.replicate_succ, Array.replicate_zero, List.push_toArray, List.append_toArray, List.nil_append, List.cons_append]
  gi_wp2
  gi_loopw [3, 6] (fun _ i wr => ∃ k : Nat, k ≤ s.size ∧ i = .int .i64 k ∧ J (L.take k) wr ∧ KB Bs W wr)
    (fun _ i _ => s.size - (intOf i).toNat)
  case atStart => exact ⟨0, Nat.zero_le _, rfl, h0, rfl⟩
  case round =>
    obtain ⟨k, hk, rfl, hJs, hnx⟩ := hrel
    have hcx := (boxed_kb hBs hnx).cell
    by_cases hlt : k < s.size
    · have hix := index_strF Tryz.underlying23 s HL.out k hlt
      have ht := take_snoc8 (l := L) (k := k) (by rw [HLs.out]; exact hlt)
      obtain ⟨c, hc⟩ : ∃ c, c = L.getD k 0 := ⟨_, rfl⟩
      rw [← hc] at hix ht
      have HT := Lib.hid ht
      clear hc ht
      obtain ⟨fn, tmps, assign, body, hy, hR⟩ := hY _ c wr hJs (by rw [List.length_take, HLs.out]; omega)
      gi_wp2
      refine hR.mono ?_
      rintro e W3 (⟨rfl, hJ3, hk3⟩ | ⟨rfl, hJx3⟩)
      · gi_wp2
        go_roundw
        case rel => exact ⟨k + 1, by omega, by go_num, by rw [HT.out]; exact hJ3, hnx.trans hk3⟩
        case measure => simp [intOf]; omega
      · gi_wp2
        refine bodyPost_ret (results_none rfl _ _ _) rfl ?_
        exact ⟨⟨_, rfl⟩, .inr ⟨_, by rw [← HT.out]; exact List.take_prefix _ _, hJx3⟩⟩
    · obtain rfl : k = s.size := by omega
      rw [List.take_of_length_le (by rw [HLs.out]; exact Nat.le_refl _)] at hJs
      gi_wp2
      go_end0
      exact ⟨⟨_, rfl⟩, .inl ⟨_, rfl, hJs⟩⟩
/-- each(s) hands back a value that hands over the bytes of s, in order -/
theorem each_stops (F : Fence) (n : Nat) (h7 : F.fn 79) (hro : F.round = none) (hn : 1 ≤ n) (Bs : Nat) (s : ByteArray) (hs : s.size ≤ 140737488351232) (L : List UInt8) (hL : L = s.data.toList) (w : World)
    (hc : Boxed w Bs 23 (.string s)) :
    SeqStopsK F n Tryz.prog 79 #[.pointer (some ⟨Bs, 0, none⟩)] (fun x : UInt8 => #[Value.int .u8 (x.toNat : Int)]) (KB Bs) (fun ys => ys = L) (fun pre => pre <+: L) L.length w := fun l J Jx W hW _ _ hY h0 =>
  each1_in F n h7 hro hn l Bs s hs L hL J Jx hY W (boxed_kb hc (KB.of_below hW hc.lt)) h0
end Go.Proofs.YtlkgcidhhngfeaaGreatDoor
