/- OpOnce where something is got and something is parsed. -/
import Derived.Test.YthplcmoojmnofaaDoorOpOnceA
namespace Go.Proofs.YthplcmoojmnofaaDoor
open Go.RowKit
set_option maxHeartbeats 2000000 in
theorem once_gp (s text : ByteArray) (hs : s.size ≤ 140737488351232) (ht : text.size ≤ 140737488351232) (w : World) (hw : LaidOp w) (c a : Int) (A : Nat) (P : List UInt8) (HG : Hid (opGet s.data.toList (A : Int) = some ((c, a), (A : Int) + P.length))) (HGR : Hid (rightB c a = true)) (HGP : Hid (opPut c a = P)) (e2 : (P == (s.extract A (A + P.length)).toList) = true) (hl2 : A + P.length ≤ s.size) (d b : Int) (T : List UInt8) (HP : Hid (opParse text.data.toList = some (d, b))) (HPR : Hid (rightB d b = true)) (HPT : Hid (opText d b = T)) (e1 : (T == text.toList) = true) :
    Calls Tryd.prog 4 #[.string s, .int .i64 (A : Int), .string text] w fun e w' => e = .returned (.bool true) ∧ Below w.heap.size w w' := by
  have d1 : decide ((A : Int) < 0) = false := by simp
  have d3 : decide ((s.size : Int) < (A : Int) + P.length) = false := by simp; omega
  have hsl : ∀ W : World, (Instr.slice 9 (.string s) (some (.int .i64 (A : Int))) (some (.int .i64 ((A : Int) + P.length))) none).run Tryd.prog W = .ok (.string (s.extract A (A + P.length))) W := fun W => by
    have := run_slice_string (P := Tryd.prog) W 9 s .i64 .i64 (A : Int) ((A : Int) + P.length) Tryd.underlying9 (by omega) (by omega) (by omega)
    rw [this]
    congr 3
  have KR : ∀ W, LaidOp W → Calls Tryd.prog 9 #[.agg #[.int .i64 c, .int .i64 a]] W fun e w' => e = .returned (.bool true) ∧ Below W.heap.size W w' := fun W h => by
    have := right_any c a W h
    rw [HGR.out] at this
    exact this
  have KP : ∀ W, LaidOp W → Calls Tryd.prog 10 #[.agg #[.int .i64 c, .int .i64 a]] W fun e w' => e = .returned (.string ⟨P.toArray⟩) ∧ Below W.heap.size W w' := fun W h => by
    have := put_op c a W h
    rw [HGP.out] at this
    exact this
  have KS : ∀ W, LaidOp W → Calls Tryd.prog 9 #[.agg #[.int .i64 d, .int .i64 b]] W fun e w' => e = .returned (.bool true) ∧ Below W.heap.size W w' := fun W h => by
    have := right_any d b W h
    rw [HPR.out] at this
    exact this
  have KT : ∀ W, LaidOp W → Calls Tryd.prog 11 #[.agg #[.int .i64 d, .int .i64 b]] W fun e w' => e = .returned (.string ⟨T.toArray⟩) ∧ Below W.heap.size W w' := fun W h => by
    have := text_op d b W h
    rw [HPT.out] at this
    exact this
  go_enter Tryd.func4, Tryd.ntmps4
  go_wp2_with fail
  refine (oexamples_any _ hw).mono ?_
  rintro e w1 ⟨rfl, hb1⟩
  have hw1 := hw.below hb1
  go_wp2_with fail
  refine (oget_t _ _ _ (by omega) hw1).mono ?_
  rw [HG.out, (osome _ _ _).1, (osome _ _ _).2.1, (osome _ _ _).2.2.1, (osome _ _ _).2.2.2]
  rintro e w2 ⟨rfl, hb2⟩
  have hw2 := hw1.below hb2
  go_wp2_with fail
  refine (oparse_t _ _ (by omega) (hw2.alloc _)).mono ?_
  rw [HP.out, (qsome _ _).1, (qsome _ _).2.1, (qsome _ _).2.2]
  rintro e w3 ⟨rfl, hb3⟩
  have hw3 := (hw2.alloc _).below hb3
  have O3 := (Two.new w2 _ c a).below hb3
  have o0 := fun (T : TypeId) => cellA (O3.al (.cells #[.int .i64 d, .int .i64 b] T)).c0
  have o1 := fun (T : TypeId) => cellA (O3.al (.cells #[.int .i64 d, .int .i64 b] T)).c1
  have p0 := fun (T : TypeId) => cellA (Two.new w3 T d b).c0
  have p1 := fun (T : TypeId) => cellA (Two.new w3 T d b).c1
  have k3 := hb3.size
  simp at k3
  go_wp2_with fail
  refine wp_region_after (by kernel_rfl) (by kernel_rfl) ?_
  repeat (go_big_quiet_step ((first | (go_at_call 9; with_reducible exact After.call (KR _ (LaidOp.after (hw3.alloc _) _))) | (go_at_call 10; with_reducible exact After.call (KP _ (LaidOp.after (hw3.alloc _) _))) | (go_at_call 9; with_reducible exact After.call (KS _ (LaidOp.after (hw3.alloc _) _))) | (go_at_call 11; with_reducible exact After.call (KT _ (LaidOp.after (hw3.alloc _) _))))))
  refine wpQuiet_nil ?_
  rintro _ ⟨p, rfl⟩
  have hb4 := p.h
  have O4 := (O3.al _).below hb4
  have P4 := (Two.new w3 _ d b).below hb4
  clear o0 o1 p0 p1
  have o0 := fun o => (O4.al o).c0
  have o1 := fun o => (O4.al o).c1
  have p0 := fun o => (P4.al o).c0
  have p1 := fun o => (P4.al o).c1
  have k4 := hb4.size
  simp at k4
  go_wp2_with fail
  go_ret
  refine ⟨rfl, ?_⟩
  have hb5 := below_two hb1 (below_two hb2 (below_alloc_then (below_two hb3 (below_alloc_then hb4))))
  first | exact hb5 | exact hb5.alloc hb5.size _
end Go.Proofs.YthplcmoojmnofaaDoor
