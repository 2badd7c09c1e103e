/- The chapter's examples. -/
import Derived.Test.YtecoeaeonedmnaaGreatDoorImGet
import Derived.Test.YtecoeaeonedmnaaGreatDoorImPut
import Derived.Test.YtecoeaeonedmnaaGreatDoorImSame
namespace Go.Proofs.YtecoeaeonedmnaaGreatDoor
open Go.RowKit
def exF : Fn := ⟨0, 0, [(1, 0)]⟩
def exI : Im := ⟨[], [exF]⟩
def exB : List UInt8 := [0, 1, 0, 0, 0, 1, 1, 0, 0]
theorem ex_check : exI.check = 0 := by decide +kernel
theorem ex_put : exI.put = exB := by decide +kernel
theorem ex_none6 : Im.check ⟨[], []⟩ = 6 := by decide +kernel
theorem ex_none5 : Im.check ⟨[⟨0, 0, [], ⟨[], []⟩⟩], []⟩ = 5 := by decide +kernel
theorem ex_get : getIm exB = some exI := by
  have := get_put ex_check (fun v hv => by simp [exI] at hv)
  rwa [ex_put] at this
theorem ex_short : getIm [0, 1, 0, 0, 0, 1, 1, 0] = none := get_short ex_get
theorem vsNil (w : World) (ao : Option Addr) (cap : Nat) : VsAt w (.slice ao 0 cap) [] := ⟨fun r hr => by simp at hr, .inl ⟨⟨ao, cap, rfl⟩, rfl⟩⟩
theorem fsNil (w : World) (ao : Option Addr) (cap : Nat) : FsAt w (.slice ao 0 cap) [] := ⟨[], rfl, ⟨fun r hr => by simp at hr, .inl ⟨⟨ao, cap, rfl⟩, rfl⟩⟩, fun i f hi => by simp at hi⟩
theorem ex_fs {w : World} {n : Nat} (h0 : w.heap[n]? = some (.cells #[.int .i64 1, .int .i64 0] 45)) (h1 : w.heap[n + 1]? = some (.cells #[.int .i64 0, .int .i64 0, .slice (some ⟨n, 0, none⟩) 1 1] 43)) : FsAt w (.slice (some ⟨n + 1, 0, none⟩) 1 1) [exF] := by
  refine ⟨[[.int .i64 0, .int .i64 0, .slice (some ⟨n, 0, none⟩) 1 1]], rfl, ⟨fun r hr => ?_, .inr ⟨n + 1, 0, 1, rfl, by simp, Mem.lt h1, fun j u hj => ?_⟩⟩, fun i f hi => ?_⟩
  · rw [List.mem_singleton.1 hr]
    exact ⟨rfl, fun x hx => by simp at hx; rcases hx with rfl | rfl <;> rfl⟩
  · rw [Nat.zero_add]
    exact Mem.cell h1 j (by simpa using hj)
  · have hi0 : i = 0 := by
      have := (List.getElem?_eq_some_iff.1 hi).1
      simpa using this
    subst hi0
    obtain rfl : exF = f := by simpa using hi
    refine ⟨_, rfl, fun r hr => ?_, .inr ⟨n, 0, 1, rfl, by simp [exF], Mem.lt h0, fun j u hj => ?_⟩⟩
    · rw [show exF.c.map orow = [[.int .i64 1, .int .i64 0]] from rfl] at hr
      rw [List.mem_singleton.1 hr]
      exact ⟨rfl, fun x hx => by simp at hx; rcases hx with rfl | rfl <;> rfl⟩
    · rw [Nat.zero_add]
      exact Mem.cell h0 j (by simpa [exF, orow] using hj)
theorem exPut (fv : Value) (w : World) (hw : LaidI w) (hF : FsAt w fv [exF]) :
    Calls Tryz.prog 10 #[.agg #[.slice none 0 0, fv]] w fun e w' => e = .returned (.string ⟨#[0, 1, 0, 0, 0, 1, 1, 0, 0]⟩) ∧ Below w.heap.size w w' := by
  have h := iput_any exI (.slice none 0 0) fv (fun v hv => by simp [exI] at hv) w hw (vsNil w none 0) hF
  rw [show exI.put0 = exB by unfold Im.put0; rw [if_pos ex_check, ex_put]] at h
  exact h
theorem exGet1 (w : World) (hw : LaidI w) :
    Calls Tryz.prog 9 #[.string ⟨#[0, 1, 0, 0, 0, 1, 1, 0, 0]⟩] w fun e w' => ∃ co cc fo fc, e = .returned (.tuple #[.agg #[.slice co 0 cc, .slice fo 1 fc], .bool true]) ∧ FsAt w' (.slice fo 1 fc) [exF] ∧ Below w.heap.size w w' := by
  refine (iget_go ⟨#[0, 1, 0, 0, 0, 1, 1, 0, 0]⟩ w hw (by decide)).mono ?_
  rintro e w' ⟨hg, hb⟩
  rw [show (⟨#[0, 1, 0, 0, 0, 1, 1, 0, 0]⟩ : ByteArray).data.toList = exB from rfl, ex_get] at hg
  obtain ⟨co, cc, fo, fc, rfl, -, hf⟩ := hg
  exact ⟨co, cc, fo, fc, rfl, hf.at, hb⟩
theorem exGet2 (w : World) (hw : LaidI w) :
    Calls Tryz.prog 9 #[.string ⟨#[0, 1, 0, 0, 0, 1, 1, 0]⟩] w fun e w' => e = .returned (.tuple #[.agg #[.slice none 0 0, .slice none 0 0], .bool false]) ∧ Below w.heap.size w w' := by
  refine (iget_go ⟨#[0, 1, 0, 0, 0, 1, 1, 0]⟩ w hw (by decide)).mono ?_
  rintro e w' ⟨hg, hb⟩
  rw [show (⟨#[0, 1, 0, 0, 0, 1, 1, 0]⟩ : ByteArray).data.toList = [0, 1, 0, 0, 0, 1, 1, 0] from rfl, ex_short] at hg
  exact ⟨hg, hb⟩
theorem exSame (co : Option Addr) (cc : Nat) (fv fw : Value) (w : World) (h1 : FsAt w fv [exF]) (h2 : FsAt w fw [exF]) :
    Calls Tryz.prog 11 #[.agg #[.slice none 0 0, fv], .agg #[.slice co 0 cc, fw]] w fun e w' => e = .returned (.bool true) ∧ Below w.heap.size w w' := by
  have hc : fnCodes [exF] := fun f hf => by rw [List.mem_singleton.1 hf]; decide
  have h := isame_any exI exI (.slice none 0 0) fv (.slice co 0 cc) fw w (vsNil w none 0) h1 (vsNil w co cc) h2 (by decide) (by decide) (by decide) (by decide) hc hc
  rw [decide_eq_true rfl] at h
  exact h
theorem exCheck0 (fv : Value) (w : World) (hw : LaidI w) (hF : FsAt w fv [exF]) :
    Calls Tryz.prog 12 #[.agg #[.slice none 0 0, fv]] w fun e w' => e = .returned (.int .i64 0) ∧ Below w.heap.size w w' := by
  have h := check_any exI (.slice none 0 0) fv (fun v hv => by simp [exI] at hv) w hw (vsNil w none 0) hF
  rw [ex_check] at h
  exact h
theorem exCheck6 (w : World) (hw : LaidI w) :
    Calls Tryz.prog 12 #[.agg #[.slice none 0 0, .slice none 0 0]] w fun e w' => e = .returned (.int .i64 6) ∧ Below w.heap.size w w' := by
  have h := check_any ⟨[], []⟩ (.slice none 0 0) (.slice none 0 0) (fun v hv => by simp at hv) w hw (vsNil w none 0) (fsNil w none 0)
  rw [ex_none6] at h
  exact h
theorem exCheck5 (b : Nat) (w : World) (hw : LaidI w) (h0 : w.heap[b]? = some (.cells #[.int .i64 0, .int .i64 0, .string ⟨#[]⟩, .string ⟨#[]⟩, .string ⟨#[]⟩] 50)) :
    Calls Tryz.prog 12 #[.agg #[.slice (some ⟨b, 0, none⟩) 1 1, .slice none 0 0]] w fun e w' => e = .returned (.int .i64 5) ∧ Below w.heap.size w w' := by
  have h := check_any ⟨[⟨0, 0, [], ⟨[], []⟩⟩], []⟩ (.slice (some ⟨b, 0, none⟩) 1 1) (.slice none 0 0) (fun v hv => by rw [List.mem_singleton.1 hv]; unfold Vl.small; decide) w hw ⟨fun r hr => by
    rw [List.mem_singleton.1 hr]
    exact ⟨rfl, fun x hx => by simp [vrow] at hx; rcases hx with rfl | rfl <;> rfl⟩, .inr ⟨b, 0, 1, rfl, by simp, Mem.lt h0, fun j u hj => by rw [Nat.zero_add]; exact Mem.cell h0 j (by simpa [vrow] using hj)⟩⟩ (fsNil w none 0)
  rw [ex_none5] at h
  exact h
set_option maxRecDepth 100000 in
set_option maxHeartbeats 4000000 in
theorem examples_any (w : World) (hw : LaidI w) :
    Calls Tryz.prog 7 #[] w fun e w' => e = .returned (.bool true) ∧ Below w.heap.size w w' := by
  go_enter Tryz.func7, Tryz.ntmps7
  have hB0 := Below.refl w.heap.size w
  have M0 := Mem.nil w
  have hw0 := hw
  go_upto_region 2 with (fail)
  refine wp_named ?_
  intro w1 hW1
  have hB1 : Below w.heap.size w w1 := by rw [hW1]; exact (below_al (below_al (below_al hB0 _) _) _)
  have hw1 : LaidI w1 := by rw [hW1]; exact (((hw.alloc _).alloc _).alloc _)
  have M1 := (((M0).new' (w.heap.size) (by rfl) (.cells #[.int .i64 1, .int .i64 0] 45)).new' (w.heap.size + 1) (by simp) (.cells #[.int .i64 0, .int .i64 0, .slice (some ⟨w.heap.size, 0, none⟩) 1 1] 43)).new' (w.heap.size + 1 + 1) (by simp) (.cells #[.slice none 0 0, .slice (some ⟨w.heap.size + 1, 0, none⟩) 1 1] 25)
  rw [← hW1] at M1
  clear hW1
  have c1_0_0 := Mem.cell (v := .slice none 0 0) M1.1 0 rfl
  have c1_0_1 := Mem.cell (v := .slice (some ⟨w.heap.size + 1, 0, none⟩) 1 1) M1.1 1 rfl
  have z1_0 := Mem.lt M1.1
  have c1_1_0 := Mem.cell (v := .int .i64 0) M1.2.1 0 rfl
  have c1_1_1 := Mem.cell (v := .int .i64 0) M1.2.1 1 rfl
  have c1_1_2 := Mem.cell (v := .slice (some ⟨w.heap.size, 0, none⟩) 1 1) M1.2.1 2 rfl
  have z1_1 := Mem.lt M1.2.1
  have c1_2_0 := Mem.cell (v := .int .i64 1) M1.2.2.1 0 rfl
  have c1_2_1 := Mem.cell (v := .int .i64 0) M1.2.2.1 1 rfl
  have z1_2 := Mem.lt M1.2.2.1
  have hF := ex_fs M1.2.2.1 M1.2.1
  go_wp2_with fail
  refine Calls.named ?_
  intro W2 hW2
  have hB2_ : Below w.heap.size w W2 := by rw [hW2]; exact hB1
  have hw2_ : LaidI W2 := by rw [hW2]; exact hw1
  have M2_ := M1
  rw [← hW2] at M2_
  have hS2 : Below w1.heap.size w1 W2 := by rw [hW2]; exact (Below.refl _ _)
  have hF_ := FsAt.below hF hS2
  clear hS2 hF
  clear hW2
  have ZZ2_0 := Lib.hid (Mem.lt M2_.1)
  have ZZ2_1 := Lib.hid (Mem.lt M2_.2.1)
  have ZZ2_2 := Lib.hid (Mem.lt M2_.2.2.1)
  clear c1_0_0 c1_0_1 z1_0 c1_1_0 c1_1_1 c1_1_2 z1_1 c1_2_0 c1_2_1 z1_2
  refine (exGet1 _ hw2_).mono ?_
  rintro e w2 ⟨co, cc, fo, fc, rfl, hG, hb2⟩
  have hF := FsAt.below hF_ hb2
  clear hF_
  have hB2 := below_then hB2_ hb2
  have hw2 := hw2_.below hb2
  have M2 := M2_.below hb2
  clear M2_ hB2_ hb2 hw2_
  have c2_0_0 := Mem.cell (v := .slice none 0 0) M2.1 0 rfl
  have c2_0_1 := Mem.cell (v := .slice (some ⟨w.heap.size + 1, 0, none⟩) 1 1) M2.1 1 rfl
  have z2_0 := Mem.lt M2.1
  have c2_1_0 := Mem.cell (v := .int .i64 0) M2.2.1 0 rfl
  have c2_1_1 := Mem.cell (v := .int .i64 0) M2.2.1 1 rfl
  have c2_1_2 := Mem.cell (v := .slice (some ⟨w.heap.size, 0, none⟩) 1 1) M2.2.1 2 rfl
  have z2_1 := Mem.lt M2.2.1
  have c2_2_0 := Mem.cell (v := .int .i64 1) M2.2.2.1 0 rfl
  have c2_2_1 := Mem.cell (v := .int .i64 0) M2.2.2.1 1 rfl
  have z2_2 := Mem.lt M2.2.2.1
  go_wp2_with fail
  refine Calls.named ?_
  intro W3 hW3
  have hB3_ : Below w.heap.size w W3 := by rw [hW3]; exact (below_al hB2 _)
  have hw3_ : LaidI W3 := by rw [hW3]; exact (hw2.alloc _)
  have M3_ := (M2).new' (w2.heap.size) (by rfl) (.cells #[.slice co 0 cc, .slice fo 1 fc] 25)
  rw [← hW3] at M3_
  have hS3 : Below w2.heap.size w2 W3 := by rw [hW3]; exact (below_al (Below.refl _ _) _)
  have hF_ := FsAt.below hF hS3
  have hG_ := FsAt.below hG hS3
  clear hS3 hF hG
  clear hW3
  have ZZ3_0 := Lib.hid (Mem.lt M3_.1)
  have ZZ3_1 := Lib.hid (Mem.lt M3_.2.1)
  have ZZ3_2 := Lib.hid (Mem.lt M3_.2.2.1)
  have ZZ3_3 := Lib.hid (Mem.lt M3_.2.2.2.1)
  clear c2_0_0 c2_0_1 z2_0 c2_1_0 c2_1_1 c2_1_2 z2_1 c2_2_0 c2_2_1 z2_2
  refine (exGet2 _ hw3_).mono ?_
  rintro e w3 ⟨rfl, hb3⟩
  have hF := FsAt.below hF_ hb3
  have hG := FsAt.below hG_ hb3
  clear hF_ hG_
  have hB3 := below_then hB3_ hb3
  have hw3 := hw3_.below hb3
  have M3 := M3_.below hb3
  clear M3_ hB3_ hb3 hw3_
  have c3_0_0 := Mem.cell (v := .slice co 0 cc) M3.1 0 rfl
  have c3_0_1 := Mem.cell (v := .slice fo 1 fc) M3.1 1 rfl
  have z3_0 := Mem.lt M3.1
  have c3_1_0 := Mem.cell (v := .slice none 0 0) M3.2.1 0 rfl
  have c3_1_1 := Mem.cell (v := .slice (some ⟨w.heap.size + 1, 0, none⟩) 1 1) M3.2.1 1 rfl
  have z3_1 := Mem.lt M3.2.1
  have c3_2_0 := Mem.cell (v := .int .i64 0) M3.2.2.1 0 rfl
  have c3_2_1 := Mem.cell (v := .int .i64 0) M3.2.2.1 1 rfl
  have c3_2_2 := Mem.cell (v := .slice (some ⟨w.heap.size, 0, none⟩) 1 1) M3.2.2.1 2 rfl
  have z3_2 := Mem.lt M3.2.2.1
  have c3_3_0 := Mem.cell (v := .int .i64 1) M3.2.2.2.1 0 rfl
  have c3_3_1 := Mem.cell (v := .int .i64 0) M3.2.2.2.1 1 rfl
  have z3_3 := Mem.lt M3.2.2.2.1
  go_wp2_with fail
  refine Calls.named ?_
  intro W4 hW4
  have hB4_ : Below w.heap.size w W4 := by rw [hW4]; exact (below_al hB3 _)
  have hw4_ : LaidI W4 := by rw [hW4]; exact (hw3.alloc _)
  have M4_ := (M3).new' (w3.heap.size) (by rfl) (.cells #[.slice none 0 0, .slice none 0 0] 25)
  rw [← hW4] at M4_
  have hS4 : Below w3.heap.size w3 W4 := by rw [hW4]; exact (below_al (Below.refl _ _) _)
  have hF_ := FsAt.below hF hS4
  have hG_ := FsAt.below hG hS4
  clear hS4 hF hG
  clear hW4
  have ZZ4_0 := Lib.hid (Mem.lt M4_.1)
  have ZZ4_1 := Lib.hid (Mem.lt M4_.2.1)
  have ZZ4_2 := Lib.hid (Mem.lt M4_.2.2.1)
  have ZZ4_3 := Lib.hid (Mem.lt M4_.2.2.2.1)
  have ZZ4_4 := Lib.hid (Mem.lt M4_.2.2.2.2.1)
  clear c3_0_0 c3_0_1 z3_0 c3_1_0 c3_1_1 z3_1 c3_2_0 c3_2_1 c3_2_2 z3_2 c3_3_0 c3_3_1 z3_3
  refine (exPut _ _ hw4_ hF_).mono ?_
  rintro e w4 ⟨rfl, hb4⟩
  have hF := FsAt.below hF_ hb4
  have hG := FsAt.below hG_ hb4
  clear hF_ hG_
  have hB4 := below_then hB4_ hb4
  have hw4 := hw4_.below hb4
  have M4 := M4_.below hb4
  clear M4_ hB4_ hb4 hw4_
  have c4_0_0 := Mem.cell (v := .slice none 0 0) M4.1 0 rfl
  have c4_0_1 := Mem.cell (v := .slice none 0 0) M4.1 1 rfl
  have z4_0 := Mem.lt M4.1
  have c4_1_0 := Mem.cell (v := .slice co 0 cc) M4.2.1 0 rfl
  have c4_1_1 := Mem.cell (v := .slice fo 1 fc) M4.2.1 1 rfl
  have z4_1 := Mem.lt M4.2.1
  have c4_2_0 := Mem.cell (v := .slice none 0 0) M4.2.2.1 0 rfl
  have c4_2_1 := Mem.cell (v := .slice (some ⟨w.heap.size + 1, 0, none⟩) 1 1) M4.2.2.1 1 rfl
  have z4_2 := Mem.lt M4.2.2.1
  have c4_3_0 := Mem.cell (v := .int .i64 0) M4.2.2.2.1 0 rfl
  have c4_3_1 := Mem.cell (v := .int .i64 0) M4.2.2.2.1 1 rfl
  have c4_3_2 := Mem.cell (v := .slice (some ⟨w.heap.size, 0, none⟩) 1 1) M4.2.2.2.1 2 rfl
  have z4_3 := Mem.lt M4.2.2.2.1
  have c4_4_0 := Mem.cell (v := .int .i64 1) M4.2.2.2.2.1 0 rfl
  have c4_4_1 := Mem.cell (v := .int .i64 0) M4.2.2.2.2.1 1 rfl
  have z4_4 := Mem.lt M4.2.2.2.2.1
  go_wp2_with fail
  refine Calls.named ?_
  intro W5 hW5
  have hB5_ : Below w.heap.size w W5 := by rw [hW5]; exact hB4
  have hw5_ : LaidI W5 := by rw [hW5]; exact hw4
  have M5_ := M4
  rw [← hW5] at M5_
  have hS5 : Below w4.heap.size w4 W5 := by rw [hW5]; exact (Below.refl _ _)
  have hF_ := FsAt.below hF hS5
  have hG_ := FsAt.below hG hS5
  clear hS5 hF hG
  clear hW5
  have ZZ5_0 := Lib.hid (Mem.lt M5_.1)
  have ZZ5_1 := Lib.hid (Mem.lt M5_.2.1)
  have ZZ5_2 := Lib.hid (Mem.lt M5_.2.2.1)
  have ZZ5_3 := Lib.hid (Mem.lt M5_.2.2.2.1)
  have ZZ5_4 := Lib.hid (Mem.lt M5_.2.2.2.2.1)
  clear c4_0_0 c4_0_1 z4_0 c4_1_0 c4_1_1 z4_1 c4_2_0 c4_2_1 z4_2 c4_3_0 c4_3_1 c4_3_2 z4_3 c4_4_0 c4_4_1 z4_4
  refine (exSame co cc _ _ _ hF_ hG_).mono ?_
  rintro e w5 ⟨rfl, hb5⟩
  have hF := FsAt.below hF_ hb5
  have hG := FsAt.below hG_ hb5
  clear hF_ hG_
  have hB5 := below_then hB5_ hb5
  have hw5 := hw5_.below hb5
  have M5 := M5_.below hb5
  clear M5_ hB5_ hb5 hw5_
  have c5_0_0 := Mem.cell (v := .slice none 0 0) M5.1 0 rfl
  have c5_0_1 := Mem.cell (v := .slice none 0 0) M5.1 1 rfl
  have z5_0 := Mem.lt M5.1
  have c5_1_0 := Mem.cell (v := .slice co 0 cc) M5.2.1 0 rfl
  have c5_1_1 := Mem.cell (v := .slice fo 1 fc) M5.2.1 1 rfl
  have z5_1 := Mem.lt M5.2.1
  have c5_2_0 := Mem.cell (v := .slice none 0 0) M5.2.2.1 0 rfl
  have c5_2_1 := Mem.cell (v := .slice (some ⟨w.heap.size + 1, 0, none⟩) 1 1) M5.2.2.1 1 rfl
  have z5_2 := Mem.lt M5.2.2.1
  have c5_3_0 := Mem.cell (v := .int .i64 0) M5.2.2.2.1 0 rfl
  have c5_3_1 := Mem.cell (v := .int .i64 0) M5.2.2.2.1 1 rfl
  have c5_3_2 := Mem.cell (v := .slice (some ⟨w.heap.size, 0, none⟩) 1 1) M5.2.2.2.1 2 rfl
  have z5_3 := Mem.lt M5.2.2.2.1
  have c5_4_0 := Mem.cell (v := .int .i64 1) M5.2.2.2.2.1 0 rfl
  have c5_4_1 := Mem.cell (v := .int .i64 0) M5.2.2.2.2.1 1 rfl
  have z5_4 := Mem.lt M5.2.2.2.2.1
  go_wp2_with fail
  refine Calls.named ?_
  intro W6 hW6
  have hB6_ : Below w.heap.size w W6 := by rw [hW6]; exact hB5
  have hw6_ : LaidI W6 := by rw [hW6]; exact hw5
  have M6_ := M5
  rw [← hW6] at M6_
  have hS6 : Below w5.heap.size w5 W6 := by rw [hW6]; exact (Below.refl _ _)
  have hF_ := FsAt.below hF hS6
  have hG_ := FsAt.below hG hS6
  clear hS6 hF hG
  clear hW6
  have ZZ6_0 := Lib.hid (Mem.lt M6_.1)
  have ZZ6_1 := Lib.hid (Mem.lt M6_.2.1)
  have ZZ6_2 := Lib.hid (Mem.lt M6_.2.2.1)
  have ZZ6_3 := Lib.hid (Mem.lt M6_.2.2.2.1)
  have ZZ6_4 := Lib.hid (Mem.lt M6_.2.2.2.2.1)
  clear c5_0_0 c5_0_1 z5_0 c5_1_0 c5_1_1 z5_1 c5_2_0 c5_2_1 z5_2 c5_3_0 c5_3_1 c5_3_2 z5_3 c5_4_0 c5_4_1 z5_4
  refine (exCheck0 _ _ hw6_ hF_).mono ?_
  rintro e w6 ⟨rfl, hb6⟩
  have hF := FsAt.below hF_ hb6
  have hG := FsAt.below hG_ hb6
  clear hF_ hG_
  have hB6 := below_then hB6_ hb6
  have hw6 := hw6_.below hb6
  have M6 := M6_.below hb6
  clear M6_ hB6_ hb6 hw6_
  have c6_0_0 := Mem.cell (v := .slice none 0 0) M6.1 0 rfl
  have c6_0_1 := Mem.cell (v := .slice none 0 0) M6.1 1 rfl
  have z6_0 := Mem.lt M6.1
  have c6_1_0 := Mem.cell (v := .slice co 0 cc) M6.2.1 0 rfl
  have c6_1_1 := Mem.cell (v := .slice fo 1 fc) M6.2.1 1 rfl
  have z6_1 := Mem.lt M6.2.1
  have c6_2_0 := Mem.cell (v := .slice none 0 0) M6.2.2.1 0 rfl
  have c6_2_1 := Mem.cell (v := .slice (some ⟨w.heap.size + 1, 0, none⟩) 1 1) M6.2.2.1 1 rfl
  have z6_2 := Mem.lt M6.2.2.1
  have c6_3_0 := Mem.cell (v := .int .i64 0) M6.2.2.2.1 0 rfl
  have c6_3_1 := Mem.cell (v := .int .i64 0) M6.2.2.2.1 1 rfl
  have c6_3_2 := Mem.cell (v := .slice (some ⟨w.heap.size, 0, none⟩) 1 1) M6.2.2.2.1 2 rfl
  have z6_3 := Mem.lt M6.2.2.2.1
  have c6_4_0 := Mem.cell (v := .int .i64 1) M6.2.2.2.2.1 0 rfl
  have c6_4_1 := Mem.cell (v := .int .i64 0) M6.2.2.2.2.1 1 rfl
  have z6_4 := Mem.lt M6.2.2.2.2.1
  go_wp2_with fail
  refine Calls.named ?_
  intro W7 hW7
  have hB7_ : Below w.heap.size w W7 := by rw [hW7]; exact hB6
  have hw7_ : LaidI W7 := by rw [hW7]; exact hw6
  have M7_ := M6
  rw [← hW7] at M7_
  have hS7 : Below w6.heap.size w6 W7 := by rw [hW7]; exact (Below.refl _ _)
  have hF_ := FsAt.below hF hS7
  have hG_ := FsAt.below hG hS7
  clear hS7 hF hG
  clear hW7
  have ZZ7_0 := Lib.hid (Mem.lt M7_.1)
  have ZZ7_1 := Lib.hid (Mem.lt M7_.2.1)
  have ZZ7_2 := Lib.hid (Mem.lt M7_.2.2.1)
  have ZZ7_3 := Lib.hid (Mem.lt M7_.2.2.2.1)
  have ZZ7_4 := Lib.hid (Mem.lt M7_.2.2.2.2.1)
  clear c6_0_0 c6_0_1 z6_0 c6_1_0 c6_1_1 z6_1 c6_2_0 c6_2_1 z6_2 c6_3_0 c6_3_1 c6_3_2 z6_3 c6_4_0 c6_4_1 z6_4
  refine (exCheck6 _ hw7_).mono ?_
  rintro e w7 ⟨rfl, hb7⟩
  have hF := FsAt.below hF_ hb7
  have hG := FsAt.below hG_ hb7
  clear hF_ hG_
  have hB7 := below_then hB7_ hb7
  have hw7 := hw7_.below hb7
  have M7 := M7_.below hb7
  clear M7_ hB7_ hb7 hw7_
  have c7_0_0 := Mem.cell (v := .slice none 0 0) M7.1 0 rfl
  have c7_0_1 := Mem.cell (v := .slice none 0 0) M7.1 1 rfl
  have z7_0 := Mem.lt M7.1
  have c7_1_0 := Mem.cell (v := .slice co 0 cc) M7.2.1 0 rfl
  have c7_1_1 := Mem.cell (v := .slice fo 1 fc) M7.2.1 1 rfl
  have z7_1 := Mem.lt M7.2.1
  have c7_2_0 := Mem.cell (v := .slice none 0 0) M7.2.2.1 0 rfl
  have c7_2_1 := Mem.cell (v := .slice (some ⟨w.heap.size + 1, 0, none⟩) 1 1) M7.2.2.1 1 rfl
  have z7_2 := Mem.lt M7.2.2.1
  have c7_3_0 := Mem.cell (v := .int .i64 0) M7.2.2.2.1 0 rfl
  have c7_3_1 := Mem.cell (v := .int .i64 0) M7.2.2.2.1 1 rfl
  have c7_3_2 := Mem.cell (v := .slice (some ⟨w.heap.size, 0, none⟩) 1 1) M7.2.2.2.1 2 rfl
  have z7_3 := Mem.lt M7.2.2.2.1
  have c7_4_0 := Mem.cell (v := .int .i64 1) M7.2.2.2.2.1 0 rfl
  have c7_4_1 := Mem.cell (v := .int .i64 0) M7.2.2.2.2.1 1 rfl
  have z7_4 := Mem.lt M7.2.2.2.2.1
  go_wp2_with fail
  refine Calls.named ?_
  intro W8 hW8
  have hB8_ : Below w.heap.size w W8 := by rw [hW8]; exact (below_al hB7 _)
  have hw8_ : LaidI W8 := by rw [hW8]; exact (hw7.alloc _)
  have M8_ := (M7).new' (w7.heap.size) (by rfl) (.cells #[.int .i64 0, .int .i64 0, .string ⟨#[]⟩, .string ⟨#[]⟩, .string ⟨#[]⟩] 50)
  rw [← hW8] at M8_
  have hS8 : Below w7.heap.size w7 W8 := by rw [hW8]; exact (below_al (Below.refl _ _) _)
  have hF_ := FsAt.below hF hS8
  have hG_ := FsAt.below hG hS8
  clear hS8 hF hG
  clear hW8
  have ZZ8_0 := Lib.hid (Mem.lt M8_.1)
  have ZZ8_1 := Lib.hid (Mem.lt M8_.2.1)
  have ZZ8_2 := Lib.hid (Mem.lt M8_.2.2.1)
  have ZZ8_3 := Lib.hid (Mem.lt M8_.2.2.2.1)
  have ZZ8_4 := Lib.hid (Mem.lt M8_.2.2.2.2.1)
  have ZZ8_5 := Lib.hid (Mem.lt M8_.2.2.2.2.2.1)
  clear c7_0_0 c7_0_1 z7_0 c7_1_0 c7_1_1 z7_1 c7_2_0 c7_2_1 z7_2 c7_3_0 c7_3_1 c7_3_2 z7_3 c7_4_0 c7_4_1 z7_4
  refine (exCheck5 _ _ hw8_ M8_.1).mono ?_
  rintro e w8 ⟨rfl, hb8⟩
  have hF := FsAt.below hF_ hb8
  have hG := FsAt.below hG_ hb8
  clear hF_ hG_
  have hB8 := below_then hB8_ hb8
  have hw8 := hw8_.below hb8
  have M8 := M8_.below hb8
  clear M8_ hB8_ hb8 hw8_
  have c8_0_0 := Mem.cell (v := .int .i64 0) M8.1 0 rfl
  have c8_0_1 := Mem.cell (v := .int .i64 0) M8.1 1 rfl
  have c8_0_2 := Mem.cell (v := .string ⟨#[]⟩) M8.1 2 rfl
  have c8_0_3 := Mem.cell (v := .string ⟨#[]⟩) M8.1 3 rfl
  have c8_0_4 := Mem.cell (v := .string ⟨#[]⟩) M8.1 4 rfl
  have z8_0 := Mem.lt M8.1
  have c8_1_0 := Mem.cell (v := .slice none 0 0) M8.2.1 0 rfl
  have c8_1_1 := Mem.cell (v := .slice none 0 0) M8.2.1 1 rfl
  have z8_1 := Mem.lt M8.2.1
  have c8_2_0 := Mem.cell (v := .slice co 0 cc) M8.2.2.1 0 rfl
  have c8_2_1 := Mem.cell (v := .slice fo 1 fc) M8.2.2.1 1 rfl
  have z8_2 := Mem.lt M8.2.2.1
  have c8_3_0 := Mem.cell (v := .slice none 0 0) M8.2.2.2.1 0 rfl
  have c8_3_1 := Mem.cell (v := .slice (some ⟨w.heap.size + 1, 0, none⟩) 1 1) M8.2.2.2.1 1 rfl
  have z8_3 := Mem.lt M8.2.2.2.1
  have c8_4_0 := Mem.cell (v := .int .i64 0) M8.2.2.2.2.1 0 rfl
  have c8_4_1 := Mem.cell (v := .int .i64 0) M8.2.2.2.2.1 1 rfl
  have c8_4_2 := Mem.cell (v := .slice (some ⟨w.heap.size, 0, none⟩) 1 1) M8.2.2.2.2.1 2 rfl
  have z8_4 := Mem.lt M8.2.2.2.2.1
  have c8_5_0 := Mem.cell (v := .int .i64 1) M8.2.2.2.2.2.1 0 rfl
  have c8_5_1 := Mem.cell (v := .int .i64 0) M8.2.2.2.2.2.1 1 rfl
  have z8_5 := Mem.lt M8.2.2.2.2.2.1
  go_wp2_with fail
  go_wp2_with fail
  go_ret
  exact ⟨rfl, hB8⟩
end Go.Proofs.YtecoeaeonedmnaaGreatDoor
