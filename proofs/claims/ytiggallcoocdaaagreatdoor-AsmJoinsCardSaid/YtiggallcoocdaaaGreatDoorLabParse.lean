/- label.Parse, by what cnf.Parse does. -/
import Derived.Test.YtiggallcoocdaaaGreatDoorZ6
import Derived.Test.YtiggallcoocdaaaGreatDoorImA
namespace Go.Proofs.YtiggallcoocdaaaGreatDoor
open Go.RowKit
theorem LaidI.len {w : World} (h : LaidI w) : MaxLenAt w := h.o.2.2
theorem cut_lib (p : UInt8) (s : ByteArray) (w : World) (hs : s.size < 4294967281) (hw : LaidI w) :
    Calls Tryz.prog 18 #[.string s, .string ⟨#[p]⟩] w fun e w' => e = .returned (.tuple #[.string ⟨((cutP p s.data.toList).getD (s.data.toList, [])).1.toArray⟩, .string ⟨((cutP p s.data.toList).getD (s.data.toList, [])).2.toArray⟩, .bool (cutP p s.data.toList).isSome]) ∧ Below w.heap.size w w' := by
  obtain ⟨m, hm⟩ := hw.len
  refine (Tryz.strings_Cut s ⟨#[p]⟩ m w hs hm).mono ?_
  rintro e w' ⟨rfl, n, rfl⟩
  refine ⟨?_, ⟨rfl, rfl, rfl, Nat.le_refl _, fun _ _ => rfl⟩⟩
  rw [show (⟨#[p]⟩ : ByteArray).data.toList = [p] from rfl, cut_P]
  cases cutP p s.data.toList with
  | none => rfl
  | some x => rfl
/-- what cnf.Parse does -/
def CParse : Prop := ∀ (s : ByteArray) (w : World), s.size < 4294967281 → LaidI w →
  Calls Tryz.prog 72 #[.string s] w fun e w' => e = .returned (.tuple #[.string ⟨((parseFm s.data.toList).getD []).toArray⟩, .bool (parseFm s.data.toList).isSome]) ∧ Below w.heap.size w w'
def lS (r : Option Lb) : List UInt8 := match r with | none => [] | some l => l.S
def lI (r : Option Lb) : List UInt8 := match r with | none => [] | some l => l.I
def KCut (s A B : ByteArray) (b : Bool) : Prop := ∀ W, LaidI W → Calls Tryz.prog 18 #[.string s, .string ⟨#[47]⟩] W fun e w' => e = .returned (.tuple #[.string A, .string B, .bool b]) ∧ Below W.heap.size W w'
def KPar (s A : ByteArray) (b : Bool) : Prop := ∀ W, LaidI W → Calls Tryz.prog 72 #[.string s] W fun e w' => e = .returned (.tuple #[.string A, .bool b]) ∧ Below W.heap.size W w'
set_option maxRecDepth 100000 in
set_option maxHeartbeats 4000000 in
theorem lparse_no0 (s A B : ByteArray) (w : World) (hw : LaidI w) (hk : KCut s A B false) :
    Calls Tryz.prog 54 #[.string s] w fun e w' => e = .returned (.tuple #[.agg #[.string ⟨#[]⟩, .string ⟨#[]⟩], .bool false]) ∧ Below w.heap.size w w' := by
  go_enter Tryz.func54, Tryz.ntmps54
  have hB0 := Below.refl w.heap.size w
  have M0 := Mem.nil w
  have hw0 := hw
  go_wp2_with fail
  refine Calls.named ?_
  intro W1 hW1
  have hB1_ : Below w.heap.size w W1 := by rw [hW1]; exact (below_al hB0 _)
  have hw1_ : LaidI W1 := by rw [hW1]; exact (hw.alloc _)
  have M1_ := (M0).new' (w.heap.size) (by rfl) (.cells #[.string ⟨#[]⟩, .string ⟨#[]⟩] 48)
  rw [← hW1] at M1_
  clear hW1
  have ZZ1_0 := Lib.hid (Mem.lt M1_.1)
  refine (hk _ hw1_).mono ?_
  rintro e w1 ⟨rfl, hb1⟩
  have hB1 := below_then hB1_ hb1
  have hw1 := hw1_.below hb1
  have M1 := M1_.below hb1
  clear M1_ hB1_ hb1 hw1_
  have c1_0_0 := Mem.cell (v := .string ⟨#[]⟩) M1.1 0 rfl
  have c1_0_1 := Mem.cell (v := .string ⟨#[]⟩) M1.1 1 rfl
  have z1_0 := Mem.lt M1.1
  have f1 := fun j => Mem.free M1.1 j
  go_wp2_with fail
  have hX1 := set_block (M1).1 [.string ⟨#[]⟩, .string ⟨#[]⟩] rfl
  have hY1 := below_setCells (B := w.heap.size) hB1 (b := w.heap.size) (by have := hB1.size; omega) 0 [.string ⟨#[]⟩, .string ⟨#[]⟩]
  obtain ⟨W_e, hW_e⟩ : ∃ W_e, W_e = w1.setCells (w.heap.size) 0 [.string ⟨#[]⟩, .string ⟨#[]⟩] := ⟨_, rfl⟩
  rw [← hW_e] at hX1 hY1
  refine at_world hW_e ?_
  have k_0 := Mem.cell (v := .string ⟨#[]⟩) hX1 0 rfl
  have k_1 := Mem.cell (v := .string ⟨#[]⟩) hX1 1 rfl
  refine bodyPost_ret (v := .tuple #[.agg #[.string ⟨#[]⟩, .string ⟨#[]⟩], .bool false]) (by simp [results, Tryz.results54, go_sem, k_0, k_1]) rfl ⟨rfl, hY1⟩
set_option maxRecDepth 100000 in
set_option maxHeartbeats 4000000 in
theorem lparse_no1 (s A B : ByteArray) (w : World) (hw : LaidI w) (hk : KCut s A B true) (h1 : KPar A ⟨#[]⟩ false) :
    Calls Tryz.prog 54 #[.string s] w fun e w' => e = .returned (.tuple #[.agg #[.string ⟨#[]⟩, .string ⟨#[]⟩], .bool false]) ∧ Below w.heap.size w w' := by
  go_enter Tryz.func54, Tryz.ntmps54
  have hB0 := Below.refl w.heap.size w
  have M0 := Mem.nil w
  have hw0 := hw
  go_wp2_with fail
  refine Calls.named ?_
  intro W1 hW1
  have hB1_ : Below w.heap.size w W1 := by rw [hW1]; exact (below_al hB0 _)
  have hw1_ : LaidI W1 := by rw [hW1]; exact (hw.alloc _)
  have M1_ := (M0).new' (w.heap.size) (by rfl) (.cells #[.string ⟨#[]⟩, .string ⟨#[]⟩] 48)
  rw [← hW1] at M1_
  clear hW1
  have ZZ1_0 := Lib.hid (Mem.lt M1_.1)
  refine (hk _ hw1_).mono ?_
  rintro e w1 ⟨rfl, hb1⟩
  have hB1 := below_then hB1_ hb1
  have hw1 := hw1_.below hb1
  have M1 := M1_.below hb1
  clear M1_ hB1_ hb1 hw1_
  have c1_0_0 := Mem.cell (v := .string ⟨#[]⟩) M1.1 0 rfl
  have c1_0_1 := Mem.cell (v := .string ⟨#[]⟩) M1.1 1 rfl
  have z1_0 := Mem.lt M1.1
  go_wp2_with fail
  refine Calls.named ?_
  intro W2 hW2
  have hB2_ : Below w.heap.size w W2 := by rw [hW2]; exact hB1
  have hw2_ : LaidI W2 := by rw [hW2]; exact hw1
  have M2_ := M1
  rw [← hW2] at M2_
  clear hW2
  have ZZ2_0 := Lib.hid (Mem.lt M2_.1)
  clear c1_0_0 c1_0_1 z1_0
  refine (h1 _ hw2_).mono ?_
  rintro e w2 ⟨rfl, hb2⟩
  have hB2 := below_then hB2_ hb2
  have hw2 := hw2_.below hb2
  have M2 := M2_.below hb2
  clear M2_ hB2_ hb2 hw2_
  have c2_0_0 := Mem.cell (v := .string ⟨#[]⟩) M2.1 0 rfl
  have c2_0_1 := Mem.cell (v := .string ⟨#[]⟩) M2.1 1 rfl
  have z2_0 := Mem.lt M2.1
  have f2 := fun j => Mem.free M2.1 j
  go_wp2_with fail
  have hX2 := set_block (M2).1 [.string ⟨#[]⟩, .string ⟨#[]⟩] rfl
  have hY2 := below_setCells (B := w.heap.size) hB2 (b := w.heap.size) (by have := hB2.size; omega) 0 [.string ⟨#[]⟩, .string ⟨#[]⟩]
  obtain ⟨W_e, hW_e⟩ : ∃ W_e, W_e = w2.setCells (w.heap.size) 0 [.string ⟨#[]⟩, .string ⟨#[]⟩] := ⟨_, rfl⟩
  rw [← hW_e] at hX2 hY2
  refine at_world hW_e ?_
  have k_0 := Mem.cell (v := .string ⟨#[]⟩) hX2 0 rfl
  have k_1 := Mem.cell (v := .string ⟨#[]⟩) hX2 1 rfl
  refine bodyPost_ret (v := .tuple #[.agg #[.string ⟨#[]⟩, .string ⟨#[]⟩], .bool false]) (by simp [results, Tryz.results54, go_sem, k_0, k_1]) rfl ⟨rfl, hY2⟩
set_option maxRecDepth 100000 in
set_option maxHeartbeats 4000000 in
theorem lparse_no2 (s A B S : ByteArray) (w : World) (hw : LaidI w) (hk : KCut s A B true) (h1 : KPar A S true) (h2 : KPar B ⟨#[]⟩ false) :
    Calls Tryz.prog 54 #[.string s] w fun e w' => e = .returned (.tuple #[.agg #[.string ⟨#[]⟩, .string ⟨#[]⟩], .bool false]) ∧ Below w.heap.size w w' := by
  go_enter Tryz.func54, Tryz.ntmps54
  have hB0 := Below.refl w.heap.size w
  have M0 := Mem.nil w
  have hw0 := hw
  go_wp2_with fail
  refine Calls.named ?_
  intro W1 hW1
  have hB1_ : Below w.heap.size w W1 := by rw [hW1]; exact (below_al hB0 _)
  have hw1_ : LaidI W1 := by rw [hW1]; exact (hw.alloc _)
  have M1_ := (M0).new' (w.heap.size) (by rfl) (.cells #[.string ⟨#[]⟩, .string ⟨#[]⟩] 48)
  rw [← hW1] at M1_
  clear hW1
  have ZZ1_0 := Lib.hid (Mem.lt M1_.1)
  refine (hk _ hw1_).mono ?_
  rintro e w1 ⟨rfl, hb1⟩
  have hB1 := below_then hB1_ hb1
  have hw1 := hw1_.below hb1
  have M1 := M1_.below hb1
  clear M1_ hB1_ hb1 hw1_
  have c1_0_0 := Mem.cell (v := .string ⟨#[]⟩) M1.1 0 rfl
  have c1_0_1 := Mem.cell (v := .string ⟨#[]⟩) M1.1 1 rfl
  have z1_0 := Mem.lt M1.1
  go_wp2_with fail
  refine Calls.named ?_
  intro W2 hW2
  have hB2_ : Below w.heap.size w W2 := by rw [hW2]; exact hB1
  have hw2_ : LaidI W2 := by rw [hW2]; exact hw1
  have M2_ := M1
  rw [← hW2] at M2_
  clear hW2
  have ZZ2_0 := Lib.hid (Mem.lt M2_.1)
  clear c1_0_0 c1_0_1 z1_0
  refine (h1 _ hw2_).mono ?_
  rintro e w2 ⟨rfl, hb2⟩
  have hB2 := below_then hB2_ hb2
  have hw2 := hw2_.below hb2
  have M2 := M2_.below hb2
  clear M2_ hB2_ hb2 hw2_
  have c2_0_0 := Mem.cell (v := .string ⟨#[]⟩) M2.1 0 rfl
  have c2_0_1 := Mem.cell (v := .string ⟨#[]⟩) M2.1 1 rfl
  have z2_0 := Mem.lt M2.1
  go_wp2_with fail
  refine Calls.named ?_
  intro W3 hW3
  have hB3_ : Below w.heap.size w W3 := by rw [hW3]; exact hB2
  have hw3_ : LaidI W3 := by rw [hW3]; exact hw2
  have M3_ := M2
  rw [← hW3] at M3_
  clear hW3
  have ZZ3_0 := Lib.hid (Mem.lt M3_.1)
  clear c2_0_0 c2_0_1 z2_0
  refine (h2 _ hw3_).mono ?_
  rintro e w3 ⟨rfl, hb3⟩
  have hB3 := below_then hB3_ hb3
  have hw3 := hw3_.below hb3
  have M3 := M3_.below hb3
  clear M3_ hB3_ hb3 hw3_
  have c3_0_0 := Mem.cell (v := .string ⟨#[]⟩) M3.1 0 rfl
  have c3_0_1 := Mem.cell (v := .string ⟨#[]⟩) M3.1 1 rfl
  have z3_0 := Mem.lt M3.1
  have f3 := fun j => Mem.free M3.1 j
  go_wp2_with fail
  have hX3 := set_block (M3).1 [.string ⟨#[]⟩, .string ⟨#[]⟩] rfl
  have hY3 := below_setCells (B := w.heap.size) hB3 (b := w.heap.size) (by have := hB3.size; omega) 0 [.string ⟨#[]⟩, .string ⟨#[]⟩]
  obtain ⟨W_e, hW_e⟩ : ∃ W_e, W_e = w3.setCells (w.heap.size) 0 [.string ⟨#[]⟩, .string ⟨#[]⟩] := ⟨_, rfl⟩
  rw [← hW_e] at hX3 hY3
  refine at_world hW_e ?_
  have k_0 := Mem.cell (v := .string ⟨#[]⟩) hX3 0 rfl
  have k_1 := Mem.cell (v := .string ⟨#[]⟩) hX3 1 rfl
  refine bodyPost_ret (v := .tuple #[.agg #[.string ⟨#[]⟩, .string ⟨#[]⟩], .bool false]) (by simp [results, Tryz.results54, go_sem, k_0, k_1]) rfl ⟨rfl, hY3⟩
set_option maxRecDepth 100000 in
set_option maxHeartbeats 4000000 in
theorem lparse_yes (s A B S I : ByteArray) (w : World) (hw : LaidI w) (hk : KCut s A B true) (h1 : KPar A S true) (h2 : KPar B I true) :
    Calls Tryz.prog 54 #[.string s] w fun e w' => e = .returned (.tuple #[.agg #[.string S, .string I], .bool true]) ∧ Below w.heap.size w w' := by
  go_enter Tryz.func54, Tryz.ntmps54
  have hB0 := Below.refl w.heap.size w
  have M0 := Mem.nil w
  have hw0 := hw
  go_wp2_with fail
  refine Calls.named ?_
  intro W1 hW1
  have hB1_ : Below w.heap.size w W1 := by rw [hW1]; exact (below_al hB0 _)
  have hw1_ : LaidI W1 := by rw [hW1]; exact (hw.alloc _)
  have M1_ := (M0).new' (w.heap.size) (by rfl) (.cells #[.string ⟨#[]⟩, .string ⟨#[]⟩] 48)
  rw [← hW1] at M1_
  clear hW1
  have ZZ1_0 := Lib.hid (Mem.lt M1_.1)
  refine (hk _ hw1_).mono ?_
  rintro e w1 ⟨rfl, hb1⟩
  have hB1 := below_then hB1_ hb1
  have hw1 := hw1_.below hb1
  have M1 := M1_.below hb1
  clear M1_ hB1_ hb1 hw1_
  have c1_0_0 := Mem.cell (v := .string ⟨#[]⟩) M1.1 0 rfl
  have c1_0_1 := Mem.cell (v := .string ⟨#[]⟩) M1.1 1 rfl
  have z1_0 := Mem.lt M1.1
  go_wp2_with fail
  refine Calls.named ?_
  intro W2 hW2
  have hB2_ : Below w.heap.size w W2 := by rw [hW2]; exact hB1
  have hw2_ : LaidI W2 := by rw [hW2]; exact hw1
  have M2_ := M1
  rw [← hW2] at M2_
  clear hW2
  have ZZ2_0 := Lib.hid (Mem.lt M2_.1)
  clear c1_0_0 c1_0_1 z1_0
  refine (h1 _ hw2_).mono ?_
  rintro e w2 ⟨rfl, hb2⟩
  have hB2 := below_then hB2_ hb2
  have hw2 := hw2_.below hb2
  have M2 := M2_.below hb2
  clear M2_ hB2_ hb2 hw2_
  have c2_0_0 := Mem.cell (v := .string ⟨#[]⟩) M2.1 0 rfl
  have c2_0_1 := Mem.cell (v := .string ⟨#[]⟩) M2.1 1 rfl
  have z2_0 := Mem.lt M2.1
  go_wp2_with fail
  refine Calls.named ?_
  intro W3 hW3
  have hB3_ : Below w.heap.size w W3 := by rw [hW3]; exact hB2
  have hw3_ : LaidI W3 := by rw [hW3]; exact hw2
  have M3_ := M2
  rw [← hW3] at M3_
  clear hW3
  have ZZ3_0 := Lib.hid (Mem.lt M3_.1)
  clear c2_0_0 c2_0_1 z2_0
  refine (h2 _ hw3_).mono ?_
  rintro e w3 ⟨rfl, hb3⟩
  have hB3 := below_then hB3_ hb3
  have hw3 := hw3_.below hb3
  have M3 := M3_.below hb3
  clear M3_ hB3_ hb3 hw3_
  have c3_0_0 := Mem.cell (v := .string ⟨#[]⟩) M3.1 0 rfl
  have c3_0_1 := Mem.cell (v := .string ⟨#[]⟩) M3.1 1 rfl
  have z3_0 := Mem.lt M3.1
  have f3 := fun j => Mem.free M3.1 j
  go_wp2_with fail
  have hX3 := set_block (M3).1 [.string S, .string I] rfl
  have hY3 := below_setCells (B := w.heap.size) hB3 (b := w.heap.size) (by have := hB3.size; omega) 0 [.string S, .string I]
  obtain ⟨W_e, hW_e⟩ : ∃ W_e, W_e = w3.setCells (w.heap.size) 0 [.string S, .string I] := ⟨_, rfl⟩
  rw [← hW_e] at hX3 hY3
  refine at_world hW_e ?_
  have k_0 := Mem.cell (v := .string S) hX3 0 rfl
  have k_1 := Mem.cell (v := .string I) hX3 1 rfl
  refine bodyPost_ret (v := .tuple #[.agg #[.string S, .string I], .bool true]) (by simp [results, Tryz.results54, go_sem, k_0, k_1]) rfl ⟨rfl, hY3⟩
/-- label.Parse -/
theorem lparse_any (HC : CParse) (s : ByteArray) (w : World) (hs : s.size < 4294967281) (hw : LaidI w) :
    Calls Tryz.prog 54 #[.string s] w fun e w' => e = .returned (.tuple #[.agg #[.string ⟨(lS (parseLb s.data.toList)).toArray⟩, .string ⟨(lI (parseLb s.data.toList)).toArray⟩], .bool (parseLb s.data.toList).isSome]) ∧ Below w.heap.size w w' := by
  have hk := fun W hW => cut_lib 47 s W hs hW
  unfold parseLb
  cases hcut : cutP 47 s.data.toList with
  | none =>
    rw [hcut] at hk
    exact lparse_no0 s _ _ w hw hk
  | some x =>
    obtain ⟨a, b⟩ := x
    rw [hcut] at hk
    have h1 := congrArg List.length (cutP_some hcut).1
    have h2 : s.data.toList.length = s.size := Array.length_toList
    rw [h2, List.length_append, List.length_cons] at h1
    have ha := fun W hW => HC ⟨a.toArray⟩ W (by rw [show (⟨a.toArray⟩ : ByteArray).size = a.length from List.size_toArray]; omega) hW
    have hb := fun W hW => HC ⟨b.toArray⟩ W (by rw [show (⟨b.toArray⟩ : ByteArray).size = b.length from List.size_toArray]; omega) hW
    simp only
    cases hs1 : parseFm a with
    | none =>
      simp only [hs1] at ha
      exact lparse_no1 s _ _ w hw hk ha
    | some S =>
      simp only [hs1] at ha
      cases hs2 : parseFm b with
      | none =>
        simp only [hs2] at hb
        exact lparse_no2 s _ _ _ w hw hk ha hb
      | some I =>
        simp only [hs2] at hb
        exact lparse_yes s _ _ _ _ w hw hk ha hb
end Go.Proofs.YtiggallcoocdaaaGreatDoor
