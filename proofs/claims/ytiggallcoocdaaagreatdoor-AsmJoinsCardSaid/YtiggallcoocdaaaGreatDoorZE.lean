/- OpFindA, OpParseA: joined into one text; each part says below what it holds. -/
import Derived.Test.YtiggallcoocdaaaGreatDoorOpWalkA
import Derived.Test.YtiggallcoocdaaaGreatDoorZ1
import Derived.Test.YtiggallcoocdaaaGreatDoorShelf
/- op.find, op.Parse, op.Get. -/
namespace Go.Proofs.YtiggallcoocdaaaGreatDoor
open Go.RowKit
theorem opRows_len : opRows.length = 47 := rfl
theorem find_at (w : List UInt8) (k : Nat) (hk : k < opRows.length) (h : ∀ j (hj : j < k), (opRows[j]'(by omega)).1 ≠ w) (he : opRows[k].1 = w) : findC w = k + 1 := by
  unfold findC
  rw [if_pos]
  · congr 1
    rw [List.findIdx_eq hk]
    refine ⟨by simp [he], fun j hj => ?_⟩
    simpa using h j hj
  · rw [List.any_eq_true]
    exact ⟨opRows[k], List.getElem_mem hk, by simp [he]⟩
theorem find_no (w : List UInt8) (h : ∀ j (hj : j < opRows.length), opRows[j].1 ≠ w) : findC w = 0 := by
  unfold findC
  rw [if_neg]
  rw [List.any_eq_true]
  rintro ⟨x, hx, he⟩
  obtain ⟨j, hj, rfl⟩ := List.getElem_of_mem hx
  exact h j hj (by simpa using he)
theorem find_any (word : ByteArray) (w : World) (hw : LaidOp w) : Calls Tryz.prog 59 #[.string word] w fun e w' => e = .returned (.int .i64 (findC word.data.toList : Nat)) ∧ w = w' := by
  have hsz := hw.2.1.size
  generalize hr : findC word.data.toList = R
  have HR := Lib.hid hr
  clear hr
  go_enter Tryz.func59, Tryz.ntmps59
  go_wp2_with fail
  go_loop [3, 4] (fun _ i => ∃ k : Nat, k ≤ 47 ∧ i = .int .i64 k ∧ Hid (∀ j (hj : j < opRows.length), j < k → opRows[j].1 ≠ word.data.toList)) (fun _ i => 47 - (intOf i).toNat)
  case atStart => exact ⟨0, by omega, rfl, Lib.hid (fun j hj hjk => by omega)⟩
  case round =>
    obtain ⟨k, hk, rfl, hn⟩ := hrel
    by_cases hlt : k < 47
    · have hkl : k < opRows.length := by rw [opRows_len]; exact hlt
      have hc := hw.2.1.cell k 0 opRows[k] (List.getElem?_eq_getElem hkl) (by omega)
      have hc' : w.cell? ⟨0, k * 4, none⟩ = some (.string ⟨opRows[k].1.toArray⟩) := hc
      obtain ⟨nm, hnm⟩ : ∃ nm, opRows[k].1 = nm := ⟨_, rfl⟩
      rw [hnm] at hc'
      by_cases he : nm = word.data.toList
      · have hq := str_beq he
        have hf := find_at word.data.toList k hkl (fun j hj => hn.out j (by omega) hj) (by rw [hnm, he])
        rw [HR.out] at hf
        have HF := Lib.hid hf
        clear hc hnm he hf hkl
        go_wp2_with fail
        go_ret
        exact ⟨ret_int (by rw [HF.out]; omega), rfl⟩
      · have hq := str_bne he
        have hn' : Hid (∀ j (hj : j < opRows.length), j < k + 1 → opRows[j].1 ≠ word.data.toList) := Lib.hid (fun j hj hjk => by
          by_cases hjk2 : j < k
          · exact hn.out j hj hjk2
          · obtain rfl : j = k := by omega
            rw [hnm]
            exact he)
        clear hc hnm he hkl
        go_wp2_with fail
        go_round
        case rel => exact ⟨k + 1, by omega, by go_num, hn'⟩
        case measure => simp [intOf]; omega
    · have hf := find_no word.data.toList (fun j hj => hn.out j hj (by rw [opRows_len] at hj; omega))
      rw [HR.out] at hf
      have HF := Lib.hid hf
      have hge : (47 : Int) ≤ k := by omega
      clear hf
      go_wp2_with fail
      go_ret
      exact ⟨ret_int (by rw [HF.out]; rfl), rfl⟩
end Go.Proofs.YtiggallcoocdaaaGreatDoor
/- op.Parse. -/
namespace Go.Proofs.YtiggallcoocdaaaGreatDoor
open Go.RowKit
/-- a block of two numbers, of the call's own -/
structure HeldB (w0 W : World) (B : Nat) (c a : Int) : Prop where
  c0 : W.cell? ⟨B, 0, none⟩ = some (.int .i64 c)
  c1 : W.cell? ⟨B, 1, none⟩ = some (.int .i64 a)
  f0 : W.frozen? ⟨B, 0, none⟩ = false
  f1 : W.frozen? ⟨B, 1, none⟩ = false
  hb : Below w0.heap.size w0 W
  hB : w0.heap.size ≤ B
  hs : B < W.heap.size
theorem HeldB.below {w W W' : World} {B : Nat} {c a : Int} (h : HeldB w W B c a) (hb : Below W.heap.size W W') : HeldB w W' B c a :=
  ⟨(hb.cell h.hs).trans h.c0, (hb.cell h.hs).trans h.c1, (hb.frozen h.hs).trans h.f0, (hb.frozen h.hs).trans h.f1, h.hb.trans (hb.mono h.hb.size), h.hB, Nat.lt_of_lt_of_le h.hs hb.size⟩
theorem HeldB.set1 {w W : World} {B : Nat} {c a : Int} (h : HeldB w W B c a) (x : Int) : HeldB w (W.setCell ⟨B, 1, none⟩ (.int .i64 x)) B c x :=
  ⟨(World.cell?_setCell_other W _ _ _ (by simp)).trans h.c0, World.cell?_setCell_same W _ _ h.c1, by simp [h.f0], by simp [h.f1], h.hb.setCell h.hB _, h.hB, by simp [h.hs]⟩
theorem HeldB.far {w W : World} {B : Nat} {c a : Int} (h : HeldB w W B c a) (p : Addr) (hp : w.heap.size ≤ p.block) (hne : p.block ≠ B) (x : Value) : HeldB w (W.setCell p x) B c a :=
  ⟨(World.cell?_setCell_other W _ _ _ (by rintro rfl; exact hne rfl)).trans h.c0, (World.cell?_setCell_other W _ _ _ (by rintro rfl; exact hne rfl)).trans h.c1, by simp [h.f0], by simp [h.f1], h.hb.setCell hp _, h.hB, by simp [h.hs]⟩
theorem idx_blank : ∀ l : List UInt8, (Lib.indexByte l 32 = -1 ∧ ∀ x ∈ l, (x != 32) = true) ∨ (Lib.indexByte l 32 = ((cutW l).length : Int) ∧ l = cutW l ++ 32 :: cutD l)
  | [] => Or.inl ⟨rfl, by simp⟩
  | b :: l => by
    unfold Lib.indexByte cutW cutD
    by_cases hb : b = 32
    · subst hb
      right
      simp
    · have hb' : (b == 32) = false := by simpa using hb
      have hb2 : (b != 32) = true := by simp [hb]
      rcases idx_blank l with ⟨h1, h2⟩ | ⟨h1, h2⟩
      · left
        rw [hb', h1]
        refine ⟨rfl, ?_⟩
        intro x hx
        rcases List.mem_cons.1 hx with rfl | hx
        · exact hb2
        · exact h2 x hx
      · right
        rw [hb', h1]
        have h0 : ((((cutW l).length : Int)) == -1) = false := beq_eq_false_iff_ne.2 (by omega)
        simp only [h0, Bool.false_eq_true, if_false, List.takeWhile_cons, List.dropWhile_cons, hb2, if_true, List.length_cons]
        refine ⟨by unfold cutW; simp, ?_⟩
        rw [List.cons_append]
        congr 1
theorem cut_blank (l : List UInt8) : (Lib.cut l [32]).1 = cutW l ∧ (Lib.cut l [32]).2.1 = cutD l := by
  unfold Lib.cut
  rw [Lib.index_one]
  rcases idx_blank l with ⟨h1, h2⟩ | ⟨h1, h2⟩
  · rw [h1, if_neg (by omega)]
    exact ⟨(takeWhile_all h2).1.symm, by unfold cutD; rw [(takeWhile_all h2).2]; rfl⟩
  · rw [h1, if_pos (by omega)]
    simp only [Int.toNat_natCast, List.length_singleton]
    have e1 : ∀ a b : List UInt8, l = a ++ 32 :: b → l.take a.length = a := fun a b h => by rw [h, List.take_left]
    have e2 : ∀ a b : List UInt8, l = a ++ 32 :: b → l.drop (a.length + 1) = b := fun a b h => by rw [h, ← List.drop_drop, List.drop_left]; rfl
    exact ⟨e1 _ _ h2, e2 _ _ h2⟩
def qC (r : Option (Int × Int)) : Int := match r with | none => 0 | some p => p.1
def qA (r : Option (Int × Int)) : Int := match r with | none => 0 | some p => p.2
def qO (r : Option (Int × Int)) : Bool := r.isSome
def opPEnd (r : Option (Int × Int)) : Ending := .returned (.tuple #[.agg #[.int .i64 (qC r), .int .i64 (qA r)], .bool (qO r)])
theorem opPEnd_none : opPEnd none = .returned (.tuple #[.agg #[.int .i64 0, .int .i64 0], .bool false]) := rfl
theorem opPEnd_some (c a : Int) : opPEnd (some (c, a)) = .returned (.tuple #[.agg #[.int .i64 c, .int .i64 a], .bool true]) := rfl
theorem oparse_long (s : ByteArray) (w : World) (_hs : s.size ≤ 9223372036854775807) (h : (16 : Int) < s.size) :
    Calls Tryz.prog 41 #[.string s] w fun e w' => e = opPEnd (opParse s.data.toList) ∧ Below w.heap.size w w' := by
  have hfin : opParse s.data.toList = none := by
    unfold opParse
    rw [if_pos (by rw [Array.length_toList]; have : s.data.size = s.size := rfl; omega)]
  rw [hfin, opPEnd_none]
  clear hfin
  go_enter Tryz.func41, Tryz.ntmps41
  go_wp2_with fail
  refine bodyPost_ret (v := .tuple #[.agg #[.int .i64 0, .int .i64 0], .bool false]) (by simp [results, Tryz.results41, go_sem]) rfl ⟨rfl, ?_⟩
  exact (Below.refl _ _).alloc (Nat.le_refl _) _
theorem below_drewN (w : World) (n : Nat) : Below w.heap.size w (w.drewN n) := ⟨rfl, rfl, rfl, Nat.le_refl _, fun _ _ => rfl⟩
theorem cut_any (s : ByteArray) (w : World) (hs : s.size ≤ 16) (hw : LaidOp w) :
    Calls Tryz.prog 18 #[.string s, .string ⟨#[32]⟩] w fun e w' => ∃ b, e = .returned (.tuple #[.string ⟨(cutW s.data.toList).toArray⟩, .string ⟨(cutD s.data.toList).toArray⟩, .bool b]) ∧ ∃ n, w.drewN n = w' := by
  obtain ⟨m, hm⟩ := hw.2.2
  refine (Go.Proofs.Tryz.strings_Cut s ⟨#[32]⟩ m w (by omega) hm).mono fun e w' ⟨he, n, hn⟩ => ⟨(Lib.cut s.data.toList [32]).2.2, ?_, n, hn.symm⟩
  rw [he]
  have h := cut_blank s.data.toList
  have e : (⟨#[32]⟩ : ByteArray).data.toList = [32] := rfl
  rw [e, h.1, h.2]
theorem bel2 (w : World) (o o' : Obj) (n : Nat) : Below w.heap.size w (((w.alloc o).alloc o').drewN n) :=
  (((Below.refl _ _).alloc (Nat.le_refl _) o).alloc (by simp) o').trans ((below_drewN _ n).mono (by simp; omega))
set_option maxHeartbeats 400000 in
theorem oparse_num (s : ByteArray) (w : World) (c v : Int) (h : s.size ≤ 16) (hw : LaidOp w) (HC : Hid ((findC (cutW s.data.toList) : Int) = c)) (hdl : (⟨(cutD s.data.toList).toArray⟩ : ByteArray).size ≤ 140737488351232)
    (HP : Hid ((.tuple #[.int .i64 (pV (parseS (⟨(cutD s.data.toList).toArray⟩ : ByteArray).data.toList)), .bool (pO (parseS (⟨(cutD s.data.toList).toArray⟩ : ByteArray).data.toList))] : Value) = .tuple #[.int .i64 v, .bool true]))
    (HF : Hid (opParse s.data.toList = if rightB c v = true ∧ opText c v = s.data.toList then some (c, v) else none)) (hv1 : 0 ≤ v) (hv2 : v ≤ 65535) :
    Calls Tryz.prog 41 #[.string s] w fun e w' => e = opPEnd (opParse s.data.toList) ∧ Below w.heap.size w w' := by
  have h16 : (s.size : Int) ≤ 16 := by omega
  go_enter Tryz.func41, Tryz.ntmps41
  go_wp2_with fail
  refine (cut_any _ _ h (hw.alloc _)).mono ?_
  rintro e _ ⟨b, rfl, n, rfl⟩
  go_wp2_with fail
  refine (find_any _ _ ((hw.alloc _).below (below_drewN _ n))).mono ?_
  rw [HC.out]
  rintro e _ ⟨rfl, rfl⟩
  go_wp2_with fail
  refine (parse_t _ _ hdl (hw.below (bel2 _ _ _ _)).1).mono ?_
  rw [HP.out]
  rintro e w2 ⟨rfl, hb2⟩
  have H2 := HeldB.below (w := w) (B := w.heap.size + 1) (c := c) (a := 0) ⟨by simp, by simp, by simp, by simp, bel2 _ _ _ _, by omega, by simp⟩ hb2
  have R2 := HeldB.below (w := w) (B := w.heap.size) (c := 0) (a := 0) ⟨by simp, by simp, by simp, by simp, bel2 _ _ _ _, by omega, by simp; omega⟩ hb2
  have c0 := H2.c0
  have c1 := H2.c1
  have f0 := H2.f0
  have f1 := H2.f1
  have hsz := H2.hs
  have hsr := R2.hs
  have H3 := H2.set1 v
  have R3 := R2.far ⟨w.heap.size + 1, 1, none⟩ (by simp) (by simp) (.int .i64 v)
  go_wp2_with fail
  clear c0 c1 f0 f1 hsz hsr
  cases hr : rightB c v with
  | false =>
    have HE : Hid (Ending.returned (.tuple #[.agg #[.int .i64 0, .int .i64 0], .bool false]) = opPEnd (opParse s.data.toList)) := Lib.hid (by rw [HF.out, if_neg (by rw [hr]; simp), opPEnd_none])
    refine (right_any _ _ _ (hw.below H3.hb)).mono ?_
    rw [hr]
    rintro e w4 ⟨rfl, hb4⟩
    have R4 := R3.below hb4
    have k0 := R4.c0
    have k1 := R4.c1
    have g0 := R4.f0
    have g1 := R4.f1
    have m0 := setCell_same k0
    have m1 := setCell_same k1
    clear hr
    go_wp2_with fail
    refine bodyPost_ret (v := .tuple #[.agg #[.int .i64 0, .int .i64 0], .bool false]) (by simp [results, Tryz.results41, go_sem, k0, k1]) rfl ⟨HE.out, R4.hb⟩
  | true =>
    by_cases ht : opText c v = s.data.toList
    · have HE : Hid (Ending.returned (.tuple #[.agg #[.int .i64 c, .int .i64 v], .bool true]) = opPEnd (opParse s.data.toList)) := Lib.hid (by rw [HF.out, if_pos ⟨hr, ht⟩, opPEnd_some])
      have hq := str_beq ht
      clear ht
      refine (right_any _ _ _ (hw.below H3.hb)).mono ?_
      rw [hr]
      rintro e w4 ⟨rfl, hb4⟩
      have H4 := H3.below hb4
      have k0 := H4.c0
      have k1 := H4.c1
      clear hr
      go_wp2_with fail
      refine (text_op _ _ _ (hw.below H4.hb)).mono ?_
      rintro e w5 ⟨rfl, hb5⟩
      have H5 := H4.below hb5
      have R5 := (R3.below hb4).below hb5
      clear k0 k1
      have k0 := H5.c0
      have k1 := H5.c1
      have j0 := R5.c0
      have j1 := R5.c1
      have g0 := R5.f0
      have g1 := R5.f1
      go_wp2_with fail
      refine bodyPost_ret (v := .tuple #[.agg #[.int .i64 c, .int .i64 v], .bool true]) (by simp [results, Tryz.results41, go_sem, j0, j1]) rfl ⟨HE.out, ?_⟩
      exact (R5.hb.setCell (Nat.le_refl _) _).setCell (Nat.le_refl _) _
    · have HE : Hid (Ending.returned (.tuple #[.agg #[.int .i64 0, .int .i64 0], .bool false]) = opPEnd (opParse s.data.toList)) := Lib.hid (by rw [HF.out, if_neg (by rintro ⟨_, e⟩; exact ht e), opPEnd_none])
      have hq := str_bne ht
      clear ht
      refine (right_any _ _ _ (hw.below H3.hb)).mono ?_
      rw [hr]
      rintro e w4 ⟨rfl, hb4⟩
      have H4 := H3.below hb4
      have k0 := H4.c0
      have k1 := H4.c1
      clear hr
      go_wp2_with fail
      refine (text_op _ _ _ (hw.below H4.hb)).mono ?_
      rintro e w5 ⟨rfl, hb5⟩
      have R5 := (R3.below hb4).below hb5
      clear k0 k1
      have j0 := R5.c0
      have j1 := R5.c1
      have g0 := R5.f0
      have g1 := R5.f1
      have m0 := setCell_same j0
      have m1 := setCell_same j1
      go_wp2_with fail
      refine bodyPost_ret (v := .tuple #[.agg #[.int .i64 0, .int .i64 0], .bool false]) (by simp [results, Tryz.results41, go_sem, j0, j1]) rfl ⟨HE.out, R5.hb⟩
set_option maxHeartbeats 400000 in
theorem oparse_none (s : ByteArray) (w : World) (c v : Int) (h : s.size ≤ 16) (hw : LaidOp w) (HC : Hid ((findC (cutW s.data.toList) : Int) = c)) (hdl : (⟨(cutD s.data.toList).toArray⟩ : ByteArray).size ≤ 140737488351232)
    (HP : Hid ((.tuple #[.int .i64 (pV (parseS (⟨(cutD s.data.toList).toArray⟩ : ByteArray).data.toList)), .bool (pO (parseS (⟨(cutD s.data.toList).toArray⟩ : ByteArray).data.toList))] : Value) = .tuple #[.int .i64 v, .bool false]))
    (HF : Hid (opParse s.data.toList = if rightB c 0 = true ∧ opText c 0 = s.data.toList then some (c, 0) else none)) :
    Calls Tryz.prog 41 #[.string s] w fun e w' => e = opPEnd (opParse s.data.toList) ∧ Below w.heap.size w w' := by
  have h16 : (s.size : Int) ≤ 16 := by omega
  go_enter Tryz.func41, Tryz.ntmps41
  go_wp2_with fail
  refine (cut_any _ _ h (hw.alloc _)).mono ?_
  rintro e _ ⟨b, rfl, n, rfl⟩
  go_wp2_with fail
  refine (find_any _ _ ((hw.alloc _).below (below_drewN _ n))).mono ?_
  rw [HC.out]
  rintro e _ ⟨rfl, rfl⟩
  go_wp2_with fail
  refine (parse_t _ _ hdl (hw.below (bel2 _ _ _ _)).1).mono ?_
  rw [HP.out]
  rintro e w2 ⟨rfl, hb2⟩
  have H2 := HeldB.below (w := w) (B := w.heap.size + 1) (c := c) (a := 0) ⟨by simp, by simp, by simp, by simp, bel2 _ _ _ _, by omega, by simp⟩ hb2
  have R2 := HeldB.below (w := w) (B := w.heap.size) (c := 0) (a := 0) ⟨by simp, by simp, by simp, by simp, bel2 _ _ _ _, by omega, by simp; omega⟩ hb2
  have c0 := H2.c0
  have c1 := H2.c1
  have f0 := H2.f0
  have f1 := H2.f1
  have hsz := H2.hs
  have hsr := R2.hs
  have H3 := H2
  have R3 := R2
  go_wp2_with fail
  clear c0 c1 f0 f1 hsz hsr
  cases hr : rightB c 0 with
  | false =>
    have HE : Hid (Ending.returned (.tuple #[.agg #[.int .i64 0, .int .i64 0], .bool false]) = opPEnd (opParse s.data.toList)) := Lib.hid (by rw [HF.out, if_neg (by rw [hr]; simp), opPEnd_none])
    refine (right_any _ _ _ (hw.below H3.hb)).mono ?_
    rw [hr]
    rintro e w4 ⟨rfl, hb4⟩
    have R4 := R3.below hb4
    have k0 := R4.c0
    have k1 := R4.c1
    have g0 := R4.f0
    have g1 := R4.f1
    have m0 := setCell_same k0
    have m1 := setCell_same k1
    clear hr
    go_wp2_with fail
    refine bodyPost_ret (v := .tuple #[.agg #[.int .i64 0, .int .i64 0], .bool false]) (by simp [results, Tryz.results41, go_sem, k0, k1]) rfl ⟨HE.out, R4.hb⟩
  | true =>
    by_cases ht : opText c 0 = s.data.toList
    · have HE : Hid (Ending.returned (.tuple #[.agg #[.int .i64 c, .int .i64 0], .bool true]) = opPEnd (opParse s.data.toList)) := Lib.hid (by rw [HF.out, if_pos ⟨hr, ht⟩, opPEnd_some])
      have hq := str_beq ht
      clear ht
      refine (right_any _ _ _ (hw.below H3.hb)).mono ?_
      rw [hr]
      rintro e w4 ⟨rfl, hb4⟩
      have H4 := H3.below hb4
      have k0 := H4.c0
      have k1 := H4.c1
      clear hr
      go_wp2_with fail
      refine (text_op _ _ _ (hw.below H4.hb)).mono ?_
      rintro e w5 ⟨rfl, hb5⟩
      have H5 := H4.below hb5
      have R5 := (R3.below hb4).below hb5
      clear k0 k1
      have k0 := H5.c0
      have k1 := H5.c1
      have j0 := R5.c0
      have j1 := R5.c1
      have g0 := R5.f0
      have g1 := R5.f1
      go_wp2_with fail
      refine bodyPost_ret (v := .tuple #[.agg #[.int .i64 c, .int .i64 0], .bool true]) (by simp [results, Tryz.results41, go_sem, j0, j1]) rfl ⟨HE.out, ?_⟩
      exact (R5.hb.setCell (Nat.le_refl _) _).setCell (Nat.le_refl _) _
    · have HE : Hid (Ending.returned (.tuple #[.agg #[.int .i64 0, .int .i64 0], .bool false]) = opPEnd (opParse s.data.toList)) := Lib.hid (by rw [HF.out, if_neg (by rintro ⟨_, e⟩; exact ht e), opPEnd_none])
      have hq := str_bne ht
      clear ht
      refine (right_any _ _ _ (hw.below H3.hb)).mono ?_
      rw [hr]
      rintro e w4 ⟨rfl, hb4⟩
      have H4 := H3.below hb4
      have k0 := H4.c0
      have k1 := H4.c1
      clear hr
      go_wp2_with fail
      refine (text_op _ _ _ (hw.below H4.hb)).mono ?_
      rintro e w5 ⟨rfl, hb5⟩
      have R5 := (R3.below hb4).below hb5
      clear k0 k1
      have j0 := R5.c0
      have j1 := R5.c1
      have g0 := R5.f0
      have g1 := R5.f1
      have m0 := setCell_same j0
      have m1 := setCell_same j1
      go_wp2_with fail
      refine bodyPost_ret (v := .tuple #[.agg #[.int .i64 0, .int .i64 0], .bool false]) (by simp [results, Tryz.results41, go_sem, j0, j1]) rfl ⟨HE.out, R5.hb⟩
set_option maxHeartbeats 400000 in
theorem oparse_low (s : ByteArray) (w : World) (c v : Int) (h : s.size ≤ 16) (hw : LaidOp w) (HC : Hid ((findC (cutW s.data.toList) : Int) = c)) (hdl : (⟨(cutD s.data.toList).toArray⟩ : ByteArray).size ≤ 140737488351232)
    (HP : Hid ((.tuple #[.int .i64 (pV (parseS (⟨(cutD s.data.toList).toArray⟩ : ByteArray).data.toList)), .bool (pO (parseS (⟨(cutD s.data.toList).toArray⟩ : ByteArray).data.toList))] : Value) = .tuple #[.int .i64 v, .bool true]))
    (HF : Hid (opParse s.data.toList = if rightB c 0 = true ∧ opText c 0 = s.data.toList then some (c, 0) else none)) (hv1 : v < 0) :
    Calls Tryz.prog 41 #[.string s] w fun e w' => e = opPEnd (opParse s.data.toList) ∧ Below w.heap.size w w' := by
  have h16 : (s.size : Int) ≤ 16 := by omega
  go_enter Tryz.func41, Tryz.ntmps41
  go_wp2_with fail
  refine (cut_any _ _ h (hw.alloc _)).mono ?_
  rintro e _ ⟨b, rfl, n, rfl⟩
  go_wp2_with fail
  refine (find_any _ _ ((hw.alloc _).below (below_drewN _ n))).mono ?_
  rw [HC.out]
  rintro e _ ⟨rfl, rfl⟩
  go_wp2_with fail
  refine (parse_t _ _ hdl (hw.below (bel2 _ _ _ _)).1).mono ?_
  rw [HP.out]
  rintro e w2 ⟨rfl, hb2⟩
  have H2 := HeldB.below (w := w) (B := w.heap.size + 1) (c := c) (a := 0) ⟨by simp, by simp, by simp, by simp, bel2 _ _ _ _, by omega, by simp⟩ hb2
  have R2 := HeldB.below (w := w) (B := w.heap.size) (c := 0) (a := 0) ⟨by simp, by simp, by simp, by simp, bel2 _ _ _ _, by omega, by simp; omega⟩ hb2
  have c0 := H2.c0
  have c1 := H2.c1
  have f0 := H2.f0
  have f1 := H2.f1
  have hsz := H2.hs
  have hsr := R2.hs
  have H3 := H2
  have R3 := R2
  go_wp2_with fail
  clear c0 c1 f0 f1 hsz hsr
  cases hr : rightB c 0 with
  | false =>
    have HE : Hid (Ending.returned (.tuple #[.agg #[.int .i64 0, .int .i64 0], .bool false]) = opPEnd (opParse s.data.toList)) := Lib.hid (by rw [HF.out, if_neg (by rw [hr]; simp), opPEnd_none])
    refine (right_any _ _ _ (hw.below H3.hb)).mono ?_
    rw [hr]
    rintro e w4 ⟨rfl, hb4⟩
    have R4 := R3.below hb4
    have k0 := R4.c0
    have k1 := R4.c1
    have g0 := R4.f0
    have g1 := R4.f1
    have m0 := setCell_same k0
    have m1 := setCell_same k1
    clear hr
    go_wp2_with fail
    refine bodyPost_ret (v := .tuple #[.agg #[.int .i64 0, .int .i64 0], .bool false]) (by simp [results, Tryz.results41, go_sem, k0, k1]) rfl ⟨HE.out, R4.hb⟩
  | true =>
    by_cases ht : opText c 0 = s.data.toList
    · have HE : Hid (Ending.returned (.tuple #[.agg #[.int .i64 c, .int .i64 0], .bool true]) = opPEnd (opParse s.data.toList)) := Lib.hid (by rw [HF.out, if_pos ⟨hr, ht⟩, opPEnd_some])
      have hq := str_beq ht
      clear ht
      refine (right_any _ _ _ (hw.below H3.hb)).mono ?_
      rw [hr]
      rintro e w4 ⟨rfl, hb4⟩
      have H4 := H3.below hb4
      have k0 := H4.c0
      have k1 := H4.c1
      clear hr
      go_wp2_with fail
      refine (text_op _ _ _ (hw.below H4.hb)).mono ?_
      rintro e w5 ⟨rfl, hb5⟩
      have H5 := H4.below hb5
      have R5 := (R3.below hb4).below hb5
      clear k0 k1
      have k0 := H5.c0
      have k1 := H5.c1
      have j0 := R5.c0
      have j1 := R5.c1
      have g0 := R5.f0
      have g1 := R5.f1
      go_wp2_with fail
      refine bodyPost_ret (v := .tuple #[.agg #[.int .i64 c, .int .i64 0], .bool true]) (by simp [results, Tryz.results41, go_sem, j0, j1]) rfl ⟨HE.out, ?_⟩
      exact (R5.hb.setCell (Nat.le_refl _) _).setCell (Nat.le_refl _) _
    · have HE : Hid (Ending.returned (.tuple #[.agg #[.int .i64 0, .int .i64 0], .bool false]) = opPEnd (opParse s.data.toList)) := Lib.hid (by rw [HF.out, if_neg (by rintro ⟨_, e⟩; exact ht e), opPEnd_none])
      have hq := str_bne ht
      clear ht
      refine (right_any _ _ _ (hw.below H3.hb)).mono ?_
      rw [hr]
      rintro e w4 ⟨rfl, hb4⟩
      have H4 := H3.below hb4
      have k0 := H4.c0
      have k1 := H4.c1
      clear hr
      go_wp2_with fail
      refine (text_op _ _ _ (hw.below H4.hb)).mono ?_
      rintro e w5 ⟨rfl, hb5⟩
      have R5 := (R3.below hb4).below hb5
      clear k0 k1
      have j0 := R5.c0
      have j1 := R5.c1
      have g0 := R5.f0
      have g1 := R5.f1
      have m0 := setCell_same j0
      have m1 := setCell_same j1
      go_wp2_with fail
      refine bodyPost_ret (v := .tuple #[.agg #[.int .i64 0, .int .i64 0], .bool false]) (by simp [results, Tryz.results41, go_sem, j0, j1]) rfl ⟨HE.out, R5.hb⟩
set_option maxHeartbeats 400000 in
theorem oparse_high (s : ByteArray) (w : World) (c v : Int) (h : s.size ≤ 16) (hw : LaidOp w) (HC : Hid ((findC (cutW s.data.toList) : Int) = c)) (hdl : (⟨(cutD s.data.toList).toArray⟩ : ByteArray).size ≤ 140737488351232)
    (HP : Hid ((.tuple #[.int .i64 (pV (parseS (⟨(cutD s.data.toList).toArray⟩ : ByteArray).data.toList)), .bool (pO (parseS (⟨(cutD s.data.toList).toArray⟩ : ByteArray).data.toList))] : Value) = .tuple #[.int .i64 v, .bool true]))
    (HF : Hid (opParse s.data.toList = if rightB c 0 = true ∧ opText c 0 = s.data.toList then some (c, 0) else none)) (hv1 : 0 ≤ v) (hv2 : 65535 < v) :
    Calls Tryz.prog 41 #[.string s] w fun e w' => e = opPEnd (opParse s.data.toList) ∧ Below w.heap.size w w' := by
  have h16 : (s.size : Int) ≤ 16 := by omega
  go_enter Tryz.func41, Tryz.ntmps41
  go_wp2_with fail
  refine (cut_any _ _ h (hw.alloc _)).mono ?_
  rintro e _ ⟨b, rfl, n, rfl⟩
  go_wp2_with fail
  refine (find_any _ _ ((hw.alloc _).below (below_drewN _ n))).mono ?_
  rw [HC.out]
  rintro e _ ⟨rfl, rfl⟩
  go_wp2_with fail
  refine (parse_t _ _ hdl (hw.below (bel2 _ _ _ _)).1).mono ?_
  rw [HP.out]
  rintro e w2 ⟨rfl, hb2⟩
  have H2 := HeldB.below (w := w) (B := w.heap.size + 1) (c := c) (a := 0) ⟨by simp, by simp, by simp, by simp, bel2 _ _ _ _, by omega, by simp⟩ hb2
  have R2 := HeldB.below (w := w) (B := w.heap.size) (c := 0) (a := 0) ⟨by simp, by simp, by simp, by simp, bel2 _ _ _ _, by omega, by simp; omega⟩ hb2
  have c0 := H2.c0
  have c1 := H2.c1
  have f0 := H2.f0
  have f1 := H2.f1
  have hsz := H2.hs
  have hsr := R2.hs
  have H3 := H2
  have R3 := R2
  go_wp2_with fail
  clear c0 c1 f0 f1 hsz hsr
  cases hr : rightB c 0 with
  | false =>
    have HE : Hid (Ending.returned (.tuple #[.agg #[.int .i64 0, .int .i64 0], .bool false]) = opPEnd (opParse s.data.toList)) := Lib.hid (by rw [HF.out, if_neg (by rw [hr]; simp), opPEnd_none])
    refine (right_any _ _ _ (hw.below H3.hb)).mono ?_
    rw [hr]
    rintro e w4 ⟨rfl, hb4⟩
    have R4 := R3.below hb4
    have k0 := R4.c0
    have k1 := R4.c1
    have g0 := R4.f0
    have g1 := R4.f1
    have m0 := setCell_same k0
    have m1 := setCell_same k1
    clear hr
    go_wp2_with fail
    refine bodyPost_ret (v := .tuple #[.agg #[.int .i64 0, .int .i64 0], .bool false]) (by simp [results, Tryz.results41, go_sem, k0, k1]) rfl ⟨HE.out, R4.hb⟩
  | true =>
    by_cases ht : opText c 0 = s.data.toList
    · have HE : Hid (Ending.returned (.tuple #[.agg #[.int .i64 c, .int .i64 0], .bool true]) = opPEnd (opParse s.data.toList)) := Lib.hid (by rw [HF.out, if_pos ⟨hr, ht⟩, opPEnd_some])
      have hq := str_beq ht
      clear ht
      refine (right_any _ _ _ (hw.below H3.hb)).mono ?_
      rw [hr]
      rintro e w4 ⟨rfl, hb4⟩
      have H4 := H3.below hb4
      have k0 := H4.c0
      have k1 := H4.c1
      clear hr
      go_wp2_with fail
      refine (text_op _ _ _ (hw.below H4.hb)).mono ?_
      rintro e w5 ⟨rfl, hb5⟩
      have H5 := H4.below hb5
      have R5 := (R3.below hb4).below hb5
      clear k0 k1
      have k0 := H5.c0
      have k1 := H5.c1
      have j0 := R5.c0
      have j1 := R5.c1
      have g0 := R5.f0
      have g1 := R5.f1
      go_wp2_with fail
      refine bodyPost_ret (v := .tuple #[.agg #[.int .i64 c, .int .i64 0], .bool true]) (by simp [results, Tryz.results41, go_sem, j0, j1]) rfl ⟨HE.out, ?_⟩
      exact (R5.hb.setCell (Nat.le_refl _) _).setCell (Nat.le_refl _) _
    · have HE : Hid (Ending.returned (.tuple #[.agg #[.int .i64 0, .int .i64 0], .bool false]) = opPEnd (opParse s.data.toList)) := Lib.hid (by rw [HF.out, if_neg (by rintro ⟨_, e⟩; exact ht e), opPEnd_none])
      have hq := str_bne ht
      clear ht
      refine (right_any _ _ _ (hw.below H3.hb)).mono ?_
      rw [hr]
      rintro e w4 ⟨rfl, hb4⟩
      have H4 := H3.below hb4
      have k0 := H4.c0
      have k1 := H4.c1
      clear hr
      go_wp2_with fail
      refine (text_op _ _ _ (hw.below H4.hb)).mono ?_
      rintro e w5 ⟨rfl, hb5⟩
      have R5 := (R3.below hb4).below hb5
      clear k0 k1
      have j0 := R5.c0
      have j1 := R5.c1
      have g0 := R5.f0
      have g1 := R5.f1
      have m0 := setCell_same j0
      have m1 := setCell_same j1
      go_wp2_with fail
      refine bodyPost_ret (v := .tuple #[.agg #[.int .i64 0, .int .i64 0], .bool false]) (by simp [results, Tryz.results41, go_sem, j0, j1]) rfl ⟨HE.out, R5.hb⟩
theorem opParse_eq (l : List UInt8) (d : Int) (h : l.length ≤ 16) (hd : digB (cutD l) = d) :
    opParse l = if rightB (findC (cutW l) : Int) d = true ∧ opText (findC (cutW l) : Int) d = l then some ((findC (cutW l) : Int), d) else none := by
  subst hd
  unfold opParse
  rw [if_neg (by omega)]
theorem oparse_any (s : ByteArray) (w : World) (hs : s.size ≤ 9223372036854775807) (hw : LaidOp w) :
    Calls Tryz.prog 41 #[.string s] w fun e w' => e = opPEnd (opParse s.data.toList) ∧ Below w.heap.size w w' := by
  by_cases h : s.size ≤ 16
  · have hl : s.data.toList.length ≤ 16 := by rw [Array.length_toList]; exact h
    have hdl : (⟨(cutD s.data.toList).toArray⟩ : ByteArray).size ≤ 140737488351232 := by
      have h1 : (cutD s.data.toList).length ≤ s.data.toList.length := by
        unfold cutD
        rw [List.length_tail]
        have := (List.dropWhile_suffix (fun x => x != 32) (l := s.data.toList)).length_le
        omega
      simp only [ByteArray.size, List.size_toArray]
      omega
    have e : (⟨(cutD s.data.toList).toArray⟩ : ByteArray).data.toList = cutD s.data.toList := by simp
    cases hp : parseS (cutD s.data.toList) with
    | none =>
      have hd : digB (cutD s.data.toList) = 0 := by unfold digB; rw [hp]
      exact oparse_none s w _ 0 h hw (Lib.hid rfl) hdl (Lib.hid (by rw [e, hp]; rfl)) (Lib.hid (opParse_eq _ 0 hl hd))
    | some v =>
      by_cases h0 : 0 ≤ v
      · by_cases h1 : v ≤ 65535
        · have hd : digB (cutD s.data.toList) = v := by unfold digB; rw [hp]; simp only; rw [if_pos ⟨h0, h1⟩]
          exact oparse_num s w _ v h hw (Lib.hid rfl) hdl (Lib.hid (by rw [e, hp]; rfl)) (Lib.hid (opParse_eq _ v hl hd)) h0 h1
        · have hd : digB (cutD s.data.toList) = 0 := by unfold digB; rw [hp]; simp only; rw [if_neg (by omega)]
          exact oparse_high s w _ v h hw (Lib.hid rfl) hdl (Lib.hid (by rw [e, hp]; rfl)) (Lib.hid (opParse_eq _ 0 hl hd)) h0 (by omega)
      · have hd : digB (cutD s.data.toList) = 0 := by unfold digB; rw [hp]; simp only; rw [if_neg (by omega)]
        exact oparse_low s w _ v h hw (Lib.hid rfl) hdl (Lib.hid (by rw [e, hp]; rfl)) (Lib.hid (opParse_eq _ 0 hl hd)) (by omega)
  · exact oparse_long s w hs (by omega)
theorem oparse_t (s : ByteArray) (w : World) (hs : s.size ≤ 9223372036854775807) (hw : LaidOp w) :
    Calls Tryz.prog 41 #[.string s] w fun e w' => e = .returned (.tuple #[.agg #[.int .i64 (qC (opParse s.data.toList)), .int .i64 (qA (opParse s.data.toList))], .bool (qO (opParse s.data.toList))]) ∧ Below w.heap.size w w' :=
  oparse_any s w hs hw
end Go.Proofs.YtiggallcoocdaaaGreatDoor
