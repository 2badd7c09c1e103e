/- Rdr, Rdr2, Rdr3, Rdr4: joined into one text; each part says below what it holds. -/
import Derived.Test.YtiggallcoocdaaaGreatDoorZ8
import Derived.Test.YtiggallcoocdaaaGreatDoorLabParse
import Derived.Test.YtiggallcoocdaaaGreatDoorZ9
import Derived.Test.YtiggallcoocdaaaGreatDoorZ5
import Derived.Deep.RegionLaw
import Derived.Test.YtiggallcoocdaaaGreatDoorZE
/- The reader's methods: constant. -/
namespace Go.Proofs.YtiggallcoocdaaaGreatDoor
open Go.RowKit
def rdP (b : Nat) : Value := .pointer (some ⟨b, 0, none⟩)
theorem FnAp.len0 {w : World} {B : Nat} {v : Value} {fs : List Fn} (h : FnAp w B v fs) : ∃ ao cap, v = .slice ao fs.length cap := h.slice
set_option maxRecDepth 100000 in
set_option maxHeartbeats 4000000 in
theorem const_no (b N : Nat) (im : Im) (k n : Int) (m S I : ByteArray) (w : World) (h : RD b N im w) (hne : im.fs ≠ []) :
    Calls Tryz.prog 53 #[.pointer (some ⟨b, 0, none⟩), .agg #[.int .i64 k, .int .i64 n, .string m, .string S, .string I]] w fun e w' => e = .returned (.bool false) ∧ RD b N im w' ∧ Kept2 N b b w w' := by
  obtain ⟨cv, fv, hbk, hown, hfn⟩ := h.ex
  obtain ⟨ao, cap, rfl⟩ := hfn.slice
  obtain ⟨q, hq⟩ : ∃ q, q = im.fs.length := ⟨_, rfl⟩
  rw [← hq] at hbk
  have hq0 : (0 : Int) < (q : Int) := by
    have : im.fs.length ≠ 0 := fun e => hne (List.eq_nil_of_length_eq_zero e)
    omega
  have c1 := Mem.cell (v := .slice ao q cap) hbk 1 rfl
  have hbw := Mem.lt hbk
  have HB0 := Lib.hid (Below.refl w.heap.size w)
  have H := Lib.hid h
  clear h hown hfn hq hbk hne
  go_enter Tryz.func53, Tryz.ntmps53
  go_wp2_with fail
  go_ret
  have hb := below_al HB0.out (.cells #[.int .i64 k, .int .i64 n, .string m, .string S, .string I] 50)
  exact ⟨rfl, H.out.below hb, H.out.kept hb⟩
set_option maxRecDepth 100000 in
set_option maxHeartbeats 4000000 in
theorem const_yes (b N : Nat) (im : Im) (k n : Int) (m S I : List UInt8) (w : World) (h : RD b N im w) (hne : im.fs = []) (hsz : im.cs.length ≤ 1000000000) :
    Calls Tryz.prog 53 #[.pointer (some ⟨b, 0, none⟩), .agg #[.int .i64 k, .int .i64 n, .string ⟨m.toArray⟩, .string ⟨S.toArray⟩, .string ⟨I.toArray⟩]] w fun e w' => e = .returned (.bool true) ∧ RD b N ⟨im.cs ++ [⟨k, n, m, ⟨S, I⟩⟩], im.fs⟩ w' ∧ Kept2 N b b w w' := by
  obtain ⟨i0, hi, hz0, hz1, hz2⟩ := info_parts infLV
  obtain ⟨cv, fv, hbk, hown, hfn⟩ := h.ex
  obtain ⟨ao, cap, rfl⟩ := hfn.slice
  have hq0 : im.fs.length = 0 := by rw [hne]; rfl
  rw [hq0] at hbk
  obtain ⟨mm, hmm⟩ : ∃ x : ByteArray, x = ⟨m.toArray⟩ := ⟨_, rfl⟩
  obtain ⟨sS, hsS⟩ : ∃ x : ByteArray, x = ⟨S.toArray⟩ := ⟨_, rfl⟩
  obtain ⟨sI, hsI⟩ : ∃ x : ByteArray, x = ⟨I.toArray⟩ := ⟨_, rfl⟩
  rw [← hmm, ← hsS, ← hsI]
  have HV : Hid (vrow ⟨k, n, m, ⟨S, I⟩⟩ = [.int .i64 k, .int .i64 n, .string mm, .string sS, .string sI]) := Lib.hid (by rw [hmm, hsS, hsI]; rfl)
  obtain ⟨L, hL⟩ : ∃ L, L = im.cs.length := ⟨_, rfl⟩
  rw [← hL] at hsz
  have HL := Lib.hid hL
  have hbN := h.hb
  have hNw := h.hN
  have HBK := Lib.hid hbk
  have HOW := Lib.hid hown
  have HFN := Lib.hid hfn
  have HB0 := Lib.hid (Below.refl w.heap.size w)
  have c0 := Mem.cell (v := cv) hbk 0 rfl
  have c1 := Mem.cell (v := .slice ao 0 cap) hbk 1 rfl
  have hbw := Mem.lt hbk
  clear h hbk hown hfn hmm hsS hsI hL hne
  go_enter Tryz.func53, Tryz.ntmps53
  go_upto_region 3 with (fail)
  refine wp_named ?_
  intro w1 hW1
  have hB1 : Below w.heap.size w w1 := by rw [hW1]; exact below_al HB0.out _
  have M1 := (Mem.nil w).new (.cells #[.int .i64 k, .int .i64 n, .string mm, .string sS, .string sI] 50)
  rw [← hW1] at M1
  have hbk1 := (hB1.block b hbw).trans HBK.out
  replace c0 := Mem.cell (v := cv) hbk1 0 rfl
  replace c1 := Mem.cell (v := .slice ao 0 cap) hbk1 1 rfl
  have d0 := Mem.cell (v := .int .i64 k) M1.1 0 rfl
  have d1 := Mem.cell (v := .int .i64 n) M1.1 1 rfl
  have d2 := Mem.cell (v := .string mm) M1.1 2 rfl
  have d3 := Mem.cell (v := .string sS) M1.1 3 rfl
  have d4 := Mem.cell (v := .string sI) M1.1 4 rfl
  clear hW1
  have hown1 := ownsRow_keep HOW.out hB1
  rw [← HL.out] at hown1
  have hlow := row_low hown1
  have f0 := Mem.free hbk1 0
  have ROB := Lib.hid (fun W' (h : Below w1.heap.size w1 W') => ownsRow_keep hown1 h)
  have HBK1 := Lib.hid hbk1
  have hf1 := HFN.out.keep hB1
  rw [hq0] at hf1
  have HF1 := Lib.hid hf1
  have hsz1 := hB1.size
  have hbw1 : b < w1.heap.size := by omega
  have HM1 := Lib.hid M1
  clear hown1 hbk1 M1 hf1
  go_region_law (refine step_append_own (by rfl) _ _ 24 (by rfl) N 50 i0 _ 5 64 Tryz.underlying24 hi hz0 hz1 hz2 rfl (by omega) cv L _ (by rfl) (ROB.out _ (by repeat' (first | exact Below.refl _ _ | refine below_dr ?_ | refine below_al ?_ _))) ⟨w1.heap.size, 0, none⟩ 1 1 [.int .i64 k, .int .i64 n, .string mm, .string sS, .string sI] (by rfl) (by rfl) (World.news_of_block (cs := #[.int .i64 k, .int .i64 n, .string mm, .string sS, .string sI]) (t := 50) (fr := (0, 0)) (heap_alloc_new _ _)) (by simp [Value.oneCell']) (by unfold maxLen; omega) (by omega) (by simp; omega) ?_; intro v' w2 hown' hgrow; obtain ⟨ao', n', cap', rfl⟩ := owns_slice hown'; have hbk2 : w2.heap[b]? = some (.cells #[cv, .slice ao 0 cap] 54) := (hgrow.block _ (by simp; omega) (fun e => by have := hlow _ e.symm; omega)).trans ((((by repeat' (first | exact Below.refl _ _ | refine below_dr ?_ | refine below_al ?_ _)) : Below w1.heap.size w1 _).block _ (by omega)).trans HBK1.out); have f2 := Mem.free hbk2 0; have d2 := Mem.cell (v := cv) hbk2 0 rfl)
  all_goals
    have hR := RD.const (b := b) (N := N) (im := im) (cv := cv) (fv := .slice ao 0 cap) hbN (Nat.le_trans (Nat.le_trans hNw hsz1) ((by repeat' (first | exact Below.refl _ _ | refine below_dr ?_ | refine below_al ?_ _)) : Below w1.heap.size w1 _).size) ((((by repeat' (first | exact Below.refl _ _ | refine below_dr ?_ | refine below_al ?_ _)) : Below w1.heap.size w1 _).block b hbw1).trans HBK1.out) (by rw [← HL.out]; exact ROB.out _ (by repeat' (first | exact Below.refl _ _ | refine below_dr ?_ | refine below_al ?_ _))) (HF1.out.keep (by repeat' (first | exact Below.refl _ _ | refine below_dr ?_ | refine below_al ?_ _))) ⟨k, n, m, ⟨S, I⟩⟩ (by rw [← HL.out, HV.out]; exact hown') hgrow
    have hK := (Kept2.of_below (p := b) (q := b) (hB1.trans (((by repeat' (first | exact Below.refl _ _ | refine below_dr ?_ | refine below_al ?_ _)) : Below w1.heap.size w1 _).mono hsz1)) hNw).trans hR.2
    have HR := Lib.hid hR.1
    have HK := Lib.hid hK
    clear hR hK hown' hgrow hbk2 f2 d2 f0 c0 c1
    go_wp2_with fail
    go_ret
    exact ⟨rfl, HR.out, HK.out⟩
end Go.Proofs.YtiggallcoocdaaaGreatDoor
/- The reader's methods: number, mark. -/
namespace Go.Proofs.YtiggallcoocdaaaGreatDoor
open Go.RowKit
def rdEnd (b N : Nat) (w : World) (im : Im) (R : Option Im) (e : Ending) (w' : World) : Prop := e = .returned (.bool R.isSome) ∧ RD b N (R.getD im) w' ∧ Kept2 N b b w w'
set_option maxRecDepth 100000 in
set_option maxHeartbeats 4000000 in
theorem rnum_no (b N : Nat) (im : Im) (s : ByteArray) (w : World) (h : RD b N im w) (hw : LaidI w) (hp : ∀ W, LaidI W → Calls Tryz.prog 52 #[.string s] W fun e w' => e = .returned (.tuple #[.int .i64 0, .bool false]) ∧ Below W.heap.size W w') :
    Calls Tryz.prog 36 #[.pointer (some ⟨b, 0, none⟩), .string s] w (rdEnd b N w im none) := by
  have H0 := Lib.hid h
  clear h
  go_enter Tryz.func36, Tryz.ntmps36
  have hB0 := Below.refl w.heap.size w
  have M0 := Mem.nil w
  have hw0 := hw
  go_wp2_with fail
  refine Calls.named ?_
  intro W1 hW1
  have hB1_ : Below w.heap.size w W1 := by rw [hW1]; exact hB0
  have hw1_ : LaidI W1 := by rw [hW1]; exact hw
  have M1_ := Mem.nil W1
  clear hW1
  refine (hp _ hw1_).mono ?_
  rintro e w1 ⟨rfl, hb1⟩
  have hB1 := below_then hB1_ hb1
  have hw1 := hw1_.below hb1
  have M1 := M1_.below hb1
  clear M1_ hB1_ hb1 hw1_
  have HB := Lib.hid hB1
  go_wp2_with fail
  go_ret
  exact ⟨rfl, H0.out.below HB.out, H0.out.kept HB.out⟩
set_option maxRecDepth 100000 in
set_option maxHeartbeats 4000000 in
theorem rnum_full (b N : Nat) (im : Im) (s : ByteArray) (n : Int) (w : World) (h : RD b N im w) (hw : LaidI w) (hp : ∀ W, LaidI W → Calls Tryz.prog 52 #[.string s] W fun e w' => e = .returned (.tuple #[.int .i64 n, .bool true]) ∧ Below W.heap.size W w') (hne : im.fs ≠ []) :
    Calls Tryz.prog 36 #[.pointer (some ⟨b, 0, none⟩), .string s] w (rdEnd b N w im none) := by
  have H0 := Lib.hid h
  have HNE := Lib.hid hne
  clear h hne
  go_enter Tryz.func36, Tryz.ntmps36
  have hB0 := Below.refl w.heap.size w
  have M0 := Mem.nil w
  have hw0 := hw
  go_wp2_with fail
  refine Calls.named ?_
  intro W1 hW1
  have hB1_ : Below w.heap.size w W1 := by rw [hW1]; exact hB0
  have hw1_ : LaidI W1 := by rw [hW1]; exact hw
  have M1_ := Mem.nil W1
  clear hW1
  refine (hp _ hw1_).mono ?_
  rintro e w1 ⟨rfl, hb1⟩
  have hB1 := below_then hB1_ hb1
  have hw1 := hw1_.below hb1
  have M1 := M1_.below hb1
  clear M1_ hB1_ hb1 hw1_
  have HB := Lib.hid hB1
  go_wp2_with fail
  refine (const_no b N im 1 n ⟨#[]⟩ ⟨#[]⟩ ⟨#[]⟩ _ (H0.out.below HB.out) HNE.out).mono ?_
  rintro e w2 ⟨rfl, hR, hK⟩
  have HR := Lib.hid hR
  have HK := Lib.hid hK
  clear hR hK
  go_wp2_with fail
  go_ret
  exact ⟨rfl, HR.out, (H0.out.kept HB.out).trans HK.out⟩
set_option maxRecDepth 100000 in
set_option maxHeartbeats 4000000 in
theorem rnum_yes (b N : Nat) (im : Im) (s : ByteArray) (n : Int) (w : World) (h : RD b N im w) (hw : LaidI w) (hp : ∀ W, LaidI W → Calls Tryz.prog 52 #[.string s] W fun e w' => e = .returned (.tuple #[.int .i64 n, .bool true]) ∧ Below W.heap.size W w') (hne : im.fs = []) (hsz : im.cs.length ≤ 1000000000) :
    Calls Tryz.prog 36 #[.pointer (some ⟨b, 0, none⟩), .string s] w (rdEnd b N w im (some ⟨im.cs ++ [⟨1, n, [], ⟨[], []⟩⟩], im.fs⟩)) := by
  have H0 := Lib.hid h
  have HNE := Lib.hid hne
  have HSZ := Lib.hid hsz
  clear h hne hsz
  go_enter Tryz.func36, Tryz.ntmps36
  have hB0 := Below.refl w.heap.size w
  have M0 := Mem.nil w
  have hw0 := hw
  go_wp2_with fail
  refine Calls.named ?_
  intro W1 hW1
  have hB1_ : Below w.heap.size w W1 := by rw [hW1]; exact hB0
  have hw1_ : LaidI W1 := by rw [hW1]; exact hw
  have M1_ := Mem.nil W1
  clear hW1
  refine (hp _ hw1_).mono ?_
  rintro e w1 ⟨rfl, hb1⟩
  have hB1 := below_then hB1_ hb1
  have hw1 := hw1_.below hb1
  have M1 := M1_.below hb1
  clear M1_ hB1_ hb1 hw1_
  have HB := Lib.hid hB1
  go_wp2_with fail
  refine (const_yes b N im 1 n [] [] [] _ (H0.out.below HB.out) HNE.out HSZ.out).mono ?_
  rintro e w2 ⟨rfl, hR, hK⟩
  have HR := Lib.hid hR
  have HK := Lib.hid hK
  clear hR hK
  go_wp2_with fail
  go_ret
  exact ⟨rfl, HR.out, (H0.out.kept HB.out).trans HK.out⟩
/-- (*reader).number -/
theorem rnum_any (b N : Nat) (im : Im) (s : ByteArray) (w : World) (h : RD b N im w) (hw : LaidI w) (hs : s.size ≤ 140737488351232) (hsz : im.cs.length ≤ 1000000000) :
    Calls Tryz.prog 36 #[.pointer (some ⟨b, 0, none⟩), .string s] w (rdEnd b N w im (numI im s.data.toList)) := by
  have hp := fun W (hW : LaidI W) => parse_t s W hs hW.v.lib
  unfold numI
  cases hr : parseS s.data.toList with
  | none =>
    rw [hr] at hp
    exact rnum_no b N im s w h hw hp
  | some n =>
    rw [hr] at hp
    simp only
    by_cases hne : im.fs = []
    · rw [if_pos hne]
      exact rnum_yes b N im s n w h hw hp hne hsz
    · rw [if_neg hne]
      exact rnum_full b N im s n w h hw hp hne
set_option maxRecDepth 100000 in
set_option maxHeartbeats 4000000 in
theorem rmark_no (b N : Nat) (im : Im) (s : ByteArray) (S I : List UInt8) (w : World) (h : RD b N im w) (hw : LaidI w) (hp : ∀ W, LaidI W → Calls Tryz.prog 54 #[.string s] W fun e w' => e = .returned (.tuple #[.agg #[.string ⟨S.toArray⟩, .string ⟨I.toArray⟩], .bool false]) ∧ Below W.heap.size W w') :
    Calls Tryz.prog 37 #[.pointer (some ⟨b, 0, none⟩), .string s] w (rdEnd b N w im none) := by
  have H0 := Lib.hid h
  clear h
  obtain ⟨sS, hsS⟩ : ∃ x : ByteArray, x = ⟨S.toArray⟩ := ⟨_, rfl⟩
  obtain ⟨sI, hsI⟩ : ∃ x : ByteArray, x = ⟨I.toArray⟩ := ⟨_, rfl⟩
  rw [← hsS, ← hsI] at hp
  have HS := Lib.hid hsS
  have HI := Lib.hid hsI
  clear hsS hsI
  go_enter Tryz.func37, Tryz.ntmps37
  have hB0 := Below.refl w.heap.size w
  have M0 := Mem.nil w
  have hw0 := hw
  go_wp2_with fail
  refine Calls.named ?_
  intro W1 hW1
  have hB1_ : Below w.heap.size w W1 := by rw [hW1]; exact hB0
  have hw1_ : LaidI W1 := by rw [hW1]; exact hw
  have M1_ := Mem.nil W1
  clear hW1
  refine (hp _ hw1_).mono ?_
  rintro e w1 ⟨rfl, hb1⟩
  have hB1 := below_then hB1_ hb1
  have hw1 := hw1_.below hb1
  have M1 := M1_.below hb1
  clear M1_ hB1_ hb1 hw1_
  have HB := Lib.hid (below_al hB1 (.cells #[.string sS, .string sI] 48))
  go_wp2_with fail
  go_ret
  exact ⟨rfl, H0.out.below HB.out, H0.out.kept HB.out⟩
set_option maxRecDepth 100000 in
set_option maxHeartbeats 4000000 in
theorem rmark_full (b N : Nat) (im : Im) (s : ByteArray) (S I : List UInt8) (w : World) (h : RD b N im w) (hw : LaidI w) (hp : ∀ W, LaidI W → Calls Tryz.prog 54 #[.string s] W fun e w' => e = .returned (.tuple #[.agg #[.string ⟨S.toArray⟩, .string ⟨I.toArray⟩], .bool true]) ∧ Below W.heap.size W w') (hne : im.fs ≠ []) :
    Calls Tryz.prog 37 #[.pointer (some ⟨b, 0, none⟩), .string s] w (rdEnd b N w im none) := by
  have H0 := Lib.hid h
  have HNE := Lib.hid hne
  clear h hne
  obtain ⟨sS, hsS⟩ : ∃ x : ByteArray, x = ⟨S.toArray⟩ := ⟨_, rfl⟩
  obtain ⟨sI, hsI⟩ : ∃ x : ByteArray, x = ⟨I.toArray⟩ := ⟨_, rfl⟩
  rw [← hsS, ← hsI] at hp
  have HS := Lib.hid hsS
  have HI := Lib.hid hsI
  clear hsS hsI
  go_enter Tryz.func37, Tryz.ntmps37
  have hB0 := Below.refl w.heap.size w
  have M0 := Mem.nil w
  have hw0 := hw
  go_wp2_with fail
  refine Calls.named ?_
  intro W1 hW1
  have hB1_ : Below w.heap.size w W1 := by rw [hW1]; exact hB0
  have hw1_ : LaidI W1 := by rw [hW1]; exact hw
  have M1_ := Mem.nil W1
  clear hW1
  refine (hp _ hw1_).mono ?_
  rintro e w1 ⟨rfl, hb1⟩
  have hB1 := below_then hB1_ hb1
  have hw1 := hw1_.below hb1
  have M1 := M1_.below hb1
  clear M1_ hB1_ hb1 hw1_
  go_upto_region 2 with (fail)
  refine wp_named ?_
  intro w2 hW2
  have hB2 : Below w.heap.size w w2 := by rw [hW2]; exact (below_al hB1 _)
  have hw2 : LaidI w2 := by rw [hW2]; exact (hw1.alloc _)
  have M2 := (M1).new' (w1.heap.size) (by rfl) (.cells #[.string sS, .string sI] 48)
  rw [← hW2] at M2
  clear hW2
  have c2_0_0 := Mem.cell (v := .string sS) M2.1 0 rfl
  have c2_0_1 := Mem.cell (v := .string sI) M2.1 1 rfl
  have z2_0 := Mem.lt M2.1
  have HB := Lib.hid hB2
  go_wp2_with fail
  refine (const_no b N im 2 0 ⟨#[]⟩ sS sI _ (H0.out.below HB.out) HNE.out).mono ?_
  rintro e w3 ⟨rfl, hR, hK⟩
  have HR := Lib.hid hR
  have HK := Lib.hid hK
  clear hR hK
  go_wp2_with fail
  go_ret
  exact ⟨rfl, HR.out, (H0.out.kept HB.out).trans HK.out⟩
set_option maxRecDepth 100000 in
set_option maxHeartbeats 4000000 in
theorem rmark_yes (b N : Nat) (im : Im) (s : ByteArray) (S I : List UInt8) (w : World) (h : RD b N im w) (hw : LaidI w) (hp : ∀ W, LaidI W → Calls Tryz.prog 54 #[.string s] W fun e w' => e = .returned (.tuple #[.agg #[.string ⟨S.toArray⟩, .string ⟨I.toArray⟩], .bool true]) ∧ Below W.heap.size W w') (hne : im.fs = []) (hsz : im.cs.length ≤ 1000000000) :
    Calls Tryz.prog 37 #[.pointer (some ⟨b, 0, none⟩), .string s] w (rdEnd b N w im (some ⟨im.cs ++ [⟨2, 0, [], ⟨S, I⟩⟩], im.fs⟩)) := by
  have H0 := Lib.hid h
  have HNE := Lib.hid hne
  have HSZ := Lib.hid hsz
  clear h hne hsz
  obtain ⟨sS, hsS⟩ : ∃ x : ByteArray, x = ⟨S.toArray⟩ := ⟨_, rfl⟩
  obtain ⟨sI, hsI⟩ : ∃ x : ByteArray, x = ⟨I.toArray⟩ := ⟨_, rfl⟩
  rw [← hsS, ← hsI] at hp
  have HS := Lib.hid hsS
  have HI := Lib.hid hsI
  clear hsS hsI
  go_enter Tryz.func37, Tryz.ntmps37
  have hB0 := Below.refl w.heap.size w
  have M0 := Mem.nil w
  have hw0 := hw
  go_wp2_with fail
  refine Calls.named ?_
  intro W1 hW1
  have hB1_ : Below w.heap.size w W1 := by rw [hW1]; exact hB0
  have hw1_ : LaidI W1 := by rw [hW1]; exact hw
  have M1_ := Mem.nil W1
  clear hW1
  refine (hp _ hw1_).mono ?_
  rintro e w1 ⟨rfl, hb1⟩
  have hB1 := below_then hB1_ hb1
  have hw1 := hw1_.below hb1
  have M1 := M1_.below hb1
  clear M1_ hB1_ hb1 hw1_
  go_upto_region 2 with (fail)
  refine wp_named ?_
  intro w2 hW2
  have hB2 : Below w.heap.size w w2 := by rw [hW2]; exact (below_al hB1 _)
  have hw2 : LaidI w2 := by rw [hW2]; exact (hw1.alloc _)
  have M2 := (M1).new' (w1.heap.size) (by rfl) (.cells #[.string sS, .string sI] 48)
  rw [← hW2] at M2
  clear hW2
  have c2_0_0 := Mem.cell (v := .string sS) M2.1 0 rfl
  have c2_0_1 := Mem.cell (v := .string sI) M2.1 1 rfl
  have z2_0 := Mem.lt M2.1
  have HB := Lib.hid hB2
  go_wp2_with fail
  rw [HS.out, HI.out]
  refine (const_yes b N im 2 0 [] S I _ (H0.out.below HB.out) HNE.out HSZ.out).mono ?_
  rintro e w3 ⟨rfl, hR, hK⟩
  have HR := Lib.hid hR
  have HK := Lib.hid hK
  clear hR hK
  go_wp2_with fail
  go_ret
  exact ⟨rfl, HR.out, (H0.out.kept HB.out).trans HK.out⟩
/-- (*reader).mark -/
theorem rmark_any (HC : CParse) (b N : Nat) (im : Im) (s : ByteArray) (w : World) (h : RD b N im w) (hw : LaidI w) (hs : s.size < 4294967281) (hsz : im.cs.length ≤ 1000000000) :
    Calls Tryz.prog 37 #[.pointer (some ⟨b, 0, none⟩), .string s] w (rdEnd b N w im (markI im s.data.toList)) := by
  have hp := fun W (hW : LaidI W) => lparse_any HC s W hs hW
  unfold markI
  cases hr : parseLb s.data.toList with
  | none =>
    rw [hr] at hp
    exact rmark_no b N im s _ _ w h hw hp
  | some l =>
    rw [hr] at hp
    simp only
    by_cases hne : im.fs = []
    · rw [if_pos hne]
      exact rmark_yes b N im s _ _ w h hw hp hne hsz
    · rw [if_neg hne]
      exact rmark_full b N im s _ _ w h hw hp hne
end Go.Proofs.YtiggallcoocdaaaGreatDoor
/- The reader's methods: fun. -/
namespace Go.Proofs.YtiggallcoocdaaaGreatDoor
open Go.RowKit
theorem ow_uni {W : World} {B k n : Nat} {e : TypeId} {v : Value} {xs ys : List Value} (h : W.ownsRow B e k v n xs) (g : W.ownsRow B e k v n ys) : xs = ys := by
  have h1 := h.1
  have g1 := g.1
  rcases h.2 with ⟨hv, h0⟩ | ⟨b, cap, cur, hv, _, hb, _, _, _, hc⟩
  · rw [h0, Nat.zero_mul] at h1 g1
    rw [List.eq_nil_of_length_eq_zero h1, List.eq_nil_of_length_eq_zero g1]
  · rcases g.2 with ⟨gv, g0⟩ | ⟨b', cap', cur', gv, _, gb, _, _, _, gc⟩
    · rw [g0, Nat.zero_mul] at h1 g1
      rw [List.eq_nil_of_length_eq_zero h1, List.eq_nil_of_length_eq_zero g1]
    · rw [hv] at gv
      simp only [Value.slice.injEq, Option.some.injEq, Addr.mk.injEq] at gv
      obtain ⟨⟨rfl, _⟩, _, _⟩ := gv
      rw [hb] at gb
      simp only [Option.some.injEq, Obj.cells.injEq] at gb
      obtain ⟨rfl, _⟩ := gb
      rw [← hc, ← gc]
def CutS (s A B : ByteArray) (b : Bool) : Prop := ∀ W, LaidI W → Calls Tryz.prog 18 #[.string s, .string ⟨#[32]⟩] W fun e w' => e = .returned (.tuple #[.string A, .string B, .bool b]) ∧ Below W.heap.size W w'
def NumS (s : ByteArray) (x : Int) (b : Bool) : Prop := ∀ W, LaidI W → Calls Tryz.prog 52 #[.string s] W fun e w' => e = .returned (.tuple #[.int .i64 x, .bool b]) ∧ Below W.heap.size W w'
set_option maxRecDepth 100000 in
set_option maxHeartbeats 4000000 in
theorem rfun_no (b N : Nat) (im : Im) (s A B : ByteArray) (d a1 a2 : Bool) (x y : Int) (w : World) (h : RD b N im w) (hw : LaidI w) (hk : CutS s A B d) (h1 : NumS A x a1) (h2 : NumS B y a2) (hno : a1 = false ∨ a2 = false ∨ x < 0 ∨ 255 < x ∨ y < 0 ∨ 255 < y) :
    Calls Tryz.prog 38 #[.pointer (some ⟨b, 0, none⟩), .string s] w (rdEnd b N w im none) := by
  have H0 := Lib.hid h
  clear h
  have key : a1 = false ∨ (a1 = true ∧ a2 = false) ∨ (a1 = true ∧ a2 = true ∧ x < 0) ∨ (a1 = true ∧ a2 = true ∧ ¬ x < 0 ∧ 255 < x) ∨ (a1 = true ∧ a2 = true ∧ ¬ x < 0 ∧ ¬ 255 < x ∧ y < 0) ∨ (a1 = true ∧ a2 = true ∧ ¬ x < 0 ∧ ¬ 255 < x ∧ ¬ y < 0 ∧ 255 < y) := by
    cases a1
    · exact .inl rfl
    · cases a2
      · exact .inr (.inl ⟨rfl, rfl⟩)
      · simp only [reduceCtorEq, false_or, true_and] at hno ⊢
        omega
  clear hno
  rcases key with rfl | ⟨rfl, rfl⟩ | ⟨rfl, rfl, k1⟩ | ⟨rfl, rfl, k1, k2⟩ | ⟨rfl, rfl, k1, k2, k3⟩ | ⟨rfl, rfl, k1, k2, k3, k4⟩
  all_goals
    go_enter Tryz.func38, Tryz.ntmps38
    have hB0 := Below.refl w.heap.size w
    have M0 := Mem.nil w
    have hw0 := hw
    go_wp2_with fail
    refine Calls.named ?_
    intro W1 hW1
    have hB1_ : Below w.heap.size w W1 := by rw [hW1]; exact hB0
    have hw1_ : LaidI W1 := by rw [hW1]; exact hw
    have M1_ := Mem.nil W1
    clear hW1
    refine (hk _ hw1_).mono ?_
    rintro e w1 ⟨rfl, hb1⟩
    have hB1 := below_then hB1_ hb1
    have hw1 := hw1_.below hb1
    have M1 := M1_.below hb1
    clear M1_ hB1_ hb1 hw1_
    go_wp2_with fail
    refine Calls.named ?_
    intro W2 hW2
    have hB2_ : Below w.heap.size w W2 := by rw [hW2]; exact hB1
    have hw2_ : LaidI W2 := by rw [hW2]; exact hw1
    have M2_ := Mem.nil W2
    clear hW2
    refine (h1 _ hw2_).mono ?_
    rintro e w2 ⟨rfl, hb2⟩
    have hB2 := below_then hB2_ hb2
    have hw2 := hw2_.below hb2
    have M2 := M2_.below hb2
    clear M2_ hB2_ hb2 hw2_
    go_wp2_with fail
    refine Calls.named ?_
    intro W3 hW3
    have hB3_ : Below w.heap.size w W3 := by rw [hW3]; exact hB2
    have hw3_ : LaidI W3 := by rw [hW3]; exact hw2
    have M3_ := Mem.nil W3
    clear hW3
    refine (h2 _ hw3_).mono ?_
    rintro e w3 ⟨rfl, hb3⟩
    have hB3 := below_then hB3_ hb3
    have hw3 := hw3_.below hb3
    have M3 := M3_.below hb3
    clear M3_ hB3_ hb3 hw3_
    have HB := Lib.hid hB3
    go_wp2_with fail
    go_ret
    exact ⟨rfl, H0.out.below HB.out, H0.out.kept HB.out⟩
set_option maxRecDepth 100000 in
set_option maxHeartbeats 4000000 in
theorem rfun_yes (b N : Nat) (im : Im) (s A B : ByteArray) (d : Bool) (x y : Int) (w : World) (h : RD b N im w) (hw : LaidI w) (hk : CutS s A B d) (h1 : NumS A x true) (h2 : NumS B y true) (k1 : ¬ x < 0) (k2 : ¬ 255 < x) (k3 : ¬ y < 0) (k4 : ¬ 255 < y) (hsz : im.fs.length ≤ 1000000000) :
    Calls Tryz.prog 38 #[.pointer (some ⟨b, 0, none⟩), .string s] w (rdEnd b N w im (some ⟨im.cs, im.fs ++ [⟨x, y, []⟩]⟩)) := by
  obtain ⟨i0, hi, hz0, hz1, hz2⟩ := info_parts infLF
  have HSZ := Lib.hid hsz
  have H0 := Lib.hid h
  clear h hsz
  go_enter Tryz.func38, Tryz.ntmps38
  have hB0 := Below.refl w.heap.size w
  have M0 := Mem.nil w
  have hw0 := hw
  go_wp2_with fail
  refine Calls.named ?_
  intro W1 hW1
  have hB1_ : Below w.heap.size w W1 := by rw [hW1]; exact hB0
  have hw1_ : LaidI W1 := by rw [hW1]; exact hw
  have M1_ := Mem.nil W1
  clear hW1
  refine (hk _ hw1_).mono ?_
  rintro e w1 ⟨rfl, hb1⟩
  have hB1 := below_then hB1_ hb1
  have hw1 := hw1_.below hb1
  have M1 := M1_.below hb1
  clear M1_ hB1_ hb1 hw1_
  go_wp2_with fail
  refine Calls.named ?_
  intro W2 hW2
  have hB2_ : Below w.heap.size w W2 := by rw [hW2]; exact hB1
  have hw2_ : LaidI W2 := by rw [hW2]; exact hw1
  have M2_ := Mem.nil W2
  clear hW2
  refine (h1 _ hw2_).mono ?_
  rintro e w2 ⟨rfl, hb2⟩
  have hB2 := below_then hB2_ hb2
  have hw2 := hw2_.below hb2
  have M2 := M2_.below hb2
  clear M2_ hB2_ hb2 hw2_
  go_wp2_with fail
  refine Calls.named ?_
  intro W3 hW3
  have hB3_ : Below w.heap.size w W3 := by rw [hW3]; exact hB2
  have hw3_ : LaidI W3 := by rw [hW3]; exact hw2
  have M3_ := Mem.nil W3
  clear hW3
  refine (h2 _ hw3_).mono ?_
  rintro e w3 ⟨rfl, hb3⟩
  have hB3 := below_then hB3_ hb3
  have hw3 := hw3_.below hb3
  have M3 := M3_.below hb3
  clear M3_ hB3_ hb3 hw3_
  have HB0 := Lib.hid hB3
  go_upto_region 6 with (fail)
  have h := H0.out.below HB0.out
  obtain ⟨cv, fv, hbk, hown, hfn⟩ := h.ex
  obtain ⟨ys, hys⟩ : ∃ ys, w3.ownsRow N 37 3 fv im.fs.length ys := by
    obtain ⟨_, _, h2, _⟩ := hfn
    exact ⟨_, h2⟩
  obtain ⟨ao, cap, rfl⟩ := hfn.slice
  obtain ⟨q, hq⟩ : ∃ q, q = im.fs.length := ⟨_, rfl⟩
  have hqs := HSZ.out
  rw [← hq] at hbk hys hqs hfn
  have hbN := h.hb
  have hNw := h.hN
  have HBK := Lib.hid hbk
  have HOW := Lib.hid hown
  have HYS := Lib.hid hys
  have HFN := Lib.hid hfn
  have HQ := Lib.hid hq
  have hlow := row_low hys
  have c0 := Mem.cell (v := cv) hbk 0 rfl
  have c1 := Mem.cell (v := .slice ao q cap) hbk 1 rfl
  have f1 := Mem.free hbk 1
  have hbw := Mem.lt hbk
  clear h hbk hown hys hfn hq hk h1 h2 M3 hB0 hB1 hB2 hB3
  go_wp2_with (at_builtin; go_loud (refine wpList_append_own _ rfl _ _ 25 rfl N 37 i0 _ 3 40 Tryz.underlying25 hi hz0 hz1 hz2 rfl (by decide) _ _ _ rfl (ownsRow_keep HYS.out (below_al (Below.refl _ _) _)) ⟨w3.heap.size, 0, none⟩ 1 1 [.int .i64 x, .int .i64 y, .slice none 0 0] rfl rfl (World.news_of_block (cs := #[.int .i64 x, .int .i64 y, .slice none 0 0]) (t := 37) (fr := (0, 0)) (heap_alloc_new _ _)) (by simp [Value.oneCell']) (by unfold maxLen; omega) (by omega) (by simp; omega) ?_); go_loud (intro v' w5 hown' hgrow _; obtain ⟨ao', n', cap', rfl⟩ := owns_slice hown'; have hbk2 : w5.heap[b]? = some (.cells #[cv, .slice ao q cap] 54) := (hgrow.block _ (by simp; omega) (fun e => by have := hlow _ e.symm; omega)).trans (((below_al (Below.refl w3.heap.size w3) _).block _ (by omega)).trans HBK.out); have f2 := Mem.free hbk2 1; have d2 := Mem.cell (v := .slice ao q cap) hbk2 1 rfl; obtain ⟨hR, hK0⟩ := RD.func (b := b) (N := N) (im := im) (cv := cv) (fv := .slice ao q cap) hbN (Nat.le_trans hNw (below_al (Below.refl w3.heap.size w3) _).size) (((below_al (Below.refl w3.heap.size w3) _).block b hbw).trans HBK.out) (ownsRow_keep HOW.out (below_al (Below.refl _ _) _)) (HFN.out.keep (below_al (Below.refl _ _) _)) x y (fun zs hzs => by rw [← HQ.out] at hzs ⊢; rw [ow_uni hzs (ownsRow_keep HYS.out (below_al (Below.refl _ _) _))]; exact hown') hgrow; have HR := Lib.hid hR; have HK0 := Lib.hid hK0; clear hR hK0 hown' hgrow hbk2))
  go_ret
  exact ⟨rfl, HR.out, (Kept2.of_below (p := b) (q := b) (HB0.out.trans ((below_al (Below.refl w3.heap.size w3) _).mono HB0.out.size)) H0.out.hN).trans HK0.out⟩
/-- (*reader).fun -/
theorem rfun_any (b N : Nat) (im : Im) (s : ByteArray) (w : World) (h : RD b N im w) (hw : LaidI w) (hs : s.size < 4294967281) (hsz : im.fs.length ≤ 1000000000) :
    Calls Tryz.prog 38 #[.pointer (some ⟨b, 0, none⟩), .string s] w (rdEnd b N w im (funI im s.data.toList)) := by
  have hk := fun W hW => cut_lib 32 s W hs hW
  obtain ⟨P, hP⟩ : ∃ P, P = (cutP 32 s.data.toList).getD (s.data.toList, []) := ⟨_, rfl⟩
  have hlen : P.1.length ≤ s.size ∧ P.2.length ≤ s.size := by
    have h2 : s.data.toList.length = s.size := Array.length_toList
    rw [hP]
    cases hc : cutP 32 s.data.toList with
    | none => exact ⟨by simp [h2], by simp⟩
    | some z =>
      obtain ⟨u, v⟩ := z
      have h1 := congrArg List.length (cutP_some hc).1
      rw [List.length_append, List.length_cons, h2] at h1
      simp only [Option.getD_some]
      omega
  unfold funI
  rw [← hP] at hk ⊢
  obtain ⟨p1, p2⟩ := P
  simp only at hk hlen ⊢
  have h1 : NumS ⟨p1.toArray⟩ (pV (parseS p1)) (pO (parseS p1)) := fun W hW => parse_t ⟨p1.toArray⟩ W (by rw [show (⟨p1.toArray⟩ : ByteArray).size = p1.length from List.size_toArray]; omega) hW.v.lib
  have h2 : NumS ⟨p2.toArray⟩ (pV (parseS p2)) (pO (parseS p2)) := fun W hW => parse_t ⟨p2.toArray⟩ W (by rw [show (⟨p2.toArray⟩ : ByteArray).size = p2.length from List.size_toArray]; omega) hW.v.lib
  cases hp1 : parseS p1 with
  | none =>
    rw [hp1] at h1
    exact rfun_no b N im s _ _ _ _ _ _ _ w h hw hk h1 h2 (.inl rfl)
  | some x =>
    rw [hp1] at h1
    cases hp2 : parseS p2 with
    | none =>
      rw [hp2] at h2
      exact rfun_no b N im s _ _ _ _ _ _ _ w h hw hk h1 h2 (.inr (.inl rfl))
    | some y =>
      rw [hp2] at h2
      simp only
      by_cases hr : 0 ≤ x ∧ x ≤ 255 ∧ 0 ≤ y ∧ y ≤ 255
      · rw [if_pos hr]
        exact rfun_yes b N im s _ _ _ x y w h hw hk h1 h2 (by omega) (by omega) (by omega) (by omega) hsz
      · rw [if_neg hr]
        exact rfun_no b N im s _ _ _ _ _ x y w h hw hk h1 h2 (by omega)
end Go.Proofs.YtiggallcoocdaaaGreatDoor
/- The reader's methods: op. -/
namespace Go.Proofs.YtiggallcoocdaaaGreatDoor
open Go.RowKit
theorem ne_row {w : World} {N k n g : Nat} {e T : TypeId} {v : Value} {xs : List Value} {cur : Array Value} (h : w.ownsRow N e k v n xs) (hg : w.heap[g]? = some (.cells cur T)) (ht : T ≠ e) : some g ≠ v.ownBlock := by
  intro e2
  rcases h.2 with ⟨hv, _⟩ | ⟨k, _, cu, hv, _, hk, _⟩
  · rw [hv] at e2
    cases e2
  · rw [hv] at e2
    have e3 : g = k := by simpa [Value.ownBlock] using e2
    subst e3
    rw [hg] at hk
    cases hk
    exact ht rfl
def OpS (s : ByteArray) (c a : Int) (b : Bool) : Prop := ∀ W, LaidI W → Calls Tryz.prog 41 #[.string s] W fun e w' => e = .returned (.tuple #[.agg #[.int .i64 c, .int .i64 a], .bool b]) ∧ Below W.heap.size W w'
theorem step_append_at {P : Program} {ops : Array Oper} {o : Oper} {a : Act} {w : World} {K : Act → World → Prop} {Q : Exit → Act → World → Prop} {E : Prop}
    (hg : o.guard = none) (s x : Operand) (t : TypeId) (hop : o.op = Op.call { callee := Callee.builtin Builtin.append, args := #[s, x], argTypes := #[t, t] })
    (base : Nat) (e : TypeId) (i : TypeInfo) (z : Value) (size bytes : Nat) (h1 : P.underlying t = some (.slice e)) (h2 : P.info? e = some i) (h3 : i.zero = some z) (h4 : i.size = size) (h5 : i.bytes = bytes) (h6 : z.cells.size = size) (h7 : 0 < size)
    (v : Value) (n : Nat) (xs : List Value) (hs : a.eval s = v) (hown : w.ownsRow base e size v n xs)
    (ad : Addr) (m c : Nat) (news : List Value) (hx : a.eval x = .slice (some ad) m c) (hn : news.length = m * size) (hc : ∀ j u, news[j]? = some u → w.cell? (ad.add j) = some u) (h1c : ∀ u ∈ news, u.oneCell' = true)
    (b1 : n + m ≤ maxLen) (b2 : (n + m) * bytes ≤ 140737488355328) (hbase : base ≤ w.heap.size)
    (hK : ∀ v' w', w'.ownsRow base e size v' (n + m) (xs ++ news) → w.grownBy w' v.ownBlock → (v'.ownBlock = v.ownBlock ∨ v'.ownBlock = some w.heap.size) → K (a.put o.dst v') w') :
    if Region.wanted o (yielded ops a.tmps) = true then Oper.wp P o a w K Q else E := by
  have hw : Region.wanted o (yielded ops a.tmps) = true := by simp [Region.wanted, hg]
  rw [if_pos hw]
  obtain ⟨v', w', hrun, r1, r2, _, r3⟩ := run_append_own_at (P := P) (w := w) base t o.type e i z size bytes h1 h2 h3 h4 h5 h6 h7 v n xs hown ad m c news hn hc h1c b1 b2 hbase
  unfold Oper.wp
  simp [execOp, hop, resolve, invoke, builtin, hs, hx, hrun, Result.andThen]
  exact hK v' w' r1 r2 r3
/-- the last function, at a world in which its cell is known -/
theorem FnAp.last_at {W : World} {B b cap cp : Nat} {ao : Option Addr} {init : List Fn} {f : Fn} (h : FnAp W B (.slice (some ⟨b, 0, none⟩) (init.length + 1) cap) (init ++ [f])) (hc : W.cell? ⟨b, init.length * 3 + 2, none⟩ = some (.slice ao f.c.length cp)) :
    W.ownsRow B 52 2 (.slice ao f.c.length cp) f.c.length (f.c.map orow).flatten ∧ ∀ W2 c' (o : Int × Int), W2.ownsRow B 52 2 c' (f.c.length + 1) ((f.c.map orow).flatten ++ orow o) → W.grownBy W2 (Value.slice ao f.c.length cp).ownBlock →
      (c'.ownBlock = (Value.slice ao f.c.length cp).ownBlock ∨ ∃ k, c'.ownBlock = some k ∧ W.heap.size ≤ k) → FnAp (W2.setCell ⟨b, init.length * 3 + 2, none⟩ c') B (.slice (some ⟨b, 0, none⟩) (init.length + 1) cap) (init ++ [⟨f.a, f.v, f.c ++ [o]⟩]) := by
  obtain ⟨b', cap', ao', cp', e, h1, h2, h3, h4, h5, h6⟩ := h.last
  simp only [Value.slice.injEq, Option.some.injEq, Addr.mk.injEq, and_true, true_and] at e
  obtain ⟨rfl, rfl⟩ := e
  rw [hc] at h4
  simp only [Option.some.injEq, Value.slice.injEq, true_and] at h4
  obtain ⟨rfl, rfl⟩ := h4
  exact ⟨h5, h6⟩
/-- an instruction more for the last function -/
theorem RD.op {b N : Nat} {im : Im} {W W2 : World} {cv c' : Value} {g cap cp : Nat} {ao : Option Addr} {init : List Fn} {f : Fn} (hb : b < N) (hN : N ≤ W.heap.size) (hbk : W.heap[b]? = some (.cells #[cv, .slice (some ⟨g, 0, none⟩) (init.length + 1) cap] 54))
    (hown : W.ownsRow N 50 5 cv im.cs.length (im.cs.map vrow).flatten) (hgN : N ≤ g) (hgb : ∃ cur, W.heap[g]? = some (.cells cur 37)) (hfn : FnAp W N (.slice (some ⟨g, 0, none⟩) (init.length + 1) cap) (init ++ [f])) (hc : W.cell? ⟨g, init.length * 3 + 2, none⟩ = some (.slice ao f.c.length cp)) (hfs : im.fs = init ++ [f])
    (o : Int × Int) (hn : W2.ownsRow N 52 2 c' (f.c.length + 1) ((f.c.map orow).flatten ++ orow o)) (hg : W.grownBy W2 (Value.slice ao f.c.length cp).ownBlock) (hc' : c'.ownBlock = (Value.slice ao f.c.length cp).ownBlock ∨ c'.ownBlock = some W.heap.size) :
    RD b N ⟨im.cs, addOp o im.fs⟩ (W2.setCell ⟨g, init.length * 3 + 2, none⟩ c') ∧ Kept2 N b b W (W2.setCell ⟨g, init.length * 3 + 2, none⟩ c') := by
  obtain ⟨hrow, hput⟩ := hfn.last_at hc
  have hlow := row_low hrow
  have hb2 : W2.heap[b]? = W.heap[b]? := hg.block b (Mem.lt hbk) (fun e => by have := hlow b e.symm; omega)
  have hs : W2.heap.size = (W2.setCell ⟨g, init.length * 3 + 2, none⟩ c').heap.size := by simp [World.setCell]
  have hfin := hput W2 c' o hn hg (hc'.imp id fun e => ⟨_, e, Nat.le_refl _⟩)
  have hcv : (W2.setCell ⟨g, init.length * 3 + 2, none⟩ c').ownsRow N 50 5 cv im.cs.length (im.cs.map vrow).flatten := by
    have h1 := owns_grown hown hrow (by decide) hg
    obtain ⟨cur, hcur⟩ := hgb
    have hg2 : W2.heap[g]? = some (.cells cur 37) := (hg.block g (Mem.lt hcur) (fun e => by
      rcases hrow.2 with ⟨hv, _⟩ | ⟨k, _, cu, hv, _, hk, _⟩
      · rw [hv] at e
        cases e
      · rw [hv] at e
        have e2 : g = k := by simpa [Value.ownBlock] using e
        subst e2
        rw [hcur] at hk
        cases hk)).trans hcur
    refine ⟨h1.1, ?_⟩
    rcases h1.2 with h0 | ⟨k, cp', cu, hv, hB, hk, r⟩
    · exact .inl h0
    · refine .inr ⟨k, cp', cu, hv, hB, setCell_other hk ?_ _, r⟩
      intro e
      subst e
      rw [hg2] at hk
      cases hk
  refine ⟨⟨hb, by rw [← hs]; exact Nat.le_trans hN hg.size, cv, _, (Below.heap_setCell _ _ _ _ (show b ≠ g by omega)).trans (hb2.trans hbk), hcv, ?_⟩, ?_⟩
  · show FnAp _ N _ (addOp o im.fs)
    rw [hfs, addOp_snoc]
    exact hfin
  · have hk := (Kept2.of_below (p := b) (q := b) (Below.refl _ W) hN).grown hN hg hlow
    exact ⟨hk.os, hk.tape, hk.output, by rw [← hs]; exact hk.size, fun k h1 h2 h3 => (Below.heap_setCell _ _ _ _ (show k ≠ g by omega)).trans (hk.block k h1 h2 h3)⟩
set_option maxRecDepth 100000 in
set_option maxHeartbeats 4000000 in
theorem rop_no (b N : Nat) (im : Im) (s : ByteArray) (c a : Int) (w : World) (h : RD b N im w) (hw : LaidI w) (hp : OpS s c a false) :
    Calls Tryz.prog 19 #[.pointer (some ⟨b, 0, none⟩), .string s] w (rdEnd b N w im none) := by
  have H0 := Lib.hid h
  clear h
  go_enter Tryz.func19, Tryz.ntmps19
  have hB0 := Below.refl w.heap.size w
  have M0 := Mem.nil w
  have hw0 := hw
  go_wp2_with fail
  refine Calls.named ?_
  intro W1 hW1
  have hB1_ : Below w.heap.size w W1 := by rw [hW1]; exact hB0
  have hw1_ : LaidI W1 := by rw [hW1]; exact hw
  have M1_ := Mem.nil W1
  clear hW1
  refine (hp _ hw1_).mono ?_
  rintro e w1 ⟨rfl, hb1⟩
  have hB1 := below_then hB1_ hb1
  have hw1 := hw1_.below hb1
  have M1 := M1_.below hb1
  clear M1_ hB1_ hb1 hw1_
  have HB := Lib.hid (below_al hB1 (.cells #[.int .i64 c, .int .i64 a] 52))
  go_wp2_with fail
  go_ret
  exact ⟨rfl, H0.out.below HB.out, H0.out.kept HB.out⟩
set_option maxRecDepth 100000 in
set_option maxHeartbeats 4000000 in
theorem rop_none (b N : Nat) (im : Im) (s : ByteArray) (c a : Int) (w : World) (h : RD b N im w) (hw : LaidI w) (hp : OpS s c a true) (hne : im.fs = []) :
    Calls Tryz.prog 19 #[.pointer (some ⟨b, 0, none⟩), .string s] w (rdEnd b N w im none) := by
  have H0 := Lib.hid h
  have HNE := Lib.hid hne
  clear h hne
  go_enter Tryz.func19, Tryz.ntmps19
  have hB0 := Below.refl w.heap.size w
  have M0 := Mem.nil w
  have hw0 := hw
  go_wp2_with fail
  refine Calls.named ?_
  intro W1 hW1
  have hB1_ : Below w.heap.size w W1 := by rw [hW1]; exact hB0
  have hw1_ : LaidI W1 := by rw [hW1]; exact hw
  have M1_ := Mem.nil W1
  clear hW1
  refine (hp _ hw1_).mono ?_
  rintro e w1 ⟨rfl, hb1⟩
  have hB1 := below_then hB1_ hb1
  have hw1 := hw1_.below hb1
  have M1 := M1_.below hb1
  clear M1_ hB1_ hb1 hw1_
  go_upto_region 2 with (fail)
  refine wp_named ?_
  intro w2 hW2
  have hB2 : Below w.heap.size w w2 := by rw [hW2]; exact (below_al hB1 _)
  have hw2 : LaidI w2 := by rw [hW2]; exact (hw1.alloc _)
  have M2 := (M1).new' (w1.heap.size) (by rfl) (.cells #[.int .i64 c, .int .i64 a] 52)
  rw [← hW2] at M2
  clear hW2
  have c2_0_0 := Mem.cell (v := .int .i64 c) M2.1 0 rfl
  have c2_0_1 := Mem.cell (v := .int .i64 a) M2.1 1 rfl
  have z2_0 := Mem.lt M2.1
  obtain ⟨cv, fv, hbk, -, hfn⟩ := (H0.out.below hB2).ex
  obtain ⟨ao, cap, rfl⟩ := hfn.slice
  have hq0 : im.fs.length = 0 := by rw [HNE.out]; rfl
  rw [hq0] at hbk
  have c1 := Mem.cell (v := .slice ao 0 cap) hbk 1 rfl
  have HB := Lib.hid hB2
  clear hfn hbk hq0
  go_wp2_with fail
  go_ret
  exact ⟨rfl, H0.out.below HB.out, H0.out.kept HB.out⟩
set_option maxRecDepth 100000 in
set_option maxHeartbeats 4000000 in
theorem rop_yes (b N : Nat) (im : Im) (s : ByteArray) (c a : Int) (w : World) (h : RD b N im w) (hw : LaidI w) (hp : OpS s c a true) (hne : im.fs ≠ []) (hsz : im.fs.length ≤ 1000000000) (hcz : ∀ f ∈ im.fs, f.c.length ≤ 1000000000) :
    Calls Tryz.prog 19 #[.pointer (some ⟨b, 0, none⟩), .string s] w (rdEnd b N w im (some ⟨im.cs, addOp (c, a) im.fs⟩)) := by
  obtain ⟨i0, hi, hz0, hz1, hz2⟩ := info_parts infLO
  obtain ⟨init, f, he, -⟩ := addOp_ne hne
  have hcl := hcz f (by rw [he]; simp)
  have HE := Lib.hid he
  have H0 := Lib.hid h
  obtain ⟨q, hq⟩ : ∃ q, q = init.length := ⟨_, rfl⟩
  have hql : q + 1 ≤ 1000000000 := by rw [he, List.length_append, List.length_singleton] at hsz; omega
  obtain ⟨L, hL⟩ : ∃ L, L = f.c.length := ⟨_, rfl⟩
  rw [← hL] at hcl
  have HQ := Lib.hid hq
  have HLL := Lib.hid hL
  obtain ⟨n, hn⟩ : ∃ n, n = q + 1 := ⟨_, rfl⟩
  have e1 : IntKind.i64.wrap ((n : Int) - 1) = (q : Int) := by rw [IntWalk.i64_in _ (by omega)]; omega
  have g1 : (0 : Int) ≤ (q : Int) := by omega
  have g2 : (q : Int) < (n : Int) := by omega
  have g3 : ¬ (n : Int) = 0 := by omega
  have g4 : ((n : Int) == 0) = false := by simpa using g3
  have HN1 := Lib.hid hn
  clear h he hne hsz hcz hq hL hn
  go_enter Tryz.func19, Tryz.ntmps19
  have hB0 := Below.refl w.heap.size w
  have M0 := Mem.nil w
  have hw0 := hw
  go_wp2_with fail
  refine Calls.named ?_
  intro W1 hW1
  have hB1_ : Below w.heap.size w W1 := by rw [hW1]; exact hB0
  have hw1_ : LaidI W1 := by rw [hW1]; exact hw
  have M1_ := Mem.nil W1
  clear hW1
  refine (hp _ hw1_).mono ?_
  rintro e w1 ⟨rfl, hb1⟩
  have hB1 := below_then hB1_ hb1
  have hw1 := hw1_.below hb1
  have M1 := M1_.below hb1
  clear M1_ hB1_ hb1 hw1_
  go_upto_region 2 with (fail)
  refine wp_named ?_
  intro w2 hW2
  have hB2 : Below w.heap.size w w2 := by rw [hW2]; exact (below_al hB1 _)
  have hw2 : LaidI w2 := by rw [hW2]; exact (hw1.alloc _)
  have M2 := (M1).new' (w1.heap.size) (by rfl) (.cells #[.int .i64 c, .int .i64 a] 52)
  rw [← hW2] at M2
  clear hW2
  have c2_0_0 := Mem.cell (v := .int .i64 c) M2.1 0 rfl
  have c2_0_1 := Mem.cell (v := .int .i64 a) M2.1 1 rfl
  have z2_0 := Mem.lt M2.1
  have h := H0.out.below hB2
  obtain ⟨cv, fv, hbk, hown, hfn⟩ := h.ex
  rw [HE.out] at hfn
  obtain ⟨g, cap, ao, cp, rfl, hg1, hg2, hgb, hcc, hrow, -⟩ := hfn.last
  rw [← HQ.out, ← HLL.out] at hcc
  rw [← HLL.out] at hrow
  have hbk0 := hbk
  rw [← HQ.out, ← HN1.out] at hbk
  have c1 := Mem.cell (v := .slice (some ⟨g, 0, none⟩) n cap) hbk 1 rfl
  have hbw := Mem.lt hbk
  have hbN := h.hb
  have hNw := h.hN
  have HB0 := Lib.hid hB2
  have HOW := Lib.hid hown
  have HFN := Lib.hid hfn
  have HROW := Lib.hid hrow
  have HGB := Lib.hid hgb
  have HBK := Lib.hid hbk
  have HBK0 := Lib.hid hbk0
  have HCC := Lib.hid hcc
  clear h hbk0 hown hfn hrow hgb hbk hp hB1 hB2
  go_upto_region 4 with (fail)
  have pc1 := fun p : After w2 => (p.h.cell (p := ⟨b, 1, none⟩) hbw).trans c1
  refine wp_region_after (by kernel_rfl) (by kernel_rfl) ?_
  repeat (go_big_quiet_step (fail))
  refine wpQuiet_nil ?_
  rintro _ ⟨p1, rfl⟩
  obtain ⟨w3, hb3, hw3⟩ : ∃ w3, Below w2.heap.size w2 w3 ∧ p1.world = w3 := ⟨_, p1.h, rfl⟩
  rw [hw3]
  clear hw3 p1 pc1
  have hcc3 := (hb3.cell (p := ⟨g, q * 3 + 2, none⟩) hg2).trans hcc
  have M3 := M2.below hb3
  have d0 := Mem.cell (v := .int .i64 c) M3.1 0 rfl
  have d1 := Mem.cell (v := .int .i64 a) M3.1 1 rfl
  have HB3 := Lib.hid (below_then HB0.out hb3)
  have HBB := Lib.hid hb3
  have hsz3 := hb3.size
  obtain ⟨cur, hcur⟩ := HGB.out
  have hcur3 := (hb3.block _ hg2).trans hcur
  have fg := Mem.free hcur3 (q * 3 + 2)
  have HCUR := Lib.hid hcur
  clear hcc c1 c2_0_0 c2_0_1 hb3 hcur hcur3 M2 M3
  go_upto_region 5 with (fail)
  have HCC3 := Lib.hid hcc3
  have hgm : w3.heap.size ≤ w3.heap.size := Nat.le_refl _
  have hN3 : N ≤ w3.heap.size := Nat.le_trans hNw hsz3
  have hg3 : g < w3.heap.size := Nat.lt_of_lt_of_le hg2 hsz3
  go_region_law (refine step_append_at (by rfl) _ _ 35 (by rfl) N 52 i0 _ 2 16 Tryz.underlying35 hi hz0 hz1 hz2 rfl (by omega) (.slice ao L cp) L _ (by rfl) (ownsRow_keep (ownsRow_keep HROW.out HBB.out) (by repeat' (first | exact Below.refl _ _ | refine below_dr ?_ | refine below_al ?_ _))) ⟨w3.heap.size, 0, none⟩ 1 1 [.int .i64 c, .int .i64 a] (by rfl) (by rfl) (World.news_of_block (cs := #[.int .i64 c, .int .i64 a]) (t := 52) (fr := (0, 0)) (heap_alloc_new _ _)) (by simp [Value.oneCell']) (by unfold maxLen; omega) (by omega) (by simp; omega) ?_; intro v' w5 hown' hgrow hat; obtain ⟨ao', n', cap', rfl⟩ := owns_slice hown'; have hcur5 : w5.heap[g]? = some (.cells cur 37) := (hgrow.block _ (by simp; omega) (ne_row HROW.out HCUR.out (by decide))).trans ((((by repeat' (first | exact Below.refl _ _ | refine below_dr ?_ | refine below_al ?_ _)) : Below w3.heap.size w3 _).block _ hg3).trans ((HBB.out.block _ hg2).trans HCUR.out)); have f5 := Mem.free hcur5 (q * 3 + 2); have d5 : w5.cell? ⟨g, q * 3 + 2, none⟩ = some (.slice ao L cp) := (World.cell?_of_block (hcur5.trans ((HBB.out.block _ hg2).trans HCUR.out).symm)).trans HCC3.out)
  all_goals
    rw [HLL.out] at hown' hgrow hat
    have hR := RD.op (b := b) (N := N) (im := im) (cv := cv) (g := g) (cap := cap) (cp := cp) (ao := ao) (init := init) (f := f) hbN (Nat.le_trans hN3 (((by repeat' (first | exact Below.refl _ _ | refine below_dr ?_ | refine below_al ?_ _)) : Below w3.heap.size w3 _).size)) ((((by repeat' (first | exact Below.refl _ _ | refine below_dr ?_ | refine below_al ?_ _)) : Below w3.heap.size w3 _).block b (Nat.lt_of_lt_of_le hbw hsz3)).trans ((HBB.out.block b hbw).trans HBK0.out)) (ownsRow_keep (ownsRow_keep HOW.out HBB.out) (by repeat' (first | exact Below.refl _ _ | refine below_dr ?_ | refine below_al ?_ _))) hg1 ⟨cur, (((by repeat' (first | exact Below.refl _ _ | refine below_dr ?_ | refine below_al ?_ _)) : Below w3.heap.size w3 _).block g hg3).trans ((HBB.out.block _ hg2).trans HCUR.out)⟩ ((HFN.out.keep HBB.out).keep (by repeat' (first | exact Below.refl _ _ | refine below_dr ?_ | refine below_al ?_ _))) (by rw [← HQ.out, ← HLL.out]; exact (((by repeat' (first | exact Below.refl _ _ | refine below_dr ?_ | refine below_al ?_ _)) : Below w3.heap.size w3 _).cell (p := ⟨g, q * 3 + 2, none⟩) hg3).trans HCC3.out) HE.out (c, a) hown' hgrow hat
    rw [← HQ.out] at hR
    have hK := (Kept2.of_below (p := b) (q := b) (HB3.out.trans (((by repeat' (first | exact Below.refl _ _ | refine below_dr ?_ | refine below_al ?_ _)) : Below w3.heap.size w3 _).mono HB3.out.size)) H0.out.hN).trans hR.2
    have HR := Lib.hid hR.1
    have HK := Lib.hid hK
    clear hR hK hown' hgrow hat hcur5 f5 d5 d0 d1 fg
    go_wp2_with fail
    go_ret
    exact ⟨rfl, HR.out, HK.out⟩
/-- (*reader).op -/
theorem rop_any (b N : Nat) (im : Im) (s : ByteArray) (w : World) (h : RD b N im w) (hw : LaidI w) (hs : s.size < 4294967281) (hsz : im.fs.length ≤ 1000000000) (hcz : ∀ f ∈ im.fs, f.c.length ≤ 1000000000) :
    Calls Tryz.prog 19 #[.pointer (some ⟨b, 0, none⟩), .string s] w (rdEnd b N w im (opI im s.data.toList)) := by
  have hp := fun W (hW : LaidI W) => oparse_t s W (by omega) hW.o
  unfold opI
  cases hr : opParse s.data.toList with
  | none =>
    rw [hr] at hp
    exact rop_no b N im s _ _ w h hw hp
  | some o =>
    obtain ⟨c, a⟩ := o
    rw [hr] at hp
    simp only
    by_cases hne : im.fs = []
    · rw [if_pos hne]
      exact rop_none b N im s _ _ w h hw hp hne
    · rw [if_neg hne]
      exact rop_yes b N im s c a w h hw hp hne hsz hcz
end Go.Proofs.YtiggallcoocdaaaGreatDoor
