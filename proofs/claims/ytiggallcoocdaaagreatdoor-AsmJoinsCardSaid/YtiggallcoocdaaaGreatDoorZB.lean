/- KaA, MakerA: joined into one text; each part says below what it holds. -/
import Derived.Test.YtiggallcoocdaaaGreatDoorFnOA
import Derived.Laws.OwnMore
/- Picked for KaA: ImRd. -/
namespace Go.Proofs.YtiggallcoocdaaaGreatDoor
open Go.RowKit
/-- all blocks but one are as they were -/
structure KA (A : Nat) (w w' : World) : Prop where
  os : w'.os = w.os
  tape : w'.tape = w.tape
  output : w'.output = w.output
  size : w.heap.size ≤ w'.heap.size
  block : ∀ k, k < w.heap.size → k ≠ A → w'.heap[k]? = w.heap[k]?
theorem KA.refl (A : Nat) (w : World) : KA A w w := ⟨rfl, rfl, rfl, Nat.le_refl _, fun _ _ _ => rfl⟩
theorem KA.trans {A : Nat} {x y z : World} (h : KA A x y) (k : KA A y z) : KA A x z :=
  ⟨k.os.trans h.os, k.tape.trans h.tape, k.output.trans h.output, Nat.le_trans h.size k.size, fun i hi hb => (k.block i (Nat.lt_of_lt_of_le hi h.size) hb).trans (h.block i hi hb)⟩
theorem KA.of_below {A : Nat} {w w' : World} (h : Below w.heap.size w w') : KA A w w' := ⟨h.os, h.tape, h.output, h.size, fun k hk _ => h.block k hk⟩
theorem KA.al {A : Nat} {w w' : World} (h : KA A w w') (o : Obj) : KA A w (w'.alloc o) := h.trans (.of_below ((Below.refl _ _).alloc (Nat.le_refl _) o))
theorem KA.set {A : Nat} {x y : World} (h : KA A x y) (i : Nat) (v : Value) : KA A x (y.setCell ⟨A, i, none⟩ v) :=
  ⟨h.os, h.tape, h.output, by simpa [World.setCell] using h.size, fun k hk hb => (Below.heap_setCell _ _ _ k hb).trans (h.block k hk hb)⟩
theorem KA.below {A n : Nat} {w0 w w' : World} (h : Below n w0 w) (k : KA A w w') (hn : n ≤ A) (hs : n ≤ w.heap.size) : Below n w0 w' :=
  ⟨k.os.trans h.os, k.tape.trans h.tape, k.output.trans h.output, Nat.le_trans h.size k.size, fun i hi => (k.block i (by omega) (by omega)).trans (h.block i hi)⟩
theorem KA.keep {A b : Nat} {w w' : World} {o : Obj} (k : KA A w w') (h : w.heap[b]? = some o) (hb : b ≠ A) : w'.heap[b]? = some o := (k.block b (Mem.lt h) hb).trans h
end Go.Proofs.YtiggallcoocdaaaGreatDoor
/- The chapter's maker of programs: next, emit, number, mark, local. -/
namespace Go.Proofs.YtiggallcoocdaaaGreatDoor
open Go.RowKit
/-- bytes that stand below a block -/
def Src (w : World) (m : Nat) (lv : Value) (lb : List UInt8) : Prop := ∃ ao cap, lv = .slice ao lb.length cap ∧ lb.length ≤ 1152921504606846976 ∧ ∀ (i : Nat) (hi : i < lb.length), ∃ b off, ao = some ⟨b, off, none⟩ ∧ b < m ∧ w.cell? ⟨b, off + i, none⟩ = some (.int .u8 (lb[i].toNat : Nat))
theorem Src.below {w w' : World} {m : Nat} {lv : Value} {lb : List UInt8} (h : Src w m lv lb) (hb : Below m w w') : Src w' m lv lb := by
  obtain ⟨ao, cap, h1, h2, h3⟩ := h
  refine ⟨ao, cap, h1, h2, fun i hi => ?_⟩
  obtain ⟨b, off, g1, g2, g3⟩ := h3 i hi
  exact ⟨b, off, g1, g2, by rw [hb.cell (p := ⟨b, off + i, none⟩) g2]; exact g3⟩
structure MK (m : Nat) (lv : Value) (lb : List UInt8) (a : Nat) (c : List (Int × Int)) (w : World) : Prop where
  src : Src w m lv lb
  own : ∃ cv, w.heap[m]? = some (.cells #[lv, .int .i64 a, cv] 70) ∧ w.ownsRow m 52 2 cv c.length (c.map orow).flatten
theorem MK.lt {m : Nat} {lv : Value} {lb : List UInt8} {a : Nat} {c : List (Int × Int)} {w : World} (h : MK m lv lb a c w) : m < w.heap.size := by
  obtain ⟨cv, h1, _⟩ := h.own
  exact Mem.lt h1
theorem MK.below {m : Nat} {lv : Value} {lb : List UInt8} {a : Nat} {c : List (Int × Int)} {w w' : World} (h : MK m lv lb a c w) (hb : Below w.heap.size w w') : MK m lv lb a c w' := by
  obtain ⟨cv, h1, h2⟩ := h.own
  exact ⟨h.src.below (hb.mono (Nat.le_of_lt h.lt)), cv, (hb.block m (Mem.lt h1)).trans h1, ownsRow_keep h2 hb⟩
set_option maxRecDepth 100000 in
set_option maxHeartbeats 2000000 in
theorem emit_any (m : Nat) (lv : Value) (lb : List UInt8) (a : Nat) (c : List (Int × Int)) (o x : Int) (w : World) (h : MK m lv lb a c w) (hc : c.length ≤ 100000) :
    Calls Tryz.prog 22 #[.pointer (some ⟨m, 0, none⟩), .int .i64 o, .int .i64 x] w fun e w' => e = .returned (.tuple #[]) ∧ MK m lv lb a (c ++ [(o, x)]) w' ∧ Below m w w' := by
  obtain ⟨i0, hi, hz0, hz1, hz2⟩ := info_parts infLO
  obtain ⟨cv, hbk, hown⟩ := h.own
  have HS := Lib.hid h.src
  have c2 := Mem.cell (v := cv) hbk 2 rfl
  have HBK := Lib.hid hbk
  have hX : Hid (((c ++ [(o, x)]).map orow).flatten = (c.map orow).flatten ++ [.int .i64 o, .int .i64 x]) := Lib.hid (by simp [orow])
  have hmw := h.lt
  obtain ⟨n, hn⟩ : ∃ n, n = c.length := ⟨_, rfl⟩
  have HN := Lib.hid hn
  rw [← hn] at hown hc
  clear h hbk hn
  have hne : some m ≠ cv.ownBlock := fun e => by
    rcases hown.2 with ⟨rfl, _⟩ | ⟨g, cap, cur, rfl, _, hgb, _⟩
    · cases e
    · have e2 : m = g := by simpa [Value.ownBlock] using e
      subst e2
      rw [HBK.out] at hgb
      cases hgb
  go_enter Tryz.func22, Tryz.ntmps22
  go_wp2_with (at_builtin; refine wpList_append_own _ rfl _ _ 35 rfl m 52 i0 _ 2 16 Tryz.underlying35 hi hz0 hz1 hz2 rfl (by decide) _ _ _ rfl (hown.alloc _) ⟨w.heap.size, 0, none⟩ 1 1 [.int .i64 o, .int .i64 x] rfl rfl (World.news_of_block (cs := #[.int .i64 o, .int .i64 x]) (t := 52) (fr := (0, 0)) (heap_alloc_new _ _)) (by simp [Value.oneCell']) (by unfold maxLen; omega) (by omega) (by simp; omega) ?_; intro v' w2 hown' hgrow _; obtain ⟨ao', n', cap', rfl⟩ := owns_slice hown'; have hb2 : w2.heap[m]? = some (.cells #[lv, .int .i64 a, cv] 70) := (hgrow.block m (by simp; omega) hne).trans ((Lib.alloc_old w _ m hmw).trans HBK.out); have f2 := Mem.free hb2 2; have d2 := Mem.cell (v := cv) hb2 2 rfl)
  have hB2 : Below m w w2 := ((Below.refl m w).alloc (by omega) _).grown hgrow (by simp; omega) (fun k hk => row_low hown k hk)
  have hB3 := hB2.setCell (p := ⟨m, 2, none⟩) (Nat.le_refl m) (.slice ao' n' cap')
  have hO3 : (w2.setCell ⟨m, 2, none⟩ (.slice ao' n' cap')).ownsRow m 52 2 (.slice ao' n' cap') (c ++ [(o, x)]).length ((c ++ [(o, x)]).map orow).flatten := by
    rw [hX.out, List.length_append, ← HN.out]
    refine ownsRow_setCell_other (a := ⟨m, 2, none⟩) hown' ?_ _
    intro e
    rcases hown'.2 with ⟨hv, _⟩ | ⟨g, cap, cur, hv, _, hgb, _⟩
    · cases hv; cases e
    · cases hv
      have e2 : g = m := by simpa [Value.ownBlock] using e
      subst e2
      rw [hb2] at hgb
      cases hgb
  go_end0
  exact ⟨rfl, ⟨HS.out.below hB3, _, setCell_block hb2 _, hO3⟩, hB3⟩
theorem ka_low {m : Nat} {w w' : World} (h : KA m w w') (hm : m < w.heap.size) : Below m w w' := KA.below (Below.refl m w) h (Nat.le_refl m) (Nat.le_of_lt hm)
/-- the byte at a place; nought behind the last one -/
def rdB (lb : List UInt8) (a : Nat) : Nat := (lb.getD a 0).toNat
theorem rdB_lt (lb : List UInt8) (a : Nat) : rdB lb a < 256 := UInt8.toNat_lt _
set_option maxRecDepth 100000 in
set_option maxHeartbeats 2000000 in
theorem next_any (m : Nat) (lv : Value) (lb : List UInt8) (a : Nat) (c : List (Int × Int)) (w : World) (h : MK m lv lb a c w) (ha : a ≤ 100000) :
    Calls Tryz.prog 23 #[.pointer (some ⟨m, 0, none⟩)] w fun e w' => e = .returned (.int .i64 (rdB lb a : Nat)) ∧ MK m lv lb (a + 1) c w' ∧ KA m w w' := by
  obtain ⟨cv, hbk, hown⟩ := h.own
  obtain ⟨ao, cap, rfl, hn, hsrc⟩ := h.src
  have HS := Lib.hid h.src
  have c0 := Mem.cell (v := .slice ao lb.length cap) hbk 0 rfl
  have c1 := Mem.cell (v := .int .i64 a) hbk 1 rfl
  have f1 := Mem.free hbk 1
  have hB3 := (Below.refl m w).setCell (p := ⟨m, 1, none⟩) (Nat.le_refl m) (.int .i64 ((a : Int) + 1))
  have hO3 : (w.setCell ⟨m, 1, none⟩ (.int .i64 ((a : Int) + 1))).ownsRow m 52 2 cv c.length (c.map orow).flatten := by
    refine ownsRow_setCell_other (a := ⟨m, 1, none⟩) hown ?_ _
    intro e
    rcases hown.2 with ⟨hv, _⟩ | ⟨g, cap, cur, hv, _, hgb, _⟩
    · rw [hv] at e; cases e
    · rw [hv] at e
      have e2 : g = m := by simpa [Value.ownBlock] using e
      subst e2
      rw [hbk] at hgb
      cases hgb
  have hM3 : MK m (.slice ao lb.length cap) lb (a + 1) c (w.setCell ⟨m, 1, none⟩ (.int .i64 ((a : Int) + 1))) := ⟨HS.out.below hB3, cv, setCell_block hbk _, hO3⟩
  have hb3 := setCell_block hbk (i := 1) (.int .i64 ((a : Int) + 1))
  have hK3 := (KA.refl m w).set 1 (.int .i64 ((a : Int) + 1))
  obtain ⟨W3, hW3⟩ : ∃ W, W = w.setCell ⟨m, 1, none⟩ (.int .i64 ((a : Int) + 1)) := ⟨_, rfl⟩
  rw [← hW3] at hB3 hM3 hb3 hK3
  have d0 := Mem.cell (v := .slice ao lb.length cap) hb3 0 rfl
  have d1 := Mem.cell (v := .int .i64 ((a : Int) + 1)) hb3 1 rfl
  have HM := Lib.hid hM3
  have HB := Lib.hid hK3
  clear hM3 hB3 hK3 hO3 hb3 hown hbk h
  by_cases hlt : a < lb.length
  · obtain ⟨b, off, rfl, hbm, hcl⟩ := hsrc a hlt
    have e : rdB lb a = lb[a].toNat := by unfold rdB; rw [getD_lt hlt]
    have hx := rdB_lt lb a
    rw [← e] at hcl
    have hcl3 : W3.cell? ⟨b, off + a, none⟩ = some (.int .u8 (rdB lb a : Nat)) := by
      rw [hW3, cell_other (by omega)]
      exact hcl
    obtain ⟨x, hx2⟩ : ∃ x, x = rdB lb a := ⟨_, rfl⟩
    rw [← hx2] at hcl3 hx ⊢
    obtain ⟨n, hn2⟩ : ∃ n, n = lb.length := ⟨_, rfl⟩
    rw [← hn2] at c0 d0 hn hlt
    have h1 : ¬ (n : Int) < (a : Int) + 1 := by omega
    have h2 : (a : Int) + 1 - 1 = a := by omega
    have h3 : (0 : Int) ≤ a := by omega
    have h4 : (a : Int) < n := by omega
    have HW := Lib.hid hW3
    clear hsrc hcl e hx2 hW3
    go_enter Tryz.func23, Tryz.ntmps23
    go_wp2_with fail
    refine wp_named ?_
    intro W4 hW4
    obtain rfl : W4 = W3 := hW4.trans HW.out.symm
    clear hW4
    go_quiet (fail)
    go_wp2_with fail
    go_quiet (fail)
    go_wp2_with fail
    go_ret
    exact ⟨rfl, MK.below HM.out ⟨rfl, rfl, rfl, Nat.le_refl _, fun _ _ => rfl⟩, HB.out.trans ⟨rfl, rfl, rfl, Nat.le_refl _, fun _ _ _ => rfl⟩⟩
  · have e : rdB lb a = 0 := by
      unfold rdB
      rw [List.getD_eq_getElem?_getD, List.getElem?_eq_none (by omega)]
      rfl
    rw [e]
    obtain ⟨n, hn2⟩ : ∃ n, n = lb.length := ⟨_, rfl⟩
    rw [← hn2] at c0 d0 hn hlt
    have h1 : (n : Int) < (a : Int) + 1 := by omega
    have HW := Lib.hid hW3
    clear hsrc e hW3
    go_enter Tryz.func23, Tryz.ntmps23
    go_wp2_with fail
    refine wp_named ?_
    intro W4 hW4
    obtain rfl : W4 = W3 := hW4.trans HW.out.symm
    clear hW4
    go_quiet (fail)
    go_wp2_with fail
    go_ret
    exact ⟨rfl, MK.below HM.out ⟨rfl, rfl, rfl, Nat.le_refl _, fun _ _ => rfl⟩, HB.out.trans ⟨rfl, rfl, rfl, Nat.le_refl _, fun _ _ _ => rfl⟩⟩
set_option maxRecDepth 100000 in
set_option maxHeartbeats 2000000 in
theorem number_any (m : Nat) (lv : Value) (lb : List UInt8) (a : Nat) (c : List (Int × Int)) (w : World) (h : MK m lv lb a c w) (ha : a ≤ 100000) (hc : c.length ≤ 100000) :
    Calls Tryz.prog 60 #[.pointer (some ⟨m, 0, none⟩)] w fun e w' => e = .returned (.tuple #[]) ∧ MK m lv lb (a + 1) (c ++ [(1, ((rdB lb a : Nat) : Int) % 8)]) w' ∧ Below m w w' := by
  have hx := rdB_lt lb a
  have hn := next_any m lv lb a c w h ha
  have hc2 := hc
  obtain ⟨x, hx2⟩ : ∃ x, x = rdB lb a := ⟨_, rfl⟩
  rw [← hx2] at hx hn ⊢
  clear hx2 hc
  go_enter Tryz.func60, Tryz.ntmps60
  go_wp2_with fail
  refine hn.mono ?_
  rintro e w1 ⟨rfl, h1, hk1⟩
  have hb1 := ka_low hk1 h.lt
  go_wp2_with fail
  refine (emit_any m lv lb (a + 1) c _ _ w1 h1 hc2).mono ?_
  rintro e w2 ⟨rfl, h2, hb2⟩
  go_wp2_with fail
  go_end0
  exact ⟨rfl, h2, hb1.trans hb2⟩
set_option maxRecDepth 100000 in
set_option maxHeartbeats 2000000 in
theorem mark_any (m : Nat) (lv : Value) (lb : List UInt8) (a : Nat) (c : List (Int × Int)) (w : World) (h : MK m lv lb a c w) (ha : a ≤ 100000) (hc : c.length ≤ 100000) :
    Calls Tryz.prog 61 #[.pointer (some ⟨m, 0, none⟩)] w fun e w' => e = .returned (.tuple #[]) ∧ MK m lv lb (a + 1) (c ++ [(1, 8 + ((rdB lb a : Nat) : Int) % 8)]) w' ∧ Below m w w' := by
  have hx := rdB_lt lb a
  have hn := next_any m lv lb a c w h ha
  have hc2 := hc
  obtain ⟨x, hx2⟩ : ∃ x, x = rdB lb a := ⟨_, rfl⟩
  rw [← hx2] at hx hn ⊢
  clear hx2 hc
  go_enter Tryz.func61, Tryz.ntmps61
  go_wp2_with fail
  refine hn.mono ?_
  rintro e w1 ⟨rfl, h1, hk1⟩
  have hb1 := ka_low hk1 h.lt
  go_wp2_with fail
  refine (emit_any m lv lb (a + 1) c _ _ w1 h1 hc2).mono ?_
  rintro e w2 ⟨rfl, h2, hb2⟩
  go_wp2_with fail
  go_end0
  exact ⟨rfl, h2, hb1.trans hb2⟩
set_option maxRecDepth 100000 in
set_option maxHeartbeats 2000000 in
theorem local_any (m : Nat) (lv : Value) (lb : List UInt8) (a : Nat) (c : List (Int × Int)) (k : Int) (w : World) (h : MK m lv lb a c w) (hc : c.length ≤ 100000) :
    Calls Tryz.prog 43 #[.pointer (some ⟨m, 0, none⟩), .int .i64 k] w fun e w' => e = .returned (.tuple #[]) ∧ MK m lv lb a (c ++ [(2, k)]) w' ∧ Below m w w' := by
  go_enter Tryz.func43, Tryz.ntmps43
  go_wp2_with fail
  refine (emit_any m lv lb a c _ _ w h hc).mono ?_
  rintro e w2 ⟨rfl, h2, hb2⟩
  go_wp2_with fail
  go_end0
  exact ⟨rfl, h2, hb2⟩
/-- what a program may hold -/
def gd (o : Int × Int) : Prop := rightO o = true ∧ o.2 < 60000
theorem gd0 {o : Int} (h : (4 ≤ o ∧ o ≤ 14) ∨ (18 ≤ o ∧ o ≤ 19) ∨ (21 ≤ o ∧ o ≤ 37) ∨ o = 39 ∨ (41 ≤ o ∧ o ≤ 43) ∨ (46 ≤ o ∧ o ≤ 47)) : gd (o, 0) := by
  refine ⟨?_, by simp only []; omega⟩
  have hk : aOk o = true := by unfold aOk; exact decide_eq_true (by omega)
  exact all_codes (p := fun o => ((4 ≤ o ∧ o ≤ 14) ∨ (18 ≤ o ∧ o ≤ 19) ∨ (21 ≤ o ∧ o ≤ 37) ∨ o = 39 ∨ (41 ≤ o ∧ o ≤ 43) ∨ (46 ≤ o ∧ o ≤ 47)) → rightO (o, 0) = true) (by decide +kernel) o hk h
theorem gd1 {o x : Int} (h : (1 ≤ o ∧ o ≤ 3) ∨ (15 ≤ o ∧ o ≤ 17) ∨ o = 20 ∨ o = 38 ∨ o = 40 ∨ (44 ≤ o ∧ o ≤ 45)) (h1 : 0 ≤ x) (h2 : x < 60000) : gd (o, x) := by
  refine ⟨?_, h2⟩
  have hk : aOk o = true := by unfold aOk; exact decide_eq_true (by omega)
  have ha := all_codes (p := fun o => ((1 ≤ o ∧ o ≤ 3) ∨ (15 ≤ o ∧ o ≤ 17) ∨ o = 20 ∨ o = 38 ∨ o = 40 ∨ (44 ≤ o ∧ o ≤ 45)) → aArg o ≠ 0) (by decide +kernel) o hk h
  show rightB o x = true
  unfold rightB
  rw [hk, if_neg ha, Bool.true_and]
  exact decide_eq_true ⟨h1, by omega⟩
/-- a maker at work: what stood, what came behind -/
structure DS (m : Nat) (lv : Value) (lb : List UInt8) (c : List (Int × Int)) (w : World) (a : Nat) (d : List (Int × Int)) (W : World) : Prop where
  mak : MK m lv lb a (c ++ d) W
  hb : Below m w W
  good : ∀ o ∈ d, gd o
theorem good_snoc {d : List (Int × Int)} (h : ∀ o ∈ d, gd o) {o : Int × Int} (ho : gd o) : ∀ x ∈ d ++ [o], gd x := fun x hx => (List.mem_append.1 hx).elim (h x) (fun h2 => by rw [List.mem_singleton.1 h2]; exact ho)
section
variable {m : Nat} {lv : Value} {lb : List UInt8} {c d : List (Int × Int)} {w W : World} {a : Nat}
theorem DS.al (H : DS m lv lb c w a d W) (o : Obj) : DS m lv lb c w a d (W.alloc o) := ⟨H.mak.below (below_al (Below.refl _ _) o), H.hb.trans ((Below.refl m W).alloc (Nat.le_of_lt H.mak.lt) o), H.good⟩
theorem next_c (H : DS m lv lb c w a d W) (ha : a ≤ 100000) :
    Calls Tryz.prog 23 #[.pointer (some ⟨m, 0, none⟩)] W fun e w' => e = .returned (.int .i64 (rdB lb a : Nat)) ∧ DS m lv lb c w (a + 1) d w' ∧ KA m W w' :=
  (next_any m lv lb a (c ++ d) W H.mak ha).mono fun _ _ ⟨h1, h2, h3⟩ => ⟨h1, ⟨h2, H.hb.trans (ka_low h3 H.mak.lt), H.good⟩, h3⟩
theorem emit_c (H : DS m lv lb c w a d W) (o x : Int) (hc : (c ++ d).length ≤ 100000) (hg : gd (o, x)) :
    Calls Tryz.prog 22 #[.pointer (some ⟨m, 0, none⟩), .int .i64 o, .int .i64 x] W fun e w' => e = .returned (.tuple #[]) ∧ DS m lv lb c w a (d ++ [(o, x)]) w' :=
  (emit_any m lv lb a (c ++ d) o x W H.mak hc).mono fun e w' ⟨h1, h2, h3⟩ => ⟨h1, by rw [← List.append_assoc]; exact h2, H.hb.trans h3, good_snoc H.good hg⟩
theorem local_c (H : DS m lv lb c w a d W) (k : Int) (hc : (c ++ d).length ≤ 100000) (h0 : 0 ≤ k) (h1 : k < 60000) :
    Calls Tryz.prog 43 #[.pointer (some ⟨m, 0, none⟩), .int .i64 k] W fun e w' => e = .returned (.tuple #[]) ∧ DS m lv lb c w a (d ++ [(2, k)]) w' :=
  (local_any m lv lb a (c ++ d) k W H.mak hc).mono fun e w' ⟨h1', h2, h3⟩ => ⟨h1', by rw [← List.append_assoc]; exact h2, H.hb.trans h3, good_snoc H.good (gd1 (by omega) h0 h1)⟩
theorem number_c (H : DS m lv lb c w a d W) (ha : a ≤ 100000) (hc : (c ++ d).length ≤ 100000) :
    Calls Tryz.prog 60 #[.pointer (some ⟨m, 0, none⟩)] W fun e w' => e = .returned (.tuple #[]) ∧ DS m lv lb c w (a + 1) (d ++ [(1, ((rdB lb a : Nat) : Int) % 8)]) w' :=
  (number_any m lv lb a (c ++ d) W H.mak ha hc).mono fun e w' ⟨h1', h2, h3⟩ => ⟨h1', by rw [← List.append_assoc]; exact h2, H.hb.trans h3, good_snoc H.good (gd1 (by omega) (by omega) (by omega))⟩
theorem mark_c (H : DS m lv lb c w a d W) (ha : a ≤ 100000) (hc : (c ++ d).length ≤ 100000) :
    Calls Tryz.prog 61 #[.pointer (some ⟨m, 0, none⟩)] W fun e w' => e = .returned (.tuple #[]) ∧ DS m lv lb c w (a + 1) (d ++ [(1, 8 + ((rdB lb a : Nat) : Int) % 8)]) w' :=
  (mark_any m lv lb a (c ++ d) W H.mak ha hc).mono fun e w' ⟨h1', h2, h3⟩ => ⟨h1', by rw [← List.append_assoc]; exact h2, H.hb.trans h3, good_snoc H.good (gd1 (by omega) (by omega) (by omega))⟩
end
/-- what a deed does -/
def DeedP (m : Nat) (lv : Value) (lb : List UInt8) (c : List (Int × Int)) (w : World) (a : Nat) (w' : World) : Prop := ∃ a' d, DS m lv lb c w a' d w' ∧ a' ≤ a + 9 ∧ 0 < d.length ∧ d.length ≤ 6
end Go.Proofs.YtiggallcoocdaaaGreatDoor
