/- lazarettolaw12.MvarCounts: the walk. -/
import Derived.Test.YtdpmilffadalkaaDoorMvCnt
namespace Go.Proofs.YtdpmilffadalkaaDoor
open Go.RowKit
/-- the variable's box and its own list, at a world -/
structure XBox (b : Nat) (x : VM) (ao : Option Addr) (cap : Nat) (w : World) : Prop where
  box : w.heap[b]? = some (.cells #[.bool x.full, .int .i64 x.v.k, .int .i64 x.v.n, .string x.v.nm, .string x.v.s, .string x.v.i, .slice ao x.q.length cap] 31)
  own : OwnQ (b + 1) w (.slice ao x.q.length cap) x.q
set_option maxRecDepth 100000 in
set_option maxHeartbeats 4000000 in
theorem mvarCounts_walk (v : Value) (l : List A3) (w : World) (hv : ActsAt w v l) (hw : Laid w) :
    Calls Tryd.prog 4 #[v] w fun e w' => e = .returned (.bool true) ∧ Below w.heap.size w w' := by
  obtain ⟨ao, cap, rfl⟩ := hv.slice
  obtain ⟨N, hN⟩ : ∃ N, l.length = N := ⟨_, rfl⟩
  rw [hN] at hv ⊢
  have HN := Lib.hid hN
  have hv0 := hv
  clear hN
  go_enter Tryd.func4, Tryd.ntmps4
  have hB0 := Below.refl w.heap.size w
  have M0 := Mem.nil w
  go_wp2_with fail
  refine Calls.named ?_
  intro W1 hW1
  have hB1_ : Below w.heap.size w W1 := by rw [hW1]; exact hB0
  have hw1_ : Laid W1 := by rw [hW1]; exact hw
  have M1_ := Mem.nil W1
  have hS1 : Below w.heap.size w W1 := by rw [hW1]; exact (Below.refl _ _)
  have hv_ := ActsAt.below hv hS1
  clear hS1 hv
  clear hW1
  refine (examples_any _ hw1_).mono ?_
  rintro e w1 ⟨rfl, hb1⟩
  have hv := ActsAt.below hv_ hb1
  clear hv_
  have hB1 := below_then hB1_ hb1
  have hw1 := hw1_.below hb1
  have M1 := M1_.below hb1
  clear M1_ hB1_ hb1 hw1_
  go_wp2_with fail
  have HB1 := Lib.hid hB1
  obtain ⟨bx, hbx⟩ : ∃ b, b = w1.heap.size := ⟨_, rfl⟩
  rw [← hbx]
  have hX0 : XBox bx ⟨false, ⟨0, 0, ⟨#[]⟩, ⟨#[]⟩, ⟨#[]⟩⟩, []⟩ none 0 (w1.alloc (.cells #[.bool false, .int .i64 0, .int .i64 0, .string ⟨#[]⟩, .string ⟨#[]⟩, .string ⟨#[]⟩, .slice none 0 0] 31)) :=
    ⟨by rw [hbx]; exact heap_alloc_new _ _, World.ownsRow_nil _ _ _ _⟩
  have hle : w1.heap.size ≤ bx := by omega
  have hwx : w.heap.size ≤ bx := by have := hB1.size; omega
  have hlt0 : bx < (w1.alloc (.cells #[.bool false, .int .i64 0, .int .i64 0, .string ⟨#[]⟩, .string ⟨#[]⟩, .string ⟨#[]⟩, .slice none 0 0] 31)).heap.size := by simp; omega
  clear hbx
  go_loopw [5, 6, 7, 8] (fun p t b i wr => ∃ (j : Nat) (P T B : Int) (x : VM) (aq : Option Addr) (cq : Nat), j ≤ 60 ∧ p = .int .i64 P ∧ t = .int .i64 T ∧ b = .int .i64 B ∧ i = .int .i64 j ∧ XBox bx x aq cq wr ∧ Below w.heap.size w wr ∧ CInv x P T B ∧ x.q.length ≤ j ∧ (-(j : Int) ≤ P ∧ P ≤ j ∧ 0 ≤ T ∧ T ≤ j)) (fun _ _ _ i _ => 60 - (intOf i).toNat)
  case atStart => exact ⟨0, 0, 0, 0, _, none, 0, by omega, rfl, rfl, rfl, rfl, hX0, below_al HB1.out _, CInv.zero _, by simp, by omega⟩
  case round =>
    obtain ⟨j, P, T, B, ⟨f, ⟨k, n, m, s, i⟩, q⟩, aq, cq, hj, rfl, rfl, rfl, rfl, hX, hbr, hinv, hql, hP1, hP2, hT1, hT2⟩ := hrel
    by_cases hin : j < N ∧ j < 60
    · obtain ⟨hjN, hj60⟩ := hin
      obtain ⟨w2, rfl⟩ : ∃ x, x = wr := ⟨_, rfl⟩
      have hvr := hv0.below hbr
      have hjl : j < l.length := by rw [HN.out]; exact hjN
      obtain ⟨ab, aoff, rfl, har⟩ := ActsAt.row hvr hjl
      have hac := hv.1 l[j] (List.getElem_mem hjl)
      generalize l[j] = act at har hac
      obtain ⟨kd, id, nn⟩ := act
      obtain ⟨hk0, hk1, hi0, hi1, hnn⟩ := hac
      simp only at hk0 hk1 hi0 hi1 hnn
      have g1 : (0 : Int) ≤ (j : Int) := by omega
      have g2 : (j : Int) < (N : Int) := by omega
      have g3 : (j : Int) < 60 := by omega
      replace hql : q.length ≤ j := hql
      have hBl : B = q.length := hinv.blocked
      have hB1' : 0 ≤ B := by omega
      have hB2' : B ≤ 60 := by omega
      have HINV := Lib.hid hinv
      have HBl := Lib.hid hBl
      have hown : OwnQ (bx + 1) w2 (.slice aq q.length cq) q := hX.own
      have M2 : Mem w2 [(bx, .cells #[.bool f, .int .i64 k, .int .i64 n, .string m, .string s, .string i, .slice aq q.length cq] 31)] := ⟨hX.box, trivial⟩
      have hB2 : Below w.heap.size w w2 := hbr
      have a0 := har.2.1
      have a1 := har.2.2.1
      clear hX hv hv0 hvr hjl hX0 hlt0 hinv hBl hB1 hw1 hw M1 hB0 M0
      have c2_0_0 := Mem.cell (v := .bool f) M2.1 0 rfl
      have c2_0_1 := Mem.cell (v := .int .i64 k) M2.1 1 rfl
      have c2_0_2 := Mem.cell (v := .int .i64 n) M2.1 2 rfl
      have c2_0_3 := Mem.cell (v := .string m) M2.1 3 rfl
      have c2_0_4 := Mem.cell (v := .string s) M2.1 4 rfl
      have c2_0_5 := Mem.cell (v := .string i) M2.1 5 rfl
      have c2_0_6 := Mem.cell (v := .slice aq q.length cq) M2.1 6 rfl
      have z2_0 := Mem.lt M2.1
      go_wp2_with fail
      refine Calls.named ?_
      intro W3 hW3
      have hB3_ : Below w.heap.size w W3 := by rw [hW3]; exact hB2
      have M3_ := M2
      rw [← hW3] at M3_
      have hS3 : Below w2.heap.size w2 W3 := by rw [hW3]; exact (Below.refl _ _)
      have hown_ := OwnQ.keep hown hS3
      have har_ := ActRow.below har hS3
      clear hS3 hown har
      clear hW3
      have ZZ3_0 := Lib.hid (Mem.lt M3_.1)
      clear c2_0_0 c2_0_1 c2_0_2 c2_0_3 c2_0_4 c2_0_5 c2_0_6 z2_0
      refine (who_any id hi0 hi1 _).mono ?_
      rintro e w3 ⟨rfl, hb3⟩
      have hown := OwnQ.keep hown_ hb3
      have har := ActRow.below har_ hb3
      clear hown_ har_
      have hB3 := below_then hB3_ hb3
      have M3 := M3_.below hb3
      clear M3_ hB3_ hb3
      have c3_0_0 := Mem.cell (v := .bool f) M3.1 0 rfl
      have c3_0_1 := Mem.cell (v := .int .i64 k) M3.1 1 rfl
      have c3_0_2 := Mem.cell (v := .int .i64 n) M3.1 2 rfl
      have c3_0_3 := Mem.cell (v := .string m) M3.1 3 rfl
      have c3_0_4 := Mem.cell (v := .string s) M3.1 4 rfl
      have c3_0_5 := Mem.cell (v := .string i) M3.1 5 rfl
      have c3_0_6 := Mem.cell (v := .slice aq q.length cq) M3.1 6 rfl
      have z3_0 := Mem.lt M3.1
      have a0' := har.2.1
      have hz3 : bx < w3.heap.size := z3_0
      clear a0 a1
      obtain ⟨S, hS⟩ : ∃ S, whoS id = S := ⟨_, rfl⟩
      have hSs := whoS_some id
      rw [hS] at hSs ⊢
      clear hS
      by_cases hk3 : kd % 4 = 3
      · obtain ⟨⟨⟨yf, ⟨yk, yn, ym, ys, yi⟩, yq⟩, ok⟩, hr⟩ : ∃ r, leaveM ⟨f, ⟨k, n, m, s, i⟩, q⟩ S = r := ⟨_, rfl⟩
        have hiv := HINV.out.leave S
        have hyl := leave_len ⟨f, ⟨k, n, m, s, i⟩, q⟩ S
        rw [hr] at hiv hyl
        simp only at hiv hyl
        have HR := Lib.hid hr
        have HIV := Lib.hid hiv
        clear hr hiv
        go_wp2_with fail
        refine Calls.named ?_
        intro W4 hW4
        have hB4_ : Below w.heap.size w W4 := by rw [hW4]; exact (below_al hB3 _)
        have M4_ := (M3).new' (w3.heap.size) (by rfl) (.cells #[.bool f, .int .i64 k, .int .i64 n, .string m, .string s, .string i, .slice aq q.length cq] 31)
        rw [← hW4] at M4_
        have hS4 : Below w3.heap.size w3 W4 := by rw [hW4]; exact (below_al (Below.refl _ _) _)
        have hown_ := OwnQ.keep hown hS4
        have har_ := ActRow.below har hS4
        clear hS4 hown har
        clear hW4
        have ZZ4_0 := Lib.hid (Mem.lt M4_.1)
        have ZZ4_1 := Lib.hid (Mem.lt M4_.2.1)
        clear c3_0_0 c3_0_1 c3_0_2 c3_0_3 c3_0_4 c3_0_5 c3_0_6 z3_0
        refine (mleave_any f k n m s i S q _ _ (hown_).at (by omega)).mono ?_
        rw [HR.out]
        rintro e w4 ⟨vy, rfl, hqy, hb4⟩
        have hown := OwnQ.keep hown_ hb4
        have har := ActRow.below har_ hb4
        clear hown_ har_
        have hB4 := below_then hB4_ hb4
        have M4 := M4_.below hb4
        clear M4_ hB4_ hb4
        have c4_0_0 := Mem.cell (v := .bool f) M4.1 0 rfl
        have c4_0_1 := Mem.cell (v := .int .i64 k) M4.1 1 rfl
        have c4_0_2 := Mem.cell (v := .int .i64 n) M4.1 2 rfl
        have c4_0_3 := Mem.cell (v := .string m) M4.1 3 rfl
        have c4_0_4 := Mem.cell (v := .string s) M4.1 4 rfl
        have c4_0_5 := Mem.cell (v := .string i) M4.1 5 rfl
        have c4_0_6 := Mem.cell (v := .slice aq q.length cq) M4.1 6 rfl
        have z4_0 := Mem.lt M4.1
        have c4_1_0 := Mem.cell (v := .bool f) M4.2.1 0 rfl
        have c4_1_1 := Mem.cell (v := .int .i64 k) M4.2.1 1 rfl
        have c4_1_2 := Mem.cell (v := .int .i64 n) M4.2.1 2 rfl
        have c4_1_3 := Mem.cell (v := .string m) M4.2.1 3 rfl
        have c4_1_4 := Mem.cell (v := .string s) M4.2.1 4 rfl
        have c4_1_5 := Mem.cell (v := .string i) M4.2.1 5 rfl
        have c4_1_6 := Mem.cell (v := .slice aq q.length cq) M4.2.1 6 rfl
        have z4_1 := Mem.lt M4.2.1
        have hq3 := (show OwnQ _ _ vy yq from hqy)
        obtain ⟨ao3, cap3, rfl⟩ := hq3.at.slice
        clear hqy
        have fx := Mem.free M4.2.1
        have ho := cell_other (b := w3.heap.size) (b' := bx) (by omega)
        have hz4 : bx < W4.heap.size := ZZ4_1.out
        have hfx : XBox bx ⟨yf, ⟨yk, yn, ym, ys, yi⟩, yq⟩ ao3 cap3 (w4.setCells bx 0 [.bool yf, .int .i64 yk, .int .i64 yn, .string ym, .string ys, .string yi, .slice ao3 yq.length cap3]) := ⟨set_block M4.2.1 [.bool yf, .int .i64 yk, .int .i64 yn, .string ym, .string ys, .string yi, .slice ao3 yq.length cap3] rfl, OwnQ.low (own_set hq3 hz4 [.bool yf, .int .i64 yk, .int .i64 yn, .string ym, .string ys, .string yi, .slice ao3 yq.length cap3] 0) hz4⟩
        have hfb := below_setCells hB4 (b := bx) (by omega) 0 [.bool yf, .int .i64 yk, .int .i64 yn, .string ym, .string ys, .string yi, .slice ao3 yq.length cap3]
        have HFX := Lib.hid hfx
        have HFB := Lib.hid hfb
        clear hfx hfb
        have hwB := hB2.size
        clear hq3 hB4 M4 hB3 M3 hB2 M2 hbr
        cases ok <;> cases f
        · go_wp2_with fail
          go_roundw
          case rel => exact ⟨j + 1, P, T, B, ⟨yf, ⟨yk, yn, ym, ys, yi⟩, yq⟩, ao3, cap3, by omega, rfl, rfl, rfl, by go_num, HFX.out, HFB.out, by have := HIV.out; simpa [okT] using this, by simp only; omega, by omega⟩
          case measure => simp [intOf]; omega
        · go_wp2_with fail
          go_roundw
          case rel => exact ⟨j + 1, P, T, B, ⟨yf, ⟨yk, yn, ym, ys, yi⟩, yq⟩, ao3, cap3, by omega, rfl, rfl, rfl, by go_num, HFX.out, HFB.out, by have := HIV.out; simpa [okT] using this, by simp only; omega, by omega⟩
          case measure => simp [intOf]; omega
        · go_wp2_with fail
          go_roundw
          case rel => exact ⟨j + 1, P, T, B - 1, ⟨yf, ⟨yk, yn, ym, ys, yi⟩, yq⟩, ao3, cap3, by omega, rfl, rfl, rfl, by go_num, HFX.out, HFB.out, by have := HIV.out; simpa [okT] using this, by simp only; omega, by omega⟩
          case measure => simp [intOf]; omega
        · go_wp2_with fail
          go_roundw
          case rel => exact ⟨j + 1, P - 1, T, B - 1, ⟨yf, ⟨yk, yn, ym, ys, yi⟩, yq⟩, ao3, cap3, by omega, rfl, rfl, rfl, by go_num, HFX.out, HFB.out, by have := HIV.out; simpa [okT] using this, by simp only; omega, by omega⟩
          case measure => simp [intOf]; omega
      · skip
        go_wp2_with fail
        refine Calls.named ?_
        intro W4 hW4
        have hB4_ : Below w.heap.size w W4 := by rw [hW4]; exact hB3
        have M4_ := M3
        rw [← hW4] at M4_
        have hS4 : Below w3.heap.size w3 W4 := by rw [hW4]; exact (Below.refl _ _)
        have hown_ := OwnQ.keep hown hS4
        have har_ := ActRow.below har hS4
        clear hS4 hown har
        clear hW4
        have ZZ4_0 := Lib.hid (Mem.lt M4_.1)
        clear c3_0_0 c3_0_1 c3_0_2 c3_0_3 c3_0_4 c3_0_5 c3_0_6 z3_0
        refine (waits_any f k n m s i S q _ _ (hown_).at (by omega)).mono ?_
        rintro e w4 ⟨rfl, hb4⟩
        have hown := OwnQ.keep hown_ hb4
        have har := ActRow.below har_ hb4
        clear hown_ har_
        have hB4 := below_then hB4_ hb4
        have M4 := M4_.below hb4
        clear M4_ hB4_ hb4
        have c4_0_0 := Mem.cell (v := .bool f) M4.1 0 rfl
        have c4_0_1 := Mem.cell (v := .int .i64 k) M4.1 1 rfl
        have c4_0_2 := Mem.cell (v := .int .i64 n) M4.1 2 rfl
        have c4_0_3 := Mem.cell (v := .string m) M4.1 3 rfl
        have c4_0_4 := Mem.cell (v := .string s) M4.1 4 rfl
        have c4_0_5 := Mem.cell (v := .string i) M4.1 5 rfl
        have c4_0_6 := Mem.cell (v := .slice aq q.length cq) M4.1 6 rfl
        have z4_0 := Mem.lt M4.1
        have a0'' := har.2.1
        have hz4 : bx < w4.heap.size := z4_0
        clear a0'
        cases hwt : waitsB q S with
        | true =>
          have hwB := hB4.size
          have HX4 : Hid (XBox bx ⟨f, ⟨k, n, m, s, i⟩, q⟩ aq cq w4) := Lib.hid ⟨M4.1, hown⟩
          have HBB := Lib.hid hB4
          clear hB4 M4 hB3 M3 hB2 M2 hbr hown har
          go_wp2_with fail
          go_roundw
          case rel => exact ⟨j + 1, P, T, B, _, aq, cq, by omega, rfl, rfl, rfl, by go_num, HX4.out, HBB.out, HINV.out, by simp only; omega, by omega⟩
          case measure => simp [intOf]; omega
        | false =>
          by_cases hk0 : kd % 4 = 0
          · obtain ⟨⟨⟨yf, ⟨yk, yn, ym, ys, yi⟩, yq⟩, ⟨vk, vn, vm, vs, vi⟩, ok, wk⟩, hr⟩ : ∃ r, takeM ⟨f, ⟨k, n, m, s, i⟩, q⟩ S = r := ⟨_, rfl⟩
            have hiv := HINV.out.take hSs
            have hyl := take_len ⟨f, ⟨k, n, m, s, i⟩, q⟩ S
            rw [hr] at hiv hyl
            simp only at hiv hyl
            have HR := Lib.hid hr
            have HIV := Lib.hid hiv
            clear hr hiv
            go_wp2_with fail
            refine Calls.named ?_
            intro W5 hW5
            have hB5_ : Below w.heap.size w W5 := by rw [hW5]; exact hB4
            have M5_ := M4
            rw [← hW5] at M5_
            have hS5 : Below w4.heap.size w4 W5 := by rw [hW5]; exact (Below.refl _ _)
            have hown_ := OwnQ.keep hown hS5
            have har_ := ActRow.below har hS5
            clear hS5 hown har
            clear hW5
            have ZZ5_0 := Lib.hid (Mem.lt M5_.1)
            clear c4_0_0 c4_0_1 c4_0_2 c4_0_3 c4_0_4 c4_0_5 c4_0_6 z4_0
            refine (mtake_any f k n m s i S q _ _ (hown_).at (by omega)).mono ?_
            rw [HR.out]
            rintro e w5 ⟨vy, rfl, hqy, hb5⟩
            have hown := OwnQ.keep hown_ hb5
            have har := ActRow.below har_ hb5
            clear hown_ har_
            have hB5 := below_then hB5_ hb5
            have M5 := M5_.below hb5
            clear M5_ hB5_ hb5
            have c5_0_0 := Mem.cell (v := .bool f) M5.1 0 rfl
            have c5_0_1 := Mem.cell (v := .int .i64 k) M5.1 1 rfl
            have c5_0_2 := Mem.cell (v := .int .i64 n) M5.1 2 rfl
            have c5_0_3 := Mem.cell (v := .string m) M5.1 3 rfl
            have c5_0_4 := Mem.cell (v := .string s) M5.1 4 rfl
            have c5_0_5 := Mem.cell (v := .string i) M5.1 5 rfl
            have c5_0_6 := Mem.cell (v := .slice aq q.length cq) M5.1 6 rfl
            have z5_0 := Mem.lt M5.1
            have hq3 := (show OwnQ _ _ vy yq from hqy)
            obtain ⟨ao5, cap5, rfl⟩ := hq3.at.slice
            clear hqy
            have fx := Mem.free M5.1
            have hz5 : bx < W5.heap.size := ZZ5_0.out
            have hfx : XBox bx ⟨yf, ⟨yk, yn, ym, ys, yi⟩, yq⟩ ao5 cap5 (w5.setCells bx 0 [.bool yf, .int .i64 yk, .int .i64 yn, .string ym, .string ys, .string yi, .slice ao5 yq.length cap5]) := ⟨set_block M5.1 [.bool yf, .int .i64 yk, .int .i64 yn, .string ym, .string ys, .string yi, .slice ao5 yq.length cap5] rfl, OwnQ.low (own_set hq3 hz5 [.bool yf, .int .i64 yk, .int .i64 yn, .string ym, .string ys, .string yi, .slice ao5 yq.length cap5] 0) hz5⟩
            have hfb := below_setCells hB5 (b := bx) (by omega) 0 [.bool yf, .int .i64 yk, .int .i64 yn, .string ym, .string ys, .string yi, .slice ao5 yq.length cap5]
            have HFX := Lib.hid hfx
            have HFB := Lib.hid hfb
            have hwB := hB2.size
            clear hfx hfb
            clear hq3 hB5 M5 hB4 M4 hB3 M3 hB2 M2 hbr
            cases ok
            · by_cases hwk : wk.toList = []
              · have hwe : wk.toList.isEmpty = true := by rw [hwk]; rfl
                have hwq : (wk.toList == []) = true := by simpa using hwk
                cases yf
                · have e1 : P - T = 0 := by have := HIV.out.count; simp [okT, notE, hwk] at this; omega
                  have e2 : (B + 1 == (yq.length : Int)) = true := by have := HIV.out.blocked; simp [okT, notE, hwk] at this; simp; omega
                  have HIV2 : Hid (CInv ⟨false, ⟨yk, yn, ym, ys, yi⟩, yq⟩ (P) (T) (B + 1)) := Lib.hid (by have := HIV.out; simpa [okT, notE, hwk] using this)
                  go_wp2_with fail
                  go_roundw
                  case rel => exact ⟨j + 1, P, T, B + 1, ⟨false, ⟨yk, yn, ym, ys, yi⟩, yq⟩, ao5, cap5, by omega, rfl, rfl, rfl, by go_num, HFX.out, HFB.out, HIV2.out, by simp only; omega, by omega⟩
                  case measure => simp [intOf]; omega
                · have e1 : P - T = 1 + (yq.length : Int) := by have := HIV.out.count; simp [okT, notE, hwk] at this; omega
                  have e2 : (B + 1 == (yq.length : Int)) = true := by have := HIV.out.blocked; simp [okT, notE, hwk] at this; simp; omega
                  have HIV2 : Hid (CInv ⟨true, ⟨yk, yn, ym, ys, yi⟩, yq⟩ (P) (T) (B + 1)) := Lib.hid (by have := HIV.out; simpa [okT, notE, hwk] using this)
                  go_wp2_with fail
                  go_roundw
                  case rel => exact ⟨j + 1, P, T, B + 1, ⟨true, ⟨yk, yn, ym, ys, yi⟩, yq⟩, ao5, cap5, by omega, rfl, rfl, rfl, by go_num, HFX.out, HFB.out, HIV2.out, by simp only; omega, by omega⟩
                  case measure => simp [intOf]; omega
              · have hwe : wk.toList.isEmpty = false := by simpa using hwk
                have hwq : (wk.toList == []) = false := by simpa using hwk
                cases yf
                · have e1 : P - T = 0 := by have := HIV.out.count; simp [okT, notE, hwk] at this; omega
                  have e2 : (B == (yq.length : Int)) = true := by have := HIV.out.blocked; simp [okT, notE, hwk] at this; simp; omega
                  have HIV2 : Hid (CInv ⟨false, ⟨yk, yn, ym, ys, yi⟩, yq⟩ (P) (T) (B)) := Lib.hid (by have := HIV.out; simpa [okT, notE, hwk] using this)
                  go_wp2_with fail
                  go_roundw
                  case rel => exact ⟨j + 1, P, T, B, ⟨false, ⟨yk, yn, ym, ys, yi⟩, yq⟩, ao5, cap5, by omega, rfl, rfl, rfl, by go_num, HFX.out, HFB.out, HIV2.out, by simp only; omega, by omega⟩
                  case measure => simp [intOf]; omega
                · have e1 : P - T = 1 + (yq.length : Int) := by have := HIV.out.count; simp [okT, notE, hwk] at this; omega
                  have e2 : (B == (yq.length : Int)) = true := by have := HIV.out.blocked; simp [okT, notE, hwk] at this; simp; omega
                  have HIV2 : Hid (CInv ⟨true, ⟨yk, yn, ym, ys, yi⟩, yq⟩ (P) (T) (B)) := Lib.hid (by have := HIV.out; simpa [okT, notE, hwk] using this)
                  go_wp2_with fail
                  go_roundw
                  case rel => exact ⟨j + 1, P, T, B, ⟨true, ⟨yk, yn, ym, ys, yi⟩, yq⟩, ao5, cap5, by omega, rfl, rfl, rfl, by go_num, HFX.out, HFB.out, HIV2.out, by simp only; omega, by omega⟩
                  case measure => simp [intOf]; omega
            · by_cases hwk : wk.toList = []
              · have hwe : wk.toList.isEmpty = true := by rw [hwk]; rfl
                have hwq : (wk.toList == []) = true := by simpa using hwk
                cases yf
                · have e1 : P - (T + 1) = 0 := by have := HIV.out.count; simp [okT, notE, hwk] at this; omega
                  have e2 : (B == (yq.length : Int)) = true := by have := HIV.out.blocked; simp [okT, notE, hwk] at this; simp; omega
                  have HIV2 : Hid (CInv ⟨false, ⟨yk, yn, ym, ys, yi⟩, yq⟩ (P) (T + 1) (B)) := Lib.hid (by have := HIV.out; simpa [okT, notE, hwk] using this)
                  go_wp2_with fail
                  go_roundw
                  case rel => exact ⟨j + 1, P, T + 1, B, ⟨false, ⟨yk, yn, ym, ys, yi⟩, yq⟩, ao5, cap5, by omega, rfl, rfl, rfl, by go_num, HFX.out, HFB.out, HIV2.out, by simp only; omega, by omega⟩
                  case measure => simp [intOf]; omega
                · have e1 : P - (T + 1) = 1 + (yq.length : Int) := by have := HIV.out.count; simp [okT, notE, hwk] at this; omega
                  have e2 : (B == (yq.length : Int)) = true := by have := HIV.out.blocked; simp [okT, notE, hwk] at this; simp; omega
                  have HIV2 : Hid (CInv ⟨true, ⟨yk, yn, ym, ys, yi⟩, yq⟩ (P) (T + 1) (B)) := Lib.hid (by have := HIV.out; simpa [okT, notE, hwk] using this)
                  go_wp2_with fail
                  go_roundw
                  case rel => exact ⟨j + 1, P, T + 1, B, ⟨true, ⟨yk, yn, ym, ys, yi⟩, yq⟩, ao5, cap5, by omega, rfl, rfl, rfl, by go_num, HFX.out, HFB.out, HIV2.out, by simp only; omega, by omega⟩
                  case measure => simp [intOf]; omega
              · have hwe : wk.toList.isEmpty = false := by simpa using hwk
                have hwq : (wk.toList == []) = false := by simpa using hwk
                cases yf
                · have e1 : P - (T + 1) = 0 := by have := HIV.out.count; simp [okT, notE, hwk] at this; omega
                  have e2 : (B - 1 == (yq.length : Int)) = true := by have := HIV.out.blocked; simp [okT, notE, hwk] at this; simp; omega
                  have HIV2 : Hid (CInv ⟨false, ⟨yk, yn, ym, ys, yi⟩, yq⟩ (P) (T + 1) (B - 1)) := Lib.hid (by have := HIV.out; simpa [okT, notE, hwk] using this)
                  go_wp2_with fail
                  go_roundw
                  case rel => exact ⟨j + 1, P, T + 1, B - 1, ⟨false, ⟨yk, yn, ym, ys, yi⟩, yq⟩, ao5, cap5, by omega, rfl, rfl, rfl, by go_num, HFX.out, HFB.out, HIV2.out, by simp only; omega, by omega⟩
                  case measure => simp [intOf]; omega
                · have e1 : P - (T + 1) = 1 + (yq.length : Int) := by have := HIV.out.count; simp [okT, notE, hwk] at this; omega
                  have e2 : (B - 1 == (yq.length : Int)) = true := by have := HIV.out.blocked; simp [okT, notE, hwk] at this; simp; omega
                  have HIV2 : Hid (CInv ⟨true, ⟨yk, yn, ym, ys, yi⟩, yq⟩ (P) (T + 1) (B - 1)) := Lib.hid (by have := HIV.out; simpa [okT, notE, hwk] using this)
                  go_wp2_with fail
                  go_roundw
                  case rel => exact ⟨j + 1, P, T + 1, B - 1, ⟨true, ⟨yk, yn, ym, ys, yi⟩, yq⟩, ao5, cap5, by omega, rfl, rfl, rfl, by go_num, HFX.out, HFB.out, HIV2.out, by simp only; omega, by omega⟩
                  case measure => simp [intOf]; omega
          · obtain ⟨⟨⟨yf, ⟨yk, yn, ym, ys, yi⟩, yq⟩, ok, wk⟩, hr⟩ : ∃ r, putM ⟨f, ⟨k, n, m, s, i⟩, q⟩ S ⟨1, nn, ⟨#[]⟩, ⟨#[]⟩, ⟨#[]⟩⟩ = r := ⟨_, rfl⟩
            have hiv := HINV.out.put hSs ⟨1, nn, ⟨#[]⟩, ⟨#[]⟩, ⟨#[]⟩⟩
            have hyl := put_len ⟨f, ⟨k, n, m, s, i⟩, q⟩ S ⟨1, nn, ⟨#[]⟩, ⟨#[]⟩, ⟨#[]⟩⟩
            rw [hr] at hiv hyl
            simp only at hiv hyl
            have HR := Lib.hid hr
            have HIV := Lib.hid hiv
            have HQ4 : Hid (∀ W, Below w4.heap.size w4 W → OwnQ (bx + 1) W (.slice aq q.length cq) q) := Lib.hid (fun W hb => hown.keep hb)
            have b2 := har.2.2.2
            have hza := har.1
            have hwB := hB2.size
            have HB4 := Lib.hid hB4
            have HM4 := Lib.hid M4
            have fx4 := Mem.free M4.1
            clear hr hiv hB4 M4 hB3 M3 hB2 M2 hbr hown
            go_upto_region 14 with (fail)
            go_cut [10, 11] from 19 to 128 (fun s10 s11 wx => s10 = .bool ok ∧ s11 = .string wk ∧ (∃ ao5 cap5, XBox bx ⟨yf, ⟨yk, yn, ym, ys, yi⟩, yq⟩ ao5 cap5 wx) ∧ Below w.heap.size w wx)
            case first =>
              go_region_with (first
                | (go_at_call 12; (with_reducible refine (number_any nn _).mono ?_); rintro e wn ⟨rfl, hbn⟩; have hBn : Below w4.heap.size w4 wn := (below_dr (Below.refl _ _)).trans hbn; have hzn := hBn.size; have hgn := (fun (b o : Nat) (h : b < _) => hBn.cell (p := ⟨b, o, none⟩) h); have hfn := (fun (b o : Nat) (h : b < _) => hBn.frozen (p := ⟨b, o, none⟩) h))
                | (go_at_call 11; (with_reducible refine (mput_any f k n m s i S 1 nn ⟨#[]⟩ ⟨#[]⟩ ⟨#[]⟩ q _ _ (HQ4.out _ (by repeat' (first | exact Below.refl _ _ | exact hBn | refine below_dr ?_))).at (by omega)).mono ?_); rw [HR.out]; rintro e wp ⟨vy, rfl, hqy, hbp⟩; have hq3 := (show OwnQ _ _ vy yq from hqy); obtain ⟨ao5, cap5, rfl⟩ := hq3.at.slice; have hBp : Below w4.heap.size w4 wp := hBn.trans (hbp.mono hzn); have hgp := (fun (b o : Nat) (h : b < _) => hBp.cell (p := ⟨b, o, none⟩) h); have hfp := (fun (b o : Nat) (h : b < _) => hBp.frozen (p := ⟨b, o, none⟩) h)))
              all_goals
                have hMp := (hBp.block bx z4_0).trans HM4.out.1
                have hbw : bx < wn.heap.size := by omega
                have hA := set_block hMp [.bool yf, .int .i64 yk, .int .i64 yn, .string ym, .string ys, .string yi, .slice ao5 yq.length cap5] rfl
                have hO := OwnQ.low (own_set hq3 (b := bx) hbw [.bool yf, .int .i64 yk, .int .i64 yn, .string ym, .string ys, .string yi, .slice ao5 yq.length cap5] 0) hbw
                have hC := below_setCells (below_then HB4.out hBp) (b := bx) (by omega) 0 [.bool yf, .int .i64 yk, .int .i64 yn, .string ym, .string ys, .string yi, .slice ao5 yq.length cap5]
                go_wp2_with fail
                go_meet
                exact ⟨rfl, rfl, ⟨ao5, cap5, hA, hO⟩, hC⟩
            obtain ⟨rfl, rfl, ⟨ao5, cap5, hX5⟩, hB5⟩ := hcut
            have hbox := hX5.box
            simp only at hbox
            have k0 := Mem.cell (v := .bool yf) hbox 0 rfl
            have k6 := Mem.cell (v := .slice ao5 yq.length cap5) hbox 6 rfl
            have HFX := Lib.hid hX5
            have HFB := Lib.hid hB5
            clear hbox hX5 hB5 c4_0_0 c4_0_1 c4_0_2 c4_0_3 c4_0_4 c4_0_5 c4_0_6 z4_0 fx4 b2 hza HQ4 HM4 HB4 har a0''
            cases ok
            · by_cases hwk : wk.toList = []
              · have hwe : wk.toList.isEmpty = true := by rw [hwk]; rfl
                have hwq : (wk.toList == []) = true := by simpa using hwk
                cases yf
                · have e1 : P + 1 - T = 0 := by have := HIV.out.count; simp [okT, notE, hwk] at this; omega
                  have e2 : (B + 1 == (yq.length : Int)) = true := by have := HIV.out.blocked; simp [okT, notE, hwk] at this; simp; omega
                  have HIV2 : Hid (CInv ⟨false, ⟨yk, yn, ym, ys, yi⟩, yq⟩ (P + 1) (T) (B + 1)) := Lib.hid (by have := HIV.out; simpa [okT, notE, hwk] using this)
                  go_wp2_with fail
                  go_roundw
                  case rel => exact ⟨j + 1, P + 1, T, B + 1, ⟨false, ⟨yk, yn, ym, ys, yi⟩, yq⟩, ao5, cap5, by omega, rfl, rfl, rfl, by go_num, HFX.out, HFB.out, HIV2.out, by simp only; omega, by omega⟩
                  case measure => simp [intOf]; omega
                · have e1 : P + 1 - T = 1 + (yq.length : Int) := by have := HIV.out.count; simp [okT, notE, hwk] at this; omega
                  have e2 : (B + 1 == (yq.length : Int)) = true := by have := HIV.out.blocked; simp [okT, notE, hwk] at this; simp; omega
                  have HIV2 : Hid (CInv ⟨true, ⟨yk, yn, ym, ys, yi⟩, yq⟩ (P + 1) (T) (B + 1)) := Lib.hid (by have := HIV.out; simpa [okT, notE, hwk] using this)
                  go_wp2_with fail
                  go_roundw
                  case rel => exact ⟨j + 1, P + 1, T, B + 1, ⟨true, ⟨yk, yn, ym, ys, yi⟩, yq⟩, ao5, cap5, by omega, rfl, rfl, rfl, by go_num, HFX.out, HFB.out, HIV2.out, by simp only; omega, by omega⟩
                  case measure => simp [intOf]; omega
              · have hwe : wk.toList.isEmpty = false := by simpa using hwk
                have hwq : (wk.toList == []) = false := by simpa using hwk
                cases yf
                · have e1 : P + 1 - (T + 1) = 0 := by have := HIV.out.count; simp [okT, notE, hwk] at this; omega
                  have e2 : (B == (yq.length : Int)) = true := by have := HIV.out.blocked; simp [okT, notE, hwk] at this; simp; omega
                  have HIV2 : Hid (CInv ⟨false, ⟨yk, yn, ym, ys, yi⟩, yq⟩ (P + 1) (T + 1) (B)) := Lib.hid (by have := HIV.out; simpa [okT, notE, hwk] using this)
                  go_wp2_with fail
                  go_roundw
                  case rel => exact ⟨j + 1, P + 1, T + 1, B, ⟨false, ⟨yk, yn, ym, ys, yi⟩, yq⟩, ao5, cap5, by omega, rfl, rfl, rfl, by go_num, HFX.out, HFB.out, HIV2.out, by simp only; omega, by omega⟩
                  case measure => simp [intOf]; omega
                · have e1 : P + 1 - (T + 1) = 1 + (yq.length : Int) := by have := HIV.out.count; simp [okT, notE, hwk] at this; omega
                  have e2 : (B == (yq.length : Int)) = true := by have := HIV.out.blocked; simp [okT, notE, hwk] at this; simp; omega
                  have HIV2 : Hid (CInv ⟨true, ⟨yk, yn, ym, ys, yi⟩, yq⟩ (P + 1) (T + 1) (B)) := Lib.hid (by have := HIV.out; simpa [okT, notE, hwk] using this)
                  go_wp2_with fail
                  go_roundw
                  case rel => exact ⟨j + 1, P + 1, T + 1, B, ⟨true, ⟨yk, yn, ym, ys, yi⟩, yq⟩, ao5, cap5, by omega, rfl, rfl, rfl, by go_num, HFX.out, HFB.out, HIV2.out, by simp only; omega, by omega⟩
                  case measure => simp [intOf]; omega
            · by_cases hwk : wk.toList = []
              · have hwe : wk.toList.isEmpty = true := by rw [hwk]; rfl
                have hwq : (wk.toList == []) = true := by simpa using hwk
                cases yf
                · have e1 : P + 1 - T = 0 := by have := HIV.out.count; simp [okT, notE, hwk] at this; omega
                  have e2 : (B == (yq.length : Int)) = true := by have := HIV.out.blocked; simp [okT, notE, hwk] at this; simp; omega
                  have HIV2 : Hid (CInv ⟨false, ⟨yk, yn, ym, ys, yi⟩, yq⟩ (P + 1) (T) (B)) := Lib.hid (by have := HIV.out; simpa [okT, notE, hwk] using this)
                  go_wp2_with fail
                  go_roundw
                  case rel => exact ⟨j + 1, P + 1, T, B, ⟨false, ⟨yk, yn, ym, ys, yi⟩, yq⟩, ao5, cap5, by omega, rfl, rfl, rfl, by go_num, HFX.out, HFB.out, HIV2.out, by simp only; omega, by omega⟩
                  case measure => simp [intOf]; omega
                · have e1 : P + 1 - T = 1 + (yq.length : Int) := by have := HIV.out.count; simp [okT, notE, hwk] at this; omega
                  have e2 : (B == (yq.length : Int)) = true := by have := HIV.out.blocked; simp [okT, notE, hwk] at this; simp; omega
                  have HIV2 : Hid (CInv ⟨true, ⟨yk, yn, ym, ys, yi⟩, yq⟩ (P + 1) (T) (B)) := Lib.hid (by have := HIV.out; simpa [okT, notE, hwk] using this)
                  go_wp2_with fail
                  go_roundw
                  case rel => exact ⟨j + 1, P + 1, T, B, ⟨true, ⟨yk, yn, ym, ys, yi⟩, yq⟩, ao5, cap5, by omega, rfl, rfl, rfl, by go_num, HFX.out, HFB.out, HIV2.out, by simp only; omega, by omega⟩
                  case measure => simp [intOf]; omega
              · have hwe : wk.toList.isEmpty = false := by simpa using hwk
                have hwq : (wk.toList == []) = false := by simpa using hwk
                cases yf
                · have e1 : P + 1 - (T + 1) = 0 := by have := HIV.out.count; simp [okT, notE, hwk] at this; omega
                  have e2 : (B - 1 == (yq.length : Int)) = true := by have := HIV.out.blocked; simp [okT, notE, hwk] at this; simp; omega
                  have HIV2 : Hid (CInv ⟨false, ⟨yk, yn, ym, ys, yi⟩, yq⟩ (P + 1) (T + 1) (B - 1)) := Lib.hid (by have := HIV.out; simpa [okT, notE, hwk] using this)
                  go_wp2_with fail
                  go_roundw
                  case rel => exact ⟨j + 1, P + 1, T + 1, B - 1, ⟨false, ⟨yk, yn, ym, ys, yi⟩, yq⟩, ao5, cap5, by omega, rfl, rfl, rfl, by go_num, HFX.out, HFB.out, HIV2.out, by simp only; omega, by omega⟩
                  case measure => simp [intOf]; omega
                · have e1 : P + 1 - (T + 1) = 1 + (yq.length : Int) := by have := HIV.out.count; simp [okT, notE, hwk] at this; omega
                  have e2 : (B - 1 == (yq.length : Int)) = true := by have := HIV.out.blocked; simp [okT, notE, hwk] at this; simp; omega
                  have HIV2 : Hid (CInv ⟨true, ⟨yk, yn, ym, ys, yi⟩, yq⟩ (P + 1) (T + 1) (B - 1)) := Lib.hid (by have := HIV.out; simpa [okT, notE, hwk] using this)
                  go_wp2_with fail
                  go_roundw
                  case rel => exact ⟨j + 1, P + 1, T + 1, B - 1, ⟨true, ⟨yk, yn, ym, ys, yi⟩, yq⟩, ao5, cap5, by omega, rfl, rfl, rfl, by go_num, HFX.out, HFB.out, HIV2.out, by simp only; omega, by omega⟩
                  case measure => simp [intOf]; omega
    · by_cases hjN : j < N
      · have h60 : (60 : Int) ≤ (j : Int) := by omega
        have g2 : (j : Int) < (N : Int) := by omega
        have HBR := Lib.hid hbr
        clear hX hbr hinv hX0
        go_wp2_with fail
        go_ret
        exact ⟨rfl, HBR.out⟩
      · have h60 : (N : Int) ≤ (j : Int) := by omega
        have HBR := Lib.hid hbr
        clear hX hbr hinv hX0
        go_wp2_with fail
        go_ret
        exact ⟨rfl, HBR.out⟩
end Go.Proofs.YtdpmilffadalkaaDoor
