/- lazarettolaw12.MvarOrder: the walk. -/
import Derived.Test.YtdpmilffadalkaaDoorMvSt
namespace Go.Proofs.YtdpmilffadalkaaDoor
open Go.RowKit
theorem i64Info : (Tryd.prog.info? 2).map (fun i => (i.zero, i.size, i.bytes)) = some (some (.int .i64 0), 1, 8) := by kernel_rfl
theorem strInfo12 : (Tryd.prog.info? 9).map (fun i => (i.zero, i.size, i.bytes)) = some (some (.string .empty), 1, 16) := by kernel_rfl
theorem TailV.cap {B : Nat} {w : World} {T : TypeId} {ao : Option Addr} {n cap : Nat} {xs : List Value} (h : TailV B w T (.slice ao n cap) xs) (h0 : 0 < xs.length) : n = xs.length ∧ xs.length ≤ cap ∧ cap ≤ maxLen := by
  rcases h.2 with ⟨ao', hv, rfl, _⟩ | ⟨g, off, cap', cur, hv, _, _, hl, hm, _⟩
  · cases h0
  · simp only [Value.slice.injEq] at hv
    obtain ⟨_, rfl, rfl⟩ := hv
    exact ⟨rfl, hl, hm⟩
theorem St.newK {bx : Nat} {x : VM} {aq : Option Addr} {cq : Nat} {vi : Value} {inn : List Int} {vo : Value} {out : List Int} {vt : Value} {tk : List ByteArray} {w : World} (h : St bx x aq cq vi inn vo out vt tk w) {vt' : Value} {tk' : List ByteArray}
    (hK : TailV (bx + 1) w 9 vt' (sv tk')) (ho : vt'.ownBlock = vt.ownBlock) : St bx x aq cq vi inn vo out vt' tk' w :=
  ⟨h.X, h.I, h.O, hK, h.io, fun k a b => h.ik k a (ho ▸ b), fun k a b => h.ok k a (ho ▸ b), h.iq, h.oq, fun k a b => h.kq k (ho ▸ a) b⟩
set_option maxRecDepth 100000 in
set_option maxHeartbeats 4000000 in
theorem mvarOrder_walk (v : Value) (l : List A3) (w : World) (hv : ActsAt w v l) (hw : Laid w) :
    Calls Tryd.prog 3 #[v] w fun e w' => e = .returned (.bool true) ∧ Below w.heap.size w w' := by
  obtain ⟨ni, hni, nz0, nz1, nz2⟩ := info_parts i64Info
  obtain ⟨si, hsi, sz0, sz1, sz2⟩ := info_parts strInfo12
  obtain ⟨ao, cap, rfl⟩ := hv.slice
  obtain ⟨N, hN⟩ : ∃ N, l.length = N := ⟨_, rfl⟩
  rw [hN] at hv ⊢
  have HN := Lib.hid hN
  have hv0 := hv
  clear hN
  go_enter Tryd.func3, Tryd.ntmps3
  have hB0 := Below.refl w.heap.size w
  have M0 := Mem.nil w
  go_wp2_with fail
  refine Calls.named ?_
  intro W1 hW1
  have hB1_ : Below w.heap.size w W1 := by rw [hW1]; exact hB0
  have hw1_ : Laid W1 := by rw [hW1]; exact hw
  have M1_ := Mem.nil W1
  have hS1 : Below w.heap.size w W1 := by rw [hW1]; exact (Below.refl _ _)
  have hv_ := ActsAt.below hv hS1
  clear hS1 hv
  clear hW1
  refine (examples_any _ hw1_).mono ?_
  rintro e w1 ⟨rfl, hb1⟩
  have hv := ActsAt.below hv_ hb1
  clear hv_
  have hB1 := below_then hB1_ hb1
  have hw1 := hw1_.below hb1
  have M1 := M1_.below hb1
  clear M1_ hB1_ hb1 hw1_
  go_wp2_with fail
  have HB1 := Lib.hid hB1
  obtain ⟨bx, hbx⟩ : ∃ b, b = w1.heap.size := ⟨_, rfl⟩
  rw [← hbx]
  have hX0 : St bx ⟨false, ⟨0, 0, ⟨#[]⟩, ⟨#[]⟩, ⟨#[]⟩⟩, []⟩ none 0 (.slice none 0 0) [] (.slice none 0 0) [] (.slice none 0 0) [] (w1.alloc (.cells #[.bool false, .int .i64 0, .int .i64 0, .string ⟨#[]⟩, .string ⟨#[]⟩, .string ⟨#[]⟩, .slice none 0 0] 31)) :=
    ⟨⟨by rw [hbx]; exact heap_alloc_new _ _, World.ownsRow_nil _ _ _ _⟩, TailV.nil _ _ _, TailV.nil _ _ _, TailV.nil _ _ _, fun k h => (by cases h), fun k h => (by cases h), fun k h => (by cases h), fun k h => (by cases h), fun k h => (by cases h), fun k h => (by cases h)⟩
  have hle : w1.heap.size ≤ bx := by omega
  have hwx : w.heap.size ≤ bx := by have := hB1.size; omega
  clear hbx
  go_loopw [5, 6, 7, 8] (fun vi vo vt i wr => ∃ (j : Nat) (x : VM) (aq : Option Addr) (cq : Nat) (inn out : List Int) (tk : List ByteArray), j ≤ 60 ∧ i = .int .i64 j ∧ St bx x aq cq vi inn vo out vt tk wr ∧ Below w.heap.size w wr ∧ OInv x inn out tk ∧ x.q.length ≤ j ∧ inn.length ≤ j ∧ out.length ≤ j ∧ tk.length ≤ j) (fun _ _ _ i _ => 60 - (intOf i).toNat)
  case atStart => exact ⟨0, _, none, 0, [], [], [], by omega, rfl, hX0, below_al HB1.out _, OInv.zero _, by simp, by simp, by simp, by simp⟩
  case round =>
    obtain ⟨j, ⟨f, ⟨k, n, m, s, i⟩, q⟩, aq, cq, inn, out, tk, hj, rfl, hX, hbr, hinv, hql, hil, hol, htl⟩ := hrel
    by_cases hin : j < N ∧ j < 60
    · obtain ⟨hjN, hj60⟩ := hin
      obtain ⟨w2, rfl⟩ : ∃ x, x = wr := ⟨_, rfl⟩
      have hjl : j < l.length := by rw [HN.out]; exact hjN
      obtain ⟨ab, aoff, rfl, har0⟩ := ActsAt.row hv0 hjl
      have habw : ab < w.heap.size := har0.1
      have har := har0.below hbr
      have hac := hv.1 l[j] (List.getElem_mem hjl)
      generalize l[j] = act at har har0 hac
      obtain ⟨kd, id, nn⟩ := act
      have HAR0 := Lib.hid har0
      clear har0
      obtain ⟨hk0, hk1, hi0, hi1, hnn⟩ := hac
      simp only at hk0 hk1 hi0 hi1 hnn
      have g1 : (0 : Int) ≤ (j : Int) := by omega
      have g2 : (j : Int) < (N : Int) := by omega
      have g3 : (j : Int) < 60 := by omega
      replace hql : q.length ≤ j := hql
      have HINV := Lib.hid hinv
      have M2 : Mem w2 [(bx, .cells #[.bool f, .int .i64 k, .int .i64 n, .string m, .string s, .string i, .slice aq q.length cq] 31)] := ⟨hX.X.box, trivial⟩
      have hB2 : Below w.heap.size w w2 := hbr
      have a0 := har.2.1
      have a1 := har.2.2.1
      clear hv hv0 hjl hX0 hinv hB1 hw1 hw M1 hB0 M0
      have c2_0_0 := Mem.cell (v := .bool f) M2.1 0 rfl
      have c2_0_1 := Mem.cell (v := .int .i64 k) M2.1 1 rfl
      have c2_0_2 := Mem.cell (v := .int .i64 n) M2.1 2 rfl
      have c2_0_3 := Mem.cell (v := .string m) M2.1 3 rfl
      have c2_0_4 := Mem.cell (v := .string s) M2.1 4 rfl
      have c2_0_5 := Mem.cell (v := .string i) M2.1 5 rfl
      have c2_0_6 := Mem.cell (v := .slice aq q.length cq) M2.1 6 rfl
      have z2_0 := Mem.lt M2.1
      go_wp2_with fail
      refine Calls.named ?_
      intro W3 hW3
      have hB3_ : Below w.heap.size w W3 := by rw [hW3]; exact hB2
      have M3_ := M2
      rw [← hW3] at M3_
      have hS3 : Below w2.heap.size w2 W3 := by rw [hW3]; exact (Below.refl _ _)
      have hX_ := St.below hX hS3
      have har_ := ActRow.below har hS3
      clear hS3 hX har
      clear hW3
      have ZZ3_0 := Lib.hid (Mem.lt M3_.1)
      clear c2_0_0 c2_0_1 c2_0_2 c2_0_3 c2_0_4 c2_0_5 c2_0_6 z2_0
      refine (who_any id hi0 hi1 _).mono ?_
      rintro e w3 ⟨rfl, hb3⟩
      have hX := St.below hX_ hb3
      have har := ActRow.below har_ hb3
      clear hX_ har_
      have hB3 := below_then hB3_ hb3
      have M3 := M3_.below hb3
      clear M3_ hB3_ hb3
      have c3_0_0 := Mem.cell (v := .bool f) M3.1 0 rfl
      have c3_0_1 := Mem.cell (v := .int .i64 k) M3.1 1 rfl
      have c3_0_2 := Mem.cell (v := .int .i64 n) M3.1 2 rfl
      have c3_0_3 := Mem.cell (v := .string m) M3.1 3 rfl
      have c3_0_4 := Mem.cell (v := .string s) M3.1 4 rfl
      have c3_0_5 := Mem.cell (v := .string i) M3.1 5 rfl
      have c3_0_6 := Mem.cell (v := .slice aq q.length cq) M3.1 6 rfl
      have z3_0 := Mem.lt M3.1
      clear a0 a1
      obtain ⟨S, hS⟩ : ∃ S, whoS id = S := ⟨_, rfl⟩
      have hSs := whoS_some id
      rw [hS] at hSs ⊢
      clear hS
      go_wp2_with fail
      refine Calls.named ?_
      intro W4 hW4
      have hB4_ : Below w.heap.size w W4 := by rw [hW4]; exact hB3
      have M4_ := M3
      rw [← hW4] at M4_
      have hS4 : Below w3.heap.size w3 W4 := by rw [hW4]; exact (Below.refl _ _)
      have hX_ := St.below hX hS4
      have har_ := ActRow.below har hS4
      clear hS4 hX har
      clear hW4
      have ZZ4_0 := Lib.hid (Mem.lt M4_.1)
      clear c3_0_0 c3_0_1 c3_0_2 c3_0_3 c3_0_4 c3_0_5 c3_0_6 z3_0
      refine (waits_any f k n m s i S q _ _ (hX_).X.own.at (by omega)).mono ?_
      rintro e w4 ⟨rfl, hb4⟩
      have hX := St.below hX_ hb4
      have har := ActRow.below har_ hb4
      clear hX_ har_
      have hB4 := below_then hB4_ hb4
      have M4 := M4_.below hb4
      clear M4_ hB4_ hb4
      have c4_0_0 := Mem.cell (v := .bool f) M4.1 0 rfl
      have c4_0_1 := Mem.cell (v := .int .i64 k) M4.1 1 rfl
      have c4_0_2 := Mem.cell (v := .int .i64 n) M4.1 2 rfl
      have c4_0_3 := Mem.cell (v := .string m) M4.1 3 rfl
      have c4_0_4 := Mem.cell (v := .string s) M4.1 4 rfl
      have c4_0_5 := Mem.cell (v := .string i) M4.1 5 rfl
      have c4_0_6 := Mem.cell (v := .slice aq q.length cq) M4.1 6 rfl
      have z4_0 := Mem.lt M4.1
      have a0 := har.2.1
      have a2 := har.2.2.2
      have hza := har.1
      cases hwt : waitsB q S with
      | true =>
        have HX4 := Lib.hid hX
        have HBB := Lib.hid hB4
        clear hB4 M4 hB3 M3 hB2 M2 hbr hX har
        go_wp2_with fail
        go_roundw
        case rel => exact ⟨j + 1, _, aq, cq, inn, out, tk, by omega, by go_num, HX4.out, HBB.out, HINV.out, by simp only; omega, by omega, by omega, by omega⟩
        case measure => simp [intOf]; omega
      | false =>
        by_cases hk2 : kd % 2 = 0
        · skip
          obtain ⟨⟨⟨yf, ⟨yk, yn, ym, ys, yi⟩, yq⟩, ⟨vk, vn, vm, vs, vi2⟩, ok, wk⟩, hr⟩ : ∃ r, takeM ⟨f, ⟨k, n, m, s, i⟩, q⟩ S = r := ⟨_, rfl⟩
          have hiv := HINV.out.take hSs
          have hyl := take_len ⟨f, ⟨k, n, m, s, i⟩, q⟩ S
          rw [hr] at hiv hyl
          simp only at hiv hyl
          have HR := Lib.hid hr
          have HIV := Lib.hid hiv
          clear hr hiv
          have HLW := Lib.hid hX
          go_wp2_with fail
          refine Calls.named ?_
          intro W5 hW5
          have hB5_ : Below w.heap.size w W5 := by rw [hW5]; exact hB4
          have M5_ := M4
          rw [← hW5] at M5_
          have hS5 : Below w4.heap.size w4 W5 := by rw [hW5]; exact (Below.refl _ _)
          have hX_ := St.below hX hS5
          have har_ := ActRow.below har hS5
          clear hS5 hX har
          have YY5 : Hid (w4.heap.size ≤ W5.heap.size) := Lib.hid (by rw [hW5]; first | exact Nat.le_refl _ | (simp; done) | (simp; omega))
          clear hW5
          have ZZ5_0 := Lib.hid (Mem.lt M5_.1)
          clear c4_0_0 c4_0_1 c4_0_2 c4_0_3 c4_0_4 c4_0_5 c4_0_6 z4_0
          refine (mtake_any f k n m s i S q _ _ (hX_).X.own.at (by omega)).mono ?_
          rw [HR.out]
          rintro e w5 ⟨vy, rfl, hqy, hb5⟩
          have hX := St.below hX_ hb5
          have har := ActRow.below har_ hb5
          clear hX_ har_
          have hB5 := below_then hB5_ hb5
          have M5 := M5_.below hb5
          clear M5_ hB5_ hb5
          have c5_0_0 := Mem.cell (v := .bool f) M5.1 0 rfl
          have c5_0_1 := Mem.cell (v := .int .i64 k) M5.1 1 rfl
          have c5_0_2 := Mem.cell (v := .int .i64 n) M5.1 2 rfl
          have c5_0_3 := Mem.cell (v := .string m) M5.1 3 rfl
          have c5_0_4 := Mem.cell (v := .string s) M5.1 4 rfl
          have c5_0_5 := Mem.cell (v := .string i) M5.1 5 rfl
          have c5_0_6 := Mem.cell (v := .slice aq q.length cq) M5.1 6 rfl
          have z5_0 := Mem.lt M5.1
          have hq3 := (show OwnQ _ _ vy yq from hqy)
          obtain ⟨ao5, cap5, rfl⟩ := hq3.at.slice
          clear hqy
          have fx := Mem.free M5.1
          have hL := HLW.out.lows YY5.out
          have hz5 := z5_0
          go_upto_region 16 with (fail)
          refine wp_named ?_
          intro w6 hW6
          have hX6 : St bx ⟨yf, ⟨yk, yn, ym, ys, yi⟩, yq⟩ ao5 cap5 u5 inn u6 out u7 tk w6 := by
            rw [hW6]
            exact ((St.setY (y := ⟨yf, ⟨yk, yn, ym, ys, yi⟩, yq⟩) hX hL.b hL.i hL.o hL.t hq3 [.bool yf, .int .i64 yk, .int .i64 yn, .string ym, .string ys, .string yi, .slice ao5 yq.length cap5] rfl).al _).al _
          have hB6 : Below w.heap.size w w6 := by
            rw [hW6]
            exact below_al (below_al (below_setCells hB5 (b := bx) (by omega) 0 [.bool yf, .int .i64 yk, .int .i64 yn, .string ym, .string ys, .string yi, .slice ao5 yq.length cap5]) _) _
          have kv : w6.heap[w5.heap.size + 1]? = some (.cells #[.int .i64 vk, .int .i64 vn, .string vm, .string vs, .string vi2] 28) := by
            rw [hW6]
            exact ((Mem.nil _).new' (w5.heap.size + 1) (by simp) _).1
          have kv1 := Mem.cell (v := .int .i64 vn) kv 1 rfl
          clear hW6 kv hX hq3 hB5 M5 hB4 M4 hB3 M3 hB2 M2 hbr HLW hL fx
          cases ok with
          | true =>
            have hiv := HIV.out.1 rfl
            have HV := Lib.hid hiv
            have HX6 := Lib.hid hX6
            have HB6 := Lib.hid hB6
            have HO := Lib.hid (hX6.O.below (below_al (Below.refl _ _) (.cells #[.int .i64 vn] 2)))
            have hbx6 := Mem.lt hX6.X.box
            have hol2 : (nv out).length ≤ 60 := by rw [nv_len]; omega
            clear hX6 hB6 hiv
            go_wp2_with (at_builtin; refine wpList_append_tail rfl _ _ 32 rfl (bx + 1) 2 ni (.int .i64 0) 8 Tryd.underlying32 hni nz0 nz1 nz2 rfl u6 (nv out) rfl HO.out ⟨w6.heap.size, 0, none⟩ 1 (.int .i64 vn) rfl ?c1 rfl ?c2 ?c3 ?c4 ?_)
            case c2 => unfold maxLen; omega
            case c3 => omega
            case c4 => omega
            intro vo' w7 hT hg hat
            have hX7 := St.appO (HX6.out.al _) hT hg (by first | exact hat | simpa using hat)
            have hB7 := (below_al HB6.out _).grown hg (by simp; have := HB6.out.size; omega) (fun k hk => by have := ((HX6.out.al (.cells #[.int .i64 vn] 2)).O.low k hk).1; omega)
            have HX7 := Lib.hid hX7
            have HB7 := Lib.hid hB7
            clear hT hg hat hX7 hB7 HO
            go_wp2_with fail
            go_roundw
            case rel => exact ⟨j + 1, _, ao5, cap5, inn, out ++ [vn], tk, by omega, by go_num, HX7.out, HB7.out, HV.out, by simp only; omega, by omega, by simp; omega, by omega⟩
            case measure => simp [intOf]; omega
          | false =>
            have hiv := HIV.out.2 rfl
            have HV := Lib.hid hiv
            have HX6 := Lib.hid hX6
            have HB6 := Lib.hid hB6
            have HO := Lib.hid (hX6.K.below (below_al (Below.refl _ _) (.cells #[.string S] 9)))
            have hbx6 := Mem.lt hX6.X.box
            have hol2 : (sv tk).length ≤ 60 := by rw [sv_len]; omega
            clear hX6 hB6 hiv
            go_wp2_with (at_builtin; refine wpList_append_tail rfl _ _ 33 rfl (bx + 1) 9 si (.string .empty) 16 Tryd.underlying33 hsi sz0 sz1 sz2 rfl u7 (sv tk) rfl HO.out ⟨w6.heap.size, 0, none⟩ 1 (.string S) rfl ?d1 rfl ?d2 ?d3 ?d4 ?_)
            case d2 => unfold maxLen; omega
            case d3 => omega
            case d4 => omega
            intro vt' w7 hT hg hat
            have hX7 := St.appK (HX6.out.al _) hT hg (by first | exact hat | simpa using hat)
            have hB7 := (below_al HB6.out _).grown hg (by simp; have := HB6.out.size; omega) (fun k hk => by have := ((HX6.out.al (.cells #[.string S] 9)).K.low k hk).1; omega)
            have HX7 := Lib.hid hX7
            have HB7 := Lib.hid hB7
            clear hT hg hat hX7 hB7 HO
            go_wp2_with fail
            go_roundw
            case rel => exact ⟨j + 1, _, ao5, cap5, inn, out, tk ++ [S], by omega, by go_num, HX7.out, HB7.out, HV.out, by simp only; omega, by omega, by omega, by simp; omega⟩
            case measure => simp [intOf]; omega
        · skip
          have hk2' : (kd % 2 == 0) = false := by simpa using hk2
          obtain ⟨⟨⟨yf, ⟨yk, yn, ym, ys, yi⟩, yq⟩, ok, wk⟩, hr⟩ : ∃ r, putM ⟨f, ⟨k, n, m, s, i⟩, q⟩ S ⟨1, nn, ⟨#[]⟩, ⟨#[]⟩, ⟨#[]⟩⟩ = r := ⟨_, rfl⟩
          have hiv := HINV.out.put hSs ⟨1, nn, ⟨#[]⟩, ⟨#[]⟩, ⟨#[]⟩⟩
          have hyl := put_len ⟨f, ⟨k, n, m, s, i⟩, q⟩ S ⟨1, nn, ⟨#[]⟩, ⟨#[]⟩, ⟨#[]⟩⟩
          rw [hr] at hiv hyl
          simp only at hiv hyl
          have HR := Lib.hid hr
          have HIV := Lib.hid hiv
          clear hr hiv
          have HX4 := Lib.hid hX
          have HB4 := Lib.hid hB4
          have HAR := Lib.hid har
          have HI := Lib.hid (hX.I.below (below_al (Below.refl _ _) (.cells #[.int .i64 nn] 2)))
          have hbx4 := Mem.lt hX.X.box
          have hil2 : (nv inn).length ≤ 60 := by rw [nv_len]; omega
          clear hX hB4 M4 hB3 M3 hB2 M2 hbr har
          go_wp2_with (at_builtin; refine wpList_append_tail rfl _ _ 32 rfl (bx + 1) 2 ni (.int .i64 0) 8 Tryd.underlying32 hni nz0 nz1 nz2 rfl u5 (nv inn) rfl HI.out ⟨w4.heap.size, 0, none⟩ 1 (.int .i64 nn) rfl ?e1 rfl ?e2 ?e3 ?e4 ?_)
          case e1 => simp
          case e2 => unfold maxLen; omega
          case e3 => omega
          case e4 => first | omega | (simp; omega)
          intro vi' w5 hT hg hat
          have hX5 := St.appI (HX4.out.al _) hT hg (by first | exact hat | simpa using hat)
          have hrow : ∀ k, u5.ownBlock = some k → bx + 1 ≤ k := fun k hk => ((HX4.out.al (.cells #[.int .i64 nn] 2)).I.low k hk).1
          have hB5 := (below_al HB4.out _).grown hg (by simp; have := HB4.out.size; omega) (fun k hk => by have := hrow k hk; omega)
          have hab5 : ab < w5.heap.size := Nat.lt_of_lt_of_le HAR.out.1 (Nat.le_trans (below_al (Below.refl _ _) _).size hg.size)
          have hcell5 : w5.cell? ⟨ab, aoff + j * 3 + 2, none⟩ = some (.int .i64 nn) := by
            refine (hg.cell_far ⟨ab, aoff + j * 3 + 2, none⟩ (by have := HAR.out.1; simp; omega) (fun e => by have := hrow ab e.symm; omega)).trans (Lib.cell?_alloc_some _ HAR.out.2.2.2)
          have hsz5 : bx < w5.heap.size := Mem.lt hX5.X.box
          have fx0 := Mem.free hX5.X.box
          have x0 := Mem.cell (v := .bool f) hX5.X.box 0 rfl
          have x1 := Mem.cell (v := .int .i64 k) hX5.X.box 1 rfl
          have x2 := Mem.cell (v := .int .i64 n) hX5.X.box 2 rfl
          have x3 := Mem.cell (v := .string m) hX5.X.box 3 rfl
          have x4 := Mem.cell (v := .string s) hX5.X.box 4 rfl
          have x5 := Mem.cell (v := .string i) hX5.X.box 5 rfl
          have x6 := Mem.cell (v := .slice aq q.length cq) hX5.X.box 6 rfl
          have HX5 := Lib.hid hX5
          have HB5 := Lib.hid hB5
          have HQ1 : Hid (∀ W, Below w5.heap.size w5 W → QAt W (.slice aq q.length cq) q) := Lib.hid (fun W hb => (hX5.X.own.keep hb).at)
          clear hT hg hat hrow hX5 hB5 HI
          go_upto_region 20 with (fail)
          go_cut [14, 15, 16] from 22 to 114 (fun s14 s15 s16 wx => s15 = .bool ok ∧ s16 = .string wk ∧ ∃ b ao5 cap5, s14 = .pointer (some ⟨b, 0, none⟩) ∧ wx.heap[b]? = some (.cells #[.bool yf, .int .i64 yk, .int .i64 yn, .string ym, .string ys, .string yi, .slice ao5 yq.length cap5] 31) ∧ w5.heap.size ≤ b ∧ OwnQ w5.heap.size wx (.slice ao5 yq.length cap5) yq ∧ Below w5.heap.size w5 wx)
          case first =>
            have ho2 := cell_other (b := bx) (b' := w5.heap.size) (by omega)
            have ha2 := cell_other (b := ab) (b' := w5.heap.size) (by omega)
            go_region_held3 (fun w' => w'.cell? ⟨bx, 0, none⟩ = some (.bool f) ∧ w'.cell? ⟨bx, 1, none⟩ = some (.int .i64 k) ∧ w'.cell? ⟨bx, 2, none⟩ = some (.int .i64 n) ∧ w'.cell? ⟨bx, 3, none⟩ = some (.string m) ∧ w'.cell? ⟨bx, 4, none⟩ = some (.string s) ∧ w'.cell? ⟨bx, 5, none⟩ = some (.string i) ∧ w'.cell? ⟨bx, 6, none⟩ = some (.slice aq q.length cq) ∧ w'.cell? ⟨ab, aoff + j * 3 + 2, none⟩ = some (.int .i64 nn))
              (go_keep)
              (first
                | (go_at_call 12; (with_reducible refine (number_any nn _).mono ?_); rintro e wn ⟨rfl, hbn⟩; have hBn : Below w5.heap.size w5 wn := ((by repeat' (first | exact Below.refl _ _ | exact hBn | refine below_dr ?_ | refine below_al ?_ _)) : Below w5.heap.size w5 _).trans (hbn.mono (by simp <;> omega)); have hzn := hBn.size; have hcn := (fun o => hbn.cell (p := ⟨bx, o, none⟩) (by simp <;> omega)); have hcm := (fun o => hbn.cell (p := ⟨ab, o, none⟩) (by simp <;> omega)); have hwn : bx < wn.heap.size := (by omega); have hon := cell_other (b := bx) (b' := wn.heap.size) (by omega); have hom := cell_other (b := ab) (b' := wn.heap.size) (by omega); have hgn := (fun (b o : Nat) (h : b < _) => hbn.cell (p := ⟨b, o, none⟩) h); have hfn := (fun (b o : Nat) (h : b < _) => hbn.frozen (p := ⟨b, o, none⟩) h); first | (refine have_it (w5.heap.size < wn.heap.size) ?_ ?_; have h9 := hbn.size; simp at h9; omega; intro hlt) | skip)
                | (go_at_call 11; (with_reducible refine (mput_any f k n m s i S 1 nn ⟨#[]⟩ ⟨#[]⟩ ⟨#[]⟩ q _ _ (HQ1.out _ (by repeat' (first | exact Below.refl _ _ | exact hBn | refine below_dr ?_ | refine below_al ?_ _))) (by omega)).mono ?_); rw [HR.out]; rintro e wp ⟨v2, rfl, hqy, hbp⟩; have hqq := (show OwnQ _ _ v2 yq from hqy); obtain ⟨ao2, cap2, rfl⟩ := hqq.at.slice; have hBp : Below w5.heap.size w5 wp := ((by repeat' (first | exact Below.refl _ _ | exact hBn | refine below_dr ?_ | refine below_al ?_ _)) : Below w5.heap.size w5 _).trans (hbp.mono (by first | omega | (simp <;> omega))); have hcp := (fun o => hbp.cell (p := ⟨bx, o, none⟩) (by first | omega | (simp <;> omega))); have hcq := (fun o => hbp.cell (p := ⟨ab, o, none⟩) (by first | omega | (simp <;> omega))); have hgp := (fun (b o : Nat) (h : b < _) => hbp.cell (p := ⟨b, o, none⟩) h); have hfp := (fun (b o : Nat) (h : b < _) => hbp.frozen (p := ⟨b, o, none⟩) h)))
            · go_wp2_with fail
              go_meet
              exact ⟨rfl, rfl, wp.heap.size, ao2, cap2, rfl, heap_alloc_new _ _, hBp.size, OwnQ.keep (OwnQ.low hqq (by first | exact hzn | (simp; omega))) (below_al (Below.refl _ _) _), below_al hBp _⟩
            · have hold := (hbp.block wn.heap.size (by simp)).trans (heap_alloc_new wn _)
              have hA := set_block hold [.bool yf, .int .i64 yk, .int .i64 yn, .string ym, .string ys, .string yi, .slice ao2 yq.length cap2] rfl
              have hB := own_set hqq (b := wn.heap.size) (by simp) [.bool yf, .int .i64 yk, .int .i64 yn, .string ym, .string ys, .string yi, .slice ao2 yq.length cap2] 0
              have hC := below_setCells hBp (b := wn.heap.size) hzn 0 [.bool yf, .int .i64 yk, .int .i64 yn, .string ym, .string ys, .string yi, .slice ao2 yq.length cap2]
              go_wp2_with fail
              go_meet
              exact ⟨rfl, rfl, wn.heap.size, ao2, cap2, rfl, hA, hzn, OwnQ.low hB (by first | exact hzn | (simp; omega)), hC⟩
            · have hold := (hbp.block w5.heap.size hlt).trans ((hbn.block w5.heap.size (by simp)).trans (heap_alloc_new w5 _))
              have hA := set_block hold [.bool yf, .int .i64 yk, .int .i64 yn, .string ym, .string ys, .string yi, .slice ao2 yq.length cap2] rfl
              have hB := own_set hqq (b := w5.heap.size) hlt [.bool yf, .int .i64 yk, .int .i64 yn, .string ym, .string ys, .string yi, .slice ao2 yq.length cap2] 0
              have hC := below_setCells hBp (b := w5.heap.size) (Nat.le_refl _) 0 [.bool yf, .int .i64 yk, .int .i64 yn, .string ym, .string ys, .string yi, .slice ao2 yq.length cap2]
              go_wp2_with fail
              go_meet
              exact ⟨rfl, rfl, w5.heap.size, ao2, cap2, rfl, hA, Nat.le_refl _, OwnQ.low hB (by first | exact hzn | (simp; omega)), hC⟩
          obtain ⟨rfl, rfl, b14, ao5, cap5, rfl, hY, hle14, hqy, hb14⟩ := hcut
          have hX6 := HX5.out.below hb14
          have hL := HX5.out.lows (Nat.le_refl _)
          have hB6 := HB5.out.trans (hb14.mono HB5.out.size)
          have hbc := Mem.lt hX6.X.box
          have fxc := Mem.free hX6.X.box
          have y0 := Mem.cell (v := .bool yf) hY 0 rfl
          have y1 := Mem.cell (v := .int .i64 yk) hY 1 rfl
          have y2 := Mem.cell (v := .int .i64 yn) hY 2 rfl
          have y3 := Mem.cell (v := .string ym) hY 3 rfl
          have y4 := Mem.cell (v := .string ys) hY 4 rfl
          have y5 := Mem.cell (v := .string yi) hY 5 rfl
          have y6 := Mem.cell (v := .slice ao5 yq.length cap5) hY 6 rfl
          have x0c := Mem.cell (v := .bool f) hX6.X.box 0 rfl
          have x1c := Mem.cell (v := .int .i64 k) hX6.X.box 1 rfl
          have x2c := Mem.cell (v := .int .i64 n) hX6.X.box 2 rfl
          have x3c := Mem.cell (v := .string m) hX6.X.box 3 rfl
          have x4c := Mem.cell (v := .string s) hX6.X.box 4 rfl
          have x5c := Mem.cell (v := .string i) hX6.X.box 5 rfl
          have x6c := Mem.cell (v := .slice aq q.length cq) hX6.X.box 6 rfl
          go_upto_region 22 with (fail)
          refine wp_named ?_
          intro w7 hW7
          have hX7 : St bx ⟨yf, ⟨yk, yn, ym, ys, yi⟩, yq⟩ ao5 cap5 vi' (inn ++ [nn]) u6 out u7 tk w7 := by
            rw [hW7]
            exact St.setY (y := ⟨yf, ⟨yk, yn, ym, ys, yi⟩, yq⟩) hX6 hL.b hL.i hL.o hL.t hqy [.bool yf, .int .i64 yk, .int .i64 yn, .string ym, .string ys, .string yi, .slice ao5 yq.length cap5] rfl
          have hB7 : Below w.heap.size w w7 := by
            rw [hW7]
            exact below_setCells hB6 (b := bx) (by omega) 0 [.bool yf, .int .i64 yk, .int .i64 yn, .string ym, .string ys, .string yi, .slice ao5 yq.length cap5]
          have a7 : w7.cell? ⟨ab, aoff + j * 3 + 2, none⟩ = some (.int .i64 nn) := (hB7.cell (p := ⟨ab, aoff + j * 3 + 2, none⟩) habw).trans HAR0.out.2.2.2
          have hab7 : ab < w7.heap.size := by have := hB7.size; omega
          have HX7 := Lib.hid hX7
          have HB7 := Lib.hid hB7
          clear hX7 hB7 hW7 hX6 hL hB6 hY hqy hb14 y0 y1 y2 y3 y4 y5 y6 x0c x1c x2c x3c x4c x5c x6c x0 x1 x2 x3 x4 x5 x6 fxc fx0 hcell5 a0 a2
          by_cases hwk : wk.toList = []
          · have HV := Lib.hid (HIV.out.1 hwk)
            have hwe : wk.toList.isEmpty = true := by rw [hwk]; rfl
            have hwq : (wk.toList == []) = true := by simpa using hwk
            go_wp2_with fail
            go_roundw
            case rel => exact ⟨j + 1, _, ao5, cap5, inn ++ [nn], out, tk, by omega, by go_num, HX7.out, HB7.out, HV.out, by simp only; omega, by simp; omega, by omega, by omega⟩
            case measure => simp [intOf]; omega
          · obtain ⟨rest, htk, hok, hov⟩ := HIV.out.2 hwk
            subst htk
            subst hok
            have HV := Lib.hid hov
            have hwe : wk.toList.isEmpty = false := by simpa using hwk
            have hwq : (wk.toList == []) = false := by simpa using hwk
            have hk7 := HX7.out.K
            obtain ⟨at7, ct, hu7⟩ := hk7.slice
            subst hu7
            obtain ⟨g, off, hat7, hbg, hgl, hc0⟩ := TailV.cell hk7 (j := 0) (by simp [sv])
            subst hat7
            obtain ⟨_, hcp, hcm⟩ := TailV.cap hk7 (by simp [sv])
            replace hc0 : w7.cell? ⟨g, off, none⟩ = some (.string wk) := hc0
            have hln : (sv (wk :: rest)).length = rest.length + 1 := by simp [sv]
            rw [hln] at hk7 HX7 hcp ⊢
            have htl2 : rest.length + 1 ≤ j := by simpa using htl
            have hrl : rest.length ≤ 60 := by omega
            unfold maxLen at hcm
            have hcut := TailV.cut (x := .string wk) (xs := sv rest) hk7
            have HCUT := Lib.hid hcut
            have h1c : (1 : Int) ≤ (ct : Int) := by omega
            have h1n : (1 : Int) ≤ (rest.length : Int) + 1 := by omega
            have hnc : (rest.length : Int) + 1 ≤ (ct : Int) := by omega
            clear hln hk7 hcut hov
            go_upto_region 26 with (fail)
            have hcut := HCUT.out
            rw [sv_len] at hcut
            generalize hvt : Value.slice (if ct = 1 then some (⟨g, off, none⟩ : Addr) else some ⟨g, off + 1, none⟩) rest.length (ct - 1) = vt' at hcut ⊢
            have hvo : vt'.ownBlock = some g := by
              rw [← hvt]
              by_cases h1 : ct = 1
              · rw [if_pos h1]; rfl
              · rw [if_neg h1]; rfl
            have hX8 := HX7.out.newK hcut hvo
            have HX8 := Lib.hid hX8
            have HO := Lib.hid (hX8.O.below (below_al (Below.refl _ _) (.cells #[.int .i64 nn] 2)))
            have hbx8 := Mem.lt hX8.X.box
            have hol2 : (nv out).length ≤ 60 := by rw [nv_len]; omega
            clear hX8 hcut hvt hvo HCUT HX7 hc0
            go_wp2_with (at_builtin; refine wpList_append_tail rfl _ _ 32 rfl (bx + 1) 2 ni (.int .i64 0) 8 Tryd.underlying32 hni nz0 nz1 nz2 rfl u6 (nv out) rfl HO.out ⟨w7.heap.size, 0, none⟩ 1 (.int .i64 nn) rfl ?f1 rfl ?f2 ?f3 ?f4 ?_)
            case f2 => unfold maxLen; omega
            case f3 => omega
            case f4 => first | omega | (simp; omega)
            intro vo' w8 hT hg hat
            have hX9 := St.appO (HX8.out.al _) hT hg (by first | exact hat | simpa using hat)
            have hB8 := (below_al HB7.out _).grown hg (by simp; have := HB7.out.size; omega) (fun k hk => by have := ((HX8.out.al (.cells #[.int .i64 nn] 2)).O.low k hk).1; omega)
            have HX9 := Lib.hid hX9
            have HB8 := Lib.hid hB8
            clear hT hg hat hX9 hB8 HO
            go_wp2_with fail
            go_roundw
            case rel => exact ⟨j + 1, _, ao5, cap5, inn ++ [nn], out ++ [nn], rest, by omega, by go_num, HX9.out, HB8.out, HV.out, by simp only; omega, by simp; omega, by simp; omega, by omega⟩
            case measure => simp [intOf]; omega
    · have HPRE := Lib.hid hinv.pre
      have hI := hX.I
      have hO := hX.O
      obtain ⟨ai, ci, hu5⟩ := hI.slice
      obtain ⟨ao7, co, hu6⟩ := hO.slice
      subst hu5
      subst hu6
      have hli : (nv inn).length = inn.length := nv_len inn
      have hlo : (nv out).length = out.length := nv_len out
      rw [hli] at hI ⊢
      rw [hlo] at hO ⊢
      have hle2 : (out.length : Int) ≤ (inn.length : Int) := by have := HPRE.out.1; omega
      have HBR := Lib.hid hbr
      have HTI : Hid (∀ W, Below wr.heap.size wr W → TailV (bx + 1) W 2 (.slice ai inn.length ci) (nv inn)) := Lib.hid (fun W hb => hI.below hb)
      have HTO : Hid (∀ W, Below wr.heap.size wr W → TailV (bx + 1) W 2 (.slice ao7 out.length co) (nv out)) := Lib.hid (fun W hb => hO.below hb)
      have hout : (out.length : Int) ≤ 60 := by omega
      have hinn : (inn.length : Int) ≤ 60 := by omega
      have hstop : Hid (¬ (j < N ∧ j < 60)) := Lib.hid hin
      clear hX hI hO hbr hinv hX0 hli hlo hv hv0
      by_cases hjN : j < N
      · have h60 : (60 : Int) ≤ (j : Int) := by omega
        have g2 : (j : Int) < (N : Int) := by omega
        clear hin
        go_wp2_with fail
        go_loopw [17] (fun a wz => ∃ u : Nat, u ≤ out.length ∧ a = .int .i64 u ∧ Below wr.heap.size wr wz) (fun a _ => out.length - (intOf a).toNat)
        case atStart => exact ⟨0, by omega, rfl, Below.refl _ _⟩
        case round =>
          obtain ⟨u, hu, rfl, hbz⟩ := hrel
          by_cases hlu : u < out.length
          · have hui : u < inn.length := by have := HPRE.out.1; omega
            obtain ⟨g, off, rfl, _, hgl, hc⟩ := TailV.cell (HTO.out _ hbz) (j := u) (by rw [nv_len]; exact hlu)
            obtain ⟨g', off', rfl, _, hgl', hc'⟩ := TailV.cell (HTI.out _ hbz) (j := u) (by rw [nv_len]; exact hui)
            have he := HPRE.out.2 u hlu hui
            have e1 : (nv out)[u]'(by rw [nv_len]; exact hlu) = .int .i64 out[u] := by simp [nv]
            have e2 : (nv inn)[u]'(by rw [nv_len]; exact hui) = .int .i64 out[u] := by simp [nv, he]
            rw [e1] at hc
            rw [e2] at hc'
            generalize out[u] = z at hc hc'
            clear he e1 e2
            have q1 : (0 : Int) ≤ (u : Int) := by omega
            have q2 : (u : Int) < (out.length : Int) := by omega
            have q3 : (u : Int) < (inn.length : Int) := by omega
            have HBZ := Lib.hid hbz
            clear hbz
            go_wp2_with fail
            go_quiet (fail)
            go_wp2_with fail
            go_roundw
            case rel => exact ⟨u + 1, by omega, by go_num, HBZ.out.trans ⟨rfl, rfl, rfl, Nat.le_refl _, fun _ _ => rfl⟩⟩
            case measure => simp [intOf]; omega
          · have hge : (out.length : Int) ≤ (u : Int) := by omega
            have HBZ := Lib.hid hbz
            clear hbz
            go_wp2_with fail
            go_ret
            exact ⟨rfl, below_then HBR.out HBZ.out⟩
      · have h60 : (N : Int) ≤ (j : Int) := by omega
        clear hin
        go_wp2_with fail
        go_loopw [17] (fun a wz => ∃ u : Nat, u ≤ out.length ∧ a = .int .i64 u ∧ Below wr.heap.size wr wz) (fun a _ => out.length - (intOf a).toNat)
        case atStart => exact ⟨0, by omega, rfl, Below.refl _ _⟩
        case round =>
          obtain ⟨u, hu, rfl, hbz⟩ := hrel
          by_cases hlu : u < out.length
          · have hui : u < inn.length := by have := HPRE.out.1; omega
            obtain ⟨g, off, rfl, _, hgl, hc⟩ := TailV.cell (HTO.out _ hbz) (j := u) (by rw [nv_len]; exact hlu)
            obtain ⟨g', off', rfl, _, hgl', hc'⟩ := TailV.cell (HTI.out _ hbz) (j := u) (by rw [nv_len]; exact hui)
            have he := HPRE.out.2 u hlu hui
            have e1 : (nv out)[u]'(by rw [nv_len]; exact hlu) = .int .i64 out[u] := by simp [nv]
            have e2 : (nv inn)[u]'(by rw [nv_len]; exact hui) = .int .i64 out[u] := by simp [nv, he]
            rw [e1] at hc
            rw [e2] at hc'
            generalize out[u] = z at hc hc'
            clear he e1 e2
            have q1 : (0 : Int) ≤ (u : Int) := by omega
            have q2 : (u : Int) < (out.length : Int) := by omega
            have q3 : (u : Int) < (inn.length : Int) := by omega
            have HBZ := Lib.hid hbz
            clear hbz
            go_wp2_with fail
            go_quiet (fail)
            go_wp2_with fail
            go_roundw
            case rel => exact ⟨u + 1, by omega, by go_num, HBZ.out.trans ⟨rfl, rfl, rfl, Nat.le_refl _, fun _ _ => rfl⟩⟩
            case measure => simp [intOf]; omega
          · have hge : (out.length : Int) ≤ (u : Int) := by omega
            have HBZ := Lib.hid hbz
            clear hbz
            go_wp2_with fail
            go_ret
            exact ⟨rfl, below_then HBR.out HBZ.out⟩
end Go.Proofs.YtdpmilffadalkaaDoor
