/- Numbers are shown by their digits, labels in angles, handles by their names and labels. The walk: the law answers true; no memory that was there is turned. Conditions: a string has at most 140737488351232 bytes, the listed package variables hold what the program's text lays. -/
import Derived.Test.YtcgelcccboifjaaDoorWValTorn
import Derived.Test.YtcgelcccboifjaaDoorOpen
import Derived.Laws.AppendOwnNone
namespace Go.Proofs.YtcgelcccboifjaaDoor
open Go.RowKit
def insL (l : List UInt8) (k : Nat) : List Int := (l.take k).map fun c => (c.toNat : Int)
theorem insL_len (l : List UInt8) (m : Nat) : (insL l m).length = min m l.length := by simp [insL]
theorem insL_step (l : List UInt8) (k : Nat) (h : k < l.length) : insL l (k + 1) = insL l k ++ [((l.getD k 0).toNat : Int)] := by
  unfold insL
  rw [List.take_succ_eq_append_getElem h, List.map_append]
  simp [h]
theorem insL_fits (l : List UInt8) (m : Nat) (h : m ≤ 20) : Fits (0 :: insL l m) := by
  refine ⟨by simp, ?_, ?_⟩
  · have := insL_len l m
    simp
    omega
  · intro n hn
    rcases List.mem_cons.1 hn with rfl | hn
    · omega
    · unfold insL at hn
      rw [List.mem_map] at hn
      obtain ⟨c, _, rfl⟩ := hn
      have := c.toNat_lt
      omega
theorem insL_min (l : List UInt8) (m : Nat) : insL l (min m l.length) = insL l m := by
  unfold insL
  rcases Nat.le_total m l.length with h | h
  · rw [Nat.min_eq_left h]
  · rw [Nat.min_eq_right h, List.take_of_length_le h, List.take_length]
theorem bytesAt_slice {w : World} {v : Value} {l : List UInt8} (h : BytesAt w v l) : ∃ ao cap, v = .slice ao l.length cap ∧ l.length ≤ 9223372036854775807 := by
  rcases h with ⟨ao, cap, hv, h0⟩ | ⟨b, off, cap, hv, h1, h2, _⟩
  · subst h0; exact ⟨ao, cap, hv, by simp⟩
  · unfold maxLen at h2
    exact ⟨_, _, hv, by omega⟩
theorem bytesAt_cell {w : World} {ao : Option Addr} {cap : Nat} {l : List UInt8} (h : BytesAt w (.slice ao l.length cap) l) {k : Nat} (hk : k < l.length) : ∃ b off, ao = some ⟨b, off, none⟩ ∧ w.cell? ⟨b, off + k, none⟩ = some (.int .u8 (l.getD k 0).toNat) := by
  rcases h with ⟨_, _, _, h0⟩ | ⟨b, off, cap', hv, h1, h2, hc⟩
  · subst h0; simp at hk
  · simp only [Value.slice.injEq] at hv
    exact ⟨b, off, hv.1, hc k hk⟩
theorem ownsRow_nought (W : World) : (W.alloc (.cells #[.int .i64 0] 3)).ownsRow W.heap.size 3 1 (.slice (some ⟨W.heap.size, 0, none⟩) 1 1) 1 [.int .i64 0] :=
  ⟨rfl, Or.inr ⟨W.heap.size, 1, #[.int .i64 0], rfl, Nat.le_refl _, by show (W.heap.push _)[W.heap.size]? = _; simp, Nat.le_refl _, by unfold maxLen; simp, rfl, rfl⟩⟩
theorem of_v {v : Value} {l : List Int} (hf : Fits l) (w : World) (hi : IntsAt w v l) (hw : Laid w) :
    Calls Tryd.prog 18 #[v] w fun e w' => e = .returned (.tuple #[.string ⟨(joinL l).toArray⟩, .bool true]) ∧ Below w.heap.size w w' := by
  have h := of_any v l w hi hw
  unfold MadeEnds at h
  rw [show ofL l = some (joinL l) from if_pos hf] at h
  exact h
def wordsA : Array Value := #[.string ⟨#[98, 111, 120]⟩, .string ⟨#[114, 101, 102]⟩, .string ⟨#[118, 97, 114]⟩, .string ⟨#[99, 101, 108, 108]⟩, .string ⟨#[103, 97, 116, 101]⟩]
theorem words_at {q : Nat} (h : q < 5) : (#[.string ⟨#[98, 111, 120]⟩, .string ⟨#[114, 101, 102]⟩, .string ⟨#[118, 97, 114]⟩, .string ⟨#[99, 101, 108, 108]⟩, .string ⟨#[103, 97, 116, 101]⟩] : Array Value)[q]? = some (.string ⟨(wordV (3 + (q : Int))).toArray⟩) := by
  match q, h with
  | 0, _ => rfl
  | 1, _ => rfl
  | 2, _ => rfl
  | 3, _ => rfl
  | 4, _ => rfl
set_option maxRecDepth 100000 in
set_option maxHeartbeats 8000000 in
theorem shows_go (n : Int) (s i S I : ByteArray) (pl : List UInt8) (ao : Option Addr) (cap : Nat) (K q : Nat) (NM LT MK WD T1 T3 : ByteArray) (w : World) (hw : LaidV w) (IB : Hid (BytesAt w (.slice ao pl.length cap) pl)) (la : pl.length ≤ 9223372036854775807)
    (_ : InI64 n) (hq : (K : Int) % 5 = (q : Int)) (hq5 : q < 5) (hfit : Hid (Fits (0 :: insL pl 20))) (hNM : Hid (NM = ⟨(joinL (0 :: insL pl 20)).toArray⟩)) (hWD : Hid (WD = ⟨(wordV (3 + (q : Int))).toArray⟩))
    (hmk : Hid (⟨#[60]⟩ ++ LT ++ ⟨#[62]⟩ = MK)) (z1 : NM.size ≤ 95) (z2 : LT.size ≤ 1539) (z3 : MK.size ≤ 1541) (z4 : WD.size ≤ 4)
    (hb3 : (T3.toList == (((WD ++ ⟨#[58]⟩) ++ NM) ++ MK).toList) = true)
    (hno : ∀ w, Calls Tryd.prog 17 #[.agg #[.string (cut8 s), .string (cut8 i)]] w fun e w' => e = .returned (.agg #[.string S, .string I]) ∧ Below w.heap.size w w')
    (hlt : ∀ w, LaidV w → Calls Tryd.prog 19 #[.agg #[.string S, .string I]] w fun e w' => e = .returned (.string LT) ∧ Below w.heap.size w w')
    (hnt : ∀ w, LaidV w → Calls Tryd.prog 20 #[.int .i64 n] w fun e w' => e = .returned (.string T1) ∧ Below w.heap.size w w')
    (ht1 : ∀ w, LaidV w → Calls Tryd.prog 12 #[.agg #[.int .i64 1, .int .i64 n, .string ⟨#[]⟩, .string ⟨#[]⟩, .string ⟨#[]⟩]] w fun e w' => e = .returned (.string T1) ∧ Below w.heap.size w w')
    (ht2 : ∀ w, LaidV w → Calls Tryd.prog 12 #[.agg #[.int .i64 2, .int .i64 0, .string ⟨#[]⟩, .string S, .string I]] w fun e w' => e = .returned (.string MK) ∧ Below w.heap.size w w')
    (ht3 : ∀ w, LaidV w → Calls Tryd.prog 12 #[.agg #[.int .i64 (3 + (q : Int)), .int .i64 0, .string NM, .string S, .string I]] w fun e w' => e = .returned (.string T3) ∧ Below w.heap.size w w') :
    Calls Tryd.prog 7 #[.int .i64 n, .agg #[.string s, .string i], .slice ao pl.length cap, .int .u8 K] w fun e w' => e = .returned (.bool true) ∧ Below w.heap.size w w' := by
  obtain ⟨i0, hi, hz0, hz1, hz2⟩ := info_parts intInfo
  have hsl1 := slice8 s
  have hsl2 := slice8 i
  go_enter Tryd.func7, Tryd.ntmps7
  have hB0 := Below.refl w.heap.size w
  have M0 := Mem.nil w
  have hw0 := hw
  go_wp2_with fail
  refine Calls.named ?_
  intro W1 hW1
  have hB1_ : Below w.heap.size w W1 := by rw [hW1]; exact (below_al hB0 _)
  have hw1_ : LaidV W1 := by rw [hW1]; exact (hw.alloc _)
  have M1_ := (M0).new' (w.heap.size) (by rfl) (.cells #[.string s, .string i] 24)
  rw [← hW1] at M1_
  clear hW1
  have ZZ1_0 := Lib.hid (Mem.lt M1_.1)
  refine (vexamples_any _ hw1_).mono ?_
  rintro e w1 ⟨rfl, hb1⟩
  have hB1 := below_then hB1_ hb1
  have hw1 := hw1_.below hb1
  have M1 := M1_.below hb1
  clear M1_ hB1_ hb1 hw1_
  have c1_0_0 := Mem.cell (v := .string s) M1.1 0 rfl
  have c1_0_1 := Mem.cell (v := .string i) M1.1 1 rfl
  have z1_0 := Mem.lt M1.1
  go_upto_region 4 with (fail)
  refine wp_named ?_
  intro w2 hW2
  have hB2 : Below w.heap.size w w2 := by rw [hW2]; exact hB1
  have hw2 : LaidV w2 := by rw [hW2]; exact hw1
  have M2 := M1
  rw [← hW2] at M2
  clear c1_0_0 c1_0_1 z1_0
  clear hW2
  have c2_0_0 := Mem.cell (v := .string s) M2.1 0 rfl
  have c2_0_1 := Mem.cell (v := .string i) M2.1 1 rfl
  have z2_0 := Mem.lt M2.1
  go_still_tail 15, (by kernel_rfl)
  change wpList _ _ _ _ _ w2.drew
  obtain ⟨w3, hW3⟩ : ∃ x, x = w2.drew := ⟨_, rfl⟩
  have hB3 : Below w.heap.size w w3 := by rw [hW3]; exact below_dr hB2
  have hw3 : LaidV w3 := hw0.below hB3
  have M3 := Mem.drew M2
  rw [← hW3] at M3
  rw [← hW3]
  clear c2_0_0 c2_0_1 z2_0
  clear hW3
  have c3_0_0 := Mem.cell (v := .string s) M3.1 0 rfl
  have c3_0_1 := Mem.cell (v := .string i) M3.1 1 rfl
  have z3_0 := Mem.lt M3.1
  go_wp2_with fail
  refine Calls.named ?_
  intro W4 hW4
  have hB4_ : Below w.heap.size w W4 := by rw [hW4]; exact hB3
  have hw4_ : LaidV W4 := by rw [hW4]; exact hw3
  have M4_ := M3
  rw [← hW4] at M4_
  clear hW4
  have ZZ4_0 := Lib.hid (Mem.lt M4_.1)
  clear c3_0_0 c3_0_1 z3_0
  refine (hno _).mono ?_
  rintro e w4 ⟨rfl, hb4⟩
  have hB4 := below_then hB4_ hb4
  have hw4 := hw4_.below hb4
  have M4 := M4_.below hb4
  clear M4_ hB4_ hb4 hw4_
  have c4_0_0 := Mem.cell (v := .string s) M4.1 0 rfl
  have c4_0_1 := Mem.cell (v := .string i) M4.1 1 rfl
  have z4_0 := Mem.lt M4.1
  have f4 := fun j => Mem.free M4.1 j
  go_upto_region 5 with (fail)
  have hX4 : (w4.setCells (w.heap.size) 0 [.string S, .string I]).heap[w.heap.size]? = some (.cells #[.string S, .string I] 24) := by rw [setCells_block [.string S, .string I] 0 _ _ (M4).1 (by simp)]; rfl
  have hY4 := below_setCells (B := w.heap.size) hB4 (b := w.heap.size) (by have := hB4.size; omega) 0 [.string S, .string I]
  refine wp_named ?_
  intro w5 hW5
  have hB5 : Below w.heap.size w w5 := by rw [hW5]; exact hY4
  have hw5 : LaidV w5 := hw0.below hB5
  have M5 : Mem w5 [(w.heap.size, .cells #[.string S, .string I] 24)] := by rw [hW5]; exact ⟨hX4, trivial⟩
  clear c4_0_0 c4_0_1 z4_0
  clear hW5 hX4 hY4
  have c5_0_0 := Mem.cell (v := .string S) M5.1 0 rfl
  have c5_0_1 := Mem.cell (v := .string I) M5.1 1 rfl
  have z5_0 := Mem.lt M5.1
  clear hsl1 hsl2 f4
  clear c5_0_0 c5_0_1 z5_0
  go_wp2_with fail
  go_loopw [10, 11] (fun u iv W => ∃ (k : Nat), k ≤ pl.length ∧ k ≤ 20 ∧ iv = .int .i64 k ∧ W.ownsRow w5.heap.size 3 1 u k (ic (insL pl k)) ∧ Below w5.heap.size w5 W) (fun _ iv _ => 20 - (intOf iv).toNat)
  case atStart => exact ⟨0, by omega, by omega, rfl, World.ownsRow_nil _ _ _ _, Below.refl _ _⟩
  case round =>
    obtain ⟨k, hk, hkm, rfl, hown, hb⟩ := hrel
    refine wp_named ?_
    intro W hW
    subst hW
    by_cases hgo : k < pl.length ∧ k < 20
    · obtain ⟨hlt0, hltm⟩ := hgo
      have hltI : (k : Int) < pl.length := by omega
      have hltM : (k : Int) < 20 := by omega
      obtain ⟨b, off, rfl, cw⟩ := bytesAt_cell (IB.out.below (below_then hB5 hb)) hlt0
      have hst := insL_step pl k hlt0
      obtain ⟨c, hc⟩ : ∃ c, c = (pl.getD k 0).toNat := ⟨_, rfl⟩
      have hcb : c < 256 := by rw [hc]; exact (pl.getD k 0).toNat_lt
      rw [← hc] at cw hst
      have HS := Lib.hid hst
      clear hst hc
      obtain ⟨ao2, cap2, rfl⟩ := ownsRow_slice hown
      have hz := hb.size
      go_wp2_with (at_builtin; refine wpList_append_own _ rfl _ _ 40 rfl w5.heap.size 3 i0 (.int .i64 0) 1 8 Tryd.underlying40 hi hz0 hz1 hz2 rfl (by decide) _ _ _ rfl (hown.alloc _) ⟨W.heap.size, 0, none⟩ 1 1 [.int .i64 (c : Int)] rfl rfl ?c1 ?c2 ?c3 ?c4 ?c5 ?_)
      case c1 =>
        intro j u hj
        match j, hj with
        | 0, hj => simp at hj; subst hj; simp [Addr.add]
      case c2 => intro u hu; simp at hu; subst hu; rfl
      case c3 => unfold maxLen; omega
      case c4 => omega
      case c5 => simp; omega
      intro v' w3 hown' hgrow _
      have hb3' : Below w5.heap.size w5 w3 := (below_al hb _).grown hgrow (by simp; omega) (fun q hq => (hown.lt q hq).1)
      have hown3 : w3.ownsRow w5.heap.size 3 1 v' (k + 1) (ic (insL pl (k + 1))) := by rw [HS.out, ic_app]; exact hown'
      clear hown hown' hgrow hb cw
      go_wp2_with fail
      go_roundw
      case rel => exact ⟨k + 1, by omega, by omega, by go_num, hown3, hb3'⟩
      case measure => simp [intOf]; omega
    · have hkk : k = min 20 pl.length := by omega
      have hend : (pl.length : Int) ≤ k ∨ ((k : Int) < pl.length ∧ (20 : Int) ≤ k) := by omega
      have hns : insL pl k = insL pl 20 := by rw [hkk, insL_min]
      rw [hns] at hown
      have hk23 : k ≤ 20 := by omega
      have hz := hb.size
      clear hkk hns hgo
      rcases hown.2 with ⟨rfl, h00⟩ | ⟨g, cap2, cur, rfl, hg1, hg2, hg3, hg4, hg5, hg6⟩
      · have hnil : insL pl 20 = [] := by
          have := hown.1
          rw [ic_len, h00] at this
          exact List.length_eq_zero_iff.1 (by simpa using this)
        have hI : IntsAt (W.alloc (.cells #[.int .i64 0] 3)) (.slice (some ⟨W.heap.size, 0, none⟩) 1 1) (0 :: insL pl 20) := by
          rw [hnil]
          exact IntsAt.of_row (l := [0]) (ownsRow_nought W)
        have HI := Lib.hid hI
        clear hI hnil hown h00
        rcases hend with hend | ⟨hend, hend2⟩
        · skip
          go_wp2_with (at_builtin; refine wpList_append_own_none rfl _ _ 40 rfl W.heap.size 3 i0 1 Tryd.underlying40 hi _ _ _ rfl (ownsRow_nought W) rfl ?_)
          go_wp2_with fail
          refine (of_v hfit.out _ HI.out ((hw0.below (below_then hB5 hb)).lib.below (below_al (Below.refl _ _) _))).mono ?_
          rintro e w7 ⟨rfl, hb7⟩
          replace hb7 := below_then (below_al hb _) hb7
          clear hb
          have HNM := hNM.out
          rw [← HNM]
          have hB7 : Below w.heap.size w w7 := below_then hB5 hb7
          have hw7 : LaidV w7 := hw0.below hB7
          have M7 : Mem w7 [(w.heap.size, .cells #[.string S, .string I] 24)] := M5.below hb7
          clear hb7 HNM
          have c7_0_0 := Mem.cell (v := .string S) M7.1 0 rfl
          have c7_0_1 := Mem.cell (v := .string I) M7.1 1 rfl
          have z7_0 := Mem.lt M7.1
          go_wp2_with fail
          refine Calls.named ?_
          intro W8 hW8
          have hB8_ : Below w.heap.size w W8 := by rw [hW8]; exact (below_al hB7 _)
          have hw8_ : LaidV W8 := by rw [hW8]; exact (hw7.alloc _)
          have M8_ := (M7).new' (w7.heap.size) (by rfl) (.cells #[.string ⟨#[98, 111, 120]⟩, .string ⟨#[114, 101, 102]⟩, .string ⟨#[118, 97, 114]⟩, .string ⟨#[99, 101, 108, 108]⟩, .string ⟨#[103, 97, 116, 101]⟩] 9)
          rw [← hW8] at M8_
          clear hW8
          have ZZ8_0 := Lib.hid (Mem.lt M8_.1)
          have ZZ8_1 := Lib.hid (Mem.lt M8_.2.1)
          clear c7_0_0 c7_0_1 z7_0
          refine (hlt _ hw8_).mono ?_
          rintro e w8 ⟨rfl, hb8⟩
          have hB8 := below_then hB8_ hb8
          have hw8 := hw8_.below hb8
          have M8 := M8_.below hb8
          clear M8_ hB8_ hb8 hw8_
          have c8_0_0 := Mem.cell (v := .string ⟨#[98, 111, 120]⟩) M8.1 0 rfl
          have c8_0_1 := Mem.cell (v := .string ⟨#[114, 101, 102]⟩) M8.1 1 rfl
          have c8_0_2 := Mem.cell (v := .string ⟨#[118, 97, 114]⟩) M8.1 2 rfl
          have c8_0_3 := Mem.cell (v := .string ⟨#[99, 101, 108, 108]⟩) M8.1 3 rfl
          have c8_0_4 := Mem.cell (v := .string ⟨#[103, 97, 116, 101]⟩) M8.1 4 rfl
          have z8_0 := Mem.lt M8.1
          have c8_1_0 := Mem.cell (v := .string S) M8.2.1 0 rfl
          have c8_1_1 := Mem.cell (v := .string I) M8.2.1 1 rfl
          have z8_1 := Mem.lt M8.2.1
          go_upto_region 14 with (fail)
          rw [hmk.out]
          refine wp_named ?_
          intro w9 hW9
          have hB9 : Below w.heap.size w w9 := by rw [hW9]; exact hB8
          have hw9 : LaidV w9 := by rw [hW9]; exact hw8
          have M9 := M8
          rw [← hW9] at M9
          clear c8_0_0 c8_0_1 c8_0_2 c8_0_3 c8_0_4 z8_0 c8_1_0 c8_1_1 z8_1
          clear hW9
          have c9_0_0 := Mem.cell (v := .string ⟨#[98, 111, 120]⟩) M9.1 0 rfl
          have c9_0_1 := Mem.cell (v := .string ⟨#[114, 101, 102]⟩) M9.1 1 rfl
          have c9_0_2 := Mem.cell (v := .string ⟨#[118, 97, 114]⟩) M9.1 2 rfl
          have c9_0_3 := Mem.cell (v := .string ⟨#[99, 101, 108, 108]⟩) M9.1 3 rfl
          have c9_0_4 := Mem.cell (v := .string ⟨#[103, 97, 116, 101]⟩) M9.1 4 rfl
          have z9_0 := Mem.lt M9.1
          have c9_1_0 := Mem.cell (v := .string S) M9.2.1 0 rfl
          have c9_1_1 := Mem.cell (v := .string I) M9.2.1 1 rfl
          have z9_1 := Mem.lt M9.2.1
          have hsub : IntKind.i64.wrap (3 + (q : Int) - 3) = (q : Int) := by
            rw [show 3 + (q : Int) - 3 = (q : Int) by omega]
            exact IntWalk.i64_in _ (by omega)
          have hcq := fun p : After w9 => Mem.cell (Mem.after M9 p).1 q (words_at hq5)
          rw [← hWD.out] at hcq
          have hs1 : ¬ 9223372036854775807 < WD.size + 1 := by omega
          have hs2 : ¬ 9223372036854775807 < WD.size + 1 + NM.size := by omega
          have hs3 : ¬ 9223372036854775807 < WD.size + 1 + NM.size + MK.size := by omega
          have hqI : (q : Int) < 5 := by omega
          have hq0 : (0 : Int) ≤ q := by omega
          have p9_0_0 := fun p : After w9 => Mem.cell (v := .string ⟨#[98, 111, 120]⟩) (Mem.after M9 p).1 0 rfl
          have p9_0_1 := fun p : After w9 => Mem.cell (v := .string ⟨#[114, 101, 102]⟩) (Mem.after M9 p).1 1 rfl
          have p9_0_2 := fun p : After w9 => Mem.cell (v := .string ⟨#[118, 97, 114]⟩) (Mem.after M9 p).1 2 rfl
          have p9_0_3 := fun p : After w9 => Mem.cell (v := .string ⟨#[99, 101, 108, 108]⟩) (Mem.after M9 p).1 3 rfl
          have p9_0_4 := fun p : After w9 => Mem.cell (v := .string ⟨#[103, 97, 116, 101]⟩) (Mem.after M9 p).1 4 rfl
          have p9_1_0 := fun p : After w9 => Mem.cell (v := .string S) (Mem.after M9 p).2.1 0 rfl
          have p9_1_1 := fun p : After w9 => Mem.cell (v := .string I) (Mem.after M9 p).2.1 1 rfl
          refine wp_region_after (by kernel_rfl) (by kernel_rfl) ?_
          repeat (go_big_quiet_step ((first | (go_at_call 12; with_reducible exact After.call (ht1 _ ((LaidV.after hw9 _)))) | (go_at_call 20; with_reducible exact After.call (hnt _ ((LaidV.after hw9 _)))) | (go_at_call 12; with_reducible exact After.call (ht2 _ ((LaidV.after hw9 _)))) | (go_at_call 12; with_reducible exact After.call (ht3 _ ((LaidV.after hw9 _)))))))
          refine wpQuiet_nil ?_
          rintro _ ⟨p9, rfl⟩
          clear p9_0_0 p9_0_1 p9_0_2 p9_0_3 p9_0_4 p9_1_0 p9_1_1
          clear c9_0_0 c9_0_1 c9_0_2 c9_0_3 c9_0_4 z9_0 c9_1_0 c9_1_1 z9_1
          obtain ⟨w10, hW10⟩ : ∃ x, x = p9.world := ⟨_, rfl⟩
          have hB10 : Below w.heap.size w w10 := by rw [hW10]; exact below_then hB9 p9.h
          have hw10 : LaidV w10 := by rw [hW10]; exact hw9.below p9.h
          have M10 := M9.below p9.h
          rw [← hW10] at M10
          rw [← hW10]
          clear hW10
          clear p9
          have c10_0_0 := Mem.cell (v := .string ⟨#[98, 111, 120]⟩) M10.1 0 rfl
          have c10_0_1 := Mem.cell (v := .string ⟨#[114, 101, 102]⟩) M10.1 1 rfl
          have c10_0_2 := Mem.cell (v := .string ⟨#[118, 97, 114]⟩) M10.1 2 rfl
          have c10_0_3 := Mem.cell (v := .string ⟨#[99, 101, 108, 108]⟩) M10.1 3 rfl
          have c10_0_4 := Mem.cell (v := .string ⟨#[103, 97, 116, 101]⟩) M10.1 4 rfl
          have z10_0 := Mem.lt M10.1
          have c10_1_0 := Mem.cell (v := .string S) M10.2.1 0 rfl
          have c10_1_1 := Mem.cell (v := .string I) M10.2.1 1 rfl
          have z10_1 := Mem.lt M10.2.1
          go_wp2
          go_ret
          exact ⟨rfl, hB10⟩
        · skip
          go_wp2_with (at_builtin; refine wpList_append_own_none rfl _ _ 40 rfl W.heap.size 3 i0 1 Tryd.underlying40 hi _ _ _ rfl (ownsRow_nought W) rfl ?_)
          go_wp2_with fail
          refine (of_v hfit.out _ HI.out ((hw0.below (below_then hB5 hb)).lib.below (below_al (Below.refl _ _) _))).mono ?_
          rintro e w7 ⟨rfl, hb7⟩
          replace hb7 := below_then (below_al hb _) hb7
          clear hb
          have HNM := hNM.out
          rw [← HNM]
          have hB7 : Below w.heap.size w w7 := below_then hB5 hb7
          have hw7 : LaidV w7 := hw0.below hB7
          have M7 : Mem w7 [(w.heap.size, .cells #[.string S, .string I] 24)] := M5.below hb7
          clear hb7 HNM
          have c7_0_0 := Mem.cell (v := .string S) M7.1 0 rfl
          have c7_0_1 := Mem.cell (v := .string I) M7.1 1 rfl
          have z7_0 := Mem.lt M7.1
          go_wp2_with fail
          refine Calls.named ?_
          intro W8 hW8
          have hB8_ : Below w.heap.size w W8 := by rw [hW8]; exact (below_al hB7 _)
          have hw8_ : LaidV W8 := by rw [hW8]; exact (hw7.alloc _)
          have M8_ := (M7).new' (w7.heap.size) (by rfl) (.cells #[.string ⟨#[98, 111, 120]⟩, .string ⟨#[114, 101, 102]⟩, .string ⟨#[118, 97, 114]⟩, .string ⟨#[99, 101, 108, 108]⟩, .string ⟨#[103, 97, 116, 101]⟩] 9)
          rw [← hW8] at M8_
          clear hW8
          have ZZ8_0 := Lib.hid (Mem.lt M8_.1)
          have ZZ8_1 := Lib.hid (Mem.lt M8_.2.1)
          clear c7_0_0 c7_0_1 z7_0
          refine (hlt _ hw8_).mono ?_
          rintro e w8 ⟨rfl, hb8⟩
          have hB8 := below_then hB8_ hb8
          have hw8 := hw8_.below hb8
          have M8 := M8_.below hb8
          clear M8_ hB8_ hb8 hw8_
          have c8_0_0 := Mem.cell (v := .string ⟨#[98, 111, 120]⟩) M8.1 0 rfl
          have c8_0_1 := Mem.cell (v := .string ⟨#[114, 101, 102]⟩) M8.1 1 rfl
          have c8_0_2 := Mem.cell (v := .string ⟨#[118, 97, 114]⟩) M8.1 2 rfl
          have c8_0_3 := Mem.cell (v := .string ⟨#[99, 101, 108, 108]⟩) M8.1 3 rfl
          have c8_0_4 := Mem.cell (v := .string ⟨#[103, 97, 116, 101]⟩) M8.1 4 rfl
          have z8_0 := Mem.lt M8.1
          have c8_1_0 := Mem.cell (v := .string S) M8.2.1 0 rfl
          have c8_1_1 := Mem.cell (v := .string I) M8.2.1 1 rfl
          have z8_1 := Mem.lt M8.2.1
          go_upto_region 14 with (fail)
          rw [hmk.out]
          refine wp_named ?_
          intro w9 hW9
          have hB9 : Below w.heap.size w w9 := by rw [hW9]; exact hB8
          have hw9 : LaidV w9 := by rw [hW9]; exact hw8
          have M9 := M8
          rw [← hW9] at M9
          clear c8_0_0 c8_0_1 c8_0_2 c8_0_3 c8_0_4 z8_0 c8_1_0 c8_1_1 z8_1
          clear hW9
          have c9_0_0 := Mem.cell (v := .string ⟨#[98, 111, 120]⟩) M9.1 0 rfl
          have c9_0_1 := Mem.cell (v := .string ⟨#[114, 101, 102]⟩) M9.1 1 rfl
          have c9_0_2 := Mem.cell (v := .string ⟨#[118, 97, 114]⟩) M9.1 2 rfl
          have c9_0_3 := Mem.cell (v := .string ⟨#[99, 101, 108, 108]⟩) M9.1 3 rfl
          have c9_0_4 := Mem.cell (v := .string ⟨#[103, 97, 116, 101]⟩) M9.1 4 rfl
          have z9_0 := Mem.lt M9.1
          have c9_1_0 := Mem.cell (v := .string S) M9.2.1 0 rfl
          have c9_1_1 := Mem.cell (v := .string I) M9.2.1 1 rfl
          have z9_1 := Mem.lt M9.2.1
          have hsub : IntKind.i64.wrap (3 + (q : Int) - 3) = (q : Int) := by
            rw [show 3 + (q : Int) - 3 = (q : Int) by omega]
            exact IntWalk.i64_in _ (by omega)
          have hcq := fun p : After w9 => Mem.cell (Mem.after M9 p).1 q (words_at hq5)
          rw [← hWD.out] at hcq
          have hs1 : ¬ 9223372036854775807 < WD.size + 1 := by omega
          have hs2 : ¬ 9223372036854775807 < WD.size + 1 + NM.size := by omega
          have hs3 : ¬ 9223372036854775807 < WD.size + 1 + NM.size + MK.size := by omega
          have hqI : (q : Int) < 5 := by omega
          have hq0 : (0 : Int) ≤ q := by omega
          have p9_0_0 := fun p : After w9 => Mem.cell (v := .string ⟨#[98, 111, 120]⟩) (Mem.after M9 p).1 0 rfl
          have p9_0_1 := fun p : After w9 => Mem.cell (v := .string ⟨#[114, 101, 102]⟩) (Mem.after M9 p).1 1 rfl
          have p9_0_2 := fun p : After w9 => Mem.cell (v := .string ⟨#[118, 97, 114]⟩) (Mem.after M9 p).1 2 rfl
          have p9_0_3 := fun p : After w9 => Mem.cell (v := .string ⟨#[99, 101, 108, 108]⟩) (Mem.after M9 p).1 3 rfl
          have p9_0_4 := fun p : After w9 => Mem.cell (v := .string ⟨#[103, 97, 116, 101]⟩) (Mem.after M9 p).1 4 rfl
          have p9_1_0 := fun p : After w9 => Mem.cell (v := .string S) (Mem.after M9 p).2.1 0 rfl
          have p9_1_1 := fun p : After w9 => Mem.cell (v := .string I) (Mem.after M9 p).2.1 1 rfl
          refine wp_region_after (by kernel_rfl) (by kernel_rfl) ?_
          repeat (go_big_quiet_step ((first | (go_at_call 12; with_reducible exact After.call (ht1 _ ((LaidV.after hw9 _)))) | (go_at_call 20; with_reducible exact After.call (hnt _ ((LaidV.after hw9 _)))) | (go_at_call 12; with_reducible exact After.call (ht2 _ ((LaidV.after hw9 _)))) | (go_at_call 12; with_reducible exact After.call (ht3 _ ((LaidV.after hw9 _)))))))
          refine wpQuiet_nil ?_
          rintro _ ⟨p9, rfl⟩
          clear p9_0_0 p9_0_1 p9_0_2 p9_0_3 p9_0_4 p9_1_0 p9_1_1
          clear c9_0_0 c9_0_1 c9_0_2 c9_0_3 c9_0_4 z9_0 c9_1_0 c9_1_1 z9_1
          obtain ⟨w10, hW10⟩ : ∃ x, x = p9.world := ⟨_, rfl⟩
          have hB10 : Below w.heap.size w w10 := by rw [hW10]; exact below_then hB9 p9.h
          have hw10 : LaidV w10 := by rw [hW10]; exact hw9.below p9.h
          have M10 := M9.below p9.h
          rw [← hW10] at M10
          rw [← hW10]
          clear hW10
          clear p9
          have c10_0_0 := Mem.cell (v := .string ⟨#[98, 111, 120]⟩) M10.1 0 rfl
          have c10_0_1 := Mem.cell (v := .string ⟨#[114, 101, 102]⟩) M10.1 1 rfl
          have c10_0_2 := Mem.cell (v := .string ⟨#[118, 97, 114]⟩) M10.1 2 rfl
          have c10_0_3 := Mem.cell (v := .string ⟨#[99, 101, 108, 108]⟩) M10.1 3 rfl
          have c10_0_4 := Mem.cell (v := .string ⟨#[103, 97, 116, 101]⟩) M10.1 4 rfl
          have z10_0 := Mem.lt M10.1
          have c10_1_0 := Mem.cell (v := .string S) M10.2.1 0 rfl
          have c10_1_1 := Mem.cell (v := .string I) M10.2.1 1 rfl
          have z10_1 := Mem.lt M10.2.1
          go_wp2
          go_ret
          exact ⟨rfl, hB10⟩
      · have hlk : (insL pl 20).length = k := by
          have := hown.1
          rw [ic_len] at this
          omega
        rcases hend with hend | ⟨hend, hend2⟩
        · skip
          go_wp2_with (at_builtin; refine wpList_append_own _ rfl _ _ 40 rfl W.heap.size 3 i0 (.int .i64 0) 1 8 Tryd.underlying40 hi hz0 hz1 hz2 rfl (by decide) _ _ _ rfl (ownsRow_nought W) ⟨g, 0, none⟩ k cap2 (ic (insL pl 20)) rfl (by rw [ic_len]; omega) ?c1 ?c2 ?c3 ?c4 ?c5 ?_)
          case c1 =>
            intro j u hj
            have hlt0 : g < W.heap.size := Mem.lt hg2
            have hgg : (W.alloc (.cells #[.int .i64 0] 3)).heap[g]? = some (.cells cur 3 (0, 0)) := by rw [Lib.alloc_old W _ g hlt0]; exact hg2
            rw [addr_add rfl, Nat.zero_add]
            unfold World.cell?
            rw [hgg]
            show cur[j]? = some u
            rw [← hg6] at hj
            have hjl : j < k := by
              have := (List.getElem?_eq_some_iff.1 hj).1
              simp at this
              omega
            rw [List.getElem?_take_of_lt (by omega)] at hj
            simpa using hj
          case c2 =>
            intro u hu
            unfold ic at hu
            rw [List.mem_map] at hu
            obtain ⟨n, _, rfl⟩ := hu
            rfl
          case c3 => unfold maxLen; omega
          case c4 => omega
          case c5 => simp
          intro v' w3 hown' hgrow _
          have hb3' : Below w5.heap.size w5 w3 := (below_al hb _).grown hgrow (by simp; omega) (fun q hq => by
            simp [Value.ownBlock] at hq
            omega)
          have hI : IntsAt w3 v' (0 :: insL pl 20) := IntsAt.of_row (B := W.heap.size) (by
            have e : (0 :: insL pl 20).length = 1 + k := by rw [List.length_cons, hlk]; omega
            rw [e]
            exact hown')
          have HI := Lib.hid hI
          clear hI hown hown' hgrow hg2 hg5 hg6 hb
          go_wp2_with fail
          refine (of_v hfit.out _ HI.out (hw0.below (below_then hB5 hb3')).lib).mono ?_
          rintro e w7 ⟨rfl, hb7⟩
          replace hb7 := below_then hb3' hb7
          clear hb3'
          have HNM := hNM.out
          rw [← HNM]
          have hB7 : Below w.heap.size w w7 := below_then hB5 hb7
          have hw7 : LaidV w7 := hw0.below hB7
          have M7 : Mem w7 [(w.heap.size, .cells #[.string S, .string I] 24)] := M5.below hb7
          clear hb7 HNM
          have c7_0_0 := Mem.cell (v := .string S) M7.1 0 rfl
          have c7_0_1 := Mem.cell (v := .string I) M7.1 1 rfl
          have z7_0 := Mem.lt M7.1
          go_wp2_with fail
          refine Calls.named ?_
          intro W8 hW8
          have hB8_ : Below w.heap.size w W8 := by rw [hW8]; exact (below_al hB7 _)
          have hw8_ : LaidV W8 := by rw [hW8]; exact (hw7.alloc _)
          have M8_ := (M7).new' (w7.heap.size) (by rfl) (.cells #[.string ⟨#[98, 111, 120]⟩, .string ⟨#[114, 101, 102]⟩, .string ⟨#[118, 97, 114]⟩, .string ⟨#[99, 101, 108, 108]⟩, .string ⟨#[103, 97, 116, 101]⟩] 9)
          rw [← hW8] at M8_
          clear hW8
          have ZZ8_0 := Lib.hid (Mem.lt M8_.1)
          have ZZ8_1 := Lib.hid (Mem.lt M8_.2.1)
          clear c7_0_0 c7_0_1 z7_0
          refine (hlt _ hw8_).mono ?_
          rintro e w8 ⟨rfl, hb8⟩
          have hB8 := below_then hB8_ hb8
          have hw8 := hw8_.below hb8
          have M8 := M8_.below hb8
          clear M8_ hB8_ hb8 hw8_
          have c8_0_0 := Mem.cell (v := .string ⟨#[98, 111, 120]⟩) M8.1 0 rfl
          have c8_0_1 := Mem.cell (v := .string ⟨#[114, 101, 102]⟩) M8.1 1 rfl
          have c8_0_2 := Mem.cell (v := .string ⟨#[118, 97, 114]⟩) M8.1 2 rfl
          have c8_0_3 := Mem.cell (v := .string ⟨#[99, 101, 108, 108]⟩) M8.1 3 rfl
          have c8_0_4 := Mem.cell (v := .string ⟨#[103, 97, 116, 101]⟩) M8.1 4 rfl
          have z8_0 := Mem.lt M8.1
          have c8_1_0 := Mem.cell (v := .string S) M8.2.1 0 rfl
          have c8_1_1 := Mem.cell (v := .string I) M8.2.1 1 rfl
          have z8_1 := Mem.lt M8.2.1
          go_upto_region 14 with (fail)
          rw [hmk.out]
          refine wp_named ?_
          intro w9 hW9
          have hB9 : Below w.heap.size w w9 := by rw [hW9]; exact hB8
          have hw9 : LaidV w9 := by rw [hW9]; exact hw8
          have M9 := M8
          rw [← hW9] at M9
          clear c8_0_0 c8_0_1 c8_0_2 c8_0_3 c8_0_4 z8_0 c8_1_0 c8_1_1 z8_1
          clear hW9
          have c9_0_0 := Mem.cell (v := .string ⟨#[98, 111, 120]⟩) M9.1 0 rfl
          have c9_0_1 := Mem.cell (v := .string ⟨#[114, 101, 102]⟩) M9.1 1 rfl
          have c9_0_2 := Mem.cell (v := .string ⟨#[118, 97, 114]⟩) M9.1 2 rfl
          have c9_0_3 := Mem.cell (v := .string ⟨#[99, 101, 108, 108]⟩) M9.1 3 rfl
          have c9_0_4 := Mem.cell (v := .string ⟨#[103, 97, 116, 101]⟩) M9.1 4 rfl
          have z9_0 := Mem.lt M9.1
          have c9_1_0 := Mem.cell (v := .string S) M9.2.1 0 rfl
          have c9_1_1 := Mem.cell (v := .string I) M9.2.1 1 rfl
          have z9_1 := Mem.lt M9.2.1
          have hsub : IntKind.i64.wrap (3 + (q : Int) - 3) = (q : Int) := by
            rw [show 3 + (q : Int) - 3 = (q : Int) by omega]
            exact IntWalk.i64_in _ (by omega)
          have hcq := fun p : After w9 => Mem.cell (Mem.after M9 p).1 q (words_at hq5)
          rw [← hWD.out] at hcq
          have hs1 : ¬ 9223372036854775807 < WD.size + 1 := by omega
          have hs2 : ¬ 9223372036854775807 < WD.size + 1 + NM.size := by omega
          have hs3 : ¬ 9223372036854775807 < WD.size + 1 + NM.size + MK.size := by omega
          have hqI : (q : Int) < 5 := by omega
          have hq0 : (0 : Int) ≤ q := by omega
          have p9_0_0 := fun p : After w9 => Mem.cell (v := .string ⟨#[98, 111, 120]⟩) (Mem.after M9 p).1 0 rfl
          have p9_0_1 := fun p : After w9 => Mem.cell (v := .string ⟨#[114, 101, 102]⟩) (Mem.after M9 p).1 1 rfl
          have p9_0_2 := fun p : After w9 => Mem.cell (v := .string ⟨#[118, 97, 114]⟩) (Mem.after M9 p).1 2 rfl
          have p9_0_3 := fun p : After w9 => Mem.cell (v := .string ⟨#[99, 101, 108, 108]⟩) (Mem.after M9 p).1 3 rfl
          have p9_0_4 := fun p : After w9 => Mem.cell (v := .string ⟨#[103, 97, 116, 101]⟩) (Mem.after M9 p).1 4 rfl
          have p9_1_0 := fun p : After w9 => Mem.cell (v := .string S) (Mem.after M9 p).2.1 0 rfl
          have p9_1_1 := fun p : After w9 => Mem.cell (v := .string I) (Mem.after M9 p).2.1 1 rfl
          refine wp_region_after (by kernel_rfl) (by kernel_rfl) ?_
          repeat (go_big_quiet_step ((first | (go_at_call 12; with_reducible exact After.call (ht1 _ ((LaidV.after hw9 _)))) | (go_at_call 20; with_reducible exact After.call (hnt _ ((LaidV.after hw9 _)))) | (go_at_call 12; with_reducible exact After.call (ht2 _ ((LaidV.after hw9 _)))) | (go_at_call 12; with_reducible exact After.call (ht3 _ ((LaidV.after hw9 _)))))))
          refine wpQuiet_nil ?_
          rintro _ ⟨p9, rfl⟩
          clear p9_0_0 p9_0_1 p9_0_2 p9_0_3 p9_0_4 p9_1_0 p9_1_1
          clear c9_0_0 c9_0_1 c9_0_2 c9_0_3 c9_0_4 z9_0 c9_1_0 c9_1_1 z9_1
          obtain ⟨w10, hW10⟩ : ∃ x, x = p9.world := ⟨_, rfl⟩
          have hB10 : Below w.heap.size w w10 := by rw [hW10]; exact below_then hB9 p9.h
          have hw10 : LaidV w10 := by rw [hW10]; exact hw9.below p9.h
          have M10 := M9.below p9.h
          rw [← hW10] at M10
          rw [← hW10]
          clear hW10
          clear p9
          have c10_0_0 := Mem.cell (v := .string ⟨#[98, 111, 120]⟩) M10.1 0 rfl
          have c10_0_1 := Mem.cell (v := .string ⟨#[114, 101, 102]⟩) M10.1 1 rfl
          have c10_0_2 := Mem.cell (v := .string ⟨#[118, 97, 114]⟩) M10.1 2 rfl
          have c10_0_3 := Mem.cell (v := .string ⟨#[99, 101, 108, 108]⟩) M10.1 3 rfl
          have c10_0_4 := Mem.cell (v := .string ⟨#[103, 97, 116, 101]⟩) M10.1 4 rfl
          have z10_0 := Mem.lt M10.1
          have c10_1_0 := Mem.cell (v := .string S) M10.2.1 0 rfl
          have c10_1_1 := Mem.cell (v := .string I) M10.2.1 1 rfl
          have z10_1 := Mem.lt M10.2.1
          go_wp2
          go_ret
          exact ⟨rfl, hB10⟩
        · skip
          go_wp2_with (at_builtin; refine wpList_append_own _ rfl _ _ 40 rfl W.heap.size 3 i0 (.int .i64 0) 1 8 Tryd.underlying40 hi hz0 hz1 hz2 rfl (by decide) _ _ _ rfl (ownsRow_nought W) ⟨g, 0, none⟩ k cap2 (ic (insL pl 20)) rfl (by rw [ic_len]; omega) ?c1 ?c2 ?c3 ?c4 ?c5 ?_)
          case c1 =>
            intro j u hj
            have hlt0 : g < W.heap.size := Mem.lt hg2
            have hgg : (W.alloc (.cells #[.int .i64 0] 3)).heap[g]? = some (.cells cur 3 (0, 0)) := by rw [Lib.alloc_old W _ g hlt0]; exact hg2
            rw [addr_add rfl, Nat.zero_add]
            unfold World.cell?
            rw [hgg]
            show cur[j]? = some u
            rw [← hg6] at hj
            have hjl : j < k := by
              have := (List.getElem?_eq_some_iff.1 hj).1
              simp at this
              omega
            rw [List.getElem?_take_of_lt (by omega)] at hj
            simpa using hj
          case c2 =>
            intro u hu
            unfold ic at hu
            rw [List.mem_map] at hu
            obtain ⟨n, _, rfl⟩ := hu
            rfl
          case c3 => unfold maxLen; omega
          case c4 => omega
          case c5 => simp
          intro v' w3 hown' hgrow _
          have hb3' : Below w5.heap.size w5 w3 := (below_al hb _).grown hgrow (by simp; omega) (fun q hq => by
            simp [Value.ownBlock] at hq
            omega)
          have hI : IntsAt w3 v' (0 :: insL pl 20) := IntsAt.of_row (B := W.heap.size) (by
            have e : (0 :: insL pl 20).length = 1 + k := by rw [List.length_cons, hlk]; omega
            rw [e]
            exact hown')
          have HI := Lib.hid hI
          clear hI hown hown' hgrow hg2 hg5 hg6 hb
          go_wp2_with fail
          refine (of_v hfit.out _ HI.out (hw0.below (below_then hB5 hb3')).lib).mono ?_
          rintro e w7 ⟨rfl, hb7⟩
          replace hb7 := below_then hb3' hb7
          clear hb3'
          have HNM := hNM.out
          rw [← HNM]
          have hB7 : Below w.heap.size w w7 := below_then hB5 hb7
          have hw7 : LaidV w7 := hw0.below hB7
          have M7 : Mem w7 [(w.heap.size, .cells #[.string S, .string I] 24)] := M5.below hb7
          clear hb7 HNM
          have c7_0_0 := Mem.cell (v := .string S) M7.1 0 rfl
          have c7_0_1 := Mem.cell (v := .string I) M7.1 1 rfl
          have z7_0 := Mem.lt M7.1
          go_wp2_with fail
          refine Calls.named ?_
          intro W8 hW8
          have hB8_ : Below w.heap.size w W8 := by rw [hW8]; exact (below_al hB7 _)
          have hw8_ : LaidV W8 := by rw [hW8]; exact (hw7.alloc _)
          have M8_ := (M7).new' (w7.heap.size) (by rfl) (.cells #[.string ⟨#[98, 111, 120]⟩, .string ⟨#[114, 101, 102]⟩, .string ⟨#[118, 97, 114]⟩, .string ⟨#[99, 101, 108, 108]⟩, .string ⟨#[103, 97, 116, 101]⟩] 9)
          rw [← hW8] at M8_
          clear hW8
          have ZZ8_0 := Lib.hid (Mem.lt M8_.1)
          have ZZ8_1 := Lib.hid (Mem.lt M8_.2.1)
          clear c7_0_0 c7_0_1 z7_0
          refine (hlt _ hw8_).mono ?_
          rintro e w8 ⟨rfl, hb8⟩
          have hB8 := below_then hB8_ hb8
          have hw8 := hw8_.below hb8
          have M8 := M8_.below hb8
          clear M8_ hB8_ hb8 hw8_
          have c8_0_0 := Mem.cell (v := .string ⟨#[98, 111, 120]⟩) M8.1 0 rfl
          have c8_0_1 := Mem.cell (v := .string ⟨#[114, 101, 102]⟩) M8.1 1 rfl
          have c8_0_2 := Mem.cell (v := .string ⟨#[118, 97, 114]⟩) M8.1 2 rfl
          have c8_0_3 := Mem.cell (v := .string ⟨#[99, 101, 108, 108]⟩) M8.1 3 rfl
          have c8_0_4 := Mem.cell (v := .string ⟨#[103, 97, 116, 101]⟩) M8.1 4 rfl
          have z8_0 := Mem.lt M8.1
          have c8_1_0 := Mem.cell (v := .string S) M8.2.1 0 rfl
          have c8_1_1 := Mem.cell (v := .string I) M8.2.1 1 rfl
          have z8_1 := Mem.lt M8.2.1
          go_upto_region 14 with (fail)
          rw [hmk.out]
          refine wp_named ?_
          intro w9 hW9
          have hB9 : Below w.heap.size w w9 := by rw [hW9]; exact hB8
          have hw9 : LaidV w9 := by rw [hW9]; exact hw8
          have M9 := M8
          rw [← hW9] at M9
          clear c8_0_0 c8_0_1 c8_0_2 c8_0_3 c8_0_4 z8_0 c8_1_0 c8_1_1 z8_1
          clear hW9
          have c9_0_0 := Mem.cell (v := .string ⟨#[98, 111, 120]⟩) M9.1 0 rfl
          have c9_0_1 := Mem.cell (v := .string ⟨#[114, 101, 102]⟩) M9.1 1 rfl
          have c9_0_2 := Mem.cell (v := .string ⟨#[118, 97, 114]⟩) M9.1 2 rfl
          have c9_0_3 := Mem.cell (v := .string ⟨#[99, 101, 108, 108]⟩) M9.1 3 rfl
          have c9_0_4 := Mem.cell (v := .string ⟨#[103, 97, 116, 101]⟩) M9.1 4 rfl
          have z9_0 := Mem.lt M9.1
          have c9_1_0 := Mem.cell (v := .string S) M9.2.1 0 rfl
          have c9_1_1 := Mem.cell (v := .string I) M9.2.1 1 rfl
          have z9_1 := Mem.lt M9.2.1
          have hsub : IntKind.i64.wrap (3 + (q : Int) - 3) = (q : Int) := by
            rw [show 3 + (q : Int) - 3 = (q : Int) by omega]
            exact IntWalk.i64_in _ (by omega)
          have hcq := fun p : After w9 => Mem.cell (Mem.after M9 p).1 q (words_at hq5)
          rw [← hWD.out] at hcq
          have hs1 : ¬ 9223372036854775807 < WD.size + 1 := by omega
          have hs2 : ¬ 9223372036854775807 < WD.size + 1 + NM.size := by omega
          have hs3 : ¬ 9223372036854775807 < WD.size + 1 + NM.size + MK.size := by omega
          have hqI : (q : Int) < 5 := by omega
          have hq0 : (0 : Int) ≤ q := by omega
          have p9_0_0 := fun p : After w9 => Mem.cell (v := .string ⟨#[98, 111, 120]⟩) (Mem.after M9 p).1 0 rfl
          have p9_0_1 := fun p : After w9 => Mem.cell (v := .string ⟨#[114, 101, 102]⟩) (Mem.after M9 p).1 1 rfl
          have p9_0_2 := fun p : After w9 => Mem.cell (v := .string ⟨#[118, 97, 114]⟩) (Mem.after M9 p).1 2 rfl
          have p9_0_3 := fun p : After w9 => Mem.cell (v := .string ⟨#[99, 101, 108, 108]⟩) (Mem.after M9 p).1 3 rfl
          have p9_0_4 := fun p : After w9 => Mem.cell (v := .string ⟨#[103, 97, 116, 101]⟩) (Mem.after M9 p).1 4 rfl
          have p9_1_0 := fun p : After w9 => Mem.cell (v := .string S) (Mem.after M9 p).2.1 0 rfl
          have p9_1_1 := fun p : After w9 => Mem.cell (v := .string I) (Mem.after M9 p).2.1 1 rfl
          refine wp_region_after (by kernel_rfl) (by kernel_rfl) ?_
          repeat (go_big_quiet_step ((first | (go_at_call 12; with_reducible exact After.call (ht1 _ ((LaidV.after hw9 _)))) | (go_at_call 20; with_reducible exact After.call (hnt _ ((LaidV.after hw9 _)))) | (go_at_call 12; with_reducible exact After.call (ht2 _ ((LaidV.after hw9 _)))) | (go_at_call 12; with_reducible exact After.call (ht3 _ ((LaidV.after hw9 _)))))))
          refine wpQuiet_nil ?_
          rintro _ ⟨p9, rfl⟩
          clear p9_0_0 p9_0_1 p9_0_2 p9_0_3 p9_0_4 p9_1_0 p9_1_1
          clear c9_0_0 c9_0_1 c9_0_2 c9_0_3 c9_0_4 z9_0 c9_1_0 c9_1_1 z9_1
          obtain ⟨w10, hW10⟩ : ∃ x, x = p9.world := ⟨_, rfl⟩
          have hB10 : Below w.heap.size w w10 := by rw [hW10]; exact below_then hB9 p9.h
          have hw10 : LaidV w10 := by rw [hW10]; exact hw9.below p9.h
          have M10 := M9.below p9.h
          rw [← hW10] at M10
          rw [← hW10]
          clear hW10
          clear p9
          have c10_0_0 := Mem.cell (v := .string ⟨#[98, 111, 120]⟩) M10.1 0 rfl
          have c10_0_1 := Mem.cell (v := .string ⟨#[114, 101, 102]⟩) M10.1 1 rfl
          have c10_0_2 := Mem.cell (v := .string ⟨#[118, 97, 114]⟩) M10.1 2 rfl
          have c10_0_3 := Mem.cell (v := .string ⟨#[99, 101, 108, 108]⟩) M10.1 3 rfl
          have c10_0_4 := Mem.cell (v := .string ⟨#[103, 97, 116, 101]⟩) M10.1 4 rfl
          have z10_0 := Mem.lt M10.1
          have c10_1_0 := Mem.cell (v := .string S) M10.2.1 0 rfl
          have c10_1_1 := Mem.cell (v := .string I) M10.2.1 1 rfl
          have z10_1 := Mem.lt M10.2.1
          go_wp2
          go_ret
          exact ⟨rfl, hB10⟩
theorem valShows_walk (n : Int) (s i : ByteArray) (pv : Value) (pl : List UInt8) (kd : Int) (hn : InI64 n) (_ : s.size ≤ 140737488351232 ∧ i.size ≤ 140737488351232) (hk : 0 ≤ kd ∧ kd ≤ 255) (w : World) (ib : BytesAt w pv pl) (hw : LaidV w) :
    Calls Tryd.prog 7 #[.int .i64 n, .agg #[.string s, .string i], pv, .int .u8 kd] w fun e w' => e = .returned (.bool true) ∧ Below w.heap.size w w' := by
  have c1 := cut8_size s
  have c2 := cut8_size i
  obtain ⟨ao, cap, rfl, la⟩ := bytesAt_slice ib
  obtain ⟨K, rfl⟩ : ∃ K : Nat, kd = K := ⟨kd.toNat, by omega⟩
  have hfit := insL_fits pl 20 (Nat.le_refl _)
  have hno := fun w => lnorm_any (cut8 s) (cut8 i) (by omega) (by omega) w
  have l1 := normL_length (cut8 s).data.toList
  have l2 := normL_length (cut8 i).data.toList
  have zS : (NB (cut8 s)).size ≤ 64 := by show ((normL (cut8 s).data.toList).toArray).size ≤ 64; rw [List.size_toArray]; exact l1
  have zI : (NB (cut8 i)).size ≤ 64 := by show ((normL (cut8 i).data.toList).toArray).size ≤ 64; rw [List.size_toArray]; exact l2
  have hlR : (lb (NB (cut8 s)) (NB (cut8 i))).right = true := by
    have e : ∀ b : ByteArray, (NB b).data.toList = normL b.data.toList := fun b => by unfold NB; rfl
    have : lb (NB (cut8 s)) (NB (cut8 i)) = (lb (cut8 s) (cut8 i)).norm := by unfold lb Lb.norm; simp only [e]
    rw [this]
    exact Lb.right_norm _
  have hnm : (readL (joinL (0 :: insL pl 20))).isSome = true := by rw [readL_join hfit]; rfl
  have hnl : (joinL (0 :: insL pl 20)).length ≤ 95 := readL_length (readL_join hfit)
  have zN : (⟨(joinL (0 :: insL pl 20)).toArray⟩ : ByteArray).size ≤ 95 := hnl
  have zE : (⟨#[]⟩ : ByteArray).size ≤ 140737488351232 := by decide
  have hlt := fun w hw => ltext_any (NB (cut8 s)) (NB (cut8 i)) (by omega) (by omega) w hw
  have hnt := fun w (hw : LaidV w) => text_any n w hn hw.lib
  have hq5 : K % 5 < 5 := Nat.mod_lt _ (by omega)
  have ht1 := fun w hw => vtext_any 1 n hn ⟨#[]⟩ ⟨#[]⟩ ⟨#[]⟩ zE zE zE w hw
  have e1 : (vl 1 n ⟨#[]⟩ ⟨#[]⟩ ⟨#[]⟩).text = Lib.itoa n := rfl
  rw [e1] at ht1
  have h0 : InI64 0 := by unfold InI64; omega
  have ht2 := fun w hw => vtext_any 2 0 h0 ⟨#[]⟩ (NB (cut8 s)) (NB (cut8 i)) zE (by omega) (by omega) w hw
  have e2 : (vl 2 0 ⟨#[]⟩ (NB (cut8 s)) (NB (cut8 i))).text = markV (lb (NB (cut8 s)) (NB (cut8 i))) := if_pos (by
    rw [right2, hlR, ByteArray.toList_eq]
    rfl)
  rw [e2] at ht2
  have hkI : 3 ≤ (3 + ((K % 5 : Nat) : Int)) ∧ (3 + ((K % 5 : Nat) : Int)) ≤ 7 := by omega
  have ht3 := fun w hw => vtext_any (3 + ((K % 5 : Nat) : Int)) 0 h0 ⟨(joinL (0 :: insL pl 20)).toArray⟩ (NB (cut8 s)) (NB (cut8 i)) (by omega) (by omega) (by omega) w hw
  have e3 : (vl (3 + ((K % 5 : Nat) : Int)) 0 ⟨(joinL (0 :: insL pl 20)).toArray⟩ (NB (cut8 s)) (NB (cut8 i))).text = wordV (3 + ((K % 5 : Nat) : Int)) ++ 58 :: (joinL (0 :: insL pl 20) ++ markV (lb (NB (cut8 s)) (NB (cut8 i)))) := by
    have hr : (vl (3 + ((K % 5 : Nat) : Int)) 0 ⟨(joinL (0 :: insL pl 20)).toArray⟩ (NB (cut8 s)) (NB (cut8 i))).right = true := by
      rw [right3 hkI.1 hkI.2, hlR]
      have : (readL (⟨(joinL (0 :: insL pl 20)).toArray⟩ : ByteArray).data.toList).isSome = true := hnm
      rw [this]
      rfl
    refine (if_pos hr : Vl.text _ = Vl.textR _).trans ?_
    unfold Vl.textR vl
    simp only
    rw [if_neg (by omega), if_neg (by omega)]
  rw [e3] at ht3
  have hml : (markV (lb (NB (cut8 s)) (NB (cut8 i)))).length ≤ 1541 := by
    have := Lb.text_length (lb (NB (cut8 s)) (NB (cut8 i)))
    unfold markV
    simp
    omega
  refine shows_go n s i _ _ pl ao cap K (K % 5) _ _ _ _ _ _ w hw (Lib.hid ib) la hn rfl hq5 (Lib.hid hfit) (Lib.hid rfl) (Lib.hid rfl) (Lib.hid (mark_bytes _)) zN (Lb.text_length _) hml (wordV_length _) ?_ hno hlt hnt ht1 ht2 ht3
  rw [beq_iff_eq, ByteArray.toList_eq, ByteArray.toList_eq]
  simp [ByteArray.data_append]
end Go.Proofs.YtcgelcccboifjaaDoor
