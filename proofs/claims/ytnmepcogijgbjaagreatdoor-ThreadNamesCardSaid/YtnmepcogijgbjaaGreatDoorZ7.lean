/- NamC, NamW: joined into one text; each part says below what it holds. -/
import Derived.Test.YtnmepcogijgbjaaGreatDoorExL
import Derived.Test.YtnmepcogijgbjaaGreatDoorZ5
import Derived.Test.YtnmepcogijgbjaaGreatDoorZ6
import Derived.Test.YtnmepcogijgbjaaGreatDoorRb
import Derived.Test.YtnmepcogijgbjaaGreatDoorCoreF
import Derived.Test.YtnmepcogijgbjaaGreatDoorBegR
import Derived.Test.YtnmepcogijgbjaaGreatDoorLoadW
import Derived.Test.YtnmepcogijgbjaaGreatDoorExC
/- ThreadNames: what each call answers there. -/
namespace Go.Proofs.YtnmepcogijgbjaaGreatDoor
open Go.RowKit
def nmB (i : Int) : ByteArray := ⟨(joinL [3, i]).toArray⟩
def lastB (k : Nat) : ByteArray := match k with | 0 => ⟨#[51]⟩ | k + 1 => nmB k
theorem nmFits1 : Fits [3] := ⟨by simp, by simp, by simp⟩
theorem nmFits2 {i : Int} (h : 0 ≤ i ∧ i ≤ 999) : Fits [3, i] := ⟨by simp, by simp, by simp; omega⟩
theorem nmRead1 : readL [51] = some [3] := by decide +kernel
theorem data_nm (i : Int) : (nmB i).data.toList = joinL [3, i] := rfl
theorem child_nm {i : Int} (h : 0 ≤ i ∧ i ≤ 999) : childS [51] i = some (nmB i).data.toList := by
  unfold childS
  rw [nmRead1]
  show ofL [3, i] = _
  unfold ofL
  rw [if_pos (nmFits2 h)]
  rfl
theorem under_nm {i : Int} (h : 0 ≤ i ∧ i ≤ 999) : underS [51] (nmB i).data.toList = true :=
  underS_iff.2 ⟨[3], [3, i], nmRead1, readL_join (nmFits2 h), ⟨[i], rfl⟩⟩
theorem cmp_two {i j : Int} (h : i < j) : cmpL [3, i] [3, j] < 0 := by
  unfold cmpL
  rw [if_neg (by omega), if_neg (by omega)]
  unfold cmpL
  rw [if_pos h]
  omega
theorem order_nm {k : Nat} (h : k ≤ 999) : orderS (lastB k).data.toList (nmB k).data.toList < 0 := by
  match k, h with
  | 0, _ =>
    unfold orderS
    rw [show (lastB 0).data.toList = [51] from rfl, nmRead1, data_nm, readL_join (nmFits2 (by omega))]
    exact cmpL_prefix ⟨[((0 : Nat) : Int)], rfl⟩ (by simp)
  | k + 1, h =>
    unfold orderS
    rw [show (lastB (k + 1)).data.toList = joinL [3, (k : Int)] from rfl, readL_join (nmFits2 (by omega)), data_nm, readL_join (nmFits2 (by omega))]
    exact cmp_two (by omega)
theorem size_nm {i : Int} (h : 0 ≤ i ∧ i ≤ 999) : (nmB i).size ≤ 140737488351232 := by
  have := readL_length (readL_join (nmFits2 h))
  have e : (nmB i).size = (joinL [3, i]).length := by rw [← data_nm, Array.length_toList]; rfl
  omega
theorem size_last {k : Nat} (h : k ≤ 999) : (lastB k).size ≤ 140737488351232 := by
  match k, h with
  | 0, _ => decide
  | k + 1, h => exact size_nm (by omega)
def nT (cS cI kS kI : ByteArray) (f : Sl) (k r : Int) : Th := ⟨⟨#[51]⟩, ⟨#[51]⟩, cS, cI, kS, kI, f, ⟨none, 0, 0⟩, ⟨none, 0, 0⟩, ⟨none, 0, 0⟩, k, r, 0, ⟨#[]⟩, 0, 0, ⟨#[]⟩, ⟨#[]⟩, ⟨#[]⟩, false⟩
set_option maxRecDepth 100000 in
theorem nam_yes (cS cI kS kI : ByteArray) (f : Sl) (k r : Int) (h1 : 1 ≤ r) (h2 : r ≤ 1000) (h3 : 0 ≤ k) (h4 : k ≤ 999) (w : World) (hw : Laid w) :
    Calls Tryz.prog 19 #[.agg (th (nT cS cI kS kI f k r))] w fun e w' => e = .returned (.tuple #[.agg (th (nT cS cI kS kI f (k + 1) (r - 1))), .string (nmB k), .bool true]) ∧ Below w.heap.size w w' :=
  tname_ok (nT cS cI kS kI f k r) h1 h2 h3 (by show k ≤ 1000; omega) (nmB k) (of_decide_eq_true rfl) (child_nm ⟨h3, h4⟩) w hw
theorem nam_no (cS cI kS kI : ByteArray) (f : Sl) (k r : Int) (h1 : r < 1) (w : World) :
    Calls Tryz.prog 19 #[.agg (th (nT cS cI kS kI f k r))] w fun e w' => e = .returned (.tuple #[.agg (th (nT cS cI kS kI f k r)), .string ⟨#[]⟩, .bool false]) ∧ Below w.heap.size w w' :=
  name_no_room (nT cS cI kS kI f k r) h1 w
theorem nam_under {i : Int} (h : 0 ≤ i ∧ i ≤ 999) (w : World) (hw : Laid w) :
    Calls Tryz.prog 20 #[.string ⟨#[51]⟩, .string (nmB i)] w fun e w' => e = .returned (.bool true) ∧ Below w.heap.size w w' := by
  have := under_any ⟨#[51]⟩ (nmB i) w (by decide) (size_nm h) hw
  rw [show (⟨#[51]⟩ : ByteArray).data.toList = [51] from rfl, under_nm h] at this
  exact this
theorem nam_order {k : Nat} (h : k ≤ 999) (w : World) (hw : Laid w) :
    Calls Tryz.prog 21 #[.string (lastB k), .string (nmB k)] w fun e w' => ∃ o : Int, o < 0 ∧ e = .returned (.int .i64 o) ∧ Below w.heap.size w w' :=
  (order_any (lastB k) (nmB k) w (size_last h) (size_nm (by omega)) hw).mono fun e w' ⟨he, hb⟩ => ⟨_, order_nm h, he, hb⟩
theorem slots_none (w : World) (k : Nat) : SlotsAt w k (.slice none 0 0) [] := ⟨fun r hr => by simp at hr, .inl ⟨⟨none, 0, rfl⟩, rfl⟩⟩
theorem slots_box {w : World} {g n cap k : Nat} {cur : Array Value} {l : List (List Value)} {e : TypeId} (hw : Wide k l) (h : w.heap[g]? = some (.cells cur e)) (hn : n = l.length) (hc : n ≤ cap) (ht : cur.toList.take (n * k) = l.flatten) : SlotsAt w k (.slice (some ⟨g, 0, none⟩) n cap) l := by
  refine ⟨hw, .inr ⟨g, 0, cap, by rw [hn], by rw [← hn]; exact hc, (Array.getElem?_eq_some_iff.1 h).1, fun j u hj => ?_⟩⟩
  rw [← ht, List.getElem?_take] at hj
  split at hj
  · simp only [World.cell?, h, Nat.zero_add]
    simpa using hj
  · cases hj
abbrev frL (va : Option Addr) (vc : Nat) : List Value := [.int .i64 0, .int .i64 0, .int .i64 0, .int .u8 1, .slice va 1 vc]
set_option maxRecDepth 100000 in
theorem nam_same (cS cI kS kI : ByteArray) (gf gv fc vc : Nat) (cf cv : Array Value) (h3 : 1 ≤ fc) (h4 : 1 ≤ vc) (k r : Int) (w : World) (hf : w.heap[gf]? = some (.cells cf 104)) (htf : cf.toList.take 5 = frL (some ⟨gv, 0, none⟩) vc) (hv : w.heap[gv]? = some (.cells cv 28)) (htv : cv.toList.take 5 = VZ) :
    Calls Tryz.prog 18 #[.agg (th (nT cS cI kS kI ⟨some ⟨gf, 0, none⟩, 1, fc⟩ k r)), .agg (th (nT cS cI kS kI ⟨some ⟨gf, 0, none⟩, 1, fc⟩ k r))] w fun e w' => e = .returned (.bool true) ∧ Below w.heap.size w w' := by
  have h1 : SlotsAt w 5 (.slice (some ⟨gf, 0, none⟩) 1 fc) (([⟨0, 0, 0, 1, ⟨some ⟨gv, 0, none⟩, 1, vc⟩⟩] : List Fr).map Fr.row) := slots_box (wide_fr _) hf rfl h3 htf
  have h2 : SlotsAt w 5 (.slice (some ⟨gv, 0, none⟩) 1 vc) (([⟨1, 0, ⟨#[]⟩, ⟨#[]⟩, ⟨#[]⟩⟩] : List V5).map V5.row) := slots_box (wide_v5 _) hv rfl h4 htv
  exact sameT_gen (nT cS cI kS kI ⟨some ⟨gf, 0, none⟩, 1, fc⟩ k r) [⟨0, 0, 0, 1, ⟨some ⟨gv, 0, none⟩, 1, vc⟩⟩] [] [] w h1 (slots_none w 5) (slots_none w 3) (fun x hx => by
    obtain rfl := List.mem_singleton.1 hx
    exact ⟨show 1 ≤ 1000000 by decide, _, h2⟩) (show 1 ≤ 1000000 by decide) (Nat.zero_le _) (Nat.zero_le _) (fun W _ => eqS_none none none 0 0 W)
end Go.Proofs.YtnmepcogijgbjaaGreatDoor
/- Names rise, are unlike, below the path, as many as there is room for. The walk, behind the examples. -/
namespace Go.Proofs.YtnmepcogijgbjaaGreatDoor
open Go.RowKit
set_option maxRecDepth 100000 in
set_option maxHeartbeats 8000000 in
theorem names_core (cS cI kS kI : ByteArray) (h1 : Bd cS) (h2 : Bd cI) (h3 : Bd kS) (h4 : Bd kI) (r m : Int) (hr0 : 0 ≤ r) (hr1 : r ≤ 255) (hm0 : 0 ≤ m) (hm1 : m ≤ 255) (w : World) (hw : Laid w) (HEX : ∀ W, Laid W → Calls Tryz.prog 6 #[] W fun e w' => e = .returned (.bool true) ∧ Below W.heap.size W w') :
    Calls Tryz.prog 5 #[.agg #[.string cS, .string cI, .string kS, .string kI], .int .u8 r, .int .u8 m] w fun e w' => e = .returned (.bool true) ∧ Below w.heap.size w w' := by
  obtain ⟨CS, hCS⟩ : ∃ x, x = NB (tk4 cS) := ⟨_, rfl⟩
  obtain ⟨CI, hCI⟩ : ∃ x, x = NB (tk4 cI) := ⟨_, rfl⟩
  have HBEG := Lib.hid (fun W => by have := begun_row cS cI kS kI h1 h2 h3 h4 r hr0 hr1 W; rw [← hCS, ← hCI] at this; exact this)
  have er : IntKind.i64.wrap r = r := IntWalk.i64_in _ ⟨by omega, by omega⟩
  have em : IntKind.i64.wrap m = m := IntWalk.i64_in _ ⟨by omega, by omega⟩
  clear hCS hCI h1 h2 h3 h4
  go_enter Tryz.func5, Tryz.ntmps5
  have hB0 := Below.refl w.heap.size w
  have M0 := Mem.nil w
  have hw0 := hw
  go_wp2_with fail
  refine Calls.named ?_
  intro W1 hW1
  have hB1_ : Below w.heap.size w W1 := by rw [hW1]; exact (below_al hB0 _)
  have hw1_ : Laid W1 := by rw [hW1]; exact (hw.alloc _)
  have M1_ := (M0).new' (w.heap.size) (by rfl) (.cells #[.string cS, .string cI, .string kS, .string kI] 26)
  rw [← hW1] at M1_
  clear hW1
  have ZZ1_0 := Lib.hid (Mem.lt M1_.1)
  refine (HEX _ hw1_).mono ?_
  rintro e w1 ⟨rfl, hb1⟩
  have hB1 := below_then hB1_ hb1
  have hw1 := hw1_.below hb1
  have M1 := M1_.below hb1
  clear M1_ hB1_ hb1 hw1_
  have c1_0_0 := Mem.cell (v := .string cS) M1.1 0 rfl
  have c1_0_1 := Mem.cell (v := .string cI) M1.1 1 rfl
  have c1_0_2 := Mem.cell (v := .string kS) M1.1 2 rfl
  have c1_0_3 := Mem.cell (v := .string kI) M1.1 3 rfl
  have z1_0 := Mem.lt M1.1
  go_wp2_with fail
  refine Calls.named ?_
  intro W2 hW2
  have hB2_ : Below w.heap.size w W2 := by rw [hW2]; exact hB1
  have hw2_ : Laid W2 := by rw [hW2]; exact hw1
  have M2_ := M1
  rw [← hW2] at M2_
  clear hW2
  have ZZ2_0 := Lib.hid (Mem.lt M2_.1)
  clear c1_0_0 c1_0_1 c1_0_2 c1_0_3 z1_0
  refine (HBEG.out _).mono ?_
  rintro e w2 ⟨fo, fc, vo, vc, jS, jI, rfl, hown, hvals, hb2⟩
  have hB2 := below_then hB2_ hb2
  have hw2 := hw2_.below hb2
  have M2 := M2_.below hb2
  clear M2_ hB2_ hb2 hw2_
  have c2_0_0 := Mem.cell (v := .string cS) M2.1 0 rfl
  have c2_0_1 := Mem.cell (v := .string cI) M2.1 1 rfl
  have c2_0_2 := Mem.cell (v := .string kS) M2.1 2 rfl
  have c2_0_3 := Mem.cell (v := .string kI) M2.1 3 rfl
  have z2_0 := Mem.lt M2.1
  obtain ⟨gv, cv, rfl, hgv, hvc, hvc1, hvc2, hvt⟩ := own_box (n := 0) hvals
  obtain ⟨gf, cf, rfl, hgf, hgc, hfc, hfc2, hft⟩ := own_box (n := 0) hown
  have HFT : Hid (cf.toList.take 5 = frL (ptA gv) vc) := Lib.hid hft
  have HVT : Hid (cv.toList.take 5 = VZ) := Lib.hid hvt
  have HC1 := Lib.hid (And.intro hfc hvc1)
  clear hown hft hvals hvt
  have ogf : w.heap.size < gf := by have := ZZ2_0.out; omega
  have ogv : w.heap.size < gv := by have := ZZ2_0.out; omega
  replace M2 : Mem w2 [(w.heap.size, .cells #[.string cS, .string cI, .string kS, .string kI] 26), (gf, .cells cf 104)] := ⟨M2.1, hgc, trivial⟩
  replace M2 : Mem w2 [(w.heap.size, .cells #[.string cS, .string cI, .string kS, .string kI] 26), (gf, .cells cf 104), (gv, .cells cv 28)] := ⟨M2.1, M2.2.1, hvc, trivial⟩
  simp only
  iterate 4 go_step
  have oo2_0 : w.heap.size < w2.heap.size := Mem.lt M2.1
  have oo2_1 : gf < w2.heap.size := Mem.lt M2.2.1
  have oo2_2 : gv < w2.heap.size := Mem.lt M2.2.2.1
  refine wpl_named ?_
  intro w3 hW3
  have hB3 : Below w.heap.size w w3 := by rw [hW3]; exact (below_al hB2 _)
  have hw3 : Laid w3 := by rw [hW3]; exact (hw2.alloc _)
  have M3 : Mem w3 [(w2.heap.size, .cells (th (th0)) 39), (w.heap.size, .cells #[.string cS, .string cI, .string kS, .string kI] 26), (gf, .cells cf 104), (gv, .cells cv 28)] := by rw [hW3]; exact (M2).new' (w2.heap.size) (by rfl) (.cells (th (th0)) 39)
  clear c2_0_0 c2_0_1 c2_0_2 c2_0_3 z2_0
  clear hW3
  have z3_0 := Mem.lt M3.1
  have c3_1_0 := Mem.cell (v := .string cS) M3.2.1 0 rfl
  have c3_1_1 := Mem.cell (v := .string cI) M3.2.1 1 rfl
  have c3_1_2 := Mem.cell (v := .string kS) M3.2.1 2 rfl
  have c3_1_3 := Mem.cell (v := .string kI) M3.2.1 3 rfl
  have z3_1 := Mem.lt M3.2.1
  have z3_2 := Mem.lt M3.2.2.1
  have z3_3 := Mem.lt M3.2.2.2.1
  refine store_th rfl _ _ rfl (w2.heap.size) rfl (th0) ((nT CS CI jS jI ⟨ptA gf, 1, fc⟩ 0 r)) rfl M3.1 (one_th _) ?_
  intro w4 hW4
  have hB4 : Below w.heap.size w w4 := by rw [hW4]; exact below_setCells (B := w.heap.size) hB3 (b := w2.heap.size) (by have := hB3.size; omega) 0 _
  have hw4 : Laid w4 := hw0.below hB4
  have M4 : Mem w4 [(w2.heap.size, .cells (th ((nT CS CI jS jI ⟨ptA gf, 1, fc⟩ 0 r))) 39), (w.heap.size, .cells #[.string cS, .string cI, .string kS, .string kI] 26), (gf, .cells cf 104), (gv, .cells cv 28)] := by rw [hW4]; exact ⟨set_th M3.1 _, (setCells_other _ 0 _ _ (by omega)).trans M3.2.1, (setCells_other _ 0 _ _ (by omega)).trans M3.2.2.1, (setCells_other _ 0 _ _ (by omega)).trans M3.2.2.2.1, trivial⟩
  clear z3_0 c3_1_0 c3_1_1 c3_1_2 c3_1_3 z3_1 z3_2 z3_3
  clear hW4
  have z4_0 := Mem.lt M4.1
  have c4_1_0 := Mem.cell (v := .string cS) M4.2.1 0 rfl
  have c4_1_1 := Mem.cell (v := .string cI) M4.2.1 1 rfl
  have c4_1_2 := Mem.cell (v := .string kS) M4.2.1 2 rfl
  have c4_1_3 := Mem.cell (v := .string kI) M4.2.1 3 rfl
  have z4_1 := Mem.lt M4.2.1
  have z4_2 := Mem.lt M4.2.2.1
  have z4_3 := Mem.lt M4.2.2.2.1
  replace M4 : Mem w4 [(w2.heap.size, .cells (th ((nT CS CI jS jI ⟨ptA gf, 1, fc⟩ 0 r))) 39), (gf, .cells cf 104), (gv, .cells cv 28)] := ⟨M4.1, M4.2.2.1, M4.2.2.2.1, trivial⟩
  clear z4_0 c4_1_0 c4_1_1 c4_1_2 c4_1_3 z4_1 z4_2 z4_3
  have z4_0 := Mem.lt M4.1
  have z4_1 := Mem.lt M4.2.1
  have z4_2 := Mem.lt M4.2.2.1
  go_wp2_with fail
  have HBX := Lib.hid hB4
  have HMX := Lib.hid M4
  have ogt : gf < w2.heap.size := by omega
  have ogt2 : gv < w2.heap.size := by omega
  go_loopw [9, 10] (fun s i wr => ∃ k : Nat, (k : Int) ≤ m ∧ (k : Int) ≤ r ∧ s = .string (lastB k) ∧ i = .int .i64 k ∧ Below w.heap.size w wr ∧ Mem wr [(w2.heap.size, .cells (th (nT CS CI jS jI ⟨ptA gf, 1, fc⟩ k (r - k))) 39), (gf, .cells cf 104), (gv, .cells cv 28)]) (fun _ i _ => m.toNat - (intOf i).toNat)
  case atStart =>
    refine ⟨0, by omega, by omega, rfl, rfl, HBX.out, ?_⟩
    have e : r - ((0 : Nat) : Int) = r := by omega
    rw [e]
    exact HMX.out
  case round =>
    obtain ⟨k, hkm, hkr, rfl, rfl, hB, hM⟩ := hrel
    clear HBX HMX
    obtain ⟨rk, hrk⟩ : ∃ x, x = r - (k : Int) := ⟨_, rfl⟩
    rw [← hrk] at hM
    have HRK := Lib.hid hrk
    clear hrk
    by_cases hlt : (k : Int) < m
    · obtain ⟨w20, rfl⟩ : ∃ x, x = wr := ⟨_, rfl⟩
      have hB20 := hB
      have hw20 := hw.below hB
      have M20 := hM
      clear hB hM
      have z20_0 := Mem.lt M20.1
      have z20_1 := Mem.lt M20.2.1
      have z20_2 := Mem.lt M20.2.2.1
      by_cases hkr2 : (k : Int) < r
      · skip
        go_upto_region 9 with (fail)
        refine wp_region_lit ?_
        refine load_th rfl _ rfl (w2.heap.size) rfl ((nT CS CI jS jI ⟨ptA gf, 1, fc⟩ k rk)) M20.1 ?_
        go_wp2_with fail
        refine Calls.named ?_
        intro W21 hW21
        have hB21_ : Below w.heap.size w W21 := by rw [hW21]; exact hB20
        have hw21_ : Laid W21 := by rw [hW21]; exact hw20
        have M21_ := M20
        rw [← hW21] at M21_
        clear hW21
        have ZZ21_0 := Lib.hid (Mem.lt M21_.1)
        have ZZ21_1 := Lib.hid (Mem.lt M21_.2.1)
        have ZZ21_2 := Lib.hid (Mem.lt M21_.2.2.1)
        clear z20_0 z20_1 z20_2
        refine (nam_yes CS CI jS jI ⟨ptA gf, 1, fc⟩ k rk (by have := HRK.out; omega) (by have := HRK.out; omega) (by omega) (by omega) _ hw21_).mono ?_
        rintro e w21 ⟨rfl, hb21⟩
        have hB21 := below_then hB21_ hb21
        have hw21 := hw21_.below hb21
        have M21 := M21_.below hb21
        clear M21_ hB21_ hb21 hw21_
        have z21_0 := Mem.lt M21.1
        have z21_1 := Mem.lt M21.2.1
        have z21_2 := Mem.lt M21.2.2.1
        simp only
        iterate 16 go_step
        have oo21_0 : w2.heap.size < w21.heap.size := Mem.lt M21.1
        have oo21_1 : gf < w21.heap.size := Mem.lt M21.2.1
        have oo21_2 : gv < w21.heap.size := Mem.lt M21.2.2.1
        refine wpl_named ?_
        intro w22 hW22
        have hB22 : Below w.heap.size w w22 := by rw [hW22]; exact (below_al hB21 _)
        have hw22 : Laid w22 := by rw [hW22]; exact (hw21.alloc _)
        have M22 : Mem w22 [(w21.heap.size, .cells (th (th0)) 39), (w2.heap.size, .cells (th ((nT CS CI jS jI ⟨ptA gf, 1, fc⟩ k rk))) 39), (gf, .cells cf 104), (gv, .cells cv 28)] := by rw [hW22]; exact (M21).new' (w21.heap.size) (by rfl) (.cells (th (th0)) 39)
        clear z21_0 z21_1 z21_2
        clear hW22
        have z22_0 := Mem.lt M22.1
        have z22_1 := Mem.lt M22.2.1
        have z22_2 := Mem.lt M22.2.2.1
        have z22_3 := Mem.lt M22.2.2.2.1
        refine store_th rfl _ _ rfl (w21.heap.size) rfl (th0) ((nT CS CI jS jI ⟨ptA gf, 1, fc⟩ (k + 1) (rk - 1))) rfl M22.1 (one_th _) ?_
        intro w23 hW23
        have hB23 : Below w.heap.size w w23 := by rw [hW23]; exact below_setCells (B := w.heap.size) hB22 (b := w21.heap.size) (by have := hB22.size; omega) 0 _
        have hw23 : Laid w23 := hw0.below hB23
        have M23 : Mem w23 [(w21.heap.size, .cells (th ((nT CS CI jS jI ⟨ptA gf, 1, fc⟩ (k + 1) (rk - 1)))) 39), (w2.heap.size, .cells (th ((nT CS CI jS jI ⟨ptA gf, 1, fc⟩ k rk))) 39), (gf, .cells cf 104), (gv, .cells cv 28)] := by rw [hW23]; exact ⟨set_th M22.1 _, (setCells_other _ 0 _ _ (by omega)).trans M22.2.1, (setCells_other _ 0 _ _ (by omega)).trans M22.2.2.1, (setCells_other _ 0 _ _ (by omega)).trans M22.2.2.2.1, trivial⟩
        clear z22_0 z22_1 z22_2 z22_3
        clear hW23
        have z23_0 := Mem.lt M23.1
        have z23_1 := Mem.lt M23.2.1
        have z23_2 := Mem.lt M23.2.2.1
        have z23_3 := Mem.lt M23.2.2.2.1
        go_wp2_with fail
        refine Calls.named ?_
        intro W24 hW24
        have hB24_ : Below w.heap.size w W24 := by rw [hW24]; exact hB23
        have hw24_ : Laid W24 := by rw [hW24]; exact hw23
        have M24_ := M23
        rw [← hW24] at M24_
        clear hW24
        have ZZ24_0 := Lib.hid (Mem.lt M24_.1)
        have ZZ24_1 := Lib.hid (Mem.lt M24_.2.1)
        have ZZ24_2 := Lib.hid (Mem.lt M24_.2.2.1)
        have ZZ24_3 := Lib.hid (Mem.lt M24_.2.2.2.1)
        clear z23_0 z23_1 z23_2 z23_3
        refine (nam_under (i := k) ⟨by omega, by omega⟩ _ hw24_).mono ?_
        rintro e w24 ⟨rfl, hb24⟩
        have hB24 := below_then hB24_ hb24
        have hw24 := hw24_.below hb24
        have M24 := M24_.below hb24
        clear M24_ hB24_ hb24 hw24_
        have z24_0 := Mem.lt M24.1
        have z24_1 := Mem.lt M24.2.1
        have z24_2 := Mem.lt M24.2.2.1
        have z24_3 := Mem.lt M24.2.2.2.1
        go_wp2_with fail
        refine Calls.named ?_
        intro W25 hW25
        have hB25_ : Below w.heap.size w W25 := by rw [hW25]; exact hB24
        have hw25_ : Laid W25 := by rw [hW25]; exact hw24
        have M25_ := M24
        rw [← hW25] at M25_
        clear hW25
        have ZZ25_0 := Lib.hid (Mem.lt M25_.1)
        have ZZ25_1 := Lib.hid (Mem.lt M25_.2.1)
        have ZZ25_2 := Lib.hid (Mem.lt M25_.2.2.1)
        have ZZ25_3 := Lib.hid (Mem.lt M25_.2.2.2.1)
        clear z24_0 z24_1 z24_2 z24_3
        refine (nam_order (k := k) (by omega) _ hw25_).mono ?_
        rintro e w25 ⟨o, ho, rfl, hb25⟩
        have hB25 := below_then hB25_ hb25
        have hw25 := hw25_.below hb25
        have M25 := M25_.below hb25
        clear M25_ hB25_ hb25 hw25_
        have z25_0 := Mem.lt M25.1
        have z25_1 := Mem.lt M25.2.1
        have z25_2 := Mem.lt M25.2.2.1
        have z25_3 := Mem.lt M25.2.2.2.1
        have ho2 : ¬ (0 ≤ o) := by omega
        have e1 : IntKind.i64.wrap (rk - 1) = rk - 1 := IntWalk.i64_in _ ⟨by have := HRK.out; omega, by have := HRK.out; omega⟩
        have e2 : IntKind.i64.wrap ((k : Int) + 1) = (k : Int) + 1 := IntWalk.i64_in _ ⟨by omega, by omega⟩
        have d0 := Mem.cell (v := .int .i64 ((k : Int) + 1)) M25.1 10 rfl
        have d1 := Mem.cell (v := .int .i64 (rk - 1)) M25.1 11 rfl
        have d2 := Mem.cell (v := .int .i64 (k : Int)) M25.2.1 10 rfl
        have d3 := Mem.cell (v := .int .i64 rk) M25.2.1 11 rfl
        go_upto_region 17 with (fail)
        refine wp_region_lit ?_
        refine load_th rfl _ rfl (w21.heap.size) rfl ((nT CS CI jS jI ⟨ptA gf, 1, fc⟩ (k + 1) (rk - 1))) M25.1 ?_
        refine store_th rfl _ _ rfl (w2.heap.size) rfl ((nT CS CI jS jI ⟨ptA gf, 1, fc⟩ k rk)) ((nT CS CI jS jI ⟨ptA gf, 1, fc⟩ (k + 1) (rk - 1))) rfl M25.2.1 (one_th _) ?_
        intro w26 hW26
        have hB26 : Below w.heap.size w w26 := by rw [hW26]; exact below_setCells (B := w.heap.size) hB25 (b := w2.heap.size) (by have := hB25.size; omega) 0 _
        have hw26 : Laid w26 := hw0.below hB26
        have M26 : Mem w26 [(w21.heap.size, .cells (th ((nT CS CI jS jI ⟨ptA gf, 1, fc⟩ (k + 1) (rk - 1)))) 39), (w2.heap.size, .cells (th ((nT CS CI jS jI ⟨ptA gf, 1, fc⟩ (k + 1) (rk - 1)))) 39), (gf, .cells cf 104), (gv, .cells cv 28)] := by rw [hW26]; exact ⟨(setCells_other _ 0 _ _ (by omega)).trans M25.1, set_th M25.2.1 _, (setCells_other _ 0 _ _ (by omega)).trans M25.2.2.1, (setCells_other _ 0 _ _ (by omega)).trans M25.2.2.2.1, trivial⟩
        clear z25_0 z25_1 z25_2 z25_3
        clear hW26
        have z26_0 := Mem.lt M26.1
        have z26_1 := Mem.lt M26.2.1
        have z26_2 := Mem.lt M26.2.2.1
        have z26_3 := Mem.lt M26.2.2.2.1
        go_wp2_with fail
        go_roundw
        case rel =>
          refine ⟨k + 1, by omega, by omega, rfl, by go_num, hB26, ?_⟩
          have e : r - ((k + 1 : Nat) : Int) = rk - 1 := by have := HRK.out; omega
          rw [e]
          exact ⟨M26.2.1, M26.2.2.1, M26.2.2.2.1, trivial⟩
        case measure => simp [intOf]; omega
      · skip
        go_upto_region 9 with (fail)
        refine wp_region_lit ?_
        refine load_th rfl _ rfl (w2.heap.size) rfl ((nT CS CI jS jI ⟨ptA gf, 1, fc⟩ k rk)) M20.1 ?_
        go_wp2_with fail
        refine Calls.named ?_
        intro W21 hW21
        have hB21_ : Below w.heap.size w W21 := by rw [hW21]; exact hB20
        have hw21_ : Laid W21 := by rw [hW21]; exact hw20
        have M21_ := M20
        rw [← hW21] at M21_
        clear hW21
        have ZZ21_0 := Lib.hid (Mem.lt M21_.1)
        have ZZ21_1 := Lib.hid (Mem.lt M21_.2.1)
        have ZZ21_2 := Lib.hid (Mem.lt M21_.2.2.1)
        clear z20_0 z20_1 z20_2
        refine (nam_no CS CI jS jI ⟨ptA gf, 1, fc⟩ k rk (by have := HRK.out; omega) _).mono ?_
        rintro e w21 ⟨rfl, hb21⟩
        have hB21 := below_then hB21_ hb21
        have hw21 := hw21_.below hb21
        have M21 := M21_.below hb21
        clear M21_ hB21_ hb21 hw21_
        have z21_0 := Mem.lt M21.1
        have z21_1 := Mem.lt M21.2.1
        have z21_2 := Mem.lt M21.2.2.1
        simp only
        iterate 16 go_step
        have oo21_0 : w2.heap.size < w21.heap.size := Mem.lt M21.1
        have oo21_1 : gf < w21.heap.size := Mem.lt M21.2.1
        have oo21_2 : gv < w21.heap.size := Mem.lt M21.2.2.1
        refine wpl_named ?_
        intro w22 hW22
        have hB22 : Below w.heap.size w w22 := by rw [hW22]; exact (below_al hB21 _)
        have hw22 : Laid w22 := by rw [hW22]; exact (hw21.alloc _)
        have M22 : Mem w22 [(w21.heap.size, .cells (th (th0)) 39), (w2.heap.size, .cells (th ((nT CS CI jS jI ⟨ptA gf, 1, fc⟩ k rk))) 39), (gf, .cells cf 104), (gv, .cells cv 28)] := by rw [hW22]; exact (M21).new' (w21.heap.size) (by rfl) (.cells (th (th0)) 39)
        clear z21_0 z21_1 z21_2
        clear hW22
        have z22_0 := Mem.lt M22.1
        have z22_1 := Mem.lt M22.2.1
        have z22_2 := Mem.lt M22.2.2.1
        have z22_3 := Mem.lt M22.2.2.2.1
        refine store_th rfl _ _ rfl (w21.heap.size) rfl (th0) ((nT CS CI jS jI ⟨ptA gf, 1, fc⟩ k rk)) rfl M22.1 (one_th _) ?_
        intro w23 hW23
        have hB23 : Below w.heap.size w w23 := by rw [hW23]; exact below_setCells (B := w.heap.size) hB22 (b := w21.heap.size) (by have := hB22.size; omega) 0 _
        have hw23 : Laid w23 := hw0.below hB23
        have M23 : Mem w23 [(w21.heap.size, .cells (th ((nT CS CI jS jI ⟨ptA gf, 1, fc⟩ k rk))) 39), (w2.heap.size, .cells (th ((nT CS CI jS jI ⟨ptA gf, 1, fc⟩ k rk))) 39), (gf, .cells cf 104), (gv, .cells cv 28)] := by rw [hW23]; exact ⟨set_th M22.1 _, (setCells_other _ 0 _ _ (by omega)).trans M22.2.1, (setCells_other _ 0 _ _ (by omega)).trans M22.2.2.1, (setCells_other _ 0 _ _ (by omega)).trans M22.2.2.2.1, trivial⟩
        clear z22_0 z22_1 z22_2 z22_3
        clear hW23
        have z23_0 := Mem.lt M23.1
        have z23_1 := Mem.lt M23.2.1
        have z23_2 := Mem.lt M23.2.2.1
        have z23_3 := Mem.lt M23.2.2.2.1
        go_upto_region 13 with (fail)
        refine wp_region_lit ?_
        iterate 6 go_step
        refine load_th_w rfl _ rfl (w2.heap.size) rfl (((nT CS CI jS jI ⟨ptA gf, 1, fc⟩ k rk))) M23.2.1 ?_
        refine load_th_w rfl _ rfl (w21.heap.size) rfl (((nT CS CI jS jI ⟨ptA gf, 1, fc⟩ k rk))) M23.1 ?_
        go_wp2_with fail
        refine Calls.named ?_
        intro W24 hW24
        have hB24_ : Below w.heap.size w W24 := by rw [hW24]; exact hB23
        have hw24_ : Laid W24 := by rw [hW24]; exact hw23
        have M24_ := M23
        rw [← hW24] at M24_
        clear hW24
        have ZZ24_0 := Lib.hid (Mem.lt M24_.1)
        have ZZ24_1 := Lib.hid (Mem.lt M24_.2.1)
        have ZZ24_2 := Lib.hid (Mem.lt M24_.2.2.1)
        have ZZ24_3 := Lib.hid (Mem.lt M24_.2.2.2.1)
        clear z23_0 z23_1 z23_2 z23_3
        refine (nam_same CS CI jS jI gf gv fc vc cf cv HC1.out.1 HC1.out.2 k rk _ M24_.2.2.1 HFT.out M24_.2.2.2.1 HVT.out).mono ?_
        rintro e w24 ⟨rfl, hb24⟩
        have hB24 := below_then hB24_ hb24
        have hw24 := hw24_.below hb24
        have M24 := M24_.below hb24
        clear M24_ hB24_ hb24 hw24_
        have z24_0 := Mem.lt M24.1
        have z24_1 := Mem.lt M24.2.1
        have z24_2 := Mem.lt M24.2.2.1
        have z24_3 := Mem.lt M24.2.2.2.1
        go_wp2_with fail
        go_ret
        exact ⟨rfl, hB24⟩
    · skip
      have hB30 := hB
      go_wp2_with fail
      go_ret
      exact ⟨rfl, hB30⟩
end Go.Proofs.YtnmepcogijgbjaaGreatDoor
