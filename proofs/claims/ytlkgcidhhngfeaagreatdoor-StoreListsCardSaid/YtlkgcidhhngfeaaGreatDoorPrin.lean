/- prin.In, prin.holdsOneOf, prin.Least: walked. -/
import Derived.Test.YtlkgcidhhngfeaaGreatDoorZ1
import Derived.Test.YtlkgcidhhngfeaaGreatDoorProg
namespace Go.Proofs.YtlkgcidhhngfeaaGreatDoor
open Go.RowKit
theorem inS_bits (a b : UInt8) : (bits .andNot .u8 (a.toNat : Int) (b.toNat : Int) == 0) = inS a b := by
  rw [u8_andNot_nat _ _ a.toNat_lt b.toNat_lt]
  unfold inS
  have h : (a &&& ~~~b).toNat = a.toNat &&& (255 - b.toNat) := by
    rw [UInt8.toNat_and, UInt8.toNat_not]
    rfl
  rw [Bool.eq_iff_iff, beq_iff_eq, beq_iff_eq, ← UInt8.toNat_inj, h]
  simp
theorem pin_any (a b : UInt8) (w : World) :
    Calls Tryz.prog 105 #[.int .u8 a.toNat, .int .u8 b.toNat] w fun e w' => e = .returned (.bool (inS a b)) ∧ w = w' := by
  rw [← inS_bits]
  obtain ⟨x, hx⟩ : ∃ x : Int, x = a.toNat := ⟨_, rfl⟩
  obtain ⟨y, hy⟩ : ∃ y : Int, y = b.toNat := ⟨_, rfl⟩
  rw [← hx, ← hy]
  clear hx hy
  go_enter Tryz.func105, Tryz.ntmps105
  go_wp2
  go_ret
  exact ⟨rfl, rfl⟩
/-- a slice of bytes, nil or not, that reads so -/
def UAt (w : World) (v : Value) (l : List UInt8) : Prop :=
  (∃ ao cap, v = .slice ao 0 cap ∧ l = []) ∨ ∃ b off cap, v = .slice (some ⟨b, off, none⟩) l.length cap ∧ l.length ≤ cap ∧ cap ≤ maxLen ∧ ∀ j, j < l.length → w.cell? ⟨b, off + j, none⟩ = some (.int .u8 (l.getD j 0).toNat)
theorem UAt.of_row {w : World} {B : Nat} {v : Value} {l : List UInt8} (h : w.ownsRow B 5 1 v l.length (Lib.byteCells l)) {n : Nat} (_ : l.length ≤ n) : UAt w v l := by
  rcases h.2 with ⟨hv, h0⟩ | ⟨g, cap, cur, hv, _, hg, h1, h2, _, h4⟩
  · exact Or.inl ⟨_, _, hv, List.length_eq_zero_iff.1 h0⟩
  · refine Or.inr ⟨g, 0, cap, hv, h1, h2, fun j hj => ?_⟩
    rw [Nat.mul_one] at h4
    unfold World.cell?
    rw [hg, Nat.zero_add]
    show cur[j]? = _
    have h5 : (cur.toList.take l.length)[j]? = cur[j]? := by
      rw [List.getElem?_take_of_lt hj]
      simp
    rw [← h5, h4]
    unfold Lib.byteCells
    rw [List.getElem?_map, List.getElem?_eq_getElem hj]
    simp [hj]
theorem ownsRow_slice8 {W : World} {B : Nat} {e : TypeId} {v : Value} {n : Nat} {xs : List Value} (h : W.ownsRow B e 1 v n xs) : ∃ ao cap, v = .slice ao n cap := by
  rcases h.2 with ⟨hv, h0⟩ | ⟨g, cap, cur, hv, _⟩
  · exact ⟨none, 0, by rw [hv, h0]⟩
  · exact ⟨_, _, hv⟩
theorem getD_lt {l : List UInt8} {k : Nat} (h : k < l.length) : l.getD k 0 = l[k] := by simp [h]
set_option maxHeartbeats 1000000 in
theorem holds_nil (s : UInt8) (ao : Option Addr) (cap : Nat) (w : World) :
    Calls Tryz.prog 80 #[.int .u8 s.toNat, .slice ao 0 cap] w fun e w' => e = .returned (.bool false) ∧ w = w' := by
  go_enter Tryz.func80, Tryz.ntmps80
  go_wp2_with fail
  refine wp_loop_rounds 1 ?_
  rw [rounds_succ]
  go_wp2_with fail
  go_ret
  exact ⟨rfl, rfl⟩
set_option maxHeartbeats 1000000 in
theorem holds_any (s : UInt8) (v : Value) (l : List UInt8) (w : World) (h : UAt w v l) :
    Calls Tryz.prog 80 #[.int .u8 s.toNat, v] w fun e w' => e = .returned (.bool (l.any fun x => inS x s)) ∧ w = w' := by
  rcases h with ⟨ao, cap, rfl, rfl⟩ | ⟨b, off, cap, rfl, hle, hcap, hc⟩
  · exact holds_nil s ao cap w
  · obtain ⟨Lc, hLc⟩ : ∃ Lc : Nat, Lc = l.length := ⟨_, rfl⟩
    have HR : ∀ B, (l.any fun x => inS x s) = B → Hid (Ending.returned (.bool B) = Ending.returned (.bool (l.any fun x => inS x s))) := fun B h => Lib.hid (by rw [h])
    generalize hA : Ending.returned (.bool (l.any fun x => inS x s)) = A at HR
    clear hA
    have HC := Lib.hid hc
    rw [← hLc] at hle ⊢
    have HL := Lib.hid hLc
    unfold maxLen at hcap
    clear hc hLc
    go_enter Tryz.func80, Tryz.ntmps80
    go_wp2_with fail
    go_loopw [6, 9] (fun _ i wr => wr = w ∧ ∃ k : Nat, k ≤ Lc ∧ i = .int .i64 k ∧ ∀ j, j < k → inS (l.getD j 0) s = false) (fun _ i _ => Lc - (intOf i).toNat)
    case atStart => exact ⟨rfl, 0, by omega, rfl, fun j hj => by omega⟩
    case round =>
      obtain ⟨rfl, k, hk, rfl, hn⟩ := hrel
      have HN := Lib.hid hn
      clear hn
      have cw : k < Lc → wr.cell? ⟨b, off + k, none⟩ = some (.int .u8 (l.getD k 0).toNat) := fun h => HC.out k (by rw [← HL.out]; exact h)
      by_cases hlt : k < Lc
      · have c0 := cw hlt
        obtain ⟨x, hx⟩ : ∃ x, x = l.getD k 0 := ⟨_, rfl⟩
        rw [← hx] at c0
        have HX := Lib.hid hx
        have hltI : (k : Int) < Lc := by omega
        clear hx cw
        cases hi : inS x s with
        | true =>
          have HB := HR true (by rw [List.any_eq_true]; exact ⟨x, by rw [HX.out, getD_lt (by rw [← HL.out]; exact hlt)]; exact List.getElem_mem _, hi⟩)
          clear HR HC HL HN
          go_wp2_with fail
          refine (pin_any _ _ _).mono ?_
          rw [hi]
          rintro e _ ⟨rfl, rfl⟩
          go_wp2_with fail
          go_ret
          exact ⟨HB.out, rfl⟩
        | false =>
          have HN2 : Hid (∀ j, j < k + 1 → inS (l.getD j 0) s = false) := Lib.hid (fun j hj => by
            by_cases hjk : j < k
            · exact HN.out j hjk
            · obtain rfl : j = k := by omega
              rw [← HX.out]; exact hi)
          clear HC HN HX HR
          go_wp2_with fail
          refine (pin_any _ _ _).mono ?_
          rw [hi]
          rintro e _ ⟨rfl, rfl⟩
          go_wp2_with fail
          go_roundw
          case rel => exact ⟨trivial, k + 1, by omega, by go_num, HN2.out⟩
          case measure => simp [intOf]; omega
      · obtain rfl : k = Lc := by omega
        have HB := HR false (by
          rw [List.any_eq_false]
          intro y hy
          obtain ⟨j, hj, rfl⟩ := List.getElem_of_mem hy
          have := HN.out j (by rw [HL.out]; exact hj)
          rw [getD_lt hj] at this
          rw [this]; decide)
        clear HR HC HL HN cw hlt
        go_wp2_with fail
        go_ret
        exact ⟨HB.out, rfl⟩
theorem holds_k {k : Nat} (hk : k < 256) (v : Value) (l : List UInt8) (w : World) (h : UAt w v l) :
    Calls Tryz.prog 80 #[.int .u8 k, v] w fun e w' => e = .returned (.bool (l.any fun x => inS x (UInt8.ofNat k))) ∧ w = w' := by
  have := holds_any (UInt8.ofNat k) v l w h
  rwa [ofNat_toNat8 k hk] at this
theorem u8Info : (Tryz.prog.info? 5).map (fun i => (i.zero, i.size, i.bytes)) = some (some (.int .u8 0), 1, 1) := by kernel_rfl
theorem conv_row {W : World} {B : Nat} {v : Value} {l : List UInt8} (h : W.ownsRow B 5 1 v l.length (Lib.byteCells l)) : (convert 108 9 v).run Tryz.prog W = .ok (.string ⟨l.toArray⟩) W := by
  rcases h.2 with ⟨hv, h0⟩ | ⟨g, cap, cur, hv, _, hg, h1, h2, _, h4⟩
  · obtain rfl := List.length_eq_zero_iff.1 h0
    rw [hv, run_convert_bytes_nil W 108 5 Tryz.underlying108 Tryz.underlying5 _ _ 9 Tryz.underlying9]
    rfl
  · rw [hv]
    refine run_convert_bytes_back W 108 9 5 ⟨g, 0, none⟩ cap l Tryz.underlying108 Tryz.underlying5 Tryz.underlying9 (fun j hj => ?_)
    rw [Nat.mul_one] at h4
    have hadd : (⟨g, 0, none⟩ : Addr).add j = ⟨g, j, none⟩ := by unfold Addr.add; simp; omega
    rw [hadd]
    unfold World.cell?
    rw [hg]
    show cur[j]? = _
    have h5 : (cur.toList.take l.length)[j]? = cur[j]? := by
      rw [List.getElem?_take_of_lt hj]
      simp
    rw [← h5, h4]
    unfold Lib.byteCells
    rw [List.getElem?_map, List.getElem?_eq_getElem hj]
    simp
/-! Least -/
def hereA (m : List UInt8) : Array Value := ((List.range 256).map fun i => Value.bool (m.contains (UInt8.ofNat i))).toArray
theorem hereA_size (m : List UInt8) : (hereA m).size = 256 := by simp [hereA]
theorem hereA_at (m : List UInt8) {i : Nat} (h : i < 256) : (hereA m)[i]? = some (.bool (m.contains (UInt8.ofNat i))) := by simp [hereA, h]
theorem hereA_set (m : List UInt8) (c : UInt8) : (hereA m).setIfInBounds c.toNat (.bool true) = hereA (m ++ [c]) := by
  apply Array.ext_getElem?
  intro i
  have hc := c.toNat_lt
  rw [Array.getElem?_setIfInBounds, hereA_size]
  by_cases hi : c.toNat = i
  · subst hi
    rw [if_pos rfl, if_pos hc, hereA_at _ hc]
    simp
  · rw [if_neg hi]
    by_cases h : i < 256
    · rw [hereA_at _ h, hereA_at _ h]
      have : (UInt8.ofNat i == c) = false := by
        rw [beq_eq_false_iff_ne]
        intro e
        apply hi
        rw [← e, UInt8.toNat_ofNat']
        omega
      have h2 : ¬ UInt8.ofNat i = c := by simpa using this
      simp [h2]
    · rw [Array.getElem?_eq_none (by rw [hereA_size]; omega), Array.getElem?_eq_none (by rw [hereA_size]; omega)]
theorem zeroHere : Tryz.zeroCells125 = hereA [] := by kernel_rfl
theorem index_str {t : TypeId} (ht : Tryz.prog.underlying t = some .string) (s : ByteArray) {L : List UInt8} (hL : L = s.data.toList) (k : Nat) (hk : k < s.size) (W : World) :
    (Instr.index t (.string s) (.int .i64 k)).run Tryz.prog W = .ok (.int .u8 ((L.getD k 0).toNat : Int)) W := by
  rw [run_index_string W t s .i64 k ht, dif_pos ⟨by omega, by omega⟩]
  subst hL
  have hk2 : k < s.data.toList.length := by rw [Array.length_toList]; exact hk
  rw [getD_lt hk2]
  rfl
theorem index_here {m : List UInt8} {k : Nat} (hk : k < 256) (W : World) :
    (Instr.index 125 (.agg (hereA m)) (.int .i64 k)).run Tryz.prog W = .ok (.bool (m.contains (UInt8.ofNat k))) W := by
  have h1 := hereA_at m hk
  have h2 : 0 ≤ (k : Int) ∧ (k : Int) < 256 := by omega
  have h3 : (part 4 (hereA m) k).run Tryz.prog W = .ok (.bool (m.contains (UInt8.ofNat k))) W := by
    simp [part, isAgg, run_underlying Tryz.underlying4, h1]
  unfold Instr.index
  simp [run_underlying Tryz.underlying125, asIntOf, h3]
  intro h
  omega
theorem hereInfo (m : List UInt8) : (Tryz.prog.info? 125).map (·.size) = some (hereA m).size := by rw [hereA_size]; kernel_rfl
set_option maxRecDepth 100000 in
set_option maxHeartbeats 1000000 in
theorem least_any (s : ByteArray) (w : World) (hs : s.size ≤ 140737488351232) :
    Calls Tryz.prog 66 #[.string s] w fun e w' => e = .returned (.string ⟨(leastL s.data.toList).toArray⟩) ∧ Below w.heap.size w w' := by
  obtain ⟨L, hL⟩ : ∃ L, L = s.data.toList := ⟨_, rfl⟩
  have hLs : L.length = s.size := by rw [hL]; exact Array.length_toList
  rw [← hL]
  obtain ⟨A, hA⟩ : ∃ A, A = Ending.returned (.string ⟨(leastL L).toArray⟩) := ⟨_, rfl⟩
  rw [← hA]
  have HA := Lib.hid hA
  have HL := Lib.hid hL
  have HLs := Lib.hid hLs
  clear hL hLs hA
  obtain ⟨i0, hi, hz0, hz1, hz2⟩ := info_parts u8Info
  go_enter Tryz.func66, Tryz.ntmps66
  go_upto_region 2 with (fail)
  rw [zeroHere]
  go_wp2_with fail
  go_loopw [4, 10] (fun _ i wr => ∃ k : Nat, k ≤ s.size ∧ i = .int .i64 k ∧ wr = w.alloc (.cells (hereA (L.take k)) 125)) (fun _ i _ => s.size - (intOf i).toNat)
  case atStart => exact ⟨0, by omega, rfl, rfl⟩
  case round =>
    obtain ⟨k, hk, rfl, hwr⟩ := hrel
    by_cases hlt : k < s.size
    · have hltI : (k : Int) < s.size := by omega
      obtain ⟨c, hc⟩ : ∃ c, c = L.getD k 0 := ⟨_, rfl⟩
      have hix := index_str Tryz.underlying9 s HL.out k hlt
      rw [← hc] at hix
      obtain ⟨C, hC⟩ : ∃ C : Nat, C = c.toNat := ⟨_, rfl⟩
      have hC2 : C < 256 := by rw [hC]; exact c.toNat_lt
      rw [← hC] at hix
      have hC3 : (C : Int) < 256 := by omega
      have HC := Lib.hid hC
      have Hc := Lib.hid hc
      clear hc hC
      have hh := hereA_at (L.take k) hC2
      have hset : Hid ((hereA (L.take k)).setIfInBounds C (.bool true) = hereA (L.take (k + 1))) := Lib.hid (by
        rw [HC.out, hereA_set, List.take_succ_eq_append_getElem (by rw [HLs.out]; exact hlt), Hc.out, getD_lt (by rw [HLs.out]; exact hlt)])
      subst hwr
      go_wp2_with fail
      go_roundw
      case rel => exact ⟨k + 1, by omega, by go_num, by rw [hset.out]⟩
      case measure => simp [intOf]; omega
    · obtain rfl : k = s.size := by omega
      rw [List.take_of_length_le (by rw [HLs.out]; exact Nat.le_refl _)] at hwr
      subst hwr
      clear hlt
      go_upto_region 8 with (fail)
      have hg := heap_alloc_new w (.cells (hereA L) 125)
      have hinf := hereInfo L
      go_wp2_with (refine wpList_load_row rfl 125 _ rfl w.heap.size rfl 125 (hereA L) (0, 0) _ hg Tryz.underlying125 rfl hinf ?_)
      clear hg hinf
      go_loopw [5, 6, 7, 19] (fun v0 _ _ i wr => ∃ (k : Nat) (v : Value), v = v0 ∧ k ≤ 256 ∧ i = .int .i64 k ∧ wr.ownsRow w.heap.size 5 1 v (leastGo L k).length (Lib.byteCells (leastGo L k)) ∧ Below w.heap.size w wr) (fun _ _ _ i _ => 256 - (intOf i).toNat)
      case atStart => exact ⟨0, _, rfl, by omega, rfl, World.ownsRow_nil _ _ _ _, below_al (Below.refl _ _) _⟩
      case round =>
        obtain ⟨k, v, rfl, hk2, rfl, hown, hb⟩ := hrel
        have hln := leastGo_length L k
        by_cases hlt : k < 256
        · have hltI : (k : Int) < 256 := by omega
          have hix := fun W => index_here (m := L) hlt W
          have hu := UAt.of_row hown hln
          obtain ⟨ao, cap, rfl⟩ : ∃ ao cap, v = .slice ao (leastGo L k).length cap := ownsRow_slice8 hown
          have HS : Hid (leastGo L (k + 1) = if L.contains (UInt8.ofNat k) && !((leastGo L k).any fun x => inS x (UInt8.ofNat k)) then leastGo L k ++ [UInt8.ofNat k] else leastGo L k) := Lib.hid rfl
          obtain ⟨T, hT⟩ : ∃ T, T = leastGo L k := ⟨_, rfl⟩
          rw [← hT] at HS hown hu hln ⊢
          clear hT
          cases hc : L.contains (UInt8.ofNat k) with
          | false =>
            rw [hc] at hix HS
            clear hu hc
            go_wp2_with fail
            go_roundw
            case rel => exact ⟨k + 1, _, rfl, by omega, by go_num, by rw [HS.out]; exact hown, hb⟩
            case measure => simp [intOf]; omega
          | true =>
            rw [hc] at hix HS
            go_wp2_with fail
            refine (holds_k hlt _ T _ hu).mono ?_
            clear hu hc
            cases ha : T.any fun x => inS x (UInt8.ofNat k) with
            | true =>
              rw [ha] at HS
              rintro e _ ⟨rfl, rfl⟩
              go_wp2_with fail
              go_roundw
              case rel => exact ⟨k + 1, _, rfl, by omega, by go_num, by rw [HS.out]; exact hown, hb⟩
              case measure => simp [intOf]; omega
            | false =>
              rw [ha] at HS
              rintro e _ ⟨rfl, rfl⟩
              have hbz := hb.size
              go_wp2_with (at_builtin; refine wpList_append_own _ rfl _ _ 108 rfl w.heap.size 5 i0 (.int .u8 0) 1 1 Tryz.underlying108 hi hz0 hz1 hz2 rfl (by decide) _ _ _ rfl (hown.alloc _) ⟨wr.heap.size, 0, none⟩ 1 1 [.int .u8 k] rfl rfl ?c1 ?c2 ?c3 ?c4 ?c5 ?_)
              case c1 =>
                intro j u hj
                match j, hj with
                | 0, hj => simp at hj; subst hj; simp [Addr.add]
              case c2 => intro u hu; simp at hu; subst hu; rfl
              case c3 => unfold maxLen; omega
              case c4 => omega
              case c5 => simp; omega
              intro v' w3 hown' hgrow _
              have hb3 : Below w.heap.size w w3 := (hb.alloc hbz _).grown hgrow (by simp; omega) (fun k hk => (hown.lt k hk).1)
              have hown3 : w3.ownsRow w.heap.size 5 1 v' (leastGo L (k + 1)).length (Lib.byteCells (leastGo L (k + 1))) := by
                have e : leastGo L (k + 1) = T ++ [UInt8.ofNat k] := by rw [HS.out]; rfl
                have e2 : Lib.byteCells (T ++ [UInt8.ofNat k]) = Lib.byteCells T ++ [.int .u8 k] := by
                  unfold Lib.byteCells
                  simp [Nat.mod_eq_of_lt hlt]
                rw [e, e2]
                simpa using hown'
              clear hown' hgrow hown hix HS ha hb
              go_wp2_with fail
              go_roundw
              case rel => exact ⟨k + 1, _, rfl, by omega, by go_num, hown3, hb3⟩
              case measure => simp [intOf]; omega
        · obtain rfl : k = 256 := by omega
          have HB : Hid (A = .returned (.string ⟨(leastGo L 256).toArray⟩)) := HA
          obtain ⟨T, hT⟩ : ∃ T, T = leastGo L 256 := ⟨_, rfl⟩
          rw [← hT] at HB hown hln
          have hcv := conv_row hown
          clear hT HA hlt hown
          go_wp2_with fail
          go_ret
          exact ⟨HB.out.symm, hb⟩
end Go.Proofs.YtlkgcidhhngfeaaGreatDoor
