/- cnf.Right, cnf.Put, cnf.Get. -/
import Derived.Test.YtecoeaeonedmnaaGreatDoorNorm
namespace Go.Proofs.YtecoeaeonedmnaaGreatDoor
open Go.RowKit
def NoLaid (_ : World) : Prop := True
theorem right_beq (l : List UInt8) (s : ByteArray) (h : l = s.data.toList) : (normL l == s.toList) = rightFm l := by
  unfold rightFm
  rw [ByteArray.toList_eq, ← h]
set_option maxRecDepth 100000 in
set_option maxHeartbeats 1000000 in
theorem cright_any (s : ByteArray) (hs : s.size ≤ 140737488351232) (w : World) :
    Calls Tryz.prog 65 #[.string s] w fun e w' => e = .returned (.bool (rightFm s.data.toList)) ∧ Below w.heap.size w w' := by
  obtain ⟨L, hL⟩ : ∃ L, L = s.data.toList := ⟨_, rfl⟩
  have hb := right_beq L s hL
  have hn := norm_any s hs
  rw [← hL] at hn ⊢
  clear hL
  obtain ⟨B, hB⟩ : ∃ B, B = rightFm L := ⟨_, rfl⟩
  rw [← hB] at hb ⊢
  clear hB
  obtain ⟨N, hN⟩ : ∃ N, N = normL L := ⟨_, rfl⟩
  rw [← hN] at hb hn
  clear hN
  go_enter Tryz.func65, Tryz.ntmps65
  have hB0 := Below.refl w.heap.size w
  have M0 := Mem.nil w
  go_wp2_with fail
  refine Calls.named ?_
  intro W1 hW1
  have hB1_ : Below w.heap.size w W1 := by rw [hW1]; exact hB0
  have M1_ := Mem.nil W1
  clear hW1
  refine (hn _).mono ?_
  rintro e w1 ⟨rfl, hb1⟩
  have hB1 := below_then hB1_ hb1
  have M1 := M1_.below hb1
  clear M1_ hB1_ hb1
  go_wp2_with fail
  go_ret
  exact ⟨rfl, hB1⟩
set_option maxRecDepth 100000 in
set_option maxHeartbeats 1000000 in
theorem cput_any (s : ByteArray) (hs : s.size ≤ 140737488351232) (w : World) :
    Calls Tryz.prog 57 #[.string s] w fun e w' => e = .returned (.string ⟨(putFm s.data.toList).toArray⟩) ∧ Below w.heap.size w w' := by
  obtain ⟨L, hL⟩ : ∃ L, L = s.data.toList := ⟨_, rfl⟩
  have hn := norm_any s hs
  have hlen := normL_length L
  rw [← hL] at hn ⊢
  clear hL
  have hR : Hid (Ending.returned (.string (⟨#[UInt8.ofNat (normL L).length]⟩ ++ ⟨(normL L).toArray⟩)) = .returned (.string ⟨(putFm L).toArray⟩)) := Lib.hid (ret_str (by
    unfold putFm
    apply ByteArray.ext
    simp [ByteArray.data_append]))
  obtain ⟨A, hA⟩ : ∃ A, A = Ending.returned (.string ⟨(putFm L).toArray⟩) := ⟨_, rfl⟩
  rw [← hA] at hR ⊢
  clear hA
  obtain ⟨N, hN⟩ : ∃ N, N = normL L := ⟨_, rfl⟩
  rw [← hN] at hR hn hlen
  clear hN
  have hcv := run_convert_one (P := Tryz.prog) 38 5 9 Tryz.underlying38 Tryz.underlying5 Tryz.underlying9
  obtain ⟨n, hn0⟩ : ∃ n : Nat, n = N.length := ⟨_, rfl⟩
  have hn2 : (⟨N.toArray⟩ : ByteArray).size = n := by rw [hn0]; rfl
  rw [← hn0] at hR hlen
  clear hn0
  go_enter Tryz.func57, Tryz.ntmps57
  have hB0 := Below.refl w.heap.size w
  have M0 := Mem.nil w
  go_wp2_with fail
  refine Calls.named ?_
  intro W1 hW1
  have hB1_ : Below w.heap.size w W1 := by rw [hW1]; exact hB0
  have M1_ := Mem.nil W1
  clear hW1
  refine (hn _).mono ?_
  rintro e w1 ⟨rfl, hb1⟩
  have hB1 := below_then hB1_ hb1
  have M1 := M1_.below hb1
  clear M1_ hB1_ hb1
  go_wp2_with fail
  go_ret
  exact ⟨hR.out, (below_al hB1 _)⟩
/-- what Get hands back at a place, out of what stands there -/
def cgetE (r : Option (List UInt8 × Nat)) (a : Nat) : Ending := match r with
  | none => .returned (.tuple #[.string ⟨#[]⟩, .int .i64 0, .bool false])
  | some (f, n) => .returned (.tuple #[.string ⟨f.toArray⟩, .int .i64 ((a + n : Nat) : Int), .bool true])
theorem cget_low (s : ByteArray) (a : Int) (w : World) (ha : a < 0) :
    Calls Tryz.prog 60 #[.string s, .int .i64 a] w fun e w' => e = cgetE none 0 ∧ Below w.heap.size w w' := by
  go_enter Tryz.func60, Tryz.ntmps60
  go_wp2
  go_ret3
  exact ⟨rfl, Below.refl _ _⟩
theorem cget_high (s : ByteArray) (a : Nat) (w : World) (_hs : s.size ≤ 1152921504606846976) (ha : (s.size : Int) ≤ a) :
    Calls Tryz.prog 60 #[.string s, .int .i64 a] w fun e w' => e = cgetE none 0 ∧ Below w.heap.size w w' := by
  have h0 : (0 : Int) ≤ a := by omega
  go_enter Tryz.func60, Tryz.ntmps60
  go_wp2
  go_ret3
  exact ⟨rfl, Below.refl _ _⟩
theorem drop_cons {L : List UInt8} {a : Nat} (h : a < L.length) : L.drop a = L.getD a 0 :: L.drop (a + 1) := by
  rw [List.drop_eq_getElem_cons h, getD_lt h]
set_option maxRecDepth 100000 in
set_option maxHeartbeats 1000000 in
theorem cget_short (s : ByteArray) (a : Nat) (w : World) (hs : s.size ≤ 1152921504606846976) (ha : a < s.size) (c : Nat) (hc : c = (s.data.toList.getD a 0).toNat) (hm : s.size < a + 1 + c) :
    Calls Tryz.prog 60 #[.string s, .int .i64 a] w fun e w' => e = cgetE none a ∧ Below w.heap.size w w' := by
  have hix := index_str Tryz.underlying9 s rfl a ha
  rw [← hc] at hix
  have h0 : (0 : Int) ≤ a := by omega
  have h1 : (a : Int) < s.size := by omega
  have hc2 : c < 256 := by rw [hc]; exact UInt8.toNat_lt _
  have h2 : (s.size : Int) - ((a : Int) + 1) < c := by omega
  have h3 : (0 : Int) ≤ c := by omega
  clear hc hm
  go_enter Tryz.func60, Tryz.ntmps60
  have hB0 := Below.refl w.heap.size w
  have M0 := Mem.nil w
  go_upto_region 3 with (fail)
  refine wp_named ?_
  intro w1 hW1
  have hB1 : Below w.heap.size w w1 := by rw [hW1]; exact hB0
  have M1 := Mem.nil w1
  clear hW1
  refine wp_region_after (by kernel_rfl) (by kernel_rfl) ?_
  repeat (go_big_quiet_step (((fail))))
  refine wpQuiet_nil ?_
  rintro _ ⟨p1, rfl⟩
  obtain ⟨w2, hW2⟩ : ∃ x, x = p1.world := ⟨_, rfl⟩
  have hB2 : Below w.heap.size w w2 := by rw [hW2]; exact below_then hB1 p1.h
  have M2 := M1.below p1.h
  rw [← hW2] at M2
  rw [← hW2]
  clear hW2
  clear p1
  go_wp2
  go_ret3
  exact ⟨rfl, hB2⟩
theorem ext_list (s : ByteArray) (a b : Nat) (_ : a + b ≤ s.size) : (s.extract a (a + b)).data.toList = (s.data.toList.drop a).take b := by
  rw [ByteArray.data_extract, Array.toList_extract, List.extract_eq_take_drop]
  congr 1
  omega
theorem ext_bytes (s : ByteArray) (a b : Nat) (h : a + b ≤ s.size) : (⟨((s.data.toList.drop a).take b).toArray⟩ : ByteArray) = s.extract a (a + b) := by
  apply ByteArray.ext
  rw [← ext_list s a b h]
set_option maxRecDepth 100000 in
set_option maxHeartbeats 1000000 in
theorem cget_in (s : ByteArray) (a : Nat) (w : World) (hs : s.size ≤ 1152921504606846976) (ha : a < s.size) (c : Nat) (hc : c = (s.data.toList.getD a 0).toNat) (hm : a + 1 + c ≤ s.size) :
    Calls Tryz.prog 60 #[.string s, .int .i64 a] w fun e w' => e = cgetE (if rightFm ((s.data.toList.drop (a + 1)).take c) = true then some ((s.data.toList.drop (a + 1)).take c, c + 1) else none) a ∧ Below w.heap.size w w' := by
  have hix := index_str Tryz.underlying9 s rfl a ha
  rw [← hc] at hix
  have h0 : (0 : Int) ≤ a := by omega
  have h1 : (a : Int) < s.size := by omega
  have hc2 : c < 256 := by rw [hc]; exact UInt8.toNat_lt _
  have h2 : (c : Int) ≤ (s.size : Int) - ((a : Int) + 1) := by omega
  have h3 : (0 : Int) ≤ c := by omega
  have hX := cright_any (s.extract (a + 1) (a + 1 + c)) (by rw [ByteArray.size_extract]; omega)
  rw [ext_list s (a + 1) c hm] at hX
  have hE := ext_bytes s (a + 1) c hm
  obtain ⟨F, hF⟩ : ∃ F, F = (s.data.toList.drop (a + 1)).take c := ⟨_, rfl⟩
  rw [← hF] at hX hE ⊢
  clear hc hF
  cases hb : rightFm F with
  | false =>
    rw [hb] at hX
    clear hb hE
    go_enter Tryz.func60, Tryz.ntmps60
    have hB0 := Below.refl w.heap.size w
    have M0 := Mem.nil w
    go_upto_region 3 with (fail)
    refine wp_named ?_
    intro w1 hW1
    have hB1 : Below w.heap.size w w1 := by rw [hW1]; exact hB0
    have M1 := Mem.nil w1
    clear hW1
    refine wp_region_after (by kernel_rfl) (by kernel_rfl) ?_
    repeat (go_big_quiet_step (((fail))))
    refine wpQuiet_nil ?_
    rintro _ ⟨p1, rfl⟩
    obtain ⟨w2, hW2⟩ : ∃ x, x = p1.world := ⟨_, rfl⟩
    have hB2 : Below w.heap.size w w2 := by rw [hW2]; exact below_then hB1 p1.h
    have M2 := M1.below p1.h
    rw [← hW2] at M2
    rw [← hW2]
    clear hW2
    clear p1
    go_wp2_with fail
    refine Calls.named ?_
    intro W3 hW3
    have hB3_ : Below w.heap.size w W3 := by rw [hW3]; exact hB2
    have M3_ := Mem.nil W3
    clear hW3
    refine (hX _).mono ?_
    rintro e w3 ⟨rfl, hb3⟩
    have hB3 := below_then hB3_ hb3
    have M3 := M3_.below hb3
    clear M3_ hB3_ hb3
    go_wp2
    go_ret3
    exact ⟨rfl, hB3⟩
  | true =>
    rw [hb] at hX
    have hR : Hid (Ending.returned (.tuple #[.string (s.extract (a + 1) (a + 1 + c)), .int .i64 ((a : Int) + 1 + c), .bool true]) = cgetE (some (F, c + 1)) a) := Lib.hid (by
      unfold cgetE
      simp only
      rw [hE, show ((a + (c + 1) : Nat) : Int) = (a : Int) + 1 + c by omega])
    clear hb hE
    go_enter Tryz.func60, Tryz.ntmps60
    have hB0 := Below.refl w.heap.size w
    have M0 := Mem.nil w
    go_upto_region 3 with (fail)
    refine wp_named ?_
    intro w1 hW1
    have hB1 : Below w.heap.size w w1 := by rw [hW1]; exact hB0
    have M1 := Mem.nil w1
    clear hW1
    refine wp_region_after (by kernel_rfl) (by kernel_rfl) ?_
    repeat (go_big_quiet_step (((fail))))
    refine wpQuiet_nil ?_
    rintro _ ⟨p1, rfl⟩
    obtain ⟨w2, hW2⟩ : ∃ x, x = p1.world := ⟨_, rfl⟩
    have hB2 : Below w.heap.size w w2 := by rw [hW2]; exact below_then hB1 p1.h
    have M2 := M1.below p1.h
    rw [← hW2] at M2
    rw [← hW2]
    clear hW2
    clear p1
    go_wp2_with fail
    refine Calls.named ?_
    intro W3 hW3
    have hB3_ : Below w.heap.size w W3 := by rw [hW3]; exact hB2
    have M3_ := Mem.nil W3
    clear hW3
    refine (hX _).mono ?_
    rintro e w3 ⟨rfl, hb3⟩
    have hB3 := below_then hB3_ hb3
    have M3 := M3_.below hb3
    clear M3_ hB3_ hb3
    go_wp2
    go_ret3
    exact ⟨hR.out, hB3⟩
/-- cnf.Get at a place from 0 on -/
theorem cget_any (s : ByteArray) (a : Nat) (w : World) (hs : s.size ≤ 1152921504606846976) :
    Calls Tryz.prog 60 #[.string s, .int .i64 a] w fun e w' => e = cgetE (getFm (s.data.toList.drop a)) a ∧ Below w.heap.size w w' := by
  have hL : s.data.toList.length = s.size := Array.length_toList
  rcases Nat.lt_or_ge a s.size with ha | ha
  · have hd := drop_cons (L := s.data.toList) (a := a) (by omega)
    rcases Nat.lt_or_ge s.size (a + 1 + (s.data.toList.getD a 0).toNat) with hm | hm
    · have e : getFm (s.data.toList.drop a) = none := by
        rw [hd, getFm, if_neg]
        rw [List.length_drop]
        omega
      rw [e]
      exact cget_short s a w hs ha _ rfl hm
    · have e : getFm (s.data.toList.drop a) = if rightFm ((s.data.toList.drop (a + 1)).take (s.data.toList.getD a 0).toNat) = true then some ((s.data.toList.drop (a + 1)).take (s.data.toList.getD a 0).toNat, (s.data.toList.getD a 0).toNat + 1) else none := by
        rw [hd, getFm]
        by_cases hr : rightFm ((s.data.toList.drop (a + 1)).take (s.data.toList.getD a 0).toNat) = true
        · rw [if_pos hr, if_pos ⟨by rw [List.length_drop]; omega, hr⟩]
        · rw [if_neg hr, if_neg (fun h => hr h.2)]
      rw [e]
      exact cget_in s a w hs ha _ rfl hm
  · have e : s.data.toList.drop a = [] := List.drop_of_length_le (by omega)
    rw [e]
    exact cget_high s a w hs (by omega)
end Go.Proofs.YtecoeaeonedmnaaGreatDoor
