/- val.Put, val.Text whole. -/
import Derived.Test.YtecoeaeonedmnaaGreatDoorVal2I
namespace Go.Proofs.YtecoeaeonedmnaaGreatDoor
open Go.RowKit
theorem vput_any (k n : Int) (hn : InI64 n) (m s i : ByteArray) (hm : m.size ≤ 140737488351232) (hs : s.size ≤ 140737488351232) (hi : i.size ≤ 140737488351232) (w : World) (hw : LaidV w) :
    Calls Tryz.prog 14 #[.agg #[.int .i64 k, .int .i64 n, .string m, .string s, .string i]] w fun e w' => e = .returned (.string ⟨(vl k n m s i).put.toArray⟩) ∧ Below w.heap.size w w' := by
  cases h : (vl k n m s i).right with
  | false =>
    rw [put_no h]
    exact vput_no k n m s i hm hs hi w hw h
  | true =>
    have hp : (vl k n m s i).put = (vl k n m s i).putR := if_pos h
    rw [hp]
    by_cases k1 : k = 1
    · subst k1; exact vput1 n hn m s i hm hs hi w hw h
    · by_cases k2 : k = 2
      · subst k2; exact vput2 n m s i hm hs hi w hw h
      · by_cases k3 : 3 ≤ k ∧ k ≤ 7
        · exact vput3 k n k3 m s i hm hs hi w hw h
        · rw [right0 (by omega)] at h; cases h
/-! Get -/
def gnE (r : Option (List UInt8 × Nat)) (a : Nat) : Ending := match r with
  | none => .returned (.tuple #[.string ⟨#[]⟩, .int .i64 0, .bool false])
  | some (f, n) => .returned (.tuple #[.string ⟨f.toArray⟩, .int .i64 ((a + n : Nat) : Int), .bool true])
theorem gn_high (s : ByteArray) (a : Nat) (w : World) (_hs : s.size ≤ 1152921504606846976) (ha : (s.size : Int) ≤ a) :
    Calls Tryz.prog 53 #[.string s, .int .i64 a] w fun e w' => e = gnE none a ∧ Below w.heap.size w w' := by
  go_enter Tryz.func53, Tryz.ntmps53
  go_wp2
  go_ret3
  exact ⟨rfl, Below.refl _ _⟩
set_option maxRecDepth 100000 in
set_option maxHeartbeats 1000000 in
theorem gn_short (s : ByteArray) (a : Nat) (w : World) (hs : s.size ≤ 1152921504606846976) (ha : a < s.size) (c : Nat) (hc : c = (s.data.toList.getD a 0).toNat) (hm : s.size < a + 1 + c) :
    Calls Tryz.prog 53 #[.string s, .int .i64 a] w fun e w' => e = gnE none a ∧ Below w.heap.size w w' := by
  have hix := index_str Tryz.underlying9 s rfl a ha
  rw [← hc] at hix
  have h0 : (0 : Int) ≤ a := by omega
  have h1 : (a : Int) < s.size := by omega
  have hc2 : c < 256 := by rw [hc]; exact UInt8.toNat_lt _
  have h2 : (s.size : Int) - ((a : Int) + 1) < c := by omega
  have h3 : (0 : Int) ≤ c := by omega
  clear hc hm
  go_enter Tryz.func53, Tryz.ntmps53
  have hB0 := Below.refl w.heap.size w
  have M0 := Mem.nil w
  go_upto_region 3 with (fail)
  refine wp_named ?_
  intro w1 hW1
  have hB1 : Below w.heap.size w w1 := by rw [hW1]; exact hB0
  have M1 := Mem.nil w1
  clear hW1
  refine wp_region_after (by kernel_rfl) (by kernel_rfl) ?_
  repeat (go_big_quiet_step (((fail))))
  refine wpQuiet_nil ?_
  rintro _ ⟨p1, rfl⟩
  obtain ⟨w2, hW2⟩ : ∃ x, x = p1.world := ⟨_, rfl⟩
  have hB2 : Below w.heap.size w w2 := by rw [hW2]; exact below_then hB1 p1.h
  have M2 := M1.below p1.h
  rw [← hW2] at M2
  rw [← hW2]
  clear hW2
  clear p1
  go_wp2
  go_ret3
  exact ⟨rfl, hB2⟩
set_option maxRecDepth 100000 in
set_option maxHeartbeats 1000000 in
theorem gn_in (s : ByteArray) (a : Nat) (w : World) (hs : s.size ≤ 1152921504606846976) (ha : a < s.size) (c : Nat) (hc : c = (s.data.toList.getD a 0).toNat) (hm : a + 1 + c ≤ s.size) (hw : LaidV w) :
    Calls Tryz.prog 53 #[.string s, .int .i64 a] w fun e w' => e = gnE (if (readL ((s.data.toList.drop (a + 1)).take c)).isSome = true then some ((s.data.toList.drop (a + 1)).take c, c + 1) else none) a ∧ Below w.heap.size w w' := by
  have hix := index_str Tryz.underlying9 s rfl a ha
  rw [← hc] at hix
  have h0 : (0 : Int) ≤ a := by omega
  have h1 : (a : Int) < s.size := by omega
  have hc2 : c < 256 := by rw [hc]; exact UInt8.toNat_lt _
  have h2 : (c : Int) ≤ (s.size : Int) - ((a : Int) + 1) := by omega
  have h3 : (0 : Int) ≤ c := by omega
  have hX := fun w => nright_v (s.extract (a + 1) (a + 1 + c)) w (by rw [ByteArray.size_extract]; omega)
  rw [ext_list s (a + 1) c hm] at hX
  have hE := ext_bytes s (a + 1) c hm
  obtain ⟨F, hF⟩ : ∃ F, F = (s.data.toList.drop (a + 1)).take c := ⟨_, rfl⟩
  rw [← hF] at hX hE ⊢
  clear hc hF
  cases hb : (readL F).isSome with
  | false =>
    rw [hb] at hX
    clear hb hE
    go_enter Tryz.func53, Tryz.ntmps53
    have hB0 := Below.refl w.heap.size w
    have M0 := Mem.nil w
    have hw0 := hw
    go_upto_region 3 with (fail)
    refine wp_named ?_
    intro w1 hW1
    have hB1 : Below w.heap.size w w1 := by rw [hW1]; exact hB0
    have hw1 : LaidV w1 := by rw [hW1]; exact hw
    have M1 := Mem.nil w1
    clear hW1
    refine wp_region_after (by kernel_rfl) (by kernel_rfl) ?_
    repeat (go_big_quiet_step (((fail))))
    refine wpQuiet_nil ?_
    rintro _ ⟨p1, rfl⟩
    obtain ⟨w2, hW2⟩ : ∃ x, x = p1.world := ⟨_, rfl⟩
    have hB2 : Below w.heap.size w w2 := by rw [hW2]; exact below_then hB1 p1.h
    have hw2 : LaidV w2 := by rw [hW2]; exact hw1.below p1.h
    have M2 := M1.below p1.h
    rw [← hW2] at M2
    rw [← hW2]
    clear hW2
    clear p1
    go_wp2_with fail
    refine Calls.named ?_
    intro W3 hW3
    have hB3_ : Below w.heap.size w W3 := by rw [hW3]; exact hB2
    have hw3_ : LaidV W3 := by rw [hW3]; exact hw2
    have M3_ := Mem.nil W3
    clear hW3
    refine (hX _ hw3_).mono ?_
    rintro e w3 ⟨rfl, hb3⟩
    have hB3 := below_then hB3_ hb3
    have hw3 := hw3_.below hb3
    have M3 := M3_.below hb3
    clear M3_ hB3_ hb3 hw3_
    go_wp2
    go_ret3
    exact ⟨rfl, hB3⟩
  | true =>
    rw [hb] at hX
    have hR : Hid (Ending.returned (.tuple #[.string (s.extract (a + 1) (a + 1 + c)), .int .i64 ((a : Int) + 1 + c), .bool true]) = gnE (some (F, c + 1)) a) := Lib.hid (by
      unfold gnE
      simp only
      rw [hE, show ((a + (c + 1) : Nat) : Int) = (a : Int) + 1 + c by omega])
    clear hb hE
    go_enter Tryz.func53, Tryz.ntmps53
    have hB0 := Below.refl w.heap.size w
    have M0 := Mem.nil w
    have hw0 := hw
    go_upto_region 3 with (fail)
    refine wp_named ?_
    intro w1 hW1
    have hB1 : Below w.heap.size w w1 := by rw [hW1]; exact hB0
    have hw1 : LaidV w1 := by rw [hW1]; exact hw
    have M1 := Mem.nil w1
    clear hW1
    refine wp_region_after (by kernel_rfl) (by kernel_rfl) ?_
    repeat (go_big_quiet_step (((fail))))
    refine wpQuiet_nil ?_
    rintro _ ⟨p1, rfl⟩
    obtain ⟨w2, hW2⟩ : ∃ x, x = p1.world := ⟨_, rfl⟩
    have hB2 : Below w.heap.size w w2 := by rw [hW2]; exact below_then hB1 p1.h
    have hw2 : LaidV w2 := by rw [hW2]; exact hw1.below p1.h
    have M2 := M1.below p1.h
    rw [← hW2] at M2
    rw [← hW2]
    clear hW2
    clear p1
    go_wp2_with fail
    refine Calls.named ?_
    intro W3 hW3
    have hB3_ : Below w.heap.size w W3 := by rw [hW3]; exact hB2
    have hw3_ : LaidV W3 := by rw [hW3]; exact hw2
    have M3_ := Mem.nil W3
    clear hW3
    refine (hX _ hw3_).mono ?_
    rintro e w3 ⟨rfl, hb3⟩
    have hB3 := below_then hB3_ hb3
    have hw3 := hw3_.below hb3
    have M3 := M3_.below hb3
    clear M3_ hB3_ hb3 hw3_
    go_wp2
    go_ret3
    exact ⟨hR.out, hB3⟩
theorem gn_any (s : ByteArray) (a : Nat) (w : World) (hs : s.size ≤ 1152921504606846976) (hw : LaidV w) :
    Calls Tryz.prog 53 #[.string s, .int .i64 a] w fun e w' => e = gnE (getNm (s.data.toList.drop a)) a ∧ Below w.heap.size w w' := by
  have hL : s.data.toList.length = s.size := Array.length_toList
  rcases Nat.lt_or_ge a s.size with ha | ha
  · have hd := drop_cons (L := s.data.toList) (a := a) (by omega)
    rcases Nat.lt_or_ge s.size (a + 1 + (s.data.toList.getD a 0).toNat) with hm | hm
    · have e : getNm (s.data.toList.drop a) = none := by
        rw [hd, getNm, if_neg]
        rw [List.length_drop]
        omega
      rw [e]
      exact gn_short s a w hs ha _ rfl hm
    · have e : getNm (s.data.toList.drop a) = if (readL ((s.data.toList.drop (a + 1)).take (s.data.toList.getD a 0).toNat)).isSome = true then some ((s.data.toList.drop (a + 1)).take (s.data.toList.getD a 0).toNat, (s.data.toList.getD a 0).toNat + 1) else none := by
        rw [hd, getNm]
        by_cases hr : (readL ((s.data.toList.drop (a + 1)).take (s.data.toList.getD a 0).toNat)).isSome = true
        · rw [if_pos hr, if_pos ⟨by rw [List.length_drop]; omega, hr⟩]
        · rw [if_neg hr, if_neg (fun h => hr h.2)]
      rw [e]
      exact gn_in s a w hs ha _ rfl hm hw
  · have e : s.data.toList.drop a = [] := List.drop_of_length_le (by omega)
    rw [e]
    exact gn_high s a w hs (by omega)
end Go.Proofs.YtecoeaeonedmnaaGreatDoor
