/- num.Get comes to getR. -/
import Derived.Test.YtecoeaeonedmnaaGreatDoorProg
import Derived.Test.YtecoeaeonedmnaaGreatDoorZ1
import Derived.Lib.IndexBytes
import Derived.Test.YtecoeaeonedmnaaGreatDoorNumGetRel
namespace Go.Proofs.YtecoeaeonedmnaaGreatDoor
open Go.RowKit
theorem zag_even (u : Nat) (h : u < 18446744073709551616) (hp : u % 2 = 0) : bits BinOp.xor IntKind.i64 ((u : Int) / 2) 0 = zag u := by
  unfold zag
  rw [if_neg (by omega), show ((u : Int) / 2) = ((u / 2 : Nat) : Int) by omega, show (0 : Int) = ((0 : Nat) : Int) from rfl, i64_xor_nat _ _ (by omega) (by omega), Nat.xor_zero]
theorem zag_odd (u : Nat) (h : u < 18446744073709551616) (hp : u % 2 = 1) : bits BinOp.xor IntKind.i64 ((u : Int) / 2) (-1) = zag u := by
  unfold zag
  rw [if_pos hp, show ((u : Int) / 2) = ((u / 2 : Nat) : Int) by omega, i64_xor_ones _ (by omega)]
theorem get_out (s : ByteArray) (a : Int) (w : World) (_hs : s.size ≤ maxLen) (ha : a < 0 ∨ (s.size : Int) ≤ a) :
    Calls Tryz.prog 51 #[.string s, .int .i64 a] w fun e w' => e = getEnd (getR s.data.toList a) ∧ w = w' := by
  have hfin := Lib.hid (getR_out s.data.toList a (by rw [Array.length_toList]; exact ha))
  unfold maxLen at _hs
  by_cases h0 : a < 0
  · clear ha
    go_enter Tryz.func51, Tryz.ntmps51
    go_wp2
    go_ret3
    exact ⟨by rw [hfin.out]; rfl, rfl⟩
  · have h1 : (s.size : Int) ≤ a := by omega
    clear ha
    go_enter Tryz.func51, Tryz.ntmps51
    go_wp2
    go_ret3
    exact ⟨by rw [hfin.out]; rfl, rfl⟩
theorem byte_at (s : ByteArray) (a k : Nat) (h : a + k < s.size) : (s.data.toList.drop a)[k]? = some s[a + k] := by
  rw [List.getElem?_drop, Lib.data_getElem? s (a + k) h]
theorem getR_some1 (l : List UInt8) (a u c : Nat) (ha : a < l.length) (h : getF 10 true (l.drop a) = some (u, c + 1)) : getR l a = some (zag u, (a : Int) + c + 1) := by
  rw [getR_some l a u (c + 1) ha h]
  congr 2
set_option maxHeartbeats 1000000 in
theorem get_in10 (s : ByteArray) (a : Nat) (w : World) (hs : s.size ≤ maxLen) (ha : a < s.size) (hmin : 10 ≤ (s.size : Int) - a) :
    Calls Tryz.prog 51 #[.string s, .int .i64 a] w fun e w' => e = getEnd (getR s.data.toList a) ∧ w = w' := by
  unfold maxLen at hs
  have ha0 : decide ((a : Int) < 0) = false := by simp
  have ha1 : decide (s.size ≤ a) = false := by simp; omega
  generalize hr : getEnd (getR s.data.toList a) = R
  have HR := Lib.hid hr
  clear hr
  have hL : s.data.toList.length = s.size := Array.length_toList
  have HL := Lib.hid hL
  clear hL
  go_enter Tryz.func51, Tryz.ntmps51
  go_wp2
  go_loop [7, 8, 9, 23] (fun v _ _ j => ∃ k acc : Nat, k ≤ 10 ∧ (k : Int) ≤ (s.size : Int) - a ∧ j = .int .i64 k ∧ v = .int .u64 acc ∧ acc < 18446744073709551616 ∧ Hid (GRel (s.data.toList.drop a) k acc)) (fun _ _ _ j => 10 - (intOf j).toNat)
  case atStart => exact ⟨0, 0, by omega, by omega, rfl, rfl, by omega, Lib.hid (grel_zero _)⟩
  case round =>
    obtain ⟨k, acc, hk, hka, rfl, rfl, hacc, hg⟩ := hrel
    by_cases hkm : k < 10 ∧ a + k < s.size
    · obtain ⟨hk10, hks⟩ := hkm
      have HB := Lib.hid (byte_at s a k hks)
      obtain ⟨b, hb⟩ : ∃ b : Nat, s[a + k].toNat = b := ⟨_, rfl⟩
      have hb256 : b < 256 := by rw [← hb]; exact UInt8.toNat_lt _
      obtain ⟨d, hd⟩ : ∃ d : Nat, b % 128 = d := ⟨_, rfl⟩
      have hd128 : d < 128 := by omega
      have hand := u8_and127 b hb256
      rw [hd] at hand
      obtain ⟨e, he⟩ : ∃ e : Nat, d * 2 ^ (7 * k) % 18446744073709551616 = e := ⟨_, rfl⟩
      have he64 : e < 18446744073709551616 := by rw [← he]; exact Nat.mod_lt _ (by decide)
      have hshl := u64_shl d k
      rw [he] at hshl
      obtain ⟨acc', hac⟩ : ∃ acc' : Nat, acc ||| e = acc' := ⟨_, rfl⟩
      have hac64 : acc' < 18446744073709551616 := by rw [← hac]; exact Nat.or_lt_two_pow (n := 64) (by omega) (by omega)
      have hor := u64_or_nat acc e hacc he64
      rw [hac] at hor
      rw [← hd, ← hb] at he
      have HE := Lib.hid he
      have HA := Lib.hid hac
      have HBB := Lib.hid hb
      have HD := Lib.hid hd
      clear he hac hd
      by_cases hc : 127 < b
      · have hcI : (127 : Int) < b := by omega
        have hg' := Lib.hid (grel_more (show k ≤ 9 by omega) HB.out (by rw [hb]; omega) hg.out HE.out.symm HA.out.symm)
        go_wp2
        go_round
        case rel => exact ⟨k + 1, acc', by omega, by omega, by go_num, rfl, hac64, hg'⟩
        case measure => simp [intOf]; omega
      · have hcI : (b : Int) ≤ 127 := by omega
        by_cases hrej : (s[a + k].toNat = 0 ∧ 0 < k) ∨ (1 < s[a + k].toNat ∧ k = 9)
        · have hfin := Lib.hid (getR_none s.data.toList a (grel_reject (show k ≤ 9 by omega) HB.out (by rw [hb]; omega) hg.out hrej))
          rw [hfin.out] at HR
          rw [hb] at hrej
          rcases hrej with ⟨r1, r2⟩ | ⟨r1, r2⟩
          · subst r1
            have r3 : (0 : Int) < k := by omega
            go_wp2
            all_goals (go_ret3; exact ⟨HR.out, rfl⟩)
          · subst r2
            have r3 : (1 : Int) < b := by omega
            have r4 : ((b : Int) == 0) = false := by simp; omega
            go_wp2
            all_goals (go_ret3; exact ⟨HR.out, rfl⟩)
        · have hfin0 := grel_accept (show k ≤ 9 by omega) HB.out (by rw [hb]; omega) hg.out hrej HE.out.symm HA.out.symm
          have hfin := Lib.hid (getR_some1 s.data.toList a acc' k (by rw [HL.out]; exact ha) hfin0.1)
          rw [hfin.out, getEnd_some] at HR
          have hx1 := u64_and1 acc' hac64
          have hacI0 : (0 : Int) ≤ acc' := by omega
          rw [hb] at hrej
          clear hfin0
          rcases Nat.mod_two_eq_zero_or_one acc' with hp | hp
          · have hx2 := zag_even acc' hac64 hp
            rw [hp] at hx1
            have hx3 : ((0 : Nat) : Int) = 0 := rfl
            rw [hx3] at hx1
            clear hp hx3
            by_cases hb0 : b = 0
            · have r1 : ((b : Int) == 0) = true := by simp; omega
              have hk0 : k ≤ 0 := by omega
              have r3 : decide ((1 : Int) < b) = false := by simp; omega
              clear hb0 hrej
              go_wp2
              all_goals (go_ret3; exact ⟨HR.out, rfl⟩)
            · have r4 : ((b : Int) == 0) = false := by simp; omega
              by_cases hb1 : b ≤ 1
              · have r5 : (b : Int) ≤ 1 := by omega
                go_wp2
                all_goals (go_ret3; exact ⟨HR.out, rfl⟩)
              · have r5 : (1 : Int) < b := by omega
                have r6 : ((k : Int) == 9) = false := by simp; omega
                go_wp2
                all_goals (go_ret3; exact ⟨HR.out, rfl⟩)
          · have hx2 := zag_odd acc' hac64 hp
            rw [hp] at hx1
            have hx3 : ((1 : Nat) : Int) = 1 := rfl
            rw [hx3] at hx1
            clear hp hx3
            by_cases hb0 : b = 0
            · have r1 : ((b : Int) == 0) = true := by simp; omega
              have hk0 : k ≤ 0 := by omega
              have r3 : decide ((1 : Int) < b) = false := by simp; omega
              clear hb0 hrej
              go_wp2
              all_goals (go_ret3; exact ⟨HR.out, rfl⟩)
            · have r4 : ((b : Int) == 0) = false := by simp; omega
              by_cases hb1 : b ≤ 1
              · have r5 : (b : Int) ≤ 1 := by omega
                go_wp2
                all_goals (go_ret3; exact ⟨HR.out, rfl⟩)
              · have r5 : (1 : Int) < b := by omega
                have r6 : ((k : Int) == 9) = false := by simp; omega
                go_wp2
                all_goals (go_ret3; exact ⟨HR.out, rfl⟩)
    · have hfin := Lib.hid (getR_none s.data.toList a (grel_end hg.out (by rw [List.length_drop, HL.out]; omega)))
      rw [hfin.out] at HR
      have hkm' : 10 ≤ k := by omega
      clear hkm
      go_wp2
      go_ret3
      exact ⟨HR.out, rfl⟩
set_option maxHeartbeats 1000000 in
theorem get_ins (s : ByteArray) (a : Nat) (w : World) (hs : s.size ≤ maxLen) (ha : a < s.size) (hmin : (s.size : Int) - a < 10) :
    Calls Tryz.prog 51 #[.string s, .int .i64 a] w fun e w' => e = getEnd (getR s.data.toList a) ∧ w = w' := by
  unfold maxLen at hs
  have ha0 : decide ((a : Int) < 0) = false := by simp
  have ha1 : decide (s.size ≤ a) = false := by simp; omega
  generalize hr : getEnd (getR s.data.toList a) = R
  have HR := Lib.hid hr
  clear hr
  have hL : s.data.toList.length = s.size := Array.length_toList
  have HL := Lib.hid hL
  clear hL
  go_enter Tryz.func51, Tryz.ntmps51
  go_wp2
  go_loop [7, 8, 9, 23] (fun v _ _ j => ∃ k acc : Nat, k ≤ 10 ∧ (k : Int) ≤ (s.size : Int) - a ∧ j = .int .i64 k ∧ v = .int .u64 acc ∧ acc < 18446744073709551616 ∧ Hid (GRel (s.data.toList.drop a) k acc)) (fun _ _ _ j => 10 - (intOf j).toNat)
  case atStart => exact ⟨0, 0, by omega, by omega, rfl, rfl, by omega, Lib.hid (grel_zero _)⟩
  case round =>
    obtain ⟨k, acc, hk, hka, rfl, rfl, hacc, hg⟩ := hrel
    by_cases hkm : k < 10 ∧ a + k < s.size
    · obtain ⟨hk10, hks⟩ := hkm
      have HB := Lib.hid (byte_at s a k hks)
      obtain ⟨b, hb⟩ : ∃ b : Nat, s[a + k].toNat = b := ⟨_, rfl⟩
      have hb256 : b < 256 := by rw [← hb]; exact UInt8.toNat_lt _
      obtain ⟨d, hd⟩ : ∃ d : Nat, b % 128 = d := ⟨_, rfl⟩
      have hd128 : d < 128 := by omega
      have hand := u8_and127 b hb256
      rw [hd] at hand
      obtain ⟨e, he⟩ : ∃ e : Nat, d * 2 ^ (7 * k) % 18446744073709551616 = e := ⟨_, rfl⟩
      have he64 : e < 18446744073709551616 := by rw [← he]; exact Nat.mod_lt _ (by decide)
      have hshl := u64_shl d k
      rw [he] at hshl
      obtain ⟨acc', hac⟩ : ∃ acc' : Nat, acc ||| e = acc' := ⟨_, rfl⟩
      have hac64 : acc' < 18446744073709551616 := by rw [← hac]; exact Nat.or_lt_two_pow (n := 64) (by omega) (by omega)
      have hor := u64_or_nat acc e hacc he64
      rw [hac] at hor
      rw [← hd, ← hb] at he
      have HE := Lib.hid he
      have HA := Lib.hid hac
      have HBB := Lib.hid hb
      have HD := Lib.hid hd
      clear he hac hd
      by_cases hc : 127 < b
      · have hcI : (127 : Int) < b := by omega
        have hg' := Lib.hid (grel_more (show k ≤ 9 by omega) HB.out (by rw [hb]; omega) hg.out HE.out.symm HA.out.symm)
        go_wp2
        go_round
        case rel => exact ⟨k + 1, acc', by omega, by omega, by go_num, rfl, hac64, hg'⟩
        case measure => simp [intOf]; omega
      · have hcI : (b : Int) ≤ 127 := by omega
        by_cases hrej : (s[a + k].toNat = 0 ∧ 0 < k) ∨ (1 < s[a + k].toNat ∧ k = 9)
        · have hfin := Lib.hid (getR_none s.data.toList a (grel_reject (show k ≤ 9 by omega) HB.out (by rw [hb]; omega) hg.out hrej))
          rw [hfin.out] at HR
          rw [hb] at hrej
          rcases hrej with ⟨r1, r2⟩ | ⟨r1, r2⟩
          · subst r1
            have r3 : (0 : Int) < k := by omega
            go_wp2
            all_goals (go_ret3; exact ⟨HR.out, rfl⟩)
          · subst r2
            have r3 : (1 : Int) < b := by omega
            have r4 : ((b : Int) == 0) = false := by simp; omega
            go_wp2
            all_goals (go_ret3; exact ⟨HR.out, rfl⟩)
        · have hfin0 := grel_accept (show k ≤ 9 by omega) HB.out (by rw [hb]; omega) hg.out hrej HE.out.symm HA.out.symm
          have hfin := Lib.hid (getR_some1 s.data.toList a acc' k (by rw [HL.out]; exact ha) hfin0.1)
          rw [hfin.out, getEnd_some] at HR
          have hx1 := u64_and1 acc' hac64
          have hacI0 : (0 : Int) ≤ acc' := by omega
          rw [hb] at hrej
          clear hfin0
          rcases Nat.mod_two_eq_zero_or_one acc' with hp | hp
          · have hx2 := zag_even acc' hac64 hp
            rw [hp] at hx1
            have hx3 : ((0 : Nat) : Int) = 0 := rfl
            rw [hx3] at hx1
            clear hp hx3
            by_cases hb0 : b = 0
            · have r1 : ((b : Int) == 0) = true := by simp; omega
              have hk0 : k ≤ 0 := by omega
              have r3 : decide ((1 : Int) < b) = false := by simp; omega
              clear hb0 hrej
              go_wp2
              all_goals (go_ret3; exact ⟨HR.out, rfl⟩)
            · have r4 : ((b : Int) == 0) = false := by simp; omega
              by_cases hb1 : b ≤ 1
              · have r5 : (b : Int) ≤ 1 := by omega
                go_wp2
                all_goals (go_ret3; exact ⟨HR.out, rfl⟩)
              · have r5 : (1 : Int) < b := by omega
                have r6 : ((k : Int) == 9) = false := by simp; omega
                go_wp2
                all_goals (go_ret3; exact ⟨HR.out, rfl⟩)
          · have hx2 := zag_odd acc' hac64 hp
            rw [hp] at hx1
            have hx3 : ((1 : Nat) : Int) = 1 := rfl
            rw [hx3] at hx1
            clear hp hx3
            by_cases hb0 : b = 0
            · have r1 : ((b : Int) == 0) = true := by simp; omega
              have hk0 : k ≤ 0 := by omega
              have r3 : decide ((1 : Int) < b) = false := by simp; omega
              clear hb0 hrej
              go_wp2
              all_goals (go_ret3; exact ⟨HR.out, rfl⟩)
            · have r4 : ((b : Int) == 0) = false := by simp; omega
              by_cases hb1 : b ≤ 1
              · have r5 : (b : Int) ≤ 1 := by omega
                go_wp2
                all_goals (go_ret3; exact ⟨HR.out, rfl⟩)
              · have r5 : (1 : Int) < b := by omega
                have r6 : ((k : Int) == 9) = false := by simp; omega
                go_wp2
                all_goals (go_ret3; exact ⟨HR.out, rfl⟩)
    · have hfin := Lib.hid (getR_none s.data.toList a (grel_end hg.out (by rw [List.length_drop, HL.out]; omega)))
      rw [hfin.out] at HR
      have hkm' : (s.size : Int) - a ≤ k := by omega
      clear hkm
      go_wp2
      go_ret3
      exact ⟨HR.out, rfl⟩
theorem get_any (s : ByteArray) (a : Int) (w : World) (hs : s.size ≤ maxLen) :
    Calls Tryz.prog 51 #[.string s, .int .i64 a] w fun e w' => e = getEnd (getR s.data.toList a) ∧ w = w' := by
  by_cases h : a < 0 ∨ (s.size : Int) ≤ a
  · exact get_out s a w hs h
  · obtain ⟨n, rfl⟩ := Int.eq_ofNat_of_zero_le (show 0 ≤ a by omega)
    by_cases h10 : 10 ≤ (s.size : Int) - n
    · exact get_in10 s n w hs (by omega) h10
    · exact get_ins s n w hs (by omega) (by omega)
theorem get_t (s : ByteArray) (a : Int) (w : World) (hs : s.size ≤ 9223372036854775807) :
    Calls Tryz.prog 51 #[.string s, .int .i64 a] w fun e w' => e = .returned (.tuple #[.int .i64 (gV (getR s.data.toList a)), .int .i64 (gN (getR s.data.toList a)), .bool (gO (getR s.data.toList a))]) ∧ w = w' :=
  get_any s a w (by unfold maxLen; omega)
end Go.Proofs.YtecoeaeonedmnaaGreatDoor
