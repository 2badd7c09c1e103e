/- The reference's Get comes to getR. -/
import Derived.Test.YtmaambggjdjodaaDoorProg
import Derived.Test.YtmaambggjdjodaaDoorLib
import Derived.Test.YtmaambggjdjodaaDoorNumGet
namespace Go.Proofs.YtmaambggjdjodaaDoor
open Go.RowKit
theorem rget_out (s : ByteArray) (a : Int) (w : World) (_hs : s.size ≤ maxLen) (ha : a < 0 ∨ (s.size : Int) ≤ a) :
    Calls Tryd.prog 14 #[.string s, .int .i64 a] w fun e w' => e = getEnd (getR s.data.toList a) ∧ w = w' := by
  have hfin := Lib.hid (getR_out s.data.toList a (by rw [Array.length_toList]; exact ha))
  unfold maxLen at _hs
  by_cases h0 : a < 0
  · clear ha
    go_enter Tryd.func14, Tryd.ntmps14
    go_wp2
    go_ret3
    exact ⟨by rw [hfin.out]; rfl, rfl⟩
  · have h1 : (s.size : Int) ≤ a := by omega
    clear ha
    go_enter Tryd.func14, Tryd.ntmps14
    go_wp2
    go_ret3
    exact ⟨by rw [hfin.out]; rfl, rfl⟩
theorem grel_more2 {L : List UInt8} {k acc acc' e : Nat} {x : UInt8} (hk : k ≤ 9) (hL : L[k]? = some x) (hx : 128 ≤ x.toNat) (h : GRel L k acc)
    (he : e = (x.toNat % 128 * 2 ^ (7 * k)) % 18446744073709551616) (ha : acc' = (acc + e) % 18446744073709551616) : GRel L (k + 1) acc' := by
  rcases Nat.lt_or_ge k 9 with hk9 | hk9
  · refine grel_more hk hL hx h he ?_
    have hp := pow128_le8 k (by omega)
    have h1 := h.1 hk
    have hm : x.toNat % 128 * 128 ^ k ≤ 9151314442816847872 := Nat.le_trans (Nat.mul_le_mul (show x.toNat % 128 ≤ 127 by omega) hp) (by decide)
    rw [← pow128, Nat.mod_eq_of_lt (by omega)] at he
    rw [ha, Nat.mod_eq_of_lt (by omega), he, or_add _ _ _ h1]
  · obtain rfl : k = 9 := by omega
    have hg := grel_more hk hL hx h he rfl
    refine ⟨fun h => by omega, ?_⟩
    rw [hg.2]
    simp [getF]
theorem grel_accept2 {L : List UInt8} {k acc acc' e : Nat} {x : UInt8} (hk : k ≤ 9) (hL : L[k]? = some x) (hx : x.toNat < 128) (h : GRel L k acc) (hr : ¬ ((x.toNat = 0 ∧ 0 < k) ∨ (1 < x.toNat ∧ k = 9)))
    (he : e = (x.toNat % 128 * 2 ^ (7 * k)) % 18446744073709551616) (ha : acc' = (acc + e) % 18446744073709551616) : getF 10 true L = some (acc', k + 1) := by
  have h1 := h.1 hk
  have hp := pow128_le k hk
  have hm : x.toNat * 128 ^ k ≤ 9223372036854775808 := by
    rcases Nat.lt_or_ge k 9 with hk9 | hk9
    · have := pow128_le8 k (by omega)
      exact Nat.le_trans (Nat.mul_le_mul (show x.toNat ≤ 128 by omega) this) (by decide)
    · have : x.toNat ≤ 1 := by
        rcases Nat.lt_or_ge 1 x.toNat with h2 | h2
        · exact absurd (Or.inr ⟨h2, by omega⟩) hr
        · exact h2
      exact Nat.le_trans (Nat.mul_le_mul this hp) (by decide)
  refine (grel_accept hk hL hx h hr he ?_).1
  rw [← pow128, Nat.mod_eq_of_lt hx, Nat.mod_eq_of_lt (by omega)] at he
  rw [ha, Nat.mod_eq_of_lt (by omega), he, or_add _ _ _ h1]
theorem u64_add (a b : Nat) : IntKind.u64.wrap ((a : Int) + (b : Int)) = (((a + b) % 18446744073709551616 : Nat) : Int) := by
  rw [← u64_wrap_nat]
  congr 1
theorem rzag_even (u : Nat) (hp : u % 2 = 0) : (u : Int) / 2 = zag u := by unfold zag; rw [if_neg (by omega)]; omega
theorem rzag_odd (u : Nat) (hp : u % 2 = 1) : -((u : Int) / 2) - 1 = zag u := by unfold zag; rw [if_pos hp]; omega
set_option maxHeartbeats 1000000 in
theorem rget_in (s : ByteArray) (a : Nat) (w : World) (hs : s.size ≤ maxLen) (ha : a < s.size) :
    Calls Tryd.prog 14 #[.string s, .int .i64 a] w fun e w' => e = getEnd (getR s.data.toList a) ∧ w = w' := by
  unfold maxLen at hs
  have ha0 : decide ((a : Int) < 0) = false := by simp
  have ha1 : decide (s.size ≤ a) = false := by simp; omega
  generalize hr : getEnd (getR s.data.toList a) = R
  have HR := Lib.hid hr
  clear hr
  have hL : s.data.toList.length = s.size := Array.length_toList
  have HL := Lib.hid hL
  clear hL
  go_enter Tryd.func14, Tryd.ntmps14
  go_wp2
  go_loop [7, 8, 9, 10] (fun v j _ _ => ∃ k acc : Nat, k ≤ 10 ∧ (k : Int) ≤ (s.size : Int) - a ∧ j = .int .i64 k ∧ v = .int .u64 acc ∧ acc < 18446744073709551616 ∧ Hid (GRel (s.data.toList.drop a) k acc)) (fun _ j _ _ => 10 - (intOf j).toNat)
  case atStart => exact ⟨0, 0, by omega, by omega, rfl, rfl, by omega, Lib.hid (grel_zero _)⟩
  case round =>
    obtain ⟨k, acc, hk, hka, rfl, rfl, hacc, hg⟩ := hrel
    by_cases hkm : k < 10 ∧ a + k < s.size
    · obtain ⟨hk10, hks⟩ := hkm
      have HB := Lib.hid (byte_at s a k hks)
      have hks' : decide ((a : Int) + k < s.size) = true := by simp; omega
      obtain ⟨b, hb⟩ : ∃ b : Nat, s[a + k].toNat = b := ⟨_, rfl⟩
      have hb256 : b < 256 := by rw [← hb]; exact UInt8.toNat_lt _
      obtain ⟨d, hd⟩ : ∃ d : Nat, b % 128 = d := ⟨_, rfl⟩
      have hd128 : d < 128 := by omega
      have hmod : (b : Int) % 128 = d := by omega
      obtain ⟨e, he⟩ : ∃ e : Nat, d * 2 ^ (7 * k) % 18446744073709551616 = e := ⟨_, rfl⟩
      have he64 : e < 18446744073709551616 := by rw [← he]; exact Nat.mod_lt _ (by decide)
      have hshl := u64_shl d k
      rw [he] at hshl
      obtain ⟨acc', hac⟩ : ∃ acc' : Nat, (acc + e) % 18446744073709551616 = acc' := ⟨_, rfl⟩
      have hac64 : acc' < 18446744073709551616 := by rw [← hac]; exact Nat.mod_lt _ (by decide)
      have hadd := u64_add acc e
      rw [hac] at hadd
      rw [← hd, ← hb] at he
      have HE := Lib.hid he
      have HA := Lib.hid hac
      by_cases hc : 127 < b
      · have hcI : decide ((128 : Int) ≤ b) = true := by simp; omega
        have hg' := Lib.hid (grel_more2 (show k ≤ 9 by omega) HB.out (by rw [hb]; omega) hg.out HE.out.symm HA.out.symm)
        by_cases hrej : 1 < d ∧ k = 9
        · obtain ⟨r1, r2⟩ := hrej
          have hfin := Lib.hid (getR_none s.data.toList a (grel_end (k := 10) (r2 ▸ hg'.out) (Or.inl rfl)))
          rw [hfin.out] at HR
          have r3 : ((k : Int) == 9) = true := by simp; omega
          have r4 : decide ((1 : Int) < d) = true := by simp; omega
          clear he hac hd r1 r2
          go_wp2
          all_goals (go_ret3; exact ⟨HR.out, rfl⟩)
        · by_cases h9 : k = 9
          · have r3 : ((k : Int) == 9) = true := by simp; omega
            have r4 : (d : Int) ≤ 1 := by omega
            clear he hac hd hrej
            have hk11 : k + 1 ≤ 10 := by omega
            have hk12 : ((k + 1 : Nat) : Int) ≤ (s.size : Int) - a := by omega
            have H11 := Lib.hid hk11
            have H12 := Lib.hid hk12
            have HM : Hid (10 - (k + 1) < 10 - k) := Lib.hid (by omega)
            clear h9 hk11 hk12
            go_wp2
            all_goals go_round
            case rel => exact ⟨k + 1, acc', H11.out, H12.out, by go_num, rfl, hac64, hg'⟩
            case measure => simp [intOf]; omega
          · have r3 : ((k : Int) == 9) = false := by simp; omega
            clear he hac hd hrej h9
            go_wp2
            go_round
            case rel => exact ⟨k + 1, acc', by omega, by omega, by go_num, rfl, hac64, hg'⟩
            case measure => simp [intOf]; omega
      · have hcI : decide ((128 : Int) ≤ b) = false := by simp; omega
        have hdb : d = b := by omega
        by_cases hrej : (s[a + k].toNat = 0 ∧ 0 < k) ∨ (1 < s[a + k].toNat ∧ k = 9)
        · have hfin := Lib.hid (getR_none s.data.toList a (grel_reject (show k ≤ 9 by omega) HB.out (by rw [hb]; omega) hg.out hrej))
          rw [hfin.out] at HR
          rw [hb] at hrej
          by_cases r2 : 1 < b ∧ k = 9
          · have r3 : ((k : Int) == 9) = true := by simp; omega
            have r4 : decide ((1 : Int) < d) = true := by simp; omega
            clear he hac hd hrej r2 hdb
            go_wp2
            all_goals (go_ret3; exact ⟨HR.out, rfl⟩)
          · have r3 : ((b : Int) == 0) = true := by simp; omega
            have r4 : 0 < k := by omega
            have r5 : decide ((1 : Int) < d) = false := by simp; omega
            clear he hac hd hrej r2 hdb
            go_wp2
            all_goals (go_ret3; exact ⟨HR.out, rfl⟩)
        · have hfin := Lib.hid (getR_some1 s.data.toList a acc' k (by rw [HL.out]; exact ha) (grel_accept2 (show k ≤ 9 by omega) HB.out (by rw [hb]; omega) hg.out hrej HE.out.symm HA.out.symm))
          rw [hfin.out, getEnd_some] at HR
          have hacI0 : (0 : Int) ≤ acc' := by omega
          rw [hb] at hrej
          clear he hac hd
          rcases Nat.mod_two_eq_zero_or_one acc' with hp | hp
          · have hx2 := rzag_even acc' hp
            have hx1 : ((acc' : Int) % 2 == 1) = false := by simp; omega
            clear hp
            by_cases hb0 : b = 0
            · have r1 : ((b : Int) == 0) = true := by simp; omega
              have hk0 : k ≤ 0 := by omega
              have r3 : decide ((1 : Int) < d) = false := by simp; omega
              clear hb0 hrej hdb
              go_wp2
              all_goals (go_ret3; exact ⟨HR.out, rfl⟩)
            · have r4 : ((b : Int) == 0) = false := by simp; omega
              by_cases h9 : k = 9
              · have r3 : ((k : Int) == 9) = true := by simp; omega
                have r5 : decide ((1 : Int) < d) = false := by simp; omega
                clear hb0 hrej h9 hdb
                go_wp2
                all_goals (go_ret3; exact ⟨HR.out, rfl⟩)
              · have r3 : ((k : Int) == 9) = false := by simp; omega
                clear hb0 hrej h9 hdb
                go_wp2
                all_goals (go_ret3; exact ⟨HR.out, rfl⟩)
          · have hx2 := rzag_odd acc' hp
            have hx1 : ((acc' : Int) % 2 == 1) = true := by simp; omega
            clear hp
            by_cases hb0 : b = 0
            · have r1 : ((b : Int) == 0) = true := by simp; omega
              have hk0 : k ≤ 0 := by omega
              have r3 : decide ((1 : Int) < d) = false := by simp; omega
              clear hb0 hrej hdb
              go_wp2
              all_goals (go_ret3; exact ⟨HR.out, rfl⟩)
            · have r4 : ((b : Int) == 0) = false := by simp; omega
              by_cases h9 : k = 9
              · have r3 : ((k : Int) == 9) = true := by simp; omega
                have r5 : decide ((1 : Int) < d) = false := by simp; omega
                clear hb0 hrej h9 hdb
                go_wp2
                all_goals (go_ret3; exact ⟨HR.out, rfl⟩)
              · have r3 : ((k : Int) == 9) = false := by simp; omega
                clear hb0 hrej h9 hdb
                go_wp2
                all_goals (go_ret3; exact ⟨HR.out, rfl⟩)
    · have hfin := Lib.hid (getR_none s.data.toList a (grel_end hg.out (by rw [List.length_drop, HL.out]; omega)))
      rw [hfin.out] at HR
      by_cases h10 : k = 10
      · have h1 : decide ((k : Int) < 10) = false := by simp; omega
        clear hkm h10
        go_wp2
        go_ret3
        exact ⟨HR.out, rfl⟩
      · have h1 : decide ((k : Int) < 10) = true := by simp; omega
        have h2 : decide ((a : Int) + k < s.size) = false := by simp; omega
        clear hkm h10
        go_wp2
        go_ret3
        exact ⟨HR.out, rfl⟩
theorem rget_any (s : ByteArray) (a : Int) (w : World) (hs : s.size ≤ maxLen) :
    Calls Tryd.prog 14 #[.string s, .int .i64 a] w fun e w' => e = getEnd (getR s.data.toList a) ∧ w = w' := by
  by_cases h : a < 0 ∨ (s.size : Int) ≤ a
  · exact rget_out s a w hs h
  · obtain ⟨n, rfl⟩ := Int.eq_ofNat_of_zero_le (show 0 ≤ a by omega)
    exact rget_in s n w hs (by omega)
end Go.Proofs.YtmaambggjdjodaaDoor
