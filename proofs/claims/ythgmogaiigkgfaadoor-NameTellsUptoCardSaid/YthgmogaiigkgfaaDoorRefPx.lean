/- The reference's Parse comes to parseS. -/
import Derived.Test.YthgmogaiigkgfaaDoorRefTx
import Derived.Lib.IndexBytes
namespace Go.Proofs.YthgmogaiigkgfaaDoor
open Go.RowKit
theorem wrap64_inI (x : Int) : InI64 (wrap64 x) := by unfold InI64 wrap64; omega
def rN (l : List UInt8) : Int := if minus l then wrap64 (-(wrap64 ((rv l l.length % 18446744073709551616 : Nat) : Int))) else wrap64 ((rv l l.length % 18446744073709551616 : Nat) : Int)
theorem rN_in (l : List UInt8) : InI64 (rN l) := by unfold rN; split <;> exact wrap64_inI _
theorem rN_itoa (n : Int) (h : InI64 n) : rN (Lib.itoa n) = n := by
  obtain ⟨h1, h2⟩ := rv_itoa n
  obtain ⟨h3, h4⟩ := h
  unfold rN
  rw [h1]
  by_cases hm : n < 0
  · rw [if_pos (h2.2 hm)]
    unfold wrap64
    omega
  · rw [if_neg (fun e => hm (h2.1 e))]
    unfold wrap64
    omega
theorem rparse_fin (l : List UInt8) : parseS l = if Lib.itoa (rN l) = l then some (rN l) else none := by
  split
  · rename_i h
    exact parseS_eq l _ (rN_in l) h
  · rename_i h
    refine parseS_none l fun n hn e => h ?_
    rw [← e, rN_itoa n hn]
theorem rparse_bad (l : List UInt8) (k : Nat) (c : UInt8) (h : l[k]? = some c) (hd : ¬ isDig c) (hm : ¬ (k = 0 ∧ minus l)) : parseS l = none := by
  refine parseS_none l fun n hn e => ?_
  subst e
  rcases itoa_bytes n k c h with h1 | ⟨h1, h2⟩
  · exact hd h1
  · subst h1
    subst h2
    exact hm ⟨rfl, h⟩
theorem rv_step64 (l : List UInt8) (k : Nat) (c : UInt8) (hc : l[k]? = some c) (hd : isDig c) (h : ¬ (k = 0 ∧ minus l)) :
    IntKind.u64.wrap (IntKind.u64.wrap (((rv l k % 18446744073709551616 : Nat) : Int) * 10) + ((c.toNat : Int) - 48)) = ((rv l (k + 1) % 18446744073709551616 : Nat) : Int) := by
  unfold isDig at hd
  rw [rv_step l k c hc h]
  simp only [IntKind.wrap_u64]
  omega
theorem minus_iff (s : ByteArray) (h : 0 < s.size) : minus s.data.toList ↔ s[0].toNat = 45 := by
  unfold minus
  rw [Lib.data_getElem? s 0 h]
  constructor
  · intro e
    have := Option.some.inj e
    rw [this]
    rfl
  · intro e
    congr 1
    exact UInt8.toNat_inj.1 e
theorem rparse_out (s : ByteArray) (w : World) (_hm : s.size ≤ maxLen) (h : s.size = 0 ∨ 20 < s.size) :
    Calls Tryd.prog 27 #[.string s] w fun e w' => e = parseEnd (parseS s.data.toList) ∧ w = w' := by
  have hlen : s.data.toList.length = s.size := Array.length_toList
  have hfin : parseS s.data.toList = none := parseS_none _ fun n hn e => by
    have h1 := itoa_len n hn
    have h2 := itoa_ne n
    rw [e] at h1 h2
    rcases h with h | h
    · exact h2 (List.eq_nil_of_length_eq_zero (by omega))
    · omega
  have HF := Lib.hid hfin
  clear hfin hlen
  unfold maxLen at _hm
  rcases h with h | h
  · have h0 : ((s.size : Int) == 0) = true := beq_iff_eq.2 (by omega)
    clear h
    go_enter Tryd.func27, Tryd.ntmps27
    go_wp2
    go_ret2
    exact ⟨by rw [HF.out]; rfl, rfl⟩
  · have h0 : ((s.size : Int) == 0) = false := beq_eq_false_iff_ne.2 (by omega)
    have h1 : (20 : Int) < s.size := by omega
    clear h
    go_enter Tryd.func27, Tryd.ntmps27
    go_wp2
    go_ret2
    exact ⟨by rw [HF.out]; rfl, rfl⟩
set_option maxHeartbeats 1000000 in
theorem rparse_in (s : ByteArray) (w : World) (h0 : 0 < s.size) (h20 : s.size ≤ 20) :
    Calls Tryd.prog 27 #[.string s] w fun e w' => e = parseEnd (parseS s.data.toList) ∧ Below w.heap.size w w' := by
  have hne : ((s.size : Int) == 0) = false := beq_eq_false_iff_ne.2 (by omega)
  have h20I : (s.size : Int) ≤ 20 := by omega
  obtain ⟨l, hl⟩ : ∃ l, s.data.toList = l := ⟨_, rfl⟩
  have hlen : l.length = s.size := by rw [← hl]; exact Array.length_toList
  have HL := Lib.hid hl
  have HLEN := Lib.hid hlen
  have hmin := minus_iff s h0
  rw [hl] at hmin ⊢
  have HM := Lib.hid hmin
  obtain ⟨b0, hb0⟩ : ∃ b : Nat, s[0].toNat = b := ⟨_, rfl⟩
  have HB0 := Lib.hid hb0
  generalize hr : parseEnd (parseS l) = R
  have HR := Lib.hid hr
  clear hr hl hlen hmin
  go_enter Tryd.func27, Tryd.ntmps27
  go_wp2
  go_loop [4, 5] (fun v j => ∃ k U : Nat, k ≤ s.size ∧ j = .int .i64 k ∧ v = .int .u64 U ∧ U < 18446744073709551616 ∧ Hid (rv l k % 18446744073709551616 = U)) (fun _ j => s.size - (intOf j).toNat)
  case atStart => exact ⟨0, 0, by omega, rfl, rfl, by omega, Lib.hid (by rw [rv_zero])⟩
  case round =>
    obtain ⟨k, U, hk, rfl, rfl, hU, hrv⟩ := hrel
    by_cases hks : k < s.size
    · have hksI : (k : Int) < s.size := by omega
      have hget : l[k]? = some s[k] := by rw [← HL.out]; exact Lib.data_getElem? s k hks
      have HG := Lib.hid hget
      clear hget
      obtain ⟨b, hb⟩ : ∃ b : Nat, s[k].toNat = b := ⟨_, rfl⟩
      have hb256 : b < 256 := by rw [← hb]; exact UInt8.toNat_lt _
      have HB := Lib.hid hb
      by_cases hA : k = 0 ∧ b0 = 45
      · obtain ⟨hA1, hA2⟩ := hA
        have hnew : rv l (k + 1) % 18446744073709551616 = U := by
          rw [hA1, rv_minus l (HM.out.2 (by rw [HB0.out]; exact hA2)), ← hrv.out, hA1, rv_zero]
        have HN := Lib.hid hnew
        have t1 : ((k : Int) == 0) = true := by simp; exact hA1
        have t2 : ((b0 : Int) == 45) = true := by simp; omega
        clear hA1 hA2 hnew
        go_wp2
        go_round
        case rel => exact ⟨k + 1, U, by omega, by go_num, rfl, hU, HN⟩
        case measure => simp [intOf]; omega
      · have hA' : ¬ (k = 0 ∧ minus l) := fun ⟨e1, e2⟩ => hA ⟨e1, by rw [← HB0.out]; exact HM.out.1 e2⟩
        have HA := Lib.hid hA'
        clear hA'
        by_cases hd : 48 ≤ b ∧ b ≤ 57
        · have hdd : isDig s[k] := by unfold isDig; rw [HB.out]; exact hd
          have hst := rv_step64 l k s[k] HG.out hdd HA.out
          rw [hrv.out, HB.out] at hst
          obtain ⟨V, hV⟩ : ∃ V : Nat, rv l (k + 1) % 18446744073709551616 = V := ⟨_, rfl⟩
          have hV64 : V < 18446744073709551616 := by rw [← hV]; exact Nat.mod_lt _ (by decide)
          rw [hV] at hst
          have HV := Lib.hid hV
          have hd1 : (48 : Int) ≤ b := by omega
          have hd2 : (b : Int) ≤ 57 := by omega
          clear hV hdd hd
          by_cases hk0 : k = 0
          · have t1 : ((k : Int) == 0) = true := by simp; exact hk0
            have t2 : ((b0 : Int) == 45) = false := by simp; omega
            clear hA hk0
            go_wp2
            go_round
            case rel => exact ⟨k + 1, V, by omega, by go_num, rfl, hV64, HV⟩
            case measure => simp [intOf]; omega
          · have t1 : ((k : Int) == 0) = false := by simp; exact hk0
            clear hA hk0
            go_wp2
            go_round
            case rel => exact ⟨k + 1, V, by omega, by go_num, rfl, hV64, HV⟩
            case measure => simp [intOf]; omega
        · have hbad := rparse_bad l k s[k] HG.out (by unfold isDig; rw [HB.out]; exact hd) HA.out
          have HR2 := Lib.hid hbad
          clear hbad
          have hdb : (b : Int) < 48 ∨ (57 : Int) < b := by omega
          clear hd
          by_cases hk0 : k = 0
          · have t1 : ((k : Int) == 0) = true := by simp; exact hk0
            have t2 : ((b0 : Int) == 45) = false := by simp; omega
            clear hA hk0
            rcases hdb with hdb | hdb
            all_goals
              go_wp2
              go_ret2
              exact ⟨by rw [← HR.out, HR2.out]; rfl, Below.refl _ _⟩
          · have t1 : ((k : Int) == 0) = false := by simp; exact hk0
            clear hA hk0
            rcases hdb with hdb | hdb
            all_goals
              go_wp2
              go_ret2
              exact ⟨by rw [← HR.out, HR2.out]; rfl, Below.refl _ _⟩
    · have hksI : (s.size : Int) ≤ k := by omega
      have hfull : rv l l.length % 18446744073709551616 = U := by rw [HLEN.out, ← show k = s.size by omega]; exact hrv.out
      have hfin := rparse_fin l
      by_cases hm : b0 = 45
      · have hN : rN l = wrap64 (-(wrap64 (U : Int))) := by
          unfold rN
          rw [if_pos (HM.out.2 (by rw [HB0.out]; exact hm)), hfull]
        have HN := Lib.hid hN
        have t2 : ((b0 : Int) == 45) = true := by simp; omega
        rw [hN, ← HL.out] at hfin
        have HF := Lib.hid hfin
        clear hfull hm hN hfin
        by_cases hi : Lib.itoa (wrap64 (-(wrap64 (U : Int)))) = s.data.toList
        · have hq := str_beq hi
          have HE : Hid (Ending.returned (.tuple #[.int .i64 (wrap64 (-(wrap64 (U : Int)))), .bool true]) = R) := by
            have h1 := HR.out
            rw [← HL.out, HF.out, if_pos hi, parseEnd_some] at h1
            exact Lib.hid h1
          clear hi
          go_wp2_with fail
          refine (rtext_any _ _ (wrap64_inI _)).mono ?_
          rintro e w1 ⟨rfl, hb1⟩
          go_wp2_with fail
          go_ret2
          exact ⟨HE.out, hb1⟩
        · have hq := str_bne hi
          have HE : Hid (Ending.returned (.tuple #[.int .i64 0, .bool false]) = R) := by
            have h1 := HR.out
            rw [← HL.out, HF.out, if_neg hi, parseEnd_none] at h1
            exact Lib.hid h1
          clear hi
          go_wp2_with fail
          refine (rtext_any _ _ (wrap64_inI _)).mono ?_
          rintro e w1 ⟨rfl, hb1⟩
          go_wp2_with fail
          go_ret2
          exact ⟨HE.out, hb1⟩
      · have hN : rN l = wrap64 (U : Int) := by
          unfold rN
          rw [if_neg (fun e => hm (by rw [← HB0.out]; exact HM.out.1 e)), hfull]
        have HN := Lib.hid hN
        have t2 : ((b0 : Int) == 45) = false := by simp; omega
        rw [hN, ← HL.out] at hfin
        have HF := Lib.hid hfin
        clear hfull hm hN hfin
        by_cases hi : Lib.itoa (wrap64 (U : Int)) = s.data.toList
        · have hq := str_beq hi
          have HE : Hid (Ending.returned (.tuple #[.int .i64 (wrap64 (U : Int)), .bool true]) = R) := by
            have h1 := HR.out
            rw [← HL.out, HF.out, if_pos hi, parseEnd_some] at h1
            exact Lib.hid h1
          clear hi
          go_wp2_with fail
          refine (rtext_any _ _ (wrap64_inI _)).mono ?_
          rintro e w1 ⟨rfl, hb1⟩
          go_wp2_with fail
          go_ret2
          exact ⟨HE.out, hb1⟩
        · have hq := str_bne hi
          have HE : Hid (Ending.returned (.tuple #[.int .i64 0, .bool false]) = R) := by
            have h1 := HR.out
            rw [← HL.out, HF.out, if_neg hi, parseEnd_none] at h1
            exact Lib.hid h1
          clear hi
          go_wp2_with fail
          refine (rtext_any _ _ (wrap64_inI _)).mono ?_
          rintro e w1 ⟨rfl, hb1⟩
          go_wp2_with fail
          go_ret2
          exact ⟨HE.out, hb1⟩
theorem rparse_any (s : ByteArray) (w : World) (hm : s.size ≤ maxLen) :
    Calls Tryd.prog 27 #[.string s] w fun e w' => e = parseEnd (parseS s.data.toList) ∧ Below w.heap.size w w' := by
  by_cases h : s.size = 0 ∨ 20 < s.size
  · exact (rparse_out s w hm h).mono fun e w' ⟨he, hw⟩ => ⟨he, hw ▸ Below.refl _ _⟩
  · exact rparse_in s w (by omega) (by omega)
end Go.Proofs.YthgmogaiigkgfaaDoor
