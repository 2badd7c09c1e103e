/- The reference's Put comes to putL. -/
import Derived.Test.YtmaambggjdjodaaDoorProg
import Derived.Test.YtmaambggjdjodaaDoorLib
import Derived.Test.YtmaambggjdjodaaDoorNumPut
namespace Go.Proofs.YtmaambggjdjodaaDoor
open Go.RowKit
theorem rzig_any (n : Int) (w : World) (h : InI64 n) : Calls Tryd.prog 25 #[.int .i64 n] w fun e w' => e = .returned (.int .u64 (zig n : Nat)) ∧ w = w' := by
  obtain ⟨h1, h2⟩ := h
  by_cases h0 : 0 ≤ n
  · go_enter Tryd.func25, Tryd.ntmps25
    go_wp2
    go_ret
    exact ⟨ret_int (by unfold zig; rw [if_neg (by omega)]; omega), rfl⟩
  · have h0' : n < 0 := by omega
    clear h0
    go_enter Tryd.func25, Tryd.ntmps25
    go_wp2
    go_ret
    exact ⟨ret_int (by unfold zig; rw [if_pos h0']; omega), rfl⟩
theorem pre_length (u k : Nat) : (pre u k).length = k := by simp [pre]
theorem or128_val (u k : Nat) : UInt8.ofNat (bits BinOp.or IntKind.u8 ((u : Int) / 128 ^ k % 128) 128).toNat = UInt8.ofNat (u / 128 ^ k % 128 + 128) := by
  have e0 : ((u : Int) / 128 ^ k % 128) = ((u / 128 ^ k % 128 : Nat) : Int) := by simp
  rw [u8_or128_right _ (by omega) (by omega), e0]
  congr 1
theorem cat_list (a b : List UInt8) : (⟨a.toArray⟩ : ByteArray) ++ (⟨b.toArray⟩ : ByteArray) = ⟨(a ++ b).toArray⟩ := by
  apply ByteArray.ext
  rw [ByteArray.data_append]
  simp
theorem rput_core (n : Int) (u : Nat) (w : World) (hu : u < 18446744073709551616) (hz : ∀ w, Calls Tryd.prog 25 #[.int .i64 n] w fun e w' => e = .returned (.int .u64 (u : Nat)) ∧ w = w') :
    Calls Tryd.prog 18 #[.int .i64 n] w fun e w' => e = .returned (.string ⟨(lebF 10 u).toArray⟩) ∧ Below w.heap.size w w' := by
  have HZ := Lib.hid hz
  clear hz
  have hcv := run_convert_one (P := Tryd.prog) 50 5 9 Tryd.underlying50 Tryd.underlying5 Tryd.underlying9
  go_enter Tryd.func18, Tryd.ntmps18
  go_wp2_with (go_at_call 25; refine (HZ.out _).mono ?_; rintro e w' ⟨rfl, rfl⟩)
  go_loopw [3, 4] (fun v c wr => ∃ k : Nat, k ≤ 9 ∧ v = .int .u64 ((u / 128 ^ k : Nat) : Int) ∧ c = .string ⟨(pre u k).toArray⟩ ∧ Below w.heap.size w wr ∧ Hid (lebF 10 u = pre u k ++ lebF (10 - k) (u / 128 ^ k))) (fun v _ _ => (intOf v).toNat)
  case atStart => exact ⟨0, by omega, by simp, rfl, Below.refl _ _, Lib.hid (by simp [pre])⟩
  case round =>
    obtain ⟨k, hk, rfl, rfl, hb, hp⟩ := hrel
    have hub : u / 128 ^ k < 18446744073709551616 := Nat.lt_of_le_of_lt (Nat.div_le_self _ _) hu
    have hl : (pre u k).length ≤ 9 := by rw [pre_length]; exact hk
    have hq0 : 0 ≤ (u : Int) / 128 ^ k := by exact_mod_cast Nat.zero_le (u / 128 ^ k)
    have hq1 : (u : Int) / 128 ^ k ≤ 18446744073709551615 := by
      have e0 : ((u : Int) / 128 ^ k) = ((u / 128 ^ k : Nat) : Int) := by simp
      rw [e0]
      omega
    by_cases hlt : 127 < u / 128 ^ k
    · have hk9 := pre_le u k hk hu hlt
      have hltI : (128 : Int) ≤ (u : Int) / 128 ^ k := pre_int_lt u k hlt
      have hps := Lib.hid (pre_step u k (by omega) hlt hp.out)
      clear hub
      go_wp2
      go_roundw
      case rel => exact ⟨k + 1, by omega, by rw [Nat.pow_succ, ← Nat.div_div_eq_div_mul]; simp, by rw [or128_val, pre_succ]; exact congrArg Value.string (cat_list _ _), hb.alloc hb.size _, hps⟩
      case measure =>
        simp only [intOf]
        have : (u : Int) / 128 ^ k = ((u / 128 ^ k : Nat) : Int) := by simp
        omega
    · have hltI : decide ((128 : Int) ≤ (u : Int) / 128 ^ k) = false := by
        have := pre_int_le u k hlt
        simp only [decide_eq_false_iff_not]
        omega
      have hfin := Lib.hid (pre_last u k (by omega) hlt hp.out)
      have hle := pre_int_le u k hlt
      go_wp2
      go_ret
      refine ⟨ret_str ?_, hb.alloc hb.size _⟩
      rw [hfin.out]
      rw [← cat_list]
      congr 3
theorem rput_any (n : Int) (w : World) (h : InI64 n) : Calls Tryd.prog 18 #[.int .i64 n] w fun e w' => e = .returned (.string ⟨(putL n).toArray⟩) ∧ Below w.heap.size w w' :=
  rput_core n (zig n) w (zig_lt n h) fun w => rzig_any n w h
end Go.Proofs.YtmaambggjdjodaaDoor
