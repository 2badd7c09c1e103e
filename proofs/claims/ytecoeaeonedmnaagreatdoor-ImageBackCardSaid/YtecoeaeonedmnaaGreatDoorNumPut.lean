/- num.Put comes to putL. -/
import Derived.Test.YtecoeaeonedmnaaGreatDoorProg
import Derived.Test.YtecoeaeonedmnaaGreatDoorZ1
namespace Go.Proofs.YtecoeaeonedmnaaGreatDoor
open Go.RowKit
/-- num.Put's ten bytes behind k rounds -/
def row10 (u k : Nat) : Array Value := ((List.range 10).map fun i => Value.int .u8 (if i < k then ((u / 128 ^ i % 128 + 128 : Nat) : Int) else 0)).toArray
def pre (u k : Nat) : List UInt8 := (List.range k).map fun i => UInt8.ofNat (u / 128 ^ i % 128 + 128)
theorem row10_size (u k : Nat) : (row10 u k).size = 10 := by simp [row10]
theorem row10_at (u k : Nat) (h : k < 10) : (row10 u k)[k]? = some (.int .u8 0) := by simp [row10, h]
theorem row10_set (u k : Nat) (h : k < 10) : (row10 u k).setIfInBounds k (.int .u8 (bits BinOp.or IntKind.u8 ((u : Int) / 128 ^ k % 256) 128)) = row10 u (k + 1) := by
  have e : bits BinOp.or IntKind.u8 ((u : Int) / 128 ^ k % 256) 128 = ((u / 128 ^ k % 128 + 128 : Nat) : Int) := by
    have e0 : ((u : Int) / 128 ^ k % 256) = ((u / 128 ^ k % 256 : Nat) : Int) := by simp
    rw [e0]
    generalize u / 128 ^ k = v
    rw [show (128 : Int) = ((128 : Nat) : Int) from rfl, u8_or_nat _ _ (by omega) (by omega)]
    congr 1
    have : ∀ x : Fin 256, x.val ||| 128 = x.val % 128 + 128 := by decide +kernel
    have h2 := this ⟨v % 256, by omega⟩
    simp only at h2
    rw [h2]
    omega
  rw [e]
  apply Array.ext_getElem?
  intro i
  simp only [row10, Array.getElem?_setIfInBounds, List.getElem?_toArray, List.getElem?_map, List.size_toArray, List.length_map, List.length_range]
  by_cases hi : k = i
  · subst hi
    rw [if_pos rfl, if_pos h]
    simp [h]
  · rw [if_neg hi]
    rcases Nat.lt_or_ge i 10 with h10 | h10
    · simp only [List.getElem?_range h10, Option.map_some]
      by_cases hik : i < k
      · rw [if_pos hik, if_pos (by omega)]
      · rw [if_neg hik, if_neg (by omega)]
    · simp [h10]
theorem pre_succ (u k : Nat) : pre u (k + 1) = pre u k ++ [UInt8.ofNat (u / 128 ^ k % 128 + 128)] := by simp [pre, List.range_succ]
theorem pre_step (u k : Nat) (hk : k < 10) (h : 127 < u / 128 ^ k) (hp : lebF 10 u = pre u k ++ lebF (10 - k) (u / 128 ^ k)) : lebF 10 u = pre u (k + 1) ++ lebF (10 - (k + 1)) (u / 128 ^ (k + 1)) := by
  rw [hp, pre_succ, show 10 - k = (10 - (k + 1)) + 1 by omega, lebF, if_neg (by omega), List.append_assoc, Nat.pow_succ, ← Nat.div_div_eq_div_mul]
  rfl
theorem pre_last (u k : Nat) (hk : k < 10) (h : ¬ 127 < u / 128 ^ k) (hp : lebF 10 u = pre u k ++ lebF (10 - k) (u / 128 ^ k)) : lebF 10 u = pre u k ++ [UInt8.ofNat (u / 128 ^ k)] := by
  rw [hp, show 10 - k = (10 - (k + 1)) + 1 by omega, lebF, if_pos (by omega)]
theorem pre_le (u k : Nat) (hk : k ≤ 9) (hu : u < 18446744073709551616) (h : 127 < u / 128 ^ k) : k < 9 := by
  rcases Nat.lt_or_ge k 9 with h1 | h1
  · exact h1
  · have : k = 9 := by omega
    subst this
    omega
theorem last_str (u k : Nat) (hk : k < 10) (h : ¬ 127 < u / 128 ^ k) (hp : lebF 10 u = pre u k ++ lebF (10 - k) (u / 128 ^ k)) :
    strOfNums (((List.range k).map fun i => ((u / 128 ^ i % 128 + 128 : Nat) : Int)) ++ [((u / 128 ^ k : Nat) : Int)]) = ⟨(lebF 10 u).toArray⟩ := by
  rw [pre_last u k hk h hp]
  unfold strOfNums pre
  congr 2
  rw [List.map_append, List.map_map]
  congr 1
theorem last_cell (w : World) (u k i : Nat) (hk : k < 10) (h : ¬ 127 < u / 128 ^ k) (hi : i < k + 1) (T : TypeId) :
    (w.alloc (.cells ((row10 u k).setIfInBounds k (.int .u8 ((u : Int) / 128 ^ k % 256))) T)).cell? ⟨w.heap.size, 0 + i, none⟩ = some (.int .u8 ((((List.range k).map fun i => ((u / 128 ^ i % 128 + 128 : Nat) : Int)) ++ [((u / 128 ^ k : Nat) : Int)]).getD i 0)) := by
  rw [World.cell?_alloc_new, Nat.zero_add, Array.getElem?_setIfInBounds]
  by_cases hik : k = i
  · subst hik
    rw [if_pos rfl, if_pos (by rw [row10_size]; omega), List.getD_eq_getElem?_getD, List.getElem?_append_right (by simp)]
    simp only [List.length_map, List.length_range, Nat.sub_self, List.getElem?_cons_zero, Option.getD_some]
    congr 2
    have e0 : ((u : Int) / 128 ^ k % 256) = ((u / 128 ^ k % 256 : Nat) : Int) := by simp
    rw [e0, Nat.mod_eq_of_lt (by omega)]
  · rw [if_neg hik, List.getD_eq_getElem?_getD, List.getElem?_append_left (by simp; omega)]
    simp only [row10, List.getElem?_toArray, List.getElem?_map, List.getElem?_range (show i < 10 by omega), Option.map_some, List.getElem?_range (show i < k by omega), Option.getD_some]
    rw [if_pos (by omega)]

theorem pre_int_lt (u k : Nat) (h : 127 < u / 128 ^ k) : (127 : Int) < (u : Int) / 128 ^ k := by exact_mod_cast h
theorem pre_int_le (u k : Nat) (h : ¬ 127 < u / 128 ^ k) : (u : Int) / 128 ^ k ≤ 127 := by
  have : u / 128 ^ k ≤ 127 := by omega
  exact_mod_cast this
set_option maxHeartbeats 400000 in
set_option maxRecDepth 100000 in
theorem put_core (n : Int) (u : Nat) (w : World) (h0 : 0 ≤ n ∨ n < 0) (hb0 : -9223372036854775808 ≤ n) (hb1 : n ≤ 9223372036854775807) (hz : Hid (zig n = u)) (hu : u < 18446744073709551616) :
    Calls Tryz.prog 41 #[.int .i64 n] w fun e w' => e = .returned (.string ⟨(lebF 10 u).toArray⟩) ∧ Below w.heap.size w w' := by
  have hst := Lib.hid (show lebF 10 u = pre u 0 ++ lebF (10 - 0) (u / 128 ^ 0) by simp [pre])
  rcases h0 with h0 | h0
  · have hx := zig_xor_pos n h0 hb1
    rw [hz.out] at hx
    clear hz
    go_enter Tryz.func41, Tryz.ntmps41
    go_wp2
    clear hx
    go_loopw [3, 5] (fun v c wr => ∃ k : Nat, k ≤ 9 ∧ c = .int .i64 k ∧ v = .int .u64 ((u / 128 ^ k : Nat) : Int) ∧ wr = w.alloc (.cells (row10 u k) 124) ∧ Hid (lebF 10 u = pre u k ++ lebF (10 - k) (u / 128 ^ k))) (fun _ c _ => 10 - (intOf c).toNat)
    case atStart => exact ⟨0, by omega, rfl, by simp, rfl, hst⟩
    case round =>
      obtain ⟨k, hk, rfl, rfl, rfl, hp⟩ := hrel
      have hs := row10_size u k
      have hg := row10_at u k (by omega)
      have hub : u / 128 ^ k < 18446744073709551616 := Nat.lt_of_le_of_lt (Nat.div_le_self _ _) hu
      by_cases hlt : 127 < u / 128 ^ k
      · have hk9 := pre_le u k hk hu hlt
        have hps := Lib.hid (pre_step u k (by omega) hlt hp.out)
        have hltI := pre_int_lt u k hlt
        go_wp2
        go_roundw
        case rel => exact ⟨k + 1, by omega, by go_num, by rw [Nat.pow_succ, ← Nat.div_div_eq_div_mul]; simp, by rw [row10_set u k (by omega)], hps⟩
        case measure => simp [intOf]; omega
      · have hltI := pre_int_le u k hlt
        have hsl : ∀ W : World, (Instr.sliceAt 124 (.pointer (some ⟨w.heap.size, 0, none⟩)) none (some (.int .i64 ((k : Int) + 1))) none).run Tryz.prog W = .ok (.slice (some ⟨w.heap.size, 0, none⟩) (k + 1) 10) W := fun W =>
          run_sliceAt_array_h W 124 ⟨w.heap.size, 0, none⟩ Tryz.underlying124 .i64 ((k : Int) + 1) (by omega) (by show _ ≤ ((10 : Nat) : Int); omega)
        have hcv := run_convert_bytes_arg (w.alloc (.cells ((row10 u k).setIfInBounds k (.int .u8 ((u : Int) / 128 ^ k % 256))) 124)) 38 5 Tryz.underlying38 Tryz.underlying5 w.heap.size 0 (k + 1) 10
          (((List.range k).map fun i => ((u / 128 ^ i % 128 + 128 : Nat) : Int)) ++ [((u / 128 ^ k : Nat) : Int)]) (by simp) (fun i hi => last_cell w u k i (by omega) hlt hi _) 9 Tryz.underlying9
        rw [last_str u k (by omega) hlt hp.out] at hcv
        go_wp2
        go_ret
        exact ⟨rfl, (Below.refl _ _).alloc (Nat.le_refl _) _⟩
  · have hx := zig_xor_neg n h0 hb0
    rw [hz.out] at hx
    clear hz
    go_enter Tryz.func41, Tryz.ntmps41
    go_wp2
    clear hx
    go_loopw [3, 5] (fun v c wr => ∃ k : Nat, k ≤ 9 ∧ c = .int .i64 k ∧ v = .int .u64 ((u / 128 ^ k : Nat) : Int) ∧ wr = w.alloc (.cells (row10 u k) 124) ∧ Hid (lebF 10 u = pre u k ++ lebF (10 - k) (u / 128 ^ k))) (fun _ c _ => 10 - (intOf c).toNat)
    case atStart => exact ⟨0, by omega, rfl, by simp, rfl, hst⟩
    case round =>
      obtain ⟨k, hk, rfl, rfl, rfl, hp⟩ := hrel
      have hs := row10_size u k
      have hg := row10_at u k (by omega)
      have hub : u / 128 ^ k < 18446744073709551616 := Nat.lt_of_le_of_lt (Nat.div_le_self _ _) hu
      by_cases hlt : 127 < u / 128 ^ k
      · have hk9 := pre_le u k hk hu hlt
        have hps := Lib.hid (pre_step u k (by omega) hlt hp.out)
        have hltI := pre_int_lt u k hlt
        go_wp2
        go_roundw
        case rel => exact ⟨k + 1, by omega, by go_num, by rw [Nat.pow_succ, ← Nat.div_div_eq_div_mul]; simp, by rw [row10_set u k (by omega)], hps⟩
        case measure => simp [intOf]; omega
      · have hltI := pre_int_le u k hlt
        have hsl : ∀ W : World, (Instr.sliceAt 124 (.pointer (some ⟨w.heap.size, 0, none⟩)) none (some (.int .i64 ((k : Int) + 1))) none).run Tryz.prog W = .ok (.slice (some ⟨w.heap.size, 0, none⟩) (k + 1) 10) W := fun W =>
          run_sliceAt_array_h W 124 ⟨w.heap.size, 0, none⟩ Tryz.underlying124 .i64 ((k : Int) + 1) (by omega) (by show _ ≤ ((10 : Nat) : Int); omega)
        have hcv := run_convert_bytes_arg (w.alloc (.cells ((row10 u k).setIfInBounds k (.int .u8 ((u : Int) / 128 ^ k % 256))) 124)) 38 5 Tryz.underlying38 Tryz.underlying5 w.heap.size 0 (k + 1) 10
          (((List.range k).map fun i => ((u / 128 ^ i % 128 + 128 : Nat) : Int)) ++ [((u / 128 ^ k : Nat) : Int)]) (by simp) (fun i hi => last_cell w u k i (by omega) hlt hi _) 9 Tryz.underlying9
        rw [last_str u k (by omega) hlt hp.out] at hcv
        go_wp2
        go_ret
        exact ⟨rfl, (Below.refl _ _).alloc (Nat.le_refl _) _⟩
theorem put_any (n : Int) (w : World) (h : InI64 n) : Calls Tryz.prog 41 #[.int .i64 n] w fun e w' => e = .returned (.string ⟨(putL n).toArray⟩) ∧ Below w.heap.size w w' :=
  put_core n (zig n) w (by omega) h.1 h.2 (Lib.hid rfl) (zig_lt n h)
end Go.Proofs.YtecoeaeonedmnaaGreatDoor
