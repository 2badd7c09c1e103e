/- The reference's Do, Text and Parse. -/
import Derived.Test.YtmaambggjdjodaaDoorNumText
import Derived.Test.YtmaambggjdjodaaDoorNumDo
import Derived.Test.YtmaambggjdjodaaDoorRefPut
namespace Go.Proofs.YtmaambggjdjodaaDoor
open Go.RowKit
theorem rdo_7 (a b : Int) (w : World) : Calls Tryd.prog 12 #[.int .i64 7, .int .i64 a, .int .i64 b] w fun e w' => e = .returned (.tuple #[.int .i64 (doV 7 a b), .bool (doOk 7 b)]) ∧ w = w' := by
  go_enter Tryd.func12, Tryd.ntmps12
  go_wp2
  go_ret2
  exact ⟨rfl, rfl⟩
theorem rdo_8 (a b : Int) (w : World) : Calls Tryd.prog 12 #[.int .i64 8, .int .i64 a, .int .i64 b] w fun e w' => e = .returned (.tuple #[.int .i64 (doV 8 a b), .bool (doOk 8 b)]) ∧ w = w' := by
  go_enter Tryd.func12, Tryd.ntmps12
  go_wp2
  go_ret2
  exact ⟨rfl, rfl⟩
theorem rdo_9 (a b : Int) (w : World) : Calls Tryd.prog 12 #[.int .i64 9, .int .i64 a, .int .i64 b] w fun e w' => e = .returned (.tuple #[.int .i64 (doV 9 a b), .bool (doOk 9 b)]) ∧ w = w' := by
  go_enter Tryd.func12, Tryd.ntmps12
  go_wp2
  go_ret2
  exact ⟨rfl, rfl⟩
theorem rdo_10 (a b : Int) (w : World) : Calls Tryd.prog 12 #[.int .i64 10, .int .i64 a, .int .i64 b] w fun e w' => e = .returned (.tuple #[.int .i64 (doV 10 a b), .bool (doOk 10 b)]) ∧ w = w' := by
  by_cases h : b = 0
  · subst h
    go_enter Tryd.func12, Tryd.ntmps12
    go_wp2
    go_ret2
    exact ⟨rfl, rfl⟩
  · have h0 : (b == 0) = false := by simp; exact h
    have hv := Lib.hid (doV_div_f a b h)
    by_cases h1 : b = -1
    · have hv' : Ending.returned (.tuple #[.int .i64 (doV 10 a b), .bool (doOk 10 b)]) = .returned (.tuple #[.int .i64 (wrap64 (-a)), .bool true]) := by
        rw [hv.out, h1, Int.tdiv_neg, Int.tdiv_one]
      have HV := Lib.hid hv'
      have hb : (b == -1) = true := by simp; exact h1
      clear h1 hv' h
      go_enter Tryd.func12, Tryd.ntmps12
      go_wp2
      go_ret2
      exact ⟨by rw [HV.out]; rfl, rfl⟩
    · have hb : (b == -1) = false := by simp; exact h1
      clear h1
      go_enter Tryd.func12, Tryd.ntmps12
      go_wp2
      go_ret2
      exact ⟨by rw [hv.out]; rfl, rfl⟩
theorem rdo_11 (a b : Int) (w : World) : Calls Tryd.prog 12 #[.int .i64 11, .int .i64 a, .int .i64 b] w fun e w' => e = .returned (.tuple #[.int .i64 (doV 11 a b), .bool (doOk 11 b)]) ∧ w = w' := by
  by_cases h : b = 0
  · subst h
    go_enter Tryd.func12, Tryd.ntmps12
    go_wp2
    go_ret2
    exact ⟨rfl, rfl⟩
  · have h0 : (b == 0) = false := by simp; exact h
    have hv := Lib.hid (doV_rem_f a b h)
    by_cases h1 : b = -1
    · have hv' : Ending.returned (.tuple #[.int .i64 (doV 11 a b), .bool (doOk 11 b)]) = .returned (.tuple #[.int .i64 0, .bool true]) := by
        rw [hv.out, h1, Int.tmod_neg, Int.tmod_one]
      have HV := Lib.hid hv'
      have hb : (b == -1) = true := by simp; exact h1
      clear h1 hv' h
      go_enter Tryd.func12, Tryd.ntmps12
      go_wp2
      go_ret2
      exact ⟨by rw [HV.out]; rfl, rfl⟩
    · have hb : (b == -1) = false := by simp; exact h1
      clear h1
      go_enter Tryd.func12, Tryd.ntmps12
      go_wp2
      go_ret2
      exact ⟨by rw [hv.out]; rfl, rfl⟩
theorem rdo_12 (a b : Int) (w : World) : Calls Tryd.prog 12 #[.int .i64 12, .int .i64 a, .int .i64 b] w fun e w' => e = .returned (.tuple #[.int .i64 (doV 12 a b), .bool (doOk 12 b)]) ∧ w = w' := by
  by_cases h : a = b
  · subst h
    have hv := Lib.hid (doV_eq_t a)
    go_enter Tryd.func12, Tryd.ntmps12
    go_wp2
    go_ret2
    exact ⟨by rw [hv.out]; rfl, rfl⟩
  · have h0 : (a == b) = false := by simp; exact h
    have hv := Lib.hid (doV_eq_f a b h)
    clear h
    go_enter Tryd.func12, Tryd.ntmps12
    go_wp2
    go_ret2
    exact ⟨by rw [hv.out]; rfl, rfl⟩
theorem rdo_13 (a b : Int) (w : World) : Calls Tryd.prog 12 #[.int .i64 13, .int .i64 a, .int .i64 b] w fun e w' => e = .returned (.tuple #[.int .i64 (doV 13 a b), .bool (doOk 13 b)]) ∧ w = w' := by
  by_cases h : a < b
  · have hv := Lib.hid (doV_lt_t a b h)
    go_enter Tryd.func12, Tryd.ntmps12
    go_wp2
    go_ret2
    exact ⟨by rw [hv.out]; rfl, rfl⟩
  · have hv := Lib.hid (doV_lt_f a b h)
    go_enter Tryd.func12, Tryd.ntmps12
    go_wp2
    go_ret2
    exact ⟨by rw [hv.out]; rfl, rfl⟩
theorem rdo_other (op a b : Int) (w : World) (h : op < 7 ∨ 13 < op) : Calls Tryd.prog 12 #[.int .i64 op, .int .i64 a, .int .i64 b] w fun e w' => e = .returned (.tuple #[.int .i64 (doV op a b), .bool (doOk op b)]) ∧ w = w' := by
  have h7 : (op == 7) = false := by simp; omega
  have h8 : (op == 8) = false := by simp; omega
  have h9 : (op == 9) = false := by simp; omega
  have h10 : (op == 10) = false := by simp; omega
  have h11 : (op == 11) = false := by simp; omega
  have h12 : (op == 12) = false := by simp; omega
  have h13 : (op == 13) = false := by simp; omega
  have hv := Lib.hid (doV_other op a b h)
  clear h
  go_enter Tryd.func12, Tryd.ntmps12
  go_wp2
  go_ret2
  exact ⟨by rw [hv.out.1, hv.out.2]; rfl, rfl⟩
theorem rdo_any (op a b : Int) (w : World) : Calls Tryd.prog 12 #[.int .i64 op, .int .i64 a, .int .i64 b] w fun e w' => e = .returned (.tuple #[.int .i64 (doV op a b), .bool (doOk op b)]) ∧ w = w' := by
  by_cases h : op < 7 ∨ 13 < op
  · exact rdo_other op a b w h
  · have : op = 7 ∨ op = 8 ∨ op = 9 ∨ op = 10 ∨ op = 11 ∨ op = 12 ∨ op = 13 := by omega
    rcases this with rfl | rfl | rfl | rfl | rfl | rfl | rfl
    · exact rdo_7 a b w
    · exact rdo_8 a b w
    · exact rdo_9 a b w
    · exact rdo_10 a b w
    · exact rdo_11 a b w
    · exact rdo_12 a b w
    · exact rdo_13 a b w

theorem decDigits_step (U V : Nat) (t : List UInt8) (h : 9 < V) (he : Lib.decDigits U = Lib.decDigits V ++ t) : Lib.decDigits U = Lib.decDigits (V / 10) ++ ((48 + UInt8.ofNat (V % 10)) :: t) := by
  rw [he, Lib.decDigits, dif_neg (by omega), UInt8.ofNat_add]
  simp
theorem decDigits_last (U V : Nat) (t : List UInt8) (h : V ≤ 9) (he : Lib.decDigits U = Lib.decDigits V ++ t) : Lib.decDigits U = (48 + UInt8.ofNat V) :: t := by
  rw [he, Lib.decDigits, dif_pos (by omega), UInt8.ofNat_add]
  simp
theorem cat_cons (c : UInt8) (t : List UInt8) : (⟨#[c]⟩ : ByteArray) ++ (⟨t.toArray⟩ : ByteArray) = ⟨(c :: t).toArray⟩ := cat_list [c] t
theorem rdigits_any (U : Nat) (w : World) (hU : U < 18446744073709551616) :
    Calls Tryd.prog 27 #[.int .u64 (U : Int)] w fun e w' => e = .returned (.string ⟨(Lib.decDigits U).toArray⟩) ∧ Below w.heap.size w w' := by
  have hcv := run_convert_one (P := Tryd.prog) 50 5 9 Tryd.underlying50 Tryd.underlying5 Tryd.underlying9
  have hUl := Lib.hid (decDigits_len U 19 (by omega))
  go_enter Tryd.func27, Tryd.ntmps27
  go_wp2
  go_loopw [0, 3] (fun u s wr => ∃ (V : Nat) (t : List UInt8), u = .int .u64 V ∧ s = .string ⟨t.toArray⟩ ∧ V < 18446744073709551616 ∧ Hid (Lib.decDigits U = Lib.decDigits V ++ t) ∧ Below w.heap.size w wr) (fun u _ _ => (intOf u).toNat)
  case atStart => exact ⟨U, [], rfl, rfl, hU, Lib.hid (by simp), Below.refl _ _⟩
  case round =>
    obtain ⟨V, t, rfl, rfl, hV, he, hb⟩ := hrel
    have hl : t.length ≤ 20 := by
      have h1 := hUl.out
      rw [he.out, List.length_append] at h1
      omega
    by_cases h9 : 9 < V
    · have h9I : (9 : Int) < V := by omega
      have hs := Lib.hid (decDigits_step U V t h9 he.out)
      go_wp2
      go_roundw
      case rel => exact ⟨V / 10, _, by congr 1, rfl, by omega, hs, hb.alloc hb.size _⟩
      case measure => simp only [intOf]; omega
    · have h9I : (V : Int) ≤ 9 := by omega
      have hs := Lib.hid (decDigits_last U V t (by omega) he.out)
      go_wp2
      go_ret
      exact ⟨ret_str (by rw [hs.out, cat_cons]), hb.alloc hb.size _⟩
theorem rdigits_int (x : Int) (w : World) (h0 : 0 ≤ x) (h1 : x ≤ 18446744073709551615) :
    Calls Tryd.prog 27 #[.int .u64 x] w fun e w' => e = .returned (.string ⟨(Lib.decDigits x.toNat).toArray⟩) ∧ Below w.heap.size w w' := by
  obtain ⟨U, rfl⟩ := Int.eq_ofNat_of_zero_le h0
  exact rdigits_any U w (by omega)
theorem rtext_any (n : Int) (w : World) (h : InI64 n) : Calls Tryd.prog 20 #[.int .i64 n] w fun e w' => e = .returned (.string ⟨(Lib.itoa n).toArray⟩) ∧ Below w.heap.size w w' := by
  obtain ⟨h1, h2⟩ := h
  by_cases h0 : n < 0
  · have hl : (Lib.decDigits n.natAbs).length ≤ 20 := decDigits_len _ 19 (by omega)
    have hi : Hid (⟨(Lib.itoa n).toArray⟩ = (⟨#[45]⟩ : ByteArray) ++ ⟨(Lib.decDigits n.natAbs).toArray⟩) := Lib.hid (by unfold Lib.itoa; rw [if_pos h0, cat_cons])
    have hn : Hid ((-(n + 1) + 1).toNat = n.natAbs) := Lib.hid (by omega)
    go_enter Tryd.func20, Tryd.ntmps20
    go_wp2_with fail
    refine (rdigits_int _ _ (by omega) (by omega)).mono ?_
    rintro e w1 ⟨rfl, hb1⟩
    rw [hn.out]
    go_wp2
    go_ret
    exact ⟨ret_str (by rw [hi.out]), hb1⟩
  · have hi : Hid (Lib.itoa n = Lib.decDigits n.toNat) := Lib.hid (by unfold Lib.itoa; rw [if_neg h0])
    have h0' : 0 ≤ n := by omega
    clear h0
    go_enter Tryd.func20, Tryd.ntmps20
    go_wp2_with fail
    refine (rdigits_int _ _ (by omega) (by omega)).mono ?_
    rintro e w1 ⟨rfl, hb1⟩
    go_wp2
    go_ret
    exact ⟨ret_str (by rw [hi.out]), hb1⟩
end Go.Proofs.YtmaambggjdjodaaDoor
