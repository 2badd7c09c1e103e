/- The reference's Text comes to itoa (the part of RefText that other seats take). -/
import Derived.Test.YthgmogaiigkgfaaDoorNumText
namespace Go.Proofs.YthgmogaiigkgfaaDoor
open Go.RowKit
theorem cat_list (a b : List UInt8) : (⟨a.toArray⟩ : ByteArray) ++ (⟨b.toArray⟩ : ByteArray) = ⟨(a ++ b).toArray⟩ := by
  apply ByteArray.ext
  rw [ByteArray.data_append]
  simp
theorem decDigits_step (U V : Nat) (t : List UInt8) (h : 9 < V) (he : Lib.decDigits U = Lib.decDigits V ++ t) : Lib.decDigits U = Lib.decDigits (V / 10) ++ ((48 + UInt8.ofNat (V % 10)) :: t) := by
  rw [he, Lib.decDigits, dif_neg (by omega), UInt8.ofNat_add]
  simp
theorem decDigits_last (U V : Nat) (t : List UInt8) (h : V ≤ 9) (he : Lib.decDigits U = Lib.decDigits V ++ t) : Lib.decDigits U = (48 + UInt8.ofNat V) :: t := by
  rw [he, Lib.decDigits, dif_pos (by omega), UInt8.ofNat_add]
  simp
theorem cat_cons (c : UInt8) (t : List UInt8) : (⟨#[c]⟩ : ByteArray) ++ (⟨t.toArray⟩ : ByteArray) = ⟨(c :: t).toArray⟩ := cat_list [c] t
theorem rdigits_any (U : Nat) (w : World) (hU : U < 18446744073709551616) :
    Calls Tryd.prog 35 #[.int .u64 (U : Int)] w fun e w' => e = .returned (.string ⟨(Lib.decDigits U).toArray⟩) ∧ Below w.heap.size w w' := by
  have hcv := run_convert_one (P := Tryd.prog) 33 5 9 Tryd.underlying33 Tryd.underlying5 Tryd.underlying9
  have hUl := Lib.hid (decDigits_len U 19 (by omega))
  go_enter Tryd.func35, Tryd.ntmps35
  go_wp2
  go_loopw [0, 3] (fun u s wr => ∃ (V : Nat) (t : List UInt8), u = .int .u64 V ∧ s = .string ⟨t.toArray⟩ ∧ V < 18446744073709551616 ∧ Hid (Lib.decDigits U = Lib.decDigits V ++ t) ∧ Below w.heap.size w wr) (fun u _ _ => (intOf u).toNat)
  case atStart => exact ⟨U, [], rfl, rfl, hU, Lib.hid (by simp), Below.refl _ _⟩
  case round =>
    obtain ⟨V, t, rfl, rfl, hV, he, hb⟩ := hrel
    have hl : t.length ≤ 20 := by
      have h1 := hUl.out
      rw [he.out, List.length_append] at h1
      omega
    by_cases h9 : 9 < V
    · have h9I : (9 : Int) < V := by omega
      have hs := Lib.hid (decDigits_step U V t h9 he.out)
      go_wp2
      go_roundw
      case rel => exact ⟨V / 10, _, by congr 1, rfl, by omega, hs, hb.alloc hb.size _⟩
      case measure => simp only [intOf]; omega
    · have h9I : (V : Int) ≤ 9 := by omega
      have hs := Lib.hid (decDigits_last U V t (by omega) he.out)
      go_wp2
      go_ret
      exact ⟨ret_str (by rw [hs.out, cat_cons]), hb.alloc hb.size _⟩
theorem rdigits_int (x : Int) (w : World) (h0 : 0 ≤ x) (h1 : x ≤ 18446744073709551615) :
    Calls Tryd.prog 35 #[.int .u64 x] w fun e w' => e = .returned (.string ⟨(Lib.decDigits x.toNat).toArray⟩) ∧ Below w.heap.size w w' := by
  obtain ⟨U, rfl⟩ := Int.eq_ofNat_of_zero_le h0
  exact rdigits_any U w (by omega)
theorem rtext_any (n : Int) (w : World) (h : InI64 n) : Calls Tryd.prog 24 #[.int .i64 n] w fun e w' => e = .returned (.string ⟨(Lib.itoa n).toArray⟩) ∧ Below w.heap.size w w' := by
  obtain ⟨h1, h2⟩ := h
  by_cases h0 : n < 0
  · have hl : (Lib.decDigits n.natAbs).length ≤ 20 := decDigits_len _ 19 (by omega)
    have hi : Hid (⟨(Lib.itoa n).toArray⟩ = (⟨#[45]⟩ : ByteArray) ++ ⟨(Lib.decDigits n.natAbs).toArray⟩) := Lib.hid (by unfold Lib.itoa; rw [if_pos h0, cat_cons])
    have hn : Hid ((-(n + 1) + 1).toNat = n.natAbs) := Lib.hid (by omega)
    go_enter Tryd.func24, Tryd.ntmps24
    go_wp2_with fail
    refine (rdigits_int _ _ (by omega) (by omega)).mono ?_
    rintro e w1 ⟨rfl, hb1⟩
    rw [hn.out]
    go_wp2
    go_ret
    exact ⟨ret_str (by rw [hi.out]), hb1⟩
  · have hi : Hid (Lib.itoa n = Lib.decDigits n.toNat) := Lib.hid (by unfold Lib.itoa; rw [if_neg h0])
    have h0' : 0 ≤ n := by omega
    clear h0
    go_enter Tryd.func24, Tryd.ntmps24
    go_wp2_with fail
    refine (rdigits_int _ _ (by omega) (by omega)).mono ?_
    rintro e w1 ⟨rfl, hb1⟩
    go_wp2
    go_ret
    exact ⟨ret_str (by rw [hi.out]), hb1⟩
end Go.Proofs.YthgmogaiigkgfaaDoor
