/- num.Text and num.Parse come to Lib.itoa and parseS. -/
import Derived.Test.YtlkgcidhhngfeaaGreatDoorShelf
import Derived.Test.YtlkgcidhhngfeaaGreatDoorLaid
import Derived.Test.YtlkgcidhhngfeaaGreatDoorZ2
namespace Go.Proofs.YtlkgcidhhngfeaaGreatDoor
open Go.RowKit
theorem text_any (n : Int) (w : World) (h : InI64 n) (hw : Laid w) : Calls Tryz.prog 82 #[.int .i64 n] w fun e w' => e = .returned (.string ⟨(Lib.itoa n).toArray⟩) ∧ Below w.heap.size w w' := by
  obtain ⟨h0, h1⟩ := h
  go_enter Tryz.func82, Tryz.ntmps82
  go_wp2_with (go_at_call 108; refine (Go.Proofs.Tryz.strconv_FormatInt_10 n h0 h1 _ hw.1).mono ?_; rintro e w' ⟨rfl, k, os, rfl⟩)
  go_ret
  exact ⟨rfl, below_grow _ _ _⟩
theorem parseInt_ok (s : ByteArray) (v : Int) (w : World) (hs : s.size ≤ 9223372036854775806) (h : Lib.parseIntB 64 s.data.toList = .ok v) :
    Calls Tryz.prog 81 #[.string s, .int .i64 10, .int .i64 64] w fun e w' => e = .returned (.tuple #[.int .i64 v, .nilIface]) ∧ Below w.heap.size w w' :=
  (Go.Proofs.Tryz.strconv_ParseInt_10_at64_ok s hs v h w).mono fun e w' ⟨he, hw⟩ => ⟨he, by
    rcases hw with rfl | ⟨t, rfl⟩
    · exact Below.refl _ _
    · exact below_bytes _ _ _⟩
/-- an error, whatever it is -/
def ParseFails (w : World) (e : Ending) (w' : World) : Prop := ∃ (v : Int) (t : TypeId) (x : Value), e = .returned (.tuple #[.int .i64 v, .iface t x]) ∧ Below w.heap.size w w'
theorem numEnd_cases (x : Lib.NumEnd Int) : (∃ v, x = .ok v) ∨ x = .range ∨ x = Lib.parseIntB 64 [] := by
  cases x with
  | ok v => exact Or.inl ⟨v, rfl⟩
  | range => exact Or.inr (Or.inl rfl)
  | _ => exact Or.inr (Or.inr rfl)
theorem parseInt_bad (s : ByteArray) (w : World) (hs : s.size ≤ 281474976710656) (h : ∀ v, Lib.parseIntB 64 s.data.toList ≠ .ok v) (hw : Laid w) :
    Calls Tryz.prog 81 #[.string s, .int .i64 10, .int .i64 64] w (ParseFails w) := by
  obtain ⟨_, ⟨t2, p2, h2⟩, ⟨t3, p3, h3⟩⟩ := hw
  rcases numEnd_cases (Lib.parseIntB 64 s.data.toList) with ⟨v, hp⟩ | hp | hp
  · exact absurd hp (h v)
  · exact (Go.Proofs.Tryz.strconv_ParseInt_10_at64_range_var s hs hp t3 p3 w h3).mono fun e w' ⟨N, he, _, _, hb⟩ => ⟨_, _, _, he, hb⟩
  · exact (Go.Proofs.Tryz.strconv_ParseInt_10_at64_syntax_var s hs hp t2 p2 w h2).mono fun e w' ⟨N, he, _, _, hb⟩ => ⟨_, _, _, he, hb⟩
theorem str_beq {l : List UInt8} {s : ByteArray} (h : l = s.data.toList) : (l == s.toList) = true := by rw [beq_iff_eq, ByteArray.toList_eq, h]
theorem str_bne {l : List UInt8} {s : ByteArray} (h : l ≠ s.data.toList) : (l == s.toList) = false := by rw [beq_eq_false_iff_ne, ByteArray.toList_eq]; exact h
theorem parse_ok (s : ByteArray) (v : Int) (b : Bool) (w : World) (hs : s.size ≤ 20) (h : Lib.parseIntB 64 s.data.toList = .ok v) (hi : (Lib.itoa v == s.toList) = b) (hw : Laid w) :
    Calls Tryz.prog 68 #[.string s] w fun e w' => e = .returned (.tuple #[.int .i64 (if b then v else 0), .bool b]) ∧ Below w.heap.size w w' := by
  have hv := parseIntB_in _ v h
  have H := Lib.hid h
  clear h
  cases b
  all_goals
    go_enter Tryz.func68, Tryz.ntmps68
    go_wp2_with fail
    refine (parseInt_ok s v _ (by omega) H.out).mono ?_
    rintro e w1 ⟨rfl, hb1⟩
    have hw1 := hw.below hb1
    go_wp2_with fail
    refine (text_any v _ hv hw1).mono ?_
    rintro e w2 ⟨rfl, hb2⟩
    go_wp2_with fail
    go_ret2
    exact ⟨rfl, below_two hb1 hb2⟩
theorem parse_bad (s : ByteArray) (w : World) (hs : s.size ≤ 20) (h : ∀ v, Lib.parseIntB 64 s.data.toList ≠ .ok v) (hw : Laid w) :
    Calls Tryz.prog 68 #[.string s] w fun e w' => e = .returned (.tuple #[.int .i64 0, .bool false]) ∧ Below w.heap.size w w' := by
  have H := Lib.hid h
  clear h
  go_enter Tryz.func68, Tryz.ntmps68
  go_wp2_with fail
  refine (parseInt_bad s _ (by omega) H.out hw).mono ?_
  rintro e w1 ⟨v, t, x, rfl, hb1⟩
  go_wp2_with fail
  go_ret2
  exact ⟨rfl, hb1⟩
theorem parse_long (s : ByteArray) (w : World) (hs : 20 < (s.size : Int)) (_hm : s.size ≤ 9223372036854775807) :
    Calls Tryz.prog 68 #[.string s] w fun e w' => e = .returned (.tuple #[.int .i64 0, .bool false]) ∧ w = w' := by
  go_enter Tryz.func68, Tryz.ntmps68
  go_wp2_with fail
  go_ret2
  exact ⟨rfl, rfl⟩
theorem parse_any (s : ByteArray) (w : World) (hm : s.size ≤ maxLen) (hw : Laid w) :
    Calls Tryz.prog 68 #[.string s] w fun e w' => e = parseEnd (parseS s.data.toList) ∧ Below w.heap.size w w' := by
  have hlen : s.data.toList.length = s.size := Array.length_toList
  by_cases hs : s.size ≤ 20
  · rcases numEnd_cases (Lib.parseIntB 64 s.data.toList) with ⟨v, hp⟩ | hp | hp
    · refine (parse_ok s v _ w hs hp rfl hw).mono fun e w' ⟨he, hb⟩ => ⟨?_, hb⟩
      subst he
      unfold parseS
      simp only [hp]
      by_cases hi : Lib.itoa v = s.data.toList
      · rw [str_beq hi, if_pos hi]
        rfl
      · rw [str_bne hi, if_neg hi]
        rfl
    · refine (parse_bad s w hs (fun v => by rw [hp]; simp) hw).mono fun e w' ⟨he, hb⟩ => ⟨?_, hb⟩
      subst he
      unfold parseS
      simp only [hp]
      rfl
    · refine (parse_bad s w hs (fun v => by rw [hp]; simp [Lib.parseIntB]) hw).mono fun e w' ⟨he, hb⟩ => ⟨?_, hb⟩
      subst he
      unfold parseS
      simp only [hp]
      rfl
  · refine (parse_long s w (by omega) (by unfold maxLen at hm; omega)).mono fun e w' ⟨he, hb⟩ => ⟨?_, hb ▸ Below.refl _ _⟩
    subst he
    rw [parseS_none]
    · rfl
    · intro n hn he
      have := itoa_len n hn
      rw [he] at this
      omega
def pV (r : Option Int) : Int := r.getD 0
def pO (r : Option Int) : Bool := r.isSome
theorem parse_t (s : ByteArray) (w : World) (hs : s.size ≤ 140737488351232) (hw : Laid w) :
    Calls Tryz.prog 68 #[.string s] w fun e w' => e = .returned (.tuple #[.int .i64 (pV (parseS s.data.toList)), .bool (pO (parseS s.data.toList))]) ∧ Below w.heap.size w w' :=
  parse_any s w (by unfold maxLen; omega) hw
end Go.Proofs.YtlkgcidhhngfeaaGreatDoor
