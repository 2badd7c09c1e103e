/- val.Get whole; the law's few; the chapter's examples. -/
import Derived.Test.YtcgelcccboifjaaDoorVal5
namespace Go.Proofs.YtcgelcccboifjaaDoor
open Go.RowKit
theorem str_of (m : List UInt8) : (⟨(m : List UInt8).toArray⟩ : ByteArray).data.toList = m := rfl
theorem vget_any (s : ByteArray) (a : Nat) (w : World) (hs : s.size ≤ 1152921504606846976) (hw : LaidV w) :
    Calls Tryd.prog 13 #[.string s, .int .i64 a] w fun e w' => e = vgetE (getV (s.data.toList.drop a)) a ∧ Below w.heap.size w w' := by
  have hL : s.data.toList.length = s.size := Array.length_toList
  have none0 : ∀ x, vgetE none x = vgetE none 0 := fun _ => rfl
  rcases Nat.lt_or_ge a s.size with ha | ha
  · have hd := drop_cons (L := s.data.toList) (a := a) (by omega)
    have hix := index_str Tryd.underlying9 s rfl a ha
    have ea : ((a + 1 : Nat) : Int) = (a : Int) + 1 := by omega
    obtain ⟨c, hc⟩ : ∃ c, c = s.data.toList.getD a 0 := ⟨_, rfl⟩
    rw [← hc] at hd hix
    rw [hd, getV]
    have hlb := fun (x : Nat) w => lget_any s x w hs
    by_cases k1 : c.toNat = 1
    · rw [if_pos k1]
      rw [k1] at hix
      have hn := fun w => nget_b s ((a : Int) + 1) w hs
      have hsh := getR_shift s.data.toList (a + 1)
      rw [ea] at hsh
      cases hr : getR (s.data.toList.drop (a + 1)) 0 with
      | none =>
        rw [hr] at hsh
        rw [hsh] at hn
        exact vget1_no s a w hs ha hix hn
      | some p =>
        obtain ⟨n, x⟩ := p
        rw [hr] at hsh
        rw [hsh] at hn
        refine (vget1_yes s a w hs ha hix n _ hn).mono ?_
        rintro e w' ⟨rfl, hb⟩
        obtain ⟨h1, h2, h3, h4⟩ := getR_zero hr
        refine ⟨?_, hb⟩
        show _ = vgetE (some (⟨1, n, [], ⟨[], []⟩⟩, x.toNat + 1)) a
        unfold vgetE
        simp only
        rw [show ((a + (x.toNat + 1) : Nat) : Int) = (a : Int) + 1 + x by omega]
        rfl
    · rw [if_neg k1]
      by_cases k2 : c.toNat = 2
      · rw [if_pos k2]
        rw [k2] at hix
        have hl := hlb (a + 1)
        rw [ea] at hl
        cases hr : getLb (s.data.toList.drop (a + 1)) with
        | none =>
          rw [hr] at hl
          exact vget2_no s a w hs ha hix hl
        | some p =>
          obtain ⟨b, n⟩ := p
          rw [hr] at hl
          refine (vget2_yes s a w hs ha hix _ _ _ hl).mono ?_
          rintro e w' ⟨rfl, hb⟩
          refine ⟨?_, hb⟩
          show _ = vgetE (some (⟨2, 0, [], b⟩, n + 1)) a
          unfold vgetE
          simp only
          rw [show a + 1 + n = a + (n + 1) by omega]
      · rw [if_neg k2]
        by_cases k3 : 3 ≤ c.toNat ∧ c.toNat ≤ 7
        · rw [if_pos k3]
          have hg := fun w hw => gn_any s (a + 1) w hs hw
          rw [ea] at hg
          have hcase : c.toNat = 3 ∨ c.toNat = 4 ∨ c.toNat = 5 ∨ c.toNat = 6 ∨ c.toNat = 7 := by omega
          cases hm : getNm (s.data.toList.drop (a + 1)) with
          | none =>
            rw [hm] at hg
            rcases hcase with k | k | k | k | k <;> rw [k] at hix
            · exact vget3_no s a w hw hs ha hix hg
            · exact vget4_no s a w hw hs ha hix hg
            · exact vget5_no s a w hw hs ha hix hg
            · exact vget6_no s a w hw hs ha hix hg
            · exact vget7_no s a w hw hs ha hix hg
          | some p =>
            obtain ⟨m, n⟩ := p
            rw [hm] at hg
            simp only
            have hl := hlb (a + 1 + n)
            have ed : s.data.toList.drop (a + 1 + n) = (s.data.toList.drop (a + 1)).drop n := by rw [List.drop_drop]
            rw [ed] at hl
            cases hr : getLb ((s.data.toList.drop (a + 1)).drop n) with
            | none =>
              rw [hr] at hl
              rcases hcase with k | k | k | k | k <;> rw [k] at hix
              · exact vget3_no2 s a w hw hs ha hix _ _ hg hl
              · exact vget4_no2 s a w hw hs ha hix _ _ hg hl
              · exact vget5_no2 s a w hw hs ha hix _ _ hg hl
              · exact vget6_no2 s a w hw hs ha hix _ _ hg hl
              · exact vget7_no2 s a w hw hs ha hix _ _ hg hl
            | some q =>
              obtain ⟨b, n2⟩ := q
              rw [hr] at hl
              have fin : ∀ K : Nat, c.toNat = K → Ending.returned (.tuple #[.agg #[.int .i64 (K : Int), .int .i64 0, .string ⟨m.toArray⟩, .string ⟨b.S.toArray⟩, .string ⟨b.I.toArray⟩], .int .i64 ((a + 1 + n + n2 : Nat) : Int), .bool true]) = vgetE (some (⟨c.toNat, 0, m, b⟩, n + n2 + 1)) a := by
                intro K hK
                unfold vgetE
                simp only
                rw [hK, show a + 1 + n + n2 = a + (n + n2 + 1) by omega]
              rcases hcase with k | k | k | k | k <;> rw [k] at hix
              · refine (vget3_yes s a w hw hs ha hix _ _ _ _ _ hg hl).mono ?_
                rintro e w' ⟨rfl, hb⟩
                exact ⟨fin 3 k, hb⟩
              · refine (vget4_yes s a w hw hs ha hix _ _ _ _ _ hg hl).mono ?_
                rintro e w' ⟨rfl, hb⟩
                exact ⟨fin 4 k, hb⟩
              · refine (vget5_yes s a w hw hs ha hix _ _ _ _ _ hg hl).mono ?_
                rintro e w' ⟨rfl, hb⟩
                exact ⟨fin 5 k, hb⟩
              · refine (vget6_yes s a w hw hs ha hix _ _ _ _ _ hg hl).mono ?_
                rintro e w' ⟨rfl, hb⟩
                exact ⟨fin 6 k, hb⟩
              · refine (vget7_yes s a w hw hs ha hix _ _ _ _ _ hg hl).mono ?_
                rintro e w' ⟨rfl, hb⟩
                exact ⟨fin 7 k, hb⟩
        · rw [if_neg k3]
          exact vget_other s a w hw hs ha c.toNat hix (by omega) c.toNat_lt
  · have e : s.data.toList.drop a = [] := List.drop_of_length_le (by omega)
    rw [e]
    exact vget_high s a w hs (by omega)
end Go.Proofs.YtcgelcccboifjaaDoor
