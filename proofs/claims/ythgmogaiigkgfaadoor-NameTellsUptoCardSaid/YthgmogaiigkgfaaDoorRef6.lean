/- The reference's package of chapter 6: cut, Parts, Right, Of. -/
import Derived.Test.YthgmogaiigkgfaaDoorRefPx
import Derived.Test.YthgmogaiigkgfaaDoorNameOps
import Derived.Laws.AppendOwnNone
namespace Go.Proofs.YthgmogaiigkgfaaDoor
open Go.RowKit
def sc (l : List (List UInt8)) : List Value := l.map fun x => .string ⟨x.toArray⟩
theorem sc_app (l m : List (List UInt8)) : sc (l ++ m) = sc l ++ sc m := by simp [sc]
theorem sc_len (l : List (List UInt8)) : (sc l).length = l.length := by simp [sc]
/-- what 'cut' has done where it stands at k -/
structure CutRel (s : List UInt8) (k f : Nat) (D : List (List UInt8)) : Prop where
  len : D.length ≤ k
  on : k ≤ s.length → f ≤ k ∧ words s = D ++ words (s.drop f) ∧ ∀ j, f ≤ j → j < k → s.getD j 0 ≠ 46
  off : s.length < k → D = words s
theorem CutRel.zero (s : List UInt8) : CutRel s 0 0 [] := ⟨by simp, fun _ => ⟨Nat.le_refl _, by simp, fun j _ hj => by omega⟩, fun h => by omega⟩
theorem CutRel.step {s : List UInt8} {k f : Nat} {D : List (List UInt8)} (h : CutRel s k f D) (_ : k < s.length) (hd : s.getD k 0 ≠ 46) : CutRel s (k + 1) f D := by
  obtain ⟨h1, h2, h3⟩ := h.on (by omega)
  refine ⟨by have := h.len; omega, fun _ => ⟨by omega, h2, fun j hj hj2 => ?_⟩, fun h' => by omega⟩
  by_cases hjk : j < k
  · exact h3 j hj hjk
  · obtain rfl : j = k := by omega
    exact hd
theorem drop_split {s : List UInt8} {f k : Nat} (_ : f ≤ k) (_ : k ≤ s.length) : s.drop f = (s.drop f).take (k - f) ++ s.drop k := by
  have e := List.take_append_drop (k - f) (s.drop f)
  rw [List.drop_drop, show f + (k - f) = k by omega] at e
  exact e.symm
theorem no_dot_cut {s : List UInt8} {f k : Nat} (_ : f ≤ k) (_ : k ≤ s.length) (h3 : ∀ j, f ≤ j → j < k → s.getD j 0 ≠ 46) : ∀ c ∈ (s.drop f).take (k - f), c ≠ 46 := by
  intro c hc
  obtain ⟨j, hj, rfl⟩ := List.getElem_of_mem hc
  simp at hj
  have := h3 (f + j) (by omega) (by omega)
  simpa [show f + j < s.length by omega] using this
theorem CutRel.dot {s : List UInt8} {k f : Nat} {D : List (List UInt8)} (h : CutRel s k f D) (hk : k < s.length) (hd : s.getD k 0 = 46) : CutRel s (k + 1) (k + 1) (D ++ [(s.drop f).take (k - f)]) := by
  obtain ⟨h1, h2, h3⟩ := h.on (by omega)
  refine ⟨by have := h.len; simp; omega, fun _ => ⟨Nat.le_refl _, ?_, fun j hj hj2 => by omega⟩, fun h' => by omega⟩
  have e := drop_split h1 (Nat.le_of_lt hk)
  have e2 : s.drop k = 46 :: s.drop (k + 1) := by
    rw [List.drop_eq_getElem_cons hk]
    congr 1
    simpa [hk] using hd
  rw [e2] at e
  rw [h2, e, words_app _ _ (no_dot_cut h1 (Nat.le_of_lt hk) h3)]
  rw [← e]
  simp
theorem CutRel.last {s : List UInt8} {f : Nat} {D : List (List UInt8)} (h : CutRel s s.length f D) : CutRel s (s.length + 1) (s.length + 1) (D ++ [(s.drop f).take (s.length - f)]) := by
  obtain ⟨h1, h2, h3⟩ := h.on (Nat.le_refl _)
  refine ⟨by have := h.len; simp; omega, fun h' => by omega, fun _ => ?_⟩
  have e := drop_split h1 (Nat.le_refl _)
  rw [List.drop_length, List.append_nil] at e
  have hn := no_dot_cut h1 (Nat.le_refl _) h3
  rw [h2, ← e] at *
  rw [words_none hn]
theorem strInfo : (Tryd.prog.info? 9).map (fun i => (i.zero, i.size, i.bytes)) = some (some (.string .empty), 1, 16) := by kernel_rfl
def CutEnds (w : World) (D : List (List UInt8)) (e : Ending) (w' : World) : Prop := ∃ v, e = .returned v ∧ w'.ownsRow w.heap.size 9 1 v D.length (sc D) ∧ Below w.heap.size w w'
set_option maxRecDepth 100000 in
set_option maxHeartbeats 2000000 in
theorem cut6_any (s : ByteArray) (w : World) (hs : s.size ≤ 1048576) : Calls Tryd.prog 26 #[.string s] w (CutEnds w (words s.data.toList)) := by
  obtain ⟨i0, hi, hz0, hz1, hz2⟩ := info_parts strInfo
  have hsl : s.data.toList.length = s.size := Array.length_toList
  obtain ⟨S, hS⟩ : ∃ S, S = s.data.toList := ⟨_, rfl⟩
  rw [← hS] at hsl ⊢
  have HS := Lib.hid hS
  have HL := Lib.hid hsl
  clear hS hsl
  go_enter Tryd.func26, Tryd.ntmps26
  go_wp2_with fail
  go_loopw [3, 4, 5] (fun v fr i W => ∃ (k f : Nat) (D : List (List UInt8)), k ≤ s.size + 1 ∧ i = .int .i64 k ∧ fr = .int .i64 f ∧ W.ownsRow w.heap.size 9 1 v D.length (sc D) ∧ Below w.heap.size w W ∧ CutRel S k f D) (fun _ _ i _ => s.size + 1 - (intOf i).toNat)
  case atStart => exact ⟨0, 0, [], by omega, rfl, rfl, World.ownsRow_nil _ _ _ _, Below.refl _ _, CutRel.zero S⟩
  case round =>
    obtain ⟨k, f, D, hk, rfl, rfl, hown, hb, hr⟩ := hrel
    refine wp_named ?_
    intro W hW
    subst hW
    have hlen := hr.len
    by_cases hgo : k ≤ s.size
    · have hgoI : (k : Int) ≤ s.size := by omega
      have hfk := (hr.on (by rw [HL.out]; exact hgo)).1
      by_cases hend : k = s.size
      · have e1 : ((k : Int) == s.size) = true := by rw [beq_iff_eq]; omega
        have HR2 : Hid (CutRel S (k + 1) (k + 1) (D ++ [(S.drop f).take (k - f)])) := Lib.hid (by
          have hks : k = S.length := by rw [HL.out]; exact hend
          have hr2 := hr
          rw [hks] at hr2 ⊢
          exact hr2.last)
        clear hend
        have hx : s.extract f k = ⟨((S.drop f).take (k - f)).toArray⟩ := by
          apply ByteArray.ext
          apply Array.toList_inj.1
          rw [Lib.extract_data, ← HS.out]
        obtain ⟨ao, cap, rfl⟩ := ownsRow_slice hown
        have hz := hb.size
        have hfI : (f : Int) ≤ k := by omega
        have HX := Lib.hid hx
        clear hx hr
        go_wp2_with (at_builtin; refine wpList_append_own _ rfl _ _ 42 rfl w.heap.size 9 i0 (.string .empty) 1 16 Tryd.underlying42 hi hz0 hz1 hz2 rfl (by decide) _ _ _ rfl (hown.alloc _) ⟨W.heap.size, 0, none⟩ 1 1 [.string (s.extract f k)] rfl rfl ?c1 ?c2 ?c3 ?c4 ?c5 ?_)
        case c1 =>
          intro j u hj
          match j, hj with
          | 0, hj => simp at hj; subst hj; simp [Addr.add]
        case c2 => intro u hu; simp at hu; subst hu; rfl
        case c3 => unfold maxLen; omega
        case c4 => omega
        case c5 => simp; omega
        intro v' w3 hown' hgrow _
        have hb3 : Below w.heap.size w w3 := (below_al hb _).grown hgrow (by simp; omega) (fun q hq => (hown.lt q hq).1)
        have hown3 : w3.ownsRow w.heap.size 9 1 v' (D ++ [(S.drop f).take (k - f)]).length (sc (D ++ [(S.drop f).take (k - f)])) := by
          rw [sc_app, List.length_append]
          rw [HX.out] at hown'
          exact hown'
        clear hown hown' hgrow hb
        go_wp2_with fail
        go_roundw
        case rel => exact ⟨k + 1, k + 1, _, by omega, by go_num, by go_num, hown3, hb3, HR2.out⟩
        case measure => simp [intOf]; omega
      · have hlt : k < s.size := by omega
        have hltI : (k : Int) < s.size := by omega
        have e1 : ((k : Int) == s.size) = false := by rw [beq_eq_false_iff_ne]; omega
        have k0 : (0 : Int) ≤ k := by omega
        have hbyte : S.getD k 0 = s[k] := by
          rw [HS.out]
          have hk2 : k < s.data.toList.length := by rw [Array.length_toList]; exact hlt
          simp only [List.getD_eq_getElem?_getD, List.getElem?_eq_getElem hk2, Option.getD_some]
          rfl
        by_cases hdot : S.getD k 0 = 46
        · have e2 : ((s[k].toNat : Int) == 46) = true := by rw [← hbyte, hdot]; rfl
          have HR2 : Hid (CutRel S (k + 1) (k + 1) (D ++ [(S.drop f).take (k - f)])) := Lib.hid (hr.dot (by rw [HL.out]; exact hlt) hdot)
          clear hdot hbyte hend
          have hx : s.extract f k = ⟨((S.drop f).take (k - f)).toArray⟩ := by
            apply ByteArray.ext
            apply Array.toList_inj.1
            rw [Lib.extract_data, ← HS.out]
          obtain ⟨ao, cap, rfl⟩ := ownsRow_slice hown
          have hz := hb.size
          have hfI : (f : Int) ≤ k := by omega
          have HX := Lib.hid hx
          clear hx hr
          go_wp2_with (at_builtin; refine wpList_append_own _ rfl _ _ 42 rfl w.heap.size 9 i0 (.string .empty) 1 16 Tryd.underlying42 hi hz0 hz1 hz2 rfl (by decide) _ _ _ rfl (hown.alloc _) ⟨W.heap.size, 0, none⟩ 1 1 [.string (s.extract f k)] rfl rfl ?c1 ?c2 ?c3 ?c4 ?c5 ?_)
          case c1 =>
            intro j u hj
            match j, hj with
            | 0, hj => simp at hj; subst hj; simp [Addr.add]
          case c2 => intro u hu; simp at hu; subst hu; rfl
          case c3 => unfold maxLen; omega
          case c4 => omega
          case c5 => simp; omega
          intro v' w3 hown' hgrow _
          have hb3 : Below w.heap.size w w3 := (below_al hb _).grown hgrow (by simp; omega) (fun q hq => (hown.lt q hq).1)
          have hown3 : w3.ownsRow w.heap.size 9 1 v' (D ++ [(S.drop f).take (k - f)]).length (sc (D ++ [(S.drop f).take (k - f)])) := by
            rw [sc_app, List.length_append]
            rw [HX.out] at hown'
            exact hown'
          clear hown hown' hgrow hb
          go_wp2_with fail
          go_roundw
          case rel => exact ⟨k + 1, k + 1, _, by omega, by go_num, by go_num, hown3, hb3, HR2.out⟩
          case measure => simp [intOf]; omega
        · have e2 : ((s[k].toNat : Int) == 46) = false := by
            rw [beq_eq_false_iff_ne, ← hbyte]
            intro e
            exact hdot (UInt8.toNat_inj.1 (by have : (46 : UInt8).toNat = 46 := rfl; omega))
          have HR2 : Hid (CutRel S (k + 1) f D) := Lib.hid (hr.step (by rw [HL.out]; exact hlt) hdot)
          obtain ⟨ao, cap, rfl⟩ := ownsRow_slice hown
          have HO := Lib.hid hown
          clear hdot hbyte hend hr hown
          go_wp2_with fail
          go_roundw
          case rel => exact ⟨k + 1, f, D, by omega, by go_num, rfl, HO.out, hb, HR2.out⟩
          case measure => simp [intOf]; omega
    · have hge : (s.size : Int) < k := by omega
      have hD := hr.off (by rw [HL.out]; omega)
      have HE : Hid (∀ v, W.ownsRow w.heap.size 9 1 v D.length (sc D) → CutEnds w (words S) (.returned v) W) := Lib.hid fun v h => ⟨v, rfl, by rw [← hD]; exact h, hb⟩
      obtain ⟨ao, cap, rfl⟩ := ownsRow_slice hown
      have HO := Lib.hid (HE.out _ hown)
      clear hown hr hD HE
      go_wp2_with fail
      go_ret
      exact HO.out
theorem readL_words {s : List UInt8} {m : List Int} (h : words s = m.map Lib.itoa) (hr : ∀ n ∈ m, 0 ≤ n ∧ n ≤ 999) (hl : m.length ≤ 24) : readL s = some m := by
  have hne : m ≠ [] := by
    intro e
    subst e
    exact words_ne s h
  have hf : Fits m := ⟨by cases m with | nil => exact absurd rfl hne | cons a b => simp, hl, hr⟩
  have e : joinL m = s := words_inj _ _ (by rw [words_joinL m hne hr, h])
  rw [← e]
  exact readL_join hf
theorem readL_many {s : List UInt8} (h : 24 < (words s).length) : readL s = none := by
  cases hr : readL s with
  | none => rfl
  | some l =>
    obtain ⟨⟨h1, h2, h3⟩, rfl⟩ := readL_some hr
    rw [words_joinL l (by intro e; subst e; simp at h1) h3, List.length_map] at h
    omega
theorem words_len : ∀ s : List UInt8, (words s).length ≤ s.length + 1
  | [] => by simp [words]
  | c :: s => by
    have h := words_len s
    by_cases hc : c = 46
    · subst hc
      rw [words_dot]
      simp
      omega
    · obtain ⟨a, t, h1, h2⟩ := words_cons hc s
      rw [h1] at h
      rw [h2]
      simp at h ⊢
      omega
theorem words_part {s : List UInt8} {x : List UInt8} (h : x ∈ words s) : x.length ≤ s.length := by
  induction s generalizing x with
  | nil => simp [words] at h; subst h; simp
  | cons c s ih =>
    by_cases hc : c = 46
    · subst hc
      rw [words_dot] at h
      rcases List.mem_cons.1 h with rfl | h
      · simp
      · have := ih h; simp; omega
    · obtain ⟨a, t, h1, h2⟩ := words_cons hc s
      rw [h2] at h
      rcases List.mem_cons.1 h with rfl | h
      · have := ih (x := a) (by rw [h1]; simp)
        simp
        omega
      · have := ih (x := x) (by rw [h1]; simp [h])
        simp
        omega
theorem pnone6 : parseEnd none = .returned (.tuple #[.int .i64 0, .bool false]) := rfl
theorem psome6 (n : Int) : parseEnd (some n) = .returned (.tuple #[.int .i64 n, .bool true]) := rfl
theorem strsAt {W : World} {B : Nat} {v : Value} {l : List (List UInt8)} (h : W.ownsRow B 9 1 v l.length (sc l)) {k : Nat} (hk : k < l.length) :
    ∃ g cap, v = .slice (some ⟨g, 0, none⟩) l.length cap ∧ W.cell? ⟨g, k, none⟩ = some (.string ⟨(l.getD k []).toArray⟩) := by
  rcases h.2 with ⟨hv, h0⟩ | ⟨g, cap, cur, hv, _, hg, h1, h2, _, h4⟩
  · omega
  · refine ⟨g, cap, hv, ?_⟩
    rw [Nat.mul_one] at h4
    unfold World.cell?
    rw [hg]
    show cur[k]? = _
    have h5 : (cur.toList.take l.length)[k]? = cur[k]? := by
      rw [List.getElem?_take_of_lt hk]
      simp
    rw [← h5, h4]
    unfold sc
    rw [List.getElem?_map, List.getElem?_eq_getElem hk]
    simp [hk]
def P6Rel (w1 : World) (D : List (List UInt8)) (m : List Int) (k : Nat) (W : World) : Prop := Below w1.heap.size w1 W ∧ m.length = k ∧ D.take k = m.map Lib.itoa ∧ (∀ n ∈ m, 0 ≤ n ∧ n ≤ 999) ∧ (0 < k → D.length ≤ 24)
theorem PartsEnds.no {w w' : World} {F : Option (List Int)} (hF : F = none) (hb : Below w.heap.size w w') : PartsEnds w F (.returned (.slice none 0 0)) w' := by
  subst hF
  exact ⟨_, rfl, World.ownsRow_nil _ _ _ _, hb, fun _ => rfl⟩
set_option maxRecDepth 100000 in
set_option maxHeartbeats 4000000 in
theorem parts6_any (s : ByteArray) (w : World) (hs : s.size ≤ 1048576) (_ : Laid w) : Calls Tryd.prog 15 #[.string s] w (PartsEnds w (readL s.data.toList)) := by
  obtain ⟨i0, hi, hz0, hz1, hz2⟩ := info_parts intInfo
  obtain ⟨D, hD⟩ : ∃ D, D = words s.data.toList := ⟨_, rfl⟩
  have hsl : s.data.toList.length = s.size := Array.length_toList
  have hDl : D.length ≤ 1048577 := by
    have := words_len s.data.toList
    rw [hD]
    omega
  have hDx : ∀ x ∈ D, x.length ≤ 1048576 := fun x hx => by
    have := words_part (s := s.data.toList) (x := x) (by rw [← hD]; exact hx)
    omega
  have HDX := Lib.hid hDx
  clear hsl hDx
  obtain ⟨F, hF⟩ : ∃ F, F = readL s.data.toList := ⟨_, rfl⟩
  rw [← hF]
  have HD := Lib.hid hD
  have HF := Lib.hid hF
  clear hD hF
  go_enter Tryd.func15, Tryd.ntmps15
  go_wp2_with fail
  refine (cut6_any s _ hs).mono ?_
  rw [← HD.out]
  rintro e w1 ⟨dv, rfl, hrow, hb1⟩
  obtain ⟨dao, dcap, rfl⟩ := ownsRow_slice hrow
  go_wp2_with fail
  go_loopw [3, 5, 6, 7] (fun u i _ _ W => ∃ (k : Nat) (m : List Int), k ≤ D.length ∧ i = .int .i64 k ∧ W.ownsRow w1.heap.size 3 1 u k (ic m) ∧ P6Rel w1 D m k W) (fun _ i _ _ _ => D.length - (intOf i).toNat)
  case atStart => exact ⟨0, [], by omega, rfl, World.ownsRow_nil _ _ _ _, Below.refl _ _, rfl, rfl, by simp, fun h => by omega⟩
  case round =>
    obtain ⟨k, m, hk, rfl, hown, hbl, hml, hmw, hmr, hmn⟩ := hrel
    refine wp_named ?_
    intro W hW
    subst hW
    by_cases hlt : k < D.length
    · have hltI : (k : Int) < D.length := by omega
      obtain ⟨g, cap, hv, cw⟩ := strsAt (ownsRow_below hrow hbl) hlt
      simp only [Value.slice.injEq, true_and] at hv
      obtain ⟨rfl, rfl⟩ := hv
      obtain ⟨x, hx⟩ : ∃ x, x = D.getD k [] := ⟨_, rfl⟩
      have hmem : x ∈ D := by rw [hx]; simp [hlt]
      rw [← hx] at cw
      have hxs : (⟨x.toArray⟩ : ByteArray).size ≤ 1048576 := HDX.out x hmem
      have HXK := Lib.hid hx
      clear hx
      go_wp2_with fail
      refine (rparse_any ⟨x.toArray⟩ _ (by unfold maxLen; omega)).mono ?_
      have hpx : (⟨x.toArray⟩ : ByteArray).data.toList = x := by simp
      rw [hpx]
      clear hpx
      cases hP : parseS x with
      | none =>
        rw [pnone6]
        rintro e w2 ⟨rfl, hb2⟩
        have hbad : F = none := by rw [HF.out]; exact readL_bad (w := x) (by rw [← HD.out]; exact hmem) (by unfold wordNum; rw [hP])
        have HE := Lib.hid (PartsEnds.no (w := w) (w' := w2) hbad (below_then (below_then hb1 hbl) hb2))
        clear hbad hown hbl hb2 hrow hP cw
        go_wp2_with fail
        go_ret
        exact HE.out
      | some n =>
        rw [psome6]
        rintro e w2 ⟨rfl, hb2⟩
        have hB2 := below_then (below_then hb1 hbl) hb2
        by_cases n0 : n < 0
        · have hbad : F = none := by rw [HF.out]; exact readL_bad (w := x) (by rw [← HD.out]; exact hmem) (by unfold wordNum; rw [hP]; exact if_neg (by omega))
          have HE := Lib.hid (PartsEnds.no (w := w) (w' := w2) hbad hB2)
          clear hbad hown hbl hb2 hrow hP cw hB2
          go_wp2_with fail
          go_ret
          exact HE.out
        · have n0' : 0 ≤ n := by omega
          clear n0
          by_cases n1 : 999 < n
          · have hbad : F = none := by rw [HF.out]; exact readL_bad (w := x) (by rw [← HD.out]; exact hmem) (by unfold wordNum; rw [hP]; exact if_neg (by omega))
            have HE := Lib.hid (PartsEnds.no (w := w) (w' := w2) hbad hB2)
            clear hbad hown hbl hb2 hrow hP cw hB2
            go_wp2_with fail
            go_ret
            exact HE.out
          · have n1' : n ≤ 999 := by omega
            clear n1
            by_cases hmany : (24 : Int) < D.length
            · have hbad : F = none := by rw [HF.out]; exact readL_many (by rw [← HD.out]; omega)
              have HE := Lib.hid (PartsEnds.no (w := w) (w' := w2) hbad hB2)
              clear hbad hown hbl hb2 hrow hP cw hB2
              go_wp2_with fail
              go_ret
              exact HE.out
            · have hfew : (D.length : Int) ≤ 24 := by omega
              have hxi : Lib.itoa n = x := (parseS_some _ _ hP).2
              have hown2 := ownsRow_below hown hb2
              have hbl2 := below_then hbl hb2
              have hz := hbl2.size
              obtain ⟨ao, cp, rfl⟩ := ownsRow_slice hown2
              have hstep : D.take (k + 1) = (m ++ [n]).map Lib.itoa := by
                rw [List.take_succ_eq_append_getElem hlt, hmw, List.map_append, List.map_singleton, hxi, HXK.out]
                simp [hlt]
              have HST := Lib.hid hstep
              have HMR := Lib.hid hmr
              have HML := Lib.hid hml
              clear hmany hstep hmw hmr hml hP cw hown hbl hb2 hxi hmn hB2
              go_wp2_with (at_builtin; refine wpList_append_own _ rfl _ _ 22 rfl w1.heap.size 3 i0 (.int .i64 0) 1 8 Tryd.underlying22 hi hz0 hz1 hz2 rfl (by decide) _ _ _ rfl (hown2.alloc _) ⟨w2.heap.size, 0, none⟩ 1 1 [.int .i64 n] rfl rfl ?c1 ?c2 ?c3 ?c4 ?c5 ?_)
              case c1 =>
                intro j u hj
                match j, hj with
                | 0, hj => simp at hj; subst hj; simp [Addr.add]
              case c2 => intro u hu; simp at hu; subst hu; rfl
              case c3 => unfold maxLen; omega
              case c4 => omega
              case c5 => simp; omega
              intro v' w3 hown' hgrow _
              have hb3 : Below w1.heap.size w1 w3 := (below_al hbl2 _).grown hgrow (by simp; omega) (fun q hq => (hown2.lt q hq).1)
              have hown3 : w3.ownsRow w1.heap.size 3 1 v' (k + 1) (ic (m ++ [n])) := by rw [ic_app]; exact hown'
              clear hown2 hown' hgrow hbl2
              go_wp2_with fail
              go_roundw
              case rel =>
                refine ⟨k + 1, m ++ [n], by omega, by go_num, hown3, hb3, by rw [List.length_append, HML.out]; rfl, HST.out, ?_, fun _ => by omega⟩
                intro q hq
                rcases List.mem_append.1 hq with hq | hq
                · exact HMR.out q hq
                · simp at hq; omega
              case measure => simp [intOf]; omega
    · obtain rfl : k = D.length := by omega
      rw [List.take_length] at hmw
      have hDpos : 0 < D.length := by
        rw [HD.out]
        exact List.length_pos_iff.2 (words_ne _)
      have hFm : F = some m := by
        rw [HF.out]
        exact readL_words (by rw [← HD.out]; exact hmw) hmr (by rw [hml]; exact hmn hDpos)
      obtain ⟨ao, cp, rfl⟩ := ownsRow_slice hown
      have hownF : W.ownsRow w.heap.size 3 1 (.slice ao D.length cp) m.length (ic m) := by rw [hml]; exact ownsRow_mono hown hb1.size
      have HE : Hid (PartsEnds w F (.returned (.slice ao D.length cp)) W) := Lib.hid (by rw [hFm]; exact ⟨_, rfl, hownF, below_then hb1 hbl, fun h => by cases h⟩)
      have hge : (D.length : Int) ≤ D.length := by omega
      clear hown hownF hFm hmw hml hmn hmr hlt
      go_wp2_with fail
      go_ret
      exact HE.out
end Go.Proofs.YthgmogaiigkgfaaDoor
