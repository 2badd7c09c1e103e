/- NameMd, NameChild: joined into one text; each part says below what it holds. -/
import Derived.Test.YtnmepcogijgbjaaGreatDoorZ3
import Derived.Test.YtnmepcogijgbjaaGreatDoorBuild
/- name.made, name.Of, name.Parts, name.Right, name.Child. -/
namespace Go.Proofs.YtnmepcogijgbjaaGreatDoor
open Go.RowKit
/-- a slice of ints, nil or not, that reads so -/
def IntsAt (w : World) (v : Value) (l : List Int) : Prop :=
  (∃ ao cap, v = .slice ao 0 cap ∧ l = []) ∨ ∃ b off cap, v = .slice (some ⟨b, off, none⟩) l.length cap ∧ l.length ≤ cap ∧ cap ≤ maxLen ∧ ∀ j, j < l.length → w.cell? ⟨b, off + j, none⟩ = some (.int .i64 (l.getD j 0))
theorem IntsAt.below {w w' : World} {v : Value} {l : List Int} (h : IntsAt w v l) (hb : Below w.heap.size w w') : IntsAt w' v l := by
  rcases h with h | ⟨b, off, cap, hv, h1, h2, hc⟩
  · exact Or.inl h
  · refine Or.inr ⟨b, off, cap, hv, h1, h2, fun j hj => ?_⟩
    have := hc j hj
    exact (hb.cell (p := ⟨b, off + j, none⟩) (World.block_lt_of_cell? _ _ this)).trans this
theorem IntsAt.of_row {w : World} {B : Nat} {v : Value} {l : List Int} (h : w.ownsRow B 3 1 v l.length (ic l)) : IntsAt w v l := by
  rcases h.2 with ⟨hv, h0⟩ | ⟨g, cap, cur, hv, _, hg, h1, h2, _, h4⟩
  · exact Or.inl ⟨_, _, hv, List.length_eq_zero_iff.1 h0⟩
  · refine Or.inr ⟨g, 0, cap, hv, h1, h2, fun j hj => ?_⟩
    rw [Nat.mul_one] at h4
    unfold World.cell?
    rw [hg, Nat.zero_add]
    show cur[j]? = _
    have h5 : (cur.toList.take l.length)[j]? = cur[j]? := by
      rw [List.getElem?_take_of_lt hj]
      simp
    rw [← h5, h4]
    unfold ic
    rw [List.getElem?_map, List.getElem?_eq_getElem hj]
    simp [hj]
def MadeEnds (w : World) (l : List Int) (e : Ending) (w' : World) : Prop := e = .returned (.tuple #[.string ⟨((ofL l).getD []).toArray⟩, .bool (ofL l).isSome]) ∧ Below w.heap.size w w'
theorem MadeEnds.no {w w' : World} {l : List Int} (h : ¬ Fits l) (hb : Below w.heap.size w w') : MadeEnds w l (.returned (.tuple #[.string ⟨#[]⟩, .bool false])) w' := by
  unfold MadeEnds ofL
  rw [if_neg h]
  exact ⟨rfl, hb⟩
theorem MadeEnds.yes {w w' : World} {l : List Int} (h : Fits l) (hb : Below w.heap.size w w') : MadeEnds w l (.returned (.tuple #[.string ⟨(joinL l).toArray⟩, .bool true])) w' := by
  unfold MadeEnds ofL
  rw [if_pos h]
  exact ⟨rfl, hb⟩
theorem writeDot_any (B b : Nat) (l : List UInt8) (w : World) (h : Bld B b l w) (hlen : l.length + 1 ≤ 140737488355328) (hBw : B ≤ w.heap.size) :
    Calls Tryz.prog 78 #[.pointer (some ⟨b, 0, none⟩), .int .u8 46] w fun e w' => e = .returned .nilIface ∧ Bld B b (l ++ [46]) w' ∧ Below B w w' := writeByte_any B b l 46 w h hlen hBw
theorem joinL_snoc : ∀ (l : List Int) (n : Int), joinL (l ++ [n]) = joinL l ++ (if l = [] then [] else [46]) ++ Lib.itoa n
  | [], n => by simp [joinL]
  | [a], n => by simp [joinL]
  | a :: b :: l, n => by
    rw [List.cons_append, List.cons_append, joinL, ← List.cons_append, joinL_snoc (b :: l) n]
    simp [joinL]
theorem take_snocI (l : List Int) (k : Nat) (h : k < l.length) : l.take (k + 1) = l.take k ++ [l.getD k 0] := by
  rw [List.take_succ_eq_append_getElem h]
  simp [h]
theorem joinL_step (l : List Int) (k : Nat) (h : k < l.length) : joinL (l.take (k + 1)) = joinL (l.take k) ++ (if k = 0 then [] else [46]) ++ Lib.itoa (l.getD k 0) := by
  rw [take_snocI l k h, joinL_snoc]
  congr 2
  by_cases h0 : k = 0
  · subst h0; simp
  · rw [if_neg h0, if_neg]
    intro e
    have h1 : (l.take k).length = 0 := by rw [e]; rfl
    rw [List.length_take] at h1
    omega
set_option maxHeartbeats 1000000 in
theorem made_wrong (v : Value) (l : List Int) (w : World) (h : IntsAt w v l) (hl : ¬ (1 ≤ l.length ∧ l.length ≤ 24)) :
    Calls Tryz.prog 67 #[v] w (MadeEnds w l) := by
  have HE := Lib.hid (MadeEnds.no (w := w) (w' := w) (l := l) (fun hf => hl ⟨hf.1, hf.2.1⟩) (Below.refl _ _))
  obtain ⟨ao, cap, rfl, hle⟩ : ∃ ao cap, v = .slice ao l.length cap ∧ l.length ≤ maxLen := by
    rcases h with ⟨ao, cap, hv, h0⟩ | ⟨b, off, cap, hv, h1, h2, _⟩
    · subst h0; exact ⟨ao, cap, hv, by simp⟩
    · exact ⟨_, _, hv, by omega⟩
  clear h
  have hd : decide ((l.length : Int) < 1) = true ∨ (decide ((l.length : Int) < 1) = false ∧ decide ((24 : Int) < l.length) = true) := by
    by_cases h1 : (l.length : Int) < 1
    · exact Or.inl (by simpa using h1)
    · refine Or.inr ⟨by simpa using h1, ?_⟩
      rw [decide_eq_true_eq]
      omega
  clear hl
  rcases hd with hd | ⟨hd, hd2⟩
  all_goals
    go_enter Tryz.func67, Tryz.ntmps67
    go_wp2_with fail
    go_ret2
    exact HE.out
def MadeRel (w : World) (l : List Int) (b k : Nat) (wr : World) : Prop := Bld b b (joinL (l.take k)) wr ∧ Below w.heap.size w wr ∧ (∀ j, j < k → 0 ≤ l.getD j 0 ∧ l.getD j 0 ≤ 999)
theorem joinL_small {l : List Int} {k : Nat} (hk : k ≤ l.length) (hl : l.length ≤ 24) (h : ∀ j, j < k → 0 ≤ l.getD j 0 ∧ l.getD j 0 ≤ 999) : (joinL (l.take k)).length ≤ 96 := by
  have h2 := joinL_length (l.take k) (by
    intro n hn
    obtain ⟨j, hj, rfl⟩ := List.getElem_of_mem hn
    have hj2 : j < k := by simp at hj; omega
    have := h j hj2
    simpa [show j < l.length by omega] using this)
  have : (l.take k).length ≤ 24 := by simp; omega
  split at h2 <;> omega
set_option maxHeartbeats 2000000 in
theorem made_right (v : Value) (l : List Int) (w : World) (h : IntsAt w v l) (hl1 : 1 ≤ l.length) (hl2 : l.length ≤ 24) (hw : Laid w) :
    Calls Tryz.prog 67 #[v] w (MadeEnds w l) := by
  obtain ⟨b, off, cap, rfl, hle, hcap, hc⟩ : ∃ b off cap, v = .slice (some ⟨b, off, none⟩) l.length cap ∧ l.length ≤ cap ∧ cap ≤ maxLen ∧ ∀ j, j < l.length → w.cell? ⟨b, off + j, none⟩ = some (.int .i64 (l.getD j 0)) := by
    rcases h with ⟨_, _, _, h0⟩ | h
    · subst h0; simp at hl1
    · exact h
  unfold maxLen at hcap
  have hd1 : decide ((l.length : Int) < 1) = false := by simp; omega
  have hd2 : decide ((24 : Int) < l.length) = false := by simp; omega
  have HC := Lib.hid hc
  clear hc h
  obtain ⟨Lc, hLc⟩ : ∃ Lc : Nat, Lc = l.length := ⟨_, rfl⟩
  rw [← hLc] at hl1 hl2 hle hd1 hd2 ⊢
  have HL := Lib.hid hLc
  clear hLc
  go_enter Tryz.func67, Tryz.ntmps67
  go_upto_region 4 with (fail)
  refine wp_named ?_
  intro w0 hw0
  have h0 : MadeRel w l w.heap.size 0 w0 := by
    rw [hw0]
    exact ⟨Bld.fresh w, below_al (Below.refl _ _) _, fun j hj => by omega⟩
  clear hw0
  go_wp2_with fail
  go_loopw [5, 6, 17] (fun _ _ i wr => ∃ k : Nat, k ≤ Lc ∧ i = .int .i64 k ∧ MadeRel w l w.heap.size k wr) (fun _ _ i _ => Lc - (intOf i).toNat)
  case atStart => exact ⟨0, by omega, rfl, h0⟩
  case round =>
    obtain ⟨k, hk, rfl, hb, hbl, hr⟩ := hrel
    have HR := Lib.hid hr
    have HB := Lib.hid hb
    clear hr hb
    refine wp_named ?_
    intro W hW
    subst hW
    by_cases hlt : k < Lc
    · have hcw := HC.out k (by rw [← HL.out]; exact hlt)
      obtain ⟨n, hn⟩ : ∃ n, n = l.getD k 0 := ⟨_, rfl⟩
      rw [← hn] at hcw
      have HN := Lib.hid hn
      have cw : W.cell? ⟨b, off + k, none⟩ = some (.int .i64 n) := (hbl.cell (p := ⟨b, off + k, none⟩) (World.block_lt_of_cell? _ _ hcw)).trans hcw
      clear hn hcw
      have hltI : (k : Int) < Lc := by omega
      by_cases n0 : n < 0
      · have d1 : decide (n < 0) = true := by simpa using n0
        have HE := Lib.hid (MadeEnds.no (l := l) (fun hf => by have := hf.2.2 (l.getD k 0) (by rw [HL.out] at hlt; simp [hlt]); rw [← HN.out] at this; omega) hbl)
        clear HB HR HN HC hbl h0
        go_wp2_with fail
        go_ret2
        exact HE.out
      · have d1 : decide (n < 0) = false := by simpa using n0
        by_cases n1 : 999 < n
        · have d2 : decide (999 < n) = true := by simpa using n1
          have HE := Lib.hid (MadeEnds.no (l := l) (fun hf => by have := hf.2.2 (l.getD k 0) (by rw [HL.out] at hlt; simp [hlt]); rw [← HN.out] at this; omega) hbl)
          clear HB HR HN HC hbl h0
          go_wp2_with fail
          go_ret2
          exact HE.out
        · have d2 : decide (999 < n) = false := by simpa using n1
          have n2 : 0 ≤ n := by omega
          have n3 : n ≤ 999 := by omega
          have hs0 := joinL_small (by rw [← HL.out]; exact hk) (by rw [← HL.out]; exact hl2) HR.out
          have hst := joinL_step l k (by rw [← HL.out]; exact hlt)
          rw [← HN.out] at hst
          have hil := (itoa_small_bytes ⟨n2, n3⟩).2.2.1
          have hr' : Hid (∀ j, j < k + 1 → 0 ≤ l.getD j 0 ∧ l.getD j 0 ≤ 999) := Lib.hid (fun j hj => by
            by_cases hjk : j < k
            · exact HR.out j hjk
            · obtain rfl : j = k := by omega
              rw [← HN.out]
              exact ⟨n2, n3⟩)
          have hbz := hbl.size
          clear n0 n1
          by_cases k0 : k = 0
          · rw [if_pos k0, List.append_nil] at hst
            have HS := Lib.hid hst
            clear hst
            have k1 : (k : Int) ≤ 0 := by omega
            clear k0
            go_wp2_with fail
            refine (text_any _ _ (inI64_999 ⟨n2, n3⟩) (hw.below hbl)).mono ?_
            rintro e w2 ⟨rfl, hb2⟩
            have HB2 := Lib.hid (HB.out.below hb2)
            have hbl2 := below_then hbl hb2
            have hz2 := hbl2.size
            go_wp2_with fail
            refine (writeString_any _ _ _ _ _ HB2.out (by simp [ByteArray.size]; omega) hz2).mono ?_
            rintro e w3 ⟨rfl, hb3, hbl3⟩
            have hbl4 := hbl2.trans hbl3
            have HB3 := Lib.hid hb3
            clear hb3 HB HB2 hbl hbl2 hbl3 h0 HC HN hb2
            go_wp2_with fail
            go_roundw
            case rel => exact ⟨k + 1, by omega, by go_num, by rw [HS.out]; exact HB3.out, hbl4, hr'.out⟩
            case measure => simp [intOf]; omega
          · rw [if_neg k0] at hst
            have HS := Lib.hid hst
            clear hst
            have k1 : (0 : Int) < k := by omega
            clear k0
            go_wp2_with fail
            refine (writeDot_any _ _ _ _ HB.out (by omega) hbz).mono ?_
            rintro e w1 ⟨rfl, hb1, hbl1⟩
            have hbl0 := hbl.trans hbl1
            have HB1 := Lib.hid hb1
            clear hb1 HB hbl hbl1
            go_wp2_with fail
            refine (text_any _ _ (inI64_999 ⟨n2, n3⟩) (hw.below hbl0)).mono ?_
            rintro e w2 ⟨rfl, hb2⟩
            have HB2 := Lib.hid (HB1.out.below hb2)
            have hbl2 := below_then hbl0 hb2
            have hz2 := hbl2.size
            go_wp2_with fail
            refine (writeString_any _ _ _ _ _ HB2.out (by simp [ByteArray.size]; omega) hz2).mono ?_
            rintro e w3 ⟨rfl, hb3, hbl3⟩
            have hbl4 := hbl2.trans hbl3
            have HB3 := Lib.hid hb3
            clear hb3 HB1 HB2 hbl0 hbl2 hbl3 h0 HC HN hb2
            go_wp2_with fail
            go_roundw
            case rel => exact ⟨k + 1, by omega, by go_num, by rw [HS.out]; exact HB3.out, hbl4, hr'.out⟩
            case measure => simp [intOf]; omega
    · obtain rfl : k = Lc := by omega
      have hfit : Fits l := by
        have hk1 := HL.out
        refine ⟨by omega, by omega, fun n hn => ?_⟩
        obtain ⟨j, hj, rfl⟩ := List.getElem_of_mem hn
        have := HR.out j (by omega)
        simpa [hj] using this
      have HJ : Hid (joinL (l.take k) = joinL l) := Lib.hid (by rw [HL.out, List.take_length])
      have HF := Lib.hid hfit
      have hbz := hbl.size
      clear hfit hlt h0 HC
      go_wp2_with fail
      refine (builderString_any _ _ _ _ HB.out hbz).mono ?_
      rintro e w2 ⟨rfl, hb2⟩
      rw [HJ.out]
      have HE := Lib.hid (MadeEnds.yes HF.out (hbl.trans hb2))
      clear HB HR hbl hb2
      go_wp2_with fail
      go_ret2
      exact HE.out
theorem made_any (v : Value) (l : List Int) (w : World) (h : IntsAt w v l) (hw : Laid w) :
    Calls Tryz.prog 67 #[v] w (MadeEnds w l) := by
  by_cases hl : 1 ≤ l.length ∧ l.length ≤ 24
  · exact made_right v l w h hl.1 hl.2 hw
  · exact made_wrong v l w h hl
end Go.Proofs.YtnmepcogijgbjaaGreatDoor
/- name.Parts, name.Right, name.Child, name.Under, name.Order, slices.Compare at ints. -/
namespace Go.Proofs.YtnmepcogijgbjaaGreatDoor
open Go.RowKit
def PartsEnds (w : World) (F : Option (List Int)) (e : Ending) (w' : World) : Prop :=
  ∃ v, e = .returned v ∧ w'.ownsRow w.heap.size 3 1 v (F.getD []).length (ic (F.getD [])) ∧ Below w.heap.size w w' ∧ (F = none → v = .slice none 0 0)
def childS (s : List UInt8) (n : Int) : Option (List UInt8) := match readL s with
  | none => none
  | some l => ofL (l ++ [n])
def ChildEnds (w : World) (r : Option (List UInt8)) (e : Ending) (w' : World) : Prop := e = .returned (.tuple #[.string ⟨(r.getD []).toArray⟩, .bool r.isSome]) ∧ Below w.heap.size w w'
set_option maxHeartbeats 1000000 in
theorem child_no (s : ByteArray) (n : Int) (w : World) (hs : s.size ≤ 140737488351232) (hw : Laid w) (h : readL s.data.toList = none) :
    Calls Tryz.prog 44 #[.string s, .int .i64 n] w (ChildEnds w (childS s.data.toList n)) := by
  have hf : childS s.data.toList n = none := by unfold childS; rw [h]
  rw [hf]
  have H := Lib.hid h
  clear h hf
  go_enter Tryz.func44, Tryz.ntmps44
  go_wp2_with fail
  refine (read_any s _ hs hw).mono ?_
  rw [H.out]
  rintro e w1 ⟨v, rfl, hrow, hb, hnil⟩
  clear hrow hnil
  go_wp2_with fail
  go_ret2
  exact ⟨rfl, hb⟩
set_option maxHeartbeats 1000000 in
theorem child_yes (s : ByteArray) (n : Int) (w : World) (hs : s.size ≤ 140737488351232) (hw : Laid w) (l : List Int) (h : readL s.data.toList = some l) :
    Calls Tryz.prog 44 #[.string s, .int .i64 n] w (ChildEnds w (childS s.data.toList n)) := by
  have hf : childS s.data.toList n = ofL (l ++ [n]) := by unfold childS; rw [h]
  rw [hf]
  have H := Lib.hid h
  have hlen := (readL_some h).1.2.1
  clear h hf
  obtain ⟨i0, hi, hz0, hz1, hz2⟩ := info_parts intInfo
  go_enter Tryz.func44, Tryz.ntmps44
  go_wp2_with fail
  refine (read_any s _ hs hw).mono ?_
  rw [H.out]
  rintro e w1 ⟨v, rfl, hrow, hb, -⟩
  have hown : w1.ownsRow w.heap.size 3 1 v l.length (ic l) := hrow
  obtain ⟨ao, cap, rfl⟩ := ownsRow_slice hown
  have hz := hb.size
  have HB := Lib.hid hb
  clear hrow hb
  go_wp2_with (at_builtin; refine wpList_append_own _ rfl _ _ 96 rfl w.heap.size 3 i0 (.int .i64 0) 1 8 Tryz.underlying96 hi hz0 hz1 hz2 rfl (by decide) _ _ _ rfl (hown.alloc _) ⟨w1.heap.size, 0, none⟩ 1 1 [.int .i64 n] rfl rfl ?c1 ?c2 ?c3 ?c4 ?c5 ?_)
  case c1 =>
    intro j u hj
    match j, hj with
    | 0, hj => simp at hj; subst hj; simp [Addr.add]
  case c2 => intro u hu; simp at hu; subst hu; rfl
  case c3 => unfold maxLen; omega
  case c4 => omega
  case c5 => simp; omega
  intro v' w3 hown' hgrow _
  have hrow : ∀ k, (Value.slice ao l.length cap).ownBlock = some k → w.heap.size ≤ k := fun k hk => (hown.lt k hk).1
  have hb3 : Below w.heap.size w w3 := (below_al HB.out _).grown hgrow (by simp; omega) hrow
  have hi3 : IntsAt w3 v' (l ++ [n]) := IntsAt.of_row (B := w.heap.size) (by rw [ic_app]; simpa [ic] using hown')
  clear hown hown' hgrow hrow HB
  have HI := Lib.hid hi3
  have HB := Lib.hid hb3
  clear hi3 hb3
  go_wp2_with fail
  refine (made_any _ _ _ HI.out (hw.below HB.out)).mono ?_
  rintro e w4 ⟨rfl, hb4⟩
  have HB4 := Lib.hid (below_then HB.out hb4)
  clear hb4
  go_wp2_with fail
  go_ret2
  exact ⟨rfl, HB4.out⟩
theorem child_any (s : ByteArray) (n : Int) (w : World) (hs : s.size ≤ 140737488351232) (hw : Laid w) :
    Calls Tryz.prog 44 #[.string s, .int .i64 n] w (ChildEnds w (childS s.data.toList n)) := by
  cases h : readL s.data.toList with
  | none => exact child_no s n w hs hw h
  | some l => exact child_yes s n w hs hw l h
end Go.Proofs.YtnmepcogijgbjaaGreatDoor
