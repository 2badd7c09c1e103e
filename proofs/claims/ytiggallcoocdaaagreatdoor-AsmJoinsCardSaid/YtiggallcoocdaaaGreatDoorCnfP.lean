/- cnf.Parse. -/
import Derived.Test.YtiggallcoocdaaaGreatDoorZA
import Derived.Test.YtiggallcoocdaaaGreatDoorPrP
import Derived.Test.YtiggallcoocdaaaGreatDoorCnfR
import Derived.Test.YtiggallcoocdaaaGreatDoorLabParse
import Derived.Maps.AppendAt
import Derived.Deep.AppendLies
namespace Go.Proofs.YtiggallcoocdaaaGreatDoor
open Go.RowKit Go.Shelf
attribute [local go_sem] Oper.semAt_some
theorem splitSeq0 (s sep : ByteArray) (w : World) :
    Calls Tryz.prog 107 #[.string s, .string sep, .int .i64 0] w fun e w' => e = .returned (.func (.func 117) #[] #[.pointer (some ⟨w.heap.size + 1, 0, none⟩), .pointer (some ⟨w.heap.size, 0, none⟩), .pointer (some ⟨w.heap.size + 1 + 1, 0, none⟩)]) ∧
      w' = ((w.alloc (.cells #[.string s] 9)).alloc (.cells #[.string sep] 9)).alloc (.cells #[.int .i64 0] 3) := by
  go_enter Tryz.func107, Tryz.ntmps107
  go_wp2_with fail
  go_ret
  exact ⟨rfl, rfl⟩
theorem splitSeqB (s sep : ByteArray) (w : World) :
    Calls Tryz.prog 92 #[.string s, .string sep] w fun e w' => e = .returned (.func (.func 117) #[] #[.pointer (some ⟨w.heap.size + 1, 0, none⟩), .pointer (some ⟨w.heap.size, 0, none⟩), .pointer (some ⟨w.heap.size + 1 + 1, 0, none⟩)]) ∧
      w' = ((w.alloc (.cells #[.string s] 9)).alloc (.cells #[.string sep] 9)).alloc (.cells #[.int .i64 0] 3) := by
  go_enter Tryz.func92, Tryz.ntmps92
  go_wp2_with fail
  refine (splitSeq0 s sep w).mono ?_
  rintro e _ ⟨rfl, rfl⟩
  go_wp2_with fail
  go_ret
  exact ⟨rfl, rfl⟩
theorem pieces_le (p : UInt8) : ∀ l : List UInt8, ∀ x ∈ pieces p l, x.length ≤ l.length
  | [], x, h => by
    rw [pieces, List.mem_singleton] at h
    subst h
    exact Nat.le_refl _
  | c :: l, x, h => by
    by_cases hc : c = p
    · subst hc
      rw [pieces_at] at h
      rcases List.mem_cons.1 h with rfl | h
      · simp
      · have := pieces_le c l x h
        simp only [List.length_cons]
        omega
    · obtain ⟨a, t, h1, h2⟩ := pieces_cons hc l
      rw [h2] at h
      rcases List.mem_cons.1 h with rfl | h
      · have := pieces_le p l a (by rw [h1]; simp)
        simp only [List.length_cons]
        omega
      · have := pieces_le p l x (by rw [h1]; simp [h])
        simp only [List.length_cons]
        omega
theorem piecesB_le {p : UInt8} {s x : ByteArray} (h : x ∈ piecesB p s) : x.size ≤ s.size := by
  obtain ⟨l, hl, rfl⟩ := List.mem_map.1 h
  have h1 := pieces_le p _ l hl
  have h2 : s.data.toList.length = s.size := Array.length_toList
  have h3 : (⟨l.toArray⟩ : ByteArray).size = l.length := List.size_toArray
  omega
theorem piecesB_data (p : UInt8) (s : ByteArray) : (piecesB p s).map (·.data.toList) = pieces p s.data.toList := by
  unfold piecesB
  rw [List.map_map]
  conv => rhs; rw [← List.map_id (pieces p s.data.toList)]
  rfl
theorem goF_snoc : ∀ (ws : List (List UInt8)) (a : List UInt8) (x : List UInt8), goF a (ws ++ [x]) = (goF a ws).bind fun b => match parseP x with
    | some c => if c = 0 ∨ b.length = 64 then none else some (b ++ [c])
    | none => none
  | [], a, x => by
    rw [List.nil_append, goF, goF, Option.bind_some]
    cases parseP x with
    | none => rfl
    | some c =>
      simp only
      split
      · rfl
      · rw [goF]
  | w :: ws, a, x => by
    rw [List.cons_append, goF, goF]
    cases parseP w with
    | none => rfl
    | some c =>
      simp only
      split
      · rfl
      · exact goF_snoc ws _ x
theorem goF_none : ∀ (ws : List (List UInt8)) (a : List UInt8) (m : List (List UInt8)), goF a ws = none → goF a (ws ++ m) = none
  | [], a, m, h => by rw [goF] at h; cases h
  | w :: ws, a, m, h => by
    rw [List.cons_append, goF]
    rw [goF] at h
    cases hp : parseP w with
    | none => rfl
    | some c =>
      rw [hp] at h
      simp only at h ⊢
      split at h
      · rw [if_pos (by assumption)]
      · rw [if_neg (by assumption)]
        exact goF_none ws _ m h
def gB (pre : List ByteArray) : Option (List UInt8) := goF [] (pre.map (·.data.toList))
theorem gB_snoc {pre : List ByteArray} {a : List UInt8} (h : gB pre = some a) (x : ByteArray) : gB (pre ++ [x]) = match parseP x.data.toList with
    | some c => if c = 0 ∨ a.length = 64 then none else some (a ++ [c])
    | none => none := by
  unfold gB at h ⊢
  rw [List.map_append, List.map_singleton, goF_snoc, h, Option.bind_some]
theorem goF_le : ∀ (ws : List (List UInt8)) (a b : List UInt8), a.length ≤ 64 → goF a ws = some b → b.length ≤ 64
  | [], a, b, h, e => by
    rw [goF] at e
    obtain rfl := Option.some.inj e
    exact h
  | w :: ws, a, b, h, e => by
    rw [goF] at e
    cases hp : parseP w with
    | none => rw [hp] at e; cases e
    | some c =>
      rw [hp] at e
      simp only at e
      split at e
      · cases e
      · rename_i hn
        refine goF_le ws _ b ?_ e
        rw [List.length_append, List.length_singleton]
        have : a.length ≠ 64 := fun e => hn (.inr e)
        omega
theorem conv_rowF {W : World} {B : Nat} {v : Value} {l : List UInt8} (h : W.ownsRow B 5 1 v l.length (Lib.byteCells l)) : (convert 22 46 v).run Tryz.prog W = .ok (.string ⟨l.toArray⟩) W := by
  rcases h.2 with ⟨hv, h0⟩ | ⟨g, cap, cur, hv, _, hg, h1, h2, _, h4⟩
  · obtain rfl := List.length_eq_zero_iff.1 h0
    rw [hv, run_convert_bytes_nil W 22 5 Tryz.underlying22 Tryz.underlying5 _ _ 46 Tryz.underlying46]
    rfl
  · rw [hv]
    refine run_convert_bytes_back W 22 46 5 ⟨g, 0, none⟩ cap l Tryz.underlying22 Tryz.underlying5 Tryz.underlying46 (fun j hj => ?_)
    rw [Nat.mul_one] at h4
    have hadd : (⟨g, 0, none⟩ : Addr).add j = ⟨g, j, none⟩ := by unfold Addr.add; simp; omega
    rw [hadd]
    unfold World.cell?
    rw [hg]
    show cur[j]? = _
    have h5 : (cur.toList.take l.length)[j]? = cur[j]? := by
      rw [List.getElem?_take_of_lt hj]
      simp
    rw [← h5, h4]
    unfold Lib.byteCells
    rw [List.getElem?_map, List.getElem?_eq_getElem hj]
    simp
/-! Least -/
theorem row_form {w : World} {B k n : Nat} {e : TypeId} {v : Value} {xs : List Value} (h : w.ownsRow B e k v n xs) : ∃ ao cap, v = .slice ao n cap := by
  rcases h.2 with ⟨rfl, rfl⟩ | ⟨g, cap, cur, rfl, _⟩
  · exact ⟨_, _, rfl⟩
  · exact ⟨_, _, rfl⟩
def cpEnd (l : List UInt8) : Ending := .returned (.tuple #[.string ⟨((parseFm l).getD []).toArray⟩, .bool (parseFm l).isSome])
set_option maxRecDepth 100000 in
set_option maxHeartbeats 4000000 in
theorem cparse_go (s : ByteArray) (hs : s.size ≤ 140737488351232) (w : World) (hL : Letters w) (h1 : s.data.toList ≠ [84]) (h2 : s.data.toList ≠ [70]) :
    Calls Tryz.prog 72 #[.string s] w fun e w' => e = cpEnd s.data.toList ∧ Below w.heap.size w w' := by
  obtain ⟨i0, hi, hz0, hz1, hz2⟩ := info_parts u8Info
  obtain ⟨L, hLL⟩ : ∃ L, L = piecesB 38 s := ⟨_, rfl⟩
  have e1 : (s.toList == [84]) = false := by
    rw [ByteArray.toList_eq, beq_eq_false_iff_ne]
    exact h1
  have e2 : (s.toList == [70]) = false := by
    rw [ByteArray.toList_eq, beq_eq_false_iff_ne]
    exact h2
  have HP : Hid (cpEnd s.data.toList = match gB L with
      | some f => if rightFm f then .returned (.tuple #[.string ⟨f.toArray⟩, .bool true]) else .returned (.tuple #[.string ⟨#[]⟩, .bool false])
      | none => .returned (.tuple #[.string ⟨#[]⟩, .bool false])) := Lib.hid (by
    unfold cpEnd parseFm gB
    rw [if_neg h1, if_neg h2, hLL, piecesB_data]
    cases goF [] (pieces 38 s.data.toList) with
    | none => rfl
    | some f =>
      simp only
      cases rightFm f <;> rfl)
  obtain ⟨A, hA⟩ : ∃ A, A = cpEnd s.data.toList := ⟨_, rfl⟩
  rw [← hA] at HP ⊢
  have HX : Hid (∀ pre x, pre ++ [x] <+: L → x.size ≤ s.size) := Lib.hid (fun pre x h => piecesB_le (by
    rw [← hLL]
    exact h.subset (by simp)))
  have HLL := Lib.hid hLL
  have HL := Lib.hid hL
  clear hLL hL h1 h2 hA
  refine (callsIn_wide (n := 9)).1 ?_
  refine callsIn_of_wp_marks Tryz.func72 rfl trivial ?_ rfl
  simp only [Tryz.ntmps72, List.size_toArray, List.length_cons, List.length_nil, Nat.reduceAdd, Nat.reduceSub, Array.replicate_succ, Array.replicate_zero, List.push_toArray, List.append_toArray, List.nil_append, List.cons_append]
  gi_wp2_with fail
  refine ⟨trivial, ?_⟩
  refine (callsIn_wide.2 (splitSeqB _ _ _)).mono ?_
  rintro e w' ⟨rfl, rfl⟩
  gi_wp2_with fail
  have bX : ∃ W0, W0 = (((((w.alloc (.cells #[.string ⟨#[]⟩] 46)).alloc (.cells #[.bool false] 4)).alloc (.cells #[.slice none 0 0] 22)).alloc (.cells #[.string s] 9)).alloc (.cells #[.string ⟨#[38]⟩] 9)).alloc (.cells #[.int .i64 0] 3) := ⟨_, rfl⟩
  obtain ⟨W0, hW0⟩ := bX
  have b0 : Boxed W0 w.heap.size 46 (.string ⟨#[]⟩) := by rw [hW0]; exact (((((Boxed.new w _ _).alloc _).alloc _).alloc _).alloc _).alloc _
  have b1 : Boxed W0 (w.heap.size + 1) 4 (.bool false) := by
    have h := Boxed.new (w.alloc (.cells #[.string ⟨#[]⟩] 46)) 4 (.bool false)
    simp only [World.size_alloc] at h
    rw [hW0]; exact (((h.alloc _).alloc _).alloc _).alloc _
  have b2 : Boxed W0 (w.heap.size + 1 + 1) 22 (.slice none 0 0) := by
    have h := Boxed.new ((w.alloc (.cells #[.string ⟨#[]⟩] 46)).alloc (.cells #[.bool false] 4)) 22 (.slice none 0 0)
    simp only [World.size_alloc] at h
    rw [hW0]; exact ((h.alloc _).alloc _).alloc _
  have b3 : Boxed W0 (w.heap.size + 1 + 1 + 1) 9 (.string s) := by
    have h := Boxed.new (((w.alloc (.cells #[.string ⟨#[]⟩] 46)).alloc (.cells #[.bool false] 4)).alloc (.cells #[.slice none 0 0] 22)) 9 (.string s)
    simp only [World.size_alloc] at h
    rw [hW0]; exact (h.alloc _).alloc _
  have b4 : Boxed W0 (w.heap.size + 1 + 1 + 1 + 1) 9 (.string ⟨#[38]⟩) := by
    have h := Boxed.new ((((w.alloc (.cells #[.string ⟨#[]⟩] 46)).alloc (.cells #[.bool false] 4)).alloc (.cells #[.slice none 0 0] 22)).alloc (.cells #[.string s] 9)) 9 (.string ⟨#[38]⟩)
    simp only [World.size_alloc] at h
    rw [hW0]; exact h.alloc _
  have b5 : Boxed W0 (w.heap.size + 1 + 1 + 1 + 1 + 1) 3 (.int .i64 0) := by
    have h := Boxed.new (((((w.alloc (.cells #[.string ⟨#[]⟩] 46)).alloc (.cells #[.bool false] 4)).alloc (.cells #[.slice none 0 0] 22)).alloc (.cells #[.string s] 9)).alloc (.cells #[.string ⟨#[38]⟩] 9)) 3 (.int .i64 0)
    simp only [World.size_alloc] at h
    rw [hW0]; exact h
  have hB0 : Below w.heap.size w W0 := by rw [hW0]; exact below_al (below_al (below_al (below_al (below_al (below_al (Below.refl _ _) _) _) _) _) _) _
  have hsz0 : W0.heap.size = w.heap.size + 6 := by rw [hW0]; simp
  rw [← hW0]
  clear hW0
  refine wpIn_rangeS rfl (by omega) (gf := 117) (lb := #[.pointer (some ⟨w.heap.size + 1 + 1 + 1 + 1, 0, none⟩), .pointer (some ⟨w.heap.size + 1 + 1 + 1, 0, none⟩), .pointer (some ⟨w.heap.size + 1 + 1 + 1 + 1 + 1, 0, none⟩)]) rfl trivial (enters_of Tryz.func117 (by kernel_rfl) rfl)
    (seq_stops _ (by omega) 38 (w.heap.size + 1 + 1 + 1 + 1) (w.heap.size + 1 + 1 + 1) (w.heap.size + 1 + 1 + 1 + 1 + 1) s hs L HLL.out (by omega) (by omega) W0 b4 b3 b5) (by omega) K3.trans (K3.put (by omega) (by omega) (by omega)) (Below.refl _ _) (fun _ => rfl)
    (fun pre W => (gB pre).isSome = true ∧ (∃ v, Boxed W (w.heap.size + 1 + 1) 22 v ∧ W.ownsRow w.heap.size 5 1 v ((gB pre).getD []).length (Lib.byteCells ((gB pre).getD [])) ∧ True) ∧ Boxed W w.heap.size 46 (.string ⟨#[]⟩) ∧ Boxed W (w.heap.size + 1) 4 (.bool false) ∧ (∃ r, Boxed W (w.heap.size + 1 + 1 + 1) 9 r) ∧ Boxed W (w.heap.size + 1 + 1 + 1 + 1) 9 (.string ⟨#[38]⟩) ∧ Boxed W (w.heap.size + 1 + 1 + 1 + 1 + 1) 3 (.int .i64 0) ∧ Below w.heap.size w W)
    (fun c pre W => (c = .ret ∧ gB pre = none) ∧ Boxed W w.heap.size 46 (.string ⟨#[]⟩) ∧ Boxed W (w.heap.size + 1) 4 (.bool false) ∧ Below w.heap.size w W)
    (OwnFrom.and (ownFrom_pure _ _) (OwnFrom.and (Own.from (holdsRow_own w.heap.size (w.heap.size + 1 + 1) 22 5 1 (fun pre : List ByteArray => ((gB pre).getD []).length) (fun pre => Lib.byteCells ((gB pre).getD [])) (fun _ _ => True)) _) (OwnFrom.and (Own.from (boxed_own _ _ _) _) (OwnFrom.and (Own.from (boxed_own _ _ _) _) (OwnFrom.and (fun s W W' row hs hg hr => by
      obtain ⟨r, hr0⟩ := hs
      exact ⟨r, (Own.from (boxed_own _ _ (fun _ : List ByteArray => r)) _) s W W' row hr0 hg hr⟩) (OwnFrom.and (Own.from (boxed_own _ _ _) _) (OwnFrom.and (Own.from (boxed_own _ _ _) _) (ownFrom_below (by omega) (by omega)))))))))
    (fun c => OwnFrom.and (ownFrom_pure _ _) (OwnFrom.and (Own.from (boxed_own _ _ _) _) (OwnFrom.and (Own.from (boxed_own _ _ _) _) (ownFrom_below (by omega) (by omega)))))
    (fun pre W v ⟨g, ⟨u, g1, g2, _⟩, g3, g4, ⟨r, g5⟩, g6, g7, g8⟩ => ⟨g, ⟨u, g1.other (by omega) v, g2.kept (grownBy_setCell' W _ v) (.inr (g5.not_row (by decide) g2).symm), trivial⟩, g3.other (by omega) v, g4.other (by omega) v, ⟨v, g5.set v⟩, g6.other (by omega) v, g7.other (by omega) v, g8.setCell (p := ⟨w.heap.size + 1 + 1 + 1, 0, none⟩) (by simp; omega) v⟩)
    ⟨rfl, ⟨_, b2, ⟨rfl, .inl ⟨rfl, rfl⟩⟩, trivial⟩, b0, b1, ⟨_, b3⟩, b4, b5, hB0⟩
    (fun x => { tmps := #[.string s, undef, .pointer (some ⟨w.heap.size, 0, none⟩), .pointer (some ⟨w.heap.size + 1, 0, none⟩), .pointer (some ⟨w.heap.size + 1 + 1, 0, none⟩), .string x, undef, undef, undef, .string s, .bool false, .bool false, .bool false, .bool false, .string s, .func (.func 117) #[] #[.pointer (some ⟨w.heap.size + 1 + 1 + 1 + 1, 0, none⟩), .pointer (some ⟨w.heap.size + 1 + 1 + 1, 0, none⟩), .pointer (some ⟨w.heap.size + 1 + 1 + 1 + 1 + 1, 0, none⟩)], .string x, undef, undef, undef, undef, undef, undef, undef, undef, undef, undef, undef, undef, undef, undef, undef, undef, undef, undef, undef, undef, undef, undef, undef, undef, undef, undef], defers := [] }) ?assign ?body ?done ?stop
  case assign =>
    intro l x W K hK
    gi_wp2
    exact hK
  case body =>
    rintro l pre x W ⟨hg, ⟨v, hv, hrow, -⟩, h0, h1, ⟨r, h3⟩, h4, h5, hB⟩ hpre
    obtain ⟨acc, hacc⟩ := Option.isSome_iff_exists.1 hg
    have hle := goF_le _ _ _ (by simp) hacc
    have hsn := gB_snoc hacc x
    rw [hacc] at hrow
    simp only [Option.getD_some] at hrow
    have hWn : w.heap.size ≤ W.heap.size := by have := hB.size; omega
    have hc := pparse_any x W (by have := HX.out _ _ hpre; omega) (HL.out.below hB)
    unfold ppEnd at hc
    have fin : ∀ w2, Below W.heap.size W w2 → gB (pre ++ [x]) = none →
        KeepsFrom W0.heap.size W ((w2.setCell ⟨w.heap.size, 0, none⟩ (.string ⟨#[]⟩)).setCell ⟨w.heap.size + 1, 0, none⟩ (.bool false)) ∧ (Code.ret = .ret ∧ gB (pre ++ [x]) = none) ∧ Boxed ((w2.setCell ⟨w.heap.size, 0, none⟩ (.string ⟨#[]⟩)).setCell ⟨w.heap.size + 1, 0, none⟩ (.bool false)) w.heap.size 46 (.string ⟨#[]⟩) ∧ Boxed ((w2.setCell ⟨w.heap.size, 0, none⟩ (.string ⟨#[]⟩)).setCell ⟨w.heap.size + 1, 0, none⟩ (.bool false)) (w.heap.size + 1) 4 (.bool false) ∧ Below w.heap.size w ((w2.setCell ⟨w.heap.size, 0, none⟩ (.string ⟨#[]⟩)).setCell ⟨w.heap.size + 1, 0, none⟩ (.bool false)) := fun w2 hb2 hno =>
      ⟨(((keeps_below hb2).trans (KeepsOthers.setCell _ _ _)).trans (KeepsOthers.setCell _ _ _)).from _, ⟨rfl, hno⟩, ((boxed_kb h0 (KB.of_below hb2 h0.lt)).set _).other (by omega) _, ((boxed_kb h1 (KB.of_below hb2 h1.lt)).other (by omega) _).set _, ((hB.trans (hb2.mono hWn)).setCell (p := ⟨w.heap.size, 0, none⟩) (by simp) _).setCell (p := ⟨w.heap.size + 1, 0, none⟩) (by simp) _⟩
    have HF := Lib.hid fin
    clear fin
    cases hp : parseP x.data.toList with
    | none =>
      rw [hp] at hc hsn
      simp only [Option.getD_none, Option.isSome_none] at hc
      have HS := Lib.hid hsn
      clear hp hsn hrow hg hacc
      gi_wp2_with fail
      refine ⟨trivial, ?_⟩
      refine (CallsIn.inRound l (callsIn_wide.2 hc)).mono ?_
      rintro e w2 ⟨rfl, hb2⟩
      have g0 := (boxed_kb h0 (KB.of_below hb2 h0.lt)).cell
      have g1 := (boxed_kb h1 (KB.of_below hb2 h1.lt)).cell
      have f0 := (boxed_kb h0 (KB.of_below hb2 h0.lt)).frozen
      have f1 := (boxed_kb h1 (KB.of_below hb2 h1.lt)).frozen
      have HE := Lib.hid (HF.out w2 hb2 HS.out)
      gi_wp2_with fail
      exact ⟨HE.out.1, ⟨rfl, HE.out.2.1.2⟩, HE.out.2.2⟩
    | some c =>
      rw [hp] at hc hsn
      simp only [Option.getD_some, Option.isSome_some] at hc hsn
      by_cases hc0 : c = 0
      · rw [if_pos (.inl hc0)] at hsn
        subst hc0
        have e0 : ((0 : UInt8).toNat : Int) = 0 := rfl
        rw [e0] at hc
        have HS := Lib.hid hsn
        clear hp hsn hrow hg hacc
        gi_wp2_with fail
        refine ⟨trivial, ?_⟩
        refine (CallsIn.inRound l (callsIn_wide.2 hc)).mono ?_
        rintro e w2 ⟨rfl, hb2⟩
        have g0 := (boxed_kb h0 (KB.of_below hb2 h0.lt)).cell
        have g1 := (boxed_kb h1 (KB.of_below hb2 h1.lt)).cell
        have f0 := (boxed_kb h0 (KB.of_below hb2 h0.lt)).frozen
        have f1 := (boxed_kb h1 (KB.of_below hb2 h1.lt)).frozen
        have HE := Lib.hid (HF.out w2 hb2 HS.out)
        gi_wp2_with fail
        exact ⟨HE.out.1, ⟨rfl, HE.out.2.1.2⟩, HE.out.2.2⟩
      · have z0 : ((c.toNat : Int) == 0) = false := by
          rw [beq_eq_false_iff_ne]
          intro e
          apply hc0
          apply UInt8.toNat_inj.1
          show c.toNat = 0
          omega
        have z0' : ¬ (c.toNat : Int) = 0 := by simpa using z0
        obtain ⟨ao, cap, rfl⟩ : ∃ ao cap, v = .slice ao acc.length cap := row_form hrow
        by_cases h64 : acc.length = 64
        · rw [if_pos (.inr h64)] at hsn
          have h64I : (acc.length : Int) = 64 := by omega
          have HS := Lib.hid hsn
          clear hp hsn hrow hg hacc
          gi_wp2_with fail
          refine ⟨trivial, ?_⟩
          refine (CallsIn.inRound l (callsIn_wide.2 hc)).mono ?_
          rintro e w2 ⟨rfl, hb2⟩
          have g0 := (boxed_kb h0 (KB.of_below hb2 h0.lt)).cell
          have g1 := (boxed_kb h1 (KB.of_below hb2 h1.lt)).cell
          have g2 := (boxed_kb hv (KB.of_below hb2 hv.lt)).cell
          have f0 := (boxed_kb h0 (KB.of_below hb2 h0.lt)).frozen
          have f1 := (boxed_kb h1 (KB.of_below hb2 h1.lt)).frozen
          have HE := Lib.hid (HF.out w2 hb2 HS.out)
          gi_wp2_with fail
          exact ⟨HE.out.1, ⟨rfl, HE.out.2.1.2⟩, HE.out.2.2⟩
        · rw [if_neg (fun e => e.elim hc0 h64)] at hsn
          have h64I : ¬ (acc.length : Int) = 64 := by omega
          have HS := Lib.hid hsn
          clear hp hsn hg hacc
          gi_wp2_with fail
          refine ⟨trivial, ?_⟩
          refine (CallsIn.inRound l (callsIn_wide.2 hc)).mono ?_
          rintro e w2 ⟨rfl, hb2⟩
          have hv2 := boxed_kb hv (KB.of_below hb2 hv.lt)
          have hrow2 := ownsRow_keep hrow hb2
          have g2 := hv2.cell
          have q0 := boxed_kb h0 (KB.of_below hb2 h0.lt)
          have q1 := boxed_kb h1 (KB.of_below hb2 h1.lt)
          have q3 := boxed_kb h3 (KB.of_below hb2 h3.lt)
          have q4 := boxed_kb h4 (KB.of_below hb2 h4.lt)
          have q5 := boxed_kb h5 (KB.of_below hb2 h5.lt)
          have hB2 := hB.trans (hb2.mono hWn)
          have hKO := keeps_below hb2
          have hw2n : w.heap.size ≤ w2.heap.size := by have := hb2.size; omega
          have hw2l : w.heap.size + 1 + 1 < w2.heap.size := hv2.lt
          have k3 : KB (w.heap.size + 1 + 1 + 1) W w2 := KB.of_below hb2 h3.lt
          have k4 : KB (w.heap.size + 1 + 1 + 1 + 1) W w2 := KB.of_below hb2 h4.lt
          have k5 : KB (w.heap.size + 1 + 1 + 1 + 1 + 1) W w2 := KB.of_below hb2 h5.lt
          clear hb2 hrow hc HF
          gi_wp2_with (gi_at_builtin; refine wpListIn_append_own _ rfl _ _ 22 rfl w.heap.size 5 i0 (.int .u8 0) 1 1 Tryz.underlying22 hi hz0 hz1 hz2 rfl (by decide) _ _ _ rfl (hrow2.alloc _) ⟨w2.heap.size, 0, none⟩ 1 1 [.int .u8 (c.toNat : Int)] rfl rfl (cell_one_new _ _ _) (by simp [Value.oneCell']) (by unfold maxLen; omega) (by omega) (by simp; omega) ?_; intro v' w1 hown' hgrow _; obtain ⟨g', cap', rfl⟩ := ownsRow_succ hown'; obtain ⟨hv1, hv3, hr2, hk2, hb3⟩ := hv2.appended (by decide) hrow2 hw2n (by omega) hown' hgrow; have hc1 := hv1.cell; have hf1 := hv1.frozen)
          have kb : ∀ {k : Nat} {T : TypeId} {u : Value}, Boxed w2 k T u → T ≠ 5 → k ≠ w.heap.size + 1 + 1 → KB k w2 (w1.setCell ⟨w.heap.size + 1 + 1, 0, none⟩ (.slice (some ⟨g', 0, none⟩) (acc.length + 1) cap')) := fun hb ht hk => kb_appended hb ht hk hrow2 hgrow
          have hcell : Lib.byteCells acc ++ [.int .u8 (c.toNat : Int)] = Lib.byteCells (acc ++ [c]) := by simp [Lib.byteCells]
          rw [hcell] at hr2
          refine ⟨(hKO.trans hk2).from _, ⟨k4.trans (kb q4 (by decide) (by omega)), k3.trans (kb q3 (by decide) (by omega)), k5.trans (kb q5 (by decide) (by omega))⟩, by rw [HS.out]; rfl, ⟨_, hv3, ?_, trivial⟩, boxed_kb q0 (kb q0 (by decide) (by omega)), boxed_kb q1 (kb q1 (by decide) (by omega)), ⟨_, boxed_kb q3 (kb q3 (by decide) (by omega))⟩, boxed_kb q4 (kb q4 (by decide) (by omega)), boxed_kb q5 (kb q5 (by decide) (by omega)), hB2.trans hb3⟩
          rw [HS.out]
          simpa using hr2
  case done =>
    rintro D W hD ⟨hg, ⟨v, hv, hrow, -⟩, h0, h1, -, -, -, hB⟩ hK
    obtain ⟨acc, hacc⟩ := Option.isSome_iff_exists.1 hg
    have hle := goF_le _ _ _ (by simp) hacc
    rw [hacc] at hrow HP
    simp only [Option.getD_some] at hrow HP
    have hcv := conv_rowF hrow
    have hWn : w.heap.size ≤ W.heap.size := by have := hB.size; omega
    have cvc := hv.cell
    have hsz : (⟨acc.toArray⟩ : ByteArray).size ≤ 140737488351232 := by
      rw [show (⟨acc.toArray⟩ : ByteArray).size = acc.length from List.size_toArray]
      omega
    have hr := cright_any ⟨acc.toArray⟩ hsz W
    rw [show (⟨acc.toArray⟩ : ByteArray).data.toList = acc from rfl] at hr
    obtain ⟨F, hF⟩ : ∃ F : ByteArray, F = ⟨acc.toArray⟩ := ⟨_, rfl⟩
    rw [← hF] at hcv hr HP
    clear hF hrow hacc hg hsz
    cases hrt : rightFm acc with
    | true =>
      rw [hrt] at hr HP
      have HA : Hid (A = .returned (.tuple #[.string F, .bool true])) := Lib.hid HP.out
      clear HP hrt
      gi_wp2_with fail
      refine ⟨trivial, ?_⟩
      refine (callsIn_wide.2 hr).mono ?_
      rintro e w2 ⟨rfl, hb2⟩
      have q0 := boxed_kb h0 (KB.of_below hb2 h0.lt)
      have q1 := boxed_kb h1 (KB.of_below hb2 h1.lt)
      have c0 := q0.cell
      have c1 := q1.cell
      have f0 := q0.frozen
      have f1 := q1.frozen
      have hK2 : w2.heap[D]? = some (.deferred (some [])) := (hb2.block D (Array.getElem?_eq_some_iff.1 hK).1).trans hK
      gi_wp2_with fail
      have hK' := (KeepsOthers.setCell (w2.setCell ⟨w.heap.size, 0, none⟩ (.string F)) ⟨w.heap.size + 1, 0, none⟩ (.bool true)).same D _ ((KeepsOthers.setCell w2 ⟨w.heap.size, 0, none⟩ (.string F)).same D _ hK2 rfl) rfl
      refine ⟨by simp, .inl ⟨_, _, rfl, run_takeDeferred hK', ?_⟩⟩
      have hc5 := cell_kept (((q1.other (B' := w.heap.size) (by omega) (.string F)).set (.bool true)).cell) (grownBy_putObj' _ D (.deferred none)) (fun r e => by cases e; exact ⟨_, hK', rfl⟩)
      have hc6 := cell_kept (((q0.set (.string F)).other (B' := w.heap.size + 1) (by omega) (.bool true)).cell) (grownBy_putObj' _ D (.deferred none)) (fun r e => by cases e; exact ⟨_, hK', rfl⟩)
      refine ⟨.tuple #[.string F, .bool true], ?_, HA.out.symm, ?_⟩
      · simp [results, Tryz.results72, go_sem, hc5, hc6]
      · exact (((hB.trans (hb2.mono hWn)).setCell (p := ⟨w.heap.size, 0, none⟩) (by simp) _).setCell (p := ⟨w.heap.size + 1, 0, none⟩) (by simp) _).trans (belowK_b (w := W0) (by omega) _ D _ _ hD hK' rfl rfl)
    | false =>
      rw [hrt] at hr HP
      have HA : Hid (A = .returned (.tuple #[.string ⟨#[]⟩, .bool false])) := Lib.hid HP.out
      clear HP hrt
      gi_wp2_with fail
      refine ⟨trivial, ?_⟩
      refine (callsIn_wide.2 hr).mono ?_
      rintro e w2 ⟨rfl, hb2⟩
      have q0 := boxed_kb h0 (KB.of_below hb2 h0.lt)
      have q1 := boxed_kb h1 (KB.of_below hb2 h1.lt)
      have c0 := q0.cell
      have c1 := q1.cell
      have f0 := q0.frozen
      have f1 := q1.frozen
      have hK2 : w2.heap[D]? = some (.deferred (some [])) := (hb2.block D (Array.getElem?_eq_some_iff.1 hK).1).trans hK
      gi_wp2_with fail
      have hK' := (KeepsOthers.setCell (w2.setCell ⟨w.heap.size, 0, none⟩ (.string ⟨#[]⟩)) ⟨w.heap.size + 1, 0, none⟩ (.bool false)).same D _ ((KeepsOthers.setCell w2 ⟨w.heap.size, 0, none⟩ (.string ⟨#[]⟩)).same D _ hK2 rfl) rfl
      refine ⟨by simp, .inl ⟨_, _, rfl, run_takeDeferred hK', ?_⟩⟩
      have hc5 := cell_kept (((q1.other (B' := w.heap.size) (by omega) (.string ⟨#[]⟩)).set (.bool false)).cell) (grownBy_putObj' _ D (.deferred none)) (fun r e => by cases e; exact ⟨_, hK', rfl⟩)
      have hc6 := cell_kept (((q0.set (.string ⟨#[]⟩)).other (B' := w.heap.size + 1) (by omega) (.bool false)).cell) (grownBy_putObj' _ D (.deferred none)) (fun r e => by cases e; exact ⟨_, hK', rfl⟩)
      refine ⟨.tuple #[.string ⟨#[]⟩, .bool false], ?_, HA.out.symm, ?_⟩
      · simp [results, Tryz.results72, go_sem, hc5, hc6]
      · exact (((hB.trans (hb2.mono hWn)).setCell (p := ⟨w.heap.size, 0, none⟩) (by simp) _).setCell (p := ⟨w.heap.size + 1, 0, none⟩) (by simp) _).trans (belowK_b (w := W0) (by omega) _ D _ _ hD hK' rfl rfl)
  case stop =>
    rintro D c pre W hD hpre ⟨⟨rfl, hno⟩, h0, h1, hB⟩ hK
    have HA : Hid (A = .returned (.tuple #[.string ⟨#[]⟩, .bool false])) := Lib.hid (by
      obtain ⟨t, ht⟩ := hpre
      have : gB L = none := by
        rw [← ht]
        unfold gB at hno ⊢
        rw [List.map_append]
        exact goF_none _ _ _ hno
      rw [HP.out, this])
    clear HP
    gi_wp2_with fail
    refine ⟨by simp, .inl ⟨_, _, rfl, run_takeDeferred hK, ?_⟩⟩
    have hc5 := cell_kept h1.cell (grownBy_putObj' _ D (.deferred none)) (fun r e => by cases e; exact ⟨_, hK, rfl⟩)
    have hc6 := cell_kept h0.cell (grownBy_putObj' _ D (.deferred none)) (fun r e => by cases e; exact ⟨_, hK, rfl⟩)
    refine ⟨.tuple #[.string ⟨#[]⟩, .bool false], ?_, HA.out.symm, hB.trans (belowK_b (w := W0) (by omega) W D _ _ hD hK rfl rfl)⟩
    simp [results, Tryz.results72, go_sem, hc5, hc6]
set_option maxRecDepth 100000 in
set_option maxHeartbeats 1000000 in
/-- what cnf.Parse does -/
theorem cparse_any : CParse := by
  intro s w hs hw
  by_cases h1 : s.data.toList = [84]
  · have HP : Hid (cpEnd s.data.toList = .returned (.tuple #[.string ⟨#[]⟩, .bool true])) := Lib.hid (by
      unfold cpEnd parseFm
      rw [if_pos h1]
      rfl)
    have e1 : (s.toList == [84]) = true := by rw [ByteArray.toList_eq, h1]; rfl
    show Calls Tryz.prog 72 #[.string s] w fun e w' => e = cpEnd s.data.toList ∧ Below w.heap.size w w'
    obtain ⟨A, hA⟩ : ∃ A, A = cpEnd s.data.toList := ⟨_, rfl⟩
    rw [← hA] at HP ⊢
    clear hA h1
    go_enter Tryz.func72, Tryz.ntmps72
    go_wp2_with fail
    refine bodyPost_ret (v := .tuple #[.string ⟨#[]⟩, .bool true]) (by simp [results, Tryz.results72, go_sem]) rfl ?_
    exact ⟨HP.out.symm, below_al (below_al (Below.refl _ _) _) _⟩
  · by_cases h2 : s.data.toList = [70]
    · have HP : Hid (cpEnd s.data.toList = .returned (.tuple #[.string ⟨#[0]⟩, .bool true])) := Lib.hid (by
        unfold cpEnd parseFm
        rw [if_neg h1, if_pos h2]
        rfl)
      have e1 : (s.toList == [84]) = false := by rw [ByteArray.toList_eq, h2]; rfl
      have e2 : (s.toList == [70]) = true := by rw [ByteArray.toList_eq, h2]; rfl
      show Calls Tryz.prog 72 #[.string s] w fun e w' => e = cpEnd s.data.toList ∧ Below w.heap.size w w'
      obtain ⟨A, hA⟩ : ∃ A, A = cpEnd s.data.toList := ⟨_, rfl⟩
      rw [← hA] at HP ⊢
      clear hA h1 h2
      go_enter Tryz.func72, Tryz.ntmps72
      go_wp2_with fail
      refine bodyPost_ret (v := .tuple #[.string ⟨#[0]⟩, .bool true]) (by simp [results, Tryz.results72, go_sem]) rfl ?_
      exact ⟨HP.out.symm, below_al (below_al (Below.refl _ _) _) _⟩
    · exact cparse_go s (by omega) w hw.v.ltr h1 h2
end Go.Proofs.YtiggallcoocdaaaGreatDoor
