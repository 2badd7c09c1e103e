/- strings.SplitSeq at a dot, called with name.read's closure; name.read. -/
import Derived.Test.YtcgelcccboifjaaDoorNameTake
import Derived.Lib.IndexBytes
namespace Go.Proofs.YtcgelcccboifjaaDoor
open Go.RowKit
structure SeqAt (w0 : World) (B bp bo bs be bv : Nat) (l : List Int) (rest : ByteArray) (W : World) : Prop where
  tk : Taken w0 B bp bo l true W
  cs : W.heap[bs]? = some (.cells #[.string rest] 9)
  ce : W.heap[be]? = some (.cells #[.string ⟨#[46]⟩] 9)
  cv : W.heap[bv]? = some (.cells #[.int .i64 0] 3)
  lt : bs < B ∧ be < B ∧ bv < B
  ne : bs ≠ bp ∧ bs ≠ bo ∧ be ≠ bp ∧ be ≠ bo ∧ bv ≠ bp ∧ bv ≠ bo ∧ bs ≠ be ∧ bs ≠ bv
  low : w0.heap.size ≤ bs
def SeqEnds (w0 : World) (B bp bo : Nat) (F : Option (List Int)) (e : Ending) (w' : World) : Prop :=
  e = .returned (.tuple #[]) ∧ ∃ l, Taken w0 B bp bo l F.isSome w' ∧ (∀ x, F = some x → x = l)
/-- the words of a text by where its first dot is -/
theorem indexByte_dot : ∀ l : List UInt8, (Lib.indexByte l 46 = -1 ∧ words l = [l]) ∨ ∃ k : Nat, Lib.indexByte l 46 = k ∧ k < l.length ∧ words l = l.take k :: words (l.drop (k + 1))
  | [] => Or.inl ⟨rfl, rfl⟩
  | c :: l => by
    unfold Lib.indexByte
    by_cases hc : c = 46
    · subst hc
      exact Or.inr ⟨0, by simp, by simp, by rw [words_dot]; rfl⟩
    · have hb : (c == 46) = false := by simpa using hc
      obtain ⟨a, t, h3, h4⟩ := words_cons hc l
      rcases indexByte_dot l with ⟨h1, h2⟩ | ⟨k, h1, h2, h5⟩
      · rw [h2] at h3
        simp only [List.cons.injEq] at h3
        left
        rw [h1, h4, ← h3.1, ← h3.2]
        exact ⟨by simp [hb], rfl⟩
      · rw [h5] at h3
        simp only [List.cons.injEq] at h3
        right
        refine ⟨k + 1, ?_, by simp; omega, ?_⟩
        · rw [h1]
          have h0 : (((k : Int)) == -1) = false := beq_eq_false_iff_ne.2 (by omega)
          simp only [hb, h0, Bool.false_eq_true, if_false]
          omega
        · rw [h4, ← h3.1, ← h3.2]
          rfl
theorem SeqAt.kept {w0 : World} {B bp bo bs be bv : Nat} {l l' : List Int} {rest : ByteArray} {W W' : World} (h : SeqAt w0 B bp bo bs be bv l rest W) (k : Kept2 B bp bo W W') (t : Taken w0 B bp bo l' true W') : SeqAt w0 B bp bo bs be bv l' rest W' := by
  obtain ⟨n1, n2, n3, n4, n5, n6, n7, n8⟩ := h.ne
  exact ⟨t, (k.block _ h.lt.1 n1 n2).trans h.cs, (k.block _ h.lt.2.1 n3 n4).trans h.ce, (k.block _ h.lt.2.2 n5 n6).trans h.cv, h.lt, h.ne, h.low⟩
theorem Taken.other {w0 : World} {B bp bo : Nat} {l : List Int} {b : Bool} {W : World} (h : Taken w0 B bp bo l b W) {k : Nat} (h1 : k ≠ bp) (h2 : k ≠ bo) (hk : k < B) (hlow : w0.heap.size ≤ k) (x : Value) : Taken w0 B bp bo l b (W.setCell ⟨k, 0, none⟩ x) := by
  obtain ⟨⟨v, hv, hown⟩, hfl, hne, hbp, hbo, hsz, hlen, hl, hb⟩ := h
  exact ⟨⟨v, setCell_other hv h1 _, ownsRow_setCell_below hown (a := ⟨k, 0, none⟩) hk _⟩, setCell_other hfl h2 _, hne, hbp, hbo, by simpa [World.setCell] using hsz, hlen, hl, hb.setCell hlow _⟩
theorem SeqAt.set {w0 : World} {B bp bo bs be bv : Nat} {l : List Int} {rest : ByteArray} {W : World} (h : SeqAt w0 B bp bo bs be bv l rest W) (r : ByteArray) : SeqAt w0 B bp bo bs be bv l r (W.setCell ⟨bs, 0, none⟩ (.string r)) := by
  obtain ⟨n1, n2, n3, n4, n5, n6, n7, n8⟩ := h.ne
  exact ⟨h.tk.other n1 n2 h.lt.1 h.low _, setCell_block h.cs _, setCell_other h.ce n7 _, setCell_other h.cv n8 _, h.lt, h.ne, h.low⟩
def restSize (bs : Nat) (W : World) : Nat := match W.heap[bs]? with
  | some (.cells #[.string r] _ _) => r.size
  | _ => 0
theorem restSize_eq {bs : Nat} {W : World} {r : ByteArray} {T : TypeId} (h : W.heap[bs]? = some (.cells #[.string r] T)) : restSize bs W = r.size := by unfold restSize; rw [h]; rfl
def SeqRel (w0 : World) (B bp bo bs be bv n : Nat) (F : Option (List Int)) (W : World) : Prop := ∃ l rest, SeqAt w0 B bp bo bs be bv l rest W ∧ rest.size ≤ n ∧ readGo l (words rest.data.toList) = F
theorem SeqEnds.mk {w0 : World} {B bp bo : Nat} {F : Option (List Int)} {l : List Int} {w : List UInt8} {W w' : World} (h : TakeEnds w0 B bp bo l w W (.returned (.bool (tk l w).isSome)) w') (hF : tk l w = F) : SeqEnds w0 B bp bo F (.returned (.tuple #[])) w' := by
  obtain ⟨_, ht, _⟩ := h
  rw [hF] at ht
  refine ⟨rfl, _, ht, ?_⟩
  rintro x rfl
  rfl
set_option maxHeartbeats 1000000 in
theorem seq_any (w0 : World) (hw0 : Laid w0) (B bp bo bs be bv : Nat) (s : ByteArray) (w : World) (hs : s.size ≤ 140737488351232) (h : SeqAt w0 B bp bo bs be bv [] s w) :
    Calls Tryd.prog 62 #[.func (.func 37) #[] #[.pointer (some ⟨bp, 0, none⟩), .pointer (some ⟨bo, 0, none⟩)], .pointer (some ⟨be, 0, none⟩), .pointer (some ⟨bs, 0, none⟩), .pointer (some ⟨bv, 0, none⟩)] w (SeqEnds w0 B bp bo (readGo [] (words s.data.toList))) := by
  have ce := Mem.cell (v := .string ⟨#[46]⟩) h.ce 0 rfl
  generalize hF : readGo [] (words s.data.toList) = F
  have hrel0 : SeqRel w0 B bp bo bs be bv s.size F w := ⟨[], s, h, Nat.le_refl _, hF⟩
  generalize hN : s.size = N at hs hrel0
  clear hF hN h
  go_enter Tryd.func62, Tryd.ntmps62
  go_wp2_with fail
  go_loopw [7, 8] (fun _ _ W => SeqRel w0 B bp bo bs be bv N F W) (fun _ _ W => restSize bs W)
  case atStart => exact hrel0
  case round =>
    obtain ⟨l, rest, h, hn, hF⟩ := hrel
    have cs := Mem.cell (v := .string rest) h.cs 0 rfl
    have ce := Mem.cell (v := .string ⟨#[46]⟩) h.ce 0 rfl
    have cv := Mem.cell (v := .int .i64 0) h.cv 0 rfl
    have fs := Mem.free h.cs 0
    have hm := Lib.hid (restSize_eq h.cs)
    have H := Lib.hid h
    have HF := Lib.hid hF
    clear hrel0 h hF
    rcases indexByte_dot rest.data.toList with ⟨h1, h2⟩ | ⟨k, h1, h2, h3⟩
    · have H1 := Lib.hid h1
      have H2 := Lib.hid h2
      clear h1 h2
      go_wp2_with fail
      refine (Go.Proofs.Tryd.strings_Index_one _ _ _).mono ?_
      rw [H1.out]
      rintro e _ ⟨rfl, rfl⟩
      go_wp2_with fail
      refine (take_any w0 hw0 B bp bo l rest _ H.out.tk (by omega)).mono ?_
      rintro e w2 ht
      have hF2 : tk l rest.data.toList = F := by
        have h3 := HF.out
        rw [H2.out, readGo_step] at h3
        rw [← h3]
        cases tk l rest.data.toList <;> rfl
      obtain rfl := ht.1
      have HE := Lib.hid (SeqEnds.mk ht hF2)
      clear ht hF2 HF H hm cs ce cv fs hw0
      go_wp2_with fail
      go_end0
      exact HE.out
    · have H1 := Lib.hid h1
      have H2 := Lib.hid h3
      have hk : k < rest.size := h2
      have hr : rest.size ≤ 140737488351232 := by omega
      clear h1 h3 h2
      go_wp2_with fail
      refine (Go.Proofs.Tryd.strings_Index_one _ _ _).mono ?_
      rw [H1.out]
      rintro e _ ⟨rfl, rfl⟩
      go_wp2_with fail
      have hex : (rest.extract 0 k).data.toList = rest.data.toList.take k := by simp
      have hex2 : (rest.extract (k + 1) rest.size).data.toList = rest.data.toList.drop (k + 1) := Lib.extract_to_end rest (k + 1)
      have hF1 : (match tk l (rest.data.toList.take k) with | some l' => readGo l' (words (rest.data.toList.drop (k + 1))) | none => none) = F := by
        have := HF.out
        rw [H2.out, readGo_step] at this
        exact this
      refine (take_any w0 hw0 B bp bo l (rest.extract 0 k) _ H.out.tk (by have : (rest.extract 0 k).size = k := by simp; omega
                                                                          omega)).mono ?_
      rintro e w2 ht
      have hb := ht.1
      cases htk : tk l (rest.data.toList.take k) with
      | none =>
        rw [htk] at hF1
        rw [hex, htk] at hb
        obtain rfl := hb
        have HE : Hid (SeqEnds w0 B bp bo F (.returned (.tuple #[])) w2) := Lib.hid (SeqEnds.mk (l := l) (w := (rest.extract 0 k).data.toList) (by rw [hex, htk]; rw [hex] at ht; exact ht) (by rw [hex, htk]; exact hF1))
        clear ht hF1 HF H hm cs ce cv fs hw0 hex hex2 htk
        go_wp2_with fail
        go_end0
        exact HE.out
      | some l' =>
        rw [htk] at hF1
        rw [hex, htk] at hb
        obtain rfl := hb
        have ht2 := ht
        unfold TakeEnds at ht2
        rw [hex, htk] at ht2
        have S2 := H.out.kept ht2.2.2 ht2.2.1
        have S3 := Lib.hid (S2.set (rest.extract (k + 1) rest.size))
        have cs2 := Mem.cell (v := .string rest) S2.cs 0 rfl
        have ce2 := Mem.cell (v := .string ⟨#[46]⟩) S2.ce 0 rfl
        have fs2 := Mem.free S2.cs 0
        have HF3 : Hid (readGo l' (words (rest.extract (k + 1) rest.size).data.toList) = F) := Lib.hid (by rw [hex2]; exact hF1)
        have hm2 : Hid (restSize bs (w2.setCell ⟨bs, 0, none⟩ (.string (rest.extract (k + 1) rest.size))) < restSize bs w2) := Lib.hid (by
          rw [restSize_eq S3.out.cs, restSize_eq S2.cs]
          simp
          omega)
        have hm3 : Hid (restSize bs (w2.setCell ⟨bs, 0, none⟩ (.string (rest.extract (k + 1) rest.size))) < rest.size) := Lib.hid (by
          rw [restSize_eq S3.out.cs]
          simp
          omega)
        clear ht ht2 S2 hF1 HF H cs ce cv fs hw0 hex hex2 htk
        go_wp2_with fail
        go_roundw
        case rel => exact ⟨l', _, S3.out, by simp; omega, HF3.out⟩
        case measure => rw [hm.out]; exact hm3.out
end Go.Proofs.YtcgelcccboifjaaDoor
