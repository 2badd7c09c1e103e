/- What the law on counts keeps, from act to act. -/
import Derived.Test.YtdpmilffadalkaaDoorWMvarKeeps
namespace Go.Proofs.YtdpmilffadalkaaDoor
open Go.RowKit
/-- an act -/
structure A3 where
  kind : Int
  id : Int
  n : Int
def A3.row (a : A3) : List Value := [.int .u8 a.kind, .int .u8 a.id, .int .i64 a.n]
/-- v is a slice of these acts -/
def ActsAt (w : World) (v : Value) (l : List A3) : Prop := (∀ a ∈ l, 0 ≤ a.kind ∧ a.kind ≤ 255 ∧ 0 ≤ a.id ∧ a.id ≤ 255 ∧ InI64 a.n) ∧
  (((∃ ao cap, v = .slice ao 0 cap) ∧ l = []) ∨ ∃ b off cap, v = .slice (some ⟨b, off, none⟩) l.length cap ∧ b < w.heap.size ∧ ∀ i (hi : i < l.length) (j : Nat) u, l[i].row[j]? = some u → w.cell? ⟨b, off + i * 3 + j, none⟩ = some u)
theorem ActsAt.below {w w' : World} {v : Value} {l : List A3} (h : ActsAt w v l) (hb : Below w.heap.size w w') : ActsAt w' v l := by
  refine ⟨h.1, ?_⟩
  rcases h.2 with h1 | ⟨b, off, cap, hv, hlt, hg⟩
  · exact .inl h1
  · exact .inr ⟨b, off, cap, hv, Nat.lt_of_lt_of_le hlt hb.size, fun i hi j u hj => by rw [hb.cell (p := ⟨b, off + i * 3 + j, none⟩) hlt]; exact hg i hi j u hj⟩
theorem ActsAt.slice {w : World} {v : Value} {l : List A3} (h : ActsAt w v l) : ∃ ao cap, v = .slice ao l.length cap := by
  rcases h.2 with ⟨⟨ao, cap, hv⟩, h0⟩ | ⟨b, off, cap, hv, _⟩
  · exact ⟨ao, cap, by rw [hv, h0]; rfl⟩
  · exact ⟨_, _, hv⟩
/-- the cells of one act -/
def ActRow (b o : Nat) (a : A3) (w : World) : Prop := b < w.heap.size ∧ w.cell? ⟨b, o, none⟩ = some (.int .u8 a.kind) ∧ w.cell? ⟨b, o + 1, none⟩ = some (.int .u8 a.id) ∧ w.cell? ⟨b, o + 2, none⟩ = some (.int .i64 a.n)
theorem ActRow.below {b o : Nat} {a : A3} {w w' : World} (h : ActRow b o a w) (hb : Below w.heap.size w w') : ActRow b o a w' :=
  ⟨Nat.lt_of_lt_of_le h.1 hb.size, (hb.cell (p := ⟨b, o, none⟩) h.1).trans h.2.1, (hb.cell (p := ⟨b, o + 1, none⟩) h.1).trans h.2.2.1, (hb.cell (p := ⟨b, o + 2, none⟩) h.1).trans h.2.2.2⟩
theorem ActsAt.row {w : World} {ao : Option Addr} {n cap : Nat} {l : List A3} (h : ActsAt w (.slice ao n cap) l) {i : Nat} (hi : i < l.length) :
    ∃ b off, ao = some ⟨b, off, none⟩ ∧ ActRow b (off + i * 3) l[i] w := by
  rcases h.2 with ⟨⟨ao', cap', hv⟩, h0⟩ | ⟨b, off, cap', hv, hlt, hg⟩
  · subst h0; cases hi
  · simp only [Value.slice.injEq] at hv
    obtain ⟨rfl, _, _⟩ := hv
    exact ⟨b, off, rfl, hlt, hg i hi 0 _ rfl, hg i hi 1 _ rfl, hg i hi 2 _ rfl⟩
structure CInv (x : VM) (P T B : Int) : Prop where
  kinds : ∀ w ∈ x.q, w.put = x.full
  ids : ∀ w ∈ x.q, 0 < w.id.data.size
  count : P - T = if x.full then 1 + (x.q.length : Int) else 0
  blocked : B = x.q.length
theorem CInv.zero (v : V5) : CInv ⟨false, v, []⟩ 0 0 0 := ⟨by simp, by simp, by simp, by simp⟩
theorem find_all {p : Wt → Bool} {q : List Wt} (h : ∀ w ∈ q, p w = true) : q.findIdx? p = if q = [] then none else some 0 := by
  cases q with
  | nil => rfl
  | cons a l => simp [List.findIdx?_cons, h a (by simp)]
theorem toList_nil (b : ByteArray) : b.toList = [] ↔ ¬ 0 < b.data.size := by
  rw [ByteArray.toList_eq]
  obtain ⟨⟨l⟩⟩ := b
  cases l <;> simp
/-- what came of a taking: its own count, and who waits -/
def okT (b : Bool) : Int := if b then 1 else 0
def notE (b : ByteArray) : Int := if b.toList = [] then 0 else 1
theorem CInv.take {x : VM} {P T B : Int} (h : CInv x P T B) {id : ByteArray} (hid : 0 < id.data.size) : CInv (takeM x id).y P (T + okT (takeM x id).ok) (B + okT (!(takeM x id).ok) - notE (takeM x id).woken) := by
  obtain ⟨f, v, q⟩ := x
  obtain ⟨h1, h2, h3, h4⟩ := h
  cases f with
  | false =>
    unfold takeM
    simp only at *
    refine ⟨?_, ?_, ?_, ?_⟩
    · intro w hw
      simp only [List.mem_append, List.mem_singleton] at hw
      rcases hw with hw | rfl
      · exact h1 w hw
      · rfl
    · intro w hw
      simp only [List.mem_append, List.mem_singleton] at hw
      rcases hw with hw | rfl
      · exact h2 w hw
      · exact hid
    · simpa [okT] using h3
    · have : (⟨#[]⟩ : ByteArray).toList = [] := by rw [toList_nil]; simp
      simp [okT, notE, this, h4]
  | true =>
    have hf := find_all (p := fun w => w.put) (q := q) (fun w hw => h1 w hw)
    unfold takeM
    simp only at *
    cases q with
    | nil =>
      simp only [if_true] at hf
      split
      · have : (⟨#[]⟩ : ByteArray).toList = [] := by rw [toList_nil]; simp
        refine ⟨by simp, by simp, ?_, ?_⟩
        · simp [okT] at h3 ⊢; omega
        · simp [okT, notE, this] at h4 ⊢; omega
      · rename_i hk; rw [hf] at hk; cases hk
    | cons a l =>
      simp only [reduceCtorEq, if_false] at hf
      split
      · rename_i hk; rw [hf] at hk; cases hk
      · rename_i k0 hk
        rw [hf] at hk
        obtain rfl : 0 = k0 := Option.some.inj hk
        have ha := h2 a (by simp)
        have hne : a.id.toList ≠ [] := by rw [Ne, toList_nil]; omega
        refine ⟨fun w hw => h1 w (by simp at hw ⊢; exact .inr hw), fun w hw => h2 w (by simp at hw ⊢; exact .inr hw), ?_, ?_⟩
        · simp [okT] at h3 ⊢; omega
        · simp [okT, notE, hne] at h4 ⊢; omega
theorem CInv.put {x : VM} {P T B : Int} (h : CInv x P T B) {id : ByteArray} (hid : 0 < id.data.size) (u : V5) : CInv (putM x id u).y (P + 1) (T + notE (putM x id u).woken) (B + okT (!(putM x id u).ok) - notE (putM x id u).woken) := by
  obtain ⟨f, v, q⟩ := x
  obtain ⟨h1, h2, h3, h4⟩ := h
  have hE : (⟨#[]⟩ : ByteArray).toList = [] := by rw [toList_nil]; simp
  cases f with
  | true =>
    unfold putM
    simp only at *
    refine ⟨?_, ?_, ?_, ?_⟩
    · intro w hw
      simp only [List.mem_append, List.mem_singleton] at hw
      rcases hw with hw | rfl
      · exact h1 w hw
      · rfl
    · intro w hw
      simp only [List.mem_append, List.mem_singleton] at hw
      rcases hw with hw | rfl
      · exact h2 w hw
      · exact hid
    · simp [notE, hE] at h3 ⊢; omega
    · simp [okT, notE, hE] at h4 ⊢; omega
  | false =>
    have hf := find_all (p := fun w => !w.put) (q := q) (fun w hw => by rw [h1 w hw]; rfl)
    unfold putM
    simp only at *
    cases q with
    | nil =>
      simp only [if_true] at hf
      rw [hf]
      refine ⟨by simp, by simp, ?_, ?_⟩
      · simp [notE, hE] at h3 ⊢; omega
      · simp [okT, notE, hE] at h4 ⊢; omega
    | cons a l =>
      simp only [reduceCtorEq, if_false] at hf
      rw [hf]
      have ha := h2 a (by simp)
      have hne : a.id.toList ≠ [] := by rw [Ne, toList_nil]; omega
      refine ⟨fun w hw => h1 w (by simp at hw ⊢; exact .inr hw), fun w hw => h2 w (by simp at hw ⊢; exact .inr hw), ?_, ?_⟩
      · simp [notE, hne] at h3 ⊢; omega
      · simp [okT, notE, hne] at h4 ⊢; omega
theorem CInv.leave {x : VM} {P T B : Int} (h : CInv x P T B) (id : ByteArray) : CInv (leaveM x id).y (P - okT ((leaveM x id).ok && x.full)) T (B - okT (leaveM x id).ok) := by
  obtain ⟨f, v, q⟩ := x
  obtain ⟨h1, h2, h3, h4⟩ := h
  unfold leaveM
  simp only at *
  split
  · refine ⟨h1, h2, ?_, ?_⟩
    · simp [okT]; simpa using h3
    · simp [okT, h4]
  · rename_i k hk
    obtain ⟨hj, _⟩ := find_some hk
    have hm : ∀ w ∈ q.eraseIdx k, w ∈ q := fun w hw => List.mem_of_mem_eraseIdx hw
    refine ⟨fun w hw => h1 w (hm w hw), fun w hw => h2 w (hm w hw), ?_, ?_⟩
    · rw [List.length_eraseIdx, if_pos hj]
      cases f <;> simp [okT] at h3 ⊢ <;> omega
    · rw [List.length_eraseIdx, if_pos hj]
      simp [okT] at h4 ⊢
      omega
end Go.Proofs.YtdpmilffadalkaaDoor
