/- RangeS, SeqS: joined into one text; each part says below what it holds. -/
import Derived.RangeFuncNested
import Derived.RangeFuncBound
import Derived.RangeFuncCalls
import Derived.RangeFuncLeaves
import Derived.RangeFuncBox
import Derived.Shelf.Abstract
import Derived.WalkKit
import Derived.Test.YtiggallcoocdaaaGreatDoorEach
import Derived.Test.YtiggallcoocdaaaGreatDoorZ6
import Derived.Test.YtiggallcoocdaaaGreatDoorZ1
import Derived.Test.YtiggallcoocdaaaGreatDoorShelf
/- A range over an iterator that keeps a state of its own in one box: the kit's law on a range over a function, turned to it. -/
namespace Go.Proofs.YtiggallcoocdaaaGreatDoor
open Go.RowKit
/-- what an iterator promises that stores into block bs between two rounds: the values of L come, in order -/
def SeqS {α : Type} (F : Fence) (n : Nat) (P : Program) (g : Nat) (lb : Array Value) (encs : α → Array Value) (Kp : World → World → Prop) (L : List α) (bs : Nat) (w : World) : Prop :=
  ∀ (l : Nat) (J Jx : List α → World → Prop) (W : World), Below w.heap.size w W → AbidesFrom W.heap.size J → AbidesFrom W.heap.size Jx → (∀ pre W v, J pre W → J pre (W.setCell ⟨bs, 0, none⟩ v)) →
    (∀ pre x W1, J pre W1 → pre ++ [x] <+: L → YieldAt F (n - 1) P l (encs x) W1 fun e W' => (e = .returned (.bool true) ∧ J (pre ++ [x]) W' ∧ Kp W1 W') ∨ (e = .returned (.bool false) ∧ Jx (pre ++ [x]) W')) →
    J [] W → CallsIn F n P g (#[.func (.yield l) #[] #[]] ++ lb) W fun e W' => (∃ v, e = .returned v) ∧ (J L W' ∨ ∃ pre, pre <+: L ∧ Jx pre W')
theorem wpIn_rangeS {F : Fence} {n : Nat} {P : Program} {α : Type} {g : Operand} {ps : Array Tmp} {assign body : Code} {Q : Exit → Act → World → Prop} {a : Act} {w : World}
    (hro : F.round = none) (h1 : 1 ≤ n) {gf : Nat} {lb : Array Value} (hg : a.eval g = .func (.func gf) #[] lb) (hFg : F.fn gf) (eg : ∀ args w, (callFunc gf args).run P w = .ok (.enter gf args) w)
    {encs : α → Array Value} {Kp : World → World → Prop} {L : List α} {bs : Nat} {w0 : World} (hseq : SeqS F (n - 1) P gf lb encs Kp L bs w0) (hbs : bs < w.heap.size)
    (hKt : ∀ {A B C : World}, Kp A B → Kp B C → Kp A C) (hKb : ∀ (W : World) (l : Nat) (o o' : Obj), w.heap.size ≤ l → W.heap[l]? = some o → o.isCells = false → o.isWalk = false → Kp W (W.putObj l o')) (hb0 : Below w0.heap.size w0 w) (hps : ∀ x, (encs x).size = ps.size)
    (I : List α → World → Prop) (Ix : Code → List α → World → Prop) (hI : OwnFrom w.heap.size I) (hIx : ∀ c, OwnFrom w.heap.size (Ix c)) (hIs : ∀ pre W v, I pre W → I pre (W.setCell ⟨bs, 0, none⟩ v)) (h0 : I [] w) (a₁ : α → Act)
    (hassign : ∀ (l : Nat) (x : α) (W : World) (K : Act → World → Prop), K (a₁ x) W →
      assign.wpIn (F.inRound l) (n - 1 - 1) P (Exit.then K (fun _ _ _ => False)) { tmps := (ps.zip (encs x)).foldl (fun t (p, v) => t.setIfInBounds p v) a.tmps, defers := [] } W)
    (hbody : ∀ (l : Nat) (pre : List α) (x : α) (W : World), I pre W → pre ++ [x] <+: L → body.wpIn (F.inRound l) (n - 1 - 1) P (ownPostG w.heap.size Kp I Ix (pre ++ [x]) W) (a₁ x) W)
    (hdone : ∀ (D : Nat) (W : World), w.heap.size ≤ D → I L W → W.heap[D]? = some (.deferred (some [])) → Q .normal { a with defers := { target := .collected D, args := #[] } :: a.defers } W)
    (hstop : ∀ (D : Nat) (c : Code) (pre : List α) (W : World), w.heap.size ≤ D → pre <+: L → Ix c pre W → W.heap[D]? = some (.deferred (some [])) → c.wpIn F n P Q { a with defers := { target := .collected D, args := #[] } :: a.defers } W) :
    (Code.rangeFunc g ps assign body).wpIn F n P Q a w := by
  refine wpIn_rangeFunc ?_
  intro fn hfn
  rw [hro]
  obtain ⟨S, hS⟩ : ∃ S, S = w.heap.size := ⟨_, rfl⟩
  obtain ⟨rec, hrec⟩ : ∃ rec : LoopState → Option Code → Loop, rec = fun st pe => { state := st, pending := pe, fn, tmps := a.tmps, params := ps, assign, body, defers := S } := ⟨_, rfl⟩
  obtain ⟨W1, hW1⟩ : ∃ W1, (w.alloc (.deferred (some []))).alloc (.loop (rec .ready none)) = W1 := ⟨_, rfl⟩
  have hLn : W1.heap[S + 1]? = some (.loop (rec .ready none)) := by
    rw [← hW1, hS]
    have h := World.alloc_heap_new (w.alloc (.deferred (some []))) (.loop (rec .ready none))
    rwa [World.size_alloc] at h
  have hDn : W1.heap[S]? = some (.deferred (some [])) := by
    rw [← hW1, hS]
    exact (Below.heap_alloc _ _ _ (by simp)).trans (World.alloc_heap_new w _)
  have hIn : I [] W1 := by
    rw [← hW1]
    exact hI.alloc _ (hI.alloc _ h0)
  have hbn : Below w0.heap.size w0 W1 := by
    rw [← hW1]
    exact hb0.trans ((((Below.refl _ w).alloc (Nat.le_refl _) _).alloc (by simp) _).mono hb0.size)
  have hsz1 : W1.heap.size = S + 2 := by
    rw [← hW1, hS]
    simp
  rw [← hS] at hI hIx hKb hbody hdone hstop hbs
  have hEnter : W1 = (w.alloc (.deferred (some []))).alloc (.loop (rec .ready none)) := hW1.symm
  clear hW1
  refine ⟨S + 1, [{ target := .collected S, args := #[] }], W1, { target := .fn (.func gf) lb, args := #[.func (.yield (S + 1)) #[] #[]] }, W1, gf, #[.func (.yield (S + 1)) #[] #[]] ++ lb, W1, ?_, ?_, ?_, ?_, fun _ => h1, ?_⟩
  · rw [hEnter, hrec, hS]
    exact run_enterLoop_outer _ _ _ _ _
  · simp only [resolve, hg]
    simp [go_sem]
  · intro f' hf'
    simp [Target.leads] at hf'
    subst hf'
    exact hFg
  · simp [invoke, go_sem, eg]
  · have hrow : ∀ {A : World} {row : Option Nat}, (∀ r, row = some r → W1.heap.size ≤ r ∧ ∃ o : Obj, A.heap[r]? = some o ∧ o.isWalk = true) → (∀ r, row = some r → S ≤ r ∧ ∃ o : Obj, A.heap[r]? = some o ∧ o.isCells = false) := fun hr r e => by
      obtain ⟨hB, o, ho, hw⟩ := hr r e
      exact ⟨by omega, o, ho, Obj.not_cells_of_walk hw⟩
    refine (hseq (S + 1) (fun pre W => I pre W ∧ W.heap[S + 1]? = some (.loop (rec .ready none)) ∧ W.heap[S]? = some (.deferred (some [])))
      (fun pre W => ∃ c, Ix c pre W ∧ W.heap[S + 1]? = some (.loop (rec .done (some c))) ∧ W.heap[S]? = some (.deferred (some []))) W1 hbn
      (fun s A B row hs hg' hr => ⟨hI s A B row hs.1 hg' (hrow hr), (grownBy_keeps hg' (fun r e => (hr r e).2) hs.2.1 rfl).trans hs.2.1, (grownBy_keeps hg' (fun r e => (hr r e).2) hs.2.2 rfl).trans hs.2.2⟩)
      (fun s A B row ⟨c, hc, hl, hk⟩ hg' hr => ⟨c, hIx c s A B row hc hg' (hrow hr), (grownBy_keeps hg' (fun r e => (hr r e).2) hl rfl).trans hl, (grownBy_keeps hg' (fun r e => (hr r e).2) hk rfl).trans hk⟩)
      (fun pre W v ⟨hi, hl, hk⟩ => ⟨hIs pre W v hi, (Below.heap_setCell _ _ _ _ (show S + 1 ≠ bs by omega)).trans hl, (Below.heap_setCell _ _ _ _ (show S ≠ bs by omega)).trans hk⟩)
      ?_ ⟨hIn, hLn, hDn⟩).mono ?_
    · rintro pre x W ⟨hi, hl, hk⟩ hlen
      have hlt : S + 1 < W.heap.size := (Array.getElem?_eq_some_iff.1 hl).1
      have hy := run_yield (P := P) (args := encs x) hl (by rw [hrec]; exact hps x)
      rw [hrec] at hy
      refine ⟨fn, _, assign, body, hy, roundIn_of_wpIn hfn (hassign _ x W _ ⟨_, run_beginRound hl (by rw [hrec]), ?_⟩)⟩
      have hl2 : (W.putObj (S + 1) (.loop { rec .ready none with state := .busy })).heap[S + 1]? = some (.loop { rec .ready none with state := .busy }) := World.putObj_heap_same hlt
      have hk2 : (W.putObj (S + 1) (.loop { rec .ready none with state := .busy })).heap[S]? = some (.deferred (some [])) := (World.putObj_heap_other (by omega)).trans hk
      have hw2 : Kp W (W.putObj (S + 1) (.loop { rec .ready none with state := .busy })) := hKb _ _ _ _ (by omega) hl rfl rfl
      refine wpIn_mono (hbody _ pre x _ (hI.putObj _ hi (by omega) hl rfl) hlen) ?_
      have fin : ∀ (jump : Option Code) (W3 : World), KeepsFrom S (W.putObj (S + 1) (.loop { rec .ready none with state := .busy })) W3 →
          (Instr.endRound (S + 1) jump).run P W3 = .ok (.bool jump.isNone) (W3.putObj (S + 1) (.loop (rec (if jump.isNone then .ready else .done) jump))) ∧
          W3.heap[S + 1]? = some (.loop { rec .ready none with state := .busy }) ∧
          (W3.putObj (S + 1) (.loop (rec (if jump.isNone then .ready else .done) jump))).heap[S + 1]? = some (.loop (rec (if jump.isNone then .ready else .done) jump)) ∧
          (W3.putObj (S + 1) (.loop (rec (if jump.isNone then .ready else .done) jump))).heap[S]? = some (.deferred (some [])) := fun jump W3 hk3 => by
        have hl3 := hk3.same _ _ (by omega) hl2 rfl
        have hE := run_endRound (P := P) jump hl3
        rw [hrec] at hE ⊢
        exact ⟨hE, by rw [hrec] at hl3; exact hl3, World.putObj_heap_same (Array.getElem?_eq_some_iff.1 hl3).1, (World.putObj_heap_other (by omega)).trans (hk3.same _ _ (Nat.le_refl _) hk2 rfl)⟩
      rintro e a3 W3 hp
      cases e with
      | normal =>
        obtain ⟨hk3, hkp3, hi3⟩ := hp
        obtain ⟨hr, hl3, hl4, hk4⟩ := fin none W3 hk3
        exact ⟨_, _, hr, .inl ⟨rfl, ⟨hI.putObj _ hi3 (by omega) hl3 rfl, hl4, hk4⟩, hKt (hKt hw2 hkp3) (hKb _ _ _ _ (by omega) hl3 rfl rfl)⟩⟩
      | ret =>
        obtain ⟨hk3, hi3⟩ := hp
        obtain ⟨hr, hl3, hl4, hk4⟩ := fin (some .ret) W3 hk3
        exact ⟨_, _, hr, .inr ⟨rfl, .ret, (hIx _).putObj _ hi3 (by omega) hl3 rfl, hl4, hk4⟩⟩
      | exit id =>
        obtain ⟨hk3, hi3⟩ := hp
        obtain ⟨hr, hl3, hl4, hk4⟩ := fin (some (.exit id)) W3 hk3
        exact ⟨_, _, hr, .inr ⟨rfl, .exit id, (hIx _).putObj _ hi3 (by omega) hl3 rfl, hl4, hk4⟩⟩
      | goto t =>
        obtain ⟨hk3, hi3⟩ := hp
        obtain ⟨hr, hl3, hl4, hk4⟩ := fin (some (.goto t)) W3 hk3
        exact ⟨_, _, hr, .inr ⟨rfl, .goto t, (hIx _).putObj _ hi3 (by omega) hl3 rfl, hl4, hk4⟩⟩
      | panic ch => exact hp.elim
      | outgrown => exact hp.elim
    · rintro e W2 ⟨⟨v, rfl⟩, (⟨hi, hl, hk⟩ | ⟨pre, hSp, c, hi, hl, hk⟩)⟩
      · exact ⟨none, _, by have h := run_endLoop (P := P) hl (by rw [hrec]; simp); rw [hrec] at h; exact h, hdone _ _ (Nat.le_refl _) (hI.putObj _ hi (by omega) hl rfl) ((World.putObj_heap_other (by omega)).trans hk)⟩
      · exact ⟨some c, _, by have h := run_endLoop (P := P) hl (by rw [hrec]; simp); rw [hrec] at h; exact h, hstop _ c pre _ (Nat.le_refl _) hSp ((hIx c).putObj _ hi (by omega) hl rfl) ((World.putObj_heap_other (by omega)).trans hk)⟩
end Go.Proofs.YtiggallcoocdaaaGreatDoor
/- strings.SplitSeq at one byte, ranged over: its iterator hands over the pieces, in order. -/
namespace Go.Proofs.YtiggallcoocdaaaGreatDoor
open Go.RowKit Go.Shelf
attribute [local go_sem] Oper.semAt_some
theorem indexByte_pieces (p : UInt8) : ∀ l : List UInt8, (Lib.indexByte l p = -1 ∧ pieces p l = [l]) ∨ ∃ k : Nat, Lib.indexByte l p = k ∧ k < l.length ∧ pieces p l = l.take k :: pieces p (l.drop (k + 1))
  | [] => Or.inl ⟨rfl, rfl⟩
  | c :: l => by
    unfold Lib.indexByte
    by_cases hc : c = p
    · subst hc
      exact Or.inr ⟨0, by simp, by simp, by rw [pieces_at]; rfl⟩
    · have hb : (c == p) = false := by simpa using hc
      obtain ⟨a, t, h3, h4⟩ := pieces_cons hc l
      rcases indexByte_pieces p l with ⟨h1, h2⟩ | ⟨k, h1, h2, h5⟩
      · rw [h2] at h3
        simp only [List.cons.injEq] at h3
        left
        rw [h1, h4, ← h3.1, ← h3.2]
        exact ⟨by simp [hb], rfl⟩
      · rw [h5] at h3
        simp only [List.cons.injEq] at h3
        right
        refine ⟨k + 1, ?_, by simp; omega, ?_⟩
        · rw [h1]
          have h0 : (((k : Int)) == -1) = false := beq_eq_false_iff_ne.2 (by omega)
          simp only [hb, h0, Bool.false_eq_true, if_false]
          omega
        · rw [h4, ← h3.1, ← h3.2]
          rfl
/-- three blocks lie as they lay -/
def K3 (a b c : Nat) (W W' : World) : Prop := KB a W W' ∧ KB b W W' ∧ KB c W W'
theorem K3.trans {a b c : Nat} {X Y Z : World} (h : K3 a b c X Y) (k : K3 a b c Y Z) : K3 a b c X Z := ⟨h.1.trans k.1, h.2.1.trans k.2.1, h.2.2.trans k.2.2⟩
theorem K3.put {a b c : Nat} {w : World} (ha : a < w.heap.size) (hb : b < w.heap.size) (hc : c < w.heap.size) (W : World) (l : Nat) (o o' : Obj) (hl : w.heap.size ≤ l) (h1 : W.heap[l]? = some o) (h2 : o.isCells = false) (h3 : o.isWalk = false) : K3 a b c W (W.putObj l o') :=
  ⟨KB.put ha W l o o' hl h1 h2 h3, KB.put hb W l o o' hl h1 h2 h3, KB.put hc W l o o' hl h1 h2 h3⟩
def piecesB (p : UInt8) (s : ByteArray) : List ByteArray := (pieces p s.data.toList).map fun l => ⟨l.toArray⟩
theorem piecesB_one {p : UInt8} {s : ByteArray} (h : pieces p s.data.toList = [s.data.toList]) : piecesB p s = [s] := by
  unfold piecesB
  rw [h]
  rfl
theorem piecesB_more {p : UInt8} {s : ByteArray} {k : Nat} (_ : k < s.size) (h : pieces p s.data.toList = s.data.toList.take k :: pieces p (s.data.toList.drop (k + 1))) : piecesB p s = s.extract 0 k :: piecesB p (s.extract (k + 1) s.size) := by
  unfold piecesB
  rw [h, List.map_cons, Lib.extract_to_end s (k + 1)]
  congr 1
  apply ByteArray.ext
  apply Array.ext'
  simp
def restZ (bs : Nat) (W : World) : Nat := match W.heap[bs]? with
  | some (.cells #[.string r] _ _) => r.size
  | _ => 0
theorem restZ_eq {bs : Nat} {W : World} {r : ByteArray} {T : TypeId} (h : W.heap[bs]? = some (.cells #[.string r] T)) : restZ bs W = r.size := by
  unfold restZ
  rw [h]
  rfl
theorem piecesB_ne (p : UInt8) (s : ByteArray) : piecesB p s ≠ [] := by
  unfold piecesB
  simpa using pieces_ne p _
set_option maxRecDepth 100000 in
set_option maxHeartbeats 2000000 in
theorem seq1_in (n : Nat) (hn : 1 ≤ n) (p : UInt8) (l be bs bv : Nat) (s : ByteArray) (hs : s.size ≤ 140737488351232) (L : List ByteArray) (hL : L = piecesB p s) (hne1 : bs ≠ be) (hne2 : bs ≠ bv) (J Jx : List ByteArray → World → Prop)
    (hJ : ∀ pre W v, J pre W → J pre (W.setCell ⟨bs, 0, none⟩ v))
    (hY : ∀ pre x W, J pre W → pre ++ [x] <+: L → YieldAt Fence.wide (n - 1) Tryz.prog l #[.string x] W fun e W' =>
      (e = .returned (.bool true) ∧ J (pre ++ [x]) W' ∧ K3 be bs bv W W') ∨ (e = .returned (.bool false) ∧ Jx (pre ++ [x]) W'))
    (W : World) (hBe : Boxed W be 9 (.string ⟨#[p]⟩)) (hBs : Boxed W bs 9 (.string s)) (hBv : Boxed W bv 3 (.int .i64 0)) (h0 : J [] W) :
    CallsIn Fence.wide n Tryz.prog 117 #[.func (.yield l) #[] #[], .pointer (some ⟨be, 0, none⟩), .pointer (some ⟨bs, 0, none⟩), .pointer (some ⟨bv, 0, none⟩)] W fun e W' => (∃ v, e = .returned v) ∧
      (J L W' ∨ (∃ pre, pre <+: L ∧ Jx pre W')) := by
  have HL := Lib.hid hL
  clear hL
  have ce0 := hBe.cell
  refine callsIn_of_wp Tryz.func117 rfl trivial ?_ rfl
  simp only [Tryz.ntmps117, List.size_toArray, List.length_cons, List.length_nil, Nat.reduceAdd, Nat.reduceSub, Array.replicate_succ, Array.replicate_zero, List.push_toArray, List.append_toArray, List.nil_append, List.cons_append]
  gi_wp2
  gi_loopw [7, 8] (fun _ _ wr => ∃ pre rest, J pre wr ∧ Boxed wr be 9 (.string ⟨#[p]⟩) ∧ Boxed wr bs 9 (.string rest) ∧ Boxed wr bv 3 (.int .i64 0) ∧ rest.size ≤ s.size ∧ pre ++ piecesB p rest = L)
    (fun _ _ wr => restZ bs wr)
  case atStart => exact ⟨[], s, h0, hBe, hBs, hBv, Nat.le_refl _, HL.out.symm⟩
  case round =>
    obtain ⟨pre, rest, hJs, hbe, hbs, hbv, hsz, hrest⟩ := hrel
    have ce := hbe.cell
    have cs := hbs.cell
    have cv := hbv.cell
    have fs := hbs.frozen
    have hm := Lib.hid (restZ_eq hbs)
    rcases indexByte_pieces p rest.data.toList with ⟨h1, h2⟩ | ⟨k, h1, h2, h3⟩
    · rw [piecesB_one h2] at hrest
      obtain ⟨fn, tmps, assign, body, hy, hR⟩ := hY pre rest wr hJs (by rw [hrest]; exact List.prefix_refl _)
      rw [hrest] at hR
      have H1 := Lib.hid h1
      clear h1 h2
      gi_wp2_with fail
      refine ⟨trivial, ?_⟩
      refine (callsIn_wide.2 (Go.Proofs.Tryz.strings_Index_one _ _ _)).mono ?_
      rw [H1.out]
      rintro e _ ⟨rfl, rfl⟩
      gi_wp2_with fail
      refine hR.mono ?_
      rintro e W3 (⟨rfl, hJ3, hk3⟩ | ⟨rfl, hJx3⟩)
      · gi_wp2_with fail
        go_end0
        exact ⟨⟨_, rfl⟩, .inl hJ3⟩
      · gi_wp2_with fail
        go_end0
        exact ⟨⟨_, rfl⟩, .inr ⟨_, List.prefix_refl _, hJx3⟩⟩
    · have hk : k < rest.size := h2
      rw [piecesB_more hk h3] at hrest
      have hpre : pre ++ [rest.extract 0 k] <+: L := ⟨piecesB p (rest.extract (k + 1) rest.size), by rw [List.append_assoc]; exact hrest⟩
      obtain ⟨fn, tmps, assign, body, hy, hR⟩ := hY pre (rest.extract 0 k) wr hJs hpre
      have hrr : rest.size ≤ 140737488351232 := by omega
      have H1 := Lib.hid h1
      have hsz2 : (rest.extract (k + 1) rest.size).size < rest.size := by simp; omega
      have HSZ2 := Lib.hid hsz2
      have hrest2 : (pre ++ [rest.extract 0 k]) ++ piecesB p (rest.extract (k + 1) rest.size) = L := by rw [List.append_assoc]; exact hrest
      have HR2 := Lib.hid hrest2
      have HPR := Lib.hid hpre
      clear h1 h2 h3 hsz2 hrest hrest2 hpre
      gi_wp2_with fail
      refine ⟨trivial, ?_⟩
      refine (callsIn_wide.2 (Go.Proofs.Tryz.strings_Index_one _ _ _)).mono ?_
      rw [H1.out]
      rintro e _ ⟨rfl, rfl⟩
      gi_wp2_with fail
      refine hR.mono ?_
      rintro e W3 (⟨rfl, hJ3, hk3⟩ | ⟨rfl, hJx3⟩)
      · have hbe3 := boxed_kb hbe hk3.1
        have hbs3 := boxed_kb hbs hk3.2.1
        have hbv3 := boxed_kb hbv hk3.2.2
        have ce3 := hbe3.cell
        have cs3 := hbs3.cell
        have fs3 := hbs3.frozen
        have hbs4 := hbs3.set (.string (rest.extract (k + 1) rest.size))
        have hbe4 : Boxed (W3.setCell ⟨bs, 0, none⟩ (.string (rest.extract (k + 1) rest.size))) be 9 (.string ⟨#[p]⟩) := (Below.heap_setCell _ _ _ _ (show be ≠ bs from fun e => hne1 e.symm)).trans hbe3
        have hbv4 : Boxed (W3.setCell ⟨bs, 0, none⟩ (.string (rest.extract (k + 1) rest.size))) bv 3 (.int .i64 0) := (Below.heap_setCell _ _ _ _ (show bv ≠ bs from fun e => hne2 e.symm)).trans hbv3
        have hJ4 := hJ _ _ (.string (rest.extract (k + 1) rest.size)) hJ3
        have hm4 := Lib.hid (restZ_eq hbs4)
        gi_wp2_with fail
        go_roundw
        case rel => exact ⟨_, _, hJ4, hbe4, hbs4, hbv4, by have := HSZ2.out; omega, HR2.out⟩
        case measure => rw [hm.out, hm4.out]; exact HSZ2.out
      · gi_wp2_with fail
        refine bodyPost_ret (results_none rfl _ _ _) rfl ?_
        exact ⟨⟨_, rfl⟩, .inr ⟨_, HPR.out, hJx3⟩⟩
theorem seq_stops (n : Nat) (hn : 1 ≤ n) (p : UInt8) (be bs bv : Nat) (s : ByteArray) (hs : s.size ≤ 140737488351232) (L : List ByteArray) (hL : L = piecesB p s) (hne1 : bs ≠ be) (hne2 : bs ≠ bv) (w : World)
    (hBe : Boxed w be 9 (.string ⟨#[p]⟩)) (hBs : Boxed w bs 9 (.string s)) (hBv : Boxed w bv 3 (.int .i64 0)) :
    SeqS Fence.wide n Tryz.prog 117 #[.pointer (some ⟨be, 0, none⟩), .pointer (some ⟨bs, 0, none⟩), .pointer (some ⟨bv, 0, none⟩)] (fun x : ByteArray => #[Value.string x]) (K3 be bs bv) L bs w := fun l J Jx W hW _ _ hJ hY h0 =>
  seq1_in n hn p l be bs bv s hs L hL hne1 hne2 J Jx hJ hY W (boxed_kb hBe (KB.of_below hW hBe.lt)) (boxed_kb hBs (KB.of_below hW hBs.lt)) (boxed_kb hBv (KB.of_below hW hBv.lt)) h0
end Go.Proofs.YtiggallcoocdaaaGreatDoor
