/- FnApA, RD: joined into one text; each part says below what it holds. -/
import Derived.Test.YtiggallcoocdaaaGreatDoorFnOA
import Derived.Test.YtiggallcoocdaaaGreatDoorZ6
import Derived.Test.YtiggallcoocdaaaGreatDoorZ3
import Derived.Maps.AppendAt
import Derived.Deep.AppendLies
/- Functions in memory of the call's own, their codes in blocks apart: one more, an instruction more for the last one. -/
namespace Go.Proofs.YtiggallcoocdaaaGreatDoor
open Go.RowKit
def FnAp (w : World) (B : Nat) (v : Value) (fs : List Fn) : Prop := ∃ cvs : List Value, cvs.length = fs.length ∧ w.ownsRow B 37 3 v fs.length (List.zipWith frow fs cvs).flatten ∧
  (∀ (i : Nat) (f : Fn) (c : Value), fs[i]? = some f → cvs[i]? = some c → w.ownsRow B 52 2 c f.c.length (f.c.map orow).flatten) ∧
  ∀ (i j : Nat) (c d : Value), i ≠ j → cvs[i]? = some c → cvs[j]? = some d → c.ownBlock = none ∨ c.ownBlock ≠ d.ownBlock
theorem FnAp.nil (w : World) (B : Nat) : FnAp w B (.slice none 0 0) [] := ⟨[], rfl, ⟨rfl, .inl ⟨rfl, rfl⟩⟩, fun i f c h => by simp at h, fun i j c d _ h => by simp at h⟩
theorem owns_form {w : World} {B k n : Nat} {e : TypeId} {v : Value} {xs : List Value} (h : w.ownsRow B e k v n xs) : ∃ ao cap, v = .slice ao n cap := by
  obtain ⟨ao, n', cap, rfl⟩ := owns_slice h
  obtain rfl := owns_len h
  exact ⟨ao, cap, rfl⟩
theorem FnAp.own {w : World} {B : Nat} {v : Value} {fs : List Fn} (h : FnAp w B v fs) : FnOwn w B v fs := by
  obtain ⟨cvs, h1, h2, h3, _⟩ := h
  refine ⟨List.zipWith frow fs cvs, by rw [List.length_zipWith, h1, Nat.min_self], h2, fun i f hi => ?_⟩
  have hl := (List.getElem?_eq_some_iff.1 hi).1
  have hc : cvs[i]? = some cvs[i] := List.getElem?_eq_getElem (by omega)
  obtain ⟨ao, cap, e⟩ := owns_form (h3 i f _ hi hc)
  refine ⟨ao, cap, ?_, by rw [← e]; exact h3 i f _ hi hc⟩
  rw [List.getElem?_zipWith, hi, hc, e]
theorem FnAp.keep {w w' : World} {B : Nat} {v : Value} {fs : List Fn} (h : FnAp w B v fs) (hb : Below w.heap.size w w') : FnAp w' B v fs := by
  obtain ⟨cvs, h1, h2, h3, h4⟩ := h
  exact ⟨cvs, h1, ownsRow_keep h2 hb, fun i f c hf hc => ownsRow_keep (h3 i f c hf hc) hb, h4⟩
theorem FnAp.set {w : World} {B : Nat} {v : Value} {fs : List Fn} (h : FnAp w B v fs) {b : Nat} (hb : b < B) (o : Nat) (vs : List Value) : FnAp (w.setCells b o vs) B v fs := by
  obtain ⟨cvs, h1, h2, h3, h4⟩ := h
  exact ⟨cvs, h1, owns_set h2 hb o vs, fun i f c hf hc => owns_set (h3 i f c hf hc) hb o vs, h4⟩
/-- another row of the call's own has grown -/
theorem FnAp.grown {w w' : World} {B n' k' : Nat} {e' : TypeId} {v v' : Value} {ys : List Value} {fs : List Fn} (h : FnAp w B v fs) (hv : w.ownsRow B e' k' v' n' ys) (h1 : (37 : TypeId) ≠ e') (h2 : (52 : TypeId) ≠ e') (hg : w.grownBy w' v'.ownBlock) : FnAp w' B v fs := by
  obtain ⟨cvs, g1, g2, g3, g4⟩ := h
  exact ⟨cvs, g1, owns_grown g2 hv h1 hg, fun i f c hf hc => owns_grown (g3 i f c hf hc) hv h2 hg, g4⟩
theorem FnAp.slice {w : World} {B : Nat} {v : Value} {fs : List Fn} (h : FnAp w B v fs) : ∃ ao cap, v = .slice ao fs.length cap := by
  obtain ⟨_, _, h2, _⟩ := h
  exact owns_form h2
/-- a function more, of no code yet -/
theorem FnAp.snoc {w w' : World} {B : Nat} {v v' : Value} {fs : List Fn} (h : FnAp w B v fs) (a x : Int) (hg : w.grownBy w' v.ownBlock)
    (hn : ∀ ys, w.ownsRow B 37 3 v fs.length ys → w'.ownsRow B 37 3 v' (fs.length + 1) (ys ++ [.int .i64 a, .int .i64 x, .slice none 0 0])) : FnAp w' B v' (fs ++ [⟨a, x, []⟩]) := by
  obtain ⟨cvs, h1, h2, h3, h4⟩ := h
  refine ⟨cvs ++ [.slice none 0 0], by simp [h1], ?_, fun i f c hf hc => ?_, fun i j c d hij hc hd => ?_⟩
  · rw [List.zipWith_append (by omega), List.flatten_append, List.length_append]
    exact hn _ h2
  · by_cases hlt : i < fs.length
    · rw [List.getElem?_append_left hlt] at hf
      rw [List.getElem?_append_left (by omega)] at hc
      exact owns_grown (h3 i f c hf hc) h2 (by decide) hg
    · rw [List.getElem?_append_right (by omega)] at hf hc
      have h0 : i - fs.length = 0 := by
        have := (List.getElem?_eq_some_iff.1 hf).1
        simp at this
        omega
      rw [h0] at hf
      rw [h1, h0] at hc
      obtain rfl : (⟨a, x, []⟩ : Fn) = f := by simpa using hf
      obtain rfl : (.slice none 0 0 : Value) = c := by simpa using hc
      exact ⟨rfl, .inl ⟨rfl, rfl⟩⟩
  · by_cases hi : i < cvs.length
    · rw [List.getElem?_append_left hi] at hc
      by_cases hj : j < cvs.length
      · rw [List.getElem?_append_left hj] at hd
        exact h4 i j c d hij hc hd
      · rw [List.getElem?_append_right (by omega)] at hd
        have h0 : j - cvs.length = 0 := by
          have := (List.getElem?_eq_some_iff.1 hd).1
          simp at this
          omega
        rw [h0] at hd
        obtain rfl : (.slice none 0 0 : Value) = d := by simpa using hd
        cases hcb : c.ownBlock with
        | none => exact .inl rfl
        | some k => exact .inr (by simp [Value.ownBlock])
    · rw [List.getElem?_append_right (by omega)] at hc
      have h0 : i - cvs.length = 0 := by
        have := (List.getElem?_eq_some_iff.1 hc).1
        simp at this
        omega
      rw [h0] at hc
      obtain rfl : (.slice none 0 0 : Value) = c := by simpa using hc
      exact .inl rfl
/-- the last function: where its code's cell lies, and what it is with an instruction more -/
theorem FnAp.last {W : World} {B : Nat} {v : Value} {init : List Fn} {f : Fn} (h : FnAp W B v (init ++ [f])) :
    ∃ b cap ao cp, v = .slice (some ⟨b, 0, none⟩) (init.length + 1) cap ∧ B ≤ b ∧ b < W.heap.size ∧ (∃ cur, W.heap[b]? = some (.cells cur 37)) ∧ W.cell? ⟨b, init.length * 3 + 2, none⟩ = some (.slice ao f.c.length cp) ∧
      W.ownsRow B 52 2 (.slice ao f.c.length cp) f.c.length (f.c.map orow).flatten ∧
      ∀ W2 c' (o : Int × Int), W2.ownsRow B 52 2 c' (f.c.length + 1) ((f.c.map orow).flatten ++ orow o) → W.grownBy W2 (Value.slice ao f.c.length cp).ownBlock →
        (c'.ownBlock = (Value.slice ao f.c.length cp).ownBlock ∨ ∃ k, c'.ownBlock = some k ∧ W.heap.size ≤ k) → FnAp (W2.setCell ⟨b, init.length * 3 + 2, none⟩ c') B v (init ++ [⟨f.a, f.v, f.c ++ [o]⟩]) := by
  obtain ⟨cvs, h1, h2, h3, h4⟩ := h
  have hl : (init ++ [f]).length = init.length + 1 := by simp
  rw [hl] at h1 h2
  obtain ⟨ci, c, rfl⟩ : ∃ ci c, cvs = ci ++ [c] := ⟨cvs.dropLast, cvs.getLast (fun e => by rw [e] at h1; simp at h1), (List.dropLast_concat_getLast _).symm⟩
  have hci : ci.length = init.length := by simpa using h1
  have hrow := h3 init.length f c (by simp) (by rw [← hci]; simp)
  obtain ⟨ao, cp, rfl⟩ := owns_form hrow
  have hz : List.zipWith frow (init ++ [f]) (ci ++ [.slice ao f.c.length cp]) = List.zipWith frow init ci ++ [frow f (.slice ao f.c.length cp)] := by
    rw [List.zipWith_append (by omega)]
    rfl
  have hzl : (List.zipWith frow init ci).flatten.length = init.length * 3 := by
    have hw : ∀ (a : List Fn) (b : List Value), a.length = b.length → (List.zipWith frow a b).flatten.length = a.length * 3 := by
      intro a
      induction a with
      | nil => intro b _; cases b <;> rfl
      | cons x a ih =>
        intro b hb
        cases b with
        | nil => simp at hb
        | cons y b =>
          simp only [List.zipWith_cons_cons, List.flatten_cons, List.length_append, List.length_cons]
          rw [ih b (by simpa using hb)]
          show 3 + a.length * 3 = _
          omega
    exact hw init ci hci.symm
  rw [hz, List.flatten_append, List.flatten_singleton] at h2
  have hblk := h2
  rcases h2.2 with ⟨_, h0⟩ | ⟨b, cap, cur, rfl, hBb, hbb, hcap, hmax, hsz, hcur⟩
  · omega
  have hget : cur.toList[init.length * 3 + 2]? = some (.slice ao f.c.length cp) := by
    have h5 : ((List.zipWith frow init ci).flatten ++ frow f (.slice ao f.c.length cp))[init.length * 3 + 2]? = some (.slice ao f.c.length cp) := by
      rw [List.getElem?_append_right (by omega), hzl, show init.length * 3 + 2 - init.length * 3 = 2 by omega]
      rfl
    rw [← hcur, List.getElem?_take_of_lt (by omega)] at h5
    exact h5
  refine ⟨b, cap, ao, cp, rfl, hBb, Mem.lt hbb, ⟨cur, hbb⟩, Mem.cell hbb _ (by rw [← Array.getElem?_toList]; exact hget), hrow, fun W2 c' o hn hg hc' => ?_⟩
  have hb2 : W2.heap[b]? = some (.cells cur 37) := by
    refine (hg.block b (Mem.lt hbb) ?_).trans hbb
    intro e
    rcases hrow.2 with ⟨hv, _⟩ | ⟨g, _, cur', hv, _, hgb, _⟩
    · rw [hv] at e
      cases e
    · rw [hv] at e
      have e2 : b = g := by simpa [Value.ownBlock] using e
      subst e2
      rw [hbb] at hgb
      cases hgb
  refine ⟨ci ++ [c'], by simp [hci], ?_, fun i g d hgi hdi => ?_, fun i j d d' hij hd hd' => ?_⟩
  · have hz2 : List.zipWith frow (init ++ [⟨f.a, f.v, f.c ++ [o]⟩]) (ci ++ [c']) = List.zipWith frow init ci ++ [frow ⟨f.a, f.v, f.c ++ [o]⟩ c'] := by
      rw [List.zipWith_append (by omega)]
      rfl
    rw [hz2, List.flatten_append, List.flatten_singleton, List.length_append, List.length_singleton]
    refine ⟨?_, .inr ⟨b, cap, cur.setIfInBounds (init.length * 3 + 2) c', rfl, hBb, setCell_block hb2 _, hcap, hmax, by simpa using hsz, ?_⟩⟩
    · rw [List.length_append, hzl]
      show init.length * 3 + 3 = _
      omega
    · rw [Array.toList_setIfInBounds, List.take_set, hcur]
      have hf : frow f (.slice ao f.c.length cp) = [.int .i64 f.a, .int .i64 f.v, .slice ao f.c.length cp] := rfl
      rw [hf, List.set_append_right _ _ (by omega), hzl, show init.length * 3 + 2 - init.length * 3 = 2 by omega]
      rfl
  · have hset : ∀ {d : Value} {n : Nat} {xs : List Value}, W2.ownsRow B 52 2 d n xs → (W2.setCell ⟨b, init.length * 3 + 2, none⟩ c').ownsRow B 52 2 d n xs := fun {d n xs} h => by
      refine ⟨h.1, ?_⟩
      rcases h.2 with h0 | ⟨g', cap', cu, hv, hg', hh, r⟩
      · exact .inl h0
      · refine .inr ⟨g', cap', cu, hv, hg', setCell_other hh ?_ _, r⟩
        intro e
        subst e
        rw [hb2] at hh
        cases hh
    by_cases hlt : i < init.length
    · rw [List.getElem?_append_left hlt] at hgi
      rw [List.getElem?_append_left (by omega)] at hdi
      have h5 := h3 i g d (by rw [List.getElem?_append_left hlt]; exact hgi) (by rw [List.getElem?_append_left (by omega)]; exact hdi)
      refine hset (h5.kept hg ?_)
      rcases h4 i init.length d (.slice ao f.c.length cp) (by omega) (by rw [List.getElem?_append_left (by omega)]; exact hdi) (by rw [← hci]; simp) with h6 | h6
      · obtain ⟨ad, cd, rfl⟩ := owns_form h5
        exact .inl h6
      · exact .inr h6
    · rw [List.getElem?_append_right (by omega)] at hgi hdi
      have h0 : i - init.length = 0 := by
        have := (List.getElem?_eq_some_iff.1 hgi).1
        simp at this
        omega
      rw [h0] at hgi
      rw [hci, h0] at hdi
      obtain rfl : (⟨f.a, f.v, f.c ++ [o]⟩ : Fn) = g := by simpa using hgi
      obtain rfl : c' = d := by simpa using hdi
      refine hset ?_
      simp only [List.length_append, List.length_singleton, List.map_append, List.map_cons, List.map_nil, List.flatten_append, List.flatten_singleton]
      exact hn
  · have hold : ∀ (i : Nat) (d : Value), i < ci.length → ci[i]? = some d → d.ownBlock = none ∨ d.ownBlock ≠ c'.ownBlock := fun i d hi hd => by
      have h5 := h3 i init[i] d (by rw [List.getElem?_append_left (by omega)]; exact List.getElem?_eq_getElem (by omega)) (by rw [List.getElem?_append_left hi]; exact hd)
      have h6 := h4 i init.length d (.slice ao f.c.length cp) (by omega) (by rw [List.getElem?_append_left hi]; exact hd) (by rw [← hci]; simp)
      rcases hc' with e | ⟨k, e, hk⟩
      · rw [e]
        exact h6
      · rw [e]
        rcases h5.2 with ⟨hv, _⟩ | ⟨g', _, _, hv, _, hh, _⟩
        · rw [hv]
          exact .inl rfl
        · rw [hv]
          refine .inr fun e2 => ?_
          have e3 : g' = k := by simpa [Value.ownBlock] using e2
          have := Mem.lt hh
          omega
    by_cases hi : i < ci.length
    · rw [List.getElem?_append_left hi] at hd
      by_cases hj : j < ci.length
      · rw [List.getElem?_append_left hj] at hd'
        exact h4 i j d d' hij (by rw [List.getElem?_append_left hi]; exact hd) (by rw [List.getElem?_append_left hj]; exact hd')
      · rw [List.getElem?_append_right (by omega)] at hd'
        have h0 : j - ci.length = 0 := by
          have := (List.getElem?_eq_some_iff.1 hd').1
          simp at this
          omega
        rw [h0] at hd'
        obtain rfl : c' = d' := by simpa using hd'
        exact hold i d hi hd
    · rw [List.getElem?_append_right (by omega)] at hd
      have h0 : i - ci.length = 0 := by
        have := (List.getElem?_eq_some_iff.1 hd).1
        simp at this
        omega
      rw [h0] at hd
      obtain rfl : c' = d := by simpa using hd
      have hj : j < ci.length := by
        have := (List.getElem?_eq_some_iff.1 hd').1
        simp at this
        omega
      rw [List.getElem?_append_left hj] at hd'
      rcases hold j d' hj hd' with h6 | h6
      · cases hcb : c'.ownBlock with
        | none => exact .inl rfl
        | some k => exact .inr (by rw [h6]; simp)
      · exact .inr fun e => h6 e.symm
end Go.Proofs.YtiggallcoocdaaaGreatDoor
/- The reader of asm.Parse in memory: the program that the lines have said up to now. -/
namespace Go.Proofs.YtiggallcoocdaaaGreatDoor
open Go.RowKit
/-- the reader at block b; its rows lie at N and above -/
structure RD (b N : Nat) (im : Im) (W : World) : Prop where
  hb : b < N
  hN : N ≤ W.heap.size
  ex : ∃ cv fv, W.heap[b]? = some (.cells #[cv, fv] 54) ∧ W.ownsRow N 50 5 cv im.cs.length (im.cs.map vrow).flatten ∧ FnAp W N fv im.fs
theorem RD.below {b N : Nat} {im : Im} {W W' : World} (h : RD b N im W) (hk : Below W.heap.size W W') : RD b N im W' := by
  obtain ⟨h1, h2, cv, fv, h3, h4, h5⟩ := h
  exact ⟨h1, Nat.le_trans h2 hk.size, cv, fv, (hk.block _ (Mem.lt h3)).trans h3, ownsRow_keep h4 hk, h5.keep hk⟩
theorem RD.fresh {b N : Nat} {W : World} (h : W.heap[b]? = some (.cells #[.slice none 0 0, .slice none 0 0] 54)) (hb : b < N) (hN : N ≤ W.heap.size) : RD b N im0 W := ⟨hb, hN, _, _, h, ⟨rfl, .inl ⟨rfl, rfl⟩⟩, FnAp.nil _ _⟩
theorem RD.kept {b N : Nat} {im : Im} {W W' : World} (h : RD b N im W) (hk : Below W.heap.size W W') : Kept2 N b b W W' := Kept2.of_below hk h.hN
theorem fn_set {W : World} {N b : Nat} {v : Value} {fs : List Fn} (h : FnAp W N v fs) (hb : b < N) (i : Nat) (u : Value) : FnAp (W.setCell ⟨b, i, none⟩ u) N v fs := h.set hb i [u]
theorem ow_set {W : World} {N b k n : Nat} {e : TypeId} {v : Value} {xs : List Value} (h : W.ownsRow N e k v n xs) (hb : b < N) (i : Nat) (u : Value) : (W.setCell ⟨b, i, none⟩ u).ownsRow N e k v n xs := owns_set h hb i [u]
/-- a constant more -/
theorem RD.const {b N : Nat} {im : Im} {W W2 : World} {cv fv v' : Value} (hb : b < N) (hN : N ≤ W.heap.size) (hbk : W.heap[b]? = some (.cells #[cv, fv] 54)) (hown : W.ownsRow N 50 5 cv im.cs.length (im.cs.map vrow).flatten) (hfn : FnAp W N fv im.fs)
    (x : Vl) (hn : W2.ownsRow N 50 5 v' (im.cs.length + 1) ((im.cs.map vrow).flatten ++ vrow x)) (hg : W.grownBy W2 cv.ownBlock) :
    RD b N ⟨im.cs ++ [x], im.fs⟩ (W2.setCell ⟨b, 0, none⟩ v') ∧ Kept2 N b b W (W2.setCell ⟨b, 0, none⟩ v') := by
  have hlow := row_low hown
  have hb2 : W2.heap[b]? = some (.cells #[cv, fv] 54) := (hg.block b (Mem.lt hbk) (fun e => by have := hlow b e.symm; omega)).trans hbk
  have hs : W2.heap.size = (W2.setCell ⟨b, 0, none⟩ v').heap.size := by simp [World.setCell]
  refine ⟨⟨hb, by rw [← hs]; exact Nat.le_trans hN hg.size, v', fv, setCell_block hb2 _, ow_set ?_ hb 0 v', fn_set (hfn.grown hown (by decide) (by decide) hg) hb 0 v'⟩, ?_⟩
  · simp only [List.length_append, List.length_singleton, List.map_append, List.map_cons, List.map_nil, List.flatten_append, List.flatten_singleton]
    exact hn
  · exact ((Kept2.of_below (Below.refl _ _) hN).grown hN hg hlow).set (.inl rfl) 0 v'
/-- a function more -/
theorem RD.func {b N : Nat} {im : Im} {W W2 : World} {cv fv v' : Value} (hb : b < N) (hN : N ≤ W.heap.size) (hbk : W.heap[b]? = some (.cells #[cv, fv] 54)) (hown : W.ownsRow N 50 5 cv im.cs.length (im.cs.map vrow).flatten) (hfn : FnAp W N fv im.fs)
    (a y : Int) (hn : ∀ ys, W.ownsRow N 37 3 fv im.fs.length ys → W2.ownsRow N 37 3 v' (im.fs.length + 1) (ys ++ [.int .i64 a, .int .i64 y, .slice none 0 0])) (hg : W.grownBy W2 fv.ownBlock) :
    RD b N ⟨im.cs, im.fs ++ [⟨a, y, []⟩]⟩ (W2.setCell ⟨b, 1, none⟩ v') ∧ Kept2 N b b W (W2.setCell ⟨b, 1, none⟩ v') := by
  obtain ⟨ys, hys⟩ : ∃ ys, W.ownsRow N 37 3 fv im.fs.length ys := by
    obtain ⟨_, _, h2, _⟩ := hfn
    exact ⟨_, h2⟩
  have hlow := row_low hys
  have hb2 : W2.heap[b]? = some (.cells #[cv, fv] 54) := (hg.block b (Mem.lt hbk) (fun e => by have := hlow b e.symm; omega)).trans hbk
  have hs : W2.heap.size = (W2.setCell ⟨b, 1, none⟩ v').heap.size := by simp [World.setCell]
  refine ⟨⟨hb, by rw [← hs]; exact Nat.le_trans hN hg.size, cv, v', setCell_block hb2 _, ow_set (owns_grown hown hys (by decide) hg) hb 1 v', fn_set (hfn.snoc a y hg hn) hb 1 v'⟩, ?_⟩
  exact ((Kept2.of_below (Below.refl _ _) hN).grown hN hg hlow).set (.inl rfl) 1 v'
theorem addOp_ne {fs : List Fn} (h : fs ≠ []) : ∃ init f, fs = init ++ [f] ∧ ∀ o, addOp o fs = init ++ [⟨f.a, f.v, f.c ++ [o]⟩] := by
  refine ⟨fs.dropLast, fs.getLast h, (List.dropLast_concat_getLast h).symm, fun o => ?_⟩
  conv => lhs; rw [← List.dropLast_concat_getLast h]
  exact addOp_snoc o _ _
end Go.Proofs.YtiggallcoocdaaaGreatDoor
