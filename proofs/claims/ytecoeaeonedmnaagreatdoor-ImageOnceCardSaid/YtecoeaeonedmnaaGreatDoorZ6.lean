/- Law9b, Law9c: joined into one text; each part says below what it holds. -/
import Derived.Test.YtecoeaeonedmnaaGreatDoorLaw9
import Derived.Test.YtecoeaeonedmnaaGreatDoorZ4
/- A program that made handed back, with one thing turned: an instruction, a constant's number. -/
namespace Go.Proofs.YtecoeaeonedmnaaGreatDoor
open Go.RowKit
theorem list_of_each {α : Type} {P : Nat → α → Prop} : ∀ (n : Nat), (∀ i, i < n → ∃ r, P i r) → ∃ l : List α, l.length = n ∧ ∀ (i : Nat) r, l[i]? = some r → P i r
  | 0, _ => ⟨[], rfl, fun i r h => by simp at h⟩
  | n + 1, h => by
    obtain ⟨l, hl, hp⟩ := list_of_each n (fun i hi => h i (by omega))
    obtain ⟨x, hx⟩ := h n (by omega)
    refine ⟨l ++ [x], by simp [hl], fun i r hi => ?_⟩
    by_cases hin : i < l.length
    · rw [List.getElem?_append_left hin] at hi
      exact hp i r hi
    · have hil : i = l.length := by
        have := (List.getElem?_eq_some_iff.1 hi).1
        simp at this
        omega
      subst hil
      rw [List.getElem?_append_right (by omega)] at hi
      obtain rfl : x = r := by simpa using hi
      rw [hl]
      exact hx
theorem owns_ne {w : World} {B k n : Nat} {e T : TypeId} {v : Value} {xs : List Value} {b : Nat} {cur : Array Value} (h : w.ownsRow B e k v n xs) (hb : w.heap[b]? = some (.cells cur T)) (hT : T ≠ e) (o : Nat) (vs : List Value) : (w.setCells b o vs).ownsRow B e k v n xs := by
  refine ⟨h.1, ?_⟩
  rcases h.2 with h0 | ⟨g, cap, cu, hv, hg, hh, r⟩
  · exact .inl h0
  · refine .inr ⟨g, cap, cu, hv, hg, (setCells_other vs o w g ?_).trans hh, r⟩
    intro e2
    subst e2
    rw [hh] at hb
    injection hb with hb
    injection hb with _ h2
    exact hT h2.symm
theorem FnOwn.ne {w : World} {B : Nat} {T : TypeId} {v : Value} {fs : List Fn} {b : Nat} {cur : Array Value} (h : FnOwn w B v fs) (hb : w.heap[b]? = some (.cells cur T)) (h1 : T ≠ 43) (h2 : T ≠ 45) (o : Nat) (vs : List Value) : FnOwn (w.setCells b o vs) B v fs := by
  obtain ⟨rows, g1, g2, g3⟩ := h
  refine ⟨rows, g1, owns_ne g2 hb h1 o vs, fun i f hi => ?_⟩
  obtain ⟨ao, cap, e, ho⟩ := g3 i f hi
  exact ⟨ao, cap, e, owns_ne ho hb h2 o vs⟩
/-- rows that lie from a block's first cell on, with some cells laid anew -/
theorem slots_block {w : World} {g cap k : Nat} {T : TypeId} {cur : Array Value} {rows : List (List Value)} (hk : 0 < k) (hb : w.heap[g]? = some (.cells cur T)) (hc : rows.length ≤ cap) (hw : Wide k rows) (hcur : ∀ (m : Nat) (u : Value), rows.flatten[m]? = some u → cur[m]? = some u) : SlotsAt w k (.slice (some ⟨g, 0, none⟩) rows.length cap) rows := by
  refine slots_gen hk rfl hc hw fun i r hi j u hj => ?_
  have hjk : j < k := by
    have h1 := (List.getElem?_eq_some_iff.1 hj).1
    have h2 := (hw r (List.mem_of_getElem? hi)).1
    omega
  have h1 := hcur (i * k + j) u (by rw [hw.get i j r hjk hi]; exact hj)
  rw [addr_add rfl, Nat.zero_add]
  exact Mem.cell hb _ h1
theorem set_flat {α : Type} {k : Nat} {f : α → List Value} (c : List α) (j : Nat) (o : α) (i : Nat) (d : Nat) (hd : d < k) (u : Value) (hw : Wide k ((c.set j o).map f)) (hw0 : Wide k (c.map f)) (h : ((c.set j o).map f).flatten[i * k + d]? = some u) : (i = j ∧ j < c.length ∧ (f o)[d]? = some u) ∨ (i ≠ j ∧ (c.map f).flatten[i * k + d]? = some u) := by
  have hlt := (List.getElem?_eq_some_iff.1 h).1
  rw [hw.len, List.length_map, List.length_set] at hlt
  have hi : i < c.length := by
    refine Nat.lt_of_not_le fun hle => ?_
    have := Nat.mul_le_mul_right k hle
    omega
  by_cases e : i = j
  · subst e
    refine .inl ⟨rfl, hi, ?_⟩
    rw [hw.get i d (f o) hd (by rw [List.getElem?_map, List.getElem?_set_self hi]; rfl)] at h
    exact h
  · refine .inr ⟨e, ?_⟩
    rw [hw.get i d (f c[i]) hd (by rw [List.getElem?_map, List.getElem?_set_ne (by omega), List.getElem?_eq_getElem hi]; rfl)] at h
    rw [hw0.get i d (f c[i]) hd (by rw [List.getElem?_map, List.getElem?_eq_getElem hi]; rfl)]
    exact h
theorem code_set {w : World} {B g oc : Nat} {c : List (Int × Int)} (h : w.ownsRow B 45 2 (.slice (some ⟨g, 0, none⟩) c.length oc) c.length (c.map orow).flatten) (j : Nat) (o : Int × Int) : OsAt (w.setCells g (j * 2) (orow o)) (.slice (some ⟨g, 0, none⟩) c.length oc) (c.set j o) := by
  rcases h.2 with ⟨h0, _⟩ | ⟨g', cap, cur, hv, _, hh, hn, _, hs, hx⟩
  · cases h0
  · injection hv with e1 e2 e3
    injection e1 with e1
    injection e1 with e1
    subst e1
    subst e3
    have hl : (c.set j o).length = c.length := List.length_set
    by_cases hj : j < c.length
    · have hb := setCells_block (orow o) (j * 2) w cur hh (by simp [orow]; omega)
      have := slots_block (rows := (c.set j o).map orow) (k := 2) (by omega) hb (by rw [List.length_map, hl]; exact hn) (wide_o _) (fun m u hm => by
        have hcl : cur.toList.length = oc * 2 := by rw [Array.length_toList]; exact hs
        have hm2 : ((c.set j o).map orow).flatten[m / 2 * 2 + m % 2]? = some u := by rw [show m / 2 * 2 + m % 2 = m by omega]; exact hm
        show ((cur.toList.take (j * 2) ++ orow o ++ cur.toList.drop (j * 2 + (orow o).length)).toArray)[m]? = some u
        rw [List.getElem?_toArray]
        have hlen2 : (orow o).length = 2 := rfl
        rcases set_flat (k := 2) (f := orow) c j o (m / 2) (m % 2) (Nat.mod_lt _ (by omega)) u (wide_o _) (wide_o _) hm2 with ⟨e, _, hu⟩ | ⟨e, hu⟩
        · rw [List.append_assoc, List.getElem?_append_right (by simp; omega), List.getElem?_append_left (by simp; omega)]
          rw [List.length_take, hcl, Nat.min_eq_left (by omega), show m - j * 2 = m % 2 by omega]
          exact hu
        · rw [show m / 2 * 2 + m % 2 = m by omega] at hu
          rw [← hx] at hu
          have hmc : m < c.length * 2 := by
            have := (List.getElem?_eq_some_iff.1 hu).1
            simp at this
            omega
          rw [List.getElem?_take_of_lt hmc] at hu
          by_cases hlt : m < j * 2
          · rw [List.append_assoc, List.getElem?_append_left (by simp; omega), List.getElem?_take_of_lt hlt]
            exact hu
          · rw [List.getElem?_append_right (by simp; omega), List.length_append, List.length_take, hcl, Nat.min_eq_left (by omega), List.getElem?_drop, hlen2, show j * 2 + 2 + (m - (j * 2 + 2)) = m by omega]
            exact hu)
      rw [List.length_map, hl] at this
      exact this
    · rw [List.set_eq_of_length_le (by omega)]
      have hO := OsAt.of_owns h
      refine ⟨hO.1, ?_⟩
      rcases hO.2 with h1 | ⟨b, off, cp, e1, e2, e3, e4⟩
      · exact .inl h1
      · injection e1 with f1 f2 f3
        injection f1 with f1
        injection f1 with f1 f4
        subst f1
        subst f4
        subst f3
        refine .inr ⟨g, 0, oc, by rw [List.length_map], e2, by rw [(setCells_same _ _ _).2.2.2]; exact e3, fun m u hm => ?_⟩
        have hmc := (List.getElem?_eq_some_iff.1 hm).1
        rw [(wide_o c).len, List.length_map] at hmc
        rw [Nat.zero_add]
        have e5 := e4 m u hm
        rw [Nat.zero_add] at e5
        show ((w.setCell ⟨g, j * 2, none⟩ _).setCell ⟨g, j * 2 + 1, none⟩ _).cell? ⟨g, m, none⟩ = some u
        have hb1 := setCell_block (i := j * 2) hh (.int .i64 o.1)
        have hb2 := setCell_block (i := j * 2 + 1) hb1 (.int .i64 o.2)
        refine Mem.cell hb2 m ?_
        rw [Array.getElem?_setIfInBounds_ne (by omega), Array.getElem?_setIfInBounds_ne (by omega)]
        rw [← hx, List.getElem?_take_of_lt hmc, Array.getElem?_toList] at hm
        exact hm
def fnFine (f : Fn) : Prop := f.a = 1 ∧ f.v = 7 ∧ (∀ o ∈ f.c, rightO o = true) ∧ 0 < f.c.length ∧ f.c.length ≤ 256
theorem fnFine_check {f : Fn} (h : fnFine f) : f.check = 0 := by
  obtain ⟨h1, h2, h3, h4, h5⟩ := h
  unfold Fn.check
  rw [if_neg (by omega), if_neg (by omega), if_neg (by omega), if_pos (List.all_eq_true.2 h3)]
theorem fnGood.fine {f : Fn} (h : fnGood f) : fnFine f := ⟨h.1, h.2.1, fun o ho => (h.2.2.1 o ho).1, h.2.2.2.1, h.2.2.2.2⟩
theorem mem_set_or {α : Type} {c : List α} {j : Nat} {o x : α} (h : x ∈ c.set j o) : x = o ∨ x ∈ c := (List.mem_or_eq_of_mem_set h).symm
theorem owns_nb {w : World} {B k n n' : Nat} {e : TypeId} {g cap : Nat} {xs : List Value} (h : w.ownsRow B e k (.slice (some ⟨g, 0, none⟩) n' cap) n xs) {b : Nat} (hb : g ≠ b) (o : Nat) (vs : List Value) : (w.setCells b o vs).ownsRow B e k (.slice (some ⟨g, 0, none⟩) n' cap) n xs := by
  refine ⟨h.1, ?_⟩
  rcases h.2 with h0 | ⟨g', cap', cu, hv, hg, hh, r⟩
  · exact .inl h0
  · injection hv with e1 e2 e3
    injection e1 with e1
    injection e1 with e1
    subst e1
    exact .inr ⟨g, cap', cu, by rw [e2, e3], hg, (setCells_other vs o w g hb).trans hh, r⟩
theorem owns_some {w : World} {B k n : Nat} {e : TypeId} {ao : Option Addr} {cap : Nat} {xs : List Value} (h : w.ownsRow B e k (.slice ao n cap) n xs) (hn : 0 < n) : ∃ g cur, ao = some ⟨g, 0, none⟩ ∧ B ≤ g ∧ w.heap[g]? = some (.cells cur e) ∧ n ≤ cap ∧ cur.toList.take (n * k) = xs := by
  rcases h.2 with ⟨_, h0⟩ | ⟨g, cap', cur, hv, hg, hh, h1, _, _, h2⟩
  · omega
  · injection hv with e1 e2 e3
    exact ⟨g, cur, e1, hg, hh, by omega, h2⟩
theorem MadeV.code {B : Nat} {fs : List Fn} {co fo : Option Addr} {cc fc : Nat} {w : World} (h : MadeV B fs co cc fo fc w) {q : Nat} (hq : q < 3) :
    ∃ b g oc len, fo = some ⟨b, 0, none⟩ ∧ b < w.heap.size ∧ B ≤ g ∧ g < w.heap.size ∧ (∃ cur, w.heap[g]? = some (.cells cur 45)) ∧ w.cell? ⟨b, q * 3 + 2, none⟩ = some (.slice (some ⟨g, 0, none⟩) len oc) ∧ 0 < len ∧ len ≤ 256 ∧ (∀ m, m < len * 2 → ∃ u, w.cell? ⟨g, m, none⟩ = some u) ∧
      ∀ j, j < len → ∀ o : Int × Int, rightO o = true → 60000 ≤ o.2 → VsAt (w.setCells g (j * 2) (orow o)) (.slice co 16 cc) madeCs ∧ ∃ fs', FsAt (w.setCells g (j * 2) (orow o)) (.slice fo 3 fc) fs' ∧ fs'.length = 3 ∧ (∀ f ∈ fs', fnFine f) ∧ ∃ f ∈ fs', ∃ o ∈ f.c, 60000 ≤ o.2 := by
  have hlen := h.len
  obtain ⟨rows, h1, h2, h3⟩ := h.fn
  have hw : Wide 3 rows := by
    intro r hr
    obtain ⟨i, hi, rfl⟩ := List.getElem_of_mem hr
    obtain ⟨ao, cap, e, _⟩ := h3 i fs[i] (List.getElem?_eq_getElem (by omega))
    rw [List.getElem?_eq_getElem hi] at e
    injection e with e
    rw [e]
    exact ⟨rfl, fun x hx => by simp [frow] at hx; rcases hx with rfl | rfl | rfl <;> rfl⟩
  rw [show (.slice fo 3 fc : Value) = .slice fo fs.length fc by rw [hlen]] at h2
  obtain ⟨b, curF, hfo, _, hbF, hcF, htF⟩ := owns_some h2 (by omega)
  have hql : q < fs.length := by omega
  obtain ⟨ao, cap, er, ho⟩ := h3 q fs[q] (List.getElem?_eq_getElem hql)
  have hgood := h.good _ (List.getElem_mem hql)
  obtain ⟨g, cur, hao, hBg, hbg, hcg, htg⟩ := owns_some ho hgood.2.2.2.1
  subst hao
  refine ⟨b, g, cap, fs[q].c.length, hfo, Mem.lt hbF, hBg, Mem.lt hbg, ⟨cur, hbg⟩, ?_, hgood.2.2.2.1, hgood.2.2.2.2, fun m hm => ?_, fun j hj o hro hbig => ?_⟩
  · refine Mem.cell hbF (q * 3 + 2) ?_
    have h5 := hw.get q 2 _ (by omega) er
    rw [← htF, List.getElem?_take_of_lt (by omega), Array.getElem?_toList] at h5
    rw [h5]
    rfl
  · have hm2 : m < cur.size := by
      have h8 := congrArg List.length htg
      rw [(wide_o _).len, List.length_map, List.length_take] at h8
      simp at h8
      omega
    exact ⟨cur[m], Mem.cell hbg m (Array.getElem?_eq_getElem hm2)⟩
  · refine ⟨VsAt.of_owns (owns_ne h.cs hbg (by decide) _ _), ?_⟩
    obtain ⟨fs', hl', hp⟩ := list_of_each (P := fun i (f : Fn) => (∃ c, rows[i]? = some (frow f c) ∧ OsAt (w.setCells g (j * 2) (orow o)) c f.c) ∧ fnFine f ∧ (i = q → ∃ x ∈ f.c, 60000 ≤ x.2)) 3 (fun i hi => by
      have hil : i < fs.length := by omega
      obtain ⟨ai, ci, ei, hoi⟩ := h3 i fs[i] (List.getElem?_eq_getElem hil)
      have hgi := h.good _ (List.getElem_mem hil)
      obtain ⟨gi, curi, hai, _, hbgi, _, _⟩ := owns_some hoi hgi.2.2.2.1
      subst hai
      by_cases hgg : gi = g
      · subst hgg
        refine ⟨⟨fs[i].a, fs[i].v, fs[i].c.set j o⟩, ⟨_, ei, code_set hoi j o⟩, ⟨hgi.1, hgi.2.1, fun x hx => ?_, by simp only [List.length_set]; exact hgi.2.2.2.1, by simp only [List.length_set]; exact hgi.2.2.2.2⟩, fun e => ?_⟩
        · rcases mem_set_or hx with rfl | hx
          · exact hro
          · exact (hgi.2.2.1 x hx).1
        · subst e
          exact ⟨o, List.mem_of_getElem (List.getElem_set_self (by simpa using hj)), hbig⟩
      · refine ⟨fs[i], ⟨_, ei, OsAt.of_owns (owns_nb hoi hgg _ _)⟩, hgi.fine, fun e => ?_⟩
        subst e
        rw [er] at ei
        injection ei with ei
        unfold frow at ei
        injection ei with _ ei
        injection ei with _ ei
        injection ei with ei
        injection ei with ei
        injection ei with ei
        injection ei with ei
        exact absurd ei.symm hgg)
    refine ⟨fs', ⟨rows, by rw [h1, hlen, hl'], ?_, fun i f hi => (hp i f hi).1⟩, hl', fun f hf => ?_, ?_⟩
    · have h9 := SlotsAt.of_owns hw (owns_ne h2 hbg (by decide) (j * 2) (orow o)) h1.symm rfl
      rwa [hlen] at h9
    · obtain ⟨i, hi, rfl⟩ := List.getElem_of_mem hf
      exact (hp i _ (List.getElem?_eq_getElem hi)).2.1
    · have hi : q < fs'.length := by omega
      obtain ⟨x, hx, hb⟩ := (hp q _ (List.getElem?_eq_getElem hi)).2.2 rfl
      exact ⟨fs'[q], List.getElem_mem hi, x, hx, hb⟩
def vN (v : Vl) (n : Int) : Vl := ⟨v.k, n, v.nm, v.l⟩
theorem MadeV.const {B : Nat} {fs : List Fn} {co fo : Option Addr} {cc fc : Nat} {w : World} (h : MadeV B fs co cc fo fc w) {i : Nat} (hi : i < 16) :
    ∃ g, co = some ⟨g, 0, none⟩ ∧ B ≤ g ∧ g < w.heap.size ∧ (∃ cur, w.heap[g]? = some (.cells cur 50)) ∧ (∃ u, w.cell? ⟨g, i * 5 + 1, none⟩ = some u) ∧
      VsAt (w.setCell ⟨g, i * 5 + 1, none⟩ (.int .i64 77)) (.slice co 16 cc) (madeCs.set i (vN (madeCs[i]'hi) 77)) ∧ FsAt (w.setCell ⟨g, i * 5 + 1, none⟩ (.int .i64 77)) (.slice fo 3 fc) fs := by
  obtain ⟨g, cur, hco, hBg, hbg, hcg, htg⟩ := owns_some h.cs (by omega)
  subst hco
  have hcl : (madeCs.map vrow).flatten.length = 80 := by
    rw [(wide_v madeCs).len, List.length_map]
    rfl
  have hsz : 80 ≤ cur.size := by
    have := congrArg List.length htg
    rw [hcl, List.length_take] at this
    simp at this
    omega
  have hb := setCell_block (i := i * 5 + 1) hbg (.int .i64 77)
  refine ⟨g, rfl, hBg, Mem.lt hbg, ⟨cur, hbg⟩, ⟨cur[i * 5 + 1], Mem.cell hbg _ (Array.getElem?_eq_getElem (by omega))⟩, ?_, (FnOwn.ne h.fn hbg (by decide) (by decide) (i * 5 + 1) [.int .i64 77]).at⟩
  refine (fun h9 => ?_) (slots_block (rows := (madeCs.set i (vN (madeCs[i]'hi) 77)).map vrow) (k := 5) (by omega) hb (by rw [List.length_map, List.length_set]; exact hcg) (wide_v _) (fun m u hm => ?_))
  · rw [List.length_map, List.length_set] at h9
    exact h9
  have hm2 : ((madeCs.set i (vN (madeCs[i]'hi) 77)).map vrow).flatten[m / 5 * 5 + m % 5]? = some u := by rw [show m / 5 * 5 + m % 5 = m by omega]; exact hm
  have hold : ∀ u, (madeCs.map vrow).flatten[m]? = some u → cur[m]? = some u := fun u hu => by
    have hml := (List.getElem?_eq_some_iff.1 hu).1
    rw [← htg, List.getElem?_take_of_lt (by omega), Array.getElem?_toList] at hu
    exact hu
  rcases set_flat (k := 5) (f := vrow) madeCs i _ (m / 5) (m % 5) (Nat.mod_lt _ (by omega)) u (wide_v _) (wide_v _) hm2 with ⟨e, he, hu⟩ | ⟨e, hu⟩
  · by_cases h1 : m % 5 = 1
    · have : m = i * 5 + 1 := by omega
      subst this
      rw [Array.getElem?_setIfInBounds_self_of_lt (by omega)]
      rw [h1] at hu
      exact hu
    · rw [Array.getElem?_setIfInBounds_ne (by omega)]
      refine hold u ?_
      have h6 := (wide_v madeCs).get (m / 5) (m % 5) (vrow (madeCs[i]'hi)) (Nat.mod_lt _ (by omega)) (by rw [e, List.getElem?_map, List.getElem?_eq_getElem he]; rfl)
      rw [show m / 5 * 5 + m % 5 = m by omega] at h6
      rw [h6, ← hu]
      have h7 : m % 5 < 5 := Nat.mod_lt _ (by omega)
      rcases (show m % 5 = 0 ∨ m % 5 = 2 ∨ m % 5 = 3 ∨ m % 5 = 4 by omega) with e5 | e5 | e5 | e5 <;> rw [e5] <;> rfl
  · rw [show m / 5 * 5 + m % 5 = m by omega] at hu
    rw [Array.getElem?_setIfInBounds_ne (by omega)]
    exact hold u hu
theorem fine_check {fs : List Fn} (hl : fs.length = 3) (hg : ∀ f ∈ fs, fnFine f) : Im.check ⟨madeCs, fs⟩ = 0 := by
  unfold Im.check
  rw [if_neg (by rw [show madeCs.length = 16 from rfl, hl]; omega), if_pos madeCs_const, if_neg (by rw [hl]; omega)]
  exact firstE_none fun f hf => fnFine_check (hg f hf)
theorem fine_codes {fs : List Fn} (hg : ∀ f ∈ fs, fnFine f) : fnCodes fs := fun f hf => by
  have := (hg f hf).2.2.2.2
  omega
theorem op_ne {fs fs' : List Fn} (hg : ∀ f ∈ fs, fnGood f) (h : ∃ f ∈ fs', ∃ o ∈ f.c, 60000 ≤ o.2) : fs ≠ fs' := fun e => by
  subst e
  obtain ⟨f, hf, o, ho, hb⟩ := h
  have := ((hg f hf).2.2.1 o ho).2
  omega
theorem const_ne {i : Nat} (hi : i < 16) (v : Vl) : madeCs ≠ madeCs.set i (vN v 77) := fun e => by
  have h1 : vN v 77 ∈ madeCs.set i (vN v 77) := List.mem_of_getElem (List.getElem_set_self (by rw [List.length_set]; exact hi))
  have h2 : vN v 77 ∈ madeCs := e ▸ h1
  have := (madeCs_n _ h2).1
  simp [vN] at this
theorem push_right {x : Int} (h1 : 0 ≤ x) (h2 : x ≤ 65535) : rightO (1, x) = true := by
  show rightB 1 x = true
  unfold rightB
  rw [show aOk 1 = true by decide +kernel, if_neg (show ¬aArg 1 = 0 by decide +kernel), Bool.true_and]
  exact decide_eq_true ⟨h1, h2⟩
/-- a fact of an earlier world, whose memory stands -/
def Old (P : World → Prop) (T : Nat) (w : World) : Prop := ∃ w0, P w0 ∧ w0.heap.size ≤ T ∧ Below w0.heap.size w0 w
theorem Old.mk {P : World → Prop} {w : World} (h : P w) : Old P w.heap.size w := ⟨w, h, Nat.le_refl _, Below.refl _ _⟩
theorem Old.below {P : World → Prop} {T : Nat} {w w' : World} (h : Old P T w) (hb : Below w.heap.size w w') : Old P T w' := by
  obtain ⟨w0, h1, h2, h3⟩ := h
  exact ⟨w0, h1, h2, h3.trans (hb.mono h3.size)⟩
theorem Old.set {P : World → Prop} {T : Nat} {w : World} (h : Old P T w) {b : Nat} (hb : T ≤ b) (o : Nat) (vs : List Value) : Old P T (w.setCells b o vs) := by
  obtain ⟨w0, h1, h2, h3⟩ := h
  exact ⟨w0, h1, h2, below_setCells h3 (by omega) o vs⟩
theorem Old.get {P : World → Prop} {T : Nat} {w : World} (h : Old P T w) (hP : ∀ a b, P a → Below a.heap.size a b → P b) : P w := by
  obtain ⟨w0, h1, _, h3⟩ := h
  exact hP _ _ h1 h3
def PairAt (c f : Value) (fs : List Fn) (w : World) : Prop := VsAt w c madeCs ∧ FsAt w f fs
theorem PairAt.keep {c f : Value} {fs : List Fn} (a b : World) (h : PairAt c f fs a) (hb : Below a.heap.size a b) : PairAt c f fs b := ⟨h.1.below hb, h.2.below hb⟩
theorem mem_set {w : World} {b : Nat} {T : TypeId} {cur : Array Value} (hb : w.heap[b]? = some (.cells cur T)) {k : Nat} {cs : Array Value} {U : TypeId} (h : w.heap[k]? = some (.cells cs U)) (hT : U ≠ T) (o : Nat) (vs : List Value) : (w.setCells b o vs).heap[k]? = some (.cells cs U) := by
  refine (setCells_other vs o w k ?_).trans h
  intro e
  subst e
  rw [hb] at h
  injection h with h
  injection h with _ h2
  exact hT h2.symm
theorem consts_in : ∀ v ∈ madeCs, InI64 v.n := fun v hv => (madeCs_ok v hv).2
theorem isame_c (c d c' d' : Value) (cs cs' : List Vl) (fs fs' : List Fn) (w : World) (h1 : VsAt w c cs) (h2 : FsAt w d fs) (g1 : VsAt w c' cs') (g2 : FsAt w d' fs') (l1 : cs.length = 16) (l2 : fs.length = 3) (l3 : cs'.length = 16) (l4 : fs'.length = 3) (c1 : fnCodes fs) (c2 : fnCodes fs') (W : World) (hb : Below w.heap.size w W) (B : Bool) (hB : decide (Im.mk cs fs = Im.mk cs' fs') = B) :
    Calls Tryz.prog 11 #[.agg #[c, d], .agg #[c', d']] W fun e w' => e = .returned (.bool B) ∧ Below W.heap.size W w' := by
  subst hB
  exact isame_any ⟨cs, fs⟩ ⟨cs', fs'⟩ c d c' d' W (h1.below hb) (h2.below hb) (g1.below hb) (g2.below hb) (by simp only; omega) (by simp only; omega) (by simp only; omega) (by simp only; omega) c1 c2
theorem iput_c (c d : Value) (fs : List Fn) (w : World) (hw : LaidI w) (h1 : VsAt w c madeCs) (h2 : FsAt w d fs) (hc : Im.check ⟨madeCs, fs⟩ = 0) (W : World) (hb : Below w.heap.size w W) (s : ByteArray) (hs : s = ⟨(Im.put ⟨madeCs, fs⟩).toArray⟩) :
    Calls Tryz.prog 10 #[.agg #[c, d]] W fun e w' => e = .returned (.string s) ∧ Below W.heap.size W w' := by
  have := iput_any ⟨madeCs, fs⟩ c d madeCs_ok W (hw.below hb) (h1.below hb) (h2.below hb)
  unfold Im.put0 at this
  rw [if_pos hc] at this
  rwa [hs]
theorem same_put {a b : Im} (ha : a.check = 0) (hb : b.check = 0) (na : ∀ v ∈ a.cs, InI64 v.n) (nb : ∀ v ∈ b.cs, InI64 v.n) : (a.put == b.put) = decide (a = b) := by
  by_cases h : a = b
  · subst h
    simp
  · rw [decide_eq_false h]
    simp only [beq_eq_false_iff_ne, ne_eq]
    exact fun e => h (Im.put_inj ha na hb nb e)
end Go.Proofs.YtecoeaeonedmnaaGreatDoor
/- The program's functions at programs as they lie in memory: Put, Check, Same, Get. -/
namespace Go.Proofs.YtecoeaeonedmnaaGreatDoor
open Go.RowKit
structure ImAt (c d : Value) (im : Im) (w : World) : Prop where
  vs : VsAt w c im.cs
  fs : FsAt w d im.fs
theorem ImAt.below {c d : Value} {im : Im} {w w' : World} (h : ImAt c d im w) (hb : Below w.heap.size w w') : ImAt c d im w' := ⟨h.vs.below hb, h.fs.below hb⟩
def Im.fit (im : Im) : Prop := im.cs.length ≤ 1000000 ∧ im.fs.length ≤ 1000000 ∧ fnCodes im.fs
def Im.sized (im : Im) : Prop := ∀ v ∈ im.cs, v.small ∧ InI64 v.n
theorem check_fit {im : Im} (h : im.check = 0) : im.fit := by
  obtain ⟨h1, h2, _, _, h5⟩ := Im.check_zero h
  refine ⟨by omega, by omega, fun f hf => ?_⟩
  have := (Fn.check_zero (h5 f hf)).2.2.2.2.2.2.1
  omega
theorem imput_le {im : Im} (h : im.check = 0) : im.put.length ≤ 40000 := by
  obtain ⟨h1, h2, _, _, h5⟩ := Im.check_zero h
  obtain ⟨cs, fs⟩ := im
  have e1 := flatMap_len_le Vl.put 240 cs (fun _ _ => put_length)
  have e2 := flatMap_len_le Fn.put 772 fs (fun f hf => Fn.put_length (h5 f hf))
  simp only at h1 h2
  rw [put_len]
  omega
theorem may_sized {im : Im} (h : im.may) : im.sized := fun v hv => ⟨small_right (h.1.2 v hv).1, (h.1.2 v hv).2⟩
theorem put_im (im : Im) (c d : Value) (hz : im.sized) (w : World) (hw : LaidI w) (h : ImAt c d im w) (s : ByteArray) (hs : s = ⟨im.put0.toArray⟩) :
    Calls Tryz.prog 10 #[.agg #[c, d]] w fun e w' => e = .returned (.string s) ∧ Below w.heap.size w w' := by
  subst hs
  exact iput_any im c d hz w hw h.vs h.fs
theorem check_im (im : Im) (c d : Value) (hz : im.sized) (w : World) (hw : LaidI w) (h : ImAt c d im w) (E : Int) (hE : im.check = E) :
    Calls Tryz.prog 12 #[.agg #[c, d]] w fun e w' => e = .returned (.int .i64 E) ∧ Below w.heap.size w w' := by
  subst hE
  exact check_any im c d (fun v hv => (hz v hv).1) w hw h.vs h.fs
theorem same_im (a b : Im) (c d c' d' : Value) (ha : a.fit) (hb : b.fit) (w : World) (h : ImAt c d a w) (g : ImAt c' d' b w) (B : Bool) (hB : decide (a = b) = B) :
    Calls Tryz.prog 11 #[.agg #[c, d], .agg #[c', d']] w fun e w' => e = .returned (.bool B) ∧ Below w.heap.size w w' := by
  subst hB
  exact isame_any a b c d c' d' w h.vs h.fs g.vs g.fs ha.1 ha.2.1 hb.1 hb.2.1 ha.2.2 hb.2.2
theorem get_im (s : ByteArray) (im : Im) (w : World) (hw : LaidI w) (hs : s.size ≤ 1152921504606846976) (n m : Nat) (hn : im.cs.length = n) (hm : im.fs.length = m) (hg : getIm s.data.toList = some im) :
    Calls Tryz.prog 9 #[.string s] w fun e w' => ∃ co cc fo fc, e = .returned (.tuple #[.agg #[.slice co n cc, .slice fo m fc], .bool true]) ∧ ImAt (.slice co n cc) (.slice fo m fc) im w' ∧ Below w.heap.size w w' := by
  refine (iget_go s w hw hs).mono ?_
  rintro e w' ⟨h1, h2⟩
  rw [hg] at h1
  obtain ⟨co, cc, fo, fc, h3, h4, h5⟩ := h1
  subst hn
  subst hm
  exact ⟨co, cc, fo, fc, h3, ⟨VsAt.of_owns h4, h5.at⟩, h2⟩
theorem get_no (s : ByteArray) (w : World) (hw : LaidI w) (hs : s.size ≤ 1152921504606846976) (hg : getIm s.data.toList = none) :
    Calls Tryz.prog 9 #[.string s] w fun e w' => e = .returned (.tuple #[.agg #[.slice none 0 0, .slice none 0 0], .bool false]) ∧ Below w.heap.size w w' := by
  refine (iget_go s w hw hs).mono ?_
  rintro e w' ⟨h1, h2⟩
  rw [hg] at h1
  exact ⟨h1, h2⟩
theorem MadeV.at {B : Nat} {fs : List Fn} {co fo : Option Addr} {cc fc : Nat} {w : World} (h : MadeV B fs co cc fo fc w) : ImAt (.slice co 16 cc) (.slice fo 3 fc) ⟨madeCs, fs⟩ w := ⟨h.vs, h.fns⟩
theorem cut_c (cs : List Vl) (n2 : Nat) (hn2 : (cutC cs).length = n2) (co fo : Option Addr) (n cp m cq : Nat) (hn : n = cs.length) (w : World) (hV : VsAt w (.slice co n cp) cs) :
    Calls Tryz.prog 13 #[.agg #[.slice co n cp, .slice fo m cq]] w fun e w' => ∃ ao cap, e = .returned (.agg #[.slice ao n2 cap, .slice fo m cq]) ∧ w'.ownsRow w.heap.size 50 5 (.slice ao n2 cap) (cutC cs).length ((cutC cs).map vrow).flatten ∧ Below w.heap.size w w' := by
  subst hn2
  exact cut_any cs co fo n cp m cq hn w hV
theorem cut_sized {cs : List Vl} (h : ∀ v ∈ cs, smallV 140737488351232 v) (fs : List Fn) : Im.sized ⟨cutC cs, fs⟩ := by
  intro v hv
  obtain ⟨u, hu, rfl⟩ := List.mem_map.1 (show v ∈ (cs.take 70).map cutL from hv)
  obtain ⟨h1, h2, h3, h4⟩ := h u (List.mem_of_mem_take hu)
  refine ⟨⟨h2, ?_, ?_⟩, h1⟩
  · show (u.l.S.take 6).length ≤ _
    rw [List.length_take]
    omega
  · show (u.l.I.take 6).length ≤ _
    rw [List.length_take]
    omega
end Go.Proofs.YtecoeaeonedmnaaGreatDoor
