/- DeedA, PartA: joined into one text; each part says below what it holds. -/
import Derived.Test.YtiggallcoocdaaaGreatDoorDeed1A
import Derived.Test.YtiggallcoocdaaaGreatDoorDeed2A
import Derived.Test.YtiggallcoocdaaaGreatDoorDeed3A
import Derived.StillTail
import Derived.StillTailTactics
/- The maker's deed, whatever it chooses. -/
namespace Go.Proofs.YtiggallcoocdaaaGreatDoor
open Go.RowKit
theorem mod4 (x : Nat) : ((x : Nat) : Int) % 4 = 0 ∨ ((x : Nat) : Int) % 4 = 1 ∨ ((x : Nat) : Int) % 4 = 2 ∨ ((x : Nat) : Int) % 4 = 3 := by omega
theorem deed_any (m : Nat) (lv : Value) (lb : List UInt8) (a : Nat) (c : List (Int × Int)) (ab : Int) (w : World) (H : DS m lv lb c w a [] w) (ha : a ≤ 1000) (hc : c.length ≤ 1000) (hab0 : 0 ≤ ab) (hab1 : ab ≤ 2) :
    Calls Tryz.prog 42 #[.pointer (some ⟨m, 0, none⟩), .int .i64 ab] w fun e w' => e = .returned (.tuple #[]) ∧ DeedP m lv lb c w a w' := by
  have hz : ab = 0 ∨ 0 < ab := by omega
  have h4 := mod4 (rdB lb (a + 1 + 1))
  have hk : ((rdB lb (a + 1) : Nat) : Int) % 32 < 32 ∧ 0 ≤ ((rdB lb (a + 1) : Nat) : Int) % 32 := by omega
  obtain ⟨k, hk2⟩ : ∃ k, k = ((rdB lb (a + 1) : Nat) : Int) % 32 := ⟨_, rfl⟩
  rw [← hk2] at hk
  have hcase : ∀ j : Nat, j < 32 → k = j → Calls Tryz.prog 42 #[.pointer (some ⟨m, 0, none⟩), .int .i64 ab] w fun e w' => e = .returned (.tuple #[]) ∧ DeedP m lv lb c w a w' := by
    intro j hj hkj
    rw [hkj] at hk2
    match j, hj, hk2 with
    | 0, _, hk2 =>
      exact (deed0 m lv lb a c ab w H ha hc hab0 hab1 hk2.symm)
    | 1, _, hk2 =>
      exact (deed1 m lv lb a c ab w H ha hc hab0 hab1 hk2.symm)
    | 2, _, hk2 =>
      exact (deed2 m lv lb a c ab w H ha hc hab0 hab1 hk2.symm)
    | 3, _, hk2 =>
      exact (deed3 m lv lb a c ab w H ha hc hab0 hab1 hk2.symm)
    | 4, _, hk2 =>
      exact (deed4 m lv lb a c ab w H ha hc hab0 hab1 hk2.symm)
    | 5, _, hk2 =>
      exact (deed5 m lv lb a c ab w H ha hc hab0 hab1 hk2.symm)
    | 6, _, hk2 =>
      exact (h4.elim (fun h4 => deed6_0 m lv lb a c ab w H ha hc hab0 hab1 hk2.symm h4) (fun h4 => h4.elim (fun h4 => deed6_1 m lv lb a c ab w H ha hc hab0 hab1 hk2.symm h4) (fun h4 => h4.elim (fun h4 => deed6_2 m lv lb a c ab w H ha hc hab0 hab1 hk2.symm h4) (fun h4 => deed6_3 m lv lb a c ab w H ha hc hab0 hab1 hk2.symm h4))))
    | 7, _, hk2 =>
      exact (h4.elim (fun h4 => deed7_0 m lv lb a c ab w H ha hc hab0 hab1 hk2.symm h4) (fun h4 => h4.elim (fun h4 => deed7_1 m lv lb a c ab w H ha hc hab0 hab1 hk2.symm h4) (fun h4 => h4.elim (fun h4 => deed7_2 m lv lb a c ab w H ha hc hab0 hab1 hk2.symm h4) (fun h4 => deed7_3 m lv lb a c ab w H ha hc hab0 hab1 hk2.symm h4))))
    | 8, _, hk2 =>
      exact (h4.elim (fun h4 => deed8_0 m lv lb a c ab w H ha hc hab0 hab1 hk2.symm h4) (fun h4 => h4.elim (fun h4 => deed8_1 m lv lb a c ab w H ha hc hab0 hab1 hk2.symm h4) (fun h4 => h4.elim (fun h4 => deed8_2 m lv lb a c ab w H ha hc hab0 hab1 hk2.symm h4) (fun h4 => deed8_3 m lv lb a c ab w H ha hc hab0 hab1 hk2.symm h4))))
    | 9, _, hk2 =>
      exact (deed9 m lv lb a c ab w H ha hc hab0 hab1 hk2.symm)
    | 10, _, hk2 =>
      exact (deed10 m lv lb a c ab w H ha hc hab0 hab1 hk2.symm)
    | 11, _, hk2 =>
      exact (deed11 m lv lb a c ab w H ha hc hab0 hab1 hk2.symm)
    | 12, _, hk2 =>
      exact (deed12 m lv lb a c ab w H ha hc hab0 hab1 hk2.symm)
    | 13, _, hk2 =>
      exact (deed13 m lv lb a c ab w H ha hc hab0 hab1 hk2.symm)
    | 14, _, hk2 =>
      exact (deed14 m lv lb a c ab w H ha hc hab0 hab1 hk2.symm)
    | 15, _, hk2 =>
      exact (deed15 m lv lb a c ab w H ha hc hab0 hab1 hk2.symm)
    | 16, _, hk2 =>
      exact hz.elim (fun h0 => (deed16z m lv lb a c ab w H ha hc hab0 hab1 hk2.symm h0)) (fun h0 => (h4.elim (fun h4 => deed16p_0 m lv lb a c ab w H ha hc hab0 hab1 hk2.symm h0 h4) (fun h4 => h4.elim (fun h4 => deed16p_1 m lv lb a c ab w H ha hc hab0 hab1 hk2.symm h0 h4) (fun h4 => h4.elim (fun h4 => deed16p_2 m lv lb a c ab w H ha hc hab0 hab1 hk2.symm h0 h4) (fun h4 => deed16p_3 m lv lb a c ab w H ha hc hab0 hab1 hk2.symm h0 h4)))))
    | 17, _, hk2 =>
      exact hz.elim (fun h0 => (deed17z m lv lb a c ab w H ha hc hab0 hab1 hk2.symm h0)) (fun h0 => (h4.elim (fun h4 => deed17p_0 m lv lb a c ab w H ha hc hab0 hab1 hk2.symm h0 h4) (fun h4 => h4.elim (fun h4 => deed17p_1 m lv lb a c ab w H ha hc hab0 hab1 hk2.symm h0 h4) (fun h4 => h4.elim (fun h4 => deed17p_2 m lv lb a c ab w H ha hc hab0 hab1 hk2.symm h0 h4) (fun h4 => deed17p_3 m lv lb a c ab w H ha hc hab0 hab1 hk2.symm h0 h4)))))
    | 18, _, hk2 =>
      exact (deed18 m lv lb a c ab w H ha hc hab0 hab1 hk2.symm)
    | 19, _, hk2 =>
      exact hz.elim (fun h0 => (deed19z m lv lb a c ab w H ha hc hab0 hab1 hk2.symm h0)) (fun h0 => (h4.elim (fun h4 => deed19p_0 m lv lb a c ab w H ha hc hab0 hab1 hk2.symm h0 h4) (fun h4 => h4.elim (fun h4 => deed19p_1 m lv lb a c ab w H ha hc hab0 hab1 hk2.symm h0 h4) (fun h4 => h4.elim (fun h4 => deed19p_2 m lv lb a c ab w H ha hc hab0 hab1 hk2.symm h0 h4) (fun h4 => deed19p_3 m lv lb a c ab w H ha hc hab0 hab1 hk2.symm h0 h4)))))
    | 20, _, hk2 =>
      exact hz.elim (fun h0 => (deed20z m lv lb a c ab w H ha hc hab0 hab1 hk2.symm h0)) (fun h0 => (h4.elim (fun h4 => deed20p_0 m lv lb a c ab w H ha hc hab0 hab1 hk2.symm h0 h4) (fun h4 => h4.elim (fun h4 => deed20p_1 m lv lb a c ab w H ha hc hab0 hab1 hk2.symm h0 h4) (fun h4 => h4.elim (fun h4 => deed20p_2 m lv lb a c ab w H ha hc hab0 hab1 hk2.symm h0 h4) (fun h4 => deed20p_3 m lv lb a c ab w H ha hc hab0 hab1 hk2.symm h0 h4)))))
    | 21, _, hk2 =>
      exact hz.elim (fun h0 => (deed21z m lv lb a c ab w H ha hc hab0 hab1 hk2.symm h0)) (fun h0 => (h4.elim (fun h4 => deed21p_0 m lv lb a c ab w H ha hc hab0 hab1 hk2.symm h0 h4) (fun h4 => h4.elim (fun h4 => deed21p_1 m lv lb a c ab w H ha hc hab0 hab1 hk2.symm h0 h4) (fun h4 => h4.elim (fun h4 => deed21p_2 m lv lb a c ab w H ha hc hab0 hab1 hk2.symm h0 h4) (fun h4 => deed21p_3 m lv lb a c ab w H ha hc hab0 hab1 hk2.symm h0 h4)))))
    | 22, _, hk2 =>
      exact (deed22 m lv lb a c ab w H ha hc hab0 hab1 hk2.symm)
    | 23, _, hk2 =>
      exact (deed23 m lv lb a c ab w H ha hc hab0 hab1 hk2.symm)
    | 24, _, hk2 =>
      exact (deed24 m lv lb a c ab w H ha hc hab0 hab1 hk2.symm)
    | 25, _, hk2 =>
      exact (deed25 m lv lb a c ab w H ha hc hab0 hab1 hk2.symm)
    | 26, _, hk2 =>
      exact hz.elim (fun h0 => (deed26z m lv lb a c ab w H ha hc hab0 hab1 hk2.symm h0)) (fun h0 => (deed26p m lv lb a c ab w H ha hc hab0 hab1 hk2.symm h0))
    | 27, _, hk2 =>
      exact (deed27 m lv lb a c ab w H ha hc hab0 hab1 hk2.symm)
    | 28, _, hk2 =>
      exact hz.elim (fun h0 => (deed28z m lv lb a c ab w H ha hc hab0 hab1 hk2.symm h0)) (fun h0 => (deed28p m lv lb a c ab w H ha hc hab0 hab1 hk2.symm h0))
    | 29, _, hk2 =>
      exact (deed29 m lv lb a c ab w H ha hc hab0 hab1 hk2.symm)
    | 30, _, hk2 =>
      exact (deed30 m lv lb a c ab w H ha hc hab0 hab1 hk2.symm)
    | 31, _, hk2 =>
      exact (deed31 m lv lb a c ab w H ha hc hab0 hab1 hk2.symm)
    | j + 32, hj, _ => exact absurd hj (by omega)
  exact hcase k.toNat (by omega) (by omega)
end Go.Proofs.YtiggallcoocdaaaGreatDoor
/- The maker's part. -/
namespace Go.Proofs.YtiggallcoocdaaaGreatDoor
open Go.RowKit
section
variable {m : Nat} {lv : Value} {lb : List UInt8} {c d d' : List (Int × Int)} {w W W' : World} {a a' : Nat}
theorem DS.keep (h : DS m lv lb c w a d W) (hb : Below W.heap.size W W') : DS m lv lb c w a d W' := ⟨h.mak.below hb, h.hb.trans (hb.mono (Nat.le_of_lt h.mak.lt)), h.good⟩
theorem DS.new (h : MK m lv lb a c w) : DS m lv lb c w a [] w := ⟨by rw [List.append_nil]; exact h, Below.refl m w, fun o ho => by simp at ho⟩
theorem DS.join (h : DS m lv lb c w a d W) (k : DS m lv lb (c ++ d) W a' d' W') : DS m lv lb c w a' (d ++ d') W' :=
  ⟨by rw [← List.append_assoc]; exact k.mak, h.hb.trans k.hb, fun o ho => (List.mem_append.1 ho).elim (h.good o) (k.good o)⟩
theorem orow_get : ∀ (c : List (Int × Int)) (i : Nat) (hi : i < c.length), (c.map orow).flatten[i * 2]? = some (.int .i64 c[i].1) ∧ (c.map orow).flatten[i * 2 + 1]? = some (.int .i64 c[i].2)
  | o :: c, 0, _ => ⟨rfl, rfl⟩
  | o :: c, i + 1, hi => by
    have := orow_get c i (by simpa using hi)
    rw [List.map_cons, List.flatten_cons]
    show ((Value.int .i64 o.1) :: (Value.int .i64 o.2) :: (c.map orow).flatten)[(i + 1) * 2]? = _ ∧ _
    rw [show (i + 1) * 2 = i * 2 + 1 + 1 by omega, List.getElem?_cons_succ, List.getElem?_cons_succ]
    refine ⟨this.1, ?_⟩
    show ((Value.int .i64 o.1) :: (Value.int .i64 o.2) :: (c.map orow).flatten)[i * 2 + 1 + 1 + 1]? = _
    rw [List.getElem?_cons_succ, List.getElem?_cons_succ]
    exact this.2
theorem orow_set : ∀ (c : List (Int × Int)) (i : Nat) (hi : i < c.length) (x : Int), ((c.set i (c[i].1, x)).map orow).flatten = (c.map orow).flatten.set (i * 2 + 1) (.int .i64 x)
  | o :: c, 0, _, x => rfl
  | o :: c, i + 1, hi, x => by
    have hi' : i < c.length := by simpa using hi
    have := orow_set c i hi' x
    rw [List.set_cons_succ, List.map_cons, List.flatten_cons, List.map_cons, List.flatten_cons]
    show (Value.int .i64 o.1) :: (Value.int .i64 o.2) :: ((c.set i ((c[i]'hi').1, x)).map orow).flatten = ((Value.int .i64 o.1) :: (Value.int .i64 o.2) :: (c.map orow).flatten).set ((i + 1) * 2 + 1) _
    rw [show (i + 1) * 2 + 1 = i * 2 + 1 + 1 + 1 by omega, List.set_cons_succ, List.set_cons_succ, this]
theorem MK.cells (h : MK m lv lb a c w) (hc : 0 < c.length) : ∃ g cap, w.heap[m]? = some (.cells #[lv, .int .i64 a, .slice (some ⟨g, 0, none⟩) c.length cap] 70) ∧ m < g ∧ (∀ i (hi : i < c.length), w.cell? ⟨g, i * 2, none⟩ = some (.int .i64 c[i].1) ∧ w.cell? ⟨g, i * 2 + 1, none⟩ = some (.int .i64 c[i].2)) ∧ (∀ j, w.frozen? ⟨g, j, none⟩ = false) ∧
    ∀ i (hi : i < c.length) (x : Int), MK m lv lb a (c.set i (c[i].1, x)) (w.setCell ⟨g, i * 2 + 1, none⟩ (.int .i64 x)) := by
  obtain ⟨cv, h1, h2⟩ := h.own
  rcases h2.2 with ⟨_, h0⟩ | ⟨g, cap, cur, rfl, hB, hg, r1, r2, r3, r4⟩
  · omega
  · have hne : m ≠ g := by
      intro e
      subst e
      rw [h1] at hg
      cases hg
    refine ⟨g, cap, h1, by omega, fun i hi => ?_, fun j => Mem.free hg j, fun i hi x => ?_⟩
    · obtain ⟨e1, e2⟩ := orow_get c i hi
      have hl : (c.map orow).flatten.length = c.length * 2 := h2.1
      rw [← r4, List.getElem?_take] at e1 e2
      rw [if_pos (by omega)] at e1 e2
      exact ⟨Mem.cell hg _ (by simpa using e1), Mem.cell hg _ (by simpa using e2)⟩
    · refine ⟨h.src.below ((Below.refl m w).setCell (p := ⟨g, i * 2 + 1, none⟩) (by show m ≤ g; omega) _), .slice (some ⟨g, 0, none⟩) c.length cap, ?_, ?_⟩
      · exact setCell_other h1 (fun e => hne e.symm) _
      · have hs := (World.ownsRow.stored h2 (i * 2 + 1) (.int .i64 x)).1
        rw [orow_set c i hi x, List.length_set]
        exact hs
/-- what a part does -/
def PartP (m : Nat) (lv : Value) (lb : List UInt8) (c : List (Int × Int)) (w : World) (a : Nat) (w' : World) : Prop := ∃ a' d, DS m lv lb c w a' d w' ∧ a' ≤ a + 10 ∧ d.length ≤ 10
theorem set_mid (c : List (Int × Int)) (d : List (Int × Int)) (j : Nat) (o : Int × Int) : (c ++ d).set (c.length + j) o = c ++ d.set j o := by
  rw [List.set_append_right _ _ (by omega), Nat.add_sub_cancel_left]
theorem DS.set (h : DS m lv lb c w a d W) (j : Nat) (_ : Int) (W' : World) (o : Int × Int) (hm : MK m lv lb a ((c ++ d).set (c.length + j) o) W') (hb : Below m W W') (hg : gd o) : DS m lv lb c w a (d.set j o) W' :=
  ⟨by rw [← set_mid]; exact hm, h.hb.trans hb, fun q hq => (List.mem_or_eq_of_mem_set hq).elim (h.good q) (fun e => by rw [e]; exact hg)⟩
end
theorem deed_c {m : Nat} {lv : Value} {lb : List UInt8} {c d : List (Int × Int)} {w W : World} {a : Nat} (H : DS m lv lb c w a d W) (ab : Int) (ha : a ≤ 1000) (hc : (c ++ d).length ≤ 1000) (hab0 : 0 ≤ ab) (hab1 : ab ≤ 2) :
    Calls Tryz.prog 42 #[.pointer (some ⟨m, 0, none⟩), .int .i64 ab] W fun e w' => e = .returned (.tuple #[]) ∧ ∃ a' d', DS m lv lb c w a' (d ++ d') w' ∧ a' ≤ a + 9 ∧ 0 < d'.length ∧ d'.length ≤ 6 := by
  refine (deed_any m lv lb a (c ++ d) ab W (DS.new H.mak) ha hc hab0 hab1).mono ?_
  rintro e w' ⟨rfl, a', d', h1, h2, h3, h4⟩
  exact ⟨rfl, a', d', H.join h1, h2, h3, h4⟩
/-- the block of a maker's instructions -/
theorem MK.len {m : Nat} {lv : Value} {lb : List UInt8} {c : List (Int × Int)} {w : World} {a : Nat} (h : MK m lv lb a c w) : ∃ ao cap, w.cell? ⟨m, 2, none⟩ = some (.slice ao c.length cap) := by
  obtain ⟨cv, hbk, hown⟩ := h.own
  obtain ⟨ao, n', cap, rfl⟩ := owns_slice hown
  obtain rfl := owns_len hown
  exact ⟨ao, cap, Mem.cell hbk 2 rfl⟩
theorem MK.len2 {m : Nat} {lv : Value} {lb : List UInt8} {c : List (Int × Int)} {w : World} {a : Nat} (h : MK m lv lb a c w) (K : Nat) (hK : c.length ≤ K) : ∃ ao n cap, w.cell? ⟨m, 2, none⟩ = some (.slice ao n cap) ∧ (n : Int) ≤ K ∧ (0 : Int) ≤ n := by
  obtain ⟨ao, cap, h1⟩ := h.len
  exact ⟨ao, _, cap, h1, by omega, by omega⟩
set_option maxRecDepth 100000 in
set_option maxHeartbeats 16000000 in
theorem part_plain (m : Nat) (lv : Value) (lb : List UInt8) (a : Nat) (c : List (Int × Int)) (ab : Int) (w : World) (H0 : MK m lv lb a c w) (ha : a ≤ 900) (hc : c.length ≤ 900) (hab0 : 0 ≤ ab) (hab1 : ab ≤ 2) (hk : 3 < ((rdB lb a : Nat) : Int) % 8) :
    Calls Tryz.prog 21 #[.pointer (some ⟨m, 0, none⟩), .int .i64 ab] w fun e w' => e = .returned (.tuple #[]) ∧ PartP m lv lb c w a w' := by
  have hk3 : ((((rdB lb a : Nat) : Int) % 8) == 3) = false := int_ne (by omega)
  have hkn : ¬ ((rdB lb a : Nat) : Int) % 8 < 3 := by omega
  have H := DS.new H0
  go_enter Tryz.func21, Tryz.ntmps21
  go_wp2_with (first
    | (go_at_call 23; refine (next_c H (by omega)).mono ?_; clear H; rintro e W ⟨rfl, H, -⟩; have hM := H.mak; rw [List.append_nil] at hM; obtain ⟨ao, cap, c2⟩ := hM.len; clear hM)
    | (go_at_call 42; refine (deed_c H _ (by omega) (by simp; omega) hab0 hab1).mono ?_; clear H; rintro e W ⟨rfl, a', d', H, ha', hd0, hd6⟩))
  go_end0
  exact ⟨rfl, a', _, H, by omega, by simp; omega⟩
set_option maxRecDepth 100000 in
set_option maxHeartbeats 16000000 in
theorem part_if (m : Nat) (lv : Value) (lb : List UInt8) (a : Nat) (c : List (Int × Int)) (ab : Int) (w : World) (H0 : MK m lv lb a c w) (ha : a ≤ 900) (hc : c.length ≤ 900) (hab0 : 0 ≤ ab) (hab1 : ab ≤ 2) (hk : ((rdB lb a : Nat) : Int) % 8 = 3) :
    Calls Tryz.prog 21 #[.pointer (some ⟨m, 0, none⟩), .int .i64 ab] w fun e w' => e = .returned (.tuple #[]) ∧ PartP m lv lb c w a w' := by
  have H := DS.new H0
  go_enter Tryz.func21, Tryz.ntmps21
  go_upto_region 17 with (first
    | (go_at_call 23; refine (next_c H (by omega)).mono ?_; clear H; rintro e W ⟨rfl, H, -⟩; have hM := H.mak; rw [List.append_nil] at hM; obtain ⟨ao, cap, c2⟩ := hM.len; clear hM)
    | (go_at_call 43; refine (local_c H _ (by simp; omega) (by omega) (by omega)).mono ?_; clear H; rintro e W ⟨rfl, H⟩)
    | (go_at_call 22; refine (emit_c H _ _ (by simp; omega) (by first | exact gd1 (by omega) (by omega) (by omega) | exact gd0 (by omega))).mono ?_; clear H; rintro e W ⟨rfl, H⟩)
    | (go_at_call 42; refine (deed_c H _ (by omega) (by simp; omega) hab0 hab1).mono ?_; clear H; rintro e W ⟨rfl, a', d', H, ha', hd0, hd6⟩))
  clear c2
  have hlen : (c ++ ([] ++ [((2 : Int), (1 : Int))] ++ [((16 : Int), (0 : Int))] ++ d')).length = c.length + 2 + d'.length := by simp; omega
  have hi : (c.length + 1) < (c ++ ([] ++ [((2 : Int), (1 : Int))] ++ [((16 : Int), (0 : Int))] ++ d')).length := by omega
  obtain ⟨g, cap2, hbk, hmg, hcl, hfz, hst⟩ := H.mak.cells (by omega)
  have hval : (c ++ ([] ++ [((2 : Int), (1 : Int))] ++ [((16 : Int), (0 : Int))] ++ d'))[(c.length + 1)]'hi = ((16 : Int), (0 : Int)) := by simp [List.getElem_append_right]
  have e2 := (hcl (c.length + 1) hi).2
  rw [hval] at e2
  have f2 := hfz ((c.length + 1) * 2 + 1)
  rw [hlen] at hbk
  have c22 := Mem.cell (v := .slice (some ⟨g, 0, none⟩) (c.length + 2 + d'.length) cap2) hbk 2 rfl
  have hno := cell_other (b := m) (b' := g) (by omega)
  have hstI : Hid (∀ x : Int, MK m lv lb a' ((c ++ ([] ++ [((2 : Int), (1 : Int))] ++ [((16 : Int), (0 : Int))] ++ d')).set (c.length + 1) (((16 : Int), (0 : Int)).1, x)) (W.setCell ⟨g, (c.length + 1) * 2 + 1, none⟩ (.int .i64 x))) := Lib.hid (fun x => by
    have := hst (c.length + 1) hi x
    rw [hval] at this
    exact this)
  obtain ⟨n, hn⟩ : ∃ n, n = c.length + 2 + d'.length := ⟨_, rfl⟩
  obtain ⟨q, hq⟩ : ∃ q, q = (c.length + 1) := ⟨_, rfl⟩
  rw [← hn] at c22
  rw [← hq] at e2 f2
  have hqI : (c.length : Int) + 1 = (q : Int) := by omega
  have hl1 : (q : Int) < (n : Int) := by omega
  have hl0 : (0 : Int) ≤ (q : Int) := by omega
  have hqw : IntKind.i64.wrap (q : Int) = q := IntWalk.i64_in _ (by omega)
  have HNN := Lib.hid hn
  have HQQ := Lib.hid hq
  have HC := Lib.hid hc
  have HD := Lib.hid (And.intro hd0 hd6)
  have hc9 : (c.length : Int) ≤ 900 := by omega
  have hgo : gd (((16 : Int), (0 : Int)).1, (n : Int)) := gd1 (by simp) (by omega) (by omega)
  have HG := Lib.hid hgo
  clear hcl hfz hst hbk hval hn hq hlen hi hd0 hd6 hc hgo
  go_region_held3 (fun w' => w'.cell? ⟨m, 2, none⟩ = some (.slice (some ⟨g, 0, none⟩) n cap2))
    (go_keep)
    (fail)
  have hn9 : (n : Int) ≤ 2000 := by have := HNN.out; have := HC.out; have := HD.out; omega
  have hc := HC.out
  obtain ⟨hd0, hd6⟩ := HD.out
  clear hqI hl1 hl0 hqw c22 e2 f2 hno
  obtain rfl := HQQ.out
  have HS := DS.set H 1 (n : Int) _ (((16 : Int), (0 : Int)).1, (n : Int)) ((hstI.out (n : Int)).below ((Below.refl _ _).drew)) (((Below.refl m W).setCell (p := ⟨g, (c.length + 1) * 2 + 1, none⟩) (by show m ≤ g; omega) _).drew) HG.out
  clear H hstI
  have H := HS
  clear HS
  go_wp2_with fail
  go_end0
  exact ⟨rfl, a', _, H, by omega, by simp; omega⟩
set_option maxRecDepth 100000 in
set_option maxHeartbeats 16000000 in
theorem part_try (m : Nat) (lv : Value) (lb : List UInt8) (a : Nat) (c : List (Int × Int)) (ab : Int) (w : World) (H0 : MK m lv lb a c w) (ha : a ≤ 900) (hc : c.length ≤ 900) (hab0 : 0 ≤ ab) (hab1 : ab ≤ 2) (hk : ((rdB lb a : Nat) : Int) % 8 < 3) :
    Calls Tryz.prog 21 #[.pointer (some ⟨m, 0, none⟩), .int .i64 ab] w fun e w' => e = .returned (.tuple #[]) ∧ PartP m lv lb c w a w' := by
  have H := DS.new H0
  go_enter Tryz.func21, Tryz.ntmps21
  go_upto_region 6 with (first
    | (go_at_call 23; refine (next_c H (by omega)).mono ?_; clear H; rintro e W ⟨rfl, H, -⟩; have hM := H.mak; rw [List.append_nil] at hM; obtain ⟨ao, cap, c2⟩ := hM.len; clear hM)
    | (go_at_call 22; refine (emit_c H _ _ (by simp; omega) (by first | exact gd1 (by omega) (by omega) (by omega) | exact gd0 (by omega))).mono ?_; clear H; rintro e W ⟨rfl, H⟩)
    | (go_at_call 42; refine (deed_c H _ (by omega) (by simp; omega) hab0 hab1).mono ?_; clear H; rintro e W ⟨rfl, a', d', H, ha', hd0, hd6⟩))
  clear c2
  have hlen : (c ++ ([] ++ [((20 : Int), (0 : Int))] ++ d')).length = c.length + 1 + d'.length := by simp; omega
  have hi : c.length + d'.length < (c ++ ([] ++ [((20 : Int), (0 : Int))] ++ d')).length := by omega
  obtain ⟨g, cap2, hbk, hmg, hcl, hfz, hst⟩ := H.mak.cells (by omega)
  have e1 := (hcl (c.length + d'.length) hi).1
  obtain ⟨u, hu⟩ : ∃ u, u = ((c ++ ([] ++ [((20 : Int), (0 : Int))] ++ d'))[c.length + d'.length]'hi).1 := ⟨_, rfl⟩
  rw [← hu] at e1
  rw [hlen] at hbk
  have c22 := Mem.cell (v := .slice (some ⟨g, 0, none⟩) (c.length + 1 + d'.length) cap2) hbk 2 rfl
  obtain ⟨n, hn⟩ : ∃ n, n = c.length + 1 + d'.length := ⟨_, rfl⟩
  obtain ⟨q, hq⟩ : ∃ q, q = c.length + d'.length := ⟨_, rfl⟩
  rw [← hn] at c22
  rw [← hq] at e1
  have hqI : (n : Int) - 1 = (q : Int) := by omega
  have hl1 : (q : Int) < (n : Int) := by omega
  have hl0 : (0 : Int) ≤ (q : Int) := by omega
  have hqw : IntKind.i64.wrap (q : Int) = q := IntWalk.i64_in _ (by omega)
  have HNN := Lib.hid hn
  have HC := Lib.hid hc
  have HD := Lib.hid (And.intro hd0 hd6)
  clear hcl hfz hst hbk hu hn hq hlen hi hd0 hd6 hc
  have HH := Lib.hid H
  clear H
  by_cases hu : u = 19
  · subst hu
    go_quiet (fail)
    have H := HH.out
    have hc := HC.out
    obtain ⟨hd0, hd6⟩ := HD.out
    clear HH HNN HC HD e1 c22 hqI hl1 hl0 hqw
    go_upto_region 7 with (fail)
    refine wp_named ?_
    intro W9 hW9
    have H := H.keep (W' := W9) (by rw [hW9]; exact ⟨rfl, rfl, rfl, Nat.le_refl _, fun _ _ => rfl⟩)
    clear hW9
    have hlen : (c ++ ([] ++ [((20 : Int), (0 : Int))] ++ d')).length = c.length + 1 + d'.length := by simp; omega
    have hi : c.length < (c ++ ([] ++ [((20 : Int), (0 : Int))] ++ d')).length := by omega
    obtain ⟨g, cap2, hbk, hmg, hcl, hfz, hst⟩ := H.mak.cells (by omega)
    have hval : (c ++ ([] ++ [((20 : Int), (0 : Int))] ++ d'))[c.length]'hi = ((20 : Int), (0 : Int)) := by simp [List.getElem_append_right]
    have e2 := (hcl c.length hi).2
    rw [hval] at e2
    have f2 := hfz (c.length * 2 + 1)
    rw [hlen] at hbk
    have c22 := Mem.cell (v := .slice (some ⟨g, 0, none⟩) (c.length + 1 + d'.length) cap2) hbk 2 rfl
    have hno := cell_other (b := m) (b' := g) (by omega)
    have hstI : Hid (∀ x : Int, MK m lv lb a' ((c ++ ([] ++ [((20 : Int), (0 : Int))] ++ d')).set (c.length + 0) (((20 : Int), (0 : Int)).1, x)) (W9.setCell ⟨g, c.length * 2 + 1, none⟩ (.int .i64 x))) := Lib.hid (fun x => by
      have := hst c.length hi x
      rw [hval] at this
      exact this)
    obtain ⟨n, hn⟩ : ∃ n, n = c.length + 1 + d'.length := ⟨_, rfl⟩
    obtain ⟨q, hq⟩ : ∃ q, q = c.length := ⟨_, rfl⟩
    rw [← hn] at c22
    rw [← hq] at e2 f2
    have hqI : (c.length : Int) = (q : Int) := by omega
    have hl1 : (q : Int) < (n : Int) := by omega
    have hl0 : (0 : Int) ≤ (q : Int) := by omega
    have hqw : IntKind.i64.wrap (q : Int) = q := IntWalk.i64_in _ (by omega)
    have HNN := Lib.hid hn
    have HQQ := Lib.hid hq
    have HC := Lib.hid hc
    have HD := Lib.hid (And.intro hd0 hd6)
    have hc9 : (c.length : Int) ≤ 900 := by omega
    have hgo : gd (((20 : Int), (0 : Int)).1, (n : Int)) := gd1 (by simp) (by omega) (by omega)
    have HG := Lib.hid hgo
    clear hcl hfz hst hbk hval hn hq hlen hi hd0 hd6 hc hgo
    go_region_held3 (fun w' => w'.cell? ⟨m, 2, none⟩ = some (.slice (some ⟨g, 0, none⟩) n cap2))
      (go_keep)
      (fail)
    have hn9 : (n : Int) ≤ 2000 := by have := HNN.out; have := HC.out; have := HD.out; omega
    have hc := HC.out
    obtain ⟨hd0, hd6⟩ := HD.out
    clear hqI hl1 hl0 hqw c22 e2 f2 hno
    obtain rfl := HQQ.out
    have HS := DS.set H 0 (n : Int) _ (((20 : Int), (0 : Int)).1, (n : Int)) ((hstI.out (n : Int)).below ((Below.refl _ _).drew)) (((Below.refl m W9).setCell (p := ⟨g, c.length * 2 + 1, none⟩) (by show m ≤ g; omega) _).drew) HG.out
    clear H hstI
    have H := HS
    clear HS
    go_wp2_with (go_at_call 22; refine (emit_c H _ _ (by simp; omega) (by first | exact gd1 (by omega) (by omega) (by omega) | exact gd0 (by omega))).mono ?_; clear H; rintro e W ⟨rfl, H⟩)
    refine bodyPost_ret (v := .tuple #[]) (by simp [results, Tryz.results21, go_sem]) rfl ⟨rfl, a', _, H, by omega, by simp; omega⟩
  · have hu2 := int_ne hu
    go_quiet (fail)
    have H := HH.out.keep (W' := W.drewN nq) ⟨rfl, rfl, rfl, Nat.le_refl _, fun _ _ => rfl⟩
    have hc := HC.out
    obtain ⟨hd0, hd6⟩ := HD.out
    clear HH HNN HC HD e1 c22 hqI hl1 hl0 hqw hu2 hu
    have hflag : Nat := 0
    go_upto_region 11 with (first
      | (go_at_call 22; clear hflag; refine (emit_c H _ _ (by simp; omega) (by first | exact gd1 (by omega) (by omega) (by omega) | exact gd0 (by omega))).mono ?_; clear H; rintro e W ⟨rfl, H⟩; obtain ⟨ao, n2, cap, c2, hn2, hn3⟩ := H.mak.len2 2000 (by simp; omega))
      | (go_at_call 22; refine (emit_c H _ _ (by simp; omega) (by first | exact gd1 (by omega) (by omega) (by omega) | exact gd0 (by omega))).mono ?_; clear H; rintro e W ⟨rfl, H⟩))
    refine wp_named ?_
    intro W7 hW7
    have H := H.keep (W' := W7) (by rw [hW7]; exact Below.refl _ _)
    clear hW7 c2 hn2 hn3
    have hlen : (c ++ ([] ++ [((20 : Int), (0 : Int))] ++ d' ++ [((21 : Int), (0 : Int))] ++ [((15 : Int), (n2 : Int) + 2)])).length = c.length + 3 + d'.length := by simp; omega
    have hi : c.length < (c ++ ([] ++ [((20 : Int), (0 : Int))] ++ d' ++ [((21 : Int), (0 : Int))] ++ [((15 : Int), (n2 : Int) + 2)])).length := by omega
    obtain ⟨g, cap2, hbk, hmg, hcl, hfz, hst⟩ := H.mak.cells (by omega)
    have hval : (c ++ ([] ++ [((20 : Int), (0 : Int))] ++ d' ++ [((21 : Int), (0 : Int))] ++ [((15 : Int), (n2 : Int) + 2)]))[c.length]'hi = ((20 : Int), (0 : Int)) := by simp [List.getElem_append_right]
    have e2 := (hcl c.length hi).2
    rw [hval] at e2
    have f2 := hfz (c.length * 2 + 1)
    rw [hlen] at hbk
    have c22 := Mem.cell (v := .slice (some ⟨g, 0, none⟩) (c.length + 3 + d'.length) cap2) hbk 2 rfl
    have hno := cell_other (b := m) (b' := g) (by omega)
    have hstI : Hid (∀ x : Int, MK m lv lb a' ((c ++ ([] ++ [((20 : Int), (0 : Int))] ++ d' ++ [((21 : Int), (0 : Int))] ++ [((15 : Int), (n2 : Int) + 2)])).set (c.length + 0) (((20 : Int), (0 : Int)).1, x)) (W7.setCell ⟨g, c.length * 2 + 1, none⟩ (.int .i64 x))) := Lib.hid (fun x => by
      have := hst c.length hi x
      rw [hval] at this
      exact this)
    obtain ⟨n, hn⟩ : ∃ n, n = c.length + 3 + d'.length := ⟨_, rfl⟩
    obtain ⟨q, hq⟩ : ∃ q, q = c.length := ⟨_, rfl⟩
    rw [← hn] at c22
    rw [← hq] at e2 f2
    have hqI : (c.length : Int) = (q : Int) := by omega
    have hl1 : (q : Int) < (n : Int) := by omega
    have hl0 : (0 : Int) ≤ (q : Int) := by omega
    have hqw : IntKind.i64.wrap (q : Int) = q := IntWalk.i64_in _ (by omega)
    have HNN := Lib.hid hn
    have HQQ := Lib.hid hq
    have HC := Lib.hid hc
    have HD := Lib.hid (And.intro hd0 hd6)
    have hc9 : (c.length : Int) ≤ 900 := by omega
    have hgo : gd (((20 : Int), (0 : Int)).1, (n : Int)) := gd1 (by simp) (by omega) (by omega)
    have HG := Lib.hid hgo
    clear hcl hfz hst hbk hval hn hq hlen hi hd0 hd6 hc hgo
    go_region_held3 (fun w' => w'.cell? ⟨m, 2, none⟩ = some (.slice (some ⟨g, 0, none⟩) n cap2))
      (go_keep)
      (fail)
    have hn9 : (n : Int) ≤ 2000 := by have := HNN.out; have := HC.out; have := HD.out; omega
    have hc := HC.out
    obtain ⟨hd0, hd6⟩ := HD.out
    clear hqI hl1 hl0 hqw c22 e2 f2 hno
    obtain rfl := HQQ.out
    have HS := DS.set H 0 (n : Int) _ (((20 : Int), (0 : Int)).1, (n : Int)) ((hstI.out (n : Int)).below ((Below.refl _ _).drew)) (((Below.refl m W7).setCell (p := ⟨g, c.length * 2 + 1, none⟩) (by show m ≤ g; omega) _).drew) HG.out
    clear H hstI
    have H := HS
    clear HS
    go_wp2_with (go_at_call 22; refine (emit_c H _ _ (by simp; omega) (by first | exact gd1 (by omega) (by omega) (by omega) | exact gd0 (by omega))).mono ?_; clear H; rintro e W ⟨rfl, H⟩)
    go_end0
    exact ⟨rfl, a', _, H, by omega, by simp; omega⟩
theorem part_any (m : Nat) (lv : Value) (lb : List UInt8) (a : Nat) (c : List (Int × Int)) (ab : Int) (w : World) (H0 : MK m lv lb a c w) (ha : a ≤ 900) (hc : c.length ≤ 900) (hab0 : 0 ≤ ab) (hab1 : ab ≤ 2) :
    Calls Tryz.prog 21 #[.pointer (some ⟨m, 0, none⟩), .int .i64 ab] w fun e w' => e = .returned (.tuple #[]) ∧ PartP m lv lb c w a w' := by
  by_cases h1 : ((rdB lb a : Nat) : Int) % 8 < 3
  · exact part_try m lv lb a c ab w H0 ha hc hab0 hab1 h1
  · by_cases h2 : ((rdB lb a : Nat) : Int) % 8 = 3
    · exact part_if m lv lb a c ab w H0 ha hc hab0 hab1 h2
    · exact part_plain m lv lb a c ab w H0 ha hc hab0 hab1 (by omega)
end Go.Proofs.YtiggallcoocdaaaGreatDoor
