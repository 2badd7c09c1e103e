/- image.Same. -/
import Derived.Test.YtiggallcoocdaaaGreatDoorImA
import Derived.Laws.StructEq
import Derived.Deep.QuietTactic
namespace Go.Proofs.YtiggallcoocdaaaGreatDoor
open Go.RowKit
theorem bytes_toList {a b : ByteArray} : a.toList = b.toList ↔ a = b := by
  rw [ByteArray.toList_eq, ByteArray.toList_eq]
  obtain ⟨⟨x⟩⟩ := a
  obtain ⟨⟨y⟩⟩ := b
  simp
def eqV (k n : Int) (m s i : ByteArray) (k' n' : Int) (m' s' i' : ByteArray) : Bool := k == k' && (n == n' && (m.toList == m'.toList && (s.toList == s'.toList && i.toList == i'.toList)))
theorem equalIn_val0 (w : World) (k n k' n' : Int) (m s i m' s' i' : ByteArray) : (Op.equalIn 10000 50 (.agg #[.int .i64 k, .int .i64 n, .string m, .string s, .string i]) (.agg #[.int .i64 k', .int .i64 n', .string m', .string s', .string i'])).run Tryz.prog w = .ok (eqV k n m s i k' n' m' s' i') w := by
  obtain ⟨r, hr⟩ : ∃ r, eqV k n m s i k' n' m' s' i' = r := ⟨_, rfl⟩
  rw [hr]
  have H := Lib.hid hr
  clear hr
  go_simp
  rw [← H.out]
  unfold eqV
  (repeat' split) <;> simp_all
theorem neq_val (w : World) (k n k' n' : Int) (m s i m' s' i' : ByteArray) : (binOp .neq 50 (.agg #[.int .i64 k, .int .i64 n, .string m, .string s, .string i]) (.agg #[.int .i64 k', .int .i64 n', .string m', .string s', .string i'])).run Tryz.prog w = .ok (.bool (!eqV k n m s i k' n' m' s' i')) w := by
  rw [run_neq_struct, equalIn_val0]
  rfl
theorem str_eq {a b : List UInt8} : ((⟨a.toArray⟩ : ByteArray).toList == (⟨b.toArray⟩ : ByteArray).toList) = (a == b) := by
  rw [ByteArray.toList_eq, ByteArray.toList_eq]
instance : DecidableEq Lb := fun a b => match a, b with
  | ⟨S, I⟩, ⟨S', I'⟩ => if h : S = S' ∧ I = I' then isTrue (by rw [h.1, h.2]) else isFalse (fun e => h (by cases e; exact ⟨rfl, rfl⟩))
instance : DecidableEq Vl := fun a b => match a, b with
  | ⟨k, n, m, l⟩, ⟨k', n', m', l'⟩ => if h : k = k' ∧ n = n' ∧ m = m' ∧ l = l' then isTrue (by rw [h.1, h.2.1, h.2.2.1, h.2.2.2]) else isFalse (fun e => h (by cases e; exact ⟨rfl, rfl, rfl, rfl⟩))
instance : DecidableEq Fn := fun a b => match a, b with
  | ⟨x, y, c⟩, ⟨x', y', c'⟩ => if h : x = x' ∧ y = y' ∧ c = c' then isTrue (by rw [h.1, h.2.1, h.2.2]) else isFalse (fun e => h (by cases e; exact ⟨rfl, rfl, rfl⟩))
instance : DecidableEq Im := fun a b => match a, b with
  | ⟨c, f⟩, ⟨c', f'⟩ => if h : c = c' ∧ f = f' then isTrue (by rw [h.1, h.2]) else isFalse (fun e => h (by cases e; exact ⟨rfl, rfl⟩))
theorem eqV_iff (v u : Vl) : eqV v.k v.n ⟨v.nm.toArray⟩ ⟨v.l.S.toArray⟩ ⟨v.l.I.toArray⟩ u.k u.n ⟨u.nm.toArray⟩ ⟨u.l.S.toArray⟩ ⟨u.l.I.toArray⟩ = true ↔ v = u := by
  obtain ⟨k, n, m, ⟨S, I⟩⟩ := v
  obtain ⟨k', n', m', ⟨S', I'⟩⟩ := u
  unfold eqV
  rw [str_eq, str_eq, str_eq]
  simp
set_option maxRecDepth 100000 in
set_option maxHeartbeats 2000000 in
theorem equalV_any (l m : List Vl) (v u : Value) (w : World) (h : VsAt w v l) (g : VsAt w u m) (hlen : l.length ≤ 1000000) (hlen2 : m.length ≤ 1000000) :
    Calls Tryz.prog 30 #[v, u] w fun e w' => e = .returned (.bool (decide (l = m))) ∧ Below w.heap.size w w' := by
  generalize hR : decide (l = m) = R
  have HR := Lib.hid hR
  clear hR
  obtain ⟨ao, cap, rfl⟩ := h.slice
  obtain ⟨bo, cbp, rfl⟩ := g.slice
  obtain ⟨n, hn⟩ : ∃ n, l.length = n := ⟨_, rfl⟩
  obtain ⟨k2, hk2⟩ : ∃ n, m.length = n := ⟨_, rfl⟩
  rw [hn] at h hlen ⊢
  rw [hk2] at g hlen2 ⊢
  by_cases he : n = k2
  · subst he
    have HN := Lib.hid hn
    have HM := Lib.hid hk2
    have HL := Lib.hid h
    have HG := Lib.hid g
    clear hn hk2 h g
    have mixed : Tryz.prog.follows .mixedOrders = true := by kernel_rfl
    go_enter Tryz.func30, Tryz.ntmps30
    go_wp2_with fail
    go_loopw [13] (fun i wr => ∃ k : Nat, k ≤ n ∧ i = .int .i64 k ∧ Below w.heap.size w wr ∧ Hid (∀ j (hj : j < l.length) (hj2 : j < m.length), j < k → l[j] = m[j])) (fun i _ => n - (intOf i).toNat)
    case atStart => exact ⟨0, by omega, rfl, Below.refl _ _, Lib.hid (fun j hj hjk => by omega)⟩
    case round =>
      obtain ⟨k, hk, rfl, hb, hn⟩ := hrel
      by_cases hlt : k < n
      · have hkl : k < l.length := by rw [HN.out]; exact hlt
        have hkm : k < m.length := by rw [HM.out]; exact hlt
        obtain ⟨b, off, rfl, hbl, c0, c1, c2, c3, c4⟩ := (HL.out.below hb).row hkl HN.out.symm
        obtain ⟨b', off', rfl, hbl', d0, d1, d2, d3, d4⟩ := (HG.out.below hb).row hkm HM.out.symm
        have g1 : (0 : Int) ≤ (k : Int) := by omega
        have g2 : (k : Int) < (n : Int) := by omega
        have hiff := eqV_iff l[k] m[k]
        have HY : Hid (l[k] = m[k] → Hid (∀ j (hj : j < l.length) (hj2 : j < m.length), j < k + 1 → l[j] = m[j])) := Lib.hid (fun heq => Lib.hid (fun j hj hj2 hjk => by
            by_cases hjk2 : j < k
            · exact hn.out j hj hj2 hjk2
            · obtain rfl : j = k := by omega
              exact heq))
        have HNO : Hid (l[k] ≠ m[k] → R = false) := Lib.hid (fun hne => by
            rw [← HR.out]
            refine decide_eq_false (fun hlm => hne ?_)
            subst hlm
            rfl)
        obtain ⟨x, hx⟩ : ∃ x, l[k] = x := ⟨_, rfl⟩
        obtain ⟨y, hy⟩ : ∃ y, m[k] = y := ⟨_, rfl⟩
        rw [hx] at c0 c1 c2 c3 c4 hiff HY HNO
        rw [hy] at d0 d1 d2 d3 d4 hiff HY HNO
        clear hx hy hn
        obtain ⟨x0, x1, nm, ⟨S, I⟩⟩ := x
        obtain ⟨y0, y1, nm', ⟨S', I'⟩⟩ := y
        simp only at c0 c1 c2 c3 c4 d0 d1 d2 d3 d4 hiff
        obtain ⟨x2, hx2⟩ : ∃ s, s = (⟨nm.toArray⟩ : ByteArray) := ⟨_, rfl⟩
        obtain ⟨x3, hx3⟩ : ∃ s, s = (⟨S.toArray⟩ : ByteArray) := ⟨_, rfl⟩
        obtain ⟨x4, hx4⟩ : ∃ s, s = (⟨I.toArray⟩ : ByteArray) := ⟨_, rfl⟩
        obtain ⟨y2, hy2⟩ : ∃ s, s = (⟨nm'.toArray⟩ : ByteArray) := ⟨_, rfl⟩
        obtain ⟨y3, hy3⟩ : ∃ s, s = (⟨S'.toArray⟩ : ByteArray) := ⟨_, rfl⟩
        obtain ⟨y4, hy4⟩ : ∃ s, s = (⟨I'.toArray⟩ : ByteArray) := ⟨_, rfl⟩
        rw [← hx2] at c2 hiff
        rw [← hx3] at c3 hiff
        rw [← hx4] at c4 hiff
        rw [← hy2] at d2 hiff
        rw [← hy3] at d3 hiff
        rw [← hy4] at d4 hiff
        clear hx2 hx3 hx4 hy2 hy3 hy4
        have hN := fun w => neq_val w x0 x1 y0 y1 x2 x3 x4 y2 y3 y4
        cases he : eqV x0 x1 x2 x3 x4 y0 y1 y2 y3 y4 with
        | true =>
          have hn' := HY.out (hiff.1 he)
          simp only [he, Bool.not_true] at hN
          clear he HY HNO hiff
          have HB := Lib.hid hb
          clear hb
          go_wp2_with fail
          go_quiet (fail)
          go_wp2_with fail
          go_roundw
          case rel => exact ⟨k + 1, by omega, by go_num, HB.out.trans ⟨rfl, rfl, rfl, Nat.le_refl _, fun _ _ => rfl⟩, hn'⟩
          case measure => simp [intOf]; omega
        | false =>
          have hf := HNO.out (fun h => by rw [hiff.2 h] at he; cases he)
          have HF := Lib.hid hf
          simp only [he, Bool.not_false] at hN
          have HB := Lib.hid hb
          clear hb he hf HY HNO hiff
          go_wp2_with fail
          go_quiet (fail)
          go_wp2_with fail
          go_ret
          exact ⟨ret_bool HF.out.symm, HB.out.trans ⟨rfl, rfl, rfl, Nat.le_refl _, fun _ _ => rfl⟩⟩
      · have hf : R = true := by
          rw [← HR.out]
          exact decide_eq_true (List.ext_getElem (by rw [HN.out, HM.out]) (fun j hj hj2 => hn.out j hj hj2 (by have := HN.out; omega)))
        have HF := Lib.hid hf
        have hge : (n : Int) ≤ k := by omega
        have HB := Lib.hid hb
        clear hf hb
        go_wp2_with fail
        go_ret
        exact ⟨ret_bool HF.out.symm, HB.out⟩
  · have hf : R = false := by rw [← HR.out]; exact decide_eq_false (fun e => he (by rw [← hn, ← hk2, e]))
    have HF := Lib.hid hf
    have hq : ((n : Int) == (k2 : Int)) = false := by simp; omega
    clear hf h g hn hk2
    go_enter Tryz.func30, Tryz.ntmps30
    go_wp2_with fail
    go_ret
    exact ⟨ret_bool HF.out.symm, Below.refl _ _⟩
def eqO (c a d b : Int) : Bool := c == d && a == b
theorem eqO_iff (o p : Int × Int) : eqO o.1 o.2 p.1 p.2 = true ↔ o = p := by
  obtain ⟨c, a⟩ := o
  obtain ⟨d, b⟩ := p
  unfold eqO
  simp
theorem equalIn_op (w : World) (c a d b : Int) : (Op.equalIn 10000 52 (.agg #[.int .i64 c, .int .i64 a]) (.agg #[.int .i64 d, .int .i64 b])).run Tryz.prog w = .ok (eqO c a d b) w := by
  obtain ⟨r, hr⟩ : ∃ r, eqO c a d b = r := ⟨_, rfl⟩
  rw [hr]
  have H := Lib.hid hr
  clear hr
  go_simp
  rw [← H.out]
  unfold eqO
  (repeat' split) <;> simp_all
theorem neq_op (w : World) (c a d b : Int) : (binOp .neq 52 (.agg #[.int .i64 c, .int .i64 a]) (.agg #[.int .i64 d, .int .i64 b])).run Tryz.prog w = .ok (.bool (!eqO c a d b)) w := by
  rw [run_neq_struct, equalIn_op]
  rfl
set_option maxRecDepth 100000 in
set_option maxHeartbeats 2000000 in
theorem equalO_any (l m : List (Int × Int)) (v u : Value) (w : World) (h : OsAt w v l) (g : OsAt w u m) (hlen : l.length ≤ 1000000) (hlen2 : m.length ≤ 1000000) :
    Calls Tryz.prog 33 #[v, u] w fun e w' => e = .returned (.bool (decide (l = m))) ∧ Below w.heap.size w w' := by
  generalize hR : decide (l = m) = R
  have HR := Lib.hid hR
  clear hR
  obtain ⟨ao, cap, rfl⟩ := h.slice
  obtain ⟨bo, cbp, rfl⟩ := g.slice
  obtain ⟨n, hn⟩ : ∃ n, l.length = n := ⟨_, rfl⟩
  obtain ⟨k2, hk2⟩ : ∃ n, m.length = n := ⟨_, rfl⟩
  rw [hn] at h hlen ⊢
  rw [hk2] at g hlen2 ⊢
  by_cases he : n = k2
  · subst he
    have HN := Lib.hid hn
    have HM := Lib.hid hk2
    have HL := Lib.hid h
    have HG := Lib.hid g
    clear hn hk2 h g
    have mixed : Tryz.prog.follows .mixedOrders = true := by kernel_rfl
    go_enter Tryz.func33, Tryz.ntmps33
    go_wp2_with fail
    go_loopw [13] (fun i wr => ∃ k : Nat, k ≤ n ∧ i = .int .i64 k ∧ Below w.heap.size w wr ∧ Hid (∀ j (hj : j < l.length) (hj2 : j < m.length), j < k → l[j] = m[j])) (fun i _ => n - (intOf i).toNat)
    case atStart => exact ⟨0, by omega, rfl, Below.refl _ _, Lib.hid (fun j hj hjk => by omega)⟩
    case round =>
      obtain ⟨k, hk, rfl, hb, hn⟩ := hrel
      by_cases hlt : k < n
      · have hkl : k < l.length := by rw [HN.out]; exact hlt
        have hkm : k < m.length := by rw [HM.out]; exact hlt
        obtain ⟨b, off, rfl, hbl, c0, c1⟩ := (HL.out.below hb).row hkl HN.out.symm
        obtain ⟨b', off', rfl, hbl', d0, d1⟩ := (HG.out.below hb).row hkm HM.out.symm
        have g1 : (0 : Int) ≤ (k : Int) := by omega
        have g2 : (k : Int) < (n : Int) := by omega
        have hiff := eqO_iff l[k] m[k]
        have HY : Hid (l[k] = m[k] → Hid (∀ j (hj : j < l.length) (hj2 : j < m.length), j < k + 1 → l[j] = m[j])) := Lib.hid (fun heq => Lib.hid (fun j hj hj2 hjk => by
            by_cases hjk2 : j < k
            · exact hn.out j hj hj2 hjk2
            · obtain rfl : j = k := by omega
              exact heq))
        have HNO : Hid (l[k] ≠ m[k] → R = false) := Lib.hid (fun hne => by
            rw [← HR.out]
            refine decide_eq_false (fun hlm => hne ?_)
            subst hlm
            rfl)
        obtain ⟨x, hx⟩ : ∃ x, l[k] = x := ⟨_, rfl⟩
        obtain ⟨y, hy⟩ : ∃ y, m[k] = y := ⟨_, rfl⟩
        rw [hx] at c0 c1 hiff HY HNO
        rw [hy] at d0 d1 hiff HY HNO
        clear hx hy hn
        obtain ⟨x0, x1⟩ := x
        obtain ⟨y0, y1⟩ := y
        simp only at c0 c1 d0 d1 hiff
        have hN := fun w => neq_op w x0 x1 y0 y1
        cases he : eqO x0 x1 y0 y1 with
        | true =>
          have hn' := HY.out (hiff.1 he)
          simp only [he, Bool.not_true] at hN
          clear he HY HNO hiff
          have HB := Lib.hid hb
          clear hb
          go_wp2_with fail
          go_quiet (fail)
          go_wp2_with fail
          go_roundw
          case rel => exact ⟨k + 1, by omega, by go_num, HB.out.trans ⟨rfl, rfl, rfl, Nat.le_refl _, fun _ _ => rfl⟩, hn'⟩
          case measure => simp [intOf]; omega
        | false =>
          have hf := HNO.out (fun h => by rw [hiff.2 h] at he; cases he)
          have HF := Lib.hid hf
          simp only [he, Bool.not_false] at hN
          have HB := Lib.hid hb
          clear hb he hf HY HNO hiff
          go_wp2_with fail
          go_quiet (fail)
          go_wp2_with fail
          go_ret
          exact ⟨ret_bool HF.out.symm, HB.out.trans ⟨rfl, rfl, rfl, Nat.le_refl _, fun _ _ => rfl⟩⟩
      · have hf : R = true := by
          rw [← HR.out]
          exact decide_eq_true (List.ext_getElem (by rw [HN.out, HM.out]) (fun j hj hj2 => hn.out j hj hj2 (by have := HN.out; omega)))
        have HF := Lib.hid hf
        have hge : (n : Int) ≤ k := by omega
        have HB := Lib.hid hb
        clear hf hb
        go_wp2_with fail
        go_ret
        exact ⟨ret_bool HF.out.symm, HB.out⟩
  · have hf : R = false := by rw [← HR.out]; exact decide_eq_false (fun e => he (by rw [← hn, ← hk2, e]))
    have HF := Lib.hid hf
    have hq : ((n : Int) == (k2 : Int)) = false := by simp; omega
    clear hf h g hn hk2
    go_enter Tryz.func33, Tryz.ntmps33
    go_wp2_with fail
    go_ret
    exact ⟨ret_bool HF.out.symm, Below.refl _ _⟩
set_option maxRecDepth 100000 in
set_option maxHeartbeats 1000000 in
theorem same1_any (f g : Fn) (c d : Value) (w : World) (hc : OsAt w c f.c) (hd : OsAt w d g.c) (h1 : f.c.length ≤ 1000000) (h2 : g.c.length ≤ 1000000) :
    Calls Tryz.prog 32 #[.agg #[.int .i64 f.a, .int .i64 f.v, c], .agg #[.int .i64 g.a, .int .i64 g.v, d]] w fun e w' => e = .returned (.bool (decide (f = g))) ∧ Below w.heap.size w w' := by
  have heq := fun w' (hb : Below w.heap.size w w') => equalO_any f.c g.c c d w' (hc.below hb) (hd.below hb) h1 h2
  have hdec : decide (f = g) = (f.a == g.a && (f.v == g.v && decide (f.c = g.c))) := by
    obtain ⟨a, v, c⟩ := f
    obtain ⟨a', v', c'⟩ := g
    simp
    rfl
  obtain ⟨co, cp, rfl⟩ := hc.slice
  obtain ⟨dO, cq, rfl⟩ := hd.slice
  rw [hdec]
  obtain ⟨E, hE⟩ : ∃ E, E = decide (f.c = g.c) := ⟨_, rfl⟩
  rw [← hE] at heq ⊢
  obtain ⟨n, hn⟩ : ∃ n, n = f.c.length := ⟨_, rfl⟩
  obtain ⟨m, hm⟩ : ∃ n, n = g.c.length := ⟨_, rfl⟩
  rw [← hn] at heq ⊢
  rw [← hm] at heq ⊢
  obtain ⟨x, hx⟩ : ∃ n, n = f.a := ⟨_, rfl⟩
  obtain ⟨x', hx'⟩ : ∃ n, n = g.a := ⟨_, rfl⟩
  obtain ⟨y, hy⟩ : ∃ n, n = f.v := ⟨_, rfl⟩
  obtain ⟨y', hy'⟩ : ∃ n, n = g.v := ⟨_, rfl⟩
  rw [← hx, ← hx', ← hy, ← hy']
  clear hE hn hm hx hx' hy hy' hc hd h1 h2 hdec
  cases e1 : (x == x') with
  | false =>
    have hR : Hid (Ending.returned (.bool false) = .returned (.bool (false && ((y == y') && E)))) := Lib.hid rfl
    go_enter Tryz.func32, Tryz.ntmps32
    have hB0 := Below.refl w.heap.size w
    have M0 := Mem.nil w
    go_wp2_with fail
    go_ret
    exact ⟨hR.out, (below_al (below_al hB0 _) _)⟩
  | true =>
    cases e2 : (y == y') with
    | false =>
      have hR : Hid (Ending.returned (.bool false) = .returned (.bool (true && (false && E)))) := Lib.hid rfl
      go_enter Tryz.func32, Tryz.ntmps32
      have hB0 := Below.refl w.heap.size w
      have M0 := Mem.nil w
      go_wp2_with fail
      go_ret
      exact ⟨hR.out, (below_al (below_al hB0 _) _)⟩
    | true =>
      have hR : Hid (Ending.returned (.bool E) = .returned (.bool (true && (true && E)))) := Lib.hid (by cases E <;> rfl)
      go_enter Tryz.func32, Tryz.ntmps32
      have hB0 := Below.refl w.heap.size w
      have M0 := Mem.nil w
      go_wp2_with fail
      refine Calls.named ?_
      intro W1 hW1
      have hB1_ : Below w.heap.size w W1 := by rw [hW1]; exact (below_al (below_al hB0 _) _)
      have M1_ := ((M0).new' (w.heap.size) (by rfl) (.cells #[.int .i64 x, .int .i64 y, .slice co n cp] 37)).new' (w.heap.size + 1) (by simp) (.cells #[.int .i64 x', .int .i64 y', .slice dO m cq] 37)
      rw [← hW1] at M1_
      clear hW1
      have ZZ1_0 := Lib.hid (Mem.lt M1_.1)
      have ZZ1_1 := Lib.hid (Mem.lt M1_.2.1)
      refine (heq _ hB1_).mono ?_
      rintro e w1 ⟨rfl, hb1⟩
      have hB1 := below_then hB1_ hb1
      have M1 := M1_.below hb1
      clear M1_ hB1_ hb1
      have c1_0_0 := Mem.cell (v := .int .i64 x') M1.1 0 rfl
      have c1_0_1 := Mem.cell (v := .int .i64 y') M1.1 1 rfl
      have c1_0_2 := Mem.cell (v := .slice dO m cq) M1.1 2 rfl
      have z1_0 := Mem.lt M1.1
      have c1_1_0 := Mem.cell (v := .int .i64 x) M1.2.1 0 rfl
      have c1_1_1 := Mem.cell (v := .int .i64 y) M1.2.1 1 rfl
      have c1_1_2 := Mem.cell (v := .slice co n cp) M1.2.1 2 rfl
      have z1_1 := Mem.lt M1.2.1
      go_wp2_with fail
      go_ret
      exact ⟨hR.out, hB1⟩
def fnCodes (l : List Fn) : Prop := ∀ f ∈ l, f.c.length ≤ 1000000
set_option maxRecDepth 100000 in
set_option maxHeartbeats 2000000 in
theorem eqFunc_any (l m : List Fn) (v u : Value) (w : World) (h : FsAt w v l) (g : FsAt w u m) (hlen : l.length ≤ 1000000) (hlen2 : m.length ≤ 1000000) (hc1 : fnCodes l) (hc2 : fnCodes m) :
    Calls Tryz.prog 31 #[v, u, .func (.func 32) #[] #[]] w fun e w' => e = .returned (.bool (decide (l = m))) ∧ Below w.heap.size w w' := by
  generalize hR : decide (l = m) = R
  have HR := Lib.hid hR
  clear hR
  obtain ⟨ao, cap, rfl⟩ := h.slice
  obtain ⟨bo, cbp, rfl⟩ := g.slice
  obtain ⟨n, hn⟩ : ∃ n, l.length = n := ⟨_, rfl⟩
  obtain ⟨k2, hk2⟩ : ∃ n, m.length = n := ⟨_, rfl⟩
  rw [hn] at h hlen ⊢
  rw [hk2] at g hlen2 ⊢
  by_cases he : n = k2
  · subst he
    have HN := Lib.hid hn
    have HM := Lib.hid hk2
    have HL := Lib.hid h
    have HG := Lib.hid g
    clear hn hk2 h g
    go_enter Tryz.func31, Tryz.ntmps31
    go_wp2_with fail
    go_loopw [17] (fun i wr => ∃ k : Nat, k ≤ n ∧ i = .int .i64 k ∧ Below w.heap.size w wr ∧ Hid (∀ j (hj : j < l.length) (hj2 : j < m.length), j < k → l[j] = m[j])) (fun i _ => n - (intOf i).toNat)
    case atStart => exact ⟨0, by omega, rfl, Below.refl _ _, Lib.hid (fun j hj hjk => by omega)⟩
    case round =>
      obtain ⟨k, hk, rfl, hb, hn⟩ := hrel
      by_cases hlt : k < n
      · have hkl : k < l.length := by rw [HN.out]; exact hlt
        have hkm : k < m.length := by rw [HM.out]; exact hlt
        obtain ⟨b, off, c, rfl, hbl, c0, c1, c2, hO⟩ := (HL.out.below hb).row hkl HN.out.symm
        obtain ⟨b', off', d, rfl, hbl', d0, d1, d2, hP⟩ := (HG.out.below hb).row hkm HM.out.symm
        have g1 : (0 : Int) ≤ (k : Int) := by omega
        have g2 : (k : Int) < (n : Int) := by omega
        have HY : Hid (l[k] = m[k] → Hid (∀ j (hj : j < l.length) (hj2 : j < m.length), j < k + 1 → l[j] = m[j])) := Lib.hid (fun heq => Lib.hid (fun j hj hj2 hjk => by
            by_cases hjk2 : j < k
            · exact hn.out j hj hj2 hjk2
            · obtain rfl : j = k := by omega
              exact heq))
        have HNO : Hid (l[k] ≠ m[k] → R = false) := Lib.hid (fun hne => by
            rw [← HR.out]
            refine decide_eq_false (fun hlm => hne ?_)
            subst hlm
            rfl)
        have hcall := fun w' (hb' : Below wr.heap.size wr w') => same1_any l[k] m[k] c d w' (hO.below hb') (hP.below hb') (hc1 _ (List.getElem_mem hkl)) (hc2 _ (List.getElem_mem hkm))
        obtain ⟨co, cp, rfl⟩ := hO.slice
        obtain ⟨dO, cq, rfl⟩ := hP.slice
        clear hO hP hn
        obtain ⟨x, hx⟩ : ∃ x, l[k] = x := ⟨_, rfl⟩
        obtain ⟨y, hy⟩ : ∃ y, m[k] = y := ⟨_, rfl⟩
        rw [hx] at c0 c1 c2 hcall HY HNO
        rw [hy] at d0 d1 d2 hcall HY HNO
        have HD : Hid (decide (x = y) = true → x = y) := Lib.hid (fun h => of_decide_eq_true h)
        have HD2 : Hid (decide (x = y) = false → x ≠ y) := Lib.hid (fun h => of_decide_eq_false h)
        obtain ⟨E, hE⟩ : ∃ E, E = decide (x = y) := ⟨_, rfl⟩
        rw [← hE] at hcall HD HD2
        obtain ⟨xa, hxa⟩ : ∃ n, n = x.a := ⟨_, rfl⟩
        obtain ⟨xv, hxv⟩ : ∃ n, n = x.v := ⟨_, rfl⟩
        obtain ⟨xl, hxl⟩ : ∃ n, n = x.c.length := ⟨_, rfl⟩
        obtain ⟨ya, hya⟩ : ∃ n, n = y.a := ⟨_, rfl⟩
        obtain ⟨yv, hyv⟩ : ∃ n, n = y.v := ⟨_, rfl⟩
        obtain ⟨yl, hyl⟩ : ∃ n, n = y.c.length := ⟨_, rfl⟩
        rw [← hxa, ← hxv, ← hxl, ← hya, ← hyv, ← hyl] at hcall
        rw [← hxa] at c0
        rw [← hxv] at c1
        rw [← hxl] at c2
        rw [← hya] at d0
        rw [← hyv] at d1
        rw [← hyl] at d2
        clear hx hy hE hxa hxv hxl hya hyv hyl
        have HB := Lib.hid hb
        clear hb
        cases E with
        | true =>
          have hn' := HY.out (HD.out rfl)
          clear HD HD2 HY HNO
          go_wp2_with (go_at_call 32; refine (hcall _ (below_al (below_al (Below.refl _ _) _) _)).mono ?_; rintro e w1 ⟨rfl, hb1⟩)
          have HB1 := Lib.hid (below_then (below_al (below_al HB.out _) _) hb1)
          clear hb1 hcall HB
          try go_wp2_with fail
          go_roundw
          case rel => exact ⟨k + 1, by omega, by go_num, HB1.out, hn'⟩
          case measure => simp [intOf]; omega
        | false =>
          have hf := HNO.out (HD2.out rfl)
          have HF := Lib.hid hf
          clear HD HD2 HY HNO hf
          go_wp2_with (go_at_call 32; refine (hcall _ (below_al (below_al (Below.refl _ _) _) _)).mono ?_; rintro e w1 ⟨rfl, hb1⟩)
          have HB1 := Lib.hid (below_then (below_al (below_al HB.out _) _) hb1)
          clear hb1 hcall HB
          try go_wp2_with fail
          go_ret
          exact ⟨ret_bool HF.out.symm, HB1.out⟩
      · have hf : R = true := by
          rw [← HR.out]
          exact decide_eq_true (List.ext_getElem (by rw [HN.out, HM.out]) (fun j hj hj2 => hn.out j hj hj2 (by have := HN.out; omega)))
        have HF := Lib.hid hf
        have hge : (n : Int) ≤ k := by omega
        have HB := Lib.hid hb
        clear hf hb hn
        go_wp2_with fail
        go_ret
        exact ⟨ret_bool HF.out.symm, HB.out⟩
  · have hf : R = false := by rw [← HR.out]; exact decide_eq_false (fun e => he (by rw [← hn, ← hk2, e]))
    have HF := Lib.hid hf
    have hq : ((n : Int) == (k2 : Int)) = false := by simp; omega
    clear hf h g hn hk2
    go_enter Tryz.func31, Tryz.ntmps31
    go_wp2_with fail
    go_ret
    exact ⟨ret_bool HF.out.symm, Below.refl _ _⟩
set_option maxRecDepth 100000 in
set_option maxHeartbeats 1000000 in
/-- image.Same -/
theorem isame_any (a b : Im) (av af bv bf : Value) (w : World) (h1 : VsAt w av a.cs) (h2 : FsAt w af a.fs) (g1 : VsAt w bv b.cs) (g2 : FsAt w bf b.fs) (l1 : a.cs.length ≤ 1000000) (l2 : a.fs.length ≤ 1000000) (l3 : b.cs.length ≤ 1000000) (l4 : b.fs.length ≤ 1000000) (c1 : fnCodes a.fs) (c2 : fnCodes b.fs) :
    Calls Tryz.prog 14 #[.agg #[av, af], .agg #[bv, bf]] w fun e w' => e = .returned (.bool (decide (a = b))) ∧ Below w.heap.size w w' := by
  have e1 := fun w' (hb : Below w.heap.size w w') => equalV_any a.cs b.cs av bv w' (h1.below hb) (g1.below hb) l1 l3
  have e2 := fun w' (hb : Below w.heap.size w w') => eqFunc_any a.fs b.fs af bf w' (h2.below hb) (g2.below hb) l2 l4 c1 c2
  have hdec : decide (a = b) = (decide (a.cs = b.cs) && decide (a.fs = b.fs)) := by
    obtain ⟨c, f⟩ := a
    obtain ⟨c', f'⟩ := b
    simp
  obtain ⟨ao, ap, rfl⟩ := h1.slice
  obtain ⟨fo, fp, rfl⟩ := h2.slice
  obtain ⟨bo, bp, rfl⟩ := g1.slice
  obtain ⟨po, pp, rfl⟩ := g2.slice
  rw [hdec]
  obtain ⟨E, hE⟩ : ∃ E, E = decide (a.cs = b.cs) := ⟨_, rfl⟩
  obtain ⟨F, hF⟩ : ∃ E, E = decide (a.fs = b.fs) := ⟨_, rfl⟩
  rw [← hE] at e1 ⊢
  rw [← hF] at e2 ⊢
  obtain ⟨n1, hn1⟩ : ∃ n, n = a.cs.length := ⟨_, rfl⟩
  obtain ⟨n2, hn2⟩ : ∃ n, n = a.fs.length := ⟨_, rfl⟩
  obtain ⟨n3, hn3⟩ : ∃ n, n = b.cs.length := ⟨_, rfl⟩
  obtain ⟨n4, hn4⟩ : ∃ n, n = b.fs.length := ⟨_, rfl⟩
  rw [← hn1, ← hn3] at e1
  rw [← hn2, ← hn4] at e2
  rw [← hn1, ← hn2, ← hn3, ← hn4]
  clear hE hF hn1 hn2 hn3 hn4 h1 h2 g1 g2 l1 l2 l3 l4 c1 c2 hdec
  cases E with
  | false =>
    have hR : Hid (Ending.returned (.bool false) = .returned (.bool (false && F))) := Lib.hid rfl
    go_enter Tryz.func14, Tryz.ntmps14
    have hB0 := Below.refl w.heap.size w
    have M0 := Mem.nil w
    go_wp2_with fail
    refine Calls.named ?_
    intro W1 hW1
    have hB1_ : Below w.heap.size w W1 := by rw [hW1]; exact (below_al (below_al hB0 _) _)
    have M1_ := ((M0).new' (w.heap.size) (by rfl) (.cells #[.slice ao n1 ap, .slice fo n2 fp] 27)).new' (w.heap.size + 1) (by simp) (.cells #[.slice bo n3 bp, .slice po n4 pp] 27)
    rw [← hW1] at M1_
    clear hW1
    have ZZ1_0 := Lib.hid (Mem.lt M1_.1)
    have ZZ1_1 := Lib.hid (Mem.lt M1_.2.1)
    refine (e1 _ hB1_).mono ?_
    rintro e w1 ⟨rfl, hb1⟩
    have hB1 := below_then hB1_ hb1
    have M1 := M1_.below hb1
    clear M1_ hB1_ hb1
    have c1_0_0 := Mem.cell (v := .slice bo n3 bp) M1.1 0 rfl
    have c1_0_1 := Mem.cell (v := .slice po n4 pp) M1.1 1 rfl
    have z1_0 := Mem.lt M1.1
    have c1_1_0 := Mem.cell (v := .slice ao n1 ap) M1.2.1 0 rfl
    have c1_1_1 := Mem.cell (v := .slice fo n2 fp) M1.2.1 1 rfl
    have z1_1 := Mem.lt M1.2.1
    go_wp2_with fail
    go_ret
    exact ⟨hR.out, hB1⟩
  | true =>
    have hR : Hid (Ending.returned (.bool F) = .returned (.bool (true && F))) := Lib.hid rfl
    go_enter Tryz.func14, Tryz.ntmps14
    have hB0 := Below.refl w.heap.size w
    have M0 := Mem.nil w
    go_wp2_with fail
    refine Calls.named ?_
    intro W1 hW1
    have hB1_ : Below w.heap.size w W1 := by rw [hW1]; exact (below_al (below_al hB0 _) _)
    have M1_ := ((M0).new' (w.heap.size) (by rfl) (.cells #[.slice ao n1 ap, .slice fo n2 fp] 27)).new' (w.heap.size + 1) (by simp) (.cells #[.slice bo n3 bp, .slice po n4 pp] 27)
    rw [← hW1] at M1_
    clear hW1
    have ZZ1_0 := Lib.hid (Mem.lt M1_.1)
    have ZZ1_1 := Lib.hid (Mem.lt M1_.2.1)
    refine (e1 _ hB1_).mono ?_
    rintro e w1 ⟨rfl, hb1⟩
    have hB1 := below_then hB1_ hb1
    have M1 := M1_.below hb1
    clear M1_ hB1_ hb1
    have c1_0_0 := Mem.cell (v := .slice bo n3 bp) M1.1 0 rfl
    have c1_0_1 := Mem.cell (v := .slice po n4 pp) M1.1 1 rfl
    have z1_0 := Mem.lt M1.1
    have c1_1_0 := Mem.cell (v := .slice ao n1 ap) M1.2.1 0 rfl
    have c1_1_1 := Mem.cell (v := .slice fo n2 fp) M1.2.1 1 rfl
    have z1_1 := Mem.lt M1.2.1
    go_wp2_with fail
    refine Calls.named ?_
    intro W2 hW2
    have hB2_ : Below w.heap.size w W2 := by rw [hW2]; exact hB1
    have M2_ := M1
    rw [← hW2] at M2_
    clear hW2
    have ZZ2_0 := Lib.hid (Mem.lt M2_.1)
    have ZZ2_1 := Lib.hid (Mem.lt M2_.2.1)
    clear c1_0_0 c1_0_1 z1_0 c1_1_0 c1_1_1 z1_1
    refine (e2 _ hB2_).mono ?_
    rintro e w2 ⟨rfl, hb2⟩
    have hB2 := below_then hB2_ hb2
    have M2 := M2_.below hb2
    clear M2_ hB2_ hb2
    have c2_0_0 := Mem.cell (v := .slice bo n3 bp) M2.1 0 rfl
    have c2_0_1 := Mem.cell (v := .slice po n4 pp) M2.1 1 rfl
    have z2_0 := Mem.lt M2.1
    have c2_1_0 := Mem.cell (v := .slice ao n1 ap) M2.2.1 0 rfl
    have c2_1_1 := Mem.cell (v := .slice fo n2 fp) M2.2.1 1 rfl
    have z2_1 := Mem.lt M2.2.1
    go_wp2_with fail
    go_ret
    exact ⟨hR.out, hB2⟩
end Go.Proofs.YtiggallcoocdaaaGreatDoor
