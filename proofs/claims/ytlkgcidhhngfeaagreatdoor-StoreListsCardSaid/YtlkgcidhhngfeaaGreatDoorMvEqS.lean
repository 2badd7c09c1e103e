/- Comparing values and waiting ones, field by field; slices.Equal at []mvar.Wait. -/
import Derived.Test.YtlkgcidhhngfeaaGreatDoorWtS
import Derived.Test.YtlkgcidhhngfeaaGreatDoorProg
import Derived.Laws.StructEq
import Derived.Deep.QuietTactic
namespace Go.Proofs.YtlkgcidhhngfeaaGreatDoor
open Go.RowKit
def V5.eqb (a b : V5) : Bool := a.k == b.k && (a.n == b.n && (a.nm.toList == b.nm.toList && (a.s.toList == b.s.toList && a.i.toList == b.i.toList)))
def Wt.eqb (a b : Wt) : Bool := a.id.toList == b.id.toList && (a.put == b.put && a.v.eqb b.v)
theorem bytes_toList {a b : ByteArray} : a.toList = b.toList ↔ a = b := by
  rw [ByteArray.toList_eq, ByteArray.toList_eq]
  obtain ⟨⟨x⟩⟩ := a
  obtain ⟨⟨y⟩⟩ := b
  simp
theorem V5.eqb_iff (a b : V5) : a.eqb b = true ↔ a = b := by
  obtain ⟨a0, a1, a2, a3, a4⟩ := a
  obtain ⟨b0, b1, b2, b3, b4⟩ := b
  simp [V5.eqb, bytes_toList]
theorem Wt.eqb_iff (a b : Wt) : a.eqb b = true ↔ a = b := by
  obtain ⟨a0, a1, a2⟩ := a
  obtain ⟨b0, b1, b2⟩ := b
  simp [Wt.eqb, bytes_toList, V5.eqb_iff]
theorem equalIn_val (w : World) (k n k' n' : Int) (m s i m' s' i' : ByteArray) : (Op.equalIn 9999 27 (.agg #[.int .i64 k, .int .i64 n, .string m, .string s, .string i]) (.agg #[.int .i64 k', .int .i64 n', .string m', .string s', .string i'])).run Tryz.prog w = .ok (V5.eqb ⟨k, n, m, s, i⟩ ⟨k', n', m', s', i'⟩) w := by
  obtain ⟨r, hr⟩ : ∃ r, V5.eqb ⟨k, n, m, s, i⟩ ⟨k', n', m', s', i'⟩ = r := ⟨_, rfl⟩
  rw [hr]
  have H := Lib.hid hr
  clear hr
  go_simp
  rw [← H.out]
  unfold V5.eqb
  (repeat' split) <;> simp_all
theorem equalIn_val0 (w : World) (k n k' n' : Int) (m s i m' s' i' : ByteArray) : (Op.equalIn 10000 27 (.agg #[.int .i64 k, .int .i64 n, .string m, .string s, .string i]) (.agg #[.int .i64 k', .int .i64 n', .string m', .string s', .string i'])).run Tryz.prog w = .ok (V5.eqb ⟨k, n, m, s, i⟩ ⟨k', n', m', s', i'⟩) w := by
  obtain ⟨r, hr⟩ : ∃ r, V5.eqb ⟨k, n, m, s, i⟩ ⟨k', n', m', s', i'⟩ = r := ⟨_, rfl⟩
  rw [hr]
  have H := Lib.hid hr
  clear hr
  go_simp
  rw [← H.out]
  unfold V5.eqb
  (repeat' split) <;> simp_all
theorem eql_val (w : World) (k n k' n' : Int) (m s i m' s' i' : ByteArray) : (binOp .eql 27 (.agg #[.int .i64 k, .int .i64 n, .string m, .string s, .string i]) (.agg #[.int .i64 k', .int .i64 n', .string m', .string s', .string i'])).run Tryz.prog w = .ok (.bool (V5.eqb ⟨k, n, m, s, i⟩ ⟨k', n', m', s', i'⟩)) w := by
  rw [run_eql_struct, equalIn_val0]
  rfl
theorem neq_val (w : World) (k n k' n' : Int) (m s i m' s' i' : ByteArray) : (binOp .neq 27 (.agg #[.int .i64 k, .int .i64 n, .string m, .string s, .string i]) (.agg #[.int .i64 k', .int .i64 n', .string m', .string s', .string i'])).run Tryz.prog w = .ok (.bool (!V5.eqb ⟨k, n, m, s, i⟩ ⟨k', n', m', s', i'⟩)) w := by
  rw [run_neq_struct, equalIn_val0]
  rfl
theorem equalIn_wait (w : World) (d : ByteArray) (p : Bool) (k n : Int) (m s i : ByteArray) (d' : ByteArray) (p' : Bool) (k' n' : Int) (m' s' i' : ByteArray) : (Op.equalIn 10000 94 (.agg #[.string d, .bool p, .int .i64 k, .int .i64 n, .string m, .string s, .string i]) (.agg #[.string d', .bool p', .int .i64 k', .int .i64 n', .string m', .string s', .string i'])).run Tryz.prog w = .ok (Wt.eqb ⟨d, p, ⟨k, n, m, s, i⟩⟩ ⟨d', p', ⟨k', n', m', s', i'⟩⟩) w := by
  obtain ⟨r, hr⟩ : ∃ r, Wt.eqb ⟨d, p, ⟨k, n, m, s, i⟩⟩ ⟨d', p', ⟨k', n', m', s', i'⟩⟩ = r := ⟨_, rfl⟩
  rw [hr]
  have H := Lib.hid hr
  clear hr
  go_simp
  rw [← H.out]
  unfold Wt.eqb V5.eqb
  (repeat' split) <;> simp_all
theorem eql_wait (w : World) (d : ByteArray) (p : Bool) (k n : Int) (m s i : ByteArray) (d' : ByteArray) (p' : Bool) (k' n' : Int) (m' s' i' : ByteArray) : (binOp .eql 94 (.agg #[.string d, .bool p, .int .i64 k, .int .i64 n, .string m, .string s, .string i]) (.agg #[.string d', .bool p', .int .i64 k', .int .i64 n', .string m', .string s', .string i'])).run Tryz.prog w = .ok (.bool (Wt.eqb ⟨d, p, ⟨k, n, m, s, i⟩⟩ ⟨d', p', ⟨k', n', m', s', i'⟩⟩)) w := by
  rw [run_eql_struct, equalIn_wait]
  rfl
theorem neq_wait (w : World) (d : ByteArray) (p : Bool) (k n : Int) (m s i : ByteArray) (d' : ByteArray) (p' : Bool) (k' n' : Int) (m' s' i' : ByteArray) : (binOp .neq 94 (.agg #[.string d, .bool p, .int .i64 k, .int .i64 n, .string m, .string s, .string i]) (.agg #[.string d', .bool p', .int .i64 k', .int .i64 n', .string m', .string s', .string i'])).run Tryz.prog w = .ok (.bool (!Wt.eqb ⟨d, p, ⟨k, n, m, s, i⟩⟩ ⟨d', p', ⟨k', n', m', s', i'⟩⟩)) w := by
  rw [run_neq_struct, equalIn_wait]
  rfl
theorem slots_someQ {w : World} {ao : Option Addr} {n cap : Nat} {l : List Wt} (h : QAt w (.slice ao n cap) l) (hl : 0 < n) :
    ∃ b off, ao = some ⟨b, off, none⟩ ∧ n = l.length ∧ b < w.heap.size ∧ ∀ (i j : Nat) (hi : i < l.length) u, l[i].row[j]? = some u → w.cell? ⟨b, off + i * 7 + j, none⟩ = some u := by
  rcases h.2 with ⟨⟨ao', cap'', hv⟩, h0⟩ | ⟨b, off, cap', hv, _, hb, _⟩
  · cases hv; omega
  · simp only [Value.slice.injEq] at hv
    obtain ⟨rfl, rfl, rfl⟩ := hv
    obtain ⟨b2, off2, cap2, hv2, _, _, hg⟩ := SlotsAt.some h hl
    simp only [Value.slice.injEq, Option.some.injEq, Addr.mk.injEq] at hv2
    obtain ⟨⟨rfl, rfl, _⟩, _, rfl⟩ := hv2
    refine ⟨b, off, rfl, rowsQ_len l, hb, fun i j hi u hu => ?_⟩
    rw [Nat.add_assoc]
    exact hg i j _ u (rowsQ_get l i hi) hu
set_option maxRecDepth 100000 in
set_option maxHeartbeats 2000000 in
theorem equal_any (l m : List Wt) (v u : Value) (w : World) (h : QAt w v l) (g : QAt w u m) (hlen : l.length * 88 ≤ 140737488355328) (hlen2 : m.length * 88 ≤ 140737488355328) :
    Calls Tryz.prog 65 #[v, u] w fun e w' => e = .returned (.bool (decide (l = m))) ∧ Below w.heap.size w w' := by
  generalize hR : decide (l = m) = R
  have HR := Lib.hid hR
  clear hR
  obtain ⟨ao, cap, rfl⟩ := h.slice
  obtain ⟨bo, cbp, rfl⟩ := g.slice
  obtain ⟨n, hn⟩ : ∃ n, l.length = n := ⟨_, rfl⟩
  obtain ⟨k2, hk2⟩ : ∃ n, m.length = n := ⟨_, rfl⟩
  rw [hn] at h hlen ⊢
  rw [hk2] at g hlen2 ⊢
  by_cases he : n = k2
  · subst he
    have HN := Lib.hid hn
    have HM := Lib.hid hk2
    have HL := Lib.hid h
    have HG := Lib.hid g
    clear hn hk2 h g
    have mixed : Tryz.prog.follows .mixedOrders = true := by kernel_rfl
    go_enter Tryz.func65, Tryz.ntmps65
    go_wp2_with fail
    go_loopw [13] (fun i wr => ∃ k : Nat, k ≤ n ∧ i = .int .i64 k ∧ Below w.heap.size w wr ∧ Hid (∀ j (hj : j < l.length) (hj2 : j < m.length), j < k → l[j] = m[j])) (fun i _ => n - (intOf i).toNat)
    case atStart => exact ⟨0, by omega, rfl, Below.refl _ _, Lib.hid (fun j hj hjk => by omega)⟩
    case round =>
      obtain ⟨k, hk, rfl, hb, hn⟩ := hrel
      by_cases hlt : k < n
      · have hkl : k < l.length := by rw [HN.out]; exact hlt
        have hkm : k < m.length := by rw [HM.out]; exact hlt
        obtain ⟨b, off, rfl, -, hbl, hg⟩ := slots_someQ (HL.out.below hb) (by omega)
        obtain ⟨b', off', rfl, -, hbl', hg'⟩ := slots_someQ (HG.out.below hb) (by omega)
        have g1 : (0 : Int) ≤ (k : Int) := by omega
        have g2 : (k : Int) < (n : Int) := by omega
        obtain ⟨x, hx⟩ : ∃ x, l[k] = x := ⟨_, rfl⟩
        obtain ⟨y, hy⟩ : ∃ y, m[k] = y := ⟨_, rfl⟩
        have hg2 := hg k
        have hg2' := hg' k
        clear hg hg'
        obtain ⟨x0, x1, ⟨x2, x3, x4, x5, x6⟩⟩ := x
        obtain ⟨y0, y1, ⟨y2, y3, y4, y5, y6⟩⟩ := y
        have c0 := hg2 0 hkl _ (by rw [hx]; rfl)
        have c1 := hg2 1 hkl _ (by rw [hx]; rfl)
        have c2 := hg2 2 hkl _ (by rw [hx]; rfl)
        have c3 := hg2 3 hkl _ (by rw [hx]; rfl)
        have c4 := hg2 4 hkl _ (by rw [hx]; rfl)
        have c5 := hg2 5 hkl _ (by rw [hx]; rfl)
        have c6 := hg2 6 hkl _ (by rw [hx]; rfl)
        have d0 := hg2' 0 hkm _ (by rw [hy]; rfl)
        have d1 := hg2' 1 hkm _ (by rw [hy]; rfl)
        have d2 := hg2' 2 hkm _ (by rw [hy]; rfl)
        have d3 := hg2' 3 hkm _ (by rw [hy]; rfl)
        have d4 := hg2' 4 hkm _ (by rw [hy]; rfl)
        have d5 := hg2' 5 hkm _ (by rw [hy]; rfl)
        have d6 := hg2' 6 hkm _ (by rw [hy]; rfl)
        simp only [Nat.add_zero] at c0 d0
        have HX := Lib.hid hx
        have HY := Lib.hid hy
        have hN := fun w => neq_wait w x0 x1 x2 x3 x4 x5 x6 y0 y1 y2 y3 y4 y5 y6
        clear hg2 hg2' hx hy
        cases he : Wt.eqb ⟨x0, x1, ⟨x2, x3, x4, x5, x6⟩⟩ ⟨y0, y1, ⟨y2, y3, y4, y5, y6⟩⟩ with
        | true =>
          have heq := (Wt.eqb_iff _ _).1 he
          have hn' : Hid (∀ j (hj : j < l.length) (hj2 : j < m.length), j < k + 1 → l[j] = m[j]) := Lib.hid (fun j hj hj2 hjk => by
            by_cases hjk2 : j < k
            · exact hn.out j hj hj2 hjk2
            · obtain rfl : j = k := by omega
              rw [HX.out, HY.out, heq])
          simp only [he, Bool.not_true] at hN
          clear hn he heq HX HY
          have HB := Lib.hid hb
          clear hb
          go_wp2_with fail
          go_quiet (fail)
          go_wp2_with fail
          go_roundw
          case rel => exact ⟨k + 1, by omega, by go_num, HB.out.trans ⟨rfl, rfl, rfl, Nat.le_refl _, fun _ _ => rfl⟩, hn'⟩
          case measure => simp [intOf]; omega
        | false =>
          have hf : R = false := by
            rw [← HR.out]
            refine decide_eq_false (fun hlm => ?_)
            subst hlm
            have := HX.out.symm.trans HY.out
            rw [this] at he
            rw [(Wt.eqb_iff _ _).2 rfl] at he
            cases he
          have HF := Lib.hid hf
          simp only [he, Bool.not_false] at hN
          have HB := Lib.hid hb
          clear hb he hf HX HY
          go_wp2_with fail
          go_quiet (fail)
          go_wp2_with fail
          go_ret
          exact ⟨ret_bool HF.out.symm, HB.out.trans ⟨rfl, rfl, rfl, Nat.le_refl _, fun _ _ => rfl⟩⟩
      · have hf : R = true := by
          rw [← HR.out]
          exact decide_eq_true (List.ext_getElem (by rw [HN.out, HM.out]) (fun j hj hj2 => hn.out j hj hj2 (by have := HN.out; omega)))
        have HF := Lib.hid hf
        have hge : (n : Int) ≤ k := by omega
        have HB := Lib.hid hb
        clear hf hb
        go_wp2_with fail
        go_ret
        exact ⟨ret_bool HF.out.symm, HB.out⟩
  · have hf : R = false := by rw [← HR.out]; exact decide_eq_false (fun e => he (by rw [← hn, ← hk2, e]))
    have HF := Lib.hid hf
    have hq : ((n : Int) == (k2 : Int)) = false := by simp; omega
    clear hf h g hn hk2
    go_enter Tryz.func65, Tryz.ntmps65
    go_wp2_with fail
    go_ret
    exact ⟨ret_bool HF.out.symm, Below.refl _ _⟩
end Go.Proofs.YtlkgcidhhngfeaaGreatDoor
