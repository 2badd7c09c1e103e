/- mvar.first at its three predicates; waiting ones and values as plain data. Printed by gen_mvfirst.py. -/
import Derived.Test.YtdpmilffadalkaaDoorMvDelete
namespace Go.Proofs.YtdpmilffadalkaaDoor
open Go.RowKit
/-- a value: kind, number, name, the label's halves -/
structure V5 where
  k : Int
  n : Int
  nm : ByteArray
  s : ByteArray
  i : ByteArray
deriving DecidableEq
/-- one that waits -/
structure Wt where
  id : ByteArray
  put : Bool
  v : V5
deriving DecidableEq
def V5.cells (v : V5) : List Value := [.int .i64 v.k, .int .i64 v.n, .string v.nm, .string v.s, .string v.i]
def Wt.row (x : Wt) : List Value := [.string x.id, .bool x.put, .int .i64 x.v.k, .int .i64 x.v.n, .string x.v.nm, .string x.v.s, .string x.v.i]
def rowsQ (l : List Wt) : List (List Value) := l.map Wt.row
theorem rowsQ_len (l : List Wt) : (rowsQ l).length = l.length := List.length_map _
theorem rowsQ_wide (l : List Wt) : Wide 7 (rowsQ l) := by
  intro r hr
  obtain ⟨x, _, rfl⟩ := List.mem_map.1 hr
  refine ⟨rfl, fun y hy => ?_⟩
  simp only [Wt.row, List.mem_cons, List.not_mem_nil, or_false] at hy
  rcases hy with rfl | rfl | rfl | rfl | rfl | rfl | rfl <;> rfl
theorem rowsQ_get (l : List Wt) (k : Nat) (h : k < l.length) : (rowsQ l)[k]? = some (l[k].row) := by
  unfold rowsQ
  rw [List.getElem?_map, List.getElem?_eq_getElem h]
  rfl
/-- v is a slice of these -/
def QAt (w : World) (v : Value) (l : List Wt) : Prop := SlotsAt w 7 v (rowsQ l)
theorem QAt.below {w w' : World} {v : Value} {l : List Wt} (h : QAt w v l) (hb : Below w.heap.size w w') : QAt w' v l := SlotsAt.below h hb
theorem QAt.slice {w : World} {v : Value} {l : List Wt} (h : QAt w v l) : ∃ ao cap, v = .slice ao l.length cap := by
  obtain ⟨ao, cap, hv⟩ := SlotsAt.slice h
  rw [rowsQ_len] at hv
  exact ⟨ao, cap, hv⟩
/-- the place of the first that is so; -1, if there is none -/
def firstI (p : Wt → Bool) (l : List Wt) : Int := match l.findIdx? p with | some k => (k : Int) | none => -1
theorem firstI_at {p : Wt → Bool} {l : List Wt} {k : Nat} (hk : k < l.length) (hp : p l[k] = true) (h : ∀ j (hj : j < k), p (l[j]'(by omega)) = false) : firstI p l = (k : Int) := by
  have : l.findIdx? p = some k := by
    rw [List.findIdx?_eq_some_iff_getElem]
    exact ⟨hk, hp, fun j hj => by simp [h j hj]⟩
  unfold firstI
  rw [this]
theorem firstI_no {p : Wt → Bool} {l : List Wt} (h : ∀ j (hj : j < l.length), p l[j] = false) : firstI p l = -1 := by
  have : l.findIdx? p = none := by
    rw [List.findIdx?_eq_none_iff]
    intro x hx
    obtain ⟨j, hj, rfl⟩ := List.getElem_of_mem hx
    exact h j hj
  unfold firstI
  rw [this]
theorem clo_put (id : ByteArray) (p : Bool) (xk xn : Int) (xm xs xi : ByteArray) (w : World) :
    Calls Tryd.prog 18 #[.agg #[.string id, .bool p, .int .i64 xk, .int .i64 xn, .string xm, .string xs, .string xi]] w fun e w' => e = .returned (.bool p) ∧ Below w.heap.size w w' := by
  go_enter Tryd.func18, Tryd.ntmps18
  go_wp2
  go_ret
  exact ⟨rfl, below_al (Below.refl _ _) _⟩
theorem clo_take (id : ByteArray) (p : Bool) (xk xn : Int) (xm xs xi : ByteArray) (w : World) :
    Calls Tryd.prog 21 #[.agg #[.string id, .bool p, .int .i64 xk, .int .i64 xn, .string xm, .string xs, .string xi]] w fun e w' => e = .returned (.bool !p) ∧ Below w.heap.size w w' := by
  go_enter Tryd.func21, Tryd.ntmps21
  go_wp2
  go_ret
  exact ⟨rfl, below_al (Below.refl _ _) _⟩
theorem clo_id (id : ByteArray) (p : Bool) (xk xn : Int) (xm xs xi : ByteArray) (who : ByteArray) (b : Nat) (w : World) (h : w.heap[b]? = some (.cells #[.string who] 9)) :
    Calls Tryd.prog 22 #[.agg #[.string id, .bool p, .int .i64 xk, .int .i64 xn, .string xm, .string xs, .string xi], .pointer (some ⟨b, 0, none⟩)] w fun e w' => e = .returned (.bool (id.toList == who.toList)) ∧ Below w.heap.size w w' := by
  have c0 := Mem.cell h 0 rfl
  have z0 := Mem.lt h
  clear h
  go_enter Tryd.func22, Tryd.ntmps22
  go_wp2
  go_ret
  exact ⟨rfl, below_al (Below.refl _ _) _⟩

set_option maxRecDepth 100000 in
set_option maxHeartbeats 1000000 in
theorem first_put (l : List Wt) (v : Value) (w : World) (h : QAt w v l) (hlen : l.length * 88 ≤ 140737488355328) :
    Calls Tryd.prog 17 #[v, .func (.func 18) #[] #[]] w fun e w' => e = .returned (.int .i64 (firstI (fun x => x.put) l)) ∧ Below w.heap.size w w' := by
  generalize hR : firstI (fun x => x.put) l = R
  have HR := Lib.hid hR
  clear hR
  obtain ⟨ao, cap, hv⟩ := h.slice
  subst hv
  obtain ⟨n, hn⟩ : ∃ n, l.length = n := ⟨_, rfl⟩
  rw [hn] at h hlen ⊢
  have HN := Lib.hid hn
  have HQ : Hid (QAt w (.slice ao n cap) l) := Lib.hid h
  clear hn h
  go_enter Tryd.func17, Tryd.ntmps17
  go_wp2_with fail
  go_loopw [9] (fun i wr => ∃ k : Nat, k ≤ n ∧ i = .int .i64 k ∧ Below w.heap.size w wr ∧ Hid (∀ j (hj : j < l.length), j < k → (fun x => x.put) l[j] = false)) (fun i _ => n - (intOf i).toNat)
  case atStart => exact ⟨0, by omega, rfl, Below.refl _ _, Lib.hid (fun j hj hjk => by omega)⟩
  case round =>
    obtain ⟨k, hk, rfl, hb, hn⟩ := hrel
    by_cases hlt : k < n
    · have hkl : k < l.length := by rw [HN.out]; exact hlt
      obtain ⟨b, off, cap', hv, hcap, hbl, hg⟩ := SlotsAt.some (HQ.out.below hb) (by rw [rowsQ_len]; omega)
      rw [rowsQ_len, HN.out] at hv
      cases hv
      rename_i wr _
      obtain ⟨x, hx⟩ : ∃ x, l[k] = x := ⟨_, rfl⟩
      have hrow := rowsQ_get l k hkl
      rw [hx] at hrow
      have c0 := hg k 0 _ _ hrow rfl
      have c1 := hg k 1 _ _ hrow rfl
      have c2 := hg k 2 _ _ hrow rfl
      have c3 := hg k 3 _ _ hrow rfl
      have c4 := hg k 4 _ _ hrow rfl
      have c5 := hg k 5 _ _ hrow rfl
      have c6 := hg k 6 _ _ hrow rfl
      simp only [Nat.add_zero, ← Nat.add_assoc] at c0 c1 c2 c3 c4 c5 c6
      have HX := Lib.hid hx
      clear hg hrow hx hcap

      obtain ⟨y0, y1, ⟨y2, y3, y4, y5, y6⟩⟩ := x
      simp only at c0 c1 c2 c3 c4 c5 c6
      cases y1
      · have hn' : Hid (∀ j (hj : j < l.length), j < k + 1 → (fun x => x.put) l[j] = false) := Lib.hid (fun j hj hjk => by
          by_cases hjk2 : j < k
          · exact hn.out j hj hjk2
          · obtain rfl : j = k := by omega
            rw [HX.out])
        clear hn
        go_wp2_with fail
        refine (clo_put y0 false y2 y3 y4 y5 y6 _).mono ?_
        rintro e w1 ⟨rfl, hb1⟩
        have hb2 := Lib.hid (below_then (below_al hb _) hb1)
        clear hb hb1
        go_wp2_with fail
        go_roundw
        case rel => exact ⟨k + 1, by omega, by go_num, hb2.out, hn'⟩
        case measure => simp [intOf]; omega
      · have hf : R = (k : Int) := by rw [← HR.out]; exact firstI_at hkl (by rw [HX.out]) (fun j hj => hn.out j (by omega) hj)
        have HF := Lib.hid hf
        clear hf
        go_wp2_with fail
        refine (clo_put y0 true y2 y3 y4 y5 y6 _).mono ?_
        rintro e w1 ⟨rfl, hb1⟩
        have hb2 := Lib.hid (below_then (below_al hb _) hb1)
        clear hb hb1
        go_wp2_with fail
        go_ret
        exact ⟨ret_int HF.out.symm, hb2.out⟩

    · have hf : R = -1 := by rw [← HR.out]; exact firstI_no (fun j hj => hn.out j hj (by have := HN.out; omega))
      have HF := Lib.hid hf
      have hge : (n : Int) ≤ k := by omega
      clear hf
      go_wp2_with fail
      go_ret
      exact ⟨ret_int HF.out.symm, by assumption⟩

set_option maxRecDepth 100000 in
set_option maxHeartbeats 1000000 in
theorem first_take (l : List Wt) (v : Value) (w : World) (h : QAt w v l) (hlen : l.length * 88 ≤ 140737488355328) :
    Calls Tryd.prog 17 #[v, .func (.func 21) #[] #[]] w fun e w' => e = .returned (.int .i64 (firstI (fun x => !x.put) l)) ∧ Below w.heap.size w w' := by
  generalize hR : firstI (fun x => !x.put) l = R
  have HR := Lib.hid hR
  clear hR
  obtain ⟨ao, cap, hv⟩ := h.slice
  subst hv
  obtain ⟨n, hn⟩ : ∃ n, l.length = n := ⟨_, rfl⟩
  rw [hn] at h hlen ⊢
  have HN := Lib.hid hn
  have HQ : Hid (QAt w (.slice ao n cap) l) := Lib.hid h
  clear hn h
  go_enter Tryd.func17, Tryd.ntmps17
  go_wp2_with fail
  go_loopw [9] (fun i wr => ∃ k : Nat, k ≤ n ∧ i = .int .i64 k ∧ Below w.heap.size w wr ∧ Hid (∀ j (hj : j < l.length), j < k → (fun x => !x.put) l[j] = false)) (fun i _ => n - (intOf i).toNat)
  case atStart => exact ⟨0, by omega, rfl, Below.refl _ _, Lib.hid (fun j hj hjk => by omega)⟩
  case round =>
    obtain ⟨k, hk, rfl, hb, hn⟩ := hrel
    by_cases hlt : k < n
    · have hkl : k < l.length := by rw [HN.out]; exact hlt
      obtain ⟨b, off, cap', hv, hcap, hbl, hg⟩ := SlotsAt.some (HQ.out.below hb) (by rw [rowsQ_len]; omega)
      rw [rowsQ_len, HN.out] at hv
      cases hv
      rename_i wr _
      obtain ⟨x, hx⟩ : ∃ x, l[k] = x := ⟨_, rfl⟩
      have hrow := rowsQ_get l k hkl
      rw [hx] at hrow
      have c0 := hg k 0 _ _ hrow rfl
      have c1 := hg k 1 _ _ hrow rfl
      have c2 := hg k 2 _ _ hrow rfl
      have c3 := hg k 3 _ _ hrow rfl
      have c4 := hg k 4 _ _ hrow rfl
      have c5 := hg k 5 _ _ hrow rfl
      have c6 := hg k 6 _ _ hrow rfl
      simp only [Nat.add_zero, ← Nat.add_assoc] at c0 c1 c2 c3 c4 c5 c6
      have HX := Lib.hid hx
      clear hg hrow hx hcap

      obtain ⟨y0, y1, ⟨y2, y3, y4, y5, y6⟩⟩ := x
      simp only at c0 c1 c2 c3 c4 c5 c6
      cases y1
      · have hf : R = (k : Int) := by rw [← HR.out]; exact firstI_at hkl (by rw [HX.out]; rfl) (fun j hj => hn.out j (by omega) hj)
        have HF := Lib.hid hf
        clear hf
        go_wp2_with fail
        refine (clo_take y0 false y2 y3 y4 y5 y6 _).mono ?_
        rintro e w1 ⟨rfl, hb1⟩
        have hb2 := Lib.hid (below_then (below_al hb _) hb1)
        clear hb hb1
        go_wp2_with fail
        go_ret
        exact ⟨ret_int HF.out.symm, hb2.out⟩
      · have hn' : Hid (∀ j (hj : j < l.length), j < k + 1 → (fun x => !x.put) l[j] = false) := Lib.hid (fun j hj hjk => by
          by_cases hjk2 : j < k
          · exact hn.out j hj hjk2
          · obtain rfl : j = k := by omega
            rw [HX.out]; rfl)
        clear hn
        go_wp2_with fail
        refine (clo_take y0 true y2 y3 y4 y5 y6 _).mono ?_
        rintro e w1 ⟨rfl, hb1⟩
        have hb2 := Lib.hid (below_then (below_al hb _) hb1)
        clear hb hb1
        go_wp2_with fail
        go_roundw
        case rel => exact ⟨k + 1, by omega, by go_num, hb2.out, hn'⟩
        case measure => simp [intOf]; omega

    · have hf : R = -1 := by rw [← HR.out]; exact firstI_no (fun j hj => hn.out j hj (by have := HN.out; omega))
      have HF := Lib.hid hf
      have hge : (n : Int) ≤ k := by omega
      clear hf
      go_wp2_with fail
      go_ret
      exact ⟨ret_int HF.out.symm, by assumption⟩

set_option maxRecDepth 100000 in
set_option maxHeartbeats 1000000 in
theorem first_id (l : List Wt) (v : Value) (w : World) (h : QAt w v l) (hlen : l.length * 88 ≤ 140737488355328) (bw : Nat) (who : ByteArray) (hw : Hid (w.heap[bw]? = some (.cells #[.string who] 9))) :
    Calls Tryd.prog 17 #[v, .func (.func 22) #[] #[.pointer (some ⟨bw, 0, none⟩)]] w fun e w' => e = .returned (.int .i64 (firstI (fun x => x.id.toList == who.toList) l)) ∧ Below w.heap.size w w' := by
  generalize hR : firstI (fun x => x.id.toList == who.toList) l = R
  have HR := Lib.hid hR
  clear hR
  obtain ⟨ao, cap, hv⟩ := h.slice
  subst hv
  obtain ⟨n, hn⟩ : ∃ n, l.length = n := ⟨_, rfl⟩
  rw [hn] at h hlen ⊢
  have HN := Lib.hid hn
  have HQ : Hid (QAt w (.slice ao n cap) l) := Lib.hid h
  clear hn h
  go_enter Tryd.func17, Tryd.ntmps17
  go_wp2_with fail
  go_loopw [9] (fun i wr => ∃ k : Nat, k ≤ n ∧ i = .int .i64 k ∧ Below w.heap.size w wr ∧ Hid (∀ j (hj : j < l.length), j < k → (fun x => x.id.toList == who.toList) l[j] = false)) (fun i _ => n - (intOf i).toNat)
  case atStart => exact ⟨0, by omega, rfl, Below.refl _ _, Lib.hid (fun j hj hjk => by omega)⟩
  case round =>
    obtain ⟨k, hk, rfl, hb, hn⟩ := hrel
    by_cases hlt : k < n
    · have hkl : k < l.length := by rw [HN.out]; exact hlt
      obtain ⟨b, off, cap', hv, hcap, hbl, hg⟩ := SlotsAt.some (HQ.out.below hb) (by rw [rowsQ_len]; omega)
      rw [rowsQ_len, HN.out] at hv
      cases hv
      rename_i wr _
      obtain ⟨x, hx⟩ : ∃ x, l[k] = x := ⟨_, rfl⟩
      have hrow := rowsQ_get l k hkl
      rw [hx] at hrow
      have c0 := hg k 0 _ _ hrow rfl
      have c1 := hg k 1 _ _ hrow rfl
      have c2 := hg k 2 _ _ hrow rfl
      have c3 := hg k 3 _ _ hrow rfl
      have c4 := hg k 4 _ _ hrow rfl
      have c5 := hg k 5 _ _ hrow rfl
      have c6 := hg k 6 _ _ hrow rfl
      simp only [Nat.add_zero, ← Nat.add_assoc] at c0 c1 c2 c3 c4 c5 c6
      have HX := Lib.hid hx
      clear hg hrow hx hcap
      have HWB : Hid (∀ o, (wr.alloc o).heap[bw]? = some (.cells #[.string who] 9)) := Lib.hid (fun o => ((below_al hb o).block bw (Mem.lt hw.out)).trans hw.out)
      obtain ⟨y0, y1, ⟨y2, y3, y4, y5, y6⟩⟩ := x
      simp only at c0 c1 c2 c3 c4 c5 c6
      cases hp : (y0.toList == who.toList) with
      | true =>
        have HP := Lib.hid hp
        clear hp
        have hf : R = (k : Int) := by rw [← HR.out]; exact firstI_at hkl (by rw [HX.out]; exact HP.out) (fun j hj => hn.out j (by omega) hj)
        have HF := Lib.hid hf
        clear hf
        go_wp2_with fail
        refine (clo_id y0 y1 y2 y3 y4 y5 y6 who bw _ (HWB.out _)).mono ?_
        rw [HP.out]
        rintro e w1 ⟨rfl, hb1⟩
        have hb2 := Lib.hid (below_then (below_al hb _) hb1)
        clear hb hb1
        go_wp2_with fail
        go_ret
        exact ⟨ret_int HF.out.symm, hb2.out⟩
      | false =>
        have HP := Lib.hid hp
        clear hp
        have hn' : Hid (∀ j (hj : j < l.length), j < k + 1 → (fun x => x.id.toList == who.toList) l[j] = false) := Lib.hid (fun j hj hjk => by
          by_cases hjk2 : j < k
          · exact hn.out j hj hjk2
          · obtain rfl : j = k := by omega
            rw [HX.out]; exact HP.out)
        clear hn
        go_wp2_with fail
        refine (clo_id y0 y1 y2 y3 y4 y5 y6 who bw _ (HWB.out _)).mono ?_
        rw [HP.out]
        rintro e w1 ⟨rfl, hb1⟩
        have hb2 := Lib.hid (below_then (below_al hb _) hb1)
        clear hb hb1
        go_wp2_with fail
        go_roundw
        case rel => exact ⟨k + 1, by omega, by go_num, hb2.out, hn'⟩
        case measure => simp [intOf]; omega

    · have hf : R = -1 := by rw [← HR.out]; exact firstI_no (fun j hj => hn.out j hj (by have := HN.out; omega))
      have HF := Lib.hid hf
      have hge : (n : Int) ≤ k := by omega
      clear hf
      go_wp2_with fail
      go_ret
      exact ⟨ret_int HF.out.symm, by assumption⟩
end Go.Proofs.YtdpmilffadalkaaDoor
