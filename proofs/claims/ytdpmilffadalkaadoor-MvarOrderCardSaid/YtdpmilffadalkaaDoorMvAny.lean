/- mvar.Take, mvar.Put, mvar.Leave, mvar.Same as plain functions; val.Right of a number, name.Right, waits. -/
import Derived.Test.YtdpmilffadalkaaDoorMvOps
import Derived.Test.YtdpmilffadalkaaDoorNameRead
namespace Go.Proofs.YtdpmilffadalkaaDoor
open Go.RowKit
structure VM where
  full : Bool
  v : V5
  q : List Wt
def z5 : V5 := ⟨0, 0, ⟨#[]⟩, ⟨#[]⟩, ⟨#[]⟩⟩
structure TK where
  y : VM
  v : V5
  ok : Bool
  woken : ByteArray
structure PT where
  y : VM
  ok : Bool
  woken : ByteArray
structure LV where
  y : VM
  ok : Bool
def takeM (x : VM) (id : ByteArray) : TK := match x.full with
  | false => ⟨⟨false, x.v, x.q ++ [⟨id, false, z5⟩]⟩, z5, false, ⟨#[]⟩⟩
  | true => match x.q.findIdx? (fun w => w.put) with
    | none => ⟨⟨false, z5, x.q⟩, x.v, true, ⟨#[]⟩⟩
    | some k => ⟨⟨true, (x.q.getD k ⟨⟨#[]⟩, false, z5⟩).v, x.q.eraseIdx k⟩, x.v, true, (x.q.getD k ⟨⟨#[]⟩, false, z5⟩).id⟩
def putM (x : VM) (id : ByteArray) (v : V5) : PT := match x.full with
  | true => ⟨⟨true, x.v, x.q ++ [⟨id, true, v⟩]⟩, false, ⟨#[]⟩⟩
  | false => match x.q.findIdx? (fun w => !w.put) with
    | none => ⟨⟨true, v, x.q⟩, true, ⟨#[]⟩⟩
    | some k => ⟨⟨false, x.v, x.q.eraseIdx k⟩, true, (x.q.getD k ⟨⟨#[]⟩, false, z5⟩).id⟩
def leaveM (x : VM) (id : ByteArray) : LV := match x.q.findIdx? (fun w => w.id.toList == id.toList) with
  | none => ⟨x, false⟩
  | some k => ⟨⟨x.full, x.v, x.q.eraseIdx k⟩, true⟩
theorem find_some {p : Wt → Bool} {l : List Wt} {k : Nat} (h : l.findIdx? p = some k) : k < l.length ∧ firstI p l = (k : Int) := by
  have h1 := h
  rw [List.findIdx?_eq_some_iff_getElem] at h1
  exact ⟨h1.1, by unfold firstI; rw [h]⟩
theorem find_none {p : Wt → Bool} {l : List Wt} (h : l.findIdx? p = none) : firstI p l = -1 := by unfold firstI; rw [h]
def TakeTo (r : TK) (w : World) : Ending → World → Prop := TakeEnds12 r.y.full r.y.v r.v r.y.q r.ok r.woken w
def PutTo (r : PT) (w : World) : Ending → World → Prop := PutEnds12 r.y.full r.y.v r.y.q r.ok r.woken w
def LeaveTo (r : LV) (w : World) : Ending → World → Prop := LeaveEnds w r.y.full r.y.v r.y.q r.ok
theorem mtake_any (f : Bool) (k n : Int) (m s i : ByteArray) (id : ByteArray) (q : List Wt) (v : Value) (w : World) (h : QAt w v q) (hlen : q.length * 88 ≤ 140737488355328 - 88) :
    Calls Tryd.prog 10 #[.agg #[.bool f, .int .i64 k, .int .i64 n, .string m, .string s, .string i, v], .string id] w (TakeTo (takeM ⟨f, ⟨k, n, m, s, i⟩, q⟩ id) w) := by
  cases f with
  | false => exact mtake_wait k n m s i id q v w h hlen
  | true =>
    cases hf : q.findIdx? (fun w => w.put) with
    | none =>
      have e : takeM ⟨true, ⟨k, n, m, s, i⟩, q⟩ id = ⟨⟨false, z5, q⟩, ⟨k, n, m, s, i⟩, true, ⟨#[]⟩⟩ := by unfold takeM; simp only; split <;> simp_all
      rw [e]
      exact mtake_none k n m s i id q v w h hlen (find_none hf)
    | some j =>
      obtain ⟨hj, hfi⟩ := find_some hf
      have e : takeM ⟨true, ⟨k, n, m, s, i⟩, q⟩ id = ⟨⟨true, q[j].v, q.eraseIdx j⟩, ⟨k, n, m, s, i⟩, true, q[j].id⟩ := by
        unfold takeM; simp only; split <;> simp_all
      rw [e]
      exact mtake_next k n m s i id q v w h hlen j hj hfi q[j].id q[j].put q[j].v.k q[j].v.n q[j].v.nm q[j].v.s q[j].v.i rfl
theorem mput_any (f : Bool) (k n : Int) (m s i : ByteArray) (id : ByteArray) (k2 n2 : Int) (m2 s2 i2 : ByteArray) (q : List Wt) (v : Value) (w : World) (h : QAt w v q) (hlen : q.length * 88 ≤ 140737488355328 - 88) :
    Calls Tryd.prog 11 #[.agg #[.bool f, .int .i64 k, .int .i64 n, .string m, .string s, .string i, v], .string id, .agg #[.int .i64 k2, .int .i64 n2, .string m2, .string s2, .string i2]] w (PutTo (putM ⟨f, ⟨k, n, m, s, i⟩, q⟩ id ⟨k2, n2, m2, s2, i2⟩) w) := by
  cases f with
  | true => exact mput_wait k n m s i id k2 n2 m2 s2 i2 q v w h hlen
  | false =>
    cases hf : q.findIdx? (fun w => !w.put) with
    | none =>
      have e : putM ⟨false, ⟨k, n, m, s, i⟩, q⟩ id ⟨k2, n2, m2, s2, i2⟩ = ⟨⟨true, ⟨k2, n2, m2, s2, i2⟩, q⟩, true, ⟨#[]⟩⟩ := by unfold putM; simp only; rw [hf]
      rw [e]
      exact mput_none k n m s i id k2 n2 m2 s2 i2 q v w h hlen (find_none hf)
    | some j =>
      obtain ⟨hj, hfi⟩ := find_some hf
      have e : putM ⟨false, ⟨k, n, m, s, i⟩, q⟩ id ⟨k2, n2, m2, s2, i2⟩ = ⟨⟨false, ⟨k, n, m, s, i⟩, q.eraseIdx j⟩, true, q[j].id⟩ := by
        unfold putM; simp only; rw [hf]; simp [hj]
      rw [e]
      exact mput_next k n m s i id k2 n2 m2 s2 i2 q v w h hlen j hj hfi q[j].id q[j].put q[j].v.k q[j].v.n q[j].v.nm q[j].v.s q[j].v.i rfl
theorem mleave_any (f : Bool) (k n : Int) (m s i : ByteArray) (id : ByteArray) (q : List Wt) (v : Value) (w : World) (h : QAt w v q) (hlen : q.length * 88 ≤ 140737488355328 - 88) :
    Calls Tryd.prog 13 #[.agg #[.bool f, .int .i64 k, .int .i64 n, .string m, .string s, .string i, v], .string id] w (LeaveTo (leaveM ⟨f, ⟨k, n, m, s, i⟩, q⟩ id) w) := by
  cases hf : q.findIdx? (fun w => w.id.toList == id.toList) with
  | none =>
    have e : leaveM ⟨f, ⟨k, n, m, s, i⟩, q⟩ id = ⟨⟨f, ⟨k, n, m, s, i⟩, q⟩, false⟩ := by unfold leaveM; simp only; rw [hf]
    rw [e]
    exact leave_no f k n m s i q v id w h (by omega) (find_none hf)
  | some j =>
    obtain ⟨hj, hfi⟩ := find_some hf
    have e : leaveM ⟨f, ⟨k, n, m, s, i⟩, q⟩ id = ⟨⟨f, ⟨k, n, m, s, i⟩, q.eraseIdx j⟩, true⟩ := by unfold leaveM; simp only; rw [hf]
    rw [e]
    exact mleave_yes f k n m s i id q v w h hlen j hj hfi
def sameM (x y : VM) : Bool := (x.full == y.full && x.v.eqb y.v) && decide (x.q = y.q)
set_option maxHeartbeats 2000000 in
theorem msame_any (f : Bool) (k n : Int) (m s i : ByteArray) (q : List Wt) (v : Value) (f' : Bool) (k' n' : Int) (m' s' i' : ByteArray) (q' : List Wt) (v' : Value) (w : World) (h : QAt w v q) (h' : QAt w v' q') (hlen : q.length * 88 ≤ 140737488355328) (hlen' : q'.length * 88 ≤ 140737488355328) :
    Calls Tryd.prog 14 #[.agg #[.bool f, .int .i64 k, .int .i64 n, .string m, .string s, .string i, v], .agg #[.bool f', .int .i64 k', .int .i64 n', .string m', .string s', .string i', v']] w
      fun e w' => e = .returned (.bool (sameM ⟨f, ⟨k, n, m, s, i⟩, q⟩ ⟨f', ⟨k', n', m', s', i'⟩, q'⟩)) ∧ Below w.heap.size w w' := by
  have HQ : Hid (∀ W, Below w.heap.size w W → QAt W v q) := Lib.hid (fun W hb => h.below hb)
  have HQ' : Hid (∀ W, Below w.heap.size w W → QAt W v' q') := Lib.hid (fun W hb => h'.below hb)
  clear h h'
  have hE := fun w => eql_val w k n k' n' m s i m' s' i'
  unfold sameM
  simp only
  generalize V5.eqb ⟨k, n, m, s, i⟩ ⟨k', n', m', s', i'⟩ = b at *
  have hff : (f == f') = true ∨ (f == f') = false := by cases (f == f') <;> simp
  rcases hff with hf | hf
  · cases b
    · rw [hf]
      go_enter Tryd.func14, Tryd.ntmps14
      go_wp2_with fail
      go_ret
      exact ⟨rfl, below_al (below_al (Below.refl _ _) _) _⟩
    · rw [hf]
      go_enter Tryd.func14, Tryd.ntmps14
      go_wp2_with fail
      refine (equal_any q q' v v' _ (HQ.out _ (below_al (below_al (Below.refl _ _) _) _)) (HQ'.out _ (below_al (below_al (Below.refl _ _) _) _)) hlen hlen').mono ?_
      rintro e w1 ⟨rfl, hb1⟩
      have HB := Lib.hid (below_then (below_al (below_al (Below.refl _ _) _) _) hb1)
      clear hb1
      go_wp2_with fail
      go_ret
      exact ⟨rfl, HB.out⟩
  · rw [hf]
    go_enter Tryd.func14, Tryd.ntmps14
    go_wp2_with fail
    go_ret
    exact ⟨rfl, below_al (below_al (Below.refl _ _) _) _⟩
theorem vright_int (n : Int) (w : World) : Calls Tryd.prog 24 #[.agg #[.int .i64 1, .int .i64 n, .string ⟨#[]⟩, .string ⟨#[]⟩, .string ⟨#[]⟩]] w fun e w' => e = .returned (.bool true) ∧ Below w.heap.size w w' := by
  have hE := fun w => eql_val w 1 n 1 n ⟨#[]⟩ ⟨#[]⟩ ⟨#[]⟩ ⟨#[]⟩ ⟨#[]⟩ ⟨#[]⟩
  simp only [(V5.eqb_iff _ _).2 rfl] at hE
  go_enter Tryd.func24, Tryd.ntmps24
  go_wp2_with fail
  go_ret
  exact ⟨rfl, below_al (Below.refl _ _) _⟩
theorem vright_zero (w : World) : Calls Tryd.prog 24 #[.agg #[.int .i64 0, .int .i64 0, .string ⟨#[]⟩, .string ⟨#[]⟩, .string ⟨#[]⟩]] w fun e w' => e = .returned (.bool false) ∧ Below w.heap.size w w' := by
  go_enter Tryd.func24, Tryd.ntmps24
  go_wp2_with fail
  go_ret
  exact ⟨rfl, below_al (Below.refl _ _) _⟩
theorem nright_12 (s : ByteArray) (w : World) (hs : s.size ≤ 140737488351232) (hw : Laid w) :
    Calls Tryd.prog 25 #[.string s] w fun e w' => e = .returned (.bool (readL s.data.toList).isSome) ∧ Below w.heap.size w w' := by
  go_enter Tryd.func25, Tryd.ntmps25
  go_wp2_with fail
  refine (read_any s _ hs hw).mono ?_
  rintro e w1 ⟨v, rfl, hrow, hb, hnil⟩
  clear hrow hnil
  go_wp2_with fail
  go_ret
  exact ⟨rfl, hb⟩
theorem number_any (n : Int) (w : World) : Calls Tryd.prog 12 #[.int .i64 n] w fun e w' => e = .returned (.agg #[.int .i64 1, .int .i64 n, .string ⟨#[]⟩, .string ⟨#[]⟩, .string ⟨#[]⟩]) ∧ Below w.heap.size w w' := by
  go_enter Tryd.func12, Tryd.ntmps12
  go_wp2_with fail
  refine bodyPost_ret (v := .agg #[.int .i64 1, .int .i64 n, .string ⟨#[]⟩, .string ⟨#[]⟩, .string ⟨#[]⟩]) (by simp [results, Tryd.results12, go_sem]) rfl ⟨rfl, ?_⟩
  exact below_al (Below.refl _ _) _
end Go.Proofs.YtdpmilffadalkaaDoor
