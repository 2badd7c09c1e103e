/- TwoS, ExP: joined into one text; each part says below what it holds. -/
import Derived.Test.YtlkgcidhhngfeaaGreatDoorFewS
import Derived.Test.YtlkgcidhhngfeaaGreatDoorEqS
import Derived.Test.YtlkgcidhhngfeaaGreatDoorZB
/- Stores of the call's own, one and two of them: what Add, Set and Hide leave, in one word each. -/
namespace Go.Proofs.YtlkgcidhhngfeaaGreatDoor
open Go.RowKit Go.Maps
/-- where the walk stands: a whole thing loaded, or stored -/
theorem at_load {ops : Array Oper} {rest : List Oper} {op : Oper} {a : Act} {w : World} {Q : Exit → Act → World → Prop} {x : Operand} (_ : op.op = .load 32 x) (h : wpList Tryz.prog ops Q (op :: rest) a w) : wpList Tryz.prog ops Q (op :: rest) a w := h
theorem at_store {ops : Array Oper} {rest : List Oper} {op : Oper} {a : Act} {w : World} {Q : Exit → Act → World → Prop} {x y : Operand} (_ : op.op = .store 32 x y) (h : wpList Tryz.prog ops Q (op :: rest) a w) : wpList Tryz.prog ops Q (op :: rest) a w := h
theorem at_alloc {ops : Array Oper} {rest : List Oper} {op : Oper} {a : Act} {w : World} {Q : Exit → Act → World → Prop} (_ : op.op = .alloc 32) (h : wpList Tryz.prog ops Q (op :: rest) a w) : wpList Tryz.prog ops Q (op :: rest) a w := h
theorem load_ox_w {ops : Array Oper} {rest : List Oper} {op : Oper} {a : Act} {w : World} {Q : Exit → Act → World → Prop} (hgd : Region.wanted op (yielded ops a.tmps) = true) (x : Operand) (ho : op.op = .load 32 x)
    (b : Nat) (hx : a.eval x = .pointer (some ⟨b, 0, none⟩)) (s : Ox) (hb : w.heap[b]? = some (.cells (ox s) 32))
    (h : wpList Tryz.prog ops Q rest (a.put op.dst (.agg (ox s))) w) : wpList Tryz.prog ops Q (op :: rest) a w := by
  show (if Region.wanted op (yielded ops a.tmps) then _ else _)
  rw [if_pos hgd]
  exact .inl (wp_load_mid 32 x ho b 0 hx (oxL s) _ (range_block hb) Tryz.underlying32 rfl info_ox h)
/-- a store whose blocks lie from B on; none of X's may be turned -/
def One (B : Nat) (X : Nat → Prop) (w : World) (p : Nat) (S : St) : Prop := ∃ W Q, StoreAt w p S W Q ∧ (∀ b, W b ∨ Q b → B ≤ b) ∧ ∀ b, W b ∨ Q b → ¬ X b
def FX (B : Nat) (X : Nat → Prop) (b : Nat) : Prop := B ≤ b ∧ ¬ X b
theorem StoreAt.lt {w : World} {p : Nat} {S : St} {W Q : Nat → Prop} (h : StoreAt w p S W Q) : ∀ b, W b ∨ Q b → b < w.heap.size := by
  obtain ⟨bt, bn, Dt, Dn, h⟩ := h
  exact h.lt
theorem StoreAt.sorted {w : World} {p : Nat} {S : St} {W Q : Nat → Prop} (h : StoreAt w p S W Q) : SortedS S := by
  obtain ⟨bt, bn, Dt, Dn, h⟩ := h
  exact h.sorted
theorem StoreAt.ok {w : World} {p : Nat} {S : St} {W Q : Nat → Prop} (h : StoreAt w p S W Q) : ∀ e ∈ S, OkE e := by
  obtain ⟨bt, bn, Dt, Dn, h⟩ := h
  exact h.ok
theorem One.below {B : Nat} {X : Nat → Prop} {w w' : World} {p : Nat} {S : St} (h : One B X w p S) (hb : Below w.heap.size w w') : One B X w' p S := by
  obtain ⟨W, Q, h1, h2, h3⟩ := h
  exact ⟨W, Q, h1.below hb, h2, h3⟩
theorem One.fresh {B : Nat} {X Y : Nat → Prop} {w : World} {p : Nat} {S : St} (h : One B X w p S) (hY : ∀ b, Y b → X b ∨ w.heap.size ≤ b) : One B Y w p S := by
  obtain ⟨W, Q, h1, h2, h3⟩ := h
  refine ⟨W, Q, h1, h2, fun b hb hy => ?_⟩
  rcases hY b hy with hx | hx
  · exact h3 b hb hx
  · have := h1.lt b hb; omega
/-- a store into a box of the call's own -/
theorem one_st {B : Nat} {X : Nat → Prop} {w : World} {p : Nat} {S : St} (h : Hid (One B X w p S)) {b : Nat} (hb : X b) (o : Nat) (vs : List Value) : Hid (One B X (w.setCells b o vs) p S) := by
  obtain ⟨W, Q, h1, h2, h3⟩ := h.out
  have k : KF (fun j => j = b) w (w.setCells b o vs) := kf_setCells (F := fun j => j = b) (KF.refl _ w) (.inl rfl) o vs
  exact Lib.hid ⟨W, Q, h1.kf k fun j hj e => h3 j hj (by rw [e]; exact hb), h2, h3⟩
theorem hid_one {B : Nat} {X : Nat → Prop} {w w' : World} {p : Nat} {S : St} (h : Hid (One B X w p S)) (hb : Below w.heap.size w w') : Hid (One B X w' p S) := Lib.hid (h.out.below hb)
theorem LaidF.mono {F G : Nat → Prop} {w : World} (h : LaidF F w) (hg : ∀ b, G b → F b) : LaidF G w := by
  obtain ⟨w0, h1, h2, h3⟩ := h
  exact ⟨w0, h1, h2, fun b hb => h3 b (hg b hb)⟩
theorem one_new (B : Nat) (X : Nat → Prop) (w : World) (hB : B ≤ w.heap.size) (hX : ∀ b, X b → b < w.heap.size) :
    Calls Tryz.prog 24 #[] w fun e w' => ∃ p, e = .returned (.pointer (some ⟨p, 0, none⟩)) ∧ Hid (One B X w' p []) ∧ Below w.heap.size w w' := by
  refine (new_any w).mono ?_
  rintro e w' ⟨p, W, Q, rfl, h1, h2, hb⟩
  refine ⟨p, rfl, Lib.hid ⟨W, Q, h1.out, fun b hb => Nat.le_trans hB (h2.out b hb), fun b hb hx => ?_⟩, hb⟩
  have := h2.out b hb
  have := hX b hx
  omega
theorem addT_length (S : St) (key : ByteArray) (x : OB) (hs : SortedS S) : (addT S key x).length ≤ S.length + 1 := by
  unfold addT
  split
  · unfold insS
    have h := congrArg List.length (part_sorted key hs)
    simp only [List.length_append, List.length_cons] at h ⊢
    omega
  · omega
theorem add_one (B : Nat) (X : Nat → Prop) (p : Nat) (S : St) (key : ByteArray) (hk : key.size ≤ 140737488351232) (x : OB) (A : Nat → Prop) (v : Value) (w : World) (h : Hid (One B X w p S)) (hB : B ≤ w.heap.size) (hX : ∀ b, X b → b < w.heap.size) (hS : S.length ≤ 1000000) (hx : ObIn w A v x) (hx1 : Bd x.lS) (hx2 : Bd x.lI) (hw : LaidF (fun b => B ≤ b) w) :
    Calls Tryz.prog 13 #[.pointer (some ⟨p, 0, none⟩), .string key, v] w fun e w' => e = .returned (.int .i64 (addE S key x)) ∧ Hid (One B X w' p (addT S key x)) ∧ KF (FX B X) w w' := by
  obtain ⟨W, Q, h1, h2, h3⟩ := h.out
  refine (add_any p S W Q key hk x A v w h1 hS hx hx1 hx2 (hw.mono fun b hb => h2 b (.inl hb))).mono ?_
  rintro e w' ⟨W', Q', rfl, g1, g2, g3, hb⟩
  refine ⟨rfl, Lib.hid ⟨W', Q', g1.out, fun b hb => ?_, fun b hb hx => ?_⟩, hb.mono fun b _ hW => ⟨h2 b (.inl hW), h3 b (.inl hW)⟩⟩
  · rcases hb with hb | hb
    · rcases g2.out b hb with e | e
      · exact h2 b (.inl e)
      · omega
    · rcases g3.out b hb with e | e
      · exact h2 b (.inr e)
      · omega
  · rcases hb with hb | hb
    · rcases g2.out b hb with e | e
      · exact h3 b (.inl e) hx
      · have := hX b hx; omega
    · rcases g3.out b hb with e | e
      · exact h3 b (.inr e) hx
      · have := hX b hx; omega
theorem set_one (B : Nat) (X : Nat → Prop) (p : Nat) (S : St) (key : ByteArray) (hk : key.size ≤ 140737488351232) (x : OB) (A : Nat → Prop) (v : Value) (w : World) (h : Hid (One B X w p S)) (hB : B ≤ w.heap.size) (hX : ∀ b, X b → b < w.heap.size) (hS : S.length ≤ 1000000) (hx : ObIn w A v x) :
    Calls Tryz.prog 16 #[.pointer (some ⟨p, 0, none⟩), .string key, v] w fun e w' => e = .returned (.int .i64 (setE S key x)) ∧ Hid (One B X w' p (setT S key x)) ∧ KF (FX B X) w w' := by
  obtain ⟨W, Q, h1, h2, h3⟩ := h.out
  refine (set_any p S W Q key (by unfold maxLen; omega) x A v w h1 hS hx).mono ?_
  rintro e w' ⟨Q', rfl, g1, g3, hb⟩
  refine ⟨rfl, Lib.hid ⟨W, Q', g1.out, fun b hb => ?_, fun b hb hx => ?_⟩, hb.mono fun b _ hW => ⟨h2 b (.inl hW), h3 b (.inl hW)⟩⟩
  · rcases hb with hb | hb
    · exact h2 b (.inl hb)
    · rcases g3.out b hb with e | e
      · exact h2 b (.inr e)
      · omega
  · rcases hb with hb | hb
    · exact h3 b (.inl hb) hx
    · rcases g3.out b hb with e | e
      · exact h3 b (.inr e) hx
      · have := hX b hx; omega
theorem get_one (B : Nat) (X : Nat → Prop) (p : Nat) (S : St) (key : ByteArray) (hk : key.size ≤ 140737488351232) (w : World) (h : Hid (One B X w p S)) :
    Calls Tryz.prog 12 #[.pointer (some ⟨p, 0, none⟩), .string key] w fun e w' => ∃ a c, e = .returned (.tuple #[.agg (ox (((getS S key).getD OB0).raw a c)), .bool (getS S key).isSome]) ∧ Hid (ObIn w' (fun b => w.heap.size ≤ b) (.agg (ox (((getS S key).getD OB0).raw a c))) ((getS S key).getD OB0)) ∧ Below w.heap.size w w' := by
  obtain ⟨W, Q, h1, _, _⟩ := h.out
  exact get_any p S W Q key (by unfold maxLen; omega) w h1
theorem len_one (B : Nat) (X : Nat → Prop) (p : Nat) (S : St) (w : World) (h : Hid (One B X w p S)) :
    Calls Tryz.prog 20 #[.pointer (some ⟨p, 0, none⟩)] w fun e w' => e = .returned (.int .i64 (S.length : Int)) ∧ Below w.heap.size w w' := by
  obtain ⟨W, Q, h1, _, _⟩ := h.out
  exact len_any p S W Q w h1
theorem names_one (B : Nat) (X : Nat → Prop) (p : Nat) (S : St) (w : World) (h : Hid (One B X w p S)) (h12 : S.length ≤ 12) (hw : Laid w) :
    Calls Tryz.prog 18 #[.pointer (some ⟨p, 0, none⟩)] w fun e w' => ∃ v, e = .returned v ∧ Hid (w'.ownsRow w.heap.size 9 1 v (S.map (·.1)).length ((S.map (·.1)).map .string)) ∧ Below w.heap.size w w' := by
  obtain ⟨W, Q, h1, _, _⟩ := h.out
  exact names_any p S W Q w h1 h12 hw
theorem of_one (B : Nat) (X : Nat → Prop) (p : Nat) (S : St) (lS lI : ByteArray) (h3 : Bd lS) (h4 : Bd lI) (w : World) (h : Hid (One B X w p S)) (hS : S.length ≤ 1000000) (hw : Laid w) :
    Calls Tryz.prog 19 #[.pointer (some ⟨p, 0, none⟩), .agg #[.string lS, .string lI]] w fun e w' => ∃ v, e = .returned v ∧ Hid (w'.ownsRow w.heap.size 9 1 v (namesOf S lS lI).length ((namesOf S lS lI).map .string)) ∧ Below w.heap.size w w' := by
  obtain ⟨W, Q, h1, _, _⟩ := h.out
  exact of_any p S W Q lS lI h3 h4 w h1 hS hw
theorem same_one (B B' : Nat) (X X' : Nat → Prop) (p q : Nat) (S H : St) (w : World) (h : Hid (One B X w p S)) (g : Hid (One B' X' w q H)) (hS : S.length ≤ 1000000) (hH : H.length ≤ 1000000) :
    Calls Tryz.prog 15 #[.pointer (some ⟨p, 0, none⟩), .pointer (some ⟨q, 0, none⟩)] w fun e w' => e = .returned (.bool (decide (S = H))) ∧ Below w.heap.size w w' := by
  obtain ⟨W, Q, h1, _, _⟩ := h.out
  obtain ⟨W', Q', g1, _, _⟩ := g.out
  exact same_any p q S H W Q W' Q' w h1 g1 hS hH
/-- two stores, neither of which may turn what the other reads -/
def Two (B : Nat) (X : Nat → Prop) (w : World) (p : Nat) (S : St) (q : Nat) (H : St) : Prop := ∃ W Q W' Q', StoreAt w p S W Q ∧ StoreAt w q H W' Q' ∧ (∀ b, W b ∨ Q b → B ≤ b) ∧ (∀ b, W' b ∨ Q' b → B ≤ b) ∧ (∀ b, (W b ∨ Q b) ∨ W' b ∨ Q' b → ¬ X b) ∧ (∀ b, W b → ¬ (W' b ∨ Q' b)) ∧ ∀ b, W' b → ¬ (W b ∨ Q b)
theorem Two.swap {B : Nat} {X : Nat → Prop} {w : World} {p : Nat} {S : St} {q : Nat} {H : St} (h : Two B X w p S q H) : Two B X w q H p S := by
  obtain ⟨W, Q, W', Q', h1, h2, h3, h4, h5, h6, h7⟩ := h
  exact ⟨W', Q', W, Q, h2, h1, h4, h3, fun b hb => h5 b hb.symm, h7, h6⟩
theorem Two.below {B : Nat} {X : Nat → Prop} {w w' : World} {p : Nat} {S : St} {q : Nat} {H : St} (h : Two B X w p S q H) (hb : Below w.heap.size w w') : Two B X w' p S q H := by
  obtain ⟨W, Q, W', Q', h1, h2, h3⟩ := h
  exact ⟨W, Q, W', Q', h1.below hb, h2.below hb, h3⟩
theorem hid_two {B : Nat} {X : Nat → Prop} {w w' : World} {p : Nat} {S : St} {q : Nat} {H : St} (h : Hid (Two B X w p S q H)) (hb : Below w.heap.size w w') : Hid (Two B X w' p S q H) := Lib.hid (h.out.below hb)
theorem Two.fresh {B : Nat} {X Y : Nat → Prop} {w : World} {p : Nat} {S : St} {q : Nat} {H : St} (h : Two B X w p S q H) (hY : ∀ b, Y b → X b ∨ w.heap.size ≤ b) : Two B Y w p S q H := by
  obtain ⟨W, Q, W', Q', h1, h2, h3, h4, h5, h6⟩ := h
  refine ⟨W, Q, W', Q', h1, h2, h3, h4, fun b hb hy => ?_, h6⟩
  rcases hY b hy with hx | hx
  · exact h5 b hb hx
  · rcases hb with hb | hb
    · have := h1.lt b hb; omega
    · have := h2.lt b hb; omega
theorem two_st {B : Nat} {X : Nat → Prop} {w : World} {p : Nat} {S : St} {q : Nat} {H : St} (h : Hid (Two B X w p S q H)) {b : Nat} (hb : X b) (o : Nat) (vs : List Value) : Hid (Two B X (w.setCells b o vs) p S q H) := by
  obtain ⟨W, Q, W', Q', h1, h2, h3, h4, h5, h6⟩ := h.out
  have k : KF (fun j => j = b) w (w.setCells b o vs) := kf_setCells (F := fun j => j = b) (KF.refl _ w) (.inl rfl) o vs
  exact Lib.hid ⟨W, Q, W', Q', h1.kf k fun j hj e => h5 j (.inl hj) (by rw [e]; exact hb), h2.kf k fun j hj e => h5 j (.inr hj) (by rw [e]; exact hb), h3, h4, h5, h6⟩
theorem Two.left {B : Nat} {X : Nat → Prop} {w : World} {p : Nat} {S : St} {q : Nat} {H : St} (h : Two B X w p S q H) : One B X w p S := by
  obtain ⟨W, Q, W', Q', h1, h2, h3, h4, h5, h6⟩ := h
  exact ⟨W, Q, h1, h3, fun b hb => h5 b (.inl hb)⟩
theorem Two.right {B : Nat} {X : Nat → Prop} {w : World} {p : Nat} {S : St} {q : Nat} {H : St} (h : Two B X w p S q H) : One B X w q H := h.swap.left
theorem hideS_length (S : St) (lS lI : ByteArray) : (hideS S lS lI).length ≤ S.length := by
  unfold hideS
  exact List.length_filter_le _ _
/-- Hide of a store, the first one kept -/
theorem hide_one (B : Nat) (X : Nat → Prop) (p : Nat) (S : St) (lS lI : ByteArray) (h3 : Bd lS) (h4 : Bd lI) (w : World) (h : Hid (One B X w p S)) (hB : B ≤ w.heap.size) (hX : ∀ b, X b → b < w.heap.size) (hS : S.length ≤ 1000000) (hw : Laid w) :
    Calls Tryz.prog 11 #[.pointer (some ⟨p, 0, none⟩), .agg #[.string lS, .string lI]] w fun e w' => ∃ q, e = .returned (.pointer (some ⟨q, 0, none⟩)) ∧ Hid (Two B X w' p S q (hideS S lS lI)) ∧ Below w.heap.size w w' := by
  obtain ⟨W, Q, h1, h2, h5⟩ := h.out
  refine (hide_any p S W Q lS lI h3 h4 w h1 hS hw).mono ?_
  rintro e w' ⟨q, W', Q', rfl, g1, g2, g3, hb⟩
  refine ⟨q, rfl, Lib.hid ⟨W, Q, W', Q', h1.below hb, g1.out, h2, fun b hb => ?_, fun b hb hx => ?_, fun b hb hq => ?_, fun b hb hq => ?_⟩, hb⟩
  · rcases hb with hb | hb
    · exact Nat.le_trans hB (g2.out b hb)
    · rcases g3.out b hb with e | e
      · exact h2 b (.inr e.1)
      · omega
  · rcases hb with hb | hb
    · exact h5 b hb hx
    · rcases hb with hb | hb
      · have := g2.out b hb; have := hX b hx; omega
      · rcases g3.out b hb with e | e
        · exact h5 b (.inr e.1) hx
        · have := hX b hx; omega
  · have h0 := h1.lt b (.inl hb)
    rcases hq with hq | hq
    · have := g2.out b hq; omega
    · rcases g3.out b hq with e | e
      · exact e.2 hb
      · omega
  · have := g2.out b hb
    have := h1.lt b hq
    omega
theorem hide_two (B : Nat) (X : Nat → Prop) (p : Nat) (S : St) (lS lI : ByteArray) (h3 : Bd lS) (h4 : Bd lI) (w : World) (h : Hid (One B X w p S)) (hB : B ≤ w.heap.size) (hX : ∀ b, X b → b < w.heap.size) (hS : S.length ≤ 1000000) (hw : Laid w) :
    Calls Tryz.prog 11 #[.pointer (some ⟨p, 0, none⟩), .agg #[.string lS, .string lI]] w fun e w' => ∃ q, e = .returned (.pointer (some ⟨q, 0, none⟩)) ∧ Hid (One B X w' q (hideS S lS lI)) ∧ Below w.heap.size w w' :=
  (hide_one B X p S lS lI h3 h4 w h hB hX hS hw).mono fun _ _ ⟨q, h1, h2, h3⟩ => ⟨q, h1, Lib.hid h2.out.right, h3⟩
theorem add_l (B : Nat) (X : Nat → Prop) (p : Nat) (S : St) (q : Nat) (H : St) (key : ByteArray) (hk : key.size ≤ 140737488351232) (x : OB) (A : Nat → Prop) (v : Value) (w : World) (h : Hid (Two B X w p S q H)) (hB : B ≤ w.heap.size) (hX : ∀ b, X b → b < w.heap.size) (hS : S.length ≤ 1000000) (hx : ObIn w A v x) (hx1 : Bd x.lS) (hx2 : Bd x.lI) (hw : LaidF (fun b => B ≤ b) w) :
    Calls Tryz.prog 13 #[.pointer (some ⟨p, 0, none⟩), .string key, v] w fun e w' => e = .returned (.int .i64 (addE S key x)) ∧ Hid (Two B X w' p (addT S key x) q H) ∧ KF (FX B X) w w' := by
  obtain ⟨W, Q, U, V, h1, h2, h3, h4, h5, h6, h7⟩ := h.out
  refine (add_any p S W Q key hk x A v w h1 hS hx hx1 hx2 (hw.mono fun b hb => h3 b (.inl hb))).mono ?_
  rintro e w' ⟨W', Q', rfl, g1, g2, g3, hb⟩
  have hlt := h2.lt
  refine ⟨rfl, Lib.hid ⟨W', Q', U, V, g1.out, h2.kf hb fun b hb hW => h6 b hW hb, fun b hb => ?_, h4, fun b hb hx => ?_, fun b hb hq => ?_, fun b hb hq => ?_⟩, hb.mono fun b _ hW => ⟨h3 b (.inl hW), h5 b (.inl (.inl hW))⟩⟩
  · rcases hb with hb | hb
    · rcases g2.out b hb with e | e
      · exact h3 b (.inl e)
      · omega
    · rcases g3.out b hb with e | e
      · exact h3 b (.inr e)
      · omega
  · rcases hb with hb | hb
    · rcases hb with hb | hb
      · rcases g2.out b hb with e | e
        · exact h5 b (.inl (.inl e)) hx
        · have := hX b hx; omega
      · rcases g3.out b hb with e | e
        · exact h5 b (.inl (.inr e)) hx
        · have := hX b hx; omega
    · exact h5 b (.inr hb) hx
  · rcases g2.out b hb with e | e
    · exact h6 b e hq
    · have := hlt b hq; omega
  · have := hlt b (.inl hb)
    rcases hq with hq | hq
    · rcases g2.out b hq with e | e
      · exact h7 b hb (.inl e)
      · omega
    · rcases g3.out b hq with e | e
      · exact h7 b hb (.inr e)
      · omega
theorem add_r (B : Nat) (X : Nat → Prop) (p : Nat) (S : St) (q : Nat) (H : St) (key : ByteArray) (hk : key.size ≤ 140737488351232) (x : OB) (A : Nat → Prop) (v : Value) (w : World) (h : Hid (Two B X w p S q H)) (hB : B ≤ w.heap.size) (hX : ∀ b, X b → b < w.heap.size) (hS : H.length ≤ 1000000) (hx : ObIn w A v x) (hx1 : Bd x.lS) (hx2 : Bd x.lI) (hw : LaidF (fun b => B ≤ b) w) :
    Calls Tryz.prog 13 #[.pointer (some ⟨q, 0, none⟩), .string key, v] w fun e w' => e = .returned (.int .i64 (addE H key x)) ∧ Hid (Two B X w' p S q (addT H key x)) ∧ KF (FX B X) w w' :=
  (add_l B X q H p S key hk x A v w (Lib.hid h.out.swap) hB hX hS hx hx1 hx2 hw).mono fun _ _ ⟨h1, h2, h3⟩ => ⟨h1, Lib.hid h2.out.swap, h3⟩
theorem set_l (B : Nat) (X : Nat → Prop) (p : Nat) (S : St) (q : Nat) (H : St) (key : ByteArray) (hk : key.size ≤ 140737488351232) (x : OB) (A : Nat → Prop) (v : Value) (w : World) (h : Hid (Two B X w p S q H)) (hB : B ≤ w.heap.size) (hX : ∀ b, X b → b < w.heap.size) (hS : S.length ≤ 1000000) (hx : ObIn w A v x) :
    Calls Tryz.prog 16 #[.pointer (some ⟨p, 0, none⟩), .string key, v] w fun e w' => e = .returned (.int .i64 (setE S key x)) ∧ Hid (Two B X w' p (setT S key x) q H) ∧ KF (FX B X) w w' := by
  obtain ⟨W, Q, U, V, h1, h2, h3, h4, h5, h6, h7⟩ := h.out
  refine (set_any p S W Q key (by unfold maxLen; omega) x A v w h1 hS hx).mono ?_
  rintro e w' ⟨Q', rfl, g1, g3, hb⟩
  have hlt := h2.lt
  refine ⟨rfl, Lib.hid ⟨W, Q', U, V, g1.out, h2.kf hb fun b hb hW => h6 b hW hb, fun b hb => ?_, h4, fun b hb hx => ?_, h6, fun b hb hq => ?_⟩, hb.mono fun b _ hW => ⟨h3 b (.inl hW), h5 b (.inl (.inl hW))⟩⟩
  · rcases hb with hb | hb
    · exact h3 b (.inl hb)
    · rcases g3.out b hb with e | e
      · exact h3 b (.inr e)
      · omega
  · rcases hb with (hb | hb) | hb
    · exact h5 b (.inl (.inl hb)) hx
    · rcases g3.out b hb with e | e
      · exact h5 b (.inl (.inr e)) hx
      · have := hX b hx; omega
    · exact h5 b (.inr hb) hx
  · have := hlt b (.inl hb)
    rcases hq with hq | hq
    · exact h7 b hb (.inl hq)
    · rcases g3.out b hq with e | e
      · exact h7 b hb (.inr e)
      · omega
theorem set_r (B : Nat) (X : Nat → Prop) (p : Nat) (S : St) (q : Nat) (H : St) (key : ByteArray) (hk : key.size ≤ 140737488351232) (x : OB) (A : Nat → Prop) (v : Value) (w : World) (h : Hid (Two B X w p S q H)) (hB : B ≤ w.heap.size) (hX : ∀ b, X b → b < w.heap.size) (hS : H.length ≤ 1000000) (hx : ObIn w A v x) :
    Calls Tryz.prog 16 #[.pointer (some ⟨q, 0, none⟩), .string key, v] w fun e w' => e = .returned (.int .i64 (setE H key x)) ∧ Hid (Two B X w' p S q (setT H key x)) ∧ KF (FX B X) w w' :=
  (set_l B X q H p S key hk x A v w (Lib.hid h.out.swap) hB hX hS hx).mono fun _ _ ⟨h1, h2, h3⟩ => ⟨h1, Lib.hid h2.out.swap, h3⟩
/-- a thing of memory that the stores do not turn -/
theorem ObIn.fx {B : Nat} {X A : Nat → Prop} {w w' : World} {v : Value} {x : OB} (h : ObIn w A v x) (g : KF (FX B X) w w') (hA : ∀ b, A b → b < B ∨ X b) : ObIn w' A v x := h.kf g fun b hb hf => by
  rcases hA b hb with e | e
  · have := hf.1; omega
  · exact hf.2 e
theorem mem_fx {B : Nat} {X : Nat → Prop} {w w' : World} {a : Nat} {o : Obj} (h : w.heap[a]? = some o) (g : KF (FX B X) w w') (hn : a < B ∨ X a) : w'.heap[a]? = some o := mem_kf h g fun e => by
  rcases hn with h | h
  · have := e.1; omega
  · exact e.2 h
end Go.Proofs.YtlkgcidhhngfeaaGreatDoor
/- The chapter's examples: what each step leaves, in plain words. -/
namespace Go.Proofs.YtlkgcidhhngfeaaGreatDoor
open Go.RowKit Go.Maps
def s10 : ByteArray := ⟨#[49, 48]⟩
def s9 : ByteArray := ⟨#[57]⟩
def s1 : ByteArray := ⟨#[49]⟩
def sx : ByteArray := ⟨#[120]⟩
def exA : OB := { OB0 with kd := 4, lS := ⟨#[1]⟩, vk := 1, vx := 3 }
def exB : OB := { OB0 with kd := 3 }
def exC : OB := { OB0 with kd := 4, lS := ⟨#[1]⟩, vk := 1, vx := 4 }
def exAo : Ox := exA.raw none 0
def exBo : Ox := exB.raw none 0
def exCo : Ox := exC.raw none 0
def st1 : St := [(s10, exA)]
def st2 : St := [(s9, exB), (s10, exA)]
def st3 : St := [(s9, exB), (s10, exC)]
def st4 : St := [(s9, exB)]
theorem e1 : addE [] s10 exA = 0 := by decide +kernel
theorem t1 : addT [] s10 exA = st1 := by decide +kernel
theorem e2 : addE st1 s9 exB = 0 := by decide +kernel
theorem t2 : addT st1 s9 exB = st2 := by decide +kernel
theorem e3 : addE st2 s10 exA = 12 := by decide +kernel
theorem t3 : addT st2 s10 exA = st2 := by decide +kernel
theorem e4 : addE st2 sx exA = 1 := by decide +kernel
theorem t4 : addT st2 sx exA = st2 := by decide +kernel
theorem e5 : setE st2 s10 exC = 0 := by decide +kernel
theorem t5 : setT st2 s10 exC = st3 := by decide +kernel
theorem e6 : setE st3 s9 exC = 11 := by decide +kernel
theorem t6 : setT st3 s9 exC = st3 := by decide +kernel
theorem e7 : setE st3 s1 exC = 10 := by decide +kernel
theorem t7 : setT st3 s1 exC = st3 := by decide +kernel
theorem g8 : getS st3 s10 = some exC := by decide +kernel
theorem h8 : hideS st3 ⟨#[]⟩ ⟨#[]⟩ = st4 := by decide +kernel
theorem g9 : getS st4 s10 = none := by decide +kernel
theorem n8 : st3.map (·.1) = [s9, s10] := rfl
end Go.Proofs.YtlkgcidhhngfeaaGreatDoor
