/- The state of the law on order in memory: the variable, three lists, no two in one block. -/
import Derived.Test.YtdpmilffadalkaaDoorMvTail
import Derived.Test.YtdpmilffadalkaaDoorWMvarCounts
namespace Go.Proofs.YtdpmilffadalkaaDoor
open Go.RowKit
def nv (l : List Int) : List Value := l.map (Value.int .i64)
def sv (l : List ByteArray) : List Value := l.map Value.string
theorem nv_len (l : List Int) : (nv l).length = l.length := by simp [nv]
theorem sv_len (l : List ByteArray) : (sv l).length = l.length := by simp [sv]
/-- not in one block -/
def ap (a b : Value) : Prop := ∀ k, a.ownBlock = some k → b.ownBlock = some k → False
theorem ap.symm {a b : Value} (h : ap a b) : ap b a := fun k h1 h2 => h k h2 h1
theorem ap.ne {a b : Value} (h : ap a b) : a.ownBlock ≠ b.ownBlock ∨ a.ownBlock = none := by
  cases hk : a.ownBlock with
  | none => exact .inr rfl
  | some k => exact .inl fun e => h k hk e.symm
structure St (bx : Nat) (x : VM) (aq : Option Addr) (cq : Nat) (vi : Value) (inn : List Int) (vo : Value) (out : List Int) (vt : Value) (tk : List ByteArray) (w : World) : Prop where
  X : XBox bx x aq cq w
  I : TailV (bx + 1) w 2 vi (nv inn)
  O : TailV (bx + 1) w 2 vo (nv out)
  K : TailV (bx + 1) w 9 vt (sv tk)
  io : ap vi vo
  ik : ap vi vt
  ok : ap vo vt
  iq : ap vi (.slice aq x.q.length cq)
  oq : ap vo (.slice aq x.q.length cq)
  kq : ap vt (.slice aq x.q.length cq)
theorem OwnQ.kept {B : Nat} {w w' : World} {v : Value} {l : List Wt} {row : Option Nat} (h : OwnQ B w v l) (hg : w.grownBy w' row) (hne : v.ownBlock ≠ row ∨ v.ownBlock = none) : OwnQ B w' v l := World.ownsRow.kept h hg hne.symm
theorem XBox.kept {bx : Nat} {x : VM} {aq : Option Addr} {cq : Nat} {w w' : World} {row : Option Nat} (h : XBox bx x aq cq w) (hg : w.grownBy w' row) (hr : ∀ k, row = some k → bx < k) (hne : (Value.slice aq x.q.length cq).ownBlock ≠ row ∨ (Value.slice aq x.q.length cq).ownBlock = none) : XBox bx x aq cq w' :=
  ⟨(hg.block bx (Mem.lt h.box) (fun e => by have := hr bx e.symm; omega)).trans h.box, h.own.kept hg hne⟩
section
variable {bx : Nat} {x : VM} {aq : Option Addr} {cq : Nat} {vi : Value} {inn : List Int} {vo : Value} {out : List Int} {vt : Value} {tk : List ByteArray} {w w' : World}
theorem St.below (h : St bx x aq cq vi inn vo out vt tk w) (hb : Below w.heap.size w w') : St bx x aq cq vi inn vo out vt tk w' :=
  ⟨⟨(hb.block _ (Mem.lt h.X.box)).trans h.X.box, h.X.own.keep hb⟩, h.I.below hb, h.O.below hb, h.K.below hb, h.io, h.ik, h.ok, h.iq, h.oq, h.kq⟩
theorem own_lt {v : Value} {l : List Wt} {B : Nat} (h : OwnQ B w v l) : ∀ k, v.ownBlock = some k → B ≤ k ∧ k < w.heap.size := fun k hk => World.ownsRow.lt h k hk
/-- behind an append: a block is the old one, or new -/
theorem ap_new {a v v' : Value} (h : ap v a) (hlt : ∀ k, a.ownBlock = some k → k < w.heap.size) (hat : v'.ownBlock = v.ownBlock ∨ ∃ k, v'.ownBlock = some k ∧ w.heap.size ≤ k) : ap v' a := by
  intro k h1 h2
  rcases hat with e | ⟨k', e, hk'⟩
  · exact h k (e ▸ h1) h2
  · rw [e] at h1
    have := hlt k h2
    cases h1
    omega
theorem St.appI (h : St bx x aq cq vi inn vo out vt tk w) {vi' : Value} {n : Int} (hT : TailV (bx + 1) w' 2 vi' (nv inn ++ [.int .i64 n])) (hg : w.grownBy w' vi.ownBlock) (hat : vi'.ownBlock = vi.ownBlock ∨ ∃ k, vi'.ownBlock = some k ∧ w.heap.size ≤ k) :
    St bx x aq cq vi' (inn ++ [n]) vo out vt tk w' :=
  ⟨h.X.kept hg (fun k hk => by have := (h.I.low k hk).1; omega) h.iq.symm.ne, by simpa [nv] using hT, h.O.kept hg h.io.symm.ne, h.K.kept hg h.ik.symm.ne,
   ap_new h.io (fun k hk => (h.O.low k hk).2) hat, ap_new h.ik (fun k hk => (h.K.low k hk).2) hat, h.ok, ap_new h.iq (fun k hk => (own_lt h.X.own k hk).2) hat, h.oq, h.kq⟩
theorem St.appO (h : St bx x aq cq vi inn vo out vt tk w) {vo' : Value} {n : Int} (hT : TailV (bx + 1) w' 2 vo' (nv out ++ [.int .i64 n])) (hg : w.grownBy w' vo.ownBlock) (hat : vo'.ownBlock = vo.ownBlock ∨ ∃ k, vo'.ownBlock = some k ∧ w.heap.size ≤ k) :
    St bx x aq cq vi inn vo' (out ++ [n]) vt tk w' :=
  ⟨h.X.kept hg (fun k hk => by have := (h.O.low k hk).1; omega) h.oq.symm.ne, h.I.kept hg h.io.ne, by simpa [nv] using hT, h.K.kept hg h.ok.symm.ne,
   (ap_new h.io.symm (fun k hk => (h.I.low k hk).2) hat).symm, h.ik, ap_new h.ok (fun k hk => (h.K.low k hk).2) hat, h.iq, ap_new h.oq (fun k hk => (own_lt h.X.own k hk).2) hat, h.kq⟩
theorem St.appK (h : St bx x aq cq vi inn vo out vt tk w) {vt' : Value} {s : ByteArray} (hT : TailV (bx + 1) w' 9 vt' (sv tk ++ [.string s])) (hg : w.grownBy w' vt.ownBlock) (hat : vt'.ownBlock = vt.ownBlock ∨ ∃ k, vt'.ownBlock = some k ∧ w.heap.size ≤ k) :
    St bx x aq cq vi inn vo out vt' (tk ++ [s]) w' :=
  ⟨h.X.kept hg (fun k hk => by have := (h.K.low k hk).1; omega) h.kq.symm.ne, h.I.kept hg h.ik.ne, h.O.kept hg h.ok.ne, by simpa [sv] using hT,
   h.io, (ap_new h.ik.symm (fun k hk => (h.I.low k hk).2) hat).symm, (ap_new h.ok.symm (fun k hk => (h.O.low k hk).2) hat).symm, h.iq, h.oq, ap_new h.kq (fun k hk => (own_lt h.X.own k hk).2) hat⟩
/-- behind a call that made a new list, and the store of the new variable -/
theorem St.setX {W : World} (h : St bx x aq cq vi inn vo out vt tk W) (hb : Below W.heap.size W w) {y : VM} {a' : Option Addr} {c' : Nat} (hq : OwnQ W.heap.size w (.slice a' y.q.length c') y.q) (L : List Value)
    (hL : L = [.bool y.full, .int .i64 y.v.k, .int .i64 y.v.n, .string y.v.nm, .string y.v.s, .string y.v.i, .slice a' y.q.length c']) : St bx y a' c' vi inn vo out vt tk (w.setCells bx 0 L) := by
  have h1 := h.below hb
  have hbW : bx < W.heap.size := Mem.lt h.X.box
  have hlt : ∀ k, (Value.slice a' y.q.length c').ownBlock = some k → W.heap.size ≤ k := fun k hk => (own_lt hq k hk).1
  subst hL
  refine ⟨⟨set_block h1.X.box _ rfl, OwnQ.low (own_set hq hbW _ 0) hbW⟩, h1.I.setOther (by omega) _ _, h1.O.setOther (by omega) _ _, h1.K.setOther (by omega) _ _, h.io, h.ik, h.ok, ?_, ?_, ?_⟩
  · intro k h2 h3; have := (h.I.low k h2).2; have := hlt k h3; omega
  · intro k h2 h3; have := (h.O.low k h2).2; have := hlt k h3; omega
  · intro k h2 h3; have := (h.K.low k h2).2; have := hlt k h3; omega
theorem St.setY (h : St bx x aq cq vi inn vo out vt tk w) {n : Nat} (hbn : bx < n) (h1 : ∀ k, vi.ownBlock = some k → k < n) (h2 : ∀ k, vo.ownBlock = some k → k < n) (h3 : ∀ k, vt.ownBlock = some k → k < n) {y : VM} {a' : Option Addr} {c' : Nat} (hq : OwnQ n w (.slice a' y.q.length c') y.q) (L : List Value)
    (hL : L = [.bool y.full, .int .i64 y.v.k, .int .i64 y.v.n, .string y.v.nm, .string y.v.s, .string y.v.i, .slice a' y.q.length c']) : St bx y a' c' vi inn vo out vt tk (w.setCells bx 0 L) := by
  have hlt : ∀ k, (Value.slice a' y.q.length c').ownBlock = some k → n ≤ k := fun k hk => (own_lt hq k hk).1
  subst hL
  refine ⟨⟨set_block h.X.box _ rfl, OwnQ.low (own_set hq hbn _ 0) hbn⟩, h.I.setOther (by omega) _ _, h.O.setOther (by omega) _ _, h.K.setOther (by omega) _ _, h.io, h.ik, h.ok, ?_, ?_, ?_⟩
  · intro k h4 h5; have := h1 k h4; have := hlt k h5; omega
  · intro k h4 h5; have := h2 k h4; have := hlt k h5; omega
  · intro k h4 h5; have := h3 k h4; have := hlt k h5; omega
theorem St.al (h : St bx x aq cq vi inn vo out vt tk w) (o : Obj) : St bx x aq cq vi inn vo out vt tk (w.alloc o) := h.below (below_al (Below.refl _ _) o)
/-- all blocks of the lists lie below -/
structure StLow (bx : Nat) (vi vo vt : Value) (n : Nat) : Prop where
  b : bx < n
  i : ∀ k, vi.ownBlock = some k → k < n
  o : ∀ k, vo.ownBlock = some k → k < n
  t : ∀ k, vt.ownBlock = some k → k < n
theorem St.lows (h : St bx x aq cq vi inn vo out vt tk w) {n : Nat} (hn : w.heap.size ≤ n) : StLow bx vi vo vt n :=
  ⟨Nat.lt_of_lt_of_le (Mem.lt h.X.box) hn, fun k hk => Nat.lt_of_lt_of_le (h.I.low k hk).2 hn, fun k hk => Nat.lt_of_lt_of_le (h.O.low k hk).2 hn, fun k hk => Nat.lt_of_lt_of_le (h.K.low k hk).2 hn⟩
end
end Go.Proofs.YtdpmilffadalkaaDoor
