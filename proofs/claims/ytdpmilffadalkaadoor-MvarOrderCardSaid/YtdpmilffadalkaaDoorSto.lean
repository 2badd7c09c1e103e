/- A region that draws its order, reads, makes memory by its calls, and writes its results into cells of the call's own, behind all that it reads: one walk of the text's order. It speaks of no program. -/
import Derived.Deep.Quiet
import Derived.StillTail
import Derived.BigQuiet
import Derived.Laws.Tables
import Derived.Below
namespace Go.Proofs.YtdpmilffadalkaaDoor
open Go.RowKit
structure Box where
  i : Nat
  b : Nat
  T : TypeId
  n : Nat
/-- the world w, but for what the boxes hold and what was laid since -/
structure ButBox (bx : List Box) (w w' : World) : Prop where
  os : w'.os = w.os
  tape : w'.tape = w.tape
  output : w'.output = w.output
  size : w.heap.size ≤ w'.heap.size
  block : ∀ k, k < w.heap.size → (∀ x ∈ bx, x.b ≠ k) → w'.heap[k]? = w.heap[k]?
  box : ∀ x ∈ bx, ∃ cs : Array Value, w'.heap[x.b]? = some (.cells cs x.T) ∧ cs.size = x.n
structure Boxed (bx : List Box) (w : World) where
  world : World
  h : ButBox bx w world
theorem ButBox.lt {bx : List Box} {w w' : World} (h : ButBox bx w w') {x : Box} (hx : x ∈ bx) : x.b < w'.heap.size := by
  obtain ⟨cs, hcs, _⟩ := h.box x hx
  exact (Array.getElem?_eq_some_iff.1 hcs).1
theorem ButBox.below {bx : List Box} {w w1 w2 : World} (h : ButBox bx w w1) (hb : Below w1.heap.size w1 w2) : ButBox bx w w2 :=
  ⟨hb.os.trans h.os, hb.tape.trans h.tape, hb.output.trans h.output, Nat.le_trans h.size hb.size, fun k hk hx => (hb.block k (Nat.lt_of_lt_of_le hk h.size)).trans (h.block k hk hx),
   fun x hx => by
    rw [hb.block x.b (h.lt hx)]
    exact h.box x hx⟩
def isSto (o : Oper) : Bool := match o.op with | .store _ _ _ => true | _ => false
def unstoOp (o : Oper) : Oper := match o.op with | .store _ _ _ => { o with op := .assign (.const undef) } | _ => o
def unsto : List Oper → List Oper
  | [] => []
  | o :: l => unstoOp o :: unsto l
theorem unsto_eq : ∀ l : List Oper, unsto l = l.map unstoOp
  | [] => rfl
  | o :: l => by rw [unsto, List.map_cons, unsto_eq l]
theorem unstoOp_after (o : Oper) : (unstoOp o).after = o.after := by unfold unstoOp; split <;> rfl
theorem unstoOp_dst (o : Oper) : (unstoOp o).dst = o.dst := by unfold unstoOp; split <;> rfl
theorem unstoOp_guard (o : Oper) : (unstoOp o).guard = o.guard := by unfold unstoOp; split <;> rfl
theorem unstoOp_not (o : Oper) (h : isSto o = false) : unstoOp o = o := by
  unfold isSto at h
  unfold unstoOp
  split <;> simp_all
theorem unsto_get (l : List Oper) (i : Nat) : (unsto l).toArray[i]? = (l.toArray[i]?).map unstoOp := by
  rw [unsto_eq]
  simp
theorem unsto_ready (md : Region.Mode) (l : List Oper) (listed : Array Bool) : Region.ready md (unsto l).toArray listed = Region.ready md l.toArray listed := by
  unfold Region.ready
  have hs : (unsto l).toArray.size = l.toArray.size := by rw [unsto_eq]; simp
  rw [hs]
  apply List.filter_congr
  intro i _
  rw [unsto_get]
  cases l.toArray[i]? with
  | none => rfl
  | some o => simp only [Option.map_some, unstoOp_after]
theorem unsto_yielded (l : List Oper) (t : Array Value) (j : Nat) : yielded (unsto l).toArray t j = yielded l.toArray t j := by
  unfold yielded
  rw [unsto_get]
  cases l.toArray[j]? with
  | none => rfl
  | some o => simp only [Option.map_some, Option.bind_some, unstoOp_dst]
theorem unsto_wanted (l : List Oper) (t : Array Value) (o : Oper) : Region.wanted (unstoOp o) (yielded (unsto l).toArray t) = Region.wanted o (yielded l.toArray t) := by
  rw [show yielded (unsto l).toArray t = yielded l.toArray t from funext (unsto_yielded l t)]
  unfold Region.wanted
  rw [unstoOp_guard]
/-- operations that may stand beside a store: they only reckon -/
def calm (o : Oper) : Bool := match o.op with | .move _ | .assign _ | .build _ _ | .load _ _ | .fieldAddr _ _ _ => true | _ => false
theorem calm_enter {o : Oper} (h : calm o = true) {ρ : Operand → Value} {P : Program} {w w' : World} {f : FuncId} {args : Array Value} : (execOp ρ o).run P w ≠ .ok (.enter f args) w' := by
  have hv : ∀ s : Sem Value, (do pure (Next.value (← s)) : Sem Next).run P w ≠ .ok (.enter f args) w' := by
    intro s
    rw [Sem.run_bind]
    cases s.run P w with
    | ok v w1 => simp [Result.andThen]
    | halt x w1 => simp [Result.andThen]
  unfold calm at h
  unfold execOp
  split at h
  case h_1 x hx => simp only [hx]; simp
  case h_2 x hx => simp only [hx]; simp
  case h_3 x y hx => simp only [hx]; exact hv _
  case h_4 x y hx => simp only [hx]; exact hv _
  case h_5 x y z hx => simp only [hx]; exact hv _
  case h_6 => cases h

theorem ends_of {P : Program} {md : Region.Mode} {ops : Array Oper} {C : World → Prop} {Q : Act → Prop} (ys : List Operand) : ∀ (fuel : Nat) (listed : Array Bool) (a : Act),
    (∀ (k : Nat) o, ops[k]? = some o → listed.getD k true = false → ∀ d, o.dst = some d → Operand.tmp d ∉ ys) → wpAnyQ P md ops C Q fuel listed a → ∃ a', Q a' ∧ ∀ y ∈ ys, a'.eval y = a.eval y
  | 0, _, a, _, h => ⟨a, h.2, fun _ _ => rfl⟩
  | fuel + 1, listed, a, hd, h => by
    cases hr : Region.ready md ops listed with
    | nil => exact ⟨a, h.1 hr, fun _ _ => rfl⟩
    | cons i is =>
      have hi : i ∈ Region.ready md ops listed := by rw [hr]; simp
      have h1 := h.2 i hi
      obtain ⟨hun, o, ho, _⟩ := mem_ready.1 hi
      obtain ⟨v, _, hK⟩ := yieldsIn_of_qOp ho h1
      have hd' : ∀ (k : Nat) o, ops[k]? = some o → (listed.setIfInBounds i true).getD k true = false → ∀ d, o.dst = some d → Operand.tmp d ∉ ys := by
        intro k ok hk hl
        refine hd k ok hk ?_
        by_cases hik : i = k
        · subst hik; exact hun
        · rwa [getD_set_ne true hik] at hl
      obtain ⟨a', hQ, he⟩ := ends_of ys fuel _ _ hd' hK
      refine ⟨a', hQ, fun y hy => (he y hy).trans (Act.eval_put fun d hdd hy' => ?_)⟩
      subst hy'
      exact hd i o ho hun d hdd hy
/-! what a Bool says of the region -/
def waitsIn (o : Oper) (k : Nat) : Bool := o.after.any fun e => Region.binds .any e && e.on == k
def laysNot (s o : Oper) : Bool := match o.dst with | some d => (s.op.operands.toList.all fun x => match x with | .tmp t => t != d | _ => true) | none => true
def stoB (is : List Nat) (l : List Oper) : Bool :=
  (l.zipIdx.all fun s => (s.1.after.all fun e => !Region.binds .any e || decide (e.on < s.2)) &&
    (!isSto s.1 || (s.1.guard.isNone && s.1.dst.isNone && is.contains s.2 && l.zipIdx.all fun o => isSto o.1 || waitsIn s.1 o.2 || (calm o.1 && laysNot s.1 o.1))))
structure StoB (is : List Nat) (l : List Oper) : Prop where
  back : ∀ (i : Nat) o, l.toArray[i]? = some o → ∀ e ∈ o.after, Region.binds .any e = true → e.on < i
  plain : ∀ (i : Nat) s, l.toArray[i]? = some s → isSto s = true → s.guard = none ∧ s.dst = none ∧ i ∈ is
  first : ∀ (i : Nat) s, l.toArray[i]? = some s → isSto s = true → ∀ (k : Nat) o, l.toArray[k]? = some o → isSto o = false → waitsIn s k = true ∨ (calm o = true ∧ laysNot s o = true)
theorem stoB_spec {is : List Nat} {l : List Oper} (h : stoB is l = true) : StoB is l := by
  unfold stoB at h
  rw [List.all_eq_true] at h
  have hz : ∀ (i : Nat) o, l.toArray[i]? = some o → (o, i) ∈ l.zipIdx := by
    intro i o ho
    rw [List.mem_zipIdx_iff_getElem?]
    simpa using ho
  refine ⟨fun i o ho e he hb => ?_, fun i s hs his => ?_, fun i s hs his k o ho hso => ?_⟩
  · have h1 := h (o, i) (hz i o ho)
    rw [Bool.and_eq_true] at h1
    have h2 := Array.all_eq_true'.1 h1.1 e he
    simpa [hb] using h2
  · have h1 := h (s, i) (hz i s hs)
    simp only [his, Bool.not_true, Bool.false_or, Bool.and_eq_true, Option.isNone_iff_eq_none, List.contains_iff_mem] at h1
    exact ⟨h1.2.1.1.1, h1.2.1.1.2, h1.2.1.2⟩
  · have h1 := h (s, i) (hz i s hs)
    simp only [his, Bool.not_true, Bool.false_or, Bool.and_eq_true] at h1
    have h2 := List.all_eq_true.1 h1.2.2 (o, k) (hz k o ho)
    simpa [hso] using h2

theorem getD_in' {listed : Array Bool} {i : Nat} (hi : i < listed.size) (h : listed.getD i false = false) : listed.getD i true = false := by
  simp [hi] at h ⊢; exact h
theorem getD_both' {listed : Array Bool} {i : Nat} (h : listed.getD i true = false) : listed.getD i false = false := by
  rcases Nat.lt_or_ge i listed.size with h' | h'
  · simp [h'] at h ⊢; exact h
  · simp [Array.getElem?_eq_none h'] at h
def Dn (l : List Oper) (x : Box) (a : Act) (w : World) : Prop := ∀ o, l.toArray[x.i]? = some o → ∀ t p y, o.op = .store t p y → w.heap[x.b]? = some (.cells (a.eval y).cells x.T)
def StoOk (P : Program) (l : List Oper) (x : Box) (a : Act) (cs : Array Value) : Prop :=
  ∃ o t p y, l.toArray[x.i]? = some o ∧ o.op = .store t p y ∧ a.eval p = .pointer (some ⟨x.b, 0, none⟩) ∧ a.eval y = .agg cs ∧ cs.size = x.n ∧ cs.all (·.oneCell') = true ∧ (P.info? t).map (·.size) = some x.n
theorem listed_all {l : List Oper} {is : List Nat} (hB : StoB is l) {listed : Array Bool} (hs : listed.size = l.length) (hr : Region.ready .any l.toArray listed = []) :
    ∀ i, i < l.length → listed.getD i false = true := by
  intro i
  induction i using Nat.strongRecOn with
  | _ i ih =>
    intro hi
    cases hl : listed.getD i false with
    | true => rfl
    | false =>
      have ho : l.toArray[i]? = some l[i] := by simp [hi]
      have : i ∈ Region.ready .any l.toArray listed := mem_ready.2 ⟨getD_in' (by rw [hs]; exact hi) hl, l[i], ho, fun e he hb => ih _ (hB.back i _ ho e he hb) (Nat.lt_trans (hB.back i _ ho e he hb) hi)⟩
      rw [hr] at this
      cases this

theorem waitsIn_spec {o : Oper} {k : Nat} (h : waitsIn o k = true) : ∃ e ∈ o.after, Region.binds .any e = true ∧ e.on = k := by
  obtain ⟨e, he, hb⟩ := Array.any_eq_true'.1 h
  simp only [Bool.and_eq_true, beq_iff_eq] at hb
  exact ⟨e, he, hb.1, hb.2⟩
theorem laysNot_spec {s o : Oper} (h : laysNot s o = true) {t : TypeId} {p y : Operand} (hs : s.op = .store t p y) (d : Tmp) (hd : o.dst = some d) : Operand.tmp d ≠ p ∧ Operand.tmp d ≠ y := by
  unfold laysNot at h
  rw [hd, hs] at h
  simp only [Op.operands, List.all_cons, List.all_nil, Bool.and_true, Bool.and_eq_true] at h
  constructor
  · intro he
    subst he
    simpa using h.1
  · intro he
    subst he
    simpa using h.2
section
variable {P : Program} {l : List Oper} {bx : List Box} {w : World} {Q : Exit → Act → World → Prop}
def SEnd (P : Program) (l : List Oper) (bx : List Box) (w : World) (Q : Exit → Act → World → Prop) (a : Act) : Prop :=
  ∃ V : Box → Array Value, (∀ x ∈ bx, StoOk P l x a (V x)) ∧ ∀ w', ButBox bx w w' → (∀ x ∈ bx, w'.heap[x.b]? = some (.cells (V x) x.T)) → Q .normal a w'
structure SInv (l : List Oper) (bx : List Box) (w : World) (listed : Array Bool) (a : Act) (w1 : World) : Prop where
  size : listed.size = l.length
  closed : ∀ (j : Nat) oj, l.toArray[j]? = some oj → listed.getD j false = true → ∀ e ∈ oj.after, Region.binds .any e = true → listed.getD e.on false = true
  but : ButBox bx w w1
  done : ∀ x ∈ bx, listed.getD x.i false = true → Dn l x a w1
theorem SInv.fin {is : List Nat} (hB : StoB is l) {listed : Array Bool} {a : Act} {w1 : World} (h : SInv l bx w listed a w1) (hr : Region.ready .any l.toArray listed = []) (hQ : SEnd P l bx w Q a) : Q .normal a w1 := by
  obtain ⟨V, hV, hE⟩ := hQ
  refine hE w1 h.but fun x hx => ?_
  obtain ⟨o, t, p, y, ho, hop, _, hy, _⟩ := hV x hx
  have hlt : x.i < l.length := by
    have := (Array.getElem?_eq_some_iff.1 ho).1
    simpa using this
  have := h.done x hx (listed_all hB h.size hr _ hlt) o ho t p y hop
  rw [this, hy]
  rfl
theorem SInv.closed_set {listed : Array Bool} {a : Act} {w1 : World} (h : SInv l bx w listed a w1) {i : Nat} (hi : i ∈ Region.ready .any l.toArray listed) :
    ∀ (j : Nat) oj, l.toArray[j]? = some oj → (listed.setIfInBounds i true).getD j false = true → ∀ e ∈ oj.after, Region.binds .any e = true → (listed.setIfInBounds i true).getD e.on false = true := by
  obtain ⟨_, oi, hoi, hall⟩ := mem_ready.1 hi
  intro j oj hj hl e he hb
  by_cases hij : i = j
  · subst hij
    have : oj = oi := Option.some.inj (hj.symm.trans hoi)
    subst this
    exact getD_set_true (hall e he hb)
  · rw [getD_set_ne false hij] at hl
    exact getD_set_true (h.closed j oj hj hl e he hb)
/-- an operation that is no store, and that has not come up: a store that came up does not look at what it lays -/
theorem SInv.keeps {is : List Nat} (hB : StoB is l) {listed : Array Bool} {a : Act} {w1 : World} (h : SInv l bx w listed a w1) {i : Nat} {o : Oper} (ho : l.toArray[i]? = some o) (hso : isSto o = false)
    (hun : listed.getD i true = false) {j : Nat} {s : Oper} (hs : l.toArray[j]? = some s) (his : isSto s = true) (hl : listed.getD j false = true) : calm o = true ∧ laysNot s o = true := by
  rcases hB.first j s hs his i o ho hso with hw | hw
  · obtain ⟨e, he, hb, hon⟩ := waitsIn_spec hw
    have := h.closed j s hs hl e he hb
    rw [hon, getD_both' hun] at this
    cases this
  · exact hw
theorem SInv.plain {is : List Nat} (hB : StoB is l) {listed : Array Bool} {a : Act} {w1 w2 : World} (h : SInv l bx w listed a w1) {i : Nat} {o : Oper} (hi : i ∈ Region.ready .any l.toArray listed) (ho : l.toArray[i]? = some o)
    (hso : isSto o = false) (v : Value) (hw : w2 = w1 ∨ (calm o = false ∧ ButBox bx w w2)) : SInv l bx w (listed.setIfInBounds i true) (a.put o.dst v) w2 := by
  have hun := (mem_ready.1 hi).1
  refine ⟨by simp [h.size], h.closed_set hi, ?_, fun x hx hl s hs t p y hop => ?_⟩
  · rcases hw with rfl | hw
    · exact h.but
    · exact hw.2
  · have his : isSto s = true := by unfold isSto; rw [hop]
    by_cases hix : i = x.i
    · subst hix
      have : s = o := Option.some.inj (hs.symm.trans ho)
      subst this
      rw [his] at hso
      cases hso
    · rw [getD_set_ne false hix] at hl
      have hk := h.keeps hB ho hso hun hs his hl
      have hw' : w2 = w1 := by
        rcases hw with hw | hw
        · exact hw
        · rw [hk.1] at hw
          cases hw.1
      subst hw'
      rw [h.done x hx hl s hs t p y hop, Act.eval_put (fun d hd hy => (laysNot_spec hk.2 hop d hd).2 hy.symm)]
theorem setRow_get {w : World} {b : Nat} {cs old : Array Value} {T : TypeId} (h : w.heap[b]? = some (.cells old T)) (k : Nat) : (w.setRow b cs).heap[k]? = if k = b then some (.cells cs T) else w.heap[k]? := by
  unfold World.setRow
  simp only [Array.getElem?_modify]
  by_cases hk : b = k
  · subst hk
    simp [h]
  · rw [if_neg hk, if_neg (fun h => hk h.symm)]
theorem SInv.sto (hd : ∀ x ∈ bx, ∀ y ∈ bx, x.i ≠ y.i → x.b ≠ y.b) {listed : Array Bool} {a : Act} {w1 : World} (h : SInv l bx w listed a w1) {x : Box} (hx : x ∈ bx)
    (hi : x.i ∈ Region.ready .any l.toArray listed) {o : Oper} (ho : l.toArray[x.i]? = some o) {t : TypeId} {p y : Operand} (hop : o.op = .store t p y) (hst : ∀ z ∈ bx, z.i = x.i → z.b = x.b)
    {cs : Array Value} (hy : a.eval y = .agg cs) (hn : cs.size = x.n) : SInv l bx w (listed.setIfInBounds x.i true) a (w1.setRow x.b cs) := by
  obtain ⟨old, hold, holdn⟩ := h.but.box x hx
  have hg := setRow_get (cs := cs) hold
  refine ⟨by simp [h.size], h.closed_set hi, ⟨h.but.os, h.but.tape, h.but.output, by unfold World.setRow; simpa using h.but.size, fun k hk hz => ?_, fun z hz => ?_⟩, fun z hz hl s hs t' p' y' hop' => ?_⟩
  · rw [hg, if_neg (fun he => hz x hx he.symm)]
    exact h.but.block k hk hz
  · rw [hg]
    obtain ⟨cz, hcz, hczn⟩ := h.but.box z hz
    by_cases hb : z.b = x.b
    · rw [if_pos hb]
      rw [hb, hold] at hcz
      simp only [Option.some.injEq, Obj.cells.injEq] at hcz
      obtain ⟨e1, e2, _⟩ := hcz
      subst e1
      exact ⟨cs, by rw [e2], by omega⟩
    · rw [if_neg hb]
      exact ⟨cz, hcz, hczn⟩
  · rw [hg]
    by_cases hzi : z.i = x.i
    · have hb := hst z hz hzi
      rw [if_pos hb]
      obtain ⟨cz, hcz, _⟩ := h.but.box z hz
      rw [hb, hold] at hcz
      simp only [Option.some.injEq, Obj.cells.injEq] at hcz
      rw [hzi] at hs
      have : s = o := Option.some.inj (hs.symm.trans ho)
      subst this
      rw [hop] at hop'
      cases hop'
      rw [hy, hcz.2.1]
      rfl
    · rw [if_neg (hd z hz x hx hzi)]
      rw [getD_set_ne false (fun he => hzi he.symm)] at hl
      exact h.done z hz hl s hs t' p' y' hop'
theorem run_sto {t : TypeId} {p y : Operand} {o : Oper} (hop : o.op = .store t p y) {a : Act} {w1 : World} {b : Nat} {T : TypeId} {old cs : Array Value} (hp : a.eval p = .pointer (some ⟨b, 0, none⟩)) (hy : a.eval y = .agg cs)
    (hb : w1.heap[b]? = some (.cells old T)) (hs : old.size = cs.size) (hi : (P.info? t).map (·.size) = some cs.size) (h1 : cs.all (·.oneCell') = true) : (execOp a.eval o).run P w1 = .ok .skip (w1.setRow b cs) := by
  unfold execOp
  simp only [hop, hp, hy]
  rw [Sem.run_bind]
  have := run_storeVar_row (P := P) w1 b T t old cs hb hi hs h1
  simp [Instr.storeAt, Instr.sureAddr, this, Result.andThen]
theorem any_of_sto {is : List Nat} (hB : StoB is l) (hbx : ∀ i ∈ is, ∃ x ∈ bx, x.i = i) (hd : ∀ x ∈ bx, ∀ y ∈ bx, x.i ≠ y.i → x.b ≠ y.b) : ∀ (fuel : Nat) (listed : Array Bool) (a : Act) (w1 : World), SInv l bx w listed a w1 →
    wpAnyQ P .any (unsto l).toArray (fun w' => ButBox bx w w') (SEnd P l bx w Q) fuel listed a → wpAny P .any l.toArray Q fuel listed a w1
  | 0, listed, a, w1, hI, h => by
    have h1 : Region.ready .any l.toArray listed = [] := by rw [← unsto_ready]; exact h.1
    exact ⟨h1, hI.fin hB h1 h.2⟩
  | fuel + 1, listed, a, w1, hI, h => by
    refine ⟨fun hr => hI.fin hB hr (h.1 (by rw [unsto_ready]; exact hr)), fun i hi => ?_⟩
    have h1 := h.2 i (by rw [unsto_ready]; exact hi)
    obtain ⟨hun, o, ho, hall⟩ := mem_ready.1 hi
    have ho' : (unsto l).toArray[i]? = some (unstoOp o) := by rw [unsto_get, ho]; rfl
    obtain ⟨v, hy, hK⟩ := yieldsIn_of_qOp ho' h1
    unfold wpOp
    simp only [ho]
    cases hso : isSto o with
    | false =>
      rw [unstoOp_not o hso] at hy hK
      have hwant : Region.wanted o (yielded (unsto l).toArray a.tmps) = Region.wanted o (yielded l.toArray a.tmps) := by
        have := unsto_wanted l a.tmps o
        rwa [unstoOp_not o hso] at this
      rcases hy with ⟨hw, hq⟩ | ⟨hw, hv⟩
      · rw [if_pos (by rw [← hwant]; exact hw)]
        refine .inl ?_
        have h3 := hq w1 hI.but
        unfold Oper.quietAt at h3
        unfold Oper.wp
        have hce : ∀ f args w', (execOp a.eval o).run P w1 = .ok (.enter f args) w' → calm o = false := by
          intro f args w' he
          cases hc : calm o with
          | false => rfl
          | true => exact absurd he (calm_enter hc)
        generalize (execOp a.eval o).run P w1 = r at *
        cases r with
        | ok n w' =>
          cases n <;> simp only [Oper.quietUpon] at h3 <;> simp only [Oper.upon]
          case value u =>
            obtain ⟨e1, e2⟩ := h3
            rw [e1, e2]
            exact any_of_sto hB hbx hd fuel _ _ _ (hI.plain hB hi ho hso v (.inl rfl)) hK
          case skip =>
            obtain ⟨e1, e2⟩ := h3
            rw [e1, ← e2]
            exact any_of_sto hB hbx hd fuel _ _ _ (hI.plain hB hi ho hso v (.inl rfl)) hK
          case enter f args =>
            obtain ⟨e1, hc⟩ := h3
            rw [e1]
            have hcalm := hce f args w' rfl
            exact hc.mono fun e w'' ⟨he, hw''⟩ => by
              subst he
              exact any_of_sto hB hbx hd fuel _ _ _ (hI.plain hB hi ho hso v (.inr ⟨hcalm, hw''⟩)) hK
        | halt x w' => simp only [Oper.quietUpon] at h3
      · rw [if_neg (by rw [← hwant, hw]; exact Bool.false_ne_true), ← hv]
        exact any_of_sto hB hbx hd fuel _ _ _ (hI.plain hB hi ho hso v (.inl rfl)) hK
    | true =>
      obtain ⟨hg, hdst, hin⟩ := hB.plain i o ho hso
      obtain ⟨x, hx, hxi⟩ := hbx i hin
      subst hxi
      obtain ⟨t, p, y, hop⟩ : ∃ t p y, o.op = .store t p y := by
        unfold isSto at hso
        split at hso
        · exact ⟨_, _, _, by assumption⟩
        · cases hso
      rw [if_pos (by unfold Region.wanted; rw [hg])]
      refine .inl ?_
      obtain ⟨a', ⟨V, hV, _⟩, he⟩ := ends_of (md := .any) [p, y] (fuel + 1) listed a (fun k ok hk hl d hdd hmem => by
        rw [unsto_get] at hk
        obtain ⟨ok', hok', hoke⟩ := Option.map_eq_some_iff.1 hk
        have hd2 : ok'.dst = some d := by rw [← unstoOp_dst, hoke]; exact hdd
        cases hsk : isSto ok' with
        | true =>
          rw [(hB.plain k ok' hok' hsk).2.1] at hd2
          cases hd2
        | false =>
          rcases hB.first x.i o ho hso k ok' hok' hsk with hw | hw
          · obtain ⟨e, hee, hb, hon⟩ := waitsIn_spec hw
            have := hall e hee hb
            rw [hon, getD_both' hl] at this
            cases this
          · have := laysNot_spec hw.2 hop d hd2
            simp [this.1, this.2] at hmem) h
      have hVx := hV x hx
      obtain ⟨o2, t2, p2, y2, ho2, hop2, hp2, hy2, hn2, h12, hi2⟩ := hVx
      have : o2 = o := Option.some.inj (ho2.symm.trans ho)
      subst this
      rw [hop] at hop2
      cases hop2
      rw [he p (by simp)] at hp2
      rw [he y (by simp)] at hy2
      obtain ⟨old, hold, holdn⟩ := hI.but.box x hx
      unfold Oper.wp
      rw [run_sto hop hp2 hy2 hold (by omega) (by rw [hn2]; exact hi2) h12, Oper.upon_skip, hdst]
      have hK2 : wpAnyQ P .any (unsto l).toArray (fun w' => ButBox bx w w') (SEnd P l bx w Q) fuel (listed.setIfInBounds x.i true) a := by
        rw [unstoOp_dst, hdst] at hK
        exact hK
      refine any_of_sto hB hbx hd fuel _ _ _ (hI.sto hd hx hi ho hop (fun z hz hzi => ?_) hy2 hn2) hK2
      obtain ⟨o3, t3, p3, y3, ho3, hop3, hp3, _⟩ := hV z hz
      rw [hzi] at ho3
      have : o3 = o2 := Option.some.inj (ho3.symm.trans ho)
      subst this
      rw [hop] at hop3
      cases hop3
      rw [he p (by simp), hp2] at hp3
      simp only [Value.pointer.injEq, Option.some.injEq, Addr.mk.injEq, and_true] at hp3
      exact hp3.symm
theorem ButBox.refl {bx : List Box} {w : World} (h : ∀ x ∈ bx, ∃ cs : Array Value, w.heap[x.b]? = some (.cells cs x.T) ∧ cs.size = x.n) : ButBox bx w w.drew :=
  ⟨rfl, rfl, rfl, Nat.le_refl _, fun _ _ _ => rfl, h⟩
theorem wp_region_sto {id : Nat} {a : Act} (bx : List Box) (hm : P.follows .mixedOrders = true) (hB : Region.lexB .any (unsto l).toArray = true) (hS : stoB (bx.map (·.i)) l = true)
    (hd : ∀ x ∈ bx, ∀ y ∈ bx, x.i ≠ y.i → x.b ≠ y.b) (h0 : ∀ x ∈ bx, ∃ cs : Array Value, w.heap[x.b]? = some (.cells cs x.T) ∧ cs.size = x.n)
    (h : wpQuiet P (unsto l).toArray (fun w' => ∃ p : Boxed bx w, w' = p.world) (SEnd P l bx w Q) (unsto l) a) : (Code.region id l.toArray true).wp P Q a w := by
  simp only [Region.lexB, Bool.and_eq_true] at hB
  refine wp_region_any hm ?_
  have hC : (fun w' => ∃ p : Boxed bx w, w' = p.world) = fun w' => ButBox bx w w' := by
    funext w'
    exact propext ⟨fun ⟨p, hp⟩ => hp ▸ p.h, fun hp => ⟨⟨w', hp⟩, rfl⟩⟩
  rw [hC] at h
  have := wpAnyQ_lex (md := .any) hB.1 (unsto l) 0 (Array.replicate (unsto l).toArray.size false) a (by simp) (by simpa using hB.2) h
  have hsz : (unsto l).length = l.toArray.size := by rw [unsto_eq]; simp
  have hsz2 : (unsto l).toArray.size = l.toArray.size := by rw [unsto_eq]; simp
  rw [hsz, hsz2] at this
  exact any_of_sto (stoB_spec hS) (fun i hi => by
    obtain ⟨x, hx, hxi⟩ := List.mem_map.1 hi
    exact ⟨x, hx, hxi⟩) hd _ _ _ _ ⟨by simp, fun j oj _ hl => (by rw [getD_replicate_false] at hl; cases hl), ButBox.refl h0, fun x _ hl => (by rw [getD_replicate_false] at hl; cases hl)⟩ this
end
end Go.Proofs.YtdpmilffadalkaaDoor
