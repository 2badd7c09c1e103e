/- maps.Keys over the names' map (its keys are labels), slices.Collect of them. -/
import Derived.Test.YtlkgcidhhngfeaaGreatDoorZB
import Derived.Test.YtlkgcidhhngfeaaGreatDoorOr
import Derived.RangeFuncNested
import Derived.Maps.OwnIn
namespace Go.Proofs.YtlkgcidhhngfeaaGreatDoor
open Go.RowKit Go.Shelf Go.Maps
attribute [local go_sem] Oper.semAt_some
abbrev LL := ByteArray × ByteArray
def encL (x : LL) : Value := .agg #[.string x.1, .string x.2]
def celL (x : LL) : List Value := [.string x.1, .string x.2]
/-- the labels that a map has, each once -/
def LabPerm (D : DataW Value) (ss : List LL) : Prop := ss.Nodup ∧ ∀ x : LL, x ∈ ss ↔ x.1.size ≤ maxLen ∧ x.2.size ≤ maxLen ∧ (fD D (labK x.1 x.2)).isSome = true
theorem alloc_set2 (w : World) (a b c d : Value) (t : TypeId) : ((w.alloc (.cells #[a, b] t)).setCell ⟨w.heap.size, 0, none⟩ c).setCell ⟨w.heap.size, 1, none⟩ d = w.alloc (.cells #[c, d] t) := by
  unfold World.setCell World.alloc
  simp only
  congr 1
  apply Array.ext_getElem?
  intro k
  simp only [Array.getElem?_modify, Array.getElem?_push]
  by_cases hk : k = w.heap.size
  · subst hk
    simp
  · have hk' : ¬ w.heap.size = k := fun e => hk e.symm
    simp [hk, hk']
theorem keysL_in (F : Fence) (n : Nat) (h : F.fn 38) (hro : F.round = none) (b : Nat) (w : World) :
    CallsIn F n Tryz.prog 38 #[.map (some b)] w fun e w' => e = .returned (.func (.func 60) #[] #[.pointer (some ⟨w.heap.size, 0, none⟩)]) ∧ w' = w.alloc (.cells #[.map (some b)] 62) := by
  refine callsIn_of_wp Tryz.func38 rfl h ?_ hro
  simp only [Tryz.ntmps38, List.size_toArray, List.length_cons, List.length_nil, Nat.reduceAdd, Nat.reduceSub, Array.replicate_succ, Array.replicate_zero, List.push_toArray, List.append_toArray, List.nil_append, List.cons_append]
  gi_wp2
  go_ret
  exact ⟨rfl, rfl⟩
/-- while the keys come: no label twice; one is on the list just where the map has it and it is no longer to come -/
def CollL (D : DataW Value) (left : Lit → Bool) (ss : List LL) : Prop := ss.Nodup ∧ (∀ x : LL, x ∈ ss → x.1.size ≤ maxLen ∧ x.2.size ≤ maxLen) ∧ ∀ x : LL, x.1.size ≤ maxLen → x.2.size ≤ maxLen → (x ∈ ss ↔ Maps.has D (labK x.1 x.2) = true ∧ left (labK x.1 x.2) = false)
theorem CollL.start (D : DataW Value) : CollL D (Maps.has D) [] := ⟨List.nodup_nil, fun x h => (by cases h), fun x _ _ => by cases Maps.has D (labK x.1 x.2) <;> simp⟩
theorem labK_lit (a b : ByteArray) : WideAt.IsKeyLit (labK a b) := by unfold labK; trivial
theorem CollL.step {D : DataW Value} {left : Lit → Bool} {ss : List LL} (h : CollL D left ss) {x : LL} (h1 : x.1.size ≤ maxLen) (h2 : x.2.size ≤ maxLen) (hlk : left (labK x.1 x.2) = true) (hhas : Maps.has D (labK x.1 x.2) = true) : CollL D (fun z => left z && !z.sameKey (labK x.1 x.2)) (ss ++ [x]) := by
  have hnew : x ∉ ss := fun hx => by have := ((h.2.2 x h1 h2).1 hx).2; rw [hlk] at this; cases this
  refine ⟨List.nodup_append.2 ⟨h.1, by simp, fun a ha b hb => by simp at hb; subst hb; exact fun e => hnew (e ▸ ha)⟩, fun y hy => ?_, fun y g1 g2 => ?_⟩
  · rcases List.mem_append.1 hy with hy | hy
    · exact h.2.1 y hy
    · obtain rfl : y = x := by simpa using hy
      exact ⟨h1, h2⟩
  · by_cases hy : y = x
    · subst hy
      have hk := labK_lit y.1 y.2
      constructor
      · intro _
        exact ⟨hhas, by simp [WideAt.sameKey_self hk]⟩
      · intro _
        exact List.mem_append.2 (.inr (by simp))
    · have hne : labK y.1 y.2 ≠ labK x.1 x.2 := fun e => by
        obtain ⟨e1, e2⟩ := labK_inj' g1 g2 h1 h2 e
        exact hy (Prod.ext e1 e2)
      have hs : (labK y.1 y.2).sameKey (labK x.1 x.2) = false := by
        cases hc : (labK y.1 y.2).sameKey (labK x.1 x.2) with
        | false => rfl
        | true => exact absurd (WideAt.sameKey_eq hc) hne
      rw [List.mem_append, h.2.2 y g1 g2]
      simp [hy, hs]
theorem CollL.perm {w : World} {b n : Nat} {D : DataW Value} {left : Lit → Bool} {ss : List LL} (h : CollL D left ss) (hm : w.ownsMap Tryz.prog 25 rawR b n D) (hl : ∀ kl, left kl = false) : LabPerm D ss := by
  refine ⟨h.1, fun x => ⟨fun hx => ?_, fun ⟨g1, g2, g3⟩ => ?_⟩⟩
  · obtain ⟨g1, g2⟩ := h.2.1 x hx
    have := ((h.2.2 x g1 g2).1 hx).1
    rw [has_some hm kLab] at this
    exact ⟨g1, g2, this⟩
  · exact (h.2.2 x g1 g2).2 ⟨by rw [has_some hm kLab]; exact g3, hl _⟩
set_option maxRecDepth 100000 in
set_option maxHeartbeats 2000000 in
theorem keysL1_in (F : Fence) (n : Nat) (h10 : F.fn 60) (hro : F.round = none) (hn : 1 ≤ n) (l Bm b nn : Nat) (D : DataW Value) (J Jx : List LL → World → Prop)
    (hY : ∀ pre x W, J pre W → pre.length < Maps.size D → YieldAt F (n - 1) Tryz.prog l #[encL x] W fun e W' => (e = .returned (.bool true) ∧ J (pre ++ [x]) W' ∧ KeepsWalks W W') ∨ (e = .returned (.bool false) ∧ Jx (pre ++ [x]) W'))
    (W : World) (hJ : AbidesFrom W.heap.size J) (hm : W.cell? ⟨Bm, 0, none⟩ = some (.map (some b))) (hown : W.ownsMap Tryz.prog 25 rawR b nn D) (h0 : J [] W) :
    CallsIn F n Tryz.prog 60 #[.func (.yield l) #[] #[], .pointer (some ⟨Bm, 0, none⟩)] W fun e W' => (∃ v, e = .returned v) ∧ ((∃ ss, LabPerm D ss ∧ J ss W') ∨ (∃ pre, True ∧ Jx pre W')) := by
  refine callsIn_of_wp Tryz.func60 rfl h10 ?_ hro
  simp only [Tryz.ntmps60, List.size_toArray, List.length_cons, List.length_nil, Nat.reduceAdd, Nat.reduceSub, Array.replicate_succ, Array.replicate_zero, List.push_toArray, List.append_toArray, List.nil_append, List.cons_append]
  gi_wp2_with (first
    | (gi_at_range; refine wpListIn_range_own _ rfl _ 62 rfl 25 38 kLab Tryz.underlying62 _ b nn _ rfl hown ?_; intro w0 hrg0 hg0 hs0)
    | gi_in)
  go_frame
  gi_loopw [3] (fun _ wr => ∃ (left : Lit → Bool) (cnt : Nat) (ss : List LL), wr.ranges Tryz.prog 25 rawR b W.heap.size nn D left cnt ∧ ss.length + cnt ≤ Maps.size D ∧ CollL D left ss ∧ J ss wr)
    (fun _ wr => wr.rangeLeft b W.heap.size)
  case atStart =>
    exact ⟨_, _, [], hrg0, by simp, CollL.start D, hJ [] W w0 none h0 hg0 (fun r e => by cases e)⟩
  case round =>
    obtain ⟨left, cnt, ss, hrg, hcs, hC, hJs⟩ := hrel
    gi_wp2_with (first
      | (gi_at_next; refine wpListIn_next_ranges _ rfl _ rfl 25 kLab rawR encL id (fun key kl hk => by obtain ⟨x, y, rfl, _⟩ := keyLab_inv hk; exact ⟨(x, y), rfl⟩) (fun v _ _ => ⟨v, rfl⟩) b W.heap.size nn _ _ _ rfl hrg ?_ ?_)
      | gi_in)
    · intro hc0 hl0
      gi_wp2
      go_end0
      exact ⟨⟨_, rfl⟩, .inl ⟨ss, hC.perm hown hl0, hJs⟩⟩
    · intro p1 p2 c kl yd yp w2 cnt2 hkey hlk hv hat hrg2 hlt hg2 hs2 hen
      obtain ⟨x1, y1, ex, rfl, hx1, hy1⟩ := keyLab_inv hkey
      have e1 : p1 = x1 ∧ p2 = y1 := by simpa [encL] using ex
      obtain ⟨rfl, rfl⟩ := e1
      have hJ2 : J ss w2 := hJ ss wr w2 (some W.heap.size) hJs hg2 (fun r e => by cases e; exact ⟨Nat.le_refl _, hrg.iter_walk⟩)
      have hJ3 : J ss (w2.alloc (.cells #[.string p1, .string p2] 25)) := hJ ss w2 _ none hJ2 (World.grownBy_alloc _ _ none) (fun r e => by cases e)
      obtain ⟨fn, tmps, assign, body, hy, hR⟩ := hY ss (p1, p2) _ hJ3 (by omega)
      clear hs2
      have hy2 : Sem.run Tryz.prog (Instr.yield l #[.agg #[.string p1, .string p2]]) (w2.alloc (.cells #[.string p1, .string p2] 25)) = Result.ok (Next.round l fn tmps assign body) (w2.alloc (.cells #[.string p1, .string p2] 25)) := hy
      have hhas : Maps.has D (labK p1 p2) = true := Maps.has_true_of_atKey hat
      have hC2 : CollL D (fun z => left z && !z.sameKey (labK p1 p2)) (ss ++ [(p1, p2)]) := CollL.step (x := (p1, p2)) hC hx1 hy1 hlk hhas
      gi_wp2
      refine hR.mono ?_
      rintro e W3 (⟨rfl, hJ4, hk3⟩ | ⟨rfl, hJx3⟩)
      · have hrg4 := (hrg2.of_walks (KeepsWalks.alloc w2 _)).of_walks hk3
        gi_wp2
        go_roundw
        case rel => exact ⟨_, cnt2, ss ++ [(p1, p2)], hrg4, by simp; omega, hC2, hJ4⟩
        case measure => rw [hrg4.left_eq, hrg.left_eq]; exact hlt
      · gi_wp2
        refine bodyPost_ret (results_none rfl _ _ _) rfl ?_
        exact ⟨⟨_, rfl⟩, .inr ⟨ss ++ [(p1, p2)], trivial, hJx3⟩⟩
/-- maps.Keys of the names' map hands back a value that stops -/
theorem keysL_stops (F : Fence) (n : Nat) (h10 : F.fn 60) (hro : F.round = none) (hn : 1 ≤ n) (Bm b nn : Nat) (D : DataW Value) (w : World) (hm : w.heap[Bm]? = some (.cells #[.map (some b)] 62)) (hown : w.ownsMap Tryz.prog 25 rawR b nn D) :
    SeqStopsK F n Tryz.prog 60 #[.pointer (some ⟨Bm, 0, none⟩)] (fun x : LL => #[encL x]) KeepsWalks (LabPerm D) (fun _ => True) (Maps.size D) w := fun l J Jx W hW hJ _ hY h0 => by
  have hown' : W.ownsMap Tryz.prog 25 rawR b nn D := by
    have hbl := hown.lt
    obtain ⟨es, clock, hb, Ft, hs, hD⟩ := hown
    exact ⟨es, clock, (hW.block b hbl).trans hb, Ft, hs, hD⟩
  have hBm := (Array.getElem?_eq_some_iff.1 hm).1
  exact keysL1_in F n h10 hro hn l Bm b nn D J Jx hY W hJ ((hW.cell (p := ⟨Bm, 0, none⟩) hBm).trans (Mem.cell hm 0 rfl)) hown' h0
theorem labInfo : (Tryz.prog.info? 25).map (fun i => (i.zero, i.size, i.bytes)) = some (some (.agg #[.string ⟨#[]⟩, .string ⟨#[]⟩]), 2, 32) := by kernel_rfl
theorem cells_own (B Bx : Nat) (cs : Array Value) (t : TypeId) : OwnFrom B (fun (_ : Unit) W => W.heap[Bx]? = some (.cells cs t (0, 0))) := fun _ X Y row hs hg hr =>
  (hg.block Bx (Array.getElem?_eq_some_iff.1 hs).1 (fun e => by obtain ⟨_, o, ho, hc⟩ := hr Bx e.symm; rw [show X.heap[Bx]? = _ from hs] at ho; cases ho; cases hc)).trans hs
theorem cells_two_new (w : World) (x y : Value) (t : TypeId) : ∀ j u, [x, y][j]? = some u → (w.alloc (.cells #[x, y] t)).cell? ((⟨w.heap.size, 0, none⟩ : Addr).add j) = some u := by
  intro j u hj
  have h := World.alloc_heap_new w (.cells #[x, y] t)
  match j, hj with
  | 0, hj =>
    obtain rfl : x = u := by simpa using hj
    exact Mem.cell h 0 rfl
  | 1, hj =>
    obtain rfl : y = u := by simpa using hj
    exact Mem.cell h 1 rfl
  | j + 2, hj => simp at hj
theorem flat_snoc (ss : List LL) (x : LL) : ss.flatMap celL ++ [.string x.1, .string x.2] = (ss ++ [x]).flatMap celL := by simp [celL]
namespace SemAt
attribute [scoped go_sem] Oper.semAt_some
end SemAt
set_option maxRecDepth 100000 in
set_option maxHeartbeats 2000000 in
theorem appendSeqL_any (Bm b nn : Nat) (D : DataW Value) (w : World) (hm : w.heap[Bm]? = some (.cells #[.map (some b)] 62)) (hown : w.ownsMap Tryz.prog 25 rawR b nn D) (hsz : Maps.size D ≤ 1000000) :
    Calls Tryz.prog 74 #[.slice none 0 0, .func (.func 60) #[] #[.pointer (some ⟨Bm, 0, none⟩)]] w fun e w' => ∃ (v : Value) (ss : List LL), e = .returned v ∧ LabPerm D ss ∧ w'.ownsRow w.heap.size 25 2 v ss.length (ss.flatMap celL) ∧ Below w.heap.size w w' := by
  have hseq := keysL_stops Fence.wide 8 trivial rfl (by omega) Bm b nn D w hm hown
  obtain ⟨i0, hi, hz0, hz1, hz2⟩ := info_parts labInfo
  clear hm hown
  refine (callsIn_wide (n := 9)).1 ?_
  refine callsIn_of_wp_marks Tryz.func74 rfl trivial ?_ rfl
  simp only [Tryz.ntmps74, List.size_toArray, List.length_cons, List.length_nil, Nat.reduceAdd, Nat.reduceSub, Array.replicate_succ, Array.replicate_zero, List.push_toArray, List.append_toArray, List.nil_append, List.cons_append]
  open SemAt in gi_wp2
  have bS := Boxed.new w 48 (.slice none 0 0)
  have hB0 : Below w.heap.size w (w.alloc (.cells #[.slice none 0 0] 48)) := (Below.refl _ _).alloc (Nat.le_refl _) _
  have hrow0 : (w.alloc (.cells #[.slice none 0 0] 48)).ownsRow w.heap.size 25 2 (.slice none 0 0) 0 [] := World.ownsRow_nil _ _ _ _
  have hs0 : (w.alloc (.cells #[.slice none 0 0] 48)).heap.size = w.heap.size + 1 := by simp
  obtain ⟨W0, hW0⟩ : ∃ W0, w.alloc (.cells #[.slice none 0 0] 48) = W0 := ⟨_, rfl⟩
  rw [hW0] at bS hB0 hrow0 hs0 ⊢
  clear hW0
  refine wpIn_rangeFunc_ownH rfl (by omega) (gf := 60) (lb := #[.pointer (some ⟨Bm, 0, none⟩)]) rfl trivial (enters_of Tryz.func60 (by kernel_rfl) rfl)
    hseq walksK_t walksK_b hB0 (fun _ => rfl)
    (fun pre W => (∃ v, Boxed W w.heap.size 48 v ∧ W.ownsRow w.heap.size 25 2 v pre.length (pre.flatMap celL) ∧ True) ∧ Below w.heap.size w W)
    (fun _ _ _ => False)
    (OwnFrom.and (Own.from (holdsRow_own w.heap.size w.heap.size 48 25 2 (fun pre : List LL => pre.length) (fun pre => pre.flatMap celL) (fun _ _ => True)) _) (ownFrom_below (Nat.le_refl _) (by omega)))
    (fun _ _ _ _ _ hs _ _ => hs)
    ⟨⟨_, bS, hrow0, trivial⟩, hB0⟩
    (fun c a' W => ∃ Bx, (w.heap.size < Bx ∧ a' = { tmps := #[.slice none 0 0, .func (.func 60) #[] #[.pointer (some ⟨Bm, 0, none⟩)], .pointer (some ⟨w.heap.size, 0, none⟩), undef, .slice none 0 0, .pointer (some ⟨Bx, 0, none⟩), .func (.func 60) #[] #[.pointer (some ⟨Bm, 0, none⟩)], encL c, undef, undef, undef, undef, undef], defers := [] }) ∧ W.heap[Bx]? = some (.cells #[.string c.1, .string c.2] 25 (0, 0)) ∧ ∃ v, Boxed W w.heap.size 48 v ∧ v.ownBlock ≠ some Bx)
    (fun c a' _ A B row hs hg hr => by
      obtain ⟨Bx, h1, h2, v, h3, h4⟩ := hs
      exact ⟨Bx, h1, cells_own W0.heap.size Bx _ _ () A B row h2 hg hr, v, boxed_own w.heap.size 48 (fun (_ : Unit) => v) () A B row h3 hg (fun r e => (hr r e).2), h4⟩)
    ?assign ?body ?done ?stop
  case assign =>
    rintro l pre ⟨p1, p2⟩ W K ⟨⟨v, hv, hr, -⟩, hB⟩ hK
    simp only [encL]
    open SemAt in gi_wp2
    have hlv : v.ownBlock ≠ some W.heap.size := row_old hr
    exact hK _ _ ((KeepsOthers.alloc _ _).from _) (KeepsWalks.alloc _ _) ⟨⟨v, hv.alloc _, hr.alloc _, trivial⟩, hB.alloc hB.size _⟩ ⟨W.heap.size, ⟨hv.lt, rfl⟩, World.alloc_heap_new W _, v, hv.alloc _, hlv⟩
  case body =>
    rintro l pre ⟨p1, p2⟩ a' W hl ⟨r, hr⟩ ⟨⟨v, hv, hrow, -⟩, hB⟩ ⟨Bx, ⟨hBx, rfl⟩, bX, v2, hv2, hne⟩ hlt
    obtain rfl : v2 = v := boxed_inj hv2 hv
    have hc := hv.cell
    have x1 := Mem.cell (v := .string p1) bX 0 rfl
    have x2 := Mem.cell (v := .string p2) bX 1 rfl
    have hsW := hB.size
    open SemAt in
    gi_wp2_with (gi_at_builtin; (refine wpListIn_append_own_at _ rfl _ _ 48 rfl w.heap.size 25 i0 (.agg #[.string ⟨#[]⟩, .string ⟨#[]⟩]) 2 32 Tryz.underlying48 hi hz0 hz1 hz2 rfl (by decide) _ _ _ rfl (hrow.alloc _) ⟨W.heap.size, 0, none⟩ 1 1 [.string p1, .string p2] rfl rfl (cells_two_new _ _ _ _) (by simp [Value.oneCell']) (by unfold maxLen; omega) (by omega) (by simp; omega) ?_; intro v' w1 hown' hgrow _ hat; obtain ⟨g', cap', rfl⟩ := ownsRow_succ hown'; obtain ⟨hv1, hv4, hr2, hk2, hb2⟩ := hv.appended (by decide) hrow hsW (Nat.le_refl _) hown' hgrow; have hc1 := hv1.cell; have hf1 := hv1.frozen))
    have hkw : KeepsWalks W (w1.setCell ⟨w.heap.size, 0, none⟩ (.slice (some ⟨g', 0, none⟩) (pre.length + 1) cap')) := ((KeepsWalks.alloc _ _).trans (KeepsWalks.of_grownBy hgrow (ownsRow_not_walk_a (hrow.alloc _)))).trans (KeepsWalks.setCell _ _ _)
    rw [flat_snoc pre (p1, p2)] at hr2
    have hr3 : (w1.setCell ⟨w.heap.size, 0, none⟩ (.slice (some ⟨g', 0, none⟩) (pre.length + 1) cap')).ownsRow w.heap.size 25 2 (.slice (some ⟨g', 0, none⟩) (pre.length + 1) cap') (pre ++ [(p1, p2)]).length ((pre ++ [(p1, p2)]).flatMap celL) := by
      rw [List.length_append]
      exact hr2
    exact ⟨hk2.from _, hkw, ⟨_, hv4, hr3⟩, hB.trans hb2⟩
  case done =>
    rintro D2 ys W hD hL ⟨⟨v, hv, hrow, -⟩, hB⟩ hK
    have hc := hv.cell
    open SemAt in gi_wp2
    refine ⟨by simp, .inl ⟨_, _, rfl, run_takeDeferred hK, ?_⟩⟩
    refine ⟨_, results_tmp rfl _ _ _, v, ys, rfl, hL, ownsRow_putObj hrow _ hK rfl, ?_⟩
    exact hB.trans (belowK_b (w := w) (Nat.le_refl _) W D2 _ _ (by omega) hK rfl rfl)
  case stop =>
    rintro D2 c pre W _ _ h _
    exact h.elim
set_option maxRecDepth 100000 in
set_option maxHeartbeats 2000000 in
theorem collectL_any (Bm b nn : Nat) (D : DataW Value) (w : World) (hm : w.heap[Bm]? = some (.cells #[.map (some b)] 62)) (hown : w.ownsMap Tryz.prog 25 rawR b nn D) (hsz : Maps.size D ≤ 1000000) :
    Calls Tryz.prog 58 #[.func (.func 60) #[] #[.pointer (some ⟨Bm, 0, none⟩)]] w fun e w' => ∃ (v : Value) (ss : List LL), e = .returned v ∧ LabPerm D ss ∧ w'.ownsRow w.heap.size 25 2 v ss.length (ss.flatMap celL) ∧ Below w.heap.size w w' := by
  have HC := Lib.hid (appendSeqL_any Bm b nn D w hm hown hsz)
  clear hm hown
  go_enter Tryz.func58, Tryz.ntmps58
  go_wp2_with (go_at_call 74; refine HC.out.mono ?_; rintro e w1 ⟨v, ss, rfl, hL, hrow, hb⟩)
  go_ret
  exact ⟨_, _, rfl, hL, hrow, hb⟩
end Go.Proofs.YtlkgcidhhngfeaaGreatDoor
