/- maps.EqualFunc at a store's things, with store.Alike; store.Same. -/
import Derived.Test.YtlkgcidhhngfeaaGreatDoorHideS
import Derived.Test.YtlkgcidhhngfeaaGreatDoorAlkS
import Derived.StillTail
import Derived.StillTailTactics
namespace Go.Proofs.YtlkgcidhhngfeaaGreatDoor
open Go.RowKit Go.Maps
theorem unguard {P : Program} {ops : Array Oper} {Q : Exit → Act → World → Prop} {rest : List Oper} {a : Act} {w : World} {d : Option Tmp} {o : Op} {t : TypeId} {s : String} {af : Array Edge} {g : Option (Nat × Bool)} (hg : Region.wanted ⟨d, o, t, s, af, g⟩ (yielded ops a.tmps) = true) (h : wpList P ops Q (⟨d, o, t, s, af, none⟩ :: rest) a w) : wpList P ops Q (⟨d, o, t, s, af, g⟩ :: rest) a w := by
  unfold wpList at h ⊢
  rw [if_pos (by rfl)] at h
  rw [if_pos hg]
  exact h
theorem at_sto {ops : Array Oper} {rest : List Oper} {op : Oper} {a : Act} {w : World} {Q : Exit → Act → World → Prop} {x y : Operand} (_ : op.op = .store 32 x y) (h : wpList Tryz.prog ops Q (op :: rest) a w) : wpList Tryz.prog ops Q (op :: rest) a w := h
theorem at_lod {ops : Array Oper} {rest : List Oper} {op : Oper} {a : Act} {w : World} {Q : Exit → Act → World → Prop} {x : Operand} (_ : op.op = .load 32 x) (h : wpList Tryz.prog ops Q (op :: rest) a w) : wpList Tryz.prog ops Q (op :: rest) a w := h
/-- lists that rise, one within the other, and as long: they are one -/
theorem eq_sorted : ∀ {A B : St}, SortedS A → SortedS B → A.length = B.length → (∀ e ∈ A, e ∈ B) → A = B
  | [], [], _, _, _, _ => rfl
  | [], _ :: _, _, _, h, _ => by cases h
  | _ :: _, [], _, _, h, _ => by cases h
  | a :: A, b :: B, hA, hB, hl, hs => by
    obtain ⟨a1, a2⟩ := List.pairwise_cons.1 hA
    obtain ⟨b1, b2⟩ := List.pairwise_cons.1 hB
    have hl' : A.length = B.length := by simpa using hl
    have hb : ∀ e ∈ a :: A, e ≠ b → e ∈ B := fun e he hne => (List.mem_cons.1 (hs e he)).resolve_left hne
    have hab : a = b := by
      refine Classical.byContradiction fun hne => ?_
      have haB := hb a List.mem_cons_self hne
      have hlt := b1 a haB
      have hsub : ∀ e ∈ a :: A, e ∈ B := fun e he => by
        refine hb e he fun e1 => ?_
        rcases List.mem_cons.1 he with rfl | he
        · exact hne e1
        · have := a1 e he
          rw [e1] at this
          exact ordB_irr _ (ordB_trans hlt this)
      have hnd : (a :: A).Nodup := hA.imp fun {x y} h e => by rw [e] at h; exact ordB_irr _ h
      have := nodup_sub_len (a :: A) B hnd hsub
      simp at this
      omega
    subst hab
    have hsub : ∀ e ∈ A, e ∈ B := fun e he => hb e (List.mem_cons_of_mem _ he) fun e1 => by
      have := a1 e he
      rw [e1] at this
      exact ordB_irr _ this
    rw [eq_sorted a2 b2 hl' hsub]
theorem next_str (w : World) {ops : Array Oper} {rest : List Oper} {o : Oper} {a : Act} {Q : Exit → Act → World → Prop} (hg : o.guard = none) (it : Operand) (hop : o.op = Op.next it false) (b r n : Nat) (D : DataW Value) (left : Lit → Bool) (cnt : Nat)
    (hit : a.eval it = .pointer (some ⟨r, 0, none⟩)) (h : w.ranges Tryz.prog 9 rawR b r n D left cnt)
    (hDone : cnt = 0 → (∀ kl, left kl = false) → wpList Tryz.prog ops Q rest (a.put o.dst (.tuple #[.bool false])) w)
    (hMore : ∀ (s : ByteArray) (v : Value) (w' : World) (cnt' : Nat), s.size ≤ maxLen → left (.string s.data.toList) = true → fD D (.string s.data.toList) = some v → w'.ranges Tryz.prog 9 rawR b r n D (fun z => left z && !z.sameKey (.string s.data.toList)) cnt' → cnt' < cnt →
      w.grownBy w' (some r) → (Instr.entry (.pointer (some ⟨r, 0, none⟩))).run Tryz.prog w' = .ok (.tuple #[.string s, v]) w' → wpList Tryz.prog ops Q rest (a.put o.dst (.tuple #[.bool true, .string s, v])) w') :
    wpList Tryz.prog ops Q (o :: rest) a w :=
  wpList_next_ranges w hg it hop 9 kStr rawR Value.string id (fun key kl hk => by
      obtain ⟨x, rfl, _⟩ := keyStr_inv hk
      exact ⟨x, rfl⟩) (fun v _ _ => ⟨v, rfl⟩) b r n D left cnt hit h hDone
    (fun q v kl yd w' cnt' hkey hlk hv hat hrg hlt hgr hsz hen => by
      obtain ⟨x, e, rfl, hx⟩ := keyStr_inv hkey
      obtain rfl := Value.string.inj e
      obtain rfl := Option.some.inj hv
      exact hMore q v w' cnt' hx hlk (fD_held hat) hrg hlt hgr hen)
/-- what has been met is there as well -/
def MetS (A B : St) (left : Lit → Bool) : Prop := ∀ s x, (s, x) ∈ A → left (.string s.data.toList) = false → getS B s = some x
theorem met_start {A B : St} {left : Lit → Bool} (h : ∀ s x, (s, x) ∈ A → left (.string s.data.toList) = true) : MetS A B left := fun s x hx hl => by
  rw [h s x hx] at hl
  cases hl
theorem met_step {A B : St} {left : Lit → Bool} {s : ByteArray} {x : OB} (hA : SortedS A) (hx : (s, x) ∈ A) (hg : getS B s = some x) (h : MetS A B left) : MetS A B (fun z => left z && !z.sameKey (.string s.data.toList)) := fun t y hy hl => by
  by_cases he : t = s
  · subst he
    rw [sorted_fun hA hy hx]
    exact hg
  · refine h t y hy ?_
    dsimp only at hl
    rw [sameKey_ne (fun e => he (strLit_inj e))] at hl
    simpa using hl
theorem met_end {A B : St} {left : Lit → Bool} (hA : SortedS A) (hB : SortedS B) (hl : A.length = B.length) (h : MetS A B left) (he : ∀ kl, left kl = false) : A = B := eq_sorted hA hB hl fun e hx => (getS_mem hB).2 (h e.1 e.2 hx (he _))
theorem met_not {A B : St} {s : ByteArray} {x : OB} (hB : SortedS B) (hx : (s, x) ∈ A) (hg : getS B s ≠ some x) : A ≠ B := fun e => hg ((getS_mem hB).1 (by rw [← e]; exact hx))
set_option maxRecDepth 100000 in
set_option maxHeartbeats 16000000 in
theorem equal_raw (b1 b2 p1 p2 n1 n2 : Nat) (A B : St) (W1 Q1 W2 Q2 : Nat → Prop) (D1 D2 N1 N2 : DataW Value) (w : World) (h1 : StoreIn w p1 A W1 Q1 b1 n1 D1 N1) (h2 : StoreIn w p2 B W2 Q2 b2 n2 D2 N2) (hA : A.length ≤ 1000000) (hB : B.length ≤ 1000000) :
    Calls Tryz.prog 36 #[.map (some b1), .map (some b2), .func (.func 23) #[] #[]] w fun e w' => e = .returned (.bool (decide (A = B))) ∧ Below w.heap.size w w' := by
  have H1 := Lib.hid h1
  have H2 := Lib.hid h2
  have l1 := fun ty => h1.things.len Tryz.underlying60 ty
  have l2 := fun ty => h2.things.len Tryz.underlying60 ty
  rw [h1.size] at l1
  rw [h2.size] at l2
  have ht := h1.things
  obtain ⟨na, hna⟩ : ∃ n, n = A.length := ⟨_, rfl⟩
  obtain ⟨nb, hnb⟩ : ∃ n, n = B.length := ⟨_, rfl⟩
  obtain ⟨R, hR⟩ : ∃ R, R = decide (A = B) := ⟨_, rfl⟩
  rw [← hna] at l1
  rw [← hnb] at l2
  rw [← hR]
  have HR : Hid (R = decide (A = B) ∧ na = A.length ∧ nb = B.length) := Lib.hid ⟨hR, hna, hnb⟩
  have HLT := Lib.hid h1.things.lt
  have hA2 : na ≤ 1000000 := by rw [hna]; exact hA
  have hB2 : nb ≤ 1000000 := by rw [hnb]; exact hB
  clear h1 h2 hA hB hna hnb hR
  by_cases hn : na = nb
  · have HN := Lib.hid hn
    have hnn : (((na : Int) == (nb : Int)) = true) := by rw [hn]; simp
    go_enter Tryz.func36, Tryz.ntmps36
    have hB0 := Below.refl w.heap.size w
    have M0 := Mem.nil w
    subst hn
    go_wp2_with (first
      | (at_range; refine wpList_range_own _ rfl _ 60 rfl 9 32 kStr Tryz.underlying60 rawR b1 (Maps.size D1) D1 rfl ht ?_; intro wr0 hrg0 hg0 hs0)
      | go_in)
    clear hnn
    have HST : Hid (Hid (wr0.ranges Tryz.prog 9 rawR b1 w.heap.size (Maps.size D1) D1 (Maps.has D1) (Maps.size D1)) ∧ Hid (Below w.heap.size w wr0) ∧ Hid (MetS A B (Maps.has D1))) := Lib.hid ⟨Lib.hid hrg0, Lib.hid (nf_below (KF.grown hg0 fun j hj => by cases hj)), Lib.hid (met_start fun s x hx => by
        obtain ⟨v, hv, _⟩ := H1.out.rT.1 s x hx
        rw [has_some ht kStr, hv]
        rfl)⟩
    clear hrg0 hg0 hs0 ht l1 l2
    go_loopw [18] (fun _ wr => ∃ (left : Lit → Bool) (cnt : Nat), Hid (wr.ranges Tryz.prog 9 rawR b1 w.heap.size (Maps.size D1) D1 left cnt) ∧ Hid (Below w.heap.size w wr) ∧ Hid (MetS A B left)) (fun _ wr => wr.rangeLeft b1 w.heap.size)
    case atStart => exact ⟨_, _, HST.out⟩
    case round =>
      obtain ⟨left, cnt, HRG, HBW, HMT⟩ := hrel
      clear HST
      obtain ⟨w50, rfl⟩ : ∃ x, x = wr := ⟨_, rfl⟩
      have hB50 := HBW.out
      have M50 := Mem.nil w50
      have HLM : Hid (w50.rangeLeft b1 w.heap.size = cnt) := Lib.hid HRG.out.left_eq
      go_wp2_with (first
        | (at_next; refine next_str _ rfl _ rfl b1 w.heap.size (Maps.size D1) _ _ _ rfl HRG.out ?_ ?_)
        | go_in)
      · intro _ hl0
        have HL0 := Lib.hid hl0
        clear hl0
        have hR2 : R = true := by
          rw [HR.out.1]
          exact decide_eq_true (met_end H1.out.sorted H2.out.sorted (by rw [← HR.out.2.1, ← HR.out.2.2]) HMT.out HL0.out)
        subst hR2
        go_wp2_with fail
        go_ret
        exact ⟨rfl, HBW.out⟩
      · intro s v w51 cnt1 hs hlx hfv hrg1 hlt hg1 hen
        obtain ⟨s', x, hx, e⟩ := H1.out.rT.2 _ v hfv
        obtain rfl := strLit_inj e
        clear e
        have k1 : KF (fun b => b = w.heap.size) w50 w51 := KF.grown hg1 fun j hj => (Option.some.inj hj).symm
        have hB51 : Below w.heap.size w w51 := nf_below ((KF.of_below hB50).trans (k1.mono fun k _ e => by rw [e]; exact Nat.le_refl _))
        clear HRG k1 hg1
        have HRG := Lib.hid hrg1
        have HCL := Lib.hid hlt
        have HSX := Lib.hid hx
        obtain ⟨v', hv', hob⟩ := H1.out.rT.1 s x hx
        rw [hfv] at hv'
        obtain rfl := Option.some.inj hv'
        have HX := Lib.hid fun (W' : World) (hb : Below w.heap.size w W') => hob.below hb
        obtain ⟨a, c, rfl, -⟩ := hob
        obtain ⟨o1, ho1⟩ : ∃ o, o = x.raw a c := ⟨_, rfl⟩
        rw [← ho1] at HX hen ⊢
        obtain ⟨y, hy⟩ : ∃ y, y = (getS B s).getD OB0 := ⟨_, rfl⟩
        obtain ⟨ok, hok⟩ : ∃ ok, ok = (getS B s).isSome := ⟨_, rfl⟩
        have hob2 := (H2.out.look s hs).2
        rw [← hy] at hob2
        have HY := Lib.hid fun (W' : World) (hb : Below w.heap.size w W') => hob2.below hb
        have HL := Lib.hid fun (W' : World) (hb : Below w.heap.size w W') => ((H2.out.below hb).look s hs).1
        rw [← hok] at HL
        obtain ⟨b, d, e, -⟩ := hob2
        rw [e] at HY HL
        obtain ⟨o2, ho2⟩ : ∃ o, o = y.raw b d := ⟨_, rfl⟩
        rw [← ho2] at HY HL
        have HYO := Lib.hid (And.intro hy hok)
        clear hrg1 hlt hlx hx hv' hfv ho1 hy hok ho2 e hs
        have M51 := Mem.nil w51
        have hrl := HRG.out.lt
        have hbs := hB51.size
        have hbl := HLT.out
        go_upto_region 5 with (fail)
        refine wp_region_lit ?_
        iterate 15 go_step
        refine wpl_named ?_
        intro w52 hW52
        have hB52 : Below w.heap.size w w52 := by rw [hW52]; exact (below_al hB51 _)
        have M52 : Mem w52 [(w51.heap.size, .cells (ox (ox0)) 32)] := by rw [hW52]; exact (M51).new' (w51.heap.size) (by rfl) (.cells (ox (ox0)) 32)
        have hS52 : Below w51.heap.size w51 w52 := by rw [hW52]; exact (below_al (Below.refl _ _) _)
        replace HRG := hid_ranges HRG hS52
        clear hS52
        clear hW52
        have z52_0 := Mem.lt M52.1
        clear hen
        refine store_ox rfl _ _ rfl (w51.heap.size) rfl (ox0) (o1) rfl M52.1 ?_
        intro w53 hW53
        have hB53 : Below w.heap.size w w53 := by rw [hW53]; exact below_setCells (B := w.heap.size) hB52 (b := w51.heap.size) (by have := hB52.size; omega) 0 _
        have M53 : Mem w53 [(w51.heap.size, .cells (ox (o1)) 32)] := by rw [hW53]; exact ⟨set_ox M52.1 _, trivial⟩
        have HRG2 := Lib.hid (ranges_kf HRG.out (kf_setCells (KF.refl (fun b => b = w51.heap.size) w52) (.inl rfl) 0 (oxL (o1))) (by omega) (by omega))
        rw [← hW53] at HRG2
        clear z52_0
        clear hW53
        have z53_0 := Mem.lt M53.1
        clear HRG
        go_upto_region 6 with (fail)
        have hlk := HL.out _ hB53
        refine wp_region_lit ?_
        iterate 21 go_step
        have oo53_0 : w51.heap.size < w53.heap.size := Mem.lt M53.1
        refine wpl_named ?_
        intro w54 hW54
        have hB54 : Below w.heap.size w w54 := by rw [hW54]; exact (below_al hB53 _)
        have M54 : Mem w54 [(w53.heap.size, .cells (ox (ox0)) 32), (w51.heap.size, .cells (ox (o1)) 32)] := by rw [hW54]; exact (M53).new' (w53.heap.size) (by rfl) (.cells (ox (ox0)) 32)
        have hS54 : Below w53.heap.size w53 w54 := by rw [hW54]; exact (below_al (Below.refl _ _) _)
        replace HRG2 := hid_ranges HRG2 hS54
        clear hS54
        clear z53_0
        clear hW54
        have z54_0 := Mem.lt M54.1
        have z54_1 := Mem.lt M54.2.1
        clear hlk
        refine store_ox rfl _ _ rfl (w53.heap.size) rfl (ox0) (o2) rfl M54.1 ?_
        intro w55 hW55
        have hB55 : Below w.heap.size w w55 := by rw [hW55]; exact below_setCells (B := w.heap.size) hB54 (b := w53.heap.size) (by have := hB54.size; omega) 0 _
        have M55 : Mem w55 [(w53.heap.size, .cells (ox (o2)) 32), (w51.heap.size, .cells (ox (o1)) 32)] := by rw [hW55]; exact ⟨set_ox M54.1 _, (setCells_other _ 0 _ _ (by omega)).trans M54.2.1, trivial⟩
        have HRG3 := Lib.hid (ranges_kf HRG2.out (kf_setCells (KF.refl (fun b => b = w53.heap.size) w54) (.inl rfl) 0 (oxL (o2))) (by omega) (by omega))
        rw [← hW55] at HRG3
        clear z54_0 z54_1
        clear hW55
        have z55_0 := Mem.lt M55.1
        have z55_1 := Mem.lt M55.2.1
        clear HRG2
        go_upto_region 7 with (fail)
        cases ok with
        | false =>
          have hR2 : R = false := by
            rw [HR.out.1]
            refine decide_eq_false (met_not H2.out.sorted HSX.out fun e => ?_)
            have := HYO.out.2
            rw [e] at this
            cases this
          subst hR2
          have HB := Lib.hid hB55
          go_wp2_with fail
          go_ret
          exact ⟨rfl, HB.out⟩
        | true =>
          skip
          obtain ⟨q, hq⟩ : ∃ q, q = decide (x = y) := ⟨_, rfl⟩
          have HAL0 := fun w (h1 : ObIn w _ (.agg (ox o1)) x) (h2 : ObIn w _ (.agg (ox o2)) y) => alike_any x y (fun b => Q1 b ∧ ¬ W1 b) (fun b => Q2 b ∧ ¬ W2 b) _ _ w h1 h2
          rw [← hq] at HAL0
          have HQ := Lib.hid hq
          have HAL := Lib.hid HAL0
          clear hq HAL0
          refine wp_region_lit ?_
          iterate 9 go_step
          refine unguard (by rfl) ?_
          iterate 3 go_step
          refine unguard (by rfl) ?_
          refine load_ox rfl _ rfl (w51.heap.size) rfl (o1) M55.2.1 ?_
          refine unguard (by rfl) ?_
          refine load_ox rfl _ rfl (w53.heap.size) rfl (o2) M55.1 ?_
          go_wp2_with fail
          refine Calls.named ?_
          intro W56 hW56
          have hB56_ : Below w.heap.size w W56 := by rw [hW56]; exact hB55
          have M56_ := M55
          rw [← hW56] at M56_
          have hS56 : Below w55.heap.size w55 W56 := by rw [hW56]; exact (Below.refl _ _)
          have HRG3_ := hid_ranges HRG3 hS56
          clear hS56 HRG3
          clear hW56
          have ZZ56_0 := Lib.hid (Mem.lt M56_.1)
          have ZZ56_1 := Lib.hid (Mem.lt M56_.2.1)
          clear z55_0 z55_1
          refine (HAL.out _ (HX.out _ hB56_) (HY.out _ hB56_)).mono ?_
          rintro e w56 ⟨rfl, hb56⟩
          have HRG3 := hid_ranges HRG3_ hb56
          clear HRG3_
          have hB56 := below_then hB56_ hb56
          have M56 := M56_.below hb56
          clear M56_ hB56_ hb56
          have z56_0 := Mem.lt M56.1
          have z56_1 := Mem.lt M56.2.1
          cases q with
          | false =>
            have hR2 : R = false := by
              rw [HR.out.1]
              refine decide_eq_false (met_not H2.out.sorted HSX.out fun e => ?_)
              have h1 := HYO.out.1
              rw [e] at h1
              have h2 := HQ.out.symm
              rw [h1] at h2
              exact of_decide_eq_false h2 rfl
            subst hR2
            have HB := Lib.hid hB56
            go_wp2_with fail
            go_ret
            exact ⟨rfl, HB.out⟩
          | true =>
            skip
            have HB := Lib.hid hB56
            have HG : Hid (getS B s = some x) := Lib.hid (by
              have h1 := of_decide_eq_true HQ.out.symm
              have h2 := HYO.out.2.symm
              obtain ⟨z, hz⟩ := Option.isSome_iff_exists.1 h2
              have h3 := HYO.out.1
              rw [hz] at h3
              rw [hz, h1, h3]
              rfl)
            have HMT2 := Lib.hid (met_step H1.out.sorted HSX.out HG.out HMT.out)
            go_wp2_with fail
            go_roundw
            case rel => exact ⟨_, cnt1, HRG3, HB, HMT2⟩
            case measure => rw [HRG3.out.left_eq, HLM.out]; exact HCL.out
  · have hR2 : R = false := by
      rw [HR.out.1]
      exact decide_eq_false fun e => hn (by rw [HR.out.2.1, HR.out.2.2, e])
    subst hR2
    have hne : ¬ ((na : Int) = (nb : Int)) := by omega
    clear hn ht
    go_enter Tryz.func36, Tryz.ntmps36
    have hB0 := Below.refl w.heap.size w
    have M0 := Mem.nil w
    have HB := Lib.hid hB0
    go_wp2_with fail
    go_ret
    exact ⟨rfl, HB.out⟩
set_option maxRecDepth 100000 in
set_option maxHeartbeats 4000000 in
theorem same_any (p q : Nat) (A B : St) (W1 Q1 W2 Q2 : Nat → Prop) (w : World) (h1 : StoreAt w p A W1 Q1) (h2 : StoreAt w q B W2 Q2) (hA : A.length ≤ 1000000) (hB : B.length ≤ 1000000) :
    Calls Tryz.prog 15 #[.pointer (some ⟨p, 0, none⟩), .pointer (some ⟨q, 0, none⟩)] w fun e w' => e = .returned (.bool (decide (A = B))) ∧ Below w.heap.size w w' := by
  obtain ⟨b1, n1, D1, N1, h1⟩ := h1
  obtain ⟨b2, n2, D2, N2, h2⟩ := h2
  have HC := Lib.hid fun (W' : World) (hb : Below w.heap.size w W') => equal_raw b1 b2 p q n1 n2 A B W1 Q1 W2 Q2 D1 D2 N1 N2 W' (h1.below hb) (h2.below hb) hA hB
  have hp := h1.ptr
  have hq := h2.ptr
  clear h1 h2
  go_enter Tryz.func15, Tryz.ntmps15
  have hB0 := Below.refl w.heap.size w
  have M0 := Mem.nil w
  clear M0
  have M0 : Mem w [(p, .cells #[.map (some b1), .map (some n1)] 64), (q, .cells #[.map (some b2), .map (some n2)] 64)] := ⟨hp, hq, trivial⟩
  have c0_0_0 := Mem.cell (v := .map (some b1)) M0.1 0 rfl
  have c0_0_1 := Mem.cell (v := .map (some n1)) M0.1 1 rfl
  have z0_0 := Mem.lt M0.1
  have c0_1_0 := Mem.cell (v := .map (some b2)) M0.2.1 0 rfl
  have c0_1_1 := Mem.cell (v := .map (some n2)) M0.2.1 1 rfl
  have z0_1 := Mem.lt M0.2.1
  go_upto_region 1 with (fail)
  refine wp_named ?_
  intro w1 hW1
  have hB1 : Below w.heap.size w w1 := by rw [hW1]; exact hB0
  have M1 := M0
  rw [← hW1] at M1
  clear c0_0_0 c0_0_1 z0_0 c0_1_0 c0_1_1 z0_1
  clear hW1
  have c1_0_0 := Mem.cell (v := .map (some b1)) M1.1 0 rfl
  have c1_0_1 := Mem.cell (v := .map (some n1)) M1.1 1 rfl
  have z1_0 := Mem.lt M1.1
  have c1_1_0 := Mem.cell (v := .map (some b2)) M1.2.1 0 rfl
  have c1_1_1 := Mem.cell (v := .map (some n2)) M1.2.1 1 rfl
  have z1_1 := Mem.lt M1.2.1
  clear c1_0_0 c1_0_1 z1_0 c1_1_0 c1_1_1 z1_1
  refine wp_region_held (S := fun w' => Mem w' [(p, .cells #[.map (some b1), .map (some n1)] 64), (q, .cells #[.map (some b2), .map (some n2)] 64)]) (by kernel_rfl) ?_
  change wpAnyH _ _ _ _ _ 10 (Array.replicate 10 false) _ w1.drew
  refine anyH_named ?_
  intro w2 hW2
  have hB2 : Below w.heap.size w w2 := by rw [hW2]; exact below_dr hB1
  have M2 : Mem w2 [(p, .cells #[.map (some b1), .map (some n1)] 64), (q, .cells #[.map (some b2), .map (some n2)] 64)] := by rw [hW2]; exact Mem.drew M1
  have zz2 : w1.heap.size ≤ w2.heap.size := by rw [hW2]; exact Nat.le_refl _
  clear hW2
  have zh2_0 := Mem.lt M2.1
  have zh2_1 := Mem.lt M2.2.1
  refine wpAnyH_take (i := 0) (v := ?_) rfl (by decide +kernel) (by decide +kernel) (by decide +kernel) (fun _ _ _ h => h) (Or.inl ⟨by rfl, ?_⟩) M2 ?_
  rotate_left
  · intro w hSw
    clear hSw
    go_simp; try (with_reducible rfl)
  try simp only [Act.put, List.getElem_toArray, List.getElem_cons_zero, List.setIfInBounds_toArray, List.set_cons_zero, List.set_cons_succ]
  refine wpAnyH_take (i := 4) (v := ?_) rfl (by decide +kernel) (by decide +kernel) (by decide +kernel) (fun _ _ _ h => h) (Or.inl ⟨by rfl, ?_⟩) M2 ?_
  rotate_left
  · intro w hSw
    clear hSw
    go_simp; try (with_reducible rfl)
  try simp only [Act.put, List.getElem_toArray, List.getElem_cons_succ, List.getElem_cons_zero, List.setIfInBounds_toArray, List.set_cons_zero, List.set_cons_succ]
  refine wpAnyH_take (i := 1) (v := ?_) rfl (by decide +kernel) (by decide +kernel) (by decide +kernel) (fun _ _ _ h => h) (Or.inl ⟨by rfl, ?_⟩) M2 ?_
  rotate_left
  · intro w hSw
    clear hSw
    go_simp; try (with_reducible rfl)
  try simp only [Act.put, List.getElem_toArray, List.getElem_cons_succ, List.getElem_cons_zero, List.setIfInBounds_toArray, List.set_cons_zero, List.set_cons_succ]
  refine wpAnyH_take (i := 5) (v := ?_) rfl (by decide +kernel) (by decide +kernel) (by decide +kernel) (fun _ _ _ h => h) (Or.inl ⟨by rfl, ?_⟩) M2 ?_
  rotate_left
  · intro w hSw
    clear hSw
    go_simp; try (with_reducible rfl)
  try simp only [Act.put, List.getElem_toArray, List.getElem_cons_succ, List.getElem_cons_zero, List.setIfInBounds_toArray, List.set_cons_zero, List.set_cons_succ]
  refine wpAnyH_take (i := 2) (v := ?_) rfl (by decide +kernel) (by decide +kernel) (by decide +kernel) (fun _ _ _ h => h) (Or.inl ⟨by rfl, ?_⟩) M2 ?_
  rotate_left
  · intro w hSw
    clear hSw
    go_simp; try (with_reducible rfl)
  try simp only [Act.put, List.getElem_toArray, List.getElem_cons_succ, List.getElem_cons_zero, List.setIfInBounds_toArray, List.set_cons_zero, List.set_cons_succ]
  refine wpAnyH_take (i := 6) (v := ?_) rfl (by decide +kernel) (by decide +kernel) (by decide +kernel) (fun _ _ _ h => h) (Or.inl ⟨by rfl, ?_⟩) M2 ?_
  rotate_left
  · intro w hSw
    clear hSw
    go_simp; try (with_reducible rfl)
  try simp only [Act.put, List.getElem_toArray, List.getElem_cons_succ, List.getElem_cons_zero, List.setIfInBounds_toArray, List.set_cons_zero, List.set_cons_succ]
  refine wpAnyH_take (i := 3) (v := ?_) rfl (by decide +kernel) (by decide +kernel) (by decide +kernel) (fun _ _ _ h => h) (Or.inl ⟨by rfl, ?_⟩) M2 ?_
  rotate_left
  · intro w hSw
    have s_0 := Mem.cell (v := .map (some b1)) hSw.1 0 rfl
    clear hSw
    go_simp; try (with_reducible rfl)
  try simp only [Act.put, List.getElem_toArray, List.getElem_cons_succ, List.getElem_cons_zero, List.setIfInBounds_toArray, List.set_cons_zero, List.set_cons_succ]
  refine wpAnyH_take (i := 7) (v := ?_) rfl (by decide +kernel) (by decide +kernel) (by decide +kernel) (fun _ _ _ h => h) (Or.inl ⟨by rfl, ?_⟩) M2 ?_
  rotate_left
  · intro w hSw
    have s_0 := Mem.cell (v := .map (some b2)) hSw.2.1 0 rfl
    clear hSw
    go_simp; try (with_reducible rfl)
  try simp only [Act.put, List.getElem_toArray, List.getElem_cons_succ, List.getElem_cons_zero, List.setIfInBounds_toArray, List.set_cons_zero, List.set_cons_succ]
  refine wpAnyH_ready (rs := [8]) (by decide +kernel) (by simp) (AllReadyH.cons rfl ?_ AllReadyH.nil)
  intro K hK
  rw [if_pos (by rfl)]
  go_simp
  go_at_call 36
  refine (HC.out _ hB2).mono ?_
  rintro e w3 ⟨rfl, hb3⟩
  have hB3 := below_then hB2 hb3
  have M3 := M2.below hb3
  have zz3 := hb3.size
  clear hb3
  refine hK.out _ _ M3 (fun _ => ?_)
  clear hK K
  try simp only [Act.put, List.getElem_toArray, List.getElem_cons_succ, List.getElem_cons_zero, List.setIfInBounds_toArray, List.set_cons_zero, List.set_cons_succ]
  refine wpAnyH_take (i := 9) (v := ?_) rfl (by decide +kernel) (by decide +kernel) (by decide +kernel) (fun _ _ _ h => h) (Or.inl ⟨by rfl, ?_⟩) M3 ?_
  rotate_left
  · intro w hSw
    clear hSw
    go_simp; try (with_reducible rfl)
  try simp only [Act.put, List.getElem_toArray, List.getElem_cons_succ, List.getElem_cons_zero, List.setIfInBounds_toArray, List.set_cons_zero, List.set_cons_succ]
  refine wpAnyH_done (by kernel_rfl) ?_ _
  have c3_0_0 := Mem.cell (v := .map (some b1)) M3.1 0 rfl
  have c3_0_1 := Mem.cell (v := .map (some n1)) M3.1 1 rfl
  have z3_0 := Mem.lt M3.1
  have c3_1_0 := Mem.cell (v := .map (some b2)) M3.2.1 0 rfl
  have c3_1_1 := Mem.cell (v := .map (some n2)) M3.2.1 1 rfl
  have z3_1 := Mem.lt M3.2.1
  have HB := Lib.hid hB3
  go_wp2_with fail
  go_ret
  exact ⟨rfl, HB.out⟩
end Go.Proofs.YtlkgcidhhngfeaaGreatDoor
