/- store.Set. -/
import Derived.Test.YtlkgcidhhngfeaaGreatDoorZ5
import Derived.Deep.RegionHeld3
namespace Go.Proofs.YtlkgcidhhngfeaaGreatDoor
open Go.RowKit Go.Maps
theorem row_ne_map {w : World} {B k : Nat} {e : TypeId} {n : Nat} {v : Value} {xs : List Value} {P : Program} {K : TypeId} {b m : Nat} {D : DataW Value} (h : w.ownsRow B e k v n xs) (hm : w.ownsMap P K rawR b m D) : ∀ j, v.ownBlock = some j → j ≠ b := by
  rintro j hj rfl
  obtain ⟨es, c, hb, _⟩ := hm
  rcases h.2 with ⟨rfl, _⟩ | ⟨g, cap, cur, rfl, _, hg, _⟩
  · cases hj
  · cases hj
    rw [hb] at hg
    cases hg
theorem q_new {Q : Nat → Prop} {n m : Nat} : ∀ b, (Q b ∨ (n ≤ b ∧ b < m)) → Q b ∨ n ≤ b := fun _ h => h.elim .inl fun h => .inr h.1
theorem isKey_str (s : ByteArray) : WideAt.IsKeyLit (.string s.data.toList) := trivial
theorem StoreIn.set {w wa wm : World} {p : Nat} {S : St} {W Q : Nat → Prop} {bt bn : Nat} {Dt Dn : DataW Value} {n : Nat} {v : Value} {key : ByteArray} {x y : OB} (h0 : ∀ b, W b ∨ Q b → b < w.heap.size) (_ : w.heap.size ≤ wa.heap.size) (h : StoreIn wa p S W Q bt bn Dt Dn) (hg : getS S key = some y) (h1 : y.lS = x.lS) (h2 : y.lI = x.lI)
    (hm : wm.ownsMap Tryz.prog 9 rawR bt n (Dt.put (.string key.data.toList) (.held v))) (hgr : wa.grownBy wm (some bt)) (ho : ObIn wa (fun b => w.heap.size ≤ b) v x) :
    StoreIn wm p (setS S key x) W (fun b => Q b ∨ (w.heap.size ≤ b ∧ b < wm.heap.size)) bt bn (Dt.put (.string key.data.toList) (.held v)) Dn := by
  have hkf : KF (fun b => b = bt) wa wm := KF.grown hgr fun j hj => (Option.some.inj hj).symm
  have hbt := h0 bt (.inl h.wt)
  have hob := ho
  have hmono : ∀ (z : OB) (u : Value), ObIn wa (fun b => Q b ∧ ¬ W b) u z → ObIn wm (fun b => (Q b ∨ (w.heap.size ≤ b ∧ b < wm.heap.size)) ∧ ¬ W b) u z := fun z u hz =>
    (hz.kf hkf fun b hb e => hb.2 (by rw [e]; exact h.wt)).mono fun b hb _ => ⟨.inl hb.1, hb.2⟩
  have hnew : ObIn wm (fun b => (Q b ∨ (w.heap.size ≤ b ∧ b < wm.heap.size)) ∧ ¬ W b) v x :=
    (hob.kf hkf fun b hb e => by subst e; omega).mono fun b hb hl => ⟨.inr ⟨hb, hl⟩, fun hw => by have := h0 b (.inl hw); omega⟩
  exact {
    ptr := (hkf.block p (h.lt p (.inr h.qp)) (fun e => h.np (by rw [e]; exact h.wt))).trans h.ptr
    things := map_size hm
    names := ownsMap_kf h.names hkf (fun e => h.ne e.symm)
    rT := by
      refine ⟨fun s z hz => ?_, fun kl u hu => ?_⟩
      · rcases setS_mem.1 hz with ⟨rfl, rfl, _⟩ | ⟨hne, hz⟩
        · exact ⟨v, fD_put_same (h.things.isMap) (isKey_str _) v, hnew⟩
        · obtain ⟨u, hu, hou⟩ := h.rT.1 s z hz
          exact ⟨u, by rw [fD_put_other (fun e => hne (strLit_inj e))]; exact hu, hmono _ _ hou⟩
      · by_cases hk : kl = .string key.data.toList
        · exact ⟨key, x, setS_mem.2 (.inl ⟨rfl, rfl, y, (getS_mem h.sorted).2 hg⟩), hk⟩
        · rw [fD_put_other hk] at hu
          obtain ⟨s, z, hz, e⟩ := h.rT.2 kl u hu
          exact ⟨s, z, setS_mem.2 (.inr ⟨fun e' => hk (by rw [e, e']), hz⟩), e⟩
    rN := by
      have hn := names_setS h.sorted hg h1 h2
      refine ⟨fun a b hab => ?_, fun kl u hu => ?_, h.rN.wr, h.rN.apart⟩
      · rw [hn] at hab ⊢
        obtain ⟨u, hu, hr⟩ := h.rN.has a b hab
        exact ⟨u, hu, ownsRow_kf hr hkf (row_ne_map hr h.things)⟩
      · obtain ⟨a, b, ha, hb, e, hne⟩ := h.rN.only kl u hu
        exact ⟨a, b, ha, hb, e, by rw [hn]; exact hne⟩
    wt := h.wt
    wn := h.wn
    ne := h.ne
    np := h.np
    qp := .inl h.qp
    lt := fun b hb => by
      rcases hb with hb | hb | hb
      · exact Nat.lt_of_lt_of_le (h.lt b (.inl hb)) hkf.size
      · exact Nat.lt_of_lt_of_le (h.lt b (.inr hb)) hkf.size
      · exact hb.2
    sorted := setS_sorted h.sorted key x
    ok := setS_ok h.ok h.sorted hg h1 h2 }
/-- what Set answers -/
def setE (S : St) (key : ByteArray) (x : OB) : Int := match getS S key with
  | none => 10
  | some y => if y.kd = x.kd ∧ y.lS = x.lS ∧ y.lI = x.lI then 0 else 11
def setT (S : St) (key : ByteArray) (x : OB) : St := if setE S key x = 0 then setS S key x else S
set_option maxRecDepth 100000 in
set_option maxHeartbeats 8000000 in
theorem set_raw (p bt bn : Nat) (S : St) (W Q : Nat → Prop) (Dt Dn : DataW Value) (key : ByteArray) (hk : key.size ≤ maxLen) (x : OB) (A : Nat → Prop) (a : Option Addr) (c : Nat) (w : World) (h : StoreIn w p S W Q bt bn Dt Dn) (hS : S.length ≤ 1000000) (hx : ObIn w A (.agg (ox (x.raw a c))) x)
    (y : OB) (b : Option Addr) (d : Nat) (ok : Bool) (hv : rawT Dt key = .agg (ox (y.raw b d))) (hok : (getS S key).isSome = ok) (hy : (getS S key).getD OB0 = y) :
    Calls Tryz.prog 16 #[.pointer (some ⟨p, 0, none⟩), .string key, .agg (ox (x.raw a c))] w fun e w' => ∃ Q', e = .returned (.int .i64 (setE S key x)) ∧ Hid (StoreAt w' p (setT S key x) W Q') ∧ Hid (∀ b, Q' b → Q b ∨ w.heap.size ≤ b) ∧ KF W w w' := by
  have HI := Lib.hid h
  have HL := Lib.hid fun (W' : World) (hb : Below w.heap.size w W') => by have := ((h.below hb).look key hk).1; rw [hv, hok] at this; exact this
  have HX := Lib.hid fun (W' : World) (hb : Below w.heap.size w W') => hx.below hb
  obtain ⟨o, ho⟩ : ∃ o, o = x.raw a c := ⟨_, rfl⟩
  obtain ⟨u, hu⟩ : ∃ u, u = y.raw b d := ⟨_, rfl⟩
  have H0 := Lib.hid h.lt
  have hp := h.ptr
  have hS0 := Lib.hid hS
  have hlab := fun w => neq_lab w u.lS u.lI o.lS o.lI
  rw [← ho] at HX ⊢
  rw [← hu] at HL
  have hwt : W bt := h.wt
  have hnp : ¬ W p := h.np
  have HE : Hid ((ok = false → setE S key x = 10) ∧ (ok = true → ¬ u.kd = o.kd ∨ labB u.lS u.lI o.lS o.lI = false → setE S key x = 11) ∧ (ok = true → u.kd = o.kd → labB u.lS u.lI o.lS o.lI = true → setE S key x = 0 ∧ getS S key = some y ∧ y.lS = x.lS ∧ y.lI = x.lI)) := Lib.hid (by
    subst ho hu
    subst hok
    unfold setE
    cases hg : getS S key with
    | none => exact ⟨fun _ => rfl, (fun e => nomatch e), (fun e => nomatch e)⟩
    | some z =>
      rw [hg] at hy
      obtain rfl : z = y := hy
      refine ⟨(fun e => nomatch e), fun _ e => ?_, fun _ e1 e2 => ?_⟩
      · show (if z.kd = x.kd ∧ z.lS = x.lS ∧ z.lI = x.lI then (0 : Int) else 11) = 11
        rw [if_neg]
        rintro ⟨e1, e2, e3⟩
        rcases e with e | e
        · exact e e1
        · have : labB z.lS z.lI x.lS x.lI = true := (labB_iff _ _ _ _).2 ⟨e2, e3⟩
          rw [show labB z.lS z.lI x.lS x.lI = false from e] at this
          cases this
      · have e3 := (labB_iff z.lS z.lI x.lS x.lI).1 e2
        exact ⟨by show (if z.kd = x.kd ∧ z.lS = x.lS ∧ z.lI = x.lI then (0 : Int) else 11) = 0; rw [if_pos ⟨e1, e3.1, e3.2⟩], rfl, e3.1, e3.2⟩)
  obtain ⟨R, hR⟩ : ∃ R, R = setE S key x := ⟨_, rfl⟩
  have HT : Hid (setT S key x = if R = 0 then setS S key x else S) := Lib.hid (by rw [hR]; rfl)
  rw [← hR] at HE ⊢
  have HO := Lib.hid ho
  have HU := Lib.hid hu
  have HV := Lib.hid (And.intro hok hy)
  clear hR hx hv hok hy h hS ho hu
  go_enter Tryz.func16, Tryz.ntmps16
  have hB0 := Below.refl w.heap.size w
  have M0 := Mem.nil w
  clear M0
  have M0 : Mem w [(p, .cells #[.map (some bt), .map (some bn)] 64)] := ⟨hp, trivial⟩
  have c0_0_0 := Mem.cell (v := .map (some bt)) M0.1 0 rfl
  have c0_0_1 := Mem.cell (v := .map (some bn)) M0.1 1 rfl
  have z0_0 := Mem.lt M0.1
  go_upto_region 1 with (fail)
  refine wp_named ?_
  intro w1 hW1
  have hB1 : Below w.heap.size w w1 := by rw [hW1]; exact (below_al hB0 _)
  have M1 : Mem w1 [(w.heap.size, .cells (ox (o)) 32), (p, .cells #[.map (some bt), .map (some bn)] 64)] := by rw [hW1]; exact (M0).new' (w.heap.size) (by rfl) (.cells (ox (o)) 32)
  clear c0_0_0 c0_0_1 z0_0
  clear hW1
  have z1_0 := Mem.lt M1.1
  have c1_1_0 := Mem.cell (v := .map (some bt)) M1.2.1 0 rfl
  have c1_1_1 := Mem.cell (v := .map (some bn)) M1.2.1 1 rfl
  have z1_1 := Mem.lt M1.2.1
  have hlk := HL.out _ hB1
  refine wp_region_lit ?_
  iterate 30 go_step
  have oo1_0 : w.heap.size < w1.heap.size := Mem.lt M1.1
  have oo1_1 : p < w1.heap.size := Mem.lt M1.2.1
  refine wpl_named ?_
  intro w2 hW2
  have hB2 : Below w.heap.size w w2 := by rw [hW2]; exact (below_al hB1 _)
  have M2 : Mem w2 [(w1.heap.size, .cells (ox (ox0)) 32), (w.heap.size, .cells (ox (o)) 32), (p, .cells #[.map (some bt), .map (some bn)] 64)] := by rw [hW2]; exact (M1).new' (w1.heap.size) (by rfl) (.cells (ox (ox0)) 32)
  clear z1_0 c1_1_0 c1_1_1 z1_1
  clear hW2
  have z2_0 := Mem.lt M2.1
  have z2_1 := Mem.lt M2.2.1
  have c2_2_0 := Mem.cell (v := .map (some bt)) M2.2.2.1 0 rfl
  have c2_2_1 := Mem.cell (v := .map (some bn)) M2.2.2.1 1 rfl
  have z2_2 := Mem.lt M2.2.2.1
  clear hlk
  refine store_ox rfl _ _ rfl (w1.heap.size) rfl (ox0) (u) rfl M2.1 ?_
  intro w3 hW3
  have hB3 : Below w.heap.size w w3 := by rw [hW3]; exact below_setCells (B := w.heap.size) hB2 (b := w1.heap.size) (by have := hB2.size; omega) 0 _
  have M3 : Mem w3 [(w1.heap.size, .cells (ox (u)) 32), (w.heap.size, .cells (ox (o)) 32), (p, .cells #[.map (some bt), .map (some bn)] 64)] := by rw [hW3]; exact ⟨set_ox M2.1 _, (setCells_other _ 0 _ _ (by omega)).trans M2.2.1, (setCells_other _ 0 _ _ (by omega)).trans M2.2.2.1, trivial⟩
  clear z2_0 z2_1 c2_2_0 c2_2_1 z2_2
  clear hW3
  have z3_0 := Mem.lt M3.1
  have z3_1 := Mem.lt M3.2.1
  have c3_2_0 := Mem.cell (v := .map (some bt)) M3.2.2.1 0 rfl
  have c3_2_1 := Mem.cell (v := .map (some bn)) M3.2.2.1 1 rfl
  have z3_2 := Mem.lt M3.2.2.1
  go_upto_region 2 with (fail)
  have HEND : Hid (∀ W', Below w.heap.size w W' → ¬ R = 0 → ∃ Q', Hid (StoreAt W' p (setT S key x) W Q') ∧ Hid (∀ b, Q' b → Q b ∨ w.heap.size ≤ b) ∧ KF W w W') := Lib.hid (fun W' hb hr => ⟨Q, Lib.hid (by rw [HT.out, if_neg hr]; exact ⟨bt, bn, Dt, Dn, HI.out.below hb⟩), Lib.hid (fun _ h => .inl h), KF.of_below hb⟩)
  cases ok with
  | false =>
    have h10 := HE.out.1 rfl
    subst h10
    clear hlab
    have HB := Lib.hid hB3
    go_wp2_with fail
    go_ret
    exact ⟨rfl, HEND.out _ HB.out (by decide)⟩
  | true =>
    have HE1 := Lib.hid (HE.out.2.1 rfl)
    have HE2 := Lib.hid (HE.out.2.2 rfl)
    clear HE
    have hc : (¬ u.kd = o.kd) ∨ (u.kd = o.kd ∧ labB u.lS u.lI o.lS o.lI = false) ∨ (u.kd = o.kd ∧ labB u.lS u.lI o.lS o.lI = true) := by
      by_cases h1 : u.kd = o.kd
      · cases h2 : labB u.lS u.lI o.lS o.lI
        · exact .inr (.inl ⟨h1, rfl⟩)
        · exact .inr (.inr ⟨h1, rfl⟩)
      · exact .inl h1
    rcases hc with h1 | ⟨h1, h2⟩ | ⟨h1, h2⟩
    · skip
      have h11 := HE1.out (.inl h1)
      subst h11
      have HB := Lib.hid hB3
      have c3_1_0 := Mem.cell (v := .int .i64 o.kd) M3.2.1 0 rfl
      have c3_1_1 := Mem.cell (v := .string o.lS) M3.2.1 1 rfl
      have c3_1_2 := Mem.cell (v := .string o.lI) M3.2.1 2 rfl
      have c3_0_0 := Mem.cell (v := .int .i64 u.kd) M3.1 0 rfl
      have c3_0_1 := Mem.cell (v := .string u.lS) M3.1 1 rfl
      have c3_0_2 := Mem.cell (v := .string u.lI) M3.1 2 rfl
      go_wp2_with fail
      go_ret
      exact ⟨rfl, HEND.out _ HB.out (by decide)⟩
    · skip
      have h11 := HE1.out (.inr h2)
      subst h11
      rw [h2] at hlab
      have HB := Lib.hid hB3
      have c3_1_0 := Mem.cell (v := .int .i64 o.kd) M3.2.1 0 rfl
      have c3_1_1 := Mem.cell (v := .string o.lS) M3.2.1 1 rfl
      have c3_1_2 := Mem.cell (v := .string o.lI) M3.2.1 2 rfl
      have c3_0_0 := Mem.cell (v := .int .i64 u.kd) M3.1 0 rfl
      have c3_0_1 := Mem.cell (v := .string u.lS) M3.1 1 rfl
      have c3_0_2 := Mem.cell (v := .string u.lI) M3.1 2 rfl
      go_wp2_with fail
      go_ret
      exact ⟨rfl, HEND.out _ HB.out (by decide)⟩
    · skip
      obtain ⟨h0, hg, hS, hI⟩ := HE2.out h1 h2
      subst h0
      replace HT : Hid (setT S key x = setS S key x) := Lib.hid (by rw [HT.out, if_pos rfl])
      rw [h2] at hlab
      have HB := Lib.hid hB3
      have c3_1_0 := Mem.cell (v := .int .i64 o.kd) M3.2.1 0 rfl
      have c3_1_1 := Mem.cell (v := .string o.lS) M3.2.1 1 rfl
      have c3_1_2 := Mem.cell (v := .string o.lI) M3.2.1 2 rfl
      have c3_0_0 := Mem.cell (v := .int .i64 u.kd) M3.1 0 rfl
      have c3_0_1 := Mem.cell (v := .string u.lS) M3.1 1 rfl
      have c3_0_2 := Mem.cell (v := .string u.lI) M3.1 2 rfl
      go_upto_region 6 with (fail)
      clear hlab h1 h2 HE1 HE2 HEND
      have HG := Lib.hid (And.intro hg (And.intro hS hI))
      clear hg hS hI
      clear z3_0 z3_1 c3_2_0 c3_2_1 z3_2 c3_1_0 c3_1_1 c3_1_2 c3_0_0 c3_0_1 c3_0_2
      refine wp_region_held (S := fun w' => Mem w' [(w1.heap.size, .cells (ox (u)) 32), (w.heap.size, .cells (ox (o)) 32), (p, .cells #[.map (some bt), .map (some bn)] 64)]) (by kernel_rfl) ?_
      change wpAnyH _ _ _ _ _ 8 (Array.replicate 8 false) _ w3.drew
      refine anyH_named ?_
      intro w4 hW4
      have hB4 : Below w.heap.size w w4 := by rw [hW4]; exact below_dr hB3
      have M4 : Mem w4 [(w1.heap.size, .cells (ox (u)) 32), (w.heap.size, .cells (ox (o)) 32), (p, .cells #[.map (some bt), .map (some bn)] 64)] := by rw [hW4]; exact Mem.drew M3
      have zz4 : w3.heap.size ≤ w4.heap.size := by rw [hW4]; exact Nat.le_refl _
      clear hW4
      have zh4_0 := Mem.lt M4.1
      have zh4_1 := Mem.lt M4.2.1
      have zh4_2 := Mem.lt M4.2.2.1
      refine wpAnyH_take (i := 0) (v := ?_) rfl (by decide +kernel) (by decide +kernel) (by decide +kernel) (fun _ _ _ h => h) (Or.inl ⟨by rfl, ?_⟩) M4 ?_
      rotate_left
      · intro w hSw
        clear hSw
        go_simp; try (with_reducible rfl)
      try simp only [Act.put, List.getElem_toArray, List.getElem_cons_zero, List.setIfInBounds_toArray, List.set_cons_zero, List.set_cons_succ]
      refine wpAnyH_take (i := 4) (v := ?_) rfl (by decide +kernel) (by decide +kernel) (by decide +kernel) (fun _ _ _ h => h) (Or.inl ⟨by rfl, ?_⟩) M4 ?_
      rotate_left
      · intro w hSw
        clear hSw
        go_simp; try (with_reducible rfl)
      try simp only [Act.put, List.getElem_toArray, List.getElem_cons_succ, List.getElem_cons_zero, List.setIfInBounds_toArray, List.set_cons_zero, List.set_cons_succ]
      refine wpAnyH_take (i := 5) (v := .agg (ox (o))) rfl (by decide +kernel) (by decide +kernel) (by decide +kernel) (fun _ _ _ h => h) (yieldsIf_load_mid (by rfl) 32 _ rfl (w.heap.size) 0 (by rfl) (oxL (o)) _ (fun w hSw => range_block hSw.2.1) Tryz.underlying32 rfl info_ox) M4 ?_
      try simp only [Act.put, List.getElem_toArray, List.getElem_cons_succ, List.getElem_cons_zero, List.setIfInBounds_toArray, List.set_cons_zero, List.set_cons_succ]
      refine wpAnyH_take (i := 1) (v := ?_) rfl (by decide +kernel) (by decide +kernel) (by decide +kernel) (fun _ _ _ h => h) (Or.inl ⟨by rfl, ?_⟩) M4 ?_
      rotate_left
      · intro w hSw
        clear hSw
        go_simp; try (with_reducible rfl)
      try simp only [Act.put, List.getElem_toArray, List.getElem_cons_succ, List.getElem_cons_zero, List.setIfInBounds_toArray, List.set_cons_zero, List.set_cons_succ]
      refine wpAnyH_take (i := 2) (v := ?_) rfl (by decide +kernel) (by decide +kernel) (by decide +kernel) (fun _ _ _ h => h) (Or.inl ⟨by rfl, ?_⟩) M4 ?_
      rotate_left
      · intro w hSw
        clear hSw
        go_simp; try (with_reducible rfl)
      try simp only [Act.put, List.getElem_toArray, List.getElem_cons_succ, List.getElem_cons_zero, List.setIfInBounds_toArray, List.set_cons_zero, List.set_cons_succ]
      refine wpAnyH_take (i := 3) (v := ?_) rfl (by decide +kernel) (by decide +kernel) (by decide +kernel) (fun _ _ _ h => h) (Or.inl ⟨by rfl, ?_⟩) M4 ?_
      rotate_left
      · intro w hSw
        have s_0 := Mem.cell (v := .map (some bt)) hSw.2.2.1 0 rfl
        clear hSw
        go_simp; try (with_reducible rfl)
      try simp only [Act.put, List.getElem_toArray, List.getElem_cons_succ, List.getElem_cons_zero, List.setIfInBounds_toArray, List.set_cons_zero, List.set_cons_succ]
      refine wpAnyH_ready (rs := [6]) (by decide +kernel) (by simp) (AllReadyH.cons rfl ?_ AllReadyH.nil)
      intro K hK
      rw [if_pos (by rfl)]
      go_simp
      go_at_call 29
      refine (copied_any x A (.agg (ox o)) _ (HX.out _ hB4) (fun b => w.heap.size ≤ b) (fun j hj => Nat.le_trans (hB4).size hj)).mono ?_
      rintro e w5 ⟨a', c', rfl, hob, hb5⟩
      have hB5 := below_then hB4 hb5
      have M5 := M4.below hb5
      have zz5 := hb5.size
      clear hb5
      refine hK.out _ _ M5 (fun _ => ?_)
      clear hK K
      try simp only [Act.put, List.getElem_toArray, List.getElem_cons_succ, List.getElem_cons_zero, List.setIfInBounds_toArray, List.set_cons_zero, List.set_cons_succ]
      refine wpAnyH_ready (rs := [7]) (by decide +kernel) (by simp) (AllReadyH.cons rfl ?_ AllReadyH.nil)
      have hbw := hB5
      replace hB5 := KF.of_below (F := W) hB5
      have hst := HI.out.below hbw
      have hth := hst.things
      have hsz : Maps.size Dt < maxLen := by rw [hst.size]; unfold maxLen; have := hS0.out; omega
      have HST := Lib.hid hst
      have HBW := Lib.hid hbw
      clear hst
      intro K hK
      rw [if_pos (by rfl)]
      obtain ⟨w6, hrun_, hown, hgr_⟩ := map_put hth kStr Tryz.underlying60 hsz (keyStr key hk) (.agg (ox (x.raw a' c')))
      obtain ⟨es_, cl_, hmb_, _⟩ := hth
      go_simp
      have M6 : Mem w6 [(w1.heap.size, .cells (ox (u)) 32), (w.heap.size, .cells (ox (o)) 32), (p, .cells #[.map (some bt), .map (some bn)] 64)] := ⟨cells_put M5.1 hmb_ hgr_, cells_put M5.2.1 hmb_ hgr_, cells_put M5.2.2.1 hmb_ hgr_, trivial⟩
      refine hK.out _ _ M6 (fun _ => ?_)
      clear hK K hrun_
      have hB6 := KF.trans hB5 (KF.grown hgr_ (fun j hj => by cases hj; exact hwt))
      clear hmb_
      refine wpAnyH_done (by kernel_rfl) ?_ _
      have z6_0 := Mem.lt M6.1
      have z6_1 := Mem.lt M6.2.1
      have c6_2_0 := Mem.cell (v := .map (some bt)) M6.2.2.1 0 rfl
      have c6_2_1 := Mem.cell (v := .map (some bn)) M6.2.2.1 1 rfl
      have z6_2 := Mem.lt M6.2.2.1
      have HF := Lib.hid (StoreIn.set H0.out HBW.out.size HST.out HG.out.1 HG.out.2.1 HG.out.2.2 hown hgr_ hob.out)
      have HB := Lib.hid hB6
      go_wp2_with fail
      go_ret
      exact ⟨_, rfl, Lib.hid (by rw [HT.out]; exact ⟨bt, bn, _, Dn, HF.out⟩), Lib.hid q_new, HB.out⟩
theorem set_any (p : Nat) (S : St) (W Q : Nat → Prop) (key : ByteArray) (hk : key.size ≤ maxLen) (x : OB) (A : Nat → Prop) (v : Value) (w : World) (h : StoreAt w p S W Q) (hS : S.length ≤ 1000000) (hx : ObIn w A v x) :
    Calls Tryz.prog 16 #[.pointer (some ⟨p, 0, none⟩), .string key, v] w fun e w' => ∃ Q', e = .returned (.int .i64 (setE S key x)) ∧ Hid (StoreAt w' p (setT S key x) W Q') ∧ Hid (∀ b, Q' b → Q b ∨ w.heap.size ≤ b) ∧ KF W w w' := by
  obtain ⟨bt, bn, Dt, Dn, h⟩ := h
  obtain ⟨b, d, hv, _⟩ := (h.look key hk).2
  have hx' := hx
  obtain ⟨a, c, rfl, _⟩ := hx'
  exact set_raw p bt bn S W Q Dt Dn key hk x A a c w h hS hx _ b d _ hv rfl rfl
end Go.Proofs.YtlkgcidhhngfeaaGreatDoor
