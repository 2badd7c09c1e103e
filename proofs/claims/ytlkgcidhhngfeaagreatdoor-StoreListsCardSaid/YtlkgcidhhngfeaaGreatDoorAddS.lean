/- store.Add. -/
import Derived.Test.YtlkgcidhhngfeaaGreatDoorAddP
import Derived.StillTail
import Derived.StillTailTactics
namespace Go.Proofs.YtlkgcidhhngfeaaGreatDoor
open Go.RowKit Go.Maps
theorem hid_half {w w' : World} {bn : Nat} {Dn : DataW Value} {W : Nat → Prop} {S : St} (h : Hid (w.ownsMap Tryz.prog 25 rawR bn (Maps.size Dn) Dn ∧ NamesR w W Dn S)) (hb : Below w.heap.size w w') : Hid (w'.ownsMap Tryz.prog 25 rawR bn (Maps.size Dn) Dn ∧ NamesR w' W Dn S) :=
  have g : KF (fun _ => False) w w' := KF.of_below hb
  Lib.hid ⟨ownsMap_kf h.out.1 g (fun e => e), h.out.2.kf g fun _ _ _ _ _ _ _ _ e => e⟩
theorem nohit {v : Value} {W Q : Nat → Prop} {n p a : Nat} (h : Hid (∀ k, v.ownBlock = some k → W k)) (h0 : Hid (∀ b, W b ∨ Q b → b < n)) (hp : ¬ W p) (ha : a = p ∨ n ≤ a) : ¬ v.ownBlock = some a := fun e => by
  have hW := h.out _ e
  have := h0.out _ (.inl hW)
  rcases ha with rfl | ha
  · exact hp hW
  · omega
theorem ins_blk {S : St} {L : List ByteArray} {v : Value} {Dn : DataW Value} {o : Ox} {x : OB} {a : Option Addr} {c : Nat} (h : Hid (L = namesOf S o.lS o.lI ∧ v = (fD Dn (labK o.lS o.lI)).getD nilS)) (ho : Hid (o = x.raw a c)) : v = (fD Dn (labK x.lS x.lI)).getD nilS := by
  have h2 := h.out.2
  rw [ho.out] at h2
  exact h2
theorem ins_row {w : World} {S : St} {L : List ByteArray} {v v' : Value} {Dn : DataW Value} {o : Ox} {x : OB} {a : Option Addr} {c : Nat} {key : ByteArray} (hL : insL L key = L.take (loL L key) ++ key :: L.drop (loL L key)) (h : Hid (L = namesOf S o.lS o.lI ∧ v = (fD Dn (labK o.lS o.lI)).getD nilS)) (ho : Hid (o = x.raw a c))
    (hr : Hid (w.ownsRow 0 9 1 v' (L.take (loL L key) ++ key :: L.drop (loL L key)).length ((L.take (loL L key) ++ key :: L.drop (loL L key)).map .string))) : w.ownsRow 0 9 1 v' (insL (namesOf S x.lS x.lI) key).length ((insL (namesOf S x.lS x.lI) key).map .string) := by
  have h1 := h.out.1
  rw [ho.out] at h1
  have h1 : L = namesOf S x.lS x.lI := h1
  rw [← h1, hL]
  exact hr.out
theorem ins_put {w : World} {bn n : Nat} {Dn : DataW Value} {o : Ox} {x : OB} {a : Option Addr} {c : Nat} {v' : Value} (ho : Hid (o = x.raw a c)) (h : w.ownsMap Tryz.prog 25 rawR bn n (Dn.put (labK o.lS o.lI) (.held v'))) : w.ownsMap Tryz.prog 25 rawR bn n (Dn.put (labK x.lS x.lI) (.held v')) := by
  rw [ho.out] at h
  exact h
theorem ins_new {W : Nat → Prop} {n m l : Nat} (h : n ≤ m) : ∀ b, (W b ∨ (m ≤ b ∧ b < l)) → W b ∨ n ≤ b := fun _ e => Or.elim e .inl fun e => .inr (Nat.le_trans h e.1)
/-- what Add answers -/
def addE (S : St) (key : ByteArray) (x : OB) : Int := if (readL key.data.toList).isSome = false then 1 else if x.kd < 3 then 1 else if 7 < x.kd then 1 else if (lb x.lS x.lI).right = false then 1 else if (getS S key).isSome = true then 12 else 0
def addT (S : St) (key : ByteArray) (x : OB) : St := if addE S key x = 0 then insS S key x else S
theorem addE_zero {S : St} {key : ByteArray} {x : OB} : addE S key x = 0 ↔ (readL key.data.toList).isSome = true ∧ ¬ x.kd < 3 ∧ ¬ 7 < x.kd ∧ (lb x.lS x.lI).right = true ∧ getS S key = none := by
  unfold addE
  cases (readL key.data.toList).isSome <;> by_cases h1 : x.kd < 3 <;> by_cases h2 : 7 < x.kd <;> cases (lb x.lS x.lI).right <;> cases getS S key <;> simp [h1, h2]
/-- what Add leaves -/
def AddEnds (p : Nat) (S : St) (W Q : Nat → Prop) (key : ByteArray) (x : OB) (w : World) (R : Int) (e : Ending) (w' : World) : Prop :=
  ∃ W' Q', e = .returned (.int .i64 R) ∧ Hid (StoreAt w' p (addT S key x) W' Q') ∧ Hid (∀ b, W' b → W b ∨ w.heap.size ≤ b) ∧ Hid (∀ b, Q' b → Q b ∨ w.heap.size ≤ b) ∧ KF W w w'
set_option maxRecDepth 100000 in
set_option maxHeartbeats 16000000 in
theorem add_raw (p bt bn : Nat) (S : St) (W Q : Nat → Prop) (Dt Dn : DataW Value) (key : ByteArray) (hk : key.size ≤ 140737488351232) (x : OB) (A : Nat → Prop) (a : Option Addr) (c : Nat) (w : World) (h : StoreIn w p S W Q bt bn Dt Dn) (hS : S.length ≤ 1000000) (hx : ObIn w A (.agg (ox (x.raw a c))) x) (hx1 : Bd x.lS) (hx2 : Bd x.lI) (hw : LaidF W w)
    (y : OB) (b : Option Addr) (d : Nat) (ok : Bool) (hv : rawT Dt key = .agg (ox (y.raw b d))) (hok : (getS S key).isSome = ok) :
    Calls Tryz.prog 13 #[.pointer (some ⟨p, 0, none⟩), .string key, .agg (ox (x.raw a c))] w (AddEnds p S W Q key x w (addE S key x)) := by
  have HI := Lib.hid h
  have hkm : key.size ≤ maxLen := by unfold maxLen; omega
  have HL := Lib.hid fun (W' : World) (hb : Below w.heap.size w W') => by have := ((h.below hb).look key hkm).1; rw [hv, hok] at this; exact this
  have HX := Lib.hid fun (W' : World) (hb : Below w.heap.size w W') => hx.below hb
  obtain ⟨o, ho⟩ : ∃ o, o = x.raw a c := ⟨_, rfl⟩
  obtain ⟨u, hu⟩ : ∃ u, u = y.raw b d := ⟨_, rfl⟩
  have H0 := Lib.hid h.lt
  have hp := h.ptr
  have HS0 := Lib.hid hS
  have h1 := lright_any o.lS o.lI (by rw [ho]; unfold Bd at hx1; exact hx1) (by rw [ho]; unfold Bd at hx2; exact hx2)
  have HLR := Lib.hid h1
  have HBD := Lib.hid (And.intro hx1 hx2)
  rw [← ho] at HX ⊢
  rw [← hu] at HL
  have hwt : W bt := h.wt
  have hwn : W bn := h.wn
  have hnp : ¬ W p := h.np
  obtain ⟨rn, hrn⟩ : ∃ r, r = (readL key.data.toList).isSome := ⟨_, rfl⟩
  obtain ⟨lr, hlr⟩ : ∃ r, r = (lb o.lS o.lI).right := ⟨_, rfl⟩
  have HNR := Lib.hid (nright_any key)
  rw [← hlr] at HLR
  rw [← hrn] at HNR
  obtain ⟨R, hR⟩ : ∃ R, R = addE S key x := ⟨_, rfl⟩
  have HE : Hid (R = if rn = false then 1 else if o.kd < 3 then 1 else if 7 < o.kd then 1 else if lr = false then 1 else if ok = true then 12 else 0) := Lib.hid (by rw [hR, hlr, hrn, ← hok, ho]; rfl)
  have HT : Hid (addT S key x = if R = 0 then insS S key x else S) := Lib.hid (by rw [hR]; rfl)
  have HR0 : Hid (R = 0 → (readL key.data.toList).isSome = true ∧ getS S key = none) := Lib.hid (fun e => by rw [hR] at e; exact ⟨(addE_zero.1 e).1, (addE_zero.1 e).2.2.2.2⟩)
  rw [← hR]
  have HO := Lib.hid ho
  have HU := Lib.hid hu
  clear hR hx hv hok h hS ho hu hrn hlr h1 hx1 hx2
  go_enter Tryz.func13, Tryz.ntmps13
  have hB0 := Below.refl w.heap.size w
  have M0 := Mem.nil w
  have hw0 := hw
  clear M0
  have M0 : Mem w [(p, .cells #[.map (some bt), .map (some bn)] 64)] := ⟨hp, trivial⟩
  have c0_0_0 := Mem.cell (v := .map (some bt)) M0.1 0 rfl
  have c0_0_1 := Mem.cell (v := .map (some bn)) M0.1 1 rfl
  have z0_0 := Mem.lt M0.1
  have HEND : Hid (∀ W1, Below w.heap.size w W1 → ¬ R = 0 → ∀ v, v = .int .i64 R → AddEnds p S W Q key x w R (.returned v) W1) := Lib.hid (fun W1 hb hr v hv => ⟨W, Q, by rw [hv], Lib.hid (by rw [HT.out, if_neg hr]; exact ⟨bt, bn, Dt, Dn, HI.out.below hb⟩), Lib.hid (fun _ h => .inl h), Lib.hid (fun _ h => .inl h), KF.of_below hb⟩)
  go_wp2_with fail
  refine Calls.named ?_
  intro W1 hW1
  have hB1_ : Below w.heap.size w W1 := by rw [hW1]; exact (below_al hB0 _)
  have hw1_ : LaidF W W1 := by rw [hW1]; exact (hw.alloc _)
  have M1_ : Mem W1 [(w.heap.size, .cells (ox (o)) 32), (p, .cells #[.map (some bt), .map (some bn)] 64)] := by rw [hW1]; exact (M0).new' (w.heap.size) (by rfl) (.cells (ox (o)) 32)
  clear hW1
  have ZZ1_0 := Lib.hid (Mem.lt M1_.1)
  have ZZ1_1 := Lib.hid (Mem.lt M1_.2.1)
  clear c0_0_0 c0_0_1 z0_0
  refine (HNR.out _ hk (hw1_).laid).mono ?_
  rintro e w1 ⟨rfl, hb1⟩
  have hB1 := below_then hB1_ hb1
  have hw1 := hw1_.below hb1
  have M1 := M1_.below hb1
  clear M1_ hB1_ hb1 hw1_
  have z1_0 := Mem.lt M1.1
  have c1_1_0 := Mem.cell (v := .map (some bt)) M1.2.1 0 rfl
  have c1_1_1 := Mem.cell (v := .map (some bn)) M1.2.1 1 rfl
  have z1_1 := Mem.lt M1.2.1
  cases rn with
  | false =>
    have h1 := HE.out
    rw [if_pos rfl] at h1
    subst h1
    clear HE
    have HB := Lib.hid hB1
    go_wp2_with fail
    go_ret
    exact HEND.out _ HB.out (by decide) _ rfl
  | true =>
    skip
    have c1_0_0 := Mem.cell (v := .int .i64 o.kd) M1.1 0 rfl
    have c1_0_1 := Mem.cell (v := .string o.lS) M1.1 1 rfl
    have c1_0_2 := Mem.cell (v := .string o.lI) M1.1 2 rfl
    by_cases h3 : o.kd < 3
    · have h1 := HE.out
      rw [if_neg (by decide), if_pos h3] at h1
      subst h1
      clear HE
      have HB := Lib.hid hB1
      go_wp2_with fail
      go_ret
      exact HEND.out _ HB.out (by decide) _ rfl
    · by_cases h7 : 7 < o.kd
      · have h1 := HE.out
        rw [if_neg (by decide), if_neg h3, if_pos h7] at h1
        subst h1
        clear HE
        have HB := Lib.hid hB1
        go_wp2_with fail
        go_ret
        exact HEND.out _ HB.out (by decide) _ rfl
      · skip
        go_wp2_with fail
        refine Calls.named ?_
        intro W2 hW2
        have hB2_ : Below w.heap.size w W2 := by rw [hW2]; exact hB1
        have hw2_ : LaidF W W2 := by rw [hW2]; exact hw1
        have M2_ := M1
        rw [← hW2] at M2_
        clear hW2
        have ZZ2_0 := Lib.hid (Mem.lt M2_.1)
        have ZZ2_1 := Lib.hid (Mem.lt M2_.2.1)
        clear z1_0 c1_1_0 c1_1_1 z1_1 c1_0_0 c1_0_1 c1_0_2
        refine (HLR.out _).mono ?_
        rintro e w2 ⟨rfl, hb2⟩
        have hB2 := below_then hB2_ hb2
        have hw2 := hw2_.below hb2
        have M2 := M2_.below hb2
        clear M2_ hB2_ hb2 hw2_
        have z2_0 := Mem.lt M2.1
        have c2_1_0 := Mem.cell (v := .map (some bt)) M2.2.1 0 rfl
        have c2_1_1 := Mem.cell (v := .map (some bn)) M2.2.1 1 rfl
        have z2_1 := Mem.lt M2.2.1
        cases lr with
        | false =>
          have h1 := HE.out
          rw [if_neg (by decide), if_neg (by omega), if_neg (by omega), if_pos rfl] at h1
          subst h1
          clear HE
          have HB := Lib.hid hB2
          go_wp2_with fail
          go_ret
          exact HEND.out _ HB.out (by decide) _ rfl
        | true =>
          skip
          go_upto_region 3 with (fail)
          have hlk := HL.out _ hB2
          refine wp_region_lit ?_
          iterate 30 go_step
          have oo2_0 : w.heap.size < w2.heap.size := Mem.lt M2.1
          have oo2_1 : p < w2.heap.size := Mem.lt M2.2.1
          refine wpl_named ?_
          intro w3 hW3
          have hB3 : Below w.heap.size w w3 := by rw [hW3]; exact (below_al hB2 _)
          have hw3 : LaidF W w3 := by rw [hW3]; exact (hw2.alloc _)
          have M3 : Mem w3 [(w2.heap.size, .cells (ox (ox0)) 32), (w.heap.size, .cells (ox (o)) 32), (p, .cells #[.map (some bt), .map (some bn)] 64)] := by rw [hW3]; exact (M2).new' (w2.heap.size) (by rfl) (.cells (ox (ox0)) 32)
          clear z2_0 c2_1_0 c2_1_1 z2_1
          clear hW3
          have z3_0 := Mem.lt M3.1
          have z3_1 := Mem.lt M3.2.1
          have c3_2_0 := Mem.cell (v := .map (some bt)) M3.2.2.1 0 rfl
          have c3_2_1 := Mem.cell (v := .map (some bn)) M3.2.2.1 1 rfl
          have z3_2 := Mem.lt M3.2.2.1
          clear hlk
          refine store_ox rfl _ _ rfl (w2.heap.size) rfl (ox0) (u) rfl M3.1 ?_
          intro w4 hW4
          have hB4 : Below w.heap.size w w4 := by rw [hW4]; exact below_setCells (B := w.heap.size) hB3 (b := w2.heap.size) (by have := hB3.size; omega) 0 _
          have hw4 : LaidF W w4 := hw0.below hB4
          have M4 : Mem w4 [(w2.heap.size, .cells (ox (u)) 32), (w.heap.size, .cells (ox (o)) 32), (p, .cells #[.map (some bt), .map (some bn)] 64)] := by rw [hW4]; exact ⟨set_ox M3.1 _, (setCells_other _ 0 _ _ (by omega)).trans M3.2.1, (setCells_other _ 0 _ _ (by omega)).trans M3.2.2.1, trivial⟩
          clear z3_0 z3_1 c3_2_0 c3_2_1 z3_2
          clear hW4
          have z4_0 := Mem.lt M4.1
          have z4_1 := Mem.lt M4.2.1
          have c4_2_0 := Mem.cell (v := .map (some bt)) M4.2.2.1 0 rfl
          have c4_2_1 := Mem.cell (v := .map (some bn)) M4.2.2.1 1 rfl
          have z4_2 := Mem.lt M4.2.2.1
          go_upto_region 4 with (fail)
          cases ok with
          | true =>
            have h1 := HE.out
            rw [if_neg (by decide), if_neg (by omega), if_neg (by omega), if_neg (by decide), if_pos rfl] at h1
            subst h1
            clear HE
            have HB := Lib.hid hB4
            go_wp2_with fail
            go_ret
            exact HEND.out _ HB.out (by decide) _ rfl
          | false =>
            skip
            have h1 := HE.out
            rw [if_neg (by decide), if_neg (by omega), if_neg (by omega), if_neg (by decide), if_neg (by decide)] at h1
            subst h1
            replace HT : Hid (addT S key x = insS S key x) := Lib.hid (by rw [HT.out, if_pos rfl])
            replace HR0 := Lib.hid (HR0.out rfl)
            clear HE HEND
            go_upto_region 6 with (fail)
            go_cut [44, 45] (fun s44 s45 wx => ∃ (wa : World) (a' : Option Addr) (c' : Nat), Hid (Below w.heap.size w wa) ∧ Hid (ObIn wa (fun b => w.heap.size ≤ b) (.agg (ox (x.raw a' c'))) x) ∧ Hid (∃ n, wx.ownsMap Tryz.prog 9 rawR bt n (Dt.put (.string key.data.toList) (.held (.agg (ox (x.raw a' c')))))) ∧ Hid (wa.grownBy wx (some bt)) ∧ KF W w wx ∧ Mem wx [(w2.heap.size, .cells (ox u) 32), (w.heap.size, .cells (ox o) 32), (p, .cells #[.map (some bt), .map (some bn)] 64)])
            case first =>
              clear z4_0 z4_1 c4_2_0 c4_2_1 z4_2
              refine wp_region_held (S := fun w' => Mem w' [(w2.heap.size, .cells (ox (u)) 32), (w.heap.size, .cells (ox (o)) 32), (p, .cells #[.map (some bt), .map (some bn)] 64)]) (by kernel_rfl) ?_
              change wpAnyH _ _ _ _ _ 8 (Array.replicate 8 false) _ w4.drew
              refine anyH_named ?_
              intro w5 hW5
              have hB5 : Below w.heap.size w w5 := by rw [hW5]; exact below_dr hB4
              have hw5 : LaidF W w5 := by rw [hW5]; exact hw4.below (below_dr (Below.refl _ _))
              have M5 : Mem w5 [(w2.heap.size, .cells (ox (u)) 32), (w.heap.size, .cells (ox (o)) 32), (p, .cells #[.map (some bt), .map (some bn)] 64)] := by rw [hW5]; exact Mem.drew M4
              have zz5 : w4.heap.size ≤ w5.heap.size := by rw [hW5]; exact Nat.le_refl _
              clear hW5
              have zh5_0 := Mem.lt M5.1
              have zh5_1 := Mem.lt M5.2.1
              have zh5_2 := Mem.lt M5.2.2.1
              refine wpAnyH_take (i := 0) (v := ?_) rfl (by decide +kernel) (by decide +kernel) (by decide +kernel) (fun _ _ _ h => h) (Or.inl ⟨by rfl, ?_⟩) M5 ?_
              rotate_left
              · intro w hSw
                clear hSw
                go_simp; try (with_reducible rfl)
              try simp only [Act.put, List.getElem_toArray, List.getElem_cons_zero, List.setIfInBounds_toArray, List.set_cons_zero, List.set_cons_succ]
              refine wpAnyH_take (i := 4) (v := ?_) rfl (by decide +kernel) (by decide +kernel) (by decide +kernel) (fun _ _ _ h => h) (Or.inl ⟨by rfl, ?_⟩) M5 ?_
              rotate_left
              · intro w hSw
                clear hSw
                go_simp; try (with_reducible rfl)
              try simp only [Act.put, List.getElem_toArray, List.getElem_cons_succ, List.getElem_cons_zero, List.setIfInBounds_toArray, List.set_cons_zero, List.set_cons_succ]
              refine wpAnyH_take (i := 5) (v := .agg (ox (o))) rfl (by decide +kernel) (by decide +kernel) (by decide +kernel) (fun _ _ _ h => h) (yieldsIf_load_mid (by rfl) 32 _ rfl (w.heap.size) 0 (by rfl) (oxL (o)) _ (fun w hSw => range_block hSw.2.1) Tryz.underlying32 rfl info_ox) M5 ?_
              try simp only [Act.put, List.getElem_toArray, List.getElem_cons_succ, List.getElem_cons_zero, List.setIfInBounds_toArray, List.set_cons_zero, List.set_cons_succ]
              refine wpAnyH_take (i := 1) (v := ?_) rfl (by decide +kernel) (by decide +kernel) (by decide +kernel) (fun _ _ _ h => h) (Or.inl ⟨by rfl, ?_⟩) M5 ?_
              rotate_left
              · intro w hSw
                clear hSw
                go_simp; try (with_reducible rfl)
              try simp only [Act.put, List.getElem_toArray, List.getElem_cons_succ, List.getElem_cons_zero, List.setIfInBounds_toArray, List.set_cons_zero, List.set_cons_succ]
              refine wpAnyH_take (i := 2) (v := ?_) rfl (by decide +kernel) (by decide +kernel) (by decide +kernel) (fun _ _ _ h => h) (Or.inl ⟨by rfl, ?_⟩) M5 ?_
              rotate_left
              · intro w hSw
                clear hSw
                go_simp; try (with_reducible rfl)
              try simp only [Act.put, List.getElem_toArray, List.getElem_cons_succ, List.getElem_cons_zero, List.setIfInBounds_toArray, List.set_cons_zero, List.set_cons_succ]
              refine wpAnyH_take (i := 3) (v := ?_) rfl (by decide +kernel) (by decide +kernel) (by decide +kernel) (fun _ _ _ h => h) (Or.inl ⟨by rfl, ?_⟩) M5 ?_
              rotate_left
              · intro w hSw
                have s_0 := Mem.cell (v := .map (some bt)) hSw.2.2.1 0 rfl
                clear hSw
                go_simp; try (with_reducible rfl)
              try simp only [Act.put, List.getElem_toArray, List.getElem_cons_succ, List.getElem_cons_zero, List.setIfInBounds_toArray, List.set_cons_zero, List.set_cons_succ]
              refine wpAnyH_ready (rs := [6]) (by decide +kernel) (by simp) (AllReadyH.cons rfl ?_ AllReadyH.nil)
              intro K hK
              rw [if_pos (by rfl)]
              go_simp
              go_at_call 29
              refine (copied_any x A (.agg (ox o)) _ (HX.out _ hB5) (fun b => w.heap.size ≤ b) (fun j hj => Nat.le_trans (hB5).size hj)).mono ?_
              rintro e w6 ⟨a', c', rfl, hob, hb6⟩
              have hB6 := below_then hB5 hb6
              have hw6 := hw5.below hb6
              have M6 := M5.below hb6
              have zz6 := hb6.size
              clear hb6
              refine hK.out _ _ M6 (fun _ => ?_)
              clear hK K
              try simp only [Act.put, List.getElem_toArray, List.getElem_cons_succ, List.getElem_cons_zero, List.setIfInBounds_toArray, List.set_cons_zero, List.set_cons_succ]
              refine wpAnyH_ready (rs := [7]) (by decide +kernel) (by simp) (AllReadyH.cons rfl ?_ AllReadyH.nil)
              have hbw := hB6
              replace hB6 := KF.of_below (F := W) hB6
              have hst := HI.out.below hbw
              have hth := hst.things
              have hsz : Maps.size Dt < maxLen := by rw [hst.size]; unfold maxLen; have := HS0.out; omega
              have HBW := Lib.hid hbw
              clear hst
              intro K hK
              rw [if_pos (by rfl)]
              obtain ⟨w7, hrun_, hown, hgr_⟩ := map_put hth kStr Tryz.underlying60 hsz (keyStr key hkm) (.agg (ox (x.raw a' c')))
              obtain ⟨es_, cl_, hmb_, _⟩ := hth
              go_simp
              have M7 : Mem w7 [(w2.heap.size, .cells (ox (u)) 32), (w.heap.size, .cells (ox (o)) 32), (p, .cells #[.map (some bt), .map (some bn)] 64)] := ⟨cells_put M6.1 hmb_ hgr_, cells_put M6.2.1 hmb_ hgr_, cells_put M6.2.2.1 hmb_ hgr_, trivial⟩
              refine hK.out _ _ M7 (fun _ => ?_)
              clear hK K hrun_
              have hB7 := KF.trans hB6 (KF.grown hgr_ (fun j hj => by cases hj; exact hwt))
              have hw7 : LaidF W w7 := hw0.kf hB7
              clear hmb_
              refine wpAnyH_done (by kernel_rfl) ?_ _
              have z7_0 := Mem.lt M7.1
              have z7_1 := Mem.lt M7.2.1
              have c7_2_0 := Mem.cell (v := .map (some bt)) M7.2.2.1 0 rfl
              have c7_2_1 := Mem.cell (v := .map (some bn)) M7.2.2.1 1 rfl
              have z7_2 := Mem.lt M7.2.2.1
              have HOWN : Hid (∃ n, w7.ownsMap Tryz.prog 9 rawR bt n (Dt.put (.string key.data.toList) (.held (.agg (ox (x.raw a' c')))))) := Lib.hid ⟨_, hown⟩
              have HGR := Lib.hid hgr_
              have HB := Lib.hid hB7
              have HM := Lib.hid M7
              go_wp2_with fail
              go_meet
              exact ⟨_, a', c', HBW, hob, HOWN, HGR, HB.out, HM.out⟩
            case rest =>
              obtain ⟨wa, a', c', HBW, hob, HOWN, HGR, hKF, hM⟩ := hcut
              obtain ⟨w50, rfl⟩ : ∃ x, x = wc := ⟨_, rfl⟩
              have hB50 := hKF
              have hw50 := hw0.kf hB50
              have M50 := hM
              clear hM hKF
              have z50_0 := Mem.lt M50.1
              have z50_1 := Mem.lt M50.2.1
              have c50_2_0 := Mem.cell (v := .map (some bt)) M50.2.2.1 0 rfl
              have c50_2_1 := Mem.cell (v := .map (some bn)) M50.2.2.1 1 rfl
              have z50_2 := Mem.lt M50.2.2.1
              have hbd : Bd o.lS ∧ Bd o.lI := by rw [HO.out]; exact HBD.out
              obtain ⟨L, hL⟩ : ∃ L, L = namesOf S o.lS o.lI := ⟨_, rfl⟩
              obtain ⟨v, hv⟩ : ∃ v, v = (fD Dn (labK o.lS o.lI)).getD nilS := ⟨_, rfl⟩
              have HY : Hid (Below w50.heap.size w50 w50) := Lib.hid (Below.refl _ _)
              have HN : Hid (w50.ownsMap Tryz.prog 25 rawR bn (Maps.size Dn) Dn ∧ NamesR w50 W Dn S) := Lib.hid ((HI.out.below HBW.out).half HGR.out).2
              have HLK := Lib.hid fun (W' : World) (h : Hid (W'.ownsMap Tryz.prog 25 rawR bn (Maps.size Dn) Dn ∧ NamesR W' W Dn S)) => names_look h.out.1 h.out.2 o.lS o.lI hbd.1 hbd.2
              rw [← hv, ← hL] at HLK
              have HLL : Hid (L.Pairwise (fun s t => ordB s t < 0) ∧ (∀ s ∈ L, s.size ≤ 95) ∧ L.length ≤ 1000000) := Lib.hid (by
                rw [hL]
                refine ⟨names_sorted HI.out.sorted _ _, fun s hs => ?_, ?_⟩
                · obtain ⟨z, hz, _⟩ := namesOf_mem.1 hs
                  exact okE_size (HI.out.ok _ hz)
                · refine Nat.le_trans ?_ HS0.out
                  unfold namesOf
                  rw [List.length_map]
                  exact List.length_filter_le _ _)
              have hk95 : key.size ≤ 95 := okE_size (e := (key, x)) ⟨HR0.out.1, HBD.out⟩
              have HVL := Lib.hid (And.intro hL hv)
              have HBK : Hid (∀ k, v.ownBlock = some k → W k) := Lib.hid (fun k hk => by
                rw [hv] at hk
                cases hf : fD Dn (labK o.lS o.lI) with
                | none => rw [hf] at hk; cases hk
                | some u => rw [hf] at hk; exact HI.out.rN.wr _ u k hf hk)
              clear hL hv hbd
              go_upto_region 7 with (fail)
              have c50_1_1 := Mem.cell (v := .string o.lS) M50.2.1 1 rfl
              have c50_1_2 := Mem.cell (v := .string o.lI) M50.2.1 2 rfl
              go_still_tail 6, (by kernel_rfl)
              change wpList _ _ _ _ _ w50.drew
              obtain ⟨w51, hW51⟩ : ∃ x, x = w50.drew := ⟨_, rfl⟩
              have hB51 : KF (W) w w51 := by rw [hW51]; exact kf_dr hB50
              have hw51 : LaidF W w51 := hw0.kf hB51
              have M51 := Mem.drew M50
              rw [← hW51] at M51
              rw [← hW51]
              replace HY := hid_then HY (below_dr (Below.refl _ w50))
              rw [← hW51] at HY
              replace HN := hid_half HN (below_dr (Below.refl _ w50))
              rw [← hW51] at HN
              clear z50_0 z50_1 c50_2_0 c50_2_1 z50_2 c50_1_1 c50_1_2
              clear hW51
              have z51_0 := Mem.lt M51.1
              have z51_1 := Mem.lt M51.2.1
              have c51_2_0 := Mem.cell (v := .map (some bt)) M51.2.2.1 0 rfl
              have c51_2_1 := Mem.cell (v := .map (some bn)) M51.2.2.1 1 rfl
              have z51_2 := Mem.lt M51.2.2.1
              have hlk := (HLK.out _ HN).1
              go_wp2_with fail
              refine Calls.named ?_
              intro W52 hW52
              have hB52_ : KF (W) w W52 := by rw [hW52]; exact hB51
              have hw52_ : LaidF W W52 := by rw [hW52]; exact hw51
              have M52_ := M51
              rw [← hW52] at M52_
              have hS52 : Below w51.heap.size w51 W52 := by rw [hW52]; exact (Below.refl _ _)
              have HY_ := hid_then HY hS52
              have HN_ := hid_half HN hS52
              clear hS52 HY HN
              clear hW52
              have ZZ52_0 := Lib.hid (Mem.lt M52_.1)
              have ZZ52_1 := Lib.hid (Mem.lt M52_.2.1)
              have ZZ52_2 := Lib.hid (Mem.lt M52_.2.2.1)
              clear z51_0 z51_1 c51_2_0 c51_2_1 z51_2
              refine (bsearch_any L HLL.out.1 HLL.out.2.1 key hk95 0 v _ (hw52_).laid (HLK.out _ HN_).2 HLL.out.2.2).mono ?_
              rintro e w52 ⟨rfl, hb52⟩
              have HY := hid_then HY_ hb52
              have HN := hid_half HN_ hb52
              clear HY_ HN_
              have hB52 := kf_then hB52_ hb52
              have hw52 := hw52_.below hb52
              have M52 := M52_.below hb52
              clear M52_ hB52_ hb52 hw52_
              have z52_0 := Mem.lt M52.1
              have z52_1 := Mem.lt M52.2.1
              have c52_2_0 := Mem.cell (v := .map (some bt)) M52.2.2.1 0 rfl
              have c52_2_1 := Mem.cell (v := .map (some bn)) M52.2.2.1 1 rfl
              have z52_2 := Mem.lt M52.2.2.1
              clear hlk
              go_upto_region 9 with (fail)
              clear HX HNR HLR HL
              have hLT := (insL_take HLL.out.1 key)
              have hsz : Maps.size Dn < maxLen := by have := HI.out.sizeN; have := HS0.out; unfold maxLen; omega
              have hbd : Bd o.lS ∧ Bd o.lI := by rw [HO.out]; exact HBD.out
              have HKL := Lib.hid (keyLab o.lS o.lI (bd_max hbd.1) (bd_max hbd.2))
              have HLT := Lib.hid hLT
              clear hLT hbd
              clear z52_0 z52_1 c52_2_0 c52_2_1 z52_2
              refine wp_region_held (S := fun w' => Mem w' [(w2.heap.size, .cells (ox (u)) 32), (w.heap.size, .cells (ox (o)) 32), (p, .cells #[.map (some bt), .map (some bn)] 64)]) (by kernel_rfl) ?_
              change wpAnyH _ _ _ _ _ 12 (Array.replicate 12 false) _ w52.drew
              refine anyH_named ?_
              intro w53 hW53
              have hB53 : KF (W) w w53 := by rw [hW53]; exact kf_dr hB52
              have hw53 : LaidF W w53 := by rw [hW53]; exact hw52.below (below_dr (Below.refl _ _))
              have M53 : Mem w53 [(w2.heap.size, .cells (ox (u)) 32), (w.heap.size, .cells (ox (o)) 32), (p, .cells #[.map (some bt), .map (some bn)] 64)] := by rw [hW53]; exact Mem.drew M52
              have zz53 : w52.heap.size ≤ w53.heap.size := by rw [hW53]; exact Nat.le_refl _
              replace HY := hid_then HY (below_dr (Below.refl _ w52))
              rw [← hW53] at HY
              replace HN := hid_half HN (below_dr (Below.refl _ w52))
              rw [← hW53] at HN
              clear hW53
              have zh53_0 := Mem.lt M53.1
              have zh53_1 := Mem.lt M53.2.1
              have zh53_2 := Mem.lt M53.2.2.1
              refine wpAnyH_take (i := 0) (v := ?_) rfl (by decide +kernel) (by decide +kernel) (by decide +kernel) (fun _ _ _ h => h) (Or.inl ⟨by rfl, ?_⟩) M53 ?_
              rotate_left
              · intro w hSw
                clear hSw
                go_simp; try (with_reducible rfl)
              try simp only [Act.put, List.getElem_toArray, List.getElem_cons_zero, List.setIfInBounds_toArray, List.set_cons_zero, List.set_cons_succ]
              refine wpAnyH_take (i := 4) (v := ?_) rfl (by decide +kernel) (by decide +kernel) (by decide +kernel) (fun _ _ _ h => h) (Or.inl ⟨by rfl, ?_⟩) M53 ?_
              rotate_left
              · intro w hSw
                clear hSw
                go_simp; try (with_reducible rfl)
              try simp only [Act.put, List.getElem_toArray, List.getElem_cons_succ, List.getElem_cons_zero, List.setIfInBounds_toArray, List.set_cons_zero, List.set_cons_succ]
              refine wpAnyH_take (i := 6) (v := ?_) rfl (by decide +kernel) (by decide +kernel) (by decide +kernel) (fun _ _ _ h => h) (Or.inl ⟨by rfl, ?_⟩) M53 ?_
              rotate_left
              · intro w hSw
                clear hSw
                go_simp; try (with_reducible rfl)
              try simp only [Act.put, List.getElem_toArray, List.getElem_cons_succ, List.getElem_cons_zero, List.setIfInBounds_toArray, List.set_cons_zero, List.set_cons_succ]
              refine wpAnyH_take (i := 7) (v := ?_) rfl (by decide +kernel) (by decide +kernel) (by decide +kernel) (fun _ _ _ h => h) (Or.inl ⟨by rfl, ?_⟩) M53 ?_
              rotate_left
              · intro w hSw
                clear hSw
                go_simp; try (with_reducible rfl)
              try simp only [Act.put, List.getElem_toArray, List.getElem_cons_succ, List.getElem_cons_zero, List.setIfInBounds_toArray, List.set_cons_zero, List.set_cons_succ]
              refine wpAnyH_take (i := 8) (v := ?_) rfl (by decide +kernel) (by decide +kernel) (by decide +kernel) (fun _ _ _ h => h) (Or.inl ⟨by rfl, ?_⟩) M53 ?_
              rotate_left
              · intro w hSw
                clear hSw
                go_simp; try (with_reducible rfl)
              try simp only [Act.put, List.getElem_toArray, List.getElem_cons_succ, List.getElem_cons_zero, List.setIfInBounds_toArray, List.set_cons_zero, List.set_cons_succ]
              refine wpAnyH_take (i := 1) (v := ?_) rfl (by decide +kernel) (by decide +kernel) (by decide +kernel) (fun _ _ _ h => h) (Or.inl ⟨by rfl, ?_⟩) M53 ?_
              rotate_left
              · intro w hSw
                clear hSw
                go_simp; try (with_reducible rfl)
              try simp only [Act.put, List.getElem_toArray, List.getElem_cons_succ, List.getElem_cons_zero, List.setIfInBounds_toArray, List.set_cons_zero, List.set_cons_succ]
              refine wpAnyH_take (i := 5) (v := ?_) rfl (by decide +kernel) (by decide +kernel) (by decide +kernel) (fun _ _ _ h => h) (Or.inl ⟨by rfl, ?_⟩) M53 ?_
              rotate_left
              · intro w hSw
                have s_1 := Mem.cell (v := .string o.lS) hSw.2.1 1 rfl
                have s_2 := Mem.cell (v := .string o.lI) hSw.2.1 2 rfl
                clear hSw
                go_simp; try (with_reducible rfl)
              try simp only [Act.put, List.getElem_toArray, List.getElem_cons_succ, List.getElem_cons_zero, List.setIfInBounds_toArray, List.set_cons_zero, List.set_cons_succ]
              refine wpAnyH_take (i := 2) (v := ?_) rfl (by decide +kernel) (by decide +kernel) (by decide +kernel) (fun _ _ _ h => h) (Or.inl ⟨by rfl, ?_⟩) M53 ?_
              rotate_left
              · intro w hSw
                clear hSw
                go_simp; try (with_reducible rfl)
              try simp only [Act.put, List.getElem_toArray, List.getElem_cons_succ, List.getElem_cons_zero, List.setIfInBounds_toArray, List.set_cons_zero, List.set_cons_succ]
              refine wpAnyH_take (i := 3) (v := ?_) rfl (by decide +kernel) (by decide +kernel) (by decide +kernel) (fun _ _ _ h => h) (Or.inl ⟨by rfl, ?_⟩) M53 ?_
              rotate_left
              · intro w hSw
                have s_1 := Mem.cell (v := .map (some bn)) hSw.2.2.1 1 rfl
                clear hSw
                go_simp; try (with_reducible rfl)
              try simp only [Act.put, List.getElem_toArray, List.getElem_cons_succ, List.getElem_cons_zero, List.setIfInBounds_toArray, List.set_cons_zero, List.set_cons_succ]
              refine wpAnyH_ready (rs := [9]) (by decide +kernel) (by simp) (AllReadyH.cons rfl ?_ AllReadyH.nil)
              intro K hK
              rw [if_pos (by rfl)]
              go_simp
              have N54 : Mem (w53.alloc (.cells #[.string key] 9)) [(w53.heap.size, .cells #[.string key] 9), (w2.heap.size, .cells (ox (u)) 32), (w.heap.size, .cells (ox (o)) 32), (p, .cells #[.map (some bt), .map (some bn)] 64)] := (M53).new' (w53.heap.size) (by rfl) (.cells #[.string key] 9)
              refine hK.out _ _ ⟨N54.2.1, N54.2.2.1, N54.2.2.2.1, trivial⟩ (fun _ => ?_)
              clear hK K
              try simp only [Act.put, List.getElem_toArray, List.getElem_cons_succ, List.getElem_cons_zero, List.setIfInBounds_toArray, List.set_cons_zero, List.set_cons_succ]
              refine anyH_named ?_
              intro w54 hW54
              have hB54 : KF (W) w w54 := by rw [hW54]; exact kf_al hB53 _
              have hw54 : LaidF W w54 := by rw [hW54]; exact hw53.alloc _
              have M54 : Mem w54 [(w53.heap.size, .cells #[.string key] 9), (w2.heap.size, .cells (ox (u)) 32), (w.heap.size, .cells (ox (o)) 32), (p, .cells #[.map (some bt), .map (some bn)] 64)] := by rw [hW54]; exact N54
              replace HY := hid_then HY (below_al (Below.refl _ w53) (.cells #[.string key] 9))
              rw [show w53.alloc (.cells #[.string key] 9) = w54 from hW54.symm] at HY
              replace HN := hid_half HN (below_al (Below.refl _ w53) (.cells #[.string key] 9))
              rw [show w53.alloc (.cells #[.string key] 9) = w54 from hW54.symm] at HN
              clear hW54 N54
              have zz54 : w53.heap.size < w54.heap.size := Mem.lt M54.1
              refine wpAnyH_ready (rs := [10]) (by decide +kernel) (by simp) (AllReadyH.cons rfl ?_ AllReadyH.nil)
              have hrow0 := (HLK.out _ HN).2
              have hgl := hB52.size
              have hgm := hB53.size
              have hgw := hB2.size
              intro K hK
              rw [if_pos (by rfl)]
              go_simp
              go_at_call 34
              refine (insert_any L (loL L key) HLT.out.2 key v _ _ hrow0 M54.1 (fun b hb => by have := H0.out b (.inl (HBK.out b hb)); omega) HLL.out.2.2).mono ?_
              rintro e w55 ⟨v', rfl, hrow, hblk, hnn, hb55⟩
              have M55 : Mem w55 [(w53.heap.size, .cells #[.string key] 9), (w2.heap.size, .cells (ox (u)) 32), (w.heap.size, .cells (ox (o)) 32), (p, .cells #[.map (some bt), .map (some bn)] 64)] := ⟨mem_kf M54.1 hb55 (by exact nohit HBK H0 hnp (by omega)), mem_kf M54.2.1 hb55 (by exact nohit HBK H0 hnp (by omega)), mem_kf M54.2.2.1 hb55 (by exact nohit HBK H0 hnp (by omega)), mem_kf M54.2.2.2.1 hb55 (by exact nohit HBK H0 hnp (by omega)), trivial⟩
              have hB55 := kf_call hB54 hb55 (HBK.out)
              have hw55 : LaidF W w55 := hw0.kf hB55
              have zz55 := hb55.size
              refine hK.out _ _ ⟨M55.2.1, M55.2.2.1, M55.2.2.2.1, trivial⟩ (fun _ => ?_)
              clear hK K
              try simp only [Act.put, List.getElem_toArray, List.getElem_cons_succ, List.getElem_cons_zero, List.setIfInBounds_toArray, List.set_cons_zero, List.set_cons_succ]
              refine wpAnyH_ready (rs := [11]) (by decide +kernel) (by simp) (AllReadyH.cons rfl ?_ AllReadyH.nil)
              have hkf := hb55
              have hn2 := ownsMap_kf HN.out.1 hkf (fun e => row_ne_map hrow0 HN.out.1 bn e rfl)
              have hky := HKL.out
              intro K hK
              rw [if_pos (by rfl)]
              obtain ⟨w56, hrun_, hne, hgr_⟩ := map_put hn2 kLab Tryz.underlying62 hsz hky (v')
              obtain ⟨es_, cl_, hmb_, _⟩ := hn2
              go_simp
              have M56 : Mem w56 [(w53.heap.size, .cells #[.string key] 9), (w2.heap.size, .cells (ox (u)) 32), (w.heap.size, .cells (ox (o)) 32), (p, .cells #[.map (some bt), .map (some bn)] 64)] := ⟨cells_put M55.1 hmb_ hgr_, cells_put M55.2.1 hmb_ hgr_, cells_put M55.2.2.1 hmb_ hgr_, cells_put M55.2.2.2.1 hmb_ hgr_, trivial⟩
              refine hK.out _ _ ⟨M56.2.1, M56.2.2.1, M56.2.2.2.1, trivial⟩ (fun _ => ?_)
              clear hK K hrun_
              have hB56 := KF.trans hB55 (KF.grown hgr_ (fun j hj => by cases hj; exact hwn))
              have hw56 : LaidF W w56 := hw0.kf hB56
              clear hmb_
              refine wpAnyH_done (by kernel_rfl) ?_ _
              have c56_0_0 := Mem.cell (v := .string key) M56.1 0 rfl
              have z56_0 := Mem.lt M56.1
              have z56_1 := Mem.lt M56.2.1
              have z56_2 := Mem.lt M56.2.2.1
              have c56_3_0 := Mem.cell (v := .map (some bt)) M56.2.2.2.1 0 rfl
              have c56_3_1 := Mem.cell (v := .map (some bn)) M56.2.2.2.1 1 rfl
              have z56_3 := Mem.lt M56.2.2.2.1
              have HF := Lib.hid (StoreIn.ins (v' := v') H0.out HBW.out.size (HI.out.below HBW.out) HR0.out.2 HR0.out.1 HBD.out.1 HBD.out.2 HOWN.out.choose_spec HGR.out hob.out HY.out (ins_row HLT.out.1 HVL HO hrow) (by rw [ins_blk HVL HO] at hblk; exact hblk) (by rw [ins_blk HVL HO] at hkf; exact hkf) (ins_put HO hne) hgr_)
              have HB := Lib.hid hB56
              go_wp2_with fail
              go_ret
              have hsy := Nat.le_trans HBW.out.size (Nat.le_trans HGR.out.size HY.out.size)
              exact ⟨_, _, rfl, Lib.hid (by rw [HT.out]; exact ⟨bt, bn, _, _, HF.out⟩), Lib.hid (ins_new hsy), Lib.hid q_new, HB.out⟩
theorem add_any (p : Nat) (S : St) (W Q : Nat → Prop) (key : ByteArray) (hk : key.size ≤ 140737488351232) (x : OB) (A : Nat → Prop) (v : Value) (w : World) (h : StoreAt w p S W Q) (hS : S.length ≤ 1000000) (hx : ObIn w A v x) (hx1 : Bd x.lS) (hx2 : Bd x.lI) (hw : LaidF W w) :
    Calls Tryz.prog 13 #[.pointer (some ⟨p, 0, none⟩), .string key, v] w (AddEnds p S W Q key x w (addE S key x)) := by
  obtain ⟨bt, bn, Dt, Dn, h⟩ := h
  obtain ⟨b, d, hv, _⟩ := (h.look key (by unfold maxLen; omega)).2
  have hx' := hx
  obtain ⟨a, c, rfl, _⟩ := hx'
  exact add_raw p bt bn S W Q Dt Dn key hk x A a c w h hS hx hx1 hx2 hw _ b d _ hv rfl
end Go.Proofs.YtlkgcidhhngfeaaGreatDoor
