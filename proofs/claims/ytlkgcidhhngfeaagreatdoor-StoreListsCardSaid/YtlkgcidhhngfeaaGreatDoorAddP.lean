/- What Add leaves of a store: its two maps, one behind the other. -/
import Derived.Test.YtlkgcidhhngfeaaGreatDoorInsS
import Derived.Test.YtlkgcidhhngfeaaGreatDoorStoT
namespace Go.Proofs.YtlkgcidhhngfeaaGreatDoor
open Go.RowKit Go.Maps
theorem mem_kf {F : Nat → Prop} {w w' : World} {a : Nat} {o : Obj} (h : w.heap[a]? = some o) (g : KF F w w') (hn : ¬ F a) : w'.heap[a]? = some o := (g.block a (Array.getElem?_eq_some_iff.1 h).1 hn).trans h
theorem kf_call {F G : Nat → Prop} {w W W' : World} (hB : KF F w W) (hb : KF G W W') (h : ∀ k, G k → F k) : KF F w W' := hB.trans (hb.mono fun k _ hk => h k hk)
theorem hid_then {w w1 w2 : World} (h : Hid (Below w.heap.size w w1)) (g : Below w1.heap.size w1 w2) : Hid (Below w.heap.size w w2) := Lib.hid (below_then h.out g)
theorem Things.kf {F A : Nat → Prop} {w w' : World} {D : DataW Value} {S : St} (h : Things w A D S) (g : KF F w w') (hA : ∀ b, A b → ¬ F b) : Things w' A D S :=
  ⟨fun s x hx => by
    obtain ⟨v, hv, ho⟩ := h.1 s x hx
    exact ⟨v, hv, ho.kf g hA⟩, h.2⟩
theorem Things.mono {A A' : Nat → Prop} {w : World} {D : DataW Value} {S : St} (h : Things w A D S) (hA : ∀ b, A b → b < w.heap.size → A' b) : Things w A' D S :=
  ⟨fun s x hx => by
    obtain ⟨v, hv, ho⟩ := h.1 s x hx
    exact ⟨v, hv, ho.mono hA⟩, h.2⟩
theorem NamesR.kf {F W : Nat → Prop} {w w' : World} {D : DataW Value} {S : St} (h : NamesR w W D S) (g : KF F w w') (hF : ∀ a b kl v k, fD D kl = some v → w.ownsRow 0 9 1 v (namesOf S a b).length ((namesOf S a b).map .string) → v.ownBlock = some k → ¬ F k) : NamesR w' W D S :=
  ⟨fun a b hab => by
    obtain ⟨v, hv, ho⟩ := h.has a b hab
    exact ⟨v, hv, ownsRow_kf ho g fun k hk => hF a b _ v k hv ho hk⟩, h.only, h.wr, h.apart⟩
theorem things_ins {w wa wm : World} {p : Nat} {S : St} {W Q : Nat → Prop} {bt bn : Nat} {Dt Dn : DataW Value} {v : Value} {key : ByteArray} {x : OB} (h0 : ∀ b, W b ∨ Q b → b < w.heap.size) (h : StoreIn wa p S W Q bt bn Dt Dn) (hg : getS S key = none)
    (hgr : wa.grownBy wm (some bt)) (ho : ObIn wa (fun b => w.heap.size ≤ b) v x) :
    Things wm (fun b => (Q b ∨ (w.heap.size ≤ b ∧ b < wm.heap.size)) ∧ ¬ W b) (Dt.put (.string key.data.toList) (.held v)) (insS S key x) := by
  have hkf : KF (fun b => b = bt) wa wm := KF.grown hgr fun j hj => (Option.some.inj hj).symm
  have hbt := h0 bt (.inl h.wt)
  refine ⟨fun s z hz => ?_, fun kl u hu => ?_⟩
  · rcases insS_mem.1 hz with e | hz2
    · obtain ⟨rfl, rfl⟩ := Prod.mk.inj e
      exact ⟨v, fD_put_same h.things.isMap (isKey_str _) v, (ho.kf hkf fun b hb e => by subst e; omega).mono fun b hb hl => ⟨.inr ⟨hb, hl⟩, fun hw => by have := h0 b (.inl hw); omega⟩⟩
    · have hne : s ≠ key := fun e => by
        subst e
        rw [(getS_mem h.sorted).1 hz2] at hg
        cases hg
      obtain ⟨u, hu, hou⟩ := h.rT.1 s z hz2
      exact ⟨u, by rw [fD_put_other (fun e => hne (strLit_inj e))]; exact hu, (hou.kf hkf fun b hb e => hb.2 (by rw [e]; exact h.wt)).mono fun b hb _ => ⟨.inl hb.1, hb.2⟩⟩
  · by_cases hk : kl = .string key.data.toList
    · exact ⟨key, x, insS_mem.2 (.inl rfl), hk⟩
    · rw [fD_put_other hk] at hu
      obtain ⟨s, z, hz, e⟩ := h.rT.2 kl u hu
      exact ⟨s, z, insS_mem.2 (.inr hz), e⟩
theorem part_names (key : ByteArray) : ∀ {L : List ByteArray}, L.Pairwise (fun s t => ordB s t < 0) → (L.filter fun s => decide (ordB s key < 0)) ++ (L.filter fun s => !decide (ordB s key < 0)) = L
  | [], _ => rfl
  | e :: L, h => by
    obtain ⟨h1, h2⟩ := List.pairwise_cons.1 h
    by_cases hc : ordB e key < 0
    · rw [List.filter_cons_of_pos (by simpa using hc), List.filter_cons_of_neg (by simpa using hc), List.cons_append, part_names key h2]
    · have hall : ∀ f ∈ L, ¬ ordB f key < 0 := fun f hf hfk => hc (ordB_trans (h1 f hf) hfk)
      have e1 : (L.filter fun s => decide (ordB s key < 0)) = [] := List.filter_eq_nil_iff.2 fun f hf => by simpa using hall f hf
      have e2 : (L.filter fun s => !decide (ordB s key < 0)) = L := List.filter_eq_self.2 fun f hf => by simpa using hall f hf
      rw [List.filter_cons_of_neg (by simpa using hc), List.filter_cons_of_pos (by simpa using hc), e1, e2]
      rfl
theorem insL_take {L : List ByteArray} (h : L.Pairwise fun s t => ordB s t < 0) (key : ByteArray) : insL L key = L.take (loL L key) ++ key :: L.drop (loL L key) ∧ loL L key ≤ L.length := by
  have hp := part_names key h
  have hl : loL L key ≤ L.length := List.length_filter_le _ _
  refine ⟨?_, hl⟩
  obtain ⟨n, hn⟩ : ∃ n, n = loL L key := ⟨_, rfl⟩
  rw [← hn]
  have hn2 : n = (L.filter fun s => decide (ordB s key < 0)).length := hn
  have e1 : L.take n = L.filter fun s => decide (ordB s key < 0) := by
    conv => lhs; rw [← hp]
    rw [hn2]
    exact List.take_left
  have e2 : L.drop n = L.filter fun s => !decide (ordB s key < 0) := by
    conv => lhs; rw [← hp]
    rw [hn2]
    exact List.drop_left
  unfold insL
  rw [e1, e2]
/-- the names of a label, as the look-up tells them -/
def nilS : Value := .slice none 0 0
theorem zero_strs (w : World) : (zeroValue 38).run Tryz.prog w = .ok nilS w := by kernel_rfl
theorem names_look {w : World} {bn n : Nat} {Dn : DataW Value} {S : St} {W : Nat → Prop} (hm : w.ownsMap Tryz.prog 25 rawR bn n Dn) (h : NamesR w W Dn S) (a b : ByteArray) (ha : Bd a) (hb : Bd b) :
    (Instr.lookup 62 (.map (some bn)) (.agg #[.string a, .string b]) false).run Tryz.prog w = .ok ((fD Dn (labK a b)).getD nilS) w ∧ w.ownsRow 0 9 1 ((fD Dn (labK a b)).getD nilS) (namesOf S a b).length ((namesOf S a b).map .string) := by
  refine ⟨map_look hm kLab Tryz.underlying62 (zero_strs w) (keyLab a b (bd_max ha) (bd_max hb)) false, ?_⟩
  by_cases hn : namesOf S a b = []
  · have hf : fD Dn (labK a b) = none := by
      cases hf : fD Dn (labK a b) with
      | none => rfl
      | some v =>
        obtain ⟨c, d, hc, hd, e, hne⟩ := h.only _ v hf
        obtain ⟨rfl, rfl⟩ := labK_inj ha hb hc hd e
        exact absurd hn hne
    rw [hf, hn]
    exact ⟨rfl, .inl ⟨rfl, rfl⟩⟩
  · obtain ⟨v, hv, hr⟩ := h.has a b hn
    rw [hv]
    exact hr
theorem bd_names {S : St} (h : ∀ e ∈ S, OkE e) {a b : ByteArray} (hn : namesOf S a b ≠ []) : Bd a ∧ Bd b := by
  obtain ⟨s, hs⟩ := List.exists_mem_of_ne_nil _ hn
  obtain ⟨x, hx, rfl, rfl⟩ := namesOf_mem.1 hs
  exact (h _ hx).2
theorem insL_ne (L : List ByteArray) (key : ByteArray) : insL L key ≠ [] := by simp [insL]
theorem names_ins {wc wd we : World} {S : St} {W : Nat → Prop} {bn n n' : Nat} {Dn : DataW Value} {key : ByteArray} {x : OB} {v' : Value} (hsS : SortedS S) (hok : ∀ e ∈ S, OkE e) (hx1 : Bd x.lS) (hx2 : Bd x.lI) (hW : ∀ b, W b → b < wc.heap.size) (_ : wc.ownsMap Tryz.prog 25 rawR bn n Dn) (h : NamesR wc W Dn S)
    (hrow : wd.ownsRow 0 9 1 v' (insL (namesOf S x.lS x.lI) key).length ((insL (namesOf S x.lS x.lI) key).map .string)) (hblk : v'.ownBlock = ((fD Dn (labK x.lS x.lI)).getD nilS).ownBlock ∨ v'.ownBlock = some wc.heap.size) (hkf : KF (fun b => ((fD Dn (labK x.lS x.lI)).getD nilS).ownBlock = some b) wc wd) (hnd : wd.ownsMap Tryz.prog 25 rawR bn n Dn)
    (hne : we.ownsMap Tryz.prog 25 rawR bn n' (Dn.put (labK x.lS x.lI) (.held v'))) (hgr : wd.grownBy we (some bn)) :
    NamesR we (fun b => W b ∨ (wc.heap.size ≤ b ∧ b < we.heap.size)) (Dn.put (labK x.lS x.lI) (.held v')) (insS S key x) := by
  have hk2 : KF (fun b => b = bn) wd we := KF.grown hgr fun j hj => (Option.some.inj hj).symm
  have hkey : WideAt.IsKeyLit (labK x.lS x.lI) := trivial
  have hvb : ∀ k, v'.ownBlock = some k → k < wd.heap.size := fun k hk => by
    rcases hrow.2 with ⟨rfl, _⟩ | ⟨g, cap, cur, rfl, _, hg, _⟩
    · cases hk
    · cases hk
      exact (Array.getElem?_eq_some_iff.1 hg).1
  have hold : ∀ k, ((fD Dn (labK x.lS x.lI)).getD nilS).ownBlock = some k → ∃ u, fD Dn (labK x.lS x.lI) = some u ∧ u.ownBlock = some k := fun k hk => by
    cases hf : fD Dn (labK x.lS x.lI) with
    | none => rw [hf] at hk; cases hk
    | some u => rw [hf] at hk; exact ⟨u, rfl, hk⟩
  refine ⟨fun a b hab => ?_, fun kl u hu => ?_, fun kl u k hu hk => ?_, fun kl kl' u u' k hu hu' hk hk' => ?_⟩
  · by_cases he : x.lS = a ∧ x.lI = b
    · obtain ⟨rfl, rfl⟩ := he
      rw [names_insS_same] at hab ⊢
      exact ⟨v', fD_put_same hnd.isMap hkey v', ownsRow_kf hrow hk2 (row_ne_map hrow hnd)⟩
    · rw [names_insS_other hsS he] at hab ⊢
      obtain ⟨u, hu, hr⟩ := h.has a b hab
      obtain ⟨ha, hb⟩ := bd_names hok hab
      have hlk : labK a b ≠ labK x.lS x.lI := fun e => by
        obtain ⟨e1, e2⟩ := labK_inj ha hb hx1 hx2 e
        exact he ⟨e1.symm, e2.symm⟩
      have hr2 := ownsRow_kf hr hkf fun k hk hf => by
        obtain ⟨u', hu', hk'⟩ := hold k hf
        exact hlk (h.apart _ _ _ _ k hu hu' hk hk')
      exact ⟨u, by rw [fD_put_other hlk]; exact hu, ownsRow_kf hr2 hk2 (row_ne_map hr2 hnd)⟩
  · by_cases he : kl = labK x.lS x.lI
    · exact ⟨x.lS, x.lI, hx1, hx2, he, by rw [names_insS_same]; exact insL_ne _ _⟩
    · rw [fD_put_other he] at hu
      obtain ⟨a, b, ha, hb, e, hn⟩ := h.only kl u hu
      refine ⟨a, b, ha, hb, e, ?_⟩
      rw [names_insS_other hsS (fun e' => he (by rw [e, e'.1, e'.2]))]
      exact hn
  · by_cases he : kl = labK x.lS x.lI
    · subst he
      rw [fD_put_same hnd.isMap hkey] at hu
      cases hu
      have h1 := hvb k hk
      have h2 := hk2.size
      rcases hblk with hb | hb
      · rw [hb] at hk
        obtain ⟨u', hu', hk'⟩ := hold k hk
        exact .inl (h.wr _ u' k hu' hk')
      · rw [hb] at hk
        cases hk
        exact .inr ⟨Nat.le_refl _, by omega⟩
    · rw [fD_put_other he] at hu
      exact .inl (h.wr kl u k hu hk)
  · have hfresh : ∀ kl u, fD Dn kl = some u → u.ownBlock = some k → kl ≠ labK x.lS x.lI → v'.ownBlock = some k → False := fun kl u hu hk hne hv => by
      rcases hblk with hb | hb
      · rw [hb] at hv
        obtain ⟨u', hu', hk'⟩ := hold k hv
        exact hne (h.apart _ _ _ _ k hu hu' hk hk')
      · rw [hb] at hv
        cases hv
        have := hW _ (h.wr kl u _ hu hk)
        omega
    by_cases he : kl = labK x.lS x.lI
    · by_cases he' : kl' = labK x.lS x.lI
      · rw [he, he']
      · subst he
        rw [fD_put_same hnd.isMap hkey] at hu
        cases hu
        rw [fD_put_other he'] at hu'
        exact (hfresh kl' u' hu' hk' he' hk).elim
    · by_cases he' : kl' = labK x.lS x.lI
      · subst he'
        rw [fD_put_same hnd.isMap hkey] at hu'
        cases hu'
        rw [fD_put_other he] at hu
        exact (hfresh kl u hu hk he hk').elim
      · rw [fD_put_other he] at hu
        rw [fD_put_other he'] at hu'
        exact h.apart kl kl' u u' k hu hu' hk hk'
/-- behind the first map's store: what stands of the second one -/
theorem StoreIn.half {wa wm : World} {p : Nat} {S : St} {W Q : Nat → Prop} {bt bn : Nat} {Dt Dn : DataW Value} (h : StoreIn wa p S W Q bt bn Dt Dn) (hgr : wa.grownBy wm (some bt)) :
    wm.heap[p]? = some (.cells #[.map (some bt), .map (some bn)] 64) ∧ wm.ownsMap Tryz.prog 25 rawR bn (Maps.size Dn) Dn ∧ NamesR wm W Dn S := by
  have hkf : KF (fun b => b = bt) wa wm := KF.grown hgr fun j hj => (Option.some.inj hj).symm
  exact ⟨(hkf.block p (h.lt p (.inr h.qp)) (fun e => h.np (by rw [e]; exact h.wt))).trans h.ptr, ownsMap_kf h.names hkf (fun e => h.ne e.symm), h.rN.kf hkf fun a b kl v k _ hr hk => row_ne_map hr h.things k hk⟩
theorem StoreIn.ins {w wa wm wc wd we : World} {p : Nat} {S : St} {W Q : Nat → Prop} {bt bn : Nat} {Dt Dn : DataW Value} {n n' : Nat} {v v' : Value} {key : ByteArray} {x : OB} (h0 : ∀ b, W b ∨ Q b → b < w.heap.size) (hs0 : w.heap.size ≤ wa.heap.size) (h : StoreIn wa p S W Q bt bn Dt Dn) (hg : getS S key = none) (hkey : (readL key.data.toList).isSome = true) (hx1 : Bd x.lS) (hx2 : Bd x.lI)
    (hm : wm.ownsMap Tryz.prog 9 rawR bt n (Dt.put (.string key.data.toList) (.held v))) (hgr : wa.grownBy wm (some bt)) (ho : ObIn wa (fun b => w.heap.size ≤ b) v x) (hmc : Below wm.heap.size wm wc)
    (hrow : wd.ownsRow 0 9 1 v' (insL (namesOf S x.lS x.lI) key).length ((insL (namesOf S x.lS x.lI) key).map .string)) (hblk : v'.ownBlock = ((fD Dn (labK x.lS x.lI)).getD nilS).ownBlock ∨ v'.ownBlock = some wc.heap.size) (hkf : KF (fun b => ((fD Dn (labK x.lS x.lI)).getD nilS).ownBlock = some b) wc wd)
    (hne : we.ownsMap Tryz.prog 25 rawR bn n' (Dn.put (labK x.lS x.lI) (.held v'))) (hgr2 : wd.grownBy we (some bn)) :
    StoreIn we p (insS S key x) (fun b => W b ∨ (wc.heap.size ≤ b ∧ b < we.heap.size)) (fun b => Q b ∨ (w.heap.size ≤ b ∧ b < wc.heap.size)) bt bn (Dt.put (.string key.data.toList) (.held v)) (Dn.put (labK x.lS x.lI) (.held v')) := by
  obtain ⟨hp1, hn1, hN1⟩ := h.half hgr
  have hT1 := things_ins h0 h hg hgr ho
  have hs1 : wa.heap.size ≤ wm.heap.size := hgr.size
  have hs2 := hmc.size
  have hs3 := hkf.size
  have k2 : KF (fun b => b = bn) wd we := KF.grown hgr2 fun j hj => (Option.some.inj hj).symm
  have hs4 := k2.size
  have kmc : KF (fun _ => False) wm wc := KF.of_below hmc
  have hWw : ∀ b, W b → b < w.heap.size := fun b hb => h0 b (.inl hb)
  have hvl : ∀ k, ((fD Dn (labK x.lS x.lI)).getD nilS).ownBlock = some k → W k := fun k hk => by
    cases hf : fD Dn (labK x.lS x.lI) with
    | none => rw [hf] at hk; cases hk
    | some u => rw [hf] at hk; exact h.rN.wr _ u k hf hk
  -- at wc
  have hp2 := (hmc.block p (by have := h0 p (.inr h.qp); omega)).trans hp1
  have hn2 := ownsMap_kf hn1 kmc (fun e => e)
  have hm2 := ownsMap_kf hm kmc (fun e => e)
  have hN2 := hN1.kf kmc fun _ _ _ _ _ _ _ _ e => e
  have hT2 := hT1.kf kmc fun _ _ e => e
  -- at wd
  have hp3 := (hkf.block p (by have := h0 p (.inr h.qp); omega) (fun e => h.np (hvl p e))).trans hp2
  have hrowc : wc.ownsRow 0 9 1 ((fD Dn (labK x.lS x.lI)).getD nilS) (namesOf S x.lS x.lI).length ((namesOf S x.lS x.lI).map .string) := (names_look hn2 hN2 _ _ hx1 hx2).2
  have hn3 := ownsMap_kf hn2 hkf (fun e => row_ne_map hrowc hn2 bn e rfl)
  have hm3 := ownsMap_kf hm2 hkf (fun e => row_ne_map hrowc hm2 bt e rfl)
  have hT3 := hT2.kf hkf fun b hb e => hb.2 (hvl b e)
  -- at we
  have hm4 := ownsMap_kf hm3 k2 h.ne
  have hT4 := hT3.kf k2 fun b hb e => hb.2 (by rw [e]; exact h.wn)
  exact {
    ptr := (k2.block p (by have := h0 p (.inr h.qp); omega) (fun e => h.np (by rw [e]; exact h.wn))).trans hp3
    things := map_size hm4
    names := map_size hne
    rT := hT4.mono fun b hb hl => by
      obtain ⟨h1, h2⟩ := hb
      refine ⟨?_, fun hw => ?_⟩
      · rcases h1 with h1 | h1
        · exact .inl h1
        · exact .inr ⟨h1.1, by omega⟩
      · rcases hw with hw | hw
        · exact h2 hw
        · rcases h1 with h1 | h1
          · have := h0 b (.inr h1); omega
          · omega
    rN := names_ins h.sorted h.ok hx1 hx2 (fun b hb => by have := hWw b hb; omega) hn2 hN2 hrow hblk hkf hn3 hne hgr2
    wt := .inl h.wt
    wn := .inl h.wn
    ne := h.ne
    np := fun e => e.elim h.np fun e => by have := h0 p (.inr h.qp); omega
    qp := .inl h.qp
    lt := fun b hb => by
      rcases hb with (hb | hb) | (hb | hb)
      · have := hWw b hb; omega
      · exact hb.2
      · have := h0 b (.inr hb); omega
      · omega
    sorted := insS_sorted h.sorted hg
    ok := fun e he => by
      rcases insS_mem.1 he with rfl | he
      · exact ⟨hkey, hx1, hx2⟩
      · exact h.ok e he }
end Go.Proofs.YtlkgcidhhngfeaaGreatDoor
