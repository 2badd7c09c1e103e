/- NmsS, OfS: joined into one text; each part says below what it holds. -/
import Derived.Test.YtlkgcidhhngfeaaGreatDoorSrtT
import Derived.Test.YtlkgcidhhngfeaaGreatDoorHideS
/- store.Names: all names, in order; store.Of: those of a label. -/
namespace Go.Proofs.YtlkgcidhhngfeaaGreatDoor
open Go.RowKit Go.Maps Go.Sort
theorem ownsRow_ge {w : World} {B k n : Nat} {e : TypeId} {v : Value} {xs : List Value} (h : w.ownsRow B e k v n xs) : ∀ b, v.ownBlock = some b → B ≤ b := by
  intro b hb
  rcases h.2 with ⟨rfl, _⟩ | ⟨g, cap, cur, rfl, h0, _⟩
  · cases hb
  · cases hb
    exact h0
/-- the keys that come of the things' map are the names -/
theorem keys_names {w : World} {p : Nat} {S : St} {W Q : Nat → Prop} {bt bn : Nat} {Dt Dn : DataW Value} (h : StoreIn w p S W Q bt bn Dt Dn) {ss : List (List UInt8)} (hp : ss.Perm (strKeys Dt)) :
    ∃ L : List ByteArray, ss.map encStr = L.map .string ∧ L.length = S.length ∧ ss.length = L.length ∧ L.Nodup ∧ (∀ s, s ∈ L ↔ s ∈ S.map (·.1)) := by
  have hl : ss.length = S.length := by
    rw [hp.length_eq, ← h.size]
    obtain ⟨es, hD, _⟩ := h.things.entries kStr
    subst hD
    simp [strKeys, Maps.size]
  have hmem : ∀ x : List UInt8, x ∈ ss ↔ (⟨x.toArray⟩ : ByteArray) ∈ S.map (·.1) := by
    intro x
    obtain ⟨es, hD, hpw, hk⟩ := h.things.entries kStr
    have e1 : x ∈ ss ↔ Maps.has Dt (.string x) = true := by
      obtain ⟨es', hD', hko⟩ := h.things.keysOf
      rw [hp.mem_iff, hD', Maps.has_eq, List.any_eq_true]
      show x ∈ es'.map (fun p => strOf p.1) ↔ _
      rw [List.mem_map]
      constructor
      · rintro ⟨q, hq, rfl⟩
        obtain ⟨v, hv⟩ := hko q hq
        obtain ⟨y, _, hy, _⟩ := Maps.keyOf_str Tryz.underlying9 hv
        exact ⟨q, hq, by rw [hy]; simp [Lit.sameKey, strOf]⟩
      · rintro ⟨q, hq, hs⟩
        obtain ⟨v, hv⟩ := hko q hq
        obtain ⟨y, _, hy, _⟩ := Maps.keyOf_str Tryz.underlying9 hv
        rw [hy] at hs
        exact ⟨q, hq, by rw [hy]; simpa [Lit.sameKey, strOf] using hs⟩
    rw [e1, has_some h.things kStr, List.mem_map]
    constructor
    · intro hs
      obtain ⟨v, hv⟩ := Option.isSome_iff_exists.1 hs
      obtain ⟨s, y, hy, e⟩ := h.rT.2 _ v hv
      refine ⟨(s, y), hy, ?_⟩
      have := Lit.string.inj e
      subst this
      rfl
    · rintro ⟨⟨s, y⟩, hy, e⟩
      have e : s = ⟨x.toArray⟩ := e
      subst e
      obtain ⟨v, hv, _⟩ := h.rT.1 _ y hy
      have hv : fD Dt (.string x) = some v := hv
      rw [hv]
      rfl
  have hnd : ss.Nodup := by
    obtain ⟨es, hD, hpw, hk⟩ := h.things.entries kStr
    obtain ⟨es', hD', hko⟩ := h.things.keysOf
    obtain rfl : es = es' := by rw [hD] at hD'; simpa using hD'
    refine (hp.nodup_iff).2 ?_
    rw [hD]
    show (es.map fun p => strOf p.1).Nodup
    refine List.pairwise_map.2 (hpw.imp_of_mem fun {a b} ha hb hne e => hne ?_)
    obtain ⟨v, hv⟩ := hko a ha
    obtain ⟨u, hu⟩ := hko b hb
    obtain ⟨x, _, hx, _⟩ := Maps.keyOf_str Tryz.underlying9 hv
    obtain ⟨y, _, hy, _⟩ := Maps.keyOf_str Tryz.underlying9 hu
    rw [hx, hy] at e ⊢
    exact congrArg _ e
  refine ⟨ss.map fun x => ⟨x.toArray⟩, by rw [List.map_map]; rfl, by rw [List.length_map]; exact hl, by rw [List.length_map], ?_, fun s => ?_⟩
  · refine List.pairwise_map.2 (hnd.imp fun {a b} hab e => hab ?_)
    have := congrArg (fun b : ByteArray => b.data.toList) e
    simpa using this
  · rw [List.mem_map]
    constructor
    · rintro ⟨x, hx, rfl⟩
      exact (hmem x).1 hx
    · intro hs
      refine ⟨s.data.toList, (hmem _).2 ?_, rfl⟩
      exact hs
theorem names_sort {S : St} (hs : SortedS S) {L : List ByteArray} (hn : L.Nodup) (hm : ∀ s, s ∈ L ↔ s ∈ S.map (·.1)) : sortL L = S.map (·.1) :=
  rise_eq (sortL_rise hn) (sorted_iff.1 hs) fun s => by rw [(sortL_perm L).mem_iff]; exact hm s
set_option maxRecDepth 100000 in
set_option maxHeartbeats 4000000 in
theorem sorted_any (p bt bn Bm : Nat) (S : St) (W Q : Nat → Prop) (Dt Dn : DataW Value) (w : World) (h : StoreIn w p S W Q bt bn Dt Dn) (h12 : S.length ≤ 12) (hw : Laid w) (hm : w.heap[Bm]? = some (.cells #[.map (some bt)] 60)) :
    Calls Tryz.prog 40 #[.func (.func 63) #[] #[.pointer (some ⟨Bm, 0, none⟩)], .func (.func 33) #[] #[]] w fun e w' => ∃ v, e = .returned v ∧ w'.ownsRow w.heap.size 9 1 v (S.map (·.1)).length ((S.map (·.1)).map .string) ∧ Below w.heap.size w w' := by
  have HC := Lib.hid (collect_any Bm bt _ Dt w hm h.things (by rw [h.size]; omega))
  have HI := Lib.hid h
  have HL := Lib.hid hw
  clear h hw hm
  go_enter Tryz.func40, Tryz.ntmps40
  have hB0 := Below.refl w.heap.size w
  have M0 := Mem.nil w
  go_wp2_with (first
    | (go_at_call 61; refine HC.out.mono ?_; rintro e w1 ⟨v, ss, rfl, hperm, hrow, hb⟩
       obtain ⟨L, hL1, hL2, hL3, hL4, hL5⟩ := keys_names HI.out hperm
       rw [hL1, hL3] at hrow
       have HB := Lib.hid hb
       have HN := Lib.hid (And.intro hL4 hL5)
       have HR := Lib.hid hrow
       have HL2 := Lib.hid hL2
       clear hperm hrow hb hL1 hL2 hL3 hL4 hL5)
    | (go_at_call 62
       refine (sortFunc_any _ _ _ _ HR.out (by rw [HL2.out]; exact h12) (fun s hs => ?_) ⟨_, HL.out, HB.out, ownsRow_ge HR.out⟩).mono ?_
       · obtain ⟨e, he, rfl⟩ := List.mem_map.1 ((HN.out.2 s).1 hs)
         exact okE_size (HI.out.ok e he)
       rintro e w2 ⟨rfl, hk, hrow⟩
       have HR2 := Lib.hid hrow
       have HK := Lib.hid hk
       clear hrow hk))
  go_ret
  have hrow := HR2.out
  rw [names_sort HI.out.sorted HN.out.1 HN.out.2] at hrow
  exact ⟨_, rfl, hrow, HK.out.toBelow HB.out HB.out.size (ownsRow_ge HR.out)⟩
set_option maxRecDepth 100000 in
set_option maxHeartbeats 4000000 in
theorem names_any (p : Nat) (S : St) (W Q : Nat → Prop) (w : World) (h : StoreAt w p S W Q) (h12 : S.length ≤ 12) (hw : Laid w) :
    Calls Tryz.prog 18 #[.pointer (some ⟨p, 0, none⟩)] w fun e w' => ∃ v, e = .returned v ∧ Hid (w'.ownsRow w.heap.size 9 1 v (S.map (·.1)).length ((S.map (·.1)).map .string)) ∧ Below w.heap.size w w' := by
  obtain ⟨bt, bn, Dt, Dn, h⟩ := h
  have c0 := Mem.cell (v := .map (some bt)) h.ptr 0 rfl
  have HB0 : Below w.heap.size w (w.alloc (.cells #[.map (some bt)] 60)) := (Below.refl _ _).alloc (Nat.le_refl _) _
  have HS := Lib.hid (sorted_any p bt bn w.heap.size S W Q Dt Dn _ (h.below HB0) h12 (hw.below HB0) ((Mem.nil w).new' w.heap.size rfl (.cells #[.map (some bt)] 60)).1)
  have HB := Lib.hid HB0
  have HK := Lib.hid (keys_any bt)
  clear h HB0 hw
  go_enter Tryz.func18, Tryz.ntmps18
  have hB0 := Below.refl w.heap.size w
  have M0 := Mem.nil w
  go_wp2_with (first
    | (go_at_call 41; refine (HK.out _).mono ?_; rintro e w1 ⟨rfl, rfl⟩)
    | (go_at_call 40; refine HS.out.mono ?_; rintro e w1 ⟨v, rfl, hrow, hb⟩
       have HR := Lib.hid hrow
       have HB2 := Lib.hid hb
       clear hrow hb))
  go_ret
  exact ⟨_, rfl, Lib.hid (row_mono HR.out HB.out.size), HB.out.trans (HB2.out.mono HB.out.size)⟩
end Go.Proofs.YtlkgcidhhngfeaaGreatDoor
/- store.Of: the names of a label, a list of its own. -/
namespace Go.Proofs.YtlkgcidhhngfeaaGreatDoor
open Go.RowKit Go.Maps
set_option maxRecDepth 100000 in
set_option maxHeartbeats 8000000 in
theorem of_any (p : Nat) (S : St) (W Q : Nat → Prop) (lS lI : ByteArray) (h3 : Bd lS) (h4 : Bd lI) (w : World) (h : StoreAt w p S W Q) (hS : S.length ≤ 1000000) (hw9 : Laid w) :
    Calls Tryz.prog 19 #[.pointer (some ⟨p, 0, none⟩), .agg #[.string lS, .string lI]] w fun e w' => ∃ v, e = .returned v ∧ Hid (w'.ownsRow w.heap.size 9 1 v (namesOf S lS lI).length ((namesOf S lS lI).map .string)) ∧ Below w.heap.size w w' := by
  obtain ⟨bt, bn, Dt, Dn, h⟩ := h
  have HI := Lib.hid h
  have hp := h.ptr
  have hw : LaidF (NF w) w := nf_laid hw9
  have hlen : (namesOf S lS lI).length ≤ 1000000 := by
    refine Nat.le_trans ?_ hS
    unfold namesOf
    rw [List.length_map]
    exact List.length_filter_le _ _
  obtain ⟨L, hL⟩ : ∃ L, L = namesOf S lS lI := ⟨_, rfl⟩
  obtain ⟨v, hv⟩ : ∃ v, v = (fD Dn (labK lS lI)).getD nilS := ⟨_, rfl⟩
  have HLK := Lib.hid fun (W' : World) (hb : Below w.heap.size w W') => names_look (h.below hb).names (h.below hb).rN lS lI h3 h4
  rw [← hL, ← hv] at HLK
  rw [← hL] at hlen ⊢
  have HLEN := Lib.hid hlen
  clear h hS hw9 hL hv h3 h4 hlen
  go_enter Tryz.func19, Tryz.ntmps19
  have hB0 := Below.refl w.heap.size w
  have M0 := Mem.nil w
  have hw0 := hw
  clear M0
  have M0 : Mem w [(p, .cells #[.map (some bt), .map (some bn)] 64)] := ⟨hp, trivial⟩
  have c0_0_0 := Mem.cell (v := .map (some bt)) M0.1 0 rfl
  have c0_0_1 := Mem.cell (v := .map (some bn)) M0.1 1 rfl
  have z0_0 := Mem.lt M0.1
  go_upto_region 1 with (fail)
  refine wp_named ?_
  intro w1 hW1
  have hB1 : Below w.heap.size w w1 := by rw [hW1]; exact (below_al hB0 _)
  have hw1 : LaidF (NF w) w1 := by rw [hW1]; exact (hw.alloc _)
  have M1 := (M0).new' (w.heap.size) (by rfl) (.cells #[.string lS, .string lI] 25)
  rw [← hW1] at M1
  clear c0_0_0 c0_0_1 z0_0
  clear hW1
  have c1_0_0 := Mem.cell (v := .string lS) M1.1 0 rfl
  have c1_0_1 := Mem.cell (v := .string lI) M1.1 1 rfl
  have z1_0 := Mem.lt M1.1
  have c1_1_0 := Mem.cell (v := .map (some bt)) M1.2.1 0 rfl
  have c1_1_1 := Mem.cell (v := .map (some bn)) M1.2.1 1 rfl
  have z1_1 := Mem.lt M1.2.1
  clear c1_0_0 c1_0_1 z1_0 c1_1_0 c1_1_1 z1_1
  refine wp_region_held (S := fun w' => Mem w' [(w.heap.size, .cells #[.string lS, .string lI] 25), (p, .cells #[.map (some bt), .map (some bn)] 64)] ∧ Below w.heap.size w w') (by kernel_rfl) ?_
  change wpAnyH _ _ _ _ _ 8 (Array.replicate 8 false) _ w1.drew
  refine anyH_named ?_
  intro w2 hW2
  have hB2 : Below w.heap.size w w2 := by rw [hW2]; exact below_dr hB1
  have M2 : Mem w2 [(w.heap.size, .cells #[.string lS, .string lI] 25), (p, .cells #[.map (some bt), .map (some bn)] 64)] := by rw [hW2]; exact Mem.drew M1
  clear hW2
  refine wpAnyH_take (i := 0) (v := ?_) rfl (by decide +kernel) (by decide +kernel) (by decide +kernel) (fun _ _ _ h => h) (Or.inl ⟨by rfl, ?_⟩) (And.intro M2 hB2) ?_
  rotate_left
  · intro w hSw
    clear hSw
    go_simp; try (with_reducible rfl)
  try simp only [Act.put, List.getElem_toArray, List.getElem_cons_zero, List.setIfInBounds_toArray, List.set_cons_zero, List.set_cons_succ]
  refine wpAnyH_take (i := 4) (v := ?_) rfl (by decide +kernel) (by decide +kernel) (by decide +kernel) (fun _ _ _ h => h) (Or.inl ⟨by rfl, ?_⟩) (And.intro M2 hB2) ?_
  rotate_left
  · intro w hSw
    have s_0 := Mem.cell (v := .string lS) hSw.1.1 0 rfl
    have s_1 := Mem.cell (v := .string lI) hSw.1.1 1 rfl
    clear hSw
    go_simp; try (with_reducible rfl)
  try simp only [Act.put, List.getElem_toArray, List.getElem_cons_succ, List.getElem_cons_zero, List.setIfInBounds_toArray, List.set_cons_zero, List.set_cons_succ]
  refine wpAnyH_take (i := 1) (v := ?_) rfl (by decide +kernel) (by decide +kernel) (by decide +kernel) (fun _ _ _ h => h) (Or.inl ⟨by rfl, ?_⟩) (And.intro M2 hB2) ?_
  rotate_left
  · intro w hSw
    clear hSw
    go_simp; try (with_reducible rfl)
  try simp only [Act.put, List.getElem_toArray, List.getElem_cons_succ, List.getElem_cons_zero, List.setIfInBounds_toArray, List.set_cons_zero, List.set_cons_succ]
  refine wpAnyH_take (i := 2) (v := ?_) rfl (by decide +kernel) (by decide +kernel) (by decide +kernel) (fun _ _ _ h => h) (Or.inl ⟨by rfl, ?_⟩) (And.intro M2 hB2) ?_
  rotate_left
  · intro w hSw
    clear hSw
    go_simp; try (with_reducible rfl)
  try simp only [Act.put, List.getElem_toArray, List.getElem_cons_succ, List.getElem_cons_zero, List.setIfInBounds_toArray, List.set_cons_zero, List.set_cons_succ]
  refine wpAnyH_take (i := 3) (v := ?_) rfl (by decide +kernel) (by decide +kernel) (by decide +kernel) (fun _ _ _ h => h) (Or.inl ⟨by rfl, ?_⟩) (And.intro M2 hB2) ?_
  rotate_left
  · intro w hSw
    have s_1 := Mem.cell (v := .map (some bn)) hSw.1.2.1 1 rfl
    clear hSw
    go_simp; try (with_reducible rfl)
  try simp only [Act.put, List.getElem_toArray, List.getElem_cons_succ, List.getElem_cons_zero, List.setIfInBounds_toArray, List.set_cons_zero, List.set_cons_succ]
  refine wpAnyH_take (i := 5) (v := ?_) rfl (by decide +kernel) (by decide +kernel) (by decide +kernel) (fun _ _ _ h => h) (Or.inl ⟨by rfl, ?_⟩) (And.intro M2 hB2) ?_
  rotate_left
  · intro w hSw
    have hlk := (HLK.out _ hSw.2).1
    clear hSw
    go_simp; try (with_reducible rfl)
  try simp only [Act.put, List.getElem_toArray, List.getElem_cons_succ, List.getElem_cons_zero, List.setIfInBounds_toArray, List.set_cons_zero, List.set_cons_succ]
  refine wpAnyH_ready (rs := [6]) (by decide +kernel) (by simp) (AllReadyH.cons rfl ?_ AllReadyH.nil)
  intro K hK
  rw [if_pos (by rfl)]
  go_simp
  go_at_call 28
  refine (cloneStr_any L 0 v _ (HLK.out _ hB2).2 HLEN.out).mono ?_
  rintro e w3 ⟨v', rfl, hrow, hb3⟩
  have hB3 := below_then hB2 hb3
  refine hK.out _ _ (And.intro (M2.below hb3) hB3) (fun _ => ?_)
  clear hK K
  try simp only [Act.put, List.getElem_toArray, List.getElem_cons_succ, List.getElem_cons_zero, List.setIfInBounds_toArray, List.set_cons_zero, List.set_cons_succ]
  refine wpAnyH_take (i := 7) (v := ?_) rfl (by decide +kernel) (by decide +kernel) (by decide +kernel) (fun _ _ _ h => h) (Or.inl ⟨by rfl, ?_⟩) (And.intro (M2.below hb3) hB3) ?_
  rotate_left
  · intro w hSw
    clear hSw
    go_simp; try (with_reducible rfl)
  try simp only [Act.put, List.getElem_toArray, List.getElem_cons_succ, List.getElem_cons_zero, List.setIfInBounds_toArray, List.set_cons_zero, List.set_cons_succ]
  refine wpAnyH_done (by kernel_rfl) ?_ _
  have HB := Lib.hid hB3
  have HR := Lib.hid hrow
  clear hrow hB3 hb3
  have hs := Lib.hid hB2.size
  go_wp2_with fail
  go_ret
  exact ⟨_, rfl, Lib.hid (row_mono HR.out hs.out), HB.out⟩
end Go.Proofs.YtlkgcidhhngfeaaGreatDoor
