/- filled: a store of which acts were done. -/
import Derived.Test.YtlkgcidhhngfeaaGreatDoorExS
namespace Go.Proofs.YtlkgcidhhngfeaaGreatDoor
open Go.RowKit Go.Maps
/-- an act: its kind, whom, with what -/
structure Ac where
  k : Int
  i : Int
  x : OB
def acL (k i : Int) (o : Ox) : List Value := .int .u8 k :: .int .u8 i :: oxL o
/-- v is a slice of these acts -/
def AcAt (w : World) (v : Value) (l : List Ac) : Prop :=
  ∃ rs : List (Int × Int × Ox), rs.length = l.length ∧ SlotsAt w 21 v (rs.map fun r => acL r.1 r.2.1 r.2.2) ∧
    ∀ (j : Nat) (r : Int × Int × Ox) (a : Ac), rs[j]? = some r → l[j]? = some a → r.2.1 = a.i ∧ 0 ≤ a.i ∧ a.i ≤ 255 ∧ ObIn w (fun b => b < w.heap.size) (.agg (ox r.2.2)) a.x
def nm (i : Int) : ByteArray := nm8[(i % 8).toNat]!
/-- what the acts leave -/
def fillL (l : List Ac) : St := l.foldl (fun S a => addT S (nm a.i) (fewB a.x)) []
def fillS (l : List Ac) : St := fillL (l.take 40)
theorem fillL_snoc (l : List Ac) (a : Ac) : fillL (l ++ [a]) = addT (fillL l) (nm a.i) (fewB a.x) := by
  unfold fillL
  rw [List.foldl_append]
  rfl
theorem nm_size (i : Int) : (nm i).size ≤ 3 := by
  have h : ∀ s ∈ nm8, s.size ≤ 3 := by decide
  unfold nm
  have hi : (i % 8).toNat < nm8.length := by show (i % 8).toNat < 8; omega
  have e : nm8[(i % 8).toNat]! = nm8[(i % 8).toNat]'hi := by simp [hi]
  rw [e]
  exact h _ (List.getElem_mem _)
theorem fewB_in {w : World} {A : Nat → Prop} {o : Ox} {x : OB} (h : ObIn w A (.agg (ox o)) x) : ObIn w A (.agg (ox { o with lS := tk4 o.lS, lI := tk4 o.lI })) (fewB x) := by
  obtain ⟨a, c, hv, hq, hl, ha⟩ := h
  obtain rfl := ox_inj (Value.agg.inj hv)
  exact ⟨a, c, rfl, hq, hl, ha⟩
/-- where an act lies -/
theorem AcAt.row {w : World} {v : Value} {l : List Ac} (h : AcAt w v l) {i : Nat} {a : Ac} (hi : l[i]? = some a) : ∃ b off c o, v = .slice (some ⟨b, off, none⟩) l.length c ∧ l.length ≤ c ∧ b < w.heap.size ∧ 0 ≤ a.i ∧ a.i ≤ 255 ∧ ObIn w (fun b => b < w.heap.size) (.agg (ox o)) a.x ∧ w.cell? ⟨b, off + i * 21 + 1, none⟩ = some (.int .u8 a.i) ∧ w.rangeAt b (off + i * 21 + 2) (oxL o) := by
  obtain ⟨rs, hlen, hs, hr⟩ := h
  have hil := (List.getElem?_eq_some_iff.1 hi).1
  have hir : i < rs.length := by omega
  obtain ⟨b, off, c, hv, hc, hb, hg⟩ := SlotsAt.some hs (by simp; omega)
  obtain ⟨h1, h2, h3, h4⟩ := hr i rs[i] a (List.getElem?_eq_getElem hir) hi
  have hrow : (rs.map fun r => acL r.1 r.2.1 r.2.2)[i]? = some (acL rs[i].1 rs[i].2.1 rs[i].2.2) := by rw [List.getElem?_map, List.getElem?_eq_getElem hir]; rfl
  rw [List.length_map, hlen] at hv hc
  refine ⟨b, off, c, rs[i].2.2, hv, hc, hb, h2, h3, h4, ?_, fun j u hj => ?_⟩
  · have := hg i 1 _ _ hrow rfl
    rw [← Nat.add_assoc] at this
    rw [this, h1]
  · have := hg i (j + 2) _ u hrow hj
    rw [show off + i * 21 + 2 + j = off + (i * 21 + (j + 2)) by omega]
    exact this
theorem AcAt.slice {w : World} {v : Value} {l : List Ac} (h : AcAt w v l) : ∃ ao c, v = .slice ao l.length c := by
  obtain ⟨rs, hlen, hs, _⟩ := h
  obtain ⟨ao, c, hv⟩ := hs.slice
  exact ⟨ao, c, by rw [hv, List.length_map, hlen]⟩
theorem acAt_below {w w' : World} {v : Value} {l : List Ac} (h : AcAt w v l) (hb : Below w.heap.size w w') : AcAt w' v l := by
  obtain ⟨rs, h1, h2, h3⟩ := h
  refine ⟨rs, h1, h2.below hb, fun j r a hr ha => ?_⟩
  obtain ⟨g1, g2, g3, g4⟩ := h3 j r a hr ha
  exact ⟨g1, g2, g3, (g4.below hb).mono fun b _ hl => hl⟩
theorem fillL_length (l : List Ac) : (∀ S : St, SortedS S → SortedS (l.foldl (fun S a => addT S (nm a.i) (fewB a.x)) S) ∧ (l.foldl (fun S a => addT S (nm a.i) (fewB a.x)) S).length ≤ S.length + l.length) := by
  induction l with
  | nil => exact fun S h => ⟨h, Nat.le_refl _⟩
  | cons a l ih =>
    intro S h
    have hs : SortedS (addT S (nm a.i) (fewB a.x)) := by
      unfold addT
      split
      · rename_i he
        exact insS_sorted h (addE_zero.1 he).2.2.2.2
      · exact h
    obtain ⟨h1, h2⟩ := ih _ hs
    refine ⟨h1, ?_⟩
    have := addT_length S (nm a.i) (fewB a.x) h
    rw [List.length_cons]
    exact Nat.le_trans h2 (by omega)
theorem nm_lt {i r : Int} {n : Nat} (_ : 0 ≤ i) (hr : i % 8 = r) (hn : r.toNat = n) : ((nm8.map Value.string).toArray)[n]? = some (.string (nm i)) := by
  have hlt : n < nm8.length := by show n < 8; omega
  unfold nm
  rw [hr, hn]
  simp [hlt]
theorem u8_bounds {i : Int} : 0 ≤ i % 8 ∧ i % 8 < 8 := by omega
set_option maxRecDepth 100000 in
set_option maxHeartbeats 16000000 in
theorem filled_any (v : Value) (l : List Ac) (w : World) (hl : AcAt w v l) (hw9 : Laid w) :
    Calls Tryz.prog 7 #[v] w fun e w' => ∃ p, e = .returned (.pointer (some ⟨p, 0, none⟩)) ∧ Hid (One w.heap.size (fun _ => False) w' p (fillS l)) ∧ Below w.heap.size w w' := by
  have hw : LaidF (NF w) w := nf_laid hw9
  clear hw9
  obtain ⟨ao, c, rfl⟩ := hl.slice
  obtain ⟨n, hn⟩ : ∃ n, n = l.length := ⟨_, rfl⟩
  rw [← hn]
  have HL := Lib.hid hl
  have HN := Lib.hid hn
  clear hl hn
  go_enter Tryz.func7, Tryz.ntmps7
  have hB0 := Below.refl w.heap.size w
  have M0 := Mem.nil w
  have hw0 := hw
  go_wp2_with fail
  refine Calls.named ?_
  intro W1 hW1
  have hB1_ : Below w.heap.size w W1 := by rw [hW1]; exact hB0
  have hw1_ : LaidF (NF w) W1 := by rw [hW1]; exact hw
  have M1_ := Mem.nil W1
  clear hW1
  refine (one_new w.heap.size (fun _ => False) _ hB1_.size (fun _ h => h.elim)).mono ?_
  rintro e w1 ⟨p, rfl, HS0, hb1⟩
  have hB1 := below_then hB1_ hb1
  have hw1 := hw1_.below hb1
  have M1 := M1_.below hb1
  clear M1_ hB1_ hb1 hw1_
  go_wp2_with fail
  have HI1 := Lib.hid (And.intro hB1 (And.intro hw1 HS0))
  clear hB1 hw1 M1 HS0
  go_loopw [4] (fun i wr => ∃ k : Nat, k ≤ n ∧ k ≤ 40 ∧ i = .int .i64 k ∧ Hid (Below w.heap.size w wr) ∧ Hid (One w.heap.size (fun _ => False) wr p (fillL (l.take k)))) (fun i _ => n - (intOf i).toNat)
  case atStart => exact ⟨0, by omega, by omega, rfl, Lib.hid HI1.out.1, HI1.out.2.2⟩
  case round =>
    clear HI1
    obtain ⟨k, hkn, hk40, rfl, HBR, HS⟩ := hrel
    obtain ⟨w50, rfl⟩ : ∃ x, x = wr := ⟨_, rfl⟩
    have hB50 := HBR.out
    have hw50 := hw0.below hB50
    have M50 := Mem.nil w50
    clear HBR
    by_cases hlt : k < n
    · by_cases hl4 : k < 40
      · have hkl : k < l.length := by rw [← HN.out]; exact hlt
        obtain ⟨x, hx⟩ : ∃ x, l[k]? = some x := ⟨_, List.getElem?_eq_getElem hkl⟩
        obtain ⟨b, off, cc, o, hv, hcap, hb, hi0, hi1, hob, c1, rng⟩ := HL.out.row hx
        obtain ⟨rfl, hnl, rfl⟩ := Value.slice.inj hv
        have hcap : n ≤ c := by rw [HN.out]; exact hcap
        obtain ⟨id, hid⟩ : ∃ i, i = x.i := ⟨_, rfl⟩
        rw [← hid] at c1 hi0 hi1
        obtain ⟨r, hr⟩ : ∃ r, r = id % 8 := ⟨_, rfl⟩
        have hr0 : 0 ≤ r := by omega
        have hr8 : r < 8 := by omega
        obtain ⟨rn, hrn⟩ : ∃ m, m = r.toNat := ⟨_, rfl⟩
        have hmod : id.tmod 8 = r := by rw [hr]; exact Int.tmod_eq_emod_of_nonneg hi0
        have HC1 := Lib.hid fun (W : World) (h : Below w.heap.size w W) => (h.cell (p := ⟨b, off + k * 21 + 1, none⟩) hb).trans c1
        have HRG : Hid (∀ W, Below w.heap.size w W → W.rangeAt b (off + k * 21 + 2) (oxL o)) := Lib.hid fun W h j u hj => (h.cell (p := ⟨b, off + k * 21 + 2 + j, none⟩) hb).trans (rng j u hj)
        have HOB := Lib.hid fun (W : World) (h : Below w.heap.size w W) => fewB_in (hob.below h)
        have HNM := Lib.hid (nm_lt (n := rn) hi0 hr.symm hrn.symm)
        have HX := Lib.hid (And.intro hx hid)
        have HSZ := Lib.hid (nm_size id)
        obtain ⟨key, hkey⟩ : ∃ s, s = nm id := ⟨_, rfl⟩
        rw [← hkey] at HNM HSZ
        have HKY := Lib.hid (And.intro hkey hrn)
        have HLN : Hid ((fillL (l.take k)).length ≤ 40) := Lib.hid (by have := (fillL_length (l.take k) [] List.Pairwise.nil).2; rw [List.length_take] at this; exact Nat.le_trans this (by simp; omega))
        clear hnl hv hob c1 rng hx hid hkl hr hkey
        go_upto_region 5 with (fail)
        have pk0 : (0 : Int) ≤ (k : Int) := by omega
        have pkn : (k : Int) < (n : Int) := by omega
        have pk1 : ((k : Int)).toNat = k := by omega
        have pr1 : r.toNat = rn := hrn.symm
        clear hrn
        refine wp_region_held (S := fun w' => Below w.heap.size w w') (by kernel_rfl) ?_
        change wpAnyH _ _ _ _ _ 17 (Array.replicate 17 false) _ w50.drew
        refine anyH_named ?_
        intro w51 hW51
        have hB51 : Below w.heap.size w w51 := by rw [hW51]; exact below_dr hB50
        have hw51 : LaidF (NF w) w51 := by rw [hW51]; exact hw50.below (below_dr (Below.refl _ _))
        have M51 : Mem w51 [] := by rw [hW51]; exact Mem.drew M50
        replace HS := hid_one HS (below_dr (Below.refl _ w50))
        rw [← hW51] at HS
        clear hW51
        refine wpAnyH_take (i := 0) (v := ?_) rfl (by decide +kernel) (by decide +kernel) (by decide +kernel) (fun _ _ _ h => h) (Or.inl ⟨by rfl, ?_⟩) hB51 ?_
        rotate_left
        · intro w hSw
          clear hSw
          go_simp; try (with_reducible rfl)
        try simp only [Act.put, List.getElem_toArray, List.getElem_cons_zero, List.setIfInBounds_toArray, List.set_cons_zero, List.set_cons_succ]
        refine wpAnyH_take (i := 2) (v := ?_) rfl (by decide +kernel) (by decide +kernel) (by decide +kernel) (fun _ _ _ h => h) (Or.inl ⟨by rfl, ?_⟩) hB51 ?_
        rotate_left
        · intro w hSw
          clear hSw
          go_simp; try (with_reducible rfl)
        try simp only [Act.put, List.getElem_toArray, List.getElem_cons_succ, List.getElem_cons_zero, List.setIfInBounds_toArray, List.set_cons_zero, List.set_cons_succ]
        refine wpAnyH_take (i := 3) (v := ?_) rfl (by decide +kernel) (by decide +kernel) (by decide +kernel) (fun _ _ _ h => h) (Or.inl ⟨by rfl, ?_⟩) hB51 ?_
        rotate_left
        · intro w hSw
          clear hSw
          go_simp; try (with_reducible rfl)
        try simp only [Act.put, List.getElem_toArray, List.getElem_cons_succ, List.getElem_cons_zero, List.setIfInBounds_toArray, List.set_cons_zero, List.set_cons_succ]
        refine wpAnyH_take (i := 4) (v := ?_) rfl (by decide +kernel) (by decide +kernel) (by decide +kernel) (fun _ _ _ h => h) (Or.inl ⟨by rfl, ?_⟩) hB51 ?_
        rotate_left
        · intro w hSw
          clear hSw
          go_simp; try (with_reducible rfl)
        try simp only [Act.put, List.getElem_toArray, List.getElem_cons_succ, List.getElem_cons_zero, List.setIfInBounds_toArray, List.set_cons_zero, List.set_cons_succ]
        refine wpAnyH_take (i := 5) (v := ?_) rfl (by decide +kernel) (by decide +kernel) (by decide +kernel) (fun _ _ _ h => h) (Or.inl ⟨by rfl, ?_⟩) hB51 ?_
        rotate_left
        · intro w hSw
          clear hSw
          go_simp; try (with_reducible rfl)
        try simp only [Act.put, List.getElem_toArray, List.getElem_cons_succ, List.getElem_cons_zero, List.setIfInBounds_toArray, List.set_cons_zero, List.set_cons_succ]
        refine wpAnyH_take (i := 6) (v := ?_) rfl (by decide +kernel) (by decide +kernel) (by decide +kernel) (fun _ _ _ h => h) (Or.inl ⟨by rfl, ?_⟩) hB51 ?_
        rotate_left
        · intro w hSw
          have s_ := HC1.out w hSw
          clear hSw
          go_simp; try (with_reducible rfl)
        try simp only [Act.put, List.getElem_toArray, List.getElem_cons_succ, List.getElem_cons_zero, List.setIfInBounds_toArray, List.set_cons_zero, List.set_cons_succ]
        refine wpAnyH_take (i := 7) (v := ?_) rfl (by decide +kernel) (by decide +kernel) (by decide +kernel) (fun _ _ _ h => h) (Or.inl ⟨by rfl, ?_⟩) hB51 ?_
        rotate_left
        · intro w hSw
          clear hSw
          go_simp; try (with_reducible rfl)
        try simp only [Act.put, List.getElem_toArray, List.getElem_cons_succ, List.getElem_cons_zero, List.setIfInBounds_toArray, List.set_cons_zero, List.set_cons_succ]
        refine wpAnyH_take (i := 10) (v := ?_) rfl (by decide +kernel) (by decide +kernel) (by decide +kernel) (fun _ _ _ h => h) (Or.inl ⟨by rfl, ?_⟩) hB51 ?_
        rotate_left
        · intro w hSw
          clear hSw
          go_simp; try (with_reducible rfl)
        try simp only [Act.put, List.getElem_toArray, List.getElem_cons_succ, List.getElem_cons_zero, List.setIfInBounds_toArray, List.set_cons_zero, List.set_cons_succ]
        refine wpAnyH_take (i := 11) (v := ?_) rfl (by decide +kernel) (by decide +kernel) (by decide +kernel) (fun _ _ _ h => h) (Or.inl ⟨by rfl, ?_⟩) hB51 ?_
        rotate_left
        · intro w hSw
          clear hSw
          go_simp; try (with_reducible rfl)
        try simp only [Act.put, List.getElem_toArray, List.getElem_cons_succ, List.getElem_cons_zero, List.setIfInBounds_toArray, List.set_cons_zero, List.set_cons_succ]
        refine wpAnyH_take (i := 12) (v := ?_) rfl (by decide +kernel) (by decide +kernel) (by decide +kernel) (fun _ _ _ h => h) (Or.inl ⟨by rfl, ?_⟩) hB51 ?_
        rotate_left
        · intro w hSw
          clear hSw
          go_simp; try (with_reducible rfl)
        try simp only [Act.put, List.getElem_toArray, List.getElem_cons_succ, List.getElem_cons_zero, List.setIfInBounds_toArray, List.set_cons_zero, List.set_cons_succ]
        refine wpAnyH_take (i := 13) (v := ?_) rfl (by decide +kernel) (by decide +kernel) (by decide +kernel) (fun _ _ _ h => h) (Or.inl ⟨by rfl, ?_⟩) hB51 ?_
        rotate_left
        · intro w hSw
          clear hSw
          go_simp; try (with_reducible rfl)
        try simp only [Act.put, List.getElem_toArray, List.getElem_cons_succ, List.getElem_cons_zero, List.setIfInBounds_toArray, List.set_cons_zero, List.set_cons_succ]
        refine wpAnyH_take (i := 14) (v := .agg (ox o)) rfl (by decide +kernel) (by decide +kernel) (by decide +kernel) (fun _ _ _ h => h) (yieldsIf_load_mid (by rfl) 32 _ rfl (b) (off + k * 21 + 2) (by rfl) (oxL o) _ (fun w hSw => HRG.out w hSw) Tryz.underlying32 rfl info_ox) hB51 ?_
        try simp only [Act.put, List.getElem_toArray, List.getElem_cons_succ, List.getElem_cons_zero, List.setIfInBounds_toArray, List.set_cons_zero, List.set_cons_succ]
        refine wpAnyH_ready (rs := [1]) (by decide +kernel) (by simp) (AllReadyH.cons rfl ?_ AllReadyH.nil)
        intro K hK
        rw [if_pos (by rfl)]
        go_simp
        go_at_call 10
        refine (names_c _).mono ?_
        rintro e w52 ⟨rfl, hmm, hb52⟩
        have hB52 := below_then hB51 hb52
        have hw52 := hw51.below hb52
        have M52 := M51.below hb52
        replace HS := hid_one HS hb52
        have zz52 := hb52.size
        clear hb52
        refine hK.out _ _ hB52 (fun _ => ?_)
        clear hK K
        try simp only [Act.put, List.getElem_toArray, List.getElem_cons_succ, List.getElem_cons_zero, List.setIfInBounds_toArray, List.set_cons_zero, List.set_cons_succ]
        obtain ⟨g, hg⟩ : ∃ g, g = w51.heap.size := ⟨_, rfl⟩
        rw [← hg] at hmm
        rw [← hg]
        have HMC : Hid (CellAt w52 g rn (.string key)) := Lib.hid ⟨Mem.lt hmm, Mem.cell hmm rn HNM.out⟩
        clear hmm hg
        refine wpAnyH_take (i := 8) (v := ?_) rfl (by decide +kernel) (by decide +kernel) (by decide +kernel) (fun _ _ _ h => h) (Or.inl ⟨by rfl, ?_⟩) hB52 ?_
        rotate_left
        · intro w hSw
          clear hSw
          go_simp; try (with_reducible rfl)
        try simp only [Act.put, List.getElem_toArray, List.getElem_cons_succ, List.getElem_cons_zero, List.setIfInBounds_toArray, List.set_cons_zero, List.set_cons_succ]
        refine wpAnyH_ready (rs := [9, 15]) (by decide +kernel) (by simp) (AllReadyH.cons rfl ?_ (AllReadyH.cons rfl ?_ AllReadyH.nil))
        · skip
          intro K hK
          rw [if_pos (by rfl)]
          have s_ := HMC.out.2
          go_simp
          refine hK.out _ _ hB52 (fun _ => ?_)
          clear hK K
          try simp only [Act.put, List.getElem_toArray, List.getElem_cons_succ, List.getElem_cons_zero, List.setIfInBounds_toArray, List.set_cons_zero, List.set_cons_succ]
          refine wpAnyH_ready (rs := [15]) (by decide +kernel) (by simp) (AllReadyH.cons rfl ?_ AllReadyH.nil)
          intro K hK
          rw [if_pos (by rfl)]
          go_simp
          go_at_call 9
          refine (few_raw o _).mono ?_
          rintro e w53 ⟨rfl, hb53⟩
          have hB53 := below_then hB52 hb53
          have hw53 := hw52.below hb53
          have M53 := M52.below hb53
          replace HS := hid_one HS hb53
          replace HMC := hid_cellat HMC hb53
          have zz53 := hb53.size
          clear hb53
          refine hK.out _ _ hB53 (fun _ => ?_)
          clear hK K
          try simp only [Act.put, List.getElem_toArray, List.getElem_cons_succ, List.getElem_cons_zero, List.setIfInBounds_toArray, List.set_cons_zero, List.set_cons_succ]
          refine wpAnyH_ready (rs := [16]) (by decide +kernel) (by simp) (AllReadyH.cons rfl ?_ AllReadyH.nil)
          intro K hK
          rw [if_pos (by rfl)]
          go_simp
          go_at_call 13
          refine ((add_one w.heap.size (fun _ => False) p (fillL (l.take k)) key (by have := HSZ.out; omega) (fewB x.x) _ _ _ HS hB53.size (fun _ h => h.elim) (by have := HLN.out; omega) (HOB.out _ hB53) (tk4_bd _) (tk4_bd _) hw53)).mono ?_
          rintro e w54 ⟨rfl, HS2, hb54⟩
          have hB54 := KF.toBelow hb54 hB53 hB53.size (fun k h => h.1)
          have hw54 : LaidF (NF w) w54 := hw0.below hB54
          refine hK.out _ _ hB54 (fun _ => ?_)
          clear hK K
          try simp only [Act.put, List.getElem_toArray, List.getElem_cons_succ, List.getElem_cons_zero, List.setIfInBounds_toArray, List.set_cons_zero, List.set_cons_succ]
          refine wpAnyH_done (by kernel_rfl) ?_ _
          have HB := Lib.hid hB54
          have HSN : Hid (One w.heap.size (fun _ => False) w54 p (fillL (l.take (k + 1)))) := Lib.hid (by
            have e : l.take (k + 1) = l.take k ++ [x] := by rw [List.take_add_one, HX.out.1]; rfl
            rw [e, fillL_snoc, ← HX.out.2, ← HKY.out.1]
            exact HS2.out)
          go_wp2_with fail
          go_roundw
          case rel => exact ⟨k + 1, by omega, by omega, by go_num, HB, HSN⟩
          case measure => simp [intOf]; omega
        · skip
          intro K hK
          rw [if_pos (by rfl)]
          go_simp
          go_at_call 9
          refine (few_raw o _).mono ?_
          rintro e w53 ⟨rfl, hb53⟩
          have hB53 := below_then hB52 hb53
          have hw53 := hw52.below hb53
          have M53 := M52.below hb53
          replace HS := hid_one HS hb53
          replace HMC := hid_cellat HMC hb53
          have zz53 := hb53.size
          clear hb53
          refine hK.out _ _ hB53 (fun _ => ?_)
          clear hK K
          try simp only [Act.put, List.getElem_toArray, List.getElem_cons_succ, List.getElem_cons_zero, List.setIfInBounds_toArray, List.set_cons_zero, List.set_cons_succ]
          refine wpAnyH_ready (rs := [9]) (by decide +kernel) (by simp) (AllReadyH.cons rfl ?_ AllReadyH.nil)
          intro K hK
          rw [if_pos (by rfl)]
          have s_ := HMC.out.2
          go_simp
          refine hK.out _ _ hB53 (fun _ => ?_)
          clear hK K
          try simp only [Act.put, List.getElem_toArray, List.getElem_cons_succ, List.getElem_cons_zero, List.setIfInBounds_toArray, List.set_cons_zero, List.set_cons_succ]
          refine wpAnyH_ready (rs := [16]) (by decide +kernel) (by simp) (AllReadyH.cons rfl ?_ AllReadyH.nil)
          intro K hK
          rw [if_pos (by rfl)]
          go_simp
          go_at_call 13
          refine ((add_one w.heap.size (fun _ => False) p (fillL (l.take k)) key (by have := HSZ.out; omega) (fewB x.x) _ _ _ HS hB53.size (fun _ h => h.elim) (by have := HLN.out; omega) (HOB.out _ hB53) (tk4_bd _) (tk4_bd _) hw53)).mono ?_
          rintro e w54 ⟨rfl, HS2, hb54⟩
          have hB54 := KF.toBelow hb54 hB53 hB53.size (fun k h => h.1)
          have hw54 : LaidF (NF w) w54 := hw0.below hB54
          refine hK.out _ _ hB54 (fun _ => ?_)
          clear hK K
          try simp only [Act.put, List.getElem_toArray, List.getElem_cons_succ, List.getElem_cons_zero, List.setIfInBounds_toArray, List.set_cons_zero, List.set_cons_succ]
          refine wpAnyH_done (by kernel_rfl) ?_ _
          have HB := Lib.hid hB54
          have HSN : Hid (One w.heap.size (fun _ => False) w54 p (fillL (l.take (k + 1)))) := Lib.hid (by
            have e : l.take (k + 1) = l.take k ++ [x] := by rw [List.take_add_one, HX.out.1]; rfl
            rw [e, fillL_snoc, ← HX.out.2, ← HKY.out.1]
            exact HS2.out)
          go_wp2_with fail
          go_roundw
          case rel => exact ⟨k + 1, by omega, by omega, by go_num, HB, HSN⟩
          case measure => simp [intOf]; omega
      · have pk40 : ¬ (k : Int) < 40 := by omega
        have HB := Lib.hid hB50
        have HSN : Hid (One w.heap.size (fun _ => False) w50 p (fillS l)) := Lib.hid (by
          have : k = 40 := by omega
          subst this
          exact HS.out)
        go_wp2_with fail
        go_ret
        exact ⟨_, rfl, HSN, HB.out⟩
    · have pkn : ¬ (k : Int) < (n : Int) := by omega
      have HB := Lib.hid hB50
      have HSN : Hid (One w.heap.size (fun _ => False) w50 p (fillS l)) := Lib.hid (by
        have hk : k = l.length := by have := HN.out; omega
        have h1 := HS.out
        unfold fillS
        rw [List.take_of_length_le (by omega)] at h1 ⊢
        exact h1)
      go_wp2_with fail
      go_ret
      exact ⟨_, rfl, HSN, HB.out⟩
end Go.Proofs.YtlkgcidhhngfeaaGreatDoor
