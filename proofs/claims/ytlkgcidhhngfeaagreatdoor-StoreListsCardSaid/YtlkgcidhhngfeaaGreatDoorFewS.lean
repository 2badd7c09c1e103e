/- The chapter's names, few, small. -/
import Derived.Test.YtlkgcidhhngfeaaGreatDoorHideS
namespace Go.Proofs.YtlkgcidhhngfeaaGreatDoor
open Go.RowKit Go.Maps
/-- the eight names that acts are done with -/
def nm8 : List ByteArray := [⟨#[48]⟩, ⟨#[49]⟩, ⟨#[48, 46, 48]⟩, ⟨#[48, 46, 49]⟩, ⟨#[50]⟩, ⟨#[49, 48]⟩, ⟨#[120]⟩, ⟨#[49, 46, 48]⟩]
set_option maxRecDepth 100000 in
theorem names_c (w : World) :
    Calls Tryz.prog 10 #[] w fun e w' => e = .returned (.slice (some ⟨w.heap.size, 0, none⟩) 8 8) ∧ w'.heap[w.heap.size]? = some (.cells (nm8.map Value.string).toArray 9) ∧ Below w.heap.size w w' := by
  have HX := Lib.hid (((Mem.nil w).new' w.heap.size rfl (.cells (nm8.map Value.string).toArray 9)).1)
  go_enter Tryz.func10, Tryz.ntmps10
  have hB0 := Below.refl w.heap.size w
  have M0 := Mem.nil w
  go_wp2_with fail
  go_ret
  exact ⟨rfl, HX.out, below_al (Below.refl _ _) _⟩
def tk4 (s : ByteArray) : ByteArray := s.extract 0 (min s.size 4)
theorem tk4_size (s : ByteArray) : (tk4 s).size ≤ 4 := by
  unfold tk4
  rw [ByteArray.size_extract]
  omega
theorem tk4_bd (s : ByteArray) : Bd (tk4 s) := by
  have := tk4_size s
  unfold Bd
  omega
/-- a thing of a few clauses -/
def fewB (x : OB) : OB := { x with lS := tk4 x.lS, lI := tk4 x.lI }
set_option maxRecDepth 100000 in
set_option maxHeartbeats 4000000 in
theorem few_raw (o : Ox) (w : World) :
    Calls Tryz.prog 9 #[.agg (ox o)] w fun e w' => e = .returned (.agg (ox { o with lS := tk4 o.lS, lI := tk4 o.lI })) ∧ Below w.heap.size w w' := by
  obtain ⟨n, hn⟩ : ∃ n, n = min o.lS.size 4 := ⟨_, rfl⟩
  obtain ⟨m, hm⟩ : ∃ m, m = min o.lI.size 4 := ⟨_, rfl⟩
  have g1 : min (o.lS.size : Int) 4 = (n : Int) := by omega
  have g2 : min (o.lI.size : Int) 4 = (m : Int) := by omega
  have g3 : (n : Int) ≤ (o.lS.size : Int) := by omega
  have g4 : (m : Int) ≤ (o.lI.size : Int) := by omega
  have g5 : (0 : Int) ≤ (n : Int) := by omega
  have g6 : (0 : Int) ≤ (m : Int) := by omega
  have HE : Hid (o.lS.extract 0 n = tk4 o.lS ∧ o.lI.extract 0 m = tk4 o.lI) := Lib.hid (by rw [hn, hm]; exact ⟨rfl, rfl⟩)
  clear hn hm
  go_enter Tryz.func9, Tryz.ntmps9
  have hB0 := Below.refl w.heap.size w
  have M0 := Mem.nil w
  go_upto_region 1 with (fail)
  refine wp_named ?_
  intro w1 hW1
  have hB1 : Below w.heap.size w w1 := by rw [hW1]; exact (below_al (below_al hB0 _) _)
  have M1 : Mem w1 [(w.heap.size + 1, .cells (ox (ox0)) 32), (w.heap.size, .cells (ox (o)) 32)] := by rw [hW1]; exact ((M0).new' (w.heap.size) (by rfl) (.cells (ox (o)) 32)).new' (w.heap.size + 1) (by simp) (.cells (ox (ox0)) 32)
  clear hW1
  have z1_0 := Mem.lt M1.1
  have z1_1 := Mem.lt M1.2.1
  have c1_1_1 := Mem.cell (v := .string o.lS) M1.2.1 1 rfl
  have c1_1_2 := Mem.cell (v := .string o.lI) M1.2.1 2 rfl
  go_still_tail 20, (by kernel_rfl)
  change wpList _ _ _ _ _ w1.drew
  obtain ⟨w2, hW2⟩ : ∃ x, x = w1.drew := ⟨_, rfl⟩
  have hB2 : Below w.heap.size w w2 := by rw [hW2]; exact below_dr hB1
  have M2 := Mem.drew M1
  rw [← hW2] at M2
  rw [← hW2]
  clear z1_0 z1_1 c1_1_1 c1_1_2
  clear hW2
  have z2_0 := Mem.lt M2.1
  have z2_1 := Mem.lt M2.2.1
  have c2_1_1 := Mem.cell (v := .string o.lS) M2.2.1 1 rfl
  have c2_1_2 := Mem.cell (v := .string o.lI) M2.2.1 2 rfl
  have fo := fun j => Mem.free M2.2.1 j
  go_upto_region 2 with (fail)
  clear fo
  have hX2_0 : (w2.setCells (w.heap.size) 1 [.string (o.lS.extract 0 n), .string (o.lI.extract 0 m)]).heap[w.heap.size]? = some (.cells (ox ({ o with lS := (o.lS.extract 0 n), lI := (o.lI.extract 0 m) })) 32) := by rw [setCells_block [.string (o.lS.extract 0 n), .string (o.lI.extract 0 m)] 1 _ _ ((M2).2.1) (by simp)]; rfl
  have hY2_0 := below_setCells (B := w.heap.size) hB2 (b := w.heap.size) (by have := hB2.size; omega) 1 [.string (o.lS.extract 0 n), .string (o.lI.extract 0 m)]
  refine wp_named ?_
  intro w3 hW3
  have hB3 : Below w.heap.size w w3 := by rw [hW3]; exact hY2_0
  have M3 : Mem w3 [(w.heap.size + 1, .cells (ox (ox0)) 32), (w.heap.size, .cells (ox ({ o with lS := (o.lS.extract 0 n), lI := (o.lI.extract 0 m) })) 32)] := by rw [hW3]; exact ⟨(setCells_other [.string (o.lS.extract 0 n), .string (o.lI.extract 0 m)] 1 _ _ (by omega)).trans ((M2).1), hX2_0, trivial⟩
  clear z2_0 z2_1 c2_1_1 c2_1_2
  clear hW3 hX2_0 hY2_0
  have z3_0 := Mem.lt M3.1
  have z3_1 := Mem.lt M3.2.1
  refine wp_region_lit ?_
  refine load_ox rfl _ rfl (w.heap.size) rfl ({ o with lS := (o.lS.extract 0 n), lI := (o.lI.extract 0 m) }) M3.2.1 ?_
  refine store_ox rfl _ _ rfl (w.heap.size + 1) rfl (ox0) ({ o with lS := (o.lS.extract 0 n), lI := (o.lI.extract 0 m) }) rfl M3.1 ?_
  intro w4 hW4
  have hB4 : Below w.heap.size w w4 := by rw [hW4]; exact below_setCells (B := w.heap.size) hB3 (b := w.heap.size + 1) (by have := hB3.size; omega) 0 _
  have M4 : Mem w4 [(w.heap.size + 1, .cells (ox ({ o with lS := (o.lS.extract 0 n), lI := (o.lI.extract 0 m) })) 32), (w.heap.size, .cells (ox ({ o with lS := (o.lS.extract 0 n), lI := (o.lI.extract 0 m) })) 32)] := by rw [hW4]; exact ⟨set_ox M3.1 _, (setCells_other _ 0 _ _ (by omega)).trans M3.2.1, trivial⟩
  clear z3_0 z3_1
  clear hW4
  have z4_0 := Mem.lt M4.1
  have z4_1 := Mem.lt M4.2.1
  go_wp2_with fail
  refine bodyPost_ret (v := .agg (ox ({ o with lS := (o.lS.extract 0 n), lI := (o.lI.extract 0 m) }))) (results_ox1 Tryz.results9 _ _ (w.heap.size + 1) ({ o with lS := (o.lS.extract 0 n), lI := (o.lI.extract 0 m) }) rfl M4.1) rfl ⟨(by rw [← HE.out.1, ← HE.out.2]), hB4⟩
/-- a label as the chapter makes it small -/
def smS (s : ByteArray) : ByteArray := NB (tk4 s)
set_option maxRecDepth 100000 in
set_option maxHeartbeats 4000000 in
theorem small_any (S I : ByteArray) (w : World) :
    Calls Tryz.prog 8 #[.agg #[.string S, .string I]] w fun e w' => e = .returned (.agg #[.string (smS S), .string (smS I)]) ∧ Below w.heap.size w w' := by
  obtain ⟨n, hn⟩ : ∃ n, n = min S.size 4 := ⟨_, rfl⟩
  obtain ⟨m, hm⟩ : ∃ m, m = min I.size 4 := ⟨_, rfl⟩
  have g1 : min (S.size : Int) 4 = (n : Int) := by omega
  have g2 : min (I.size : Int) 4 = (m : Int) := by omega
  have g3 : (n : Int) ≤ (S.size : Int) := by omega
  have g4 : (m : Int) ≤ (I.size : Int) := by omega
  have g5 : (0 : Int) ≤ (n : Int) := by omega
  have g6 : (0 : Int) ≤ (m : Int) := by omega
  have HN0 := Lib.hid (fun W => lnorm_any (tk4 S) (tk4 I) (Nat.le_trans (tk4_size S) (by decide)) (Nat.le_trans (tk4_size I) (by decide)) W)
  have HE : Hid (S.extract 0 n = tk4 S ∧ I.extract 0 m = tk4 I) := Lib.hid (by rw [hn, hm]; exact ⟨rfl, rfl⟩)
  obtain ⟨NS, hNS⟩ : ∃ x, x = smS S := ⟨_, rfl⟩
  obtain ⟨NI, hNI⟩ : ∃ x, x = smS I := ⟨_, rfl⟩
  have HN : Hid (∀ W, Calls Tryz.prog 25 #[.agg #[.string (S.extract 0 n), .string (I.extract 0 m)]] W fun e w' => e = .returned (.agg #[.string NS, .string NI]) ∧ Below W.heap.size W w') := Lib.hid (by rw [HE.out.1, HE.out.2, hNS, hNI]; exact HN0.out)
  rw [← hNS, ← hNI]
  clear hn hm HN0 HE hNS hNI
  go_enter Tryz.func8, Tryz.ntmps8
  have hB0 := Below.refl w.heap.size w
  have M0 := Mem.nil w
  go_upto_region 1 with (fail)
  refine wp_named ?_
  intro w1 hW1
  have hB1 : Below w.heap.size w w1 := by rw [hW1]; exact (below_al (below_al hB0 _) _)
  have M1 := ((M0).new' (w.heap.size) (by rfl) (.cells #[.string S, .string I] 25)).new' (w.heap.size + 1) (by simp) (.cells #[.string ⟨#[]⟩, .string ⟨#[]⟩] 25)
  rw [← hW1] at M1
  clear hW1
  have c1_0_0 := Mem.cell (v := .string ⟨#[]⟩) M1.1 0 rfl
  have c1_0_1 := Mem.cell (v := .string ⟨#[]⟩) M1.1 1 rfl
  have z1_0 := Mem.lt M1.1
  have c1_1_0 := Mem.cell (v := .string S) M1.2.1 0 rfl
  have c1_1_1 := Mem.cell (v := .string I) M1.2.1 1 rfl
  have z1_1 := Mem.lt M1.2.1
  clear c1_0_0 c1_0_1 z1_0 c1_1_0 c1_1_1 z1_1
  refine wp_region_held (S := fun w' => Mem w' [(w.heap.size, .cells #[.string S, .string I] 25)]) (by kernel_rfl) ?_
  change wpAnyH _ _ _ _ _ 17 (Array.replicate 17 false) _ w1.drew
  refine anyH_named ?_
  intro w2 hW2
  have hB2 : Below w.heap.size w w2 := by rw [hW2]; exact below_dr hB1
  have M2 : Mem w2 [(w.heap.size + 1, .cells #[.string ⟨#[]⟩, .string ⟨#[]⟩] 25), (w.heap.size, .cells #[.string S, .string I] 25)] := by rw [hW2]; exact Mem.drew M1
  have zz2 : w1.heap.size ≤ w2.heap.size := by rw [hW2]; exact Nat.le_refl _
  clear hW2
  have zh2_0 := Mem.lt M2.1
  have zh2_1 := Mem.lt M2.2.1
  refine wpAnyH_take (i := 0) (v := ?_) rfl (by decide +kernel) (by decide +kernel) (by decide +kernel) (fun _ _ _ h => h) (Or.inl ⟨by rfl, ?_⟩) ⟨M2.2.1, trivial⟩ ?_
  rotate_left
  · intro w hSw
    clear hSw
    go_simp; try (with_reducible rfl)
  try simp only [Act.put, List.getElem_toArray, List.getElem_cons_zero, List.setIfInBounds_toArray, List.set_cons_zero, List.set_cons_succ]
  refine wpAnyH_take (i := 2) (v := ?_) rfl (by decide +kernel) (by decide +kernel) (by decide +kernel) (fun _ _ _ h => h) (Or.inl ⟨by rfl, ?_⟩) ⟨M2.2.1, trivial⟩ ?_
  rotate_left
  · intro w hSw
    clear hSw
    go_simp; try (with_reducible rfl)
  try simp only [Act.put, List.getElem_toArray, List.getElem_cons_succ, List.getElem_cons_zero, List.setIfInBounds_toArray, List.set_cons_zero, List.set_cons_succ]
  refine wpAnyH_take (i := 7) (v := ?_) rfl (by decide +kernel) (by decide +kernel) (by decide +kernel) (fun _ _ _ h => h) (Or.inl ⟨by rfl, ?_⟩) ⟨M2.2.1, trivial⟩ ?_
  rotate_left
  · intro w hSw
    clear hSw
    go_simp; try (with_reducible rfl)
  try simp only [Act.put, List.getElem_toArray, List.getElem_cons_succ, List.getElem_cons_zero, List.setIfInBounds_toArray, List.set_cons_zero, List.set_cons_succ]
  refine wpAnyH_take (i := 9) (v := ?_) rfl (by decide +kernel) (by decide +kernel) (by decide +kernel) (fun _ _ _ h => h) (Or.inl ⟨by rfl, ?_⟩) ⟨M2.2.1, trivial⟩ ?_
  rotate_left
  · intro w hSw
    clear hSw
    go_simp; try (with_reducible rfl)
  try simp only [Act.put, List.getElem_toArray, List.getElem_cons_succ, List.getElem_cons_zero, List.setIfInBounds_toArray, List.set_cons_zero, List.set_cons_succ]
  refine wpAnyH_take (i := 1) (v := ?_) rfl (by decide +kernel) (by decide +kernel) (by decide +kernel) (fun _ _ _ h => h) (Or.inl ⟨by rfl, ?_⟩) ⟨M2.2.1, trivial⟩ ?_
  rotate_left
  · intro w hSw
    have s_0 := Mem.cell (v := .string S) hSw.1 0 rfl
    clear hSw
    go_simp; try (with_reducible rfl)
  try simp only [Act.put, List.getElem_toArray, List.getElem_cons_succ, List.getElem_cons_zero, List.setIfInBounds_toArray, List.set_cons_zero, List.set_cons_succ]
  refine wpAnyH_take (i := 3) (v := ?_) rfl (by decide +kernel) (by decide +kernel) (by decide +kernel) (fun _ _ _ h => h) (Or.inl ⟨by rfl, ?_⟩) ⟨M2.2.1, trivial⟩ ?_
  rotate_left
  · intro w hSw
    have s_0 := Mem.cell (v := .string S) hSw.1 0 rfl
    clear hSw
    go_simp; try (with_reducible rfl)
  try simp only [Act.put, List.getElem_toArray, List.getElem_cons_succ, List.getElem_cons_zero, List.setIfInBounds_toArray, List.set_cons_zero, List.set_cons_succ]
  refine wpAnyH_take (i := 8) (v := ?_) rfl (by decide +kernel) (by decide +kernel) (by decide +kernel) (fun _ _ _ h => h) (Or.inl ⟨by rfl, ?_⟩) ⟨M2.2.1, trivial⟩ ?_
  rotate_left
  · intro w hSw
    have s_1 := Mem.cell (v := .string I) hSw.1 1 rfl
    clear hSw
    go_simp; try (with_reducible rfl)
  try simp only [Act.put, List.getElem_toArray, List.getElem_cons_succ, List.getElem_cons_zero, List.setIfInBounds_toArray, List.set_cons_zero, List.set_cons_succ]
  refine wpAnyH_take (i := 10) (v := ?_) rfl (by decide +kernel) (by decide +kernel) (by decide +kernel) (fun _ _ _ h => h) (Or.inl ⟨by rfl, ?_⟩) ⟨M2.2.1, trivial⟩ ?_
  rotate_left
  · intro w hSw
    have s_1 := Mem.cell (v := .string I) hSw.1 1 rfl
    clear hSw
    go_simp; try (with_reducible rfl)
  try simp only [Act.put, List.getElem_toArray, List.getElem_cons_succ, List.getElem_cons_zero, List.setIfInBounds_toArray, List.set_cons_zero, List.set_cons_succ]
  refine wpAnyH_take (i := 4) (v := ?_) rfl (by decide +kernel) (by decide +kernel) (by decide +kernel) (fun _ _ _ h => h) (Or.inl ⟨by rfl, ?_⟩) ⟨M2.2.1, trivial⟩ ?_
  rotate_left
  · intro w hSw
    clear hSw
    go_simp; try (with_reducible rfl)
  try simp only [Act.put, List.getElem_toArray, List.getElem_cons_succ, List.getElem_cons_zero, List.setIfInBounds_toArray, List.set_cons_zero, List.set_cons_succ]
  refine wpAnyH_take (i := 11) (v := ?_) rfl (by decide +kernel) (by decide +kernel) (by decide +kernel) (fun _ _ _ h => h) (Or.inl ⟨by rfl, ?_⟩) ⟨M2.2.1, trivial⟩ ?_
  rotate_left
  · intro w hSw
    clear hSw
    go_simp; try (with_reducible rfl)
  try simp only [Act.put, List.getElem_toArray, List.getElem_cons_succ, List.getElem_cons_zero, List.setIfInBounds_toArray, List.set_cons_zero, List.set_cons_succ]
  refine wpAnyH_take (i := 5) (v := ?_) rfl (by decide +kernel) (by decide +kernel) (by decide +kernel) (fun _ _ _ h => h) (Or.inl ⟨by rfl, ?_⟩) ⟨M2.2.1, trivial⟩ ?_
  rotate_left
  · intro w hSw
    clear hSw
    go_simp; try (with_reducible rfl)
  try simp only [Act.put, List.getElem_toArray, List.getElem_cons_succ, List.getElem_cons_zero, List.setIfInBounds_toArray, List.set_cons_zero, List.set_cons_succ]
  refine wpAnyH_take (i := 12) (v := ?_) rfl (by decide +kernel) (by decide +kernel) (by decide +kernel) (fun _ _ _ h => h) (Or.inl ⟨by rfl, ?_⟩) ⟨M2.2.1, trivial⟩ ?_
  rotate_left
  · intro w hSw
    clear hSw
    go_simp; try (with_reducible rfl)
  try simp only [Act.put, List.getElem_toArray, List.getElem_cons_succ, List.getElem_cons_zero, List.setIfInBounds_toArray, List.set_cons_zero, List.set_cons_succ]
  refine wpAnyH_take (i := 6) (v := ?_) rfl (by decide +kernel) (by decide +kernel) (by decide +kernel) (fun _ _ _ h => h) (Or.inl ⟨by rfl, ?_⟩) ⟨M2.2.1, trivial⟩ ?_
  rotate_left
  · intro w hSw
    clear hSw
    go_simp; try (with_reducible rfl)
  try simp only [Act.put, List.getElem_toArray, List.getElem_cons_succ, List.getElem_cons_zero, List.setIfInBounds_toArray, List.set_cons_zero, List.set_cons_succ]
  refine wpAnyH_take (i := 13) (v := ?_) rfl (by decide +kernel) (by decide +kernel) (by decide +kernel) (fun _ _ _ h => h) (Or.inl ⟨by rfl, ?_⟩) ⟨M2.2.1, trivial⟩ ?_
  rotate_left
  · intro w hSw
    clear hSw
    go_simp; try (with_reducible rfl)
  try simp only [Act.put, List.getElem_toArray, List.getElem_cons_succ, List.getElem_cons_zero, List.setIfInBounds_toArray, List.set_cons_zero, List.set_cons_succ]
  refine wpAnyH_take (i := 14) (v := ?_) rfl (by decide +kernel) (by decide +kernel) (by decide +kernel) (fun _ _ _ h => h) (Or.inl ⟨by rfl, ?_⟩) ⟨M2.2.1, trivial⟩ ?_
  rotate_left
  · intro w hSw
    clear hSw
    go_simp; try (with_reducible rfl)
  try simp only [Act.put, List.getElem_toArray, List.getElem_cons_succ, List.getElem_cons_zero, List.setIfInBounds_toArray, List.set_cons_zero, List.set_cons_succ]
  refine wpAnyH_ready (rs := [15]) (by decide +kernel) (by simp) (AllReadyH.cons rfl ?_ AllReadyH.nil)
  intro K hK
  rw [if_pos (by rfl)]
  go_simp
  go_at_call 25
  refine (HN.out _).mono ?_
  rintro e w3 ⟨rfl, hb3⟩
  have hB3 := below_then hB2 hb3
  have M3 := M2.below hb3
  have zz3 := hb3.size
  clear hb3
  refine hK.out _ _ ⟨M3.2.1, trivial⟩ (fun _ => ?_)
  clear hK K
  try simp only [Act.put, List.getElem_toArray, List.getElem_cons_succ, List.getElem_cons_zero, List.setIfInBounds_toArray, List.set_cons_zero, List.set_cons_succ]
  refine wpAnyH_ready (rs := [16]) (by decide +kernel) (by simp) (AllReadyH.cons rfl ?_ AllReadyH.nil)
  intro K hK
  have f_ := fun j => Mem.free M3.1 j
  have c_0 := Mem.cell (v := .string ⟨#[]⟩) M3.1 0 rfl
  have c_1 := Mem.cell (v := .string ⟨#[]⟩) M3.1 1 rfl
  rw [if_pos (by rfl)]
  go_simp
  clear f_ c_0 c_1
  have hX3 : (w3.setCells (w.heap.size + 1) 0 [.string NS, .string NI]).heap[w.heap.size + 1]? = some (.cells #[.string NS, .string NI] 25) := by rw [setCells_block [.string NS, .string NI] 0 _ _ (M3.1) (by simp)]; rfl
  have N4 : Mem (w3.setCells (w.heap.size + 1) 0 [.string NS, .string NI]) [(w.heap.size + 1, .cells #[.string NS, .string NI] 25), (w.heap.size, .cells #[.string S, .string I] 25)] := ⟨hX3, (setCells_other [.string NS, .string NI] 0 _ _ (by omega)).trans M3.2.1, trivial⟩
  refine hK.out _ _ ⟨N4.2.1, trivial⟩ (fun _ => ?_)
  clear hK K
  refine anyH_named ?_
  intro w4 hW4
  have hB4 : Below w.heap.size w w4 := by rw [hW4]; exact below_setCells (B := w.heap.size) hB3 (b := w.heap.size + 1) (by have := hB3.size; omega) 0 [.string NS, .string NI]
  have M4 : Mem w4 [(w.heap.size + 1, .cells #[.string NS, .string NI] 25), (w.heap.size, .cells #[.string S, .string I] 25)] := by rw [hW4]; exact N4
  clear hW4 N4 hX3
  refine wpAnyH_done (by kernel_rfl) ?_ _
  have c4_0_0 := Mem.cell (v := .string NS) M4.1 0 rfl
  have c4_0_1 := Mem.cell (v := .string NI) M4.1 1 rfl
  have z4_0 := Mem.lt M4.1
  have c4_1_0 := Mem.cell (v := .string S) M4.2.1 0 rfl
  have c4_1_1 := Mem.cell (v := .string I) M4.2.1 1 rfl
  have z4_1 := Mem.lt M4.2.1
  go_wp2_with fail
  refine bodyPost_ret (v := .agg #[.string NS, .string NI]) (by simp [results, Tryz.results8, go_sem, c4_0_0, c4_0_1]) rfl ⟨rfl, hB4⟩
end Go.Proofs.YtlkgcidhhngfeaaGreatDoor
