/- The chapter's number, small, begun. -/
import Derived.Test.YtnmepcogijgbjaaGreatDoorRb
namespace Go.Proofs.YtnmepcogijgbjaaGreatDoor
open Go.RowKit
def tk4 (s : ByteArray) : ByteArray := s.extract 0 (min s.size 4)
theorem tk4_bd (s : ByteArray) : Bd (tk4 s) := by
  unfold tk4 Bd
  rw [ByteArray.size_extract]
  omega
set_option maxRecDepth 100000 in
set_option maxHeartbeats 1000000 in
theorem number_any (n : Int) (w : World) :
    Calls Tryz.prog 10 #[.int .i64 n] w fun e w' => e = .returned (.agg #[.int .i64 1, .int .i64 n, .string ⟨#[]⟩, .string ⟨#[]⟩, .string ⟨#[]⟩]) ∧ Below w.heap.size w w' := by
  go_enter Tryz.func10, Tryz.ntmps10
  have hB0 := Below.refl w.heap.size w
  have M0 := Mem.nil w
  go_upto_region 1 with (fail)
  refine wp_named ?_
  intro w1 hW1
  have hB1 : Below w.heap.size w w1 := by rw [hW1]; exact (below_al hB0 _)
  have M1 := (M0).new' (w.heap.size) (by rfl) (.cells #[.int .i64 0, .int .i64 0, .string ⟨#[]⟩, .string ⟨#[]⟩, .string ⟨#[]⟩] 28)
  rw [← hW1] at M1
  clear hW1
  have c1_0_0 := Mem.cell (v := .int .i64 0) M1.1 0 rfl
  have c1_0_1 := Mem.cell (v := .int .i64 0) M1.1 1 rfl
  have c1_0_2 := Mem.cell (v := .string ⟨#[]⟩) M1.1 2 rfl
  have c1_0_3 := Mem.cell (v := .string ⟨#[]⟩) M1.1 3 rfl
  have c1_0_4 := Mem.cell (v := .string ⟨#[]⟩) M1.1 4 rfl
  have z1_0 := Mem.lt M1.1
  have f0 := fun j => Mem.free M1.1 j
  go_wp2_with fail
  have hX1 := set_block (M1).1 [.int .i64 1, .int .i64 n, .string ⟨#[]⟩, .string ⟨#[]⟩, .string ⟨#[]⟩] rfl
  have hY1 := below_setCells (B := w.heap.size) hB1 (b := w.heap.size) (by have := hB1.size; omega) 0 [.int .i64 1, .int .i64 n, .string ⟨#[]⟩, .string ⟨#[]⟩, .string ⟨#[]⟩]
  obtain ⟨W_e, hW_e⟩ : ∃ W_e, W_e = w1.setCells (w.heap.size) 0 [.int .i64 1, .int .i64 n, .string ⟨#[]⟩, .string ⟨#[]⟩, .string ⟨#[]⟩] := ⟨_, rfl⟩
  rw [← hW_e] at hX1 hY1
  refine at_world hW_e ?_
  have k_0 := Mem.cell (v := .int .i64 1) hX1 0 rfl
  have k_1 := Mem.cell (v := .int .i64 n) hX1 1 rfl
  have k_2 := Mem.cell (v := .string ⟨#[]⟩) hX1 2 rfl
  have k_3 := Mem.cell (v := .string ⟨#[]⟩) hX1 3 rfl
  have k_4 := Mem.cell (v := .string ⟨#[]⟩) hX1 4 rfl
  refine bodyPost_ret (v := .agg #[.int .i64 1, .int .i64 n, .string ⟨#[]⟩, .string ⟨#[]⟩, .string ⟨#[]⟩]) (by simp [results, Tryz.results10, go_sem, k_0, k_1, k_2, k_3, k_4]) rfl ⟨rfl, hY1⟩
set_option maxRecDepth 100000 in
set_option maxHeartbeats 1000000 in
theorem small_any (S I : ByteArray) (w : World) :
    Calls Tryz.prog 15 #[.agg #[.string S, .string I]] w fun e w' => e = .returned (.agg #[.string (tk4 S), .string (tk4 I)]) ∧ Below w.heap.size w w' := by
  obtain ⟨n, hn⟩ : ∃ n, n = min S.size 4 := ⟨_, rfl⟩
  obtain ⟨m, hm⟩ : ∃ m, m = min I.size 4 := ⟨_, rfl⟩
  have g1 : min (S.size : Int) 4 = (n : Int) := by omega
  have g2 : min (I.size : Int) 4 = (m : Int) := by omega
  have g3 : (n : Int) ≤ (S.size : Int) := by omega
  have g4 : (m : Int) ≤ (I.size : Int) := by omega
  have g5 : (0 : Int) ≤ (n : Int) := by omega
  have g6 : (0 : Int) ≤ (m : Int) := by omega
  have HN := Lib.hid hn
  have HM := Lib.hid hm
  clear hn hm
  go_enter Tryz.func15, Tryz.ntmps15
  have hB0 := Below.refl w.heap.size w
  have M0 := Mem.nil w
  go_upto_region 1 with (fail)
  refine wp_named ?_
  intro w1 hW1
  have hB1 : Below w.heap.size w w1 := by rw [hW1]; exact (below_al (below_al hB0 _) _)
  have M1 := ((M0).new' (w.heap.size) (by rfl) (.cells #[.string S, .string I] 24)).new' (w.heap.size + 1) (by simp) (.cells #[.string ⟨#[]⟩, .string ⟨#[]⟩] 24)
  rw [← hW1] at M1
  clear hW1
  have c1_0_0 := Mem.cell (v := .string ⟨#[]⟩) M1.1 0 rfl
  have c1_0_1 := Mem.cell (v := .string ⟨#[]⟩) M1.1 1 rfl
  have z1_0 := Mem.lt M1.1
  have c1_1_0 := Mem.cell (v := .string S) M1.2.1 0 rfl
  have c1_1_1 := Mem.cell (v := .string I) M1.2.1 1 rfl
  have z1_1 := Mem.lt M1.2.1
  clear c1_0_0 c1_0_1 z1_0 c1_1_0 c1_1_1 z1_1
  refine wp_region_held (S := fun w' => Mem w' [(w.heap.size, .cells #[.string S, .string I] 24)]) (by kernel_rfl) ?_
  change wpAnyH _ _ _ _ _ 16 (Array.replicate 16 false) _ w1.drew
  refine anyH_named ?_
  intro w2 hW2
  have hB2 : Below w.heap.size w w2 := by rw [hW2]; exact below_dr hB1
  have M2 : Mem w2 [(w.heap.size + 1, .cells #[.string ⟨#[]⟩, .string ⟨#[]⟩] 24), (w.heap.size, .cells #[.string S, .string I] 24)] := by rw [hW2]; exact Mem.drew M1
  have zz2 : w1.heap.size ≤ w2.heap.size := by rw [hW2]; exact Nat.le_refl _
  clear hW2
  have zh2_0 := Mem.lt M2.1
  have zh2_1 := Mem.lt M2.2.1
  refine wpAnyH_take (i := 0) (v := ?_) rfl (by decide +kernel) (by decide +kernel) (by decide +kernel) (fun _ _ _ h => h) (Or.inl ⟨by rfl, ?_⟩) ⟨M2.2.1, trivial⟩ ?_
  rotate_left
  · intro w hSw
    clear hSw
    go_simp; try (with_reducible rfl)
  try simp only [Act.put, List.setIfInBounds_toArray]
  refine wpAnyH_take (i := 1) (v := ?_) rfl (by decide +kernel) (by decide +kernel) (by decide +kernel) (fun _ _ _ h => h) (Or.inl ⟨by rfl, ?_⟩) ⟨M2.2.1, trivial⟩ ?_
  rotate_left
  · intro w hSw
    have s_0 := Mem.cell (v := .string S) hSw.1 0 rfl
    clear hSw
    go_simp; try (with_reducible rfl)
  try simp only [Act.put]
  refine wpAnyH_take (i := 2) (v := ?_) rfl (by decide +kernel) (by decide +kernel) (by decide +kernel) (fun _ _ _ h => h) (Or.inl ⟨by rfl, ?_⟩) ⟨M2.2.1, trivial⟩ ?_
  rotate_left
  · intro w hSw
    clear hSw
    go_simp; try (with_reducible rfl)
  try simp only [Act.put]
  refine wpAnyH_take (i := 3) (v := ?_) rfl (by decide +kernel) (by decide +kernel) (by decide +kernel) (fun _ _ _ h => h) (Or.inl ⟨by rfl, ?_⟩) ⟨M2.2.1, trivial⟩ ?_
  rotate_left
  · intro w hSw
    have s_0 := Mem.cell (v := .string S) hSw.1 0 rfl
    clear hSw
    go_simp; try (with_reducible rfl)
  try simp only [Act.put]
  refine wpAnyH_take (i := 4) (v := ?_) rfl (by decide +kernel) (by decide +kernel) (by decide +kernel) (fun _ _ _ h => h) (Or.inl ⟨by rfl, ?_⟩) ⟨M2.2.1, trivial⟩ ?_
  rotate_left
  · intro w hSw
    clear hSw
    go_simp; try (with_reducible rfl)
  try simp only [Act.put]
  refine wpAnyH_take (i := 5) (v := ?_) rfl (by decide +kernel) (by decide +kernel) (by decide +kernel) (fun _ _ _ h => h) (Or.inl ⟨by rfl, ?_⟩) ⟨M2.2.1, trivial⟩ ?_
  rotate_left
  · intro w hSw
    clear hSw
    go_simp; try (with_reducible rfl)
  try simp only [Act.put]
  refine wpAnyH_take (i := 6) (v := ?_) rfl (by decide +kernel) (by decide +kernel) (by decide +kernel) (fun _ _ _ h => h) (Or.inl ⟨by rfl, ?_⟩) ⟨M2.2.1, trivial⟩ ?_
  rotate_left
  · intro w hSw
    clear hSw
    go_simp; try (with_reducible rfl)
  try simp only [Act.put]
  refine wpAnyH_take (i := 7) (v := ?_) rfl (by decide +kernel) (by decide +kernel) (by decide +kernel) (fun _ _ _ h => h) (Or.inl ⟨by rfl, ?_⟩) ⟨M2.2.1, trivial⟩ ?_
  rotate_left
  · intro w hSw
    clear hSw
    go_simp; try (with_reducible rfl)
  try simp only [Act.put]
  refine wpAnyH_take (i := 8) (v := ?_) rfl (by decide +kernel) (by decide +kernel) (by decide +kernel) (fun _ _ _ h => h) (Or.inl ⟨by rfl, ?_⟩) ⟨M2.2.1, trivial⟩ ?_
  rotate_left
  · intro w hSw
    have s_1 := Mem.cell (v := .string I) hSw.1 1 rfl
    clear hSw
    go_simp; try (with_reducible rfl)
  try simp only [Act.put]
  refine wpAnyH_take (i := 9) (v := ?_) rfl (by decide +kernel) (by decide +kernel) (by decide +kernel) (fun _ _ _ h => h) (Or.inl ⟨by rfl, ?_⟩) ⟨M2.2.1, trivial⟩ ?_
  rotate_left
  · intro w hSw
    clear hSw
    go_simp; try (with_reducible rfl)
  try simp only [Act.put]
  refine wpAnyH_take (i := 10) (v := ?_) rfl (by decide +kernel) (by decide +kernel) (by decide +kernel) (fun _ _ _ h => h) (Or.inl ⟨by rfl, ?_⟩) ⟨M2.2.1, trivial⟩ ?_
  rotate_left
  · intro w hSw
    have s_1 := Mem.cell (v := .string I) hSw.1 1 rfl
    clear hSw
    go_simp; try (with_reducible rfl)
  try simp only [Act.put]
  refine wpAnyH_take (i := 11) (v := ?_) rfl (by decide +kernel) (by decide +kernel) (by decide +kernel) (fun _ _ _ h => h) (Or.inl ⟨by rfl, ?_⟩) ⟨M2.2.1, trivial⟩ ?_
  rotate_left
  · intro w hSw
    clear hSw
    go_simp; try (with_reducible rfl)
  try simp only [Act.put]
  refine wpAnyH_take (i := 12) (v := ?_) rfl (by decide +kernel) (by decide +kernel) (by decide +kernel) (fun _ _ _ h => h) (Or.inl ⟨by rfl, ?_⟩) ⟨M2.2.1, trivial⟩ ?_
  rotate_left
  · intro w hSw
    clear hSw
    go_simp; try (with_reducible rfl)
  try simp only [Act.put]
  refine wpAnyH_take (i := 13) (v := ?_) rfl (by decide +kernel) (by decide +kernel) (by decide +kernel) (fun _ _ _ h => h) (Or.inl ⟨by rfl, ?_⟩) ⟨M2.2.1, trivial⟩ ?_
  rotate_left
  · intro w hSw
    clear hSw
    go_simp; try (with_reducible rfl)
  try simp only [Act.put]
  refine wpAnyH_take (i := 14) (v := ?_) rfl (by decide +kernel) (by decide +kernel) (by decide +kernel) (fun _ _ _ h => h) (Or.inl ⟨by rfl, ?_⟩) ⟨M2.2.1, trivial⟩ ?_
  rotate_left
  · intro w hSw
    clear hSw
    go_simp; try (with_reducible rfl)
  try simp only [Act.put]
  refine wpAnyH_ready (rs := [15]) (by decide +kernel) (by simp) (AllReadyH.cons rfl ?_ AllReadyH.nil)
  intro K hK
  have f_ := fun j => Mem.free M2.1 j
  have c_0 := Mem.cell (v := .string ⟨#[]⟩) M2.1 0 rfl
  have c_1 := Mem.cell (v := .string ⟨#[]⟩) M2.1 1 rfl
  rw [if_pos (by rfl)]
  go_simp
  clear f_ c_0 c_1
  have hX2 : (w2.setCells (w.heap.size + 1) 0 [.string (S.extract 0 n), .string (I.extract 0 m)]).heap[w.heap.size + 1]? = some (.cells #[.string (S.extract 0 n), .string (I.extract 0 m)] 24) := by rw [setCells_block [.string (S.extract 0 n), .string (I.extract 0 m)] 0 _ _ (M2.1) (by simp)]; rfl
  have N3 : Mem (w2.setCells (w.heap.size + 1) 0 [.string (S.extract 0 n), .string (I.extract 0 m)]) [(w.heap.size + 1, .cells #[.string (S.extract 0 n), .string (I.extract 0 m)] 24), (w.heap.size, .cells #[.string S, .string I] 24)] := ⟨hX2, (setCells_other [.string (S.extract 0 n), .string (I.extract 0 m)] 0 _ _ (by omega)).trans M2.2.1, trivial⟩
  refine hK.out _ _ ⟨N3.2.1, trivial⟩ (fun _ => ?_)
  clear hK K
  refine anyH_named ?_
  intro w3 hW3
  have hB3 : Below w.heap.size w w3 := by rw [hW3]; exact below_setCells (B := w.heap.size) hB2 (b := w.heap.size + 1) (by have := hB2.size; omega) 0 [.string (S.extract 0 n), .string (I.extract 0 m)]
  have M3 : Mem w3 [(w.heap.size + 1, .cells #[.string (S.extract 0 n), .string (I.extract 0 m)] 24), (w.heap.size, .cells #[.string S, .string I] 24)] := by rw [hW3]; exact N3
  clear hW3 N3 hX2
  refine wpAnyH_done (by kernel_rfl) ?_ _
  have c3_0_0 := Mem.cell (v := .string (S.extract 0 n)) M3.1 0 rfl
  have c3_0_1 := Mem.cell (v := .string (I.extract 0 m)) M3.1 1 rfl
  have z3_0 := Mem.lt M3.1
  have c3_1_0 := Mem.cell (v := .string S) M3.2.1 0 rfl
  have c3_1_1 := Mem.cell (v := .string I) M3.2.1 1 rfl
  have z3_1 := Mem.lt M3.2.1
  go_wp2_with fail
  refine bodyPost_ret (v := .agg #[.string (S.extract 0 n), .string (I.extract 0 m)]) (by simp [results, Tryz.results15, go_sem, c3_0_0, c3_0_1]) rfl ⟨(by rw [HN.out, HM.out]; rfl), hB3⟩
set_option maxRecDepth 100000 in
set_option maxHeartbeats 2000000 in
theorem begun_nil (cS cI kS kI : ByteArray) (_ : Bd cS) (_ : Bd cI) (_ : Bd kS) (_ : Bd kI) (r : Int) (hr0 : 0 ≤ r) (hr1 : r ≤ 255) (w : World) :
    Calls Tryz.prog 7 #[.agg #[.string cS, .string cI, .string kS, .string kI], .slice none 0 0, .int .u8 r] w fun e w' => ∃ fo fc jS jI, e = .returned (.agg (th (thNew ⟨#[51]⟩ (NB (tk4 cS)) (NB (tk4 cI)) jS jI ⟨fo, 1, fc⟩ ⟨none, 0, 0⟩ ⟨none, 0, 0⟩ r))) ∧ (∃ xf, w'.ownsRow w.heap.size 104 5 (.slice fo 1 fc) 1 xf) ∧ Below w.heap.size w w' := by
  have er : IntKind.i64.wrap r = r := IntWalk.i64_in _ ⟨by omega, by omega⟩
  have b1 := Lib.hid (tk4_bd cS)
  have b2 := Lib.hid (tk4_bd cI)
  have b3 := Lib.hid (tk4_bd kS)
  have b4 := Lib.hid (tk4_bd kI)
  obtain ⟨NS, hNS⟩ : ∃ x, x = NB (tk4 cS) := ⟨_, rfl⟩
  obtain ⟨NI, hNI⟩ : ∃ x, x = NB (tk4 cI) := ⟨_, rfl⟩
  have b5 : Hid (NS.size ≤ 64) := Lib.hid (by rw [hNS]; exact nb_size _)
  have b6 : Hid (NI.size ≤ 64) := Lib.hid (by rw [hNI]; exact nb_size _)
  have hN := Lib.hid (fun W => by have := lnorm_any (tk4 cS) (tk4 cI) b1.out b2.out W; rw [← hNS, ← hNI] at this; exact this)
  rw [← hNS, ← hNI]
  clear hNS hNI
  obtain ⟨JS, hJS⟩ : ∃ x, x = NAnd NS (tk4 kS) := ⟨_, rfl⟩
  obtain ⟨JI, hJI⟩ : ∃ x, x = NOr NI (tk4 kI) := ⟨_, rfl⟩
  have hJ := Lib.hid (fun W => by have := join_any NS NI (tk4 kS) (tk4 kI) (Nat.le_trans b5.out (by omega)) (Nat.le_trans b6.out (by omega)) b3.out b4.out W; rw [← hJS, ← hJI] at this; exact this)
  clear hJS hJI
  go_enter Tryz.func7, Tryz.ntmps7
  have hB0 := Below.refl w.heap.size w
  have M0 := Mem.nil w
  go_wp2_with fail
  refine Calls.named ?_
  intro W1 hW1
  have hB1_ : Below w.heap.size w W1 := by rw [hW1]; exact (below_al (below_al hB0 _) _)
  have M1_ : Mem W1 [(w.heap.size + 1, .cells (th (th0)) 39), (w.heap.size, .cells #[.string cS, .string cI, .string kS, .string kI] 26)] := by rw [hW1]; exact ((M0).new' (w.heap.size) (by rfl) (.cells #[.string cS, .string cI, .string kS, .string kI] 26)).new' (w.heap.size + 1) (by simp) (.cells (th (th0)) 39)
  clear hW1
  have ZZ1_0 := Lib.hid (Mem.lt M1_.1)
  have ZZ1_1 := Lib.hid (Mem.lt M1_.2.1)
  refine (enterC_any none none none 0 0 0 0 0 0 [] (by simp) (by omega) (by unfold maxLen; omega) (by omega) (fun _ => rfl) (by omega) 0 1 (by omega) none 0 0 [] (fun _ => ⟨rfl, rfl⟩) (by simp) (by simp) (by omega) 1 _ (rows_nil _ _) (rows_nil _ _)).mono ?_
  rintro e w1 ⟨fo, fc, va, vc, rfl, hown, hb1⟩
  have hB1 := below_then hB1_ hb1
  have M1 := M1_.below hb1
  clear M1_ hB1_ hb1
  have z1_0 := Mem.lt M1.1
  have c1_1_0 := Mem.cell (v := .string cS) M1.2.1 0 rfl
  have c1_1_1 := Mem.cell (v := .string cI) M1.2.1 1 rfl
  have c1_1_2 := Mem.cell (v := .string kS) M1.2.1 2 rfl
  have c1_1_3 := Mem.cell (v := .string kI) M1.2.1 3 rfl
  have z1_1 := Mem.lt M1.2.1
  have HOW := Lib.hid hown
  clear hown
  have oo1_0 : w.heap.size + 1 < w1.heap.size := Mem.lt M1.1
  have oo1_1 : w.heap.size < w1.heap.size := Mem.lt M1.2.1
  go_wp2_with fail
  refine wp_named ?_
  intro w2 hW2
  have hB2 : Below w.heap.size w w2 := by rw [hW2]; exact (below_al hB1 _)
  have M2 := (M1).new' (w1.heap.size) (by rfl) (.cells #[.slice fo 1 fc, .slice none 0 0, .slice none 0 0] 36)
  rw [← hW2] at M2
  have hS2 : Below w1.heap.size w1 w2 := by rw [hW2]; exact (below_al (Below.refl _ _) _)
  replace HOW := hid_own HOW hS2
  clear hS2
  clear z1_0 c1_1_0 c1_1_1 c1_1_2 c1_1_3 z1_1
  clear hW2
  have c2_0_0 := Mem.cell (v := .slice fo 1 fc) M2.1 0 rfl
  have c2_0_1 := Mem.cell (v := .slice none 0 0) M2.1 1 rfl
  have c2_0_2 := Mem.cell (v := .slice none 0 0) M2.1 2 rfl
  have z2_0 := Mem.lt M2.1
  have z2_1 := Mem.lt M2.2.1
  have c2_2_0 := Mem.cell (v := .string cS) M2.2.2.1 0 rfl
  have c2_2_1 := Mem.cell (v := .string cI) M2.2.2.1 1 rfl
  have c2_2_2 := Mem.cell (v := .string kS) M2.2.2.1 2 rfl
  have c2_2_3 := Mem.cell (v := .string kI) M2.2.2.1 3 rfl
  have z2_2 := Mem.lt M2.2.2.1
  go_loopw [9] (fun i wr => i = .int .i64 0 ∧ w2 = wr) (fun _ _ => 0)
  case atStart => exact ⟨rfl, rfl⟩
  case round =>
    obtain ⟨rfl, rfl⟩ := hrel
    go_wp2_with fail
    refine Calls.named ?_
    intro W3 hW3
    have hB3_ : Below w.heap.size w W3 := by rw [hW3]; exact hB2
    have M3_ := M2
    rw [← hW3] at M3_
    have hS3 : Below w2.heap.size w2 W3 := by rw [hW3]; exact (Below.refl _ _)
    have HOW_ := hid_own HOW hS3
    clear hS3 HOW
    clear hW3
    have ZZ3_0 := Lib.hid (Mem.lt M3_.1)
    have ZZ3_1 := Lib.hid (Mem.lt M3_.2.1)
    have ZZ3_2 := Lib.hid (Mem.lt M3_.2.2.1)
    clear c2_0_0 c2_0_1 c2_0_2 z2_0 z2_1 c2_2_0 c2_2_1 c2_2_2 c2_2_3 z2_2
    refine (small_any cS cI _).mono ?_
    rintro e w3 ⟨rfl, hb3⟩
    have HOW := hid_own HOW_ hb3
    clear HOW_
    have hB3 := below_then hB3_ hb3
    have M3 := M3_.below hb3
    clear M3_ hB3_ hb3
    have c3_0_0 := Mem.cell (v := .slice fo 1 fc) M3.1 0 rfl
    have c3_0_1 := Mem.cell (v := .slice none 0 0) M3.1 1 rfl
    have c3_0_2 := Mem.cell (v := .slice none 0 0) M3.1 2 rfl
    have z3_0 := Mem.lt M3.1
    have z3_1 := Mem.lt M3.2.1
    have c3_2_0 := Mem.cell (v := .string cS) M3.2.2.1 0 rfl
    have c3_2_1 := Mem.cell (v := .string cI) M3.2.2.1 1 rfl
    have c3_2_2 := Mem.cell (v := .string kS) M3.2.2.1 2 rfl
    have c3_2_3 := Mem.cell (v := .string kI) M3.2.2.1 3 rfl
    have z3_2 := Mem.lt M3.2.2.1
    go_wp2_with fail
    refine Calls.named ?_
    intro W4 hW4
    have hB4_ : Below w.heap.size w W4 := by rw [hW4]; exact hB3
    have M4_ := M3
    rw [← hW4] at M4_
    have hS4 : Below w3.heap.size w3 W4 := by rw [hW4]; exact (Below.refl _ _)
    have HOW_ := hid_own HOW hS4
    clear hS4 HOW
    clear hW4
    have ZZ4_0 := Lib.hid (Mem.lt M4_.1)
    have ZZ4_1 := Lib.hid (Mem.lt M4_.2.1)
    have ZZ4_2 := Lib.hid (Mem.lt M4_.2.2.1)
    clear c3_0_0 c3_0_1 c3_0_2 z3_0 z3_1 c3_2_0 c3_2_1 c3_2_2 c3_2_3 z3_2
    refine (hN.out _).mono ?_
    rintro e w4 ⟨rfl, hb4⟩
    have HOW := hid_own HOW_ hb4
    clear HOW_
    have hB4 := below_then hB4_ hb4
    have M4 := M4_.below hb4
    clear M4_ hB4_ hb4
    have c4_0_0 := Mem.cell (v := .slice fo 1 fc) M4.1 0 rfl
    have c4_0_1 := Mem.cell (v := .slice none 0 0) M4.1 1 rfl
    have c4_0_2 := Mem.cell (v := .slice none 0 0) M4.1 2 rfl
    have z4_0 := Mem.lt M4.1
    have z4_1 := Mem.lt M4.2.1
    have c4_2_0 := Mem.cell (v := .string cS) M4.2.2.1 0 rfl
    have c4_2_1 := Mem.cell (v := .string cI) M4.2.2.1 1 rfl
    have c4_2_2 := Mem.cell (v := .string kS) M4.2.2.1 2 rfl
    have c4_2_3 := Mem.cell (v := .string kI) M4.2.2.1 3 rfl
    have z4_2 := Mem.lt M4.2.2.1
    have oo4_0 : w1.heap.size < w4.heap.size := Mem.lt M4.1
    have oo4_1 : w.heap.size + 1 < w4.heap.size := Mem.lt M4.2.1
    have oo4_2 : w.heap.size < w4.heap.size := Mem.lt M4.2.2.1
    go_upto_region 7 with (fail)
    refine wp_named ?_
    intro w5 hW5
    have hB5 : Below w.heap.size w w5 := by rw [hW5]; exact (below_al hB4 _)
    have M5 := (M4).new' (w4.heap.size) (by rfl) (.cells #[.string NS, .string NI] 24)
    rw [← hW5] at M5
    have hS5 : Below w4.heap.size w4 w5 := by rw [hW5]; exact (below_al (Below.refl _ _) _)
    replace HOW := hid_own HOW hS5
    clear hS5
    clear c4_0_0 c4_0_1 c4_0_2 z4_0 z4_1 c4_2_0 c4_2_1 c4_2_2 c4_2_3 z4_2
    clear hW5
    have c5_0_0 := Mem.cell (v := .string NS) M5.1 0 rfl
    have c5_0_1 := Mem.cell (v := .string NI) M5.1 1 rfl
    have z5_0 := Mem.lt M5.1
    have c5_1_0 := Mem.cell (v := .slice fo 1 fc) M5.2.1 0 rfl
    have c5_1_1 := Mem.cell (v := .slice none 0 0) M5.2.1 1 rfl
    have c5_1_2 := Mem.cell (v := .slice none 0 0) M5.2.1 2 rfl
    have z5_1 := Mem.lt M5.2.1
    have z5_2 := Mem.lt M5.2.2.1
    have c5_3_0 := Mem.cell (v := .string cS) M5.2.2.2.1 0 rfl
    have c5_3_1 := Mem.cell (v := .string cI) M5.2.2.2.1 1 rfl
    have c5_3_2 := Mem.cell (v := .string kS) M5.2.2.2.1 2 rfl
    have c5_3_3 := Mem.cell (v := .string kI) M5.2.2.2.1 3 rfl
    have z5_3 := Mem.lt M5.2.2.2.1
    clear c5_0_0 c5_0_1 z5_0 c5_1_0 c5_1_1 c5_1_2 z5_1 z5_2 c5_3_0 c5_3_1 c5_3_2 c5_3_3 z5_3
    refine wp_region_held (S := fun w' => Mem w' [(w4.heap.size, .cells #[.string NS, .string NI] 24), (w1.heap.size, .cells #[.slice fo 1 fc, .slice none 0 0, .slice none 0 0] 36), (w.heap.size, .cells #[.string cS, .string cI, .string kS, .string kI] 26)]) (by kernel_rfl) ?_
    change wpAnyH _ _ _ _ _ 12 (Array.replicate 12 false) _ w5.drew
    refine anyH_named ?_
    intro w6 hW6
    have hB6 : Below w.heap.size w w6 := by rw [hW6]; exact below_dr hB5
    have M6 : Mem w6 [(w4.heap.size, .cells #[.string NS, .string NI] 24), (w1.heap.size, .cells #[.slice fo 1 fc, .slice none 0 0, .slice none 0 0] 36), (w.heap.size + 1, .cells (th (th0)) 39), (w.heap.size, .cells #[.string cS, .string cI, .string kS, .string kI] 26)] := by rw [hW6]; exact Mem.drew M5
    have zz6 : w5.heap.size ≤ w6.heap.size := by rw [hW6]; exact Nat.le_refl _
    replace HOW := hid_own HOW (below_dr (Below.refl _ w5))
    rw [← hW6] at HOW
    clear hW6
    have zh6_0 := Mem.lt M6.1
    have zh6_1 := Mem.lt M6.2.1
    have zh6_2 := Mem.lt M6.2.2.1
    have zh6_3 := Mem.lt M6.2.2.2.1
    refine wpAnyH_take (i := 0) (v := ?_) rfl (by decide +kernel) (by decide +kernel) (by decide +kernel) (fun _ _ _ h => h) (Or.inl ⟨by rfl, ?_⟩) ⟨M6.1, M6.2.1, M6.2.2.2.1, trivial⟩ ?_
    rotate_left
    · intro w hSw
      have s_0 := Mem.cell (v := .string NS) hSw.1 0 rfl
      have s_1 := Mem.cell (v := .string NI) hSw.1 1 rfl
      clear hSw
      go_simp; try (with_reducible rfl)
    try simp only [Act.put, List.setIfInBounds_toArray]
    refine wpAnyH_take (i := 1) (v := ?_) rfl (by decide +kernel) (by decide +kernel) (by decide +kernel) (fun _ _ _ h => h) (Or.inl ⟨by rfl, ?_⟩) ⟨M6.1, M6.2.1, M6.2.2.2.1, trivial⟩ ?_
    rotate_left
    · intro w hSw
      have s_0 := Mem.cell (v := .string NS) hSw.1 0 rfl
      have s_1 := Mem.cell (v := .string NI) hSw.1 1 rfl
      clear hSw
      go_simp; try (with_reducible rfl)
    try simp only [Act.put]
    refine wpAnyH_take (i := 2) (v := ?_) rfl (by decide +kernel) (by decide +kernel) (by decide +kernel) (fun _ _ _ h => h) (Or.inl ⟨by rfl, ?_⟩) ⟨M6.1, M6.2.1, M6.2.2.2.1, trivial⟩ ?_
    rotate_left
    · intro w hSw
      clear hSw
      go_simp; try (with_reducible rfl)
    try simp only [Act.put]
    refine wpAnyH_take (i := 3) (v := ?_) rfl (by decide +kernel) (by decide +kernel) (by decide +kernel) (fun _ _ _ h => h) (Or.inl ⟨by rfl, ?_⟩) ⟨M6.1, M6.2.1, M6.2.2.2.1, trivial⟩ ?_
    rotate_left
    · intro w hSw
      have s_2 := Mem.cell (v := .string kS) hSw.2.2.1 2 rfl
      have s_3 := Mem.cell (v := .string kI) hSw.2.2.1 3 rfl
      clear hSw
      go_simp; try (with_reducible rfl)
    try simp only [Act.put]
    refine wpAnyH_take (i := 7) (v := ?_) rfl (by decide +kernel) (by decide +kernel) (by decide +kernel) (fun _ _ _ h => h) (Or.inl ⟨by rfl, ?_⟩) ⟨M6.1, M6.2.1, M6.2.2.2.1, trivial⟩ ?_
    rotate_left
    · intro w hSw
      have s_0 := Mem.cell (v := .slice fo 1 fc) hSw.2.1 0 rfl
      have s_1 := Mem.cell (v := .slice none 0 0) hSw.2.1 1 rfl
      have s_2 := Mem.cell (v := .slice none 0 0) hSw.2.1 2 rfl
      clear hSw
      go_simp; try (with_reducible rfl)
    try simp only [Act.put]
    refine wpAnyH_take (i := 8) (v := ?_) rfl (by decide +kernel) (by decide +kernel) (by decide +kernel) (fun _ _ _ h => h) (Or.inl ⟨by rfl, ?_⟩) ⟨M6.1, M6.2.1, M6.2.2.2.1, trivial⟩ ?_
    rotate_left
    · intro w hSw
      clear hSw
      go_simp; try (with_reducible rfl)
    try simp only [Act.put]
    refine wpAnyH_take (i := 9) (v := ?_) rfl (by decide +kernel) (by decide +kernel) (by decide +kernel) (fun _ _ _ h => h) (Or.inl ⟨by rfl, ?_⟩) ⟨M6.1, M6.2.1, M6.2.2.2.1, trivial⟩ ?_
    rotate_left
    · intro w hSw
      clear hSw
      go_simp; try (with_reducible rfl)
    try simp only [Act.put]
    refine wpAnyH_ready (rs := [4]) (by decide +kernel) (by simp) (AllReadyH.cons rfl ?_ AllReadyH.nil)
    intro K hK
    rw [if_pos (by rfl)]
    go_simp
    go_at_call 15
    refine (small_any kS kI _).mono ?_
    rintro e w7 ⟨rfl, hb7⟩
    have hB7 := below_then hB6 hb7
    have M7 := M6.below hb7
    replace HOW := hid_own HOW hb7
    have zz7 := hb7.size
    clear hb7
    refine hK.out _ _ ⟨M7.1, M7.2.1, M7.2.2.2.1, trivial⟩ (fun _ => ?_)
    clear hK K
    try simp only [Act.put, List.getElem_toArray, List.getElem_cons_succ, List.getElem_cons_zero, List.setIfInBounds_toArray, List.set_cons_zero, List.set_cons_succ]
    refine wpAnyH_ready (rs := [5]) (by decide +kernel) (by simp) (AllReadyH.cons rfl ?_ AllReadyH.nil)
    intro K hK
    rw [if_pos (by rfl)]
    go_simp
    go_at_call 26
    refine (hJ.out _).mono ?_
    rintro e w8 ⟨rfl, hb8⟩
    have hB8 := below_then hB7 hb8
    have M8 := M7.below hb8
    replace HOW := hid_own HOW hb8
    have zz8 := hb8.size
    clear hb8
    refine hK.out _ _ ⟨M8.1, M8.2.1, M8.2.2.2.1, trivial⟩ (fun _ => ?_)
    clear hK K
    try simp only [Act.put, List.getElem_toArray, List.getElem_cons_succ, List.getElem_cons_zero, List.setIfInBounds_toArray, List.set_cons_zero, List.set_cons_succ]
    refine wpAnyH_take (i := 6) (v := ?_) rfl (by decide +kernel) (by decide +kernel) (by decide +kernel) (fun _ _ _ h => h) (Or.inl ⟨by rfl, ?_⟩) ⟨M8.1, M8.2.1, M8.2.2.2.1, trivial⟩ ?_
    rotate_left
    · intro w hSw
      clear hSw
      go_simp; try (with_reducible rfl)
    try simp only [Act.put, List.setIfInBounds_toArray]
    refine wpAnyH_ready (rs := [10]) (by decide +kernel) (by simp) (AllReadyH.cons rfl ?_ AllReadyH.nil)
    intro K hK
    rw [if_pos (by rfl)]
    go_simp
    go_at_call 23
    refine (new_any ⟨#[51]⟩ NS NI JS JI ⟨fo, 1, fc⟩ ⟨none, 0, 0⟩ ⟨none, 0, 0⟩ r _).mono ?_
    rintro e w9 ⟨rfl, hb9⟩
    have hB9 := below_then hB8 hb9
    have M9 := M8.below hb9
    replace HOW := hid_own HOW hb9
    have zz9 := hb9.size
    clear hb9
    refine hK.out _ _ ⟨M9.1, M9.2.1, M9.2.2.2.1, trivial⟩ (fun _ => ?_)
    clear hK K
    try simp only [Act.put, List.getElem_toArray, List.getElem_cons_succ, List.getElem_cons_zero, List.setIfInBounds_toArray, List.set_cons_zero, List.set_cons_succ]
    refine wpAnyH_ready (rs := [11]) (by decide +kernel) (by simp) (AllReadyH.cons rfl ?_ AllReadyH.nil)
    intro K hK
    rw [if_pos (by rfl)]
    refine wp_store_mid 39 _ _ rfl (w.heap.size + 1) 0 (th ((thNew ⟨#[51]⟩ NS NI JS JI ⟨fo, 1, fc⟩ ⟨none, 0, 0⟩ ⟨none, 0, 0⟩ r))) (by rfl) (by rfl) (there_block M9.2.2.1 (Nat.le_refl 20)) info_th (one_th _) ?_
    have N10 : Mem (w9.setCells (w.heap.size + 1) 0 (th ((thNew ⟨#[51]⟩ NS NI JS JI ⟨fo, 1, fc⟩ ⟨none, 0, 0⟩ ⟨none, 0, 0⟩ r))).toList) [(w4.heap.size, .cells #[.string NS, .string NI] 24), (w1.heap.size, .cells #[.slice fo 1 fc, .slice none 0 0, .slice none 0 0] 36), (w.heap.size + 1, .cells (th ((thNew ⟨#[51]⟩ NS NI JS JI ⟨fo, 1, fc⟩ ⟨none, 0, 0⟩ ⟨none, 0, 0⟩ r))) 39), (w.heap.size, .cells #[.string cS, .string cI, .string kS, .string kI] 26)] := ⟨(setCells_other _ 0 _ _ (by omega)).trans M9.1, (setCells_other _ 0 _ _ (by omega)).trans M9.2.1, set_th M9.2.2.1 _, (setCells_other _ 0 _ _ (by omega)).trans M9.2.2.2.1, trivial⟩
    refine hK.out _ _ ⟨N10.1, N10.2.1, N10.2.2.2.1, trivial⟩ (fun _ => ?_)
    clear hK K
    try simp only [Act.put, List.getElem_toArray, List.getElem_cons_succ, List.getElem_cons_zero]
    refine anyH_named ?_
    intro w10 hW10
    have hB10 : Below w.heap.size w w10 := by rw [hW10]; exact below_setCells (B := w.heap.size) hB9 (b := w.heap.size + 1) (by have := hB9.size; omega) 0 _
    have M10 : Mem w10 [(w4.heap.size, .cells #[.string NS, .string NI] 24), (w1.heap.size, .cells #[.slice fo 1 fc, .slice none 0 0, .slice none 0 0] 36), (w.heap.size + 1, .cells (th ((thNew ⟨#[51]⟩ NS NI JS JI ⟨fo, 1, fc⟩ ⟨none, 0, 0⟩ ⟨none, 0, 0⟩ r))) 39), (w.heap.size, .cells #[.string cS, .string cI, .string kS, .string kI] 26)] := by rw [hW10]; exact N10
    have HOX := ownsRow_set (ownsRow_low (B := w.heap.size + 1 + 1) HOW.out (by have := ZZ1_0.out; omega)) (b := w.heap.size + 1) (by omega) 0 (th ((thNew ⟨#[51]⟩ NS NI JS JI ⟨fo, 1, fc⟩ ⟨none, 0, 0⟩ ⟨none, 0, 0⟩ r))).toList
    rw [show w9.setCells (w.heap.size + 1) 0 (th ((thNew ⟨#[51]⟩ NS NI JS JI ⟨fo, 1, fc⟩ ⟨none, 0, 0⟩ ⟨none, 0, 0⟩ r))).toList = w10 from hW10.symm] at HOX
    clear hW10 N10
    refine wpAnyH_done (by kernel_rfl) ?_ _
    have c10_0_0 := Mem.cell (v := .string NS) M10.1 0 rfl
    have c10_0_1 := Mem.cell (v := .string NI) M10.1 1 rfl
    have z10_0 := Mem.lt M10.1
    have c10_1_0 := Mem.cell (v := .slice fo 1 fc) M10.2.1 0 rfl
    have c10_1_1 := Mem.cell (v := .slice none 0 0) M10.2.1 1 rfl
    have c10_1_2 := Mem.cell (v := .slice none 0 0) M10.2.1 2 rfl
    have z10_1 := Mem.lt M10.2.1
    have c10_2_0 := Mem.cell (v := .string (thNew ⟨#[51]⟩ NS NI JS JI ⟨fo, 1, fc⟩ ⟨none, 0, 0⟩ ⟨none, 0, 0⟩ r).id) M10.2.2.1 0 rfl
    have c10_2_1 := Mem.cell (v := .string (thNew ⟨#[51]⟩ NS NI JS JI ⟨fo, 1, fc⟩ ⟨none, 0, 0⟩ ⟨none, 0, 0⟩ r).pa) M10.2.2.1 1 rfl
    have c10_2_2 := Mem.cell (v := .string (thNew ⟨#[51]⟩ NS NI JS JI ⟨fo, 1, fc⟩ ⟨none, 0, 0⟩ ⟨none, 0, 0⟩ r).cS) M10.2.2.1 2 rfl
    have c10_2_3 := Mem.cell (v := .string (thNew ⟨#[51]⟩ NS NI JS JI ⟨fo, 1, fc⟩ ⟨none, 0, 0⟩ ⟨none, 0, 0⟩ r).cI) M10.2.2.1 3 rfl
    have c10_2_4 := Mem.cell (v := .string (thNew ⟨#[51]⟩ NS NI JS JI ⟨fo, 1, fc⟩ ⟨none, 0, 0⟩ ⟨none, 0, 0⟩ r).kS) M10.2.2.1 4 rfl
    have c10_2_5 := Mem.cell (v := .string (thNew ⟨#[51]⟩ NS NI JS JI ⟨fo, 1, fc⟩ ⟨none, 0, 0⟩ ⟨none, 0, 0⟩ r).kI) M10.2.2.1 5 rfl
    have c10_2_6 := Mem.cell (v := .slice (thNew ⟨#[51]⟩ NS NI JS JI ⟨fo, 1, fc⟩ ⟨none, 0, 0⟩ ⟨none, 0, 0⟩ r).fr.a (thNew ⟨#[51]⟩ NS NI JS JI ⟨fo, 1, fc⟩ ⟨none, 0, 0⟩ ⟨none, 0, 0⟩ r).fr.n (thNew ⟨#[51]⟩ NS NI JS JI ⟨fo, 1, fc⟩ ⟨none, 0, 0⟩ ⟨none, 0, 0⟩ r).fr.c) M10.2.2.1 6 rfl
    have c10_2_7 := Mem.cell (v := .slice (thNew ⟨#[51]⟩ NS NI JS JI ⟨fo, 1, fc⟩ ⟨none, 0, 0⟩ ⟨none, 0, 0⟩ r).sk.a (thNew ⟨#[51]⟩ NS NI JS JI ⟨fo, 1, fc⟩ ⟨none, 0, 0⟩ ⟨none, 0, 0⟩ r).sk.n (thNew ⟨#[51]⟩ NS NI JS JI ⟨fo, 1, fc⟩ ⟨none, 0, 0⟩ ⟨none, 0, 0⟩ r).sk.c) M10.2.2.1 7 rfl
    have c10_2_8 := Mem.cell (v := .slice (thNew ⟨#[51]⟩ NS NI JS JI ⟨fo, 1, fc⟩ ⟨none, 0, 0⟩ ⟨none, 0, 0⟩ r).tr.a (thNew ⟨#[51]⟩ NS NI JS JI ⟨fo, 1, fc⟩ ⟨none, 0, 0⟩ ⟨none, 0, 0⟩ r).tr.n (thNew ⟨#[51]⟩ NS NI JS JI ⟨fo, 1, fc⟩ ⟨none, 0, 0⟩ ⟨none, 0, 0⟩ r).tr.c) M10.2.2.1 8 rfl
    have c10_2_9 := Mem.cell (v := .slice (thNew ⟨#[51]⟩ NS NI JS JI ⟨fo, 1, fc⟩ ⟨none, 0, 0⟩ ⟨none, 0, 0⟩ r).sc.a (thNew ⟨#[51]⟩ NS NI JS JI ⟨fo, 1, fc⟩ ⟨none, 0, 0⟩ ⟨none, 0, 0⟩ r).sc.n (thNew ⟨#[51]⟩ NS NI JS JI ⟨fo, 1, fc⟩ ⟨none, 0, 0⟩ ⟨none, 0, 0⟩ r).sc.c) M10.2.2.1 9 rfl
    have c10_2_10 := Mem.cell (v := .int .i64 (thNew ⟨#[51]⟩ NS NI JS JI ⟨fo, 1, fc⟩ ⟨none, 0, 0⟩ ⟨none, 0, 0⟩ r).md) M10.2.2.1 10 rfl
    have c10_2_11 := Mem.cell (v := .int .i64 (thNew ⟨#[51]⟩ NS NI JS JI ⟨fo, 1, fc⟩ ⟨none, 0, 0⟩ ⟨none, 0, 0⟩ r).rm) M10.2.2.1 11 rfl
    have c10_2_12 := Mem.cell (v := .int .i64 (thNew ⟨#[51]⟩ NS NI JS JI ⟨fo, 1, fc⟩ ⟨none, 0, 0⟩ ⟨none, 0, 0⟩ r).st) M10.2.2.1 12 rfl
    have c10_2_13 := Mem.cell (v := .string (thNew ⟨#[51]⟩ NS NI JS JI ⟨fo, 1, fc⟩ ⟨none, 0, 0⟩ ⟨none, 0, 0⟩ r).on) M10.2.2.1 13 rfl
    have c10_2_14 := Mem.cell (v := .int .i64 (thNew ⟨#[51]⟩ NS NI JS JI ⟨fo, 1, fc⟩ ⟨none, 0, 0⟩ ⟨none, 0, 0⟩ r).vk) M10.2.2.1 14 rfl
    have c10_2_15 := Mem.cell (v := .int .i64 (thNew ⟨#[51]⟩ NS NI JS JI ⟨fo, 1, fc⟩ ⟨none, 0, 0⟩ ⟨none, 0, 0⟩ r).vx) M10.2.2.1 15 rfl
    have c10_2_16 := Mem.cell (v := .string (thNew ⟨#[51]⟩ NS NI JS JI ⟨fo, 1, fc⟩ ⟨none, 0, 0⟩ ⟨none, 0, 0⟩ r).vm) M10.2.2.1 16 rfl
    have c10_2_17 := Mem.cell (v := .string (thNew ⟨#[51]⟩ NS NI JS JI ⟨fo, 1, fc⟩ ⟨none, 0, 0⟩ ⟨none, 0, 0⟩ r).vS) M10.2.2.1 17 rfl
    have c10_2_18 := Mem.cell (v := .string (thNew ⟨#[51]⟩ NS NI JS JI ⟨fo, 1, fc⟩ ⟨none, 0, 0⟩ ⟨none, 0, 0⟩ r).vI) M10.2.2.1 18 rfl
    have c10_2_19 := Mem.cell (v := .bool (thNew ⟨#[51]⟩ NS NI JS JI ⟨fo, 1, fc⟩ ⟨none, 0, 0⟩ ⟨none, 0, 0⟩ r).ex) M10.2.2.1 19 rfl
    have z10_2 := Mem.lt M10.2.2.1
    have c10_3_0 := Mem.cell (v := .string cS) M10.2.2.2.1 0 rfl
    have c10_3_1 := Mem.cell (v := .string cI) M10.2.2.2.1 1 rfl
    have c10_3_2 := Mem.cell (v := .string kS) M10.2.2.2.1 2 rfl
    have c10_3_3 := Mem.cell (v := .string kI) M10.2.2.2.1 3 rfl
    have z10_3 := Mem.lt M10.2.2.2.1
    go_wp2_with fail
    refine bodyPost_ret (v := .agg (th ((thNew ⟨#[51]⟩ NS NI JS JI ⟨fo, 1, fc⟩ ⟨none, 0, 0⟩ ⟨none, 0, 0⟩ r)))) (results_th1 Tryz.results7 _ _ (w.heap.size + 1) ((thNew ⟨#[51]⟩ NS NI JS JI ⟨fo, 1, fc⟩ ⟨none, 0, 0⟩ ⟨none, 0, 0⟩ r)) rfl M10.2.2.1) rfl ⟨fo, fc, JS, JI, rfl, ⟨_, ownsRow_low HOX (by omega)⟩, hB10⟩
end Go.Proofs.YtnmepcogijgbjaaGreatDoor
