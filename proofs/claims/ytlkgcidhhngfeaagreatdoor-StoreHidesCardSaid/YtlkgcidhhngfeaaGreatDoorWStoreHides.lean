/- The walk of StoreHides. -/
import Derived.Test.YtlkgcidhhngfeaaGreatDoorHiP
namespace Go.Proofs.YtlkgcidhhngfeaaGreatDoor
open Go.RowKit Go.Maps
/-- a row of names whose block lies below N -/
def RB (w : World) (N : Nat) (v : Value) (L : List ByteArray) : Prop := w.ownsRow 0 9 1 v L.length (L.map .string) ∧ ∀ k, v.ownBlock = some k → k < N
theorem RB.of {w : World} {B : Nat} {v : Value} {L : List ByteArray} (h : w.ownsRow B 9 1 v L.length (L.map .string)) : RB w w.heap.size v L := ⟨row_mono h (Nat.zero_le _), fun k hk => (h.lt k hk).2⟩
theorem hid_rb {w w' : World} {N : Nat} {v : Value} {L : List ByteArray} (h : Hid (RB w N v L)) (hb : Below w.heap.size w w') : Hid (RB w' N v L) := Lib.hid ⟨ownsRow_keep h.out.1 hb, h.out.2⟩
theorem rb_st {w : World} {N : Nat} {v : Value} {L : List ByteArray} (h : Hid (RB w N v L)) {b : Nat} (hb : N ≤ b) (o : Nat) (vs : List Value) : Hid (RB (w.setCells b o vs) N v L) := by
  have k : KF (fun j => j = b) w (w.setCells b o vs) := kf_setCells (F := fun j => j = b) (KF.refl _ w) (.inl rfl) o vs
  exact Lib.hid ⟨ownsRow_kf h.out.1 k fun j hj e => by have := h.out.2 j hj; omega, h.out.2⟩
theorem ge_st {w : World} {N : Nat} (h : Hid (N ≤ w.heap.size)) {b : Nat} (o : Nat) (vs : List Value) : Hid (N ≤ (w.setCells b o vs).heap.size) := Lib.hid (by rw [(setCells_same (b := b) vs o w).2.2.2]; exact h.out)
theorem RB.cell {w : World} {N : Nat} {a : Option Addr} {n c : Nat} {L : List ByteArray} (h : RB w N (.slice a n c) L) {k : Nat} (hk : k < L.length) : ∃ g, a = some ⟨g, 0, none⟩ ∧ g < N ∧ L.length ≤ c ∧ CellAt w g k (.string L[k]) := by
  rcases h.1.2 with ⟨e, h0⟩ | ⟨g, cap, cur, e, hB, hg, h1, h2, h3, h4⟩
  · omega
  · obtain ⟨rfl, rfl, rfl⟩ := Value.slice.inj e
    refine ⟨g, rfl, h.2 g rfl, h1, (Array.getElem?_eq_some_iff.1 hg).1, ?_⟩
    have := World.ownsRow.cellAt h.1 k (by omega)
    rw [this, List.getElem?_map, List.getElem?_eq_getElem hk]
    rfl
theorem RB.slice {w : World} {N : Nat} {v : Value} {L : List ByteArray} (h : RB w N v L) : ∃ a c, v = .slice a L.length c := by
  rcases h.1.2 with ⟨rfl, h0⟩ | ⟨g, cap, cur, rfl, _⟩
  · exact ⟨none, 0, by rw [h0]⟩
  · exact ⟨_, _, rfl⟩
set_option maxRecDepth 100000 in
set_option maxHeartbeats 32000000 in
theorem storeHides_raw (v : Value) (l : List Ac) (SS II TT JJ : ByteArray) (w : World) (hl : AcAt w v l) (hw9 : Laid w) :
    Calls Tryz.prog 5 #[v, .agg #[.string SS, .string II], .agg #[.string TT, .string JJ]] w fun e w' => e = .returned (.bool true) ∧ Below w.heap.size w w' := by
  have hw : LaidF (NF w) w := nf_laid hw9
  obtain ⟨S0, hS0⟩ : ∃ s, s = fillS l := ⟨_, rfl⟩
  obtain ⟨lS, hlS⟩ : ∃ s, s = smS SS := ⟨_, rfl⟩
  obtain ⟨lI, hlI⟩ : ∃ s, s = smS II := ⟨_, rfl⟩
  obtain ⟨mS, hmS⟩ : ∃ s, s = smS TT := ⟨_, rfl⟩
  obtain ⟨mI, hmI⟩ : ∃ s, s = smS JJ := ⟨_, rfl⟩
  obtain ⟨H0, hH0⟩ : ∃ s, s = hideS S0 lS lI := ⟨_, rfl⟩
  obtain ⟨H1, hH1⟩ : ∃ s, s = hideS H0 mS mI := ⟨_, rfl⟩
  have hH2 : hideS S0 (NOr lS mS) (NAnd lI mI) = H1 := by rw [hH1, hH0, hide_meet]
  obtain ⟨jS, hjS⟩ : ∃ s, s = NOr lS mS := ⟨_, rfl⟩
  obtain ⟨jI, hjI⟩ : ∃ s, s = NAnd lI mI := ⟨_, rfl⟩
  rw [← hjS, ← hjI] at hH2
  have b1 : Bd lS := by rw [hlS]; exact sm_bd _
  have b2 : Bd lI := by rw [hlI]; exact sm_bd _
  have b3 : Bd mS := by rw [hmS]; exact sm_bd _
  have b4 : Bd mI := by rw [hmI]; exact sm_bd _
  have b5 : Bd jS := by rw [hjS]; exact Nat.le_trans (nb_size _) (by decide)
  have b6 : Bd jI := by rw [hjI]; exact Nat.le_trans (nb_size _) (by decide)
  have HSM : Hid (∀ W, Calls Tryz.prog 8 #[.agg #[.string SS, .string II]] W fun e w' => e = .returned (.agg #[.string lS, .string lI]) ∧ Below W.heap.size W w') := Lib.hid (by rw [hlS, hlI]; exact small_any SS II)
  have HSM2 : Hid (∀ W, Calls Tryz.prog 8 #[.agg #[.string TT, .string JJ]] W fun e w' => e = .returned (.agg #[.string mS, .string mI]) ∧ Below W.heap.size W w') := Lib.hid (by rw [hmS, hmI]; exact small_any TT JJ)
  have HMT : Hid (∀ W, Calls Tryz.prog 21 #[.agg #[.string lS, .string lI], .agg #[.string mS, .string mI]] W fun e w' => e = .returned (.agg #[.string jS, .string jI]) ∧ Below W.heap.size W w') := Lib.hid (by rw [hjS, hjI]; exact fun W => meet_any lS lI mS mI b1 b2 b3 b4 W)
  have HFILL : Hid (∀ (W : World) (Y : Nat → Prop), Below w.heap.size w W → Laid W → (∀ b, Y b → b < W.heap.size) → Calls Tryz.prog 7 #[v] W fun e w' => ∃ p, e = .returned (.pointer (some ⟨p, 0, none⟩)) ∧ Hid (One w.heap.size Y w' p S0) ∧ Below W.heap.size W w') := Lib.hid (by rw [hS0]; exact fun W Y hb hL hY => (filled_any v l W (acAt_below hl hb) hL).mono fun _ _ ⟨p, h1, h2, h3⟩ => ⟨p, h1, one_conv h2 hb.size hY, h3⟩)
  have hs0 : SortedS S0 := by rw [hS0]; exact fillS_sorted l
  have HL0 : Hid (S0.length ≤ 8) := Lib.hid (by rw [hS0]; exact fillS_len8 l)
  have HLH : Hid (H0.length ≤ 8) := Lib.hid (by rw [hH0]; exact Nat.le_trans (hideS_length _ _ _) HL0.out)
  have HL1 : Hid (H1.length ≤ 8) := Lib.hid (by rw [hH1]; exact Nat.le_trans (hideS_length _ _ _) HLH.out)
  have HHH : Hid (hideS H0 lS lI = H0) := Lib.hid (by rw [hH0]; exact hide_self S0 lS lI)
  have HHI : Hid (hideS S0 ⟨#[0]⟩ ⟨#[]⟩ = S0) := Lib.hid (hide_high S0)
  have HNM : Hid (∀ e ∈ S0, e.1.size ≤ 140737488351232) := Lib.hid (by
    intro e he
    rw [hS0] at he
    have h1 := fillL_names _ e he
    have h : ∀ s ∈ nm8, s.size ≤ 3 := by decide
    have := h _ h1
    omega)
  have HST := Lib.hid hs0
  obtain ⟨L, hLL⟩ : ∃ L, L = S0.map (·.1) := ⟨_, rfl⟩
  have HLL := Lib.hid hLL
  have HNL : Hid (L.length = S0.length) := Lib.hid (by rw [hLL, List.length_map])
  clear hLL
  have HEQ := Lib.hid (And.intro hH0 (And.intro hH1 hH2))
  have HBD := Lib.hid (And.intro b1 (And.intro b2 (And.intro b3 (And.intro b4 (And.intro b5 b6)))))
  clear hw9 hl hS0 hlS hlI hmS hmI hH0 hH1 hH2 hjS hjI b1 b2 b3 b4 b5 b6 hs0
  go_enter Tryz.func5, Tryz.ntmps5
  have hB0 := Below.refl w.heap.size w
  have M0 := Mem.nil w
  have hw0 := hw
  go_wp2_with fail
  refine Calls.named ?_
  intro W1 hW1
  have hB1_ : Below w.heap.size w W1 := by rw [hW1]; exact (below_al (below_al hB0 _) _)
  have hw1_ : LaidF (NF w) W1 := by rw [hW1]; exact ((hw.alloc _).alloc _)
  have M1_ := ((M0).new' (w.heap.size) (by rfl) (.cells #[.string SS, .string II] 25)).new' (w.heap.size + 1) (by simp) (.cells #[.string TT, .string JJ] 25)
  rw [← hW1] at M1_
  clear hW1
  have ZZ1_0 := Lib.hid (Mem.lt M1_.1)
  have ZZ1_1 := Lib.hid (Mem.lt M1_.2.1)
  refine (examples_any _ (hw1_).laid).mono ?_
  rintro e w1 ⟨rfl, hb1⟩
  have hB1 := below_then hB1_ hb1
  have hw1 := hw1_.below hb1
  have M1 := M1_.below hb1
  clear M1_ hB1_ hb1 hw1_
  have c1_0_0 := Mem.cell (v := .string TT) M1.1 0 rfl
  have c1_0_1 := Mem.cell (v := .string JJ) M1.1 1 rfl
  have z1_0 := Mem.lt M1.1
  have c1_1_0 := Mem.cell (v := .string SS) M1.2.1 0 rfl
  have c1_1_1 := Mem.cell (v := .string II) M1.2.1 1 rfl
  have z1_1 := Mem.lt M1.2.1
  go_wp2_with fail
  refine Calls.named ?_
  intro W2 hW2
  have hB2_ : Below w.heap.size w W2 := by rw [hW2]; exact hB1
  have hw2_ : LaidF (NF w) W2 := by rw [hW2]; exact hw1
  have M2_ := M1
  rw [← hW2] at M2_
  clear hW2
  have ZZ2_0 := Lib.hid (Mem.lt M2_.1)
  have ZZ2_1 := Lib.hid (Mem.lt M2_.2.1)
  clear c1_0_0 c1_0_1 z1_0 c1_1_0 c1_1_1 z1_1
  refine (HFILL.out _ (fun b => b = w.heap.size ∨ b = w.heap.size + 1) hB2_ (hw2_).laid (fun b hb => Or.elim hb (fun h => by rw [h]; exact ZZ2_1.out) fun h => by rw [h]; exact ZZ2_0.out)).mono ?_
  rintro e w2 ⟨p, rfl, HS, hb2⟩
  have hB2 := below_then hB2_ hb2
  have hw2 := hw2_.below hb2
  have M2 := M2_.below hb2
  clear M2_ hB2_ hb2 hw2_
  have c2_0_0 := Mem.cell (v := .string TT) M2.1 0 rfl
  have c2_0_1 := Mem.cell (v := .string JJ) M2.1 1 rfl
  have z2_0 := Mem.lt M2.1
  have c2_1_0 := Mem.cell (v := .string SS) M2.2.1 0 rfl
  have c2_1_1 := Mem.cell (v := .string II) M2.2.1 1 rfl
  have z2_1 := Mem.lt M2.2.1
  clear HFILL
  go_wp2_with fail
  refine Calls.named ?_
  intro W3 hW3
  have hB3_ : Below w.heap.size w W3 := by rw [hW3]; exact hB2
  have hw3_ : LaidF (NF w) W3 := by rw [hW3]; exact hw2
  have M3_ := M2
  rw [← hW3] at M3_
  have hS3 : Below w2.heap.size w2 W3 := by rw [hW3]; exact (Below.refl _ _)
  have HS_ := hid_one HS hS3
  clear hS3 HS
  clear hW3
  have ZZ3_0 := Lib.hid (Mem.lt M3_.1)
  have ZZ3_1 := Lib.hid (Mem.lt M3_.2.1)
  clear c2_0_0 c2_0_1 z2_0 c2_1_0 c2_1_1 z2_1
  refine (HSM.out _).mono ?_
  rintro e w3 ⟨rfl, hb3⟩
  have HS := hid_one HS_ hb3
  clear HS_
  have hB3 := below_then hB3_ hb3
  have hw3 := hw3_.below hb3
  have M3 := M3_.below hb3
  clear M3_ hB3_ hb3 hw3_
  have c3_0_0 := Mem.cell (v := .string TT) M3.1 0 rfl
  have c3_0_1 := Mem.cell (v := .string JJ) M3.1 1 rfl
  have z3_0 := Mem.lt M3.1
  have c3_1_0 := Mem.cell (v := .string SS) M3.2.1 0 rfl
  have c3_1_1 := Mem.cell (v := .string II) M3.2.1 1 rfl
  have z3_1 := Mem.lt M3.2.1
  clear HSM
  have fl := fun j => Mem.free M3.2.1 j
  go_upto_region 6 with (fail)
  clear fl
  have hX3_0 : (w3.setCells (w.heap.size) 0 [.string lS, .string lI]).heap[w.heap.size]? = some (.cells #[.string lS, .string lI] 25) := by rw [setCells_block [.string lS, .string lI] 0 _ _ ((M3).2.1) (by simp)]; rfl
  have hY3_0 := below_setCells (B := w.heap.size) hB3 (b := w.heap.size) (by have := hB3.size; omega) 0 [.string lS, .string lI]
  refine wp_named ?_
  intro w4 hW4
  have hB4 : Below w.heap.size w w4 := by rw [hW4]; exact hY3_0
  have hw4 : LaidF (NF w) w4 := hw0.below hB4
  have M4 : Mem w4 [(w.heap.size + 1, .cells #[.string TT, .string JJ] 25), (w.heap.size, .cells #[.string lS, .string lI] 25)] := by rw [hW4]; exact ⟨(setCells_other [.string lS, .string lI] 0 _ _ (by omega)).trans ((M3).1), hX3_0, trivial⟩
  have HS2 := one_st HS (b := w.heap.size) (.inl rfl) 0 [.string lS, .string lI]
  rw [show (w3.setCells (w.heap.size) 0 [.string lS, .string lI]) = w4 from hW4.symm] at HS2
  clear c3_0_0 c3_0_1 z3_0 c3_1_0 c3_1_1 z3_1
  clear hW4 hX3_0 hY3_0
  have c4_0_0 := Mem.cell (v := .string TT) M4.1 0 rfl
  have c4_0_1 := Mem.cell (v := .string JJ) M4.1 1 rfl
  have z4_0 := Mem.lt M4.1
  have c4_1_0 := Mem.cell (v := .string lS) M4.2.1 0 rfl
  have c4_1_1 := Mem.cell (v := .string lI) M4.2.1 1 rfl
  have z4_1 := Mem.lt M4.2.1
  clear HS
  go_wp2_with fail
  refine Calls.named ?_
  intro W5 hW5
  have hB5_ : Below w.heap.size w W5 := by rw [hW5]; exact hB4
  have hw5_ : LaidF (NF w) W5 := by rw [hW5]; exact hw4
  have M5_ := M4
  rw [← hW5] at M5_
  have hS5 : Below w4.heap.size w4 W5 := by rw [hW5]; exact (Below.refl _ _)
  have HS2_ := hid_one HS2 hS5
  clear hS5 HS2
  clear hW5
  have ZZ5_0 := Lib.hid (Mem.lt M5_.1)
  have ZZ5_1 := Lib.hid (Mem.lt M5_.2.1)
  clear c4_0_0 c4_0_1 z4_0 c4_1_0 c4_1_1 z4_1
  refine (HSM2.out _).mono ?_
  rintro e w5 ⟨rfl, hb5⟩
  have HS2 := hid_one HS2_ hb5
  clear HS2_
  have hB5 := below_then hB5_ hb5
  have hw5 := hw5_.below hb5
  have M5 := M5_.below hb5
  clear M5_ hB5_ hb5 hw5_
  have c5_0_0 := Mem.cell (v := .string TT) M5.1 0 rfl
  have c5_0_1 := Mem.cell (v := .string JJ) M5.1 1 rfl
  have z5_0 := Mem.lt M5.1
  have c5_1_0 := Mem.cell (v := .string lS) M5.2.1 0 rfl
  have c5_1_1 := Mem.cell (v := .string lI) M5.2.1 1 rfl
  have z5_1 := Mem.lt M5.2.1
  clear HSM2
  have fl := fun j => Mem.free M5.1 j
  go_upto_region 7 with (fail)
  clear fl
  have hX5_0 : (w5.setCells (w.heap.size + 1) 0 [.string mS, .string mI]).heap[w.heap.size + 1]? = some (.cells #[.string mS, .string mI] 25) := by rw [setCells_block [.string mS, .string mI] 0 _ _ ((M5).1) (by simp)]; rfl
  have hY5_0 := below_setCells (B := w.heap.size) hB5 (b := w.heap.size + 1) (by have := hB5.size; omega) 0 [.string mS, .string mI]
  refine wp_named ?_
  intro w6 hW6
  have hB6 : Below w.heap.size w w6 := by rw [hW6]; exact hY5_0
  have hw6 : LaidF (NF w) w6 := hw0.below hB6
  have M6 : Mem w6 [(w.heap.size + 1, .cells #[.string mS, .string mI] 25), (w.heap.size, .cells #[.string lS, .string lI] 25)] := by rw [hW6]; exact ⟨hX5_0, (setCells_other [.string mS, .string mI] 0 _ _ (by omega)).trans ((M5).2.1), trivial⟩
  have HS3 := one_st HS2 (b := w.heap.size + 1) (.inr rfl) 0 [.string mS, .string mI]
  rw [show (w5.setCells (w.heap.size + 1) 0 [.string mS, .string mI]) = w6 from hW6.symm] at HS3
  clear c5_0_0 c5_0_1 z5_0 c5_1_0 c5_1_1 z5_1
  clear hW6 hX5_0 hY5_0
  have c6_0_0 := Mem.cell (v := .string mS) M6.1 0 rfl
  have c6_0_1 := Mem.cell (v := .string mI) M6.1 1 rfl
  have z6_0 := Mem.lt M6.1
  have c6_1_0 := Mem.cell (v := .string lS) M6.2.1 0 rfl
  have c6_1_1 := Mem.cell (v := .string lI) M6.2.1 1 rfl
  have z6_1 := Mem.lt M6.2.1
  clear HS2
  go_wp2_with fail
  refine Calls.named ?_
  intro W7 hW7
  have hB7_ : Below w.heap.size w W7 := by rw [hW7]; exact hB6
  have hw7_ : LaidF (NF w) W7 := by rw [hW7]; exact hw6
  have M7_ := M6
  rw [← hW7] at M7_
  have hS7 : Below w6.heap.size w6 W7 := by rw [hW7]; exact (Below.refl _ _)
  have HS3_ := hid_one HS3 hS7
  clear hS7 HS3
  clear hW7
  have ZZ7_0 := Lib.hid (Mem.lt M7_.1)
  have ZZ7_1 := Lib.hid (Mem.lt M7_.2.1)
  clear c6_0_0 c6_0_1 z6_0 c6_1_0 c6_1_1 z6_1
  refine (hide_one w.heap.size _ p S0 lS lI HBD.out.1 HBD.out.2.1 _ HS3_ hB7_.size (fun b hb => Or.elim hb (fun h => by rw [h]; exact ZZ7_1.out) fun h => by rw [h]; exact ZZ7_0.out) (by have := HL0.out; omega) (hw7_).laid).mono ?_
  rw [← HEQ.out.1]
  rintro e w7 ⟨q, rfl, HT, hb7⟩
  have HS3 := hid_one HS3_ hb7
  clear HS3_
  have hB7 := below_then hB7_ hb7
  have hw7 := hw7_.below hb7
  have M7 := M7_.below hb7
  clear M7_ hB7_ hb7 hw7_
  have c7_0_0 := Mem.cell (v := .string mS) M7.1 0 rfl
  have c7_0_1 := Mem.cell (v := .string mI) M7.1 1 rfl
  have z7_0 := Mem.lt M7.1
  have c7_1_0 := Mem.cell (v := .string lS) M7.2.1 0 rfl
  have c7_1_1 := Mem.cell (v := .string lI) M7.2.1 1 rfl
  have z7_1 := Mem.lt M7.2.1
  clear HS3
  go_upto_region 8 with (fail)
  refine wp_named ?_
  intro w8 hW8
  have hB8 : Below w.heap.size w w8 := by rw [hW8]; exact hB7
  have hw8 : LaidF (NF w) w8 := by rw [hW8]; exact hw7
  have M8 := M7
  rw [← hW8] at M8
  have hS8 : Below w7.heap.size w7 w8 := by rw [hW8]; exact (Below.refl _ _)
  replace HT := hid_two HT hS8
  clear hS8
  clear c7_0_0 c7_0_1 z7_0 c7_1_0 c7_1_1 z7_1
  clear hW8
  have c8_0_0 := Mem.cell (v := .string mS) M8.1 0 rfl
  have c8_0_1 := Mem.cell (v := .string mI) M8.1 1 rfl
  have z8_0 := Mem.lt M8.1
  have c8_1_0 := Mem.cell (v := .string lS) M8.2.1 0 rfl
  have c8_1_1 := Mem.cell (v := .string lI) M8.2.1 1 rfl
  have z8_1 := Mem.lt M8.2.1
  clear c8_0_0 c8_0_1 z8_0 c8_1_0 c8_1_1 z8_1
  refine wp_region_held (S := fun w' => Mem w' [(w.heap.size + 1, .cells #[.string mS, .string mI] 25), (w.heap.size, .cells #[.string lS, .string lI] 25)]) (by kernel_rfl) ?_
  change wpAnyH _ _ _ _ _ 26 (Array.replicate 26 false) _ w8.drew
  refine anyH_named ?_
  intro w9 hW9
  have hB9 : Below w.heap.size w w9 := by rw [hW9]; exact below_dr hB8
  have hw9 : LaidF (NF w) w9 := by rw [hW9]; exact hw8.below (below_dr (Below.refl _ _))
  have M9 : Mem w9 [(w.heap.size + 1, .cells #[.string mS, .string mI] 25), (w.heap.size, .cells #[.string lS, .string lI] 25)] := by rw [hW9]; exact Mem.drew M8
  have zz9 : w8.heap.size ≤ w9.heap.size := by rw [hW9]; exact Nat.le_refl _
  replace HT := hid_two HT (below_dr (Below.refl _ w8))
  rw [← hW9] at HT
  clear hW9
  have zh9_0 := Mem.lt M9.1
  have zh9_1 := Mem.lt M9.2.1
  refine wpAnyH_take (i := 0) (v := ?_) rfl (by decide +kernel) (by decide +kernel) (by decide +kernel) (fun _ _ _ h => h) (Or.inl ⟨by rfl, ?_⟩) M9 ?_
  rotate_left
  · intro w hSw
    clear hSw
    go_simp; try (with_reducible rfl)
  try simp only [Act.put, List.getElem_toArray, List.getElem_cons_zero, List.setIfInBounds_toArray, List.set_cons_zero, List.set_cons_succ]
  refine wpAnyH_take (i := 1) (v := ?_) rfl (by decide +kernel) (by decide +kernel) (by decide +kernel) (fun _ _ _ h => h) (Or.inl ⟨by rfl, ?_⟩) M9 ?_
  rotate_left
  · intro w hSw
    have s_0 := Mem.cell (v := .string mS) hSw.1 0 rfl
    have s_1 := Mem.cell (v := .string mI) hSw.1 1 rfl
    clear hSw
    go_simp; try (with_reducible rfl)
  try simp only [Act.put, List.getElem_toArray, List.getElem_cons_succ, List.getElem_cons_zero, List.setIfInBounds_toArray, List.set_cons_zero, List.set_cons_succ]
  refine wpAnyH_take (i := 3) (v := ?_) rfl (by decide +kernel) (by decide +kernel) (by decide +kernel) (fun _ _ _ h => h) (Or.inl ⟨by rfl, ?_⟩) M9 ?_
  rotate_left
  · intro w hSw
    clear hSw
    go_simp; try (with_reducible rfl)
  try simp only [Act.put, List.getElem_toArray, List.getElem_cons_succ, List.getElem_cons_zero, List.setIfInBounds_toArray, List.set_cons_zero, List.set_cons_succ]
  refine wpAnyH_take (i := 4) (v := ?_) rfl (by decide +kernel) (by decide +kernel) (by decide +kernel) (fun _ _ _ h => h) (Or.inl ⟨by rfl, ?_⟩) M9 ?_
  rotate_left
  · intro w hSw
    have s_0 := Mem.cell (v := .string lS) hSw.2.1 0 rfl
    have s_1 := Mem.cell (v := .string lI) hSw.2.1 1 rfl
    clear hSw
    go_simp; try (with_reducible rfl)
  try simp only [Act.put, List.getElem_toArray, List.getElem_cons_succ, List.getElem_cons_zero, List.setIfInBounds_toArray, List.set_cons_zero, List.set_cons_succ]
  refine wpAnyH_take (i := 5) (v := ?_) rfl (by decide +kernel) (by decide +kernel) (by decide +kernel) (fun _ _ _ h => h) (Or.inl ⟨by rfl, ?_⟩) M9 ?_
  rotate_left
  · intro w hSw
    have s_0 := Mem.cell (v := .string mS) hSw.1 0 rfl
    have s_1 := Mem.cell (v := .string mI) hSw.1 1 rfl
    clear hSw
    go_simp; try (with_reducible rfl)
  try simp only [Act.put, List.getElem_toArray, List.getElem_cons_succ, List.getElem_cons_zero, List.setIfInBounds_toArray, List.set_cons_zero, List.set_cons_succ]
  refine wpAnyH_ready (rs := [2]) (by decide +kernel) (by simp) (AllReadyH.cons rfl ?_ AllReadyH.nil)
  intro K hK
  rw [if_pos (by rfl)]
  go_simp
  go_at_call 11
  refine (hide_two w.heap.size (fun _ => False) q H0 mS mI HBD.out.2.2.1 HBD.out.2.2.2.1 _ (one_conv (Lib.hid (HT).out.right) (Nat.le_refl _) (fun b h => h.elim)) hB9.size (fun b h => h.elim) (by have := HLH.out; omega) (hw9).laid).mono ?_
  rw [← HEQ.out.2.1]
  rintro e w10 ⟨q1, rfl, HQ1, hb10⟩
  have hB10 := below_then hB9 hb10
  have hw10 := hw9.below hb10
  have M10 := M9.below hb10
  replace HT := hid_two HT hb10
  have zz10 := hb10.size
  clear hb10
  refine hK.out _ _ M10 (fun _ => ?_)
  clear hK K
  try simp only [Act.put, List.getElem_toArray, List.getElem_cons_succ, List.getElem_cons_zero, List.setIfInBounds_toArray, List.set_cons_zero, List.set_cons_succ]
  refine wpAnyH_ready (rs := [6]) (by decide +kernel) (by simp) (AllReadyH.cons rfl ?_ AllReadyH.nil)
  intro K hK
  rw [if_pos (by rfl)]
  go_simp
  go_at_call 21
  refine (HMT.out _).mono ?_
  rintro e w11 ⟨rfl, hb11⟩
  have hB11 := below_then hB10 hb11
  have hw11 := hw10.below hb11
  have M11 := M10.below hb11
  replace HT := hid_two HT hb11
  replace HQ1 := hid_one HQ1 hb11
  have zz11 := hb11.size
  clear hb11
  refine hK.out _ _ M11 (fun _ => ?_)
  clear hK K
  try simp only [Act.put, List.getElem_toArray, List.getElem_cons_succ, List.getElem_cons_zero, List.setIfInBounds_toArray, List.set_cons_zero, List.set_cons_succ]
  refine wpAnyH_ready (rs := [7]) (by decide +kernel) (by simp) (AllReadyH.cons rfl ?_ AllReadyH.nil)
  intro K hK
  rw [if_pos (by rfl)]
  go_simp
  go_at_call 11
  refine (hide_two w.heap.size (fun _ => False) p S0 jS jI HBD.out.2.2.2.2.1 HBD.out.2.2.2.2.2 _ (one_conv (Lib.hid (HT).out.left) (Nat.le_refl _) (fun b h => h.elim)) hB11.size (fun b h => h.elim) (by have := HL0.out; omega) (hw11).laid).mono ?_
  rw [HEQ.out.2.2]
  rintro e w12 ⟨q2, rfl, HQ2, hb12⟩
  have hB12 := below_then hB11 hb12
  have hw12 := hw11.below hb12
  have M12 := M11.below hb12
  replace HT := hid_two HT hb12
  replace HQ1 := hid_one HQ1 hb12
  have zz12 := hb12.size
  clear hb12
  refine hK.out _ _ M12 (fun _ => ?_)
  clear hK K
  try simp only [Act.put, List.getElem_toArray, List.getElem_cons_succ, List.getElem_cons_zero, List.setIfInBounds_toArray, List.set_cons_zero, List.set_cons_succ]
  refine wpAnyH_ready (rs := [8]) (by decide +kernel) (by simp) (AllReadyH.cons rfl ?_ AllReadyH.nil)
  intro K hK
  rw [if_pos (by rfl)]
  go_simp
  go_at_call 15
  refine (same_one _ _ _ _ q1 q2 H1 H1 _ HQ1 HQ2 (by have := HL1.out; omega) (by have := HL1.out; omega)).mono ?_
  rw [show decide (H1 = H1) = true from decide_eq_true rfl]
  rintro e w13 ⟨rfl, hb13⟩
  have hB13 := below_then hB12 hb13
  have hw13 := hw12.below hb13
  have M13 := M12.below hb13
  replace HT := hid_two HT hb13
  replace HQ1 := hid_one HQ1 hb13
  replace HQ2 := hid_one HQ2 hb13
  have zz13 := hb13.size
  clear hb13
  refine hK.out _ _ M13 (fun _ => ?_)
  clear hK K
  try simp only [Act.put, List.getElem_toArray, List.getElem_cons_succ, List.getElem_cons_zero, List.setIfInBounds_toArray, List.set_cons_zero, List.set_cons_succ]
  clear HQ1
  clear HQ2
  refine wpAnyH_take (i := 9) (v := ?_) rfl (by decide +kernel) (by decide +kernel) (by decide +kernel) (fun _ _ _ h => h) (Or.inl ⟨by rfl, ?_⟩) M13 ?_
  rotate_left
  · intro w hSw
    clear hSw
    go_simp; try (with_reducible rfl)
  try simp only [Act.put, List.getElem_toArray, List.getElem_cons_succ, List.getElem_cons_zero, List.setIfInBounds_toArray, List.set_cons_zero, List.set_cons_succ]
  refine wpAnyH_take (i := 10) (v := ?_) rfl (by decide +kernel) (by decide +kernel) (by decide +kernel) (fun _ _ _ h => h) (Or.inl ⟨by rfl, ?_⟩) M13 ?_
  rotate_left
  · intro w hSw
    clear hSw
    go_simp; try (with_reducible rfl)
  try simp only [Act.put, List.getElem_toArray, List.getElem_cons_succ, List.getElem_cons_zero, List.setIfInBounds_toArray, List.set_cons_zero, List.set_cons_succ]
  refine wpAnyH_take (i := 11) (v := ?_) rfl (by decide +kernel) (by decide +kernel) (by decide +kernel) (fun _ _ _ h => h) (Or.inl ⟨by rfl, ?_⟩) M13 ?_
  rotate_left
  · intro w hSw
    clear hSw
    go_simp; try (with_reducible rfl)
  try simp only [Act.put, List.getElem_toArray, List.getElem_cons_succ, List.getElem_cons_zero, List.setIfInBounds_toArray, List.set_cons_zero, List.set_cons_succ]
  refine wpAnyH_take (i := 14) (v := ?_) rfl (by decide +kernel) (by decide +kernel) (by decide +kernel) (fun _ _ _ h => h) (Or.inl ⟨by rfl, ?_⟩) M13 ?_
  rotate_left
  · intro w hSw
    clear hSw
    go_simp; try (with_reducible rfl)
  try simp only [Act.put, List.getElem_toArray, List.getElem_cons_succ, List.getElem_cons_zero, List.setIfInBounds_toArray, List.set_cons_zero, List.set_cons_succ]
  refine wpAnyH_ready (rs := [12]) (by decide +kernel) (by simp) (AllReadyH.cons rfl ?_ AllReadyH.nil)
  intro K hK
  rw [if_pos (by rfl)]
  go_simp
  go_at_call 22
  refine (high_any _).mono ?_
  rintro e w14 ⟨rfl, hb14⟩
  have hB14 := below_then hB13 hb14
  have hw14 := hw13.below hb14
  have M14 := M13.below hb14
  replace HT := hid_two HT hb14
  have zz14 := hb14.size
  clear hb14
  refine hK.out _ _ M14 (fun _ => ?_)
  clear hK K
  try simp only [Act.put, List.getElem_toArray, List.getElem_cons_succ, List.getElem_cons_zero, List.setIfInBounds_toArray, List.set_cons_zero, List.set_cons_succ]
  refine wpAnyH_ready (rs := [13]) (by decide +kernel) (by simp) (AllReadyH.cons rfl ?_ AllReadyH.nil)
  intro K hK
  rw [if_pos (by rfl)]
  go_simp
  go_at_call 11
  refine (hide_two w.heap.size (fun _ => False) p S0 ⟨#[0]⟩ ⟨#[]⟩ (by decide) (by decide) _ (one_conv (Lib.hid (HT).out.left) (Nat.le_refl _) (fun b h => h.elim)) hB14.size (fun b h => h.elim) (by have := HL0.out; omega) (hw14).laid).mono ?_
  rw [HHI.out]
  rintro e w15 ⟨q3, rfl, HQ3, hb15⟩
  have hB15 := below_then hB14 hb15
  have hw15 := hw14.below hb15
  have M15 := M14.below hb15
  replace HT := hid_two HT hb15
  have zz15 := hb15.size
  clear hb15
  refine hK.out _ _ M15 (fun _ => ?_)
  clear hK K
  try simp only [Act.put, List.getElem_toArray, List.getElem_cons_succ, List.getElem_cons_zero, List.setIfInBounds_toArray, List.set_cons_zero, List.set_cons_succ]
  refine wpAnyH_ready (rs := [15]) (by decide +kernel) (by simp) (AllReadyH.cons rfl ?_ AllReadyH.nil)
  intro K hK
  rw [if_pos (by rfl)]
  go_simp
  go_at_call 15
  refine (same_one _ _ _ _ q3 p S0 S0 _ HQ3 (Lib.hid (HT).out.left) (by have := HL0.out; omega) (by have := HL0.out; omega)).mono ?_
  rw [show decide (S0 = S0) = true from decide_eq_true rfl]
  rintro e w16 ⟨rfl, hb16⟩
  have hB16 := below_then hB15 hb16
  have hw16 := hw15.below hb16
  have M16 := M15.below hb16
  replace HT := hid_two HT hb16
  replace HQ3 := hid_one HQ3 hb16
  have zz16 := hb16.size
  clear hb16
  refine hK.out _ _ M16 (fun _ => ?_)
  clear hK K
  try simp only [Act.put, List.getElem_toArray, List.getElem_cons_succ, List.getElem_cons_zero, List.setIfInBounds_toArray, List.set_cons_zero, List.set_cons_succ]
  clear HQ3
  refine wpAnyH_take (i := 16) (v := ?_) rfl (by decide +kernel) (by decide +kernel) (by decide +kernel) (fun _ _ _ h => h) (Or.inl ⟨by rfl, ?_⟩) M16 ?_
  rotate_left
  · intro w hSw
    clear hSw
    go_simp; try (with_reducible rfl)
  try simp only [Act.put, List.getElem_toArray, List.getElem_cons_succ, List.getElem_cons_zero, List.setIfInBounds_toArray, List.set_cons_zero, List.set_cons_succ]
  refine wpAnyH_take (i := 17) (v := ?_) rfl (by decide +kernel) (by decide +kernel) (by decide +kernel) (fun _ _ _ h => h) (Or.inl ⟨by rfl, ?_⟩) M16 ?_
  rotate_left
  · intro w hSw
    clear hSw
    go_simp; try (with_reducible rfl)
  try simp only [Act.put, List.getElem_toArray, List.getElem_cons_succ, List.getElem_cons_zero, List.setIfInBounds_toArray, List.set_cons_zero, List.set_cons_succ]
  refine wpAnyH_take (i := 18) (v := ?_) rfl (by decide +kernel) (by decide +kernel) (by decide +kernel) (fun _ _ _ h => h) (Or.inl ⟨by rfl, ?_⟩) M16 ?_
  rotate_left
  · intro w hSw
    clear hSw
    go_simp; try (with_reducible rfl)
  try simp only [Act.put, List.getElem_toArray, List.getElem_cons_succ, List.getElem_cons_zero, List.setIfInBounds_toArray, List.set_cons_zero, List.set_cons_succ]
  refine wpAnyH_take (i := 19) (v := ?_) rfl (by decide +kernel) (by decide +kernel) (by decide +kernel) (fun _ _ _ h => h) (Or.inl ⟨by rfl, ?_⟩) M16 ?_
  rotate_left
  · intro w hSw
    clear hSw
    go_simp; try (with_reducible rfl)
  try simp only [Act.put, List.getElem_toArray, List.getElem_cons_succ, List.getElem_cons_zero, List.setIfInBounds_toArray, List.set_cons_zero, List.set_cons_succ]
  refine wpAnyH_take (i := 20) (v := ?_) rfl (by decide +kernel) (by decide +kernel) (by decide +kernel) (fun _ _ _ h => h) (Or.inl ⟨by rfl, ?_⟩) M16 ?_
  rotate_left
  · intro w hSw
    have s_0 := Mem.cell (v := .string lS) hSw.2.1 0 rfl
    have s_1 := Mem.cell (v := .string lI) hSw.2.1 1 rfl
    clear hSw
    go_simp; try (with_reducible rfl)
  try simp only [Act.put, List.getElem_toArray, List.getElem_cons_succ, List.getElem_cons_zero, List.setIfInBounds_toArray, List.set_cons_zero, List.set_cons_succ]
  refine wpAnyH_take (i := 22) (v := ?_) rfl (by decide +kernel) (by decide +kernel) (by decide +kernel) (fun _ _ _ h => h) (Or.inl ⟨by rfl, ?_⟩) M16 ?_
  rotate_left
  · intro w hSw
    clear hSw
    go_simp; try (with_reducible rfl)
  try simp only [Act.put, List.getElem_toArray, List.getElem_cons_succ, List.getElem_cons_zero, List.setIfInBounds_toArray, List.set_cons_zero, List.set_cons_succ]
  refine wpAnyH_ready (rs := [21]) (by decide +kernel) (by simp) (AllReadyH.cons rfl ?_ AllReadyH.nil)
  intro K hK
  rw [if_pos (by rfl)]
  go_simp
  go_at_call 11
  refine (hide_two w.heap.size (fun _ => False) q H0 lS lI HBD.out.1 HBD.out.2.1 _ (one_conv (Lib.hid (HT).out.right) (Nat.le_refl _) (fun b h => h.elim)) hB16.size (fun b h => h.elim) (by have := HLH.out; omega) (hw16).laid).mono ?_
  rw [HHH.out]
  rintro e w17 ⟨q4, rfl, HQ4, hb17⟩
  have hB17 := below_then hB16 hb17
  have hw17 := hw16.below hb17
  have M17 := M16.below hb17
  replace HT := hid_two HT hb17
  have zz17 := hb17.size
  clear hb17
  refine hK.out _ _ M17 (fun _ => ?_)
  clear hK K
  try simp only [Act.put, List.getElem_toArray, List.getElem_cons_succ, List.getElem_cons_zero, List.setIfInBounds_toArray, List.set_cons_zero, List.set_cons_succ]
  refine wpAnyH_ready (rs := [23]) (by decide +kernel) (by simp) (AllReadyH.cons rfl ?_ AllReadyH.nil)
  intro K hK
  rw [if_pos (by rfl)]
  go_simp
  go_at_call 15
  refine (same_one _ _ _ _ q4 q H0 H0 _ HQ4 (Lib.hid (HT).out.right) (by have := HLH.out; omega) (by have := HLH.out; omega)).mono ?_
  rw [show decide (H0 = H0) = true from decide_eq_true rfl]
  rintro e w18 ⟨rfl, hb18⟩
  have hB18 := below_then hB17 hb18
  have hw18 := hw17.below hb18
  have M18 := M17.below hb18
  replace HT := hid_two HT hb18
  replace HQ4 := hid_one HQ4 hb18
  have zz18 := hb18.size
  clear hb18
  refine hK.out _ _ M18 (fun _ => ?_)
  clear hK K
  try simp only [Act.put, List.getElem_toArray, List.getElem_cons_succ, List.getElem_cons_zero, List.setIfInBounds_toArray, List.set_cons_zero, List.set_cons_succ]
  clear HQ4
  refine wpAnyH_take (i := 24) (v := ?_) rfl (by decide +kernel) (by decide +kernel) (by decide +kernel) (fun _ _ _ h => h) (Or.inl ⟨by rfl, ?_⟩) M18 ?_
  rotate_left
  · intro w hSw
    clear hSw
    go_simp; try (with_reducible rfl)
  try simp only [Act.put, List.getElem_toArray, List.getElem_cons_succ, List.getElem_cons_zero, List.setIfInBounds_toArray, List.set_cons_zero, List.set_cons_succ]
  refine wpAnyH_take (i := 25) (v := ?_) rfl (by decide +kernel) (by decide +kernel) (by decide +kernel) (fun _ _ _ h => h) (Or.inl ⟨by rfl, ?_⟩) M18 ?_
  rotate_left
  · intro w hSw
    clear hSw
    go_simp; try (with_reducible rfl)
  try simp only [Act.put, List.getElem_toArray, List.getElem_cons_succ, List.getElem_cons_zero, List.setIfInBounds_toArray, List.set_cons_zero, List.set_cons_succ]
  refine wpAnyH_done (by kernel_rfl) ?_ _
  have c18_0_0 := Mem.cell (v := .string mS) M18.1 0 rfl
  have c18_0_1 := Mem.cell (v := .string mI) M18.1 1 rfl
  have z18_0 := Mem.lt M18.1
  have c18_1_0 := Mem.cell (v := .string lS) M18.2.1 0 rfl
  have c18_1_1 := Mem.cell (v := .string lI) M18.2.1 1 rfl
  have z18_1 := Mem.lt M18.2.1
  go_wp2_with fail
  refine Calls.named ?_
  intro W19 hW19
  have hB19_ : Below w.heap.size w W19 := by rw [hW19]; exact hB18
  have hw19_ : LaidF (NF w) W19 := by rw [hW19]; exact hw18
  have M19_ := M18
  rw [← hW19] at M19_
  have hS19 : Below w18.heap.size w18 W19 := by rw [hW19]; exact (Below.refl _ _)
  have HT_ := hid_two HT hS19
  clear hS19 HT
  clear hW19
  have ZZ19_0 := Lib.hid (Mem.lt M19_.1)
  have ZZ19_1 := Lib.hid (Mem.lt M19_.2.1)
  clear c18_0_0 c18_0_1 z18_0 c18_1_0 c18_1_1 z18_1
  refine (names_one w.heap.size _ p S0 _ (Lib.hid (HT_).out.left) (by have := HL0.out; omega) (hw19_).laid).mono ?_
  rw [← HLL.out]
  rintro e w19 ⟨vn, rfl, HR0, hb19⟩
  have HT := hid_two HT_ hb19
  clear HT_
  have hB19 := below_then hB19_ hb19
  have hw19 := hw19_.below hb19
  have M19 := M19_.below hb19
  clear M19_ hB19_ hb19 hw19_
  have c19_0_0 := Mem.cell (v := .string mS) M19.1 0 rfl
  have c19_0_1 := Mem.cell (v := .string mI) M19.1 1 rfl
  have z19_0 := Mem.lt M19.1
  have c19_1_0 := Mem.cell (v := .string lS) M19.2.1 0 rfl
  have c19_1_1 := Mem.cell (v := .string lI) M19.2.1 1 rfl
  have z19_1 := Mem.lt M19.2.1
  have HR1 := RB.of HR0.out
  clear HR0
  obtain ⟨va, vc, rfl⟩ := HR1.slice
  obtain ⟨N0, hN0⟩ : ∃ n, n = w19.heap.size := ⟨_, rfl⟩
  rw [← hN0] at HR1
  have HR2 := Lib.hid HR1
  have HN0 : Hid (N0 ≤ w19.heap.size) := Lib.hid (Nat.le_of_eq hN0)
  obtain ⟨n, hn⟩ : ∃ n, n = L.length := ⟨_, rfl⟩
  rw [← hn]
  have HN := Lib.hid hn
  have hn8 : n ≤ 8 := by rw [hn, HNL.out]; exact HL0.out
  clear HR1 hN0 hn
  have HST1 := Lib.hid (And.intro hB19 (And.intro HT (And.intro HR2 (And.intro HN0 M19))))
  clear hB19 HT HR2 HN0 M19
  clear HMT HHH HHI HL1
  go_wp2_with fail
  go_loopw [11, 12] (fun vl vi wr => ∃ k : Nat, k ≤ n ∧ vi = .int .i64 k ∧ vl = .int .i64 (leftN S0 lS lI k : Nat) ∧ Hid (Below w.heap.size w wr) ∧ Hid (Two w.heap.size (fun _ => False) wr p S0 q H0) ∧ Hid (RB wr N0 (.slice va L.length vc) L) ∧ Hid (N0 ≤ wr.heap.size) ∧ Mem wr [(w.heap.size, .cells #[.string lS, .string lI] 25)]) (fun _ vi _ => n - (intOf vi).toNat)
  case atStart => exact ⟨0, by omega, rfl, rfl, Lib.hid HST1.out.1, Lib.hid (HST1.out.2.1.out.fresh fun _ h => h.elim), HST1.out.2.2.1, HST1.out.2.2.2.1, ⟨HST1.out.2.2.2.2.2.1, trivial⟩⟩
  case round =>
    clear HST1
    obtain ⟨k, hkn, rfl, rfl, HBR, HT, HR, HN0, hM⟩ := hrel
    obtain ⟨w50, rfl⟩ : ∃ x, x = wr := ⟨_, rfl⟩
    have hB50 := HBR.out
    have hw50 := hw0.below hB50
    have M50 := hM
    clear HBR hM
    have c50_0_0 := Mem.cell (v := .string lS) M50.1 0 rfl
    have c50_0_1 := Mem.cell (v := .string lI) M50.1 1 rfl
    have z50_0 := Mem.lt M50.1
    obtain ⟨c, hc⟩ : ∃ c, c = leftN S0 lS lI k := ⟨_, rfl⟩
    rw [← hc]
    have hc8 : c ≤ 8 := by have := leftN_le S0 lS lI k; omega
    have HC := Lib.hid hc
    clear hc
    by_cases hlt : k < n
    · have hkl : k < L.length := by rw [← HN.out]; exact hlt
      obtain ⟨g, rfl, hgN, hcap, hck⟩ := RB.cell HR.out hkl
      have hks : k < S0.length := by rw [← HNL.out]; exact hkl
      obtain ⟨⟨key, z⟩, he⟩ : ∃ e, S0[k]? = some e := ⟨_, List.getElem?_eq_getElem hks⟩
      have hkey : L[k] = key := by
        have h1 : L[k]? = some key := by rw [HLL.out, List.getElem?_map, he]; rfl
        rw [List.getElem?_eq_getElem hkl] at h1
        exact Option.some.inj h1
      rw [hkey] at hck
      have hmem := List.mem_of_getElem? he
      have hg0 : getS S0 key = some z := (getS_mem HST.out).1 hmem
      obtain ⟨fl, hfl⟩ : ∃ b, b = flowsB z.lS z.lI lS lI := ⟨_, rfl⟩
      obtain ⟨u, hu⟩ : ∃ o, o = (getS H0 key).getD OB0 := ⟨_, rfl⟩
      have hgh : getS H0 key = if fl = true then some z else none := by rw [HEQ.out.1, getS_hide HST.out, hg0, hfl]
      have HUZ : Hid (fl = true → u = z) := Lib.hid (fun h => by rw [hu, hgh, if_pos h]; rfl)
      have hus : (getS H0 key).isSome = fl := by rw [hgh]; cases fl <;> rfl
      have hKS := HNM.out _ hmem
      have HG1 : Hid (∀ (B : Nat) (X : Nat → Prop) (W : World), Hid (One B X W p S0) → Calls Tryz.prog 12 #[.pointer (some ⟨p, 0, none⟩), .string key] W fun e w' => ∃ a c, e = .returned (.tuple #[.agg (ox (z.raw a c)), .bool true]) ∧ Hid (ObIn w' (fun b => W.heap.size ≤ b) (.agg (ox (z.raw a c))) z) ∧ Below W.heap.size W w') := Lib.hid (fun B X W h => by have := get_one B X p S0 key hKS W h; rw [hg0] at this; exact this)
      have HG2 : Hid (∀ (B : Nat) (X : Nat → Prop) (W : World), Hid (One B X W q H0) → Calls Tryz.prog 12 #[.pointer (some ⟨q, 0, none⟩), .string key] W fun e w' => ∃ a c, e = .returned (.tuple #[.agg (ox (u.raw a c)), .bool fl]) ∧ Hid (ObIn w' (fun b => W.heap.size ≤ b) (.agg (ox (u.raw a c))) u) ∧ Below W.heap.size W w') := Lib.hid (fun B X W h => by have := get_one B X q H0 key hKS W h; rw [hus, ← hu] at this; exact this)
      have hzb : Bd z.lS ∧ Bd z.lI := by
        obtain ⟨WW, QQ, h1, _, _⟩ := HT.out.left
        exact (h1.ok _ hmem).2
      have HFC : Hid (∀ W, Calls Tryz.prog 14 #[.agg #[.string z.lS, .string z.lI], .agg #[.string lS, .string lI]] W fun e w' => e = .returned (.bool fl) ∧ Below W.heap.size W w') := Lib.hid (fun W => by rw [hfl]; exact flows_any _ _ _ _ hzb.1 hzb.2 HBD.out.1 HBD.out.2.1 W)
      have HLN : Hid (leftN S0 lS lI (k + 1) = c + if fl = true then 1 else 0) := Lib.hid (by rw [leftN_succ he, ← HC.out, hfl])
      have HCK : Hid (CellAt w50 g k (.string key)) := Lib.hid hck
      have hcap2 : n ≤ vc := by rw [HN.out]; exact hcap
      have pk0 : (0 : Int) ≤ (k : Int) := by omega
      have pkn : (k : Int) < (n : Int) := by omega
      have pk1 : ((k : Int)).toNat = k := by omega
      clear hkl hkey hmem hg0 hu hgh hus hKS hzb hfl he hks hcap
      have ck := hck.2
      clear hck
      go_wp2_with fail
      refine Calls.named ?_
      intro W51 hW51
      have hB51_ : Below w.heap.size w W51 := by rw [hW51]; exact hB50
      have hw51_ : LaidF (NF w) W51 := by rw [hW51]; exact hw50
      have M51_ := M50
      rw [← hW51] at M51_
      have hS51 : Below w50.heap.size w50 W51 := by rw [hW51]; exact (Below.refl _ _)
      have HT_ := hid_two HT hS51
      have HR_ := hid_rb HR hS51
      have HN0_ := hid_ge HN0 hS51
      have HCK_ := hid_cellat HCK hS51
      clear hS51 HT HR HN0 HCK
      clear hW51
      have ZZ51_0 := Lib.hid (Mem.lt M51_.1)
      clear c50_0_0 c50_0_1 z50_0
      refine (HG1.out _ _ _ (Lib.hid (HT_).out.left)).mono ?_
      rintro e w51 ⟨a1, c1, rfl, HO1, hb51⟩
      have HT := hid_two HT_ hb51
      have HR := hid_rb HR_ hb51
      have HN0 := hid_ge HN0_ hb51
      have HCK := hid_cellat HCK_ hb51
      clear HT_ HR_ HN0_ HCK_
      have hB51 := below_then hB51_ hb51
      have hw51 := hw51_.below hb51
      have M51 := M51_.below hb51
      clear M51_ hB51_ hb51 hw51_
      have c51_0_0 := Mem.cell (v := .string lS) M51.1 0 rfl
      have c51_0_1 := Mem.cell (v := .string lI) M51.1 1 rfl
      have z51_0 := Mem.lt M51.1
      clear ck
      simp only
      iterate 13 go_step
      have yy1 := hB51.size
      have yn1 := HN0.out
      replace HT := two_al HT (Y := fun b => b = w51.heap.size) (fun b h => .inr h)
      replace HO1 := ob_lt HO1
      have oo51_0 : w.heap.size < w51.heap.size := Mem.lt M51.1
      refine wpl_named ?_
      intro w52 hW52
      have hB52 : Below w.heap.size w w52 := by rw [hW52]; exact (below_al hB51 _)
      have hw52 : LaidF (NF w) w52 := by rw [hW52]; exact (hw51.alloc _)
      have M52 : Mem w52 [(w51.heap.size, .cells (ox (ox0)) 32), (w.heap.size, .cells #[.string lS, .string lI] 25)] := by rw [hW52]; exact (M51).new' (w51.heap.size) (by rfl) (.cells (ox (ox0)) 32)
      have hS52 : Below w51.heap.size w51 w52 := by rw [hW52]; exact (below_al (Below.refl _ _) _)
      replace HT := hid_two HT hS52
      replace HR := hid_rb HR hS52
      replace HN0 := hid_ge HN0 hS52
      replace HCK := hid_cellat HCK hS52
      replace HO1 := hid_ob HO1 hS52
      clear hS52
      clear c51_0_0 c51_0_1 z51_0
      clear hW52
      have z52_0 := Mem.lt M52.1
      have c52_1_0 := Mem.cell (v := .string lS) M52.2.1 0 rfl
      have c52_1_1 := Mem.cell (v := .string lI) M52.2.1 1 rfl
      have z52_1 := Mem.lt M52.2.1
      refine store_ox rfl _ _ rfl (w51.heap.size) rfl (ox0) ((z.raw a1 c1)) rfl M52.1 ?_
      intro w53 hW53
      have hB53 : Below w.heap.size w w53 := by rw [hW53]; exact below_setCells (B := w.heap.size) hB52 (b := w51.heap.size) (by have := hB52.size; omega) 0 _
      have hw53 : LaidF (NF w) w53 := hw0.below hB53
      have M53 : Mem w53 [(w51.heap.size, .cells (ox ((z.raw a1 c1))) 32), (w.heap.size, .cells #[.string lS, .string lI] 25)] := by rw [hW53]; exact ⟨set_ox M52.1 _, (setCells_other _ 0 _ _ (by omega)).trans M52.2.1, trivial⟩
      have HT2 := two_st HT (b := w51.heap.size) rfl 0 (oxL ((z.raw a1 c1)))
      rw [← hW53] at HT2
      have HO2 := ob_st HO1 0 (oxL ((z.raw a1 c1)))
      rw [← hW53] at HO2
      have HR2 := rb_st HR (b := w51.heap.size) yn1 0 (oxL ((z.raw a1 c1)))
      rw [← hW53] at HR2
      have HCK2 := cellat_st HCK (n := w51.heap.size) (by omega) 0 (oxL ((z.raw a1 c1)))
      rw [← hW53] at HCK2
      have HN2 := ge_st HN0 (b := w51.heap.size) 0 (oxL ((z.raw a1 c1)))
      rw [← hW53] at HN2
      clear z52_0 c52_1_0 c52_1_1 z52_1
      clear hW53
      have z53_0 := Mem.lt M53.1
      have c53_1_0 := Mem.cell (v := .string lS) M53.2.1 0 rfl
      have c53_1_1 := Mem.cell (v := .string lI) M53.2.1 1 rfl
      have z53_1 := Mem.lt M53.2.1
      clear HT HO1 HR HN0 HCK
      have ck := HCK2.out.2
      go_wp2_with fail
      refine Calls.named ?_
      intro W54 hW54
      have hB54_ : Below w.heap.size w W54 := by rw [hW54]; exact hB53
      have hw54_ : LaidF (NF w) W54 := by rw [hW54]; exact hw53
      have M54_ := M53
      rw [← hW54] at M54_
      have hS54 : Below w53.heap.size w53 W54 := by rw [hW54]; exact (Below.refl _ _)
      have HT2_ := hid_two HT2 hS54
      have HR2_ := hid_rb HR2 hS54
      have HN2_ := hid_ge HN2 hS54
      have HO2_ := hid_ob HO2 hS54
      clear hS54 HT2 HR2 HN2 HO2
      clear hW54
      have ZZ54_0 := Lib.hid (Mem.lt M54_.1)
      have ZZ54_1 := Lib.hid (Mem.lt M54_.2.1)
      clear z53_0 c53_1_0 c53_1_1 z53_1
      refine (HG2.out _ _ _ (Lib.hid (HT2_).out.right)).mono ?_
      rintro e w54 ⟨a2, c2, rfl, HO3, hb54⟩
      have HT2 := hid_two HT2_ hb54
      have HR2 := hid_rb HR2_ hb54
      have HN2 := hid_ge HN2_ hb54
      have HO2 := hid_ob HO2_ hb54
      clear HT2_ HR2_ HN2_ HO2_
      have hB54 := below_then hB54_ hb54
      have hw54 := hw54_.below hb54
      have M54 := M54_.below hb54
      clear M54_ hB54_ hb54 hw54_
      have z54_0 := Mem.lt M54.1
      have c54_1_0 := Mem.cell (v := .string lS) M54.2.1 0 rfl
      have c54_1_1 := Mem.cell (v := .string lI) M54.2.1 1 rfl
      have z54_1 := Mem.lt M54.2.1
      clear ck HCK2
      simp only
      iterate 13 go_step
      have yy2 := hB54.size
      have yn2 := HN2.out
      replace HT2 := two_al HT2 (Y := fun b => b = w54.heap.size) (fun b h => .inr h)
      replace HO2 := ob_lt HO2
      replace HO3 := ob_lt HO3
      have oo54_0 : w51.heap.size < w54.heap.size := Mem.lt M54.1
      have oo54_1 : w.heap.size < w54.heap.size := Mem.lt M54.2.1
      refine wpl_named ?_
      intro w55 hW55
      have hB55 : Below w.heap.size w w55 := by rw [hW55]; exact (below_al hB54 _)
      have hw55 : LaidF (NF w) w55 := by rw [hW55]; exact (hw54.alloc _)
      have M55 : Mem w55 [(w54.heap.size, .cells (ox (ox0)) 32), (w51.heap.size, .cells (ox ((z.raw a1 c1))) 32), (w.heap.size, .cells #[.string lS, .string lI] 25)] := by rw [hW55]; exact (M54).new' (w54.heap.size) (by rfl) (.cells (ox (ox0)) 32)
      have hS55 : Below w54.heap.size w54 w55 := by rw [hW55]; exact (below_al (Below.refl _ _) _)
      replace HT2 := hid_two HT2 hS55
      replace HR2 := hid_rb HR2 hS55
      replace HN2 := hid_ge HN2 hS55
      replace HO2 := hid_ob HO2 hS55
      replace HO3 := hid_ob HO3 hS55
      clear hS55
      clear z54_0 c54_1_0 c54_1_1 z54_1
      clear hW55
      have z55_0 := Mem.lt M55.1
      have z55_1 := Mem.lt M55.2.1
      have c55_2_0 := Mem.cell (v := .string lS) M55.2.2.1 0 rfl
      have c55_2_1 := Mem.cell (v := .string lI) M55.2.2.1 1 rfl
      have z55_2 := Mem.lt M55.2.2.1
      refine store_ox rfl _ _ rfl (w54.heap.size) rfl (ox0) ((u.raw a2 c2)) rfl M55.1 ?_
      intro w56 hW56
      have hB56 : Below w.heap.size w w56 := by rw [hW56]; exact below_setCells (B := w.heap.size) hB55 (b := w54.heap.size) (by have := hB55.size; omega) 0 _
      have hw56 : LaidF (NF w) w56 := hw0.below hB56
      have M56 : Mem w56 [(w54.heap.size, .cells (ox ((u.raw a2 c2))) 32), (w51.heap.size, .cells (ox ((z.raw a1 c1))) 32), (w.heap.size, .cells #[.string lS, .string lI] 25)] := by rw [hW56]; exact ⟨set_ox M55.1 _, (setCells_other _ 0 _ _ (by omega)).trans M55.2.1, (setCells_other _ 0 _ _ (by omega)).trans M55.2.2.1, trivial⟩
      have HT3 := two_st HT2 (b := w54.heap.size) rfl 0 (oxL ((u.raw a2 c2)))
      rw [← hW56] at HT3
      have HO4 := ob_st HO2 0 (oxL ((u.raw a2 c2)))
      rw [← hW56] at HO4
      have HO5 := ob_st HO3 0 (oxL ((u.raw a2 c2)))
      rw [← hW56] at HO5
      have HR3 := rb_st HR2 (b := w54.heap.size) yn2 0 (oxL ((u.raw a2 c2)))
      rw [← hW56] at HR3
      have HN3 := ge_st HN2 (b := w54.heap.size) 0 (oxL ((u.raw a2 c2)))
      rw [← hW56] at HN3
      clear z55_0 z55_1 c55_2_0 c55_2_1 z55_2
      clear hW56
      have z56_0 := Mem.lt M56.1
      have z56_1 := Mem.lt M56.2.1
      have c56_2_0 := Mem.cell (v := .string lS) M56.2.2.1 0 rfl
      have c56_2_1 := Mem.cell (v := .string lI) M56.2.2.1 1 rfl
      have z56_2 := Mem.lt M56.2.2.1
      clear HT2 HO2 HR2 HN2 HO3
      go_upto_region 17 with (fail)
      have c56_1_1 := Mem.cell (v := .string (z.raw a1 c1).lS) M56.2.1 1 rfl
      have c56_1_2 := Mem.cell (v := .string (z.raw a1 c1).lI) M56.2.1 2 rfl
      go_wp2_with fail
      refine Calls.named ?_
      intro W57 hW57
      have hB57_ : Below w.heap.size w W57 := by rw [hW57]; exact hB56
      have hw57_ : LaidF (NF w) W57 := by rw [hW57]; exact hw56
      have M57_ := M56
      rw [← hW57] at M57_
      have hS57 : Below w56.heap.size w56 W57 := by rw [hW57]; exact (Below.refl _ _)
      have HT3_ := hid_two HT3 hS57
      have HR3_ := hid_rb HR3 hS57
      have HN3_ := hid_ge HN3 hS57
      have HO4_ := hid_ob HO4 hS57
      have HO5_ := hid_ob HO5 hS57
      clear hS57 HT3 HR3 HN3 HO4 HO5
      clear hW57
      have ZZ57_0 := Lib.hid (Mem.lt M57_.1)
      have ZZ57_1 := Lib.hid (Mem.lt M57_.2.1)
      have ZZ57_2 := Lib.hid (Mem.lt M57_.2.2.1)
      clear z56_0 z56_1 c56_2_0 c56_2_1 z56_2 c56_1_1 c56_1_2
      refine (HFC.out _).mono ?_
      rintro e w57 ⟨rfl, hb57⟩
      have HT3 := hid_two HT3_ hb57
      have HR3 := hid_rb HR3_ hb57
      have HN3 := hid_ge HN3_ hb57
      have HO4 := hid_ob HO4_ hb57
      have HO5 := hid_ob HO5_ hb57
      clear HT3_ HR3_ HN3_ HO4_ HO5_
      have hB57 := below_then hB57_ hb57
      have hw57 := hw57_.below hb57
      have M57 := M57_.below hb57
      clear M57_ hB57_ hb57 hw57_
      have z57_0 := Mem.lt M57.1
      have z57_1 := Mem.lt M57.2.1
      have c57_2_0 := Mem.cell (v := .string lS) M57.2.2.1 0 rfl
      have c57_2_1 := Mem.cell (v := .string lI) M57.2.2.1 1 rfl
      have z57_2 := Mem.lt M57.2.2.1
      cases fl with
      | false =>
        have HB := Lib.hid hB57
        have HM := Lib.hid M57
        go_wp2_with fail
        go_roundw
        case rel => exact ⟨k + 1, by omega, by go_num, (by rw [HLN.out]; rfl), HB, Lib.hid (HT3.out.fresh fun _ h => h.elim), HR3, HN3, ⟨HM.out.2.2.1, trivial⟩⟩
        case measure => simp [intOf]; omega
      | true =>
        skip
        have huz := HUZ.out (by simp)
        simp only
        iterate 11 go_step
        clear huz
        refine load_ox_w rfl _ rfl (w51.heap.size) rfl (((z.raw a1 c1))) M57.2.1 ?_
        refine load_ox_w rfl _ rfl (w54.heap.size) rfl (((u.raw a2 c2))) M57.1 ?_
        go_wp2_with fail
        refine Calls.named ?_
        intro W58 hW58
        have hB58_ : Below w.heap.size w W58 := by rw [hW58]; exact hB57
        have hw58_ : LaidF (NF w) W58 := by rw [hW58]; exact hw57
        have M58_ := M57
        rw [← hW58] at M58_
        have hS58 : Below w57.heap.size w57 W58 := by rw [hW58]; exact (Below.refl _ _)
        have HT3_ := hid_two HT3 hS58
        have HR3_ := hid_rb HR3 hS58
        have HN3_ := hid_ge HN3 hS58
        have HO4_ := hid_ob HO4 hS58
        have HO5_ := hid_ob HO5 hS58
        clear hS58 HT3 HR3 HN3 HO4 HO5
        clear hW58
        have ZZ58_0 := Lib.hid (Mem.lt M58_.1)
        have ZZ58_1 := Lib.hid (Mem.lt M58_.2.1)
        have ZZ58_2 := Lib.hid (Mem.lt M58_.2.2.1)
        clear z57_0 z57_1 c57_2_0 c57_2_1 z57_2
        refine (alike_any z u _ _ _ _ _ (HO4_).out (HO5_).out).mono ?_
        rw [show decide (z = u) = true from decide_eq_true (HUZ.out (by simp)).symm]
        rintro e w58 ⟨rfl, hb58⟩
        have HT3 := hid_two HT3_ hb58
        have HR3 := hid_rb HR3_ hb58
        have HN3 := hid_ge HN3_ hb58
        have HO4 := hid_ob HO4_ hb58
        have HO5 := hid_ob HO5_ hb58
        clear HT3_ HR3_ HN3_ HO4_ HO5_
        have hB58 := below_then hB58_ hb58
        have hw58 := hw58_.below hb58
        have M58 := M58_.below hb58
        clear M58_ hB58_ hb58 hw58_
        have z58_0 := Mem.lt M58.1
        have z58_1 := Mem.lt M58.2.1
        have c58_2_0 := Mem.cell (v := .string lS) M58.2.2.1 0 rfl
        have c58_2_1 := Mem.cell (v := .string lI) M58.2.2.1 1 rfl
        have z58_2 := Mem.lt M58.2.2.1
        have HB := Lib.hid hB58
        have HM := Lib.hid M58
        go_wp2_with fail
        go_roundw
        case rel => exact ⟨k + 1, by omega, by go_num, (by rw [HLN.out]; go_num), HB, Lib.hid (HT3.out.fresh fun _ h => h.elim), HR3, HN3, ⟨HM.out.2.2.1, trivial⟩⟩
        case measure => simp [intOf]; omega
    · skip
      have pkn : ¬ (k : Int) < (n : Int) := by omega
      have hcH : (H0.length : Int) = (c : Int) := by
        have hk : k = S0.length := by have h1 := HN.out; have h2 := HNL.out; omega
        have h3 := HC.out
        rw [hk, leftN_all, ← HEQ.out.1] at h3
        rw [h3]
      have HCH := Lib.hid hcH
      clear hcH
      go_wp2_with fail
      refine Calls.named ?_
      intro W51 hW51
      have hB51_ : Below w.heap.size w W51 := by rw [hW51]; exact hB50
      have hw51_ : LaidF (NF w) W51 := by rw [hW51]; exact hw50
      have M51_ := M50
      rw [← hW51] at M51_
      have hS51 : Below w50.heap.size w50 W51 := by rw [hW51]; exact (Below.refl _ _)
      have HT_ := hid_two HT hS51
      clear hS51 HT
      clear hW51
      have ZZ51_0 := Lib.hid (Mem.lt M51_.1)
      clear c50_0_0 c50_0_1 z50_0
      refine (len_one _ _ q H0 _ (Lib.hid (HT_).out.right)).mono ?_
      rw [HCH.out]
      rintro e w51 ⟨rfl, hb51⟩
      have HT := hid_two HT_ hb51
      clear HT_
      have hB51 := below_then hB51_ hb51
      have hw51 := hw51_.below hb51
      have M51 := M51_.below hb51
      clear M51_ hB51_ hb51 hw51_
      have c51_0_0 := Mem.cell (v := .string lS) M51.1 0 rfl
      have c51_0_1 := Mem.cell (v := .string lI) M51.1 1 rfl
      have z51_0 := Mem.lt M51.1
      go_wp2_with fail
      go_ret
      exact ⟨rfl, hB51⟩
end Go.Proofs.YtlkgcidhhngfeaaGreatDoor
