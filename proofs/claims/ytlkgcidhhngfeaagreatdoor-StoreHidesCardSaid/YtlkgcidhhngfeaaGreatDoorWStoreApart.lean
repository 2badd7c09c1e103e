/- The walk of StoreApart. -/
import Derived.Test.YtlkgcidhhngfeaaGreatDoorApP
namespace Go.Proofs.YtlkgcidhhngfeaaGreatDoor
open Go.RowKit Go.Maps
theorem one_conv {B B' : Nat} {X Y : Nat → Prop} {w : World} {p : Nat} {S : St} (h : Hid (One B X w p S)) (hB : B' ≤ B) (hY : ∀ b, Y b → b < B) : Hid (One B' Y w p S) := by
  obtain ⟨W, Q, h1, h2, _⟩ := h.out
  exact Lib.hid ⟨W, Q, h1, fun b hb => Nat.le_trans hB (h2 b hb), fun b hb hy => by have := h2 b hb; have := hY b hy; omega⟩
theorem two_al {B : Nat} {X Y : Nat → Prop} {w : World} {p : Nat} {S : St} {q : Nat} {H : St} (h : Hid (Two B X w p S q H)) (hY : ∀ b, Y b → X b ∨ b = w.heap.size) : Hid (Two B Y w p S q H) := Lib.hid (h.out.fresh fun b hb => (hY b hb).imp id fun e => by omega)
theorem hid_ob0 {w : World} {n : Nat} {v : Value} {x : OB} (h : ObIn w (fun b => b < n) v x) (w' : World) (hb : Below n w w') (_ : n ≤ w.heap.size) : ObIn w' (fun b => b < n) v x := by
  obtain ⟨a, c, hv, hq, hl, ha⟩ := h
  exact ObIn.kf (F := fun b => n ≤ b) ⟨a, c, hv, hq, hl, ha⟩ ⟨hb.os, hb.tape, hb.output, hb.size, fun k hk hf => hb.block k (by omega)⟩ fun b hb hf => by omega
theorem sm_bd (s : ByteArray) : Bd (smS s) := by
  unfold Bd smS
  exact Nat.le_trans (nb_size _) (by decide)
theorem addT_len {l : List Ac} {key : ByteArray} {x : OB} : (addT (fillS l) key x).length ≤ 41 := by
  have h1 := addT_length (fillS l) key x (fillS_sorted l)
  have := fillS_length l
  omega
theorem apH_len {l : List Ac} {key : ByteArray} {x : OB} {lS lI : ByteArray} : (apH (fillS l) (hideS (fillS l) lS lI) key x lS lI).length ≤ 41 := by
  have h1 := ap_add (fillS_sorted l) key x lS lI
  rw [← h1]
  exact Nat.le_trans (hideS_length _ _ _) addT_len
theorem setT_len {S : St} {key : ByteArray} {x : OB} : (setT S key x).length = S.length := by
  unfold setT
  split
  · unfold setS; rw [List.length_map]
  · rfl
theorem q_ls {w : World} {A : Nat → Prop} {o : Ox} {x : OB} (h : ObIn w A (.agg (ox o)) x) : o.lS = x.lS ∧ o.lI = x.lI ∧ o.kd = x.kd := by
  obtain ⟨a, c, hv, _⟩ := h
  obtain rfl := ox_inj (Value.agg.inj hv)
  exact ⟨rfl, rfl, rfl⟩
set_option maxRecDepth 100000 in
set_option maxHeartbeats 32000000 in
theorem storeApart_raw (v : Value) (l : List Ac) (id : Int) (h0 : 0 ≤ id) (_ : id ≤ 255) (o1 o2 : Ox) (x y : OB) (SS II : ByteArray) (w : World) (hl : AcAt w v l) (hx : ObIn w (fun b => b < w.heap.size) (.agg (ox o1)) x) (hy : ObIn w (fun b => b < w.heap.size) (.agg (ox o2)) y) (hw9 : Laid w) :
    Calls Tryz.prog 3 #[v, .int .u8 id, .agg (ox o1), .agg (ox o2), .agg #[.string SS, .string II]] w fun e w' => e = .returned (.bool true) ∧ Below w.heap.size w w' := by
  have hw : LaidF (NF w) w := nf_laid hw9
  -- letters
  obtain ⟨S0, hS0⟩ : ∃ s, s = fillS l := ⟨_, rfl⟩
  obtain ⟨lS, hlS⟩ : ∃ s, s = smS SS := ⟨_, rfl⟩
  obtain ⟨lI, hlI⟩ : ∃ s, s = smS II := ⟨_, rfl⟩
  obtain ⟨q1, hq1⟩ : ∃ o, o = ({ o1 with lS := tk4 o1.lS, lI := tk4 o1.lI } : Ox) := ⟨_, rfl⟩
  obtain ⟨q2, hq2⟩ : ∃ o, o = ({ o2 with lS := tk4 o2.lS, lI := tk4 o2.lI } : Ox) := ⟨_, rfl⟩
  obtain ⟨x1, hx1⟩ : ∃ o, o = fewB x := ⟨_, rfl⟩
  obtain ⟨y1, hy1⟩ : ∃ o, o = fewB y := ⟨_, rfl⟩
  obtain ⟨key, hkey⟩ : ∃ s, s = nm id := ⟨_, rfl⟩
  obtain ⟨H0, hH0⟩ : ∃ s, s = hideS S0 lS lI := ⟨_, rfl⟩
  obtain ⟨z, hz⟩ : ∃ o, o = (getS S0 key).getD OB0 := ⟨_, rfl⟩
  obtain ⟨tb, htb⟩ : ∃ b, b = (getS S0 key).isSome := ⟨_, rfl⟩
  obtain ⟨E, hE⟩ : ∃ r, r = addE S0 key x1 := ⟨_, rfl⟩
  obtain ⟨S1, hS1⟩ : ∃ s, s = addT S0 key x1 := ⟨_, rfl⟩
  obtain ⟨F, hF⟩ : ∃ r, r = setE S1 key y1 := ⟨_, rfl⟩
  obtain ⟨S2, hS2⟩ : ∃ s, s = setT S1 key y1 := ⟨_, rfl⟩
  obtain ⟨fx, hfx⟩ : ∃ b, b = flowsB x1.lS x1.lI lS lI := ⟨_, rfl⟩
  obtain ⟨fy, hfy⟩ : ∃ b, b = flowsB y1.lS y1.lI lS lI := ⟨_, rfl⟩
  have b3 : Bd lS := by rw [hlS]; exact sm_bd _
  have b4 : Bd lI := by rw [hlI]; exact sm_bd _
  have bx3 : Bd x1.lS := by rw [hx1]; exact tk4_bd _
  have bx4 : Bd x1.lI := by rw [hx1]; exact tk4_bd _
  have by3 : Bd y1.lS := by rw [hy1]; exact tk4_bd _
  have by4 : Bd y1.lI := by rw [hy1]; exact tk4_bd _
  have hx' : ObIn w (fun b => b < w.heap.size) (.agg (ox q1)) x1 := by rw [hq1, hx1]; exact fewB_in hx
  have hy' : ObIn w (fun b => b < w.heap.size) (.agg (ox q2)) y1 := by rw [hq2, hy1]; exact fewB_in hy
  obtain ⟨e1, e2, -⟩ := q_ls hx'
  obtain ⟨e3, e4, -⟩ := q_ls hy'
  have HX1 := Lib.hid fun (W : World) (hb : Below w.heap.size w W) => hid_ob0 hx' W hb (Nat.le_refl _)
  have HY1 := Lib.hid fun (W : World) (hb : Below w.heap.size w W) => hid_ob0 hy' W hb (Nat.le_refl _)
  have HFX : Hid (∀ W, Calls Tryz.prog 14 #[.agg #[.string q1.lS, .string q1.lI], .agg #[.string lS, .string lI]] W fun e w' => e = .returned (.bool fx) ∧ Below W.heap.size W w') := Lib.hid (by rw [e1, e2, hfx]; exact fun W => flows_any _ _ _ _ bx3 bx4 b3 b4 W)
  have HFY : Hid (∀ W, Calls Tryz.prog 14 #[.agg #[.string q2.lS, .string q2.lI], .agg #[.string lS, .string lI]] W fun e w' => e = .returned (.bool fy) ∧ Below W.heap.size W w') := Lib.hid (by rw [e3, e4, hfy]; exact fun W => flows_any _ _ _ _ by3 by4 b3 b4 W)
  have HF1 : Hid (∀ W, Calls Tryz.prog 9 #[.agg (ox o1)] W fun e w' => e = .returned (.agg (ox q1)) ∧ Below W.heap.size W w') := Lib.hid (by rw [hq1]; exact few_raw o1)
  have HF2 : Hid (∀ W, Calls Tryz.prog 9 #[.agg (ox o2)] W fun e w' => e = .returned (.agg (ox q2)) ∧ Below W.heap.size W w') := Lib.hid (by rw [hq2]; exact few_raw o2)
  have HSM : Hid (∀ W, Calls Tryz.prog 8 #[.agg #[.string SS, .string II]] W fun e w' => e = .returned (.agg #[.string lS, .string lI]) ∧ Below W.heap.size W w') := Lib.hid (by rw [hlS, hlI]; exact small_any SS II)
  have HFILL : Hid (∀ (W : World) (Y : Nat → Prop), Below w.heap.size w W → Laid W → (∀ b, Y b → b < W.heap.size) → Calls Tryz.prog 7 #[v] W fun e w' => ∃ p, e = .returned (.pointer (some ⟨p, 0, none⟩)) ∧ Hid (One w.heap.size Y w' p S0) ∧ Below W.heap.size W w') := Lib.hid (by rw [hS0]; exact fun W Y hb hL hY => (filled_any v l W (acAt_below hl hb) hL).mono fun _ _ ⟨p, h1, h2, h3⟩ => ⟨p, h1, one_conv h2 hb.size hY, h3⟩)
  have hs0 : SortedS S0 := by rw [hS0]; exact fillS_sorted l
  have hs1 : SortedS S1 := by rw [hS1]; exact addT_sorted hs0 _ _
  have HL0 : Hid (S0.length ≤ 40) := Lib.hid (by rw [hS0]; exact fillS_length l)
  have HL1 : Hid (S1.length ≤ 41) := Lib.hid (by rw [hS1, hS0]; exact addT_len)
  have HL2 : Hid (S2.length ≤ 41) := Lib.hid (by rw [hS2, setT_len]; exact HL1.out)
  have HLH : Hid (H0.length ≤ 40) := Lib.hid (by rw [hH0]; exact Nat.le_trans (hideS_length _ _ _) HL0.out)
  have HP1 : Hid (fx = false → hideS S1 lS lI = H0) := Lib.hid (by rw [hfx, hS1, hH0]; exact ap_off hs0 key x1 lS lI)
  have HP2 : Hid (hideS S1 lS lI = if E = 0 ∧ fx = true then addT H0 key x1 else H0) := Lib.hid (by rw [hE, hfx, hS1, hH0]; exact ap_add hs0 key x1 lS lI)
  have HP3 : Hid (hideS S2 lS lI = if F = 0 ∧ fy = true then setT (hideS S1 lS lI) key y1 else hideS S1 lS lI) := Lib.hid (by rw [hF, hfy, hS2]; exact ap_set hs1 key y1 lS lI)
  have HTB : Hid (tb = true → E ≠ 0 ∧ 3 ≤ z.kd) := Lib.hid (by
    intro ht
    rw [htb] at ht
    refine ⟨by rw [hE]; exact addE_there ht, ?_⟩
    obtain ⟨u, hu⟩ := Option.isSome_iff_exists.1 ht
    rw [hz, hu]
    rw [hS0] at hu
    exact ap_kd hu)
  have HG : Hid (∀ (B p : Nat) (X : Nat → Prop) (W : World), Hid (One B X W p S0) → Calls Tryz.prog 12 #[.pointer (some ⟨p, 0, none⟩), .string key] W fun e w' => ∃ a c, e = .returned (.tuple #[.agg (ox (z.raw a c)), .bool tb]) ∧ Below W.heap.size W w') := Lib.hid (by
    rw [hz, htb]
    exact fun B p X W h => (get_one B X p S0 key (by have := nm_size id; rw [hkey]; omega) W h).mono fun _ _ ⟨a, c, h1, _, h2⟩ => ⟨a, c, h1, h2⟩)
  have HKS : Hid (key.size ≤ 140737488351232) := Lib.hid (by have := nm_size id; rw [hkey]; omega)
  obtain ⟨r, hr⟩ : ∃ r, r = id % 8 := ⟨_, rfl⟩
  have hr0 : 0 ≤ r := by omega
  have hr8 : r < 8 := by omega
  obtain ⟨rn, hrn⟩ : ∃ m, m = r.toNat := ⟨_, rfl⟩
  have hmod : id.tmod 8 = r := by rw [hr]; exact Int.tmod_eq_emod_of_nonneg h0
  have HNM := Lib.hid (nm_lt (n := rn) h0 hr.symm hrn.symm)
  rw [← hkey] at HNM
  have pr1 : r.toNat = rn := hrn.symm
  have HEQ := Lib.hid (And.intro hE (And.intro hS1 (And.intro hF (And.intro hS2 hH0))))
  have HBD := Lib.hid (And.intro b3 (And.intro b4 (And.intro bx3 bx4)))
  clear hrn hr hw9 hl hx hy hx' hy' e1 e2 e3 e4 hS0 hlS hlI hq1 hq2 hx1 hy1 hkey hH0 hz htb hE hS1 hF hS2 hfx hfy b3 b4 bx3 bx4 by3 by4 hs0 hs1
  go_enter Tryz.func3, Tryz.ntmps3
  have hB0 := Below.refl w.heap.size w
  have M0 := Mem.nil w
  have hw0 := hw
  go_wp2_with fail
  refine Calls.named ?_
  intro W1 hW1
  have hB1_ : Below w.heap.size w W1 := by rw [hW1]; exact (below_al (below_al (below_al hB0 _) _) _)
  have hw1_ : LaidF (NF w) W1 := by rw [hW1]; exact (((hw.alloc _).alloc _).alloc _)
  have M1_ : Mem W1 [(w.heap.size + 1 + 1, .cells #[.string SS, .string II] 25), (w.heap.size + 1, .cells (ox (o2)) 32), (w.heap.size, .cells (ox (o1)) 32)] := by rw [hW1]; exact (((M0).new' (w.heap.size) (by rfl) (.cells (ox (o1)) 32)).new' (w.heap.size + 1) (by simp) (.cells (ox (o2)) 32)).new' (w.heap.size + 1 + 1) (by simp) (.cells #[.string SS, .string II] 25)
  clear hW1
  have ZZ1_0 := Lib.hid (Mem.lt M1_.1)
  have ZZ1_1 := Lib.hid (Mem.lt M1_.2.1)
  have ZZ1_2 := Lib.hid (Mem.lt M1_.2.2.1)
  refine (examples_any _ (hw1_).laid).mono ?_
  rintro e w1 ⟨rfl, hb1⟩
  have hB1 := below_then hB1_ hb1
  have hw1 := hw1_.below hb1
  have M1 := M1_.below hb1
  clear M1_ hB1_ hb1 hw1_
  have c1_0_0 := Mem.cell (v := .string SS) M1.1 0 rfl
  have c1_0_1 := Mem.cell (v := .string II) M1.1 1 rfl
  have z1_0 := Mem.lt M1.1
  have z1_1 := Mem.lt M1.2.1
  have z1_2 := Mem.lt M1.2.2.1
  go_wp2_with fail
  refine Calls.named ?_
  intro W2 hW2
  have hB2_ : Below w.heap.size w W2 := by rw [hW2]; exact hB1
  have hw2_ : LaidF (NF w) W2 := by rw [hW2]; exact hw1
  have M2_ := M1
  rw [← hW2] at M2_
  clear hW2
  have ZZ2_0 := Lib.hid (Mem.lt M2_.1)
  have ZZ2_1 := Lib.hid (Mem.lt M2_.2.1)
  have ZZ2_2 := Lib.hid (Mem.lt M2_.2.2.1)
  clear c1_0_0 c1_0_1 z1_0 z1_1 z1_2
  refine (HFILL.out _ (fun b => b = w.heap.size ∨ b = w.heap.size + 1 ∨ b = w.heap.size + 1 + 1) hB2_ (hw2_).laid (fun b hb => Or.elim hb (fun h => by rw [h]; exact ZZ2_2.out) fun hb => Or.elim hb (fun h => by rw [h]; exact ZZ2_1.out) fun h => by rw [h]; exact ZZ2_0.out)).mono ?_
  rintro e w2 ⟨p, rfl, HS, hb2⟩
  have hB2 := below_then hB2_ hb2
  have hw2 := hw2_.below hb2
  have M2 := M2_.below hb2
  clear M2_ hB2_ hb2 hw2_
  have c2_0_0 := Mem.cell (v := .string SS) M2.1 0 rfl
  have c2_0_1 := Mem.cell (v := .string II) M2.1 1 rfl
  have z2_0 := Mem.lt M2.1
  have z2_1 := Mem.lt M2.2.1
  have z2_2 := Mem.lt M2.2.2.1
  clear HFILL
  go_wp2_with fail
  refine Calls.named ?_
  intro W3 hW3
  have hB3_ : Below w.heap.size w W3 := by rw [hW3]; exact hB2
  have hw3_ : LaidF (NF w) W3 := by rw [hW3]; exact hw2
  have M3_ := M2
  rw [← hW3] at M3_
  have hS3 : Below w2.heap.size w2 W3 := by rw [hW3]; exact (Below.refl _ _)
  have HS_ := hid_one HS hS3
  clear hS3 HS
  clear hW3
  have ZZ3_0 := Lib.hid (Mem.lt M3_.1)
  have ZZ3_1 := Lib.hid (Mem.lt M3_.2.1)
  have ZZ3_2 := Lib.hid (Mem.lt M3_.2.2.1)
  clear c2_0_0 c2_0_1 z2_0 z2_1 z2_2
  refine (HSM.out _).mono ?_
  rintro e w3 ⟨rfl, hb3⟩
  have HS := hid_one HS_ hb3
  clear HS_
  have hB3 := below_then hB3_ hb3
  have hw3 := hw3_.below hb3
  have M3 := M3_.below hb3
  clear M3_ hB3_ hb3 hw3_
  have c3_0_0 := Mem.cell (v := .string SS) M3.1 0 rfl
  have c3_0_1 := Mem.cell (v := .string II) M3.1 1 rfl
  have z3_0 := Mem.lt M3.1
  have z3_1 := Mem.lt M3.2.1
  have z3_2 := Mem.lt M3.2.2.1
  clear HSM
  have fl := fun j => Mem.free M3.1 j
  go_upto_region 6 with (fail)
  clear fl
  have hX3_0 : (w3.setCells (w.heap.size + 1 + 1) 0 [.string lS, .string lI]).heap[w.heap.size + 1 + 1]? = some (.cells #[.string lS, .string lI] 25) := by rw [setCells_block [.string lS, .string lI] 0 _ _ ((M3).1) (by simp)]; rfl
  have hY3_0 := below_setCells (B := w.heap.size) hB3 (b := w.heap.size + 1 + 1) (by have := hB3.size; omega) 0 [.string lS, .string lI]
  refine wp_named ?_
  intro w4 hW4
  have hB4 : Below w.heap.size w w4 := by rw [hW4]; exact hY3_0
  have hw4 : LaidF (NF w) w4 := hw0.below hB4
  have M4 : Mem w4 [(w.heap.size + 1 + 1, .cells #[.string lS, .string lI] 25), (w.heap.size + 1, .cells (ox (o2)) 32), (w.heap.size, .cells (ox (o1)) 32)] := by rw [hW4]; exact ⟨hX3_0, (setCells_other [.string lS, .string lI] 0 _ _ (by omega)).trans ((M3).2.1), (setCells_other [.string lS, .string lI] 0 _ _ (by omega)).trans ((M3).2.2.1), trivial⟩
  have HS2 := one_st HS (b := w.heap.size + 1 + 1) (.inr (.inr rfl)) 0 [.string lS, .string lI]
  rw [show (w3.setCells (w.heap.size + 1 + 1) 0 [.string lS, .string lI]) = w4 from hW4.symm] at HS2
  clear c3_0_0 c3_0_1 z3_0 z3_1 z3_2
  clear hW4 hX3_0 hY3_0
  have c4_0_0 := Mem.cell (v := .string lS) M4.1 0 rfl
  have c4_0_1 := Mem.cell (v := .string lI) M4.1 1 rfl
  have z4_0 := Mem.lt M4.1
  have z4_1 := Mem.lt M4.2.1
  have z4_2 := Mem.lt M4.2.2.1
  clear HS
  refine wp_region_lit ?_
  refine load_ox rfl _ rfl (w.heap.size) rfl (o1) M4.2.2.1 ?_
  go_wp2_with fail
  refine Calls.named ?_
  intro W5 hW5
  have hB5_ : Below w.heap.size w W5 := by rw [hW5]; exact hB4
  have hw5_ : LaidF (NF w) W5 := by rw [hW5]; exact hw4
  have M5_ := M4
  rw [← hW5] at M5_
  have hS5 : Below w4.heap.size w4 W5 := by rw [hW5]; exact (Below.refl _ _)
  have HS2_ := hid_one HS2 hS5
  clear hS5 HS2
  clear hW5
  have ZZ5_0 := Lib.hid (Mem.lt M5_.1)
  have ZZ5_1 := Lib.hid (Mem.lt M5_.2.1)
  have ZZ5_2 := Lib.hid (Mem.lt M5_.2.2.1)
  clear c4_0_0 c4_0_1 z4_0 z4_1 z4_2
  refine (HF1.out _).mono ?_
  rintro e w5 ⟨rfl, hb5⟩
  have HS2 := hid_one HS2_ hb5
  clear HS2_
  have hB5 := below_then hB5_ hb5
  have hw5 := hw5_.below hb5
  have M5 := M5_.below hb5
  clear M5_ hB5_ hb5 hw5_
  have c5_0_0 := Mem.cell (v := .string lS) M5.1 0 rfl
  have c5_0_1 := Mem.cell (v := .string lI) M5.1 1 rfl
  have z5_0 := Mem.lt M5.1
  have z5_1 := Mem.lt M5.2.1
  have z5_2 := Mem.lt M5.2.2.1
  simp only
  go_step
  refine store_ox rfl _ _ rfl (w.heap.size) rfl (o1) (q1) rfl M5.2.2.1 ?_
  intro w6 hW6
  have hB6 : Below w.heap.size w w6 := by rw [hW6]; exact below_setCells (B := w.heap.size) hB5 (b := w.heap.size) (by have := hB5.size; omega) 0 _
  have hw6 : LaidF (NF w) w6 := hw0.below hB6
  have M6 : Mem w6 [(w.heap.size + 1 + 1, .cells #[.string lS, .string lI] 25), (w.heap.size + 1, .cells (ox (o2)) 32), (w.heap.size, .cells (ox (q1)) 32)] := by rw [hW6]; exact ⟨(setCells_other _ 0 _ _ (by omega)).trans M5.1, (setCells_other _ 0 _ _ (by omega)).trans M5.2.1, set_ox M5.2.2.1 _, trivial⟩
  have HS3 := one_st HS2 (b := w.heap.size) (.inl rfl) 0 (oxL (q1))
  rw [← hW6] at HS3
  clear c5_0_0 c5_0_1 z5_0 z5_1 z5_2
  clear hW6
  have c6_0_0 := Mem.cell (v := .string lS) M6.1 0 rfl
  have c6_0_1 := Mem.cell (v := .string lI) M6.1 1 rfl
  have z6_0 := Mem.lt M6.1
  have z6_1 := Mem.lt M6.2.1
  have z6_2 := Mem.lt M6.2.2.1
  clear HS2 HF1
  go_upto_region 7 with (fail)
  refine wp_region_lit ?_
  refine load_ox rfl _ rfl (w.heap.size + 1) rfl (o2) M6.2.1 ?_
  go_wp2_with fail
  refine Calls.named ?_
  intro W7 hW7
  have hB7_ : Below w.heap.size w W7 := by rw [hW7]; exact hB6
  have hw7_ : LaidF (NF w) W7 := by rw [hW7]; exact hw6
  have M7_ := M6
  rw [← hW7] at M7_
  have hS7 : Below w6.heap.size w6 W7 := by rw [hW7]; exact (Below.refl _ _)
  have HS3_ := hid_one HS3 hS7
  clear hS7 HS3
  clear hW7
  have ZZ7_0 := Lib.hid (Mem.lt M7_.1)
  have ZZ7_1 := Lib.hid (Mem.lt M7_.2.1)
  have ZZ7_2 := Lib.hid (Mem.lt M7_.2.2.1)
  clear c6_0_0 c6_0_1 z6_0 z6_1 z6_2
  refine (HF2.out _).mono ?_
  rintro e w7 ⟨rfl, hb7⟩
  have HS3 := hid_one HS3_ hb7
  clear HS3_
  have hB7 := below_then hB7_ hb7
  have hw7 := hw7_.below hb7
  have M7 := M7_.below hb7
  clear M7_ hB7_ hb7 hw7_
  have c7_0_0 := Mem.cell (v := .string lS) M7.1 0 rfl
  have c7_0_1 := Mem.cell (v := .string lI) M7.1 1 rfl
  have z7_0 := Mem.lt M7.1
  have z7_1 := Mem.lt M7.2.1
  have z7_2 := Mem.lt M7.2.2.1
  simp only
  go_step
  refine store_ox rfl _ _ rfl (w.heap.size + 1) rfl (o2) (q2) rfl M7.2.1 ?_
  intro w8 hW8
  have hB8 : Below w.heap.size w w8 := by rw [hW8]; exact below_setCells (B := w.heap.size) hB7 (b := w.heap.size + 1) (by have := hB7.size; omega) 0 _
  have hw8 : LaidF (NF w) w8 := hw0.below hB8
  have M8 : Mem w8 [(w.heap.size + 1 + 1, .cells #[.string lS, .string lI] 25), (w.heap.size + 1, .cells (ox (q2)) 32), (w.heap.size, .cells (ox (q1)) 32)] := by rw [hW8]; exact ⟨(setCells_other _ 0 _ _ (by omega)).trans M7.1, set_ox M7.2.1 _, (setCells_other _ 0 _ _ (by omega)).trans M7.2.2.1, trivial⟩
  have HS4 := one_st HS3 (b := w.heap.size + 1) (.inr (.inl rfl)) 0 (oxL (q2))
  rw [← hW8] at HS4
  clear c7_0_0 c7_0_1 z7_0 z7_1 z7_2
  clear hW8
  have c8_0_0 := Mem.cell (v := .string lS) M8.1 0 rfl
  have c8_0_1 := Mem.cell (v := .string lI) M8.1 1 rfl
  have z8_0 := Mem.lt M8.1
  have z8_1 := Mem.lt M8.2.1
  have z8_2 := Mem.lt M8.2.2.1
  clear HS3 HF2
  go_wp2_with fail
  refine Calls.named ?_
  intro W9 hW9
  have hB9_ : Below w.heap.size w W9 := by rw [hW9]; exact hB8
  have hw9_ : LaidF (NF w) W9 := by rw [hW9]; exact hw8
  have M9_ := M8
  rw [← hW9] at M9_
  have hS9 : Below w8.heap.size w8 W9 := by rw [hW9]; exact (Below.refl _ _)
  have HS4_ := hid_one HS4 hS9
  clear hS9 HS4
  clear hW9
  have ZZ9_0 := Lib.hid (Mem.lt M9_.1)
  have ZZ9_1 := Lib.hid (Mem.lt M9_.2.1)
  have ZZ9_2 := Lib.hid (Mem.lt M9_.2.2.1)
  clear c8_0_0 c8_0_1 z8_0 z8_1 z8_2
  refine (names_c _).mono ?_
  rintro e w9 ⟨rfl, hmm, hb9⟩
  have HS4 := hid_one HS4_ hb9
  clear HS4_
  have hB9 := below_then hB9_ hb9
  have hw9 := hw9_.below hb9
  have M9 := M9_.below hb9
  clear M9_ hB9_ hb9 hw9_
  have c9_0_0 := Mem.cell (v := .string lS) M9.1 0 rfl
  have c9_0_1 := Mem.cell (v := .string lI) M9.1 1 rfl
  have z9_0 := Mem.lt M9.1
  have z9_1 := Mem.lt M9.2.1
  have z9_2 := Mem.lt M9.2.2.1
  have cnm := Mem.cell hmm rn HNM.out
  clear hmm
  go_upto_region 9 with (fail)
  clear cnm
  go_wp2_with fail
  refine Calls.named ?_
  intro W10 hW10
  have hB10_ : Below w.heap.size w W10 := by rw [hW10]; exact hB9
  have hw10_ : LaidF (NF w) W10 := by rw [hW10]; exact hw9
  have M10_ := M9
  rw [← hW10] at M10_
  have hS10 : Below w9.heap.size w9 W10 := by rw [hW10]; exact (Below.refl _ _)
  have HS4_ := hid_one HS4 hS10
  clear hS10 HS4
  clear hW10
  have ZZ10_0 := Lib.hid (Mem.lt M10_.1)
  have ZZ10_1 := Lib.hid (Mem.lt M10_.2.1)
  have ZZ10_2 := Lib.hid (Mem.lt M10_.2.2.1)
  clear c9_0_0 c9_0_1 z9_0 z9_1 z9_2
  refine (hide_one w.heap.size _ p S0 lS lI HBD.out.1 HBD.out.2.1 _ HS4_ hB10_.size (fun b hb => Or.elim hb (fun h => by rw [h]; exact ZZ10_2.out) fun hb => Or.elim hb (fun h => by rw [h]; exact ZZ10_1.out) fun h => by rw [h]; exact ZZ10_0.out) (by have := HL0.out; omega) (hw10_).laid).mono ?_
  rw [← HEQ.out.2.2.2.2]
  rintro e w10 ⟨q, rfl, HT, hb10⟩
  have HS4 := hid_one HS4_ hb10
  clear HS4_
  have hB10 := below_then hB10_ hb10
  have hw10 := hw10_.below hb10
  have M10 := M10_.below hb10
  clear M10_ hB10_ hb10 hw10_
  have c10_0_0 := Mem.cell (v := .string lS) M10.1 0 rfl
  have c10_0_1 := Mem.cell (v := .string lI) M10.1 1 rfl
  have z10_0 := Mem.lt M10.1
  have z10_1 := Mem.lt M10.2.1
  have z10_2 := Mem.lt M10.2.2.1
  clear HS4
  go_wp2_with fail
  refine Calls.named ?_
  intro W11 hW11
  have hB11_ : Below w.heap.size w W11 := by rw [hW11]; exact hB10
  have hw11_ : LaidF (NF w) W11 := by rw [hW11]; exact hw10
  have M11_ := M10
  rw [← hW11] at M11_
  have hS11 : Below w10.heap.size w10 W11 := by rw [hW11]; exact (Below.refl _ _)
  have HT_ := hid_two HT hS11
  clear hS11 HT
  clear hW11
  have ZZ11_0 := Lib.hid (Mem.lt M11_.1)
  have ZZ11_1 := Lib.hid (Mem.lt M11_.2.1)
  have ZZ11_2 := Lib.hid (Mem.lt M11_.2.2.1)
  clear c10_0_0 c10_0_1 z10_0 z10_1 z10_2
  refine (HG.out _ p _ _ (Lib.hid (HT_).out.left)).mono ?_
  rintro e w11 ⟨ao, co, rfl, hb11⟩
  have HT := hid_two HT_ hb11
  clear HT_
  have hB11 := below_then hB11_ hb11
  have hw11 := hw11_.below hb11
  have M11 := M11_.below hb11
  clear M11_ hB11_ hb11 hw11_
  have c11_0_0 := Mem.cell (v := .string lS) M11.1 0 rfl
  have c11_0_1 := Mem.cell (v := .string lI) M11.1 1 rfl
  have z11_0 := Mem.lt M11.1
  have z11_1 := Mem.lt M11.2.1
  have z11_2 := Mem.lt M11.2.2.1
  simp only
  iterate 13 go_step
  have yyd := hB11.size
  have yydx : w.heap.size < w11.heap.size := Mem.lt M11.2.2.1
  have yydy : w.heap.size + 1 < w11.heap.size := Mem.lt M11.2.1
  have yydl : w.heap.size + 1 + 1 < w11.heap.size := Mem.lt M11.1
  replace HT := two_al HT (Y := fun b => b = w.heap.size ∨ b = w.heap.size + 1 ∨ b = w.heap.size + 1 + 1 ∨ b = w11.heap.size) (fun b h => by rcases h with h | h | h | h <;> simp [h])
  have oo11_0 : w.heap.size + 1 + 1 < w11.heap.size := Mem.lt M11.1
  have oo11_1 : w.heap.size + 1 < w11.heap.size := Mem.lt M11.2.1
  have oo11_2 : w.heap.size < w11.heap.size := Mem.lt M11.2.2.1
  refine wpl_named ?_
  intro w12 hW12
  have hB12 : Below w.heap.size w w12 := by rw [hW12]; exact (below_al hB11 _)
  have hw12 : LaidF (NF w) w12 := by rw [hW12]; exact (hw11.alloc _)
  have M12 : Mem w12 [(w11.heap.size, .cells (ox (ox0)) 32), (w.heap.size + 1 + 1, .cells #[.string lS, .string lI] 25), (w.heap.size + 1, .cells (ox (q2)) 32), (w.heap.size, .cells (ox (q1)) 32)] := by rw [hW12]; exact (M11).new' (w11.heap.size) (by rfl) (.cells (ox (ox0)) 32)
  have hS12 : Below w11.heap.size w11 w12 := by rw [hW12]; exact (below_al (Below.refl _ _) _)
  replace HT := hid_two HT hS12
  clear hS12
  clear c11_0_0 c11_0_1 z11_0 z11_1 z11_2
  clear hW12
  have z12_0 := Mem.lt M12.1
  have c12_1_0 := Mem.cell (v := .string lS) M12.2.1 0 rfl
  have c12_1_1 := Mem.cell (v := .string lI) M12.2.1 1 rfl
  have z12_1 := Mem.lt M12.2.1
  have z12_2 := Mem.lt M12.2.2.1
  have z12_3 := Mem.lt M12.2.2.2.1
  refine store_ox rfl _ _ rfl (w11.heap.size) rfl (ox0) ((z.raw ao co)) rfl M12.1 ?_
  intro w13 hW13
  have hB13 : Below w.heap.size w w13 := by rw [hW13]; exact below_setCells (B := w.heap.size) hB12 (b := w11.heap.size) (by have := hB12.size; omega) 0 _
  have hw13 : LaidF (NF w) w13 := hw0.below hB13
  have M13 : Mem w13 [(w11.heap.size, .cells (ox ((z.raw ao co))) 32), (w.heap.size + 1 + 1, .cells #[.string lS, .string lI] 25), (w.heap.size + 1, .cells (ox (q2)) 32), (w.heap.size, .cells (ox (q1)) 32)] := by rw [hW13]; exact ⟨set_ox M12.1 _, (setCells_other _ 0 _ _ (by omega)).trans M12.2.1, (setCells_other _ 0 _ _ (by omega)).trans M12.2.2.1, (setCells_other _ 0 _ _ (by omega)).trans M12.2.2.2.1, trivial⟩
  have HT2 := two_st HT (b := w11.heap.size) (.inr (.inr (.inr rfl))) 0 (oxL ((z.raw ao co)))
  rw [← hW13] at HT2
  clear z12_0 c12_1_0 c12_1_1 z12_1 z12_2 z12_3
  clear hW13
  have z13_0 := Mem.lt M13.1
  have c13_1_0 := Mem.cell (v := .string lS) M13.2.1 0 rfl
  have c13_1_1 := Mem.cell (v := .string lI) M13.2.1 1 rfl
  have z13_1 := Mem.lt M13.2.1
  have z13_2 := Mem.lt M13.2.2.1
  have z13_3 := Mem.lt M13.2.2.2.1
  clear HT
  go_upto_region 11 with (fail)
  refine wp_region_lit ?_
  iterate 6 go_step
  refine load_ox rfl _ rfl (w.heap.size) rfl (q1) M13.2.2.2.1 ?_
  go_wp2_with fail
  refine Calls.named ?_
  intro W14 hW14
  have hB14_ : Below w.heap.size w W14 := by rw [hW14]; exact hB13
  have hw14_ : LaidF (NF w) W14 := by rw [hW14]; exact hw13
  have M14_ := M13
  rw [← hW14] at M14_
  have hS14 : Below w13.heap.size w13 W14 := by rw [hW14]; exact (Below.refl _ _)
  have HT2_ := hid_two HT2 hS14
  clear hS14 HT2
  clear hW14
  have ZZ14_0 := Lib.hid (Mem.lt M14_.1)
  have ZZ14_1 := Lib.hid (Mem.lt M14_.2.1)
  have ZZ14_2 := Lib.hid (Mem.lt M14_.2.2.1)
  have ZZ14_3 := Lib.hid (Mem.lt M14_.2.2.2.1)
  clear z13_0 c13_1_0 c13_1_1 z13_1 z13_2 z13_3
  refine (add_l w.heap.size _ p S0 q H0 key HKS.out x1 _ _ _ HT2_ hB14_.size (fun b hb => Or.elim hb (fun h => by rw [h]; exact ZZ14_3.out) fun hb => Or.elim hb (fun h => by rw [h]; exact ZZ14_2.out) fun hb => Or.elim hb (fun h => by rw [h]; exact ZZ14_1.out) fun h => by rw [h]; exact ZZ14_0.out) (by have := HL0.out; omega) (HX1.out _ hB14_) HBD.out.2.2.1 HBD.out.2.2.2 hw14_).mono ?_
  rw [← HEQ.out.1, ← HEQ.out.2.1]
  rintro e w14 ⟨rfl, HT, hb14⟩
  have hB14 := KF.toBelow hb14 hB14_ hB14_.size (fun k h => h.1)
  have hw14 : LaidF (NF w) w14 := hw0.below hB14
  have M14 : Mem w14 [(w11.heap.size, .cells (ox ((z.raw ao co))) 32), (w.heap.size + 1 + 1, .cells #[.string lS, .string lI] 25), (w.heap.size + 1, .cells (ox (q2)) 32), (w.heap.size, .cells (ox (q1)) 32)] := ⟨mem_fx M14_.1 hb14 (by simp), mem_fx M14_.2.1 hb14 (by simp), mem_fx M14_.2.2.1 hb14 (by simp), mem_fx M14_.2.2.2.1 hb14 (by simp), trivial⟩
  clear HT2_
  clear M14_ hB14_ hb14 hw14_
  have z14_0 := Mem.lt M14.1
  have c14_1_0 := Mem.cell (v := .string lS) M14.2.1 0 rfl
  have c14_1_1 := Mem.cell (v := .string lI) M14.2.1 1 rfl
  have z14_1 := Mem.lt M14.2.1
  have z14_2 := Mem.lt M14.2.2.1
  have z14_3 := Mem.lt M14.2.2.2.1
  go_upto_region 12 with (fail)
  have c14_3_1 := Mem.cell (v := .string q1.lS) M14.2.2.2.1 1 rfl
  have c14_3_2 := Mem.cell (v := .string q1.lI) M14.2.2.2.1 2 rfl
  go_wp2_with fail
  refine Calls.named ?_
  intro W15 hW15
  have hB15_ : Below w.heap.size w W15 := by rw [hW15]; exact hB14
  have hw15_ : LaidF (NF w) W15 := by rw [hW15]; exact hw14
  have M15_ := M14
  rw [← hW15] at M15_
  have hS15 : Below w14.heap.size w14 W15 := by rw [hW15]; exact (Below.refl _ _)
  have HT_ := hid_two HT hS15
  clear hS15 HT
  clear hW15
  have ZZ15_0 := Lib.hid (Mem.lt M15_.1)
  have ZZ15_1 := Lib.hid (Mem.lt M15_.2.1)
  have ZZ15_2 := Lib.hid (Mem.lt M15_.2.2.1)
  have ZZ15_3 := Lib.hid (Mem.lt M15_.2.2.2.1)
  clear z14_0 c14_1_0 c14_1_1 z14_1 z14_2 z14_3 c14_3_1 c14_3_2
  refine (HFX.out _).mono ?_
  rintro e w15 ⟨rfl, hb15⟩
  have HT := hid_two HT_ hb15
  clear HT_
  have hB15 := below_then hB15_ hb15
  have hw15 := hw15_.below hb15
  have M15 := M15_.below hb15
  clear M15_ hB15_ hb15 hw15_
  have z15_0 := Mem.lt M15.1
  have c15_1_0 := Mem.cell (v := .string lS) M15.2.1 0 rfl
  have c15_1_1 := Mem.cell (v := .string lI) M15.2.1 1 rfl
  have z15_1 := Mem.lt M15.2.1
  have z15_2 := Mem.lt M15.2.2.1
  have z15_3 := Mem.lt M15.2.2.2.1
  cases fx with
  | false =>
    have HLX : Hid (H0.length ≤ 1000000) := Lib.hid (by have := HLH.out; omega)
    go_wp2_with fail
    refine Calls.named ?_
    intro W16 hW16
    have hB16_ : Below w.heap.size w W16 := by rw [hW16]; exact hB15
    have hw16_ : LaidF (NF w) W16 := by rw [hW16]; exact hw15
    have M16_ := M15
    rw [← hW16] at M16_
    have hS16 : Below w15.heap.size w15 W16 := by rw [hW16]; exact (Below.refl _ _)
    have HT_ := hid_two HT hS16
    clear hS16 HT
    clear hW16
    have ZZ16_0 := Lib.hid (Mem.lt M16_.1)
    have ZZ16_1 := Lib.hid (Mem.lt M16_.2.1)
    have ZZ16_2 := Lib.hid (Mem.lt M16_.2.2.1)
    have ZZ16_3 := Lib.hid (Mem.lt M16_.2.2.2.1)
    clear z15_0 c15_1_0 c15_1_1 z15_1 z15_2 z15_3
    refine (hide_two w.heap.size _ p S1 lS lI HBD.out.1 HBD.out.2.1 _ (Lib.hid (HT_).out.left) hB16_.size (fun b hb => Or.elim hb (fun h => by rw [h]; exact ZZ16_3.out) fun hb => Or.elim hb (fun h => by rw [h]; exact ZZ16_2.out) fun hb => Or.elim hb (fun h => by rw [h]; exact ZZ16_1.out) fun h => by rw [h]; exact ZZ16_0.out) (by have := HL1.out; omega) (hw16_).laid).mono ?_
    rw [HP1.out (by simp)]
    rintro e w16 ⟨qa, rfl, HQqa, hb16⟩
    have HT := hid_two HT_ hb16
    clear HT_
    have hB16 := below_then hB16_ hb16
    have hw16 := hw16_.below hb16
    have M16 := M16_.below hb16
    clear M16_ hB16_ hb16 hw16_
    have z16_0 := Mem.lt M16.1
    have c16_1_0 := Mem.cell (v := .string lS) M16.2.1 0 rfl
    have c16_1_1 := Mem.cell (v := .string lI) M16.2.1 1 rfl
    have z16_1 := Mem.lt M16.2.1
    have z16_2 := Mem.lt M16.2.2.1
    have z16_3 := Mem.lt M16.2.2.2.1
    go_wp2_with fail
    refine Calls.named ?_
    intro W17 hW17
    have hB17_ : Below w.heap.size w W17 := by rw [hW17]; exact hB16
    have hw17_ : LaidF (NF w) W17 := by rw [hW17]; exact hw16
    have M17_ := M16
    rw [← hW17] at M17_
    have hS17 : Below w16.heap.size w16 W17 := by rw [hW17]; exact (Below.refl _ _)
    have HT_ := hid_two HT hS17
    have HQqa_ := hid_one HQqa hS17
    clear hS17 HT HQqa
    clear hW17
    have ZZ17_0 := Lib.hid (Mem.lt M17_.1)
    have ZZ17_1 := Lib.hid (Mem.lt M17_.2.1)
    have ZZ17_2 := Lib.hid (Mem.lt M17_.2.2.1)
    have ZZ17_3 := Lib.hid (Mem.lt M17_.2.2.2.1)
    clear z16_0 c16_1_0 c16_1_1 z16_1 z16_2 z16_3
    refine (same_one _ _ _ _ qa q H0 H0 _ HQqa_ (Lib.hid (HT_).out.right) HLX.out HLX.out).mono ?_
    rw [show decide (H0 = H0) = true from decide_eq_true rfl]
    rintro e w17 ⟨rfl, hb17⟩
    have HT := hid_two HT_ hb17
    have HQqa := hid_one HQqa_ hb17
    clear HT_ HQqa_
    have hB17 := below_then hB17_ hb17
    have hw17 := hw17_.below hb17
    have M17 := M17_.below hb17
    clear M17_ hB17_ hb17 hw17_
    have z17_0 := Mem.lt M17.1
    have c17_1_0 := Mem.cell (v := .string lS) M17.2.1 0 rfl
    have c17_1_1 := Mem.cell (v := .string lI) M17.2.1 1 rfl
    have z17_1 := Mem.lt M17.2.1
    have z17_2 := Mem.lt M17.2.2.1
    have z17_3 := Mem.lt M17.2.2.2.1
    clear HQqa
    clear HLX
    go_upto_region 14 with (fail)
    have c17_3_1 := Mem.cell (v := .string q1.lS) M17.2.2.2.1 1 rfl
    have c17_3_2 := Mem.cell (v := .string q1.lI) M17.2.2.2.1 2 rfl
    by_cases hE0 : E = 0
    · skip
      go_wp2_with fail
      refine Calls.named ?_
      intro W18 hW18
      have hB18_ : Below w.heap.size w W18 := by rw [hW18]; exact hB17
      have hw18_ : LaidF (NF w) W18 := by rw [hW18]; exact hw17
      have M18_ := M17
      rw [← hW18] at M18_
      have hS18 : Below w17.heap.size w17 W18 := by rw [hW18]; exact (Below.refl _ _)
      have HT_ := hid_two HT hS18
      clear hS18 HT
      clear hW18
      have ZZ18_0 := Lib.hid (Mem.lt M18_.1)
      have ZZ18_1 := Lib.hid (Mem.lt M18_.2.1)
      have ZZ18_2 := Lib.hid (Mem.lt M18_.2.2.1)
      have ZZ18_3 := Lib.hid (Mem.lt M18_.2.2.2.1)
      clear z17_0 c17_1_0 c17_1_1 z17_1 z17_2 z17_3 c17_3_1 c17_3_2
      refine (HFX.out _).mono ?_
      rintro e w18 ⟨rfl, hb18⟩
      have HT := hid_two HT_ hb18
      clear HT_
      have hB18 := below_then hB18_ hb18
      have hw18 := hw18_.below hb18
      have M18 := M18_.below hb18
      clear M18_ hB18_ hb18 hw18_
      have z18_0 := Mem.lt M18.1
      have c18_1_0 := Mem.cell (v := .string lS) M18.2.1 0 rfl
      have c18_1_1 := Mem.cell (v := .string lI) M18.2.1 1 rfl
      have z18_1 := Mem.lt M18.2.1
      have z18_2 := Mem.lt M18.2.2.1
      have z18_3 := Mem.lt M18.2.2.2.1
      have HQ : Hid (hideS S1 lS lI = H0) := Lib.hid (HP1.out (by simp))
      have HLX : Hid (H0.length ≤ 1000000) := Lib.hid (by have := HLH.out; omega)
      go_upto_region 16 with (fail)
      go_wp2_with fail
      refine Calls.named ?_
      intro W19 hW19
      have hB19_ : Below w.heap.size w W19 := by rw [hW19]; exact hB18
      have hw19_ : LaidF (NF w) W19 := by rw [hW19]; exact hw18
      have M19_ := M18
      rw [← hW19] at M19_
      have hS19 : Below w18.heap.size w18 W19 := by rw [hW19]; exact (Below.refl _ _)
      have HT_ := hid_two HT hS19
      clear hS19 HT
      clear hW19
      have ZZ19_0 := Lib.hid (Mem.lt M19_.1)
      have ZZ19_1 := Lib.hid (Mem.lt M19_.2.1)
      have ZZ19_2 := Lib.hid (Mem.lt M19_.2.2.1)
      have ZZ19_3 := Lib.hid (Mem.lt M19_.2.2.2.1)
      clear z18_0 c18_1_0 c18_1_1 z18_1 z18_2 z18_3
      refine (hide_two w.heap.size _ p S1 lS lI HBD.out.1 HBD.out.2.1 _ (Lib.hid (HT_).out.left) hB19_.size (fun b hb => Or.elim hb (fun h => by rw [h]; exact ZZ19_3.out) fun hb => Or.elim hb (fun h => by rw [h]; exact ZZ19_2.out) fun hb => Or.elim hb (fun h => by rw [h]; exact ZZ19_1.out) fun h => by rw [h]; exact ZZ19_0.out) (by have := HL1.out; omega) (hw19_).laid).mono ?_
      rw [HQ.out]
      rintro e w19 ⟨qb, rfl, HQqb, hb19⟩
      have HT := hid_two HT_ hb19
      clear HT_
      have hB19 := below_then hB19_ hb19
      have hw19 := hw19_.below hb19
      have M19 := M19_.below hb19
      clear M19_ hB19_ hb19 hw19_
      have z19_0 := Mem.lt M19.1
      have c19_1_0 := Mem.cell (v := .string lS) M19.2.1 0 rfl
      have c19_1_1 := Mem.cell (v := .string lI) M19.2.1 1 rfl
      have z19_1 := Mem.lt M19.2.1
      have z19_2 := Mem.lt M19.2.2.1
      have z19_3 := Mem.lt M19.2.2.2.1
      go_wp2_with fail
      refine Calls.named ?_
      intro W20 hW20
      have hB20_ : Below w.heap.size w W20 := by rw [hW20]; exact hB19
      have hw20_ : LaidF (NF w) W20 := by rw [hW20]; exact hw19
      have M20_ := M19
      rw [← hW20] at M20_
      have hS20 : Below w19.heap.size w19 W20 := by rw [hW20]; exact (Below.refl _ _)
      have HT_ := hid_two HT hS20
      have HQqb_ := hid_one HQqb hS20
      clear hS20 HT HQqb
      clear hW20
      have ZZ20_0 := Lib.hid (Mem.lt M20_.1)
      have ZZ20_1 := Lib.hid (Mem.lt M20_.2.1)
      have ZZ20_2 := Lib.hid (Mem.lt M20_.2.2.1)
      have ZZ20_3 := Lib.hid (Mem.lt M20_.2.2.2.1)
      clear z19_0 c19_1_0 c19_1_1 z19_1 z19_2 z19_3
      refine (same_one _ _ _ _ qb q H0 H0 _ HQqb_ (Lib.hid (HT_).out.right) HLX.out HLX.out).mono ?_
      rw [show decide (H0 = H0) = true from decide_eq_true rfl]
      rintro e w20 ⟨rfl, hb20⟩
      have HT := hid_two HT_ hb20
      have HQqb := hid_one HQqb_ hb20
      clear HT_ HQqb_
      have hB20 := below_then hB20_ hb20
      have hw20 := hw20_.below hb20
      have M20 := M20_.below hb20
      clear M20_ hB20_ hb20 hw20_
      have z20_0 := Mem.lt M20.1
      have c20_1_0 := Mem.cell (v := .string lS) M20.2.1 0 rfl
      have c20_1_1 := Mem.cell (v := .string lI) M20.2.1 1 rfl
      have z20_1 := Mem.lt M20.2.1
      have z20_2 := Mem.lt M20.2.2.1
      have z20_3 := Mem.lt M20.2.2.2.1
      clear HQqb
      go_upto_region 18 with (fail)
      refine wp_region_lit ?_
      iterate 6 go_step
      refine load_ox rfl _ rfl (w.heap.size + 1) rfl (q2) M20.2.2.1 ?_
      go_wp2_with fail
      refine Calls.named ?_
      intro W21 hW21
      have hB21_ : Below w.heap.size w W21 := by rw [hW21]; exact hB20
      have hw21_ : LaidF (NF w) W21 := by rw [hW21]; exact hw20
      have M21_ := M20
      rw [← hW21] at M21_
      have hS21 : Below w20.heap.size w20 W21 := by rw [hW21]; exact (Below.refl _ _)
      have HT_ := hid_two HT hS21
      clear hS21 HT
      clear hW21
      have ZZ21_0 := Lib.hid (Mem.lt M21_.1)
      have ZZ21_1 := Lib.hid (Mem.lt M21_.2.1)
      have ZZ21_2 := Lib.hid (Mem.lt M21_.2.2.1)
      have ZZ21_3 := Lib.hid (Mem.lt M21_.2.2.2.1)
      clear z20_0 c20_1_0 c20_1_1 z20_1 z20_2 z20_3
      refine (set_l w.heap.size _ p S1 q H0 key HKS.out y1 _ _ _ HT_ hB21_.size (fun b hb => Or.elim hb (fun h => by rw [h]; exact ZZ21_3.out) fun hb => Or.elim hb (fun h => by rw [h]; exact ZZ21_2.out) fun hb => Or.elim hb (fun h => by rw [h]; exact ZZ21_1.out) fun h => by rw [h]; exact ZZ21_0.out) (by have := HL1.out; omega) (HY1.out _ hB21_)).mono ?_
      rw [← HEQ.out.2.2.1, ← HEQ.out.2.2.2.1]
      rintro e w21 ⟨rfl, HT, hb21⟩
      have hB21 := KF.toBelow hb21 hB21_ hB21_.size (fun k h => h.1)
      have hw21 : LaidF (NF w) w21 := hw0.below hB21
      have M21 : Mem w21 [(w11.heap.size, .cells (ox ((z.raw ao co))) 32), (w.heap.size + 1 + 1, .cells #[.string lS, .string lI] 25), (w.heap.size + 1, .cells (ox (q2)) 32), (w.heap.size, .cells (ox (q1)) 32)] := ⟨mem_fx M21_.1 hb21 (by simp), mem_fx M21_.2.1 hb21 (by simp), mem_fx M21_.2.2.1 hb21 (by simp), mem_fx M21_.2.2.2.1 hb21 (by simp), trivial⟩
      clear HT_
      clear M21_ hB21_ hb21 hw21_
      have z21_0 := Mem.lt M21.1
      have c21_1_0 := Mem.cell (v := .string lS) M21.2.1 0 rfl
      have c21_1_1 := Mem.cell (v := .string lI) M21.2.1 1 rfl
      have z21_1 := Mem.lt M21.2.1
      have z21_2 := Mem.lt M21.2.2.1
      have z21_3 := Mem.lt M21.2.2.2.1
      go_upto_region 19 with (fail)
      have c21_2_1 := Mem.cell (v := .string q2.lS) M21.2.2.1 1 rfl
      have c21_2_2 := Mem.cell (v := .string q2.lI) M21.2.2.1 2 rfl
      by_cases hF0 : F = 0
      · subst hF0
        go_wp2_with fail
        refine Calls.named ?_
        intro W22 hW22
        have hB22_ : Below w.heap.size w W22 := by rw [hW22]; exact hB21
        have hw22_ : LaidF (NF w) W22 := by rw [hW22]; exact hw21
        have M22_ := M21
        rw [← hW22] at M22_
        have hS22 : Below w21.heap.size w21 W22 := by rw [hW22]; exact (Below.refl _ _)
        have HT_ := hid_two HT hS22
        clear hS22 HT
        clear hW22
        have ZZ22_0 := Lib.hid (Mem.lt M22_.1)
        have ZZ22_1 := Lib.hid (Mem.lt M22_.2.1)
        have ZZ22_2 := Lib.hid (Mem.lt M22_.2.2.1)
        have ZZ22_3 := Lib.hid (Mem.lt M22_.2.2.2.1)
        clear z21_0 c21_1_0 c21_1_1 z21_1 z21_2 z21_3 c21_2_1 c21_2_2
        refine (HFY.out _).mono ?_
        rintro e w22 ⟨rfl, hb22⟩
        have HT := hid_two HT_ hb22
        clear HT_
        have hB22 := below_then hB22_ hb22
        have hw22 := hw22_.below hb22
        have M22 := M22_.below hb22
        clear M22_ hB22_ hb22 hw22_
        have z22_0 := Mem.lt M22.1
        have c22_1_0 := Mem.cell (v := .string lS) M22.2.1 0 rfl
        have c22_1_1 := Mem.cell (v := .string lI) M22.2.1 1 rfl
        have z22_1 := Mem.lt M22.2.1
        have z22_2 := Mem.lt M22.2.2.1
        have z22_3 := Mem.lt M22.2.2.2.1
        cases fy with
        | false =>
          have HPF : Hid (hideS S2 lS lI = H0) := Lib.hid (by rw [HP3.out, if_neg (fun e => by cases e.2), HQ.out])
          go_upto_region 21 with (fail)
          go_wp2_with fail
          refine Calls.named ?_
          intro W23 hW23
          have hB23_ : Below w.heap.size w W23 := by rw [hW23]; exact hB22
          have hw23_ : LaidF (NF w) W23 := by rw [hW23]; exact hw22
          have M23_ := M22
          rw [← hW23] at M23_
          have hS23 : Below w22.heap.size w22 W23 := by rw [hW23]; exact (Below.refl _ _)
          have HT_ := hid_two HT hS23
          clear hS23 HT
          clear hW23
          have ZZ23_0 := Lib.hid (Mem.lt M23_.1)
          have ZZ23_1 := Lib.hid (Mem.lt M23_.2.1)
          have ZZ23_2 := Lib.hid (Mem.lt M23_.2.2.1)
          have ZZ23_3 := Lib.hid (Mem.lt M23_.2.2.2.1)
          clear z22_0 c22_1_0 c22_1_1 z22_1 z22_2 z22_3
          refine (hide_two w.heap.size _ p S2 lS lI HBD.out.1 HBD.out.2.1 _ (Lib.hid (HT_).out.left) hB23_.size (fun b hb => Or.elim hb (fun h => by rw [h]; exact ZZ23_3.out) fun hb => Or.elim hb (fun h => by rw [h]; exact ZZ23_2.out) fun hb => Or.elim hb (fun h => by rw [h]; exact ZZ23_1.out) fun h => by rw [h]; exact ZZ23_0.out) (by have := HL2.out; omega) (hw23_).laid).mono ?_
          rw [HPF.out]
          rintro e w23 ⟨qc, rfl, HQqc, hb23⟩
          have HT := hid_two HT_ hb23
          clear HT_
          have hB23 := below_then hB23_ hb23
          have hw23 := hw23_.below hb23
          have M23 := M23_.below hb23
          clear M23_ hB23_ hb23 hw23_
          have z23_0 := Mem.lt M23.1
          have c23_1_0 := Mem.cell (v := .string lS) M23.2.1 0 rfl
          have c23_1_1 := Mem.cell (v := .string lI) M23.2.1 1 rfl
          have z23_1 := Mem.lt M23.2.1
          have z23_2 := Mem.lt M23.2.2.1
          have z23_3 := Mem.lt M23.2.2.2.1
          go_wp2_with fail
          refine Calls.named ?_
          intro W24 hW24
          have hB24_ : Below w.heap.size w W24 := by rw [hW24]; exact hB23
          have hw24_ : LaidF (NF w) W24 := by rw [hW24]; exact hw23
          have M24_ := M23
          rw [← hW24] at M24_
          have hS24 : Below w23.heap.size w23 W24 := by rw [hW24]; exact (Below.refl _ _)
          have HT_ := hid_two HT hS24
          have HQqc_ := hid_one HQqc hS24
          clear hS24 HT HQqc
          clear hW24
          have ZZ24_0 := Lib.hid (Mem.lt M24_.1)
          have ZZ24_1 := Lib.hid (Mem.lt M24_.2.1)
          have ZZ24_2 := Lib.hid (Mem.lt M24_.2.2.1)
          have ZZ24_3 := Lib.hid (Mem.lt M24_.2.2.2.1)
          clear z23_0 c23_1_0 c23_1_1 z23_1 z23_2 z23_3
          refine (same_one _ _ _ _ qc q H0 H0 _ HQqc_ (Lib.hid (HT_).out.right) HLX.out HLX.out).mono ?_
          rw [show decide (H0 = H0) = true from decide_eq_true rfl]
          rintro e w24 ⟨rfl, hb24⟩
          have HT := hid_two HT_ hb24
          have HQqc := hid_one HQqc_ hb24
          clear HT_ HQqc_
          have hB24 := below_then hB24_ hb24
          have hw24 := hw24_.below hb24
          have M24 := M24_.below hb24
          clear M24_ hB24_ hb24 hw24_
          have z24_0 := Mem.lt M24.1
          have c24_1_0 := Mem.cell (v := .string lS) M24.2.1 0 rfl
          have c24_1_1 := Mem.cell (v := .string lI) M24.2.1 1 rfl
          have z24_1 := Mem.lt M24.2.1
          have z24_2 := Mem.lt M24.2.2.1
          have z24_3 := Mem.lt M24.2.2.2.1
          clear HQqc
          clear HPF
          cases tb with
          | false =>
            skip
            go_wp2_with fail
            go_ret
            exact ⟨rfl, hB24⟩
          | true =>
            exact absurd hE0 (HTB.out (by simp)).1
        | true =>
          skip
          go_upto_region 20 with (fail)
          refine wp_region_lit ?_
          iterate 6 go_step
          refine load_ox rfl _ rfl (w.heap.size + 1) rfl (q2) M22.2.2.1 ?_
          obtain ⟨H2, hH2⟩ : ∃ s, s = setT H0 key y1 := ⟨_, rfl⟩
          have HPF : Hid (hideS S2 lS lI = H2) := Lib.hid (by rw [HP3.out, if_pos ⟨by simp, by simp⟩, HQ.out, hH2])
          have HLX2 : Hid (H2.length ≤ 1000000) := Lib.hid (by rw [hH2, setT_len]; exact HLX.out)
          have HH2 := Lib.hid hH2
          clear hH2
          go_wp2_with fail
          refine Calls.named ?_
          intro W23 hW23
          have hB23_ : Below w.heap.size w W23 := by rw [hW23]; exact hB22
          have hw23_ : LaidF (NF w) W23 := by rw [hW23]; exact hw22
          have M23_ := M22
          rw [← hW23] at M23_
          have hS23 : Below w22.heap.size w22 W23 := by rw [hW23]; exact (Below.refl _ _)
          have HT_ := hid_two HT hS23
          clear hS23 HT
          clear hW23
          have ZZ23_0 := Lib.hid (Mem.lt M23_.1)
          have ZZ23_1 := Lib.hid (Mem.lt M23_.2.1)
          have ZZ23_2 := Lib.hid (Mem.lt M23_.2.2.1)
          have ZZ23_3 := Lib.hid (Mem.lt M23_.2.2.2.1)
          clear z22_0 c22_1_0 c22_1_1 z22_1 z22_2 z22_3
          refine (set_r w.heap.size _ p S2 q H0 key HKS.out y1 _ _ _ HT_ hB23_.size (fun b hb => Or.elim hb (fun h => by rw [h]; exact ZZ23_3.out) fun hb => Or.elim hb (fun h => by rw [h]; exact ZZ23_2.out) fun hb => Or.elim hb (fun h => by rw [h]; exact ZZ23_1.out) fun h => by rw [h]; exact ZZ23_0.out) HLX.out (HY1.out _ hB23_)).mono ?_
          rw [← HH2.out]
          rintro e w23 ⟨rfl, HT, hb23⟩
          have hB23 := KF.toBelow hb23 hB23_ hB23_.size (fun k h => h.1)
          have hw23 : LaidF (NF w) w23 := hw0.below hB23
          have M23 : Mem w23 [(w11.heap.size, .cells (ox ((z.raw ao co))) 32), (w.heap.size + 1 + 1, .cells #[.string lS, .string lI] 25), (w.heap.size + 1, .cells (ox (q2)) 32), (w.heap.size, .cells (ox (q1)) 32)] := ⟨mem_fx M23_.1 hb23 (by simp), mem_fx M23_.2.1 hb23 (by simp), mem_fx M23_.2.2.1 hb23 (by simp), mem_fx M23_.2.2.2.1 hb23 (by simp), trivial⟩
          clear HT_
          clear M23_ hB23_ hb23 hw23_
          have z23_0 := Mem.lt M23.1
          have c23_1_0 := Mem.cell (v := .string lS) M23.2.1 0 rfl
          have c23_1_1 := Mem.cell (v := .string lI) M23.2.1 1 rfl
          have z23_1 := Mem.lt M23.2.1
          have z23_2 := Mem.lt M23.2.2.1
          have z23_3 := Mem.lt M23.2.2.2.1
          clear HH2 HLX
          have HLX := HLX2
          clear HLX2
          go_upto_region 21 with (fail)
          go_wp2_with fail
          refine Calls.named ?_
          intro W24 hW24
          have hB24_ : Below w.heap.size w W24 := by rw [hW24]; exact hB23
          have hw24_ : LaidF (NF w) W24 := by rw [hW24]; exact hw23
          have M24_ := M23
          rw [← hW24] at M24_
          have hS24 : Below w23.heap.size w23 W24 := by rw [hW24]; exact (Below.refl _ _)
          have HT_ := hid_two HT hS24
          clear hS24 HT
          clear hW24
          have ZZ24_0 := Lib.hid (Mem.lt M24_.1)
          have ZZ24_1 := Lib.hid (Mem.lt M24_.2.1)
          have ZZ24_2 := Lib.hid (Mem.lt M24_.2.2.1)
          have ZZ24_3 := Lib.hid (Mem.lt M24_.2.2.2.1)
          clear z23_0 c23_1_0 c23_1_1 z23_1 z23_2 z23_3
          refine (hide_two w.heap.size _ p S2 lS lI HBD.out.1 HBD.out.2.1 _ (Lib.hid (HT_).out.left) hB24_.size (fun b hb => Or.elim hb (fun h => by rw [h]; exact ZZ24_3.out) fun hb => Or.elim hb (fun h => by rw [h]; exact ZZ24_2.out) fun hb => Or.elim hb (fun h => by rw [h]; exact ZZ24_1.out) fun h => by rw [h]; exact ZZ24_0.out) (by have := HL2.out; omega) (hw24_).laid).mono ?_
          rw [HPF.out]
          rintro e w24 ⟨qc, rfl, HQqc, hb24⟩
          have HT := hid_two HT_ hb24
          clear HT_
          have hB24 := below_then hB24_ hb24
          have hw24 := hw24_.below hb24
          have M24 := M24_.below hb24
          clear M24_ hB24_ hb24 hw24_
          have z24_0 := Mem.lt M24.1
          have c24_1_0 := Mem.cell (v := .string lS) M24.2.1 0 rfl
          have c24_1_1 := Mem.cell (v := .string lI) M24.2.1 1 rfl
          have z24_1 := Mem.lt M24.2.1
          have z24_2 := Mem.lt M24.2.2.1
          have z24_3 := Mem.lt M24.2.2.2.1
          go_wp2_with fail
          refine Calls.named ?_
          intro W25 hW25
          have hB25_ : Below w.heap.size w W25 := by rw [hW25]; exact hB24
          have hw25_ : LaidF (NF w) W25 := by rw [hW25]; exact hw24
          have M25_ := M24
          rw [← hW25] at M25_
          have hS25 : Below w24.heap.size w24 W25 := by rw [hW25]; exact (Below.refl _ _)
          have HT_ := hid_two HT hS25
          have HQqc_ := hid_one HQqc hS25
          clear hS25 HT HQqc
          clear hW25
          have ZZ25_0 := Lib.hid (Mem.lt M25_.1)
          have ZZ25_1 := Lib.hid (Mem.lt M25_.2.1)
          have ZZ25_2 := Lib.hid (Mem.lt M25_.2.2.1)
          have ZZ25_3 := Lib.hid (Mem.lt M25_.2.2.2.1)
          clear z24_0 c24_1_0 c24_1_1 z24_1 z24_2 z24_3
          refine (same_one _ _ _ _ qc q H2 H2 _ HQqc_ (Lib.hid (HT_).out.right) HLX.out HLX.out).mono ?_
          rw [show decide (H2 = H2) = true from decide_eq_true rfl]
          rintro e w25 ⟨rfl, hb25⟩
          have HT := hid_two HT_ hb25
          have HQqc := hid_one HQqc_ hb25
          clear HT_ HQqc_
          have hB25 := below_then hB25_ hb25
          have hw25 := hw25_.below hb25
          have M25 := M25_.below hb25
          clear M25_ hB25_ hb25 hw25_
          have z25_0 := Mem.lt M25.1
          have c25_1_0 := Mem.cell (v := .string lS) M25.2.1 0 rfl
          have c25_1_1 := Mem.cell (v := .string lI) M25.2.1 1 rfl
          have z25_1 := Mem.lt M25.2.1
          have z25_2 := Mem.lt M25.2.2.1
          have z25_3 := Mem.lt M25.2.2.2.1
          clear HQqc
          clear HPF
          cases tb with
          | false =>
            skip
            go_wp2_with fail
            go_ret
            exact ⟨rfl, hB25⟩
          | true =>
            exact absurd hE0 (HTB.out (by simp)).1
      · skip
        have HPF : Hid (hideS S2 lS lI = H0) := Lib.hid (by rw [HP3.out, if_neg (fun e => hF0 e.1), HQ.out])
        go_upto_region 21 with (fail)
        go_wp2_with fail
        refine Calls.named ?_
        intro W22 hW22
        have hB22_ : Below w.heap.size w W22 := by rw [hW22]; exact hB21
        have hw22_ : LaidF (NF w) W22 := by rw [hW22]; exact hw21
        have M22_ := M21
        rw [← hW22] at M22_
        have hS22 : Below w21.heap.size w21 W22 := by rw [hW22]; exact (Below.refl _ _)
        have HT_ := hid_two HT hS22
        clear hS22 HT
        clear hW22
        have ZZ22_0 := Lib.hid (Mem.lt M22_.1)
        have ZZ22_1 := Lib.hid (Mem.lt M22_.2.1)
        have ZZ22_2 := Lib.hid (Mem.lt M22_.2.2.1)
        have ZZ22_3 := Lib.hid (Mem.lt M22_.2.2.2.1)
        clear z21_0 c21_1_0 c21_1_1 z21_1 z21_2 z21_3 c21_2_1 c21_2_2
        refine (hide_two w.heap.size _ p S2 lS lI HBD.out.1 HBD.out.2.1 _ (Lib.hid (HT_).out.left) hB22_.size (fun b hb => Or.elim hb (fun h => by rw [h]; exact ZZ22_3.out) fun hb => Or.elim hb (fun h => by rw [h]; exact ZZ22_2.out) fun hb => Or.elim hb (fun h => by rw [h]; exact ZZ22_1.out) fun h => by rw [h]; exact ZZ22_0.out) (by have := HL2.out; omega) (hw22_).laid).mono ?_
        rw [HPF.out]
        rintro e w22 ⟨qc, rfl, HQqc, hb22⟩
        have HT := hid_two HT_ hb22
        clear HT_
        have hB22 := below_then hB22_ hb22
        have hw22 := hw22_.below hb22
        have M22 := M22_.below hb22
        clear M22_ hB22_ hb22 hw22_
        have z22_0 := Mem.lt M22.1
        have c22_1_0 := Mem.cell (v := .string lS) M22.2.1 0 rfl
        have c22_1_1 := Mem.cell (v := .string lI) M22.2.1 1 rfl
        have z22_1 := Mem.lt M22.2.1
        have z22_2 := Mem.lt M22.2.2.1
        have z22_3 := Mem.lt M22.2.2.2.1
        go_wp2_with fail
        refine Calls.named ?_
        intro W23 hW23
        have hB23_ : Below w.heap.size w W23 := by rw [hW23]; exact hB22
        have hw23_ : LaidF (NF w) W23 := by rw [hW23]; exact hw22
        have M23_ := M22
        rw [← hW23] at M23_
        have hS23 : Below w22.heap.size w22 W23 := by rw [hW23]; exact (Below.refl _ _)
        have HT_ := hid_two HT hS23
        have HQqc_ := hid_one HQqc hS23
        clear hS23 HT HQqc
        clear hW23
        have ZZ23_0 := Lib.hid (Mem.lt M23_.1)
        have ZZ23_1 := Lib.hid (Mem.lt M23_.2.1)
        have ZZ23_2 := Lib.hid (Mem.lt M23_.2.2.1)
        have ZZ23_3 := Lib.hid (Mem.lt M23_.2.2.2.1)
        clear z22_0 c22_1_0 c22_1_1 z22_1 z22_2 z22_3
        refine (same_one _ _ _ _ qc q H0 H0 _ HQqc_ (Lib.hid (HT_).out.right) HLX.out HLX.out).mono ?_
        rw [show decide (H0 = H0) = true from decide_eq_true rfl]
        rintro e w23 ⟨rfl, hb23⟩
        have HT := hid_two HT_ hb23
        have HQqc := hid_one HQqc_ hb23
        clear HT_ HQqc_
        have hB23 := below_then hB23_ hb23
        have hw23 := hw23_.below hb23
        have M23 := M23_.below hb23
        clear M23_ hB23_ hb23 hw23_
        have z23_0 := Mem.lt M23.1
        have c23_1_0 := Mem.cell (v := .string lS) M23.2.1 0 rfl
        have c23_1_1 := Mem.cell (v := .string lI) M23.2.1 1 rfl
        have z23_1 := Mem.lt M23.2.1
        have z23_2 := Mem.lt M23.2.2.1
        have z23_3 := Mem.lt M23.2.2.2.1
        clear HQqc
        clear HPF
        cases tb with
        | false =>
          skip
          go_wp2_with fail
          go_ret
          exact ⟨rfl, hB23⟩
        | true =>
          exact absurd hE0 (HTB.out (by simp)).1
    · skip
      have HQ : Hid (hideS S1 lS lI = H0) := Lib.hid (by rw [HP2.out, if_neg (fun e => hE0 e.1)])
      have HLX : Hid (H0.length ≤ 1000000) := Lib.hid (by have := HLH.out; omega)
      go_upto_region 16 with (fail)
      go_wp2_with fail
      refine Calls.named ?_
      intro W18 hW18
      have hB18_ : Below w.heap.size w W18 := by rw [hW18]; exact hB17
      have hw18_ : LaidF (NF w) W18 := by rw [hW18]; exact hw17
      have M18_ := M17
      rw [← hW18] at M18_
      have hS18 : Below w17.heap.size w17 W18 := by rw [hW18]; exact (Below.refl _ _)
      have HT_ := hid_two HT hS18
      clear hS18 HT
      clear hW18
      have ZZ18_0 := Lib.hid (Mem.lt M18_.1)
      have ZZ18_1 := Lib.hid (Mem.lt M18_.2.1)
      have ZZ18_2 := Lib.hid (Mem.lt M18_.2.2.1)
      have ZZ18_3 := Lib.hid (Mem.lt M18_.2.2.2.1)
      clear z17_0 c17_1_0 c17_1_1 z17_1 z17_2 z17_3 c17_3_1 c17_3_2
      refine (hide_two w.heap.size _ p S1 lS lI HBD.out.1 HBD.out.2.1 _ (Lib.hid (HT_).out.left) hB18_.size (fun b hb => Or.elim hb (fun h => by rw [h]; exact ZZ18_3.out) fun hb => Or.elim hb (fun h => by rw [h]; exact ZZ18_2.out) fun hb => Or.elim hb (fun h => by rw [h]; exact ZZ18_1.out) fun h => by rw [h]; exact ZZ18_0.out) (by have := HL1.out; omega) (hw18_).laid).mono ?_
      rw [HQ.out]
      rintro e w18 ⟨qb, rfl, HQqb, hb18⟩
      have HT := hid_two HT_ hb18
      clear HT_
      have hB18 := below_then hB18_ hb18
      have hw18 := hw18_.below hb18
      have M18 := M18_.below hb18
      clear M18_ hB18_ hb18 hw18_
      have z18_0 := Mem.lt M18.1
      have c18_1_0 := Mem.cell (v := .string lS) M18.2.1 0 rfl
      have c18_1_1 := Mem.cell (v := .string lI) M18.2.1 1 rfl
      have z18_1 := Mem.lt M18.2.1
      have z18_2 := Mem.lt M18.2.2.1
      have z18_3 := Mem.lt M18.2.2.2.1
      go_wp2_with fail
      refine Calls.named ?_
      intro W19 hW19
      have hB19_ : Below w.heap.size w W19 := by rw [hW19]; exact hB18
      have hw19_ : LaidF (NF w) W19 := by rw [hW19]; exact hw18
      have M19_ := M18
      rw [← hW19] at M19_
      have hS19 : Below w18.heap.size w18 W19 := by rw [hW19]; exact (Below.refl _ _)
      have HT_ := hid_two HT hS19
      have HQqb_ := hid_one HQqb hS19
      clear hS19 HT HQqb
      clear hW19
      have ZZ19_0 := Lib.hid (Mem.lt M19_.1)
      have ZZ19_1 := Lib.hid (Mem.lt M19_.2.1)
      have ZZ19_2 := Lib.hid (Mem.lt M19_.2.2.1)
      have ZZ19_3 := Lib.hid (Mem.lt M19_.2.2.2.1)
      clear z18_0 c18_1_0 c18_1_1 z18_1 z18_2 z18_3
      refine (same_one _ _ _ _ qb q H0 H0 _ HQqb_ (Lib.hid (HT_).out.right) HLX.out HLX.out).mono ?_
      rw [show decide (H0 = H0) = true from decide_eq_true rfl]
      rintro e w19 ⟨rfl, hb19⟩
      have HT := hid_two HT_ hb19
      have HQqb := hid_one HQqb_ hb19
      clear HT_ HQqb_
      have hB19 := below_then hB19_ hb19
      have hw19 := hw19_.below hb19
      have M19 := M19_.below hb19
      clear M19_ hB19_ hb19 hw19_
      have z19_0 := Mem.lt M19.1
      have c19_1_0 := Mem.cell (v := .string lS) M19.2.1 0 rfl
      have c19_1_1 := Mem.cell (v := .string lI) M19.2.1 1 rfl
      have z19_1 := Mem.lt M19.2.1
      have z19_2 := Mem.lt M19.2.2.1
      have z19_3 := Mem.lt M19.2.2.2.1
      clear HQqb
      go_upto_region 18 with (fail)
      refine wp_region_lit ?_
      iterate 6 go_step
      refine load_ox rfl _ rfl (w.heap.size + 1) rfl (q2) M19.2.2.1 ?_
      go_wp2_with fail
      refine Calls.named ?_
      intro W20 hW20
      have hB20_ : Below w.heap.size w W20 := by rw [hW20]; exact hB19
      have hw20_ : LaidF (NF w) W20 := by rw [hW20]; exact hw19
      have M20_ := M19
      rw [← hW20] at M20_
      have hS20 : Below w19.heap.size w19 W20 := by rw [hW20]; exact (Below.refl _ _)
      have HT_ := hid_two HT hS20
      clear hS20 HT
      clear hW20
      have ZZ20_0 := Lib.hid (Mem.lt M20_.1)
      have ZZ20_1 := Lib.hid (Mem.lt M20_.2.1)
      have ZZ20_2 := Lib.hid (Mem.lt M20_.2.2.1)
      have ZZ20_3 := Lib.hid (Mem.lt M20_.2.2.2.1)
      clear z19_0 c19_1_0 c19_1_1 z19_1 z19_2 z19_3
      refine (set_l w.heap.size _ p S1 q H0 key HKS.out y1 _ _ _ HT_ hB20_.size (fun b hb => Or.elim hb (fun h => by rw [h]; exact ZZ20_3.out) fun hb => Or.elim hb (fun h => by rw [h]; exact ZZ20_2.out) fun hb => Or.elim hb (fun h => by rw [h]; exact ZZ20_1.out) fun h => by rw [h]; exact ZZ20_0.out) (by have := HL1.out; omega) (HY1.out _ hB20_)).mono ?_
      rw [← HEQ.out.2.2.1, ← HEQ.out.2.2.2.1]
      rintro e w20 ⟨rfl, HT, hb20⟩
      have hB20 := KF.toBelow hb20 hB20_ hB20_.size (fun k h => h.1)
      have hw20 : LaidF (NF w) w20 := hw0.below hB20
      have M20 : Mem w20 [(w11.heap.size, .cells (ox ((z.raw ao co))) 32), (w.heap.size + 1 + 1, .cells #[.string lS, .string lI] 25), (w.heap.size + 1, .cells (ox (q2)) 32), (w.heap.size, .cells (ox (q1)) 32)] := ⟨mem_fx M20_.1 hb20 (by simp), mem_fx M20_.2.1 hb20 (by simp), mem_fx M20_.2.2.1 hb20 (by simp), mem_fx M20_.2.2.2.1 hb20 (by simp), trivial⟩
      clear HT_
      clear M20_ hB20_ hb20 hw20_
      have z20_0 := Mem.lt M20.1
      have c20_1_0 := Mem.cell (v := .string lS) M20.2.1 0 rfl
      have c20_1_1 := Mem.cell (v := .string lI) M20.2.1 1 rfl
      have z20_1 := Mem.lt M20.2.1
      have z20_2 := Mem.lt M20.2.2.1
      have z20_3 := Mem.lt M20.2.2.2.1
      go_upto_region 19 with (fail)
      have c20_2_1 := Mem.cell (v := .string q2.lS) M20.2.2.1 1 rfl
      have c20_2_2 := Mem.cell (v := .string q2.lI) M20.2.2.1 2 rfl
      by_cases hF0 : F = 0
      · subst hF0
        go_wp2_with fail
        refine Calls.named ?_
        intro W21 hW21
        have hB21_ : Below w.heap.size w W21 := by rw [hW21]; exact hB20
        have hw21_ : LaidF (NF w) W21 := by rw [hW21]; exact hw20
        have M21_ := M20
        rw [← hW21] at M21_
        have hS21 : Below w20.heap.size w20 W21 := by rw [hW21]; exact (Below.refl _ _)
        have HT_ := hid_two HT hS21
        clear hS21 HT
        clear hW21
        have ZZ21_0 := Lib.hid (Mem.lt M21_.1)
        have ZZ21_1 := Lib.hid (Mem.lt M21_.2.1)
        have ZZ21_2 := Lib.hid (Mem.lt M21_.2.2.1)
        have ZZ21_3 := Lib.hid (Mem.lt M21_.2.2.2.1)
        clear z20_0 c20_1_0 c20_1_1 z20_1 z20_2 z20_3 c20_2_1 c20_2_2
        refine (HFY.out _).mono ?_
        rintro e w21 ⟨rfl, hb21⟩
        have HT := hid_two HT_ hb21
        clear HT_
        have hB21 := below_then hB21_ hb21
        have hw21 := hw21_.below hb21
        have M21 := M21_.below hb21
        clear M21_ hB21_ hb21 hw21_
        have z21_0 := Mem.lt M21.1
        have c21_1_0 := Mem.cell (v := .string lS) M21.2.1 0 rfl
        have c21_1_1 := Mem.cell (v := .string lI) M21.2.1 1 rfl
        have z21_1 := Mem.lt M21.2.1
        have z21_2 := Mem.lt M21.2.2.1
        have z21_3 := Mem.lt M21.2.2.2.1
        cases fy with
        | false =>
          have HPF : Hid (hideS S2 lS lI = H0) := Lib.hid (by rw [HP3.out, if_neg (fun e => by cases e.2), HQ.out])
          go_upto_region 21 with (fail)
          go_wp2_with fail
          refine Calls.named ?_
          intro W22 hW22
          have hB22_ : Below w.heap.size w W22 := by rw [hW22]; exact hB21
          have hw22_ : LaidF (NF w) W22 := by rw [hW22]; exact hw21
          have M22_ := M21
          rw [← hW22] at M22_
          have hS22 : Below w21.heap.size w21 W22 := by rw [hW22]; exact (Below.refl _ _)
          have HT_ := hid_two HT hS22
          clear hS22 HT
          clear hW22
          have ZZ22_0 := Lib.hid (Mem.lt M22_.1)
          have ZZ22_1 := Lib.hid (Mem.lt M22_.2.1)
          have ZZ22_2 := Lib.hid (Mem.lt M22_.2.2.1)
          have ZZ22_3 := Lib.hid (Mem.lt M22_.2.2.2.1)
          clear z21_0 c21_1_0 c21_1_1 z21_1 z21_2 z21_3
          refine (hide_two w.heap.size _ p S2 lS lI HBD.out.1 HBD.out.2.1 _ (Lib.hid (HT_).out.left) hB22_.size (fun b hb => Or.elim hb (fun h => by rw [h]; exact ZZ22_3.out) fun hb => Or.elim hb (fun h => by rw [h]; exact ZZ22_2.out) fun hb => Or.elim hb (fun h => by rw [h]; exact ZZ22_1.out) fun h => by rw [h]; exact ZZ22_0.out) (by have := HL2.out; omega) (hw22_).laid).mono ?_
          rw [HPF.out]
          rintro e w22 ⟨qc, rfl, HQqc, hb22⟩
          have HT := hid_two HT_ hb22
          clear HT_
          have hB22 := below_then hB22_ hb22
          have hw22 := hw22_.below hb22
          have M22 := M22_.below hb22
          clear M22_ hB22_ hb22 hw22_
          have z22_0 := Mem.lt M22.1
          have c22_1_0 := Mem.cell (v := .string lS) M22.2.1 0 rfl
          have c22_1_1 := Mem.cell (v := .string lI) M22.2.1 1 rfl
          have z22_1 := Mem.lt M22.2.1
          have z22_2 := Mem.lt M22.2.2.1
          have z22_3 := Mem.lt M22.2.2.2.1
          go_wp2_with fail
          refine Calls.named ?_
          intro W23 hW23
          have hB23_ : Below w.heap.size w W23 := by rw [hW23]; exact hB22
          have hw23_ : LaidF (NF w) W23 := by rw [hW23]; exact hw22
          have M23_ := M22
          rw [← hW23] at M23_
          have hS23 : Below w22.heap.size w22 W23 := by rw [hW23]; exact (Below.refl _ _)
          have HT_ := hid_two HT hS23
          have HQqc_ := hid_one HQqc hS23
          clear hS23 HT HQqc
          clear hW23
          have ZZ23_0 := Lib.hid (Mem.lt M23_.1)
          have ZZ23_1 := Lib.hid (Mem.lt M23_.2.1)
          have ZZ23_2 := Lib.hid (Mem.lt M23_.2.2.1)
          have ZZ23_3 := Lib.hid (Mem.lt M23_.2.2.2.1)
          clear z22_0 c22_1_0 c22_1_1 z22_1 z22_2 z22_3
          refine (same_one _ _ _ _ qc q H0 H0 _ HQqc_ (Lib.hid (HT_).out.right) HLX.out HLX.out).mono ?_
          rw [show decide (H0 = H0) = true from decide_eq_true rfl]
          rintro e w23 ⟨rfl, hb23⟩
          have HT := hid_two HT_ hb23
          have HQqc := hid_one HQqc_ hb23
          clear HT_ HQqc_
          have hB23 := below_then hB23_ hb23
          have hw23 := hw23_.below hb23
          have M23 := M23_.below hb23
          clear M23_ hB23_ hb23 hw23_
          have z23_0 := Mem.lt M23.1
          have c23_1_0 := Mem.cell (v := .string lS) M23.2.1 0 rfl
          have c23_1_1 := Mem.cell (v := .string lI) M23.2.1 1 rfl
          have z23_1 := Mem.lt M23.2.1
          have z23_2 := Mem.lt M23.2.2.1
          have z23_3 := Mem.lt M23.2.2.2.1
          clear HQqc
          clear HPF
          cases tb with
          | false =>
            skip
            go_wp2_with fail
            go_ret
            exact ⟨rfl, hB23⟩
          | true =>
            skip
            have ht := HTB.out (by simp)
            have hz3 : (3 : Int) ≤ (z.raw ao co).kd := ht.2
            have hz4 : decide ((3 : Int) ≤ (z.raw ao co).kd) = true := decide_eq_true hz3
            have hE2 : (E != 0) = true := by simpa using hE0
            clear ht
            have c23_0_0 := Mem.cell (v := .int .i64 (z.raw ao co).kd) M23.1 0 rfl
            go_wp2_with fail
            go_ret
            exact ⟨rfl, hB23⟩
        | true =>
          skip
          go_upto_region 20 with (fail)
          refine wp_region_lit ?_
          iterate 6 go_step
          refine load_ox rfl _ rfl (w.heap.size + 1) rfl (q2) M21.2.2.1 ?_
          obtain ⟨H2, hH2⟩ : ∃ s, s = setT H0 key y1 := ⟨_, rfl⟩
          have HPF : Hid (hideS S2 lS lI = H2) := Lib.hid (by rw [HP3.out, if_pos ⟨by simp, by simp⟩, HQ.out, hH2])
          have HLX2 : Hid (H2.length ≤ 1000000) := Lib.hid (by rw [hH2, setT_len]; exact HLX.out)
          have HH2 := Lib.hid hH2
          clear hH2
          go_wp2_with fail
          refine Calls.named ?_
          intro W22 hW22
          have hB22_ : Below w.heap.size w W22 := by rw [hW22]; exact hB21
          have hw22_ : LaidF (NF w) W22 := by rw [hW22]; exact hw21
          have M22_ := M21
          rw [← hW22] at M22_
          have hS22 : Below w21.heap.size w21 W22 := by rw [hW22]; exact (Below.refl _ _)
          have HT_ := hid_two HT hS22
          clear hS22 HT
          clear hW22
          have ZZ22_0 := Lib.hid (Mem.lt M22_.1)
          have ZZ22_1 := Lib.hid (Mem.lt M22_.2.1)
          have ZZ22_2 := Lib.hid (Mem.lt M22_.2.2.1)
          have ZZ22_3 := Lib.hid (Mem.lt M22_.2.2.2.1)
          clear z21_0 c21_1_0 c21_1_1 z21_1 z21_2 z21_3
          refine (set_r w.heap.size _ p S2 q H0 key HKS.out y1 _ _ _ HT_ hB22_.size (fun b hb => Or.elim hb (fun h => by rw [h]; exact ZZ22_3.out) fun hb => Or.elim hb (fun h => by rw [h]; exact ZZ22_2.out) fun hb => Or.elim hb (fun h => by rw [h]; exact ZZ22_1.out) fun h => by rw [h]; exact ZZ22_0.out) HLX.out (HY1.out _ hB22_)).mono ?_
          rw [← HH2.out]
          rintro e w22 ⟨rfl, HT, hb22⟩
          have hB22 := KF.toBelow hb22 hB22_ hB22_.size (fun k h => h.1)
          have hw22 : LaidF (NF w) w22 := hw0.below hB22
          have M22 : Mem w22 [(w11.heap.size, .cells (ox ((z.raw ao co))) 32), (w.heap.size + 1 + 1, .cells #[.string lS, .string lI] 25), (w.heap.size + 1, .cells (ox (q2)) 32), (w.heap.size, .cells (ox (q1)) 32)] := ⟨mem_fx M22_.1 hb22 (by simp), mem_fx M22_.2.1 hb22 (by simp), mem_fx M22_.2.2.1 hb22 (by simp), mem_fx M22_.2.2.2.1 hb22 (by simp), trivial⟩
          clear HT_
          clear M22_ hB22_ hb22 hw22_
          have z22_0 := Mem.lt M22.1
          have c22_1_0 := Mem.cell (v := .string lS) M22.2.1 0 rfl
          have c22_1_1 := Mem.cell (v := .string lI) M22.2.1 1 rfl
          have z22_1 := Mem.lt M22.2.1
          have z22_2 := Mem.lt M22.2.2.1
          have z22_3 := Mem.lt M22.2.2.2.1
          clear HH2 HLX
          have HLX := HLX2
          clear HLX2
          go_upto_region 21 with (fail)
          go_wp2_with fail
          refine Calls.named ?_
          intro W23 hW23
          have hB23_ : Below w.heap.size w W23 := by rw [hW23]; exact hB22
          have hw23_ : LaidF (NF w) W23 := by rw [hW23]; exact hw22
          have M23_ := M22
          rw [← hW23] at M23_
          have hS23 : Below w22.heap.size w22 W23 := by rw [hW23]; exact (Below.refl _ _)
          have HT_ := hid_two HT hS23
          clear hS23 HT
          clear hW23
          have ZZ23_0 := Lib.hid (Mem.lt M23_.1)
          have ZZ23_1 := Lib.hid (Mem.lt M23_.2.1)
          have ZZ23_2 := Lib.hid (Mem.lt M23_.2.2.1)
          have ZZ23_3 := Lib.hid (Mem.lt M23_.2.2.2.1)
          clear z22_0 c22_1_0 c22_1_1 z22_1 z22_2 z22_3
          refine (hide_two w.heap.size _ p S2 lS lI HBD.out.1 HBD.out.2.1 _ (Lib.hid (HT_).out.left) hB23_.size (fun b hb => Or.elim hb (fun h => by rw [h]; exact ZZ23_3.out) fun hb => Or.elim hb (fun h => by rw [h]; exact ZZ23_2.out) fun hb => Or.elim hb (fun h => by rw [h]; exact ZZ23_1.out) fun h => by rw [h]; exact ZZ23_0.out) (by have := HL2.out; omega) (hw23_).laid).mono ?_
          rw [HPF.out]
          rintro e w23 ⟨qc, rfl, HQqc, hb23⟩
          have HT := hid_two HT_ hb23
          clear HT_
          have hB23 := below_then hB23_ hb23
          have hw23 := hw23_.below hb23
          have M23 := M23_.below hb23
          clear M23_ hB23_ hb23 hw23_
          have z23_0 := Mem.lt M23.1
          have c23_1_0 := Mem.cell (v := .string lS) M23.2.1 0 rfl
          have c23_1_1 := Mem.cell (v := .string lI) M23.2.1 1 rfl
          have z23_1 := Mem.lt M23.2.1
          have z23_2 := Mem.lt M23.2.2.1
          have z23_3 := Mem.lt M23.2.2.2.1
          go_wp2_with fail
          refine Calls.named ?_
          intro W24 hW24
          have hB24_ : Below w.heap.size w W24 := by rw [hW24]; exact hB23
          have hw24_ : LaidF (NF w) W24 := by rw [hW24]; exact hw23
          have M24_ := M23
          rw [← hW24] at M24_
          have hS24 : Below w23.heap.size w23 W24 := by rw [hW24]; exact (Below.refl _ _)
          have HT_ := hid_two HT hS24
          have HQqc_ := hid_one HQqc hS24
          clear hS24 HT HQqc
          clear hW24
          have ZZ24_0 := Lib.hid (Mem.lt M24_.1)
          have ZZ24_1 := Lib.hid (Mem.lt M24_.2.1)
          have ZZ24_2 := Lib.hid (Mem.lt M24_.2.2.1)
          have ZZ24_3 := Lib.hid (Mem.lt M24_.2.2.2.1)
          clear z23_0 c23_1_0 c23_1_1 z23_1 z23_2 z23_3
          refine (same_one _ _ _ _ qc q H2 H2 _ HQqc_ (Lib.hid (HT_).out.right) HLX.out HLX.out).mono ?_
          rw [show decide (H2 = H2) = true from decide_eq_true rfl]
          rintro e w24 ⟨rfl, hb24⟩
          have HT := hid_two HT_ hb24
          have HQqc := hid_one HQqc_ hb24
          clear HT_ HQqc_
          have hB24 := below_then hB24_ hb24
          have hw24 := hw24_.below hb24
          have M24 := M24_.below hb24
          clear M24_ hB24_ hb24 hw24_
          have z24_0 := Mem.lt M24.1
          have c24_1_0 := Mem.cell (v := .string lS) M24.2.1 0 rfl
          have c24_1_1 := Mem.cell (v := .string lI) M24.2.1 1 rfl
          have z24_1 := Mem.lt M24.2.1
          have z24_2 := Mem.lt M24.2.2.1
          have z24_3 := Mem.lt M24.2.2.2.1
          clear HQqc
          clear HPF
          cases tb with
          | false =>
            skip
            go_wp2_with fail
            go_ret
            exact ⟨rfl, hB24⟩
          | true =>
            skip
            have ht := HTB.out (by simp)
            have hz3 : (3 : Int) ≤ (z.raw ao co).kd := ht.2
            have hz4 : decide ((3 : Int) ≤ (z.raw ao co).kd) = true := decide_eq_true hz3
            have hE2 : (E != 0) = true := by simpa using hE0
            clear ht
            have c24_0_0 := Mem.cell (v := .int .i64 (z.raw ao co).kd) M24.1 0 rfl
            go_wp2_with fail
            go_ret
            exact ⟨rfl, hB24⟩
      · skip
        have HPF : Hid (hideS S2 lS lI = H0) := Lib.hid (by rw [HP3.out, if_neg (fun e => hF0 e.1), HQ.out])
        go_upto_region 21 with (fail)
        go_wp2_with fail
        refine Calls.named ?_
        intro W21 hW21
        have hB21_ : Below w.heap.size w W21 := by rw [hW21]; exact hB20
        have hw21_ : LaidF (NF w) W21 := by rw [hW21]; exact hw20
        have M21_ := M20
        rw [← hW21] at M21_
        have hS21 : Below w20.heap.size w20 W21 := by rw [hW21]; exact (Below.refl _ _)
        have HT_ := hid_two HT hS21
        clear hS21 HT
        clear hW21
        have ZZ21_0 := Lib.hid (Mem.lt M21_.1)
        have ZZ21_1 := Lib.hid (Mem.lt M21_.2.1)
        have ZZ21_2 := Lib.hid (Mem.lt M21_.2.2.1)
        have ZZ21_3 := Lib.hid (Mem.lt M21_.2.2.2.1)
        clear z20_0 c20_1_0 c20_1_1 z20_1 z20_2 z20_3 c20_2_1 c20_2_2
        refine (hide_two w.heap.size _ p S2 lS lI HBD.out.1 HBD.out.2.1 _ (Lib.hid (HT_).out.left) hB21_.size (fun b hb => Or.elim hb (fun h => by rw [h]; exact ZZ21_3.out) fun hb => Or.elim hb (fun h => by rw [h]; exact ZZ21_2.out) fun hb => Or.elim hb (fun h => by rw [h]; exact ZZ21_1.out) fun h => by rw [h]; exact ZZ21_0.out) (by have := HL2.out; omega) (hw21_).laid).mono ?_
        rw [HPF.out]
        rintro e w21 ⟨qc, rfl, HQqc, hb21⟩
        have HT := hid_two HT_ hb21
        clear HT_
        have hB21 := below_then hB21_ hb21
        have hw21 := hw21_.below hb21
        have M21 := M21_.below hb21
        clear M21_ hB21_ hb21 hw21_
        have z21_0 := Mem.lt M21.1
        have c21_1_0 := Mem.cell (v := .string lS) M21.2.1 0 rfl
        have c21_1_1 := Mem.cell (v := .string lI) M21.2.1 1 rfl
        have z21_1 := Mem.lt M21.2.1
        have z21_2 := Mem.lt M21.2.2.1
        have z21_3 := Mem.lt M21.2.2.2.1
        go_wp2_with fail
        refine Calls.named ?_
        intro W22 hW22
        have hB22_ : Below w.heap.size w W22 := by rw [hW22]; exact hB21
        have hw22_ : LaidF (NF w) W22 := by rw [hW22]; exact hw21
        have M22_ := M21
        rw [← hW22] at M22_
        have hS22 : Below w21.heap.size w21 W22 := by rw [hW22]; exact (Below.refl _ _)
        have HT_ := hid_two HT hS22
        have HQqc_ := hid_one HQqc hS22
        clear hS22 HT HQqc
        clear hW22
        have ZZ22_0 := Lib.hid (Mem.lt M22_.1)
        have ZZ22_1 := Lib.hid (Mem.lt M22_.2.1)
        have ZZ22_2 := Lib.hid (Mem.lt M22_.2.2.1)
        have ZZ22_3 := Lib.hid (Mem.lt M22_.2.2.2.1)
        clear z21_0 c21_1_0 c21_1_1 z21_1 z21_2 z21_3
        refine (same_one _ _ _ _ qc q H0 H0 _ HQqc_ (Lib.hid (HT_).out.right) HLX.out HLX.out).mono ?_
        rw [show decide (H0 = H0) = true from decide_eq_true rfl]
        rintro e w22 ⟨rfl, hb22⟩
        have HT := hid_two HT_ hb22
        have HQqc := hid_one HQqc_ hb22
        clear HT_ HQqc_
        have hB22 := below_then hB22_ hb22
        have hw22 := hw22_.below hb22
        have M22 := M22_.below hb22
        clear M22_ hB22_ hb22 hw22_
        have z22_0 := Mem.lt M22.1
        have c22_1_0 := Mem.cell (v := .string lS) M22.2.1 0 rfl
        have c22_1_1 := Mem.cell (v := .string lI) M22.2.1 1 rfl
        have z22_1 := Mem.lt M22.2.1
        have z22_2 := Mem.lt M22.2.2.1
        have z22_3 := Mem.lt M22.2.2.2.1
        clear HQqc
        clear HPF
        cases tb with
        | false =>
          skip
          go_wp2_with fail
          go_ret
          exact ⟨rfl, hB22⟩
        | true =>
          skip
          have ht := HTB.out (by simp)
          have hz3 : (3 : Int) ≤ (z.raw ao co).kd := ht.2
          have hz4 : decide ((3 : Int) ≤ (z.raw ao co).kd) = true := decide_eq_true hz3
          have hE2 : (E != 0) = true := by simpa using hE0
          clear ht
          have c22_0_0 := Mem.cell (v := .int .i64 (z.raw ao co).kd) M22.1 0 rfl
          go_wp2_with fail
          go_ret
          exact ⟨rfl, hB22⟩
  | true =>
    skip
    go_upto_region 14 with (fail)
    have c15_3_1 := Mem.cell (v := .string q1.lS) M15.2.2.2.1 1 rfl
    have c15_3_2 := Mem.cell (v := .string q1.lI) M15.2.2.2.1 2 rfl
    by_cases hE0 : E = 0
    · skip
      go_wp2_with fail
      refine Calls.named ?_
      intro W16 hW16
      have hB16_ : Below w.heap.size w W16 := by rw [hW16]; exact hB15
      have hw16_ : LaidF (NF w) W16 := by rw [hW16]; exact hw15
      have M16_ := M15
      rw [← hW16] at M16_
      have hS16 : Below w15.heap.size w15 W16 := by rw [hW16]; exact (Below.refl _ _)
      have HT_ := hid_two HT hS16
      clear hS16 HT
      clear hW16
      have ZZ16_0 := Lib.hid (Mem.lt M16_.1)
      have ZZ16_1 := Lib.hid (Mem.lt M16_.2.1)
      have ZZ16_2 := Lib.hid (Mem.lt M16_.2.2.1)
      have ZZ16_3 := Lib.hid (Mem.lt M16_.2.2.2.1)
      clear z15_0 c15_1_0 c15_1_1 z15_1 z15_2 z15_3 c15_3_1 c15_3_2
      refine (HFX.out _).mono ?_
      rintro e w16 ⟨rfl, hb16⟩
      have HT := hid_two HT_ hb16
      clear HT_
      have hB16 := below_then hB16_ hb16
      have hw16 := hw16_.below hb16
      have M16 := M16_.below hb16
      clear M16_ hB16_ hb16 hw16_
      have z16_0 := Mem.lt M16.1
      have c16_1_0 := Mem.cell (v := .string lS) M16.2.1 0 rfl
      have c16_1_1 := Mem.cell (v := .string lI) M16.2.1 1 rfl
      have z16_1 := Mem.lt M16.2.1
      have z16_2 := Mem.lt M16.2.2.1
      have z16_3 := Mem.lt M16.2.2.2.1
      go_upto_region 15 with (fail)
      refine wp_region_lit ?_
      iterate 6 go_step
      refine load_ox rfl _ rfl (w.heap.size) rfl (q1) M16.2.2.2.1 ?_
      obtain ⟨H1, hH1⟩ : ∃ s, s = addT H0 key x1 := ⟨_, rfl⟩
      have HQ : Hid (hideS S1 lS lI = H1) := Lib.hid (by rw [HP2.out, if_pos ⟨hE0, by simp⟩, hH1])
      have HLX : Hid (H1.length ≤ 1000000) := Lib.hid (by rw [← HQ.out]; have := hideS_length S1 lS lI; have := HL1.out; omega)
      have HH1 := Lib.hid hH1
      clear hH1
      go_wp2_with fail
      refine Calls.named ?_
      intro W17 hW17
      have hB17_ : Below w.heap.size w W17 := by rw [hW17]; exact hB16
      have hw17_ : LaidF (NF w) W17 := by rw [hW17]; exact hw16
      have M17_ := M16
      rw [← hW17] at M17_
      have hS17 : Below w16.heap.size w16 W17 := by rw [hW17]; exact (Below.refl _ _)
      have HT_ := hid_two HT hS17
      clear hS17 HT
      clear hW17
      have ZZ17_0 := Lib.hid (Mem.lt M17_.1)
      have ZZ17_1 := Lib.hid (Mem.lt M17_.2.1)
      have ZZ17_2 := Lib.hid (Mem.lt M17_.2.2.1)
      have ZZ17_3 := Lib.hid (Mem.lt M17_.2.2.2.1)
      clear z16_0 c16_1_0 c16_1_1 z16_1 z16_2 z16_3
      refine (add_r w.heap.size _ p S1 q H0 key HKS.out x1 _ _ _ HT_ hB17_.size (fun b hb => Or.elim hb (fun h => by rw [h]; exact ZZ17_3.out) fun hb => Or.elim hb (fun h => by rw [h]; exact ZZ17_2.out) fun hb => Or.elim hb (fun h => by rw [h]; exact ZZ17_1.out) fun h => by rw [h]; exact ZZ17_0.out) (by have := HLH.out; omega) (HX1.out _ hB17_) HBD.out.2.2.1 HBD.out.2.2.2 hw17_).mono ?_
      rw [← HH1.out]
      rintro e w17 ⟨rfl, HT, hb17⟩
      have hB17 := KF.toBelow hb17 hB17_ hB17_.size (fun k h => h.1)
      have hw17 : LaidF (NF w) w17 := hw0.below hB17
      have M17 : Mem w17 [(w11.heap.size, .cells (ox ((z.raw ao co))) 32), (w.heap.size + 1 + 1, .cells #[.string lS, .string lI] 25), (w.heap.size + 1, .cells (ox (q2)) 32), (w.heap.size, .cells (ox (q1)) 32)] := ⟨mem_fx M17_.1 hb17 (by simp), mem_fx M17_.2.1 hb17 (by simp), mem_fx M17_.2.2.1 hb17 (by simp), mem_fx M17_.2.2.2.1 hb17 (by simp), trivial⟩
      clear HT_
      clear M17_ hB17_ hb17 hw17_
      have z17_0 := Mem.lt M17.1
      have c17_1_0 := Mem.cell (v := .string lS) M17.2.1 0 rfl
      have c17_1_1 := Mem.cell (v := .string lI) M17.2.1 1 rfl
      have z17_1 := Mem.lt M17.2.1
      have z17_2 := Mem.lt M17.2.2.1
      have z17_3 := Mem.lt M17.2.2.2.1
      clear HH1
      go_upto_region 16 with (fail)
      go_wp2_with fail
      refine Calls.named ?_
      intro W18 hW18
      have hB18_ : Below w.heap.size w W18 := by rw [hW18]; exact hB17
      have hw18_ : LaidF (NF w) W18 := by rw [hW18]; exact hw17
      have M18_ := M17
      rw [← hW18] at M18_
      have hS18 : Below w17.heap.size w17 W18 := by rw [hW18]; exact (Below.refl _ _)
      have HT_ := hid_two HT hS18
      clear hS18 HT
      clear hW18
      have ZZ18_0 := Lib.hid (Mem.lt M18_.1)
      have ZZ18_1 := Lib.hid (Mem.lt M18_.2.1)
      have ZZ18_2 := Lib.hid (Mem.lt M18_.2.2.1)
      have ZZ18_3 := Lib.hid (Mem.lt M18_.2.2.2.1)
      clear z17_0 c17_1_0 c17_1_1 z17_1 z17_2 z17_3
      refine (hide_two w.heap.size _ p S1 lS lI HBD.out.1 HBD.out.2.1 _ (Lib.hid (HT_).out.left) hB18_.size (fun b hb => Or.elim hb (fun h => by rw [h]; exact ZZ18_3.out) fun hb => Or.elim hb (fun h => by rw [h]; exact ZZ18_2.out) fun hb => Or.elim hb (fun h => by rw [h]; exact ZZ18_1.out) fun h => by rw [h]; exact ZZ18_0.out) (by have := HL1.out; omega) (hw18_).laid).mono ?_
      rw [HQ.out]
      rintro e w18 ⟨qb, rfl, HQqb, hb18⟩
      have HT := hid_two HT_ hb18
      clear HT_
      have hB18 := below_then hB18_ hb18
      have hw18 := hw18_.below hb18
      have M18 := M18_.below hb18
      clear M18_ hB18_ hb18 hw18_
      have z18_0 := Mem.lt M18.1
      have c18_1_0 := Mem.cell (v := .string lS) M18.2.1 0 rfl
      have c18_1_1 := Mem.cell (v := .string lI) M18.2.1 1 rfl
      have z18_1 := Mem.lt M18.2.1
      have z18_2 := Mem.lt M18.2.2.1
      have z18_3 := Mem.lt M18.2.2.2.1
      go_wp2_with fail
      refine Calls.named ?_
      intro W19 hW19
      have hB19_ : Below w.heap.size w W19 := by rw [hW19]; exact hB18
      have hw19_ : LaidF (NF w) W19 := by rw [hW19]; exact hw18
      have M19_ := M18
      rw [← hW19] at M19_
      have hS19 : Below w18.heap.size w18 W19 := by rw [hW19]; exact (Below.refl _ _)
      have HT_ := hid_two HT hS19
      have HQqb_ := hid_one HQqb hS19
      clear hS19 HT HQqb
      clear hW19
      have ZZ19_0 := Lib.hid (Mem.lt M19_.1)
      have ZZ19_1 := Lib.hid (Mem.lt M19_.2.1)
      have ZZ19_2 := Lib.hid (Mem.lt M19_.2.2.1)
      have ZZ19_3 := Lib.hid (Mem.lt M19_.2.2.2.1)
      clear z18_0 c18_1_0 c18_1_1 z18_1 z18_2 z18_3
      refine (same_one _ _ _ _ qb q H1 H1 _ HQqb_ (Lib.hid (HT_).out.right) HLX.out HLX.out).mono ?_
      rw [show decide (H1 = H1) = true from decide_eq_true rfl]
      rintro e w19 ⟨rfl, hb19⟩
      have HT := hid_two HT_ hb19
      have HQqb := hid_one HQqb_ hb19
      clear HT_ HQqb_
      have hB19 := below_then hB19_ hb19
      have hw19 := hw19_.below hb19
      have M19 := M19_.below hb19
      clear M19_ hB19_ hb19 hw19_
      have z19_0 := Mem.lt M19.1
      have c19_1_0 := Mem.cell (v := .string lS) M19.2.1 0 rfl
      have c19_1_1 := Mem.cell (v := .string lI) M19.2.1 1 rfl
      have z19_1 := Mem.lt M19.2.1
      have z19_2 := Mem.lt M19.2.2.1
      have z19_3 := Mem.lt M19.2.2.2.1
      clear HQqb
      go_upto_region 18 with (fail)
      refine wp_region_lit ?_
      iterate 6 go_step
      refine load_ox rfl _ rfl (w.heap.size + 1) rfl (q2) M19.2.2.1 ?_
      go_wp2_with fail
      refine Calls.named ?_
      intro W20 hW20
      have hB20_ : Below w.heap.size w W20 := by rw [hW20]; exact hB19
      have hw20_ : LaidF (NF w) W20 := by rw [hW20]; exact hw19
      have M20_ := M19
      rw [← hW20] at M20_
      have hS20 : Below w19.heap.size w19 W20 := by rw [hW20]; exact (Below.refl _ _)
      have HT_ := hid_two HT hS20
      clear hS20 HT
      clear hW20
      have ZZ20_0 := Lib.hid (Mem.lt M20_.1)
      have ZZ20_1 := Lib.hid (Mem.lt M20_.2.1)
      have ZZ20_2 := Lib.hid (Mem.lt M20_.2.2.1)
      have ZZ20_3 := Lib.hid (Mem.lt M20_.2.2.2.1)
      clear z19_0 c19_1_0 c19_1_1 z19_1 z19_2 z19_3
      refine (set_l w.heap.size _ p S1 q H1 key HKS.out y1 _ _ _ HT_ hB20_.size (fun b hb => Or.elim hb (fun h => by rw [h]; exact ZZ20_3.out) fun hb => Or.elim hb (fun h => by rw [h]; exact ZZ20_2.out) fun hb => Or.elim hb (fun h => by rw [h]; exact ZZ20_1.out) fun h => by rw [h]; exact ZZ20_0.out) (by have := HL1.out; omega) (HY1.out _ hB20_)).mono ?_
      rw [← HEQ.out.2.2.1, ← HEQ.out.2.2.2.1]
      rintro e w20 ⟨rfl, HT, hb20⟩
      have hB20 := KF.toBelow hb20 hB20_ hB20_.size (fun k h => h.1)
      have hw20 : LaidF (NF w) w20 := hw0.below hB20
      have M20 : Mem w20 [(w11.heap.size, .cells (ox ((z.raw ao co))) 32), (w.heap.size + 1 + 1, .cells #[.string lS, .string lI] 25), (w.heap.size + 1, .cells (ox (q2)) 32), (w.heap.size, .cells (ox (q1)) 32)] := ⟨mem_fx M20_.1 hb20 (by simp), mem_fx M20_.2.1 hb20 (by simp), mem_fx M20_.2.2.1 hb20 (by simp), mem_fx M20_.2.2.2.1 hb20 (by simp), trivial⟩
      clear HT_
      clear M20_ hB20_ hb20 hw20_
      have z20_0 := Mem.lt M20.1
      have c20_1_0 := Mem.cell (v := .string lS) M20.2.1 0 rfl
      have c20_1_1 := Mem.cell (v := .string lI) M20.2.1 1 rfl
      have z20_1 := Mem.lt M20.2.1
      have z20_2 := Mem.lt M20.2.2.1
      have z20_3 := Mem.lt M20.2.2.2.1
      go_upto_region 19 with (fail)
      have c20_2_1 := Mem.cell (v := .string q2.lS) M20.2.2.1 1 rfl
      have c20_2_2 := Mem.cell (v := .string q2.lI) M20.2.2.1 2 rfl
      by_cases hF0 : F = 0
      · subst hF0
        go_wp2_with fail
        refine Calls.named ?_
        intro W21 hW21
        have hB21_ : Below w.heap.size w W21 := by rw [hW21]; exact hB20
        have hw21_ : LaidF (NF w) W21 := by rw [hW21]; exact hw20
        have M21_ := M20
        rw [← hW21] at M21_
        have hS21 : Below w20.heap.size w20 W21 := by rw [hW21]; exact (Below.refl _ _)
        have HT_ := hid_two HT hS21
        clear hS21 HT
        clear hW21
        have ZZ21_0 := Lib.hid (Mem.lt M21_.1)
        have ZZ21_1 := Lib.hid (Mem.lt M21_.2.1)
        have ZZ21_2 := Lib.hid (Mem.lt M21_.2.2.1)
        have ZZ21_3 := Lib.hid (Mem.lt M21_.2.2.2.1)
        clear z20_0 c20_1_0 c20_1_1 z20_1 z20_2 z20_3 c20_2_1 c20_2_2
        refine (HFY.out _).mono ?_
        rintro e w21 ⟨rfl, hb21⟩
        have HT := hid_two HT_ hb21
        clear HT_
        have hB21 := below_then hB21_ hb21
        have hw21 := hw21_.below hb21
        have M21 := M21_.below hb21
        clear M21_ hB21_ hb21 hw21_
        have z21_0 := Mem.lt M21.1
        have c21_1_0 := Mem.cell (v := .string lS) M21.2.1 0 rfl
        have c21_1_1 := Mem.cell (v := .string lI) M21.2.1 1 rfl
        have z21_1 := Mem.lt M21.2.1
        have z21_2 := Mem.lt M21.2.2.1
        have z21_3 := Mem.lt M21.2.2.2.1
        cases fy with
        | false =>
          have HPF : Hid (hideS S2 lS lI = H1) := Lib.hid (by rw [HP3.out, if_neg (fun e => by cases e.2), HQ.out])
          go_upto_region 21 with (fail)
          go_wp2_with fail
          refine Calls.named ?_
          intro W22 hW22
          have hB22_ : Below w.heap.size w W22 := by rw [hW22]; exact hB21
          have hw22_ : LaidF (NF w) W22 := by rw [hW22]; exact hw21
          have M22_ := M21
          rw [← hW22] at M22_
          have hS22 : Below w21.heap.size w21 W22 := by rw [hW22]; exact (Below.refl _ _)
          have HT_ := hid_two HT hS22
          clear hS22 HT
          clear hW22
          have ZZ22_0 := Lib.hid (Mem.lt M22_.1)
          have ZZ22_1 := Lib.hid (Mem.lt M22_.2.1)
          have ZZ22_2 := Lib.hid (Mem.lt M22_.2.2.1)
          have ZZ22_3 := Lib.hid (Mem.lt M22_.2.2.2.1)
          clear z21_0 c21_1_0 c21_1_1 z21_1 z21_2 z21_3
          refine (hide_two w.heap.size _ p S2 lS lI HBD.out.1 HBD.out.2.1 _ (Lib.hid (HT_).out.left) hB22_.size (fun b hb => Or.elim hb (fun h => by rw [h]; exact ZZ22_3.out) fun hb => Or.elim hb (fun h => by rw [h]; exact ZZ22_2.out) fun hb => Or.elim hb (fun h => by rw [h]; exact ZZ22_1.out) fun h => by rw [h]; exact ZZ22_0.out) (by have := HL2.out; omega) (hw22_).laid).mono ?_
          rw [HPF.out]
          rintro e w22 ⟨qc, rfl, HQqc, hb22⟩
          have HT := hid_two HT_ hb22
          clear HT_
          have hB22 := below_then hB22_ hb22
          have hw22 := hw22_.below hb22
          have M22 := M22_.below hb22
          clear M22_ hB22_ hb22 hw22_
          have z22_0 := Mem.lt M22.1
          have c22_1_0 := Mem.cell (v := .string lS) M22.2.1 0 rfl
          have c22_1_1 := Mem.cell (v := .string lI) M22.2.1 1 rfl
          have z22_1 := Mem.lt M22.2.1
          have z22_2 := Mem.lt M22.2.2.1
          have z22_3 := Mem.lt M22.2.2.2.1
          go_wp2_with fail
          refine Calls.named ?_
          intro W23 hW23
          have hB23_ : Below w.heap.size w W23 := by rw [hW23]; exact hB22
          have hw23_ : LaidF (NF w) W23 := by rw [hW23]; exact hw22
          have M23_ := M22
          rw [← hW23] at M23_
          have hS23 : Below w22.heap.size w22 W23 := by rw [hW23]; exact (Below.refl _ _)
          have HT_ := hid_two HT hS23
          have HQqc_ := hid_one HQqc hS23
          clear hS23 HT HQqc
          clear hW23
          have ZZ23_0 := Lib.hid (Mem.lt M23_.1)
          have ZZ23_1 := Lib.hid (Mem.lt M23_.2.1)
          have ZZ23_2 := Lib.hid (Mem.lt M23_.2.2.1)
          have ZZ23_3 := Lib.hid (Mem.lt M23_.2.2.2.1)
          clear z22_0 c22_1_0 c22_1_1 z22_1 z22_2 z22_3
          refine (same_one _ _ _ _ qc q H1 H1 _ HQqc_ (Lib.hid (HT_).out.right) HLX.out HLX.out).mono ?_
          rw [show decide (H1 = H1) = true from decide_eq_true rfl]
          rintro e w23 ⟨rfl, hb23⟩
          have HT := hid_two HT_ hb23
          have HQqc := hid_one HQqc_ hb23
          clear HT_ HQqc_
          have hB23 := below_then hB23_ hb23
          have hw23 := hw23_.below hb23
          have M23 := M23_.below hb23
          clear M23_ hB23_ hb23 hw23_
          have z23_0 := Mem.lt M23.1
          have c23_1_0 := Mem.cell (v := .string lS) M23.2.1 0 rfl
          have c23_1_1 := Mem.cell (v := .string lI) M23.2.1 1 rfl
          have z23_1 := Mem.lt M23.2.1
          have z23_2 := Mem.lt M23.2.2.1
          have z23_3 := Mem.lt M23.2.2.2.1
          clear HQqc
          clear HPF
          cases tb with
          | false =>
            skip
            go_wp2_with fail
            go_ret
            exact ⟨rfl, hB23⟩
          | true =>
            exact absurd hE0 (HTB.out (by simp)).1
        | true =>
          skip
          go_upto_region 20 with (fail)
          refine wp_region_lit ?_
          iterate 6 go_step
          refine load_ox rfl _ rfl (w.heap.size + 1) rfl (q2) M21.2.2.1 ?_
          obtain ⟨H2, hH2⟩ : ∃ s, s = setT H1 key y1 := ⟨_, rfl⟩
          have HPF : Hid (hideS S2 lS lI = H2) := Lib.hid (by rw [HP3.out, if_pos ⟨by simp, by simp⟩, HQ.out, hH2])
          have HLX2 : Hid (H2.length ≤ 1000000) := Lib.hid (by rw [hH2, setT_len]; exact HLX.out)
          have HH2 := Lib.hid hH2
          clear hH2
          go_wp2_with fail
          refine Calls.named ?_
          intro W22 hW22
          have hB22_ : Below w.heap.size w W22 := by rw [hW22]; exact hB21
          have hw22_ : LaidF (NF w) W22 := by rw [hW22]; exact hw21
          have M22_ := M21
          rw [← hW22] at M22_
          have hS22 : Below w21.heap.size w21 W22 := by rw [hW22]; exact (Below.refl _ _)
          have HT_ := hid_two HT hS22
          clear hS22 HT
          clear hW22
          have ZZ22_0 := Lib.hid (Mem.lt M22_.1)
          have ZZ22_1 := Lib.hid (Mem.lt M22_.2.1)
          have ZZ22_2 := Lib.hid (Mem.lt M22_.2.2.1)
          have ZZ22_3 := Lib.hid (Mem.lt M22_.2.2.2.1)
          clear z21_0 c21_1_0 c21_1_1 z21_1 z21_2 z21_3
          refine (set_r w.heap.size _ p S2 q H1 key HKS.out y1 _ _ _ HT_ hB22_.size (fun b hb => Or.elim hb (fun h => by rw [h]; exact ZZ22_3.out) fun hb => Or.elim hb (fun h => by rw [h]; exact ZZ22_2.out) fun hb => Or.elim hb (fun h => by rw [h]; exact ZZ22_1.out) fun h => by rw [h]; exact ZZ22_0.out) HLX.out (HY1.out _ hB22_)).mono ?_
          rw [← HH2.out]
          rintro e w22 ⟨rfl, HT, hb22⟩
          have hB22 := KF.toBelow hb22 hB22_ hB22_.size (fun k h => h.1)
          have hw22 : LaidF (NF w) w22 := hw0.below hB22
          have M22 : Mem w22 [(w11.heap.size, .cells (ox ((z.raw ao co))) 32), (w.heap.size + 1 + 1, .cells #[.string lS, .string lI] 25), (w.heap.size + 1, .cells (ox (q2)) 32), (w.heap.size, .cells (ox (q1)) 32)] := ⟨mem_fx M22_.1 hb22 (by simp), mem_fx M22_.2.1 hb22 (by simp), mem_fx M22_.2.2.1 hb22 (by simp), mem_fx M22_.2.2.2.1 hb22 (by simp), trivial⟩
          clear HT_
          clear M22_ hB22_ hb22 hw22_
          have z22_0 := Mem.lt M22.1
          have c22_1_0 := Mem.cell (v := .string lS) M22.2.1 0 rfl
          have c22_1_1 := Mem.cell (v := .string lI) M22.2.1 1 rfl
          have z22_1 := Mem.lt M22.2.1
          have z22_2 := Mem.lt M22.2.2.1
          have z22_3 := Mem.lt M22.2.2.2.1
          clear HH2 HLX
          have HLX := HLX2
          clear HLX2
          go_upto_region 21 with (fail)
          go_wp2_with fail
          refine Calls.named ?_
          intro W23 hW23
          have hB23_ : Below w.heap.size w W23 := by rw [hW23]; exact hB22
          have hw23_ : LaidF (NF w) W23 := by rw [hW23]; exact hw22
          have M23_ := M22
          rw [← hW23] at M23_
          have hS23 : Below w22.heap.size w22 W23 := by rw [hW23]; exact (Below.refl _ _)
          have HT_ := hid_two HT hS23
          clear hS23 HT
          clear hW23
          have ZZ23_0 := Lib.hid (Mem.lt M23_.1)
          have ZZ23_1 := Lib.hid (Mem.lt M23_.2.1)
          have ZZ23_2 := Lib.hid (Mem.lt M23_.2.2.1)
          have ZZ23_3 := Lib.hid (Mem.lt M23_.2.2.2.1)
          clear z22_0 c22_1_0 c22_1_1 z22_1 z22_2 z22_3
          refine (hide_two w.heap.size _ p S2 lS lI HBD.out.1 HBD.out.2.1 _ (Lib.hid (HT_).out.left) hB23_.size (fun b hb => Or.elim hb (fun h => by rw [h]; exact ZZ23_3.out) fun hb => Or.elim hb (fun h => by rw [h]; exact ZZ23_2.out) fun hb => Or.elim hb (fun h => by rw [h]; exact ZZ23_1.out) fun h => by rw [h]; exact ZZ23_0.out) (by have := HL2.out; omega) (hw23_).laid).mono ?_
          rw [HPF.out]
          rintro e w23 ⟨qc, rfl, HQqc, hb23⟩
          have HT := hid_two HT_ hb23
          clear HT_
          have hB23 := below_then hB23_ hb23
          have hw23 := hw23_.below hb23
          have M23 := M23_.below hb23
          clear M23_ hB23_ hb23 hw23_
          have z23_0 := Mem.lt M23.1
          have c23_1_0 := Mem.cell (v := .string lS) M23.2.1 0 rfl
          have c23_1_1 := Mem.cell (v := .string lI) M23.2.1 1 rfl
          have z23_1 := Mem.lt M23.2.1
          have z23_2 := Mem.lt M23.2.2.1
          have z23_3 := Mem.lt M23.2.2.2.1
          go_wp2_with fail
          refine Calls.named ?_
          intro W24 hW24
          have hB24_ : Below w.heap.size w W24 := by rw [hW24]; exact hB23
          have hw24_ : LaidF (NF w) W24 := by rw [hW24]; exact hw23
          have M24_ := M23
          rw [← hW24] at M24_
          have hS24 : Below w23.heap.size w23 W24 := by rw [hW24]; exact (Below.refl _ _)
          have HT_ := hid_two HT hS24
          have HQqc_ := hid_one HQqc hS24
          clear hS24 HT HQqc
          clear hW24
          have ZZ24_0 := Lib.hid (Mem.lt M24_.1)
          have ZZ24_1 := Lib.hid (Mem.lt M24_.2.1)
          have ZZ24_2 := Lib.hid (Mem.lt M24_.2.2.1)
          have ZZ24_3 := Lib.hid (Mem.lt M24_.2.2.2.1)
          clear z23_0 c23_1_0 c23_1_1 z23_1 z23_2 z23_3
          refine (same_one _ _ _ _ qc q H2 H2 _ HQqc_ (Lib.hid (HT_).out.right) HLX.out HLX.out).mono ?_
          rw [show decide (H2 = H2) = true from decide_eq_true rfl]
          rintro e w24 ⟨rfl, hb24⟩
          have HT := hid_two HT_ hb24
          have HQqc := hid_one HQqc_ hb24
          clear HT_ HQqc_
          have hB24 := below_then hB24_ hb24
          have hw24 := hw24_.below hb24
          have M24 := M24_.below hb24
          clear M24_ hB24_ hb24 hw24_
          have z24_0 := Mem.lt M24.1
          have c24_1_0 := Mem.cell (v := .string lS) M24.2.1 0 rfl
          have c24_1_1 := Mem.cell (v := .string lI) M24.2.1 1 rfl
          have z24_1 := Mem.lt M24.2.1
          have z24_2 := Mem.lt M24.2.2.1
          have z24_3 := Mem.lt M24.2.2.2.1
          clear HQqc
          clear HPF
          cases tb with
          | false =>
            skip
            go_wp2_with fail
            go_ret
            exact ⟨rfl, hB24⟩
          | true =>
            exact absurd hE0 (HTB.out (by simp)).1
      · skip
        have HPF : Hid (hideS S2 lS lI = H1) := Lib.hid (by rw [HP3.out, if_neg (fun e => hF0 e.1), HQ.out])
        go_upto_region 21 with (fail)
        go_wp2_with fail
        refine Calls.named ?_
        intro W21 hW21
        have hB21_ : Below w.heap.size w W21 := by rw [hW21]; exact hB20
        have hw21_ : LaidF (NF w) W21 := by rw [hW21]; exact hw20
        have M21_ := M20
        rw [← hW21] at M21_
        have hS21 : Below w20.heap.size w20 W21 := by rw [hW21]; exact (Below.refl _ _)
        have HT_ := hid_two HT hS21
        clear hS21 HT
        clear hW21
        have ZZ21_0 := Lib.hid (Mem.lt M21_.1)
        have ZZ21_1 := Lib.hid (Mem.lt M21_.2.1)
        have ZZ21_2 := Lib.hid (Mem.lt M21_.2.2.1)
        have ZZ21_3 := Lib.hid (Mem.lt M21_.2.2.2.1)
        clear z20_0 c20_1_0 c20_1_1 z20_1 z20_2 z20_3 c20_2_1 c20_2_2
        refine (hide_two w.heap.size _ p S2 lS lI HBD.out.1 HBD.out.2.1 _ (Lib.hid (HT_).out.left) hB21_.size (fun b hb => Or.elim hb (fun h => by rw [h]; exact ZZ21_3.out) fun hb => Or.elim hb (fun h => by rw [h]; exact ZZ21_2.out) fun hb => Or.elim hb (fun h => by rw [h]; exact ZZ21_1.out) fun h => by rw [h]; exact ZZ21_0.out) (by have := HL2.out; omega) (hw21_).laid).mono ?_
        rw [HPF.out]
        rintro e w21 ⟨qc, rfl, HQqc, hb21⟩
        have HT := hid_two HT_ hb21
        clear HT_
        have hB21 := below_then hB21_ hb21
        have hw21 := hw21_.below hb21
        have M21 := M21_.below hb21
        clear M21_ hB21_ hb21 hw21_
        have z21_0 := Mem.lt M21.1
        have c21_1_0 := Mem.cell (v := .string lS) M21.2.1 0 rfl
        have c21_1_1 := Mem.cell (v := .string lI) M21.2.1 1 rfl
        have z21_1 := Mem.lt M21.2.1
        have z21_2 := Mem.lt M21.2.2.1
        have z21_3 := Mem.lt M21.2.2.2.1
        go_wp2_with fail
        refine Calls.named ?_
        intro W22 hW22
        have hB22_ : Below w.heap.size w W22 := by rw [hW22]; exact hB21
        have hw22_ : LaidF (NF w) W22 := by rw [hW22]; exact hw21
        have M22_ := M21
        rw [← hW22] at M22_
        have hS22 : Below w21.heap.size w21 W22 := by rw [hW22]; exact (Below.refl _ _)
        have HT_ := hid_two HT hS22
        have HQqc_ := hid_one HQqc hS22
        clear hS22 HT HQqc
        clear hW22
        have ZZ22_0 := Lib.hid (Mem.lt M22_.1)
        have ZZ22_1 := Lib.hid (Mem.lt M22_.2.1)
        have ZZ22_2 := Lib.hid (Mem.lt M22_.2.2.1)
        have ZZ22_3 := Lib.hid (Mem.lt M22_.2.2.2.1)
        clear z21_0 c21_1_0 c21_1_1 z21_1 z21_2 z21_3
        refine (same_one _ _ _ _ qc q H1 H1 _ HQqc_ (Lib.hid (HT_).out.right) HLX.out HLX.out).mono ?_
        rw [show decide (H1 = H1) = true from decide_eq_true rfl]
        rintro e w22 ⟨rfl, hb22⟩
        have HT := hid_two HT_ hb22
        have HQqc := hid_one HQqc_ hb22
        clear HT_ HQqc_
        have hB22 := below_then hB22_ hb22
        have hw22 := hw22_.below hb22
        have M22 := M22_.below hb22
        clear M22_ hB22_ hb22 hw22_
        have z22_0 := Mem.lt M22.1
        have c22_1_0 := Mem.cell (v := .string lS) M22.2.1 0 rfl
        have c22_1_1 := Mem.cell (v := .string lI) M22.2.1 1 rfl
        have z22_1 := Mem.lt M22.2.1
        have z22_2 := Mem.lt M22.2.2.1
        have z22_3 := Mem.lt M22.2.2.2.1
        clear HQqc
        clear HPF
        cases tb with
        | false =>
          skip
          go_wp2_with fail
          go_ret
          exact ⟨rfl, hB22⟩
        | true =>
          exact absurd hE0 (HTB.out (by simp)).1
    · skip
      have HQ : Hid (hideS S1 lS lI = H0) := Lib.hid (by rw [HP2.out, if_neg (fun e => hE0 e.1)])
      have HLX : Hid (H0.length ≤ 1000000) := Lib.hid (by have := HLH.out; omega)
      go_upto_region 16 with (fail)
      go_wp2_with fail
      refine Calls.named ?_
      intro W16 hW16
      have hB16_ : Below w.heap.size w W16 := by rw [hW16]; exact hB15
      have hw16_ : LaidF (NF w) W16 := by rw [hW16]; exact hw15
      have M16_ := M15
      rw [← hW16] at M16_
      have hS16 : Below w15.heap.size w15 W16 := by rw [hW16]; exact (Below.refl _ _)
      have HT_ := hid_two HT hS16
      clear hS16 HT
      clear hW16
      have ZZ16_0 := Lib.hid (Mem.lt M16_.1)
      have ZZ16_1 := Lib.hid (Mem.lt M16_.2.1)
      have ZZ16_2 := Lib.hid (Mem.lt M16_.2.2.1)
      have ZZ16_3 := Lib.hid (Mem.lt M16_.2.2.2.1)
      clear z15_0 c15_1_0 c15_1_1 z15_1 z15_2 z15_3 c15_3_1 c15_3_2
      refine (hide_two w.heap.size _ p S1 lS lI HBD.out.1 HBD.out.2.1 _ (Lib.hid (HT_).out.left) hB16_.size (fun b hb => Or.elim hb (fun h => by rw [h]; exact ZZ16_3.out) fun hb => Or.elim hb (fun h => by rw [h]; exact ZZ16_2.out) fun hb => Or.elim hb (fun h => by rw [h]; exact ZZ16_1.out) fun h => by rw [h]; exact ZZ16_0.out) (by have := HL1.out; omega) (hw16_).laid).mono ?_
      rw [HQ.out]
      rintro e w16 ⟨qb, rfl, HQqb, hb16⟩
      have HT := hid_two HT_ hb16
      clear HT_
      have hB16 := below_then hB16_ hb16
      have hw16 := hw16_.below hb16
      have M16 := M16_.below hb16
      clear M16_ hB16_ hb16 hw16_
      have z16_0 := Mem.lt M16.1
      have c16_1_0 := Mem.cell (v := .string lS) M16.2.1 0 rfl
      have c16_1_1 := Mem.cell (v := .string lI) M16.2.1 1 rfl
      have z16_1 := Mem.lt M16.2.1
      have z16_2 := Mem.lt M16.2.2.1
      have z16_3 := Mem.lt M16.2.2.2.1
      go_wp2_with fail
      refine Calls.named ?_
      intro W17 hW17
      have hB17_ : Below w.heap.size w W17 := by rw [hW17]; exact hB16
      have hw17_ : LaidF (NF w) W17 := by rw [hW17]; exact hw16
      have M17_ := M16
      rw [← hW17] at M17_
      have hS17 : Below w16.heap.size w16 W17 := by rw [hW17]; exact (Below.refl _ _)
      have HT_ := hid_two HT hS17
      have HQqb_ := hid_one HQqb hS17
      clear hS17 HT HQqb
      clear hW17
      have ZZ17_0 := Lib.hid (Mem.lt M17_.1)
      have ZZ17_1 := Lib.hid (Mem.lt M17_.2.1)
      have ZZ17_2 := Lib.hid (Mem.lt M17_.2.2.1)
      have ZZ17_3 := Lib.hid (Mem.lt M17_.2.2.2.1)
      clear z16_0 c16_1_0 c16_1_1 z16_1 z16_2 z16_3
      refine (same_one _ _ _ _ qb q H0 H0 _ HQqb_ (Lib.hid (HT_).out.right) HLX.out HLX.out).mono ?_
      rw [show decide (H0 = H0) = true from decide_eq_true rfl]
      rintro e w17 ⟨rfl, hb17⟩
      have HT := hid_two HT_ hb17
      have HQqb := hid_one HQqb_ hb17
      clear HT_ HQqb_
      have hB17 := below_then hB17_ hb17
      have hw17 := hw17_.below hb17
      have M17 := M17_.below hb17
      clear M17_ hB17_ hb17 hw17_
      have z17_0 := Mem.lt M17.1
      have c17_1_0 := Mem.cell (v := .string lS) M17.2.1 0 rfl
      have c17_1_1 := Mem.cell (v := .string lI) M17.2.1 1 rfl
      have z17_1 := Mem.lt M17.2.1
      have z17_2 := Mem.lt M17.2.2.1
      have z17_3 := Mem.lt M17.2.2.2.1
      clear HQqb
      go_upto_region 18 with (fail)
      refine wp_region_lit ?_
      iterate 6 go_step
      refine load_ox rfl _ rfl (w.heap.size + 1) rfl (q2) M17.2.2.1 ?_
      go_wp2_with fail
      refine Calls.named ?_
      intro W18 hW18
      have hB18_ : Below w.heap.size w W18 := by rw [hW18]; exact hB17
      have hw18_ : LaidF (NF w) W18 := by rw [hW18]; exact hw17
      have M18_ := M17
      rw [← hW18] at M18_
      have hS18 : Below w17.heap.size w17 W18 := by rw [hW18]; exact (Below.refl _ _)
      have HT_ := hid_two HT hS18
      clear hS18 HT
      clear hW18
      have ZZ18_0 := Lib.hid (Mem.lt M18_.1)
      have ZZ18_1 := Lib.hid (Mem.lt M18_.2.1)
      have ZZ18_2 := Lib.hid (Mem.lt M18_.2.2.1)
      have ZZ18_3 := Lib.hid (Mem.lt M18_.2.2.2.1)
      clear z17_0 c17_1_0 c17_1_1 z17_1 z17_2 z17_3
      refine (set_l w.heap.size _ p S1 q H0 key HKS.out y1 _ _ _ HT_ hB18_.size (fun b hb => Or.elim hb (fun h => by rw [h]; exact ZZ18_3.out) fun hb => Or.elim hb (fun h => by rw [h]; exact ZZ18_2.out) fun hb => Or.elim hb (fun h => by rw [h]; exact ZZ18_1.out) fun h => by rw [h]; exact ZZ18_0.out) (by have := HL1.out; omega) (HY1.out _ hB18_)).mono ?_
      rw [← HEQ.out.2.2.1, ← HEQ.out.2.2.2.1]
      rintro e w18 ⟨rfl, HT, hb18⟩
      have hB18 := KF.toBelow hb18 hB18_ hB18_.size (fun k h => h.1)
      have hw18 : LaidF (NF w) w18 := hw0.below hB18
      have M18 : Mem w18 [(w11.heap.size, .cells (ox ((z.raw ao co))) 32), (w.heap.size + 1 + 1, .cells #[.string lS, .string lI] 25), (w.heap.size + 1, .cells (ox (q2)) 32), (w.heap.size, .cells (ox (q1)) 32)] := ⟨mem_fx M18_.1 hb18 (by simp), mem_fx M18_.2.1 hb18 (by simp), mem_fx M18_.2.2.1 hb18 (by simp), mem_fx M18_.2.2.2.1 hb18 (by simp), trivial⟩
      clear HT_
      clear M18_ hB18_ hb18 hw18_
      have z18_0 := Mem.lt M18.1
      have c18_1_0 := Mem.cell (v := .string lS) M18.2.1 0 rfl
      have c18_1_1 := Mem.cell (v := .string lI) M18.2.1 1 rfl
      have z18_1 := Mem.lt M18.2.1
      have z18_2 := Mem.lt M18.2.2.1
      have z18_3 := Mem.lt M18.2.2.2.1
      go_upto_region 19 with (fail)
      have c18_2_1 := Mem.cell (v := .string q2.lS) M18.2.2.1 1 rfl
      have c18_2_2 := Mem.cell (v := .string q2.lI) M18.2.2.1 2 rfl
      by_cases hF0 : F = 0
      · subst hF0
        go_wp2_with fail
        refine Calls.named ?_
        intro W19 hW19
        have hB19_ : Below w.heap.size w W19 := by rw [hW19]; exact hB18
        have hw19_ : LaidF (NF w) W19 := by rw [hW19]; exact hw18
        have M19_ := M18
        rw [← hW19] at M19_
        have hS19 : Below w18.heap.size w18 W19 := by rw [hW19]; exact (Below.refl _ _)
        have HT_ := hid_two HT hS19
        clear hS19 HT
        clear hW19
        have ZZ19_0 := Lib.hid (Mem.lt M19_.1)
        have ZZ19_1 := Lib.hid (Mem.lt M19_.2.1)
        have ZZ19_2 := Lib.hid (Mem.lt M19_.2.2.1)
        have ZZ19_3 := Lib.hid (Mem.lt M19_.2.2.2.1)
        clear z18_0 c18_1_0 c18_1_1 z18_1 z18_2 z18_3 c18_2_1 c18_2_2
        refine (HFY.out _).mono ?_
        rintro e w19 ⟨rfl, hb19⟩
        have HT := hid_two HT_ hb19
        clear HT_
        have hB19 := below_then hB19_ hb19
        have hw19 := hw19_.below hb19
        have M19 := M19_.below hb19
        clear M19_ hB19_ hb19 hw19_
        have z19_0 := Mem.lt M19.1
        have c19_1_0 := Mem.cell (v := .string lS) M19.2.1 0 rfl
        have c19_1_1 := Mem.cell (v := .string lI) M19.2.1 1 rfl
        have z19_1 := Mem.lt M19.2.1
        have z19_2 := Mem.lt M19.2.2.1
        have z19_3 := Mem.lt M19.2.2.2.1
        cases fy with
        | false =>
          have HPF : Hid (hideS S2 lS lI = H0) := Lib.hid (by rw [HP3.out, if_neg (fun e => by cases e.2), HQ.out])
          go_upto_region 21 with (fail)
          go_wp2_with fail
          refine Calls.named ?_
          intro W20 hW20
          have hB20_ : Below w.heap.size w W20 := by rw [hW20]; exact hB19
          have hw20_ : LaidF (NF w) W20 := by rw [hW20]; exact hw19
          have M20_ := M19
          rw [← hW20] at M20_
          have hS20 : Below w19.heap.size w19 W20 := by rw [hW20]; exact (Below.refl _ _)
          have HT_ := hid_two HT hS20
          clear hS20 HT
          clear hW20
          have ZZ20_0 := Lib.hid (Mem.lt M20_.1)
          have ZZ20_1 := Lib.hid (Mem.lt M20_.2.1)
          have ZZ20_2 := Lib.hid (Mem.lt M20_.2.2.1)
          have ZZ20_3 := Lib.hid (Mem.lt M20_.2.2.2.1)
          clear z19_0 c19_1_0 c19_1_1 z19_1 z19_2 z19_3
          refine (hide_two w.heap.size _ p S2 lS lI HBD.out.1 HBD.out.2.1 _ (Lib.hid (HT_).out.left) hB20_.size (fun b hb => Or.elim hb (fun h => by rw [h]; exact ZZ20_3.out) fun hb => Or.elim hb (fun h => by rw [h]; exact ZZ20_2.out) fun hb => Or.elim hb (fun h => by rw [h]; exact ZZ20_1.out) fun h => by rw [h]; exact ZZ20_0.out) (by have := HL2.out; omega) (hw20_).laid).mono ?_
          rw [HPF.out]
          rintro e w20 ⟨qc, rfl, HQqc, hb20⟩
          have HT := hid_two HT_ hb20
          clear HT_
          have hB20 := below_then hB20_ hb20
          have hw20 := hw20_.below hb20
          have M20 := M20_.below hb20
          clear M20_ hB20_ hb20 hw20_
          have z20_0 := Mem.lt M20.1
          have c20_1_0 := Mem.cell (v := .string lS) M20.2.1 0 rfl
          have c20_1_1 := Mem.cell (v := .string lI) M20.2.1 1 rfl
          have z20_1 := Mem.lt M20.2.1
          have z20_2 := Mem.lt M20.2.2.1
          have z20_3 := Mem.lt M20.2.2.2.1
          go_wp2_with fail
          refine Calls.named ?_
          intro W21 hW21
          have hB21_ : Below w.heap.size w W21 := by rw [hW21]; exact hB20
          have hw21_ : LaidF (NF w) W21 := by rw [hW21]; exact hw20
          have M21_ := M20
          rw [← hW21] at M21_
          have hS21 : Below w20.heap.size w20 W21 := by rw [hW21]; exact (Below.refl _ _)
          have HT_ := hid_two HT hS21
          have HQqc_ := hid_one HQqc hS21
          clear hS21 HT HQqc
          clear hW21
          have ZZ21_0 := Lib.hid (Mem.lt M21_.1)
          have ZZ21_1 := Lib.hid (Mem.lt M21_.2.1)
          have ZZ21_2 := Lib.hid (Mem.lt M21_.2.2.1)
          have ZZ21_3 := Lib.hid (Mem.lt M21_.2.2.2.1)
          clear z20_0 c20_1_0 c20_1_1 z20_1 z20_2 z20_3
          refine (same_one _ _ _ _ qc q H0 H0 _ HQqc_ (Lib.hid (HT_).out.right) HLX.out HLX.out).mono ?_
          rw [show decide (H0 = H0) = true from decide_eq_true rfl]
          rintro e w21 ⟨rfl, hb21⟩
          have HT := hid_two HT_ hb21
          have HQqc := hid_one HQqc_ hb21
          clear HT_ HQqc_
          have hB21 := below_then hB21_ hb21
          have hw21 := hw21_.below hb21
          have M21 := M21_.below hb21
          clear M21_ hB21_ hb21 hw21_
          have z21_0 := Mem.lt M21.1
          have c21_1_0 := Mem.cell (v := .string lS) M21.2.1 0 rfl
          have c21_1_1 := Mem.cell (v := .string lI) M21.2.1 1 rfl
          have z21_1 := Mem.lt M21.2.1
          have z21_2 := Mem.lt M21.2.2.1
          have z21_3 := Mem.lt M21.2.2.2.1
          clear HQqc
          clear HPF
          cases tb with
          | false =>
            skip
            go_wp2_with fail
            go_ret
            exact ⟨rfl, hB21⟩
          | true =>
            skip
            have ht := HTB.out (by simp)
            have hz3 : (3 : Int) ≤ (z.raw ao co).kd := ht.2
            have hz4 : decide ((3 : Int) ≤ (z.raw ao co).kd) = true := decide_eq_true hz3
            have hE2 : (E != 0) = true := by simpa using hE0
            clear ht
            have c21_0_0 := Mem.cell (v := .int .i64 (z.raw ao co).kd) M21.1 0 rfl
            go_wp2_with fail
            go_ret
            exact ⟨rfl, hB21⟩
        | true =>
          skip
          go_upto_region 20 with (fail)
          refine wp_region_lit ?_
          iterate 6 go_step
          refine load_ox rfl _ rfl (w.heap.size + 1) rfl (q2) M19.2.2.1 ?_
          obtain ⟨H2, hH2⟩ : ∃ s, s = setT H0 key y1 := ⟨_, rfl⟩
          have HPF : Hid (hideS S2 lS lI = H2) := Lib.hid (by rw [HP3.out, if_pos ⟨by simp, by simp⟩, HQ.out, hH2])
          have HLX2 : Hid (H2.length ≤ 1000000) := Lib.hid (by rw [hH2, setT_len]; exact HLX.out)
          have HH2 := Lib.hid hH2
          clear hH2
          go_wp2_with fail
          refine Calls.named ?_
          intro W20 hW20
          have hB20_ : Below w.heap.size w W20 := by rw [hW20]; exact hB19
          have hw20_ : LaidF (NF w) W20 := by rw [hW20]; exact hw19
          have M20_ := M19
          rw [← hW20] at M20_
          have hS20 : Below w19.heap.size w19 W20 := by rw [hW20]; exact (Below.refl _ _)
          have HT_ := hid_two HT hS20
          clear hS20 HT
          clear hW20
          have ZZ20_0 := Lib.hid (Mem.lt M20_.1)
          have ZZ20_1 := Lib.hid (Mem.lt M20_.2.1)
          have ZZ20_2 := Lib.hid (Mem.lt M20_.2.2.1)
          have ZZ20_3 := Lib.hid (Mem.lt M20_.2.2.2.1)
          clear z19_0 c19_1_0 c19_1_1 z19_1 z19_2 z19_3
          refine (set_r w.heap.size _ p S2 q H0 key HKS.out y1 _ _ _ HT_ hB20_.size (fun b hb => Or.elim hb (fun h => by rw [h]; exact ZZ20_3.out) fun hb => Or.elim hb (fun h => by rw [h]; exact ZZ20_2.out) fun hb => Or.elim hb (fun h => by rw [h]; exact ZZ20_1.out) fun h => by rw [h]; exact ZZ20_0.out) HLX.out (HY1.out _ hB20_)).mono ?_
          rw [← HH2.out]
          rintro e w20 ⟨rfl, HT, hb20⟩
          have hB20 := KF.toBelow hb20 hB20_ hB20_.size (fun k h => h.1)
          have hw20 : LaidF (NF w) w20 := hw0.below hB20
          have M20 : Mem w20 [(w11.heap.size, .cells (ox ((z.raw ao co))) 32), (w.heap.size + 1 + 1, .cells #[.string lS, .string lI] 25), (w.heap.size + 1, .cells (ox (q2)) 32), (w.heap.size, .cells (ox (q1)) 32)] := ⟨mem_fx M20_.1 hb20 (by simp), mem_fx M20_.2.1 hb20 (by simp), mem_fx M20_.2.2.1 hb20 (by simp), mem_fx M20_.2.2.2.1 hb20 (by simp), trivial⟩
          clear HT_
          clear M20_ hB20_ hb20 hw20_
          have z20_0 := Mem.lt M20.1
          have c20_1_0 := Mem.cell (v := .string lS) M20.2.1 0 rfl
          have c20_1_1 := Mem.cell (v := .string lI) M20.2.1 1 rfl
          have z20_1 := Mem.lt M20.2.1
          have z20_2 := Mem.lt M20.2.2.1
          have z20_3 := Mem.lt M20.2.2.2.1
          clear HH2 HLX
          have HLX := HLX2
          clear HLX2
          go_upto_region 21 with (fail)
          go_wp2_with fail
          refine Calls.named ?_
          intro W21 hW21
          have hB21_ : Below w.heap.size w W21 := by rw [hW21]; exact hB20
          have hw21_ : LaidF (NF w) W21 := by rw [hW21]; exact hw20
          have M21_ := M20
          rw [← hW21] at M21_
          have hS21 : Below w20.heap.size w20 W21 := by rw [hW21]; exact (Below.refl _ _)
          have HT_ := hid_two HT hS21
          clear hS21 HT
          clear hW21
          have ZZ21_0 := Lib.hid (Mem.lt M21_.1)
          have ZZ21_1 := Lib.hid (Mem.lt M21_.2.1)
          have ZZ21_2 := Lib.hid (Mem.lt M21_.2.2.1)
          have ZZ21_3 := Lib.hid (Mem.lt M21_.2.2.2.1)
          clear z20_0 c20_1_0 c20_1_1 z20_1 z20_2 z20_3
          refine (hide_two w.heap.size _ p S2 lS lI HBD.out.1 HBD.out.2.1 _ (Lib.hid (HT_).out.left) hB21_.size (fun b hb => Or.elim hb (fun h => by rw [h]; exact ZZ21_3.out) fun hb => Or.elim hb (fun h => by rw [h]; exact ZZ21_2.out) fun hb => Or.elim hb (fun h => by rw [h]; exact ZZ21_1.out) fun h => by rw [h]; exact ZZ21_0.out) (by have := HL2.out; omega) (hw21_).laid).mono ?_
          rw [HPF.out]
          rintro e w21 ⟨qc, rfl, HQqc, hb21⟩
          have HT := hid_two HT_ hb21
          clear HT_
          have hB21 := below_then hB21_ hb21
          have hw21 := hw21_.below hb21
          have M21 := M21_.below hb21
          clear M21_ hB21_ hb21 hw21_
          have z21_0 := Mem.lt M21.1
          have c21_1_0 := Mem.cell (v := .string lS) M21.2.1 0 rfl
          have c21_1_1 := Mem.cell (v := .string lI) M21.2.1 1 rfl
          have z21_1 := Mem.lt M21.2.1
          have z21_2 := Mem.lt M21.2.2.1
          have z21_3 := Mem.lt M21.2.2.2.1
          go_wp2_with fail
          refine Calls.named ?_
          intro W22 hW22
          have hB22_ : Below w.heap.size w W22 := by rw [hW22]; exact hB21
          have hw22_ : LaidF (NF w) W22 := by rw [hW22]; exact hw21
          have M22_ := M21
          rw [← hW22] at M22_
          have hS22 : Below w21.heap.size w21 W22 := by rw [hW22]; exact (Below.refl _ _)
          have HT_ := hid_two HT hS22
          have HQqc_ := hid_one HQqc hS22
          clear hS22 HT HQqc
          clear hW22
          have ZZ22_0 := Lib.hid (Mem.lt M22_.1)
          have ZZ22_1 := Lib.hid (Mem.lt M22_.2.1)
          have ZZ22_2 := Lib.hid (Mem.lt M22_.2.2.1)
          have ZZ22_3 := Lib.hid (Mem.lt M22_.2.2.2.1)
          clear z21_0 c21_1_0 c21_1_1 z21_1 z21_2 z21_3
          refine (same_one _ _ _ _ qc q H2 H2 _ HQqc_ (Lib.hid (HT_).out.right) HLX.out HLX.out).mono ?_
          rw [show decide (H2 = H2) = true from decide_eq_true rfl]
          rintro e w22 ⟨rfl, hb22⟩
          have HT := hid_two HT_ hb22
          have HQqc := hid_one HQqc_ hb22
          clear HT_ HQqc_
          have hB22 := below_then hB22_ hb22
          have hw22 := hw22_.below hb22
          have M22 := M22_.below hb22
          clear M22_ hB22_ hb22 hw22_
          have z22_0 := Mem.lt M22.1
          have c22_1_0 := Mem.cell (v := .string lS) M22.2.1 0 rfl
          have c22_1_1 := Mem.cell (v := .string lI) M22.2.1 1 rfl
          have z22_1 := Mem.lt M22.2.1
          have z22_2 := Mem.lt M22.2.2.1
          have z22_3 := Mem.lt M22.2.2.2.1
          clear HQqc
          clear HPF
          cases tb with
          | false =>
            skip
            go_wp2_with fail
            go_ret
            exact ⟨rfl, hB22⟩
          | true =>
            skip
            have ht := HTB.out (by simp)
            have hz3 : (3 : Int) ≤ (z.raw ao co).kd := ht.2
            have hz4 : decide ((3 : Int) ≤ (z.raw ao co).kd) = true := decide_eq_true hz3
            have hE2 : (E != 0) = true := by simpa using hE0
            clear ht
            have c22_0_0 := Mem.cell (v := .int .i64 (z.raw ao co).kd) M22.1 0 rfl
            go_wp2_with fail
            go_ret
            exact ⟨rfl, hB22⟩
      · skip
        have HPF : Hid (hideS S2 lS lI = H0) := Lib.hid (by rw [HP3.out, if_neg (fun e => hF0 e.1), HQ.out])
        go_upto_region 21 with (fail)
        go_wp2_with fail
        refine Calls.named ?_
        intro W19 hW19
        have hB19_ : Below w.heap.size w W19 := by rw [hW19]; exact hB18
        have hw19_ : LaidF (NF w) W19 := by rw [hW19]; exact hw18
        have M19_ := M18
        rw [← hW19] at M19_
        have hS19 : Below w18.heap.size w18 W19 := by rw [hW19]; exact (Below.refl _ _)
        have HT_ := hid_two HT hS19
        clear hS19 HT
        clear hW19
        have ZZ19_0 := Lib.hid (Mem.lt M19_.1)
        have ZZ19_1 := Lib.hid (Mem.lt M19_.2.1)
        have ZZ19_2 := Lib.hid (Mem.lt M19_.2.2.1)
        have ZZ19_3 := Lib.hid (Mem.lt M19_.2.2.2.1)
        clear z18_0 c18_1_0 c18_1_1 z18_1 z18_2 z18_3 c18_2_1 c18_2_2
        refine (hide_two w.heap.size _ p S2 lS lI HBD.out.1 HBD.out.2.1 _ (Lib.hid (HT_).out.left) hB19_.size (fun b hb => Or.elim hb (fun h => by rw [h]; exact ZZ19_3.out) fun hb => Or.elim hb (fun h => by rw [h]; exact ZZ19_2.out) fun hb => Or.elim hb (fun h => by rw [h]; exact ZZ19_1.out) fun h => by rw [h]; exact ZZ19_0.out) (by have := HL2.out; omega) (hw19_).laid).mono ?_
        rw [HPF.out]
        rintro e w19 ⟨qc, rfl, HQqc, hb19⟩
        have HT := hid_two HT_ hb19
        clear HT_
        have hB19 := below_then hB19_ hb19
        have hw19 := hw19_.below hb19
        have M19 := M19_.below hb19
        clear M19_ hB19_ hb19 hw19_
        have z19_0 := Mem.lt M19.1
        have c19_1_0 := Mem.cell (v := .string lS) M19.2.1 0 rfl
        have c19_1_1 := Mem.cell (v := .string lI) M19.2.1 1 rfl
        have z19_1 := Mem.lt M19.2.1
        have z19_2 := Mem.lt M19.2.2.1
        have z19_3 := Mem.lt M19.2.2.2.1
        go_wp2_with fail
        refine Calls.named ?_
        intro W20 hW20
        have hB20_ : Below w.heap.size w W20 := by rw [hW20]; exact hB19
        have hw20_ : LaidF (NF w) W20 := by rw [hW20]; exact hw19
        have M20_ := M19
        rw [← hW20] at M20_
        have hS20 : Below w19.heap.size w19 W20 := by rw [hW20]; exact (Below.refl _ _)
        have HT_ := hid_two HT hS20
        have HQqc_ := hid_one HQqc hS20
        clear hS20 HT HQqc
        clear hW20
        have ZZ20_0 := Lib.hid (Mem.lt M20_.1)
        have ZZ20_1 := Lib.hid (Mem.lt M20_.2.1)
        have ZZ20_2 := Lib.hid (Mem.lt M20_.2.2.1)
        have ZZ20_3 := Lib.hid (Mem.lt M20_.2.2.2.1)
        clear z19_0 c19_1_0 c19_1_1 z19_1 z19_2 z19_3
        refine (same_one _ _ _ _ qc q H0 H0 _ HQqc_ (Lib.hid (HT_).out.right) HLX.out HLX.out).mono ?_
        rw [show decide (H0 = H0) = true from decide_eq_true rfl]
        rintro e w20 ⟨rfl, hb20⟩
        have HT := hid_two HT_ hb20
        have HQqc := hid_one HQqc_ hb20
        clear HT_ HQqc_
        have hB20 := below_then hB20_ hb20
        have hw20 := hw20_.below hb20
        have M20 := M20_.below hb20
        clear M20_ hB20_ hb20 hw20_
        have z20_0 := Mem.lt M20.1
        have c20_1_0 := Mem.cell (v := .string lS) M20.2.1 0 rfl
        have c20_1_1 := Mem.cell (v := .string lI) M20.2.1 1 rfl
        have z20_1 := Mem.lt M20.2.1
        have z20_2 := Mem.lt M20.2.2.1
        have z20_3 := Mem.lt M20.2.2.2.1
        clear HQqc
        clear HPF
        cases tb with
        | false =>
          skip
          go_wp2_with fail
          go_ret
          exact ⟨rfl, hB20⟩
        | true =>
          skip
          have ht := HTB.out (by simp)
          have hz3 : (3 : Int) ≤ (z.raw ao co).kd := ht.2
          have hz4 : decide ((3 : Int) ≤ (z.raw ao co).kd) = true := decide_eq_true hz3
          have hE2 : (E != 0) = true := by simpa using hE0
          clear ht
          have c20_0_0 := Mem.cell (v := .int .i64 (z.raw ao co).kd) M20.1 0 rfl
          go_wp2_with fail
          go_ret
          exact ⟨rfl, hB20⟩
end Go.Proofs.YtlkgcidhhngfeaaGreatDoor
