/- prin.Right, prin.places, prin.Text. -/
import Derived.Test.YtiggallcoocdaaaGreatDoorBuild2
import Derived.Test.YtiggallcoocdaaaGreatDoorLaid
namespace Go.Proofs.YtiggallcoocdaaaGreatDoor
open Go.RowKit Go.Shelf
attribute [local go_sem] Oper.semAt_some
theorem pright_bits (s : UInt8) : (bits .andNot .u8 (s.toNat : Int) 63 == 0) = decide (s.toNat < 64) := by
  have h : ∀ i : Fin 256, (bits .andNot .u8 ((i.val : Nat) : Int) 63 == 0) = decide (i.val < 64) := by decide +kernel
  exact h ⟨s.toNat, s.toNat_lt⟩
theorem pright_any (s : UInt8) (w : World) :
    Calls Tryz.prog 86 #[.int .u8 s.toNat] w fun e w' => e = .returned (.bool (decide (s.toNat < 64))) ∧ w = w' := by
  rw [← pright_bits]
  obtain ⟨x, hx⟩ : ∃ x : Int, x = s.toNat := ⟨_, rfl⟩
  rw [← hx]
  clear hx
  go_enter Tryz.func86, Tryz.ntmps86
  go_wp2
  go_ret
  exact ⟨rfl, rfl⟩
theorem places_in (F : Fence) (n : Nat) (h5 : F.fn 87) (hro : F.round = none) (s : Int) (w : World) :
    CallsIn F n Tryz.prog 87 #[.int .u8 s] w fun e w' => e = .returned (.func (.func 106) #[] #[.pointer (some ⟨w.heap.size, 0, none⟩)]) ∧ w' = w.alloc (.cells #[.int .u8 s] 5) := by
  refine callsIn_of_wp Tryz.func87 rfl h5 ?_ hro
  simp only [Tryz.ntmps87, List.size_toArray, List.length_cons, List.length_nil, Nat.reduceAdd, Nat.reduceSub, Array.replicate_succ, Array.replicate_zero, List.push_toArray, List.append_toArray, List.nil_append, List.cons_append]
  gi_wp2
  go_ret
  exact ⟨rfl, rfl⟩
/-- the places below k of the set c -/
def plc (c : UInt8) : Nat → List (Fin 6)
  | 0 => []
  | k + 1 => if h : k < 6 then (if bitP c k then plc c k ++ [⟨k, h⟩] else plc c k) else plc c k
theorem plc_prefix (c : UInt8) : ∀ j k, j ≤ k → plc c j <+: plc c k
  | j, 0, h => by obtain rfl : j = 0 := by omega
                  exact List.prefix_refl _
  | j, k + 1, h => by
    rcases Nat.lt_or_ge k j with h1 | h1
    · obtain rfl : j = k + 1 := by omega
      exact List.prefix_refl _
    · refine (plc_prefix c j k h1).trans ?_
      rw [plc]
      split
      · split
        · exact List.prefix_append _ _
        · exact List.prefix_refl _
      · exact List.prefix_refl _
theorem plc_length (c : UInt8) : ∀ k, (plc c k).length ≤ k
  | 0 => Nat.le_refl _
  | k + 1 => by
    have := plc_length c k
    rw [plc]
    split
    · split
      · simp; omega
      · omega
    · omega
theorem bit_cases (c : UInt8) {k : Nat} (hk : k < 6) : (bits .and .u8 ((c.toNat : Int) / 2 ^ k) 1 = 1 ∧ bitP c k = true) ∨ (bits .and .u8 ((c.toNat : Int) / 2 ^ k) 1 = 0 ∧ bitP c k = false) := by
  have h : ∀ (i : Fin 256) (j : Fin 6), (bits .and .u8 (((i.val : Nat) : Int) / 2 ^ j.val) 1 = 1 ∧ bitP (UInt8.ofNat i.val) j.val = true) ∨ (bits .and .u8 (((i.val : Nat) : Int) / 2 ^ j.val) 1 = 0 ∧ bitP (UInt8.ofNat i.val) j.val = false) := by decide +kernel
  have := h ⟨c.toNat, c.toNat_lt⟩ ⟨k, hk⟩
  simpa using this
set_option maxRecDepth 100000 in
set_option maxHeartbeats 2000000 in
theorem places1_in (F : Fence) (n : Nat) (h7 : F.fn 106) (hro : F.round = none) (hn : 1 ≤ n) (l Bs : Nat) (c : UInt8) (J Jx : List (Fin 6) → World → Prop)
    (hY : ∀ pre x W, J pre W → pre.length < 6 → YieldAt F (n - 1) Tryz.prog l #[.int .i64 ((x.val : Nat) : Int)] W fun e W' =>
      (e = .returned (.bool true) ∧ J (pre ++ [x]) W' ∧ KB Bs W W') ∨ (e = .returned (.bool false) ∧ Jx (pre ++ [x]) W'))
    (W : World) (hBs : Boxed W Bs 5 (.int .u8 c.toNat)) (h0 : J [] W) :
    CallsIn F n Tryz.prog 106 #[.func (.yield l) #[] #[], .pointer (some ⟨Bs, 0, none⟩)] W fun e W' => (∃ v, e = .returned v) ∧
      ((∃ ys, ys = plc c 6 ∧ J ys W') ∨ (∃ pre, pre <+: plc c 6 ∧ Jx pre W')) := by
  have hBc := hBs.cell
  refine callsIn_of_wp Tryz.func106 rfl h7 ?_ hro
  simp only [Tryz.ntmps106, List.size_toArray, List.length_cons, List.length_nil, Nat.reduceAdd, Nat.reduceSub, Array.replicate_succ, Array.replicate_zero, List.push_toArray, List.append_toArray, List.nil_append, List.cons_append]
  gi_wp2
  gi_loopw [3, 4] (fun _ i wr => ∃ k : Nat, k ≤ 6 ∧ i = .int .i64 k ∧ J (plc c k) wr ∧ KB Bs W wr)
    (fun _ i _ => 6 - (intOf i).toNat)
  case atStart => exact ⟨0, Nat.zero_le _, rfl, h0, rfl⟩
  case round =>
    obtain ⟨k, hk, rfl, hJs, hnx⟩ := hrel
    have hcx := (boxed_kb hBs hnx).cell
    by_cases hlt : k < 6
    · obtain ⟨fn, tmps, assign, body, hy, hR⟩ := hY _ ⟨k, hlt⟩ wr hJs (by have := plc_length c k; omega)
      dsimp only at hy
      have hltI : (k : Int) < 6 := by omega
      rcases bit_cases c hlt with ⟨hb, hB⟩ | ⟨hb, hB⟩
      · have HT : Hid (plc c (k + 1) = plc c k ++ [⟨k, hlt⟩]) := Lib.hid (by rw [plc, dif_pos hlt, hB]; rfl)
        clear hB
        gi_wp2_with fail
        refine hR.mono ?_
        rintro e W3 (⟨rfl, hJ3, hk3⟩ | ⟨rfl, hJx3⟩)
        · gi_wp2
          go_roundw
          case rel => exact ⟨k + 1, by omega, by go_num, by rw [HT.out]; exact hJ3, hnx.trans hk3⟩
          case measure => simp [intOf]; omega
        · gi_wp2
          refine bodyPost_ret (results_none rfl _ _ _) rfl ?_
          exact ⟨⟨_, rfl⟩, .inr ⟨_, by rw [← HT.out]; exact plc_prefix c _ _ hlt, hJx3⟩⟩
      · have HT : Hid (plc c (k + 1) = plc c k) := Lib.hid (by rw [plc, dif_pos hlt, hB]; rfl)
        clear hB
        gi_wp2_with fail
        refine ⟨fun _ h => (by cases h), ?_⟩
        gi_wp2
        go_roundw
        case rel => exact ⟨k + 1, by omega, by go_num, by rw [HT.out]; exact hJs, hnx⟩
        case measure => simp [intOf]; omega
    · obtain rfl : k = 6 := by omega
      gi_wp2
      go_end0
      exact ⟨⟨_, rfl⟩, .inl ⟨_, rfl, hJs⟩⟩
theorem places_stops (F : Fence) (n : Nat) (h7 : F.fn 106) (hro : F.round = none) (hn : 1 ≤ n) (Bs : Nat) (c : UInt8) (w : World)
    (hc : Boxed w Bs 5 (.int .u8 c.toNat)) :
    SeqStopsK F n Tryz.prog 106 #[.pointer (some ⟨Bs, 0, none⟩)] (fun x : Fin 6 => #[Value.int .i64 ((x.val : Nat) : Int)]) (KB Bs) (fun ys => ys = plc c 6) (fun pre => pre <+: plc c 6) 6 w := fun l J Jx W hW _ _ hY h0 =>
  places1_in F n h7 hro hn l Bs c J Jx hY W (boxed_kb hc (KB.of_below hW hc.lt)) h0
/-! Text -/
def txStep (a : List UInt8) (p : Fin 6) : List UInt8 := a ++ (if a.isEmpty then [] else [124]) ++ [UInt8.ofNat (97 + p.val)]
def tx (pre : List (Fin 6)) : List UInt8 := pre.foldl txStep []
theorem tx_snoc (pre : List (Fin 6)) (p : Fin 6) : tx (pre ++ [p]) = txStep (tx pre) p := by simp [tx]
theorem tx_plc (c : UInt8) : ∀ k, k ≤ 6 → tx (plc c k) = textGo c k
  | 0, _ => rfl
  | k + 1, hk => by
    rw [plc, dif_pos (by omega), textGo]
    cases hb : bitP c k with
    | true =>
      simp only [if_true]
      rw [tx_snoc, txStep, tx_plc c k (by omega)]
    | false =>
      simp only [Bool.false_eq_true, if_false]
      exact tx_plc c k (by omega)
theorem tx_length_go : ∀ (l : List (Fin 6)) (a : List UInt8), (l.foldl txStep a).length ≤ a.length + 2 * l.length
  | [], _ => by simp
  | p :: l, a => by
    have h := tx_length_go l (txStep a p)
    have h2 : (txStep a p).length ≤ a.length + 2 := by
      unfold txStep
      split <;> simp
    simp only [List.foldl_cons, List.length_cons]
    omega
theorem tx_length (pre : List (Fin 6)) : (tx pre).length ≤ 2 * pre.length := by
  have := tx_length_go pre []
  unfold tx
  simpa using this
/-- the letters of the principals, as the program's text lays them -/
def Letters (w : World) : Prop := ∀ k : Nat, k < 6 → w.cell? ⟨2, k, none⟩ = some (.int .u8 ((UInt8.ofNat (97 + k)).toNat : Int))
theorem Letters.below {w w' : World} (h : Letters w) (hb : Below w.heap.size w w') : Letters w' := fun k hk => by
  have h0 := h k hk
  exact (hb.cell (p := ⟨2, k, none⟩) (World.block_lt_of_cell? _ _ h0)).trans h0
theorem Letters.alloc {w : World} (h : Letters w) (o : Obj) : Letters (w.alloc o) := h.below ((Below.refl _ _).alloc (Nat.le_refl _) _)
set_option maxRecDepth 100000 in
set_option maxHeartbeats 2000000 in
theorem ptext_go (c : UInt8) (w : World) (h1 : c.toNat < 64) (h2 : c ≠ 0) (hL : Letters w) :
    Calls Tryz.prog 68 #[.int .u8 c.toNat] w fun e w' => e = .returned (.string ⟨(textGo c 6).toArray⟩) ∧ Below w.heap.size w w' := by
  have hp := pright_any c
  rw [decide_eq_true h1] at hp
  have hc0 : ((c.toNat : Int) == 0) = false := by
    rw [beq_eq_false_iff_ne]
    intro e
    apply h2
    apply UInt8.toNat_inj.1
    show c.toNat = 0
    omega
  have HL := Lib.hid hL
  refine (callsIn_wide (n := 9)).1 ?_
  refine callsIn_of_wp_marks Tryz.func68 rfl trivial ?_ rfl
  simp only [Tryz.ntmps68, List.size_toArray, List.length_cons, List.length_nil, Nat.reduceAdd, Nat.reduceSub, Array.replicate_succ, Array.replicate_zero, List.push_toArray, List.append_toArray, List.nil_append, List.cons_append]
  gi_wp2_with fail
  refine ⟨trivial, ?_⟩
  refine (callsIn_wide.2 (hp _)).mono ?_
  rintro e _ ⟨rfl, rfl⟩
  gi_wp2_with fail
  refine ⟨trivial, ?_⟩
  refine (places_in Fence.wide _ trivial rfl _ _).mono ?_
  rintro e w' ⟨rfl, rfl⟩
  gi_wp2_with fail
  have h3 : Below w.heap.size w ((w.alloc (.cells #[.pointer none, .slice none 0 0] 76)).alloc (.cells #[.int .u8 c.toNat] 5)) := below_al (below_al (Below.refl _ _) _) _
  have bB : BlA w.heap.size (w.heap.size + 2) [] ((w.alloc (.cells #[.pointer none, .slice none 0 0] 76)).alloc (.cells #[.int .u8 c.toNat] 5)) :=
    ⟨by omega, by simp, _, _, (Lib.alloc_old _ _ w.heap.size (by simp)).trans (heap_alloc_new w _), Or.inl rfl, World.ownsRow_nil _ _ _ _⟩
  have bS := Boxed.new (w.alloc (.cells #[.pointer none, .slice none 0 0] 76)) 5 (.int .u8 c.toNat)
  rw [World.size_alloc] at bS
  refine wpIn_rangeFunc_ownG rfl (by omega) (gf := 106) (lb := #[.pointer (some ⟨w.heap.size + 1, 0, none⟩)]) rfl trivial (enters_of Tryz.func106 (by kernel_rfl) rfl)
    (places_stops Fence.wide _ trivial rfl (by omega) (w.heap.size + 1) c _ bS) KB.trans (KB.put (by simp)) (Below.refl _ _) (fun _ => rfl)
    (fun pre W => BlA w.heap.size (w.heap.size + 2) (tx pre) W ∧ Boxed W (w.heap.size + 1) 5 (.int .u8 c.toNat) ∧ Below w.heap.size w W)
    (fun _ _ _ => False)
    (OwnFrom.and (Own.from (BlA.own _ _ tx) _) (OwnFrom.and (Own.from (boxed_own _ _ _) _) (ownFrom_below (Nat.le_refl _) (by simp; omega))))
    (fun _ _ _ _ _ hs _ _ => hs)
    ⟨bB, bS, h3⟩
    (fun x => { tmps := #[.int .u8 c.toNat, undef, .string ⟨#[]⟩, .pointer (some ⟨w.heap.size, 0, none⟩), .int .i64 ((x.val : Nat) : Int), .int .u8 c.toNat, .bool true, .bool false, .int .u8 c.toNat, .bool false, .int .u8 c.toNat, .func (.func 106) #[] #[.pointer (some ⟨w.heap.size + 1, 0, none⟩)], .int .i64 ((x.val : Nat) : Int), undef, undef, undef, undef, undef, undef, undef, undef], defers := [] }) ?assign ?body ?done ?stop
  case assign =>
    intro l x W K hK
    gi_wp2
    exact hK
  case body =>
    rintro l pre x W ⟨hA, hS, hB⟩ hlt
    have hlen := tx_length pre
    have hx := x.isLt
    have HS : Hid (tx (pre ++ [x]) = tx pre ++ (if (tx pre).isEmpty then [] else [124]) ++ [UInt8.ofNat (97 + x.val)]) := Lib.hid (by rw [tx_snoc]; rfl)
    obtain ⟨X, hX⟩ : ∃ X : Nat, X = x.val := ⟨_, rfl⟩
    rw [← hX] at hx HS ⊢
    have hxI : (X : Int) < 6 := by omega
    obtain ⟨ch, hch⟩ : ∃ ch : UInt8, ch = UInt8.ofNat (97 + X) := ⟨_, rfl⟩
    have hlt0 := fun (W' : World) (hb : Below w.heap.size w W') => (HL.out.below hb) X hx
    rw [← hch] at hlt0 HS
    obtain ⟨T, hT⟩ : ∃ T, T = tx pre := ⟨_, rfl⟩
    rw [← hT] at HS hA hlen
    clear hX hch hT
    gi_wp2_with fail
    refine ⟨trivial, ?_⟩
    refine (CallsIn.inRound l (callsIn_wide.2 (blen_any _ _ _ _ hA))).mono ?_
    rintro e _ ⟨rfl, rfl⟩
    by_cases hT0 : T = []
    · have hT1 : (T.length : Int) = 0 := by rw [hT0]; rfl
      have HT : Hid (T ++ (if T.isEmpty then [] else [124]) ++ [ch] = T ++ [ch]) := Lib.hid (by rw [hT0]; rfl)
      clear hT0
      have hc0 := hlt0 _ hB
      gi_wp2_with fail
      refine ⟨trivial, ?_⟩
      refine (CallsIn.inRound l (callsIn_wide.2 (writeByte2 _ _ _ ch _ hA (by omega)))).mono ?_
      rintro e w2 ⟨rfl, hA2, hk2⟩
      gi_wp2
      have hkb := hk2.kb (x := w.heap.size + 1) (by omega) (by omega)
      exact ⟨hk2.others.from _, hkb, by rw [HS.out, HT.out]; exact hA2, boxed_kb hS hkb, hk2.below hB (Nat.le_refl _) (by omega)⟩
    · have hT1 : (0 : Int) < T.length := by
        cases T with
        | nil => exact absurd rfl hT0
        | cons a b => simp
      have HT : Hid (T ++ (if T.isEmpty then [] else [124]) ++ [ch] = T ++ [124] ++ [ch]) := Lib.hid (by
        cases T with
        | nil => exact absurd rfl hT0
        | cons a b => rfl)
      clear hT0
      gi_wp2_with fail
      refine ⟨trivial, ?_⟩
      refine (CallsIn.inRound l (callsIn_wide.2 (writeByte2 _ _ _ 124 _ hA (by omega)))).mono ?_
      rintro e w2 ⟨rfl, hA2, hk2⟩
      have hB2 := hk2.below hB (Nat.le_refl _) (by omega)
      have hc0 := hlt0 _ hB2
      gi_wp2_with fail
      refine ⟨trivial, ?_⟩
      refine (CallsIn.inRound l (callsIn_wide.2 (writeByte2 _ _ _ ch _ hA2 (by simp only [List.length_append, List.length_cons, List.length_nil]; omega)))).mono ?_
      rintro e w3 ⟨rfl, hA3, hk3⟩
      gi_wp2
      have hk := hk2.trans hk3
      have hkb := hk.kb (x := w.heap.size + 1) (by omega) (by omega)
      exact ⟨hk.others.from _, hkb, by rw [HS.out, HT.out]; exact hA3, boxed_kb hS hkb, hk.below hB (Nat.le_refl _) (by omega)⟩
  case done =>
    rintro D ys W hD rfl ⟨hA, hS, hB⟩ hK
    rw [tx_plc c 6 (Nat.le_refl _)] at hA
    gi_wp2_with fail
    refine ⟨trivial, ?_⟩
    refine (callsIn_wide.2 (builderString_k _ _ _ hA.bld (by have := hA.lt; have := hA.size; omega) hB (Nat.le_refl _) hK)).mono ?_
    rintro e w2 ⟨rfl, hb2, hK2⟩
    gi_wp2
    refine ⟨by simp, .inl ⟨_, _, rfl, run_takeDeferred hK2, ?_⟩⟩
    refine ⟨_, results_tmp rfl _ _ _, ?_, ?_⟩
    · rfl
    · exact hb2.trans (belowK_b (w := w) (Nat.le_refl _) w2 D _ _ (by simp at hD; omega) hK2 rfl rfl)
  case stop =>
    rintro D c pre W _ _ h _
    exact h.elim
theorem ptext_any (c : UInt8) (w : World) (hL : Letters w) :
    Calls Tryz.prog 68 #[.int .u8 c.toNat] w fun e w' => e = .returned (.string ⟨(textP c).toArray⟩) ∧ Below w.heap.size w w' := by
  unfold textP
  by_cases h1 : 64 ≤ c.toNat
  · rw [if_pos h1]
    have hp := pright_any c
    rw [decide_eq_false (by omega)] at hp
    obtain ⟨x, hx⟩ : ∃ x : Int, x = c.toNat := ⟨_, rfl⟩
    rw [← hx] at hp ⊢
    clear hx
    go_enter Tryz.func68, Tryz.ntmps68
    go_wp2_with fail
    refine (hp _).mono ?_
    rintro e _ ⟨rfl, rfl⟩
    go_wp2_with fail
    go_ret
    exact ⟨rfl, Below.refl _ _⟩
  · rw [if_neg h1]
    by_cases h2 : c = 0
    · rw [if_pos h2]
      subst h2
      have hp := pright_any 0
      rw [decide_eq_true (by decide)] at hp
      have e0 : ((0 : UInt8).toNat : Int) = 0 := rfl
      rw [e0] at hp ⊢
      go_enter Tryz.func68, Tryz.ntmps68
      go_wp2_with fail
      refine (hp _).mono ?_
      rintro e _ ⟨rfl, rfl⟩
      go_wp2_with fail
      go_ret
      exact ⟨rfl, Below.refl _ _⟩
    · rw [if_neg h2]
      exact ptext_go c w (by omega) h2 hL
end Go.Proofs.YtiggallcoocdaaaGreatDoor
