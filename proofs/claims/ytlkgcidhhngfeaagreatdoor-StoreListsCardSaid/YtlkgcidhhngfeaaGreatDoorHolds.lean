/- cnf.holds. -/
import Derived.Test.YtlkgcidhhngfeaaGreatDoorNorm
namespace Go.Proofs.YtlkgcidhhngfeaaGreatDoor
open Go.RowKit Go.Shelf
attribute [local go_sem] Oper.semAt_some
/-- each clause has one of x -/
def holdsL (l : List UInt8) (x : UInt8) : Bool := l.all fun c => c &&& x != 0
theorem and_bits (a b : UInt8) : bits .and .u8 (a.toNat : Int) (b.toNat : Int) = ((a &&& b).toNat : Int) := by
  rw [u8_and_nat _ _ a.toNat_lt b.toNat_lt, UInt8.toNat_and]
theorem or_bits (a b : UInt8) : bits .or .u8 (a.toNat : Int) (b.toNat : Int) = ((a ||| b).toNat : Int) := by
  rw [u8_or_nat _ _ a.toNat_lt b.toNat_lt, UInt8.toNat_or]
theorem and_zero (a b : UInt8) : (bits .and .u8 (a.toNat : Int) (b.toNat : Int) == 0) = (a &&& b == 0) := by
  rw [and_bits, Bool.eq_iff_iff, beq_iff_eq, beq_iff_eq, ← UInt8.toNat_inj]
  simp
set_option maxRecDepth 100000 in
set_option maxHeartbeats 2000000 in
theorem holdsF_any (s : ByteArray) (hs : s.size ≤ 140737488351232) (y : UInt8) (w : World) :
    Calls Tryz.prog 73 #[.string s, .int .u8 (y.toNat : Int)] w fun e w' => e = .returned (.bool (holdsL s.data.toList y)) ∧ Below w.heap.size w w' := by
  obtain ⟨L, hL⟩ : ∃ L, L = s.data.toList := ⟨_, rfl⟩
  have hLs : L.length = s.size := by rw [hL]; exact Array.length_toList
  rw [← hL]
  have HL := Lib.hid hL
  have HLs := Lib.hid hLs
  clear hL hLs
  refine (callsIn_wide (n := 9)).1 ?_
  refine callsIn_of_wp_marks Tryz.func73 rfl trivial ?_ rfl
  simp only [Tryz.ntmps73, List.size_toArray, List.length_cons, List.length_nil, Nat.reduceAdd, Nat.reduceSub, Array.replicate_succ, Array.replicate_zero, List.push_toArray, List.append_toArray, List.nil_append, List.cons_append]
  gi_wp2_with (refine ⟨trivial, ?_⟩; gi_at_call 64; refine (each_in Fence.wide _ trivial rfl _ _).mono ?_; rintro e w' ⟨rfl, rfl⟩)
  have b0 := Boxed.new w 5 (.int .u8 (y.toNat : Int))
  have b1 := Boxed.new (w.alloc (.cells #[.int .u8 (y.toNat : Int)] 5)) 4 (.bool false)
  have bS := Boxed.new ((w.alloc (.cells #[.int .u8 (y.toNat : Int)] 5)).alloc (.cells #[.bool false] 4)) 23 (.string s)
  simp only [World.size_alloc] at b1 bS
  have hB0 : Below w.heap.size w (((w.alloc (.cells #[.int .u8 (y.toNat : Int)] 5)).alloc (.cells #[.bool false] 4)).alloc (.cells #[.string s] 23)) := (((Below.refl _ w).alloc (Nat.le_refl _) _).alloc (by simp) _).alloc (by simp; omega) _
  refine wpIn_rangeFunc_ownG rfl (by omega) (gf := 79) (lb := #[.pointer (some ⟨w.heap.size + 1 + 1, 0, none⟩)]) rfl trivial (enters_of Tryz.func79 (by kernel_rfl) rfl)
    (each_stops Fence.wide _ trivial rfl (by omega) (w.heap.size + 1 + 1) s hs L HL.out _ bS) KB.trans (KB.put (by simp)) (Below.refl _ _) (fun _ => rfl)
    (fun pre W => (holdsL pre y = true) ∧ Boxed W w.heap.size 5 (.int .u8 (y.toNat : Int)) ∧ Boxed W (w.heap.size + 1) 4 (.bool false) ∧ Below w.heap.size w W)
    (fun c pre W => (c = .ret ∧ holdsL pre y = false) ∧ Boxed W (w.heap.size + 1) 4 (.bool false) ∧ Below w.heap.size w W)
    (OwnFrom.and (ownFrom_pure _ _) (OwnFrom.and (Own.from (boxed_own _ _ _) _) (OwnFrom.and (Own.from (boxed_own _ _ _) _) (ownFrom_below (Nat.le_refl _) (by simp; omega)))))
    (fun c => OwnFrom.and (ownFrom_pure _ _) (OwnFrom.and (Own.from (boxed_own _ _ _) _) (ownFrom_below (Nat.le_refl _) (by simp; omega))))
    ⟨rfl, (b0.alloc _).alloc _, b1.alloc _, hB0⟩
    (fun x => { tmps := #[.string s, .int .u8 (y.toNat : Int), undef, .pointer (some ⟨w.heap.size, 0, none⟩), .pointer (some ⟨w.heap.size + 1, 0, none⟩), .int .u8 (x.toNat : Int), .string s, .func (.func 79) #[] #[.pointer (some ⟨w.heap.size + 1 + 1, 0, none⟩)], .int .u8 (x.toNat : Int), undef, undef, undef, undef], defers := [] }) ?assign ?body ?done ?stop
  case assign =>
    intro l x W K hK
    gi_wp2
    exact hK
  case body =>
    rintro l pre x W ⟨hp, h0, h1, hB⟩ hlt
    have hc0 := h0.cell
    have hc1 := h1.cell
    have hf1 := h1.frozen
    have hsn : holdsL (pre ++ [x]) y = (x &&& y != 0) := by
      unfold holdsL at hp ⊢
      rw [List.all_append, hp]
      simp
    have HS := Lib.hid hsn
    have hz := and_zero x y
    clear hsn
    by_cases hxy : x &&& y = 0
    · have hz1 : (bits .and .u8 (x.toNat : Int) (y.toNat : Int) == 0) = true := by rw [hz]; simp [hxy]
      clear hz
      gi_wp2
      refine ⟨(KeepsOthers.setCell _ _ _).from _, ⟨rfl, by rw [HS.out, hxy]; rfl⟩, h1.set _, hB.setCell (p := ⟨w.heap.size + 1, 0, none⟩) (by simp) _⟩
    · have hz1 : (bits .and .u8 (x.toNat : Int) (y.toNat : Int) == 0) = false := by rw [hz]; simp [hxy]
      clear hz
      gi_wp2
      exact ⟨(KeepsOthers.refl _).from _, rfl, ⟨by rw [HS.out]; simp [hxy], h0, h1, hB⟩⟩
  case done =>
    rintro D ys W hD rfl ⟨hp, h0, h1, hB⟩ hK
    have hc1 := h1.cell
    have hf1 := h1.frozen
    gi_wp2
    have hK' := (KeepsOthers.setCell W ⟨w.heap.size + 1, 0, none⟩ (.bool true)).same D _ hK rfl
    refine ⟨by simp, .inl ⟨_, _, rfl, run_takeDeferred hK', ?_⟩⟩
    have hc5 := cell_kept (h1.set (.bool true)).cell (grownBy_putObj' _ D (.deferred none)) (fun r e => by cases e; exact ⟨_, hK', rfl⟩)
    refine ⟨.bool true, ?_, by rw [hp], (hB.setCell (p := ⟨w.heap.size + 1, 0, none⟩) (by simp) _).trans (belowK_b (w := w) (Nat.le_refl _) _ D _ _ (by simp at hD; omega) hK' rfl rfl)⟩
    simp [results, Tryz.results73, go_sem, hc5]
  case stop =>
    rintro D c pre W hD hpre ⟨⟨rfl, hno⟩, h1, hB⟩ hK
    gi_wp2
    refine ⟨by simp, .inl ⟨_, _, rfl, run_takeDeferred hK, ?_⟩⟩
    have hc5 := cell_kept h1.cell (grownBy_putObj' _ D (.deferred none)) (fun r e => by cases e; exact ⟨_, hK, rfl⟩)
    have hfin : holdsL L y = false := by
      obtain ⟨t, rfl⟩ := hpre
      unfold holdsL at hno ⊢
      rw [List.all_append, hno]
      rfl
    refine ⟨.bool false, ?_, by rw [hfin], hB.trans (belowK_b (w := w) (Nat.le_refl _) W D _ _ (by simp at hD; omega) hK rfl rfl)⟩
    simp [results, Tryz.results73, go_sem, hc5]
end Go.Proofs.YtlkgcidhhngfeaaGreatDoor
