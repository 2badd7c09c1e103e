/- cnf.Norm. -/
import Derived.Test.YtlkgcidhhngfeaaGreatDoorEach
import Derived.Maps.AppendAt
import Derived.WideMake
namespace Go.Proofs.YtlkgcidhhngfeaaGreatDoor
open Go.RowKit Go.Shelf
attribute [local go_sem] Oper.semAt_some
theorem kb_appended {W w1 : World} {b n₀ B : Nat} {t2 e : TypeId} {size : Nat} {v v' u : Value} {k : Nat} {xs : List Value} {tmp : Obj} (hs : Boxed W b t2 u) (h2 : t2 ≠ e) (hne : b ≠ B) (hrow : W.ownsRow n₀ e size v k xs) (hgrow : (W.alloc tmp).grownBy w1 v.ownBlock) : KB b W (w1.setCell ⟨B, 0, none⟩ v') := by
  have h1 : (w1.setCell ⟨B, 0, none⟩ v').heap[b]? = w1.heap[b]? := Below.heap_setCell _ _ _ b hne
  have h3 := hgrow.block b (by have := hs.lt; simp; omega) (hs.not_row h2 hrow)
  exact h1.trans (h3.trans (heap_alloc_old W tmp b hs.lt))
theorem c6_bits (x : UInt8) : bits .and .u8 (x.toNat : Int) 63 = ((c6 x).toNat : Int) := by
  unfold c6
  rw [show (63 : Int) = ((63 : Nat) : Int) from rfl, u8_and_nat _ _ x.toNat_lt (by omega), UInt8.toNat_and]
  rfl
theorem c6_snoc (pre : List UInt8) (x : UInt8) : Lib.byteCells (List.map c6 pre) ++ [.int .u8 (bits .and .u8 (x.toNat : Int) 63)] = Lib.byteCells (List.map c6 (pre ++ [x])) := by
  rw [c6_bits]
  simp [Lib.byteCells]
set_option maxRecDepth 100000 in
set_option maxHeartbeats 2000000 in
theorem norm_any (s : ByteArray) (hs : s.size ≤ 140737488351232) (w : World) :
    Calls Tryz.prog 48 #[.string s] w fun e w' => e = .returned (.string ⟨(normL s.data.toList).toArray⟩) ∧ Below w.heap.size w w' := by
  obtain ⟨L, hL⟩ : ∃ L, L = s.data.toList := ⟨_, rfl⟩
  have hLs : L.length = s.size := by rw [hL]; exact Array.length_toList
  rw [← hL]
  obtain ⟨A, hA⟩ : ∃ A, A = Ending.returned (.string ⟨(normL L).toArray⟩) := ⟨_, rfl⟩
  rw [← hA]
  have HA := Lib.hid hA
  have HL := Lib.hid hL
  have HLs := Lib.hid hLs
  clear hL hLs hA
  obtain ⟨i0, hi, hz0, hz1, hz2⟩ := info_parts u8Info
  refine (callsIn_wide (n := 9)).1 ?_
  refine callsIn_of_wp_marks Tryz.func48 rfl trivial ?_ rfl
  simp only [Tryz.ntmps48, List.size_toArray, List.length_cons, List.length_nil, Nat.reduceAdd, Nat.reduceSub, Array.replicate_succ, Array.replicate_zero, List.push_toArray, List.append_toArray, List.nil_append, List.cons_append]
  obtain ⟨W1, hmk, hown0, hgrow0⟩ := run_make_own (P := Tryz.prog) w w.heap.size 108 5 i0 (.int .u8 0) 1 Tryz.underlying108 hi hz0 hz1 .i64 .i64 s.size (by rw [hz2]; omega) (by unfold maxLen; omega) (Nat.le_refl _)
  have hB1 : Below w.heap.size w W1 := (Below.refl _ _).grown hgrow0 (Nat.le_refl _) (fun k hk => by cases hk)
  have hW1 := hB1.size
  gi_wp2_with (refine ⟨trivial, ?_⟩; gi_at_call 64; refine (each_in Fence.wide _ trivial rfl _ _).mono ?_; rintro e w' ⟨rfl, rfl⟩)
  have bC := Boxed.new W1 108 (.slice (some ⟨w.heap.size, 0, none⟩) 0 s.size)
  have bS := Boxed.new (W1.alloc (.cells #[.slice (some ⟨w.heap.size, 0, none⟩) 0 s.size] 108)) 23 (.string s)
  rw [World.size_alloc] at bS
  have hB0 : Below w.heap.size w ((W1.alloc (.cells #[.slice (some ⟨w.heap.size, 0, none⟩) 0 s.size] 108)).alloc (.cells #[.string s] 23)) := (hB1.alloc hW1 _).alloc (by simp; omega) _
  refine wpIn_rangeFunc_ownG rfl (by omega) (gf := 79) (lb := #[.pointer (some ⟨W1.heap.size + 1, 0, none⟩)]) rfl trivial (enters_of Tryz.func79 (by kernel_rfl) rfl)
    (each_stops Fence.wide _ trivial rfl (by omega) (W1.heap.size + 1) s hs L HL.out _ bS) KB.trans (KB.put (by simp)) (Below.refl _ _) (fun _ => rfl)
    (fun pre W => (∃ v, Boxed W W1.heap.size 108 v ∧ W.ownsRow w.heap.size 5 1 v pre.length (Lib.byteCells (pre.map c6)) ∧ True) ∧ Boxed W (W1.heap.size + 1) 23 (.string s) ∧ Below w.heap.size w W)
    (fun _ _ _ => False)
    (OwnFrom.and (Own.from (holdsRow_own w.heap.size W1.heap.size 108 5 1 (fun pre : List UInt8 => pre.length) (fun pre => Lib.byteCells (pre.map c6)) (fun _ _ => True)) _) (OwnFrom.and (Own.from (boxed_own _ _ _) _) (ownFrom_below (Nat.le_refl _) (by simp; omega))))
    (fun _ _ _ _ _ hs _ _ => hs)
    ⟨⟨_, bC.alloc _, (hown0.alloc _).alloc _, trivial⟩, bS, hB0⟩
    (fun x => { tmps := #[.string s, undef, .string ⟨#[]⟩, .pointer (some ⟨W1.heap.size, 0, none⟩), .int .u8 (x.toNat : Int), .string s, .int .i64 s.size, .slice (some ⟨w.heap.size, 0, none⟩) 0 s.size, .string s, .func (.func 79) #[] #[.pointer (some ⟨W1.heap.size + 1, 0, none⟩)], .int .u8 (x.toNat : Int), undef, undef, undef, undef, undef, undef, undef, undef], defers := [] }) ?assign ?body ?done ?stop
  case assign =>
    intro l x W K hK
    gi_wp2
    exact hK
  case body =>
    rintro l pre x W ⟨⟨v, hv, hrow, -⟩, hbS, hB⟩ hlt
    have hc := hv.cell
    rw [HLs.out] at hlt
    gi_wp2_with (gi_at_builtin; refine wpListIn_append_own _ rfl _ _ 108 rfl w.heap.size 5 i0 (.int .u8 0) 1 1 Tryz.underlying108 hi hz0 hz1 hz2 rfl (by decide) _ _ _ rfl (hrow.alloc _) ⟨W.heap.size, 0, none⟩ 1 1 [.int .u8 (bits .and .u8 (x.toNat : Int) 63)] rfl rfl (cell_one_new _ _ _) (by simp [Value.oneCell']) (by unfold maxLen; omega) (by omega) (by have := hB.size; simp; omega) ?_; intro v' w1 hown' hgrow _; obtain ⟨g', cap', rfl⟩ := ownsRow_succ hown'; obtain ⟨hv1, hv2, hr2, hk2, hb2⟩ := hv.appended (by decide) hrow hB.size hW1 hown' hgrow; have hc1 := hv1.cell; have hf1 := hv1.frozen)
    have hkb := kb_appended (B := W1.heap.size) (v' := .slice (some ⟨g', 0, none⟩) (pre.length + 1) cap') hbS (by decide) (by omega) hrow hgrow
    rw [c6_snoc] at hr2
    exact ⟨hk2.from _, hkb, ⟨_, hv2, by simpa using hr2, trivial⟩, boxed_kb hbS hkb, hB.trans hb2⟩
  case done =>
    rintro D ys W hD rfl ⟨⟨v, hv, hrow, -⟩, hbS, hB⟩ hK
    have hc := hv.cell
    have hcv := conv_row (l := ys.map c6) (by simpa using hrow)
    have hl : (⟨(ys.map c6).toArray⟩ : ByteArray).size ≤ 140737488351232 := by
      show (ys.map c6).toArray.size ≤ _
      simp [HLs.out, hs]
    gi_wp2_with (refine ⟨trivial, ?_⟩; gi_at_call 66; refine (callsIn_wide.2 (least_any _ _ hl)).mono ?_; rintro e w2 ⟨rfl, hb2⟩)
    have hK2 : w2.heap[D]? = some (.deferred (some [])) := (hb2.block D (Array.getElem?_eq_some_iff.1 hK).1).trans hK
    refine ⟨by simp, .inl ⟨_, _, rfl, run_takeDeferred hK2, ?_⟩⟩
    refine ⟨_, results_tmp rfl _ _ _, ?_, ?_⟩
    · exact HA.out.symm
    · exact ((below_then hB hb2).trans (belowK_b (w := w) (Nat.le_refl _) w2 D _ _ (by simp at hD; omega) hK2 rfl rfl))
  case stop =>
    rintro D c pre W _ _ h _
    exact h.elim
end Go.Proofs.YtlkgcidhhngfeaaGreatDoor
