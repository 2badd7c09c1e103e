/- cnf.Or. -/
import Derived.Deep.RegionWith
import Derived.Maps.OwnIn
import Derived.Deep.DeepCutAuto
import Derived.Test.YtlkgcidhhngfeaaGreatDoorTable
namespace Go.Proofs.YtlkgcidhhngfeaaGreatDoor
open Go.RowKit Go.Shelf
namespace SemAt
attribute [scoped go_sem] Oper.semAt_some
end SemAt
/-- the clauses of both, one of each -/
def unionL (a b : List UInt8) : List UInt8 := a.flatMap fun c => b.map fun d => c ||| d
theorem unionL_snoc (a b : List UInt8) (c : UInt8) : unionL (a ++ [c]) b = unionL a b ++ b.map (fun d => c ||| d) := by
  simp [unionL]
theorem unionL_length (b : List UInt8) : ∀ a : List UInt8, (unionL a b).length = a.length * b.length
  | [] => by simp [unionL]
  | c :: r => by
    have h := unionL_length b r
    have : unionL (c :: r) b = (b.map fun d => c ||| d) ++ unionL r b := by simp [unionL]
    rw [this, List.length_append, h, List.length_map, List.length_cons, Nat.succ_mul]
    omega
theorem or_snoc (p : List UInt8) (c x : UInt8) (pre : List UInt8) : Lib.byteCells (p ++ pre.map fun d => c ||| d) ++ [.int .u8 (bits .or .u8 (c.toNat : Int) (x.toNat : Int))] = Lib.byteCells (p ++ (pre ++ [x]).map fun d => c ||| d) := by
  rw [or_bits]
  simp [Lib.byteCells]
theorem conv_rowF {W : World} {B : Nat} {v : Value} {l : List UInt8} (h : W.ownsRow B 5 1 v l.length (Lib.byteCells l)) : (convert 108 23 v).run Tryz.prog W = .ok (.string ⟨l.toArray⟩) W := by
  rcases h.2 with ⟨hv, h0⟩ | ⟨g, cap, cur, hv, _, hg, h1, h2, _, h4⟩
  · obtain rfl := List.length_eq_zero_iff.1 h0
    rw [hv, run_convert_bytes_nil W 108 5 Tryz.underlying108 Tryz.underlying5 _ _ 23 Tryz.underlying23]
    rfl
  · rw [hv]
    refine run_convert_bytes_back W 108 23 5 ⟨g, 0, none⟩ cap l Tryz.underlying108 Tryz.underlying5 Tryz.underlying23 (fun j hj => ?_)
    rw [Nat.mul_one] at h4
    have hadd : (⟨g, 0, none⟩ : Addr).add j = ⟨g, j, none⟩ := by unfold Addr.add; simp; omega
    rw [hadd]
    unfold World.cell?
    rw [hg]
    show cur[j]? = _
    have h5 : (cur.toList.take l.length)[j]? = cur[j]? := by
      rw [List.getElem?_take_of_lt hj]
      simp
    rw [← h5, h4]
    unfold Lib.byteCells
    rw [List.getElem?_map, List.getElem?_eq_getElem hj]
    simp
/-! Least -/
theorem row_old {W : World} {B : Nat} {e : TypeId} {size : Nat} {v : Value} {n : Nat} {xs : List Value} (h : W.ownsRow B e size v n xs) : v.ownBlock ≠ some W.heap.size := by
  rcases h.2 with ⟨hv, _⟩ | ⟨g, cap, cur, hv, _, hg, _⟩
  · rw [hv]; simp [Value.ownBlock]
  · have := (Array.getElem?_eq_some_iff.1 hg).1
    rw [hv]
    simp only [Value.ownBlock, ne_eq, Option.some.injEq]
    omega
theorem boxed_kb2 {b : Nat} {W W' : World} {t : TypeId} {v : Value} (h : Boxed W b t v) (h' : Boxed W' b t v) : KB b W W' := Eq.trans h' (Eq.symm h)
theorem boxed_inj {b : Nat} {W : World} {t : TypeId} {u v : Value} (h : Boxed W b t u) (h' : Boxed W b t v) : u = v := by
  have := Eq.trans (Eq.symm h) h'
  injection this with this
  injection this with this
  simpa using this
theorem app_box {W w1 : World} {b B : Nat} {t2 : TypeId} {u v v' : Value} {tmp : Obj} (hs : Boxed W b t2 u) (hne : some b ≠ v.ownBlock) (hB : b ≠ B) (hg : (W.alloc tmp).grownBy w1 v.ownBlock) : Boxed (w1.setCell ⟨B, 0, none⟩ v') b t2 u :=
  ((hs.alloc tmp).kept hg hne).other hB v'
set_option maxRecDepth 100000 in
set_option maxHeartbeats 2000000 in
theorem or_gen (a b x y : ByteArray) (X Y : List UInt8) (hX : X = x.data.toList) (hY : Y = y.data.toList) (hx : x.size ≤ 64) (hy : y.size ≤ 64) (R : ByteArray)
    (hna : ∀ w, Calls Tryz.prog 48 #[.string a] w fun e w' => e = .returned (.string x) ∧ Below w.heap.size w w')
    (hnb : ∀ w, Calls Tryz.prog 48 #[.string b] w fun e w' => e = .returned (.string y) ∧ Below w.heap.size w w')
    (hnn : ∀ w, Calls Tryz.prog 48 #[.string ⟨(unionL X Y).toArray⟩] w fun e w' => e = .returned (.string R) ∧ Below w.heap.size w w') (w : World) :
    Calls Tryz.prog 44 #[.string a, .string b] w fun e w' => e = .returned (.string R) ∧ Below w.heap.size w w' := by
  have HX := Lib.hid hX
  have HY := Lib.hid hY
  clear hX hY
  obtain ⟨i0, hi, hz0, hz1, hz2⟩ := info_parts u8Info
  refine (callsIn_wide (n := 9)).1 ?_
  refine callsIn_of_wp_marks Tryz.func44 rfl trivial ?_ rfl
  simp only [Tryz.ntmps44, List.size_toArray, List.length_cons, List.length_nil, Nat.reduceAdd, Nat.reduceSub, Array.replicate_succ, Array.replicate_zero, List.push_toArray, List.append_toArray, List.nil_append, List.cons_append]
  refine wpIn_wide.2 ?_
  have hB0 := Below.refl w.heap.size w
  have M0 := Mem.nil w
  go_upto_region 1 with (fail)
  refine wp_named ?_
  intro w1 hW1
  have hB1 : Below w.heap.size w w1 := by rw [hW1]; exact below_al hB0 _
  have M1 : Mem w1 [(w.heap.size, .cells #[.string b] 23)] := by rw [hW1]; exact M0.new' (w.heap.size) (by rfl) _
  clear hW1
  have c0 := Mem.cell (v := .string b) M1.1 0 rfl
  have z0 := Mem.lt M1.1
  have f0 := Mem.free M1.1 0
  go_cut [0, 8, 9, 10, 11] from 8 to 11 (fun s0 s8 s9 s10 s11 wx => s0 = .string x ∧ s8 = .string a ∧ s9 = .string x ∧ s10 = .string b ∧ s11 = .string y ∧ Mem wx [(w.heap.size, .cells #[.string y] 23)] ∧ Below w.heap.size w wx)
  case first =>
    first
    | (go_region_with
        (first
          | (go_at_call 48; (with_reducible refine (hna _).mono ?_); rintro e wn ⟨rfl, hbn⟩; have hcn := hbn.cell (p := ⟨w.heap.size, 0, none⟩) (by first | omega | (simp; omega)); have hfn := hbn.frozen (p := ⟨w.heap.size, 0, none⟩) (by first | omega | (simp; omega)); have hzn : w.heap.size < wn.heap.size := (by have := hbn.size; first | omega | (simp at this; omega)))
          | (go_at_call 48; (with_reducible refine (hnb _).mono ?_); rintro e wm ⟨rfl, hbm⟩; have hcm := hbm.cell (p := ⟨w.heap.size, 0, none⟩) (by first | omega | (simp; omega)); have hfm := hbm.frozen (p := ⟨w.heap.size, 0, none⟩) (by first | omega | (simp; omega)); have hzm : w.heap.size < wm.heap.size := (by have := hbm.size; first | omega | (simp at this; omega)))))
    | fail
    all_goals
      have hbx : Below w1.heap.size w1 wm := (below_dr (Below.refl _ _)).trans (hbn.trans (hbm.mono (by have := hbn.size; exact this)))
      have hMm := M1.below hbx
      have hXm := set_block hMm.1 [.string y] rfl
      have hYm := below_setCells (B := w.heap.size) (below_then hB1 hbx) (b := w.heap.size) (Nat.le_refl _) 0 [.string y]
      go_wp2_with fail
      go_meet
      exact ⟨rfl, rfl, rfl, rfl, rfl, ⟨hXm, trivial⟩, hYm⟩
  obtain ⟨rfl, rfl, rfl, rfl, rfl, hM2, hB2⟩ := hcut
  have c1 := Mem.cell (v := .string y) hM2.1 0 rfl
  have hmul : x.size * y.size ≤ 4096 := Nat.mul_le_mul hx hy
  obtain ⟨q, hq⟩ : ∃ q : Nat, q = x.size * y.size := ⟨_, rfl⟩
  have hqI : (x.size : Int) * (y.size : Int) = (q : Int) := by rw [hq]; exact (Int.natCast_mul _ _).symm
  rw [← hq] at hmul
  have HQ := Lib.hid hq
  clear hq c0 z0 f0 hB1 M1
  obtain ⟨W1, hmk, hown0, hgrow0⟩ := run_make_own (P := Tryz.prog) wc w.heap.size 108 5 i0 (.int .u8 0) 1 Tryz.underlying108 hi hz0 hz1 .i64 .i64 q (by rw [hz2]; omega) (by unfold maxLen; omega) hB2.size
  have hB3 : Below w.heap.size w W1 := hB2.grown hgrow0 hB2.size (fun k hk => by cases hk)
  have b0 : Boxed W1 w.heap.size 23 (.string y) := (hgrow0.block w.heap.size (Mem.lt hM2.1) (by simp)).trans hM2.1
  have c2 := b0.cell
  have hW1 := hB3.size
  go_upto_region 3 with (fail)
  have hE := each_in Fence.wide 1 trivial rfl
  go_wp2_with (go_at_call 64; refine (callsIn_wide.1 (hE _ _)).mono ?_; rintro e w' ⟨rfl, rfl⟩)
  have bC := Boxed.new W1 108 (.slice (some ⟨wc.heap.size, 0, none⟩) 0 q)
  have bS := Boxed.new (W1.alloc (.cells #[.slice (some ⟨wc.heap.size, 0, none⟩) 0 q] 108)) 23 (.string x)
  rw [World.size_alloc] at bS
  have hB4 : Below w.heap.size w ((W1.alloc (.cells #[.slice (some ⟨wc.heap.size, 0, none⟩) 0 q] 108)).alloc (.cells #[.string x] 23)) := (hB3.alloc hW1 _).alloc (by simp; omega) _
  have hsz : ((W1.alloc (.cells #[.slice (some ⟨wc.heap.size, 0, none⟩) 0 q] 108)).alloc (.cells #[.string x] 23)).heap.size = W1.heap.size + 2 := by simp
  have hlt0 := b0.lt
  have bB : Boxed ((W1.alloc (.cells #[.slice (some ⟨wc.heap.size, 0, none⟩) 0 q] 108)).alloc (.cells #[.string x] 23)) w.heap.size 23 (.string y) := (b0.alloc _).alloc _
  have hrow := (hown0.alloc (.cells #[.slice (some ⟨wc.heap.size, 0, none⟩) 0 q] 108)).alloc (.cells #[.string x] 23)
  have bC' := bC.alloc (.cells #[.string x] 23)
  obtain ⟨W0, hW0⟩ : ∃ W0, (W1.alloc (.cells #[.slice (some ⟨wc.heap.size, 0, none⟩) 0 q] 108)).alloc (.cells #[.string x] 23) = W0 := ⟨_, rfl⟩
  rw [hW0] at bB bS bC' hB4 hsz hrow ⊢
  clear hW0 bC b0 hown0 hgrow0 hmk c1 c2 hM2 hB2
  have hxl : x.size ≤ 140737488351232 := by omega
  have hyl : y.size ≤ 140737488351232 := by omega
  refine (wpIn_wide (n := 9)).1 ?_
  refine wpIn_rangeFunc_ownH rfl (by omega) (gf := 79) (lb := #[.pointer (some ⟨W1.heap.size + 1, 0, none⟩)]) rfl trivial (enters_of Tryz.func79 (by kernel_rfl) rfl)
    (each_stops Fence.wide _ trivial rfl (by omega) (W1.heap.size + 1) x hxl X HX.out W0 bS) KB.trans (KB.put (by omega)) (Below.refl _ _) (fun _ => rfl)
    (fun pre W => (∃ v, Boxed W W1.heap.size 108 v ∧ W.ownsRow w.heap.size 5 1 v (unionL pre Y).length (Lib.byteCells (unionL pre Y)) ∧ True) ∧ Boxed W (W1.heap.size + 1) 23 (.string x) ∧ Boxed W w.heap.size 23 (.string y) ∧ Below w.heap.size w W)
    (fun _ _ _ => False)
    (OwnFrom.and (Own.from (holdsRow_own w.heap.size W1.heap.size 108 5 1 (fun pre : List UInt8 => (unionL pre Y).length) (fun pre => Lib.byteCells (unionL pre Y)) (fun _ _ => True)) _) (OwnFrom.and (Own.from (boxed_own _ _ _) _) (OwnFrom.and (Own.from (boxed_own _ _ _) _) (ownFrom_below (Nat.le_refl _) (by omega)))))
    (fun _ _ _ _ _ hs _ _ => hs)
    ⟨⟨_, bC', hrow, trivial⟩, bS, bB, hB4⟩
    (fun c a' W => ∃ Bx, (W1.heap.size + 1 < Bx ∧ a' = { tmps := #[.string x, .string b, undef, .pointer (some ⟨w.heap.size, 0, none⟩), .string ⟨#[]⟩, .pointer (some ⟨W1.heap.size, 0, none⟩), .pointer (some ⟨Bx, 0, none⟩), undef, .string a, .string x, .string b, .string y, .string x, .int .i64 x.size, .string y, .int .i64 y.size, .int .i64 q, .slice (some ⟨wc.heap.size, 0, none⟩) 0 q, .string x, .func (.func 79) #[] #[.pointer (some ⟨W1.heap.size + 1, 0, none⟩)], .int .u8 (c.toNat : Int), undef, undef, undef, undef, undef, undef, undef, undef, undef, undef, undef, undef], defers := [] }) ∧ Boxed W Bx 5 (.int .u8 (c.toNat : Int)) ∧ ∃ v, Boxed W W1.heap.size 108 v ∧ v.ownBlock ≠ some Bx)
    (fun c a' _ A B row hs hg hr => by
      obtain ⟨Bx, h1, h2, v, h3, h4⟩ := hs
      exact ⟨Bx, h1, boxed_own Bx 5 (fun (_ : Unit) => Value.int .u8 (c.toNat : Int)) () A B row h2 hg (fun r e => (hr r e).2), v, boxed_own W1.heap.size 108 (fun (_ : Unit) => v) () A B row h3 hg (fun r e => (hr r e).2), h4⟩)
    ?assign ?body ?done ?stop
  case assign =>
    rintro l pre c W K ⟨⟨v, hv, hr, -⟩, hS, hb0, hB⟩ hK
    open SemAt in gi_wp2
    have hlv : v.ownBlock ≠ some W.heap.size := row_old hr
    exact hK _ _ ((KeepsOthers.alloc _ _).from _) (boxed_kb2 hS (hS.alloc _)) ⟨⟨v, hv.alloc _, hr.alloc _, trivial⟩, hS.alloc _, hb0.alloc _, hB.alloc hB.size _⟩ ⟨W.heap.size, ⟨hS.lt, rfl⟩, Boxed.new W _ _, v, hv.alloc _, hlv⟩
  case body =>
    rintro l pre c a' W hl ⟨r, hr⟩ ⟨⟨v, hv, hrow, -⟩, hS, hb0, hB⟩ ⟨Bx, ⟨hBx, rfl⟩, bX, v2, hv2, hne⟩ hlt
    obtain rfl : v2 = v := boxed_inj hv2 hv
    have cB := hb0.cell
    have hsW := hB.size
    have h1' : 1 ≤ 9 - 1 - 1 := by decide
    have hXs : X.length = x.size := by rw [HX.out]; exact Array.length_toList
    have hYs : Y.length = y.size := by rw [HY.out]; exact Array.length_toList
    have HXs := Lib.hid hXs
    have HYs := Lib.hid hYs
    have HLT := Lib.hid hlt
    clear hXs hYs hlt
    open SemAt in
    gi_wp2_with (refine ⟨trivial, ?_⟩; gi_at_call 64; refine (CallsIn.inRound l (each_in Fence.wide _ trivial rfl _ _)).mono ?_; rintro e w' ⟨rfl, rfl⟩)
    have bN := Boxed.new W 23 (.string y)
    have hr' : (W.alloc (.cells #[.string y] 23)).heap[l]? = some (.loop r) := (Below.heap_alloc W _ l (Array.getElem?_eq_some_iff.1 hr).1).trans hr
    refine wpIn_rangeFunc_ownN (l₀ := l) (r₀ := r) rfl hr' h1' (gf := 79) (lb := #[.pointer (some ⟨W.heap.size, 0, none⟩)]) rfl trivial (enters_of Tryz.func79 (by kernel_rfl) rfl)
      ((each_stops Fence.wide _ trivial rfl (by omega) W.heap.size y hyl Y HY.out _ bN).inRound l) KB.trans (KB.put (by simp)) (Below.refl _ _) (fun _ => rfl)
      (fun pre' W' => (∃ v, Boxed W' W1.heap.size 108 v ∧ W'.ownsRow w.heap.size 5 1 v (unionL pre Y ++ pre'.map fun d => c ||| d).length (Lib.byteCells (unionL pre Y ++ pre'.map fun d => c ||| d)) ∧ v.ownBlock ≠ some Bx) ∧ Boxed W' Bx 5 (.int .u8 (c.toNat : Int)) ∧ Boxed W' (W1.heap.size + 1) 23 (.string x) ∧ Boxed W' w.heap.size 23 (.string y) ∧ Boxed W' W.heap.size 23 (.string y) ∧ (Below w.heap.size W W' ∧ KeepsFrom W0.heap.size W W'))
      (fun _ _ _ => False)
      (OwnFrom.and (Own.from (holdsRow_own w.heap.size W1.heap.size 108 5 1 (fun pre' : List UInt8 => (unionL pre Y ++ pre'.map fun d => c ||| d).length) (fun pre' => Lib.byteCells (unionL pre Y ++ pre'.map fun d => c ||| d)) (fun _ v => v.ownBlock ≠ some Bx)) _) (OwnFrom.and (Own.from (boxed_own _ _ _) _) (OwnFrom.and (Own.from (boxed_own _ _ _) _) (OwnFrom.and (Own.from (boxed_own _ _ _) _) (OwnFrom.and (Own.from (boxed_own _ _ _) _) (OwnFrom.and (ownFrom_below hsW (by simp; omega)) (ownFrom_keepsFrom (by simp))))))))
      (fun _ _ _ _ _ hs _ _ => hs)
      ⟨⟨v2, hv.alloc _, by simpa using hrow.alloc _, hne⟩, bX.alloc _, hS.alloc _, hb0.alloc _, bN, (Below.refl _ W).alloc hsW _, (KeepsOthers.alloc _ _).from _⟩
      (fun d a'' _ => a'' = { tmps := #[.string x, .string b, undef, .pointer (some ⟨w.heap.size, 0, none⟩), .string ⟨#[]⟩, .pointer (some ⟨W1.heap.size, 0, none⟩), .pointer (some ⟨Bx, 0, none⟩), .int .u8 (d.toNat : Int), .string a, .string x, .string b, .string y, .string x, .int .i64 x.size, .string y, .int .i64 y.size, .int .i64 q, .slice (some ⟨wc.heap.size, 0, none⟩) 0 q, .string x, .func (.func 79) #[] #[.pointer (some ⟨W1.heap.size + 1, 0, none⟩)], .int .u8 (c.toNat : Int), .string y, .func (.func 79) #[] #[.pointer (some ⟨W.heap.size, 0, none⟩)], .int .u8 (d.toNat : Int), undef, undef, undef, undef, undef, undef, undef, undef, undef], defers := [] })
      (fun _ _ _ _ _ _ hs _ _ => hs)
      ?assign2 ?body2 ?done2 ?stop2
    case assign2 =>
      rintro l2 pre' d W' K hi hK
      open SemAt in gi_wp2
      exact hK _ _ (KeepsFrom.refl _ _) rfl hi rfl
    case body2 =>
      rintro l2 pre' d a'' W' _ _ ⟨⟨v, hv3, hrow3, hne3⟩, bX3, hS3, hb3, bN3, hBW, hKF⟩ rfl hlt2
      have hc := hv3.cell
      have cX := bX3.cell
      have hz3 : W.heap.size ≤ W'.heap.size := hBW.size
      have hlen : (unionL pre Y ++ pre'.map fun d => c ||| d).length + 1 ≤ 4096 := by
        rw [List.length_append, unionL_length, List.length_map]
        have h1 : pre.length + 1 ≤ 64 := by have := HLT.out; rw [HXs.out] at this; omega
        have h2 : pre'.length + 1 ≤ 64 := by rw [HYs.out] at hlt2; omega
        have h3 : pre.length * Y.length ≤ 63 * 64 := Nat.mul_le_mul (by omega) (by rw [HYs.out]; exact hy)
        omega
      have HLEN := Lib.hid hlen
      clear hlen hlt2
      obtain ⟨u, hu⟩ : ∃ u, u = (unionL pre Y ++ pre'.map fun d => c ||| d) := ⟨_, rfl⟩
      have hu2 : Lib.byteCells u ++ [.int .u8 (bits .or .u8 (c.toNat : Int) (d.toNat : Int))] = Lib.byteCells (unionL pre Y ++ (pre' ++ [d]).map fun d => c ||| d) := by rw [hu]; exact or_snoc _ _ _ _
      have hu3 : u.length + 1 = (unionL pre Y ++ (pre' ++ [d]).map fun d => c ||| d).length := by rw [hu]; simp only [List.length_append, List.length_map, List.length_cons, List.length_nil]; omega
      rw [← hu] at hrow3 HLEN
      have HU2 := Lib.hid hu2
      have HU3 := Lib.hid hu3
      clear hu hu2 hu3
      have hoW : w.heap.size ≤ W'.heap.size := by omega
      open SemAt in
      gi_wp2_with (gi_at_builtin; (refine wpListIn_append_own_at _ rfl _ _ 108 rfl w.heap.size 5 i0 (.int .u8 0) 1 1 Tryz.underlying108 hi hz0 hz1 hz2 rfl (by decide) _ _ _ rfl (hrow3.alloc _) ⟨W'.heap.size, 0, none⟩ 1 1 [.int .u8 (bits .or .u8 (c.toNat : Int) (d.toNat : Int))] rfl rfl (cell_one_new _ _ _) (by simp [Value.oneCell']) (by unfold maxLen; have := HLEN.out; omega) (by have := HLEN.out; omega) (by simp; omega) ?_; intro v' w1 hown' hgrow _ hat; obtain ⟨g', cap', rfl⟩ := ownsRow_succ hown'; obtain ⟨hv1, hv4, hr2, hk2, hb2⟩ := hv3.appended (by decide) hrow3 hoW (by omega) hown' hgrow; have hc1 := hv1.cell; have hf1 := hv1.frozen))
      rw [HU2.out, HU3.out] at hr2
      have hWlt := hS.lt
      have e1 := app_box (B := W1.heap.size) (v' := .slice (some ⟨g', 0, none⟩) (u.length + 1) cap') bX3 (fun h => hne3 h.symm) (by omega) hgrow
      have e2 := app_box (B := W1.heap.size) (v' := .slice (some ⟨g', 0, none⟩) (u.length + 1) cap') hS3 (hS3.not_row (by decide) hrow3) (by omega) hgrow
      have e3 := app_box (B := W1.heap.size) (v' := .slice (some ⟨g', 0, none⟩) (u.length + 1) cap') hb3 (hb3.not_row (by decide) hrow3) (by omega) hgrow
      have e4 := app_box (B := W1.heap.size) (v' := .slice (some ⟨g', 0, none⟩) (u.length + 1) cap') bN3 (bN3.not_row (by decide) hrow3) (by omega) hgrow
      have hb9 := bX3.lt
      have e5 : (Value.slice (some ⟨g', 0, none⟩) (u.length + 1) cap').ownBlock ≠ some Bx := by
        rcases hat with h | h
        · rw [h]; exact hne3
        · rw [h, World.size_alloc]; simp; omega
      rw [HU3.out] at hv4 e1 e2 e3 e4 e5 hk2 hb2
      have hKF2 := hKF.trans (hk2.from W0.heap.size)
      rw [HU3.out]
      exact ⟨hk2.from _, boxed_kb2 bN3 e4, ⟨_, hv4, hr2, e5⟩, e1, e2, e3, e4, hBW.trans (hb2.mono (by omega)), hKF2⟩
    case done2 =>
      rintro ys' W' rfl ⟨⟨v, hv3, hrow3, -⟩, bX3, hS3, hb3, bN3, hBW, hKF⟩
      open SemAt in gi_wp2
      rw [← unionL_snoc] at hrow3
      exact ⟨hKF, boxed_kb2 hS hS3, ⟨v, hv3, hrow3, trivial⟩, hS3, hb3, hB.trans hBW⟩
    case stop2 =>
      rintro c pre' W' _ h
      exact h.elim
  case done =>
    rintro D ys W hD rfl ⟨⟨v, hv, hrow, -⟩, hS, hb0, hB⟩ hK
    have hc := hv.cell
    have hcv := conv_rowF hrow
    go_wp2_with (go_at_call 48; refine (hnn _).mono ?_; rintro e w2 ⟨rfl, hb2⟩)
    have hK2 : w2.heap[D]? = some (.deferred (some [])) := (hb2.block D (Array.getElem?_eq_some_iff.1 hK).1).trans hK
    refine ⟨by simp, .inl ⟨_, _, rfl, run_takeDeferred hK2, ?_⟩⟩
    refine ⟨_, results_tmp rfl _ _ _, rfl, ?_⟩
    exact ((below_then hB hb2).trans (belowK_b (w := w) (Nat.le_refl _) w2 D _ _ (by omega) hK2 rfl rfl))
  case stop =>
    rintro D c pre W _ _ h _
    exact h.elim
end Go.Proofs.YtlkgcidhhngfeaaGreatDoor
