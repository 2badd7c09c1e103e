/- op.Get. -/
import Derived.Test.YtecoeaeonedmnaaGreatDoorOpWalkI
namespace Go.Proofs.YtecoeaeonedmnaaGreatDoor
open Go.RowKit
def oC (r : Option ((Int × Int) × Int)) : Int := match r with | none => 0 | some p => p.1.1
def oA (r : Option ((Int × Int) × Int)) : Int := match r with | none => 0 | some p => p.1.2
def oN (r : Option ((Int × Int) × Int)) : Int := match r with | none => 0 | some p => p.2
def oO (r : Option ((Int × Int) × Int)) : Bool := r.isSome
def opEnd (r : Option ((Int × Int) × Int)) : Ending := .returned (.tuple #[.agg #[.int .i64 (oC r), .int .i64 (oA r)], .int .i64 (oN r), .bool (oO r)])
theorem opEnd_none : opEnd none = .returned (.tuple #[.agg #[.int .i64 0, .int .i64 0], .int .i64 0, .bool false]) := rfl
theorem opEnd_some (c a n : Int) : opEnd (some ((c, a), n)) = .returned (.tuple #[.agg #[.int .i64 c, .int .i64 a], .int .i64 n, .bool true]) := rfl
theorem opGet_out (l : List UInt8) (a : Int) (h : a < 0 ∨ (l.length : Int) ≤ a) : opGet l a = none := by unfold opGet; rw [if_pos h]
theorem oget_out (s : ByteArray) (a : Int) (w : World) (_hs : s.size ≤ 9223372036854775807) (ha : a < 0 ∨ (s.size : Int) ≤ a) :
    Calls Tryz.prog 24 #[.string s, .int .i64 a] w fun e w' => e = opEnd (opGet s.data.toList a) ∧ Below w.heap.size w w' := by
  have hfin := opGet_out s.data.toList a (by rw [Array.length_toList]; exact ha)
  rw [hfin, opEnd_none]
  clear hfin
  by_cases h0 : a < 0
  · clear ha
    go_enter Tryz.func24, Tryz.ntmps24
    go_wp2_with fail
    refine bodyPost_ret (v := .tuple #[.agg #[.int .i64 0, .int .i64 0], .int .i64 0, .bool false]) (by simp [results, Tryz.results24, go_sem]) rfl ⟨rfl, ?_⟩
    exact (Below.refl _ _).alloc (Nat.le_refl _) _
  · have h1 : (s.size : Int) ≤ a := by omega
    clear ha
    go_enter Tryz.func24, Tryz.ntmps24
    go_wp2_with fail
    refine bodyPost_ret (v := .tuple #[.agg #[.int .i64 0, .int .i64 0], .int .i64 0, .bool false]) (by simp [results, Tryz.results24, go_sem]) rfl ⟨rfl, ?_⟩
    exact (Below.refl _ _).alloc (Nat.le_refl _) _
theorem odrop_cons (s : ByteArray) (A : Nat) (h : A < s.size) : s.data.toList.drop A = s[A] :: s.data.toList.drop (A + 1) := by
  have hl : A < s.data.toList.length := by rw [Array.length_toList]; exact h
  rw [List.drop_eq_getElem_cons hl]
  congr 1
theorem opGet_at (s : ByteArray) (A : Nat) (h : A < s.size) : opGet s.data.toList A =
    if aOk (s[A].toNat : Int) = false then none else if aArg (s[A].toNat : Int) = 0 then some (((s[A].toNat : Int), 0), (A : Int) + 1) else
    match s.data.toList.drop (A + 1) with
    | x :: y :: _ => some (((s[A].toNat : Int), ((x.toNat * 256 + y.toNat : Nat) : Int)), (A : Int) + 3)
    | _ => none := by
  unfold opGet
  rw [if_neg (by rw [Array.length_toList]; have : s.data.size = s.size := rfl; omega), Int.toNat_natCast, odrop_cons s A h]
  rfl
theorem oget_bad (s : ByteArray) (A b : Nat) (w : World) (_hs : s.size ≤ 9223372036854775807) (ha : A < s.size) (hw : LaidOp w) (hb : s[A].toNat = b) (hk : aOk (b : Int) = false) :
    Calls Tryz.prog 24 #[.string s, .int .i64 A] w fun e w' => e = opEnd (opGet s.data.toList A) ∧ Below w.heap.size w w' := by
  have hfin := opGet_at s A ha
  rw [hb, hk, if_pos rfl] at hfin
  rw [hfin, opEnd_none]
  have ha0 : decide ((A : Int) < 0) = false := by simp
  have ha1 : decide (s.size ≤ A) = false := by simp; omega
  have hbb : b < 256 := by rw [← hb]; exact UInt8.toNat_lt _
  have HK := Lib.hid hk
  clear hfin hk
  go_enter Tryz.func24, Tryz.ntmps24
  go_wp2_with fail
  refine (about_any _ _ (hw.alloc _)).mono ?_
  rw [HK.out, Bool.and_false]
  rintro e w1 ⟨rfl, hb1⟩
  obtain ⟨hc1, hf1⟩ := bcell hb1
  have hz1 : w.heap.size < w1.heap.size := by have := hb1.size; simp at this; omega
  have e0 : w1.cell? ⟨w.heap.size, 0, none⟩ = some (.int .i64 0) := by rw [hc1 _ _ (by simp), World.cell?_alloc_new]; rfl
  have e1 : w1.cell? ⟨w.heap.size, 1, none⟩ = some (.int .i64 0) := by rw [hc1 _ _ (by simp), World.cell?_alloc_new]; rfl
  have s0 := setCell_same e0
  have s1 := setCell_same e1
  go_wp2_with fail
  refine bodyPost_ret (v := .tuple #[.agg #[.int .i64 0, .int .i64 0], .int .i64 0, .bool false]) (by simp [results, Tryz.results24, go_sem, e0, e1]) rfl ⟨rfl, ?_⟩
  exact below_alloc_then hb1
/-- what is known of the op that Get makes, in its own block -/
structure Held2 (w : World) (W : World) (c a : Int) : Prop where
  c0 : W.cell? ⟨w.heap.size, 0, none⟩ = some (.int .i64 c)
  c1 : W.cell? ⟨w.heap.size, 1, none⟩ = some (.int .i64 a)
  f0 : W.frozen? ⟨w.heap.size, 0, none⟩ = false
  f1 : W.frozen? ⟨w.heap.size, 1, none⟩ = false
  hb : Below w.heap.size w W
  hs : w.heap.size < W.heap.size
theorem Held2.new (w : World) (T : TypeId) (c a : Int) : Held2 w (w.alloc (.cells #[.int .i64 c, .int .i64 a] T)) c a :=
  ⟨by rw [World.cell?_alloc_new]; rfl, by rw [World.cell?_alloc_new]; rfl, by simp, by simp, (Below.refl _ _).alloc (Nat.le_refl _) _, by simp⟩
theorem Held2.below {w W W' : World} {c a : Int} (h : Held2 w W c a) (hb : Below W.heap.size W W') : Held2 w W' c a :=
  ⟨(hb.cell h.hs).trans h.c0, (hb.cell h.hs).trans h.c1, (hb.frozen h.hs).trans h.f0, (hb.frozen h.hs).trans h.f1, h.hb.trans (hb.mono h.hb.size), Nat.lt_of_lt_of_le h.hs hb.size⟩
theorem Held2.set0 {w W : World} {c a : Int} (h : Held2 w W c a) (x : Int) : Held2 w (W.setCell ⟨w.heap.size, 0, none⟩ (.int .i64 x)) x a :=
  ⟨World.cell?_setCell_same W _ _ h.c0, (World.cell?_setCell_other W _ _ _ (by simp)).trans h.c1, by simp [h.f0], by simp [h.f1], h.hb.setCell (Nat.le_refl _) _, by simp [h.hs]⟩
theorem Held2.set1 {w W : World} {c a : Int} (h : Held2 w W c a) (x : Int) : Held2 w (W.setCell ⟨w.heap.size, 1, none⟩ (.int .i64 x)) c x :=
  ⟨(World.cell?_setCell_other W _ _ _ (by simp)).trans h.c0, World.cell?_setCell_same W _ _ h.c1, by simp [h.f0], by simp [h.f1], h.hb.setCell (Nat.le_refl _) _, by simp [h.hs]⟩
theorem Held2.drew {w W : World} {c a : Int} (h : Held2 w W c a) : Held2 w W.drew c a := ⟨h.c0, h.c1, h.f0, h.f1, h.hb.drew, h.hs⟩
theorem Held2.after {w W : World} {c a : Int} (h : Held2 w W c a) (p : After W) : Held2 w p.world c a := h.below p.h
theorem or_bytes (x y : Nat) (hx : x < 256) (hy : y < 256) : bits BinOp.or IntKind.i64 ((x : Int) * 256) (y : Int) = ((x * 256 + y : Nat) : Int) := by
  have e : ((x : Int) * 256) = ((x * 256 : Nat) : Int) := by simp
  rw [e]
  have h1 : bits BinOp.or IntKind.i64 ((x * 256 : Nat) : Int) ((y : Nat) : Int) = ((x * 256 ||| y : Nat) : Int) := by
    show IntKind.i64.wrap ((BitVec.ofInt 64 ((x * 256 : Nat) : Int) ||| BitVec.ofInt 64 ((y : Nat) : Int)).toNat : Int) = _
    have hlt : x * 256 ||| y < 2 ^ 63 := Nat.or_lt_two_pow (by omega) (by omega)
    rw [BitVec.toNat_or, BitVec.ofInt_natCast, BitVec.ofInt_natCast, BitVec.toNat_ofNat, BitVec.toNat_ofNat, Nat.mod_eq_of_lt (by omega), Nat.mod_eq_of_lt (by omega), IntKind.wrap_i64]
    omega
  rw [h1]
  congr 1
  have : x <<< 8 + y = x <<< 8 ||| y := Nat.shiftLeft_add_eq_or_of_lt (by omega) x
  rw [Nat.shiftLeft_eq, show (2 : Nat) ^ 8 = 256 from rfl] at this
  omega
theorem oget_arg (s : ByteArray) (A b x y : Nat) (w : World) (hs : s.size ≤ 9223372036854775807) (ha : A + 2 < s.size) (hw : LaidOp w) (hb : s[A].toNat = b) (hx : s[A + 1].toNat = x) (hy : s[A + 2].toNat = y) (hk : aOk (b : Int) = true) (h0 : aArg (b : Int) ≠ 0) :
    Calls Tryz.prog 24 #[.string s, .int .i64 A] w fun e w' => e = opEnd (opGet s.data.toList A) ∧ Below w.heap.size w w' := by
  have hfin := opGet_at s A (by omega)
  rw [hb, hk, if_neg (by simp), if_neg h0, odrop_cons s (A + 1) (by omega), odrop_cons s (A + 2) (by omega)] at hfin
  simp only at hfin
  rw [hx, hy] at hfin
  obtain ⟨v, hv⟩ : ∃ v : Nat, x * 256 + y = v := ⟨_, rfl⟩
  rw [hfin, opEnd_some, hv]
  have HV := Lib.hid hv
  clear hv
  have ha0 : decide ((A : Int) < 0) = false := by simp
  have ha1 : decide (s.size ≤ A) = false := by simp; omega
  have hbb : b < 256 := by rw [← hb]; exact UInt8.toNat_lt _
  have hxb : x < 256 := by rw [← hx]; exact UInt8.toNat_lt _
  have hyb : y < 256 := by rw [← hy]; exact UInt8.toNat_lt _
  have HK := Lib.hid hk
  have HS : Hid (opSize (b : Int) = 3) := Lib.hid (by unfold opSize; rw [if_neg h0])
  have sz : ∀ W, LaidOp W → Calls Tryz.prog 44 #[.int .i64 (b : Int)] W fun e w' => e = .returned (.int .i64 3) ∧ Below W.heap.size W w' := fun W h => by
    have h1 := size_any (b : Int) W h
    rw [HS.out] at h1
    exact h1
  have SZ := Lib.hid sz
  clear hfin hk h0 sz
  go_enter Tryz.func24, Tryz.ntmps24
  go_wp2_with fail
  refine (about_any _ _ (hw.alloc _)).mono ?_
  rw [HK.out, Bool.and_true]
  rintro e w1 ⟨rfl, hb1⟩
  have H1 := (Held2.new w _ _ _).below hb1
  go_wp2_with fail
  refine (SZ.out _ (hw.below H1.hb)).mono ?_
  rintro e w2 ⟨rfl, hb2⟩
  have H2 := H1.below hb2
  have c0 := H2.c0
  have c1 := H2.c1
  have f0 := H2.f0
  have f1 := H2.f1
  have hsz := H2.hs
  go_wp2_with fail
  refine (SZ.out _ (hw.below (H2.set0 _).hb)).mono ?_
  rintro e w4 ⟨rfl, hb4⟩
  have H4 := (H2.set0 _).below hb4
  clear c0 c1 f0 f1 hsz
  have c0 := H4.c0
  have c1 := H4.c1
  have f0 := H4.f0
  have f1 := H4.f1
  have hsz := H4.hs
  have hor : bits BinOp.or IntKind.i64 ((x : Int) * 256) (y : Int) = (v : Int) := by rw [← HV.out]; exact or_bytes x y hxb hyb
  go_wp2_with fail
  have i1 : A + 1 < s.size := by omega
  have b1 : (A : Int) + 1 < s.size := by omega
  have b2 : (A : Int) + 2 < s.size := by omega
  have b3 : (0 : Int) ≤ (A : Int) + 1 := by omega
  have b4 : (0 : Int) ≤ (A : Int) + 2 := by omega
  have t1 : ((A : Int) + 1).toNat = A + 1 := by omega
  have t2 : ((A : Int) + 2).toNat = A + 2 := by omega
  have wr1 : IntKind.i64.wrap ((A : Int) + 1) = (A : Int) + 1 := IntWalk.i64_in _ (by omega)
  have wr2 : IntKind.i64.wrap ((A : Int) + 2) = (A : Int) + 2 := IntWalk.i64_in _ (by omega)
  have wr3 : IntKind.i64.wrap ((x : Int) * 256) = (x : Int) * 256 := IntWalk.i64_in _ (by omega)
  go_region
  have H5 := ((H4.set1 (v : Int)).drew)
  go_wp2_with fail
  refine wp_region_after (by kernel_rfl) (by kernel_rfl) ?_
  have q0 := fun p => (H5.after p).c0
  have q1 := fun p => (H5.after p).c1
  have q2 := fun p => (H5.after p).f0
  have q3 := fun p => (H5.after p).f1
  have q4 := fun p => setCell_same (H5.after p).c0
  have q5 := fun p => setCell_same (H5.after p).c1
  repeat (go_big_quiet_step ((go_at_call 44; exact After.call (SZ.out _ (hw.below (H5.after _).hb)))))
  refine wpQuiet_nil ?_
  rintro _ ⟨p, rfl⟩
  have H6 := H5.after p
  have k0 := H6.c0
  have k1 := H6.c1
  go_wp2_with fail
  refine bodyPost_ret (v := .tuple #[.agg #[.int .i64 (b : Int), .int .i64 (v : Int)], .int .i64 ((A : Int) + 3), .bool true]) (by simp [results, Tryz.results24, go_sem, k0, k1]) rfl ⟨rfl, H6.hb⟩
theorem oget_plain (s : ByteArray) (A b : Nat) (w : World) (hs : s.size ≤ 9223372036854775807) (ha : A < s.size) (hw : LaidOp w) (hb : s[A].toNat = b) (hk : aOk (b : Int) = true) (h0 : aArg (b : Int) = 0) :
    Calls Tryz.prog 24 #[.string s, .int .i64 A] w fun e w' => e = opEnd (opGet s.data.toList A) ∧ Below w.heap.size w w' := by
  have hfin := opGet_at s A ha
  rw [hb, hk, if_neg (by simp), if_pos h0] at hfin
  rw [hfin, opEnd_some]
  have ha0 : decide ((A : Int) < 0) = false := by simp
  have ha1 : decide (s.size ≤ A) = false := by simp; omega
  have hbb : b < 256 := by rw [← hb]; exact UInt8.toNat_lt _
  have HK := Lib.hid hk
  have HS : Hid (opSize (b : Int) = 1) := Lib.hid (by unfold opSize; rw [if_pos h0])
  have sz : ∀ W, LaidOp W → Calls Tryz.prog 44 #[.int .i64 (b : Int)] W fun e w' => e = .returned (.int .i64 1) ∧ Below W.heap.size W w' := fun W h => by
    have h1 := size_any (b : Int) W h
    rw [HS.out] at h1
    exact h1
  have SZ := Lib.hid sz
  clear hfin hk h0 sz
  go_enter Tryz.func24, Tryz.ntmps24
  go_wp2_with fail
  refine (about_any _ _ (hw.alloc _)).mono ?_
  rw [HK.out, Bool.and_true]
  rintro e w1 ⟨rfl, hb1⟩
  have H1 := (Held2.new w _ _ _).below hb1
  go_wp2_with fail
  refine (SZ.out _ (hw.below H1.hb)).mono ?_
  rintro e w2 ⟨rfl, hb2⟩
  have H2 := H1.below hb2
  have c0 := H2.c0
  have c1 := H2.c1
  have f0 := H2.f0
  have f1 := H2.f1
  have hsz := H2.hs
  go_wp2_with fail
  refine (SZ.out _ (hw.below (H2.set0 _).hb)).mono ?_
  rintro e w4 ⟨rfl, hb4⟩
  have H4 := (H2.set0 _).below hb4
  clear c0 c1 f0 f1 hsz
  have c0 := H4.c0
  have c1 := H4.c1
  have f0 := H4.f0
  have f1 := H4.f1
  have hsz := H4.hs
  have H5 := H4
  go_wp2_with fail
  refine wp_region_after (by kernel_rfl) (by kernel_rfl) ?_
  have q0 := fun p => (H5.after p).c0
  have q1 := fun p => (H5.after p).c1
  have q2 := fun p => (H5.after p).f0
  have q3 := fun p => (H5.after p).f1
  have q4 := fun p => setCell_same (H5.after p).c0
  have q5 := fun p => setCell_same (H5.after p).c1
  repeat (go_big_quiet_step ((go_at_call 44; exact After.call (SZ.out _ (hw.below (H5.after _).hb)))))
  refine wpQuiet_nil ?_
  rintro _ ⟨p, rfl⟩
  have H6 := H5.after p
  have k0 := H6.c0
  have k1 := H6.c1
  go_wp2_with fail
  refine bodyPost_ret (v := .tuple #[.agg #[.int .i64 (b : Int), .int .i64 0], .int .i64 ((A : Int) + 1), .bool true]) (by simp [results, Tryz.results24, go_sem, k0, k1]) rfl ⟨rfl, H6.hb⟩
theorem oget_short (s : ByteArray) (A b : Nat) (w : World) (_hs : s.size ≤ 9223372036854775807) (ha : A < s.size) (hsh : s.size ≤ A + 2) (hw : LaidOp w) (hb : s[A].toNat = b) (hk : aOk (b : Int) = true) (h0 : aArg (b : Int) ≠ 0) :
    Calls Tryz.prog 24 #[.string s, .int .i64 A] w fun e w' => e = opEnd (opGet s.data.toList A) ∧ Below w.heap.size w w' := by
  have hfin : opGet s.data.toList A = none := by
    rw [opGet_at s A ha, hb, hk, if_neg (by simp), if_neg h0]
    have hl : (s.data.toList.drop (A + 1)).length ≤ 1 := by
      rw [List.length_drop, Array.length_toList]
      have : s.data.size = s.size := rfl
      omega
    split
    · rename_i he
      rw [he] at hl
      simp at hl
    · rfl
  rw [hfin, opEnd_none]
  have ha0 : decide ((A : Int) < 0) = false := by simp
  have ha1 : decide (s.size ≤ A) = false := by simp; omega
  have hbb : b < 256 := by rw [← hb]; exact UInt8.toNat_lt _
  have HK := Lib.hid hk
  have HS : Hid (opSize (b : Int) = 3) := Lib.hid (by unfold opSize; rw [if_neg h0])
  have sz : ∀ W, LaidOp W → Calls Tryz.prog 44 #[.int .i64 (b : Int)] W fun e w' => e = .returned (.int .i64 3) ∧ Below W.heap.size W w' := fun W h => by
    have h1 := size_any (b : Int) W h
    rw [HS.out] at h1
    exact h1
  have SZ := Lib.hid sz
  clear hfin hk h0 sz
  go_enter Tryz.func24, Tryz.ntmps24
  go_wp2_with fail
  refine (about_any _ _ (hw.alloc _)).mono ?_
  rw [HK.out, Bool.and_true]
  rintro e w1 ⟨rfl, hb1⟩
  have H1 := (Held2.new w _ _ _).below hb1
  go_wp2_with fail
  refine (SZ.out _ (hw.below H1.hb)).mono ?_
  rintro e w2 ⟨rfl, hb2⟩
  have H2 := H1.below hb2
  have c0 := H2.c0
  have c1 := H2.c1
  have f0 := H2.f0
  have f1 := H2.f1
  have hsz := H2.hs
  have s0 := setCell_same c0
  have s1 := setCell_same c1
  have d3 : (s.size : Int) - A < 3 := by omega
  go_wp2_with fail
  refine bodyPost_ret (v := .tuple #[.agg #[.int .i64 0, .int .i64 0], .int .i64 0, .bool false]) (by simp [results, Tryz.results24, go_sem, c0, c1]) rfl ⟨rfl, H2.hb⟩
theorem oget_any (s : ByteArray) (a : Int) (w : World) (hs : s.size ≤ 9223372036854775807) (hw : LaidOp w) :
    Calls Tryz.prog 24 #[.string s, .int .i64 a] w fun e w' => e = opEnd (opGet s.data.toList a) ∧ Below w.heap.size w w' := by
  by_cases h : a < 0 ∨ (s.size : Int) ≤ a
  · exact oget_out s a w hs h
  · obtain ⟨A, rfl⟩ := Int.eq_ofNat_of_zero_le (show 0 ≤ a by omega)
    have hA : A < s.size := by omega
    cases hk : aOk ((s[A].toNat : Nat) : Int) with
    | false => exact oget_bad s A _ w hs hA hw rfl hk
    | true =>
      by_cases h0 : aArg ((s[A].toNat : Nat) : Int) = 0
      · exact oget_plain s A _ w hs hA hw rfl hk h0
      · by_cases h2 : A + 2 < s.size
        · exact oget_arg s A _ _ _ w hs h2 hw rfl rfl rfl hk h0
        · exact oget_short s A _ w hs hA (by omega) hw rfl hk h0
theorem oget_t (s : ByteArray) (a : Int) (w : World) (hs : s.size ≤ 9223372036854775807) (hw : LaidOp w) :
    Calls Tryz.prog 24 #[.string s, .int .i64 a] w fun e w' => e = .returned (.tuple #[.agg #[.int .i64 (oC (opGet s.data.toList a)), .int .i64 (oA (opGet s.data.toList a))], .int .i64 (oN (opGet s.data.toList a)), .bool (oO (opGet s.data.toList a))]) ∧ Below w.heap.size w w' :=
  oget_any s a w hs hw
end Go.Proofs.YtecoeaeonedmnaaGreatDoor
