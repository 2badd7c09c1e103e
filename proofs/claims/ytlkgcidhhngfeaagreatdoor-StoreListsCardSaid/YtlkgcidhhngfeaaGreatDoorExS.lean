/- The chapter's examples hold. -/
import Derived.Test.YtlkgcidhhngfeaaGreatDoorZ9
namespace Go.Proofs.YtlkgcidhhngfeaaGreatDoor
open Go.RowKit Go.Maps
theorem obIn_nil (w : World) (A : Nat → Prop) (x : OB) (h : x.q = []) : ObIn w A (.agg (ox (x.raw none 0))) x :=
  ⟨none, 0, rfl, by rw [h]; exact ⟨rowsQ_wide [], .inl ⟨⟨none, 0, rfl⟩, rfl⟩⟩, by rw [h]; decide, .inl h⟩
theorem ex_add (X : Nat → Prop) (p : Nat) (S S' : St) (key : ByteArray) (x : OB) (r : Int) (w0 w : World) (he : addE S key x = r) (ht : addT S key x = S') (hk : key.size ≤ 140737488351232) (hS : S.length ≤ 1000000) (hq : x.q = []) (hx1 : Bd x.lS) (hx2 : Bd x.lI) (h : Hid (One w0.heap.size X w p S)) (hB : Below w0.heap.size w0 w) (hX : ∀ b, X b → b < w.heap.size) (hw : LaidF (NF w0) w) :
    Calls Tryz.prog 13 #[.pointer (some ⟨p, 0, none⟩), .string key, .agg (ox (x.raw none 0))] w fun e w' => e = .returned (.int .i64 r) ∧ Hid (One w0.heap.size X w' p S') ∧ KF (FX w0.heap.size X) w w' := by
  have := add_one w0.heap.size X p S key hk x (fun _ => True) _ w h hB.size hX hS (obIn_nil w _ x hq) hx1 hx2 hw
  rw [he, ht] at this
  exact this
theorem ex_set (X : Nat → Prop) (p : Nat) (S S' : St) (key : ByteArray) (x : OB) (r : Int) (w0 w : World) (he : setE S key x = r) (ht : setT S key x = S') (hk : key.size ≤ 140737488351232) (hS : S.length ≤ 1000000) (hq : x.q = []) (h : Hid (One w0.heap.size X w p S)) (hB : Below w0.heap.size w0 w) (hX : ∀ b, X b → b < w.heap.size) :
    Calls Tryz.prog 16 #[.pointer (some ⟨p, 0, none⟩), .string key, .agg (ox (x.raw none 0))] w fun e w' => e = .returned (.int .i64 r) ∧ Hid (One w0.heap.size X w' p S') ∧ KF (FX w0.heap.size X) w w' := by
  have := set_one w0.heap.size X p S key hk x (fun _ => True) _ w h hB.size hX hS (obIn_nil w _ x hq)
  rw [he, ht] at this
  exact this
theorem fx_or {B : Nat} {X : Nat → Prop} {a : Nat} (h : X a) : a < B ∨ X a := .inr h
theorem ex_get (X : Nat → Prop) (p : Nat) (w0 w : World) (h : Hid (One w0.heap.size X w p st3)) :
    Calls Tryz.prog 12 #[.pointer (some ⟨p, 0, none⟩), .string s10] w fun e w' => ∃ a c, e = .returned (.tuple #[.agg (ox (exC.raw a c)), .bool true]) ∧ Hid (ObIn w' (fun b => w.heap.size ≤ b) (.agg (ox (exC.raw a c))) exC) ∧ Below w.heap.size w w' := by
  have := get_one w0.heap.size X p st3 s10 (by decide) w h
  rw [g8] at this
  exact this
theorem ex_get2 (X : Nat → Prop) (p : Nat) (w0 w : World) (h : Hid (One w0.heap.size X w p st4)) :
    Calls Tryz.prog 12 #[.pointer (some ⟨p, 0, none⟩), .string s10] w fun e w' => ∃ a c, e = .returned (.tuple #[.agg (ox (OB0.raw a c)), .bool false]) ∧ Below w.heap.size w w' := by
  have := get_one w0.heap.size X p st4 s10 (by decide) w h
  rw [g9] at this
  exact this.mono fun _ _ ⟨a, c, h1, _, h2⟩ => ⟨a, c, h1, h2⟩
theorem ex_names (X : Nat → Prop) (p : Nat) (w0 w : World) (h : Hid (One w0.heap.size X w p st3)) (hw : Laid w) :
    Calls Tryz.prog 18 #[.pointer (some ⟨p, 0, none⟩)] w fun e w' => ∃ g c, e = .returned (.slice (some ⟨g, 0, none⟩) 2 c) ∧ Hid (w'.ownsRow w.heap.size 9 1 (.slice (some ⟨g, 0, none⟩) 2 c) 2 [.string s9, .string s10]) ∧ Below w.heap.size w w' := by
  refine (names_one w0.heap.size X p st3 w h (by decide) hw).mono ?_
  rintro e w' ⟨v, rfl, hr, hb⟩
  have hr := hr.out
  rw [n8] at hr
  have hr0 : w'.ownsRow w.heap.size 9 1 v 2 [.string s9, .string s10] := hr
  rcases hr0.2 with ⟨_, h0⟩ | ⟨g, cap, cur, rfl, _⟩
  · cases h0
  · exact ⟨g, cap, rfl, Lib.hid hr0, hb⟩
theorem ex_hide (X : Nat → Prop) (p : Nat) (w0 w : World) (h : Hid (One w0.heap.size X w p st3)) (hB : Below w0.heap.size w0 w) (hX : ∀ b, X b → b < w.heap.size) (hw : Laid w) :
    Calls Tryz.prog 11 #[.pointer (some ⟨p, 0, none⟩), .agg #[.string ⟨#[]⟩, .string ⟨#[]⟩]] w fun e w' => ∃ q, e = .returned (.pointer (some ⟨q, 0, none⟩)) ∧ Hid (One w0.heap.size X w' q st4) ∧ Below w.heap.size w w' := by
  have := hide_two w0.heap.size X p st3 ⟨#[]⟩ ⟨#[]⟩ (by decide) (by decide) w h hB.size hX (by decide) hw
  rw [h8] at this
  exact this
theorem ex_al {w0 w : World} {X : Nat → Prop} {p : Nat} {S : St} (h : Hid (One w0.heap.size X w p S)) {Y : Nat → Prop} (hY : ∀ b, Y b → X b ∨ b = w.heap.size) : Hid (One w0.heap.size Y w p S) := Lib.hid (h.out.fresh fun b hb => (hY b hb).imp id fun e => by omega)
theorem ob_lt {w : World} {A : Nat → Prop} {v : Value} {x : OB} (h : Hid (ObIn w A v x)) : Hid (ObIn w (fun b => b < w.heap.size) v x) := Lib.hid (h.out.mono fun _ _ h => h)
theorem ob_st {w : World} {n : Nat} {v : Value} {x : OB} (h : Hid (ObIn w (fun b => b < n) v x)) (o : Nat) (vs : List Value) : Hid (ObIn (w.setCells n o vs) (fun b => b < n) v x) := by
  have k : KF (fun j => j = n) w (w.setCells n o vs) := kf_setCells (F := fun j => j = n) (KF.refl _ w) (.inl rfl) o vs
  exact Lib.hid (h.out.kf k fun b hb e => by omega)
def CellAt (w : World) (g i : Nat) (v : Value) : Prop := g < w.heap.size ∧ w.cell? ⟨g, i, none⟩ = some v
theorem hid_cellat {w w' : World} {g i : Nat} {v : Value} (h : Hid (CellAt w g i v)) (hb : Below w.heap.size w w') : Hid (CellAt w' g i v) :=
  Lib.hid ⟨Nat.lt_of_lt_of_le h.out.1 hb.size, (hb.cell (p := ⟨g, i, none⟩) h.out.1).trans h.out.2⟩
theorem cellat_st {w : World} {g i n : Nat} {v : Value} (h : Hid (CellAt w g i v)) (hn : g ≠ n) (o : Nat) (vs : List Value) : Hid (CellAt (w.setCells n o vs) g i v) := by
  refine Lib.hid ⟨by rw [(setCells_same (b := n) vs o w).2.2.2]; exact h.out.1, ?_⟩
  have h2 := h.out.2
  unfold World.cell? at h2 ⊢
  rw [setCells_other vs o w g hn]
  exact h2
theorem hid_ob {w w' : World} {A : Nat → Prop} {v : Value} {x : OB} (h : Hid (ObIn w A v x)) (hb : Below w.heap.size w w') : Hid (ObIn w' A v x) := Lib.hid (h.out.below hb)
theorem ex_alike1 (ao : Option Addr) (co : Nat) (A : Nat → Prop) (w : World) (h : Hid (ObIn w A (.agg (ox (exC.raw ao co))) exC)) :
    Calls Tryz.prog 23 #[.agg (ox (exC.raw ao co)), .agg (ox exCo)] w fun e w' => e = .returned (.bool true) ∧ Below w.heap.size w w' :=
  alike_any exC exC A (fun _ => True) _ _ w h.out (obIn_nil w _ exC rfl)
theorem ex_alike2 (w : World) :
    Calls Tryz.prog 23 #[.agg (ox exAo), .agg (ox exCo)] w fun e w' => e = .returned (.bool false) ∧ Below w.heap.size w w' :=
  alike_any exA exC (fun _ => True) (fun _ => True) _ _ w (obIn_nil w _ exA rfl) (obIn_nil w _ exC rfl)
theorem ex_same1 (X : Nat → Prop) (p : Nat) (w0 w : World) (h : Hid (One w0.heap.size X w p st3)) :
    Calls Tryz.prog 15 #[.pointer (some ⟨p, 0, none⟩), .pointer (some ⟨p, 0, none⟩)] w fun e w' => e = .returned (.bool true) ∧ Below w.heap.size w w' :=
  same_one _ _ X X p p st3 st3 w h h (by decide) (by decide)
theorem ex_same2 (X Y : Nat → Prop) (p q : Nat) (w0 w : World) (h : Hid (One w0.heap.size X w p st3)) (g : Hid (One w0.heap.size Y w q st4)) :
    Calls Tryz.prog 15 #[.pointer (some ⟨p, 0, none⟩), .pointer (some ⟨q, 0, none⟩)] w fun e w' => e = .returned (.bool false) ∧ Below w.heap.size w w' :=
  same_one _ _ X Y p q st3 st4 w h g (by decide) (by decide)
set_option maxRecDepth 100000 in
set_option maxHeartbeats 16000000 in
theorem examples_any (w : World) (hw9 : Laid w) :
    Calls Tryz.prog 6 #[] w fun e w' => e = .returned (.bool true) ∧ Below w.heap.size w w' := by
  have hw : LaidF (NF w) w := nf_laid hw9
  clear hw9
  go_enter Tryz.func6, Tryz.ntmps6
  have hB0 := Below.refl w.heap.size w
  have M0 := Mem.nil w
  have hw0 := hw
  go_wp2_with fail
  refine Calls.named ?_
  intro W1 hW1
  have hB1_ : Below w.heap.size w W1 := by rw [hW1]; exact hB0
  have hw1_ : LaidF (NF w) W1 := by rw [hW1]; exact hw
  have M1_ := Mem.nil W1
  clear hW1
  refine (one_new w.heap.size (fun _ => False) _ hB1_.size (fun _ h => h.elim)).mono ?_
  rintro e w1 ⟨p, rfl, HS, hb1⟩
  have hB1 := below_then hB1_ hb1
  have hw1 := hw1_.below hb1
  have M1 := M1_.below hb1
  clear M1_ hB1_ hb1 hw1_
  go_upto_region 4 with (fail)
  refine wp_region_lit ?_
  iterate 12 go_step
  have yy1 := hB1.size
  replace HS := ex_al HS (Y := fun b => b = w1.heap.size) (fun b h => .inr h)
  refine wpl_named ?_
  intro w2 hW2
  have hB2 : Below w.heap.size w w2 := by rw [hW2]; exact (below_al hB1 _)
  have hw2 : LaidF (NF w) w2 := by rw [hW2]; exact (hw1.alloc _)
  have M2 : Mem w2 [(w1.heap.size, .cells (ox (ox0)) 32)] := by rw [hW2]; exact (M1).new' (w1.heap.size) (by rfl) (.cells (ox (ox0)) 32)
  have hS2 : Below w1.heap.size w1 w2 := by rw [hW2]; exact (below_al (Below.refl _ _) _)
  replace HS := hid_one HS hS2
  clear hS2
  clear hW2
  have z2_0 := Mem.lt M2.1
  refine store_ox rfl _ _ rfl (w1.heap.size) rfl (ox0) (exAo) rfl M2.1 ?_
  intro w3 hW3
  have hB3 : Below w.heap.size w w3 := by rw [hW3]; exact below_setCells (B := w.heap.size) hB2 (b := w1.heap.size) (by have := hB2.size; omega) 0 _
  have hw3 : LaidF (NF w) w3 := hw0.below hB3
  have M3 : Mem w3 [(w1.heap.size, .cells (ox (exAo)) 32)] := by rw [hW3]; exact ⟨set_ox M2.1 _, trivial⟩
  have HS1 := one_st HS (b := w1.heap.size) rfl 0 (oxL (exAo))
  rw [← hW3] at HS1
  clear z2_0
  clear hW3
  have z3_0 := Mem.lt M3.1
  clear HS
  go_upto_region 5 with (fail)
  refine wp_region_lit ?_
  iterate 3 go_step
  refine load_ox rfl _ rfl (w1.heap.size) rfl (exAo) M3.1 ?_
  go_wp2_with fail
  refine Calls.named ?_
  intro W4 hW4
  have hB4_ : Below w.heap.size w W4 := by rw [hW4]; exact hB3
  have hw4_ : LaidF (NF w) W4 := by rw [hW4]; exact hw3
  have M4_ := M3
  rw [← hW4] at M4_
  have hS4 : Below w3.heap.size w3 W4 := by rw [hW4]; exact (Below.refl _ _)
  have HS1_ := hid_one HS1 hS4
  clear hS4 HS1
  clear hW4
  have ZZ4_0 := Lib.hid (Mem.lt M4_.1)
  clear z3_0
  refine (ex_add _ p [] st1 s10 exA 0 w _ e1 t1 (by decide) (by decide) rfl (by decide) (by decide) HS1_ hB4_ (fun b h => by rw [h]; exact ZZ4_0.out) hw4_).mono ?_
  rintro e w4 ⟨rfl, HS2, hb4⟩
  have hB4 := KF.toBelow hb4 hB4_ hB4_.size (fun k h => h.1)
  have hw4 : LaidF (NF w) w4 := hw0.below hB4
  have M4 : Mem w4 [(w1.heap.size, .cells (ox (exAo)) 32)] := ⟨mem_fx M4_.1 hb4 (by exact .inr rfl), trivial⟩
  clear HS1_
  clear M4_ hB4_ hb4 hw4_
  have z4_0 := Mem.lt M4.1
  go_upto_region 6 with (fail)
  refine wp_region_lit ?_
  go_wp2_with fail
  refine Calls.named ?_
  intro W5 hW5
  have hB5_ : Below w.heap.size w W5 := by rw [hW5]; exact hB4
  have hw5_ : LaidF (NF w) W5 := by rw [hW5]; exact hw4
  have M5_ := M4
  rw [← hW5] at M5_
  have hS5 : Below w4.heap.size w4 W5 := by rw [hW5]; exact (Below.refl _ _)
  have HS2_ := hid_one HS2 hS5
  clear hS5 HS2
  clear hW5
  have ZZ5_0 := Lib.hid (Mem.lt M5_.1)
  clear z4_0
  refine (ex_add _ p st1 st2 s9 exB 0 w _ e2 t2 (by decide) (by decide) rfl (by decide) (by decide) HS2_ hB5_ (fun b h => by rw [h]; exact ZZ5_0.out) hw5_).mono ?_
  rintro e w5 ⟨rfl, HS3, hb5⟩
  have hB5 := KF.toBelow hb5 hB5_ hB5_.size (fun k h => h.1)
  have hw5 : LaidF (NF w) w5 := hw0.below hB5
  have M5 : Mem w5 [(w1.heap.size, .cells (ox (exAo)) 32)] := ⟨mem_fx M5_.1 hb5 (by exact .inr rfl), trivial⟩
  clear HS2_
  clear M5_ hB5_ hb5 hw5_
  have z5_0 := Mem.lt M5.1
  go_upto_region 7 with (fail)
  refine wp_region_lit ?_
  iterate 3 go_step
  refine load_ox rfl _ rfl (w1.heap.size) rfl (exAo) M5.1 ?_
  go_wp2_with fail
  refine Calls.named ?_
  intro W6 hW6
  have hB6_ : Below w.heap.size w W6 := by rw [hW6]; exact hB5
  have hw6_ : LaidF (NF w) W6 := by rw [hW6]; exact hw5
  have M6_ := M5
  rw [← hW6] at M6_
  have hS6 : Below w5.heap.size w5 W6 := by rw [hW6]; exact (Below.refl _ _)
  have HS3_ := hid_one HS3 hS6
  clear hS6 HS3
  clear hW6
  have ZZ6_0 := Lib.hid (Mem.lt M6_.1)
  clear z5_0
  refine (ex_add _ p st2 st2 s10 exA 12 w _ e3 t3 (by decide) (by decide) rfl (by decide) (by decide) HS3_ hB6_ (fun b h => by rw [h]; exact ZZ6_0.out) hw6_).mono ?_
  rintro e w6 ⟨rfl, HS4, hb6⟩
  have hB6 := KF.toBelow hb6 hB6_ hB6_.size (fun k h => h.1)
  have hw6 : LaidF (NF w) w6 := hw0.below hB6
  have M6 : Mem w6 [(w1.heap.size, .cells (ox (exAo)) 32)] := ⟨mem_fx M6_.1 hb6 (by exact .inr rfl), trivial⟩
  clear HS3_
  clear M6_ hB6_ hb6 hw6_
  have z6_0 := Mem.lt M6.1
  go_upto_region 8 with (fail)
  refine wp_region_lit ?_
  iterate 3 go_step
  refine load_ox rfl _ rfl (w1.heap.size) rfl (exAo) M6.1 ?_
  go_wp2_with fail
  refine Calls.named ?_
  intro W7 hW7
  have hB7_ : Below w.heap.size w W7 := by rw [hW7]; exact hB6
  have hw7_ : LaidF (NF w) W7 := by rw [hW7]; exact hw6
  have M7_ := M6
  rw [← hW7] at M7_
  have hS7 : Below w6.heap.size w6 W7 := by rw [hW7]; exact (Below.refl _ _)
  have HS4_ := hid_one HS4 hS7
  clear hS7 HS4
  clear hW7
  have ZZ7_0 := Lib.hid (Mem.lt M7_.1)
  clear z6_0
  refine (ex_add _ p st2 st2 sx exA 1 w _ e4 t4 (by decide) (by decide) rfl (by decide) (by decide) HS4_ hB7_ (fun b h => by rw [h]; exact ZZ7_0.out) hw7_).mono ?_
  rintro e w7 ⟨rfl, HS5, hb7⟩
  have hB7 := KF.toBelow hb7 hB7_ hB7_.size (fun k h => h.1)
  have hw7 : LaidF (NF w) w7 := hw0.below hB7
  have M7 : Mem w7 [(w1.heap.size, .cells (ox (exAo)) 32)] := ⟨mem_fx M7_.1 hb7 (by exact .inr rfl), trivial⟩
  clear HS4_
  clear M7_ hB7_ hb7 hw7_
  have z7_0 := Mem.lt M7.1
  go_upto_region 9 with (fail)
  refine wp_region_lit ?_
  refine load_ox rfl _ rfl (w1.heap.size) rfl (exAo) M7.1 ?_
  simp only
  iterate 3 go_step
  replace HS5 := ex_al HS5 (Y := fun b => b = w1.heap.size ∨ b = w7.heap.size) (fun b h => h)
  have yy7 := hB7.size
  have oo7_0 : w1.heap.size < w7.heap.size := Mem.lt M7.1
  refine wpl_named ?_
  intro w8 hW8
  have hB8 : Below w.heap.size w w8 := by rw [hW8]; exact (below_al hB7 _)
  have hw8 : LaidF (NF w) w8 := by rw [hW8]; exact (hw7.alloc _)
  have M8 : Mem w8 [(w7.heap.size, .cells (ox (ox0)) 32), (w1.heap.size, .cells (ox (exAo)) 32)] := by rw [hW8]; exact (M7).new' (w7.heap.size) (by rfl) (.cells (ox (ox0)) 32)
  have hS8 : Below w7.heap.size w7 w8 := by rw [hW8]; exact (below_al (Below.refl _ _) _)
  replace HS5 := hid_one HS5 hS8
  clear hS8
  clear z7_0
  clear hW8
  have z8_0 := Mem.lt M8.1
  have z8_1 := Mem.lt M8.2.1
  refine store_ox rfl _ _ rfl (w7.heap.size) rfl (ox0) (exAo) rfl M8.1 ?_
  intro w9 hW9
  have hB9 : Below w.heap.size w w9 := by rw [hW9]; exact below_setCells (B := w.heap.size) hB8 (b := w7.heap.size) (by have := hB8.size; omega) 0 _
  have hw9 : LaidF (NF w) w9 := hw0.below hB9
  have M9 : Mem w9 [(w7.heap.size, .cells (ox (exAo)) 32), (w1.heap.size, .cells (ox (exAo)) 32)] := by rw [hW9]; exact ⟨set_ox M8.1 _, (setCells_other _ 0 _ _ (by omega)).trans M8.2.1, trivial⟩
  have HS6 := one_st HS5 (b := w7.heap.size) (.inr rfl) 0 (oxL (exAo))
  rw [← hW9] at HS6
  clear z8_0 z8_1
  clear hW9
  have z9_0 := Mem.lt M9.1
  have z9_1 := Mem.lt M9.2.1
  clear HS5
  go_upto_region 10 with (fail)
  have c9_0_4 := Mem.cell (v := .int .i64 exAo.vx) M9.1 4 rfl
  have fb := fun j => Mem.free M9.1 j
  go_upto_region 11 with (fail)
  clear fb
  have hX9_0 : (w9.setCells (w7.heap.size) 4 [.int .i64 4]).heap[w7.heap.size]? = some (.cells (ox ({ exAo with vx := 4 })) 32) := by rw [setCells_block [.int .i64 4] 4 _ _ ((M9).1) (by simp)]; rfl
  have hY9_0 := below_setCells (B := w.heap.size) hB9 (b := w7.heap.size) (by have := hB9.size; omega) 4 [.int .i64 4]
  refine wp_named ?_
  intro w10 hW10
  have hB10 : Below w.heap.size w w10 := by rw [hW10]; exact hY9_0
  have hw10 : LaidF (NF w) w10 := hw0.below hB10
  have M10 : Mem w10 [(w7.heap.size, .cells (ox ({ exAo with vx := 4 })) 32), (w1.heap.size, .cells (ox (exAo)) 32)] := by rw [hW10]; exact ⟨hX9_0, (setCells_other [.int .i64 4] 4 _ _ (by omega)).trans ((M9).2.1), trivial⟩
  have HS7 := one_st HS6 (b := w7.heap.size) (.inr rfl) 4 [.int .i64 4]
  rw [show (w9.setCells (w7.heap.size) 4 [.int .i64 4]) = w10 from hW10.symm] at HS7
  clear z9_0 z9_1 c9_0_4
  clear hW10 hX9_0 hY9_0
  have z10_0 := Mem.lt M10.1
  have z10_1 := Mem.lt M10.2.1
  clear HS6
  replace M10 : Mem w10 [(w7.heap.size, .cells (ox (exCo)) 32), (w1.heap.size, .cells (ox (exAo)) 32)] := M10
  refine wp_region_lit ?_
  iterate 3 go_step
  refine load_ox rfl _ rfl (w7.heap.size) rfl (exCo) M10.1 ?_
  go_wp2_with fail
  refine Calls.named ?_
  intro W11 hW11
  have hB11_ : Below w.heap.size w W11 := by rw [hW11]; exact hB10
  have hw11_ : LaidF (NF w) W11 := by rw [hW11]; exact hw10
  have M11_ := M10
  rw [← hW11] at M11_
  have hS11 : Below w10.heap.size w10 W11 := by rw [hW11]; exact (Below.refl _ _)
  have HS7_ := hid_one HS7 hS11
  clear hS11 HS7
  clear hW11
  have ZZ11_0 := Lib.hid (Mem.lt M11_.1)
  have ZZ11_1 := Lib.hid (Mem.lt M11_.2.1)
  clear z10_0 z10_1
  refine (ex_set _ p st2 st3 s10 exC 0 w _ e5 t5 (by decide) (by decide) rfl HS7_ hB11_ (fun b h => Or.elim h (fun h => by rw [h]; exact ZZ11_1.out) (fun h => by rw [h]; exact ZZ11_0.out))).mono ?_
  rintro e w11 ⟨rfl, HS8, hb11⟩
  have hB11 := KF.toBelow hb11 hB11_ hB11_.size (fun k h => h.1)
  have hw11 : LaidF (NF w) w11 := hw0.below hB11
  have M11 : Mem w11 [(w7.heap.size, .cells (ox (exCo)) 32), (w1.heap.size, .cells (ox (exAo)) 32)] := ⟨mem_fx M11_.1 hb11 (by simp), mem_fx M11_.2.1 hb11 (by simp), trivial⟩
  clear HS7_
  clear M11_ hB11_ hb11 hw11_
  have z11_0 := Mem.lt M11.1
  have z11_1 := Mem.lt M11.2.1
  go_upto_region 12 with (fail)
  refine wp_region_lit ?_
  iterate 3 go_step
  refine load_ox rfl _ rfl (w7.heap.size) rfl (exCo) M11.1 ?_
  go_wp2_with fail
  refine Calls.named ?_
  intro W12 hW12
  have hB12_ : Below w.heap.size w W12 := by rw [hW12]; exact hB11
  have hw12_ : LaidF (NF w) W12 := by rw [hW12]; exact hw11
  have M12_ := M11
  rw [← hW12] at M12_
  have hS12 : Below w11.heap.size w11 W12 := by rw [hW12]; exact (Below.refl _ _)
  have HS8_ := hid_one HS8 hS12
  clear hS12 HS8
  clear hW12
  have ZZ12_0 := Lib.hid (Mem.lt M12_.1)
  have ZZ12_1 := Lib.hid (Mem.lt M12_.2.1)
  clear z11_0 z11_1
  refine (ex_set _ p st3 st3 s9 exC 11 w _ e6 t6 (by decide) (by decide) rfl HS8_ hB12_ (fun b h => Or.elim h (fun h => by rw [h]; exact ZZ12_1.out) (fun h => by rw [h]; exact ZZ12_0.out))).mono ?_
  rintro e w12 ⟨rfl, HS9, hb12⟩
  have hB12 := KF.toBelow hb12 hB12_ hB12_.size (fun k h => h.1)
  have hw12 : LaidF (NF w) w12 := hw0.below hB12
  have M12 : Mem w12 [(w7.heap.size, .cells (ox (exCo)) 32), (w1.heap.size, .cells (ox (exAo)) 32)] := ⟨mem_fx M12_.1 hb12 (by simp), mem_fx M12_.2.1 hb12 (by simp), trivial⟩
  clear HS8_
  clear M12_ hB12_ hb12 hw12_
  have z12_0 := Mem.lt M12.1
  have z12_1 := Mem.lt M12.2.1
  go_upto_region 13 with (fail)
  refine wp_region_lit ?_
  iterate 3 go_step
  refine load_ox rfl _ rfl (w7.heap.size) rfl (exCo) M12.1 ?_
  go_wp2_with fail
  refine Calls.named ?_
  intro W13 hW13
  have hB13_ : Below w.heap.size w W13 := by rw [hW13]; exact hB12
  have hw13_ : LaidF (NF w) W13 := by rw [hW13]; exact hw12
  have M13_ := M12
  rw [← hW13] at M13_
  have hS13 : Below w12.heap.size w12 W13 := by rw [hW13]; exact (Below.refl _ _)
  have HS9_ := hid_one HS9 hS13
  clear hS13 HS9
  clear hW13
  have ZZ13_0 := Lib.hid (Mem.lt M13_.1)
  have ZZ13_1 := Lib.hid (Mem.lt M13_.2.1)
  clear z12_0 z12_1
  refine (ex_set _ p st3 st3 s1 exC 10 w _ e7 t7 (by decide) (by decide) rfl HS9_ hB13_ (fun b h => Or.elim h (fun h => by rw [h]; exact ZZ13_1.out) (fun h => by rw [h]; exact ZZ13_0.out))).mono ?_
  rintro e w13 ⟨rfl, HS, hb13⟩
  have hB13 := KF.toBelow hb13 hB13_ hB13_.size (fun k h => h.1)
  have hw13 : LaidF (NF w) w13 := hw0.below hB13
  have M13 : Mem w13 [(w7.heap.size, .cells (ox (exCo)) 32), (w1.heap.size, .cells (ox (exAo)) 32)] := ⟨mem_fx M13_.1 hb13 (by simp), mem_fx M13_.2.1 hb13 (by simp), trivial⟩
  clear HS9_
  clear M13_ hB13_ hb13 hw13_
  have z13_0 := Mem.lt M13.1
  have z13_1 := Mem.lt M13.2.1
  go_wp2_with fail
  refine Calls.named ?_
  intro W14 hW14
  have hB14_ : Below w.heap.size w W14 := by rw [hW14]; exact hB13
  have hw14_ : LaidF (NF w) W14 := by rw [hW14]; exact hw13
  have M14_ := M13
  rw [← hW14] at M14_
  have hS14 : Below w13.heap.size w13 W14 := by rw [hW14]; exact (Below.refl _ _)
  have HS_ := hid_one HS hS14
  clear hS14 HS
  clear hW14
  have ZZ14_0 := Lib.hid (Mem.lt M14_.1)
  have ZZ14_1 := Lib.hid (Mem.lt M14_.2.1)
  clear z13_0 z13_1
  refine (ex_get _ p w _ HS_).mono ?_
  rintro e w14 ⟨ao, co, rfl, HO, hb14⟩
  have HS := hid_one HS_ hb14
  clear HS_
  have hB14 := below_then hB14_ hb14
  have hw14 := hw14_.below hb14
  have M14 := M14_.below hb14
  clear M14_ hB14_ hb14 hw14_
  have z14_0 := Mem.lt M14.1
  have z14_1 := Mem.lt M14.2.1
  simp only
  iterate 13 go_step
  have yyo := hB14.size
  replace HS := ex_al HS (Y := fun b => b = w14.heap.size) (fun b h => .inr h)
  replace HO := ob_lt HO
  have oo14_0 : w7.heap.size < w14.heap.size := Mem.lt M14.1
  have oo14_1 : w1.heap.size < w14.heap.size := Mem.lt M14.2.1
  refine wpl_named ?_
  intro w15 hW15
  have hB15 : Below w.heap.size w w15 := by rw [hW15]; exact (below_al hB14 _)
  have hw15 : LaidF (NF w) w15 := by rw [hW15]; exact (hw14.alloc _)
  have M15 : Mem w15 [(w14.heap.size, .cells (ox (ox0)) 32), (w7.heap.size, .cells (ox (exCo)) 32), (w1.heap.size, .cells (ox (exAo)) 32)] := by rw [hW15]; exact (M14).new' (w14.heap.size) (by rfl) (.cells (ox (ox0)) 32)
  have hS15 : Below w14.heap.size w14 w15 := by rw [hW15]; exact (below_al (Below.refl _ _) _)
  replace HS := hid_one HS hS15
  replace HO := hid_ob HO hS15
  clear hS15
  clear z14_0 z14_1
  clear hW15
  have z15_0 := Mem.lt M15.1
  have z15_1 := Mem.lt M15.2.1
  have z15_2 := Mem.lt M15.2.2.1
  refine store_ox rfl _ _ rfl (w14.heap.size) rfl (ox0) ((exC.raw ao co)) rfl M15.1 ?_
  intro w16 hW16
  have hB16 : Below w.heap.size w w16 := by rw [hW16]; exact below_setCells (B := w.heap.size) hB15 (b := w14.heap.size) (by have := hB15.size; omega) 0 _
  have hw16 : LaidF (NF w) w16 := hw0.below hB16
  have M16 : Mem w16 [(w14.heap.size, .cells (ox ((exC.raw ao co))) 32), (w7.heap.size, .cells (ox (exCo)) 32), (w1.heap.size, .cells (ox (exAo)) 32)] := by rw [hW16]; exact ⟨set_ox M15.1 _, (setCells_other _ 0 _ _ (by omega)).trans M15.2.1, (setCells_other _ 0 _ _ (by omega)).trans M15.2.2.1, trivial⟩
  have HS2 := one_st HS (b := w14.heap.size) rfl 0 (oxL ((exC.raw ao co)))
  rw [← hW16] at HS2
  have HO2 := ob_st HO 0 (oxL ((exC.raw ao co)))
  rw [← hW16] at HO2
  clear z15_0 z15_1 z15_2
  clear hW16
  have z16_0 := Mem.lt M16.1
  have z16_1 := Mem.lt M16.2.1
  have z16_2 := Mem.lt M16.2.2.1
  clear HS HO
  go_wp2_with fail
  refine Calls.named ?_
  intro W17 hW17
  have hB17_ : Below w.heap.size w W17 := by rw [hW17]; exact hB16
  have hw17_ : LaidF (NF w) W17 := by rw [hW17]; exact hw16
  have M17_ := M16
  rw [← hW17] at M17_
  have hS17 : Below w16.heap.size w16 W17 := by rw [hW17]; exact (Below.refl _ _)
  have HS2_ := hid_one HS2 hS17
  have HO2_ := hid_ob HO2 hS17
  clear hS17 HS2 HO2
  clear hW17
  have ZZ17_0 := Lib.hid (Mem.lt M17_.1)
  have ZZ17_1 := Lib.hid (Mem.lt M17_.2.1)
  have ZZ17_2 := Lib.hid (Mem.lt M17_.2.2.1)
  clear z16_0 z16_1 z16_2
  refine (ex_names _ p w _ HS2_ (hw17_).laid).mono ?_
  rintro e w17 ⟨gn, cn, rfl, HR, hb17⟩
  have HS2 := hid_one HS2_ hb17
  have HO2 := hid_ob HO2_ hb17
  clear HS2_ HO2_
  have hB17 := below_then hB17_ hb17
  have hw17 := hw17_.below hb17
  have M17 := M17_.below hb17
  clear M17_ hB17_ hb17 hw17_
  have z17_0 := Mem.lt M17.1
  have z17_1 := Mem.lt M17.2.1
  have z17_2 := Mem.lt M17.2.2.1
  have HC : Hid (CellAt w17 gn 0 (.string s9)) := by
    have h1 := World.ownsRow.cellAt HR.out 0 (by decide)
    refine Lib.hid ⟨(HR.out.lt gn rfl).2, h1⟩
  clear HR
  go_wp2_with fail
  refine Calls.named ?_
  intro W18 hW18
  have hB18_ : Below w.heap.size w W18 := by rw [hW18]; exact hB17
  have hw18_ : LaidF (NF w) W18 := by rw [hW18]; exact hw17
  have M18_ := M17
  rw [← hW18] at M18_
  have hS18 : Below w17.heap.size w17 W18 := by rw [hW18]; exact (Below.refl _ _)
  have HS2_ := hid_one HS2 hS18
  have HO2_ := hid_ob HO2 hS18
  have HC_ := hid_cellat HC hS18
  clear hS18 HS2 HO2 HC
  clear hW18
  have ZZ18_0 := Lib.hid (Mem.lt M18_.1)
  have ZZ18_1 := Lib.hid (Mem.lt M18_.2.1)
  have ZZ18_2 := Lib.hid (Mem.lt M18_.2.2.1)
  clear z17_0 z17_1 z17_2
  refine (ex_hide _ p w _ HS2_ hB18_ (fun b h => by rw [h]; exact ZZ18_0.out) (hw18_).laid).mono ?_
  rintro e w18 ⟨q, rfl, HQ, hb18⟩
  have HS2 := hid_one HS2_ hb18
  have HO2 := hid_ob HO2_ hb18
  have HC := hid_cellat HC_ hb18
  clear HS2_ HO2_ HC_
  have hB18 := below_then hB18_ hb18
  have hw18 := hw18_.below hb18
  have M18 := M18_.below hb18
  clear M18_ hB18_ hb18 hw18_
  have z18_0 := Mem.lt M18.1
  have z18_1 := Mem.lt M18.2.1
  have z18_2 := Mem.lt M18.2.2.1
  go_wp2_with fail
  refine Calls.named ?_
  intro W19 hW19
  have hB19_ : Below w.heap.size w W19 := by rw [hW19]; exact hB18
  have hw19_ : LaidF (NF w) W19 := by rw [hW19]; exact hw18
  have M19_ := M18
  rw [← hW19] at M19_
  have hS19 : Below w18.heap.size w18 W19 := by rw [hW19]; exact (Below.refl _ _)
  have HS2_ := hid_one HS2 hS19
  have HO2_ := hid_ob HO2 hS19
  have HC_ := hid_cellat HC hS19
  have HQ_ := hid_one HQ hS19
  clear hS19 HS2 HO2 HC HQ
  clear hW19
  have ZZ19_0 := Lib.hid (Mem.lt M19_.1)
  have ZZ19_1 := Lib.hid (Mem.lt M19_.2.1)
  have ZZ19_2 := Lib.hid (Mem.lt M19_.2.2.1)
  clear z18_0 z18_1 z18_2
  refine (ex_get2 _ q w _ HQ_).mono ?_
  rintro e w19 ⟨ap, cp, rfl, hb19⟩
  have HS2 := hid_one HS2_ hb19
  have HO2 := hid_ob HO2_ hb19
  have HC := hid_cellat HC_ hb19
  have HQ := hid_one HQ_ hb19
  clear HS2_ HO2_ HC_ HQ_
  have hB19 := below_then hB19_ hb19
  have hw19 := hw19_.below hb19
  have M19 := M19_.below hb19
  clear M19_ hB19_ hb19 hw19_
  have z19_0 := Mem.lt M19.1
  have z19_1 := Mem.lt M19.2.1
  have z19_2 := Mem.lt M19.2.2.1
  simp only
  iterate 13 go_step
  have yyu := hB19.size
  have hcu := HC.out.1
  replace HS2 := ex_al HS2 (Y := fun b => b = w19.heap.size) (fun b h => .inr h)
  replace HQ := ex_al HQ (Y := fun b => b = w19.heap.size) (fun b h => .inr h)
  replace HO2 := ob_lt HO2
  have oo19_0 : w14.heap.size < w19.heap.size := Mem.lt M19.1
  have oo19_1 : w7.heap.size < w19.heap.size := Mem.lt M19.2.1
  have oo19_2 : w1.heap.size < w19.heap.size := Mem.lt M19.2.2.1
  refine wpl_named ?_
  intro w20 hW20
  have hB20 : Below w.heap.size w w20 := by rw [hW20]; exact (below_al hB19 _)
  have hw20 : LaidF (NF w) w20 := by rw [hW20]; exact (hw19.alloc _)
  have M20 : Mem w20 [(w19.heap.size, .cells (ox (ox0)) 32), (w14.heap.size, .cells (ox ((exC.raw ao co))) 32), (w7.heap.size, .cells (ox (exCo)) 32), (w1.heap.size, .cells (ox (exAo)) 32)] := by rw [hW20]; exact (M19).new' (w19.heap.size) (by rfl) (.cells (ox (ox0)) 32)
  have hS20 : Below w19.heap.size w19 w20 := by rw [hW20]; exact (below_al (Below.refl _ _) _)
  replace HS2 := hid_one HS2 hS20
  replace HO2 := hid_ob HO2 hS20
  replace HQ := hid_one HQ hS20
  replace HC := hid_cellat HC hS20
  clear hS20
  clear z19_0 z19_1 z19_2
  clear hW20
  have z20_0 := Mem.lt M20.1
  have z20_1 := Mem.lt M20.2.1
  have z20_2 := Mem.lt M20.2.2.1
  have z20_3 := Mem.lt M20.2.2.2.1
  refine store_ox rfl _ _ rfl (w19.heap.size) rfl (ox0) ((OB0.raw ap cp)) rfl M20.1 ?_
  intro w21 hW21
  have hB21 : Below w.heap.size w w21 := by rw [hW21]; exact below_setCells (B := w.heap.size) hB20 (b := w19.heap.size) (by have := hB20.size; omega) 0 _
  have hw21 : LaidF (NF w) w21 := hw0.below hB21
  have M21 : Mem w21 [(w19.heap.size, .cells (ox ((OB0.raw ap cp))) 32), (w14.heap.size, .cells (ox ((exC.raw ao co))) 32), (w7.heap.size, .cells (ox (exCo)) 32), (w1.heap.size, .cells (ox (exAo)) 32)] := by rw [hW21]; exact ⟨set_ox M20.1 _, (setCells_other _ 0 _ _ (by omega)).trans M20.2.1, (setCells_other _ 0 _ _ (by omega)).trans M20.2.2.1, (setCells_other _ 0 _ _ (by omega)).trans M20.2.2.2.1, trivial⟩
  have HS3 := one_st HS2 (b := w19.heap.size) rfl 0 (oxL ((OB0.raw ap cp)))
  rw [← hW21] at HS3
  have HO3 := ob_st HO2 0 (oxL ((OB0.raw ap cp)))
  rw [← hW21] at HO3
  have HQ3 := one_st HQ (b := w19.heap.size) rfl 0 (oxL ((OB0.raw ap cp)))
  rw [← hW21] at HQ3
  have HC3 := cellat_st HC (n := w19.heap.size) (by omega) 0 (oxL ((OB0.raw ap cp)))
  rw [← hW21] at HC3
  clear z20_0 z20_1 z20_2 z20_3
  clear hW21
  have z21_0 := Mem.lt M21.1
  have z21_1 := Mem.lt M21.2.1
  have z21_2 := Mem.lt M21.2.2.1
  have z21_3 := Mem.lt M21.2.2.2.1
  clear HS2 HO2 HC HQ
  have cvx := Mem.cell (v := .int .i64 4) M21.2.1 4 rfl
  have cnm := HC3.out.2
  have hs9 : (s9.toList == [57]) = true := by decide +kernel
  go_wp2_with fail
  refine Calls.named ?_
  intro W22 hW22
  have hB22_ : Below w.heap.size w W22 := by rw [hW22]; exact hB21
  have hw22_ : LaidF (NF w) W22 := by rw [hW22]; exact hw21
  have M22_ := M21
  rw [← hW22] at M22_
  have hS22 : Below w21.heap.size w21 W22 := by rw [hW22]; exact (Below.refl _ _)
  have HS3_ := hid_one HS3 hS22
  have HO3_ := hid_ob HO3 hS22
  have HQ3_ := hid_one HQ3 hS22
  have HC3_ := hid_cellat HC3 hS22
  clear hS22 HS3 HO3 HQ3 HC3
  clear hW22
  have ZZ22_0 := Lib.hid (Mem.lt M22_.1)
  have ZZ22_1 := Lib.hid (Mem.lt M22_.2.1)
  have ZZ22_2 := Lib.hid (Mem.lt M22_.2.2.1)
  have ZZ22_3 := Lib.hid (Mem.lt M22_.2.2.2.1)
  clear z21_0 z21_1 z21_2 z21_3
  refine (len_one _ _ q st4 _ HQ3_).mono ?_
  rintro e w22 ⟨rfl, hb22⟩
  have HS3 := hid_one HS3_ hb22
  have HO3 := hid_ob HO3_ hb22
  have HQ3 := hid_one HQ3_ hb22
  have HC3 := hid_cellat HC3_ hb22
  clear HS3_ HO3_ HQ3_ HC3_
  have hB22 := below_then hB22_ hb22
  have hw22 := hw22_.below hb22
  have M22 := M22_.below hb22
  clear M22_ hB22_ hb22 hw22_
  have z22_0 := Mem.lt M22.1
  have z22_1 := Mem.lt M22.2.1
  have z22_2 := Mem.lt M22.2.2.1
  have z22_3 := Mem.lt M22.2.2.2.1
  clear cvx cnm hs9
  have hl4 : (st4.length : Int) = 1 := rfl
  have hl3 : (st3.length : Int) = 2 := rfl
  go_wp2_with fail
  refine Calls.named ?_
  intro W23 hW23
  have hB23_ : Below w.heap.size w W23 := by rw [hW23]; exact hB22
  have hw23_ : LaidF (NF w) W23 := by rw [hW23]; exact hw22
  have M23_ := M22
  rw [← hW23] at M23_
  have hS23 : Below w22.heap.size w22 W23 := by rw [hW23]; exact (Below.refl _ _)
  have HS3_ := hid_one HS3 hS23
  have HO3_ := hid_ob HO3 hS23
  have HQ3_ := hid_one HQ3 hS23
  have HC3_ := hid_cellat HC3 hS23
  clear hS23 HS3 HO3 HQ3 HC3
  clear hW23
  have ZZ23_0 := Lib.hid (Mem.lt M23_.1)
  have ZZ23_1 := Lib.hid (Mem.lt M23_.2.1)
  have ZZ23_2 := Lib.hid (Mem.lt M23_.2.2.1)
  have ZZ23_3 := Lib.hid (Mem.lt M23_.2.2.2.1)
  clear z22_0 z22_1 z22_2 z22_3
  refine (len_one _ _ p st3 _ HS3_).mono ?_
  rintro e w23 ⟨rfl, hb23⟩
  have HS3 := hid_one HS3_ hb23
  have HO3 := hid_ob HO3_ hb23
  have HQ3 := hid_one HQ3_ hb23
  have HC3 := hid_cellat HC3_ hb23
  clear HS3_ HO3_ HQ3_ HC3_
  have hB23 := below_then hB23_ hb23
  have hw23 := hw23_.below hb23
  have M23 := M23_.below hb23
  clear M23_ hB23_ hb23 hw23_
  have z23_0 := Mem.lt M23.1
  have z23_1 := Mem.lt M23.2.1
  have z23_2 := Mem.lt M23.2.2.1
  have z23_3 := Mem.lt M23.2.2.2.1
  simp only
  iterate 9 go_step
  refine load_ox_w rfl _ rfl (w14.heap.size) rfl (((exC.raw ao co))) M23.2.1 ?_
  refine load_ox_w rfl _ rfl (w7.heap.size) rfl ((exCo)) M23.2.2.1 ?_
  go_wp2_with fail
  refine Calls.named ?_
  intro W24 hW24
  have hB24_ : Below w.heap.size w W24 := by rw [hW24]; exact hB23
  have hw24_ : LaidF (NF w) W24 := by rw [hW24]; exact hw23
  have M24_ := M23
  rw [← hW24] at M24_
  have hS24 : Below w23.heap.size w23 W24 := by rw [hW24]; exact (Below.refl _ _)
  have HS3_ := hid_one HS3 hS24
  have HO3_ := hid_ob HO3 hS24
  have HQ3_ := hid_one HQ3 hS24
  have HC3_ := hid_cellat HC3 hS24
  clear hS24 HS3 HO3 HQ3 HC3
  clear hW24
  have ZZ24_0 := Lib.hid (Mem.lt M24_.1)
  have ZZ24_1 := Lib.hid (Mem.lt M24_.2.1)
  have ZZ24_2 := Lib.hid (Mem.lt M24_.2.2.1)
  have ZZ24_3 := Lib.hid (Mem.lt M24_.2.2.2.1)
  clear z23_0 z23_1 z23_2 z23_3
  refine (ex_alike1 ao co _ _ HO3_).mono ?_
  rintro e w24 ⟨rfl, hb24⟩
  have HS3 := hid_one HS3_ hb24
  have HO3 := hid_ob HO3_ hb24
  have HQ3 := hid_one HQ3_ hb24
  have HC3 := hid_cellat HC3_ hb24
  clear HS3_ HO3_ HQ3_ HC3_
  have hB24 := below_then hB24_ hb24
  have hw24 := hw24_.below hb24
  have M24 := M24_.below hb24
  clear M24_ hB24_ hb24 hw24_
  have z24_0 := Mem.lt M24.1
  have z24_1 := Mem.lt M24.2.1
  have z24_2 := Mem.lt M24.2.2.1
  have z24_3 := Mem.lt M24.2.2.2.1
  simp only
  iterate 7 go_step
  refine load_ox_w rfl _ rfl (w1.heap.size) rfl ((exAo)) M24.2.2.2.1 ?_
  refine load_ox_w rfl _ rfl (w7.heap.size) rfl ((exCo)) M24.2.2.1 ?_
  go_wp2_with fail
  refine Calls.named ?_
  intro W25 hW25
  have hB25_ : Below w.heap.size w W25 := by rw [hW25]; exact hB24
  have hw25_ : LaidF (NF w) W25 := by rw [hW25]; exact hw24
  have M25_ := M24
  rw [← hW25] at M25_
  have hS25 : Below w24.heap.size w24 W25 := by rw [hW25]; exact (Below.refl _ _)
  have HS3_ := hid_one HS3 hS25
  have HO3_ := hid_ob HO3 hS25
  have HQ3_ := hid_one HQ3 hS25
  have HC3_ := hid_cellat HC3 hS25
  clear hS25 HS3 HO3 HQ3 HC3
  clear hW25
  have ZZ25_0 := Lib.hid (Mem.lt M25_.1)
  have ZZ25_1 := Lib.hid (Mem.lt M25_.2.1)
  have ZZ25_2 := Lib.hid (Mem.lt M25_.2.2.1)
  have ZZ25_3 := Lib.hid (Mem.lt M25_.2.2.2.1)
  clear z24_0 z24_1 z24_2 z24_3
  refine (ex_alike2 _).mono ?_
  rintro e w25 ⟨rfl, hb25⟩
  have HS3 := hid_one HS3_ hb25
  have HO3 := hid_ob HO3_ hb25
  have HQ3 := hid_one HQ3_ hb25
  have HC3 := hid_cellat HC3_ hb25
  clear HS3_ HO3_ HQ3_ HC3_
  have hB25 := below_then hB25_ hb25
  have hw25 := hw25_.below hb25
  have M25 := M25_.below hb25
  clear M25_ hB25_ hb25 hw25_
  have z25_0 := Mem.lt M25.1
  have z25_1 := Mem.lt M25.2.1
  have z25_2 := Mem.lt M25.2.2.1
  have z25_3 := Mem.lt M25.2.2.2.1
  go_wp2_with fail
  refine Calls.named ?_
  intro W26 hW26
  have hB26_ : Below w.heap.size w W26 := by rw [hW26]; exact hB25
  have hw26_ : LaidF (NF w) W26 := by rw [hW26]; exact hw25
  have M26_ := M25
  rw [← hW26] at M26_
  have hS26 : Below w25.heap.size w25 W26 := by rw [hW26]; exact (Below.refl _ _)
  have HS3_ := hid_one HS3 hS26
  have HO3_ := hid_ob HO3 hS26
  have HQ3_ := hid_one HQ3 hS26
  have HC3_ := hid_cellat HC3 hS26
  clear hS26 HS3 HO3 HQ3 HC3
  clear hW26
  have ZZ26_0 := Lib.hid (Mem.lt M26_.1)
  have ZZ26_1 := Lib.hid (Mem.lt M26_.2.1)
  have ZZ26_2 := Lib.hid (Mem.lt M26_.2.2.1)
  have ZZ26_3 := Lib.hid (Mem.lt M26_.2.2.2.1)
  clear z25_0 z25_1 z25_2 z25_3
  refine (ex_same1 _ p w _ HS3_).mono ?_
  rintro e w26 ⟨rfl, hb26⟩
  have HS3 := hid_one HS3_ hb26
  have HO3 := hid_ob HO3_ hb26
  have HQ3 := hid_one HQ3_ hb26
  have HC3 := hid_cellat HC3_ hb26
  clear HS3_ HO3_ HQ3_ HC3_
  have hB26 := below_then hB26_ hb26
  have hw26 := hw26_.below hb26
  have M26 := M26_.below hb26
  clear M26_ hB26_ hb26 hw26_
  have z26_0 := Mem.lt M26.1
  have z26_1 := Mem.lt M26.2.1
  have z26_2 := Mem.lt M26.2.2.1
  have z26_3 := Mem.lt M26.2.2.2.1
  go_wp2_with fail
  refine Calls.named ?_
  intro W27 hW27
  have hB27_ : Below w.heap.size w W27 := by rw [hW27]; exact hB26
  have hw27_ : LaidF (NF w) W27 := by rw [hW27]; exact hw26
  have M27_ := M26
  rw [← hW27] at M27_
  have hS27 : Below w26.heap.size w26 W27 := by rw [hW27]; exact (Below.refl _ _)
  have HS3_ := hid_one HS3 hS27
  have HO3_ := hid_ob HO3 hS27
  have HQ3_ := hid_one HQ3 hS27
  have HC3_ := hid_cellat HC3 hS27
  clear hS27 HS3 HO3 HQ3 HC3
  clear hW27
  have ZZ27_0 := Lib.hid (Mem.lt M27_.1)
  have ZZ27_1 := Lib.hid (Mem.lt M27_.2.1)
  have ZZ27_2 := Lib.hid (Mem.lt M27_.2.2.1)
  have ZZ27_3 := Lib.hid (Mem.lt M27_.2.2.2.1)
  clear z26_0 z26_1 z26_2 z26_3
  refine (ex_same2 _ _ p q w _ HS3_ HQ3_).mono ?_
  rintro e w27 ⟨rfl, hb27⟩
  have HS3 := hid_one HS3_ hb27
  have HO3 := hid_ob HO3_ hb27
  have HQ3 := hid_one HQ3_ hb27
  have HC3 := hid_cellat HC3_ hb27
  clear HS3_ HO3_ HQ3_ HC3_
  have hB27 := below_then hB27_ hb27
  have hw27 := hw27_.below hb27
  have M27 := M27_.below hb27
  clear M27_ hB27_ hb27 hw27_
  have z27_0 := Mem.lt M27.1
  have z27_1 := Mem.lt M27.2.1
  have z27_2 := Mem.lt M27.2.2.1
  have z27_3 := Mem.lt M27.2.2.2.1
  go_wp2_with fail
  go_ret
  exact ⟨rfl, hB27⟩
end Go.Proofs.YtlkgcidhhngfeaaGreatDoor
