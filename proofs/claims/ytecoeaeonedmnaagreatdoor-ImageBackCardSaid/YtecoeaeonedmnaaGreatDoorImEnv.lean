/- image.Get's closures at their boxes: what each reads at a place. -/
import Derived.Test.YtecoeaeonedmnaaGreatDoorImFl
namespace Go.Proofs.YtecoeaeonedmnaaGreatDoor
open Go.RowKit
structure GE (s : ByteArray) (A b1 b2 b5 b6 b7 : Nat) (w0 w : World) : Prop where
  low : Below w0.heap.size w0 w
  hA : w0.heap.size ≤ A
  e1 : Env w s A b1 21 67
  e2 : Env w s A b2 24 72
  x5 : w.heap[b5]? = some (.cells #[rdFn 47 b1] 64)
  x6 : w.heap[b6]? = some (.cells #[.func (.func 22) #[] #[.pointer (some ⟨b5, 0, none⟩)]] 64)
  x7 : w.heap[b7]? = some (.cells #[rdFn 48 b2] 70)
  n5 : b5 ≠ A
  n6 : b6 ≠ A
  n7 : b7 ≠ A
theorem GE.ka {s : ByteArray} {A b1 b2 b5 b6 b7 : Nat} {w0 w w' : World} (h : GE s A b1 b2 b5 b6 b7 w0 w) (k : KA A w w') : GE s A b1 b2 b5 b6 b7 w0 w' :=
  ⟨KA.below h.low k h.hA h.low.size, h.hA, h.e1.ka k, h.e2.ka k, k.keep h.x5 h.n5, k.keep h.x6 h.n6, k.keep h.x7 h.n7, h.n5, h.n6, h.n7⟩
theorem oct_one {l : List UInt8} {x k : Nat} (h : oct l = some (x, k)) : k = 1 ∧ x < 256 ∧ 0 < l.length := by
  cases l with
  | nil => cases h
  | cons c l =>
    simp only [oct, Option.some.injEq, Prod.mk.injEq] at h
    obtain ⟨rfl, rfl⟩ := h
    exact ⟨rfl, UInt8.toNat_lt c, by simp⟩
/-- the reader of a byte, at a place -/
theorem rdI_l (s : ByteArray) (A b p : Nat) (hs : s.size ≤ 1152921504606846976) (hp : p ≤ s.size) : ∃ (v : Nat) (o : Bool) (p' : Nat), v < 256 ∧ p' ≤ s.size ∧ (oct (s.data.toList.drop p)).isSome = o ∧ (∀ x k, oct (s.data.toList.drop p) = some (x, k) → x = v ∧ p' = p + k ∧ k = 1) ∧
    ∀ w, Env w s A b 21 67 → At w A p → Calls Tryz.prog 47 #[.pointer (some ⟨b + 2, 0, none⟩), .pointer (some ⟨b, 0, none⟩), .pointer (some ⟨b + 1, 0, none⟩)] w fun e w' => e = .returned (.tuple #[.int .i64 (v : Nat), .bool o]) ∧ At w' A p' ∧ KA A w w' := by
  have hL : s.data.toList.length = s.size := Array.length_toList
  cases h : oct (s.data.toList.drop p) with
  | none =>
    refine ⟨0, false, p, by omega, hp, rfl, fun x k e => by (cases e), fun w hE hA => ?_⟩
    have := rdI_any s A b p w hs hp hE hA
    rw [h] at this
    exact this
  | some z =>
    obtain ⟨x, k⟩ := z
    obtain ⟨h1, h2, h3⟩ := oct_one h
    rw [List.length_drop] at h3
    refine ⟨x, true, p + k, h2, by omega, rfl, fun x' k' e => ?_, fun w hE hA => ?_⟩
    · simp only [Option.some.injEq, Prod.mk.injEq] at e
      obtain ⟨rfl, rfl⟩ := e
      exact ⟨rfl, rfl, h1⟩
    · have := rdI_any s A b p w hs hp hE hA
      rw [h] at this
      exact this
/-- as a count -/
theorem cntI (s : ByteArray) (A b p : Nat) (hs : s.size ≤ 1152921504606846976) (hp : p ≤ s.size) (w : World) (hE : Env w s A b 21 67) (hA : At w A p) :
    Calls Tryz.prog 47 #[.pointer (some ⟨b + 2, 0, none⟩), .pointer (some ⟨b, 0, none⟩), .pointer (some ⟨b + 1, 0, none⟩)] w fun e w' => ∃ (x : Int) (p' : Nat), e = .returned (.tuple #[.int .i64 x, .bool (oct (s.data.toList.drop p)).isSome]) ∧ At w' A p' ∧ p' ≤ s.size ∧ KA A w w' ∧ ∀ n k, oct (s.data.toList.drop p) = some (n, k) → x = (n : Nat) ∧ p' = p + k ∧ n < 65536 := by
  obtain ⟨v, o, p', h1, h2, h3, h4, h5⟩ := rdI_l s A b p hs hp
  refine (h5 w hE hA).mono ?_
  rintro e w' ⟨rfl, g1, g2⟩
  refine ⟨_, p', by rw [h3], g1, h2, g2, fun n k e => ?_⟩
  obtain ⟨rfl, r2, _⟩ := h4 n k e
  exact ⟨rfl, r2, by omega⟩
/-- two bytes, as a count -/
theorem cntT (s : ByteArray) (A b1 b2 b5 b6 b7 p : Nat) (hs : s.size ≤ 1152921504606846976) (hp : p ≤ s.size) (w0 w : World) (hG : GE s A b1 b2 b5 b6 b7 w0 w) (hA : At w A p) :
    Calls Tryz.prog 22 #[.pointer (some ⟨b5, 0, none⟩)] w fun e w' => ∃ (x : Int) (p' : Nat), e = .returned (.tuple #[.int .i64 x, .bool (twoB (s.data.toList.drop p)).isSome]) ∧ At w' A p' ∧ p' ≤ s.size ∧ KA A w w' ∧ ∀ n k, twoB (s.data.toList.drop p) = some (n, k) → x = (n : Nat) ∧ p' = p + k ∧ n < 65536 := by
  obtain ⟨v1, o1, p1, h1, h2, h3, h4, h5⟩ := rdI_l s A b1 p hs hp
  obtain ⟨v2, o2, p2, i1, i2, i3, i4, i5⟩ := rdI_l s A b1 p1 hs h2
  refine (two_gen b5 b1 A v1 v2 h1 i1 o1 o2 w (fun w => At w A p1) (fun w => At w A p2) hG.x5 hG.n5 (h5 w hG.e1 hA) (fun w' ha hk => i5 w' (hG.e1.ka hk) ha)).mono ?_
  rintro e w' ⟨rfl, g1, g2⟩
  have key : (twoB (s.data.toList.drop p)).isSome = (o1 && o2) ∧ ∀ n k, twoB (s.data.toList.drop p) = some (n, k) → n = v1 * 256 + v2 ∧ p2 = p + k := by
    unfold twoB
    cases ha : oct (s.data.toList.drop p) with
    | none =>
      rw [ha] at h3
      subst h3
      exact ⟨rfl, fun n k e => by cases e⟩
    | some z =>
      obtain ⟨x, k⟩ := z
      rw [ha] at h3
      subst h3
      obtain ⟨rfl, rfl, rfl⟩ := h4 x k ha
      simp only [List.drop_drop]
      cases hb : oct (s.data.toList.drop (p + 1)) with
      | none =>
        rw [hb] at i3
        subst i3
        exact ⟨rfl, fun n k e => by cases e⟩
      | some z2 =>
        obtain ⟨y, j⟩ := z2
        rw [hb] at i3
        subst i3
        obtain ⟨rfl, rfl, rfl⟩ := i4 y j hb
        refine ⟨rfl, fun n k e => ?_⟩
        simp only [Option.some.injEq, Prod.mk.injEq] at e
        obtain ⟨rfl, rfl⟩ := e
        exact ⟨rfl, by omega⟩
  refine ⟨_, p2, by rw [key.1], g1, i2, g2, fun n k e => ?_⟩
  obtain ⟨r1, r2⟩ := key.2 n k e
  exact ⟨by rw [r1], r2, by omega⟩
/-- a function -/
theorem rdF (s : ByteArray) (A b1 b2 b5 b6 b7 p : Nat) (hs : s.size ≤ 1152921504606846976) (hp : p ≤ s.size) (w0 w : World) (hw0 : LaidI w0) (hG : GE s A b1 b2 b5 b6 b7 w0 w) (hA : At w A p) :
    Calls Tryz.prog 25 #[.pointer (some ⟨b5, 0, none⟩), .pointer (some ⟨b6, 0, none⟩), .pointer (some ⟨b7, 0, none⟩)] w fun e w' => ∃ fa fv so sn sc p', e = .returned (.tuple #[.agg #[.int .i64 fa, .int .i64 fv, .slice so sn sc], .bool (fnP (s.data.toList.drop p)).isSome]) ∧ At w' A p' ∧ p' ≤ s.size ∧ KA A w w' ∧ ∀ f k, fnP (s.data.toList.drop p) = some (f, k) → p' = p + k ∧ fa = f.a ∧ fv = f.v ∧ sn = f.c.length ∧ w'.ownsRow w.heap.size 45 2 (.slice so sn sc) sn (f.c.map orow).flatten := by
  have hL : s.data.toList.length = s.size := Array.length_toList
  obtain ⟨v1, o1, p1, h1, h2, h3, h4, h5⟩ := rdI_l s A b1 p hs hp
  obtain ⟨v2, o2, p2, i1, i2, i3, i4, i5⟩ := rdI_l s A b1 p1 hs h2
  have hlist := fun w' (ha : At w' A p2) (hk : KA A w w') => listO_any s.data.toList s.size A b2 b5 p2 hL hs w' (GE s A b1 b2 b5 b6 b7 w0) (fun _ _ => GE.ka) (hG.ka hk) ha i2
    (fun w p hg ha hp => cntT s A b1 b2 b5 b6 b7 p hs hp w0 w hg ha) (fun w p hg ha hp => rdO_any s A b2 p w hs (hw0.below hg.low) hg.e2 ha) (fun l x k e => (op_codec.bwd l x k e).2.1)
  obtain ⟨r, hr⟩ : ∃ r, r = codeP (s.data.toList.drop p2) := ⟨_, rfl⟩
  have hr' : listP twoB opP (s.data.toList.drop p2) = r := hr.symm
  rw [hr'] at hlist
  have hfun := fun (B : Nat) (xs : List (Int × Int)) (hx : r.isSome = true → ∃ k, r = some (xs, k) ∧ p2 + k = B) => fun_gen b5 b6 b7 b1 b2 A v1 v2 o1 o2 r.isSome w (fun w => At w A p1) (fun w => At w A p2) (Mem.lt hA) hG.x5 hG.n5 hG.x6 hG.n6 hG.x7 hG.n7 B xs s.size
    (fun w' hb => (h5 w' (hG.e1.ka (.of_below hb)) (hA.below hb))) (fun w' ha hk => i5 w' (hG.e1.ka hk) ha) (fun w' ha hk => (hlist w' ha hk).mono (fun e w'' h => by
      obtain ⟨ao, n, cap, p', g1, g2, g3, g4, g5⟩ := h
      exact ⟨ao, n, cap, p', g1, ⟨g2, g3⟩, g4, fun hs => by
        obtain ⟨k, hk⟩ := hx hs
        obtain ⟨j1, j2, j3⟩ := g5 xs k hk.1
        exact ⟨by rw [j1]; exact hk.2, j2, j3⟩⟩))
  clear hlist
  have key : (fnP (s.data.toList.drop p)).isSome = (o1 && (o2 && r.isSome)) ∧ ∀ f k, fnP (s.data.toList.drop p) = some (f, k) → ∃ j, r = some (f.c, j) ∧ f.a = v1 ∧ f.v = v2 ∧ p2 + j = p + k := by
    unfold fnP andThen
    cases ha : oct (s.data.toList.drop p) with
    | none =>
      rw [ha] at h3
      subst h3
      exact ⟨rfl, fun n k e => by cases e⟩
    | some z =>
      obtain ⟨x, k⟩ := z
      rw [ha] at h3
      subst h3
      obtain ⟨rfl, rfl, rfl⟩ := h4 x k ha
      simp only [List.drop_drop]
      cases hb : oct (s.data.toList.drop (p + 1)) with
      | none =>
        rw [hb] at i3
        subst i3
        exact ⟨rfl, fun n k e => by cases e⟩
      | some z2 =>
        obtain ⟨y, j⟩ := z2
        rw [hb] at i3
        subst i3
        obtain ⟨rfl, rfl, rfl⟩ := i4 y j hb
        simp only
        rw [← hr]
        cases r with
        | none => exact ⟨rfl, fun n k e => by cases e⟩
        | some z3 =>
          obtain ⟨c, m⟩ := z3
          refine ⟨rfl, fun f k e => ?_⟩
          simp only [Option.map_some, Option.some.injEq, Prod.mk.injEq] at e
          obtain ⟨rfl, rfl⟩ := e
          exact ⟨m, rfl, rfl, rfl, by omega⟩
  cases hq : fnP (s.data.toList.drop p) with
  | none =>
    rw [hq] at key
    cases r with
    | none =>
      refine (hfun 0 [] (fun h => by cases h)).mono ?_
      rintro e w' ⟨ao, n, cap, p', rfl, g1, g2, g3⟩
      exact ⟨v1, v2, ao, n, cap, p', by rw [← key.1], g1.1, g1.2, g2, fun f k e => by cases e⟩
    | some z =>
      obtain ⟨c, m⟩ := z
      refine (hfun (p2 + m) c (fun _ => ⟨m, rfl, rfl⟩)).mono ?_
      rintro e w' ⟨ao, n, cap, p', rfl, g1, g2, g3⟩
      exact ⟨v1, v2, ao, n, cap, p', by rw [← key.1], g1.1, g1.2, g2, fun f k e => by cases e⟩
  | some z =>
    obtain ⟨f, k⟩ := z
    rw [hq] at key
    obtain ⟨j, rfl, e2, e3, e4⟩ := key.2 f k rfl
    refine (hfun (p2 + j) f.c (fun _ => ⟨j, rfl, rfl⟩)).mono ?_
    rintro e w' ⟨ao, n, cap, p', rfl, g1, g2, g3⟩
    obtain ⟨q1, q2, q3⟩ := g3 rfl
    refine ⟨v1, v2, ao, n, cap, p', by rw [← key.1], g1.1, g1.2, g2, fun f' k' e => ?_⟩
    cases e
    exact ⟨by omega, e2.symm, e3.symm, q2, q3⟩
theorem small_right {v : Vl} (h : v.right = true) : v.small := by
  obtain ⟨k, n, m, ⟨S, I⟩⟩ := v
  have hl : ∀ l : Lb, l.right = true → l.S.length ≤ 64 ∧ l.I.length ≤ 64 := by
    intro l hl
    unfold Lb.right at hl
    rw [Bool.and_eq_true] at hl
    exact ⟨rightFm_length hl.1, rightFm_length hl.2⟩
  unfold Vl.small
  unfold Vl.right at h
  simp only at h ⊢
  by_cases k1 : k = 1
  · rw [if_pos k1] at h
    simp only [Bool.and_eq_true, List.isEmpty_iff] at h
    obtain ⟨rfl, rfl, rfl⟩ := h
    simp
  · rw [if_neg k1] at h
    by_cases k2 : k = 2
    · rw [if_pos k2] at h
      simp only [Bool.and_eq_true, List.isEmpty_iff] at h
      obtain ⟨⟨_, rfl⟩, h3⟩ := h
      have := hl _ h3
      simp only at this
      simp
      omega
    · rw [if_neg k2] at h
      by_cases k3 : 3 ≤ k ∧ k ≤ 7
      · rw [if_pos k3] at h
        simp only [Bool.and_eq_true] at h
        obtain ⟨⟨_, h2⟩, h3⟩ := h
        have h8 : S.length ≤ 64 ∧ I.length ≤ 64 := hl _ h3
        obtain ⟨x, hx⟩ := Option.isSome_iff_exists.1 h2
        have h9 := readL_length hx
        omega
      · rw [if_neg k3] at h
        cases h
end Go.Proofs.YtecoeaeonedmnaaGreatDoor
