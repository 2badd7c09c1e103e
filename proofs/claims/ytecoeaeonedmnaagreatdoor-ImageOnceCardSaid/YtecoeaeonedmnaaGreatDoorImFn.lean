/- image.Get's closures: two bytes as a number; a function. -/
import Derived.Test.YtecoeaeonedmnaaGreatDoorImList
namespace Go.Proofs.YtecoeaeonedmnaaGreatDoor
open Go.RowKit
set_option maxRecDepth 100000 in
set_option maxHeartbeats 1000000 in
theorem two_gen (b5 bo A v1 v2 : Nat) (h1 : v1 < 256) (h2 : v2 < 256) (o1 o2 : Bool) (w : World) (P1 P2 : World → Prop) (hX : w.heap[b5]? = some (.cells #[rdFn 47 bo] 64)) (hne : b5 ≠ A)
    (c1 : Calls Tryz.prog 47 #[.pointer (some ⟨bo + 2, 0, none⟩), .pointer (some ⟨bo, 0, none⟩), .pointer (some ⟨bo + 1, 0, none⟩)] w fun e w' => e = .returned (.tuple #[.int .i64 v1, .bool o1]) ∧ P1 w' ∧ KA A w w')
    (c2 : ∀ w', P1 w' → KA A w w' → Calls Tryz.prog 47 #[.pointer (some ⟨bo + 2, 0, none⟩), .pointer (some ⟨bo, 0, none⟩), .pointer (some ⟨bo + 1, 0, none⟩)] w' fun e w'' => e = .returned (.tuple #[.int .i64 v2, .bool o2]) ∧ P2 w'' ∧ KA A w' w'') :
    Calls Tryz.prog 22 #[.pointer (some ⟨b5, 0, none⟩)] w fun e w' => e = .returned (.tuple #[.int .i64 ((v1 * 256 + v2 : Nat) : Int), .bool (o1 && o2)]) ∧ P2 w' ∧ KA A w w' := by
  have hob := or_bytes v1 v2 h1 h2
  have hv : (v1 : Int) < 256 := by omega
  obtain ⟨R, hR⟩ : ∃ R : Int, R = ((v1 * 256 + v2 : Nat) : Int) := ⟨_, rfl⟩
  rw [← hR] at hob ⊢
  have HX := Lib.hid hX
  have hc0 := Mem.cell (v := .func (.func 47) #[] #[.pointer (some ⟨bo + 2, 0, none⟩), .pointer (some ⟨bo, 0, none⟩), .pointer (some ⟨bo + 1, 0, none⟩)]) hX 0 rfl
  clear hR hX
  cases o1 with
  | false =>
    go_enter Tryz.func22, Tryz.ntmps22
    go_wp2_with (go_at_call 47; first | (refine c1.mono ?_; rintro e w1 ⟨rfl, p1, k1⟩; have d0 := Mem.cell (v := .func (.func 47) #[] #[.pointer (some ⟨bo + 2, 0, none⟩), .pointer (some ⟨bo, 0, none⟩), .pointer (some ⟨bo + 1, 0, none⟩)]) (k1.keep HX.out hne) 0 rfl) | (refine (c2 _ p1 k1).mono ?_; rintro e w2 ⟨rfl, p2, k2⟩))
    go_ret2
    exact ⟨by simp, p2, k1.trans k2⟩
  | true =>
    go_enter Tryz.func22, Tryz.ntmps22
    go_wp2_with (go_at_call 47; first | (refine c1.mono ?_; rintro e w1 ⟨rfl, p1, k1⟩; have d0 := Mem.cell (v := .func (.func 47) #[] #[.pointer (some ⟨bo + 2, 0, none⟩), .pointer (some ⟨bo, 0, none⟩), .pointer (some ⟨bo + 1, 0, none⟩)]) (k1.keep HX.out hne) 0 rfl) | (refine (c2 _ p1 k1).mono ?_; rintro e w2 ⟨rfl, p2, k2⟩))
    go_ret2
    exact ⟨by simp, p2, k1.trans k2⟩
theorem KA.set_new {A : Nat} {w w3 : World} (h : KA A w w3) {b : Nat} (hb : w.heap.size ≤ b) (vs : List Value) : KA A w (w3.setCells b 0 vs) := by
  obtain ⟨e1, e2, e3, e4⟩ := setCells_same (b := b) vs 0 w3
  exact ⟨e1.trans h.os, e2.trans h.tape, e3.trans h.output, by rw [e4]; exact h.size, fun k hk hk2 => (setCells_other vs 0 _ k (by omega)).trans (h.block k hk hk2)⟩
theorem owns_low {w : World} {B B' k : Nat} {e : TypeId} {v : Value} {n : Nat} {xs : List Value} (h : w.ownsRow B' e k v n xs) (hb : B ≤ B') : w.ownsRow B e k v n xs :=
  ⟨h.1, h.2.imp id fun ⟨g, cap, cur, hv, hB, r⟩ => ⟨g, cap, cur, hv, Nat.le_trans hb hB, r⟩⟩
theorem owns_set {w : World} {B k : Nat} {e : TypeId} {v : Value} {n : Nat} {xs : List Value} (h : w.ownsRow B e k v n xs) {b : Nat} (hb : b < B) (o : Nat) (vs : List Value) : (w.setCells b o vs).ownsRow B e k v n xs :=
  ⟨h.1, h.2.imp id fun ⟨g, cap, cur, hv, hB, hg, r⟩ => ⟨g, cap, cur, hv, hB, (setCells_other vs o w g (by omega)).trans hg, r⟩⟩
set_option maxRecDepth 100000 in
set_option maxHeartbeats 4000000 in
theorem fun_gen (b5 b6 b7 bo bp A v1 v2 : Nat) (o1 o2 o3 : Bool) (w : World) (P1 P2 : World → Prop) (hAw : A < w.heap.size)
    (hX5 : w.heap[b5]? = some (.cells #[rdFn 47 bo] 64)) (hn5 : b5 ≠ A)
    (hX6 : w.heap[b6]? = some (.cells #[.func (.func 22) #[] #[.pointer (some ⟨b5, 0, none⟩)]] 64)) (hn6 : b6 ≠ A)
    (hX7 : w.heap[b7]? = some (.cells #[rdFn 48 bp] 70)) (hn7 : b7 ≠ A)
    (B : Nat) (xs : List (Int × Int)) (N : Nat)
    (c1 : ∀ w', Below w.heap.size w w' → Calls Tryz.prog 47 #[.pointer (some ⟨bo + 2, 0, none⟩), .pointer (some ⟨bo, 0, none⟩), .pointer (some ⟨bo + 1, 0, none⟩)] w' fun e w'' => e = .returned (.tuple #[.int .i64 v1, .bool o1]) ∧ P1 w'' ∧ KA A w' w'')
    (c2 : ∀ w', P1 w' → KA A w w' → Calls Tryz.prog 47 #[.pointer (some ⟨bo + 2, 0, none⟩), .pointer (some ⟨bo, 0, none⟩), .pointer (some ⟨bo + 1, 0, none⟩)] w' fun e w'' => e = .returned (.tuple #[.int .i64 v2, .bool o2]) ∧ P2 w'' ∧ KA A w' w'')
    (c3 : ∀ w', P2 w' → KA A w w' → Calls Tryz.prog 26 #[.func (.func 22) #[] #[.pointer (some ⟨b5, 0, none⟩)], .func (.func 48) #[] #[.pointer (some ⟨bp + 2, 0, none⟩), .pointer (some ⟨bp, 0, none⟩), .pointer (some ⟨bp + 1, 0, none⟩)]] w' fun e w'' => ∃ ao n cap p', e = .returned (.tuple #[.slice ao n cap, .bool o3]) ∧ (At w'' A p' ∧ p' ≤ N) ∧ KA A w' w'' ∧ (o3 = true → p' = B ∧ n = xs.length ∧ w''.ownsRow w'.heap.size 45 2 (.slice ao n cap) n (xs.map orow).flatten)) :
    Calls Tryz.prog 25 #[.pointer (some ⟨b5, 0, none⟩), .pointer (some ⟨b6, 0, none⟩), .pointer (some ⟨b7, 0, none⟩)] w fun e w' => ∃ ao n cap p', e = .returned (.tuple #[.agg #[.int .i64 v1, .int .i64 v2, .slice ao n cap], .bool (o1 && (o2 && o3))]) ∧ (At w' A p' ∧ p' ≤ N) ∧ KA A w w' ∧ (o3 = true → p' = B ∧ n = xs.length ∧ w'.ownsRow w.heap.size 45 2 (.slice ao n cap) n (xs.map orow).flatten) := by
  have H5 := Lib.hid hX5
  have H6 := Lib.hid hX6
  have H7 := Lib.hid hX7
  have H1 := Lib.hid ((Below.refl _ w).alloc (Nat.le_refl _) (.cells #[.int .i64 0, .int .i64 0, .slice none 0 0] 43))
  have d5 := Mem.cell (v := .func (.func 47) #[] #[.pointer (some ⟨bo + 2, 0, none⟩), .pointer (some ⟨bo, 0, none⟩), .pointer (some ⟨bo + 1, 0, none⟩)]) hX5 0 rfl
  have hl5 := Mem.lt hX5
  have hl6 := Mem.lt hX6
  have hl7 := Mem.lt hX7
  have hnA : w.heap.size ≠ A := by omega
  clear hX5 hX6 hX7
  cases o1 with
  | false =>
    cases o2 with
    | false =>
      go_enter Tryz.func25, Tryz.ntmps25
      go_wp2_with (first
        | (go_at_call 47; first
            | (refine (c1 _ H1.out).mono ?_; rintro e w1 ⟨rfl, p1, k1⟩; have k1w := (Lib.hid (KA.of_below (A := A) ((Below.refl _ w).alloc (Nat.le_refl _) (.cells #[.int .i64 0, .int .i64 0, .slice none 0 0] 43)) |>.trans k1)); have hz1 := k1.size; have d5 := Mem.cell (v := .func (.func 47) #[] #[.pointer (some ⟨bo + 2, 0, none⟩), .pointer (some ⟨bo, 0, none⟩), .pointer (some ⟨bo + 1, 0, none⟩)]) (k1w.out.keep H5.out hn5) 0 rfl)
            | (refine (c2 _ p1 k1w.out).mono ?_; rintro e w2 ⟨rfl, p2, k2⟩; have k2w := Lib.hid (k1w.out.trans k2); have hz2 := k2.size; have d6 := Mem.cell (v := .func (.func 22) #[] #[.pointer (some ⟨b5, 0, none⟩)]) (k2w.out.keep H6.out hn6) 0 rfl; have d7 := Mem.cell (v := .func (.func 48) #[] #[.pointer (some ⟨bp + 2, 0, none⟩), .pointer (some ⟨bp, 0, none⟩), .pointer (some ⟨bp + 1, 0, none⟩)]) (k2w.out.keep H7.out hn7) 0 rfl))
        | (go_at_call 26; refine (c3 _ p2 k2w.out).mono ?_; rintro e w3 ⟨ao, n, cap, pp, rfl, hAt, k3, hown⟩; have k3w := k2w.out.trans k3; have hR3 := (k2.trans k3).keep ((k1.keep (heap_alloc_new w (.cells #[.int .i64 0, .int .i64 0, .slice none 0 0] 43)) hnA)) hnA; have f3 := fun j => Mem.free hR3 j; have g0 := Mem.cell (v := .int .i64 0) hR3 0 rfl; have g1 := Mem.cell (v := .int .i64 0) hR3 1 rfl; have g2 := Mem.cell (v := .slice none 0 0) hR3 2 rfl; have HAt := Lib.hid hAt; have HOW := Lib.hid hown; have HK3 := Lib.hid k3w; clear hAt hown k3w k3 k2 k1))
      have hR4 := set_block hR3 [.int .i64 (v1 : Int), .int .i64 (v2 : Int), .slice ao n cap] rfl
      have hA4 : At (w3.setCells w.heap.size 0 [.int .i64 (v1 : Int), .int .i64 (v2 : Int), .slice ao n cap]) A pp := (setCells_other _ 0 w3 A (fun e => hnA e.symm)).trans HAt.out.1
      have hK4 := KA.set_new HK3.out (b := w.heap.size) (Nat.le_refl _) [.int .i64 (v1 : Int), .int .i64 (v2 : Int), .slice ao n cap]
      have hO4 : Hid (o3 = true → pp = B ∧ n = xs.length ∧ (w3.setCells w.heap.size 0 [.int .i64 (v1 : Int), .int .i64 (v2 : Int), .slice ao n cap]).ownsRow w.heap.size 45 2 (.slice ao n cap) n (xs.map orow).flatten) := Lib.hid (fun h => by
        obtain ⟨q1, q2, q3⟩ := HOW.out h
        exact ⟨q1, q2, owns_low (owns_set q3 (b := w.heap.size) (by simp at hz1; omega) 0 _) (by simp at hz1; omega)⟩)
      obtain ⟨W_e, hW_e⟩ : ∃ W_e, W_e = w3.setCells w.heap.size 0 [.int .i64 (v1 : Int), .int .i64 (v2 : Int), .slice ao n cap] := ⟨_, rfl⟩
      rw [← hW_e] at hR4 hA4 hK4 hO4
      refine at_world hW_e ?_
      have k_0 := Mem.cell (v := .int .i64 (v1 : Int)) hR4 0 rfl
      have k_1 := Mem.cell (v := .int .i64 (v2 : Int)) hR4 1 rfl
      have k_2 := Mem.cell (v := .slice ao n cap) hR4 2 rfl
      refine bodyPost_ret (v := .tuple #[.agg #[.int .i64 (v1 : Int), .int .i64 (v2 : Int), .slice ao n cap], .bool false]) (by simp [results, Tryz.results25, go_sem, k_0, k_1, k_2]) rfl ⟨ao, n, cap, pp, rfl, ⟨hA4, HAt.out.2⟩, hK4, hO4.out⟩
    | true =>
      go_enter Tryz.func25, Tryz.ntmps25
      go_wp2_with (first
        | (go_at_call 47; first
            | (refine (c1 _ H1.out).mono ?_; rintro e w1 ⟨rfl, p1, k1⟩; have k1w := (Lib.hid (KA.of_below (A := A) ((Below.refl _ w).alloc (Nat.le_refl _) (.cells #[.int .i64 0, .int .i64 0, .slice none 0 0] 43)) |>.trans k1)); have hz1 := k1.size; have d5 := Mem.cell (v := .func (.func 47) #[] #[.pointer (some ⟨bo + 2, 0, none⟩), .pointer (some ⟨bo, 0, none⟩), .pointer (some ⟨bo + 1, 0, none⟩)]) (k1w.out.keep H5.out hn5) 0 rfl)
            | (refine (c2 _ p1 k1w.out).mono ?_; rintro e w2 ⟨rfl, p2, k2⟩; have k2w := Lib.hid (k1w.out.trans k2); have hz2 := k2.size; have d6 := Mem.cell (v := .func (.func 22) #[] #[.pointer (some ⟨b5, 0, none⟩)]) (k2w.out.keep H6.out hn6) 0 rfl; have d7 := Mem.cell (v := .func (.func 48) #[] #[.pointer (some ⟨bp + 2, 0, none⟩), .pointer (some ⟨bp, 0, none⟩), .pointer (some ⟨bp + 1, 0, none⟩)]) (k2w.out.keep H7.out hn7) 0 rfl))
        | (go_at_call 26; refine (c3 _ p2 k2w.out).mono ?_; rintro e w3 ⟨ao, n, cap, pp, rfl, hAt, k3, hown⟩; have k3w := k2w.out.trans k3; have hR3 := (k2.trans k3).keep ((k1.keep (heap_alloc_new w (.cells #[.int .i64 0, .int .i64 0, .slice none 0 0] 43)) hnA)) hnA; have f3 := fun j => Mem.free hR3 j; have g0 := Mem.cell (v := .int .i64 0) hR3 0 rfl; have g1 := Mem.cell (v := .int .i64 0) hR3 1 rfl; have g2 := Mem.cell (v := .slice none 0 0) hR3 2 rfl; have HAt := Lib.hid hAt; have HOW := Lib.hid hown; have HK3 := Lib.hid k3w; clear hAt hown k3w k3 k2 k1))
      have hR4 := set_block hR3 [.int .i64 (v1 : Int), .int .i64 (v2 : Int), .slice ao n cap] rfl
      have hA4 : At (w3.setCells w.heap.size 0 [.int .i64 (v1 : Int), .int .i64 (v2 : Int), .slice ao n cap]) A pp := (setCells_other _ 0 w3 A (fun e => hnA e.symm)).trans HAt.out.1
      have hK4 := KA.set_new HK3.out (b := w.heap.size) (Nat.le_refl _) [.int .i64 (v1 : Int), .int .i64 (v2 : Int), .slice ao n cap]
      have hO4 : Hid (o3 = true → pp = B ∧ n = xs.length ∧ (w3.setCells w.heap.size 0 [.int .i64 (v1 : Int), .int .i64 (v2 : Int), .slice ao n cap]).ownsRow w.heap.size 45 2 (.slice ao n cap) n (xs.map orow).flatten) := Lib.hid (fun h => by
        obtain ⟨q1, q2, q3⟩ := HOW.out h
        exact ⟨q1, q2, owns_low (owns_set q3 (b := w.heap.size) (by simp at hz1; omega) 0 _) (by simp at hz1; omega)⟩)
      obtain ⟨W_e, hW_e⟩ : ∃ W_e, W_e = w3.setCells w.heap.size 0 [.int .i64 (v1 : Int), .int .i64 (v2 : Int), .slice ao n cap] := ⟨_, rfl⟩
      rw [← hW_e] at hR4 hA4 hK4 hO4
      refine at_world hW_e ?_
      have k_0 := Mem.cell (v := .int .i64 (v1 : Int)) hR4 0 rfl
      have k_1 := Mem.cell (v := .int .i64 (v2 : Int)) hR4 1 rfl
      have k_2 := Mem.cell (v := .slice ao n cap) hR4 2 rfl
      refine bodyPost_ret (v := .tuple #[.agg #[.int .i64 (v1 : Int), .int .i64 (v2 : Int), .slice ao n cap], .bool false]) (by simp [results, Tryz.results25, go_sem, k_0, k_1, k_2]) rfl ⟨ao, n, cap, pp, rfl, ⟨hA4, HAt.out.2⟩, hK4, hO4.out⟩
  | true =>
    cases o2 with
    | false =>
      go_enter Tryz.func25, Tryz.ntmps25
      go_wp2_with (first
        | (go_at_call 47; first
            | (refine (c1 _ H1.out).mono ?_; rintro e w1 ⟨rfl, p1, k1⟩; have k1w := (Lib.hid (KA.of_below (A := A) ((Below.refl _ w).alloc (Nat.le_refl _) (.cells #[.int .i64 0, .int .i64 0, .slice none 0 0] 43)) |>.trans k1)); have hz1 := k1.size; have d5 := Mem.cell (v := .func (.func 47) #[] #[.pointer (some ⟨bo + 2, 0, none⟩), .pointer (some ⟨bo, 0, none⟩), .pointer (some ⟨bo + 1, 0, none⟩)]) (k1w.out.keep H5.out hn5) 0 rfl)
            | (refine (c2 _ p1 k1w.out).mono ?_; rintro e w2 ⟨rfl, p2, k2⟩; have k2w := Lib.hid (k1w.out.trans k2); have hz2 := k2.size; have d6 := Mem.cell (v := .func (.func 22) #[] #[.pointer (some ⟨b5, 0, none⟩)]) (k2w.out.keep H6.out hn6) 0 rfl; have d7 := Mem.cell (v := .func (.func 48) #[] #[.pointer (some ⟨bp + 2, 0, none⟩), .pointer (some ⟨bp, 0, none⟩), .pointer (some ⟨bp + 1, 0, none⟩)]) (k2w.out.keep H7.out hn7) 0 rfl))
        | (go_at_call 26; refine (c3 _ p2 k2w.out).mono ?_; rintro e w3 ⟨ao, n, cap, pp, rfl, hAt, k3, hown⟩; have k3w := k2w.out.trans k3; have hR3 := (k2.trans k3).keep ((k1.keep (heap_alloc_new w (.cells #[.int .i64 0, .int .i64 0, .slice none 0 0] 43)) hnA)) hnA; have f3 := fun j => Mem.free hR3 j; have g0 := Mem.cell (v := .int .i64 0) hR3 0 rfl; have g1 := Mem.cell (v := .int .i64 0) hR3 1 rfl; have g2 := Mem.cell (v := .slice none 0 0) hR3 2 rfl; have HAt := Lib.hid hAt; have HOW := Lib.hid hown; have HK3 := Lib.hid k3w; clear hAt hown k3w k3 k2 k1))
      have hR4 := set_block hR3 [.int .i64 (v1 : Int), .int .i64 (v2 : Int), .slice ao n cap] rfl
      have hA4 : At (w3.setCells w.heap.size 0 [.int .i64 (v1 : Int), .int .i64 (v2 : Int), .slice ao n cap]) A pp := (setCells_other _ 0 w3 A (fun e => hnA e.symm)).trans HAt.out.1
      have hK4 := KA.set_new HK3.out (b := w.heap.size) (Nat.le_refl _) [.int .i64 (v1 : Int), .int .i64 (v2 : Int), .slice ao n cap]
      have hO4 : Hid (o3 = true → pp = B ∧ n = xs.length ∧ (w3.setCells w.heap.size 0 [.int .i64 (v1 : Int), .int .i64 (v2 : Int), .slice ao n cap]).ownsRow w.heap.size 45 2 (.slice ao n cap) n (xs.map orow).flatten) := Lib.hid (fun h => by
        obtain ⟨q1, q2, q3⟩ := HOW.out h
        exact ⟨q1, q2, owns_low (owns_set q3 (b := w.heap.size) (by simp at hz1; omega) 0 _) (by simp at hz1; omega)⟩)
      obtain ⟨W_e, hW_e⟩ : ∃ W_e, W_e = w3.setCells w.heap.size 0 [.int .i64 (v1 : Int), .int .i64 (v2 : Int), .slice ao n cap] := ⟨_, rfl⟩
      rw [← hW_e] at hR4 hA4 hK4 hO4
      refine at_world hW_e ?_
      have k_0 := Mem.cell (v := .int .i64 (v1 : Int)) hR4 0 rfl
      have k_1 := Mem.cell (v := .int .i64 (v2 : Int)) hR4 1 rfl
      have k_2 := Mem.cell (v := .slice ao n cap) hR4 2 rfl
      refine bodyPost_ret (v := .tuple #[.agg #[.int .i64 (v1 : Int), .int .i64 (v2 : Int), .slice ao n cap], .bool false]) (by simp [results, Tryz.results25, go_sem, k_0, k_1, k_2]) rfl ⟨ao, n, cap, pp, rfl, ⟨hA4, HAt.out.2⟩, hK4, hO4.out⟩
    | true =>
      go_enter Tryz.func25, Tryz.ntmps25
      go_wp2_with (first
        | (go_at_call 47; first
            | (refine (c1 _ H1.out).mono ?_; rintro e w1 ⟨rfl, p1, k1⟩; have k1w := (Lib.hid (KA.of_below (A := A) ((Below.refl _ w).alloc (Nat.le_refl _) (.cells #[.int .i64 0, .int .i64 0, .slice none 0 0] 43)) |>.trans k1)); have hz1 := k1.size; have d5 := Mem.cell (v := .func (.func 47) #[] #[.pointer (some ⟨bo + 2, 0, none⟩), .pointer (some ⟨bo, 0, none⟩), .pointer (some ⟨bo + 1, 0, none⟩)]) (k1w.out.keep H5.out hn5) 0 rfl)
            | (refine (c2 _ p1 k1w.out).mono ?_; rintro e w2 ⟨rfl, p2, k2⟩; have k2w := Lib.hid (k1w.out.trans k2); have hz2 := k2.size; have d6 := Mem.cell (v := .func (.func 22) #[] #[.pointer (some ⟨b5, 0, none⟩)]) (k2w.out.keep H6.out hn6) 0 rfl; have d7 := Mem.cell (v := .func (.func 48) #[] #[.pointer (some ⟨bp + 2, 0, none⟩), .pointer (some ⟨bp, 0, none⟩), .pointer (some ⟨bp + 1, 0, none⟩)]) (k2w.out.keep H7.out hn7) 0 rfl))
        | (go_at_call 26; refine (c3 _ p2 k2w.out).mono ?_; rintro e w3 ⟨ao, n, cap, pp, rfl, hAt, k3, hown⟩; have k3w := k2w.out.trans k3; have hR3 := (k2.trans k3).keep ((k1.keep (heap_alloc_new w (.cells #[.int .i64 0, .int .i64 0, .slice none 0 0] 43)) hnA)) hnA; have f3 := fun j => Mem.free hR3 j; have g0 := Mem.cell (v := .int .i64 0) hR3 0 rfl; have g1 := Mem.cell (v := .int .i64 0) hR3 1 rfl; have g2 := Mem.cell (v := .slice none 0 0) hR3 2 rfl; have HAt := Lib.hid hAt; have HOW := Lib.hid hown; have HK3 := Lib.hid k3w; clear hAt hown k3w k3 k2 k1))
      have hR4 := set_block hR3 [.int .i64 (v1 : Int), .int .i64 (v2 : Int), .slice ao n cap] rfl
      have hA4 : At (w3.setCells w.heap.size 0 [.int .i64 (v1 : Int), .int .i64 (v2 : Int), .slice ao n cap]) A pp := (setCells_other _ 0 w3 A (fun e => hnA e.symm)).trans HAt.out.1
      have hK4 := KA.set_new HK3.out (b := w.heap.size) (Nat.le_refl _) [.int .i64 (v1 : Int), .int .i64 (v2 : Int), .slice ao n cap]
      have hO4 : Hid (o3 = true → pp = B ∧ n = xs.length ∧ (w3.setCells w.heap.size 0 [.int .i64 (v1 : Int), .int .i64 (v2 : Int), .slice ao n cap]).ownsRow w.heap.size 45 2 (.slice ao n cap) n (xs.map orow).flatten) := Lib.hid (fun h => by
        obtain ⟨q1, q2, q3⟩ := HOW.out h
        exact ⟨q1, q2, owns_low (owns_set q3 (b := w.heap.size) (by simp at hz1; omega) 0 _) (by simp at hz1; omega)⟩)
      obtain ⟨W_e, hW_e⟩ : ∃ W_e, W_e = w3.setCells w.heap.size 0 [.int .i64 (v1 : Int), .int .i64 (v2 : Int), .slice ao n cap] := ⟨_, rfl⟩
      rw [← hW_e] at hR4 hA4 hK4 hO4
      refine at_world hW_e ?_
      have k_0 := Mem.cell (v := .int .i64 (v1 : Int)) hR4 0 rfl
      have k_1 := Mem.cell (v := .int .i64 (v2 : Int)) hR4 1 rfl
      have k_2 := Mem.cell (v := .slice ao n cap) hR4 2 rfl
      refine bodyPost_ret (v := .tuple #[.agg #[.int .i64 (v1 : Int), .int .i64 (v2 : Int), .slice ao n cap], .bool o3]) (by simp [results, Tryz.results25, go_sem, k_0, k_1, k_2]) rfl ⟨ao, n, cap, pp, rfl, ⟨hA4, HAt.out.2⟩, hK4, hO4.out⟩
end Go.Proofs.YtecoeaeonedmnaaGreatDoor
