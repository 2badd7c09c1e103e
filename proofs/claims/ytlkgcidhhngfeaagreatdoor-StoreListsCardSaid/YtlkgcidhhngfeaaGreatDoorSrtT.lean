/- slices.SortFunc at []string, out of the insertion sort; slices.SortedFunc over maps.Keys; store.Names. -/
import Derived.Test.YtlkgcidhhngfeaaGreatDoorSrtS
import Derived.Shelf.Small.Bits
namespace Go.Proofs.YtlkgcidhhngfeaaGreatDoor
open Go.RowKit Go.Maps Go.Sort
set_option maxRecDepth 100000 in
set_option maxHeartbeats 4000000 in
theorem pdq_of (v : Value) (n : Nat) (h12 : n ≤ 12) (lim : Int) (R : World → Prop) (w : World) (hi : Calls Tryz.prog 97 #[v, .int .i64 0, .int .i64 n, .func (.func 33) #[] #[]] w fun e w' => e = .returned (.tuple #[]) ∧ R w') :
    Calls Tryz.prog 78 #[v, .int .i64 0, .int .i64 n, .int .i64 lim, .func (.func 33) #[] #[]] w fun e w' => e = .returned (.tuple #[]) ∧ R w' := by
  have h0 : (n : Int) ≤ 12 := by omega
  have h1 : IntKind.i64.wrap (n : Int) = (n : Int) := IntWalk.i64_in _ ⟨by omega, by omega⟩
  go_enter Tryz.func78, Tryz.ntmps78
  have hB0 := Below.refl w.heap.size w
  have M0 := Mem.nil w
  go_wp2_with fail
  refine wp_loop_rounds 1 ?_
  rw [rounds_succ]
  go_wp2_with (go_at_call 97; refine hi.mono ?_; rintro e w' ⟨rfl, hr⟩)
  (try simp only [Exit.inBlock, Exit.then])
  refine bodyPost_ret (results_none rfl _ _ _) rfl ?_
  exact ⟨rfl, hr⟩
set_option maxRecDepth 100000 in
set_option maxHeartbeats 4000000 in
theorem sort_of (a : Option Addr) (n c : Nat) (h12 : n ≤ 12) (R : World → Prop) (w : World) (hi : Calls Tryz.prog 97 #[.slice a n c, .int .i64 0, .int .i64 n, .func (.func 33) #[] #[]] w fun e w' => e = .returned (.tuple #[]) ∧ R w') :
    Calls Tryz.prog 62 #[.slice a n c, .func (.func 33) #[] #[]] w fun e w' => e = .returned (.tuple #[]) ∧ R w' := by
  have hp := fun lim => pdq_of _ n h12 lim R w hi
  have hl := fun w => Tryz.bits_Len (n : Int) w (by omega) (by omega)
  clear hi
  go_enter Tryz.func62, Tryz.ntmps62
  have hB0 := Below.refl w.heap.size w
  have M0 := Mem.nil w
  go_wp2_with (first
    | (go_at_call 76; refine (hl _).mono ?_; rintro e w' ⟨rfl, rfl⟩)
    | (go_at_call 78; refine (hp _).mono ?_; rintro e w' ⟨rfl, hr⟩))
  go_end0
  exact ⟨rfl, hr⟩
set_option maxRecDepth 100000 in
set_option maxHeartbeats 4000000 in
theorem ins_nil (w : World) : Calls Tryz.prog 97 #[.slice none 0 0, .int .i64 0, .int .i64 0, .func (.func 33) #[] #[]] w fun e w' => e = .returned (.tuple #[]) ∧ w' = w := by
  go_enter Tryz.func97, Tryz.ntmps97
  have hB0 := Below.refl w.heap.size w
  have M0 := Mem.nil w
  go_wp2_with fail
  refine wp_loop_rounds 1 ?_
  rw [rounds_succ]
  go_wp2_with fail
  go_end0
  exact ⟨rfl, rfl⟩
theorem swoB : SWO ltB where
  irrefl x := by unfold ltB; exact decide_eq_false (ordB_irr x)
  trans x y z h1 h2 := by
    unfold ltB at *
    exact decide_eq_true (ordB_trans (of_decide_eq_true h1) (of_decide_eq_true h2))
  ntrans x y z h1 h2 := by
    unfold ltB at *
    have e1 := of_decide_eq_false h1
    have e2 := of_decide_eq_false h2
    refine decide_eq_false fun e3 => ?_
    by_cases hxy : x = y
    · subst hxy; exact e2 e3
    · have e4 : ordB y x < 0 := by
        have h := ordB_swap x y
        have h0 : ordB x y ≠ 0 := fun e => hxy (ordB_zero.1 e)
        omega
      exact e2 (ordB_trans e4 e3)
/-- a list of names, in order -/
def sortL (L : List ByteArray) : List ByteArray := (insertionSort ltB L.toArray 0 L.length).toList
theorem sortL_perm (L : List ByteArray) : (sortL L).Perm L := by
  have h := (insertionSort_holds swoB L.toArray 0 L.length (Nat.zero_le _) (by simp)).1
  have h2 := h.2.2
  have h1 : (insertionSort ltB L.toArray 0 L.length).size = L.length := by rw [h.1]; simp
  rw [Array.extract_eq_self_of_le (by omega), Array.extract_eq_self_of_le (by simp)] at h2
  exact h2
theorem sortL_length (L : List ByteArray) : (sortL L).length = L.length := (sortL_perm L).length_eq
theorem sortL_rise {L : List ByteArray} (hn : L.Nodup) : (sortL L).Pairwise fun s t => ordB s t < 0 := by
  have h := (insertionSort_holds swoB L.toArray 0 L.length (Nat.zero_le _) (by simp)).2
  have hl := sortL_length L
  have hnd := (sortL_perm L).nodup_iff.2 hn
  refine List.pairwise_iff_getElem.2 fun i j hi hj hij => ?_
  have h1 := h i j (Nat.zero_le _) hij (by omega)
  have hi' : i < (insertionSort ltB L.toArray 0 L.length).size := by simpa [sortL] using hi
  have hj' : j < (insertionSort ltB L.toArray 0 L.length).size := by simpa [sortL] using hj
  have e1 : (insertionSort ltB L.toArray 0 L.length)[i]! = (sortL L)[i] := by simp [sortL, hi']
  have e2 : (insertionSort ltB L.toArray 0 L.length)[j]! = (sortL L)[j] := by simp [sortL, hj']
  rw [e1, e2] at h1
  have h2 := of_decide_eq_false h1
  have hne : (sortL L)[i] ≠ (sortL L)[j] := fun e => by
    have := (List.nodup_iff_pairwise_ne.1 hnd)
    exact (List.pairwise_iff_getElem.1 this i j hi hj hij) e
  have h3 := ordB_swap (sortL L)[i] (sortL L)[j]
  have h0 : ordB (sortL L)[i] (sortL L)[j] ≠ 0 := fun e => hne (ordB_zero.1 e)
  omega
/-- two lists that rise, of the same names, are one -/
theorem rise_eq : ∀ {A B : List ByteArray}, A.Pairwise (fun s t => ordB s t < 0) → B.Pairwise (fun s t => ordB s t < 0) → (∀ s, s ∈ A ↔ s ∈ B) → A = B
  | [], [], _, _, _ => rfl
  | [], b :: _, _, _, h => absurd ((h b).2 List.mem_cons_self) (by simp)
  | a :: _, [], _, _, h => absurd ((h a).1 List.mem_cons_self) (by simp)
  | a :: A, b :: B, hA, hB, h => by
    obtain ⟨a1, a2⟩ := List.pairwise_cons.1 hA
    obtain ⟨b1, b2⟩ := List.pairwise_cons.1 hB
    have hab : a = b := by
      rcases List.mem_cons.1 ((h a).1 List.mem_cons_self) with e | e
      · exact e
      · rcases List.mem_cons.1 ((h b).2 List.mem_cons_self) with e2 | e2
        · exact e2.symm
        · exact absurd (ordB_trans (a1 b e2) (b1 a e)) (ordB_irr a)
    subst hab
    rw [rise_eq a2 b2 fun s => ?_]
    constructor
    · intro hs
      rcases List.mem_cons.1 ((h s).1 (List.mem_cons_of_mem _ hs)) with e | e
      · subst e; exact absurd (a1 _ hs) (ordB_irr _)
      · exact e
    · intro hs
      rcases List.mem_cons.1 ((h s).2 (List.mem_cons_of_mem _ hs)) with e | e
      · subst e; exact absurd (b1 _ hs) (ordB_irr _)
      · exact e
theorem sortFunc_any (L : List ByteArray) (B : Nat) (v : Value) (w : World) (hr : w.ownsRow B 9 1 v L.length (L.map .string)) (h12 : L.length ≤ 12) (hs : ∀ s ∈ L, s.size ≤ 95) (hw : LaidF (fun b => v.ownBlock = some b) w) :
    Calls Tryz.prog 62 #[v, .func (.func 33) #[] #[]] w fun e w' => e = .returned (.tuple #[]) ∧ KF (fun b => v.ownBlock = some b) w w' ∧ w'.ownsRow B 9 1 v (sortL L).length ((sortL L).map .string) := by
  have hr0 := hr
  rcases hr.2 with ⟨rfl, hn⟩ | ⟨g, cap, cur, rfl, hB, hg, h1, h2, h3, h4⟩
  · obtain rfl : L = [] := List.eq_nil_of_length_eq_zero hn
    refine (sort_of none 0 0 (by omega) (fun w' => w' = w) w (ins_nil w)).mono ?_
    rintro e w' ⟨rfl, rfl⟩
    exact ⟨rfl, KF.refl _ _, by rw [show sortL [] = [] from List.eq_nil_of_length_eq_zero (sortL_length [])]; exact hr0⟩
  · have hrow : w.heap[g]? = some (.cells (rowA L.toArray (cur.toList.drop L.length)) 9) := by
      rw [hg]
      congr 2
      unfold rowA
      rw [Nat.mul_one] at h4
      show cur = (L.map Value.string ++ cur.toList.drop L.length).toArray
      rw [← h4, List.take_append_drop]
    have hLF : LaidF (fun b => b = g) w := by
      obtain ⟨w0, a1, a2, a3⟩ := hw
      exact ⟨w0, a1, a2, fun b hb => a3 b (by rw [hb]; rfl)⟩
    refine (sort_of (some ⟨g, 0, none⟩) L.length cap h12 _ w (ins_raw g cap L.length L.toArray (cur.toList.drop L.length) w (by simp) (by omega) hrow (fun i hi => by
      have hi' : i < L.length := by simpa using hi
      have : L.toArray[i]! = L[i] := by simp [hi']
      rw [this]
      exact hs _ (List.getElem_mem _)) hLF)).mono ?_
    rintro e w' ⟨rfl, hk, hrw⟩
    refine ⟨rfl, hk.mono fun k _ e => by rw [e]; rfl, by rw [sortL_length]; simp [sortL_length], .inr ⟨g, cap, _, by rw [sortL_length], hB, hrw, by rw [sortL_length]; exact h1, h2, ?_, ?_⟩⟩
    · have hl := sortL_length L
      have h5 := congrArg Array.size (Obj.cells.inj (Option.some.inj (hg.symm.trans hrow))).1
      simp only [rowA, List.size_toArray, List.length_append, List.length_map, List.length_drop, Array.length_toList] at h5 ⊢
      have : (insertionSort ltB L.toArray 0 L.length).size = L.length := by have := hl; simpa [sortL] using this
      omega
    · rw [Nat.mul_one]
      unfold rowA
      rw [List.take_append_of_le_length (by simp [sortL])]
      exact List.take_of_length_le (by simp [sortL])
/-! maps.Keys, slices.Collect -/
def FA : Fence := { fn := fun _ => True }
theorem keys_any (b : Nat) (w : World) : Calls Tryz.prog 41 #[.map (some b)] w fun e w' => e = .returned (.func (.func 63) #[] #[.pointer (some ⟨w.heap.size, 0, none⟩)]) ∧ w' = w.alloc (.cells #[.map (some b)] 60) :=
  (AnyZ.keys_in Tryz.lx_keys FA 4 trivial rfl (some b) w).calls (fun _ => by intro n hn; cases hn)
theorem collect_any (Bm b nn : Nat) (D : DataW Value) (w : World) (hm : w.heap[Bm]? = some (.cells #[.map (some b)] 60)) (hown : w.ownsMap Tryz.prog 9 rawR b nn D) (hsz : Maps.size D ≤ 1000000) :
    Calls Tryz.prog 61 #[.func (.func 63) #[] #[.pointer (some ⟨Bm, 0, none⟩)]] w fun e w' => ∃ (v : Value) (ss : List (List UInt8)), e = .returned v ∧ ss.Perm (strKeys D) ∧ w'.ownsRow w.heap.size 9 1 v ss.length (ss.map encStr) ∧ Below w.heap.size w w' :=
  ((AnyZ.collect_in Tryz.lx_coll FA 4 trivial trivial rfl (by omega) 63 #[.pointer (some ⟨Bm, 0, none⟩)] trivial (fun args w => by kernel_rfl) _ (Maps.size D) (by unfold maxLen; omega) (by omega) w
    (AnyZ.keys_gives Tryz.lx_keysA FA 2 trivial rfl (by omega) Bm b nn D w (Array.getElem?_eq_some_iff.1 hm).1 (Mem.cell hm 0 rfl) hown)).calls (fun _ => by intro n hn; cases hn)).mono fun _ _ ⟨v, ss, h1, h2, h3, _, h4⟩ => ⟨v, ss, h1, h2, h3, h4⟩
end Go.Proofs.YtlkgcidhhngfeaaGreatDoor
