/- slices.Equal of a list of scopes with itself. -/
import Derived.Test.YtnmepcogijgbjaaGreatDoorSc
import Derived.Test.YtnmepcogijgbjaaGreatDoorZE
import Derived.Laws.StructEq
import Derived.Deep.QuietTactic
namespace Go.Proofs.YtnmepcogijgbjaaGreatDoor
open Go.RowKit
theorem equalIn_sc (w : World) (a b c d e f g h i j k l m n : Value) (x : Sc) (ha : a = .string x.nm) (hb : b = .string x.lS) (hc : c = .string x.lI) (hd : d = .int .i64 x.un) (he : e = .int .i64 x.fr) (hf : f = .int .i64 x.ht) (hg : g = .int .i64 x.tr) (hh : h = .string x.cS) (hi : i = .string x.cI) (hj : j = .string x.kS) (hk : k = .string x.kI) (hl : l = .string x.pa) (hm : m = .int .i64 x.md) (hn : n = .int .i64 x.rm) :
    (Op.equalIn 10000 56 (.agg #[a, b, c, d, e, f, g, h, i, j, k, l, m, n]) (.agg #[a, b, c, d, e, f, g, h, i, j, k, l, m, n])).run Tryz.prog w = .ok true w := by
  subst ha hb hc hd he hf hg hh hi hj hk hl hm hn
  go_simp
theorem neq_sc (w : World) (x : Sc) : (binOp .neq 56 (.agg (sc x)) (.agg (sc x))).run Tryz.prog w = .ok (.bool false) w := by
  rw [run_neq_struct]
  have := equalIn_sc w _ _ _ _ _ _ _ _ _ _ _ _ _ _ x rfl rfl rfl rfl rfl rfl rfl rfl rfl rfl rfl rfl rfl rfl
  rw [show (sc x) = #[.string x.nm, .string x.lS, .string x.lI, .int .i64 x.un, .int .i64 x.fr, .int .i64 x.ht, .int .i64 x.tr, .string x.cS, .string x.cI, .string x.kS, .string x.kI, .string x.pa, .int .i64 x.md, .int .i64 x.rm] from rfl, this]
  rfl
set_option maxRecDepth 100000 in
set_option maxHeartbeats 2000000 in
theorem eqSc_same (v : Sl) (c' : Nat) (l : List Sc) (w : World) (h : ScAt w v l) (hlen : v.n ≤ 1000000) :
    Calls Tryz.prog 43 #[.slice v.a v.n v.c, .slice v.a v.n c'] w fun e w' => e = .returned (.bool true) ∧ Below w.heap.size w w' := by
  have HN := Lib.hid h.len
  have HL := Lib.hid h
  clear h
  go_enter Tryz.func43, Tryz.ntmps43
  go_wp2_with fail
  go_loopw [13] (fun i wr => ∃ k : Nat, k ≤ v.n ∧ i = .int .i64 k ∧ Below w.heap.size w wr) (fun i _ => v.n - (intOf i).toNat)
  case atStart => exact ⟨0, by omega, rfl, Below.refl _ _⟩
  case round =>
    obtain ⟨k, hk, rfl, hb⟩ := hrel
    by_cases hlt : k < v.n
    · have hkl : k < l.length := by rw [← HN.out]; exact hlt
      obtain ⟨b, off, hva, -, hbl, hg⟩ := (HL.out.below hb).row hkl
      obtain ⟨x, hx⟩ : ∃ x, l[k] = x := ⟨_, rfl⟩
      rw [hx] at hg
      have g1 : (0 : Int) ≤ (k : Int) := by omega
      have g2 : (k : Int) < (v.n : Int) := by omega
      have hN := fun w => neq_sc w x
      have HB := Lib.hid hb
      clear hb hx
      go_upto_region 6 with (fail)
      rw [hva]
      refine wp_region_held (S := fun w' => w'.rangeAt b (off + k * 14) (scL x)) (by kernel_rfl) ?_
      change wpAnyH _ _ _ _ _ 9 (Array.replicate 9 false) _ wr.drew
      have hS : (wr.drew).rangeAt b (off + k * 14) (scL x) := hg
      refine wpAnyH_take (i := 0) (v := ?_) rfl (by decide +kernel) (by decide +kernel) (by decide +kernel) (fun _ _ _ h => h) (Or.inl ⟨by rfl, ?_⟩) hS ?_
      rotate_left
      · intro w hSw
        clear hSw
        go_simp; try (with_reducible rfl)
      try simp only [Act.put, List.getElem_toArray, List.getElem_cons_zero, List.setIfInBounds_toArray, List.set_cons_zero, List.set_cons_succ]
      refine wpAnyH_take (i := 1) (v := ?_) rfl (by decide +kernel) (by decide +kernel) (by decide +kernel) (fun _ _ _ h => h) (Or.inl ⟨by rfl, ?_⟩) hS ?_
      rotate_left
      · intro w hSw
        clear hSw
        go_simp; try (with_reducible rfl)
      try simp only [Act.put, List.getElem_toArray, List.getElem_cons_succ, List.getElem_cons_zero, List.setIfInBounds_toArray, List.set_cons_zero, List.set_cons_succ]
      refine wpAnyH_take (i := 2) (v := ?_) rfl (by decide +kernel) (by decide +kernel) (by decide +kernel) (fun _ _ _ h => h) (Or.inl ⟨by rfl, ?_⟩) hS ?_
      rotate_left
      · intro w hSw
        clear hSw
        go_simp; try (with_reducible rfl)
      try simp only [Act.put, List.getElem_toArray, List.getElem_cons_succ, List.getElem_cons_zero, List.setIfInBounds_toArray, List.set_cons_zero, List.set_cons_succ]
      refine wpAnyH_take (i := 3) (v := .agg (sc x)) rfl (by decide +kernel) (by decide +kernel) (by decide +kernel) (fun _ _ _ h => h) (yieldsIf_load_mid (by rfl) 56 _ rfl b (off + k * 14) (by rfl) (scL x) _ (fun w h => h) Tryz.underlying56 rfl info_sc) hS ?_
      try simp only [Act.put, List.getElem_toArray, List.getElem_cons_succ, List.getElem_cons_zero, List.setIfInBounds_toArray, List.set_cons_zero, List.set_cons_succ]
      refine wpAnyH_take (i := 4) (v := ?_) rfl (by decide +kernel) (by decide +kernel) (by decide +kernel) (fun _ _ _ h => h) (Or.inl ⟨by rfl, ?_⟩) hS ?_
      rotate_left
      · intro w hSw
        clear hSw
        go_simp; try (with_reducible rfl)
      try simp only [Act.put, List.getElem_toArray, List.getElem_cons_succ, List.getElem_cons_zero, List.setIfInBounds_toArray, List.set_cons_zero, List.set_cons_succ]
      refine wpAnyH_take (i := 5) (v := ?_) rfl (by decide +kernel) (by decide +kernel) (by decide +kernel) (fun _ _ _ h => h) (Or.inl ⟨by rfl, ?_⟩) hS ?_
      rotate_left
      · intro w hSw
        clear hSw
        go_simp; try (with_reducible rfl)
      try simp only [Act.put, List.getElem_toArray, List.getElem_cons_succ, List.getElem_cons_zero, List.setIfInBounds_toArray, List.set_cons_zero, List.set_cons_succ]
      refine wpAnyH_take (i := 6) (v := ?_) rfl (by decide +kernel) (by decide +kernel) (by decide +kernel) (fun _ _ _ h => h) (Or.inl ⟨by rfl, ?_⟩) hS ?_
      rotate_left
      · intro w hSw
        clear hSw
        go_simp; try (with_reducible rfl)
      try simp only [Act.put, List.getElem_toArray, List.getElem_cons_succ, List.getElem_cons_zero, List.setIfInBounds_toArray, List.set_cons_zero, List.set_cons_succ]
      refine wpAnyH_take (i := 7) (v := .agg (sc x)) rfl (by decide +kernel) (by decide +kernel) (by decide +kernel) (fun _ _ _ h => h) (yieldsIf_load_mid (by rfl) 56 _ rfl b (off + k * 14) (by rfl) (scL x) _ (fun w h => h) Tryz.underlying56 rfl info_sc) hS ?_
      try simp only [Act.put, List.getElem_toArray, List.getElem_cons_succ, List.getElem_cons_zero, List.setIfInBounds_toArray, List.set_cons_zero, List.set_cons_succ]
      refine wpAnyH_take (i := 8) (v := ?_) rfl (by decide +kernel) (by decide +kernel) (by decide +kernel) (fun _ _ _ h => h) (Or.inl ⟨by rfl, ?_⟩) hS ?_
      rotate_left
      · intro w hSw
        clear hSw
        go_simp; try (with_reducible rfl)
      try simp only [Act.put, List.getElem_toArray, List.getElem_cons_succ, List.getElem_cons_zero, List.setIfInBounds_toArray, List.set_cons_zero, List.set_cons_succ]
      refine wpAnyH_done (by kernel_rfl) ?_ _
      clear hN hS hg
      go_wp2_with fail
      rw [← hva]
      go_roundw
      case rel => exact ⟨k + 1, by omega, by go_num, HB.out.trans ⟨rfl, rfl, rfl, Nat.le_refl _, fun _ _ => rfl⟩⟩
      case measure => simp [intOf]; omega
    · have hge : (v.n : Int) ≤ k := by omega
      have HB := Lib.hid hb
      clear hb
      go_wp2_with fail
      go_ret
      exact ⟨rfl, HB.out⟩
end Go.Proofs.YtnmepcogijgbjaaGreatDoor
