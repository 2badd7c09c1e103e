/- slices.Clone at []mvar.Wait: a list of its own, the same. -/
import Derived.Test.YtlkgcidhhngfeaaGreatDoorZ1
import Derived.Test.YtlkgcidhhngfeaaGreatDoorLaid
namespace Go.Proofs.YtlkgcidhhngfeaaGreatDoor
open Go.RowKit
def wZero : Value := .agg #[.string ⟨#[]⟩, .bool false, .int .i64 0, .int .i64 0, .string ⟨#[]⟩, .string ⟨#[]⟩, .string ⟨#[]⟩]
theorem wInfo : (Tryz.prog.info? 94).map (fun i => (i.zero, i.size, i.bytes)) = some (some wZero, 7, 88) := by kernel_rfl
set_option maxRecDepth 100000 in
set_option maxHeartbeats 2000000 in
theorem clone_some (a : Addr) (n cap : Nat) (xs : List Value) (w : World) (hfl : xs.length = n * 7) (h1 : ∀ u ∈ xs, u.oneCell' = true) (hg : ∀ j u, xs[j]? = some u → w.cell? (a.add j) = some u) (hlen : n * 88 ≤ 140737488355328) :
    Calls Tryz.prog 51 #[.slice (some a) n cap] w fun e w' => ∃ v', e = .returned v' ∧ w'.ownsRow w.heap.size 94 7 v' n xs ∧ Below w.heap.size w w' := by
  obtain ⟨i0, hi, hz0, hz1, hz2⟩ := info_parts wInfo
  have hq : ∀ (w : World) (a : Option Addr) (n c n' c' : Nat), (binOp .eql 28 (.slice a n c) (.slice none n' c')).run Tryz.prog w = .ok (.bool a.isNone) w := fun w a n c n' c' => Lib.run_eql_slice_nil w _ _ a n c n' c' Tryz.underlying28
  have hu : ∀ w, Sem.run Tryz.prog (underlying 28) w = .ok (TypeDesc.slice 94) w := run_underlying Tryz.underlying28
  have A : Aside (∀ j u, xs[j]? = some u → w.cell? (a.add j) = some u) := hg
  clear hg
  go_enter Tryz.func51, Tryz.ntmps51
  go_wp2_with (at_builtin; refine wpList_append_own _ rfl _ _ 28 rfl w.heap.size 94 i0 wZero 7 88 Tryz.underlying28 hi hz0 hz1 hz2 rfl (by decide) _ _ _ rfl (World.ownsRow_made w #[] 0 (Nat.le_refl _) (Nat.zero_le _) rfl) a n cap xs rfl ?qc1 ?qc2 ?qc3 ?qc4 ?qc5 ?qc6 ?_)
  case qc1 => exact hfl
  case qc2 =>
    intro j u hj
    exact Lib.cell?_alloc_some _ (A.out j u hj)
  case qc3 => exact h1
  case qc4 => unfold maxLen; omega
  case qc5 => omega
  case qc6 => simp
  intro v' w1 hown hgrow hnil
  go_wp2
  go_ret
  refine ⟨v', rfl, by simpa using hown, ?_⟩
  exact ((Below.refl _ w).alloc (Nat.le_refl _) _).grown hgrow (by simp) (by intro k hk; simp [Value.ownBlock] at hk; omega)
theorem clone_any (l : List (List Value)) (v : Value) (w : World) (h : SlotsAt w 7 v l) (hlen : l.length * 88 ≤ 140737488355328) :
    Calls Tryz.prog 51 #[v] w fun e w' => ∃ v', e = .returned v' ∧ w'.ownsRow w.heap.size 94 7 v' l.length l.flatten ∧ Below w.heap.size w w' := by
  have hq : ∀ (w : World) (a : Option Addr) (n c n' c' : Nat), (binOp .eql 28 (.slice a n c) (.slice none n' c')).run Tryz.prog w = .ok (.bool a.isNone) w := fun w a n c n' c' => Lib.run_eql_slice_nil w _ _ a n c n' c' Tryz.underlying28
  have hu : ∀ w, Sem.run Tryz.prog (underlying 28) w = .ok (TypeDesc.slice 94) w := run_underlying Tryz.underlying28
  rcases h.2 with ⟨⟨ao, cap, rfl⟩, rfl⟩ | ⟨b, off, cap, rfl, hc, hlt, hg⟩
  · cases ao with
    | none =>
      go_enter Tryz.func51, Tryz.ntmps51
      go_wp2
      go_ret
      exact ⟨_, rfl, ⟨by simp, Or.inl ⟨rfl, rfl⟩⟩, Below.refl _ _⟩
    | some a => exact clone_some a 0 cap [] w rfl (by simp) (by simp) (by simp)
  · exact clone_some ⟨b, off, none⟩ l.length cap l.flatten w h.1.len h.1.one (fun j u hj => by rw [Addr.add_lit]; exact hg j u hj) hlen
end Go.Proofs.YtlkgcidhhngfeaaGreatDoor
