/- A long region that draws its order: that its list's own order may be taken, shown in parts. -/
import Derived.Test.YtnmepcogijgbjaaGreatDoorZ1
namespace Go.Proofs.YtnmepcogijgbjaaGreatDoor
open Go.RowKit
def regOf (n : Nat) : Code → List Oper
  | .region id ops _ => bif id == n then ops.toList else []
  | .seq a b => regOf n a ++ regOf n b
  | .cond _ a b => regOf n a ++ regOf n b
  | .block _ a => regOf n a
  | .loop a => regOf n a
  | .scope a => regOf n a
  | _ => []
def lexPart (md : Region.Mode) (ops : Array Oper) : Nat → Nat → Array Bool → Bool
  | 0, _, _ => true
  | fuel + 1, k, listed => (Region.ready md ops listed).contains k && Region.free md ops listed k && lexPart md ops fuel (k + 1) (listed.setIfInBounds k true)
def lexAct : Nat → Nat → Array Bool → Array Bool
  | 0, _, l => l
  | m + 1, k, l => lexAct m (k + 1) (l.setIfInBounds k true)
def lst (k n : Nat) : Array Bool := (List.replicate k true ++ List.replicate (n - k) false).toArray
theorem lex_part (md : Region.Mode) (ops : Array Oper) : ∀ (m n k : Nat) (l : Array Bool), lexPart md ops m k l = true → Region.lexFrom md ops n (k + m) (lexAct m k l) = true → Region.lexFrom md ops (m + n) k l = true
  | 0, n, k, l, _, h => by simpa [lexAct] using h
  | m + 1, n, k, l, h1, h2 => by
    simp only [lexPart, Bool.and_eq_true] at h1
    rw [show m + 1 + n = (m + n) + 1 by omega]
    simp only [Region.lexFrom, Bool.and_eq_true]
    refine ⟨h1.1, lex_part md ops m n (k + 1) _ h1.2 ?_⟩
    have : k + (m + 1) = k + 1 + m := by omega
    rw [← this]
    exact h2
theorem lex_step {md : Region.Mode} {ops : Array Oper} (m n k N : Nat) (h1 : lexPart md ops m k (lst k N) = true) (ha : lexAct m k (lst k N) = lst (k + m) N) (h2 : Region.lexFrom md ops n (k + m) (lst (k + m) N) = true) : Region.lexFrom md ops (m + n) k (lst k N) = true :=
  lex_part md ops m n k _ h1 (by rw [ha]; exact h2)
theorem lex_whole {md : Region.Mode} {ops : Array Oper} (N : Nat) (hs : Region.noSelect ops = true) (hn : ops.size = N) (h : Region.lexFrom md ops N 0 (lst 0 N) = true) : Region.lexB md ops = true := by
  unfold Region.lexB
  rw [hs, hn, Bool.true_and]
  have : lst 0 N = Array.replicate N false := by
    unfold lst
    apply Array.ext'
    simp
  rw [← this]
  exact h
end Go.Proofs.YtnmepcogijgbjaaGreatDoor
