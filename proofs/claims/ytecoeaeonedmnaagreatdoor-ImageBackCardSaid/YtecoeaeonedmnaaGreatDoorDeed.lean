/- The maker's deed, whatever it chooses. -/
import Derived.Test.YtecoeaeonedmnaaGreatDoorDeed1
import Derived.Test.YtecoeaeonedmnaaGreatDoorDeed2
import Derived.Test.YtecoeaeonedmnaaGreatDoorDeed3
namespace Go.Proofs.YtecoeaeonedmnaaGreatDoor
open Go.RowKit
theorem mod4 (x : Nat) : ((x : Nat) : Int) % 4 = 0 ∨ ((x : Nat) : Int) % 4 = 1 ∨ ((x : Nat) : Int) % 4 = 2 ∨ ((x : Nat) : Int) % 4 = 3 := by omega
theorem deed_any (m : Nat) (lv : Value) (lb : List UInt8) (a : Nat) (c : List (Int × Int)) (ab : Int) (w : World) (H : DS m lv lb c w a [] w) (ha : a ≤ 1000) (hc : c.length ≤ 1000) (hab0 : 0 ≤ ab) (hab1 : ab ≤ 2) :
    Calls Tryz.prog 45 #[.pointer (some ⟨m, 0, none⟩), .int .i64 ab] w fun e w' => e = .returned (.tuple #[]) ∧ DeedP m lv lb c w a w' := by
  have hz : ab = 0 ∨ 0 < ab := by omega
  have h4 := mod4 (rdB lb (a + 1 + 1))
  have hk : ((rdB lb (a + 1) : Nat) : Int) % 32 < 32 ∧ 0 ≤ ((rdB lb (a + 1) : Nat) : Int) % 32 := by omega
  obtain ⟨k, hk2⟩ : ∃ k, k = ((rdB lb (a + 1) : Nat) : Int) % 32 := ⟨_, rfl⟩
  rw [← hk2] at hk
  have hcase : ∀ j : Nat, j < 32 → k = j → Calls Tryz.prog 45 #[.pointer (some ⟨m, 0, none⟩), .int .i64 ab] w fun e w' => e = .returned (.tuple #[]) ∧ DeedP m lv lb c w a w' := by
    intro j hj hkj
    rw [hkj] at hk2
    match j, hj, hk2 with
    | 0, _, hk2 =>
      exact (deed0 m lv lb a c ab w H ha hc hab0 hab1 hk2.symm)
    | 1, _, hk2 =>
      exact (deed1 m lv lb a c ab w H ha hc hab0 hab1 hk2.symm)
    | 2, _, hk2 =>
      exact (deed2 m lv lb a c ab w H ha hc hab0 hab1 hk2.symm)
    | 3, _, hk2 =>
      exact (deed3 m lv lb a c ab w H ha hc hab0 hab1 hk2.symm)
    | 4, _, hk2 =>
      exact (deed4 m lv lb a c ab w H ha hc hab0 hab1 hk2.symm)
    | 5, _, hk2 =>
      exact (deed5 m lv lb a c ab w H ha hc hab0 hab1 hk2.symm)
    | 6, _, hk2 =>
      exact (h4.elim (fun h4 => deed6_0 m lv lb a c ab w H ha hc hab0 hab1 hk2.symm h4) (fun h4 => h4.elim (fun h4 => deed6_1 m lv lb a c ab w H ha hc hab0 hab1 hk2.symm h4) (fun h4 => h4.elim (fun h4 => deed6_2 m lv lb a c ab w H ha hc hab0 hab1 hk2.symm h4) (fun h4 => deed6_3 m lv lb a c ab w H ha hc hab0 hab1 hk2.symm h4))))
    | 7, _, hk2 =>
      exact (h4.elim (fun h4 => deed7_0 m lv lb a c ab w H ha hc hab0 hab1 hk2.symm h4) (fun h4 => h4.elim (fun h4 => deed7_1 m lv lb a c ab w H ha hc hab0 hab1 hk2.symm h4) (fun h4 => h4.elim (fun h4 => deed7_2 m lv lb a c ab w H ha hc hab0 hab1 hk2.symm h4) (fun h4 => deed7_3 m lv lb a c ab w H ha hc hab0 hab1 hk2.symm h4))))
    | 8, _, hk2 =>
      exact (h4.elim (fun h4 => deed8_0 m lv lb a c ab w H ha hc hab0 hab1 hk2.symm h4) (fun h4 => h4.elim (fun h4 => deed8_1 m lv lb a c ab w H ha hc hab0 hab1 hk2.symm h4) (fun h4 => h4.elim (fun h4 => deed8_2 m lv lb a c ab w H ha hc hab0 hab1 hk2.symm h4) (fun h4 => deed8_3 m lv lb a c ab w H ha hc hab0 hab1 hk2.symm h4))))
    | 9, _, hk2 =>
      exact (deed9 m lv lb a c ab w H ha hc hab0 hab1 hk2.symm)
    | 10, _, hk2 =>
      exact (deed10 m lv lb a c ab w H ha hc hab0 hab1 hk2.symm)
    | 11, _, hk2 =>
      exact (deed11 m lv lb a c ab w H ha hc hab0 hab1 hk2.symm)
    | 12, _, hk2 =>
      exact (deed12 m lv lb a c ab w H ha hc hab0 hab1 hk2.symm)
    | 13, _, hk2 =>
      exact (deed13 m lv lb a c ab w H ha hc hab0 hab1 hk2.symm)
    | 14, _, hk2 =>
      exact (deed14 m lv lb a c ab w H ha hc hab0 hab1 hk2.symm)
    | 15, _, hk2 =>
      exact (deed15 m lv lb a c ab w H ha hc hab0 hab1 hk2.symm)
    | 16, _, hk2 =>
      exact hz.elim (fun h0 => (deed16z m lv lb a c ab w H ha hc hab0 hab1 hk2.symm h0)) (fun h0 => (h4.elim (fun h4 => deed16p_0 m lv lb a c ab w H ha hc hab0 hab1 hk2.symm h0 h4) (fun h4 => h4.elim (fun h4 => deed16p_1 m lv lb a c ab w H ha hc hab0 hab1 hk2.symm h0 h4) (fun h4 => h4.elim (fun h4 => deed16p_2 m lv lb a c ab w H ha hc hab0 hab1 hk2.symm h0 h4) (fun h4 => deed16p_3 m lv lb a c ab w H ha hc hab0 hab1 hk2.symm h0 h4)))))
    | 17, _, hk2 =>
      exact hz.elim (fun h0 => (deed17z m lv lb a c ab w H ha hc hab0 hab1 hk2.symm h0)) (fun h0 => (h4.elim (fun h4 => deed17p_0 m lv lb a c ab w H ha hc hab0 hab1 hk2.symm h0 h4) (fun h4 => h4.elim (fun h4 => deed17p_1 m lv lb a c ab w H ha hc hab0 hab1 hk2.symm h0 h4) (fun h4 => h4.elim (fun h4 => deed17p_2 m lv lb a c ab w H ha hc hab0 hab1 hk2.symm h0 h4) (fun h4 => deed17p_3 m lv lb a c ab w H ha hc hab0 hab1 hk2.symm h0 h4)))))
    | 18, _, hk2 =>
      exact (deed18 m lv lb a c ab w H ha hc hab0 hab1 hk2.symm)
    | 19, _, hk2 =>
      exact hz.elim (fun h0 => (deed19z m lv lb a c ab w H ha hc hab0 hab1 hk2.symm h0)) (fun h0 => (h4.elim (fun h4 => deed19p_0 m lv lb a c ab w H ha hc hab0 hab1 hk2.symm h0 h4) (fun h4 => h4.elim (fun h4 => deed19p_1 m lv lb a c ab w H ha hc hab0 hab1 hk2.symm h0 h4) (fun h4 => h4.elim (fun h4 => deed19p_2 m lv lb a c ab w H ha hc hab0 hab1 hk2.symm h0 h4) (fun h4 => deed19p_3 m lv lb a c ab w H ha hc hab0 hab1 hk2.symm h0 h4)))))
    | 20, _, hk2 =>
      exact hz.elim (fun h0 => (deed20z m lv lb a c ab w H ha hc hab0 hab1 hk2.symm h0)) (fun h0 => (h4.elim (fun h4 => deed20p_0 m lv lb a c ab w H ha hc hab0 hab1 hk2.symm h0 h4) (fun h4 => h4.elim (fun h4 => deed20p_1 m lv lb a c ab w H ha hc hab0 hab1 hk2.symm h0 h4) (fun h4 => h4.elim (fun h4 => deed20p_2 m lv lb a c ab w H ha hc hab0 hab1 hk2.symm h0 h4) (fun h4 => deed20p_3 m lv lb a c ab w H ha hc hab0 hab1 hk2.symm h0 h4)))))
    | 21, _, hk2 =>
      exact hz.elim (fun h0 => (deed21z m lv lb a c ab w H ha hc hab0 hab1 hk2.symm h0)) (fun h0 => (h4.elim (fun h4 => deed21p_0 m lv lb a c ab w H ha hc hab0 hab1 hk2.symm h0 h4) (fun h4 => h4.elim (fun h4 => deed21p_1 m lv lb a c ab w H ha hc hab0 hab1 hk2.symm h0 h4) (fun h4 => h4.elim (fun h4 => deed21p_2 m lv lb a c ab w H ha hc hab0 hab1 hk2.symm h0 h4) (fun h4 => deed21p_3 m lv lb a c ab w H ha hc hab0 hab1 hk2.symm h0 h4)))))
    | 22, _, hk2 =>
      exact (deed22 m lv lb a c ab w H ha hc hab0 hab1 hk2.symm)
    | 23, _, hk2 =>
      exact (deed23 m lv lb a c ab w H ha hc hab0 hab1 hk2.symm)
    | 24, _, hk2 =>
      exact (deed24 m lv lb a c ab w H ha hc hab0 hab1 hk2.symm)
    | 25, _, hk2 =>
      exact (deed25 m lv lb a c ab w H ha hc hab0 hab1 hk2.symm)
    | 26, _, hk2 =>
      exact hz.elim (fun h0 => (deed26z m lv lb a c ab w H ha hc hab0 hab1 hk2.symm h0)) (fun h0 => (deed26p m lv lb a c ab w H ha hc hab0 hab1 hk2.symm h0))
    | 27, _, hk2 =>
      exact (deed27 m lv lb a c ab w H ha hc hab0 hab1 hk2.symm)
    | 28, _, hk2 =>
      exact hz.elim (fun h0 => (deed28z m lv lb a c ab w H ha hc hab0 hab1 hk2.symm h0)) (fun h0 => (deed28p m lv lb a c ab w H ha hc hab0 hab1 hk2.symm h0))
    | 29, _, hk2 =>
      exact (deed29 m lv lb a c ab w H ha hc hab0 hab1 hk2.symm)
    | 30, _, hk2 =>
      exact (deed30 m lv lb a c ab w H ha hc hab0 hab1 hk2.symm)
    | 31, _, hk2 =>
      exact (deed31 m lv lb a c ab w H ha hc hab0 hab1 hk2.symm)
    | j + 32, hj, _ => exact absurd hj (by omega)
  exact hcase k.toNat (by omega) (by omega)
end Go.Proofs.YtecoeaeonedmnaaGreatDoor
