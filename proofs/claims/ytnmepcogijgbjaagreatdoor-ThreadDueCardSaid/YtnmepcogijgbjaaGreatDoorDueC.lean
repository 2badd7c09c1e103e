/- ThreadDue: what each call answers there. -/
import Derived.Test.YtnmepcogijgbjaaGreatDoorExC
import Derived.Test.YtnmepcogijgbjaaGreatDoorHigh
namespace Go.Proofs.YtnmepcogijgbjaaGreatDoor
open Go.RowKit
abbrev hiS : ByteArray := ⟨#[0]⟩
abbrev noS : ByteArray := ⟨#[]⟩
def dT (cS cI : ByteArray) (gf fc : Nat) : Th := ⟨⟨#[51]⟩, ⟨#[51]⟩, cS, cI, hiS, noS, ⟨ptA gf, 1, fc⟩, ⟨none, 0, 0⟩, ⟨none, 0, 0⟩, ⟨none, 0, 0⟩, 0, 255, 0, noS, 0, 0, noS, noS, noS, false⟩
def dS1 (cS cI : ByteArray) (U : Int) : Sc := ⟨⟨#[51, 46, 48]⟩, hiS, noS, U, 1, 0, 0, cS, cI, hiS, noS, ⟨#[51]⟩, 1, 154⟩
def dU1 (cS cI : ByteArray) (gf fc gs sc : Nat) : Th := ⟨⟨#[51]⟩, ⟨#[51, 46, 48]⟩, cS, cI, hiS, noS, ⟨ptA gf, 2, fc⟩, ⟨none, 0, 0⟩, ⟨none, 0, 0⟩, ⟨ptA gs, 1, sc⟩, 0, 100, 0, noS, 0, 0, noS, noS, noS, false⟩
def dS2 (cS cI : ByteArray) (U : Int) : Sc := ⟨⟨#[51, 46, 48, 46, 48]⟩, hiS, noS, U, 2, 0, 0, cS, cI, hiS, noS, ⟨#[51, 46, 48]⟩, 1, 90⟩
def dU2 (cS cI : ByteArray) (gf fc gs sc : Nat) : Th := ⟨⟨#[51]⟩, ⟨#[51, 46, 48, 46, 48]⟩, cS, cI, hiS, noS, ⟨ptA gf, 3, fc⟩, ⟨none, 0, 0⟩, ⟨none, 0, 0⟩, ⟨ptA gs, 2, sc⟩, 0, 9, 0, noS, 0, 0, noS, noS, noS, false⟩
theorem due_c0 : childS [51] 0 = some [51, 46, 48] := by decide +kernel
theorem due_c1 : childS [51, 46, 48] 0 = some [51, 46, 48, 46, 48] := by decide +kernel
theorem due_nh : NB hiS = hiS := by decide +kernel
theorem due_n0 : NB noS = noS := by decide +kernel
theorem due_norm (w : World) : Calls Tryz.prog 14 #[.agg #[.string hiS, .string noS]] w fun e w' => e = .returned (.agg #[.string hiS, .string noS]) ∧ Below w.heap.size w w' := by
  have := lnorm_any hiS noS (by decide) (by decide) w
  rw [due_nh, due_n0] at this
  exact this
theorem due_write (cS cI : ByteArray) (h1 : Bd cS) (h2 : Bd cI) (w : World) : Calls Tryz.prog 27 #[.agg #[.string cS, .string cI, .string hiS, .string noS], .agg #[.string hiS, .string noS]] w fun e w' => e = .returned (.int .i64 0) ∧ Below w.heap.size w w' :=
  write_yes cS cI hiS noS hiS noS h1 h2 (by decide) (by decide) (by decide) (by decide) (flows_high _ _) (flows_high _ _) w
set_option maxRecDepth 100000 in
theorem due_enter1 (cS cI : ByteArray) (h1 : Bd cS) (h2 : Bd cI) (gf fc : Nat) (xf : List Value) (hx : xf.length = 5) (hfc : 1 ≤ fc) (hfc2 : fc ≤ maxLen) (T N U : Int) (hT : 1 ≤ T) (hT2 : T ≤ 1000) (hU : IntKind.i64.wrap (N + T) = U) (w : World) (hw : Laid w) (hR : RowsIn w (ptA gf) xf) :
    Calls Tryz.prog 9 #[.agg (th (dT cS cI gf fc)), .int .i64 1, .int .i64 0, numV 1, .int .u8 0, .agg #[.string hiS, .string noS], .int .i64 T, .int .i64 100, .int .i64 N] w fun e w' => ∃ g cf fc2 gs cs sc, e = .returned (.tuple #[.agg (th (dU1 cS cI g fc2 gs sc)), .int .i64 0]) ∧ w.heap.size ≤ g ∧ w'.heap[g]? = some (.cells cf 104) ∧ (∃ ys, ys.length = 10 ∧ cf.toList.take 10 = ys) ∧ 2 ≤ fc2 ∧ fc2 ≤ maxLen ∧ w.heap.size ≤ gs ∧ w'.heap[gs]? = some (.cells cs 56) ∧ cs.toList.take 14 = scL (dS1 cS cI U) ∧ 1 ≤ sc ∧ sc ≤ maxLen ∧ Below w.heap.size w w' := by
  refine (enter_good (dT cS cI gf fc) [] (of_decide_eq_true rfl) (Nat.le_refl 0) (Nat.zero_le _) (fun _ => ⟨rfl, rfl⟩) xf hx hfc hfc2 (of_decide_eq_true rfl) (fun h => by cases h) (Nat.zero_le _) 1 0 (of_decide_eq_true rfl) 1 1 0 T 100 N noS noS noS hiS noS hiS noS hT hT2 (of_decide_eq_true rfl) (of_decide_eq_true rfl) (of_decide_eq_true rfl) (of_decide_eq_true rfl) ⟨#[51, 46, 48]⟩ U hU w (scat_nil _ _ _) hR (fun W _ => due_write cS cI h1 h2 W) (fun W hb => tname_ok (dT cS cI gf fc) (of_decide_eq_true rfl) (of_decide_eq_true rfl) (of_decide_eq_true rfl) (of_decide_eq_true rfl) ⟨#[51, 46, 48]⟩ (of_decide_eq_true rfl) due_c0 W (hw.below hb)) (fun W _ => due_norm W)).mono ?_
  rintro e w' ⟨fo, fc2, va, vc, so, soc, rfl, hF, hS, hB⟩
  obtain ⟨g, cf, rfl, hg, hgc, k1, k2, hft⟩ := own_box hF
  obtain ⟨gs, cs, rfl, hs, hsc, k3, k4, hst⟩ := own_box hS
  refine ⟨g, cf, fc2, gs, cs, soc, rfl, hg, hgc, ⟨_, ?_, hft⟩, k1, k2, hs, hsc, hst, k3, k4, hB⟩
  rw [List.length_append, hx]
  rfl
set_option maxRecDepth 100000 in
theorem due_enter2 (cS cI : ByteArray) (h1 : Bd cS) (h2 : Bd cI) (g fc gs sc : Nat) (cf cs : Array Value) (hf1 : 2 ≤ fc) (hf2 : fc ≤ maxLen) (hs1 : 1 ≤ sc) (hs2 : sc ≤ maxLen) (T N U U1 : Int) (hT : 1 ≤ T) (hT2 : T ≤ 1000) (hU : IntKind.i64.wrap (N + T) = U) (w : World) (hw : Laid w)
    (hgc : w.heap[g]? = some (.cells cf 104)) (hft : ∃ ys, ys.length = 10 ∧ cf.toList.take 10 = ys) (hsc : w.heap[gs]? = some (.cells cs 56)) (hst : cs.toList.take 14 = scL (dS1 cS cI U1)) :
    Calls Tryz.prog 9 #[.agg (th (dU1 cS cI g fc gs sc)), .int .i64 1, .int .i64 0, numV 1, .int .u8 0, .agg #[.string hiS, .string noS], .int .i64 T, .int .i64 9, .int .i64 N] w fun e w' => ∃ g3 fc3 gs2 cs2 sc2, e = .returned (.tuple #[.agg (th (dU2 cS cI g3 fc3 gs2 sc2)), .int .i64 0]) ∧ 3 ≤ fc3 ∧ fc3 ≤ maxLen ∧ w.heap.size ≤ gs2 ∧ w'.heap[gs2]? = some (.cells cs2 56) ∧ cs2.toList.take 28 = scL (dS1 cS cI U1) ++ scL (dS2 cS cI U) ∧ 2 ≤ sc2 ∧ sc2 ≤ maxLen ∧ Below w.heap.size w w' := by
  obtain ⟨ys, hy, hft⟩ := hft
  have hS : ScAt w (dU1 cS cI g fc gs sc).sc [dS1 cS cI U1] := scat_box hsc rfl hs1 hst
  refine (enter_good (dU1 cS cI g fc gs sc) [dS1 cS cI U1] (of_decide_eq_true rfl) hs1 hs2 (fun h => by cases h) ys hy hf1 hf2 (of_decide_eq_true rfl) (fun h => by cases h) (Nat.zero_le _) 1 0 (of_decide_eq_true rfl) 1 1 0 T 9 N noS noS noS hiS noS hiS noS hT hT2 (of_decide_eq_true rfl) (of_decide_eq_true rfl) (of_decide_eq_true rfl) (of_decide_eq_true rfl) ⟨#[51, 46, 48, 46, 48]⟩ U hU w hS (rows_box hgc hft) (fun W _ => due_write cS cI h1 h2 W) (fun W hb => tname_ok (dU1 cS cI g fc gs sc) (of_decide_eq_true rfl) (of_decide_eq_true rfl) (of_decide_eq_true rfl) (of_decide_eq_true rfl) ⟨#[51, 46, 48, 46, 48]⟩ (of_decide_eq_true rfl) due_c1 W (hw.below hb)) (fun W _ => due_norm W)).mono ?_
  rintro e w' ⟨fo, fc2, va, vc, so, soc, rfl, hF, hS, hB⟩
  obtain ⟨g3, cf3, rfl, -, -, k1, k2, -⟩ := own_box hF
  obtain ⟨gs2, cs2, rfl, hs, hsc2, k3, k4, hst2⟩ := own_box hS
  exact ⟨g3, fc2, gs2, cs2, soc, rfl, k1, k2, hs, hsc2, hst2, k3, k4, hB⟩
def dL (cS cI : ByteArray) (U1 U2 : Int) : List Sc := [dS1 cS cI U1, dS2 cS cI U2]
set_option maxRecDepth 100000 in
theorem due_scat {cS cI : ByteArray} {g fc gs sc : Nat} {cs : Array Value} {U1 U2 : Int} {w : World} (hsc : w.heap[gs]? = some (.cells cs 56)) (hst : cs.toList.take 28 = scL (dS1 cS cI U1) ++ scL (dS2 cS cI U2)) (h : 2 ≤ sc) : ScAt w (dU2 cS cI g fc gs sc).sc (dL cS cI U1 U2) := scat_box hsc rfl h hst
def dueD (now U1 U2 : Int) : Int := if U1 ≤ now then 0 else if U2 ≤ now then 1 else -1
theorem due_val (cS cI : ByteArray) (now U1 U2 : Int) : dueV now (dL cS cI U1 U2) = dueD now U1 U2 := by
  unfold dueD
  split
  · next h => exact dueV_hit (k := 0) (show 0 < 2 by decide) (fun j hj hk => by omega) h
  · next h =>
    split
    · next h2 =>
      refine dueV_hit (k := 1) (show 1 < 2 by decide) (fun j hj hk => ?_) h2
      obtain rfl : j = 0 := by omega
      exact h
    · next h2 =>
      refine dueV_none (fun j hj => ?_)
      have : j < 2 := hj
      rcases (by omega : j = 0 ∨ j = 1) with rfl | rfl
      · exact h
      · exact h2
theorem due_due {cS cI : ByteArray} {g fc gs sc : Nat} {cs : Array Value} {U1 U2 : Int} (now : Int) (w : World) (hsc : w.heap[gs]? = some (.cells cs 56)) (hst : cs.toList.take 28 = scL (dS1 cS cI U1) ++ scL (dS2 cS cI U2)) (h : 2 ≤ sc) :
    Calls Tryz.prog 11 #[.agg (th (dU2 cS cI g fc gs sc)), .int .i64 now] w fun e w' => e = .returned (.int .i64 (dueD now U1 U2)) ∧ Below w.heap.size w w' := by
  have := due_any (dU2 cS cI g fc gs sc) (dL cS cI U1 U2) (show 2 ≤ 1000000 by decide) now w (due_scat hsc hst h)
  rw [due_val] at this
  exact this
/-- what Leave leaves: a thread of k scopes -/
def dV (cS cI : ByteArray) (g fc gs sc : Nat) (k : Nat) (s : Sc) (ao : Option Addr) (cap : Nat) : Th := thLeft (dU2 cS cI g fc gs sc) s k ao cap
set_option maxRecDepth 100000 in
theorem due_leave {cS cI : ByteArray} {g fc gs sc : Nat} {cs : Array Value} {U1 U2 : Int} (k : Nat) (s : Sc) (hk : k < 2) (hks : (dL cS cI U1 U2)[k]'hk = s) (hf1 : 3 ≤ fc) (hf2 : fc ≤ maxLen) (w : World) (hsc : w.heap[gs]? = some (.cells cs 56)) (hst : cs.toList.take 28 = scL (dS1 cS cI U1) ++ scL (dS2 cS cI U2)) (h : 2 ≤ sc) (h2 : sc ≤ maxLen) :
    Calls Tryz.prog 12 #[.agg (th (dU2 cS cI g fc gs sc)), .int .i64 k] w fun e w' => ∃ ao cap n o, e = .returned (.tuple #[.agg (th (dV cS cI g fc gs sc k s ao cap)), .string n, .agg (ob o)]) ∧ Below w.heap.size w w' := by
  refine (leave_gen (dU2 cS cI g fc gs sc) k (dL cS cI U1 U2) hk (show 2 ≤ 1000000 by decide) [] rfl (fun _ => rfl) (Nat.zero_le _) (Nat.le_refl 0) (Nat.zero_le _) hf1 hf2 (Nat.le_refl 0) (Nat.zero_le _) 1 (-7) _ _ _ true w (due_scat hsc hst h) h2 (rows_nil _ _) (fun W hb => brought_st (dU2 cS cI g fc gs sc) (of_decide_eq_true rfl) k W)).mono ?_
  rintro e w' ⟨ao, cap, rfl, hO, hB⟩
  rw [hks]
  exact ⟨ao, cap, _, _, rfl, hB⟩
theorem due_behind {cS cI : ByteArray} {g fc gs sc : Nat} {cs : Array Value} {U1 U2 : Int} (k : Nat) (s : Sc) (ao : Option Addr) (cap : Nat) (hk : k < 2) (now : Int) (hn : ∀ j, j < k → ¬ U1 ≤ now) (w : World) (hsc : w.heap[gs]? = some (.cells cs 56)) (hst : cs.toList.take 28 = scL (dS1 cS cI U1) ++ scL (dS2 cS cI U2)) :
    Calls Tryz.prog 11 #[.agg (th (dV cS cI g fc gs sc k s ao cap)), .int .i64 now] w fun e w' => e = .returned (.int .i64 (-1)) ∧ Below w.heap.size w w' := by
  have hl : ((dL cS cI U1 U2).take k).length = k := by
    rw [List.length_take]
    show min k 2 = k
    omega
  have hS : ScAt w (dV cS cI g fc gs sc k s ao cap).sc ((dL cS cI U1 U2).take k) := by
    refine scat_box hsc hl.symm (Nat.le_refl k) ?_
    have : cs.toList.take (k * 14) = (cs.toList.take 28).take (k * 14) := by rw [List.take_take, Nat.min_eq_left (by omega)]
    rw [this, hst]
    rcases (by omega : k = 0 ∨ k = 1) with rfl | rfl
    · rfl
    · rfl
  have := due_any (dV cS cI g fc gs sc k s ao cap) ((dL cS cI U1 U2).take k) (by rw [hl]; omega) now w hS
  rw [dueV_none (fun j hj => ?_)] at this
  · exact this
  · have hj' : j < k := by rw [hl] at hj; exact hj
    have := hn j hj'
    obtain rfl : j = 0 := by omega
    rw [List.getElem_take]
    exact this
end Go.Proofs.YtnmepcogijgbjaaGreatDoor
