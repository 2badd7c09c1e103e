/- lazarettolaw07.ValBack: from the walk to the card. Every input of the parameter types; the package variables hold what the program's text lays. -/
import Derived.Test.YtcgelcccboifjaaDoorFrame
import Derived.Test.YtcgelcccboifjaaDoorTie
import Derived.Test.YtcgelcccboifjaaDoorWValBack
import Derived.Test.YtcgelcccboifjaaDoorOpen7
namespace Go.Proofs.YtcgelcccboifjaaDoor
namespace lawValBack
open Go.ChangeShapes Go.WideShapes Go.ChangeAt Go.RowKit Go.Joins Go.Deep
open Go.ChangeMaps (open_string shut_string)
set_option maxRecDepth 100000 in
theorem contract (H : Type) (enc : TypeId × Value → H) (W : World) (base : Nat) (args : Array Value) (ds gs : List (DataW H)) (before : List MemPlace)
    (hval : ∀ (j : Nat) t v, Tryd.f3.params[j]? = some t → args[j]? = some v → Value.okWide Tryd.prog W .any base t v)
    (hW : DataW.Whole enc Tryd.prog Tryd.f3.params.toList Rows.valBackSpec.vars false W args.toList ds gs before)
    (hsz : (DataW.weightsEach Tryd.prog (Tryd.f3.params.toList ++ Rows.valBackSpec.plain.varTypes Tryd.prog) (ds ++ gs)).all (· ≤ reachBytes) = true)
    (hL : laidMetH Tryd.prog Rows.valBackRow.laid W) (hs : W.ShapedOpen Tryd.prog) :
    Calls Tryd.prog 3 args W fun e W' => ∃ v, e = .returned v ∧ Rows.valBackSpec.post enc Tryd.prog Tryd.f3 false true false false W args v W' := by
  have hW' := hW
  obtain ⟨p, q, hA0, hV, rfl, hfz, hnd⟩ := hW
  have hA : DataW.TrodAll enc Tryd.prog W 0 (fun _ => true) true Tryd.f3.params.toList args.toList ds p := hA0
  rw [Tryd.params3] at hA hval hsz
  obtain ⟨v0, vs0, d0, ds0, p0, q0, hargs, rfl, rfl, h0, r0⟩ := trodAll_cons hA
  obtain ⟨v1, vs1, d1, ds1, p1, q1, rfl, rfl, rfl, h1, r1⟩ := trodAll_cons r0
  obtain ⟨v2, vs2, d2, ds2, p2, q2, rfl, rfl, rfl, h2, r2⟩ := trodAll_cons r1
  obtain ⟨v3, vs3, d3, ds3, p3, q3, rfl, rfl, rfl, h3, r3⟩ := trodAll_cons r2
  obtain ⟨rfl, rfl, rfl⟩ := trodAll_nil r3
  obtain rfl : args = #[v0, v1, v2, v3] := by cases args; simp_all
  obtain ⟨rfl, rfl⟩ := trodVars_none hV
  obtain ⟨x0k, x0n, x0m, x0s, x0i, rfl, i0, b0⟩ := open_value7 (hval 0 26 v0 rfl rfl) h0
  obtain ⟨x1k, x1n, x1m, x1s, x1i, rfl, i1, b1⟩ := open_value7 (hval 1 26 v1 rfl rfl) h1
  obtain ⟨x2, rfl, rfl, rfl, y2⟩ := open_string Tryd.underlying9 (hval 2 9 v2 rfl rfl) h2
  have z2 : x2.size ≤ 140737488351232 := by
    have h1 := sized_string hsz (j := 2) (t := 9) rfl rfl
    rw [Array.length_toList] at h1
    exact h1
  obtain ⟨x3, rfl, rfl, rfl, y3⟩ := open_string Tryd.underlying9 (hval 3 9 v3 rfl rfl) h3
  have z3 : x3.size ≤ 140737488351232 := by
    have h1 := sized_string hsz (j := 3) (t := 9) rfl rfl
    rw [Array.length_toList] at h1
    exact h1
  clear hA0
  refine (valBack_walk x0k x0n x0m x0s x0i x1k x1n x1m x1s x1i x2 x3 i0 (b0 140737488351232 (fun z hz => by simpa [show reachBytes = 140737488351232 from rfl] using List.all_eq_true.1 hsz _ (DataW.weights_mem_each (j := 0) rfl rfl z hz))) i1 (b1 140737488351232 (fun z hz => by simpa [show reachBytes = 140737488351232 from rfl] using List.all_eq_true.1 hsz _ (DataW.weights_mem_each (j := 1) rfl rfl z hz))) z2 z3 W  (laid_of hs hL)).mono fun e W' ⟨he, hg⟩ => ?_
  subst he
  exact ⟨_, rfl, post_of_below (pa := (p0 ++ (p1 ++ ([] ++ ([] ++ []))))) (pv := []) hW' (fun _ _ _ => trodAll_cons_mk (shut_bool Tryd.underlying4 _) trodAll_mk0) (fun _ hsp => trodAll_cons_mk (carry_gen laidOutAll (by kernel_rfl) (of_decide_eq_true (by kernel_rfl)) hg h0 (fun q hq => hW'.lt q (by first | (simp at hq; done) | simp [hq])) (fun q hq => hsp q (by first | (simp at hq; done) | simp [hq]))) (trodAll_cons_mk (carry_gen laidOutAll (by kernel_rfl) (of_decide_eq_true (by kernel_rfl)) hg h1 (fun q hq => hW'.lt q (by first | (simp at hq; done) | simp [hq])) (fun q hq => hsp q (by first | (simp at hq; done) | simp [hq]))) (trodAll_cons_mk (carry_gen laidOutAll (by kernel_rfl) (of_decide_eq_true (by kernel_rfl)) hg h2 (fun q hq => hW'.lt q (by first | (simp at hq; done) | simp [hq])) (fun q hq => hsp q (by first | (simp at hq; done) | simp [hq]))) (trodAll_cons_mk (carry_gen laidOutAll (by kernel_rfl) (of_decide_eq_true (by kernel_rfl)) hg h3 (fun q hq => hW'.lt q (by first | (simp at hq; done) | simp [hq])) (fun q hq => hsp q (by first | (simp at hq; done) | simp [hq]))) (trodAll_mk0))))) (fun _ _ => rfl) rfl
    hg (ok_one (by kernel_rfl) rfl (okWide_bool_mk Tryd.underlying4 _))⟩
theorem reads (os : Os) {H : Type} (enc : TypeId × Value → H) : ∃ places, DataW.whole enc Tryd.prog ((laidWorld os).forCall (fun _ _ => 0) ⟨#[], #[.agg #[.int .i64 0, .int .i64 0, .string .empty, .string .empty, .string .empty], .agg #[.int .i64 0, .int .i64 0, .string .empty, .string .empty, .string .empty], .string .empty, .string .empty], []⟩).memory Tryd.f3.params.toList Rows.valBackSpec.vars false (#[.agg #[.int .i64 0, .int .i64 0, .string .empty, .string .empty, .string .empty], .agg #[.int .i64 0, .int .i64 0, .string .empty, .string .empty, .string .empty], .string .empty, .string .empty] : Array Value).toList 8 = some ([.agg [.lit (.int .i64 0), .lit (.int .i64 0), .lit (.string []), .agg [.lit (.string []), .lit (.string [])]], .agg [.lit (.int .i64 0), .lit (.int .i64 0), .lit (.string []), .agg [.lit (.string []), .lit (.string [])]], .lit (.string []), .lit (.string [])], [], places) :=
  ⟨[], by kernel_rfl⟩
set_option maxRecDepth 100000 in
theorem lifted (os : Os) (started : os.Started) (H : Type) (enc : TypeId × Value → H) (F : Stop.Interp) :
    ReturnsInHanded {} Tryd.checked os 3 .any ((OpenSpec.ofChange Rows.valBackSpec).preRow enc Tryd.prog Tryd.f3 Rows.valBackRow.domain false Rows.valBackRow.laid) (((OpenSpec.ofChange Rows.valBackSpec).at F).post enc Tryd.prog Tryd.f3 false true false false) := by
  obtain ⟨places, hx⟩ := reads os enc
  refine returnsInHanded_of_row (C := Tryd.checked) (s := OpenSpec.ofChange Rows.valBackSpec) own started (by kernel_rfl) Tryd.func3
    (witness_row_at (enc := enc) (C := Tryd.checked) false (laidWorld os) #[.agg #[.int .i64 0, .int .i64 0, .string .empty, .string .empty, .string .empty], .agg #[.int .i64 0, .int .i64 0, .string .empty, .string .empty, .string .empty], .string .empty, .string .empty] rfl (by kernel_rfl) (by kernel_rfl) (by kernel_rfl)
      (OpenSpec.preRow_of_cond 8 hx (by kernel_rfl) (fun k hk => by cases hk) (by kernel_rfl) (laid_met os _))) ?_
  intro W base args ds gs before hval hW _ _ hsz hL hs _
  exact contract H enc W base args ds gs before hval hW hsz hL hs
theorem said : Rows.ValBackSaid :=
  OpenClaim.holds_of_cond 3 Tryd.f3 rfl rfl rfl rfl rfl rfl rfl ⟨rfl, rfl, rfl, rfl, rfl⟩ rfl rfl rfl rfl rfl (by kernel_rfl) Tryd.func3 (by kernel_rfl)
    (of_decide_eq_true (by kernel_rfl)) (by unfold Func.isWrapper; first | (rw [if_pos (by decide +kernel)]; kernel_rfl) | (rw [if_neg (by decide +kernel)]; exact ⟨rfl, rfl⟩))
    (fun os started H enc _ F => by rw [OpenClaim.pre_eq_preRow]; exact lifted os started H enc F)
theorem plain (f : FuncId) (fn : Func) (hf : Tryd.pinned.checked.prog.funcNamed "lazaretto/lazarettolaw07.ValBack" = some f) (hfn : Tryd.pinned.checked.prog.funcs[f]? = some fn) :
    true = Tryd.pinned.checked.prog.looks [] ∧ ∀ (j : Nat) t, fn.params[j]? = some t → Tryd.pinned.checked.prog.wantsStandIn t = false := by
  obtain rfl : f = 3 := Option.some.inj ((show Tryd.prog.funcNamed "lazaretto/lazarettolaw07.ValBack" = some 3 by kernel_rfl).symm.trans hf) |>.symm
  obtain rfl : fn = Tryd.f3 := (Option.some.inj (Tryd.func3.symm.trans hfn)).symm
  refine ⟨by kernel_rfl, fun j t ht => ?_⟩
  rw [Tryd.params3] at ht
  have hm := Array.mem_of_getElem? ht
  simp only [List.mem_toArray, List.mem_cons, List.not_mem_nil, or_false] at hm
  rcases hm with rfl | rfl | rfl | rfl
  · exact (show Tryd.prog.wantsStandIn 26 = false by kernel_rfl)
  · exact (show Tryd.prog.wantsStandIn 26 = false by kernel_rfl)
  · exact (show Tryd.prog.wantsStandIn 9 = false by kernel_rfl)
  · exact (show Tryd.prog.wantsStandIn 9 = false by kernel_rfl)
theorem card : Rows.ValBackCardSaid :=
  Claim7.holds_tied_plain_at .later [] _ _ _ _ said (fun _ h => by cases h) (by kernel_rfl) (fun _ h => by cases h) valBack_row_tie rfl ⟨rfl, rfl⟩ (by kernel_rfl) rfl plain (by kernel_rfl)
end lawValBack
end Go.Proofs.YtcgelcccboifjaaDoor
