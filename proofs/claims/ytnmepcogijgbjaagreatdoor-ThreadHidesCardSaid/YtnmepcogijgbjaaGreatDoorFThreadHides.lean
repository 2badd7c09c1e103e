/- lazarettolaw17.ThreadHides: from the walk to the card. Every input of the parameter types; the package variables hold what the program's text lays. -/
import Derived.Test.YtnmepcogijgbjaaGreatDoorFrame
import Derived.Test.YtnmepcogijgbjaaGreatDoorTie
import Derived.Test.YtnmepcogijgbjaaGreatDoorWThreadHides
import Derived.Test.YtnmepcogijgbjaaGreatDoorZA
namespace Go.Proofs.YtnmepcogijgbjaaGreatDoor
namespace lawThreadHides
open Go.ChangeShapes Go.WideShapes Go.ChangeAt Go.RowKit Go.Joins Go.Deep
open Go.ChangeMaps (open_string shut_string)
set_option maxRecDepth 100000 in
theorem contract (H : Type) (enc : TypeId × Value → H) (W : World) (base : Nat) (args : Array Value) (ds gs : List (DataW H)) (before : List MemPlace)
    (hval : ∀ (j : Nat) t v, Tryz.f4.params[j]? = some t → args[j]? = some v → Value.okWide Tryz.prog W .any base t v)
    (hW : DataW.Whole enc Tryz.prog Tryz.f4.params.toList Rows.threadHidesSpec.vars false W args.toList ds gs before)
    (hsz : (DataW.weightsEach Tryz.prog (Tryz.f4.params.toList ++ Rows.threadHidesSpec.plain.varTypes Tryz.prog) (ds ++ gs)).all (· ≤ reachBytes) = true)
    (hL : laidMetH Tryz.prog Rows.threadHidesRow.laid W) (hs : W.ShapedOpen Tryz.prog) :
    Calls Tryz.prog 4 args W fun e W' => ∃ v, e = .returned v ∧ Rows.threadHidesSpec.post enc Tryz.prog Tryz.f4 false true false false W args v W' := by
  have hW' := hW
  obtain ⟨p, q, hA0, hV, rfl, hfz, hnd⟩ := hW
  have hA : DataW.TrodAll enc Tryz.prog W 0 (fun _ => true) true Tryz.f4.params.toList args.toList ds p := hA0
  rw [Tryz.params4] at hA hval hsz
  obtain ⟨v0, vs0, d0, ds0, p0, q0, hargs, rfl, rfl, h0, r0⟩ := trodAll_cons hA
  obtain ⟨v1, vs1, d1, ds1, p1, q1, rfl, rfl, rfl, h1, r1⟩ := trodAll_cons r0
  obtain ⟨v2, vs2, d2, ds2, p2, q2, rfl, rfl, rfl, h2, r2⟩ := trodAll_cons r1
  obtain ⟨rfl, rfl, rfl⟩ := trodAll_nil r2
  obtain rfl : args = #[v0, v1, v2] := by cases args; simp_all
  obtain ⟨rfl, rfl⟩ := trodVars_none hV
  obtain ⟨x0, l0, rfl, i0⟩ := open_thread (hval 0 39 v0 rfl rfl) h0
  obtain ⟨x1s, x1i, rfl, b1⟩ := open_label7 (hval 1 24 v1 rfl rfl) h1
  obtain ⟨x2s, x2i, rfl, b2⟩ := open_label7 (hval 2 24 v2 rfl rfl) h2
  clear hA0
  refine (threadHides_walk x0 l0 x1s x1i x2s x2i (b1 140737488351232 (fun z hz => by simpa [show reachBytes = 140737488351232 from rfl] using List.all_eq_true.1 hsz _ (DataW.weights_mem_each (j := 1) rfl rfl z hz))) (b2 140737488351232 (fun z hz => by simpa [show reachBytes = 140737488351232 from rfl] using List.all_eq_true.1 hsz _ (DataW.weights_mem_each (j := 2) rfl rfl z hz))) W i0 (laid_of hs hL)).mono fun e W' ⟨he, hg⟩ => ?_
  subst he
  exact ⟨_, rfl, post_of_below (pa := (p0 ++ (p1 ++ (p2 ++ [])))) (pv := []) hW' (fun _ _ _ => trodAll_cons_mk (shut_bool Tryz.underlying4 _) trodAll_mk0) (fun _ hsp => trodAll_cons_mk (carry_gen laidOutAll (by kernel_rfl) (of_decide_eq_true (by kernel_rfl)) hg h0 (fun q hq => hW'.lt q (by first | (simp at hq; done) | simp [hq])) (fun q hq => hsp q (by first | (simp at hq; done) | simp [hq]))) (trodAll_cons_mk (carry_gen laidOutAll (by kernel_rfl) (of_decide_eq_true (by kernel_rfl)) hg h1 (fun q hq => hW'.lt q (by first | (simp at hq; done) | simp [hq])) (fun q hq => hsp q (by first | (simp at hq; done) | simp [hq]))) (trodAll_cons_mk (carry_gen laidOutAll (by kernel_rfl) (of_decide_eq_true (by kernel_rfl)) hg h2 (fun q hq => hW'.lt q (by first | (simp at hq; done) | simp [hq])) (fun q hq => hsp q (by first | (simp at hq; done) | simp [hq]))) (trodAll_mk0)))) (fun _ _ => rfl) rfl
    hg (ok_one (by kernel_rfl) rfl (okWide_bool_mk Tryz.underlying4 _))⟩
theorem reads (os : Os) {H : Type} (enc : TypeId × Value → H) : ∃ places, DataW.whole enc Tryz.prog ((laidWorld os).forCall (fun _ _ => 0) ⟨#[], #[.agg #[.string .empty, .string .empty, .string .empty, .string .empty, .string .empty, .string .empty, .slice none 0 0, .slice none 0 0, .slice none 0 0, .slice none 0 0, .int .i64 0, .int .i64 0, .int .i64 0, .string .empty, .int .i64 0, .int .i64 0, .string .empty, .string .empty, .string .empty, .bool false], .agg #[.string .empty, .string .empty], .agg #[.string .empty, .string .empty]], []⟩).memory Tryz.f4.params.toList Rows.threadHidesSpec.vars false (#[.agg #[.string .empty, .string .empty, .string .empty, .string .empty, .string .empty, .string .empty, .slice none 0 0, .slice none 0 0, .slice none 0 0, .slice none 0 0, .int .i64 0, .int .i64 0, .int .i64 0, .string .empty, .int .i64 0, .int .i64 0, .string .empty, .string .empty, .string .empty, .bool false], .agg #[.string .empty, .string .empty], .agg #[.string .empty, .string .empty]] : Array Value).toList 8 = some ([.agg [.lit (.string []), .lit (.string []), .agg [.agg [.lit (.string []), .lit (.string [])], .agg [.lit (.string []), .lit (.string [])]], .agg [.nil, .nil, .nil], .nil, .lit (.int .i64 0), .lit (.int .i64 0), .lit (.int .i64 0), .lit (.string []), .agg [.lit (.int .i64 0), .lit (.int .i64 0), .lit (.string []), .agg [.lit (.string []), .lit (.string [])]], .lit (.bool false)], .agg [.lit (.string []), .lit (.string [])], .agg [.lit (.string []), .lit (.string [])]], [], places) :=
  ⟨[], by kernel_rfl⟩
set_option maxRecDepth 100000 in
theorem lifted (os : Os) (started : os.Started) (H : Type) (enc : TypeId × Value → H) (F : Stop.Interp) :
    ReturnsInHanded {} Tryz.checked os 4 .any ((OpenSpec.ofChange Rows.threadHidesSpec).preRow enc Tryz.prog Tryz.f4 Rows.threadHidesRow.domain false Rows.threadHidesRow.laid) (((OpenSpec.ofChange Rows.threadHidesSpec).at F).post enc Tryz.prog Tryz.f4 false true false false) := by
  obtain ⟨places, hx⟩ := reads os enc
  refine returnsInHanded_of_row (C := Tryz.checked) (s := OpenSpec.ofChange Rows.threadHidesSpec) own started (by kernel_rfl) Tryz.func4
    (witness_row_at (enc := enc) (C := Tryz.checked) false (laidWorld os) #[.agg #[.string .empty, .string .empty, .string .empty, .string .empty, .string .empty, .string .empty, .slice none 0 0, .slice none 0 0, .slice none 0 0, .slice none 0 0, .int .i64 0, .int .i64 0, .int .i64 0, .string .empty, .int .i64 0, .int .i64 0, .string .empty, .string .empty, .string .empty, .bool false], .agg #[.string .empty, .string .empty], .agg #[.string .empty, .string .empty]] rfl (by kernel_rfl) (by kernel_rfl) (by kernel_rfl)
      (OpenSpec.preRow_of_cond 8 hx (by kernel_rfl) (fun k hk => by cases hk) (by kernel_rfl) (laid_met os _))) ?_
  intro W base args ds gs before hval hW _ _ hsz hL hs _
  exact contract H enc W base args ds gs before hval hW hsz hL hs
theorem said : Rows.ThreadHidesSaid :=
  OpenClaim.holds_of_cond 4 Tryz.f4 rfl rfl rfl rfl rfl rfl rfl ⟨rfl, rfl, rfl, rfl, rfl⟩ rfl rfl rfl rfl rfl (by kernel_rfl) Tryz.func4 (by kernel_rfl)
    (of_decide_eq_true (by kernel_rfl)) (by unfold Func.isWrapper; first | (rw [if_pos (by decide +kernel)]; kernel_rfl) | (rw [if_neg (by decide +kernel)]; exact ⟨rfl, rfl⟩))
    (fun os started H enc _ F => by rw [OpenClaim.pre_eq_preRow]; exact lifted os started H enc F)
theorem plain (f : FuncId) (fn : Func) (hf : Tryz.pinned.checked.prog.funcNamed "lazaretto/lazarettolaw17.ThreadHides" = some f) (hfn : Tryz.pinned.checked.prog.funcs[f]? = some fn) :
    true = Tryz.pinned.checked.prog.looks [] ∧ ∀ (j : Nat) t, fn.params[j]? = some t → Tryz.pinned.checked.prog.wantsStandIn t = false := by
  obtain rfl : f = 4 := Option.some.inj ((show Tryz.prog.funcNamed "lazaretto/lazarettolaw17.ThreadHides" = some 4 by kernel_rfl).symm.trans hf) |>.symm
  obtain rfl : fn = Tryz.f4 := (Option.some.inj (Tryz.func4.symm.trans hfn)).symm
  refine ⟨by kernel_rfl, fun j t ht => ?_⟩
  rw [Tryz.params4] at ht
  have hm := Array.mem_of_getElem? ht
  simp only [List.mem_toArray, List.mem_cons, List.not_mem_nil, or_false] at hm
  rcases hm with rfl | rfl | rfl
  · exact (show Tryz.prog.wantsStandIn 39 = false by kernel_rfl)
  · exact (show Tryz.prog.wantsStandIn 24 = false by kernel_rfl)
  · exact (show Tryz.prog.wantsStandIn 24 = false by kernel_rfl)
theorem card : Rows.ThreadHidesCardSaid :=
  Claim7.holds_tied_plain_at .later [] _ _ _ _ said (fun _ h => by cases h) (by kernel_rfl) (fun _ h => by cases h) threadHides_row_tie rfl ⟨rfl, rfl⟩ (by kernel_rfl) rfl plain (by kernel_rfl)
end lawThreadHides
end Go.Proofs.YtnmepcogijgbjaaGreatDoor
