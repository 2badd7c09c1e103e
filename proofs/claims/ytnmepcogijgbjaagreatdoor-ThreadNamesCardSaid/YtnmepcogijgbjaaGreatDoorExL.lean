/- What the chapter's examples want: names, labels, told. -/
import Derived.Test.YtnmepcogijgbjaaGreatDoorBeg
import Derived.Test.YtnmepcogijgbjaaGreatDoorHide
namespace Go.Proofs.YtnmepcogijgbjaaGreatDoor
open Go.RowKit
theorem tname_ok (t : Th) (h1 : 1 ≤ t.rm) (h2 : t.rm ≤ 1000) (h3 : 0 ≤ t.md) (h4 : t.md ≤ 1000) (nw : ByteArray) (hp : t.pa.size ≤ 1000) (hc : childS t.pa.data.toList t.md = some nw.data.toList) (w : World) (hw : Laid w) :
    Calls Tryz.prog 19 #[.agg (th t)] w fun e w' => e = .returned (.tuple #[.agg (th { t with md := t.md + 1, rm := t.rm - 1 }), .string nw, .bool true]) ∧ Below w.heap.size w w' :=
  name_gen_ok t h1 h2 h3 h4 nw Laid (fun _ _ h hb => h.below hb) (fun w hw => (child_any t.pa t.md w (by omega) hw).mono (by
    unfold ChildEnds
    rw [hc]
    rintro e w' ⟨rfl, hb⟩
    exact ⟨rfl, hb⟩)) w hw
theorem write_yes (cS cI kS kI lS lI : ByteArray) (h1 : Bd cS) (h2 : Bd cI) (h3 : Bd kS) (h4 : Bd kI) (h5 : Bd lS) (h6 : Bd lI) (hf : flowsB cS cI lS lI = true) (hg : flowsB lS lI kS kI = true) (w : World) :
    Calls Tryz.prog 27 #[.agg #[.string cS, .string cI, .string kS, .string kI], .agg #[.string lS, .string lI]] w fun e w' => e = .returned (.int .i64 0) ∧ Below w.heap.size w w' := by
  have a := fun w => flows_any cS cI lS lI h1 h2 h5 h6 w
  have b := fun w => flows_any lS lI kS kI h5 h6 h3 h4 w
  rw [hf] at a
  rw [hg] at b
  exact write_gen cS cI kS kI lS lI true true a b w
theorem ex_f1 : flowsB ⟨#[]⟩ ⟨#[]⟩ ⟨#[1]⟩ ⟨#[]⟩ = true := by decide +kernel
theorem ex_f2 : flowsB ⟨#[1]⟩ ⟨#[]⟩ ⟨#[1]⟩ ⟨#[]⟩ = true := by decide +kernel
theorem ex_f3 : flowsB ⟨#[1]⟩ ⟨#[]⟩ ⟨#[]⟩ ⟨#[]⟩ = false := by decide +kernel
theorem ex_f4 : flowsB ⟨#[]⟩ ⟨#[]⟩ ⟨#[]⟩ ⟨#[]⟩ = true := by decide +kernel
theorem ex_n1 : NB ⟨#[1]⟩ = ⟨#[1]⟩ := by decide +kernel
theorem ex_n0 : NB ⟨#[]⟩ = ⟨#[]⟩ := by decide +kernel
theorem ex_c0 : childS [48] 0 = some [48, 46, 48] := by decide +kernel
theorem ex_c1 : childS [48] 1 = some [48, 46, 49] := by decide +kernel
theorem ex_norm (w : World) : Calls Tryz.prog 14 #[.agg #[.string ⟨#[1]⟩, .string ⟨#[]⟩]] w fun e w' => e = .returned (.agg #[.string ⟨#[1]⟩, .string ⟨#[]⟩]) ∧ Below w.heap.size w w' := by
  have := lnorm_any ⟨#[1]⟩ ⟨#[]⟩ (by decide) (by decide) w
  rw [ex_n1, ex_n0] at this
  exact this
theorem hid_scat {w w' : World} {v : Sl} {l : List Sc} (h : Hid (ScAt w v l)) (hb : Below w.heap.size w w') : Hid (ScAt w' v l) := Lib.hid (h.out.below hb)
theorem hid_rows {w w' : World} {v : Option Addr} {l : List Value} (h : Hid (RowsIn w v l)) (hb : Below w.heap.size w w') : Hid (RowsIn w' v l) := Lib.hid (h.out.below hb)
end Go.Proofs.YtnmepcogijgbjaaGreatDoor
