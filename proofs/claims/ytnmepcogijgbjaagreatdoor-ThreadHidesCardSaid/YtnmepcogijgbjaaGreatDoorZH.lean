/- ExL, ExC: joined into one text; each part says below what it holds. -/
import Derived.Test.YtnmepcogijgbjaaGreatDoorBeg
import Derived.Test.YtnmepcogijgbjaaGreatDoorHide
/- What the chapter's examples want: names, labels, told. -/
namespace Go.Proofs.YtnmepcogijgbjaaGreatDoor
open Go.RowKit
theorem tname_ok (t : Th) (h1 : 1 ≤ t.rm) (h2 : t.rm ≤ 1000) (h3 : 0 ≤ t.md) (h4 : t.md ≤ 1000) (nw : ByteArray) (hp : t.pa.size ≤ 1000) (hc : childS t.pa.data.toList t.md = some nw.data.toList) (w : World) (hw : Laid w) :
    Calls Tryz.prog 19 #[.agg (th t)] w fun e w' => e = .returned (.tuple #[.agg (th { t with md := t.md + 1, rm := t.rm - 1 }), .string nw, .bool true]) ∧ Below w.heap.size w w' :=
  name_gen_ok t h1 h2 h3 h4 nw Laid (fun _ _ h hb => h.below hb) (fun w hw => (child_any t.pa t.md w (by omega) hw).mono (by
    unfold ChildEnds
    rw [hc]
    rintro e w' ⟨rfl, hb⟩
    exact ⟨rfl, hb⟩)) w hw
theorem write_yes (cS cI kS kI lS lI : ByteArray) (h1 : Bd cS) (h2 : Bd cI) (h3 : Bd kS) (h4 : Bd kI) (h5 : Bd lS) (h6 : Bd lI) (hf : flowsB cS cI lS lI = true) (hg : flowsB lS lI kS kI = true) (w : World) :
    Calls Tryz.prog 27 #[.agg #[.string cS, .string cI, .string kS, .string kI], .agg #[.string lS, .string lI]] w fun e w' => e = .returned (.int .i64 0) ∧ Below w.heap.size w w' := by
  have a := fun w => flows_any cS cI lS lI h1 h2 h5 h6 w
  have b := fun w => flows_any lS lI kS kI h5 h6 h3 h4 w
  rw [hf] at a
  rw [hg] at b
  exact write_gen cS cI kS kI lS lI true true a b w
theorem ex_f1 : flowsB ⟨#[]⟩ ⟨#[]⟩ ⟨#[1]⟩ ⟨#[]⟩ = true := by decide +kernel
theorem ex_f2 : flowsB ⟨#[1]⟩ ⟨#[]⟩ ⟨#[1]⟩ ⟨#[]⟩ = true := by decide +kernel
theorem ex_f3 : flowsB ⟨#[1]⟩ ⟨#[]⟩ ⟨#[]⟩ ⟨#[]⟩ = false := by decide +kernel
theorem ex_f4 : flowsB ⟨#[]⟩ ⟨#[]⟩ ⟨#[]⟩ ⟨#[]⟩ = true := by decide +kernel
theorem ex_n1 : NB ⟨#[1]⟩ = ⟨#[1]⟩ := by decide +kernel
theorem ex_n0 : NB ⟨#[]⟩ = ⟨#[]⟩ := by decide +kernel
theorem ex_c0 : childS [48] 0 = some [48, 46, 48] := by decide +kernel
theorem ex_c1 : childS [48] 1 = some [48, 46, 49] := by decide +kernel
theorem ex_norm (w : World) : Calls Tryz.prog 14 #[.agg #[.string ⟨#[1]⟩, .string ⟨#[]⟩]] w fun e w' => e = .returned (.agg #[.string ⟨#[1]⟩, .string ⟨#[]⟩]) ∧ Below w.heap.size w w' := by
  have := lnorm_any ⟨#[1]⟩ ⟨#[]⟩ (by decide) (by decide) w
  rw [ex_n1, ex_n0] at this
  exact this
theorem hid_scat {w w' : World} {v : Sl} {l : List Sc} (h : Hid (ScAt w v l)) (hb : Below w.heap.size w w') : Hid (ScAt w' v l) := Lib.hid (h.out.below hb)
theorem hid_rows {w w' : World} {v : Option Addr} {l : List Value} (h : Hid (RowsIn w v l)) (hb : Below w.heap.size w w') : Hid (RowsIn w' v l) := Lib.hid (h.out.below hb)
end Go.Proofs.YtnmepcogijgbjaaGreatDoor
/- The chapter's examples: what each call answers there. -/
namespace Go.Proofs.YtnmepcogijgbjaaGreatDoor
open Go.RowKit
abbrev ptA (g : Nat) : Option Addr := some ⟨g, 0, none⟩
def exT (gf fc : Nat) : Th := ⟨⟨#[48]⟩, ⟨#[48]⟩, ⟨#[]⟩, ⟨#[]⟩, ⟨#[1]⟩, ⟨#[]⟩, ⟨ptA gf, 1, fc⟩, ⟨none, 0, 0⟩, ⟨none, 0, 0⟩, ⟨none, 0, 0⟩, 0, 5, 0, ⟨#[]⟩, 0, 0, ⟨#[]⟩, ⟨#[]⟩, ⟨#[]⟩, false⟩
def exU (gf fc : Nat) : Th := ⟨⟨#[48]⟩, ⟨#[48]⟩, ⟨#[]⟩, ⟨#[]⟩, ⟨#[1]⟩, ⟨#[]⟩, ⟨ptA gf, 1, fc⟩, ⟨none, 0, 0⟩, ⟨none, 0, 0⟩, ⟨none, 0, 0⟩, 1, 4, 0, ⟨#[]⟩, 0, 0, ⟨#[]⟩, ⟨#[]⟩, ⟨#[]⟩, false⟩
def exO (gf fc : Nat) : Th := ⟨⟨#[48]⟩, ⟨#[48]⟩, ⟨#[1]⟩, ⟨#[]⟩, ⟨#[1]⟩, ⟨#[]⟩, ⟨ptA gf, 1, fc⟩, ⟨none, 0, 0⟩, ⟨none, 0, 0⟩, ⟨none, 0, 0⟩, 0, 1, 0, ⟨#[]⟩, 0, 0, ⟨#[]⟩, ⟨#[]⟩, ⟨#[]⟩, false⟩
def exS : Sc := ⟨⟨#[48, 46, 49]⟩, ⟨#[1]⟩, ⟨#[]⟩, 19, 1, 0, 0, ⟨#[]⟩, ⟨#[]⟩, ⟨#[1]⟩, ⟨#[]⟩, ⟨#[48]⟩, 2, 1⟩
def exV (g : Option Addr) (fc gs sc : Nat) : Th := ⟨⟨#[48]⟩, ⟨#[48, 46, 49]⟩, ⟨#[]⟩, ⟨#[]⟩, ⟨#[1]⟩, ⟨#[]⟩, ⟨g, 2, fc⟩, ⟨none, 0, 0⟩, ⟨none, 0, 0⟩, ⟨ptA gs, 1, sc⟩, 0, 2, 0, ⟨#[]⟩, 0, 0, ⟨#[]⟩, ⟨#[]⟩, ⟨#[]⟩, false⟩
def exV2 (g : Option Addr) (fc gs sc : Nat) : Th := ⟨⟨#[48]⟩, ⟨#[48, 46, 49]⟩, ⟨#[1]⟩, ⟨#[]⟩, ⟨#[1]⟩, ⟨#[]⟩, ⟨g, 2, fc⟩, ⟨none, 0, 0⟩, ⟨none, 0, 0⟩, ⟨ptA gs, 1, sc⟩, 0, 2, 0, ⟨#[]⟩, 0, 0, ⟨#[]⟩, ⟨#[]⟩, ⟨#[]⟩, false⟩
def exW (g : Option Addr) (fc gs sc : Nat) : Th := ⟨⟨#[48]⟩, ⟨#[48, 46, 49]⟩, ⟨#[]⟩, ⟨#[]⟩, ⟨#[1]⟩, ⟨#[]⟩, ⟨g, 2, fc⟩, ⟨none, 0, 0⟩, ⟨none, 0, 0⟩, ⟨ptA gs, 1, sc⟩, 0, 2, 2, ⟨#[]⟩, 1, 3, ⟨#[]⟩, ⟨#[]⟩, ⟨#[]⟩, false⟩
def exX (g : Option Addr) (gs : Nat) (ao : Option Addr) (cap : Nat) : Th := ⟨⟨#[48]⟩, ⟨#[48]⟩, ⟨#[]⟩, ⟨#[]⟩, ⟨#[1]⟩, ⟨#[]⟩, ⟨g, 1, 1⟩, ⟨ao, 1, cap⟩, ⟨none, 0, 0⟩, ⟨ptA gs, 0, 0⟩, 2, 1, 0, ⟨#[]⟩, 0, 0, ⟨#[]⟩, ⟨#[]⟩, ⟨#[]⟩, false⟩
def exH (g : Option Addr) (gs : Nat) : Th := ⟨⟨#[48]⟩, ⟨#[48, 46, 49]⟩, ⟨#[1]⟩, ⟨#[]⟩, ⟨#[1]⟩, ⟨#[]⟩, ⟨g, 1, 1⟩, ⟨none, 0, 0⟩, ⟨none, 0, 0⟩, ⟨ptA gs, 1, 1⟩, 0, 0, 2, ⟨#[]⟩, 1, 0, ⟨#[]⟩, ⟨#[]⟩, ⟨#[]⟩, false⟩
def exB : Ob := ⟨3, ⟨#[1]⟩, ⟨#[]⟩, 1, 3, ⟨#[]⟩, ⟨#[]⟩, ⟨#[]⟩, false⟩
def exP : Ob := ⟨3, ⟨#[1]⟩, ⟨#[]⟩, 1, -7, ⟨#[]⟩, ⟨#[]⟩, ⟨#[]⟩, true⟩
abbrev aL : Value := .agg #[.string ⟨#[1]⟩, .string ⟨#[]⟩]
abbrev numV (n : Int) : Value := .agg #[.int .i64 1, .int .i64 n, .string ⟨#[]⟩, .string ⟨#[]⟩, .string ⟨#[]⟩]
set_option maxRecDepth 100000 in
theorem ex_name (gf fc : Nat) (w : World) (hw : Laid w) :
    Calls Tryz.prog 19 #[.agg (th (exT gf fc))] w fun e w' => e = .returned (.tuple #[.agg (th (exU gf fc)), .string ⟨#[48, 46, 48]⟩, .bool true]) ∧ Below w.heap.size w w' :=
  tname_ok (exT gf fc) (of_decide_eq_true rfl) (of_decide_eq_true rfl) (of_decide_eq_true rfl) (of_decide_eq_true rfl) ⟨#[48, 46, 48]⟩ (of_decide_eq_true rfl) ex_c0 w hw
set_option maxRecDepth 100000 in
theorem ex_name1 (gf fc : Nat) (w : World) (hw : Laid w) :
    Calls Tryz.prog 19 #[.agg (th (exU gf fc))] w fun e w' => e = .returned (.tuple #[.agg (th { exU gf fc with md := (exU gf fc).md + 1, rm := (exU gf fc).rm - 1 }), .string ⟨#[48, 46, 49]⟩, .bool true]) ∧ Below w.heap.size w w' :=
  tname_ok (exU gf fc) (of_decide_eq_true rfl) (of_decide_eq_true rfl) (of_decide_eq_true rfl) (of_decide_eq_true rfl) ⟨#[48, 46, 49]⟩ (of_decide_eq_true rfl) ex_c1 w hw
set_option maxRecDepth 100000 in
theorem ex_write (gf fc : Nat) (w : World) : Calls Tryz.prog 27 #[.agg #[.string (exU gf fc).cS, .string (exU gf fc).cI, .string (exU gf fc).kS, .string (exU gf fc).kI], .agg #[.string ⟨#[1]⟩, .string ⟨#[]⟩]] w fun e w' => e = .returned (.int .i64 0) ∧ Below w.heap.size w w' :=
  write_yes ⟨#[]⟩ ⟨#[]⟩ ⟨#[1]⟩ ⟨#[]⟩ ⟨#[1]⟩ ⟨#[]⟩ (by decide) (by decide) (by decide) (by decide) (by decide) (by decide) ex_f1 ex_f2 w
set_option maxRecDepth 100000 in
theorem ex_enter (gf fc : Nat) (xf : List Value) (hx : xf.length = 5) (hfc : 1 ≤ fc) (hfc2 : fc ≤ maxLen) (w : World) (hw : Laid w) (hR : RowsIn w (ptA gf) xf) :
    Calls Tryz.prog 9 #[.agg (th (exU gf fc)), .int .i64 1, .int .i64 2, numV 7, .int .u8 1, aL, .int .i64 9, .int .i64 2, .int .i64 10] w fun e w' => ∃ g fc2 gs sc cur, e = .returned (.tuple #[.agg (th (exV g fc2 gs sc)), .int .i64 0]) ∧ w.heap.size ≤ gs ∧ w'.heap[gs]? = some (.cells cur 56) ∧ cur.toList.take 14 = scL exS ∧ 2 ≤ fc2 ∧ fc2 ≤ maxLen ∧ 1 ≤ sc ∧ sc ≤ maxLen ∧ Below w.heap.size w w' := by
  refine (enter_good (exU gf fc) [] (of_decide_eq_true rfl) (Nat.le_refl 0) (Nat.zero_le _) (fun _ => ⟨rfl, rfl⟩) xf hx hfc hfc2 (of_decide_eq_true rfl) (fun h => by cases h) (Nat.zero_le _) 1 2 (of_decide_eq_true rfl) 1 7 1 9 2 10 ⟨#[]⟩ ⟨#[]⟩ ⟨#[]⟩ ⟨#[1]⟩ ⟨#[]⟩ ⟨#[1]⟩ ⟨#[]⟩ (of_decide_eq_true rfl) (of_decide_eq_true rfl) (of_decide_eq_true rfl) (of_decide_eq_true rfl) (of_decide_eq_true rfl) (of_decide_eq_true rfl) ⟨#[48, 46, 49]⟩ 19 (of_decide_eq_true rfl) w (scat_nil _ _ _) hR (fun W _ => ex_write gf fc W) (fun W hb => ex_name1 gf fc W (hw.below hb)) (fun W _ => ex_norm W)).mono ?_
  rintro e w' ⟨fo, fc2, va, vc, so, soc, rfl, hF, hS, hB⟩
  obtain ⟨ao, cap, he, h1, h2, _⟩ := rows_owned hF
  obtain ⟨-, -, rfl⟩ := Value.slice.inj he
  obtain ⟨gs, cur, rfl, hg, hgc, k1, k2, ht⟩ := own_box hS
  exact ⟨fo, fc2, gs, soc, cur, rfl, hg, hgc, ht, h1, h2, k1, k2, hB⟩
set_option maxRecDepth 100000 in
theorem ex_late (gf fc : Nat) (w : World) :
    Calls Tryz.prog 9 #[.agg (th (exU gf fc)), .int .i64 1, .int .i64 2, numV 7, .int .u8 1, aL, .int .i64 0, .int .i64 2, .int .i64 10] w fun e w' => e = .returned (.tuple #[.agg (th (exU gf fc)), .int .i64 (-7)]) ∧ Below w.heap.size w w' :=
  enter_time (exU gf fc) 1 2 1 7 1 0 2 10 _ _ _ _ _ (by decide) w
set_option maxRecDepth 100000 in
theorem ex_room (gf fc : Nat) (w : World) (hw : Laid w) :
    Calls Tryz.prog 9 #[.agg (th (exU gf fc)), .int .i64 1, .int .i64 2, numV 7, .int .u8 1, aL, .int .i64 9, .int .i64 4, .int .i64 10] w fun e w' => e = .returned (.tuple #[.agg (th (exU gf fc)), .int .i64 (-5)]) ∧ Below w.heap.size w w' :=
  enter_noroom (exU gf fc) 1 2 1 7 1 9 4 10 _ _ _ _ _ (of_decide_eq_true rfl) (of_decide_eq_true rfl) (of_decide_eq_true rfl) (of_decide_eq_true rfl) (of_decide_eq_true rfl) ⟨#[48, 46, 49]⟩ w (fun W _ => ex_write gf fc W) (fun W hb => ex_name1 gf fc W (hw.below hb))
set_option maxRecDepth 100000 in
theorem ex_fin (g : Option Addr) (fc gs sc : Nat) (w : World) :
    Calls Tryz.prog 24 #[.agg (th (exV g fc gs sc)), numV 3, .bool false] w fun e w' => e = .returned (.agg (th (exW g fc gs sc))) ∧ Below w.heap.size w w' :=
  finish_some (exV g fc gs sc) (of_decide_eq_true rfl) 1 3 _ _ _ false w
set_option maxRecDepth 100000 in
theorem ex_leave (g : Option Addr) (fc gs sc : Nat) (h1 : 2 ≤ fc) (h2 : fc ≤ maxLen) (h3 : 1 ≤ sc) (h4 : sc ≤ maxLen) (cur : Array Value) (w : World) (hc : w.heap[gs]? = some (.cells cur 56)) (ht : cur.toList.take 14 = scL exS) :
    Calls Tryz.prog 12 #[.agg (th (exW g fc gs sc)), .int .i64 0] w fun e w' => ∃ gk kc cap, e = .returned (.tuple #[.agg (th (exX g gs (ptA gk) cap)), .string ⟨#[48, 46, 49]⟩, .agg (ob exB)]) ∧ w.heap.size ≤ gk ∧ w'.heap[gk]? = some (.cells kc 28) ∧ kc.toList.take 5 = [.int .i64 3, .int .i64 0, .string ⟨#[48, 46, 49]⟩, .string ⟨#[1]⟩, .string ⟨#[]⟩] ∧ Below w.heap.size w w' := by
  have hS : ScAt w (exW g fc gs sc).sc [exS] := scat_box hc rfl h3 ht
  refine (leave_gen (exW g fc gs sc) 0 [exS] (of_decide_eq_true rfl) (of_decide_eq_true rfl) [] rfl (fun _ => rfl) (Nat.zero_le _) (Nat.le_refl 0) (Nat.zero_le _) h1 h2 (Nat.le_refl 0) (Nat.zero_le _) 1 3 _ _ _ false w hS h4 (rows_nil _ _) (fun W hb => brought_ok (exW g fc gs sc) 0 rfl (of_decide_eq_true rfl) rfl [exS] (of_decide_eq_true rfl) W (hS.below hb) (of_decide_eq_true rfl) (of_decide_eq_true rfl) (of_decide_eq_true rfl) (of_decide_eq_true rfl) ex_f1)).mono ?_
  rintro e w' ⟨ao, cap, rfl, hO, hB⟩
  obtain ⟨gk, kc, rfl, hg, hgc, -, -, hk⟩ := own_box (n := 0) hO
  exact ⟨gk, kc, cap, rfl, hg, hgc, hk, hB⟩
set_option maxRecDepth 100000 in
theorem ex_leave2 (g : Option Addr) (fc gs sc : Nat) (h1 : 2 ≤ fc) (h2 : fc ≤ maxLen) (h3 : 1 ≤ sc) (h4 : sc ≤ maxLen) (cur : Array Value) (w : World) (hc : w.heap[gs]? = some (.cells cur 56)) (ht : cur.toList.take 14 = scL exS) :
    Calls Tryz.prog 12 #[.agg (th (exV g fc gs sc)), .int .i64 0] w fun e w' => ∃ X, e = .returned (.tuple #[.agg (th X), .string ⟨#[48, 46, 49]⟩, .agg (ob exP)]) ∧ Below w.heap.size w w' := by
  have hS : ScAt w (exV g fc gs sc).sc [exS] := scat_box hc rfl h3 ht
  refine (leave_gen (exV g fc gs sc) 0 [exS] (of_decide_eq_true rfl) (of_decide_eq_true rfl) [] rfl (fun _ => rfl) (Nat.zero_le _) (Nat.le_refl 0) (Nat.zero_le _) h1 h2 (Nat.le_refl 0) (Nat.zero_le _) 1 (-7) _ _ _ true w hS h4 (rows_nil _ _) (fun W hb => brought_st (exV g fc gs sc) (of_decide_eq_true rfl) 0 W)).mono ?_
  rintro e w' ⟨ao, cap, rfl, hO, hB⟩
  exact ⟨_, rfl, hB⟩
set_option maxRecDepth 100000 in
theorem bd_lv {l : List Sc} {c : ByteArray} (h1 : Bd c) (h2 : ∀ s ∈ l, Bd s.cS) (i : Nat) : Bd (lvS l c i) := by
  unfold lvS
  split
  · next s h => exact h2 s (List.mem_of_getElem? h)
  · exact h1
set_option maxRecDepth 100000 in
theorem bd_lvI {l : List Sc} {c : ByteArray} (h1 : Bd c) (h2 : ∀ s ∈ l, Bd s.cI) (i : Nat) : Bd (lvI l c i) := by
  unfold lvI
  split
  · next s h => exact h2 s (List.mem_of_getElem? h)
  · exact h1
set_option maxRecDepth 100000 in
theorem ex_hide (g : Option Addr) (fc gs sc : Nat) (h1 : 2 ≤ fc) (h2 : fc ≤ maxLen) (h3 : 1 ≤ sc) (h4 : sc ≤ maxLen) (cur : Array Value) (w : World) (hc : w.heap[gs]? = some (.cells cur 56)) (ht : cur.toList.take 14 = scL exS) :
    Calls Tryz.prog 17 #[.agg (th (exV2 g fc gs sc)), .agg #[.string ⟨#[]⟩, .string ⟨#[]⟩]] w fun e w' => e = .returned (.tuple #[.agg (th (exH g gs)), .bool true]) ∧ Below w.heap.size w w' := by
  have hS : ScAt w (exV2 g fc gs sc).sc [exS] := scat_box hc rfl h3 ht
  have hk : 1 = knownV [exS] (exV2 g fc gs sc).cS (exV2 g fc gs sc).cI ⟨#[]⟩ ⟨#[]⟩ := by
    refine (known_hit (by decide) (fun j hj => ?_) ?_).symm
    · obtain rfl : j = 0 := by omega
      exact ex_f4
    · exact ex_f3
  exact hide_some (exV2 g fc gs sc) ⟨#[]⟩ ⟨#[]⟩ (show 1 ≤ 1000000 by decide) [exS] 0 (of_decide_eq_true rfl) 1 rfl h4 (Nat.le_refl 0) (Nat.zero_le _) h1 h2 (Nat.le_refl 0) (Nat.zero_le _) w hS (fun W hb => known_any (exV2 g fc gs sc).sc [exS] (of_decide_eq_true rfl) _ _ _ _ (bd_lv (of_decide_eq_true rfl) (fun s hs => by have := List.mem_singleton.1 hs; subst this; decide)) (bd_lvI (of_decide_eq_true rfl) (fun s hs => by have := List.mem_singleton.1 hs; subst this; decide)) (of_decide_eq_true rfl) (of_decide_eq_true rfl) 1 hk W (hS.below hb))
set_option maxRecDepth 100000 in
theorem ex_hideno (gf fc : Nat) (w : World) :
    Calls Tryz.prog 17 #[.agg (th (exO gf fc)), .agg #[.string ⟨#[]⟩, .string ⟨#[]⟩]] w fun e w' => e = .returned (.tuple #[.agg (th th0), .bool false]) ∧ Below w.heap.size w w' := by
  have hS : ScAt w (exO gf fc).sc [] := scat_nil _ _ _
  have hk : 0 = knownV [] (exO gf fc).cS (exO gf fc).cI ⟨#[]⟩ ⟨#[]⟩ := (known_hit (l := []) (cS := ⟨#[1]⟩) (cI := ⟨#[]⟩) (mS := ⟨#[]⟩) (mI := ⟨#[]⟩) (k := 0) (by decide) (fun j hj => by omega) ex_f3).symm
  exact hide_none (exO gf fc) ⟨#[]⟩ ⟨#[]⟩ (show 0 ≤ 1000000 by decide) 0 rfl w (fun W hb => known_any (exO gf fc).sc [] (by decide) _ _ _ _ (bd_lv (of_decide_eq_true rfl) (fun s hs => by cases hs)) (bd_lvI (of_decide_eq_true rfl) (fun s hs => by cases hs)) (by decide) (by decide) 0 hk W (hS.below hb))
set_option maxRecDepth 100000 in
theorem ex_due1 (g : Option Addr) (fc gs sc : Nat) (h3 : 1 ≤ sc) (cur : Array Value) (w : World) (hc : w.heap[gs]? = some (.cells cur 56)) (ht : cur.toList.take 14 = scL exS) :
    Calls Tryz.prog 11 #[.agg (th (exW g fc gs sc)), .int .i64 18] w fun e w' => e = .returned (.int .i64 (-1)) ∧ Below w.heap.size w w' := by
  have hS : ScAt w (exW g fc gs sc).sc [exS] := scat_box hc rfl h3 ht
  have := due_any (exW g fc gs sc) [exS] (by decide) 18 w hS
  rw [show dueV 18 [exS] = -1 by decide +kernel] at this
  exact this
set_option maxRecDepth 100000 in
theorem ex_due2 (g : Option Addr) (fc gs sc : Nat) (h3 : 1 ≤ sc) (cur : Array Value) (w : World) (hc : w.heap[gs]? = some (.cells cur 56)) (ht : cur.toList.take 14 = scL exS) :
    Calls Tryz.prog 11 #[.agg (th (exW g fc gs sc)), .int .i64 19] w fun e w' => e = .returned (.int .i64 0) ∧ Below w.heap.size w w' := by
  have hS : ScAt w (exW g fc gs sc).sc [exS] := scat_box hc rfl h3 ht
  have := due_any (exW g fc gs sc) [exS] (by decide) 19 w hS
  rw [show dueV 19 [exS] = 0 by decide +kernel] at this
  exact this
end Go.Proofs.YtnmepcogijgbjaaGreatDoor
