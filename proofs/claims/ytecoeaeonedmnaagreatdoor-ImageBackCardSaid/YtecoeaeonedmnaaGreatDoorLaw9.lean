/- The chapter's programs by bytes: what they are put as, how many bytes these are; no program may differ from itself. -/
import Derived.Test.YtecoeaeonedmnaaGreatDoorZ5
import Derived.Test.YtecoeaeonedmnaaGreatDoorExI
import Derived.Test.YtecoeaeonedmnaaGreatDoorCut
namespace Go.Proofs.YtecoeaeonedmnaaGreatDoor
open Go.RowKit
theorem LsAt.slice {w : World} {v : Value} {ll : List (List UInt8)} (h : LsAt w v ll) : ∃ ao cap, v = .slice ao ll.length cap := by
  obtain ⟨rows, h1, h2, _⟩ := h
  obtain ⟨ao, cap, e⟩ := SlotsAt.slice h2
  exact ⟨ao, cap, by rw [e, h1]⟩
theorem BsAt.below {w w' : World} {v : Value} {l : List UInt8} (h : BsAt w v l) (hb : Below w.heap.size w w') : BsAt w' v l := ⟨SlotsAt.below h.1 hb, h.2⟩
theorem LsAt.below {w w' : World} {v : Value} {ll : List (List UInt8)} (h : LsAt w v ll) (hb : Below w.heap.size w w') : LsAt w' v ll := by
  obtain ⟨rows, h1, h2, h3⟩ := h
  refine ⟨rows, h1, h2.below hb, fun i l hi => ?_⟩
  obtain ⟨ao, cap, e, ho⟩ := h3 i l hi
  exact ⟨ao, cap, e, ho.below hb⟩
/-- what made hands back: a program of three functions, all in memory of its own -/
structure MadeV (B : Nat) (fs : List Fn) (co : Option Addr) (cc : Nat) (fo : Option Addr) (fc : Nat) (w : World) : Prop where
  cs : w.ownsRow B 50 5 (.slice co 16 cc) 16 (madeCs.map vrow).flatten
  fn : FnOwn w B (.slice fo 3 fc) fs
  len : fs.length = 3
  good : ∀ f ∈ fs, fnGood f
theorem MadeV.below {B : Nat} {fs : List Fn} {co : Option Addr} {cc : Nat} {fo : Option Addr} {fc : Nat} {w w' : World} (h : MadeV B fs co cc fo fc w) (hb : Below w.heap.size w w') : MadeV B fs co cc fo fc w' := ⟨ownsRow_keep h.cs hb, h.fn.keep hb, h.len, h.good⟩
theorem MadeV.vs {B : Nat} {fs : List Fn} {co : Option Addr} {cc : Nat} {fo : Option Addr} {fc : Nat} {w : World} (h : MadeV B fs co cc fo fc w) : VsAt w (.slice co 16 cc) madeCs := VsAt.of_owns h.cs
theorem MadeV.fns {B : Nat} {fs : List Fn} {co : Option Addr} {cc : Nat} {fo : Option Addr} {fc : Nat} {w : World} (h : MadeV B fs co cc fo fc w) : FsAt w (.slice fo 3 fc) fs := h.fn.at
theorem made_c (v : Value) (ll : List (List UInt8)) (w : World) (h : LsAt w v ll) :
    Calls Tryz.prog 8 #[v] w fun e w' => ∃ fs co cc fo fc, e = .returned (.agg #[.slice co 16 cc, .slice fo 3 fc]) ∧ MadeV w.heap.size fs co cc fo fc w' ∧ Below w.heap.size w w' := by
  obtain ⟨ao, cap, rfl⟩ := h.slice
  refine (made_any ao ll.length cap ll w h rfl).mono ?_
  rintro e w' ⟨fs, co, cc, fo, fc, he, h1, h2, h3, h4, hb⟩
  exact ⟨fs, co, cc, fo, fc, he, ⟨h1, h2, h3, h4⟩, hb⟩
theorem madeCs_right : ∀ v ∈ madeCs, v.right = true := List.all_eq_true.1 (by decide +kernel)
theorem madeCs_const : madeCs.all Vl.const = true := by decide +kernel
theorem madeCs_n : ∀ v ∈ madeCs, v.n < 77 ∧ 0 ≤ v.n := by
  have h : madeCs.all (fun v => decide (v.n < 77 ∧ 0 ≤ v.n)) = true := by decide +kernel
  exact fun v hv => of_decide_eq_true (List.all_eq_true.1 h v hv)
theorem madeCs_ok : ∀ v ∈ madeCs, v.small ∧ InI64 v.n := fun v hv => ⟨small_right (madeCs_right v hv), by
  have := madeCs_n v hv
  unfold InI64
  omega⟩
theorem madeCs_put : ∀ v ∈ madeCs, v.put.length ≤ 64 := by
  have h : madeCs.all (fun v => decide (v.put.length ≤ 64)) = true := by decide +kernel
  exact fun v hv => of_decide_eq_true (List.all_eq_true.1 h v hv)
theorem fn_check {f : Fn} (h : fnGood f) : f.check = 0 := by
  obtain ⟨h1, h2, h3, h4, h5⟩ := h
  unfold Fn.check
  rw [if_neg (by omega), if_neg (by omega), if_neg (by omega), if_pos (List.all_eq_true.2 fun o ho => (h3 o ho).1)]
theorem firstE_none : ∀ {l : List Fn}, (∀ f ∈ l, f.check = 0) → firstE l = 0
  | [], _ => rfl
  | f :: l, h => by
    rw [firstE, if_pos (h f (by simp))]
    exact firstE_none fun g hg => h g (by simp [hg])
theorem made_check {fs : List Fn} (hl : fs.length = 3) (hg : ∀ f ∈ fs, fnGood f) : Im.check ⟨madeCs, fs⟩ = 0 := by
  unfold Im.check
  rw [if_neg (by rw [show madeCs.length = 16 from rfl, hl]; omega), if_pos madeCs_const, if_neg (by rw [hl]; omega)]
  exact firstE_none fun f hf => fn_check (hg f hf)
theorem made_put0 {fs : List Fn} (hl : fs.length = 3) (hg : ∀ f ∈ fs, fnGood f) : Im.put0 ⟨madeCs, fs⟩ = Im.put ⟨madeCs, fs⟩ := by
  unfold Im.put0
  rw [if_pos (made_check hl hg)]
theorem put_len (cs : List Vl) (fs : List Fn) : (Im.put ⟨cs, fs⟩).length = 2 + (cs.flatMap Vl.put).length + (fs.flatMap Fn.put).length := by
  unfold Im.put
  simp only [List.length_cons, List.length_append]
  omega
theorem fput_len (f : Fn) : f.put.length = 4 + (f.c.flatMap putO).length := by
  unfold Fn.put putCode bytes2
  simp only [List.length_cons, List.length_append, List.length_nil]
  omega
theorem made_put_c (fs : List Fn) (B : Nat) (co fo : Option Addr) (cc fc : Nat) (w : World) (hw : LaidI w) (h : MadeV B fs co cc fo fc w) :
    Calls Tryz.prog 10 #[.agg #[.slice co 16 cc, .slice fo 3 fc]] w fun e w' => e = .returned (.string ⟨(Im.put ⟨madeCs, fs⟩).toArray⟩) ∧ Below w.heap.size w w' := by
  have := iput_any ⟨madeCs, fs⟩ (.slice co 16 cc) (.slice fo 3 fc) madeCs_ok w hw h.vs h.fns
  rwa [made_put0 h.len h.good] at this
theorem good_codes {fs : List Fn} (hg : ∀ f ∈ fs, fnGood f) : fnCodes fs := fun f hf => by
  have := (hg f hf).2.2.2.2
  omega
end Go.Proofs.YtecoeaeonedmnaaGreatDoor
