/- The chapter's programs by bytes; the program's functions at programs as they lie in memory. -/
import Derived.Test.YtiggallcoocdaaaGreatDoorZ4
import Derived.Test.YtiggallcoocdaaaGreatDoorCutA
import Derived.Test.YtiggallcoocdaaaGreatDoorImSameA
import Derived.Test.YtiggallcoocdaaaGreatDoorAParse
import Derived.Test.YtiggallcoocdaaaGreatDoorAPrint
namespace Go.Proofs.YtiggallcoocdaaaGreatDoor
open Go.RowKit
theorem LsAt.slice {w : World} {v : Value} {ll : List (List UInt8)} (h : LsAt w v ll) : ∃ ao cap, v = .slice ao ll.length cap := by
  obtain ⟨rows, h1, h2, _⟩ := h
  obtain ⟨ao, cap, e⟩ := SlotsAt.slice h2
  exact ⟨ao, cap, by rw [e, h1]⟩
theorem BsAt.below {w w' : World} {v : Value} {l : List UInt8} (h : BsAt w v l) (hb : Below w.heap.size w w') : BsAt w' v l := ⟨SlotsAt.below h.1 hb, h.2⟩
theorem LsAt.below {w w' : World} {v : Value} {ll : List (List UInt8)} (h : LsAt w v ll) (hb : Below w.heap.size w w') : LsAt w' v ll := by
  obtain ⟨rows, h1, h2, h3⟩ := h
  refine ⟨rows, h1, h2.below hb, fun i l hi => ?_⟩
  obtain ⟨ao, cap, e, ho⟩ := h3 i l hi
  exact ⟨ao, cap, e, ho.below hb⟩
/-- what made hands back: a program of three functions, all in memory of its own -/
structure MadeV (B : Nat) (fs : List Fn) (co : Option Addr) (cc : Nat) (fo : Option Addr) (fc : Nat) (w : World) : Prop where
  cs : w.ownsRow B 50 5 (.slice co 16 cc) 16 (madeCs.map vrow).flatten
  fn : FnOwn w B (.slice fo 3 fc) fs
  len : fs.length = 3
  good : ∀ f ∈ fs, fnGood f
theorem MadeV.below {B : Nat} {fs : List Fn} {co : Option Addr} {cc : Nat} {fo : Option Addr} {fc : Nat} {w w' : World} (h : MadeV B fs co cc fo fc w) (hb : Below w.heap.size w w') : MadeV B fs co cc fo fc w' := ⟨ownsRow_keep h.cs hb, h.fn.keep hb, h.len, h.good⟩
theorem MadeV.vs {B : Nat} {fs : List Fn} {co : Option Addr} {cc : Nat} {fo : Option Addr} {fc : Nat} {w : World} (h : MadeV B fs co cc fo fc w) : VsAt w (.slice co 16 cc) madeCs := VsAt.of_owns h.cs
theorem MadeV.fns {B : Nat} {fs : List Fn} {co : Option Addr} {cc : Nat} {fo : Option Addr} {fc : Nat} {w : World} (h : MadeV B fs co cc fo fc w) : FsAt w (.slice fo 3 fc) fs := h.fn.at
theorem made_c (v : Value) (ll : List (List UInt8)) (w : World) (h : LsAt w v ll) :
    Calls Tryz.prog 11 #[v] w fun e w' => ∃ fs co cc fo fc, e = .returned (.agg #[.slice co 16 cc, .slice fo 3 fc]) ∧ MadeV w.heap.size fs co cc fo fc w' ∧ Below w.heap.size w w' := by
  obtain ⟨ao, cap, rfl⟩ := h.slice
  refine (made_any ao ll.length cap ll w h rfl).mono ?_
  rintro e w' ⟨fs, co, cc, fo, fc, he, h1, h2, h3, h4, hb⟩
  exact ⟨fs, co, cc, fo, fc, he, ⟨h1, h2, h3, h4⟩, hb⟩
theorem madeCs_right : ∀ v ∈ madeCs, v.right = true := List.all_eq_true.1 (by decide +kernel)
theorem madeCs_const : madeCs.all Vl.const = true := by decide +kernel
theorem madeCs_n : ∀ v ∈ madeCs, v.n < 77 ∧ 0 ≤ v.n := by
  have h : madeCs.all (fun v => decide (v.n < 77 ∧ 0 ≤ v.n)) = true := by decide +kernel
  exact fun v hv => of_decide_eq_true (List.all_eq_true.1 h v hv)
theorem madeCs_ok : ∀ v ∈ madeCs, v.small ∧ InI64 v.n := fun v hv => ⟨small_right (madeCs_right v hv), by
  have := madeCs_n v hv
  unfold InI64
  omega⟩
theorem fn_check {f : Fn} (h : fnGood f) : f.check = 0 := by
  obtain ⟨h1, h2, h3, h4, h5⟩ := h
  unfold Fn.check
  rw [if_neg (by omega), if_neg (by omega), if_neg (by omega), if_pos (List.all_eq_true.2 fun o ho => (h3 o ho).1)]
theorem firstE_none : ∀ {l : List Fn}, (∀ f ∈ l, f.check = 0) → firstE l = 0
  | [], _ => rfl
  | f :: l, h => by
    rw [firstE, if_pos (h f (by simp))]
    exact firstE_none fun g hg => h g (by simp [hg])
theorem made_check {fs : List Fn} (hl : fs.length = 3) (hg : ∀ f ∈ fs, fnGood f) : Im.check ⟨madeCs, fs⟩ = 0 := by
  unfold Im.check
  rw [if_neg (by rw [show madeCs.length = 16 from rfl, hl]; omega), if_pos madeCs_const, if_neg (by rw [hl]; omega)]
  exact firstE_none fun f hf => fn_check (hg f hf)
theorem good_codes {fs : List Fn} (hg : ∀ f ∈ fs, fnGood f) : fnCodes fs := fun f hf => by
  have := (hg f hf).2.2.2.2
  omega
structure ImAt (c d : Value) (im : Im) (w : World) : Prop where
  vs : VsAt w c im.cs
  fs : FsAt w d im.fs
theorem ImAt.below {c d : Value} {im : Im} {w w' : World} (h : ImAt c d im w) (hb : Below w.heap.size w w') : ImAt c d im w' := ⟨h.vs.below hb, h.fs.below hb⟩
def Im.fit (im : Im) : Prop := im.cs.length ≤ 1000000 ∧ im.fs.length ≤ 1000000 ∧ fnCodes im.fs
def Im.sized (im : Im) : Prop := ∀ v ∈ im.cs, v.small ∧ InI64 v.n
theorem check_fit {im : Im} (h : im.check = 0) : im.fit := by
  obtain ⟨h1, h2, _, _, h5⟩ := Im.check_zero h
  refine ⟨by omega, by omega, fun f hf => ?_⟩
  have := (Fn.check_zero (h5 f hf)).2.2.2.2.2.2.1
  omega
theorem check_im (im : Im) (c d : Value) (hz : im.sized) (w : World) (hw : LaidI w) (h : ImAt c d im w) (E : Int) (hE : im.check = E) :
    Calls Tryz.prog 15 #[.agg #[c, d]] w fun e w' => e = .returned (.int .i64 E) ∧ Below w.heap.size w w' := by
  subst hE
  exact check_any im c d (fun v hv => (hz v hv).1) w hw h.vs h.fs
theorem same_im (a b : Im) (c d c' d' : Value) (ha : a.fit) (hb : b.fit) (w : World) (h : ImAt c d a w) (g : ImAt c' d' b w) (B : Bool) (hB : decide (a = b) = B) :
    Calls Tryz.prog 14 #[.agg #[c, d], .agg #[c', d']] w fun e w' => e = .returned (.bool B) ∧ Below w.heap.size w w' := by
  subst hB
  exact isame_any a b c d c' d' w h.vs h.fs g.vs g.fs ha.1 ha.2.1 hb.1 hb.2.1 ha.2.2 hb.2.2
theorem MadeV.at {B : Nat} {fs : List Fn} {co fo : Option Addr} {cc fc : Nat} {w : World} (h : MadeV B fs co cc fo fc w) : ImAt (.slice co 16 cc) (.slice fo 3 fc) ⟨madeCs, fs⟩ w := ⟨h.vs, h.fns⟩
theorem cut_c (cs : List Vl) (n2 : Nat) (hn2 : (cutC cs).length = n2) (co fo : Option Addr) (n cp m cq : Nat) (hn : n = cs.length) (w : World) (hV : VsAt w (.slice co n cp) cs) :
    Calls Tryz.prog 13 #[.agg #[.slice co n cp, .slice fo m cq]] w fun e w' => ∃ ao cap, e = .returned (.agg #[.slice ao n2 cap, .slice fo m cq]) ∧ w'.ownsRow w.heap.size 50 5 (.slice ao n2 cap) (cutC cs).length ((cutC cs).map vrow).flatten ∧ Below w.heap.size w w' := by
  subst hn2
  exact chcut_any cs co fo n cp m cq hn w hV
theorem cut_sized {cs : List Vl} (h : ∀ v ∈ cs, smallV 140737488351232 v) (fs : List Fn) : Im.sized ⟨cutC cs, fs⟩ := by
  intro v hv
  obtain ⟨u, hu, rfl⟩ := List.mem_map.1 (show v ∈ (cs.take 70).map cutL from hv)
  obtain ⟨h1, h2, h3, h4⟩ := h u (List.mem_of_mem_take hu)
  refine ⟨⟨h2, ?_, ?_⟩, h1⟩
  · show (u.l.S.take 6).length ≤ _
    rw [List.length_take]
    omega
  · show (u.l.I.take 6).length ≤ _
    rw [List.length_take]
    omega
theorem print_im (im : Im) (c d : Value) (hz : im.sized) (w : World) (hw : LaidI w) (h : ImAt c d im w) (s : ByteArray) (hs : s = ⟨(printI im).toArray⟩) :
    Calls Tryz.prog 12 #[.agg #[c, d]] w fun e w' => e = .returned (.string s) ∧ Below w.heap.size w w' := by
  subst hs
  exact aprint_any im c d hz w hw h.vs h.fs
/-- a program in memory of the call's own -/
structure ImOwn (B : Nat) (c d : Value) (im : Im) (w : World) : Prop where
  cs : w.ownsRow B 50 5 c im.cs.length (im.cs.map vrow).flatten
  fn : FnOwn w B d im.fs
theorem ImOwn.below {B : Nat} {c d : Value} {im : Im} {w w' : World} (h : ImOwn B c d im w) (hb : Below w.heap.size w w') : ImOwn B c d im w' := ⟨ownsRow_keep h.cs hb, h.fn.keep hb⟩
theorem ImOwn.at {B : Nat} {c d : Value} {im : Im} {w : World} (h : ImOwn B c d im w) : ImAt c d im w := ⟨VsAt.of_owns h.cs, h.fn.at⟩
theorem parse_im (s : ByteArray) (w : World) (hs : s.size ≤ 500000000) (hw : LaidI w) (im : Im) (k : Nat) (E : Int) (hp : parseA s.data.toList = (im, k, E)) (n m : Nat) (hn : im.cs.length = n) (hm : im.fs.length = m) :
    Calls Tryz.prog 9 #[.string s] w fun e w' => ∃ co cc fo fc, e = .returned (.tuple #[.agg #[.slice co n cc, .slice fo m fc], .int .i64 (k : Nat), .int .i64 E]) ∧ ImOwn w.heap.size (.slice co n cc) (.slice fo m fc) im w' ∧ Below w.heap.size w w' := by
  refine (aparse_any s w hs hw).mono ?_
  rintro e w' ⟨hb, cv, fv, he, h1, h2⟩
  rw [hp] at he h1 h2
  simp only at he h1 h2
  obtain ⟨co, cc, rfl⟩ := owns_form h1
  obtain ⟨rows, r1, r2, r3⟩ := h2
  obtain ⟨fo, fc, rfl⟩ := owns_form r2
  subst hn
  subst hm
  exact ⟨co, cc, fo, fc, he, ⟨h1, rows, r1, r2, r3⟩, hb⟩
theorem print_small {im : Im} (h : ∀ v ∈ im.cs, InI64 v.n) : (printI im).length ≤ 200000 := by
  by_cases hc : im.check = 0
  · exact print_le hc h
  · unfold printI
    rw [if_neg hc]
    simp
theorem b_size (l : List UInt8) : (⟨l.toArray⟩ : ByteArray).size = l.length := List.size_toArray
end Go.Proofs.YtiggallcoocdaaaGreatDoor
