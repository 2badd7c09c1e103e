/- asm.Print. -/
import Derived.Test.YtiggallcoocdaaaGreatDoorFnOA
import Derived.Test.YtiggallcoocdaaaGreatDoorBuild
import Derived.Test.YtiggallcoocdaaaGreatDoorZ6
import Derived.Test.YtiggallcoocdaaaGreatDoorShelf2
import Derived.Deep.RegionLaw
namespace Go.Proofs.YtiggallcoocdaaaGreatDoor
open Go.RowKit
def outC (v : Vl) : List UInt8 := lineC v ++ [10]
def outO (o : Int × Int) : List UInt8 := lineO o ++ [10]
def outH (f : Fn) : List UInt8 := lineF f ++ [10]
def outF (f : Fn) : List UInt8 := outH f ++ f.c.flatMap outO
theorem printL_app (a b : List (List UInt8)) : printL (a ++ b) = printL a ++ printL b := by unfold printL; rw [List.flatMap_append]
theorem printL_map {α : Type} (f : α → List UInt8) (l : List α) : printL (l.map f) = l.flatMap fun x => f x ++ [10] := by
  unfold printL
  rw [List.flatMap_map]
theorem printL_eq (im : Im) : printL (linesI im) = im.cs.flatMap outC ++ im.fs.flatMap outF := by
  unfold linesI
  rw [printL_app, printL_map]
  congr 1
  have h : ∀ l : List Fn, printL (l.flatMap linesF) = l.flatMap outF := by
    intro l
    induction l with
    | nil => rfl
    | cons f l ih =>
      rw [List.flatMap_cons, List.flatMap_cons, printL_app, ih]
      congr 1
      show printL ([lineF f] ++ f.c.map lineO) = _
      rw [printL_app, printL_map]
      show ([lineF f].flatMap fun x => x ++ [10]) ++ _ = _
      simp only [List.flatMap_cons, List.flatMap_nil, List.append_nil]
      rfl
  exact h im.fs
theorem outC_le {v : Vl} (hn : InI64 v.n) : (outC v).length ≤ 1600 := by
  unfold outC lineC
  have h1 := itoa_len v.n hn
  have h2 := Lb.text_length v.l
  split <;> simp only [List.length_append, List.length_cons, List.length_nil, sInt, sMark] <;> omega
theorem outO_le {o : Int × Int} (h : rightO o = true) : (outO o).length ≤ 17 := by
  unfold outO lineO
  have := (opText_length h).1
  simp only [List.length_append, List.length_cons, List.length_nil]
  omega
theorem outH_le {f : Fn} (h1 : InI64 f.a) (h2 : InI64 f.v) : (outH f).length ≤ 50 := by
  unfold outH lineF
  have := itoa_len f.a h1
  have := itoa_len f.v h2
  simp only [List.length_append, List.length_cons, List.length_nil, sFun]
  omega
theorem outF_le {f : Fn} (h : f.check = 0) : (outF f).length ≤ 4402 := by
  obtain ⟨k1, k2, k3, k4, -, k6, k7, k8⟩ := Fn.check_zero h
  have h1 := outH_le (f := f) (by unfold InI64; omega) (by unfold InI64; omega)
  have h2 := flatMap_len_le outO 17 f.c (fun o ho => outO_le (k8 o ho))
  unfold outF
  rw [List.length_append]
  omega
theorem print_le {im : Im} (h : im.check = 0) (hn : ∀ v ∈ im.cs, InI64 v.n) : (printI im).length ≤ 200000 := by
  obtain ⟨h1, h2, -, -, h5⟩ := Im.check_zero h
  have e1 := flatMap_len_le outC 1600 im.cs (fun v hv => outC_le (hn v hv))
  have e2 := flatMap_len_le outF 4402 im.fs (fun f hf => outF_le (h5 f hf))
  unfold printI
  rw [if_pos h, printL_eq, List.length_append]
  omega
theorem outC_int {v : Vl} (h : v.k = 1) : (⟨#[105, 110, 116, 32]⟩ ++ ⟨(Lib.itoa v.n).toArray⟩ ++ ⟨#[10]⟩ : ByteArray).data.toList = outC v := by
  unfold outC lineC
  rw [if_pos h]
  simp [sInt]
theorem outC_mark {v : Vl} (h : v.k ≠ 1) : (⟨#[109, 97, 114, 107, 32]⟩ ++ ⟨v.l.text.toArray⟩ ++ ⟨#[10]⟩ : ByteArray).data.toList = outC v := by
  unfold outC lineC
  rw [if_neg h]
  simp [sMark]
theorem outO_b (o : Int × Int) : (⟨(opText o.1 o.2).toArray⟩ ++ ⟨#[10]⟩ : ByteArray).data.toList = outO o := by
  unfold outO lineO
  simp
theorem outH_b (f : Fn) : (⟨#[102, 117, 110, 32]⟩ ++ ⟨(Lib.itoa f.a).toArray⟩ ++ ⟨#[32]⟩ ++ ⟨(Lib.itoa f.v).toArray⟩ ++ ⟨#[10]⟩ : ByteArray).data.toList = outH f := by
  unfold outH lineF
  simp [sFun]
theorem writeS (B b : Nat) (l m : List UInt8) (s : ByteArray) (w : World) (hm : s.data.toList = m) (h : Bld B b l w) (hlen : l.length + m.length ≤ 140737488355328) (hBw : B ≤ w.heap.size) :
    Calls Tryz.prog 24 #[.pointer (some ⟨b, 0, none⟩), .string s] w fun e w' => ∃ x, e = .returned x ∧ Bld B b (l ++ m) w' ∧ Below B w w' := by
  subst hm
  have h2 : s.data.toList.length = s.size := Array.length_toList
  refine (writeString_any B b l s w h (by omega) hBw).mono ?_
  rintro e w' ⟨rfl, h1, h2⟩
  exact ⟨_, rfl, h1, h2⟩
theorem copyCheck_k (B b : Nat) (bs : List Value) (w : World) (h : Lib.IsBuilder 76 5 B b bs w) :
    Calls Tryz.prog 44 #[.pointer (some ⟨b, 0, none⟩)] w fun e w' => e = .returned (.tuple #[]) ∧ (Lib.BuilderAt 76 5 B b (.pointer (some ⟨b, 0, none⟩)) bs w' ∧ Below B w w') ∧ (∀ k, k ≠ b → w'.heap[k]? = w.heap[k]?) ∧ w'.heap.size = w.heap.size := by
  rcases h with h | h
  · refine (copyCheck_fresh b w h.cell0 h.shape h.frozen0).mono ?_
    rintro e w' ⟨rfl, rfl⟩
    exact ⟨rfl, ⟨h.used _, (Below.refl B w).setCell (p := ⟨b, 0, none⟩) h.1 _⟩, fun k hk => Below.heap_setCell _ _ _ k hk, by simp [World.setCell]⟩
  · refine (copyCheck_used b w h.cell0).mono ?_
    rintro e w' ⟨rfl, rfl⟩
    exact ⟨rfl, ⟨h, Below.refl B _⟩, fun _ _ => rfl, rfl⟩
set_option maxRecDepth 100000 in
set_option maxHeartbeats 2000000 in
/-- WriteString; a block k of another type stays -/
theorem writeSk (B b : Nat) (l m : List UInt8) (s : ByteArray) (w : World) (hm : s.data.toList = m) (h : Bld B b l w) (hlen0 : l.length + m.length ≤ 140737488355328) (hBw : B ≤ w.heap.size) (k : Nat) (ks : Array Value) (T : TypeId) (hk : w.heap[k]? = some (.cells ks T)) (hT : T ≠ 5) (hkb : k ≠ b) :
    Calls Tryz.prog 24 #[.pointer (some ⟨b, 0, none⟩), .string s] w fun e w' => (∃ x, e = .returned x) ∧ Bld B b (l ++ m) w' ∧ Below B w w' ∧ w'.heap[k]? = some (.cells ks T) := by
  obtain ⟨i0, hi, hz0, hz1, hz2⟩ := info_parts bInfoByte
  have hsl : s.data.toList.length = s.size := Array.length_toList
  have hlen : l.length + s.size ≤ 140737488355328 := by rw [← hm] at hlen0; omega
  unfold Bld at h
  obtain ⟨bs, hbs⟩ : ∃ bs, Lib.byteCells l = bs := ⟨_, rfl⟩
  have hln : bs.length = l.length := by rw [← hbs, byteCells_len]
  have hend : Lib.byteCells (l ++ m) = bs ++ Lib.strCells s := by rw [byteCells_app, hbs, strCells_eq, hm]
  rw [hbs] at h
  unfold Bld
  rw [hend]
  have hle : bs.length + s.size ≤ 140737488355328 := by omega
  have HK := Lib.hid hk
  clear hln hend hbs hlen hlen0 hm hk hsl
  go_enter Tryz.func24, Tryz.ntmps24
  go_wp2_with fail
  refine (copyCheck_k B b bs _ h).mono ?_
  rintro e w1 ⟨rfl, ⟨h1, hb1⟩, hkeep, hsz⟩
  obtain ⟨hB, v, hbk, hown, hne⟩ := h1
  have HK1 : Hid (w1.heap[k]? = some (.cells ks T)) := Lib.hid ((hkeep k hkb).trans HK.out)
  clear hkeep HK
  have c0 : w1.cell? ⟨b, 0, none⟩ = some (.pointer (some ⟨b, 0, none⟩)) := by rw [Lib.cell_of_heap hbk]; rfl
  have c1 : w1.cell? ⟨b, 1, none⟩ = some v := by rw [Lib.cell_of_heap hbk]; rfl
  go_wp2_with (at_builtin; refine Lib.wpList_append_own_string _ rfl _ _ 22 9 rfl B 5 i0 Tryz.underlying22 Tryz.underlying9 hi hz0 hz1 hz2 _ _ _ rfl hown s rfl ?c3 ?c4 ?c5 ?_)
  case c3 => unfold maxLen; omega
  case c4 => omega
  case c5 => have := hb1.size; omega
  intro v' w2 hown' hgrow _
  have hlt : b < w1.heap.size := Mem.lt hbk
  have hb2 : w2.heap[b]? = some (.cells #[.pointer (some ⟨b, 0, none⟩), v] 76 (0, 0)) := by
    rw [hgrow.block b hlt (fun e => hne e.symm)]
    exact hbk
  have hk2 : Hid (w2.heap[k]? = some (.cells ks T)) := Lib.hid (by
    rw [hgrow.block k (Mem.lt HK1.out) (fun e => ?_)]
    · exact HK1.out
    · rcases hown.2 with ⟨rfl, _⟩ | ⟨g, cp, cur, rfl, _, hgb, _⟩
      · cases e
      · have e2 : k = g := by simpa [Value.ownBlock] using e
        subst e2
        rw [HK1.out] at hgb
        cases hgb
        exact hT rfl)
  have d0 : w2.cell? ⟨b, 0, none⟩ = some (.pointer (some ⟨b, 0, none⟩)) := by rw [Lib.cell_of_heap hb2]; rfl
  have d1 : w2.cell? ⟨b, 1, none⟩ = some v := by rw [Lib.cell_of_heap hb2]; rfl
  have f1 : w2.frozen? ⟨b, 1, none⟩ = false := Lib.frozen_of_heap hb2 1
  obtain ⟨ao, n', cap, rfl⟩ : ∃ ao n' cap, v' = .slice ao n' cap := by
    rcases hown'.2 with ⟨hv, _⟩ | ⟨g, cap, cur, hv, _⟩
    · exact ⟨_, _, _, hv⟩
    · exact ⟨_, _, _, hv⟩
  go_wp2
  go_ret2
  refine ⟨⟨_, rfl⟩, Or.inr ?_, ?_, ?_⟩
  · exact Lib.BuilderAt.put (T := 76) (e := 5) hB hb2 (bs' := bs ++ Lib.strCells s) (by simpa [Lib.strCells_length] using hown') builder_typed
  · exact (hb1.grown hgrow (by have := hb1.size; omega) (fun k hk => (hown.lt k hk).1)).setCell (p := ⟨b, 1, none⟩) hB _
  · exact (Below.heap_setCell _ _ _ k hkb).trans hk2.out
theorem itoa_c (n : Int) (w : World) (h : InI64 n) (hw : Laid w) : Calls Tryz.prog 27 #[.int .i64 n] w fun e w' => e = .returned (.string ⟨(Lib.itoa n).toArray⟩) ∧ Below w.heap.size w w' := by
  refine (Go.Proofs.Tryz.strconv_Itoa n h.1 h.2 w hw.1).mono ?_
  rintro e w' ⟨rfl, k, os, rfl⟩
  exact ⟨rfl, below_grow _ _ _⟩
theorem Bld.al {B b : Nat} {l : List UInt8} {w : World} (h : Bld B b l w) (o : Obj) : Bld B b l (w.alloc o) := h.below ((Below.refl _ _).alloc (Nat.le_refl _) o)
set_option maxRecDepth 100000 in
set_option maxHeartbeats 1000000 in
theorem aprint_no (co fo : Option Addr) (n cp m cq : Nat) (E : Int) (hE : E ≠ 0) (w : World) (hc : ∀ w', Below w.heap.size w w' → Calls Tryz.prog 15 #[.agg #[.slice co n cp, .slice fo m cq]] w' fun e w'' => e = .returned (.int .i64 E) ∧ Below w'.heap.size w' w'') :
    Calls Tryz.prog 12 #[.agg #[.slice co n cp, .slice fo m cq]] w fun e w' => e = .returned (.string ⟨#[]⟩) ∧ Below w.heap.size w w' := by
  have h0 := int_ne hE
  go_enter Tryz.func12, Tryz.ntmps12
  have hB0 := Below.refl w.heap.size w
  have M0 := Mem.nil w
  go_wp2_with fail
  refine Calls.named ?_
  intro W1 hW1
  have hB1_ : Below w.heap.size w W1 := by rw [hW1]; exact (below_al hB0 _)
  have M1_ := (M0).new' (w.heap.size) (by rfl) (.cells #[.slice co n cp, .slice fo m cq] 27)
  rw [← hW1] at M1_
  clear hW1
  have ZZ1_0 := Lib.hid (Mem.lt M1_.1)
  refine (hc _ hB1_).mono ?_
  rintro e w1 ⟨rfl, hb1⟩
  have hB1 := below_then hB1_ hb1
  have M1 := M1_.below hb1
  clear M1_ hB1_ hb1
  have c1_0_0 := Mem.cell (v := .slice co n cp) M1.1 0 rfl
  have c1_0_1 := Mem.cell (v := .slice fo m cq) M1.1 1 rfl
  have z1_0 := Mem.lt M1.1
  go_wp2_with fail
  go_ret
  exact ⟨rfl, hB1⟩
set_option maxRecDepth 100000 in
set_option maxHeartbeats 4000000 in
theorem aprint_yes (cs : List Vl) (fs : List Fn) (co fo : Option Addr) (n cp m cq : Nat) (hck : Im.check ⟨cs, fs⟩ = 0) (hn : n = cs.length) (hm : m = fs.length) (hz : ∀ v ∈ cs, v.small ∧ InI64 v.n) (w : World) (hw : LaidI w) (hV : VsAt w (.slice co n cp) cs) (hF : FsAt w (.slice fo m cq) fs)
    (hc : ∀ w', Below w.heap.size w w' → Calls Tryz.prog 15 #[.agg #[.slice co n cp, .slice fo m cq]] w' fun e w'' => e = .returned (.int .i64 0) ∧ Below w'.heap.size w' w'') :
    Calls Tryz.prog 12 #[.agg #[.slice co n cp, .slice fo m cq]] w fun e w' => e = .returned (.string ⟨(printL (linesI ⟨cs, fs⟩)).toArray⟩) ∧ Below w.heap.size w w' := by
  obtain ⟨h1, h2, -, -, h5⟩ := Im.check_zero hck
  simp only at h1 h2 h5
  rw [← hn] at h1
  rw [← hm] at h2
  obtain ⟨R, hR⟩ : ∃ R : List UInt8, R = printL (linesI ⟨cs, fs⟩) := ⟨_, rfl⟩
  rw [← hR]
  have HR : Hid (R = cs.flatMap outC ++ fs.flatMap outF) := Lib.hid (by rw [hR, printL_eq])
  have HN := Lib.hid hn
  have HM := Lib.hid hm
  have HV := Lib.hid hV
  have HF := Lib.hid hF
  have H5 := Lib.hid h5
  have HZ := Lib.hid hz
  have HL : Hid (∀ k, ((cs.take k).flatMap outC).length ≤ k * 1600) := Lib.hid (fun k => fm_take_le _ _ _ _ (fun v hv => outC_le (hz v hv).2))
  have HL2 : Hid (∀ k, ((fs.take k).flatMap outF).length ≤ k * 4402) := Lib.hid (fun k => fm_take_le _ _ _ _ (fun f hf => outF_le (h5 f hf)))
  clear hV hF hn hm hck hR h5 hz
  go_enter Tryz.func12, Tryz.ntmps12
  have hB0 := Below.refl w.heap.size w
  have M0 := Mem.nil w
  go_wp2_with fail
  refine Calls.named ?_
  intro W1 hW1
  have hB1_ : Below w.heap.size w W1 := by rw [hW1]; exact (below_al hB0 _)
  have M1_ := (M0).new' (w.heap.size) (by rfl) (.cells #[.slice co n cp, .slice fo m cq] 27)
  rw [← hW1] at M1_
  clear hW1
  have ZZ1_0 := Lib.hid (Mem.lt M1_.1)
  refine (hc _ hB1_).mono ?_
  rintro e w1 ⟨rfl, hb1⟩
  have hB1 := below_then hB1_ hb1
  have M1 := M1_.below hb1
  clear M1_ hB1_ hb1
  have c1_0_0 := Mem.cell (v := .slice co n cp) M1.1 0 rfl
  have c1_0_1 := Mem.cell (v := .slice fo m cq) M1.1 1 rfl
  have z1_0 := Mem.lt M1.1
  have hbl := Bld.fresh w1
  have hX1 := (M1.al (.cells #[.pointer none, .slice none 0 0] 76)).1
  have hsz : w.heap.size < w1.heap.size := Mem.lt M1.1
  have hne : w.heap.size ≠ w1.heap.size := by omega
  have hB2 : Below w.heap.size w (w1.alloc (.cells #[.pointer none, .slice none 0 0] 76)) := below_al hB1 _
  have hsz2 : w1.heap.size < (w1.alloc (.cells #[.pointer none, .slice none 0 0] 76)).heap.size := by simp
  have c2_0 := Mem.cell (v := .slice co n cp) hX1 0 rfl
  clear M1
  have HB := Lib.hid hB2
  have HX := Lib.hid hX1
  have HBL := Lib.hid hbl
  clear hB2 hX1 hbl
  go_wp2_with fail
  go_loopw [16] (fun i wr => ∃ k : Nat, k ≤ n ∧ i = .int .i64 k ∧ Below w.heap.size w wr ∧ w1.heap.size < wr.heap.size ∧ wr.heap[w.heap.size]? = some (.cells #[.slice co n cp, .slice fo m cq] 27) ∧ Hid (Bld w1.heap.size w1.heap.size ((cs.take k).flatMap outC) wr)) (fun i _ => n - (intOf i).toNat)
  case atStart => exact ⟨0, by omega, rfl, HB.out, hsz2, HX.out, Lib.hid (by simpa using HBL.out)⟩
  case round =>
    clear HB HX HBL hsz2 c2_0
    obtain ⟨k, hk, rfl, hb, hsz2, hX, hbl⟩ := hrel
    by_cases hlt : k < n
    · have hkl : k < cs.length := by rw [← HN.out]; exact hlt
      obtain ⟨b, off, rfl, hbb, c0, c1, c2, c3, c4⟩ := (HV.out.below hb).row hkl HN.out
      have g1 : (0 : Int) ≤ (k : Int) := by omega
      have g2 : (k : Int) < (n : Int) := by omega
      have hA := fm_take_succ outC cs hkl
      have hlen := HL.out k
      have hsm := HZ.out cs[k] (List.getElem_mem hkl)
      obtain ⟨o, ho⟩ : ∃ o, o = cs[k] := ⟨_, rfl⟩
      rw [← ho] at c0 c1 c2 c3 c4 hA hsm
      have hol := outC_le hsm.2
      have hoi := outC_int (v := o)
      have hom := outC_mark (v := o)
      obtain ⟨P, hP⟩ : ∃ P, P = outC o := ⟨_, rfl⟩
      rw [← hP] at hA hol hoi hom
      have HA := Lib.hid hA
      obtain ⟨T, hT⟩ : ∃ T, T = (cs.take k).flatMap outC := ⟨_, rfl⟩
      rw [← hT] at HA hbl hlen
      clear hA ho hP hT
      obtain ⟨kk, nn, nm, ⟨S, I⟩⟩ := o
      have hsS : (⟨S.toArray⟩ : ByteArray).size ≤ 140737488351232 := by show S.toArray.size ≤ _; simpa using hsm.1.2.1
      have hsI : (⟨I.toArray⟩ : ByteArray).size ≤ 140737488351232 := by show I.toArray.size ≤ _; simpa using hsm.1.2.2
      have hnt := fun W (hW : LaidI W) => text_any nn W hsm.2 hW.v.lib
      have hlt' := fun W (hW : LaidI W) => ltext_any ⟨S.toArray⟩ ⟨I.toArray⟩ hsS hsI W hW.v
      rw [show lb (⟨S.toArray⟩ : ByteArray) ⟨I.toArray⟩ = ⟨S, I⟩ from rfl] at hlt'
      simp only at c0 c1 c2 c3 c4 hoi hom
      obtain ⟨sm, hsm'⟩ : ∃ s, s = (⟨nm.toArray⟩ : ByteArray) := ⟨_, rfl⟩
      obtain ⟨sS, hsS'⟩ : ∃ s, s = (⟨S.toArray⟩ : ByteArray) := ⟨_, rfl⟩
      obtain ⟨sI, hsI'⟩ : ∃ s, s = (⟨I.toArray⟩ : ByteArray) := ⟨_, rfl⟩
      obtain ⟨sT, hsT⟩ : ∃ s, s = (⟨(Lb.text ⟨S, I⟩).toArray⟩ : ByteArray) := ⟨_, rfl⟩
      obtain ⟨sN, hsN⟩ : ∃ s, s = (⟨(Lib.itoa nn).toArray⟩ : ByteArray) := ⟨_, rfl⟩
      rw [← hsm'] at c2
      rw [← hsS'] at c3 hlt'
      rw [← hsI'] at c4 hlt'
      rw [← hsT] at hlt' hom
      rw [← hsN] at hnt hoi
      have hNs : sN.size ≤ 20 := by rw [hsN, show (⟨(Lib.itoa nn).toArray⟩ : ByteArray).size = (Lib.itoa nn).length from List.size_toArray]; exact itoa_len nn hsm.2
      have hTs : sT.size ≤ 1539 := by rw [hsT, show (⟨(Lb.text ⟨S, I⟩).toArray⟩ : ByteArray).size = (Lb.text ⟨S, I⟩).length from List.size_toArray]; exact Lb.text_length _
      clear hsm' hsS' hsI' hsT hsN hsm hsS hsI
      have hwr := hw.below hb
      have HB := Lib.hid hb
      have HX := Lib.hid hX
      clear hb hX
      by_cases hk1 : kk = 1
      · have hoi2 := hoi hk1
        have HOI := Lib.hid hoi2
        clear hoi hom hoi2 hlt'
        subst hk1
        go_wp2_with fail
        refine (hnt _ (hwr.alloc _)).mono ?_
        rintro e w3 ⟨rfl, hb3⟩
        have HB3 := Lib.hid (below_then (below_al HB.out _) hb3)
        have HBL3 := Lib.hid ((hbl.out.al _).below hb3)
        have HX3 := Lib.hid ((((Below.refl _ _).alloc (Nat.le_refl _) _).trans (hb3.mono (by simp))).block _ (Mem.lt HX.out) |>.trans HX.out)
        have hsz3 : wr.heap.size ≤ w3.heap.size := by have := hb3.size; simp at this; omega
        clear hb3 hwr hnt hbl HX HB
        go_wp2_with fail
        refine (writeS w1.heap.size w1.heap.size _ P _ _ HOI.out HBL3.out (by omega) (by omega)).mono ?_
        rintro e w4 ⟨x, rfl, hbl4, hb4⟩
        have HBL4 : Hid (Bld w1.heap.size w1.heap.size ((cs.take (k + 1)).flatMap outC) w4) := Lib.hid (by rw [HA.out]; exact hbl4)
        have HB4 := Lib.hid (HB3.out.trans (hb4.mono (by omega)))
        have HX4 := Lib.hid ((hb4.block _ (by omega)).trans HX3.out)
        have hsz4 := hb4.size
        clear hb4 hbl4 HBL3 HB3 HX3 HA HOI
        go_wp2_with fail
        go_roundw
        case rel => exact ⟨k + 1, by omega, by go_num, HB4.out, by omega, HX4.out, HBL4⟩
        case measure => simp [intOf]; omega
      · have hoi2 := hom hk1
        have HOI := Lib.hid hoi2
        have hk2 : (kk == 1) = false := by simpa using hk1
        clear hoi hom hoi2 hnt
        go_wp2_with fail
        refine (hlt' _ (hwr.alloc _)).mono ?_
        rintro e w3 ⟨rfl, hb3⟩
        have HB3 := Lib.hid (below_then (below_al HB.out _) hb3)
        have HBL3 := Lib.hid ((hbl.out.al _).below hb3)
        have HX3 := Lib.hid ((((Below.refl _ _).alloc (Nat.le_refl _) _).trans (hb3.mono (by simp))).block _ (Mem.lt HX.out) |>.trans HX.out)
        have hsz3 : wr.heap.size ≤ w3.heap.size := by have := hb3.size; simp at this; omega
        clear hb3 hwr hlt' hbl HX HB
        go_wp2_with fail
        refine (writeS w1.heap.size w1.heap.size _ P _ _ HOI.out HBL3.out (by omega) (by omega)).mono ?_
        rintro e w4 ⟨x, rfl, hbl4, hb4⟩
        have HBL4 : Hid (Bld w1.heap.size w1.heap.size ((cs.take (k + 1)).flatMap outC) w4) := Lib.hid (by rw [HA.out]; exact hbl4)
        have HB4 := Lib.hid (HB3.out.trans (hb4.mono (by omega)))
        have HX4 := Lib.hid ((hb4.block _ (by omega)).trans HX3.out)
        have hsz4 := hb4.size
        clear hb4 hbl4 HBL3 HB3 HX3 HA HOI
        go_wp2_with fail
        go_roundw
        case rel => exact ⟨k + 1, by omega, by go_num, HB4.out, by omega, HX4.out, HBL4⟩
        case measure => simp [intOf]; omega
    · have hbl := hbl.out
      rw [List.take_of_length_le (by have := HN.out; omega)] at hbl
      have hlen := HL.out n
      rw [List.take_of_length_le (by have := HN.out; omega)] at hlen
      have hge : (n : Int) ≤ k := by omega
      have c2_1 := Mem.cell (v := .slice fo m cq) hX 1 rfl
      obtain ⟨P1, hP1⟩ : ∃ P, P = cs.flatMap outC := ⟨_, rfl⟩
      rw [← hP1] at hlen
      have HRR : Hid (R = P1 ++ fs.flatMap outF) := Lib.hid (by rw [HR.out, hP1])
      rw [← hP1] at hbl
      have HB := Lib.hid hb
      have HBL := Lib.hid hbl
      clear hb hX hbl HR hP1
      go_wp2_with fail
      go_loopw [39] (fun i wr => ∃ k : Nat, k ≤ m ∧ i = .int .i64 k ∧ Below w.heap.size w wr ∧ w1.heap.size < wr.heap.size ∧ Hid (Bld w1.heap.size w1.heap.size (P1 ++ (fs.take k).flatMap outF) wr)) (fun i _ => m - (intOf i).toNat)
      case atStart => exact ⟨0, by omega, rfl, HB.out, by omega, Lib.hid (by simpa using HBL.out)⟩
      case round =>
        clear HB HBL hsz2 c2_1
        obtain ⟨q, hq, rfl, hb, hsz2, hbl⟩ := hrel
        by_cases hlt : q < m
        · have hql : q < fs.length := by rw [← HM.out]; exact hlt
          obtain ⟨b, off, c, rfl, hbl0, c0, c1, c2, hO⟩ := HF.out.row hql HM.out
          rw [← hb.cell (p := ⟨b, _, none⟩) hbl0] at c0 c1 c2
          have g1 : (0 : Int) ≤ (q : Int) := by omega
          have g2 : (q : Int) < (m : Int) := by omega
          have hA := fm_take_succ outF fs hql
          have hlen2 := HL2.out q
          obtain ⟨k1, k2, k3, k4, -, k6, k7, k8⟩ := Fn.check_zero (H5.out fs[q] (List.getElem_mem hql))
          obtain ⟨f, hf⟩ : ∃ f, f = fs[q] := ⟨_, rfl⟩
          rw [← hf] at c0 c1 hA hO k1 k2 k3 k4 k6 k7 k8
          obtain ⟨ao, cap, rfl⟩ := hO.slice
          have hH := outH_b f
          have hHl := outH_le (f := f) (by unfold InI64; omega) (by unfold InI64; omega)
          obtain ⟨Q4, hQ4⟩ : ∃ Q, Q = outH f := ⟨_, rfl⟩
          have hput : outF f = Q4 ++ f.c.flatMap outO := by rw [hQ4]; rfl
          rw [hput] at hA
          rw [← hQ4] at hH hHl
          have hia := fun W (hW : LaidI W) => itoa_c f.a W (by unfold InI64; omega) hW.v.lib
          have hiv := fun W (hW : LaidI W) => itoa_c f.v W (by unfold InI64; omega) hW.v.lib
          obtain ⟨fa, fv, fc⟩ := f
          simp only at c0 c1 c2 k1 k2 k3 k4 k6 k7 k8 hO hH hia hiv hA
          obtain ⟨sA, hsA⟩ : ∃ s, s = (⟨(Lib.itoa fa).toArray⟩ : ByteArray) := ⟨_, rfl⟩
          obtain ⟨sV, hsV⟩ : ∃ s, s = (⟨(Lib.itoa fv).toArray⟩ : ByteArray) := ⟨_, rfl⟩
          rw [← hsA] at hia hH
          rw [← hsV] at hiv hH
          have hAs : sA.size ≤ 20 := by rw [hsA, show (⟨(Lib.itoa fa).toArray⟩ : ByteArray).size = (Lib.itoa fa).length from List.size_toArray]; exact itoa_len fa (by unfold InI64; omega)
          have hVs : sV.size ≤ 20 := by rw [hsV, show (⟨(Lib.itoa fv).toArray⟩ : ByteArray).size = (Lib.itoa fv).length from List.size_toArray]; exact itoa_len fv (by unfold InI64; omega)
          have hq1 : ¬ 9223372036854775807 < 4 + sA.size := by omega
          have hq2 : ¬ 9223372036854775807 < 4 + sA.size + 1 := by omega
          have hq3 : ¬ 9223372036854775807 < 4 + sA.size + 1 + sV.size := by omega
          have hq4 : ¬ 9223372036854775807 < 4 + sA.size + 1 + sV.size + 1 := by omega
          have HCL : Hid (∀ k, ((fc.take k).flatMap outO).length ≤ k * 17) := Lib.hid (fun k => fm_take_le _ _ _ _ (fun o ho => outO_le (k8 o ho)))
          obtain ⟨L, hL⟩ : ∃ L, L = fc.length := ⟨_, rfl⟩
          rw [← hL] at c2 k6 k7 hO
          obtain ⟨T, hT⟩ : ∃ T, T = (fs.take q).flatMap outF := ⟨_, rfl⟩
          rw [← hT] at hA hbl hlen2
          have HA := Lib.hid hA
          have HLL := Lib.hid hL
          have HH := Lib.hid hH
          clear hf hA hput hQ4 hT hL hH hsA hsV k1 k2 k3 k4
          have hwr := hw.below hb
          have HB := Lib.hid hb
          have HO := Lib.hid (fun W (h : Below w.heap.size w W) => OsAt.below hO h)
          have HK8 := Lib.hid k8
          clear hb hO k8
          go_upto_region 14 with (fail)
          refine wp_named ?_
          intro w5 hW5
          have hB5 : Below wr.heap.size wr w5 := by rw [hW5]; exact below_al (Below.refl _ _) _
          have M5 := (Mem.nil wr).new (.cells #[.int .i64 fa, .int .i64 fv, .slice ao L cap] 37)
          rw [← hW5] at M5
          clear hW5
          have h5l : wr.heap.size < w5.heap.size := Mem.lt M5.1
          have d0 := Mem.cell (v := .int .i64 fa) M5.1 0 rfl
          have d1 := Mem.cell (v := .int .i64 fv) M5.1 1 rfl
          have hBL5 := hbl.out.below hB5
          have hw5 := hwr.below hB5
          have h15 : w1.heap.size ≤ w5.heap.size := by have := hB5.size; omega
          have hszr := hB5.size
          have HM5 := Lib.hid M5.1
          have HB5 := Lib.hid (below_then HB.out hB5)
          clear M5 hbl hwr HB c0 c1 c2
          go_cut [] (fun wx => Below w.heap.size w wx ∧ w1.heap.size < wx.heap.size ∧ wx.heap[wr.heap.size]? = some (.cells #[.int .i64 fa, .int .i64 fv, .slice ao L cap] 37) ∧ Hid (Bld w1.heap.size w1.heap.size (P1 ++ T ++ Q4) wx))
          case first =>
            go_region_law (first
              | (go_simp; go_at_call 27; (with_reducible refine (hia _ (hw5.below (by repeat' (first | assumption | exact Below.refl _ _ | refine below_dr ?_ | refine below_al ?_ _)))).mono ?_); rintro e wp ⟨rfl, hbp⟩; have hBp : Below w5.heap.size w5 wp := below_then (by repeat' (first | assumption | exact Below.refl _ _ | refine below_dr ?_ | refine below_al ?_ _)) hbp; clear hbp; have x0 := (hBp.cell (p := ⟨wr.heap.size, 0, none⟩) h5l).trans d0; have x1 := (hBp.cell (p := ⟨wr.heap.size, 1, none⟩) h5l).trans d1)
              | (go_simp; go_at_call 27; (with_reducible refine (hiv _ (hw5.below (by repeat' (first | assumption | exact Below.refl _ _ | refine below_dr ?_ | refine below_al ?_ _)))).mono ?_); rintro e wq ⟨rfl, hbq⟩; have hBq : Below w5.heap.size w5 wq := below_then (by repeat' (first | assumption | exact Below.refl _ _ | refine below_dr ?_ | refine below_al ?_ _)) hbq; clear hbq; have y0 := (hBq.cell (p := ⟨wr.heap.size, 0, none⟩) h5l).trans d0; have y1 := (hBq.cell (p := ⟨wr.heap.size, 1, none⟩) h5l).trans d1)
              | (go_simp; go_at_call 24; refine (writeSk w1.heap.size w1.heap.size (P1 ++ T) Q4 _ _ HH.out (hBL5.below (by repeat' (first | assumption | exact Below.refl _ _ | refine below_dr ?_ | refine below_al ?_ _))) (by simp only [List.length_append]; omega) (Nat.le_trans h15 ((by repeat' (first | assumption | exact Below.refl _ _ | refine below_dr ?_ | refine below_al ?_ _)) : Below w5.heap.size w5 _).size) wr.heap.size _ _ ((((by repeat' (first | assumption | exact Below.refl _ _ | refine below_dr ?_ | refine below_al ?_ _)) : Below w5.heap.size w5 _).block _ h5l).trans HM5.out) (by decide) (by omega)).mono ?_; rintro e wz ⟨⟨xz, rfl⟩, hblz, hbz, hkz⟩; have hBz := HB5.out.trans ((((by repeat' (first | assumption | exact Below.refl _ _ | refine below_dr ?_ | refine below_al ?_ _)) : Below w5.heap.size w5 _).mono HB5.out.size).trans (hbz.mono (by omega))); have hsz8 := Nat.le_trans ((by repeat' (first | assumption | exact Below.refl _ _ | refine below_dr ?_ | refine below_al ?_ _)) : Below w5.heap.size w5 _).size hbz.size))
            all_goals
              go_wp2_with fail
              go_meet
              exact ⟨hBz, by omega, hkz, Lib.hid hblz⟩
          obtain ⟨hB9, hsz9, hX9, hbl9⟩ := hcut
          obtain ⟨w9, rfl⟩ : ∃ x, x = wc := ⟨_, rfl⟩
          have c9 := Mem.cell (v := .slice ao L cap) hX9 2 rfl
          have HB9 := Lib.hid hB9
          clear hX9 hB9 d0 d1 hBL5 hw5 HM5 HB5 hia hiv HH hB5
          go_wp2_with fail
          go_loopw [57] (fun i wr' => ∃ k : Nat, k ≤ L ∧ i = .int .i64 k ∧ Below w.heap.size w wr' ∧ w1.heap.size < wr'.heap.size ∧ Hid (Bld w1.heap.size w1.heap.size (P1 ++ T ++ (Q4 ++ (fc.take k).flatMap outO)) wr')) (fun i _ => L - (intOf i).toNat)
          case atStart => exact ⟨0, by omega, rfl, HB9.out, hsz9, Lib.hid (by simpa using hbl9.out)⟩
          case round =>
            clear HB9 hbl9 hsz9 c9 hbl0
            obtain ⟨j, hj, rfl, hb, hsz2, hbl⟩ := hrel
            by_cases hlt : j < L
            · have hjl : j < fc.length := by rw [← HLL.out]; exact hlt
              have hA2 := fm_take_succ outO fc hjl
              have hlen3 := HCL.out j
              have g1 : (0 : Int) ≤ (j : Int) := by omega
              have g2 : (j : Int) < (L : Int) := by omega
              obtain ⟨b, off, rfl, hbb, c0, c1⟩ := (HO.out _ hb).row hjl HLL.out
              have hr := HK8.out fc[j] (List.getElem_mem hjl)
              have hpl := outO_le hr
              have hob := outO_b fc[j]
              obtain ⟨o, ho⟩ : ∃ o, o = fc[j] := ⟨_, rfl⟩
              rw [← ho] at c0 c1 hA2 hpl hob hr
              clear ho
              obtain ⟨oc, oa⟩ := o
              simp only at c0 c1 hob
              have hop := fun W (hW : LaidI W) => text_op oc oa W hW.o
              have hts : (⟨(opText oc oa).toArray⟩ : ByteArray).size ≤ 16 := by rw [show (⟨(opText oc oa).toArray⟩ : ByteArray).size = (opText oc oa).length from List.size_toArray]; exact (opText_length hr).1
              obtain ⟨P, hP⟩ : ∃ P, P = outO (oc, oa) := ⟨_, rfl⟩
              rw [← hP] at hA2 hpl hob
              obtain ⟨U, hU⟩ : ∃ U, U = (fc.take j).flatMap outO := ⟨_, rfl⟩
              rw [← hU] at hA2 hbl hlen3
              have HA2 := Lib.hid hA2
              obtain ⟨sP, hsP⟩ : ∃ s, s = (⟨(opText oc oa).toArray⟩ : ByteArray) := ⟨_, rfl⟩
              rw [← hsP] at hop hob hts
              have HOB := Lib.hid hob
              have hq5 : ¬ 9223372036854775807 < sP.size + 1 := by omega
              clear hA2 hP hU hsP hob hr
              have hwr := hw.below hb
              have HB := Lib.hid hb
              clear hb
              go_wp2_with fail
              refine (hop _ (hwr.alloc _)).mono ?_
              rintro e w10 ⟨rfl, hb3⟩
              have HB3 := Lib.hid (below_then (below_al HB.out _) hb3)
              have HBL3 := Lib.hid ((hbl.out.al _).below hb3)
              have hsz3 : w1.heap.size < w10.heap.size := by have := hb3.size; simp at this; omega
              clear hb3 hwr hop hbl HB
              go_wp2_with fail
              refine (writeS w1.heap.size w1.heap.size _ P _ _ HOB.out HBL3.out (by simp only [List.length_append]; omega) (by omega)).mono ?_
              rintro e w11 ⟨x, rfl, hbl4, hb4⟩
              have HBL4 : Hid (Bld w1.heap.size w1.heap.size (P1 ++ T ++ (Q4 ++ (fc.take (j + 1)).flatMap outO)) w11) := Lib.hid (by rw [HA2.out, ← List.append_assoc Q4, ← List.append_assoc _ _ P]; exact hbl4)
              have HB4 := Lib.hid (HB3.out.trans (hb4.mono (by omega)))
              have hsz4 := hb4.size
              clear hb4 hbl4 HBL3 HB3 HA2 HOB
              go_wp2_with fail
              go_roundw
              case rel => exact ⟨j + 1, by omega, by go_num, HB4.out, by omega, HBL4⟩
              case measure => simp [intOf]; omega
            · have hbl := hbl.out
              rw [List.take_of_length_le (by have := HLL.out; omega), List.append_assoc, ← HA.out] at hbl
              have hge : (L : Int) ≤ j := by omega
              have HB := Lib.hid hb
              have HBL := Lib.hid hbl
              clear hb hbl
              go_wp2_with fail
              go_roundw
              case rel => exact ⟨q + 1, by omega, by go_num, HB.out, hsz2, HBL⟩
              case measure => simp [intOf]; omega
        · have hbl := hbl.out
          rw [List.take_of_length_le (by have := HM.out; omega), ← HRR.out] at hbl
          have hge : (m : Int) ≤ q := by omega
          have HB := Lib.hid hb
          clear hb
          go_wp2_with fail
          refine (builderString_any _ _ _ _ hbl (by omega)).mono ?_
          rintro e w9 ⟨rfl, hb9⟩
          have HB9 := Lib.hid (HB.out.trans (hb9.mono (by omega)))
          clear hb9 hbl
          go_wp2_with fail
          go_ret
          exact ⟨rfl, HB9.out⟩
/-- asm.Print -/
theorem aprint_any (im : Im) (cv fv : Value) (hz : ∀ v ∈ im.cs, v.small ∧ InI64 v.n) (w : World) (hw : LaidI w) (hV : VsAt w cv im.cs) (hF : FsAt w fv im.fs) :
    Calls Tryz.prog 12 #[.agg #[cv, fv]] w fun e w' => e = .returned (.string ⟨(printI im).toArray⟩) ∧ Below w.heap.size w w' := by
  have hck := fun w' (hb : Below w.heap.size w w') => check_any im cv fv (fun v hv => (hz v hv).1) w' (hw.below hb) (hV.below hb) (hF.below hb)
  obtain ⟨co, cp, rfl⟩ := hV.slice
  obtain ⟨fo, cq, rfl⟩ := hF.slice
  unfold printI
  by_cases h : im.check = 0
  · rw [if_pos h]
    rw [h] at hck
    exact aprint_yes im.cs im.fs co fo _ cp _ cq h rfl rfl hz w hw hV hF hck
  · rw [if_neg h]
    exact aprint_no _ _ _ _ _ _ _ h w hck
end Go.Proofs.YtiggallcoocdaaaGreatDoor
