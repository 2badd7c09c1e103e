/- image.Put. -/
import Derived.Test.YtecoeaeonedmnaaGreatDoorIm
import Derived.Test.YtecoeaeonedmnaaGreatDoorBWrite
namespace Go.Proofs.YtecoeaeonedmnaaGreatDoor
open Go.RowKit
theorem vput_l (v : Vl) (hz : v.small) (hn : InI64 v.n) (w : World) (hw : LaidI w) :
    Calls Tryz.prog 14 #[.agg #[.int .i64 v.k, .int .i64 v.n, .string ⟨v.nm.toArray⟩, .string ⟨v.l.S.toArray⟩, .string ⟨v.l.I.toArray⟩]] w fun e w' => e = .returned (.string ⟨v.put.toArray⟩) ∧ Below w.heap.size w w' :=
  vput_any v.k v.n hn ⟨v.nm.toArray⟩ ⟨v.l.S.toArray⟩ ⟨v.l.I.toArray⟩ (by show v.nm.toArray.size ≤ _; simpa using hz.1) (by show v.l.S.toArray.size ≤ _; simpa using hz.2.1) (by show v.l.I.toArray.size ≤ _; simpa using hz.2.2) w hw.v
theorem writeByte_n (B b : Nat) (l : List UInt8) (n : Nat) (hn : n < 256) (w : World) (h : Bld B b l w) (hlen : l.length + 1 ≤ 140737488355328) (hBw : B ≤ w.heap.size) :
    Calls Tryz.prog 31 #[.pointer (some ⟨b, 0, none⟩), .int .u8 (n : Int)] w fun e w' => e = .returned .nilIface ∧ Bld B b (l ++ [UInt8.ofNat n]) w' ∧ Below B w w' := by
  have h2 := writeByte_any B b l (UInt8.ofNat n) w h hlen hBw
  rwa [UInt8.toNat_ofNat', Nat.mod_eq_of_lt hn] at h2
theorem writeString_l (B b : Nat) (l m : List UInt8) (w : World) (h : Bld B b l w) (hlen : l.length + m.length ≤ 140737488355328) (hBw : B ≤ w.heap.size) :
    Calls Tryz.prog 32 #[.pointer (some ⟨b, 0, none⟩), .string ⟨m.toArray⟩] w fun e w' => ∃ x, e = .returned x ∧ Bld B b (l ++ m) w' ∧ Below B w w' := by
  refine (writeString_any B b l ⟨m.toArray⟩ w h (by show _ + m.toArray.size ≤ _; simpa using hlen) hBw).mono ?_
  rintro e w' ⟨rfl, h1, h2⟩
  exact ⟨_, rfl, h1, h2⟩
theorem Bld.alloc {B b : Nat} {l : List UInt8} {w : World} (h : Bld B b l w) (o : Obj) : Bld B b l (w.alloc o) := h.below ((Below.refl _ _).alloc (Nat.le_refl _) o)
theorem fm_take_succ {α : Type} (f : α → List UInt8) (l : List α) {k : Nat} (hk : k < l.length) : (l.take (k + 1)).flatMap f = (l.take k).flatMap f ++ f l[k] := by
  rw [List.take_add_one, List.getElem?_eq_getElem hk, List.flatMap_append]
  simp
theorem fm_take_le {α : Type} (f : α → List UInt8) (B : Nat) (l : List α) (k : Nat) (h : ∀ x ∈ l, (f x).length ≤ B) : ((l.take k).flatMap f).length ≤ k * B := by
  have := flatMap_len_le f B (l.take k) (fun x hx => h x (List.mem_of_mem_take hx))
  have h2 : (l.take k).length ≤ k := by rw [List.length_take]; omega
  exact Nat.le_trans this (Nat.mul_le_mul_right _ h2)
theorem Fn.put_four (a v n : Nat) (_ : n < 65536) : [UInt8.ofNat a, UInt8.ofNat v, UInt8.ofNat (n / 256), UInt8.ofNat (n % 256)] = UInt8.ofNat a :: UInt8.ofNat v :: bytes2 n := rfl
theorem ofNat_u8 {n : Nat} : UInt8.ofNat n = UInt8.ofNat (n % 256) := by
  apply UInt8.toNat_inj.1
  rw [UInt8.toNat_ofNat', UInt8.toNat_ofNat']
  omega
theorem four_cells (a v n : Nat) (ha : a < 256) (hv : v < 256) (hn : n < 65536) : Lib.byteCells [UInt8.ofNat a, UInt8.ofNat v, UInt8.ofNat (n / 256), UInt8.ofNat (n % 256)] = [.int .u8 a, .int .u8 v, .int .u8 ((n / 256 : Nat) : Int), .int .u8 ((n % 256 : Nat) : Int)] := by
  unfold Lib.byteCells
  simp only [List.map_cons, List.map_nil, UInt8.toNat_ofNat']
  rw [Nat.mod_eq_of_lt (show a < 2 ^ 8 by omega), Nat.mod_eq_of_lt (show v < 2 ^ 8 by omega), Nat.mod_eq_of_lt (show n / 256 < 2 ^ 8 by omega), Nat.mod_eq_of_lt (show n % 256 < 2 ^ 8 by omega)]
set_option maxRecDepth 100000 in
set_option maxHeartbeats 1000000 in
theorem iput_no (co fo : Option Addr) (n cp m cq : Nat) (E : Int) (hE : E ≠ 0) (w : World) (hc : ∀ w', Below w.heap.size w w' → Calls Tryz.prog 12 #[.agg #[.slice co n cp, .slice fo m cq]] w' fun e w'' => e = .returned (.int .i64 E) ∧ Below w'.heap.size w' w'') :
    Calls Tryz.prog 10 #[.agg #[.slice co n cp, .slice fo m cq]] w fun e w' => e = .returned (.string ⟨#[]⟩) ∧ Below w.heap.size w w' := by
  have h0 := int_ne hE
  go_enter Tryz.func10, Tryz.ntmps10
  have hB0 := Below.refl w.heap.size w
  have M0 := Mem.nil w
  go_wp2_with fail
  refine Calls.named ?_
  intro W1 hW1
  have hB1_ : Below w.heap.size w W1 := by rw [hW1]; exact (below_al hB0 _)
  have M1_ := (M0).new' (w.heap.size) (by rfl) (.cells #[.slice co n cp, .slice fo m cq] 25)
  rw [← hW1] at M1_
  clear hW1
  have ZZ1_0 := Lib.hid (Mem.lt M1_.1)
  refine (hc _ hB1_).mono ?_
  rintro e w1 ⟨rfl, hb1⟩
  have hB1 := below_then hB1_ hb1
  have M1 := M1_.below hb1
  clear M1_ hB1_ hb1
  have c1_0_0 := Mem.cell (v := .slice co n cp) M1.1 0 rfl
  have c1_0_1 := Mem.cell (v := .slice fo m cq) M1.1 1 rfl
  have z1_0 := Mem.lt M1.1
  go_wp2_with fail
  go_ret
  exact ⟨rfl, hB1⟩
set_option maxRecDepth 100000 in
set_option maxHeartbeats 4000000 in
theorem iput_yes (cs : List Vl) (fs : List Fn) (co fo : Option Addr) (n cp m cq : Nat) (hck : Im.check ⟨cs, fs⟩ = 0) (hn : n = cs.length) (hm : m = fs.length) (hz : ∀ v ∈ cs, v.small ∧ InI64 v.n) (w : World) (hw : LaidI w) (hV : VsAt w (.slice co n cp) cs) (hF : FsAt w (.slice fo m cq) fs)
    (hc : ∀ w', Below w.heap.size w w' → Calls Tryz.prog 12 #[.agg #[.slice co n cp, .slice fo m cq]] w' fun e w'' => e = .returned (.int .i64 0) ∧ Below w'.heap.size w' w'') :
    Calls Tryz.prog 10 #[.agg #[.slice co n cp, .slice fo m cq]] w fun e w' => e = .returned (.string ⟨(Im.put ⟨cs, fs⟩).toArray⟩) ∧ Below w.heap.size w w' := by
  obtain ⟨h1, h2, -, -, h5⟩ := Im.check_zero hck
  simp only at h1 h2 h5
  rw [← hn] at h1
  rw [← hm] at h2
  obtain ⟨R, hR⟩ : ∃ R : List UInt8, R = Im.put ⟨cs, fs⟩ := ⟨_, rfl⟩
  rw [← hR]
  have HR : Hid (R = [UInt8.ofNat n] ++ cs.flatMap Vl.put ++ [UInt8.ofNat m] ++ fs.flatMap Fn.put) := Lib.hid (by rw [hR, hn, hm]; unfold Im.put; simp)
  have HN := Lib.hid hn
  have HM := Lib.hid hm
  have HV := Lib.hid hV
  have HF := Lib.hid hF
  have H5 := Lib.hid h5
  have HZ := Lib.hid hz
  have HL : Hid (∀ k, ((cs.take k).flatMap Vl.put).length ≤ k * 240) := Lib.hid (fun k => fm_take_le _ _ _ _ (fun _ _ => put_length))
  have HL2 : Hid (∀ k, ((fs.take k).flatMap Fn.put).length ≤ k * 772) := Lib.hid (fun k => fm_take_le _ _ _ _ (fun f hf => Fn.put_length (h5 f hf)))
  clear hV hF hn hm hck hR h5 hz
  go_enter Tryz.func10, Tryz.ntmps10
  have hB0 := Below.refl w.heap.size w
  have M0 := Mem.nil w
  go_wp2_with fail
  refine Calls.named ?_
  intro W1 hW1
  have hB1_ : Below w.heap.size w W1 := by rw [hW1]; exact (below_al hB0 _)
  have M1_ := (M0).new' (w.heap.size) (by rfl) (.cells #[.slice co n cp, .slice fo m cq] 25)
  rw [← hW1] at M1_
  clear hW1
  have ZZ1_0 := Lib.hid (Mem.lt M1_.1)
  refine (hc _ hB1_).mono ?_
  rintro e w1 ⟨rfl, hb1⟩
  have hB1 := below_then hB1_ hb1
  have M1 := M1_.below hb1
  clear M1_ hB1_ hb1
  have c1_0_0 := Mem.cell (v := .slice co n cp) M1.1 0 rfl
  have c1_0_1 := Mem.cell (v := .slice fo m cq) M1.1 1 rfl
  have z1_0 := Mem.lt M1.1
  have hbl := Bld.fresh w1
  have hX1 := (M1.al (.cells #[.pointer none, .slice none 0 0] 85)).1
  have hwn : IntKind.u8.wrap (n : Int) = n := wrap_u8 (by omega)
  have hwm : IntKind.u8.wrap (m : Int) = m := wrap_u8 (by omega)
  have hsz : w.heap.size < w1.heap.size := Mem.lt M1.1
  have hne : w.heap.size ≠ w1.heap.size := by omega
  clear M1
  go_wp2_with fail
  refine (writeByte_n w1.heap.size w1.heap.size [] n (by omega) _ hbl (by simp) (by simp)).mono ?_
  rintro e w2 ⟨rfl, hbl2, hb2⟩
  rw [List.nil_append] at hbl2
  have hX2 := (hb2.block _ hsz).trans hX1
  have c2_0 := Mem.cell (v := .slice co n cp) hX2 0 rfl
  have c2_1 := Mem.cell (v := .slice fo m cq) hX2 1 rfl
  have hB2 : Below w.heap.size w w2 := (below_al hB1 _).trans (hb2.mono (by omega))
  have hsz2 : w1.heap.size < w2.heap.size := by have := hb2.size; simp at this; omega
  clear hbl hX1 hb2
  have HB := Lib.hid hB2
  have HX := Lib.hid hX2
  have HBL := Lib.hid hbl2
  clear hB2 hX2 hbl2
  go_wp2_with fail
  go_loopw [22] (fun i wr => ∃ k : Nat, k ≤ n ∧ i = .int .i64 k ∧ Below w.heap.size w wr ∧ w1.heap.size < wr.heap.size ∧ wr.heap[w.heap.size]? = some (.cells #[.slice co n cp, .slice fo m cq] 25) ∧ Hid (Bld w1.heap.size w1.heap.size ([UInt8.ofNat n] ++ (cs.take k).flatMap Vl.put) wr)) (fun i _ => n - (intOf i).toNat)
  case atStart => exact ⟨0, by omega, rfl, HB.out, hsz2, HX.out, Lib.hid (by simpa using HBL.out)⟩
  case round =>
    clear HB HX HBL hsz2 c2_0 c2_1
    obtain ⟨k, hk, rfl, hb, hsz2, hX, hbl⟩ := hrel
    by_cases hlt : k < n
    · have hkl : k < cs.length := by rw [← HN.out]; exact hlt
      obtain ⟨b, off, rfl, hbb, c0, c1, c2, c3, c4⟩ := (HV.out.below hb).row hkl HN.out
      have g1 : (0 : Int) ≤ (k : Int) := by omega
      have g2 : (k : Int) < (n : Int) := by omega
      have hA := fm_take_succ Vl.put cs hkl
      have hlen := HL.out k
      have hsm := HZ.out cs[k] (List.getElem_mem hkl)
      obtain ⟨o, ho⟩ : ∃ o, o = cs[k] := ⟨_, rfl⟩
      rw [← ho] at c0 c1 c2 c3 c4 hA hsm
      have hvp := fun w => vput_l o hsm.1 hsm.2 w
      have hol := put_length (v := o)
      obtain ⟨P, hP⟩ : ∃ P, P = o.put := ⟨_, rfl⟩
      rw [← hP] at hA hvp hol
      have HA := Lib.hid hA
      obtain ⟨T, hT⟩ : ∃ T, T = (cs.take k).flatMap Vl.put := ⟨_, rfl⟩
      rw [← hT] at HA hbl hlen
      clear hA ho hsm hP hT
      obtain ⟨kk, nn, nm, ⟨S, I⟩⟩ := o
      simp only at c0 c1 c2 c3 c4 hvp
      obtain ⟨sm, hsm⟩ : ∃ s, s = (⟨nm.toArray⟩ : ByteArray) := ⟨_, rfl⟩
      obtain ⟨sS, hsS⟩ : ∃ s, s = (⟨S.toArray⟩ : ByteArray) := ⟨_, rfl⟩
      obtain ⟨sI, hsI⟩ : ∃ s, s = (⟨I.toArray⟩ : ByteArray) := ⟨_, rfl⟩
      obtain ⟨sP, hsP⟩ : ∃ s, s = (⟨P.toArray⟩ : ByteArray) := ⟨_, rfl⟩
      rw [← hsm] at c2 hvp
      rw [← hsS] at c3 hvp
      rw [← hsI] at c4 hvp
      rw [← hsP] at hvp
      have HsP := Lib.hid hsP
      clear hsm hsS hsI hsP
      have hwr := hw.below hb
      have HB := Lib.hid hb
      have HX := Lib.hid hX
      clear hb hX
      go_wp2_with fail
      refine (hvp _ (hwr.alloc _)).mono ?_
      rintro e w3 ⟨rfl, hb3⟩
      have HB3 := Lib.hid (below_then (below_al HB.out _) hb3)
      have HBL3 := Lib.hid ((hbl.out.alloc _).below hb3)
      have HX3 := Lib.hid ((((Below.refl _ _).alloc (Nat.le_refl _) _).trans (hb3.mono (by simp))).block _ (Mem.lt HX.out) |>.trans HX.out)
      have hsz3 : wr.heap.size ≤ w3.heap.size := by have := hb3.size; simp at this; omega
      clear hb3 hwr hvp hbl HX HB
      go_wp2_with fail
      rw [HsP.out]
      refine (writeString_l w1.heap.size w1.heap.size _ P _ HBL3.out (by simp; omega) (by omega)).mono ?_
      rintro e w4 ⟨x, rfl, hbl4, hb4⟩
      have HBL4 : Hid (Bld w1.heap.size w1.heap.size ([UInt8.ofNat n] ++ (cs.take (k + 1)).flatMap Vl.put) w4) := Lib.hid (by rw [HA.out, ← List.append_assoc]; exact hbl4)
      have HB4 := Lib.hid (HB3.out.trans (hb4.mono (by omega)))
      have HX4 := Lib.hid ((hb4.block _ (by omega)).trans HX3.out)
      have hsz4 := hb4.size
      clear hb4 hbl4 HBL3 HB3 HX3 HA
      go_wp2_with fail
      go_roundw
      case rel => exact ⟨k + 1, by omega, by go_num, HB4.out, by omega, HX4.out, HBL4⟩
      case measure => simp [intOf]; omega
    · have hbl := hbl.out
      rw [List.take_of_length_le (by have := HN.out; omega)] at hbl
      have hlen := HL.out n
      rw [List.take_of_length_le (by have := HN.out; omega)] at hlen
      have hge : (n : Int) ≤ k := by omega
      have c2_1 := Mem.cell (v := .slice fo m cq) hX 1 rfl
      obtain ⟨P1, hP1⟩ : ∃ P, P = [UInt8.ofNat n] ++ cs.flatMap Vl.put := ⟨_, rfl⟩
      have hl1 : P1.length ≤ 1 + n * 240 := by rw [hP1, List.length_append]; simp only [List.length_cons, List.length_nil]; omega
      have HRR : Hid (R = P1 ++ [UInt8.ofNat m] ++ fs.flatMap Fn.put) := Lib.hid (by rw [HR.out, hP1])
      rw [← hP1] at hbl
      have HB := Lib.hid hb
      have HX := Lib.hid hX
      have HBL := Lib.hid hbl
      clear hb hX hbl HR hP1 hlen
      go_wp2_with fail
      refine (writeByte_n w1.heap.size w1.heap.size P1 m (by omega) _ HBL.out (by omega) (by omega)).mono ?_
      rintro e w5 ⟨rfl, hbl5, hb5⟩
      have hX5 := (hb5.block _ (by omega)).trans HX.out
      have c5_1 := Mem.cell (v := .slice fo m cq) hX5 1 rfl
      have hsz5 := hb5.size
      have HB5 := Lib.hid (HB.out.trans (hb5.mono (by omega)))
      have HBL5 := Lib.hid hbl5
      clear hX5 hb5 hbl5 HB HX HBL
      go_wp2_with fail
      go_loopw [38] (fun i wr => ∃ k : Nat, k ≤ m ∧ i = .int .i64 k ∧ Below w.heap.size w wr ∧ w1.heap.size < wr.heap.size ∧ Hid (Bld w1.heap.size w1.heap.size (P1 ++ [UInt8.ofNat m] ++ (fs.take k).flatMap Fn.put) wr)) (fun i _ => m - (intOf i).toNat)
      case atStart => exact ⟨0, by omega, rfl, HB5.out, by omega, Lib.hid (by simpa using HBL5.out)⟩
      case round =>
        clear HB5 HBL5 hsz5 hsz2 c5_1 c2_1
        obtain ⟨q, hq, rfl, hb, hsz2, hbl⟩ := hrel
        by_cases hlt : q < m
        · have hql : q < fs.length := by rw [← HM.out]; exact hlt
          obtain ⟨b, off, c, rfl, hbl0, c0, c1, c2, hO⟩ := HF.out.row hql HM.out
          rw [← hb.cell (p := ⟨b, _, none⟩) hbl0] at c0 c1 c2
          have g1 : (0 : Int) ≤ (q : Int) := by omega
          have g2 : (q : Int) < (m : Int) := by omega
          have hA := fm_take_succ Fn.put fs hql
          have hlen := HL2.out q
          obtain ⟨k1, k2, k3, k4, -, k6, k7, k8⟩ := Fn.check_zero (H5.out fs[q] (List.getElem_mem hql))
          obtain ⟨f, hf⟩ : ∃ f, f = fs[q] := ⟨_, rfl⟩
          rw [← hf] at c0 c1 hA hO k1 k2 k3 k4 k6 k7 k8
          obtain ⟨ao, cap, rfl⟩ := hO.slice
          obtain ⟨fa, fv, fc⟩ := f
          simp only at c0 c1 c2 k1 k2 k3 k4 k6 k7 k8 hO
          obtain ⟨x, rfl⟩ : ∃ x : Nat, fa = x := ⟨fa.toNat, by omega⟩
          obtain ⟨y, rfl⟩ : ∃ x : Nat, fv = x := ⟨fv.toNat, by omega⟩
          have hput : Fn.put ⟨x, y, fc⟩ = [UInt8.ofNat x, UInt8.ofNat y, UInt8.ofNat (fc.length / 256), UInt8.ofNat (fc.length % 256)] ++ fc.flatMap putO := rfl
          rw [hput] at hA
          have hcells := four_cells x y fc.length (by omega) (by omega) (by omega)
          have hfl := flatMap_len_le putO 3 fc (fun o _ => putO_length o)
          have HCL : Hid (∀ k, ((fc.take k).flatMap putO).length ≤ k * 3) := Lib.hid (fun k => fm_take_le _ _ _ _ (fun o _ => putO_length o))
          obtain ⟨L, hL⟩ : ∃ L, L = fc.length := ⟨_, rfl⟩
          rw [← hL] at c2 hA hcells k6 k7 hO hfl
          obtain ⟨Q4, hQ4⟩ : ∃ Q, Q = [UInt8.ofNat x, UInt8.ofNat y, UInt8.ofNat (L / 256), UInt8.ofNat (L % 256)] := ⟨_, rfl⟩
          have hQl : Q4.length = 4 := by rw [hQ4]; rfl
          rw [← hQ4] at hcells hA
          obtain ⟨T, hT⟩ : ∃ T, T = (fs.take q).flatMap Fn.put := ⟨_, rfl⟩
          rw [← hT] at hA hbl hlen
          have HA := Lib.hid hA
          have HLL := Lib.hid hL
          have HC4 := Lib.hid hcells
          have w1' : IntKind.u8.wrap (x : Int) = x := wrap_u8 (by omega)
          have w2' : IntKind.u8.wrap (y : Int) = y := wrap_u8 (by omega)
          clear hf hA hput hcells hQ4 hT hL k1 k3
          have hwr := hw.below hb
          have HB := Lib.hid hb
          have HO := Lib.hid (fun W (h : Below w.heap.size w W) => OsAt.below hO h)
          have HK8 := Lib.hid k8
          clear hb hO k8
          go_wp2_with fail
          have hblA := (hbl.out.alloc (.cells #[.int .i64 (x : Int), .int .i64 (y : Int), .slice ao L cap] 43)).alloc (.cells #[.int .u8 (x : Int), .int .u8 (y : Int), .int .u8 ((L : Int) / 256), .int .u8 ((L : Int) % 256)] 5)
          have hBA := below_al (below_al HB.out (.cells #[.int .i64 (x : Int), .int .i64 (y : Int), .slice ao L cap] 43)) (.cells #[.int .u8 (x : Int), .int .u8 (y : Int), .int .u8 ((L : Int) / 256), .int .u8 ((L : Int) % 256)] 5)
          have hBr := below_al (below_al (Below.refl _ wr) (.cells #[.int .i64 (x : Int), .int .i64 (y : Int), .slice ao L cap] 43)) (.cells #[.int .u8 (x : Int), .int .u8 (y : Int), .int .u8 ((L : Int) / 256), .int .u8 ((L : Int) % 256)] 5)
          have hMA := ((Mem.nil wr).new (.cells #[.int .i64 (x : Int), .int .i64 (y : Int), .slice ao L cap] 43)).new (.cells #[.int .u8 (x : Int), .int .u8 (y : Int), .int .u8 ((L : Int) / 256), .int .u8 ((L : Int) % 256)] 5)
          rw [World.size_alloc] at hMA
          have hsA : ((wr.alloc (.cells #[.int .i64 (x : Int), .int .i64 (y : Int), .slice ao L cap] 43)).alloc (.cells #[.int .u8 (x : Int), .int .u8 (y : Int), .int .u8 ((L : Int) / 256), .int .u8 ((L : Int) % 256)] 5)).heap.size = wr.heap.size + 1 + 1 := by simp
          have hx4 : (Lib.byteCells Q4).toArray = #[.int .u8 (x : Int), .int .u8 (y : Int), .int .u8 ((L : Int) / 256), .int .u8 ((L : Int) % 256)] := by rw [HC4.out]; rfl
          refine Calls.named ?_
          intro W8 hW8
          rw [← hW8] at hblA hBA hMA hBr hsA
          have hwrite := bwrite_any w1.heap.size w1.heap.size (P1 ++ [UInt8.ofNat m] ++ T) Q4 (wr.heap.size + 1) 4 W8 hblA (by simp only [List.length_append, List.length_cons, List.length_nil]; omega) (by omega) (by rw [hx4]; exact hMA.1) (by omega) wr.heap.size _ 43 hMA.2.1 (by decide) (by omega)
          rw [hQl] at hwrite
          have hsW := hsA
          clear hblA hMA hsA hx4 hW8 hbl hc
          refine hwrite.mono ?_
          rintro e w9 ⟨rfl, hbl9, hb9, hX9⟩
          have c9 := Mem.cell (v := .slice ao L cap) hX9 2 rfl
          have HBL9 := Lib.hid hbl9
          have HB9 := Lib.hid (hBA.trans (hb9.mono (by omega)))
          have HX9 := Lib.hid hX9
          have HR9 := Lib.hid (fun k (hk : k < w1.heap.size) => (hb9.block k hk).trans (hBr.block k (by omega)))
          have hsz9 : w1.heap.size < w9.heap.size := by have := hb9.size; omega
          clear hbl9 hb9 hX9 hBA hBr hwrite HB
          go_wp2_with fail
          go_loopw [61] (fun i wr' => ∃ k : Nat, k ≤ L ∧ i = .int .i64 k ∧ Below w.heap.size w wr' ∧ w1.heap.size < wr'.heap.size ∧ Hid (Bld w1.heap.size w1.heap.size (P1 ++ [UInt8.ofNat m] ++ T ++ (Q4 ++ (fc.take k).flatMap putO)) wr')) (fun i _ => L - (intOf i).toNat)
          case atStart => exact ⟨0, by omega, rfl, HB9.out, hsz9, Lib.hid (by simpa using HBL9.out)⟩
          case round =>
            clear HB9 HBL9 HX9 hsz9 c9 hbl0 c0 c1 c2
            obtain ⟨j, hj, rfl, hb, hsz2, hbl⟩ := hrel
            by_cases hlt : j < L
            · have hjl : j < fc.length := by rw [← HLL.out]; exact hlt
              have hA2 := fm_take_succ putO fc hjl
              have hlen2 := HCL.out j
              have g1 : (0 : Int) ≤ (j : Int) := by omega
              have g2 : (j : Int) < (L : Int) := by omega
              obtain ⟨b, off, rfl, hbb, c0, c1⟩ := (HO.out _ hb).row hjl HLL.out
              have hr := HK8.out fc[j] (List.getElem_mem hjl)
              have hpl := putO_length fc[j]
              obtain ⟨o, ho⟩ : ∃ o, o = fc[j] := ⟨_, rfl⟩
              rw [← ho] at c0 c1 hA2 hpl
              clear ho hr
              obtain ⟨oc, oa⟩ := o
              simp only at c0 c1
              have hop := fun w hw => put_op oc oa w hw
              have e1 : opPut oc oa = putO (oc, oa) := rfl
              rw [e1] at hop
              obtain ⟨P, hP⟩ : ∃ P, P = putO (oc, oa) := ⟨_, rfl⟩
              rw [← hP] at hA2 hpl hop
              obtain ⟨U, hU⟩ : ∃ U, U = (fc.take j).flatMap putO := ⟨_, rfl⟩
              rw [← hU] at hA2 hbl hlen2
              have HA2 := Lib.hid hA2
              obtain ⟨sP, hsP⟩ : ∃ s, s = (⟨P.toArray⟩ : ByteArray) := ⟨_, rfl⟩
              rw [← hsP] at hop
              have HsP := Lib.hid hsP
              clear hA2 hP hU hsP e1
              have hwr := hw.below hb
              have HB := Lib.hid hb
              clear hb
              go_wp2_with fail
              refine (hop _ (hwr.o.alloc _)).mono ?_
              rintro e w10 ⟨rfl, hb3⟩
              have HB3 := Lib.hid (below_then (below_al HB.out _) hb3)
              have HBL3 := Lib.hid ((hbl.out.alloc _).below hb3)
              have hsz3 : w1.heap.size < w10.heap.size := by have := hb3.size; simp at this; omega
              clear hb3 hwr hop hbl HB
              go_wp2_with fail
              rw [HsP.out]
              refine (writeString_l w1.heap.size w1.heap.size _ P _ HBL3.out (by simp only [List.length_append, List.length_cons, List.length_nil]; omega) (by omega)).mono ?_
              rintro e w11 ⟨x, rfl, hbl4, hb4⟩
              have HBL4 : Hid (Bld w1.heap.size w1.heap.size (P1 ++ [UInt8.ofNat m] ++ T ++ (Q4 ++ (fc.take (j + 1)).flatMap putO)) w11) := Lib.hid (by rw [HA2.out, ← List.append_assoc Q4, ← List.append_assoc _ _ P]; exact hbl4)
              have HB4 := Lib.hid (HB3.out.trans (hb4.mono (by omega)))
              have hsz4 := hb4.size
              clear hb4 hbl4 HBL3 HB3 HA2
              go_wp2_with fail
              go_roundw
              case rel => exact ⟨j + 1, by omega, by go_num, HB4.out, by omega, HBL4⟩
              case measure => simp [intOf]; omega
            · have hbl := hbl.out
              rw [List.take_of_length_le (by have := HLL.out; omega), List.append_assoc _ T, ← HA.out] at hbl
              have hge : (L : Int) ≤ j := by omega
              have HB := Lib.hid hb
              have HBL := Lib.hid hbl
              clear hb hbl
              go_wp2_with fail
              go_roundw
              case rel => exact ⟨q + 1, by omega, by go_num, HB.out, hsz2, HBL⟩
              case measure => simp [intOf]; omega
        · have hbl := hbl.out
          rw [List.take_of_length_le (by have := HM.out; omega), ← HRR.out] at hbl
          have hge : (m : Int) ≤ q := by omega
          have HB := Lib.hid hb
          clear hb
          go_wp2_with fail
          refine (builderString_any _ _ _ _ hbl (by omega)).mono ?_
          rintro e w9 ⟨rfl, hb9⟩
          have HB9 := Lib.hid (HB.out.trans (hb9.mono (by omega)))
          clear hb9 hbl
          go_wp2_with fail
          go_ret
          exact ⟨rfl, HB9.out⟩
/-- image.Put -/
theorem iput_any (im : Im) (cv fv : Value) (hz : ∀ v ∈ im.cs, v.small ∧ InI64 v.n) (w : World) (hw : LaidI w) (hV : VsAt w cv im.cs) (hF : FsAt w fv im.fs) :
    Calls Tryz.prog 10 #[.agg #[cv, fv]] w fun e w' => e = .returned (.string ⟨im.put0.toArray⟩) ∧ Below w.heap.size w w' := by
  have hck := fun w' (hb : Below w.heap.size w w') => check_any im cv fv (fun v hv => (hz v hv).1) w' (hw.below hb) (hV.below hb) (hF.below hb)
  obtain ⟨co, cp, rfl⟩ := hV.slice
  obtain ⟨fo, cq, rfl⟩ := hF.slice
  unfold Im.put0
  by_cases h : im.check = 0
  · rw [if_pos h]
    rw [h] at hck
    exact iput_yes im.cs im.fs co fo _ cp _ cq h rfl rfl hz w hw hV hF hck
  · rw [if_neg h]
    exact iput_no _ _ _ _ _ _ _ h w hck
end Go.Proofs.YtecoeaeonedmnaaGreatDoor
