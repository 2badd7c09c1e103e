/- EqS, EqF, EqT: joined into one text; each part says below what it holds. -/
import Derived.Test.YtnmepcogijgbjaaGreatDoorSc
import Derived.Laws.StructEq
import Derived.Deep.QuietTactic
import Derived.Test.YtnmepcogijgbjaaGreatDoorTh
/- slices.Equal of a list with itself: values, tries. -/
namespace Go.Proofs.YtnmepcogijgbjaaGreatDoor
open Go.RowKit
structure V5 where
  k : Int
  n : Int
  nm : ByteArray
  s : ByteArray
  i : ByteArray
def V5.row (v : V5) : List Value := [.int .i64 v.k, .int .i64 v.n, .string v.nm, .string v.s, .string v.i]
structure Tr where
  f : Int
  h : Int
  a : Int
def Tr.row (v : Tr) : List Value := [.int .i64 v.f, .int .i64 v.h, .int .i64 v.a]
theorem wide_v5 (l : List V5) : Wide 5 (l.map V5.row) := by
  intro r hr
  obtain ⟨v, _, rfl⟩ := List.mem_map.1 hr
  exact ⟨rfl, by intro x hx; simp [V5.row] at hx; rcases hx with rfl | rfl | rfl | rfl | rfl <;> rfl⟩
theorem wide_tr (l : List Tr) : Wide 3 (l.map Tr.row) := by
  intro r hr
  obtain ⟨v, _, rfl⟩ := List.mem_map.1 hr
  exact ⟨rfl, by intro x hx; simp [Tr.row] at hx; rcases hx with rfl | rfl | rfl <;> rfl⟩
theorem equalIn_v (w : World) (k n : Int) (m s i : ByteArray) : (Op.equalIn 10000 28 (.agg #[.int .i64 k, .int .i64 n, .string m, .string s, .string i]) (.agg #[.int .i64 k, .int .i64 n, .string m, .string s, .string i])).run Tryz.prog w = .ok true w := by
  go_simp
theorem neq_v (w : World) (k n : Int) (m s i : ByteArray) : (binOp .neq 28 (.agg #[.int .i64 k, .int .i64 n, .string m, .string s, .string i]) (.agg #[.int .i64 k, .int .i64 n, .string m, .string s, .string i])).run Tryz.prog w = .ok (.bool false) w := by
  rw [run_neq_struct, equalIn_v]
  rfl
theorem equalIn_t (w : World) (k n m : Int) : (Op.equalIn 10000 115 (.agg #[.int .i64 k, .int .i64 n, .int .i64 m]) (.agg #[.int .i64 k, .int .i64 n, .int .i64 m])).run Tryz.prog w = .ok true w := by
  go_simp
theorem neq_t (w : World) (k n m : Int) : (binOp .neq 115 (.agg #[.int .i64 k, .int .i64 n, .int .i64 m]) (.agg #[.int .i64 k, .int .i64 n, .int .i64 m])).run Tryz.prog w = .ok (.bool false) w := by
  rw [run_neq_struct, equalIn_t]
  rfl
set_option maxRecDepth 100000 in
set_option maxHeartbeats 2000000 in
theorem eqV_same (ao : Option Addr) (n c c' : Nat) (l : List V5) (w : World) (h : SlotsAt w 5 (.slice ao n c) (l.map V5.row)) (hlen : n ≤ 9223372036854775807) :
    Calls Tryz.prog 65 #[.slice ao n c, .slice ao n c'] w fun e w' => e = .returned (.bool true) ∧ Below w.heap.size w w' := by
  have hn : n = l.length := by
    obtain ⟨_, _, e⟩ := SlotsAt.slice h
    simpa using (Value.slice.inj e).2.1
  have HN := Lib.hid hn
  have HL := Lib.hid h
  clear hn h
  have mixed : Tryz.prog.follows .mixedOrders = true := by kernel_rfl
  go_enter Tryz.func65, Tryz.ntmps65
  go_wp2_with fail
  go_loopw [13] (fun i wr => ∃ k : Nat, k ≤ n ∧ i = .int .i64 k ∧ Below w.heap.size w wr) (fun i _ => n - (intOf i).toNat)
  case atStart => exact ⟨0, by omega, rfl, Below.refl _ _⟩
  case round =>
    obtain ⟨k, hk, rfl, hb⟩ := hrel
    by_cases hlt : k < n
    · have hkl : k < l.length := by rw [← HN.out]; exact hlt
      obtain ⟨b, off, cap, e, -, hbl, hg⟩ := SlotsAt.some (HL.out.below hb) (by simp; omega)
      obtain ⟨rfl, -, -⟩ := Value.slice.inj e
      have cc : ∀ (j : Nat) (u : Value), (l[k]).row[j]? = some u → wr.cell? ⟨b, off + (k * 5 + j), none⟩ = some u := fun j u hu => hg k j (l[k]).row u (by simp [hkl]) hu
      obtain ⟨x, hx⟩ : ∃ x, l[k] = x := ⟨_, rfl⟩
      rw [hx] at cc
      have c0 : wr.cell? ⟨b, off + k * 5, none⟩ = some (.int .i64 x.k) := by rw [← Nat.add_zero (k * 5)]; exact cc 0 _ rfl
      have c1 : wr.cell? ⟨b, off + k * 5 + 1, none⟩ = some (.int .i64 x.n) := by rw [Nat.add_assoc]; exact cc 1 _ rfl
      have c2 : wr.cell? ⟨b, off + k * 5 + 2, none⟩ = some (.string x.nm) := by rw [Nat.add_assoc]; exact cc 2 _ rfl
      have c3 : wr.cell? ⟨b, off + k * 5 + 3, none⟩ = some (.string x.s) := by rw [Nat.add_assoc]; exact cc 3 _ rfl
      have c4 : wr.cell? ⟨b, off + k * 5 + 4, none⟩ = some (.string x.i) := by rw [Nat.add_assoc]; exact cc 4 _ rfl
      have g1 : (0 : Int) ≤ (k : Int) := by omega
      have g2 : (k : Int) < (n : Int) := by omega
      clear cc hg e hx
      have hN := fun w => neq_v w x.k x.n x.nm x.s x.i
      have HB := Lib.hid hb
      clear hb
      go_wp2_with fail
      go_quiet (fail)
      go_wp2_with fail
      go_roundw
      case rel => exact ⟨k + 1, by omega, by go_num, HB.out.trans ⟨rfl, rfl, rfl, Nat.le_refl _, fun _ _ => rfl⟩⟩
      case measure => simp [intOf]; omega
    · have hge : (n : Int) ≤ k := by omega
      have HB := Lib.hid hb
      clear hb
      go_wp2_with fail
      go_ret
      exact ⟨rfl, HB.out⟩
set_option maxRecDepth 100000 in
set_option maxHeartbeats 2000000 in
theorem eqT_same (ao : Option Addr) (n c c' : Nat) (l : List Tr) (w : World) (h : SlotsAt w 3 (.slice ao n c) (l.map Tr.row)) (hlen : n ≤ 9223372036854775807) :
    Calls Tryz.prog 66 #[.slice ao n c, .slice ao n c'] w fun e w' => e = .returned (.bool true) ∧ Below w.heap.size w w' := by
  have hn : n = l.length := by
    obtain ⟨_, _, e⟩ := SlotsAt.slice h
    simpa using (Value.slice.inj e).2.1
  have HN := Lib.hid hn
  have HL := Lib.hid h
  clear hn h
  have mixed : Tryz.prog.follows .mixedOrders = true := by kernel_rfl
  go_enter Tryz.func66, Tryz.ntmps66
  go_wp2_with fail
  go_loopw [13] (fun i wr => ∃ k : Nat, k ≤ n ∧ i = .int .i64 k ∧ Below w.heap.size w wr) (fun i _ => n - (intOf i).toNat)
  case atStart => exact ⟨0, by omega, rfl, Below.refl _ _⟩
  case round =>
    obtain ⟨k, hk, rfl, hb⟩ := hrel
    by_cases hlt : k < n
    · have hkl : k < l.length := by rw [← HN.out]; exact hlt
      obtain ⟨b, off, cap, e, -, hbl, hg⟩ := SlotsAt.some (HL.out.below hb) (by simp; omega)
      obtain ⟨rfl, -, -⟩ := Value.slice.inj e
      have cc : ∀ (j : Nat) (u : Value), (l[k]).row[j]? = some u → wr.cell? ⟨b, off + (k * 3 + j), none⟩ = some u := fun j u hu => hg k j (l[k]).row u (by simp [hkl]) hu
      obtain ⟨x, hx⟩ : ∃ x, l[k] = x := ⟨_, rfl⟩
      rw [hx] at cc
      have c0 : wr.cell? ⟨b, off + k * 3, none⟩ = some (.int .i64 x.f) := by rw [← Nat.add_zero (k * 3)]; exact cc 0 _ rfl
      have c1 : wr.cell? ⟨b, off + k * 3 + 1, none⟩ = some (.int .i64 x.h) := by rw [Nat.add_assoc]; exact cc 1 _ rfl
      have c2 : wr.cell? ⟨b, off + k * 3 + 2, none⟩ = some (.int .i64 x.a) := by rw [Nat.add_assoc]; exact cc 2 _ rfl
      have g1 : (0 : Int) ≤ (k : Int) := by omega
      have g2 : (k : Int) < (n : Int) := by omega
      clear cc hg e hx
      have hN := fun w => neq_t w x.f x.h x.a
      have HB := Lib.hid hb
      clear hb
      go_wp2_with fail
      go_quiet (fail)
      go_wp2_with fail
      go_roundw
      case rel => exact ⟨k + 1, by omega, by go_num, HB.out.trans ⟨rfl, rfl, rfl, Nat.le_refl _, fun _ _ => rfl⟩⟩
      case measure => simp [intOf]; omega
    · have hge : (n : Int) ≤ k := by omega
      have HB := Lib.hid hb
      clear hb
      go_wp2_with fail
      go_ret
      exact ⟨rfl, HB.out⟩
set_option maxRecDepth 100000 in
set_option maxHeartbeats 2000000 in
theorem eqS_none (ao bo : Option Addr) (c c' : Nat) (w : World) :
    Calls Tryz.prog 43 #[.slice ao 0 c, .slice bo 0 c'] w fun e w' => e = .returned (.bool true) ∧ Below w.heap.size w w' := by
  go_enter Tryz.func43, Tryz.ntmps43
  go_wp2_with fail
  go_loopw [13] (fun i wr => i = .int .i64 0 ∧ w = wr) (fun i _ => 0)
  case atStart => exact ⟨rfl, rfl⟩
  case round =>
    obtain ⟨rfl, rfl⟩ := hrel
    go_wp2_with fail
    go_ret
    exact ⟨rfl, Below.refl _ _⟩
end Go.Proofs.YtnmepcogijgbjaaGreatDoor
/- core.alike, slices.EqualFunc of frames, core.Same, thread.Same of what is the same but for its room. -/
namespace Go.Proofs.YtnmepcogijgbjaaGreatDoor
open Go.RowKit
structure Fr where
  f : Int
  p : Int
  b : Int
  m : Int
  v : Sl
def Fr.row (x : Fr) : List Value := [.int .i64 x.f, .int .i64 x.p, .int .i64 x.b, .int .u8 x.m, .slice x.v.a x.v.n x.v.c]
/-- the values of a frame lie in memory -/
def FrOk (w : World) (x : Fr) : Prop := x.v.n ≤ 9223372036854775807 ∧ ∃ l : List V5, SlotsAt w 5 (.slice x.v.a x.v.n x.v.c) (l.map V5.row)
theorem FrOk.below {w w' : World} {x : Fr} (h : FrOk w x) (hb : Below w.heap.size w w') : FrOk w' x := by
  obtain ⟨h1, l, hl⟩ := h
  exact ⟨h1, l, hl.below hb⟩
set_option maxRecDepth 100000 in
set_option maxHeartbeats 2000000 in
theorem alike_same (x : Fr) (w : World) (h : FrOk w x) :
    Calls Tryz.prog 64 #[.agg #[.int .i64 x.f, .int .i64 x.p, .int .i64 x.b, .int .u8 x.m, .slice x.v.a x.v.n x.v.c], .agg #[.int .i64 x.f, .int .i64 x.p, .int .i64 x.b, .int .u8 x.m, .slice x.v.a x.v.n x.v.c]] w fun e w' => e = .returned (.bool true) ∧ Below w.heap.size w w' := by
  obtain ⟨h1, l, hl⟩ := h
  have HS := Lib.hid fun (W : World) (hb : Below w.heap.size w W) => hl.below hb
  clear hl
  go_enter Tryz.func64, Tryz.ntmps64
  have hB0 := Below.refl w.heap.size w
  have M0 := Mem.nil w
  go_wp2_with fail
  refine Calls.named ?_
  intro W1 hW1
  have hB1_ : Below w.heap.size w W1 := by rw [hW1]; exact (below_al (below_al hB0 _) _)
  have M1_ := ((M0).new' (w.heap.size) (by rfl) (.cells #[.int .i64 x.f, .int .i64 x.p, .int .i64 x.b, .int .u8 x.m, .slice x.v.a x.v.n x.v.c] 104)).new' (w.heap.size + 1) (by simp) (.cells #[.int .i64 x.f, .int .i64 x.p, .int .i64 x.b, .int .u8 x.m, .slice x.v.a x.v.n x.v.c] 104)
  rw [← hW1] at M1_
  clear hW1
  have ZZ1_0 := Lib.hid (Mem.lt M1_.1)
  have ZZ1_1 := Lib.hid (Mem.lt M1_.2.1)
  refine (eqV_same x.v.a x.v.n x.v.c x.v.c l _ (HS.out _ hB1_) h1).mono ?_
  rintro e w1 ⟨rfl, hb1⟩
  have hB1 := below_then hB1_ hb1
  have M1 := M1_.below hb1
  clear M1_ hB1_ hb1
  have c1_0_0 := Mem.cell (v := .int .i64 x.f) M1.1 0 rfl
  have c1_0_1 := Mem.cell (v := .int .i64 x.p) M1.1 1 rfl
  have c1_0_2 := Mem.cell (v := .int .i64 x.b) M1.1 2 rfl
  have c1_0_3 := Mem.cell (v := .int .u8 x.m) M1.1 3 rfl
  have c1_0_4 := Mem.cell (v := .slice x.v.a x.v.n x.v.c) M1.1 4 rfl
  have z1_0 := Mem.lt M1.1
  have c1_1_0 := Mem.cell (v := .int .i64 x.f) M1.2.1 0 rfl
  have c1_1_1 := Mem.cell (v := .int .i64 x.p) M1.2.1 1 rfl
  have c1_1_2 := Mem.cell (v := .int .i64 x.b) M1.2.1 2 rfl
  have c1_1_3 := Mem.cell (v := .int .u8 x.m) M1.2.1 3 rfl
  have c1_1_4 := Mem.cell (v := .slice x.v.a x.v.n x.v.c) M1.2.1 4 rfl
  have z1_1 := Mem.lt M1.2.1
  go_wp2_with fail
  go_ret
  exact ⟨rfl, hB1⟩
theorem wide_fr (l : List Fr) : Wide 5 (l.map Fr.row) := by
  intro r hr
  obtain ⟨v, _, rfl⟩ := List.mem_map.1 hr
  exact ⟨rfl, by intro x hx; simp [Fr.row] at hx; rcases hx with rfl | rfl | rfl | rfl | rfl <;> rfl⟩
set_option maxRecDepth 100000 in
set_option maxHeartbeats 2000000 in
theorem eqF_same (ao : Option Addr) (n c c' : Nat) (l : List Fr) (w : World) (h : SlotsAt w 5 (.slice ao n c) (l.map Fr.row)) (hok : ∀ x ∈ l, FrOk w x) (hlen : n ≤ 9223372036854775807) :
    Calls Tryz.prog 63 #[.slice ao n c, .slice ao n c', .func (.func 64) #[] #[]] w fun e w' => e = .returned (.bool true) ∧ Below w.heap.size w w' := by
  have hn : n = l.length := by
    obtain ⟨_, _, e⟩ := SlotsAt.slice h
    simpa using (Value.slice.inj e).2.1
  have HN := Lib.hid hn
  have HL := Lib.hid h
  have HK := Lib.hid hok
  clear hn h hok
  go_enter Tryz.func63, Tryz.ntmps63
  go_wp2_with fail
  go_loopw [17] (fun i wr => ∃ k : Nat, k ≤ n ∧ i = .int .i64 k ∧ Below w.heap.size w wr) (fun i _ => n - (intOf i).toNat)
  case atStart => exact ⟨0, by omega, rfl, Below.refl _ _⟩
  case round =>
    obtain ⟨k, hk, rfl, hb⟩ := hrel
    by_cases hlt : k < n
    · have hkl : k < l.length := by rw [← HN.out]; exact hlt
      obtain ⟨b, off, cap, e, -, hbl, hg⟩ := SlotsAt.some (HL.out.below hb) (by simp; omega)
      obtain ⟨rfl, -, -⟩ := Value.slice.inj e
      have cc : ∀ (j : Nat) (u : Value), (l[k]).row[j]? = some u → wr.cell? ⟨b, off + (k * 5 + j), none⟩ = some u := fun j u hu => hg k j (l[k]).row u (by simp [hkl]) hu
      have hx0 : FrOk wr l[k] := (HK.out _ (List.getElem_mem hkl)).below hb
      obtain ⟨x, hx⟩ : ∃ x, l[k] = x := ⟨_, rfl⟩
      rw [hx] at cc hx0
      have HX := Lib.hid hx0
      have c0 : wr.cell? ⟨b, off + k * 5, none⟩ = some (.int .i64 x.f) := by rw [← Nat.add_zero (k * 5)]; exact cc 0 _ rfl
      have c1 : wr.cell? ⟨b, off + k * 5 + 1, none⟩ = some (.int .i64 x.p) := by rw [Nat.add_assoc]; exact cc 1 _ rfl
      have c2 : wr.cell? ⟨b, off + k * 5 + 2, none⟩ = some (.int .i64 x.b) := by rw [Nat.add_assoc]; exact cc 2 _ rfl
      have c3 : wr.cell? ⟨b, off + k * 5 + 3, none⟩ = some (.int .u8 x.m) := by rw [Nat.add_assoc]; exact cc 3 _ rfl
      have c4 : wr.cell? ⟨b, off + k * 5 + 4, none⟩ = some (.slice x.v.a x.v.n x.v.c) := by rw [Nat.add_assoc]; exact cc 4 _ rfl
      have g1 : (0 : Int) ≤ (k : Int) := by omega
      have g2 : (k : Int) < (n : Int) := by omega
      clear cc hg e hx hx0
      have HB := Lib.hid hb
      clear hb
      go_wp2_with fail
      refine (alike_same x _ (HX.out.below (below_al (below_al (Below.refl _ _) _) _))).mono ?_
      rintro e w2 ⟨rfl, hb2⟩
      have HB2 := Lib.hid (below_then (below_al (below_al HB.out _) _) hb2)
      clear hb2 c0 c1 c2 c3 c4
      go_wp2_with fail
      go_roundw
      case rel => exact ⟨k + 1, by omega, by go_num, HB2.out⟩
      case measure => simp [intOf]; omega
    · have hge : (n : Int) ≤ k := by omega
      have HB := Lib.hid hb
      clear hb
      go_wp2_with fail
      go_ret
      exact ⟨rfl, HB.out⟩
set_option maxRecDepth 100000 in
set_option maxHeartbeats 2000000 in
theorem coreSame_any (f s t : Sl) (fc sc tc : Nat) (lf : List Fr) (ls : List V5) (lt : List Tr) (w : World) (hf : SlotsAt w 5 (.slice f.a f.n f.c) (lf.map Fr.row)) (hs : SlotsAt w 5 (.slice s.a s.n s.c) (ls.map V5.row)) (ht : SlotsAt w 3 (.slice t.a t.n t.c) (lt.map Tr.row)) (hok : ∀ x ∈ lf, FrOk w x) (h1 : f.n ≤ 9223372036854775807) (h2 : s.n ≤ 9223372036854775807) (h3 : t.n ≤ 9223372036854775807) :
    Calls Tryz.prog 42 #[.agg #[.slice f.a f.n f.c, .slice s.a s.n s.c, .slice t.a t.n t.c], .agg #[.slice f.a f.n fc, .slice s.a s.n sc, .slice t.a t.n tc]] w fun e w' => e = .returned (.bool true) ∧ Below w.heap.size w w' := by
  have HF := Lib.hid fun (W : World) (hb : Below w.heap.size w W) => hf.below hb
  have HS := Lib.hid fun (W : World) (hb : Below w.heap.size w W) => hs.below hb
  have HT := Lib.hid fun (W : World) (hb : Below w.heap.size w W) => ht.below hb
  have HK := Lib.hid fun (W : World) (hb : Below w.heap.size w W) x (hx : x ∈ lf) => (hok x hx).below hb
  clear hf hs ht hok
  go_enter Tryz.func42, Tryz.ntmps42
  have hB0 := Below.refl w.heap.size w
  have M0 := Mem.nil w
  go_wp2_with fail
  refine Calls.named ?_
  intro W1 hW1
  have hB1_ : Below w.heap.size w W1 := by rw [hW1]; exact (below_al (below_al hB0 _) _)
  have M1_ := ((M0).new' (w.heap.size) (by rfl) (.cells #[.slice f.a f.n f.c, .slice s.a s.n s.c, .slice t.a t.n t.c] 36)).new' (w.heap.size + 1) (by simp) (.cells #[.slice f.a f.n fc, .slice s.a s.n sc, .slice t.a t.n tc] 36)
  rw [← hW1] at M1_
  clear hW1
  have ZZ1_0 := Lib.hid (Mem.lt M1_.1)
  have ZZ1_1 := Lib.hid (Mem.lt M1_.2.1)
  refine (eqF_same f.a f.n f.c fc lf _ (HF.out _ hB1_) (HK.out _ hB1_) h1).mono ?_
  rintro e w1 ⟨rfl, hb1⟩
  have hB1 := below_then hB1_ hb1
  have M1 := M1_.below hb1
  clear M1_ hB1_ hb1
  have c1_0_0 := Mem.cell (v := .slice f.a f.n fc) M1.1 0 rfl
  have c1_0_1 := Mem.cell (v := .slice s.a s.n sc) M1.1 1 rfl
  have c1_0_2 := Mem.cell (v := .slice t.a t.n tc) M1.1 2 rfl
  have z1_0 := Mem.lt M1.1
  have c1_1_0 := Mem.cell (v := .slice f.a f.n f.c) M1.2.1 0 rfl
  have c1_1_1 := Mem.cell (v := .slice s.a s.n s.c) M1.2.1 1 rfl
  have c1_1_2 := Mem.cell (v := .slice t.a t.n t.c) M1.2.1 2 rfl
  have z1_1 := Mem.lt M1.2.1
  go_wp2_with fail
  refine Calls.named ?_
  intro W2 hW2
  have hB2_ : Below w.heap.size w W2 := by rw [hW2]; exact hB1
  have M2_ := M1
  rw [← hW2] at M2_
  clear hW2
  have ZZ2_0 := Lib.hid (Mem.lt M2_.1)
  have ZZ2_1 := Lib.hid (Mem.lt M2_.2.1)
  clear c1_0_0 c1_0_1 c1_0_2 z1_0 c1_1_0 c1_1_1 c1_1_2 z1_1
  refine (eqV_same s.a s.n s.c sc ls _ (HS.out _ hB2_) h2).mono ?_
  rintro e w2 ⟨rfl, hb2⟩
  have hB2 := below_then hB2_ hb2
  have M2 := M2_.below hb2
  clear M2_ hB2_ hb2
  have c2_0_0 := Mem.cell (v := .slice f.a f.n fc) M2.1 0 rfl
  have c2_0_1 := Mem.cell (v := .slice s.a s.n sc) M2.1 1 rfl
  have c2_0_2 := Mem.cell (v := .slice t.a t.n tc) M2.1 2 rfl
  have z2_0 := Mem.lt M2.1
  have c2_1_0 := Mem.cell (v := .slice f.a f.n f.c) M2.2.1 0 rfl
  have c2_1_1 := Mem.cell (v := .slice s.a s.n s.c) M2.2.1 1 rfl
  have c2_1_2 := Mem.cell (v := .slice t.a t.n t.c) M2.2.1 2 rfl
  have z2_1 := Mem.lt M2.2.1
  go_wp2_with fail
  refine Calls.named ?_
  intro W3 hW3
  have hB3_ : Below w.heap.size w W3 := by rw [hW3]; exact hB2
  have M3_ := M2
  rw [← hW3] at M3_
  clear hW3
  have ZZ3_0 := Lib.hid (Mem.lt M3_.1)
  have ZZ3_1 := Lib.hid (Mem.lt M3_.2.1)
  clear c2_0_0 c2_0_1 c2_0_2 z2_0 c2_1_0 c2_1_1 c2_1_2 z2_1
  refine (eqT_same t.a t.n t.c tc lt _ (HT.out _ hB3_) h3).mono ?_
  rintro e w3 ⟨rfl, hb3⟩
  have hB3 := below_then hB3_ hb3
  have M3 := M3_.below hb3
  clear M3_ hB3_ hb3
  have c3_0_0 := Mem.cell (v := .slice f.a f.n fc) M3.1 0 rfl
  have c3_0_1 := Mem.cell (v := .slice s.a s.n sc) M3.1 1 rfl
  have c3_0_2 := Mem.cell (v := .slice t.a t.n tc) M3.1 2 rfl
  have z3_0 := Mem.lt M3.1
  have c3_1_0 := Mem.cell (v := .slice f.a f.n f.c) M3.2.1 0 rfl
  have c3_1_1 := Mem.cell (v := .slice s.a s.n s.c) M3.2.1 1 rfl
  have c3_1_2 := Mem.cell (v := .slice t.a t.n t.c) M3.2.1 2 rfl
  have z3_1 := Mem.lt M3.2.1
  go_wp2_with fail
  go_ret
  exact ⟨rfl, hB3⟩
end Go.Proofs.YtnmepcogijgbjaaGreatDoor
/- thread.Same of a thread with itself. -/
namespace Go.Proofs.YtnmepcogijgbjaaGreatDoor
open Go.RowKit
set_option maxRecDepth 100000 in
set_option maxHeartbeats 4000000 in
theorem sameT_gen (t : Th) (lf : List Fr) (ls : List V5) (lt : List Tr) (w : World) (hf : SlotsAt w 5 (.slice t.fr.a t.fr.n t.fr.c) (lf.map Fr.row)) (hs : SlotsAt w 5 (.slice t.sk.a t.sk.n t.sk.c) (ls.map V5.row)) (ht : SlotsAt w 3 (.slice t.tr.a t.tr.n t.tr.c) (lt.map Tr.row)) (hok : ∀ x ∈ lf, FrOk w x) (h1 : t.fr.n ≤ 9223372036854775807) (h2 : t.sk.n ≤ 9223372036854775807) (h3 : t.tr.n ≤ 9223372036854775807)
    (HSC : ∀ W, Below w.heap.size w W → Calls Tryz.prog 43 #[.slice t.sc.a t.sc.n t.sc.c, .slice t.sc.a t.sc.n t.sc.c] W fun e w' => e = .returned (.bool true) ∧ Below W.heap.size W w') :
    Calls Tryz.prog 18 #[.agg (th t), .agg (th t)] w fun e w' => e = .returned (.bool true) ∧ Below w.heap.size w w' := by
  have HC := Lib.hid fun (W : World) (hb : Below w.heap.size w W) => coreSame_any t.fr t.sk t.tr t.fr.c t.sk.c t.tr.c lf ls lt W (hf.below hb) (hs.below hb) (ht.below hb) (fun x hx => (hok x hx).below hb) h1 h2 h3
  have HS := Lib.hid HSC
  clear HSC hf hs ht hok h1 h2 h3
  go_enter Tryz.func18, Tryz.ntmps18
  have hB0 := Below.refl w.heap.size w
  have M0 := Mem.nil w
  have N0 : Mem ((w.alloc (.cells (th t) 39)).alloc (.cells (th t) 39)) [(w.heap.size + 1, .cells (th t) 39), (w.heap.size, .cells (th t) 39)] := (M0.new' (w.heap.size) (by rfl) (.cells (th t) 39)).new' (w.heap.size + 1) (by simp) (.cells (th t) 39)
  have a_0 := Mem.cell (v := .string t.id) N0.2.1 0 rfl
  have b_0 := Mem.cell (v := .string t.id) N0.1 0 rfl
  have a_1 := Mem.cell (v := .string t.pa) N0.2.1 1 rfl
  have b_1 := Mem.cell (v := .string t.pa) N0.1 1 rfl
  have a_2 := Mem.cell (v := .string t.cS) N0.2.1 2 rfl
  have b_2 := Mem.cell (v := .string t.cS) N0.1 2 rfl
  have a_3 := Mem.cell (v := .string t.cI) N0.2.1 3 rfl
  have b_3 := Mem.cell (v := .string t.cI) N0.1 3 rfl
  have a_4 := Mem.cell (v := .string t.kS) N0.2.1 4 rfl
  have b_4 := Mem.cell (v := .string t.kS) N0.1 4 rfl
  have a_5 := Mem.cell (v := .string t.kI) N0.2.1 5 rfl
  have b_5 := Mem.cell (v := .string t.kI) N0.1 5 rfl
  have a_6 := Mem.cell (v := .slice t.fr.a t.fr.n t.fr.c) N0.2.1 6 rfl
  have b_6 := Mem.cell (v := .slice t.fr.a t.fr.n t.fr.c) N0.1 6 rfl
  have a_7 := Mem.cell (v := .slice t.sk.a t.sk.n t.sk.c) N0.2.1 7 rfl
  have b_7 := Mem.cell (v := .slice t.sk.a t.sk.n t.sk.c) N0.1 7 rfl
  have a_8 := Mem.cell (v := .slice t.tr.a t.tr.n t.tr.c) N0.2.1 8 rfl
  have b_8 := Mem.cell (v := .slice t.tr.a t.tr.n t.tr.c) N0.1 8 rfl
  have a_9 := Mem.cell (v := .slice t.sc.a t.sc.n t.sc.c) N0.2.1 9 rfl
  have b_9 := Mem.cell (v := .slice t.sc.a t.sc.n t.sc.c) N0.1 9 rfl
  have a_10 := Mem.cell (v := .int .i64 t.md) N0.2.1 10 rfl
  have b_10 := Mem.cell (v := .int .i64 t.md) N0.1 10 rfl
  have a_11 := Mem.cell (v := .int .i64 t.rm) N0.2.1 11 rfl
  have b_11 := Mem.cell (v := .int .i64 t.rm) N0.1 11 rfl
  have a_12 := Mem.cell (v := .int .i64 t.st) N0.2.1 12 rfl
  have b_12 := Mem.cell (v := .int .i64 t.st) N0.1 12 rfl
  have a_13 := Mem.cell (v := .string t.on) N0.2.1 13 rfl
  have b_13 := Mem.cell (v := .string t.on) N0.1 13 rfl
  have a_14 := Mem.cell (v := .int .i64 t.vk) N0.2.1 14 rfl
  have b_14 := Mem.cell (v := .int .i64 t.vk) N0.1 14 rfl
  have a_15 := Mem.cell (v := .int .i64 t.vx) N0.2.1 15 rfl
  have b_15 := Mem.cell (v := .int .i64 t.vx) N0.1 15 rfl
  have a_16 := Mem.cell (v := .string t.vm) N0.2.1 16 rfl
  have b_16 := Mem.cell (v := .string t.vm) N0.1 16 rfl
  have a_17 := Mem.cell (v := .string t.vS) N0.2.1 17 rfl
  have b_17 := Mem.cell (v := .string t.vS) N0.1 17 rfl
  have a_18 := Mem.cell (v := .string t.vI) N0.2.1 18 rfl
  have b_18 := Mem.cell (v := .string t.vI) N0.1 18 rfl
  have a_19 := Mem.cell (v := .bool t.ex) N0.2.1 19 rfl
  have b_19 := Mem.cell (v := .bool t.ex) N0.1 19 rfl
  clear N0
  go_wp2_with fail
  refine Calls.named ?_
  intro W1 hW1
  have hB1_ : Below w.heap.size w W1 := by rw [hW1]; exact (below_al (below_al hB0 _) _)
  have M1_ : Mem W1 [(w.heap.size + 1, .cells (th (t)) 39), (w.heap.size, .cells (th (t)) 39)] := by rw [hW1]; exact ((M0).new' (w.heap.size) (by rfl) (.cells (th (t)) 39)).new' (w.heap.size + 1) (by simp) (.cells (th (t)) 39)
  clear hW1
  have ZZ1_0 := Lib.hid (Mem.lt M1_.1)
  have ZZ1_1 := Lib.hid (Mem.lt M1_.2.1)
  refine (HC.out _ hB1_).mono ?_
  rintro e w1 ⟨rfl, hb1⟩
  have hB1 := below_then hB1_ hb1
  have M1 := M1_.below hb1
  clear M1_ hB1_ hb1
  have c1_0_0 := Mem.cell (v := .string t.id) M1.1 0 rfl
  have c1_0_1 := Mem.cell (v := .string t.pa) M1.1 1 rfl
  have c1_0_2 := Mem.cell (v := .string t.cS) M1.1 2 rfl
  have c1_0_3 := Mem.cell (v := .string t.cI) M1.1 3 rfl
  have c1_0_4 := Mem.cell (v := .string t.kS) M1.1 4 rfl
  have c1_0_5 := Mem.cell (v := .string t.kI) M1.1 5 rfl
  have c1_0_6 := Mem.cell (v := .slice t.fr.a t.fr.n t.fr.c) M1.1 6 rfl
  have c1_0_7 := Mem.cell (v := .slice t.sk.a t.sk.n t.sk.c) M1.1 7 rfl
  have c1_0_8 := Mem.cell (v := .slice t.tr.a t.tr.n t.tr.c) M1.1 8 rfl
  have c1_0_9 := Mem.cell (v := .slice t.sc.a t.sc.n t.sc.c) M1.1 9 rfl
  have c1_0_10 := Mem.cell (v := .int .i64 t.md) M1.1 10 rfl
  have c1_0_11 := Mem.cell (v := .int .i64 t.rm) M1.1 11 rfl
  have c1_0_12 := Mem.cell (v := .int .i64 t.st) M1.1 12 rfl
  have c1_0_13 := Mem.cell (v := .string t.on) M1.1 13 rfl
  have c1_0_14 := Mem.cell (v := .int .i64 t.vk) M1.1 14 rfl
  have c1_0_15 := Mem.cell (v := .int .i64 t.vx) M1.1 15 rfl
  have c1_0_16 := Mem.cell (v := .string t.vm) M1.1 16 rfl
  have c1_0_17 := Mem.cell (v := .string t.vS) M1.1 17 rfl
  have c1_0_18 := Mem.cell (v := .string t.vI) M1.1 18 rfl
  have c1_0_19 := Mem.cell (v := .bool t.ex) M1.1 19 rfl
  have z1_0 := Mem.lt M1.1
  have c1_1_0 := Mem.cell (v := .string t.id) M1.2.1 0 rfl
  have c1_1_1 := Mem.cell (v := .string t.pa) M1.2.1 1 rfl
  have c1_1_2 := Mem.cell (v := .string t.cS) M1.2.1 2 rfl
  have c1_1_3 := Mem.cell (v := .string t.cI) M1.2.1 3 rfl
  have c1_1_4 := Mem.cell (v := .string t.kS) M1.2.1 4 rfl
  have c1_1_5 := Mem.cell (v := .string t.kI) M1.2.1 5 rfl
  have c1_1_6 := Mem.cell (v := .slice t.fr.a t.fr.n t.fr.c) M1.2.1 6 rfl
  have c1_1_7 := Mem.cell (v := .slice t.sk.a t.sk.n t.sk.c) M1.2.1 7 rfl
  have c1_1_8 := Mem.cell (v := .slice t.tr.a t.tr.n t.tr.c) M1.2.1 8 rfl
  have c1_1_9 := Mem.cell (v := .slice t.sc.a t.sc.n t.sc.c) M1.2.1 9 rfl
  have c1_1_10 := Mem.cell (v := .int .i64 t.md) M1.2.1 10 rfl
  have c1_1_11 := Mem.cell (v := .int .i64 t.rm) M1.2.1 11 rfl
  have c1_1_12 := Mem.cell (v := .int .i64 t.st) M1.2.1 12 rfl
  have c1_1_13 := Mem.cell (v := .string t.on) M1.2.1 13 rfl
  have c1_1_14 := Mem.cell (v := .int .i64 t.vk) M1.2.1 14 rfl
  have c1_1_15 := Mem.cell (v := .int .i64 t.vx) M1.2.1 15 rfl
  have c1_1_16 := Mem.cell (v := .string t.vm) M1.2.1 16 rfl
  have c1_1_17 := Mem.cell (v := .string t.vS) M1.2.1 17 rfl
  have c1_1_18 := Mem.cell (v := .string t.vI) M1.2.1 18 rfl
  have c1_1_19 := Mem.cell (v := .bool t.ex) M1.2.1 19 rfl
  have z1_1 := Mem.lt M1.2.1
  clear a_0 b_0 a_1 b_1 a_2 b_2 a_3 b_3 a_4 b_4 a_5 b_5 a_6 b_6 a_7 b_7 a_8 b_8 a_9 b_9 a_10 b_10 a_11 b_11 a_12 b_12 a_13 b_13 a_14 b_14 a_15 b_15 a_16 b_16 a_17 b_17 a_18 b_18 a_19 b_19
  go_wp2_with fail
  refine Calls.named ?_
  intro W2 hW2
  have hB2_ : Below w.heap.size w W2 := by rw [hW2]; exact hB1
  have M2_ := M1
  rw [← hW2] at M2_
  clear hW2
  have ZZ2_0 := Lib.hid (Mem.lt M2_.1)
  have ZZ2_1 := Lib.hid (Mem.lt M2_.2.1)
  clear c1_0_0 c1_0_1 c1_0_2 c1_0_3 c1_0_4 c1_0_5 c1_0_6 c1_0_7 c1_0_8 c1_0_9 c1_0_10 c1_0_11 c1_0_12 c1_0_13 c1_0_14 c1_0_15 c1_0_16 c1_0_17 c1_0_18 c1_0_19 z1_0 c1_1_0 c1_1_1 c1_1_2 c1_1_3 c1_1_4 c1_1_5 c1_1_6 c1_1_7 c1_1_8 c1_1_9 c1_1_10 c1_1_11 c1_1_12 c1_1_13 c1_1_14 c1_1_15 c1_1_16 c1_1_17 c1_1_18 c1_1_19 z1_1
  refine (HS.out _ hB2_).mono ?_
  rintro e w2 ⟨rfl, hb2⟩
  have hB2 := below_then hB2_ hb2
  have M2 := M2_.below hb2
  clear M2_ hB2_ hb2
  have c2_0_0 := Mem.cell (v := .string t.id) M2.1 0 rfl
  have c2_0_1 := Mem.cell (v := .string t.pa) M2.1 1 rfl
  have c2_0_2 := Mem.cell (v := .string t.cS) M2.1 2 rfl
  have c2_0_3 := Mem.cell (v := .string t.cI) M2.1 3 rfl
  have c2_0_4 := Mem.cell (v := .string t.kS) M2.1 4 rfl
  have c2_0_5 := Mem.cell (v := .string t.kI) M2.1 5 rfl
  have c2_0_6 := Mem.cell (v := .slice t.fr.a t.fr.n t.fr.c) M2.1 6 rfl
  have c2_0_7 := Mem.cell (v := .slice t.sk.a t.sk.n t.sk.c) M2.1 7 rfl
  have c2_0_8 := Mem.cell (v := .slice t.tr.a t.tr.n t.tr.c) M2.1 8 rfl
  have c2_0_9 := Mem.cell (v := .slice t.sc.a t.sc.n t.sc.c) M2.1 9 rfl
  have c2_0_10 := Mem.cell (v := .int .i64 t.md) M2.1 10 rfl
  have c2_0_11 := Mem.cell (v := .int .i64 t.rm) M2.1 11 rfl
  have c2_0_12 := Mem.cell (v := .int .i64 t.st) M2.1 12 rfl
  have c2_0_13 := Mem.cell (v := .string t.on) M2.1 13 rfl
  have c2_0_14 := Mem.cell (v := .int .i64 t.vk) M2.1 14 rfl
  have c2_0_15 := Mem.cell (v := .int .i64 t.vx) M2.1 15 rfl
  have c2_0_16 := Mem.cell (v := .string t.vm) M2.1 16 rfl
  have c2_0_17 := Mem.cell (v := .string t.vS) M2.1 17 rfl
  have c2_0_18 := Mem.cell (v := .string t.vI) M2.1 18 rfl
  have c2_0_19 := Mem.cell (v := .bool t.ex) M2.1 19 rfl
  have z2_0 := Mem.lt M2.1
  have c2_1_0 := Mem.cell (v := .string t.id) M2.2.1 0 rfl
  have c2_1_1 := Mem.cell (v := .string t.pa) M2.2.1 1 rfl
  have c2_1_2 := Mem.cell (v := .string t.cS) M2.2.1 2 rfl
  have c2_1_3 := Mem.cell (v := .string t.cI) M2.2.1 3 rfl
  have c2_1_4 := Mem.cell (v := .string t.kS) M2.2.1 4 rfl
  have c2_1_5 := Mem.cell (v := .string t.kI) M2.2.1 5 rfl
  have c2_1_6 := Mem.cell (v := .slice t.fr.a t.fr.n t.fr.c) M2.2.1 6 rfl
  have c2_1_7 := Mem.cell (v := .slice t.sk.a t.sk.n t.sk.c) M2.2.1 7 rfl
  have c2_1_8 := Mem.cell (v := .slice t.tr.a t.tr.n t.tr.c) M2.2.1 8 rfl
  have c2_1_9 := Mem.cell (v := .slice t.sc.a t.sc.n t.sc.c) M2.2.1 9 rfl
  have c2_1_10 := Mem.cell (v := .int .i64 t.md) M2.2.1 10 rfl
  have c2_1_11 := Mem.cell (v := .int .i64 t.rm) M2.2.1 11 rfl
  have c2_1_12 := Mem.cell (v := .int .i64 t.st) M2.2.1 12 rfl
  have c2_1_13 := Mem.cell (v := .string t.on) M2.2.1 13 rfl
  have c2_1_14 := Mem.cell (v := .int .i64 t.vk) M2.2.1 14 rfl
  have c2_1_15 := Mem.cell (v := .int .i64 t.vx) M2.2.1 15 rfl
  have c2_1_16 := Mem.cell (v := .string t.vm) M2.2.1 16 rfl
  have c2_1_17 := Mem.cell (v := .string t.vS) M2.2.1 17 rfl
  have c2_1_18 := Mem.cell (v := .string t.vI) M2.2.1 18 rfl
  have c2_1_19 := Mem.cell (v := .bool t.ex) M2.2.1 19 rfl
  have z2_1 := Mem.lt M2.2.1
  go_wp2_with fail
  go_ret
  exact ⟨rfl, hB2⟩
end Go.Proofs.YtnmepcogijgbjaaGreatDoor
