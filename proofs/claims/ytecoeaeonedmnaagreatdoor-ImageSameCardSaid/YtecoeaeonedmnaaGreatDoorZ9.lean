/- ImRd, ImRd2: joined into one text; each part says below what it holds. -/
import Derived.Test.YtecoeaeonedmnaaGreatDoorIm
import Derived.Laws.EntriesVeiled
import Derived.Deep.RegionHeld3
import Derived.Deep.DeepCutAuto
/- image.octet, image.from and its closures: readers that move a place on. -/
namespace Go.Proofs.YtecoeaeonedmnaaGreatDoor
open Go.RowKit
/-- all blocks but one are as they were -/
structure KA (A : Nat) (w w' : World) : Prop where
  os : w'.os = w.os
  tape : w'.tape = w.tape
  output : w'.output = w.output
  size : w.heap.size ≤ w'.heap.size
  block : ∀ k, k < w.heap.size → k ≠ A → w'.heap[k]? = w.heap[k]?
theorem KA.refl (A : Nat) (w : World) : KA A w w := ⟨rfl, rfl, rfl, Nat.le_refl _, fun _ _ _ => rfl⟩
theorem KA.trans {A : Nat} {x y z : World} (h : KA A x y) (k : KA A y z) : KA A x z :=
  ⟨k.os.trans h.os, k.tape.trans h.tape, k.output.trans h.output, Nat.le_trans h.size k.size, fun i hi hb => (k.block i (Nat.lt_of_lt_of_le hi h.size) hb).trans (h.block i hi hb)⟩
theorem KA.of_below {A : Nat} {w w' : World} (h : Below w.heap.size w w') : KA A w w' := ⟨h.os, h.tape, h.output, h.size, fun k hk _ => h.block k hk⟩
theorem KA.al {A : Nat} {w w' : World} (h : KA A w w') (o : Obj) : KA A w (w'.alloc o) := h.trans (.of_below ((Below.refl _ _).alloc (Nat.le_refl _) o))
theorem KA.set {A : Nat} {x y : World} (h : KA A x y) (i : Nat) (v : Value) : KA A x (y.setCell ⟨A, i, none⟩ v) :=
  ⟨h.os, h.tape, h.output, by simpa [World.setCell] using h.size, fun k hk hb => (Below.heap_setCell _ _ _ k hb).trans (h.block k hk hb)⟩
theorem KA.below {A n : Nat} {w0 w w' : World} (h : Below n w0 w) (k : KA A w w') (hn : n ≤ A) (hs : n ≤ w.heap.size) : Below n w0 w' :=
  ⟨k.os.trans h.os, k.tape.trans h.tape, k.output.trans h.output, Nat.le_trans h.size k.size, fun i hi => (k.block i (by omega) (by omega)).trans (h.block i hi)⟩
theorem KA.keep {A b : Nat} {w w' : World} {o : Obj} (k : KA A w w') (h : w.heap[b]? = some o) (hb : b ≠ A) : w'.heap[b]? = some o := (k.block b (Mem.lt h) hb).trans h
def posAfter {α : Type} (r : Option (α × Nat)) (p : Nat) : Nat := match r with | none => p | some (_, k) => p + k
def At (w : World) (A p : Nat) : Prop := w.heap[A]? = some (.cells #[.int .i64 (p : Int)] 3)
theorem At.below {w w' : World} {A p : Nat} (h : At w A p) (hb : Below w.heap.size w w') : At w' A p := (hb.block A (Mem.lt h)).trans h
/-- the closure's boxes: the text, the place's pointer, the reader -/
def Env (w : World) (s : ByteArray) (A b gf : Nat) (T : TypeId) : Prop := w.heap[b]? = some (.cells #[.string s] 9) ∧ w.heap[b + 1]? = some (.cells #[.pointer (some ⟨A, 0, none⟩)] 66) ∧ w.heap[b + 2]? = some (.cells #[.func (.func gf) #[] #[]] T) ∧ A < b
theorem Env.ka {w w' : World} {s : ByteArray} {A b gf : Nat} {T : TypeId} (h : Env w s A b gf T) (k : KA A w w') : Env w' s A b gf T :=
  ⟨k.keep h.1 (by have := h.2.2.2; omega), k.keep h.2.1 (by have := h.2.2.2; omega), k.keep h.2.2.1 (by have := h.2.2.2; omega), h.2.2.2⟩
def rdFn (f b : Nat) : Value := .func (.func f) #[] #[.pointer (some ⟨b + 2, 0, none⟩), .pointer (some ⟨b, 0, none⟩), .pointer (some ⟨b + 1, 0, none⟩)]
def octE (r : Option (Nat × Nat)) (p : Nat) : Ending := match r with
  | none => .returned (.tuple #[.int .i64 0, .int .i64 0, .bool false])
  | some (x, k) => .returned (.tuple #[.int .i64 (x : Nat), .int .i64 ((p + k : Nat) : Int), .bool true])
set_option maxRecDepth 100000 in
set_option maxHeartbeats 1000000 in
theorem octet_any (s : ByteArray) (p : Nat) (w : World) (hs : s.size ≤ 1152921504606846976) :
    Calls Tryz.prog 21 #[.string s, .int .i64 p] w fun e w' => e = octE (oct (s.data.toList.drop p)) p ∧ w = w' := by
  have hL : s.data.toList.length = s.size := Array.length_toList
  have h0 : (0 : Int) ≤ p := by omega
  rcases Nat.lt_or_ge p s.size with ha | ha
  · have e : oct (s.data.toList.drop p) = some ((s.data.toList.getD p 0).toNat, 1) := by rw [drop_cons (by omega)]; rfl
    rw [e]
    have hix := index_str Tryz.underlying9 s rfl p ha
    have hc2 := UInt8.toNat_lt (s.data.toList.getD p 0)
    obtain ⟨c, hc⟩ : ∃ c, c = (s.data.toList.getD p 0).toNat := ⟨_, rfl⟩
    rw [← hc] at hix hc2 ⊢
    have hR : Hid (Ending.returned (.tuple #[.int .i64 (c : Nat), .int .i64 ((p : Int) + 1), .bool true]) = octE (some (c, 1)) p) := Lib.hid (by unfold octE; simp)
    have h1 : (p : Int) < s.size := by omega
    clear hc e hL
    go_enter Tryz.func21, Tryz.ntmps21
    go_wp2
    go_ret3
    exact ⟨hR.out, rfl⟩
  · have e : oct (s.data.toList.drop p) = none := by rw [List.drop_of_length_le (by omega)]; rfl
    rw [e]
    have h1 : (s.size : Int) ≤ p := by omega
    clear e hL
    go_enter Tryz.func21, Tryz.ntmps21
    go_wp2
    go_ret3
    exact ⟨rfl, rfl⟩
set_option maxRecDepth 100000 in
set_option maxHeartbeats 1000000 in
theorem fromI_any (s : ByteArray) (A : Nat) (w : World) :
    Calls Tryz.prog 20 #[.string s, .pointer (some ⟨A, 0, none⟩), .func (.func 21) #[] #[]] w fun e w' => e = .returned (rdFn 47 w.heap.size) ∧ w' = ((w.alloc (.cells #[.string s] 9)).alloc (.cells #[.pointer (some ⟨A, 0, none⟩)] 66)).alloc (.cells #[.func (.func 21) #[] #[]] 67) := by
  have hmf : ∀ (fn : Go.Fn) (first cap : Array Value) (w : World), (Instr.makeFunc fn first cap).run Tryz.prog w = .ok (.func fn first cap) w := fun _ _ _ _ => rfl
  go_enter Tryz.func20, Tryz.ntmps20
  go_wp2
  go_ret
  exact ⟨rfl, rfl⟩
def octV (r : Option (Nat × Nat)) : Int := match r with | none => 0 | some (x, _) => (x : Nat)
set_option maxRecDepth 100000 in
set_option maxHeartbeats 1000000 in
theorem rdI_any (s : ByteArray) (A b pt : Nat) (w : World) (hs : s.size ≤ 1152921504606846976) (_ : pt ≤ s.size) (hE : Env w s A b 21 67) (hA : At w A pt) :
    Calls Tryz.prog 47 #[.pointer (some ⟨b + 2, 0, none⟩), .pointer (some ⟨b, 0, none⟩), .pointer (some ⟨b + 1, 0, none⟩)] w fun e w' => e = .returned (.tuple #[.int .i64 (octV (oct (s.data.toList.drop pt))), .bool (oct (s.data.toList.drop pt)).isSome]) ∧ At w' A (posAfter (oct (s.data.toList.drop pt)) pt) ∧ KA A w w' := by
  have ho := fun w => octet_any s pt w hs
  obtain ⟨r, hr⟩ : ∃ r, r = oct (s.data.toList.drop pt) := ⟨_, rfl⟩
  rw [← hr] at ho ⊢
  clear hr
  cases r with
  | none =>
    have ho2 : ∀ w, Calls Tryz.prog 21 #[.string s, .int .i64 pt] w fun e w' => e = .returned (.tuple #[.int .i64 0, .int .i64 0, .bool false]) ∧ w = w' := ho
    clear ho
    go_enter Tryz.func47, Tryz.ntmps47
    have hB0 := Below.refl w.heap.size w
    have M0 := Mem.nil w
    clear M0
    have M0 : Mem w [(A, .cells #[.int .i64 pt] 3), (b + 2, .cells #[.func (.func 21) #[] #[]] 67), (b, .cells #[.string s] 9), (b + 1, .cells #[.pointer (some ⟨A, 0, none⟩)] 66)] := ⟨hA, hE.2.2.1, hE.1, hE.2.1, trivial⟩
    have c0_0_0 := Mem.cell (v := .int .i64 pt) M0.1 0 rfl
    have z0_0 := Mem.lt M0.1
    have c0_1_0 := Mem.cell (v := .func (.func 21) #[] #[]) M0.2.1 0 rfl
    have z0_1 := Mem.lt M0.2.1
    have c0_2_0 := Mem.cell (v := .string s) M0.2.2.1 0 rfl
    have z0_2 := Mem.lt M0.2.2.1
    have c0_3_0 := Mem.cell (v := .pointer (some ⟨A, 0, none⟩)) M0.2.2.2.1 0 rfl
    have z0_3 := Mem.lt M0.2.2.2.1
    go_upto_region 1 with (fail)
    refine wp_named ?_
    intro w1 hW1
    have hB1 : Below w.heap.size w w1 := by rw [hW1]; exact hB0
    have M1 := M0
    rw [← hW1] at M1
    clear c0_0_0 z0_0 c0_1_0 z0_1 c0_2_0 z0_2 c0_3_0 z0_3
    clear hW1
    have c1_0_0 := Mem.cell (v := .int .i64 pt) M1.1 0 rfl
    have z1_0 := Mem.lt M1.1
    have c1_1_0 := Mem.cell (v := .func (.func 21) #[] #[]) M1.2.1 0 rfl
    have z1_1 := Mem.lt M1.2.1
    have c1_2_0 := Mem.cell (v := .string s) M1.2.2.1 0 rfl
    have z1_2 := Mem.lt M1.2.2.1
    have c1_3_0 := Mem.cell (v := .pointer (some ⟨A, 0, none⟩)) M1.2.2.2.1 0 rfl
    have z1_3 := Mem.lt M1.2.2.2.1
    have p1_0_0 := fun p : After w1 => Mem.cell (v := .int .i64 pt) (Mem.after M1 p).1 0 rfl
    have p1_1_0 := fun p : After w1 => Mem.cell (v := .func (.func 21) #[] #[]) (Mem.after M1 p).2.1 0 rfl
    have p1_2_0 := fun p : After w1 => Mem.cell (v := .string s) (Mem.after M1 p).2.2.1 0 rfl
    have p1_3_0 := fun p : After w1 => Mem.cell (v := .pointer (some ⟨A, 0, none⟩)) (Mem.after M1 p).2.2.2.1 0 rfl
    refine wp_region_after (by kernel_rfl) (by kernel_rfl) ?_
    repeat (go_big_quiet_step ((go_at_call 21; with_reducible exact After.same (ho2 _))))
    refine wpQuiet_nil ?_
    rintro _ ⟨p1, rfl⟩
    clear p1_0_0 p1_1_0 p1_2_0 p1_3_0
    clear c1_0_0 z1_0 c1_1_0 z1_1 c1_2_0 z1_2 c1_3_0 z1_3
    obtain ⟨w2, hW2⟩ : ∃ x, x = p1.world := ⟨_, rfl⟩
    have hB2 : Below w.heap.size w w2 := by rw [hW2]; exact below_then hB1 p1.h
    have M2 := M1.below p1.h
    rw [← hW2] at M2
    rw [← hW2]
    clear hW2
    clear p1
    have c2_0_0 := Mem.cell (v := .int .i64 pt) M2.1 0 rfl
    have z2_0 := Mem.lt M2.1
    have c2_1_0 := Mem.cell (v := .func (.func 21) #[] #[]) M2.2.1 0 rfl
    have z2_1 := Mem.lt M2.2.1
    have c2_2_0 := Mem.cell (v := .string s) M2.2.2.1 0 rfl
    have z2_2 := Mem.lt M2.2.2.1
    have c2_3_0 := Mem.cell (v := .pointer (some ⟨A, 0, none⟩)) M2.2.2.2.1 0 rfl
    have z2_3 := Mem.lt M2.2.2.2.1
    go_wp2
    go_ret2
    exact ⟨rfl, M2.1, .of_below hB2⟩
  | some q =>
    obtain ⟨x, k⟩ := q
    have ho2 : ∀ w, Calls Tryz.prog 21 #[.string s, .int .i64 pt] w fun e w' => e = .returned (.tuple #[.int .i64 (x : Nat), .int .i64 ((pt + k : Nat) : Int), .bool true]) ∧ w = w' := ho
    clear ho
    obtain ⟨y, hy⟩ : ∃ y : Int, y = (x : Nat) := ⟨_, rfl⟩
    obtain ⟨z, hz⟩ : ∃ y : Int, y = (pt + k : Nat) := ⟨_, rfl⟩
    rw [← hy, ← hz] at ho2
    have HY := Lib.hid hy
    have HZ := Lib.hid hz
    clear hy hz
    go_enter Tryz.func47, Tryz.ntmps47
    have hB0 := Below.refl w.heap.size w
    have M0 := Mem.nil w
    clear M0
    have M0 : Mem w [(A, .cells #[.int .i64 pt] 3), (b + 2, .cells #[.func (.func 21) #[] #[]] 67), (b, .cells #[.string s] 9), (b + 1, .cells #[.pointer (some ⟨A, 0, none⟩)] 66)] := ⟨hA, hE.2.2.1, hE.1, hE.2.1, trivial⟩
    have c0_0_0 := Mem.cell (v := .int .i64 pt) M0.1 0 rfl
    have z0_0 := Mem.lt M0.1
    have c0_1_0 := Mem.cell (v := .func (.func 21) #[] #[]) M0.2.1 0 rfl
    have z0_1 := Mem.lt M0.2.1
    have c0_2_0 := Mem.cell (v := .string s) M0.2.2.1 0 rfl
    have z0_2 := Mem.lt M0.2.2.1
    have c0_3_0 := Mem.cell (v := .pointer (some ⟨A, 0, none⟩)) M0.2.2.2.1 0 rfl
    have z0_3 := Mem.lt M0.2.2.2.1
    go_upto_region 1 with (fail)
    refine wp_named ?_
    intro w1 hW1
    have hB1 : Below w.heap.size w w1 := by rw [hW1]; exact hB0
    have M1 := M0
    rw [← hW1] at M1
    clear c0_0_0 z0_0 c0_1_0 z0_1 c0_2_0 z0_2 c0_3_0 z0_3
    clear hW1
    have c1_0_0 := Mem.cell (v := .int .i64 pt) M1.1 0 rfl
    have z1_0 := Mem.lt M1.1
    have c1_1_0 := Mem.cell (v := .func (.func 21) #[] #[]) M1.2.1 0 rfl
    have z1_1 := Mem.lt M1.2.1
    have c1_2_0 := Mem.cell (v := .string s) M1.2.2.1 0 rfl
    have z1_2 := Mem.lt M1.2.2.1
    have c1_3_0 := Mem.cell (v := .pointer (some ⟨A, 0, none⟩)) M1.2.2.2.1 0 rfl
    have z1_3 := Mem.lt M1.2.2.2.1
    have p1_0_0 := fun p : After w1 => Mem.cell (v := .int .i64 pt) (Mem.after M1 p).1 0 rfl
    have p1_1_0 := fun p : After w1 => Mem.cell (v := .func (.func 21) #[] #[]) (Mem.after M1 p).2.1 0 rfl
    have p1_2_0 := fun p : After w1 => Mem.cell (v := .string s) (Mem.after M1 p).2.2.1 0 rfl
    have p1_3_0 := fun p : After w1 => Mem.cell (v := .pointer (some ⟨A, 0, none⟩)) (Mem.after M1 p).2.2.2.1 0 rfl
    refine wp_region_after (by kernel_rfl) (by kernel_rfl) ?_
    repeat (go_big_quiet_step ((go_at_call 21; with_reducible exact After.same (ho2 _))))
    refine wpQuiet_nil ?_
    rintro _ ⟨p1, rfl⟩
    clear p1_0_0 p1_1_0 p1_2_0 p1_3_0
    clear c1_0_0 z1_0 c1_1_0 z1_1 c1_2_0 z1_2 c1_3_0 z1_3
    obtain ⟨w2, hW2⟩ : ∃ x, x = p1.world := ⟨_, rfl⟩
    have hB2 : Below w.heap.size w w2 := by rw [hW2]; exact below_then hB1 p1.h
    have M2 := M1.below p1.h
    rw [← hW2] at M2
    rw [← hW2]
    clear hW2
    clear p1
    have c2_0_0 := Mem.cell (v := .int .i64 pt) M2.1 0 rfl
    have z2_0 := Mem.lt M2.1
    have c2_1_0 := Mem.cell (v := .func (.func 21) #[] #[]) M2.2.1 0 rfl
    have z2_1 := Mem.lt M2.2.1
    have c2_2_0 := Mem.cell (v := .string s) M2.2.2.1 0 rfl
    have z2_2 := Mem.lt M2.2.2.1
    have c2_3_0 := Mem.cell (v := .pointer (some ⟨A, 0, none⟩)) M2.2.2.2.1 0 rfl
    have z2_3 := Mem.lt M2.2.2.2.1
    have f0 := Mem.free M2.1 0
    have hX := setCell_block M2.1 (i := 0) (.int .i64 z)
    have hK := (KA.of_below (A := A) hB2).set 0 (.int .i64 z)
    go_wp2
    go_ret2
    refine ⟨by rw [HY.out]; rfl, ?_, hK⟩
    unfold At posAfter
    rw [HZ.out] at hX ⊢
    exact hX
end Go.Proofs.YtecoeaeonedmnaaGreatDoor
/- image.from at op.Get and val.Get: closures that read and move a place on. -/
namespace Go.Proofs.YtecoeaeonedmnaaGreatDoor
open Go.RowKit
theorem mem_cons {W : World} {b : Nat} {o : Obj} {L : List (Nat × Obj)} (h : W.heap[b]? = some o) (k : Mem W L) : Mem W ((b, o) :: L) := ⟨h, k⟩
set_option maxRecDepth 100000 in
set_option maxHeartbeats 1000000 in
theorem fromO_any (s : ByteArray) (A : Nat) (w : World) :
    Calls Tryz.prog 23 #[.string s, .pointer (some ⟨A, 0, none⟩), .func (.func 24) #[] #[]] w fun e w' => e = .returned (rdFn 48 w.heap.size) ∧ w' = ((w.alloc (.cells #[.string s] 9)).alloc (.cells #[.pointer (some ⟨A, 0, none⟩)] 66)).alloc (.cells #[.func (.func 24) #[] #[]] 72) := by
  have hmf : ∀ (fn : Go.Fn) (first cap : Array Value) (w : World), (Instr.makeFunc fn first cap).run Tryz.prog w = .ok (.func fn first cap) w := fun _ _ _ _ => rfl
  go_enter Tryz.func23, Tryz.ntmps23
  go_wp2
  go_ret
  exact ⟨rfl, rfl⟩
set_option maxRecDepth 100000 in
set_option maxHeartbeats 2000000 in
theorem rdO_none (s : ByteArray) (A b : Nat) (pt : Int) (w : World) (hw : LaidOp w) (hE : Env w s A b 24 72) (hA : w.heap[A]? = some (.cells #[.int .i64 pt] 3))
    (ho : ∀ w, LaidOp w → Calls Tryz.prog 24 #[.string s, .int .i64 pt] w fun e w' => e = .returned (.tuple #[.agg #[.int .i64 0, .int .i64 0], .int .i64 0, .bool false]) ∧ Below w.heap.size w w') :
    Calls Tryz.prog 48 #[.pointer (some ⟨b + 2, 0, none⟩), .pointer (some ⟨b, 0, none⟩), .pointer (some ⟨b + 1, 0, none⟩)] w fun e w' => e = .returned (.tuple #[.agg #[.int .i64 0, .int .i64 0], .bool false]) ∧ w'.heap[A]? = some (.cells #[.int .i64 pt] 3) ∧ KA A w w' := by
  have hlA := Mem.lt hA
  have hl0 := Mem.lt hE.1
  have hl1 := Mem.lt hE.2.1
  have hl2 := Mem.lt hE.2.2.1
  go_enter Tryz.func48, Tryz.ntmps48
  have hB0 := Below.refl w.heap.size w
  have M0 := Mem.nil w
  have hw0 := hw
  clear M0
  have M0 : Mem w [(A, .cells #[.int .i64 pt] 3), (b + 2, .cells #[.func (.func 24) #[] #[]] 72), (b, .cells #[.string s] 9), (b + 1, .cells #[.pointer (some ⟨A, 0, none⟩)] 66)] := ⟨hA, hE.2.2.1, hE.1, hE.2.1, trivial⟩
  have c0_0_0 := Mem.cell (v := .int .i64 pt) M0.1 0 rfl
  have z0_0 := Mem.lt M0.1
  have c0_1_0 := Mem.cell (v := .func (.func 24) #[] #[]) M0.2.1 0 rfl
  have z0_1 := Mem.lt M0.2.1
  have c0_2_0 := Mem.cell (v := .string s) M0.2.2.1 0 rfl
  have z0_2 := Mem.lt M0.2.2.1
  have c0_3_0 := Mem.cell (v := .pointer (some ⟨A, 0, none⟩)) M0.2.2.2.1 0 rfl
  have z0_3 := Mem.lt M0.2.2.2.1
  go_upto_region 1 with (fail)
  refine wp_named ?_
  intro w1 hW1
  have hB1 : Below w.heap.size w w1 := by rw [hW1]; exact (below_al hB0 _)
  have hw1 : LaidOp w1 := by rw [hW1]; exact (hw.alloc _)
  have M1 := (M0).new' (w.heap.size) (by rfl) (.cells #[.int .i64 0, .int .i64 0] 45)
  rw [← hW1] at M1
  clear c0_0_0 z0_0 c0_1_0 z0_1 c0_2_0 z0_2 c0_3_0 z0_3
  clear hW1
  have c1_0_0 := Mem.cell (v := .int .i64 0) M1.1 0 rfl
  have c1_0_1 := Mem.cell (v := .int .i64 0) M1.1 1 rfl
  have z1_0 := Mem.lt M1.1
  have c1_1_0 := Mem.cell (v := .int .i64 pt) M1.2.1 0 rfl
  have z1_1 := Mem.lt M1.2.1
  have c1_2_0 := Mem.cell (v := .func (.func 24) #[] #[]) M1.2.2.1 0 rfl
  have z1_2 := Mem.lt M1.2.2.1
  have c1_3_0 := Mem.cell (v := .string s) M1.2.2.2.1 0 rfl
  have z1_3 := Mem.lt M1.2.2.2.1
  have c1_4_0 := Mem.cell (v := .pointer (some ⟨A, 0, none⟩)) M1.2.2.2.2.1 0 rfl
  have z1_4 := Mem.lt M1.2.2.2.2.1
  have hzz : w.heap.size < w1.heap.size := z1_0
  go_cut [5, 6, 7] (fun s5 s6 s7 wx => s6 = .int .i64 0 ∧ s7 = .bool false ∧ ∃ bb, s5 = .pointer (some ⟨bb, 0, none⟩) ∧ wx.heap[bb]? = some (.cells #[.int .i64 0, .int .i64 0] 45) ∧ w1.heap.size ≤ bb ∧ Below w1.heap.size w1 wx)
  case first =>
    have hr0 := cell_other (b := A) (b' := w1.heap.size) (by omega)
    have hr1 := cell_other (b := b + 2) (b' := w1.heap.size) (by omega)
    have hr2 := cell_other (b := b) (b' := w1.heap.size) (by omega)
    have hr3 := cell_other (b := b + 1) (b' := w1.heap.size) (by omega)
    go_region_held3 (fun w' => w'.cell? ⟨A, 0, none⟩ = some (.int .i64 pt) ∧ w'.cell? ⟨b + 2, 0, none⟩ = some (.func (.func 24) #[] #[]) ∧ w'.cell? ⟨b, 0, none⟩ = some (.string s) ∧ w'.cell? ⟨b + 1, 0, none⟩ = some (.pointer (some ⟨A, 0, none⟩)))
      (go_keep)
      (first | (go_at_call 24; (with_reducible refine (ho _ (hw1.below (by repeat' (first | exact Below.refl _ _ | refine below_dr ?_ | refine below_al ?_ _)))).mono ?_); rintro e wp ⟨rfl, hbp⟩; have hBp : Below w1.heap.size w1 wp := ((by repeat' (first | exact Below.refl _ _ | refine below_dr ?_ | refine below_al ?_ _)) : Below w1.heap.size w1 _).trans (hbp.mono (by first | omega | (simp <;> omega))); have hzp := hBp.size; have hs0 := cell_other (b := A) (b' := wp.heap.size) (by omega); have hs1 := cell_other (b := b + 2) (b' := wp.heap.size) (by omega); have hs2 := cell_other (b := b) (b' := wp.heap.size) (by omega); have hs3 := cell_other (b := b + 1) (b' := wp.heap.size) (by omega); have hq0 := (fun o => hbp.cell (p := ⟨A, o, none⟩) (by simp <;> omega)); have hq1 := (fun o => hbp.cell (p := ⟨b + 2, o, none⟩) (by simp <;> omega)); have hq2 := (fun o => hbp.cell (p := ⟨b, o, none⟩) (by simp <;> omega)); have hq3 := (fun o => hbp.cell (p := ⟨b + 1, o, none⟩) (by simp <;> omega)); have hgp := (fun (b o : Nat) (h : b < _) => hbp.cell (p := ⟨b, o, none⟩) h); have hfp := (fun (b o : Nat) (h : b < _) => hbp.frozen (p := ⟨b, o, none⟩) h)))
    · go_wp2_with fail
      go_meet
      exact ⟨rfl, rfl, wp.heap.size, rfl, heap_alloc_new _ _, hzp, below_al hBp _⟩
    · have hold := (hbp.block w1.heap.size (by simp)).trans (heap_alloc_new w1 _)
      have hA := set_block hold [.int .i64 0, .int .i64 0] rfl
      have hC := below_setCells hBp (b := w1.heap.size) (Nat.le_refl _) 0 [.int .i64 0, .int .i64 0]
      go_wp2_with fail
      go_meet
      exact ⟨rfl, rfl, w1.heap.size, rfl, hA, Nat.le_refl _, hC⟩
  obtain ⟨rfl, rfl, bb, rfl, hX, hbb, hbX⟩ := hcut
  obtain ⟨w2, rfl⟩ : ∃ x, x = wc := ⟨_, rfl⟩
  have hB2 := below_then hB1 hbX
  have hw2 := hw1.below hbX
  have M2 := mem_cons hX (M1.below hbX)
  clear c1_0_0 c1_0_1 z1_0 c1_1_0 z1_1 c1_2_0 z1_2 c1_3_0 z1_3 c1_4_0 z1_4
  have c2_0_0 := Mem.cell (v := .int .i64 0) M2.1 0 rfl
  have c2_0_1 := Mem.cell (v := .int .i64 0) M2.1 1 rfl
  have z2_0 := Mem.lt M2.1
  have c2_1_0 := Mem.cell (v := .int .i64 0) M2.2.1 0 rfl
  have c2_1_1 := Mem.cell (v := .int .i64 0) M2.2.1 1 rfl
  have z2_1 := Mem.lt M2.2.1
  have c2_2_0 := Mem.cell (v := .int .i64 pt) M2.2.2.1 0 rfl
  have z2_2 := Mem.lt M2.2.2.1
  have c2_3_0 := Mem.cell (v := .func (.func 24) #[] #[]) M2.2.2.2.1 0 rfl
  have z2_3 := Mem.lt M2.2.2.2.1
  have c2_4_0 := Mem.cell (v := .string s) M2.2.2.2.2.1 0 rfl
  have z2_4 := Mem.lt M2.2.2.2.2.1
  have c2_5_0 := Mem.cell (v := .pointer (some ⟨A, 0, none⟩)) M2.2.2.2.2.2.1 0 rfl
  have z2_5 := Mem.lt M2.2.2.2.2.2.1
  have hAA := M2.2.2.1
  have hRR := M2.2.1
  have hBB := M2.1
  have f0 := Mem.free hAA 0
  have f1 := fun j => Mem.free hRR j
  have hneA : A ≠ w.heap.size := by omega
  have hR2 := set_block hRR [.int .i64 0, .int .i64 0] rfl
  have hA3 := (setCells_other [.int .i64 0, .int .i64 0] 0 w2 A hneA).trans hAA
  have hKA := KA.of_below (A := A) hB2
  have hK3 : KA A w (w2.setCells w.heap.size 0 [.int .i64 0, .int .i64 0]) := by
    obtain ⟨e1, e2, e3, e4⟩ := setCells_same (b := w.heap.size) [.int .i64 0, .int .i64 0] 0 w2
    exact ⟨e1.trans hKA.os, e2.trans hKA.tape, e3.trans hKA.output, by rw [e4]; exact hKA.size, fun k hk hb => (setCells_other [.int .i64 0, .int .i64 0] 0 _ k (by omega)).trans (hKA.block k hk hb)⟩
  clear hKA
  go_wp2_with fail
  obtain ⟨W_e, hW_e⟩ : ∃ W_e, W_e = w2.setCells (w.heap.size) 0 [.int .i64 0, .int .i64 0] := ⟨_, rfl⟩
  rw [← hW_e] at hR2 hA3 hK3
  refine at_world hW_e ?_
  have k_0 := Mem.cell (v := .int .i64 0) hR2 0 rfl
  have k_1 := Mem.cell (v := .int .i64 0) hR2 1 rfl
  refine bodyPost_ret (v := .tuple #[.agg #[.int .i64 0, .int .i64 0], .bool false]) (by simp [results, Tryz.results48, go_sem, k_0, k_1]) rfl ⟨rfl, hA3, hK3⟩
set_option maxRecDepth 100000 in
set_option maxHeartbeats 2000000 in
theorem rdO_some (s : ByteArray) (A b : Nat) (pt : Int) (c : Int) (a : Int) (z : Int) (w : World) (hw : LaidOp w) (hE : Env w s A b 24 72) (hA : w.heap[A]? = some (.cells #[.int .i64 pt] 3))
    (ho : ∀ w, LaidOp w → Calls Tryz.prog 24 #[.string s, .int .i64 pt] w fun e w' => e = .returned (.tuple #[.agg #[.int .i64 c, .int .i64 a], .int .i64 z, .bool true]) ∧ Below w.heap.size w w') :
    Calls Tryz.prog 48 #[.pointer (some ⟨b + 2, 0, none⟩), .pointer (some ⟨b, 0, none⟩), .pointer (some ⟨b + 1, 0, none⟩)] w fun e w' => e = .returned (.tuple #[.agg #[.int .i64 c, .int .i64 a], .bool true]) ∧ w'.heap[A]? = some (.cells #[.int .i64 z] 3) ∧ KA A w w' := by
  have hlA := Mem.lt hA
  have hl0 := Mem.lt hE.1
  have hl1 := Mem.lt hE.2.1
  have hl2 := Mem.lt hE.2.2.1
  go_enter Tryz.func48, Tryz.ntmps48
  have hB0 := Below.refl w.heap.size w
  have M0 := Mem.nil w
  have hw0 := hw
  clear M0
  have M0 : Mem w [(A, .cells #[.int .i64 pt] 3), (b + 2, .cells #[.func (.func 24) #[] #[]] 72), (b, .cells #[.string s] 9), (b + 1, .cells #[.pointer (some ⟨A, 0, none⟩)] 66)] := ⟨hA, hE.2.2.1, hE.1, hE.2.1, trivial⟩
  have c0_0_0 := Mem.cell (v := .int .i64 pt) M0.1 0 rfl
  have z0_0 := Mem.lt M0.1
  have c0_1_0 := Mem.cell (v := .func (.func 24) #[] #[]) M0.2.1 0 rfl
  have z0_1 := Mem.lt M0.2.1
  have c0_2_0 := Mem.cell (v := .string s) M0.2.2.1 0 rfl
  have z0_2 := Mem.lt M0.2.2.1
  have c0_3_0 := Mem.cell (v := .pointer (some ⟨A, 0, none⟩)) M0.2.2.2.1 0 rfl
  have z0_3 := Mem.lt M0.2.2.2.1
  go_upto_region 1 with (fail)
  refine wp_named ?_
  intro w1 hW1
  have hB1 : Below w.heap.size w w1 := by rw [hW1]; exact (below_al hB0 _)
  have hw1 : LaidOp w1 := by rw [hW1]; exact (hw.alloc _)
  have M1 := (M0).new' (w.heap.size) (by rfl) (.cells #[.int .i64 0, .int .i64 0] 45)
  rw [← hW1] at M1
  clear c0_0_0 z0_0 c0_1_0 z0_1 c0_2_0 z0_2 c0_3_0 z0_3
  clear hW1
  have c1_0_0 := Mem.cell (v := .int .i64 0) M1.1 0 rfl
  have c1_0_1 := Mem.cell (v := .int .i64 0) M1.1 1 rfl
  have z1_0 := Mem.lt M1.1
  have c1_1_0 := Mem.cell (v := .int .i64 pt) M1.2.1 0 rfl
  have z1_1 := Mem.lt M1.2.1
  have c1_2_0 := Mem.cell (v := .func (.func 24) #[] #[]) M1.2.2.1 0 rfl
  have z1_2 := Mem.lt M1.2.2.1
  have c1_3_0 := Mem.cell (v := .string s) M1.2.2.2.1 0 rfl
  have z1_3 := Mem.lt M1.2.2.2.1
  have c1_4_0 := Mem.cell (v := .pointer (some ⟨A, 0, none⟩)) M1.2.2.2.2.1 0 rfl
  have z1_4 := Mem.lt M1.2.2.2.2.1
  have hzz : w.heap.size < w1.heap.size := z1_0
  go_cut [5, 6, 7] (fun s5 s6 s7 wx => s6 = .int .i64 z ∧ s7 = .bool true ∧ ∃ bb, s5 = .pointer (some ⟨bb, 0, none⟩) ∧ wx.heap[bb]? = some (.cells #[.int .i64 c, .int .i64 a] 45) ∧ w1.heap.size ≤ bb ∧ Below w1.heap.size w1 wx)
  case first =>
    have hr0 := cell_other (b := A) (b' := w1.heap.size) (by omega)
    have hr1 := cell_other (b := b + 2) (b' := w1.heap.size) (by omega)
    have hr2 := cell_other (b := b) (b' := w1.heap.size) (by omega)
    have hr3 := cell_other (b := b + 1) (b' := w1.heap.size) (by omega)
    go_region_held3 (fun w' => w'.cell? ⟨A, 0, none⟩ = some (.int .i64 pt) ∧ w'.cell? ⟨b + 2, 0, none⟩ = some (.func (.func 24) #[] #[]) ∧ w'.cell? ⟨b, 0, none⟩ = some (.string s) ∧ w'.cell? ⟨b + 1, 0, none⟩ = some (.pointer (some ⟨A, 0, none⟩)))
      (go_keep)
      (first | (go_at_call 24; (with_reducible refine (ho _ (hw1.below (by repeat' (first | exact Below.refl _ _ | refine below_dr ?_ | refine below_al ?_ _)))).mono ?_); rintro e wp ⟨rfl, hbp⟩; have hBp : Below w1.heap.size w1 wp := ((by repeat' (first | exact Below.refl _ _ | refine below_dr ?_ | refine below_al ?_ _)) : Below w1.heap.size w1 _).trans (hbp.mono (by first | omega | (simp <;> omega))); have hzp := hBp.size; have hs0 := cell_other (b := A) (b' := wp.heap.size) (by omega); have hs1 := cell_other (b := b + 2) (b' := wp.heap.size) (by omega); have hs2 := cell_other (b := b) (b' := wp.heap.size) (by omega); have hs3 := cell_other (b := b + 1) (b' := wp.heap.size) (by omega); have hq0 := (fun o => hbp.cell (p := ⟨A, o, none⟩) (by simp <;> omega)); have hq1 := (fun o => hbp.cell (p := ⟨b + 2, o, none⟩) (by simp <;> omega)); have hq2 := (fun o => hbp.cell (p := ⟨b, o, none⟩) (by simp <;> omega)); have hq3 := (fun o => hbp.cell (p := ⟨b + 1, o, none⟩) (by simp <;> omega)); have hgp := (fun (b o : Nat) (h : b < _) => hbp.cell (p := ⟨b, o, none⟩) h); have hfp := (fun (b o : Nat) (h : b < _) => hbp.frozen (p := ⟨b, o, none⟩) h)))
    · go_wp2_with fail
      go_meet
      exact ⟨rfl, rfl, wp.heap.size, rfl, heap_alloc_new _ _, hzp, below_al hBp _⟩
    · have hold := (hbp.block w1.heap.size (by simp)).trans (heap_alloc_new w1 _)
      have hA := set_block hold [.int .i64 c, .int .i64 a] rfl
      have hC := below_setCells hBp (b := w1.heap.size) (Nat.le_refl _) 0 [.int .i64 c, .int .i64 a]
      go_wp2_with fail
      go_meet
      exact ⟨rfl, rfl, w1.heap.size, rfl, hA, Nat.le_refl _, hC⟩
  obtain ⟨rfl, rfl, bb, rfl, hX, hbb, hbX⟩ := hcut
  obtain ⟨w2, rfl⟩ : ∃ x, x = wc := ⟨_, rfl⟩
  have hB2 := below_then hB1 hbX
  have hw2 := hw1.below hbX
  have M2 := mem_cons hX (M1.below hbX)
  clear c1_0_0 c1_0_1 z1_0 c1_1_0 z1_1 c1_2_0 z1_2 c1_3_0 z1_3 c1_4_0 z1_4
  have c2_0_0 := Mem.cell (v := .int .i64 c) M2.1 0 rfl
  have c2_0_1 := Mem.cell (v := .int .i64 a) M2.1 1 rfl
  have z2_0 := Mem.lt M2.1
  have c2_1_0 := Mem.cell (v := .int .i64 0) M2.2.1 0 rfl
  have c2_1_1 := Mem.cell (v := .int .i64 0) M2.2.1 1 rfl
  have z2_1 := Mem.lt M2.2.1
  have c2_2_0 := Mem.cell (v := .int .i64 pt) M2.2.2.1 0 rfl
  have z2_2 := Mem.lt M2.2.2.1
  have c2_3_0 := Mem.cell (v := .func (.func 24) #[] #[]) M2.2.2.2.1 0 rfl
  have z2_3 := Mem.lt M2.2.2.2.1
  have c2_4_0 := Mem.cell (v := .string s) M2.2.2.2.2.1 0 rfl
  have z2_4 := Mem.lt M2.2.2.2.2.1
  have c2_5_0 := Mem.cell (v := .pointer (some ⟨A, 0, none⟩)) M2.2.2.2.2.2.1 0 rfl
  have z2_5 := Mem.lt M2.2.2.2.2.2.1
  have hAA := M2.2.2.1
  have hRR := M2.2.1
  have hBB := M2.1
  have f0 := Mem.free hAA 0
  have f1 := fun j => Mem.free hRR j
  have hneA : A ≠ w.heap.size := by omega
  have hA2 := setCell_block hAA (i := 0) (.int .i64 z)
  have ho1 := cell_other (b := bb) (b' := A) (by omega)
  have hR1 := (setCell_other hRR hneA (i := 0) (.int .i64 z))
  have f2 := fun j => Mem.free hR1 j
  have hR2 := set_block hR1 [.int .i64 c, .int .i64 a] rfl
  have hA3 := (setCells_other [.int .i64 c, .int .i64 a] 0 (w2.setCell ⟨A, 0, none⟩ (.int .i64 z)) A hneA).trans hA2
  have hKA := (KA.of_below (A := A) hB2).set 0 (.int .i64 z)
  have hK3 : KA A w ((w2.setCell ⟨A, 0, none⟩ (.int .i64 z)).setCells w.heap.size 0 [.int .i64 c, .int .i64 a]) := by
    obtain ⟨e1, e2, e3, e4⟩ := setCells_same (b := w.heap.size) [.int .i64 c, .int .i64 a] 0 (w2.setCell ⟨A, 0, none⟩ (.int .i64 z))
    exact ⟨e1.trans hKA.os, e2.trans hKA.tape, e3.trans hKA.output, by rw [e4]; exact hKA.size, fun k hk hb => (setCells_other [.int .i64 c, .int .i64 a] 0 _ k (by omega)).trans (hKA.block k hk hb)⟩
  clear hKA
  go_wp2_with fail
  obtain ⟨W_e, hW_e⟩ : ∃ W_e, W_e = (w2.setCell ⟨A, 0, none⟩ (.int .i64 z)).setCells (w.heap.size) 0 [.int .i64 c, .int .i64 a] := ⟨_, rfl⟩
  rw [← hW_e] at hR2 hA3 hK3
  refine at_world hW_e ?_
  have k_0 := Mem.cell (v := .int .i64 c) hR2 0 rfl
  have k_1 := Mem.cell (v := .int .i64 a) hR2 1 rfl
  refine bodyPost_ret (v := .tuple #[.agg #[.int .i64 c, .int .i64 a], .bool true]) (by simp [results, Tryz.results48, go_sem, k_0, k_1]) rfl ⟨rfl, hA3, hK3⟩
set_option maxRecDepth 100000 in
set_option maxHeartbeats 1000000 in
theorem fromV_any (s : ByteArray) (A : Nat) (w : World) :
    Calls Tryz.prog 28 #[.string s, .pointer (some ⟨A, 0, none⟩), .func (.func 29) #[] #[]] w fun e w' => e = .returned (rdFn 50 w.heap.size) ∧ w' = ((w.alloc (.cells #[.string s] 9)).alloc (.cells #[.pointer (some ⟨A, 0, none⟩)] 66)).alloc (.cells #[.func (.func 29) #[] #[]] 80) := by
  have hmf : ∀ (fn : Go.Fn) (first cap : Array Value) (w : World), (Instr.makeFunc fn first cap).run Tryz.prog w = .ok (.func fn first cap) w := fun _ _ _ _ => rfl
  go_enter Tryz.func28, Tryz.ntmps28
  go_wp2
  go_ret
  exact ⟨rfl, rfl⟩
set_option maxRecDepth 100000 in
set_option maxHeartbeats 2000000 in
theorem rdV_none (s : ByteArray) (A b : Nat) (pt : Int) (w : World) (hw : LaidV w) (hE : Env w s A b 29 80) (hA : w.heap[A]? = some (.cells #[.int .i64 pt] 3))
    (ho : ∀ w, LaidV w → Calls Tryz.prog 29 #[.string s, .int .i64 pt] w fun e w' => e = .returned (.tuple #[.agg #[.int .i64 0, .int .i64 0, .string ⟨#[]⟩, .string ⟨#[]⟩, .string ⟨#[]⟩], .int .i64 0, .bool false]) ∧ Below w.heap.size w w') :
    Calls Tryz.prog 50 #[.pointer (some ⟨b + 2, 0, none⟩), .pointer (some ⟨b, 0, none⟩), .pointer (some ⟨b + 1, 0, none⟩)] w fun e w' => e = .returned (.tuple #[.agg #[.int .i64 0, .int .i64 0, .string ⟨#[]⟩, .string ⟨#[]⟩, .string ⟨#[]⟩], .bool false]) ∧ w'.heap[A]? = some (.cells #[.int .i64 pt] 3) ∧ KA A w w' := by
  have hlA := Mem.lt hA
  have hl0 := Mem.lt hE.1
  have hl1 := Mem.lt hE.2.1
  have hl2 := Mem.lt hE.2.2.1
  go_enter Tryz.func50, Tryz.ntmps50
  have hB0 := Below.refl w.heap.size w
  have M0 := Mem.nil w
  have hw0 := hw
  clear M0
  have M0 : Mem w [(A, .cells #[.int .i64 pt] 3), (b + 2, .cells #[.func (.func 29) #[] #[]] 80), (b, .cells #[.string s] 9), (b + 1, .cells #[.pointer (some ⟨A, 0, none⟩)] 66)] := ⟨hA, hE.2.2.1, hE.1, hE.2.1, trivial⟩
  have c0_0_0 := Mem.cell (v := .int .i64 pt) M0.1 0 rfl
  have z0_0 := Mem.lt M0.1
  have c0_1_0 := Mem.cell (v := .func (.func 29) #[] #[]) M0.2.1 0 rfl
  have z0_1 := Mem.lt M0.2.1
  have c0_2_0 := Mem.cell (v := .string s) M0.2.2.1 0 rfl
  have z0_2 := Mem.lt M0.2.2.1
  have c0_3_0 := Mem.cell (v := .pointer (some ⟨A, 0, none⟩)) M0.2.2.2.1 0 rfl
  have z0_3 := Mem.lt M0.2.2.2.1
  go_upto_region 1 with (fail)
  refine wp_named ?_
  intro w1 hW1
  have hB1 : Below w.heap.size w w1 := by rw [hW1]; exact (below_al hB0 _)
  have hw1 : LaidV w1 := by rw [hW1]; exact (hw.alloc _)
  have M1 := (M0).new' (w.heap.size) (by rfl) (.cells #[.int .i64 0, .int .i64 0, .string ⟨#[]⟩, .string ⟨#[]⟩, .string ⟨#[]⟩] 50)
  rw [← hW1] at M1
  clear c0_0_0 z0_0 c0_1_0 z0_1 c0_2_0 z0_2 c0_3_0 z0_3
  clear hW1
  have c1_0_0 := Mem.cell (v := .int .i64 0) M1.1 0 rfl
  have c1_0_1 := Mem.cell (v := .int .i64 0) M1.1 1 rfl
  have c1_0_2 := Mem.cell (v := .string ⟨#[]⟩) M1.1 2 rfl
  have c1_0_3 := Mem.cell (v := .string ⟨#[]⟩) M1.1 3 rfl
  have c1_0_4 := Mem.cell (v := .string ⟨#[]⟩) M1.1 4 rfl
  have z1_0 := Mem.lt M1.1
  have c1_1_0 := Mem.cell (v := .int .i64 pt) M1.2.1 0 rfl
  have z1_1 := Mem.lt M1.2.1
  have c1_2_0 := Mem.cell (v := .func (.func 29) #[] #[]) M1.2.2.1 0 rfl
  have z1_2 := Mem.lt M1.2.2.1
  have c1_3_0 := Mem.cell (v := .string s) M1.2.2.2.1 0 rfl
  have z1_3 := Mem.lt M1.2.2.2.1
  have c1_4_0 := Mem.cell (v := .pointer (some ⟨A, 0, none⟩)) M1.2.2.2.2.1 0 rfl
  have z1_4 := Mem.lt M1.2.2.2.2.1
  have hzz : w.heap.size < w1.heap.size := z1_0
  go_cut [5, 6, 7] (fun s5 s6 s7 wx => s6 = .int .i64 0 ∧ s7 = .bool false ∧ ∃ bb, s5 = .pointer (some ⟨bb, 0, none⟩) ∧ wx.heap[bb]? = some (.cells #[.int .i64 0, .int .i64 0, .string ⟨#[]⟩, .string ⟨#[]⟩, .string ⟨#[]⟩] 50) ∧ w1.heap.size ≤ bb ∧ Below w1.heap.size w1 wx)
  case first =>
    have hr0 := cell_other (b := A) (b' := w1.heap.size) (by omega)
    have hr1 := cell_other (b := b + 2) (b' := w1.heap.size) (by omega)
    have hr2 := cell_other (b := b) (b' := w1.heap.size) (by omega)
    have hr3 := cell_other (b := b + 1) (b' := w1.heap.size) (by omega)
    go_region_held3 (fun w' => w'.cell? ⟨A, 0, none⟩ = some (.int .i64 pt) ∧ w'.cell? ⟨b + 2, 0, none⟩ = some (.func (.func 29) #[] #[]) ∧ w'.cell? ⟨b, 0, none⟩ = some (.string s) ∧ w'.cell? ⟨b + 1, 0, none⟩ = some (.pointer (some ⟨A, 0, none⟩)))
      (go_keep)
      (first | (go_at_call 29; (with_reducible refine (ho _ (hw1.below (by repeat' (first | exact Below.refl _ _ | refine below_dr ?_ | refine below_al ?_ _)))).mono ?_); rintro e wp ⟨rfl, hbp⟩; have hBp : Below w1.heap.size w1 wp := ((by repeat' (first | exact Below.refl _ _ | refine below_dr ?_ | refine below_al ?_ _)) : Below w1.heap.size w1 _).trans (hbp.mono (by first | omega | (simp <;> omega))); have hzp := hBp.size; have hs0 := cell_other (b := A) (b' := wp.heap.size) (by omega); have hs1 := cell_other (b := b + 2) (b' := wp.heap.size) (by omega); have hs2 := cell_other (b := b) (b' := wp.heap.size) (by omega); have hs3 := cell_other (b := b + 1) (b' := wp.heap.size) (by omega); have hq0 := (fun o => hbp.cell (p := ⟨A, o, none⟩) (by simp <;> omega)); have hq1 := (fun o => hbp.cell (p := ⟨b + 2, o, none⟩) (by simp <;> omega)); have hq2 := (fun o => hbp.cell (p := ⟨b, o, none⟩) (by simp <;> omega)); have hq3 := (fun o => hbp.cell (p := ⟨b + 1, o, none⟩) (by simp <;> omega)); have hgp := (fun (b o : Nat) (h : b < _) => hbp.cell (p := ⟨b, o, none⟩) h); have hfp := (fun (b o : Nat) (h : b < _) => hbp.frozen (p := ⟨b, o, none⟩) h)))
    · go_wp2_with fail
      go_meet
      exact ⟨rfl, rfl, wp.heap.size, rfl, heap_alloc_new _ _, hzp, below_al hBp _⟩
    · have hold := (hbp.block w1.heap.size (by simp)).trans (heap_alloc_new w1 _)
      have hA := set_block hold [.int .i64 0, .int .i64 0, .string ⟨#[]⟩, .string ⟨#[]⟩, .string ⟨#[]⟩] rfl
      have hC := below_setCells hBp (b := w1.heap.size) (Nat.le_refl _) 0 [.int .i64 0, .int .i64 0, .string ⟨#[]⟩, .string ⟨#[]⟩, .string ⟨#[]⟩]
      go_wp2_with fail
      go_meet
      exact ⟨rfl, rfl, w1.heap.size, rfl, hA, Nat.le_refl _, hC⟩
  obtain ⟨rfl, rfl, bb, rfl, hX, hbb, hbX⟩ := hcut
  obtain ⟨w2, rfl⟩ : ∃ x, x = wc := ⟨_, rfl⟩
  have hB2 := below_then hB1 hbX
  have hw2 := hw1.below hbX
  have M2 := mem_cons hX (M1.below hbX)
  clear c1_0_0 c1_0_1 c1_0_2 c1_0_3 c1_0_4 z1_0 c1_1_0 z1_1 c1_2_0 z1_2 c1_3_0 z1_3 c1_4_0 z1_4
  have c2_0_0 := Mem.cell (v := .int .i64 0) M2.1 0 rfl
  have c2_0_1 := Mem.cell (v := .int .i64 0) M2.1 1 rfl
  have c2_0_2 := Mem.cell (v := .string ⟨#[]⟩) M2.1 2 rfl
  have c2_0_3 := Mem.cell (v := .string ⟨#[]⟩) M2.1 3 rfl
  have c2_0_4 := Mem.cell (v := .string ⟨#[]⟩) M2.1 4 rfl
  have z2_0 := Mem.lt M2.1
  have c2_1_0 := Mem.cell (v := .int .i64 0) M2.2.1 0 rfl
  have c2_1_1 := Mem.cell (v := .int .i64 0) M2.2.1 1 rfl
  have c2_1_2 := Mem.cell (v := .string ⟨#[]⟩) M2.2.1 2 rfl
  have c2_1_3 := Mem.cell (v := .string ⟨#[]⟩) M2.2.1 3 rfl
  have c2_1_4 := Mem.cell (v := .string ⟨#[]⟩) M2.2.1 4 rfl
  have z2_1 := Mem.lt M2.2.1
  have c2_2_0 := Mem.cell (v := .int .i64 pt) M2.2.2.1 0 rfl
  have z2_2 := Mem.lt M2.2.2.1
  have c2_3_0 := Mem.cell (v := .func (.func 29) #[] #[]) M2.2.2.2.1 0 rfl
  have z2_3 := Mem.lt M2.2.2.2.1
  have c2_4_0 := Mem.cell (v := .string s) M2.2.2.2.2.1 0 rfl
  have z2_4 := Mem.lt M2.2.2.2.2.1
  have c2_5_0 := Mem.cell (v := .pointer (some ⟨A, 0, none⟩)) M2.2.2.2.2.2.1 0 rfl
  have z2_5 := Mem.lt M2.2.2.2.2.2.1
  have hAA := M2.2.2.1
  have hRR := M2.2.1
  have hBB := M2.1
  have f0 := Mem.free hAA 0
  have f1 := fun j => Mem.free hRR j
  have hneA : A ≠ w.heap.size := by omega
  have hR2 := set_block hRR [.int .i64 0, .int .i64 0, .string ⟨#[]⟩, .string ⟨#[]⟩, .string ⟨#[]⟩] rfl
  have hA3 := (setCells_other [.int .i64 0, .int .i64 0, .string ⟨#[]⟩, .string ⟨#[]⟩, .string ⟨#[]⟩] 0 w2 A hneA).trans hAA
  have hKA := KA.of_below (A := A) hB2
  have hK3 : KA A w (w2.setCells w.heap.size 0 [.int .i64 0, .int .i64 0, .string ⟨#[]⟩, .string ⟨#[]⟩, .string ⟨#[]⟩]) := by
    obtain ⟨e1, e2, e3, e4⟩ := setCells_same (b := w.heap.size) [.int .i64 0, .int .i64 0, .string ⟨#[]⟩, .string ⟨#[]⟩, .string ⟨#[]⟩] 0 w2
    exact ⟨e1.trans hKA.os, e2.trans hKA.tape, e3.trans hKA.output, by rw [e4]; exact hKA.size, fun k hk hb => (setCells_other [.int .i64 0, .int .i64 0, .string ⟨#[]⟩, .string ⟨#[]⟩, .string ⟨#[]⟩] 0 _ k (by omega)).trans (hKA.block k hk hb)⟩
  clear hKA
  go_wp2_with fail
  obtain ⟨W_e, hW_e⟩ : ∃ W_e, W_e = w2.setCells (w.heap.size) 0 [.int .i64 0, .int .i64 0, .string ⟨#[]⟩, .string ⟨#[]⟩, .string ⟨#[]⟩] := ⟨_, rfl⟩
  rw [← hW_e] at hR2 hA3 hK3
  refine at_world hW_e ?_
  have k_0 := Mem.cell (v := .int .i64 0) hR2 0 rfl
  have k_1 := Mem.cell (v := .int .i64 0) hR2 1 rfl
  have k_2 := Mem.cell (v := .string ⟨#[]⟩) hR2 2 rfl
  have k_3 := Mem.cell (v := .string ⟨#[]⟩) hR2 3 rfl
  have k_4 := Mem.cell (v := .string ⟨#[]⟩) hR2 4 rfl
  refine bodyPost_ret (v := .tuple #[.agg #[.int .i64 0, .int .i64 0, .string ⟨#[]⟩, .string ⟨#[]⟩, .string ⟨#[]⟩], .bool false]) (by simp [results, Tryz.results50, go_sem, k_0, k_1, k_2, k_3, k_4]) rfl ⟨rfl, hA3, hK3⟩
set_option maxRecDepth 100000 in
set_option maxHeartbeats 2000000 in
theorem rdV_some (s : ByteArray) (A b : Nat) (pt : Int) (vk : Int) (vn : Int) (vm : ByteArray) (vs : ByteArray) (vi : ByteArray) (z : Int) (w : World) (hw : LaidV w) (hE : Env w s A b 29 80) (hA : w.heap[A]? = some (.cells #[.int .i64 pt] 3))
    (ho : ∀ w, LaidV w → Calls Tryz.prog 29 #[.string s, .int .i64 pt] w fun e w' => e = .returned (.tuple #[.agg #[.int .i64 vk, .int .i64 vn, .string vm, .string vs, .string vi], .int .i64 z, .bool true]) ∧ Below w.heap.size w w') :
    Calls Tryz.prog 50 #[.pointer (some ⟨b + 2, 0, none⟩), .pointer (some ⟨b, 0, none⟩), .pointer (some ⟨b + 1, 0, none⟩)] w fun e w' => e = .returned (.tuple #[.agg #[.int .i64 vk, .int .i64 vn, .string vm, .string vs, .string vi], .bool true]) ∧ w'.heap[A]? = some (.cells #[.int .i64 z] 3) ∧ KA A w w' := by
  have hlA := Mem.lt hA
  have hl0 := Mem.lt hE.1
  have hl1 := Mem.lt hE.2.1
  have hl2 := Mem.lt hE.2.2.1
  go_enter Tryz.func50, Tryz.ntmps50
  have hB0 := Below.refl w.heap.size w
  have M0 := Mem.nil w
  have hw0 := hw
  clear M0
  have M0 : Mem w [(A, .cells #[.int .i64 pt] 3), (b + 2, .cells #[.func (.func 29) #[] #[]] 80), (b, .cells #[.string s] 9), (b + 1, .cells #[.pointer (some ⟨A, 0, none⟩)] 66)] := ⟨hA, hE.2.2.1, hE.1, hE.2.1, trivial⟩
  have c0_0_0 := Mem.cell (v := .int .i64 pt) M0.1 0 rfl
  have z0_0 := Mem.lt M0.1
  have c0_1_0 := Mem.cell (v := .func (.func 29) #[] #[]) M0.2.1 0 rfl
  have z0_1 := Mem.lt M0.2.1
  have c0_2_0 := Mem.cell (v := .string s) M0.2.2.1 0 rfl
  have z0_2 := Mem.lt M0.2.2.1
  have c0_3_0 := Mem.cell (v := .pointer (some ⟨A, 0, none⟩)) M0.2.2.2.1 0 rfl
  have z0_3 := Mem.lt M0.2.2.2.1
  go_upto_region 1 with (fail)
  refine wp_named ?_
  intro w1 hW1
  have hB1 : Below w.heap.size w w1 := by rw [hW1]; exact (below_al hB0 _)
  have hw1 : LaidV w1 := by rw [hW1]; exact (hw.alloc _)
  have M1 := (M0).new' (w.heap.size) (by rfl) (.cells #[.int .i64 0, .int .i64 0, .string ⟨#[]⟩, .string ⟨#[]⟩, .string ⟨#[]⟩] 50)
  rw [← hW1] at M1
  clear c0_0_0 z0_0 c0_1_0 z0_1 c0_2_0 z0_2 c0_3_0 z0_3
  clear hW1
  have c1_0_0 := Mem.cell (v := .int .i64 0) M1.1 0 rfl
  have c1_0_1 := Mem.cell (v := .int .i64 0) M1.1 1 rfl
  have c1_0_2 := Mem.cell (v := .string ⟨#[]⟩) M1.1 2 rfl
  have c1_0_3 := Mem.cell (v := .string ⟨#[]⟩) M1.1 3 rfl
  have c1_0_4 := Mem.cell (v := .string ⟨#[]⟩) M1.1 4 rfl
  have z1_0 := Mem.lt M1.1
  have c1_1_0 := Mem.cell (v := .int .i64 pt) M1.2.1 0 rfl
  have z1_1 := Mem.lt M1.2.1
  have c1_2_0 := Mem.cell (v := .func (.func 29) #[] #[]) M1.2.2.1 0 rfl
  have z1_2 := Mem.lt M1.2.2.1
  have c1_3_0 := Mem.cell (v := .string s) M1.2.2.2.1 0 rfl
  have z1_3 := Mem.lt M1.2.2.2.1
  have c1_4_0 := Mem.cell (v := .pointer (some ⟨A, 0, none⟩)) M1.2.2.2.2.1 0 rfl
  have z1_4 := Mem.lt M1.2.2.2.2.1
  have hzz : w.heap.size < w1.heap.size := z1_0
  go_cut [5, 6, 7] (fun s5 s6 s7 wx => s6 = .int .i64 z ∧ s7 = .bool true ∧ ∃ bb, s5 = .pointer (some ⟨bb, 0, none⟩) ∧ wx.heap[bb]? = some (.cells #[.int .i64 vk, .int .i64 vn, .string vm, .string vs, .string vi] 50) ∧ w1.heap.size ≤ bb ∧ Below w1.heap.size w1 wx)
  case first =>
    have hr0 := cell_other (b := A) (b' := w1.heap.size) (by omega)
    have hr1 := cell_other (b := b + 2) (b' := w1.heap.size) (by omega)
    have hr2 := cell_other (b := b) (b' := w1.heap.size) (by omega)
    have hr3 := cell_other (b := b + 1) (b' := w1.heap.size) (by omega)
    go_region_held3 (fun w' => w'.cell? ⟨A, 0, none⟩ = some (.int .i64 pt) ∧ w'.cell? ⟨b + 2, 0, none⟩ = some (.func (.func 29) #[] #[]) ∧ w'.cell? ⟨b, 0, none⟩ = some (.string s) ∧ w'.cell? ⟨b + 1, 0, none⟩ = some (.pointer (some ⟨A, 0, none⟩)))
      (go_keep)
      (first | (go_at_call 29; (with_reducible refine (ho _ (hw1.below (by repeat' (first | exact Below.refl _ _ | refine below_dr ?_ | refine below_al ?_ _)))).mono ?_); rintro e wp ⟨rfl, hbp⟩; have hBp : Below w1.heap.size w1 wp := ((by repeat' (first | exact Below.refl _ _ | refine below_dr ?_ | refine below_al ?_ _)) : Below w1.heap.size w1 _).trans (hbp.mono (by first | omega | (simp <;> omega))); have hzp := hBp.size; have hs0 := cell_other (b := A) (b' := wp.heap.size) (by omega); have hs1 := cell_other (b := b + 2) (b' := wp.heap.size) (by omega); have hs2 := cell_other (b := b) (b' := wp.heap.size) (by omega); have hs3 := cell_other (b := b + 1) (b' := wp.heap.size) (by omega); have hq0 := (fun o => hbp.cell (p := ⟨A, o, none⟩) (by simp <;> omega)); have hq1 := (fun o => hbp.cell (p := ⟨b + 2, o, none⟩) (by simp <;> omega)); have hq2 := (fun o => hbp.cell (p := ⟨b, o, none⟩) (by simp <;> omega)); have hq3 := (fun o => hbp.cell (p := ⟨b + 1, o, none⟩) (by simp <;> omega)); have hgp := (fun (b o : Nat) (h : b < _) => hbp.cell (p := ⟨b, o, none⟩) h); have hfp := (fun (b o : Nat) (h : b < _) => hbp.frozen (p := ⟨b, o, none⟩) h)))
    · go_wp2_with fail
      go_meet
      exact ⟨rfl, rfl, wp.heap.size, rfl, heap_alloc_new _ _, hzp, below_al hBp _⟩
    · have hold := (hbp.block w1.heap.size (by simp)).trans (heap_alloc_new w1 _)
      have hA := set_block hold [.int .i64 vk, .int .i64 vn, .string vm, .string vs, .string vi] rfl
      have hC := below_setCells hBp (b := w1.heap.size) (Nat.le_refl _) 0 [.int .i64 vk, .int .i64 vn, .string vm, .string vs, .string vi]
      go_wp2_with fail
      go_meet
      exact ⟨rfl, rfl, w1.heap.size, rfl, hA, Nat.le_refl _, hC⟩
  obtain ⟨rfl, rfl, bb, rfl, hX, hbb, hbX⟩ := hcut
  obtain ⟨w2, rfl⟩ : ∃ x, x = wc := ⟨_, rfl⟩
  have hB2 := below_then hB1 hbX
  have hw2 := hw1.below hbX
  have M2 := mem_cons hX (M1.below hbX)
  clear c1_0_0 c1_0_1 c1_0_2 c1_0_3 c1_0_4 z1_0 c1_1_0 z1_1 c1_2_0 z1_2 c1_3_0 z1_3 c1_4_0 z1_4
  have c2_0_0 := Mem.cell (v := .int .i64 vk) M2.1 0 rfl
  have c2_0_1 := Mem.cell (v := .int .i64 vn) M2.1 1 rfl
  have c2_0_2 := Mem.cell (v := .string vm) M2.1 2 rfl
  have c2_0_3 := Mem.cell (v := .string vs) M2.1 3 rfl
  have c2_0_4 := Mem.cell (v := .string vi) M2.1 4 rfl
  have z2_0 := Mem.lt M2.1
  have c2_1_0 := Mem.cell (v := .int .i64 0) M2.2.1 0 rfl
  have c2_1_1 := Mem.cell (v := .int .i64 0) M2.2.1 1 rfl
  have c2_1_2 := Mem.cell (v := .string ⟨#[]⟩) M2.2.1 2 rfl
  have c2_1_3 := Mem.cell (v := .string ⟨#[]⟩) M2.2.1 3 rfl
  have c2_1_4 := Mem.cell (v := .string ⟨#[]⟩) M2.2.1 4 rfl
  have z2_1 := Mem.lt M2.2.1
  have c2_2_0 := Mem.cell (v := .int .i64 pt) M2.2.2.1 0 rfl
  have z2_2 := Mem.lt M2.2.2.1
  have c2_3_0 := Mem.cell (v := .func (.func 29) #[] #[]) M2.2.2.2.1 0 rfl
  have z2_3 := Mem.lt M2.2.2.2.1
  have c2_4_0 := Mem.cell (v := .string s) M2.2.2.2.2.1 0 rfl
  have z2_4 := Mem.lt M2.2.2.2.2.1
  have c2_5_0 := Mem.cell (v := .pointer (some ⟨A, 0, none⟩)) M2.2.2.2.2.2.1 0 rfl
  have z2_5 := Mem.lt M2.2.2.2.2.2.1
  have hAA := M2.2.2.1
  have hRR := M2.2.1
  have hBB := M2.1
  have f0 := Mem.free hAA 0
  have f1 := fun j => Mem.free hRR j
  have hneA : A ≠ w.heap.size := by omega
  have hA2 := setCell_block hAA (i := 0) (.int .i64 z)
  have ho1 := cell_other (b := bb) (b' := A) (by omega)
  have hR1 := (setCell_other hRR hneA (i := 0) (.int .i64 z))
  have f2 := fun j => Mem.free hR1 j
  have hR2 := set_block hR1 [.int .i64 vk, .int .i64 vn, .string vm, .string vs, .string vi] rfl
  have hA3 := (setCells_other [.int .i64 vk, .int .i64 vn, .string vm, .string vs, .string vi] 0 (w2.setCell ⟨A, 0, none⟩ (.int .i64 z)) A hneA).trans hA2
  have hKA := (KA.of_below (A := A) hB2).set 0 (.int .i64 z)
  have hK3 : KA A w ((w2.setCell ⟨A, 0, none⟩ (.int .i64 z)).setCells w.heap.size 0 [.int .i64 vk, .int .i64 vn, .string vm, .string vs, .string vi]) := by
    obtain ⟨e1, e2, e3, e4⟩ := setCells_same (b := w.heap.size) [.int .i64 vk, .int .i64 vn, .string vm, .string vs, .string vi] 0 (w2.setCell ⟨A, 0, none⟩ (.int .i64 z))
    exact ⟨e1.trans hKA.os, e2.trans hKA.tape, e3.trans hKA.output, by rw [e4]; exact hKA.size, fun k hk hb => (setCells_other [.int .i64 vk, .int .i64 vn, .string vm, .string vs, .string vi] 0 _ k (by omega)).trans (hKA.block k hk hb)⟩
  clear hKA
  go_wp2_with fail
  obtain ⟨W_e, hW_e⟩ : ∃ W_e, W_e = (w2.setCell ⟨A, 0, none⟩ (.int .i64 z)).setCells (w.heap.size) 0 [.int .i64 vk, .int .i64 vn, .string vm, .string vs, .string vi] := ⟨_, rfl⟩
  rw [← hW_e] at hR2 hA3 hK3
  refine at_world hW_e ?_
  have k_0 := Mem.cell (v := .int .i64 vk) hR2 0 rfl
  have k_1 := Mem.cell (v := .int .i64 vn) hR2 1 rfl
  have k_2 := Mem.cell (v := .string vm) hR2 2 rfl
  have k_3 := Mem.cell (v := .string vs) hR2 3 rfl
  have k_4 := Mem.cell (v := .string vi) hR2 4 rfl
  refine bodyPost_ret (v := .tuple #[.agg #[.int .i64 vk, .int .i64 vn, .string vm, .string vs, .string vi], .bool true]) (by simp [results, Tryz.results50, go_sem, k_0, k_1, k_2, k_3, k_4]) rfl ⟨rfl, hA3, hK3⟩
def opVal (r : Option ((Int × Int) × Nat)) : Value := match r with | none => .agg #[.int .i64 0, .int .i64 0] | some (o, _) => .agg (orow o).toArray
def valVal (r : Option (Vl × Nat)) : Value := match r with | none => .agg #[.int .i64 0, .int .i64 0, .string ⟨#[]⟩, .string ⟨#[]⟩, .string ⟨#[]⟩] | some (v, _) => .agg (vrow v).toArray
theorem rdO_any (s : ByteArray) (A b p : Nat) (w : World) (hs : s.size ≤ 1152921504606846976) (hw : LaidI w) (hE : Env w s A b 24 72) (hA : At w A p) :
    Calls Tryz.prog 48 #[.pointer (some ⟨b + 2, 0, none⟩), .pointer (some ⟨b, 0, none⟩), .pointer (some ⟨b + 1, 0, none⟩)] w fun e w' => e = .returned (.tuple #[opVal (opP (s.data.toList.drop p)), .bool (opP (s.data.toList.drop p)).isSome]) ∧ At w' A (posAfter (opP (s.data.toList.drop p)) p) ∧ KA A w w' := by
  have hg := fun w hw => oget_t s p w (by omega) hw
  rw [opGet_shift] at hg
  cases h : opP (s.data.toList.drop p) with
  | none =>
    rw [h] at hg
    exact rdO_none s A b p w hw.o hE hA hg
  | some q =>
    obtain ⟨⟨c, a⟩, k⟩ := q
    rw [h] at hg
    refine (rdO_some s A b p c a _ w hw.o hE hA hg).mono ?_
    rintro e w' ⟨rfl, h1, h2⟩
    refine ⟨rfl, ?_, h2⟩
    unfold At posAfter
    rw [h1]
    congr 4
theorem rdV_any (s : ByteArray) (A b p : Nat) (w : World) (hs : s.size ≤ 1152921504606846976) (hw : LaidI w) (hE : Env w s A b 29 80) (hA : At w A p) :
    Calls Tryz.prog 50 #[.pointer (some ⟨b + 2, 0, none⟩), .pointer (some ⟨b, 0, none⟩), .pointer (some ⟨b + 1, 0, none⟩)] w fun e w' => e = .returned (.tuple #[valVal (getV (s.data.toList.drop p)), .bool (getV (s.data.toList.drop p)).isSome]) ∧ At w' A (posAfter (getV (s.data.toList.drop p)) p) ∧ KA A w w' := by
  have hg := fun w hw => vget_any s p w hs hw
  cases h : getV (s.data.toList.drop p) with
  | none =>
    rw [h] at hg
    exact rdV_none s A b p w hw.v hE hA hg
  | some q =>
    obtain ⟨⟨k, n, m, ⟨S, I⟩⟩, j⟩ := q
    rw [h] at hg
    refine (rdV_some s A b p k n _ _ _ _ w hw.v hE hA hg).mono ?_
    rintro e w' ⟨rfl, h1, h2⟩
    exact ⟨rfl, h1, h2⟩
end Go.Proofs.YtecoeaeonedmnaaGreatDoor
