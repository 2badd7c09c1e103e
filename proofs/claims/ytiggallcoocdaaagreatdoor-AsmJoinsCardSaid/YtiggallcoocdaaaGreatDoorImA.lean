/- Programs in memory; image.checkFun, image.Check. -/
import Derived.Test.YtiggallcoocdaaaGreatDoorZ1
import Derived.Test.YtiggallcoocdaaaGreatDoorZ2
import Derived.Test.YtiggallcoocdaaaGreatDoorValA
import Derived.Test.YtiggallcoocdaaaGreatDoorOpWalkA
namespace Go.Proofs.YtiggallcoocdaaaGreatDoor
open Go.RowKit
structure LaidI (w : World) : Prop where
  v : LaidV w
  o : LaidOp w
theorem LaidI.below {w w' : World} (h : LaidI w) (hb : Below w.heap.size w w') : LaidI w' := ⟨h.v.below hb, h.o.below hb⟩
theorem LaidI.alloc {w : World} (h : LaidI w) (o : Obj) : LaidI (w.alloc o) := ⟨h.v.alloc o, h.o.alloc o⟩
theorem LaidI.after {w : World} (h : LaidI w) (p : After w) : LaidI p.world := h.below p.h
def vrow (v : Vl) : List Value := [.int .i64 v.k, .int .i64 v.n, .string ⟨v.nm.toArray⟩, .string ⟨v.l.S.toArray⟩, .string ⟨v.l.I.toArray⟩]
def orow (o : Int × Int) : List Value := [.int .i64 o.1, .int .i64 o.2]
def frow (f : Fn) (c : Value) : List Value := [.int .i64 f.a, .int .i64 f.v, c]
def VsAt (w : World) (v : Value) (l : List Vl) : Prop := SlotsAt w 5 v (l.map vrow)
def OsAt (w : World) (v : Value) (l : List (Int × Int)) : Prop := SlotsAt w 2 v (l.map orow)
def FsAt (w : World) (v : Value) (l : List Fn) : Prop := ∃ rows : List (List Value), rows.length = l.length ∧ SlotsAt w 3 v rows ∧ ∀ (i : Nat) (f : Fn), l[i]? = some f → ∃ c, rows[i]? = some (frow f c) ∧ OsAt w c f.c
theorem VsAt.below {w w' : World} {v : Value} {l : List Vl} (h : VsAt w v l) (hb : Below w.heap.size w w') : VsAt w' v l := SlotsAt.below h hb
theorem OsAt.below {w w' : World} {v : Value} {l : List (Int × Int)} (h : OsAt w v l) (hb : Below w.heap.size w w') : OsAt w' v l := SlotsAt.below h hb
theorem FsAt.below {w w' : World} {v : Value} {l : List Fn} (h : FsAt w v l) (hb : Below w.heap.size w w') : FsAt w' v l := by
  obtain ⟨rows, h1, h2, h3⟩ := h
  refine ⟨rows, h1, h2.below hb, fun i f hi => ?_⟩
  obtain ⟨c, hc, ho⟩ := h3 i f hi
  exact ⟨c, hc, ho.below hb⟩
theorem slots_row {w : World} {k : Nat} {ao : Option Addr} {n cap : Nat} {l : List (List Value)} (h : SlotsAt w k (.slice ao n cap) l) (hl : 0 < n) :
    ∃ b off, ao = some ⟨b, off, none⟩ ∧ n = l.length ∧ b < w.heap.size ∧ ∀ (i j : Nat) r u, l[i]? = some r → r[j]? = some u → w.cell? ⟨b, off + i * k + j, none⟩ = some u := by
  rcases h.2 with ⟨⟨ao', cap'', hv⟩, h0⟩ | ⟨b, off, cap', hv, _, hb, _⟩
  · cases hv; omega
  · simp only [Value.slice.injEq] at hv
    obtain ⟨rfl, rfl, rfl⟩ := hv
    obtain ⟨b2, off2, cap2, hv2, _, _, hg⟩ := SlotsAt.some h hl
    simp only [Value.slice.injEq, Option.some.injEq, Addr.mk.injEq] at hv2
    obtain ⟨⟨rfl, rfl, _⟩, _, rfl⟩ := hv2
    exact ⟨b, off, rfl, rfl, hb, fun i j r u hi hj => by rw [Nat.add_assoc]; exact hg i j r u hi hj⟩
theorem OsAt.row {w : World} {ao : Option Addr} {n cap : Nat} {l : List (Int × Int)} (h : OsAt w (.slice ao n cap) l) {k : Nat} (hk : k < l.length) (hn : n = l.length) :
    ∃ b off, ao = some ⟨b, off, none⟩ ∧ b < w.heap.size ∧ w.cell? ⟨b, off + k * 2, none⟩ = some (.int .i64 l[k].1) ∧ w.cell? ⟨b, off + k * 2 + 1, none⟩ = some (.int .i64 l[k].2) := by
  obtain ⟨b, off, h1, -, h3, h4⟩ := slots_row h (by omega)
  have hr : (l.map orow)[k]? = some (orow l[k]) := by rw [List.getElem?_map, List.getElem?_eq_getElem hk]; rfl
  exact ⟨b, off, h1, h3, h4 k 0 _ _ hr rfl, h4 k 1 _ _ hr rfl⟩
theorem VsAt.row {w : World} {ao : Option Addr} {n cap : Nat} {l : List Vl} (h : VsAt w (.slice ao n cap) l) {k : Nat} (hk : k < l.length) (hn : n = l.length) :
    ∃ b off, ao = some ⟨b, off, none⟩ ∧ b < w.heap.size ∧ w.cell? ⟨b, off + k * 5, none⟩ = some (.int .i64 l[k].k) ∧ w.cell? ⟨b, off + k * 5 + 1, none⟩ = some (.int .i64 l[k].n) ∧ w.cell? ⟨b, off + k * 5 + 2, none⟩ = some (.string ⟨l[k].nm.toArray⟩) ∧ w.cell? ⟨b, off + k * 5 + 3, none⟩ = some (.string ⟨l[k].l.S.toArray⟩) ∧ w.cell? ⟨b, off + k * 5 + 4, none⟩ = some (.string ⟨l[k].l.I.toArray⟩) := by
  obtain ⟨b, off, h1, -, h3, h4⟩ := slots_row h (by omega)
  have hr : (l.map vrow)[k]? = some (vrow l[k]) := by rw [List.getElem?_map, List.getElem?_eq_getElem hk]; rfl
  exact ⟨b, off, h1, h3, h4 k 0 _ _ hr rfl, h4 k 1 _ _ hr rfl, h4 k 2 _ _ hr rfl, h4 k 3 _ _ hr rfl, h4 k 4 _ _ hr rfl⟩
theorem FsAt.row {w : World} {ao : Option Addr} {n cap : Nat} {l : List Fn} (h : FsAt w (.slice ao n cap) l) {k : Nat} (hk : k < l.length) (hn : n = l.length) :
    ∃ b off c, ao = some ⟨b, off, none⟩ ∧ b < w.heap.size ∧ w.cell? ⟨b, off + k * 3, none⟩ = some (.int .i64 l[k].a) ∧ w.cell? ⟨b, off + k * 3 + 1, none⟩ = some (.int .i64 l[k].v) ∧ w.cell? ⟨b, off + k * 3 + 2, none⟩ = some c ∧ OsAt w c l[k].c := by
  obtain ⟨rows, g1, g2, g3⟩ := h
  obtain ⟨b, off, h1, -, h3, h4⟩ := slots_row g2 (by omega)
  obtain ⟨c, hc, ho⟩ := g3 k l[k] (List.getElem?_eq_getElem hk)
  exact ⟨b, off, c, h1, h3, h4 k 0 _ _ hc rfl, h4 k 1 _ _ hc rfl, h4 k 2 _ _ hc rfl, ho⟩
theorem OsAt.slice {w : World} {v : Value} {l : List (Int × Int)} (h : OsAt w v l) : ∃ ao cap, v = .slice ao l.length cap := by
  obtain ⟨ao, cap, e⟩ := SlotsAt.slice h
  exact ⟨ao, cap, by rw [e, List.length_map]⟩
theorem VsAt.slice {w : World} {v : Value} {l : List Vl} (h : VsAt w v l) : ∃ ao cap, v = .slice ao l.length cap := by
  obtain ⟨ao, cap, e⟩ := SlotsAt.slice h
  exact ⟨ao, cap, by rw [e, List.length_map]⟩
theorem FsAt.slice {w : World} {v : Value} {l : List Fn} (h : FsAt w v l) : ∃ ao cap, v = .slice ao l.length cap := by
  obtain ⟨rows, h1, h2, _⟩ := h
  obtain ⟨ao, cap, e⟩ := SlotsAt.slice h2
  exact ⟨ao, cap, by rw [e, h1]⟩
theorem all_take_succ {α : Type} (p : α → Bool) (l : List α) {k : Nat} (hk : k < l.length) : (l.take (k + 1)).all p = ((l.take k).all p && p l[k]) := by
  rw [List.take_add_one, List.all_append, List.getElem?_eq_getElem hk]
  simp
set_option maxRecDepth 100000 in
set_option maxHeartbeats 1000000 in
theorem cf_arg (a v : Int) (ao : Option Addr) (n cap : Nat) (h : a < 0 ∨ 16 < a ∨ v < 0 ∨ 16 < v ∨ 16 < a + v) (w : World) :
    Calls Tryz.prog 35 #[.agg #[.int .i64 a, .int .i64 v, .slice ao n cap]] w fun e w' => e = .returned (.int .i64 1) ∧ Below w.heap.size w w' := by
  by_cases h1 : a < 0
  · clear h
    go_enter Tryz.func35, Tryz.ntmps35
    have hB0 := Below.refl w.heap.size w
    have M0 := Mem.nil w
    go_wp2_with fail
    go_ret
    exact ⟨rfl, (below_al hB0 _)⟩
  · by_cases h2 : 16 < a
    · clear h
      go_enter Tryz.func35, Tryz.ntmps35
      have hB0 := Below.refl w.heap.size w
      have M0 := Mem.nil w
      go_wp2_with fail
      go_ret
      exact ⟨rfl, (below_al hB0 _)⟩
    · by_cases h3 : v < 0
      · clear h
        go_enter Tryz.func35, Tryz.ntmps35
        have hB0 := Below.refl w.heap.size w
        have M0 := Mem.nil w
        go_wp2_with fail
        go_ret
        exact ⟨rfl, (below_al hB0 _)⟩
      · by_cases h4 : 16 < v
        · clear h
          go_enter Tryz.func35, Tryz.ntmps35
          have hB0 := Below.refl w.heap.size w
          have M0 := Mem.nil w
          go_wp2_with fail
          go_ret
          exact ⟨rfl, (below_al hB0 _)⟩
        · have h5 : 16 < a + v := by omega
          clear h
          go_enter Tryz.func35, Tryz.ntmps35
          have hB0 := Below.refl w.heap.size w
          have M0 := Mem.nil w
          go_wp2_with fail
          go_ret
          exact ⟨rfl, (below_al hB0 _)⟩
set_option maxRecDepth 100000 in
set_option maxHeartbeats 1000000 in
theorem cf_len (a v : Int) (ao : Option Addr) (n cap : Nat) (h1 : ¬ a < 0) (h2 : ¬ 16 < a) (h3 : ¬ v < 0) (h4 : ¬ 16 < v) (h5 : ¬ 16 < a + v) (h6 : n = 0 ∨ 256 < n) (w : World) :
    Calls Tryz.prog 35 #[.agg #[.int .i64 a, .int .i64 v, .slice ao n cap]] w fun e w' => e = .returned (.int .i64 (if n = 0 then 6 else 3)) ∧ Below w.heap.size w w' := by
  by_cases h0 : n = 0
  · subst h0
    rw [if_pos rfl]
    clear h6
    go_enter Tryz.func35, Tryz.ntmps35
    have hB0 := Below.refl w.heap.size w
    have M0 := Mem.nil w
    go_wp2_with fail
    go_ret
    exact ⟨rfl, (below_al hB0 _)⟩
  · rw [if_neg h0]
    have h7 : ((n : Int) == 0) = false := by simp; omega
    have h8 : (256 : Int) < n := by omega
    clear h6 h0
    go_enter Tryz.func35, Tryz.ntmps35
    have hB0 := Below.refl w.heap.size w
    have M0 := Mem.nil w
    go_wp2_with fail
    go_ret
    exact ⟨rfl, (below_al hB0 _)⟩
set_option maxRecDepth 100000 in
set_option maxHeartbeats 1000000 in
theorem cf_loop (a v : Int) (l : List (Int × Int)) (ao : Option Addr) (n cap : Nat) (h1 : ¬ a < 0) (h2 : ¬ 16 < a) (h3 : ¬ v < 0) (h4 : ¬ 16 < v) (h5 : ¬ 16 < a + v) (h6 : 0 < n) (h7 : n ≤ 256) (hn : n = l.length) (w : World) (hw : LaidI w) (h : OsAt w (.slice ao n cap) l) :
    Calls Tryz.prog 35 #[.agg #[.int .i64 a, .int .i64 v, .slice ao n cap]] w fun e w' => e = .returned (.int .i64 (if l.all rightO = true then 0 else 2)) ∧ Below w.heap.size w w' := by
  have g1 : ((n : Int) == 0) = false := by simp; omega
  have g2 : ¬ (256 : Int) < n := by omega
  have HN := Lib.hid hn
  have HO := Lib.hid h
  obtain ⟨R, hR⟩ : ∃ R : Int, R = if l.all rightO = true then 0 else 2 := ⟨_, rfl⟩
  rw [← hR]
  have HR := Lib.hid hR
  clear h hn hR
  go_enter Tryz.func35, Tryz.ntmps35
  go_wp2_with fail
  go_loopw [40] (fun i wr => ∃ k : Nat, k ≤ n ∧ i = .int .i64 k ∧ Below w.heap.size w wr ∧ Hid ((l.take k).all rightO = true)) (fun i _ => n - (intOf i).toNat)
  case atStart => exact ⟨0, by omega, rfl, below_al (Below.refl _ _) _, Lib.hid rfl⟩
  case round =>
    obtain ⟨k, hk, rfl, hb, hn⟩ := hrel
    by_cases hlt : k < n
    · have hkl : k < l.length := by rw [← HN.out]; exact hlt
      obtain ⟨b, off, rfl, hbl, c0, c1⟩ := (HO.out.below hb).row hkl HN.out
      have g1 : (0 : Int) ≤ (k : Int) := by omega
      have g2 : (k : Int) < (n : Int) := by omega
      have hA := all_take_succ rightO l hkl
      rw [hn.out, Bool.true_and] at hA
      have HA := Lib.hid hA
      obtain ⟨o, ho⟩ : ∃ o, o = l[k] := ⟨_, rfl⟩
      rw [← ho] at c0 c1 HA
      have HO1 := Lib.hid ho
      clear hA ho hn
      obtain ⟨x, y⟩ := o
      have hwr := hw.below hb
      cases hr : rightB x y with
      | true =>
        have hn' : Hid ((l.take (k + 1)).all rightO = true) := Lib.hid (by rw [HA.out]; exact hr)
        have HB := Lib.hid hb
        clear hb
        go_wp2_with fail
        refine (right_any x y _ (hwr.o.alloc _)).mono ?_
        rw [hr]
        rintro e w1 ⟨rfl, hb1⟩
        have HB1 := Lib.hid (below_then (below_al HB.out _) hb1)
        clear hb1 hr hwr
        go_wp2_with fail
        go_roundw
        case rel => exact ⟨k + 1, by omega, by go_num, HB1.out, hn'⟩
        case measure => simp [intOf]; omega
      | false =>
        have hf : R = 2 := by
          rw [HR.out, if_neg]
          intro hall
          have := List.all_eq_true.1 hall l[k] (List.getElem_mem hkl)
          rw [← HO1.out] at this
          have h2 : rightB x y = true := this
          rw [hr] at h2
          cases h2
        have HF := Lib.hid hf
        have HB := Lib.hid hb
        clear hb hf
        go_wp2_with fail
        refine (right_any x y _ (hwr.o.alloc _)).mono ?_
        rw [hr]
        rintro e w1 ⟨rfl, hb1⟩
        have HB1 := Lib.hid (below_then (below_al HB.out _) hb1)
        clear hb1 hr hwr
        go_wp2_with fail
        go_ret
        exact ⟨by rw [HF.out]; rfl, HB1.out⟩
    · have hf : R = 0 := by
        rw [HR.out, if_pos]
        have := hn.out
        rwa [List.take_of_length_le (by have := HN.out; omega)] at this
      have HF := Lib.hid hf
      have HB := Lib.hid hb
      have hge : (n : Int) ≤ k := by omega
      clear hb hf hn
      go_wp2_with fail
      go_ret
      exact ⟨by rw [HF.out]; rfl, HB.out⟩
theorem cf_any (f : Fn) (cv : Value) (w : World) (hw : LaidI w) (h : OsAt w cv f.c) :
    Calls Tryz.prog 35 #[.agg #[.int .i64 f.a, .int .i64 f.v, cv]] w fun e w' => e = .returned (.int .i64 f.check) ∧ Below w.heap.size w w' := by
  obtain ⟨ao, cap, rfl⟩ := h.slice
  unfold Fn.check
  by_cases h1 : f.a < 0 ∨ 16 < f.a ∨ f.v < 0 ∨ 16 < f.v ∨ 16 < f.a + f.v
  · rw [if_pos h1]
    exact cf_arg _ _ _ _ _ h1 w
  · rw [if_neg h1]
    by_cases h2 : f.c.length = 0 ∨ 256 < f.c.length
    · have := cf_len f.a f.v ao f.c.length cap (by omega) (by omega) (by omega) (by omega) (by omega) h2 w
      by_cases h3 : f.c.length = 0
      · rw [if_pos h3] at this ⊢; exact this
      · rw [if_neg h3] at this ⊢
        rw [if_pos (by omega)]
        exact this
    · rw [if_neg (by omega), if_neg (by omega)]
      exact cf_loop f.a f.v f.c ao f.c.length cap (by omega) (by omega) (by omega) (by omega) (by omega) (by omega) (by omega) rfl w hw h
def Vl.small (v : Vl) : Prop := v.nm.length ≤ 140737488351232 ∧ v.l.S.length ≤ 140737488351232 ∧ v.l.I.length ≤ 140737488351232
theorem vright_l (v : Vl) (hz : v.small) (w : World) (hw : LaidI w) :
    Calls Tryz.prog 34 #[.agg #[.int .i64 v.k, .int .i64 v.n, .string ⟨v.nm.toArray⟩, .string ⟨v.l.S.toArray⟩, .string ⟨v.l.I.toArray⟩]] w fun e w' => e = .returned (.bool v.right) ∧ Below w.heap.size w w' :=
  vright_any v.k v.n ⟨v.nm.toArray⟩ ⟨v.l.S.toArray⟩ ⟨v.l.I.toArray⟩ (by show v.nm.toArray.size ≤ _; simpa using hz.1) (by show v.l.S.toArray.size ≤ _; simpa using hz.2.1) (by show v.l.I.toArray.size ≤ _; simpa using hz.2.2) w hw.v
theorem firstE_take : ∀ (l : List Fn) (k : Nat), firstE (l.take k) = 0 → firstE l = firstE (l.drop k)
  | _, 0, _ => rfl
  | [], k + 1, _ => rfl
  | f :: l, k + 1, h => by
    rw [List.take_succ_cons, firstE] at h
    rw [List.drop_succ_cons, firstE]
    by_cases hf : f.check = 0
    · rw [if_pos hf] at h ⊢
      exact firstE_take l k h
    · rw [if_neg hf] at h
      exact absurd h hf
theorem firstE_snoc : ∀ (l : List Fn) (f : Fn), firstE l = 0 → f.check = 0 → firstE (l ++ [f]) = 0
  | [], f, _, hf => by rw [List.nil_append, firstE, if_pos hf]; rfl
  | g :: l, f, h, hf => by
    rw [firstE] at h
    rw [List.cons_append, firstE]
    by_cases hg : g.check = 0
    · rw [if_pos hg] at h ⊢
      exact firstE_snoc l f h hf
    · rw [if_neg hg] at h
      exact absurd h hg
theorem firstE_at {l : List Fn} {k : Nat} (hk : k < l.length) (h : firstE (l.take k) = 0) (hf : l[k].check ≠ 0) : firstE l = l[k].check := by
  rw [firstE_take l k h, List.drop_eq_getElem_cons hk, firstE, if_neg hf]
set_option maxRecDepth 100000 in
set_option maxHeartbeats 1000000 in
theorem ck_many (co fo : Option Addr) (n cp m cq : Nat) (h : 64 < n ∨ 16 < m) (w : World) :
    Calls Tryz.prog 15 #[.agg #[.slice co n cp, .slice fo m cq]] w fun e w' => e = .returned (.int .i64 3) ∧ Below w.heap.size w w' := by
  by_cases h1 : 64 < n
  · have h2 : (64 : Int) < n := by omega
    clear h
    go_enter Tryz.func15, Tryz.ntmps15
    have hB0 := Below.refl w.heap.size w
    have M0 := Mem.nil w
    go_wp2_with fail
    go_ret
    exact ⟨rfl, (below_al hB0 _)⟩
  · have h2 : ¬ (64 : Int) < n := by omega
    have h3 : (16 : Int) < m := by omega
    clear h
    go_enter Tryz.func15, Tryz.ntmps15
    have hB0 := Below.refl w.heap.size w
    have M0 := Mem.nil w
    go_wp2_with fail
    go_ret
    exact ⟨rfl, (below_al hB0 _)⟩
set_option maxRecDepth 100000 in
set_option maxHeartbeats 2000000 in
theorem ck_loop (cs : List Vl) (fs : List Fn) (co fo : Option Addr) (n cp m cq : Nat) (h1 : n ≤ 64) (h2 : m ≤ 16) (hn : n = cs.length) (hm : m = fs.length) (hz : ∀ v ∈ cs, v.small) (w : World) (hw : LaidI w) (hV : VsAt w (.slice co n cp) cs) (hF : FsAt w (.slice fo m cq) fs) :
    Calls Tryz.prog 15 #[.agg #[.slice co n cp, .slice fo m cq]] w fun e w' => e = .returned (.int .i64 (if cs.all Vl.const = true then (if m = 0 then 6 else firstE fs) else 5)) ∧ Below w.heap.size w w' := by
  have g1 : ¬ (64 : Int) < (n : Int) := by omega
  have g2 : ¬ (16 : Int) < (m : Int) := by omega
  have HN := Lib.hid hn
  have HM := Lib.hid hm
  have HV := Lib.hid hV
  have HF := Lib.hid hF
  obtain ⟨R, hR⟩ : ∃ R : Int, R = if cs.all Vl.const = true then (if m = 0 then 6 else firstE fs) else 5 := ⟨_, rfl⟩
  rw [← hR]
  have HR := Lib.hid hR
  clear hV hF hn hm hR
  go_enter Tryz.func15, Tryz.ntmps15
  have M0 := (Mem.nil w).new (.cells #[.slice co n cp, .slice fo m cq] 27)
  go_wp2_with fail
  go_loopw [21] (fun i wr => ∃ k : Nat, k ≤ n ∧ i = .int .i64 k ∧ Below w.heap.size w wr ∧ Mem wr [(w.heap.size, .cells #[.slice co n cp, .slice fo m cq] 27)] ∧ Hid ((cs.take k).all Vl.const = true)) (fun i _ => n - (intOf i).toNat)
  case atStart => exact ⟨0, by omega, rfl, below_al (Below.refl _ _) _, M0, Lib.hid rfl⟩
  case round =>
    obtain ⟨k, hk, rfl, hb, hM, hn⟩ := hrel
    clear M0
    have hzw := Mem.lt hM.1
    by_cases hlt : k < n
    · have hkl : k < cs.length := by rw [← HN.out]; exact hlt
      obtain ⟨b, off, rfl, hbl, c0, c1, c2, c3, c4⟩ := (HV.out.below hb).row hkl HN.out
      have g1 : (0 : Int) ≤ (k : Int) := by omega
      have g2 : (k : Int) < (n : Int) := by omega
      have hA := all_take_succ Vl.const cs hkl
      rw [hn.out, Bool.true_and] at hA
      have HA := Lib.hid hA
      have hsm := hz cs[k] (List.getElem_mem hkl)
      obtain ⟨o, ho⟩ : ∃ o, o = cs[k] := ⟨_, rfl⟩
      rw [← ho] at c0 c1 c2 c3 c4 HA hsm
      have HO1 := Lib.hid ho
      have HNO : Hid (o.const = false → R = 5) := Lib.hid (fun hc => by
        rw [HR.out, if_neg]
        intro hall
        have h2 := List.all_eq_true.1 hall cs[k] (List.getElem_mem hkl)
        rw [← HO1.out, hc] at h2
        cases h2)
      have HYES : Hid (o.const = true → Hid ((cs.take (k + 1)).all Vl.const = true)) := Lib.hid (fun hc => Lib.hid (by rw [HA.out]; exact hc))
      have hvr := fun w => vright_l o hsm w
      clear hA ho hn hsm HO1 HA
      obtain ⟨kk, nn, nm, ⟨S, I⟩⟩ := o
      simp only at c0 c1 c2 c3 c4 hvr
      obtain ⟨sm, hsm⟩ : ∃ s, s = (⟨nm.toArray⟩ : ByteArray) := ⟨_, rfl⟩
      obtain ⟨sS, hsS⟩ : ∃ s, s = (⟨S.toArray⟩ : ByteArray) := ⟨_, rfl⟩
      obtain ⟨sI, hsI⟩ : ∃ s, s = (⟨I.toArray⟩ : ByteArray) := ⟨_, rfl⟩
      rw [← hsm] at c2 hvr
      rw [← hsS] at c3 hvr
      rw [← hsI] at c4 hvr
      clear hsm hsS hsI
      have hwr := hw.below hb
      have HB := Lib.hid hb
      have HMM := Lib.hid hM
      clear hb hM
      by_cases h12 : kk = 1 ∨ kk = 2
      · cases hr : Vl.right ⟨kk, nn, nm, ⟨S, I⟩⟩ with
        | true =>
          have hn' := HYES.out (by unfold Vl.const; rw [hr]; simpa using h12)
          rw [hr] at hvr
          clear hr HYES HNO
          rcases h12 with rfl | rfl
          all_goals
            go_wp2_with fail
            refine (hvr _ (hwr.alloc _)).mono ?_
            rintro e w1 ⟨rfl, hb1⟩
            have HB1 := Lib.hid (below_then (below_al HB.out _) hb1)
            have HM1 := Lib.hid ((HMM.out.al _).below hb1)
            clear hb1 hwr hvr
            go_wp2_with fail
            go_roundw
            case rel => exact ⟨k + 1, by omega, by go_num, HB1.out, HM1.out, hn'⟩
            case measure => simp [intOf]; omega
        | false =>
          have hf := HNO.out (by unfold Vl.const; rw [hr]; simp)
          rw [hr] at hvr
          have HF5 := Lib.hid hf
          clear hr HYES HNO hf
          rcases h12 with rfl | rfl
          all_goals
            go_wp2_with fail
            refine (hvr _ (hwr.alloc _)).mono ?_
            rintro e w1 ⟨rfl, hb1⟩
            have HB1 := Lib.hid (below_then (below_al HB.out _) hb1)
            clear hb1 hwr hvr
            go_wp2_with fail
            go_ret
            exact ⟨by rw [HF5.out]; rfl, HB1.out⟩
      · have hf := HNO.out (by unfold Vl.const; simp; omega)
        have HF5 := Lib.hid hf
        have k1 := int_ne (k := kk) (j := 1) (by omega)
        have k2 := int_ne (k := kk) (j := 2) (by omega)
        clear HYES HNO hf hvr hwr
        go_wp2_with fail
        go_ret
        exact ⟨by rw [HF5.out]; rfl, below_al HB.out _⟩
    · have hall : cs.all Vl.const = true := by
        have := hn.out
        rwa [List.take_of_length_le (by have := HN.out; omega)] at this
      have hR2 := HR.out
      rw [if_pos hall] at hR2
      have hge : (n : Int) ≤ k := by omega
      have HB := Lib.hid hb
      have hc1 := Mem.cell (v := .slice fo m cq) hM.1 1 rfl
      clear hn hall
      by_cases hm0 : m = 0
      · rw [if_pos hm0] at hR2
        have HF6 := Lib.hid hR2
        clear hR2
        subst hm0
        go_wp2_with fail
        go_ret
        exact ⟨by rw [HF6.out]; rfl, HB.out⟩
      · rw [if_neg hm0] at hR2
        have HF6 := Lib.hid hR2
        have hm1 : ((m : Int) == 0) = false := by simp; omega
        clear hR2 hb hM
        go_wp2_with fail
        go_loopw [46] (fun i wr => ∃ k : Nat, k ≤ m ∧ i = .int .i64 k ∧ Below w.heap.size w wr ∧ Hid (firstE (fs.take k) = 0)) (fun i _ => m - (intOf i).toNat)
        case atStart => exact ⟨0, by omega, rfl, HB.out, Lib.hid rfl⟩
        case round =>
          clear HB
          obtain ⟨q, hq, rfl, hb, hn⟩ := hrel
          by_cases hlt : q < m
          · have hql : q < fs.length := by rw [← HM.out]; exact hlt
            obtain ⟨b, off, c, rfl, hbl, c0, c1, c2, hO⟩ := (HF.out.below hb).row hql HM.out
            have g1 : (0 : Int) ≤ (q : Int) := by omega
            have g2 : (q : Int) < (m : Int) := by omega
            have hcall := fun w' (hb' : Below wr.heap.size wr w') (hw' : LaidI w') => cf_any fs[q] c w' hw' (hO.below hb')
            have HNO : Hid (fs[q].check ≠ 0 → R = fs[q].check) := Lib.hid (fun hc => by rw [HF6.out]; exact firstE_at hql hn.out hc)
            have HYES : Hid (fs[q].check = 0 → Hid (firstE (fs.take (q + 1)) = 0)) := Lib.hid (fun hc => Lib.hid (by
              rw [List.take_add_one, List.getElem?_eq_getElem hql]
              exact firstE_snoc _ _ hn.out hc))
            obtain ⟨ao, cap, rfl⟩ := hO.slice
            obtain ⟨f, hf⟩ : ∃ f, f = fs[q] := ⟨_, rfl⟩
            rw [← hf] at c0 c1 c2 hcall HNO HYES
            obtain ⟨L, hL⟩ : ∃ L, L = f.c.length := ⟨_, rfl⟩
            rw [← hL] at c2 hcall
            obtain ⟨E, hE⟩ : ∃ E, E = f.check := ⟨_, rfl⟩
            rw [← hE] at hcall HNO HYES
            obtain ⟨x, hx⟩ : ∃ x, x = f.a := ⟨_, rfl⟩
            obtain ⟨y, hy⟩ : ∃ x, x = f.v := ⟨_, rfl⟩
            rw [← hx] at c0 hcall
            rw [← hy] at c1 hcall
            clear hf hL hE hx hy hn hO
            have hwr := hw.below hb
            have HB := Lib.hid hb
            clear hb
            by_cases h0 : E = 0
            · have hn' := HYES.out h0
              subst h0
              clear HYES HNO
              go_wp2_with fail
              refine (hcall _ (below_al (Below.refl _ _) _) (hwr.alloc _)).mono ?_
              rintro e w1 ⟨rfl, hb1⟩
              have HB1 := Lib.hid (below_then (below_al HB.out _) hb1)
              clear hb1 hwr hcall
              go_wp2_with fail
              go_roundw
              case rel => exact ⟨q + 1, by omega, by go_num, HB1.out, hn'⟩
              case measure => simp [intOf]; omega
            · have hf := HNO.out h0
              have HF5 := Lib.hid hf
              have h0b := int_ne h0
              clear HYES HNO hf h0
              go_wp2_with fail
              refine (hcall _ (below_al (Below.refl _ _) _) (hwr.alloc _)).mono ?_
              rintro e w1 ⟨rfl, hb1⟩
              have HB1 := Lib.hid (below_then (below_al HB.out _) hb1)
              clear hb1 hwr hcall
              go_wp2_with fail
              go_ret
              exact ⟨by rw [HF5.out]; rfl, HB1.out⟩
          · have hf : R = 0 := by
              rw [HF6.out]
              have := hn.out
              rwa [List.take_of_length_le (by have := HM.out; omega)] at this
            have HF5 := Lib.hid hf
            have hge : (m : Int) ≤ q := by omega
            have HB := Lib.hid hb
            clear hn hf hb
            go_wp2_with fail
            go_ret
            exact ⟨by rw [HF5.out]; rfl, HB.out⟩
/-- image.Check -/
theorem check_any (im : Im) (cv fv : Value) (hz : ∀ v ∈ im.cs, v.small) (w : World) (hw : LaidI w) (hV : VsAt w cv im.cs) (hF : FsAt w fv im.fs) :
    Calls Tryz.prog 15 #[.agg #[cv, fv]] w fun e w' => e = .returned (.int .i64 im.check) ∧ Below w.heap.size w w' := by
  obtain ⟨co, cp, rfl⟩ := hV.slice
  obtain ⟨fo, cq, rfl⟩ := hF.slice
  unfold Im.check
  by_cases h : 64 < im.cs.length ∨ 16 < im.fs.length
  · rw [if_pos h]
    exact ck_many _ _ _ _ _ _ h w
  · rw [if_neg h]
    exact ck_loop im.cs im.fs co fo _ cp _ cq (by omega) (by omega) rfl rfl hz w hw hV hF
end Go.Proofs.YtiggallcoocdaaaGreatDoor
