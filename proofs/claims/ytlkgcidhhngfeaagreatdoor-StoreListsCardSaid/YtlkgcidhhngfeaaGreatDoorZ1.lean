/- Lib, Mem, Set, SlotsI, Row, NumLeb, LabSpec: joined into one text; each part says below what it holds. -/
import Derived.WalkKit
import Derived.WalkLawsBesides
import Derived.WalkSpells
import Derived.Lib.Hide
import Derived.ChangeSame
import Derived.BigQuiet
import Derived.Deep.Cut
import Derived.Outline
import Derived.Lib.SliceRun
import Derived.Deep.LoopGhost
import Derived.Lib.Walk
/- General lemmas of this proof family: maps that the call itself made, in a walk; frames; bytes. They speak of no program. -/
namespace Go.Proofs.YtlkgcidhhngfeaaGreatDoor
open Go.RowKit
section
variable {P : Program}

theorem run_checkKey_int (k : TypeId) (hk : P.underlying k = some (.int .i64)) (w : World) (b : Bool) (d : Nat) (n : Int) : (Instr.checkKey b (d + 1) k (.int .i64 n)).run P w = .ok () w := by
  unfold Instr.checkKey
  simp only [Sem.run_bind, run_underlying hk, Result.andThen_ok]
  rfl
theorem run_findKey_now (k : TypeId) (hk : P.underlying k = some (.int .i64)) (w : World) (n : Int) (l : List MapEntry) (r : Option (Nat × Value)) (h : Instr.findNow (.int .i64) (.int .i64 n) l 0 = some r) :
    (Instr.findKey k (.int .i64 n) l).run P w = .ok r w := by
  unfold Instr.findKey
  simp only [Sem.run_bind, run_underlying hk, Result.andThen_ok, h]
  rfl

/-- 'm[n] = v' on a map of int keys that has no such key: the entry is laid behind the others. -/
theorem run_mapUpdate_push (t k e : TypeId) (ht : P.underlying t = some (.map k e)) (hk : P.underlying k = some (.int .i64)) (w : World) (es : Array MapEntry) (c : Nat) (n : Int) (v : Value)
    (h : Instr.findNow (.int .i64) (.int .i64 n) es.toList 0 = some none) :
    (Instr.mapUpdate t (.map (some w.heap.size)) (.int .i64 n) v).run P (w.alloc (.map es c)) = .ok () (w.alloc (.map (es.push ⟨.int .i64 n, v, c⟩) (c + 1))) := by
  have hb : (w.alloc (.map es c)).heap[w.heap.size]? = some (.map es c) := by
    show (w.heap.push _)[w.heap.size]? = _
    simp
  have hck := run_checkKey_int k hk (w.alloc (.map es c)) false 9999 n
  have hfk := run_findKey_now k hk (w.alloc (.map es c)) n es.toList none h
  unfold Instr.mapUpdate
  simp only [Sem.run_bind, run_underlying ht, Result.andThen_ok, MapKept.run_getObj_map hb, hck, hfk, MapKept.run_setObj_map _ hb]
  show Result.ok () { w with heap := (w.heap.push _).setIfInBounds _ _ } = Result.ok () { w with heap := w.heap.push _ }
  congr 2
  apply Array.ext_getElem?
  intro i
  simp only [Array.getElem?_setIfInBounds, Array.getElem?_push, Array.size_push]
  by_cases hi : i = w.heap.size
  · subst hi
    simp
  · rw [if_neg (by omega), if_neg hi, if_neg hi]

/-- 'v, ok := m[n]' where the map has that key. -/
theorem run_lookup_ok (t k e : TypeId) (ht : P.underlying t = some (.map k e)) (hk : P.underlying k = some (.int .i64)) (w : World) (r : Nat) (es : Array MapEntry) (c : Nat) (n : Int) (i : Nat) (v : Value)
    (hb : w.heap[r]? = some (.map es c)) (h : Instr.findNow (.int .i64) (.int .i64 n) es.toList 0 = some (some (i, v))) :
    (Instr.lookup t (.map (some r)) (.int .i64 n) true).run P w = .ok (.tuple #[v, .bool true]) w := by
  have hck := run_checkKey_int k hk w es.isEmpty 9999 n
  have hfk := run_findKey_now k hk w n es.toList _ h
  unfold Instr.lookup
  simp only [Sem.run_bind, run_underlying ht, Result.andThen_ok, MapKept.run_getObj_map hb, Sem.run_pure, hck, hfk]
  rfl

/-- 'v, ok := m[n]' where it has not. -/
theorem run_lookup_no (t k e : TypeId) (ht : P.underlying t = some (.map k e)) (hk : P.underlying k = some (.int .i64)) (w : World) (r : Nat) (es : Array MapEntry) (c : Nat) (n : Int) (z : Value)
    (hz : (zeroValue e).run P w = .ok z w)
    (hb : w.heap[r]? = some (.map es c)) (h : Instr.findNow (.int .i64) (.int .i64 n) es.toList 0 = some none) :
    (Instr.lookup t (.map (some r)) (.int .i64 n) true).run P w = .ok (.tuple #[z, .bool false]) w := by
  have hck := run_checkKey_int k hk w es.isEmpty 9999 n
  have hfk := run_findKey_now k hk w n es.toList _ h
  unfold Instr.lookup
  simp only [Sem.run_bind, run_underlying ht, Result.andThen_ok, MapKept.run_getObj_map hb, Sem.run_pure, hck, hfk, hz]
  rfl
/-- 'string([]byte{x})' -/
theorem run_convert_one (src e dst : TypeId) (hs : P.underlying src = some (.slice e)) (he : P.underlying e = some (.int .u8)) (hd : P.underlying dst = some .string) (w : World) (T : TypeId) (x : Int) :
    (convert src dst (.slice (some ⟨w.heap.size, 0, none⟩) 1 1)).run P (w.alloc (.cells #[.int .u8 x] T)) = .ok (.string ⟨#[UInt8.ofNat x.toNat]⟩) (w.alloc (.cells #[.int .u8 x] T)) :=
  run_convert_bytes_arg _ src e hs he w.heap.size 0 1 1 [x] rfl (fun i hi => by
    obtain rfl : i = 0 := by omega
    rw [World.cell?_alloc_new]
    rfl) dst hd
end

theorem ret_int {k : IntKind} {a b : Int} (h : a = b) : Ending.returned (.int k a) = .returned (.int k b) := by rw [h]
theorem ret_bool {a b : Bool} (h : a = b) : Ending.returned (.bool a) = .returned (.bool b) := by rw [h]
theorem ret_str {a b : ByteArray} (h : a = b) : Ending.returned (.string a) = .returned (.string b) := by rw [h]
theorem bcell {W w1 : World} (hb : Below W.heap.size W w1) : (∀ b o, b < W.heap.size → w1.cell? ⟨b, o, none⟩ = W.cell? ⟨b, o, none⟩) ∧ (∀ b o, b < W.heap.size → w1.frozen? ⟨b, o, none⟩ = W.frozen? ⟨b, o, none⟩) :=
  ⟨fun b o h => hb.cell (p := ⟨b, o, none⟩) h, fun b o h => hb.frozen (p := ⟨b, o, none⟩) h⟩
/-! the row's last step, where the call made blocks of its own (turned from the guide's extra-small page) -/
section
open Go.WideShapes Go.ChangeShapes
variable {H : Type} {enc : TypeId × Value → H} {P : Program}
theorem post_of_below {f : Func} {s : ChangeSpec} {apart fresh handsOn again : Bool} {W W' : World} {args : Array Value} {v : Value} {ds gs : List (DataW H)} {before pa pv : List MemPlace}
    (hW : DataW.Whole enc P f.params.toList s.vars apart W args.toList ds gs before)
    (hres : ∀ (b : Nat) (sp : Nat → Bool) (hd : Bool), DataW.TrodAll enc P W' b sp hd f.resultTypes.toList (v.resultList f.resultTypes.size) (s.fn H (ds ++ gs)).results [])
    (hargs : ∀ sp : Nat → Bool, (∀ p ∈ before, sp p.block = true) → DataW.TrodAll enc P W' 0 sp true f.params.toList args.toList (s.fn H (ds ++ gs)).args pa)
    (hvars : ∀ sp : Nat → Bool, (∀ p ∈ before, sp p.block = true) → DataW.TrodVars enc P W' sp s.vars (s.fn H (ds ++ gs)).vars pv)
    (hps : before = pa ++ pv) (hb : Below W.heap.size W W')
    (hok : ∀ (j : Nat) (t : TypeId) (r : Value), f.resultTypes[j]? = some t → (v.resultList f.resultTypes.size)[j]? = some r → Value.okWide P W' .any 0 t r) :
    s.post enc P f apart fresh handsOn again W args v W' := by
  have hlt : ∀ p ∈ before, p.block < W.heap.size := fun p hp => hW.lt p hp
  have hold : ∀ p ∈ before, (fun b => decide (b < W.heap.size)) p.block = true := fun p hp => by simpa using hlt p hp
  refine ⟨ds, gs, before, [], pa, pv, hW, hres _ _ _, hargs _ hold, hvars _ hold, World.keptBut_mono (fun p hp => ⟨hp, ?_⟩) (hb.frame (· ∈ before)), fun _ => ?_⟩
  · rw [hps, List.mem_append] at hp
    exact Or.inr hp
  · obtain ⟨_, _, _, _, _, hz, hn⟩ := hW
    refine ⟨hok, _, _, ([] ++ pa) ++ pv, ⟨[] ++ pa, pv, trodAll_append (hargs _ (fun _ _ => rfl)) (hres _ _ _), hvars _ (fun _ _ => rfl), rfl, ?_, ?_⟩, ?_⟩
    · intro b off hp
      have hin : MemPlace.cell b off ∈ before := by rw [hps]; simpa using hp
      rw [hb.frozen (hlt _ hin)]
      exact hz b off hin
    · intro ha
      have := hn ha
      rw [hps] at this
      simpa using this
    · intro p hp _
      rw [hps]
      simpa using hp
end
/-! a region that draws its order, and whose callees make memory of their own: the class of the worlds behind this one -/
structure After (w : World) where
  world : World
  h : Below w.heap.size w world
instance (w : World) : Nonempty (After w) := ⟨⟨w, Below.refl _ _⟩⟩
theorem wp_region_after {P : Program} {id : Nat} {Q : Exit → Act → World → Prop} {a : Act} {w : World} {l : List Oper} (hm : P.follows .mixedOrders = true) (hB : Region.lexB .any l.toArray = true)
    (h : wpQuiet P l.toArray (fun w' => ∃ p : After w, w' = p.world) (fun a' => ∀ w', (∃ p : After w, w' = p.world) → Q .normal a' w') l a) : (Code.region id l.toArray true).wp P Q a w :=
  wp_region_quiet (C := fun w' => ∃ p : After w, w' = p.world) hm hB ⟨⟨w.drew, (Below.refl _ _).drew⟩, rfl⟩ (by simpa using h)
theorem After.call {P : Program} {f : FuncId} {args : Array Value} {w : World} {p : After w} {v : Value}
    (h : Calls P f args p.world fun e w' => e = .returned v ∧ Below p.world.heap.size p.world w') : Calls P f args p.world fun e w'' => e = .returned v ∧ ∃ q : After w, w'' = q.world :=
  h.mono fun _ w' ⟨he, hb⟩ => ⟨he, ⟨w', p.h.trans (hb.mono p.h.size)⟩, rfl⟩
theorem After.same {P : Program} {f : FuncId} {args : Array Value} {w : World} {p : After w} {v : Value}
    (h : Calls P f args p.world fun e w' => e = .returned v ∧ p.world = w') : Calls P f args p.world fun e w'' => e = .returned v ∧ ∃ q : After w, w'' = q.world :=
  h.mono fun _ _ ⟨he, hb⟩ => ⟨he, p, hb.symm⟩
def InI64 (n : Int) : Prop := -9223372036854775808 ≤ n ∧ n ≤ 9223372036854775807
theorem wf_i64 {x : Int} (h : (Lit.int .i64 x).wf = true) : InI64 x := by
  simp only [Lit.wf, IntKind.min, IntKind.max, IntKind.signed, IntKind.bits, Bool.and_eq_true, decide_eq_true_eq, if_true] at h
  unfold InI64
  omega
theorem wf_u8 {x : Int} (h : (Lit.int .u8 x).wf = true) : 0 ≤ x ∧ x ≤ 255 := by
  simp only [Lit.wf, IntKind.min, IntKind.max, IntKind.signed, IntKind.bits, Bool.and_eq_true] at h
  simp at h
  omega
theorem wf_u16 {x : Int} (h : (Lit.int .u16 x).wf = true) : 0 ≤ x ∧ x ≤ 65535 := by
  simp only [Lit.wf, IntKind.min, IntKind.max, IntKind.signed, IntKind.bits, Bool.and_eq_true] at h
  simp at h
  omega
end Go.Proofs.YtlkgcidhhngfeaaGreatDoor
/- Blocks that a call knows whole, carried through a walk; worlds under a name. They speak of no program. -/
namespace Go.Proofs.YtlkgcidhhngfeaaGreatDoor
open Go.RowKit
/-- these blocks hold this -/
def Mem (W : World) : List (Nat × Obj) → Prop
  | [] => True
  | (b, o) :: l => W.heap[b]? = some o ∧ Mem W l
theorem Mem.below {W w' : World} : ∀ {L : List (Nat × Obj)}, Mem W L → Below W.heap.size W w' → Mem w' L
  | [], _, _ => trivial
  | (b, _) :: _, h, hb => ⟨(hb.block b (Array.getElem?_eq_some_iff.1 h.1).1).trans h.1, Mem.below h.2 hb⟩
theorem Mem.al {W : World} {L : List (Nat × Obj)} (h : Mem W L) (o : Obj) : Mem (W.alloc o) L := h.below ((Below.refl _ _).alloc (Nat.le_refl _) _)
theorem Mem.new {W : World} {L : List (Nat × Obj)} (h : Mem W L) (o : Obj) : Mem (W.alloc o) ((W.heap.size, o) :: L) :=
  ⟨by show (W.heap.push _)[W.heap.size]? = _; simp, h.al o⟩
theorem Mem.new' {W : World} {L : List (Nat × Obj)} (h : Mem W L) (n : Nat) (hn : W.heap.size = n) (o : Obj) : Mem (W.alloc o) ((n, o) :: L) := hn ▸ h.new o
theorem Mem.drew {W : World} : ∀ {L : List (Nat × Obj)}, Mem W L → Mem W.drew L
  | [], _ => trivial
  | _ :: _, h => ⟨h.1, Mem.drew h.2⟩
theorem Mem.nil (W : World) : Mem W [] := trivial
/-- a store into a block that stands first in the list -/
theorem setCell_block {W : World} {b i : Nat} {cs : Array Value} {T : TypeId} {fr : Nat × Nat} (h : W.heap[b]? = some (.cells cs T fr)) (v : Value) : (W.setCell ⟨b, i, none⟩ v).heap[b]? = some (.cells (cs.setIfInBounds i v) T fr) := by
  show (W.heap.modify b _)[b]? = _
  rw [Array.getElem?_modify, if_pos rfl, h]
  rfl
theorem setCell_other {W : World} {b b' i : Nat} {o : Obj} (h : W.heap[b']? = some o) (hne : b ≠ b') (v : Value) : (W.setCell ⟨b, i, none⟩ v).heap[b']? = some o := by
  show (W.heap.modify b _)[b']? = _
  rw [Array.getElem?_modify, if_neg hne, h]
theorem Mem.lt {W : World} {b : Nat} {o : Obj} (h : W.heap[b]? = some o) : b < W.heap.size := (Array.getElem?_eq_some_iff.1 h).1
theorem Mem.cell {W : World} {b : Nat} {cs : Array Value} {T : TypeId} {fr : Nat × Nat} (h : W.heap[b]? = some (.cells cs T fr)) (i : Nat) {v : Value} (hv : cs[i]? = some v) : W.cell? ⟨b, i, none⟩ = some v := by
  unfold World.cell?
  rw [h]
  exact hv
theorem Mem.free {W : World} {b : Nat} {cs : Array Value} {T : TypeId} (h : W.heap[b]? = some (.cells cs T)) (i : Nat) : W.frozen? ⟨b, i, none⟩ = false := by
  unfold World.frozen?
  rw [h]
  simp
/-- the world under a name, at a call and elsewhere -/
theorem Calls.named {P : Program} {f : FuncId} {args : Array Value} {E : World} {R : Ending → World → Prop} (h : ∀ W, W = E → Calls P f args W R) : Calls P f args E R := h E rfl
theorem wp_named {P : Program} {Q : Exit → Act → World → Prop} {a : Act} {E : World} {c : Code} (h : ∀ W, W = E → c.wp P Q a W) : c.wp P Q a E := h E rfl
theorem below_al {w W : World} (h : Below w.heap.size w W) (o : Obj) : Below w.heap.size w (W.alloc o) := h.trans ((Below.refl _ _).alloc h.size o)
theorem below_dr {n : Nat} {w W : World} (h : Below n w W) : Below n w W.drew := h.trans ((Below.refl _ _).drew)
theorem below_then {w w1 w2 : World} (h : Below w.heap.size w w1) (h' : Below w1.heap.size w1 w2) : Below w.heap.size w w2 := h.trans (h'.mono h.size)
theorem Mem.after {W : World} {L : List (Nat × Obj)} (h : Mem W L) (p : After W) : Mem p.world L := h.below p.h
end Go.Proofs.YtlkgcidhhngfeaaGreatDoor
/- Stores into blocks of the call's own. They speak of no program. -/
namespace Go.Proofs.YtlkgcidhhngfeaaGreatDoor
open Go.RowKit
theorem cell_other {b b' : Nat} (h : b' ≠ b) (W : World) (o o' : Nat) (v : Value) : (W.setCell ⟨b', o', none⟩ v).cell? ⟨b, o, none⟩ = W.cell? ⟨b, o, none⟩ := by
  unfold World.cell?
  show (match (W.heap.modify b' _)[b]? with | some (.cells c _ _) => _ | _ => _) = _
  rw [Array.getElem?_modify, if_neg h]
  rfl
theorem at_world {Q : Exit → Act → World → Prop} {e : Exit} {a : Act} {E W : World} (h : W = E) (hq : Q e a W) : Q e a E := h ▸ hq
theorem setCells_block {T : TypeId} {b : Nat} : ∀ (vs : List Value) (o : Nat) (w : World) (cur : Array Value), w.heap[b]? = some (.cells cur T) → o + vs.length ≤ cur.size →
    (w.setCells b o vs).heap[b]? = some (.cells (cur.toList.take o ++ vs ++ cur.toList.drop (o + vs.length)).toArray T)
  | [], o, w, cur, h, _ => by
    show w.heap[b]? = _
    rw [h]
    simp
  | v :: r, o, w, cur, h, hl => by
    simp only [List.length_cons] at hl
    have h1 := setCells_block r (o + 1) (w.setCell ⟨b, o, none⟩ v) (cur.setIfInBounds o v) (setCell_block h v) (by simp; omega)
    show ((w.setCell ⟨b, o, none⟩ v).setCells b (o + 1) r).heap[b]? = _
    rw [h1]
    congr 3
    simp only [Array.toList_setIfInBounds, List.length_cons]
    have ho : o < cur.toList.length := by simp; omega
    have ht : (cur.toList.set o v).take (o + 1) = cur.toList.take o ++ [v] := by
      rw [List.take_add_one, List.take_set_of_le (Nat.le_refl o), List.getElem?_set_self ho]
      rfl
    have hd : (cur.toList.set o v).drop (o + 1 + r.length) = cur.toList.drop (o + (r.length + 1)) := by
      rw [List.drop_set_of_lt (by omega), show o + 1 + r.length = o + (r.length + 1) by omega]
    rw [ht, hd]
    simp
theorem setCells_other {b : Nat} : ∀ (vs : List Value) (o : Nat) (w : World) (k : Nat), k ≠ b → (w.setCells b o vs).heap[k]? = w.heap[k]?
  | [], _, _, _, _ => rfl
  | v :: r, o, w, k, hk => by
    show ((w.setCell ⟨b, o, none⟩ v).setCells b (o + 1) r).heap[k]? = _
    rw [setCells_other r (o + 1) _ k hk]
    show (w.heap.modify b _)[k]? = _
    rw [Array.getElem?_modify, if_neg (fun h => hk h.symm)]
theorem setCells_same {b : Nat} : ∀ (vs : List Value) (o : Nat) (w : World), (w.setCells b o vs).os = w.os ∧ (w.setCells b o vs).tape = w.tape ∧ (w.setCells b o vs).output = w.output ∧ (w.setCells b o vs).heap.size = w.heap.size
  | [], _, _ => ⟨rfl, rfl, rfl, rfl⟩
  | v :: r, o, w => by
    obtain ⟨h1, h2, h3, h4⟩ := setCells_same (b := b) r (o + 1) (w.setCell ⟨b, o, none⟩ v)
    refine ⟨h1, h2, h3, h4.trans ?_⟩
    show (w.heap.modify b _).size = _
    simp
theorem below_setCells {w w' : World} {B b : Nat} (h : Below B w w') (hb : B ≤ b) (o : Nat) (vs : List Value) : Below B w (w'.setCells b o vs) := by
  obtain ⟨h1, h2, h3, h4⟩ := setCells_same (b := b) vs o w'
  exact ⟨h1.trans h.os, h2.trans h.tape, h3.trans h.output, by rw [h4]; exact h.size, fun k hk => (setCells_other vs o w' k (by omega)).trans (h.block k hk)⟩
theorem set_block {W : World} {b : Nat} {T : TypeId} {old : Array Value} (h : W.heap[b]? = some (.cells old T)) (vs : List Value) (hn : vs.length = old.size) : (W.setCells b 0 vs).heap[b]? = some (.cells vs.toArray T) := by
  have h1 := setCells_block vs 0 W old h (by omega)
  rw [h1, List.take_zero, List.drop_of_length_le (by simp; omega)]
  simp
theorem setCell_same {w : World} {a : Addr} {v : Value} (h : w.cell? a = some v) : w.setCell a v = w := by
  unfold World.cell? at h
  have hh : (w.setCell a v).heap = w.heap := by
    unfold World.setCell
    apply Array.ext_getElem?
    intro i
    rw [Array.getElem?_modify]
    by_cases hi : a.block = i
    · subst hi
      rw [if_pos rfl]
      cases hh : w.heap[a.block]? with
      | none => rfl
      | some o =>
        rw [hh] at h
        cases o with
        | cells c e f =>
          simp only at h
          cases hs : a.spot with
          | some x => simp [hs] at h
          | none =>
            simp only [hs, Option.isSome_none, Bool.false_eq_true, if_false] at h
            simp only [Option.map_some, Option.isSome_none, Bool.false_eq_true, if_false, Option.some.injEq]
            congr 1
            apply Array.ext_getElem?
            intro j
            rw [Array.getElem?_setIfInBounds]
            by_cases hj : a.off = j
            · subst hj
              obtain ⟨hlt, he⟩ := Array.getElem?_eq_some_iff.1 h
              rw [if_pos rfl, if_pos hlt, h]
            · rw [if_neg hj]
        | _ => rfl
    · rw [if_neg hi]
  have e : w.setCell a v = { w with heap := (w.setCell a v).heap } := rfl
  rw [e, hh]
end Go.Proofs.YtlkgcidhhngfeaaGreatDoor
/- Lists of structs in memory: rows of k cells each. -/
namespace Go.Proofs.YtlkgcidhhngfeaaGreatDoor
open Go.RowKit
def Wide (k : Nat) (l : List (List Value)) : Prop := ∀ r ∈ l, r.length = k ∧ ∀ x ∈ r, x.oneCell' = true
theorem Wide.len {k : Nat} : ∀ {l : List (List Value)}, Wide k l → l.flatten.length = l.length * k
  | [], _ => by simp
  | r :: l, h => by
    rw [List.flatten_cons, List.length_append, (h r (by simp)).1, Wide.len (fun x hx => h x (by simp [hx])), List.length_cons, Nat.add_mul]
    omega
theorem Wide.get {k : Nat} : ∀ {l : List (List Value)}, Wide k l → ∀ (i j : Nat) (r : List Value), j < k → l[i]? = some r → l.flatten[i * k + j]? = r[j]?
  | [], _, i, j, r, _, hr => by simp at hr
  | x :: l, h, 0, j, r, hj, hr => by
    have : x = r := by simpa using hr
    subst this
    rw [List.flatten_cons, Nat.zero_mul, Nat.zero_add, List.getElem?_append_left (by rw [(h x (by simp)).1]; exact hj)]
  | x :: l, h, i + 1, j, r, hj, hr => by
    have hx := (h x (by simp)).1
    have hr' : l[i]? = some r := by simpa using hr
    rw [List.flatten_cons, List.getElem?_append_right (by rw [hx, Nat.add_mul]; omega), hx, show (i + 1) * k + j - k = i * k + j by rw [Nat.add_mul]; omega]
    exact Wide.get (fun x hx => h x (by simp [hx])) i j r hj hr'
theorem Wide.take {k : Nat} : ∀ {l : List (List Value)}, Wide k l → ∀ n, (l.take n).flatten = l.flatten.take (n * k)
  | [], _, n => by simp
  | x :: l, h, 0 => by simp
  | x :: l, h, n + 1 => by
    have hx := (h x (by simp)).1
    rw [List.take_succ_cons, List.flatten_cons, List.flatten_cons, Wide.take (fun x hx => h x (by simp [hx])) n, show (n + 1) * k = x.length + n * k by rw [hx, Nat.add_mul]; omega, List.take_length_add_append]
theorem Wide.drop {k : Nat} : ∀ {l : List (List Value)}, Wide k l → ∀ n, (l.drop n).flatten = l.flatten.drop (n * k)
  | [], _, n => by simp
  | x :: l, h, 0 => by simp
  | x :: l, h, n + 1 => by
    have hx := (h x (by simp)).1
    rw [List.drop_succ_cons, List.flatten_cons, Wide.drop (fun x hx => h x (by simp [hx])) n, show (n + 1) * k = x.length + n * k by rw [hx, Nat.add_mul]; omega, List.drop_length_add_append]
theorem Wide.app {k : Nat} {l m : List (List Value)} (h : Wide k l) (g : Wide k m) : Wide k (l ++ m) := fun r hr => (List.mem_append.1 hr).elim (h r) (g r)
theorem Wide.one {k : Nat} {l : List (List Value)} (h : Wide k l) : ∀ x ∈ l.flatten, x.oneCell' = true := by
  intro x hx
  obtain ⟨r, hr, hxr⟩ := List.mem_flatten.1 hx
  exact (h r hr).2 x hxr
theorem Wide.sub {k : Nat} {l m : List (List Value)} (h : Wide k l) (hm : ∀ r ∈ m, r ∈ l) : Wide k m := fun r hr => h r (hm r hr)
/-- v is a slice whose elements are the rows of l, k cells each -/
def SlotsAt (w : World) (k : Nat) (v : Value) (l : List (List Value)) : Prop :=
  Wide k l ∧ (((∃ ao cap, v = .slice ao 0 cap) ∧ l = []) ∨ ∃ b off cap, v = .slice (some ⟨b, off, none⟩) l.length cap ∧ l.length ≤ cap ∧ b < w.heap.size ∧ ∀ j u, l.flatten[j]? = some u → w.cell? ⟨b, off + j, none⟩ = some u)
theorem SlotsAt.below {w w' : World} {k : Nat} {v : Value} {l : List (List Value)} (h : SlotsAt w k v l) (hb : Below w.heap.size w w') : SlotsAt w' k v l := by
  refine ⟨h.1, ?_⟩
  rcases h.2 with h1 | ⟨b, off, cap, hv, hc, hlt, hg⟩
  · exact .inl h1
  · exact .inr ⟨b, off, cap, hv, hc, Nat.lt_of_lt_of_le hlt hb.size, fun j u hj => by rw [hb.cell (p := ⟨b, off + j, none⟩) hlt]; exact hg j u hj⟩
theorem SlotsAt.slice {w : World} {k : Nat} {v : Value} {l : List (List Value)} (h : SlotsAt w k v l) : ∃ ao cap, v = .slice ao l.length cap := by
  rcases h.2 with ⟨⟨ao, cap, hv⟩, h0⟩ | ⟨b, off, cap, hv, _⟩
  · exact ⟨ao, cap, by rw [hv, h0]; rfl⟩
  · exact ⟨_, _, hv⟩
/-- the address of its first element, where it has one -/
theorem SlotsAt.some {w : World} {k : Nat} {v : Value} {l : List (List Value)} (h : SlotsAt w k v l) (hl : 0 < l.length) :
    ∃ b off cap, v = .slice (some ⟨b, off, none⟩) l.length cap ∧ l.length ≤ cap ∧ b < w.heap.size ∧ ∀ (i j : Nat) r u, l[i]? = some r → r[j]? = some u → w.cell? ⟨b, off + (i * k + j), none⟩ = some u := by
  rcases h.2 with ⟨_, h0⟩ | ⟨b, off, cap, hv, hc, hlt, hg⟩
  · rw [h0] at hl; cases hl
  · refine ⟨b, off, cap, hv, hc, hlt, fun i j r u hi hj => hg _ _ ?_⟩
    have hm := h.1 r (List.mem_of_getElem? hi)
    have hjk : j < k := by
      have := (List.getElem?_eq_some_iff.1 hj).1
      omega
    rw [h.1.get i j r hjk hi, hj]
theorem SlotsAt.of_owns {w : World} {B : Nat} {e : TypeId} {k n : Nat} {v : Value} {xs : List Value} {l : List (List Value)} (hw : Wide k l) (h : w.ownsRow B e k v n xs) (hn : n = l.length) (hx : xs = l.flatten) : SlotsAt w k v l := by
  subst hn
  subst hx
  refine ⟨hw, ?_⟩
  rcases h.2 with ⟨hv, h0⟩ | ⟨g, cap, cur, hv, hb, hg, hnc, _, hcs, htk⟩
  · exact .inl ⟨⟨none, 0, hv⟩, List.eq_nil_of_length_eq_zero h0⟩
  · refine .inr ⟨g, 0, cap, hv, hnc, (Array.getElem?_eq_some_iff.1 hg).1, fun j u hj => ?_⟩
    rw [← htk, List.getElem?_take] at hj
    split at hj
    · simp only [World.cell?, hg]
      simpa using hj
    · cases hj
theorem ownsRow_keep {w w' : World} {B k : Nat} {e : TypeId} {n : Nat} {v : Value} {xs : List Value} (h : w.ownsRow B e k v n xs) (hb : Below w.heap.size w w') : w'.ownsRow B e k v n xs :=
  h.kept (row := none) ⟨hb.os, hb.tape, hb.output, hb.size, fun k hk _ => hb.block k hk⟩ (by cases v.ownBlock <;> simp)
end Go.Proofs.YtlkgcidhhngfeaaGreatDoor
/- Rows of the call's own, over calls that make memory. -/
namespace Go.Proofs.YtlkgcidhhngfeaaGreatDoor
open Go.RowKit
theorem ownsRow_below {w w' : World} {B : Nat} {e : TypeId} {n : Nat} {v : Value} {xs : List Value} (h : w.ownsRow B e 1 v n xs) (hb : Below w.heap.size w w') : w'.ownsRow B e 1 v n xs :=
  h.kept (row := none) ⟨hb.os, hb.tape, hb.output, hb.size, fun k hk _ => hb.block k hk⟩ (by cases v.ownBlock <;> simp)
end Go.Proofs.YtlkgcidhhngfeaaGreatDoor
/- What num's bytes are, as plain functions: seven bits a byte, the least first; that what is put is got, and what is got is put. No program is in sight. -/
namespace Go.Proofs.YtlkgcidhhngfeaaGreatDoor
open Go.RowKit
/-- the number from 0 on -/
def zig (n : Int) : Nat := (if n < 0 then -2 * n - 1 else 2 * n).toNat
def zag (u : Nat) : Int := if u % 2 = 1 then -((u / 2 : Nat) : Int) - 1 else ((u / 2 : Nat) : Int)
theorem zig_lt (n : Int) (h : InI64 n) : zig n < 18446744073709551616 := by unfold InI64 at h; unfold zig; split <;> omega
theorem zag_zig (n : Int) : zag (zig n) = n := by unfold zag zig; split <;> split <;> omega
theorem zig_zag (u : Nat) : zig (zag u) = u := by unfold zag zig; split <;> split <;> omega
theorem zag_in (u : Nat) (h : u < 18446744073709551616) : InI64 (zag u) := by unfold InI64 zag; split <;> omega
theorem zig_inj {a b : Int} (h : zig a = zig b) : a = b := by rw [← zag_zig a, ← zag_zig b, h]

/-- as few digits of seven bits as there are, at most f -/
def lebF : Nat → Nat → List UInt8
  | 0, _ => []
  | f + 1, u => if u < 128 then [UInt8.ofNat u] else UInt8.ofNat (u % 128 + 128) :: lebF f (u / 128)
def getF : Nat → Bool → List UInt8 → Option (Nat × Nat)
  | 0, _, _ => none
  | _ + 1, _, [] => none
  | f + 1, first, b :: r => if 128 ≤ b.toNat then (getF f false r).map (fun p => (b.toNat - 128 + 128 * p.1, p.2 + 1))
      else if (b.toNat = 0 ∧ first = false) ∨ (1 < b.toNat ∧ f = 0) then none else some (b.toNat, 1)

theorem lebF_length (f u : Nat) : (lebF f u).length ≤ f := by
  induction f generalizing u with
  | zero => simp [lebF]
  | succ f ih =>
    unfold lebF
    split
    · simp
    · have := ih (u / 128); simp; omega
theorem lebF_pos (f u : Nat) : 1 ≤ (lebF (f + 1) u).length := by unfold lebF; split <;> simp
theorem ofNat_toNat8 (n : Nat) (h : n < 256) : (UInt8.ofNat n).toNat = n := by rw [UInt8.toNat_ofNat']; omega

theorem getF_lebF (f u : Nat) (fi : Bool) (r : List UInt8) (hu : u < 2 * 128 ^ f) (hf : fi = true ∨ 1 ≤ u) : getF (f + 1) fi (lebF (f + 1) u ++ r) = some (u, (lebF (f + 1) u).length) := by
  induction f generalizing u fi with
  | zero =>
    have hu' : u < 2 := by simpa using hu
    have h1 : u < 128 := by omega
    simp only [lebF, h1, if_true, List.singleton_append, getF, ofNat_toNat8 u (by omega)]
    rw [if_neg (by omega), if_neg (by rintro (⟨h0, h0'⟩ | ⟨h0, _⟩) <;> first | omega | (rcases hf with hf | hf <;> first | simp_all | omega))]
    simp
  | succ f ih =>
    have hpow : 128 ^ (f + 1) = 128 * 128 ^ f := by rw [Nat.pow_succ, Nat.mul_comm]
    by_cases h1 : u < 128
    · rw [lebF, if_pos h1]
      simp only [List.singleton_append, getF, ofNat_toNat8 u (by omega)]
      rw [if_neg (by omega), if_neg (by rintro (⟨h0, h0'⟩ | ⟨_, h0⟩) <;> first | omega | (rcases hf with hf | hf <;> first | simp_all | omega))]
      simp
    · rw [lebF, if_neg h1]
      simp only [List.cons_append]
      rw [getF, ofNat_toNat8 (u % 128 + 128) (by omega), if_pos (by omega), ih (u / 128) false (by omega) (Or.inr (by omega))]
      simp
      omega

theorem lebF_getF (f c : Nat) (u : Nat) (fi : Bool) (l : List UInt8) (h : getF (f + 1) fi l = some (u, c)) :
    l.take c = lebF (f + 1) u ∧ u < 2 * 128 ^ f ∧ (fi = false → 1 ≤ u) ∧ 1 ≤ c ∧ c ≤ l.length ∧ c = (lebF (f + 1) u).length := by
  induction f generalizing u fi l c with
  | zero =>
    match l, h with
    | [], h => simp [getF] at h
    | b :: r, h =>
      rw [getF] at h
      split at h
      · simp [getF] at h
      · split at h
        · simp at h
        · rename_i h1 h2
          simp only [Option.some.injEq, Prod.mk.injEq] at h
          obtain ⟨rfl, rfl⟩ := h
          have hb : ¬ (1 < b.toNat) := fun hb => h2 (Or.inr ⟨hb, rfl⟩)
          refine ⟨by simp [lebF, show b.toNat < 128 by omega], by omega, fun hf => ?_, by omega, by simp, by simp [lebF, show b.toNat < 128 by omega]⟩
          rcases Nat.eq_zero_or_pos b.toNat with h0 | h0
          · exact absurd (Or.inl ⟨h0, hf⟩) h2
          · exact h0
  | succ f ih =>
    have hpow : 128 ^ (f + 1) = 128 * 128 ^ f := by rw [Nat.pow_succ, Nat.mul_comm]
    have hpos : 1 ≤ 128 ^ f := Nat.one_le_pow _ _ (by omega)
    match l, h with
    | [], h => simp [getF] at h
    | b :: r, h =>
      rw [getF] at h
      have hb := b.toNat_lt
      split at h
      · rename_i h1
        rw [Option.map_eq_some_iff] at h
        obtain ⟨⟨v, d⟩, hg, he⟩ := h
        simp only [Prod.mk.injEq] at he
        obtain ⟨rfl, rfl⟩ := he
        obtain ⟨k1, k2, k3, k4, k5, k6⟩ := ih d v false r hg
        have hv := k3 rfl
        have hnot : ¬ (b.toNat - 128 + 128 * v < 128) := by omega
        have hdiv : (b.toNat - 128 + 128 * v) / 128 = v := by omega
        have hmod : (b.toNat - 128 + 128 * v) % 128 + 128 = b.toNat := by omega
        have hl : lebF (f + 1 + 1) (b.toNat - 128 + 128 * v) = b :: lebF (f + 1) v := by
          rw [lebF, if_neg hnot, hdiv, hmod, UInt8.ofNat_toNat]
        refine ⟨?_, by omega, by omega, by omega, by simp; omega, ?_⟩
        · rw [List.take_succ_cons, k1, hl]
        · rw [hl, List.length_cons, ← k6]
      · split at h
        · simp at h
        · rename_i h1 h2
          simp only [Option.some.injEq, Prod.mk.injEq] at h
          obtain ⟨rfl, rfl⟩ := h
          refine ⟨by simp [lebF, show b.toNat < 128 by omega], by omega, fun hf => ?_, by omega, by simp, by simp [lebF, show b.toNat < 128 by omega]⟩
          rcases Nat.eq_zero_or_pos b.toNat with h0 | h0
          · exact absurd (Or.inl ⟨h0, hf⟩) h2
          · exact h0

/-- Put, Get, as the chapter has them -/
def putL (n : Int) : List UInt8 := lebF 10 (zig n)
def getR (l : List UInt8) (at_ : Int) : Option (Int × Int) :=
  if at_ < 0 ∨ (l.length : Int) ≤ at_ then none else (getF 10 true (l.drop at_.toNat)).map fun p => (zag p.1, at_ + p.2)
theorem putL_length (n : Int) : (putL n).length ≤ 10 := lebF_length _ _
theorem putL_pos (n : Int) : 1 ≤ (putL n).length := lebF_pos _ _
theorem getR_putL (n : Int) (h : InI64 n) (a r : List UInt8) : getR (a ++ putL n ++ r) a.length = some (n, ((a.length + (putL n).length : Nat) : Int)) := by
  have hp := putL_pos n
  unfold getR
  rw [if_neg (by simp; omega), Int.toNat_natCast, List.append_assoc, List.drop_left, putL, getF_lebF 9 (zig n) true r (by have := zig_lt n h; omega) (Or.inl rfl)]
  simp [zag_zig]
theorem putL_getR (l : List UInt8) (at_ n next : Int) (h : getR l at_ = some (n, next)) :
    0 ≤ at_ ∧ at_ < next ∧ next ≤ l.length ∧ InI64 n ∧ (l.drop at_.toNat).take (next - at_).toNat = putL n ∧ next = at_ + (putL n).length := by
  unfold getR at h
  split at h
  · simp at h
  · rename_i ha
    rw [Option.map_eq_some_iff] at h
    obtain ⟨⟨u, c⟩, hg, he⟩ := h
    simp only [Prod.mk.injEq] at he
    obtain ⟨rfl, rfl⟩ := he
    obtain ⟨k1, k2, _, k4, k5, k6⟩ := lebF_getF 9 c u true _ hg
    rw [List.length_drop] at k5
    refine ⟨by omega, by omega, by omega, zag_in u (by omega), ?_, ?_⟩
    · rw [show (at_ + (c : Int) - at_).toNat = c by omega, k1, putL, zig_zag]
    · rw [putL, zig_zag, ← k6]
theorem putL_inj {a b : Int} (ha : InI64 a) (hb : InI64 b) (h : putL a = putL b) : a = b := by
  have h1 := getR_putL a ha [] []
  have h2 := getR_putL b hb [] []
  rw [h] at h1
  rw [h1] at h2
  simp only [Option.some.injEq, Prod.mk.injEq] at h2
  exact h2.1

/-! the walk's spellings -/
theorem xor_ones (a : Nat) (h : a < 18446744073709551616) : a ^^^ 18446744073709551615 = 18446744073709551615 - a := by
  have h1 : (BitVec.ofNat 64 a ^^^ BitVec.allOnes 64).toNat = a ^^^ 18446744073709551615 := by
    rw [BitVec.toNat_xor, BitVec.toNat_ofNat, BitVec.toNat_allOnes]
    rw [Nat.mod_eq_of_lt (by omega)]
  rw [← h1, BitVec.xor_allOnes, BitVec.toNat_not, BitVec.toNat_ofNat]
  rw [Nat.mod_eq_of_lt (by omega)]
theorem zig_xor_pos (n : Int) (h0 : 0 ≤ n) (h1 : n ≤ 9223372036854775807) : bits BinOp.xor IntKind.u64 (n * 2) (n / 9223372036854775808) = ((zig n : Nat) : Int) := by
  obtain ⟨m, rfl⟩ := Int.eq_ofNat_of_zero_le h0
  have e1 : ((m : Int) * 2) = ((2 * m : Nat) : Int) := by omega
  have e2 : ((m : Int) / 9223372036854775808) = ((0 : Nat) : Int) := by omega
  rw [e1, e2, u64_xor_nat (2 * m) 0 (by omega) (by omega), Nat.xor_zero]
  unfold zig
  rw [if_neg (by omega)]
  omega
theorem zig_xor_neg (n : Int) (h0 : n < 0) (h1 : -9223372036854775808 ≤ n) :
    bits BinOp.xor IntKind.u64 (IntKind.u64.wrap (IntKind.u64.wrap n * 2)) (IntKind.u64.wrap (n / 9223372036854775808)) = ((zig n : Nat) : Int) := by
  have e1 : IntKind.u64.wrap (IntKind.u64.wrap n * 2) = (((2 * n + 18446744073709551616).toNat : Nat) : Int) := by
    simp only [IntKind.wrap_u64]; omega
  have e2 : IntKind.u64.wrap (n / 9223372036854775808) = ((18446744073709551615 : Nat) : Int) := by
    simp only [IntKind.wrap_u64]; omega
  rw [e1, e2, u64_xor_nat _ _ (by omega) (by omega), xor_ones _ (by omega)]
  unfold zig
  rw [if_pos h0]
  omega
end Go.Proofs.YtlkgcidhhngfeaaGreatDoor
/- Sets of principals, formulas, labels: what the code computes, and what follows; no program in sight. -/
namespace Go.Proofs.YtlkgcidhhngfeaaGreatDoor
/-- each bit of a is one of b -/
def inS (a b : UInt8) : Bool := a &&& ~~~b == 0
/-- those sets below k of l that have no smaller one of l in them -/
def leastGo (l : List UInt8) : Nat → List UInt8
  | 0 => []
  | k + 1 => if l.contains (UInt8.ofNat k) && !((leastGo l k).any fun x => inS x (UInt8.ofNat k)) then leastGo l k ++ [UInt8.ofNat k] else leastGo l k
def leastL (l : List UInt8) : List UInt8 := leastGo l 256
def c6 (c : UInt8) : UInt8 := c &&& 63
def normL (l : List UInt8) : List UInt8 := leastL (l.map c6)
theorem leastGo_mem {l : List UInt8} {x : UInt8} : ∀ {k : Nat}, k ≤ 256 → x ∈ leastGo l k → x ∈ l ∧ x.toNat < k
  | 0, _, h => by simp [leastGo] at h
  | k + 1, hk, h => by
    unfold leastGo at h
    split at h
    · rename_i hc
      rcases List.mem_append.1 h with h | h
      · have := leastGo_mem (by omega) h
        exact ⟨this.1, by omega⟩
      · rw [List.mem_singleton] at h
        subst h
        simp only [Bool.and_eq_true, List.contains_iff_mem] at hc
        refine ⟨hc.1, ?_⟩
        rw [UInt8.toNat_ofNat']
        omega
    · have := leastGo_mem (by omega) h
      exact ⟨this.1, by omega⟩
theorem leastGo_mono {l : List UInt8} {x : UInt8} {j : Nat} : ∀ {k : Nat}, j ≤ k → x ∈ leastGo l j → x ∈ leastGo l k
  | 0, hk, h => by obtain rfl : j = 0 := by omega
                   exact h
  | k + 1, hk, h => by
    rcases Nat.lt_or_ge k j with h1 | h1
    · obtain rfl : j = k + 1 := by omega
      exact h
    · have := leastGo_mono h1 h
      unfold leastGo
      split
      · exact List.mem_append_left _ this
      · exact this
theorem leastGo_least {l : List UInt8} : ∀ {k : Nat}, k ≤ 256 → leastGo (leastL l) k = leastGo l k
  | 0, _ => rfl
  | k + 1, hk => by
    have ih := leastGo_least (l := l) (k := k) (by omega)
    rw [leastGo, leastGo, ih]
    by_cases hc : (l.contains (UInt8.ofNat k) && !((leastGo l k).any fun x => inS x (UInt8.ofNat k))) = true
    · have h1 : UInt8.ofNat k ∈ leastL l := leastGo_mono hk (by rw [leastGo, if_pos hc]; simp)
      rw [if_pos hc, if_pos]
      rw [Bool.and_eq_true] at hc ⊢
      exact ⟨by simpa using h1, hc.2⟩
    · rw [if_neg hc, if_neg]
      intro h
      rw [Bool.and_eq_true, List.contains_iff_mem] at h
      exact hc (by rw [Bool.and_eq_true, List.contains_iff_mem]; exact ⟨(leastGo_mem (Nat.le_refl 256) h.1).1, h.2⟩)
theorem leastL_idem (l : List UInt8) : leastL (leastL l) = leastL l := leastGo_least (Nat.le_refl _)
theorem leastGo_length (l : List UInt8) : ∀ k, (leastGo l k).length ≤ k
  | 0 => Nat.le_refl _
  | k + 1 => by
    have := leastGo_length l k
    unfold leastGo
    split
    · simp; omega
    · omega
theorem leastGo_small {l : List UInt8} (h : ∀ x ∈ l, x.toNat < 64) : ∀ {k : Nat}, 64 ≤ k → k ≤ 256 → leastGo l k = leastGo l 64
  | 0, hk, _ => by omega
  | k + 1, hk, hk2 => by
    by_cases h1 : k + 1 = 64
    · rw [h1]
    · rw [leastGo, if_neg, leastGo_small h (by omega) (by omega)]
      rw [Bool.and_eq_true, List.contains_iff_mem]
      intro hc
      have := h _ hc.1
      rw [UInt8.toNat_ofNat'] at this
      omega
theorem c6_lt (c : UInt8) : (c6 c).toNat < 64 := by
  unfold c6
  rw [UInt8.toNat_and]
  exact Nat.lt_of_le_of_lt Nat.and_le_right (by decide)
theorem c6_idem (c : UInt8) : c6 (c6 c) = c6 c := by unfold c6; rw [UInt8.and_assoc]; rfl
theorem normL_mem {l : List UInt8} {x : UInt8} (h : x ∈ normL l) : ∃ c ∈ l, x = c6 c := by
  have := (leastGo_mem (Nat.le_refl _) h).1
  rw [List.mem_map] at this
  obtain ⟨c, hc, rfl⟩ := this
  exact ⟨c, hc, rfl⟩
theorem normL_lt {l : List UInt8} {x : UInt8} (h : x ∈ normL l) : x.toNat < 64 := by
  obtain ⟨c, _, rfl⟩ := normL_mem h
  exact c6_lt c
theorem normL_c6 (l : List UInt8) : (normL l).map c6 = normL l := by
  conv => rhs; rw [← List.map_id (normL l)]
  apply List.map_congr_left
  intro x hx
  obtain ⟨c, _, rfl⟩ := normL_mem hx
  exact c6_idem c
theorem normL_idem (l : List UInt8) : normL (normL l) = normL l := by
  show leastL ((normL l).map c6) = _
  rw [normL_c6]
  exact leastL_idem _
theorem normL_length (l : List UInt8) : (normL l).length ≤ 64 := by
  have h : normL l = leastGo (l.map c6) 64 := leastGo_small (by
    intro x hx
    rw [List.mem_map] at hx
    obtain ⟨c, _, rfl⟩ := hx
    exact c6_lt c) (by omega) (Nat.le_refl _)
  rw [h]
  exact leastGo_length _ _
def rightFm (l : List UInt8) : Bool := normL l == l
theorem rightFm_norm (l : List UInt8) : rightFm (normL l) = true := by unfold rightFm; rw [normL_idem]; exact beq_self_eq_true _
theorem rightFm_eq {l : List UInt8} (h : rightFm l = true) : normL l = l := eq_of_beq h
theorem rightFm_length {l : List UInt8} (h : rightFm l = true) : l.length ≤ 64 := by rw [← rightFm_eq h]; exact normL_length l
theorem rightFm_lt {l : List UInt8} (h : rightFm l = true) : ∀ x ∈ l, x.toNat < 64 := by rw [← rightFm_eq h]; exact fun x hx => normL_lt hx
/-! bytes -/
def putFm (l : List UInt8) : List UInt8 := UInt8.ofNat (normL l).length :: normL l
/-- the formula whose bytes stand at the head, and how many they are -/
def getFm : List UInt8 → Option (List UInt8 × Nat)
  | [] => none
  | c :: l => if c.toNat ≤ l.length ∧ rightFm (l.take c.toNat) = true then some (l.take c.toNat, c.toNat + 1) else none
theorem getFm_put {l : List UInt8} (h : rightFm l = true) (t : List UInt8) : getFm (putFm l ++ t) = some (l, l.length + 1) := by
  have hl := rightFm_length h
  have hn := rightFm_eq h
  unfold putFm
  rw [hn]
  have e : (UInt8.ofNat l.length).toNat = l.length := by rw [UInt8.toNat_ofNat']; omega
  rw [List.cons_append, getFm, e, List.take_left, if_pos ⟨by simp, h⟩]
theorem getFm_some {s f : List UInt8} {n : Nat} (h : getFm s = some (f, n)) : rightFm f = true ∧ n = f.length + 1 ∧ n ≤ s.length ∧ putFm f = s.take n := by
  cases s with
  | nil => simp [getFm] at h
  | cons c l =>
    rw [getFm] at h
    by_cases hc : c.toNat ≤ l.length ∧ rightFm (l.take c.toNat) = true
    · rw [if_pos hc] at h
      simp only [Option.some.injEq, Prod.mk.injEq] at h
      obtain ⟨rfl, rfl⟩ := h
      have hlen : (l.take c.toNat).length = c.toNat := by rw [List.length_take]; omega
      refine ⟨hc.2, by rw [hlen], by simp only [List.length_cons]; omega, ?_⟩
      unfold putFm
      rw [rightFm_eq hc.2, hlen, UInt8.ofNat_toNat]
      rfl
    · rw [if_neg hc] at h
      cases h
theorem putFm_length (l : List UInt8) : (putFm l).length = (normL l).length + 1 := rfl
/-- a beginning of what is put is none -/
theorem getFm_torn {l : List UInt8} (h : rightFm l = true) {k : Nat} (hk : k < (putFm l).length) : getFm ((putFm l).take k) = none := by
  rw [putFm_length, rightFm_eq h] at hk
  cases k with
  | zero => rfl
  | succ k =>
    have hl := rightFm_length h
    unfold putFm
    rw [List.take_succ_cons, rightFm_eq h, getFm, if_neg]
    rw [UInt8.toNat_ofNat', List.length_take]
    omega
/-! labels -/
structure Lb where
  S : List UInt8
  I : List UInt8
def Lb.right (l : Lb) : Bool := rightFm l.S && rightFm l.I
def Lb.norm (l : Lb) : Lb := ⟨normL l.S, normL l.I⟩
theorem Lb.right_norm (l : Lb) : l.norm.right = true := by simp [Lb.right, Lb.norm, rightFm_norm]
def Lb.put (l : Lb) : List UInt8 := putFm l.S ++ putFm l.I
def getLb (s : List UInt8) : Option (Lb × Nat) := match getFm s with
  | none => none
  | some (f, n) => match getFm (s.drop n) with
    | none => none
    | some (g, m) => some (⟨f, g⟩, n + m)
theorem getLb_put {l : Lb} (h : l.right = true) (t : List UInt8) : getLb (l.put ++ t) = some (l, l.put.length) := by
  obtain ⟨S, I⟩ := l
  simp only [Lb.right, Bool.and_eq_true] at h
  have hS : (putFm S).length = S.length + 1 := by rw [putFm_length, rightFm_eq h.1]
  have hI : (putFm I).length = I.length + 1 := by rw [putFm_length, rightFm_eq h.2]
  unfold getLb Lb.put
  simp only [List.append_assoc]
  rw [getFm_put h.1]
  simp only
  rw [← hS, List.drop_left, getFm_put h.2]
  simp only [List.length_append, hI]
theorem getLb_some {s : List UInt8} {l : Lb} {n : Nat} (h : getLb s = some (l, n)) : l.right = true ∧ n ≤ s.length ∧ l.put = s.take n ∧ n = l.put.length := by
  unfold getLb at h
  split at h
  · cases h
  · rename_i f a hf
    split at h
    · cases h
    · rename_i g m hg
      simp only [Option.some.injEq, Prod.mk.injEq] at h
      obtain ⟨rfl, rfl⟩ := h
      obtain ⟨h1, h2, h3, h4⟩ := getFm_some hf
      obtain ⟨k1, k2, k3, k4⟩ := getFm_some hg
      rw [List.length_drop] at k3
      have e : putFm f ++ putFm g = s.take (a + m) := by rw [h4, k4, List.take_add]
      refine ⟨by simp [Lb.right, h1, k1], by omega, e, ?_⟩
      show a + m = (putFm f ++ putFm g).length
      rw [e, List.length_take]
      omega
theorem getLb_torn {l : Lb} (h : l.right = true) {k : Nat} (hk : k < l.put.length) : getLb (l.put.take k) = none := by
  obtain ⟨S, I⟩ := l
  simp only [Lb.right, Bool.and_eq_true] at h
  unfold Lb.put at hk ⊢
  simp only at hk ⊢
  rw [List.length_append] at hk
  by_cases h1 : k < (putFm S).length
  · rw [List.take_append_of_le_length (by omega)]
    unfold getLb
    rw [getFm_torn h.1 h1]
  · obtain ⟨j, rfl⟩ : ∃ j, k = (putFm S).length + j := ⟨k - (putFm S).length, by omega⟩
    rw [List.take_length_add_append]
    unfold getLb
    rw [getFm_put h.1]
    simp only
    have hS : (putFm S).length = S.length + 1 := by rw [putFm_length, rightFm_eq h.1]
    rw [← hS, List.drop_left, getFm_torn h.2 (by omega)]
/-! texts -/
def bitP (c : UInt8) (k : Nat) : Bool := c >>> (UInt8.ofNat k) &&& 1 == 1
/-- the letters of the first k places -/
def textGo (c : UInt8) : Nat → List UInt8
  | 0 => []
  | k + 1 => if bitP c k then textGo c k ++ (if (textGo c k).isEmpty then [] else [124]) ++ [UInt8.ofNat (97 + k)] else textGo c k
def textP (c : UInt8) : List UInt8 := if 64 ≤ c.toNat then [63] else if c = 0 then [45] else textGo c 6
def okP (c : UInt8) : Bool := (textP c).all (fun d => decide (97 ≤ d.toNat ∧ d.toNat ≤ 102) || d == 124 || d == 45) && !(textP c).isEmpty
theorem textP_ok {c : UInt8} (h : c.toNat < 64) : okP c = true := by
  have h2 : ∀ i : Fin 64, okP (UInt8.ofNat i.val) = true := by decide +kernel
  have := h2 ⟨c.toNat, h⟩
  rwa [UInt8.ofNat_toNat] at this
theorem textP_length {c : UInt8} : (textP c).length ≤ 11 := by
  have h2 : ∀ i : Fin 256, (textP (UInt8.ofNat i.val)).length ≤ 11 := by decide +kernel
  have := h2 ⟨c.toNat, c.toNat_lt⟩
  rwa [UInt8.ofNat_toNat] at this
theorem textP_inj {c d : UInt8} (hc : c.toNat < 64) (hd : d.toNat < 64) (h : textP c = textP d) : c = d := by
  have h2 : ∀ i j : Fin 64, textP (UInt8.ofNat i.val) = textP (UInt8.ofNat j.val) → i = j := by decide +kernel
  have := h2 ⟨c.toNat, hc⟩ ⟨d.toNat, hd⟩
  rw [UInt8.ofNat_toNat, UInt8.ofNat_toNat] at this
  have := Fin.mk.inj_iff.1 (this h)
  exact UInt8.toNat_inj.1 this
/-- the clauses' texts, with what is between -/
def joinP : List UInt8 → List UInt8
  | [] => []
  | [c] => textP c
  | c :: d :: l => textP c ++ 38 :: joinP (d :: l)
def textN (f : List UInt8) : List UInt8 := if f = [] then [84] else if f = [0] then [70] else joinP f
def textFm (l : List UInt8) : List UInt8 := textN (normL l)
theorem joinP_snoc : ∀ (l : List UInt8) (c : UInt8), joinP (l ++ [c]) = joinP l ++ (if l.isEmpty then [] else [38]) ++ textP c
  | [], c => by simp [joinP]
  | [a], c => by simp [joinP]
  | a :: b :: l, c => by
    rw [List.cons_append, List.cons_append, joinP, ← List.cons_append, joinP_snoc (b :: l) c]
    simp [joinP]
theorem textP_ne {c : UInt8} (h : c.toNat < 64) : textP c ≠ [] := by
  have := textP_ok h
  unfold okP at this
  intro e
  rw [e] at this
  simp at this
theorem joinP_ne {l : List UInt8} (h : ∀ c ∈ l, c.toNat < 64) (hl : l ≠ []) : joinP l ≠ [] := by
  match l with
  | [] => exact absurd rfl hl
  | [c] => exact textP_ne (h c (by simp))
  | c :: d :: l =>
    rw [joinP]
    intro e
    simp at e
theorem joinP_length : ∀ (l : List UInt8), (joinP l).length ≤ 12 * l.length
  | [] => by simp [joinP]
  | [c] => by have := textP_length (c := c); simp [joinP]; omega
  | c :: d :: l => by
    have := textP_length (c := c)
    have := joinP_length (d :: l)
    simp [joinP] at *
    omega
def chP (d : UInt8) : Prop := (97 ≤ d.toNat ∧ d.toNat ≤ 102) ∨ d = 124 ∨ d = 45
theorem textP_ch {c : UInt8} (h : c.toNat < 64) : ∀ d ∈ textP c, chP d := by
  have := textP_ok h
  unfold okP at this
  simp only [Bool.and_eq_true, List.all_eq_true, Bool.or_eq_true, decide_eq_true_eq, beq_iff_eq] at this
  intro d hd
  rcases this.1 d hd with (h1 | h1) | h1
  · exact Or.inl h1
  · exact Or.inr (Or.inl h1)
  · exact Or.inr (Or.inr h1)
theorem chP_ne {d : UInt8} (h : chP d) : d ≠ 38 ∧ d ≠ 47 ∧ d ≠ 84 ∧ d ≠ 70 ∧ d ≠ 60 ∧ d ≠ 62 := by
  rcases h with h | rfl | rfl
  · refine ⟨?_, ?_, ?_, ?_, ?_, ?_⟩ <;> (rintro rfl; simp at h)
  · decide
  · decide
/-- a text up to the first place of a byte -/
theorem split_inj {p : UInt8} : ∀ {a b x y : List UInt8}, (∀ d ∈ a, d ≠ p) → (∀ d ∈ b, d ≠ p) → a ++ p :: x = b ++ p :: y → a = b ∧ x = y
  | [], [], x, y, _, _, h => by simp at h; exact ⟨rfl, h⟩
  | [], b :: l, x, y, _, hb, h => by
    simp at h
    exact absurd h.1.symm (hb b (by simp))
  | a :: l, [], x, y, ha, _, h => by
    simp at h
    exact absurd h.1 (ha a (by simp))
  | a :: l, b :: m, x, y, ha, hb, h => by
    simp only [List.cons_append, List.cons.injEq] at h
    obtain ⟨h1, h2⟩ := split_inj (fun d hd => ha d (by simp [hd])) (fun d hd => hb d (by simp [hd])) h.2
    exact ⟨by rw [h.1, h1], h2⟩
theorem no_amp {c : UInt8} (h : c.toNat < 64) : ∀ d ∈ textP c, d ≠ 38 := fun d hd => (chP_ne (textP_ch h d hd)).1
theorem joinP_inj : ∀ {l m : List UInt8}, (∀ c ∈ l, c.toNat < 64) → (∀ c ∈ m, c.toNat < 64) → joinP l = joinP m → l = m
  | [], [], _, _, _ => rfl
  | [], b :: m, _, hm, h => absurd h.symm (joinP_ne hm (by simp))
  | a :: l, [], hl, _, h => absurd h (joinP_ne hl (by simp))
  | [a], [b], hl, hm, h => by rw [textP_inj (hl a (by simp)) (hm b (by simp)) h]
  | [a], b :: c :: m, hl, hm, h => by
    simp only [joinP] at h
    have := no_amp (hl a (by simp)) 38 (by rw [h]; simp)
    exact absurd rfl this
  | a :: c :: l, [b], hl, hm, h => by
    simp only [joinP] at h
    have := no_amp (hm b (by simp)) 38 (by rw [← h]; simp)
    exact absurd rfl this
  | a :: a' :: l, b :: b' :: m, hl, hm, h => by
    simp only [joinP] at h
    obtain ⟨h1, h2⟩ := split_inj (no_amp (hl a (by simp))) (no_amp (hm b (by simp))) h
    rw [textP_inj (hl a (by simp)) (hm b (by simp)) h1, joinP_inj (fun x hx => hl x (by simp [hx])) (fun x hx => hm x (by simp [hx])) h2]
def chF (d : UInt8) : Prop := chP d ∨ d = 38 ∨ d = 84 ∨ d = 70
theorem joinP_ch : ∀ {l : List UInt8}, (∀ c ∈ l, c.toNat < 64) → ∀ d ∈ joinP l, chP d ∨ d = 38
  | [], _, d, hd => by simp [joinP] at hd
  | [c], h, d, hd => Or.inl (textP_ch (h c (by simp)) d hd)
  | c :: e :: l, h, d, hd => by
    rw [joinP, List.mem_append, List.mem_cons] at hd
    rcases hd with hd | hd | hd
    · exact Or.inl (textP_ch (h c (by simp)) d hd)
    · exact Or.inr hd
    · exact joinP_ch (fun x hx => h x (by simp [hx])) d hd
theorem textN_ch {l : List UInt8} (h : ∀ c ∈ l, c.toNat < 64) : ∀ d ∈ textN l, chF d := by
  intro d hd
  unfold textN at hd
  split at hd
  · simp at hd; exact Or.inr (Or.inr (Or.inl hd))
  · split at hd
    · simp at hd; exact Or.inr (Or.inr (Or.inr hd))
    · rcases joinP_ch h d hd with h1 | h1
      · exact Or.inl h1
      · exact Or.inr (Or.inl h1)
theorem chF_ne {d : UInt8} (h : chF d) : d ≠ 47 ∧ d ≠ 60 ∧ d ≠ 62 := by
  rcases h with h | rfl | rfl | rfl
  · have := chP_ne h
    exact ⟨this.2.1, this.2.2.2.2.1, this.2.2.2.2.2⟩
  all_goals decide
theorem not_TF {l : List UInt8} (h : ∀ c ∈ l, c.toNat < 64) : joinP l ≠ [84] ∧ joinP l ≠ [70] := by
  constructor <;>
  · intro e
    rcases joinP_ch h _ (by rw [e]; exact List.mem_singleton.2 rfl) with h1 | h1
    · have := chP_ne h1
      simp at this
    · simp at h1
theorem textN_inj {l m : List UInt8} (hl : ∀ c ∈ l, c.toNat < 64) (hm : ∀ c ∈ m, c.toNat < 64) (h : textN l = textN m) : l = m := by
  have nl := not_TF hl
  have nm := not_TF hm
  unfold textN at h
  by_cases l0 : l = []
  · by_cases m0 : m = []
    · rw [l0, m0]
    · rw [if_pos l0, if_neg m0] at h
      by_cases m1 : m = [0]
      · rw [if_pos m1] at h; simp at h
      · rw [if_neg m1] at h; exact absurd h.symm nm.1
  · rw [if_neg l0] at h
    by_cases l1 : l = [0]
    · rw [if_pos l1] at h
      by_cases m0 : m = []
      · rw [if_pos m0] at h; simp at h
      · rw [if_neg m0] at h
        by_cases m1 : m = [0]
        · rw [l1, m1]
        · rw [if_neg m1] at h; exact absurd h.symm nm.2
    · rw [if_neg l1] at h
      by_cases m0 : m = []
      · rw [if_pos m0] at h; exact absurd h nl.1
      · rw [if_neg m0] at h
        by_cases m1 : m = [0]
        · rw [if_pos m1] at h; exact absurd h nl.2
        · rw [if_neg m1] at h; exact joinP_inj hl hm h
theorem textN_length (l : List UInt8) : (textN l).length ≤ 12 * l.length + 1 := by
  have := joinP_length l
  unfold textN
  split
  · simp
  · split
    · simp
    · omega
theorem textFm_length (l : List UInt8) : (textFm l).length ≤ 769 := by
  have := textN_length (normL l)
  have := normL_length l
  unfold textFm
  omega
theorem textFm_norm (l : List UInt8) : textFm (normL l) = textFm l := by unfold textFm; rw [normL_idem]
theorem textFm_ch (l : List UInt8) : ∀ d ∈ textFm l, chF d := textN_ch fun _ h => normL_lt h
theorem textFm_inj {l m : List UInt8} (hl : rightFm l = true) (hm : rightFm m = true) (h : textFm l = textFm m) : l = m := by
  have := textN_inj (fun c hc => normL_lt hc) (fun c hc => normL_lt hc) h
  rwa [rightFm_eq hl, rightFm_eq hm] at this
def Lb.text (l : Lb) : List UInt8 := textFm l.S ++ 47 :: textFm l.I
theorem Lb.text_inj {l m : Lb} (hl : l.right = true) (hm : m.right = true) (h : l.text = m.text) : l = m := by
  obtain ⟨S, I⟩ := l
  obtain ⟨S', I'⟩ := m
  simp only [Lb.right, Bool.and_eq_true] at hl hm
  obtain ⟨h1, h2⟩ := split_inj (fun d hd => (chF_ne (textFm_ch S d hd)).1) (fun d hd => (chF_ne (textFm_ch S' d hd)).1) h
  rw [textFm_inj hl.1 hm.1 h1, textFm_inj hl.2 hm.2 h2]
theorem Lb.text_ch (l : Lb) : ∀ d ∈ l.text, d ≠ 60 ∧ d ≠ 62 := by
  intro d hd
  unfold Lb.text at hd
  rw [List.mem_append, List.mem_cons] at hd
  rcases hd with hd | rfl | hd
  · exact (chF_ne (textFm_ch _ d hd)).2
  · decide
  · exact (chF_ne (textFm_ch _ d hd)).2
theorem Lb.text_length (l : Lb) : l.text.length ≤ 1539 := by
  have h1 := textFm_length l.S
  have h2 := textFm_length l.I
  unfold Lb.text
  rw [List.length_append, List.length_cons]
  omega
theorem Lb.text_norm (l : Lb) : l.norm.text = l.text := by unfold Lb.text Lb.norm; simp only [textFm_norm]
theorem Lb.put_length (l : Lb) : l.put.length ≤ 130 := by
  have h1 := normL_length l.S
  have h2 := normL_length l.I
  unfold Lb.put
  rw [List.length_append, putFm_length, putFm_length]
  omega
end Go.Proofs.YtlkgcidhhngfeaaGreatDoor
