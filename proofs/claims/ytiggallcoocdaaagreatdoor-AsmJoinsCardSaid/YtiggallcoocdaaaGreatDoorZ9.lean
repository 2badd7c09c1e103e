/- StrMap, Words: joined into one text; each part says below what it holds. -/
import Derived.Test.YtiggallcoocdaaaGreatDoorZ1
import Derived.MapKept
import Derived.Test.YtiggallcoocdaaaGreatDoorZ6
import Derived.Test.YtiggallcoocdaaaGreatDoorLaid
import Derived.Carry
/- Maps of string keys that a call lays itself: an entry behind the others, a look-up by what the keys are. They speak of no program. -/
namespace Go.Proofs.YtiggallcoocdaaaGreatDoor
open Go.RowKit
section
variable {P : Program}
theorem run_checkKey_str (k : TypeId) (hk : P.underlying k = some .string) (w : World) (b : Bool) (n : Nat) (s : ByteArray) : (Instr.checkKey b (n + 1) k (.string s)).run P w = .ok () w :=
  MapKept.run_checkKey (k := .string s) hk (by simp [MapKept.IsKey]) b n
theorem run_findKey_str (k : TypeId) (hk : P.underlying k = some .string) (w : World) (s : ByteArray) (l : List MapEntry) (r : Option (Nat × Value)) (h : Instr.findNow .string (.string s) l 0 = some r) :
    (Instr.findKey k (.string s) l).run P w = .ok r w := by
  unfold Instr.findKey
  simp only [Sem.run_bind, run_underlying hk, Result.andThen_ok, h]
  rfl
/-- 'm[s] = v' on a map of string keys that has no such key: the entry is laid behind the others. -/
theorem run_mapUpdate_str (t k e : TypeId) (ht : P.underlying t = some (.map k e)) (hk : P.underlying k = some .string) (w : World) (es : Array MapEntry) (c : Nat) (s : ByteArray) (v : Value)
    (h : Instr.findNow .string (.string s) es.toList 0 = some none) :
    (Instr.mapUpdate t (.map (some w.heap.size)) (.string s) v).run P (w.alloc (.map es c)) = .ok () (w.alloc (.map (es.push ⟨.string s, v, c⟩) (c + 1))) := by
  have hb : (w.alloc (.map es c)).heap[w.heap.size]? = some (.map es c) := by
    show (w.heap.push _)[w.heap.size]? = _
    simp
  have hck := run_checkKey_str k hk (w.alloc (.map es c)) false 9999 s
  have hfk := run_findKey_str k hk (w.alloc (.map es c)) s es.toList none h
  unfold Instr.mapUpdate
  simp only [Sem.run_bind, run_underlying ht, Result.andThen_ok, MapKept.run_getObj_map hb, hck, hfk, MapKept.run_setObj_map _ hb]
  show Result.ok () { w with heap := (w.heap.push _).setIfInBounds _ _ } = Result.ok () { w with heap := w.heap.push _ }
  congr 2
  apply Array.ext_getElem?
  intro i
  simp only [Array.getElem?_setIfInBounds, Array.getElem?_push, Array.size_push]
  by_cases hi : i = w.heap.size
  · subst hi
    simp
  · rw [if_neg (by omega), if_neg hi, if_neg hi]
/-- 'v, ok := m[s]' where the map has that key. -/
theorem run_lookup_str (t k e : TypeId) (ht : P.underlying t = some (.map k e)) (hk : P.underlying k = some .string) (w : World) (r : Nat) (es : Array MapEntry) (c : Nat) (s : ByteArray) (i : Nat) (v : Value)
    (hb : w.heap[r]? = some (.map es c)) (h : Instr.findNow .string (.string s) es.toList 0 = some (some (i, v))) :
    (Instr.lookup t (.map (some r)) (.string s) true).run P w = .ok (.tuple #[v, .bool true]) w := by
  have hck := run_checkKey_str k hk w es.isEmpty 9999 s
  have hfk := run_findKey_str k hk w s es.toList _ h
  unfold Instr.lookup
  simp only [Sem.run_bind, run_underlying ht, Result.andThen_ok, MapKept.run_getObj_map hb, Sem.run_pure, hck, hfk]
  rfl
/-- 'v, ok := m[s]' where it has not. -/
theorem run_lookup_strno (t k e : TypeId) (ht : P.underlying t = some (.map k e)) (hk : P.underlying k = some .string) (w : World) (r : Nat) (es : Array MapEntry) (c : Nat) (s : ByteArray) (z : Value)
    (hz : (zeroValue e).run P w = .ok z w)
    (hb : w.heap[r]? = some (.map es c)) (h : Instr.findNow .string (.string s) es.toList 0 = some none) :
    (Instr.lookup t (.map (some r)) (.string s) true).run P w = .ok (.tuple #[z, .bool false]) w := by
  have hck := run_checkKey_str k hk w es.isEmpty 9999 s
  have hfk := run_findKey_str k hk w s es.toList _ h
  unfold Instr.lookup
  simp only [Sem.run_bind, run_underlying ht, Result.andThen_ok, MapKept.run_getObj_map hb, Sem.run_pure, hck, hfk, hz]
  rfl
end
end Go.Proofs.YtiggallcoocdaaaGreatDoor
/- asm.words: the map of what tells by which word a line is found; its look-ups. -/
namespace Go.Proofs.YtiggallcoocdaaaGreatDoor
open Go.RowKit
def fnV (f : FuncId) : Value := .func (.func f) #[] #[]
def wordsM : Array MapEntry := #[⟨.string ⟨#[105, 110, 116]⟩, .func (.func 36) #[] #[], 0⟩, ⟨.string ⟨#[109, 97, 114, 107]⟩, .func (.func 37) #[] #[], 1⟩, ⟨.string ⟨#[102, 117, 110]⟩, .func (.func 38) #[] #[], 2⟩]
set_option maxRecDepth 100000 in
theorem words_any (w : World) : Calls Tryz.prog 16 #[] w fun e w' => e = .returned (.map (some w.heap.size)) ∧ w' = w.alloc (.map wordsM 3) := by
  have hm : ∀ W : World, (Instr.makeMap 55 none).run Tryz.prog W = .ok (.map (some W.heap.size)) (W.alloc (.map #[] 0)) := fun W => run_makeMap _ W
  have h1 := run_mapUpdate_str (P := Tryz.prog) _ _ _ Tryz.underlying55 Tryz.underlying9 w #[] 0 ⟨#[105, 110, 116]⟩ (.func (.func 36) #[] #[]) rfl
  have h2 := run_mapUpdate_str (P := Tryz.prog) _ _ _ Tryz.underlying55 Tryz.underlying9 w #[⟨.string ⟨#[105, 110, 116]⟩, .func (.func 36) #[] #[], 0⟩] 1 ⟨#[109, 97, 114, 107]⟩ (.func (.func 37) #[] #[]) (by kernel_rfl)
  have h3 := run_mapUpdate_str (P := Tryz.prog) _ _ _ Tryz.underlying55 Tryz.underlying9 w #[⟨.string ⟨#[105, 110, 116]⟩, .func (.func 36) #[] #[], 0⟩, ⟨.string ⟨#[109, 97, 114, 107]⟩, .func (.func 37) #[] #[], 1⟩] 2 ⟨#[102, 117, 110]⟩ (.func (.func 38) #[] #[]) (by kernel_rfl)
  simp only [List.push_toArray, List.nil_append, List.cons_append, Nat.reduceAdd, Nat.zero_add] at h1 h2 h3
  go_enter Tryz.func16, Tryz.ntmps16
  go_wp2_with fail
  go_ret
  exact ⟨rfl, rfl⟩
/-- the method that a word asks for -/
def wordF (w : List UInt8) : Option FuncId := if w = sInt then some 36 else if w = sMark then some 37 else if w = sFun then some 38 else none
theorem ba_beq (a : ByteArray) (l : List UInt8) : (a == (⟨l.toArray⟩ : ByteArray)) = decide (a.data.toList = l) := by
  obtain ⟨⟨m⟩⟩ := a
  show (m.toArray == l.toArray) = decide (m = l)
  by_cases h : m = l
  · subst h
    rw [decide_eq_true rfl]
    exact beq_self_eq_true _
  · rw [decide_eq_false h, beq_eq_false_iff_ne]
    intro e
    exact h (by simpa using e)
theorem find_word (s : ByteArray) : Instr.findNow .string (.string s) wordsM.toList 0 = match wordF s.data.toList with
    | some f => (if s.data.toList = sInt then some (some (0, .func (.func f) #[] #[])) else if s.data.toList = sMark then some (some (1, .func (.func f) #[] #[])) else some (some (2, .func (.func f) #[] #[])))
    | none => some none := by
  have e1 := ba_beq s sInt
  have e2 := ba_beq s sMark
  have e3 := ba_beq s sFun
  unfold wordsM
  simp only [Instr.findNow, Instr.sameNow]
  rw [show (⟨#[105, 110, 116]⟩ : ByteArray) = ⟨sInt.toArray⟩ from rfl, show (⟨#[109, 97, 114, 107]⟩ : ByteArray) = ⟨sMark.toArray⟩ from rfl, show (⟨#[102, 117, 110]⟩ : ByteArray) = ⟨sFun.toArray⟩ from rfl, e1, e2, e3]
  unfold wordF
  by_cases h1 : s.data.toList = sInt
  · simp only [h1, decide_true, if_true]
  · by_cases h2 : s.data.toList = sMark
    · simp only [h2, decide_true, if_true]
      rfl
    · by_cases h3 : s.data.toList = sFun
      · simp only [h3, decide_true, if_true]
        rfl
      · simp only [h1, h2, h3, decide_false, if_false]
theorem look_yes {s : ByteArray} {f : FuncId} (h : wordF s.data.toList = some f) {W : World} {b : Nat} (hb : W.heap[b]? = some (.map wordsM 3)) :
    (Instr.lookup 55 (.map (some b)) (.string s) true).run Tryz.prog W = .ok (.tuple #[.func (.func f) #[] #[], .bool true]) W := by
  have hf := find_word s
  rw [h] at hf
  simp only at hf
  split at hf
  · exact run_lookup_str _ _ _ Tryz.underlying55 Tryz.underlying9 W b wordsM 3 s _ _ hb hf
  · split at hf
    · exact run_lookup_str _ _ _ Tryz.underlying55 Tryz.underlying9 W b wordsM 3 s _ _ hb hf
    · exact run_lookup_str _ _ _ Tryz.underlying55 Tryz.underlying9 W b wordsM 3 s _ _ hb hf
theorem zero_fn (w : World) : (zeroValue 61).run Tryz.prog w = .ok .nilFunc w := by
  kernel_rfl
theorem look_no {s : ByteArray} (h : wordF s.data.toList = none) : ∃ z, ∀ {W : World} {b : Nat}, W.heap[b]? = some (.map wordsM 3) →
    (Instr.lookup 55 (.map (some b)) (.string s) true).run Tryz.prog W = .ok (.tuple #[z, .bool false]) W := by
  have hf := find_word s
  rw [h] at hf
  simp only at hf
  exact ⟨.nilFunc, fun {W b} hb => run_lookup_strno _ _ _ Tryz.underlying55 Tryz.underlying9 W b wordsM 3 s .nilFunc (zero_fn W) hb hf⟩
end Go.Proofs.YtiggallcoocdaaaGreatDoor
