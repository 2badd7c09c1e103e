/- Maps whose elements are told as they lie (no memory is looked at): what a key has. They speak of no program but for the keys' types. -/
import Derived.Maps.Own
import Derived.Maps.OwnOps
import Derived.Maps.OwnSet
import Derived.Maps.Views
import Derived.Maps.Range
import Derived.Maps.RangeWalk
import Derived.Lib.SlMapEqual
import Derived.DeepKeys4
import Derived.Sort.KeysCollected
import Derived.Test.YtlkgcidhhngfeaaGreatDoorZ1
import Derived.Test.YtlkgcidhhngfeaaGreatDoorProg
namespace Go.Proofs.YtlkgcidhhngfeaaGreatDoor
open Go.RowKit Go.Maps Go.ChangeMaps Go.WideMaps
/-- an element as it lies -/
def rawR (v : Value) : Option (DataW Value × List MemPlace) := some (.held v, [])
/-- what a map has at a key -/
def fD (D : DataW Value) (kl : Lit) : Option Value := if Maps.has D kl then (match D.atKey kl .nil with | .held v => some v | _ => none) else none
theorem fD_held {D : DataW Value} {kl : Lit} {v : Value} (h : ∀ z, D.atKey kl z = .held v) : fD D kl = some v := by
  unfold fD
  rw [Maps.has_true_of_atKey h, h]
  rfl
theorem fD_none {D : DataW Value} {kl : Lit} (h : ∀ z, D.atKey kl z = z) : fD D kl = none := by
  unfold fD
  rw [Maps.has_false_of_atKey h]
  rfl
theorem fD_put_same {D : DataW Value} (hD : Maps.IsMap D) {kl : Lit} (hk : WideAt.IsKeyLit kl) (v : Value) : fD (D.put kl (.held v)) kl = some v := fD_held fun z => Maps.atKey_put_same hD hk _ z
theorem fD_put_other {D : DataW Value} {kl kl' : Lit} (hne : kl' ≠ kl) (v : Value) : fD (D.put kl (.held v)) kl' = fD D kl' := by
  unfold fD
  rw [Maps.has_put_other hne, Maps.atKey_put_other hne]
theorem fD_del_same {D : DataW Value} {kl : Lit} : fD (D.del kl) kl = none := by
  unfold fD
  rw [Maps.has_del_same]
  rfl
theorem fD_del_other {D : DataW Value} {kl kl' : Lit} (hne : kl' ≠ kl) : fD (D.del kl) kl' = fD D kl' := by
  unfold fD
  rw [Maps.has_del_other hne, Maps.atKey_del_other hne]
theorem fD_empty (kl : Lit) : fD (.map []) kl = none := by
  unfold fD
  rfl
section
variable {P : Program} {k t e : TypeId} {w : World} {b n : Nat} {D : DataW Value}
/-- what is there is told: each entry, by its key -/
theorem map_entry (h : w.ownsMap P k rawR b n D) (_ : Keyed P k) {kl : Lit} {v : Value} (hf : fD D kl = some v) : ∃ key, keyOf P k key = some kl := by
  obtain ⟨es, clock, hb, F, _, rfl⟩ := h
  unfold fD at hf
  split at hf
  · rename_i hh
    obtain ⟨p, hp, hpk⟩ := List.any_eq_true.1 hh
    obtain ⟨x, hx, rfl⟩ := List.mem_map.1 (mem_sorted.1 hp)
    obtain ⟨y, hy⟩ := F.reads x hx
    rw [WideElems.rg_of hy] at hpk
    have hk := WideElems.rd_key hy
    exact ⟨x.key, by rw [hk]; exact congrArg some (WideAt.sameKey_eq hpk)⟩
  · cases hf
theorem map_key (K : Keyed P k) {key : Value} {kl : Lit} (hkey : keyOf P k key = some kl) : WideAt.IsKeyLit kl := K.key hkey
/-- 'm[k]', 'v, ok := m[k]' -/
theorem map_look (h : w.ownsMap P k rawR b n D) (K : Keyed P k) (ht : P.underlying t = some (.map k e)) {z : Value} (hz : (zeroValue e).run P w = .ok z w) {key : Value} {kl : Lit} (hkey : keyOf P k key = some kl) (c : Bool) :
    (Instr.lookup t (.map (some b)) key c).run P w = .ok (if c then .tuple #[(fD D kl).getD z, .bool (fD D kl).isSome] else (fD D kl).getD z) w := by
  obtain ⟨es, clock, hb, F, _, rfl⟩ := h
  rcases Maps.fit_look c K ht hz hb F hkey with ⟨hrun, _, hat⟩ | ⟨e0, y, _, _, hrun, hRv, hat, _⟩
  · rw [hrun, fD_none hat]; rfl
  · obtain rfl := Option.some.inj hRv
    rw [hrun, fD_held hat]; rfl
theorem map_put (h : w.ownsMap P k rawR b n D) (K : Keyed P k) (ht : P.underlying t = some (.map k e)) (hn : n < maxLen) {key : Value} {kl : Lit} (hkey : keyOf P k key = some kl) (v : Value) :
    ∃ w', (Instr.mapUpdate t (.map (some b)) key v).run P w = .ok () w' ∧ w'.ownsMap P k rawR b (n + 1) (D.put kl (.held v)) ∧ w.grownBy w' (some b) := h.update K ht hn hkey rfl
/-- how many entries there are is the datum's size -/
theorem map_size (h : w.ownsMap P k rawR b n D) : w.ownsMap P k rawR b (Maps.size D) D := by
  obtain ⟨es, clock, hb, F, hs, rfl⟩ := h
  exact ⟨es, clock, hb, F, by simp [Maps.size, length_sorted], rfl⟩
end
/-! the keys' types of a store -/
theorem kStr : Keyed Tryz.prog 9 := string_keyed Tryz.underlying9
theorem keyStr (s : ByteArray) (hs : s.size ≤ maxLen) : keyOf Tryz.prog 9 (.string s) = some (.string s.data.toList) := keyOf_string_mk Tryz.underlying9 hs
theorem keyStr_inv {key : Value} {kl : Lit} (h : keyOf Tryz.prog 9 key = some kl) : ∃ s : ByteArray, key = .string s ∧ kl = .string s.data.toList ∧ s.size ≤ maxLen := by
  obtain ⟨x, hx, hl, hs⟩ := Maps.keyOf_str Tryz.underlying9 h
  exact ⟨⟨x.toArray⟩, hx, by simpa using hl, by simpa [ByteArray.size] using hs⟩
theorem laidOutS : laidOutB Tryz.prog = true := by kernel_rfl
theorem rowLab : (25 : TypeId) < Tryz.prog.types.size := of_decide_eq_true (by kernel_rfl)
theorem wideLab : (match Tryz.prog.underlying 25 with | some (.array _ _) | some (.struct _) => true | _ => false) = true := by rw [Tryz.underlying25]
set_option maxRecDepth 100000 in
theorem kLab : Keyed Tryz.prog 25 := Keyed.of_law (deep_law_laid laidOutS (m := 2) (by omega) rowLab (by kernel_rfl) wideLab)
theorem keyTypeLab : Tryz.prog.keyType 25 = true := by kernel_rfl
set_option maxRecDepth 100000 in
theorem lab_fits : ∃ d, Tryz.prog.types.size + 1 = d + 1 + 1 := by
  have h : (1 : Nat) ≤ Tryz.prog.types.size := of_decide_eq_true (by kernel_rfl)
  generalize Tryz.prog.types.size = n at h
  exact ⟨n - 1, by omega⟩
theorem cellsLab : Tryz.prog.cellsOf 25 = 2 := by kernel_rfl
theorem cellsForm : Tryz.prog.cellsOf 23 = 1 := by kernel_rfl
/-- the literal that stands for a label in a map -/
def labK (a b : ByteArray) : Lit := .string (keyBytes [.string a.data.toList, .string b.data.toList])
theorem keyLits_form (d : Nat) (a : ByteArray) (ha : a.size ≤ maxLen) : Tryz.prog.keyLits (d + 1) 23 [.string a] = some [.string a.data.toList] := by
  unfold Program.keyLits
  simp only [Tryz.underlying23, ha, if_true]
theorem keyLits_form_inv {d : Nat} {x : Value} {ls : List Lit} (h : Tryz.prog.keyLits (d + 1) 23 [x] = some ls) : ∃ a : ByteArray, x = .string a ∧ a.size ≤ maxLen ∧ ls = [.string a.data.toList] := by
  unfold Program.keyLits at h
  simp only [Tryz.underlying23] at h
  cases x <;> simp at h
  exact ⟨_, rfl, h.1, h.2.symm⟩
set_option maxRecDepth 100000 in
theorem keyLab (a b : ByteArray) (ha : a.size ≤ maxLen) (hb : b.size ≤ maxLen) : keyOf Tryz.prog 25 (.agg #[.string a, .string b]) = some (labK a b) := by
  have h1 : Value.formed Tryz.prog 25 (.agg #[.string a, .string b]) = true := by simp [Value.formed, Tryz.underlying25, cellsLab]
  unfold keyOf
  rw [Tryz.underlying25]
  obtain ⟨d, hd⟩ := lab_fits
  simp only [keyTypeLab, h1, Bool.and_self, if_true, hd]
  unfold Program.keyLits
  simp [Tryz.underlying25, cellsLab, cellsForm, Value.cells, keyLits_form _ a ha, keyLits_form _ b hb, labK]
set_option maxRecDepth 100000 in
theorem keyLab_inv {key : Value} {kl : Lit} (h : keyOf Tryz.prog 25 key = some kl) : ∃ a b : ByteArray, key = .agg #[.string a, .string b] ∧ kl = labK a b ∧ a.size ≤ maxLen ∧ b.size ≤ maxLen := by
  have h0 := h
  unfold keyOf at h
  rw [Tryz.underlying25] at h
  simp only at h
  split at h
  · rename_i hc
    simp only [Bool.and_eq_true] at hc
    obtain ⟨_, hf⟩ := hc
    cases key with
    | agg cs =>
      simp only [Value.formed, Tryz.underlying25, cellsLab, beq_iff_eq] at hf
      match cs, hf with
      | ⟨[x, y]⟩, _ =>
        obtain ⟨d, hd⟩ := lab_fits
        rw [hd] at h
        unfold Program.keyLits at h
        simp [Tryz.underlying25, cellsLab, cellsForm, Value.cells] at h
        cases hx : Tryz.prog.keyLits (d + 1) 23 [x] with
        | none => rw [hx] at h; simp at h
        | some ls =>
          obtain ⟨a, rfl, ha, rfl⟩ := keyLits_form_inv hx
          cases hy : Tryz.prog.keyLits (d + 1) 23 [y] with
          | none => rw [hx, hy] at h; simp at h
          | some ms =>
            obtain ⟨b, rfl, hb, rfl⟩ := keyLits_form_inv hy
            rw [hx, hy] at h
            simp at h
            exact ⟨a, b, rfl, by rw [← h]; rfl, ha, hb⟩
    | _ => simp [Value.formed, Tryz.underlying25] at hf
  · cases h
end Go.Proofs.YtlkgcidhhngfeaaGreatDoor
