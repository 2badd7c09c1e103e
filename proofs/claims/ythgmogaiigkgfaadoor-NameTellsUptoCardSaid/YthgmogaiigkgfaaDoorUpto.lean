/- The second form's bound: how long a list is whose reading is of that bulk. -/
import Derived.Test.YthgmogaiigkgfaaDoorRows
import Derived.Test.YthgmogaiigkgfaaDoorOpen
namespace Go.Proofs.YthgmogaiigkgfaaDoor
open Go.RowKit Go.ChangeShapes Go.WideShapes
theorem ub_pos {H : Type} (d : DataW H) : 1 ≤ Rows.uptoBulk d := by
  cases d with
  | lit l => cases l <;> simp [Rows.uptoBulk]
  | _ => simp [Rows.uptoBulk]
theorem ub_len {H : Type} : ∀ l : List (DataW H), l.length ≤ Rows.uptoBulkAll l
  | [] => by simp
  | d :: l => by
    have h1 := ub_pos d
    have h2 := ub_len l
    simp only [Rows.uptoBulkAll, List.length_cons]
    omega
section
variable {H : Type} {enc : TypeId × Value → H}
theorem open_row_up {P : Program} {t e : TypeId} {k : IntKind} (ht : P.underlying t = some (.slice e)) (he : P.underlying e = some (.int k)) (hc : P.cellsOf e = 1) {W : World} {b0 : Nat} {r : Reach} {v : Value} {d : DataW H} {p : List MemPlace}
    (hv : Value.okWide P W r b0 t v) (h : DataW.Trod enc P W 0 (fun _ => true) true t v d p) : ∃ ao len cap, v = .slice ao len cap ∧ len ≤ Rows.uptoBulk d := by
  obtain ⟨ao, len, cap, rfl⟩ := okWide_slice ht hv
  refine ⟨ao, len, cap, rfl, ?_⟩
  obtain ⟨fuel, hf⟩ := h
  rcases open_ints ht he hc hf with ⟨hcs, _⟩ | ⟨a, len', cap', zs, hcs, _, hl, hm, hz, hx, _, _⟩
  · have hh : Value.slice ao len cap = .slice none 0 0 := (List.cons.inj hcs).1
    simp only [Value.slice.injEq] at hh
    omega
  · have hh : Value.slice ao len cap = .slice (some a) len' cap' := (List.cons.inj hcs).1
    simp only [Value.slice.injEq] at hh
    have hz' : zs.length = cap' := by simpa using hz
    simp only [Prod.mk.injEq] at hx
    rw [hx.1]
    have h2 := ub_len (lits (H := H) k (zs.take len'))
    have h3 : (lits (H := H) k (zs.take len')).length = len' := by
      unfold lits
      simp
      omega
    simp only [Rows.uptoBulk]
    omega
end
theorem ints_up {w : World} {v : Value} {l : List Int} {n : Nat} (h : IntsAt w v l) (hb : ∃ ao len cap, v = .slice ao len cap ∧ len ≤ n) : l.length ≤ n := by
  obtain ⟨ao, len, cap, rfl, hle⟩ := hb
  rcases h with ⟨ao', cap', hv, h0⟩ | ⟨b, off, cap', hv, h1, h2, _⟩
  · subst h0; simp
  · simp only [Value.slice.injEq] at hv
    omega
theorem bytes_up {w : World} {v : Value} {l : List UInt8} {n : Nat} (h : BytesAt w v l) (hb : ∃ ao len cap, v = .slice ao len cap ∧ len ≤ n) : l.length ≤ n := by
  obtain ⟨ao, len, cap, rfl, hle⟩ := hb
  rcases h with ⟨ao', cap', hv, h0⟩ | ⟨b, off, cap', hv, h1, h2, _⟩
  · subst h0; simp
  · simp only [Value.slice.injEq] at hv
    omega
end Go.Proofs.YthgmogaiigkgfaaDoor
