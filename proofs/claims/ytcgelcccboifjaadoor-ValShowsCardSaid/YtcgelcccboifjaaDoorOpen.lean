/- Arguments that are slices, as they come: how they read; every argument reads behind the call as before it, where nothing that was there is turned. -/
import Derived.Test.YtcgelcccboifjaaDoorNameMade
import Derived.ChangeStays
import Derived.ChangeBook
import Derived.OpenShut
import Derived.ChangeSlices
namespace Go.Proofs.YtcgelcccboifjaaDoor
open Go.RowKit Go.ChangeShapes Go.WideShapes
section
variable {H : Type} {enc : TypeId × Value → H}
theorem carry_gen {P : Program} (hl : laidOutB P = true) {t : TypeId} (hr : P.readableRec t = true) (hrow : t < P.types.size) {W W' : World} (hb : Below W.heap.size W W') {v : Value} {d : DataW H} {p : List MemPlace}
    (h : DataW.Trod enc P W 0 (fun _ => true) true t v d p) (hlt : ∀ q ∈ p, q.block < W.heap.size) {sp : Nat → Bool} (hs : ∀ q ∈ p, sp q.block = true) : DataW.Trod enc P W' 0 sp true t v d p := by
  obtain ⟨fuel, hf⟩ := h
  exact ⟨fuel, DataW.trod_stays (kids_book hl hr) (book_sized hr) (fun h => by cases h) ⟨hrow, book_self t⟩ hf (fun q hq => hb.same (hlt q hq)) hs⟩
theorem add_eq {w : World} {a : Addr} {v : Value} (h : w.cell? a = some v) : a.spot = none := by
  unfold World.cell? at h
  split at h
  · split at h
    · cases h
    · rename_i hs
      simpa using hs
  · cases h
theorem addr_add {a : Addr} (h : a.spot = none) (j : Nat) : a.add j = ⟨a.block, a.off + j, none⟩ := by
  obtain ⟨b, o, s⟩ := a
  simp only at h
  subst h
  unfold Addr.add
  split
  · rename_i h0; subst h0; rfl
  · rfl
/-- a slice of one-cell integers of whatever kind, as it comes -/
theorem open_row {P : Program} {t e : TypeId} {k : IntKind} (ht : P.underlying t = some (.slice e)) (he : P.underlying e = some (.int k)) (hc : P.cellsOf e = 1) {W : World} {b0 : Nat} {r : Reach} {v : Value} {d : DataW H} {p : List MemPlace}
    (hv : Value.okWide P W r b0 t v) (h : DataW.Trod enc P W 0 (fun _ => true) true t v d p) :
    ∃ zs : List Int, (∀ n ∈ zs, (Lit.int k n).wf = true) ∧ ((∃ ao cap, v = .slice ao 0 cap ∧ zs = []) ∨ ∃ b off cap, v = .slice (some ⟨b, off, none⟩) zs.length cap ∧ zs.length ≤ cap ∧ cap ≤ maxLen ∧ ∀ j, j < zs.length → W.cell? ⟨b, off + j, none⟩ = some (.int k (zs.getD j 0))) := by
  obtain ⟨ao, len, cap, rfl⟩ := okWide_slice ht hv
  obtain ⟨fuel, hf⟩ := h
  rcases open_ints ht he hc hf with ⟨hcs, _⟩ | ⟨a, len', cap', zs, hcs, _, hl, hm, hz, _, hcell, hwf⟩
  · have hh : Value.slice ao len cap = .slice none 0 0 := (List.cons.inj hcs).1
    refine ⟨[], by simp, Or.inl ⟨none, 0, hh, rfl⟩⟩
  · have hh : Value.slice ao len cap = .slice (some a) len' cap' := (List.cons.inj hcs).1
    have hz' : zs.length = cap' := by simpa using hz
    by_cases h0 : len' = 0
    · subst h0
      exact ⟨[], by simp, Or.inl ⟨some a, cap', hh, rfl⟩⟩
    · have hs := add_eq (hcell 0 (by omega))
      have hs' : a.spot = none := by
        unfold Addr.add at hs
        simpa using hs
      have hlen : (zs.take len').length = len' := by simp; omega
      refine ⟨zs.take len', fun n hn => hwf n (List.mem_of_mem_take hn), Or.inr ⟨a.block, a.off, cap', ?_, by omega, hm, fun j hj => ?_⟩⟩
      · rw [hh, hlen]
        obtain ⟨b, o, s⟩ := a
        simp only at hs'
        subst hs'
        rfl
      · rw [hlen] at hj
        have := hcell j (by omega)
        rw [addr_add hs'] at this
        rw [this]
        congr 2
        simp [hj]
end
theorem laidOutAll : laidOutB Tryd.prog = true := by kernel_rfl
theorem ints_of {P : Program} {t e : TypeId} (ht : P.underlying t = some (.slice e)) (he : P.underlying e = some (.int .i64)) (hc : P.cellsOf e = 1) {H : Type} {enc : TypeId × Value → H} {W : World} {b0 : Nat} {r : Reach} {v : Value} {d : DataW H} {p : List MemPlace} (hv : Value.okWide P W r b0 t v) (h : DataW.Trod enc P W 0 (fun _ => true) true t v d p) : ∃ l, IntsAt W v l := by
  obtain ⟨zs, _, h⟩ := open_row ht he hc hv h
  exact ⟨zs, h⟩
/-- a slice of bytes that reads so -/
def BytesAt (w : World) (v : Value) (l : List UInt8) : Prop :=
  (∃ ao cap, v = .slice ao 0 cap ∧ l = []) ∨ ∃ b off cap, v = .slice (some ⟨b, off, none⟩) l.length cap ∧ l.length ≤ cap ∧ cap ≤ maxLen ∧ ∀ j, j < l.length → w.cell? ⟨b, off + j, none⟩ = some (.int .u8 (l.getD j 0).toNat)
theorem BytesAt.below {w w' : World} {v : Value} {l : List UInt8} (h : BytesAt w v l) (hb : Below w.heap.size w w') : BytesAt w' v l := by
  rcases h with h | ⟨b, off, cap, hv, h1, h2, hc⟩
  · exact Or.inl h
  · refine Or.inr ⟨b, off, cap, hv, h1, h2, fun j hj => ?_⟩
    have := hc j hj
    exact (hb.cell (p := ⟨b, off + j, none⟩) (World.block_lt_of_cell? _ _ this)).trans this
theorem byte_back {n : Int} (h : (Lit.int .u8 n).wf = true) : ((UInt8.ofNat n.toNat).toNat : Int) = n := by
  obtain ⟨h1, h2⟩ := wf_u8 h
  rw [ofNat_toNat8 _ (by omega)]
  omega
theorem bytes_of {P : Program} {t e : TypeId} (ht : P.underlying t = some (.slice e)) (he : P.underlying e = some (.int .u8)) (hc : P.cellsOf e = 1) {H : Type} {enc : TypeId × Value → H} {W : World} {b0 : Nat} {r : Reach} {v : Value} {d : DataW H} {p : List MemPlace} (hv : Value.okWide P W r b0 t v) (h : DataW.Trod enc P W 0 (fun _ => true) true t v d p) : ∃ l, BytesAt W v l := by
  obtain ⟨zs, hwf, h⟩ := open_row ht he hc hv h
  refine ⟨zs.map fun n => UInt8.ofNat n.toNat, ?_⟩
  rcases h with ⟨ao, cap, hv, h0⟩ | ⟨b, off, cap, hv, h1, h2, hc⟩
  · exact Or.inl ⟨ao, cap, hv, by rw [h0]; rfl⟩
  · refine Or.inr ⟨b, off, cap, by rw [hv, List.length_map], by rw [List.length_map]; exact h1, h2, fun j hj => ?_⟩
    rw [List.length_map] at hj
    rw [hc j hj]
    have hm := byte_back (hwf _ (List.getElem_mem hj))
    simp only [List.getD_eq_getElem?_getD, List.getElem?_map, List.getElem?_eq_getElem hj, Option.getD_some, Option.map_some, hm]
end Go.Proofs.YtcgelcccboifjaaDoor
