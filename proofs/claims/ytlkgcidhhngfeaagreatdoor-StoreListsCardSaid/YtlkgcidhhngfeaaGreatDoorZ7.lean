/- FlowS, HighS: joined into one text; each part says below what it holds. -/
import Derived.Test.YtlkgcidhhngfeaaGreatDoorLatS
/- Flowing is an order, Join and Meet are its bounds, in plain words; no program in sight. -/
namespace Go.Proofs.YtlkgcidhhngfeaaGreatDoor
open Go.RowKit
def bitU (a : UInt8) (i : Nat) : Bool := a.toBitVec.getLsbD i
theorem bit_and (a b : UInt8) (i : Nat) : bitU (a &&& b) i = (bitU a i && bitU b i) := by simp [bitU]
theorem bit_or (a b : UInt8) (i : Nat) : bitU (a ||| b) i = (bitU a i || bitU b i) := by simp [bitU]
theorem bit_zero {a : UInt8} : a = 0 ↔ ∀ i, bitU a i = false := by
  constructor
  · rintro rfl i
    simp [bitU]
  · intro h
    apply UInt8.toBitVec_inj.1
    apply BitVec.eq_of_getLsbD_eq
    intro i hi
    have := h i
    simp only [bitU] at this
    simp [this]
theorem bit_not (a : UInt8) (i : Nat) (h : i < 8) : bitU (~~~a) i = !bitU a i := by simp [bitU, h]
theorem bit_big (a : UInt8) (i : Nat) (h : 8 ≤ i) : bitU a i = false := BitVec.getLsbD_of_ge _ _ h
theorem inS_bit {a b : UInt8} : inS a b = true ↔ ∀ i, bitU a i = true → bitU b i = true := by
  unfold inS
  rw [beq_iff_eq, bit_zero]
  constructor
  · intro h i hi
    have h8 : i < 8 := Nat.lt_of_not_le fun h8 => by rw [bit_big a i h8] at hi; cases hi
    have := h i
    rw [bit_and, bit_not b i h8, hi] at this
    simpa using this
  · intro h i
    rcases Nat.lt_or_ge i 8 with h8 | h8
    · rw [bit_and, bit_not b i h8]
      cases ha : bitU a i with
      | false => rfl
      | true => rw [h i ha]; rfl
    · rw [bit_big _ i h8]
theorem meets_bits {c z : UInt8} : (c &&& z != 0) = true ↔ ∃ i, bitU c i = true ∧ bitU z i = true := by
  rw [bne_iff_ne, ne_eq, bit_zero]
  constructor
  · intro h
    obtain ⟨i, hi⟩ := Classical.not_forall.1 h
    refine ⟨i, ?_⟩
    rw [bit_and] at hi
    simpa using hi
  · rintro ⟨i, h1, h2⟩ h
    have := h i
    rw [bit_and, h1, h2] at this
    cases this
theorem least_cover {l : List UInt8} {x : UInt8} (hx : x ∈ l) : ∃ y ∈ leastL l, inS y x = true := by
  have hk : x.toNat < 256 := x.toNat_lt
  have hx' : UInt8.ofNat x.toNat = x := by simp
  by_cases hc : ((leastGo l x.toNat).any fun y => inS y x) = true
  · obtain ⟨y, hy, h⟩ := List.any_eq_true.1 hc
    exact ⟨y, leastGo_mono (by omega) hy, h⟩
  · refine ⟨x, leastGo_mono (j := x.toNat + 1) (by omega) ?_, inS_bit.2 fun _ h => h⟩
    rw [leastGo, hx', if_pos]
    · exact List.mem_append_right _ (List.mem_singleton.2 rfl)
    · rw [Bool.and_eq_true, List.contains_iff_mem]
      exact ⟨hx, by simpa using hc⟩
theorem holds_iff {l : List UInt8} {z : UInt8} : holdsL l z = true ↔ ∀ c ∈ l, ∃ i, bitU c i = true ∧ bitU z i = true := by
  unfold holdsL
  rw [List.all_eq_true]
  exact forall_congr' fun c => imp_congr_right fun _ => meets_bits
theorem holds_least (l : List UInt8) (z : UInt8) : holdsL (leastL l) z = holdsL l z := by
  rw [Bool.eq_iff_iff, holds_iff, holds_iff]
  constructor
  · intro h c hc
    obtain ⟨y, hy, hin⟩ := least_cover hc
    obtain ⟨i, h1, h2⟩ := h y hy
    exact ⟨i, inS_bit.1 hin i h1, h2⟩
  · intro h c hc
    exact h c (leastGo_mem (Nat.le_refl 256) hc).1
theorem c6_small : ∀ i : Fin 64, (63 : UInt8) &&& UInt8.ofNat i.val = UInt8.ofNat i.val := by decide
theorem holds_norm (l : List UInt8) {i : Nat} (hi : i < 64) : holdsL (normL l) (UInt8.ofNat i) = holdsL l (UInt8.ofNat i) := by
  unfold normL
  rw [holds_least]
  unfold holdsL
  rw [List.all_map]
  congr 1
  funext c
  show (c6 c &&& UInt8.ofNat i != 0) = _
  unfold c6
  rw [UInt8.and_assoc, c6_small ⟨i, hi⟩]
theorem impF_iff {a b : List UInt8} : impF a b = true ↔ ∀ i, i < 64 → holdsL a (UInt8.ofNat i) = true → holdsL b (UInt8.ofNat i) = true := by
  unfold impF impN
  rw [List.all_eq_true]
  constructor
  · intro h i hi ha
    have := h i (List.mem_range.2 hi)
    rw [holds_norm a hi, holds_norm b hi, ha] at this
    simpa using this
  · intro h i hi
    have hi := List.mem_range.1 hi
    rw [holds_norm a hi, holds_norm b hi]
    cases ha : holdsL a (UInt8.ofNat i) with
    | false => rfl
    | true => rw [h i hi ha]; rfl
theorem holds_union (a b : List UInt8) (z : UInt8) : holdsL (unionL a b) z = (holdsL a z || holdsL b z) := by
  rw [Bool.eq_iff_iff, Bool.or_eq_true, holds_iff, holds_iff, holds_iff]
  unfold unionL
  constructor
  · intro h
    by_cases hb : ∀ d ∈ b, ∃ i, bitU d i = true ∧ bitU z i = true
    · exact .inr hb
    · refine .inl fun c hc => ?_
      obtain ⟨d, hd⟩ := Classical.not_forall.1 hb
      obtain ⟨hdb, hn⟩ := Classical.not_imp.1 hd
      obtain ⟨i, h1, h2⟩ := h (c ||| d) (List.mem_flatMap.2 ⟨c, hc, List.mem_map.2 ⟨d, hdb, rfl⟩⟩)
      rw [bit_or, Bool.or_eq_true] at h1
      rcases h1 with h1 | h1
      · exact ⟨i, h1, h2⟩
      · exact absurd ⟨i, h1, h2⟩ hn
  · intro h e he
    obtain ⟨c, hc, he⟩ := List.mem_flatMap.1 he
    obtain ⟨d, hd, rfl⟩ := List.mem_map.1 he
    rcases h with h | h
    · obtain ⟨i, h1, h2⟩ := h c hc
      exact ⟨i, by rw [bit_or, h1]; rfl, h2⟩
    · obtain ⟨i, h1, h2⟩ := h d hd
      exact ⟨i, by rw [bit_or, h1, Bool.or_true], h2⟩
theorem holds_app (a b : List UInt8) (z : UInt8) : holdsL (a ++ b) z = (holdsL a z && holdsL b z) := by
  unfold holdsL
  rw [List.all_append]
theorem holds_NB (s : ByteArray) {i : Nat} (hi : i < 64) : holdsL (NB s).data.toList (UInt8.ofNat i) = holdsL s.data.toList (UInt8.ofNat i) := by
  rw [nb_list, holds_norm _ hi]
theorem holds_NOr (a b : ByteArray) {i : Nat} (hi : i < 64) : holdsL (NOr a b).data.toList (UInt8.ofNat i) = (holdsL a.data.toList (UInt8.ofNat i) || holdsL b.data.toList (UInt8.ofNat i)) := by
  unfold NOr
  rw [holds_NB _ hi]
  show holdsL (unionL (normL a.data.toList) (normL b.data.toList)) _ = _
  rw [holds_union, holds_norm _ hi, holds_norm _ hi]
theorem holds_NAnd (a b : ByteArray) {i : Nat} (hi : i < 64) : holdsL (NAnd a b).data.toList (UInt8.ofNat i) = (holdsL a.data.toList (UInt8.ofNat i) && holdsL b.data.toList (UInt8.ofNat i)) := by
  unfold NAnd
  rw [holds_NB _ hi]
  rw [show (NB a ++ NB b).data.toList = (NB a).data.toList ++ (NB b).data.toList by rw [ByteArray.data_append, Array.toList_append], holds_app, holds_NB _ hi, holds_NB _ hi]
theorem flowsB_iff {aS aI bS bI : ByteArray} : flowsB aS aI bS bI = true ↔ (∀ i, i < 64 → holdsL bS.data.toList (UInt8.ofNat i) = true → holdsL aS.data.toList (UInt8.ofNat i) = true) ∧ ∀ i, i < 64 → holdsL aI.data.toList (UInt8.ofNat i) = true → holdsL bI.data.toList (UInt8.ofNat i) = true := by
  unfold flowsB
  rw [Bool.and_eq_true, impF_iff, impF_iff]
theorem flows_refl (aS aI : ByteArray) : flowsB aS aI aS aI = true := flowsB_iff.2 ⟨fun _ _ h => h, fun _ _ h => h⟩
theorem flows_trans {aS aI bS bI cS cI : ByteArray} (h : flowsB aS aI bS bI = true) (g : flowsB bS bI cS cI = true) : flowsB aS aI cS cI = true := by
  obtain ⟨h1, h2⟩ := flowsB_iff.1 h
  obtain ⟨g1, g2⟩ := flowsB_iff.1 g
  exact flowsB_iff.2 ⟨fun i hi hc => h1 i hi (g1 i hi hc), fun i hi ha => g2 i hi (h2 i hi ha)⟩
theorem meet_left (aS aI bS bI : ByteArray) : flowsB (NOr aS bS) (NAnd aI bI) aS aI = true :=
  flowsB_iff.2 ⟨fun i hi h => by rw [holds_NOr _ _ hi, h]; rfl, fun i hi h => by rw [holds_NAnd _ _ hi, Bool.and_eq_true] at h; exact h.1⟩
theorem meet_right (aS aI bS bI : ByteArray) : flowsB (NOr aS bS) (NAnd aI bI) bS bI = true :=
  flowsB_iff.2 ⟨fun i hi h => by rw [holds_NOr _ _ hi, h, Bool.or_true], fun i hi h => by rw [holds_NAnd _ _ hi, Bool.and_eq_true] at h; exact h.2⟩
theorem meet_most {aS aI bS bI cS cI : ByteArray} (h : flowsB cS cI aS aI = true) (g : flowsB cS cI bS bI = true) : flowsB cS cI (NOr aS bS) (NAnd aI bI) = true := by
  obtain ⟨h1, h2⟩ := flowsB_iff.1 h
  obtain ⟨g1, g2⟩ := flowsB_iff.1 g
  refine flowsB_iff.2 ⟨fun i hi hc => ?_, fun i hi ha => ?_⟩
  · rw [holds_NOr _ _ hi, Bool.or_eq_true] at hc
    exact hc.elim (h1 i hi) (g1 i hi)
  · rw [holds_NAnd _ _ hi, h2 i hi ha, g2 i hi ha]; rfl
end Go.Proofs.YtlkgcidhhngfeaaGreatDoor
/- Each label flows to the highest one. -/
namespace Go.Proofs.YtlkgcidhhngfeaaGreatDoor
open Go.RowKit
theorem norm_false : normL [0] = [0] := by decide +kernel
theorem norm_true : normL ([] : List UInt8) = [] := by decide +kernel
theorem impF_false (b : List UInt8) : impF [0] b = true := by
  unfold impF impN
  rw [norm_false, List.all_eq_true]
  intro i _
  have : holdsL [0] (UInt8.ofNat i) = false := by simp [holdsL]
  rw [this]
  rfl
theorem impF_true (a : List UInt8) : impF a [] = true := by
  unfold impF impN
  rw [norm_true, List.all_eq_true]
  intro i _
  have : holdsL [] (UInt8.ofNat i) = true := by simp [holdsL]
  rw [this, Bool.or_true]
theorem flows_high (S I : ByteArray) : flowsB S I ⟨#[0]⟩ ⟨#[]⟩ = true := by
  unfold flowsB
  rw [show (⟨#[0]⟩ : ByteArray).data.toList = [0] from rfl, show (⟨#[]⟩ : ByteArray).data.toList = [] from rfl, impF_false, impF_true]
  rfl
end Go.Proofs.YtlkgcidhhngfeaaGreatDoor
