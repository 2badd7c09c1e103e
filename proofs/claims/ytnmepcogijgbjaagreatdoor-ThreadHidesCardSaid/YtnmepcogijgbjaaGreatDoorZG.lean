/- Flow, HideL: joined into one text; each part says below what it holds. -/
import Derived.Test.YtnmepcogijgbjaaGreatDoorLat
import Derived.Test.YtnmepcogijgbjaaGreatDoorHide
import Derived.Test.YtnmepcogijgbjaaGreatDoorHigh
/- Flowing is an order, Join and Meet are its bounds, in plain words; no program in sight. -/
namespace Go.Proofs.YtnmepcogijgbjaaGreatDoor
open Go.RowKit
def bitU (a : UInt8) (i : Nat) : Bool := a.toBitVec.getLsbD i
theorem bit_and (a b : UInt8) (i : Nat) : bitU (a &&& b) i = (bitU a i && bitU b i) := by simp [bitU]
theorem bit_or (a b : UInt8) (i : Nat) : bitU (a ||| b) i = (bitU a i || bitU b i) := by simp [bitU]
theorem bit_zero {a : UInt8} : a = 0 ↔ ∀ i, bitU a i = false := by
  constructor
  · rintro rfl i
    simp [bitU]
  · intro h
    apply UInt8.toBitVec_inj.1
    apply BitVec.eq_of_getLsbD_eq
    intro i hi
    have := h i
    simp only [bitU] at this
    simp [this]
theorem bit_not (a : UInt8) (i : Nat) (h : i < 8) : bitU (~~~a) i = !bitU a i := by simp [bitU, h]
theorem bit_big (a : UInt8) (i : Nat) (h : 8 ≤ i) : bitU a i = false := BitVec.getLsbD_of_ge _ _ h
theorem inS_bit {a b : UInt8} : inS a b = true ↔ ∀ i, bitU a i = true → bitU b i = true := by
  unfold inS
  rw [beq_iff_eq, bit_zero]
  constructor
  · intro h i hi
    have h8 : i < 8 := Nat.lt_of_not_le fun h8 => by rw [bit_big a i h8] at hi; cases hi
    have := h i
    rw [bit_and, bit_not b i h8, hi] at this
    simpa using this
  · intro h i
    rcases Nat.lt_or_ge i 8 with h8 | h8
    · rw [bit_and, bit_not b i h8]
      cases ha : bitU a i with
      | false => rfl
      | true => rw [h i ha]; rfl
    · rw [bit_big _ i h8]
theorem meets_bits {c z : UInt8} : (c &&& z != 0) = true ↔ ∃ i, bitU c i = true ∧ bitU z i = true := by
  rw [bne_iff_ne, ne_eq, bit_zero]
  constructor
  · intro h
    obtain ⟨i, hi⟩ := Classical.not_forall.1 h
    refine ⟨i, ?_⟩
    rw [bit_and] at hi
    simpa using hi
  · rintro ⟨i, h1, h2⟩ h
    have := h i
    rw [bit_and, h1, h2] at this
    cases this
theorem least_cover {l : List UInt8} {x : UInt8} (hx : x ∈ l) : ∃ y ∈ leastL l, inS y x = true := by
  have hk : x.toNat < 256 := x.toNat_lt
  have hx' : UInt8.ofNat x.toNat = x := by simp
  by_cases hc : ((leastGo l x.toNat).any fun y => inS y x) = true
  · obtain ⟨y, hy, h⟩ := List.any_eq_true.1 hc
    exact ⟨y, leastGo_mono (by omega) hy, h⟩
  · refine ⟨x, leastGo_mono (j := x.toNat + 1) (by omega) ?_, inS_bit.2 fun _ h => h⟩
    rw [leastGo, hx', if_pos]
    · exact List.mem_append_right _ (List.mem_singleton.2 rfl)
    · rw [Bool.and_eq_true, List.contains_iff_mem]
      exact ⟨hx, by simpa using hc⟩
theorem holds_iff {l : List UInt8} {z : UInt8} : holdsL l z = true ↔ ∀ c ∈ l, ∃ i, bitU c i = true ∧ bitU z i = true := by
  unfold holdsL
  rw [List.all_eq_true]
  exact forall_congr' fun c => imp_congr_right fun _ => meets_bits
theorem holds_least (l : List UInt8) (z : UInt8) : holdsL (leastL l) z = holdsL l z := by
  rw [Bool.eq_iff_iff, holds_iff, holds_iff]
  constructor
  · intro h c hc
    obtain ⟨y, hy, hin⟩ := least_cover hc
    obtain ⟨i, h1, h2⟩ := h y hy
    exact ⟨i, inS_bit.1 hin i h1, h2⟩
  · intro h c hc
    exact h c (leastGo_mem (Nat.le_refl 256) hc).1
theorem c6_small : ∀ i : Fin 64, (63 : UInt8) &&& UInt8.ofNat i.val = UInt8.ofNat i.val := by decide
theorem holds_norm (l : List UInt8) {i : Nat} (hi : i < 64) : holdsL (normL l) (UInt8.ofNat i) = holdsL l (UInt8.ofNat i) := by
  unfold normL
  rw [holds_least]
  unfold holdsL
  rw [List.all_map]
  congr 1
  funext c
  show (c6 c &&& UInt8.ofNat i != 0) = _
  unfold c6
  rw [UInt8.and_assoc, c6_small ⟨i, hi⟩]
theorem impF_iff {a b : List UInt8} : impF a b = true ↔ ∀ i, i < 64 → holdsL a (UInt8.ofNat i) = true → holdsL b (UInt8.ofNat i) = true := by
  unfold impF impN
  rw [List.all_eq_true]
  constructor
  · intro h i hi ha
    have := h i (List.mem_range.2 hi)
    rw [holds_norm a hi, holds_norm b hi, ha] at this
    simpa using this
  · intro h i hi
    have hi := List.mem_range.1 hi
    rw [holds_norm a hi, holds_norm b hi]
    cases ha : holdsL a (UInt8.ofNat i) with
    | false => rfl
    | true => rw [h i hi ha]; rfl
theorem holds_union (a b : List UInt8) (z : UInt8) : holdsL (unionL a b) z = (holdsL a z || holdsL b z) := by
  rw [Bool.eq_iff_iff, Bool.or_eq_true, holds_iff, holds_iff, holds_iff]
  unfold unionL
  constructor
  · intro h
    by_cases hb : ∀ d ∈ b, ∃ i, bitU d i = true ∧ bitU z i = true
    · exact .inr hb
    · refine .inl fun c hc => ?_
      obtain ⟨d, hd⟩ := Classical.not_forall.1 hb
      obtain ⟨hdb, hn⟩ := Classical.not_imp.1 hd
      obtain ⟨i, h1, h2⟩ := h (c ||| d) (List.mem_flatMap.2 ⟨c, hc, List.mem_map.2 ⟨d, hdb, rfl⟩⟩)
      rw [bit_or, Bool.or_eq_true] at h1
      rcases h1 with h1 | h1
      · exact ⟨i, h1, h2⟩
      · exact absurd ⟨i, h1, h2⟩ hn
  · intro h e he
    obtain ⟨c, hc, he⟩ := List.mem_flatMap.1 he
    obtain ⟨d, hd, rfl⟩ := List.mem_map.1 he
    rcases h with h | h
    · obtain ⟨i, h1, h2⟩ := h c hc
      exact ⟨i, by rw [bit_or, h1]; rfl, h2⟩
    · obtain ⟨i, h1, h2⟩ := h d hd
      exact ⟨i, by rw [bit_or, h1, Bool.or_true], h2⟩
theorem holds_app (a b : List UInt8) (z : UInt8) : holdsL (a ++ b) z = (holdsL a z && holdsL b z) := by
  unfold holdsL
  rw [List.all_append]
theorem holds_NB (s : ByteArray) {i : Nat} (hi : i < 64) : holdsL (NB s).data.toList (UInt8.ofNat i) = holdsL s.data.toList (UInt8.ofNat i) := by
  rw [nb_list, holds_norm _ hi]
theorem holds_NOr (a b : ByteArray) {i : Nat} (hi : i < 64) : holdsL (NOr a b).data.toList (UInt8.ofNat i) = (holdsL a.data.toList (UInt8.ofNat i) || holdsL b.data.toList (UInt8.ofNat i)) := by
  unfold NOr
  rw [holds_NB _ hi]
  show holdsL (unionL (normL a.data.toList) (normL b.data.toList)) _ = _
  rw [holds_union, holds_norm _ hi, holds_norm _ hi]
theorem holds_NAnd (a b : ByteArray) {i : Nat} (hi : i < 64) : holdsL (NAnd a b).data.toList (UInt8.ofNat i) = (holdsL a.data.toList (UInt8.ofNat i) && holdsL b.data.toList (UInt8.ofNat i)) := by
  unfold NAnd
  rw [holds_NB _ hi]
  rw [show (NB a ++ NB b).data.toList = (NB a).data.toList ++ (NB b).data.toList by rw [ByteArray.data_append, Array.toList_append], holds_app, holds_NB _ hi, holds_NB _ hi]
theorem flowsB_iff {aS aI bS bI : ByteArray} : flowsB aS aI bS bI = true ↔ (∀ i, i < 64 → holdsL bS.data.toList (UInt8.ofNat i) = true → holdsL aS.data.toList (UInt8.ofNat i) = true) ∧ ∀ i, i < 64 → holdsL aI.data.toList (UInt8.ofNat i) = true → holdsL bI.data.toList (UInt8.ofNat i) = true := by
  unfold flowsB
  rw [Bool.and_eq_true, impF_iff, impF_iff]
theorem flows_refl (aS aI : ByteArray) : flowsB aS aI aS aI = true := flowsB_iff.2 ⟨fun _ _ h => h, fun _ _ h => h⟩
theorem flows_trans {aS aI bS bI cS cI : ByteArray} (h : flowsB aS aI bS bI = true) (g : flowsB bS bI cS cI = true) : flowsB aS aI cS cI = true := by
  obtain ⟨h1, h2⟩ := flowsB_iff.1 h
  obtain ⟨g1, g2⟩ := flowsB_iff.1 g
  exact flowsB_iff.2 ⟨fun i hi hc => h1 i hi (g1 i hi hc), fun i hi ha => g2 i hi (h2 i hi ha)⟩
theorem meet_left (aS aI bS bI : ByteArray) : flowsB (NOr aS bS) (NAnd aI bI) aS aI = true :=
  flowsB_iff.2 ⟨fun i hi h => by rw [holds_NOr _ _ hi, h]; rfl, fun i hi h => by rw [holds_NAnd _ _ hi, Bool.and_eq_true] at h; exact h.1⟩
theorem meet_right (aS aI bS bI : ByteArray) : flowsB (NOr aS bS) (NAnd aI bI) bS bI = true :=
  flowsB_iff.2 ⟨fun i hi h => by rw [holds_NOr _ _ hi, h, Bool.or_true], fun i hi h => by rw [holds_NAnd _ _ hi, Bool.and_eq_true] at h; exact h.2⟩
theorem meet_most {aS aI bS bI cS cI : ByteArray} (h : flowsB cS cI aS aI = true) (g : flowsB cS cI bS bI = true) : flowsB cS cI (NOr aS bS) (NAnd aI bI) = true := by
  obtain ⟨h1, h2⟩ := flowsB_iff.1 h
  obtain ⟨g1, g2⟩ := flowsB_iff.1 g
  refine flowsB_iff.2 ⟨fun i hi hc => ?_, fun i hi ha => ?_⟩
  · rw [holds_NOr _ _ hi, Bool.or_eq_true] at hc
    exact hc.elim (h1 i hi) (g1 i hi)
  · rw [holds_NAnd _ _ hi, h2 i hi ha, g2 i hi ha]; rfl
end Go.Proofs.YtnmepcogijgbjaaGreatDoor
/- Hide in plain words: what is hidden once more is hidden at once; at the highest label nothing is. -/
namespace Go.Proofs.YtnmepcogijgbjaaGreatDoor
open Go.RowKit
theorem known_spec (l : List Sc) (cS cI mS mI : ByteArray) : knownV l cS cI mS mI ≤ l.length + 1 ∧ (∀ j, j < knownV l cS cI mS mI → flowsB (lvS l cS j) (lvI l cI j) mS mI = true) ∧ (knownV l cS cI mS mI < l.length + 1 → flowsB (lvS l cS (knownV l cS cI mS mI)) (lvI l cI (knownV l cS cI mS mI)) mS mI = false) := by
  cases h : (List.range (l.length + 1)).find? (fun i => !flowsB (lvS l cS i) (lvI l cI i) mS mI) with
  | some k =>
    have e : knownV l cS cI mS mI = k := by unfold knownV; rw [h]; rfl
    rw [e]
    rw [List.find?_range_eq_some] at h
    obtain ⟨h1, h2, h3⟩ := h
    refine ⟨?_, fun j hj => by have := h3 j hj; simpa using this, fun _ => by simpa using h1⟩
    have := List.mem_range.1 h2
    omega
  | none =>
    have e : knownV l cS cI mS mI = l.length + 1 := by unfold knownV; rw [h]; rfl
    rw [e]
    rw [List.find?_range_eq_none] at h
    exact ⟨Nat.le_refl _, fun j hj => by have := h j hj; simpa using this, fun h => by omega⟩
def hideV (t : Th) (l : List Sc) (mS mI : ByteArray) : Th × Bool := match knownV l t.cS t.cI mS mI with
  | 0 => (th0, false)
  | j + 1 => match l[j]? with
    | some s => (thHid t s (j + 1), true)
    | none => (t, true)
/-- the scopes that are left -/
def hideL (t : Th) (l : List Sc) (mS mI : ByteArray) : List Sc := l.take (knownV l t.cS t.cI mS mI)
theorem hideV_none {t : Th} {l : List Sc} {mS mI : ByteArray} (h : knownV l t.cS t.cI mS mI = 0) : hideV t l mS mI = (th0, false) := by unfold hideV; rw [h]
theorem hideV_all {t : Th} {l : List Sc} {mS mI : ByteArray} (h : knownV l t.cS t.cI mS mI = l.length + 1) : hideV t l mS mI = (t, true) := by
  unfold hideV
  rw [h]
  simp
theorem hideV_some {t : Th} {l : List Sc} {mS mI : ByteArray} {j : Nat} (hj : j < l.length) (h : knownV l t.cS t.cI mS mI = j + 1) : hideV t l mS mI = (thHid t l[j] (j + 1), true) := by
  unfold hideV
  rw [h]
  simp [hj]
theorem hide_high (t : Th) (l : List Sc) : hideV t l ⟨#[0]⟩ ⟨#[]⟩ = (t, true) := hideV_all (known_all fun _ _ => flows_high _ _)
theorem cutN_cutN {a b : Int} {n : Nat} (h : a ≤ b) : cutN a (cutN b n) = cutN a n := by unfold cutN; omega
theorem hid_hid (t : Th) (s s' : Sc) (R R' : Nat) (h1 : s'.fr ≤ s.fr) (h2 : s'.ht ≤ s.ht) (h3 : s'.tr ≤ s.tr) : thHid (thHid t s R) s' R' = thHid t s' R' := by
  unfold thHid
  simp only [cutN_cutN h1, cutN_cutN h2, cutN_cutN h3]
theorem lvS_take {l : List Sc} {c c' : ByteArray} {K i : Nat} (hi : i < K) (hK : K ≤ l.length) : lvS (l.take K) c i = lvS l c' i := by
  unfold lvS
  rw [List.getElem?_take, if_pos hi]
  have : i < l.length := by omega
  simp [this]
theorem lvI_take {l : List Sc} {c c' : ByteArray} {K i : Nat} (hi : i < K) (hK : K ≤ l.length) : lvI (l.take K) c i = lvI l c' i := by
  unfold lvI
  rw [List.getElem?_take, if_pos hi]
  have : i < l.length := by omega
  simp [this]
/-- in a list of scopes none has fewer frames, values, tries than those ahead of it -/
def Rising (l : List Sc) : Prop := ∀ i j (hi : i < l.length) (hj : j < l.length), i ≤ j → l[i].fr ≤ l[j].fr ∧ l[i].ht ≤ l[j].ht ∧ l[i].tr ≤ l[j].tr
theorem known_le (l : List Sc) (cS cI : ByteArray) {aS aI bS bI : ByteArray} (h : flowsB aS aI bS bI = true) : knownV l cS cI aS aI ≤ knownV l cS cI bS bI := by
  obtain ⟨a1, a2, a3⟩ := known_spec l cS cI aS aI
  obtain ⟨b1, b2, b3⟩ := known_spec l cS cI bS bI
  refine Nat.le_of_not_lt fun hlt => ?_
  have h1 := a2 _ hlt
  have h2 := b3 (by omega)
  rw [flows_trans h1 h] at h2
  cases h2
theorem hide_no (t : Th) (l : List Sc) {aS aI bS bI : ByteArray} (h : flowsB aS aI bS bI = true) (hb : (hideV t l bS bI).2 = false) : (hideV t l aS aI).2 = false ∧ (hideV t l bS bI).1 = th0 := by
  have hle := known_le l t.cS t.cI h
  cases hk : knownV l t.cS t.cI bS bI with
  | zero =>
    rw [hideV_none hk, hideV_none (t := t) (l := l) (mS := aS) (mI := aI) (by omega)]
    exact ⟨rfl, rfl⟩
  | succ j =>
    have hs := (known_spec l t.cS t.cI bS bI).1
    by_cases hj : j < l.length
    · rw [hideV_some hj hk] at hb; cases hb
    · rw [hideV_all (by omega)] at hb; cases hb
theorem hide_again (t : Th) (l : List Sc) (hr : Rising l) {aS aI bS bI : ByteArray} (h : flowsB aS aI bS bI = true) (hb : (hideV t l bS bI).2 = true) : hideV (hideV t l bS bI).1 (hideL t l bS bI) aS aI = hideV t l aS aI := by
  have hle := known_le l t.cS t.cI h
  obtain ⟨a1, a2, a3⟩ := known_spec l t.cS t.cI aS aI
  obtain ⟨b1, b2, b3⟩ := known_spec l t.cS t.cI bS bI
  cases hk : knownV l t.cS t.cI bS bI with
  | zero => rw [hideV_none hk] at hb; cases hb
  | succ j =>
    rw [hk] at hle b1
    by_cases hj : j < l.length
    · rw [hideV_some hj hk]
      unfold hideL
      rw [hk]
      have hlen : (l.take (j + 1)).length = j + 1 := by rw [List.length_take]; omega
      have hlv : ∀ i, i < j + 1 → flowsB (lvS (l.take (j + 1)) (thHid t l[j] (j + 1)).cS i) (lvI (l.take (j + 1)) (thHid t l[j] (j + 1)).cI i) aS aI = flowsB (lvS l t.cS i) (lvI l t.cI i) aS aI := fun i hi => by rw [lvS_take (c' := t.cS) hi (by omega), lvI_take (c' := t.cI) hi (by omega)]
      rcases Nat.lt_or_ge (knownV l t.cS t.cI aS aI) (j + 1) with hlt | hge
      · have e : knownV (l.take (j + 1)) (thHid t l[j] (j + 1)).cS (thHid t l[j] (j + 1)).cI aS aI = knownV l t.cS t.cI aS aI := known_hit (by omega) (fun i hi => by rw [hlv i (by omega)]; exact a2 i hi) (by rw [hlv _ hlt]; exact a3 (by omega))
        cases ha : knownV l t.cS t.cI aS aI with
        | zero => rw [hideV_none ha, hideV_none (e.trans ha)]
        | succ i =>
          rw [ha] at e hlt
          have hi : i < l.length := by omega
          rw [hideV_some hi ha, hideV_some (by rw [hlen]; omega) e]
          obtain ⟨r1, r2, r3⟩ := hr i j hi hj (by omega)
          rw [List.getElem_take, hid_hid t l[j] l[i] (j + 1) (i + 1) r1 r2 r3]
      · have ha : knownV l t.cS t.cI aS aI = j + 1 := by omega
        rw [hideV_some hj ha]
        cases hf : flowsB (lvS (l.take (j + 1)) (thHid t l[j] (j + 1)).cS (j + 1)) (lvI (l.take (j + 1)) (thHid t l[j] (j + 1)).cI (j + 1)) aS aI with
        | true =>
          refine hideV_all (known_all fun i hi => ?_)
          rcases Nat.lt_or_ge i (j + 1) with h1 | h1
          · rw [hlv i h1]; exact a2 i (by omega)
          · obtain rfl : i = j + 1 := by omega
            exact hf
        | false =>
          have e : knownV (l.take (j + 1)) (thHid t l[j] (j + 1)).cS (thHid t l[j] (j + 1)).cI aS aI = j + 1 := known_hit (by omega) (fun i hi => by rw [hlv i hi]; exact a2 i (by omega)) hf
          rw [hideV_some (by rw [hlen]; omega) e, List.getElem_take, hid_hid t l[j] l[j] (j + 1) (j + 1) (Int.le_refl _) (Int.le_refl _) (Int.le_refl _)]
    · have e : knownV l t.cS t.cI bS bI = l.length + 1 := by omega
      rw [hideV_all e]
      unfold hideL
      rw [e, List.take_of_length_le (by omega)]
end Go.Proofs.YtnmepcogijgbjaaGreatDoor
