/- What the package op computes, as plain functions; no program is in sight. -/
import Derived.Test.YthplcmoojmnofaaDoorNumTextSpec
namespace Go.Proofs.YthplcmoojmnofaaDoor
open Go.RowKit
/-- a code's name, what its operand is, what it takes and lays -/
def opRows : List (List UInt8 × Nat × Nat × Nat) := [
  ([112, 117, 115, 104], 1, 0, 1),
  ([108, 111, 97, 100], 2, 0, 1),
  ([115, 116, 111, 114, 101], 2, 1, 0),
  ([112, 111, 112], 0, 1, 0),
  ([100, 117, 112], 0, 1, 2),
  ([115, 119, 97, 112], 0, 2, 2),
  ([97, 100, 100], 0, 2, 1),
  ([115, 117, 98], 0, 2, 1),
  ([109, 117, 108], 0, 2, 1),
  ([100, 105, 118], 0, 2, 1),
  ([114, 101, 109], 0, 2, 1),
  ([101, 113], 0, 2, 1),
  ([108, 116], 0, 2, 1),
  ([110, 111, 116], 0, 1, 1),
  ([106, 117, 109, 112], 3, 0, 0),
  ([105, 102], 3, 1, 0),
  ([99, 97, 108, 108], 4, 0, 1),
  ([114, 101, 116], 0, 1, 0),
  ([116, 104, 114, 111, 119], 0, 1, 0),
  ([116, 114, 121], 3, 0, 0),
  ([101, 110, 100], 0, 0, 0),
  ([106, 111, 105, 110], 0, 2, 1),
  ([109, 101, 101, 116], 0, 2, 1),
  ([102, 108, 111, 119, 115], 0, 2, 1),
  ([99, 117, 114], 0, 0, 1),
  ([99, 108, 114], 0, 0, 1),
  ([114, 97, 105, 115, 101], 0, 1, 0),
  ([108, 111, 119, 101, 114], 0, 1, 0),
  ([98, 111, 120], 0, 2, 1),
  ([111, 112, 101, 110], 0, 1, 1),
  ([108, 97, 98, 111, 102], 0, 1, 1),
  ([114, 101, 102], 0, 2, 1),
  ([103, 101, 116], 0, 1, 1),
  ([115, 101, 116], 0, 2, 0),
  ([118, 97, 114], 0, 1, 1),
  ([116, 97, 107, 101], 0, 1, 1),
  ([112, 117, 116], 0, 2, 0),
  ([102, 111, 114, 107], 4, 3, 1),
  ([119, 97, 105, 116], 0, 1, 1),
  ([115, 99, 111, 112, 101], 4, 4, 1),
  ([111, 117, 116], 0, 2, 0),
  ([100, 114, 111, 112], 0, 1, 0),
  ([108, 105, 102, 116], 0, 1, 0),
  ([108, 101, 115, 115], 5, 0, 0),
  ([103, 97, 116, 101], 4, 1, 1),
  ([101, 110, 116, 101, 114], 0, 2, 1),
  ([111, 119, 110], 0, 0, 1)]
def aRow (c : Int) : List UInt8 × Nat × Nat × Nat := if 1 ≤ c ∧ c ≤ 47 then opRows.getD (c.toNat - 1) ([], 0, 0, 0) else ([], 0, 0, 0)
def aOk (c : Int) : Bool := decide (1 ≤ c ∧ c ≤ 47)
def aName (c : Int) : List UInt8 := (aRow c).1
def aArg (c : Int) : Int := (aRow c).2.1
def aPop (c : Int) : Int := (aRow c).2.2.1
def aPush (c : Int) : Int := (aRow c).2.2.2
def aLast (c : Int) : Bool := c == 15 || c == 18 || c == 19
theorem aOk_true {c : Int} (h : aOk c = true) : 1 ≤ c ∧ c ≤ 47 := by simpa [aOk] using h
theorem aOk_false {c : Int} (h : aOk c = false) : c < 1 ∨ 47 < c := by
  rcases Int.lt_or_le c 1 with h1 | h1
  · exact Or.inl h1
  · rcases Int.lt_or_le 47 c with h2 | h2
    · exact Or.inr h2
    · simp [aOk] at h; omega
theorem aRow_no {c : Int} (h : aOk c = false) : aRow c = ([], 0, 0, 0) := by
  unfold aRow
  rw [if_neg]
  have := aOk_false h
  omega
/-- a fact on all codes: it is enough to look at the forty-seven rows -/
theorem all_codes {p : Int → Prop} [DecidablePred p] (h : ∀ i : Fin 47, p ((i.val + 1 : Nat) : Int)) (c : Int) (hc : aOk c = true) : p c := by
  obtain ⟨h1, h2⟩ := aOk_true hc
  have := h ⟨(c - 1).toNat, by omega⟩
  have e : (((c - 1).toNat + 1 : Nat) : Int) = c := by omega
  simp only [e] at this
  exact this
theorem two_codes {p : Int → Int → Prop} [∀ a b, Decidable (p a b)] (h : ∀ i j : Fin 47, p ((i.val + 1 : Nat) : Int) ((j.val + 1 : Nat) : Int)) (c d : Int) (hc : aOk c = true) (hd : aOk d = true) : p c d := by
  obtain ⟨h1, h2⟩ := aOk_true hc
  obtain ⟨h3, h4⟩ := aOk_true hd
  have := h ⟨(c - 1).toNat, by omega⟩ ⟨(d - 1).toNat, by omega⟩
  have e : (((c - 1).toNat + 1 : Nat) : Int) = c := by omega
  have e2 : (((d - 1).toNat + 1 : Nat) : Int) = d := by omega
  simp only [e, e2] at this
  exact this
theorem name_inj (c d : Int) (hc : aOk c = true) (hd : aOk d = true) (h : aName c = aName d) : c = d :=
  two_codes (p := fun c d => aName c = aName d → c = d) (by decide +kernel) c d hc hd h
theorem name_bytes (c : Int) (hc : aOk c = true) : (∀ x ∈ aName c, 97 ≤ x.toNat ∧ x.toNat ≤ 122) ∧ 1 ≤ (aName c).length ∧ (aName c).length ≤ 5 :=
  all_codes (p := fun c => (∀ x ∈ aName c, 97 ≤ x.toNat ∧ x.toNat ≤ 122) ∧ 1 ≤ (aName c).length ∧ (aName c).length ≤ 5) (by decide +kernel) c hc
theorem arg_range (c : Int) (hc : aOk c = true) : 0 ≤ aArg c ∧ aArg c ≤ 5 ∧ 0 ≤ aPop c ∧ aPop c ≤ 4 ∧ 0 ≤ aPush c ∧ aPush c ≤ 2 ∧ (aLast c = true → aPush c = 0) :=
  all_codes (p := fun c => 0 ≤ aArg c ∧ aArg c ≤ 5 ∧ 0 ≤ aPop c ∧ aPop c ≤ 4 ∧ 0 ≤ aPush c ∧ aPush c ≤ 2 ∧ (aLast c = true → aPush c = 0)) (by decide +kernel) c hc

def rightB (c a : Int) : Bool := aOk c && (if aArg c = 0 then a == 0 else decide (0 ≤ a ∧ a ≤ 65535))
def opSize (c : Int) : Nat := if aArg c = 0 then 1 else 3
def opPut (c a : Int) : List UInt8 :=
  if rightB c a then (if aArg c = 0 then [UInt8.ofNat c.toNat] else [UInt8.ofNat c.toNat, UInt8.ofNat (a.toNat / 256), UInt8.ofNat (a.toNat % 256)]) else []
def opGet (l : List UInt8) (at_ : Int) : Option ((Int × Int) × Int) :=
  if at_ < 0 ∨ (l.length : Int) ≤ at_ then none else
  match l.drop at_.toNat with
  | [] => none
  | c :: r => if aOk (c.toNat : Int) = false then none else if aArg (c.toNat : Int) = 0 then some (((c.toNat : Int), 0), at_ + 1) else
    match r with
    | x :: y :: _ => some (((c.toNat : Int), ((x.toNat * 256 + y.toNat : Nat) : Int)), at_ + 3)
    | _ => none
theorem rightB_true {c a : Int} (h : rightB c a = true) : aOk c = true ∧ (aArg c = 0 → a = 0) ∧ (aArg c ≠ 0 → 0 ≤ a ∧ a ≤ 65535) ∧ 0 ≤ a ∧ a ≤ 65535 := by
  unfold rightB at h
  rw [Bool.and_eq_true] at h
  obtain ⟨h1, h2⟩ := h
  by_cases h0 : aArg c = 0
  · rw [if_pos h0] at h2
    have : a = 0 := by simpa using h2
    exact ⟨h1, fun _ => this, fun h => absurd h0 h, by omega, by omega⟩
  · rw [if_neg h0] at h2
    have : 0 ≤ a ∧ a ≤ 65535 := by simpa using h2
    exact ⟨h1, fun h => absurd h h0, fun _ => this, this.1, this.2⟩
theorem opPut_right {c a : Int} (h : rightB c a = true) : opPut c a = if aArg c = 0 then [UInt8.ofNat c.toNat] else [UInt8.ofNat c.toNat, UInt8.ofNat (a.toNat / 256), UInt8.ofNat (a.toNat % 256)] := by
  unfold opPut
  rw [if_pos h]
theorem opPut_length {c a : Int} (h : rightB c a = true) : (opPut c a).length = opSize c := by
  rw [opPut_right h]
  unfold opSize
  split <;> rfl
theorem opPut_wrong {c a : Int} (h : rightB c a = false) : opPut c a = [] := by
  unfold opPut
  rw [h]
  rfl
theorem opGet_put {c a : Int} (h : rightB c a = true) (x r : List UInt8) : opGet (x ++ opPut c a ++ r) x.length = some ((c, a), (x.length : Int) + (opPut c a).length) := by
  obtain ⟨h1, h2, h3, h4, h5⟩ := rightB_true h
  obtain ⟨k1, k2⟩ := aOk_true h1
  have hl := opPut_length h
  have hpos : 1 ≤ (opPut c a).length := by rw [hl]; unfold opSize; split <;> omega
  unfold opGet
  rw [if_neg (by simp; omega), Int.toNat_natCast, List.append_assoc, List.drop_left, opPut_right h]
  have hc : (UInt8.ofNat c.toNat).toNat = c.toNat := ofNat_toNat8 _ (by omega)
  have hcI : ((UInt8.ofNat c.toNat).toNat : Int) = c := by rw [hc]; omega
  by_cases h0 : aArg c = 0
  · rw [if_pos h0]
    simp only [List.cons_append, hcI]
    rw [if_neg (by rw [h1]; simp), if_pos h0, h2 h0]
    simp
  · rw [if_neg h0]
    simp only [List.cons_append, hcI]
    rw [if_neg (by rw [h1]; simp), if_neg h0]
    have e1 : (UInt8.ofNat (a.toNat / 256)).toNat = a.toNat / 256 := ofNat_toNat8 _ (by omega)
    have e2 : (UInt8.ofNat (a.toNat % 256)).toNat = a.toNat % 256 := ofNat_toNat8 _ (by omega)
    simp only [e1, e2, Option.some.injEq, Prod.mk.injEq, true_and]
    refine ⟨by omega, by simp⟩
theorem opPut_get {l : List UInt8} {at_ c a next : Int} (h : opGet l at_ = some ((c, a), next)) :
    0 ≤ at_ ∧ at_ < next ∧ next ≤ l.length ∧ rightB c a = true ∧ (l.drop at_.toNat).take (opPut c a).length = opPut c a ∧ next = at_ + (opPut c a).length := by
  unfold opGet at h
  split at h
  · simp at h
  · rename_i ha
    have hlen : (l.drop at_.toNat).length = l.length - at_.toNat := List.length_drop
    split at h
    · simp at h
    · rename_i x r hx
      rw [hx, List.length_cons] at hlen
      split at h
      · simp at h
      · rename_i hok
        have hok' : aOk (x.toNat : Int) = true := by simpa using hok
        split at h
        · rename_i h0
          simp only [Option.some.injEq, Prod.mk.injEq] at h
          obtain ⟨⟨rfl, rfl⟩, rfl⟩ := h
          have hr : rightB (x.toNat : Int) 0 = true := by unfold rightB; rw [hok', if_pos h0]; rfl
          have hp : opPut (x.toNat : Int) 0 = [x] := by rw [opPut_right hr, if_pos h0, Int.toNat_natCast, UInt8.ofNat_toNat]
          rw [hp]
          refine ⟨by omega, by omega, by omega, hr, by rw [hx]; rfl, by simp⟩
        · rename_i h0
          split at h
          · rename_i y z r'
            simp only [Option.some.injEq, Prod.mk.injEq] at h
            obtain ⟨⟨rfl, rfl⟩, rfl⟩ := h
            have hy := y.toNat_lt
            have hz := z.toNat_lt
            have hr : rightB (x.toNat : Int) ((y.toNat * 256 + z.toNat : Nat) : Int) = true := by
              unfold rightB
              rw [hok', if_neg h0]
              simp
              omega
            have hp : opPut (x.toNat : Int) ((y.toNat * 256 + z.toNat : Nat) : Int) = [x, y, z] := by
              rw [opPut_right hr, if_neg h0, Int.toNat_natCast, Int.toNat_natCast, UInt8.ofNat_toNat, show (y.toNat * 256 + z.toNat) / 256 = y.toNat by omega, show (y.toNat * 256 + z.toNat) % 256 = z.toNat by omega, UInt8.ofNat_toNat, UInt8.ofNat_toNat]
            simp only [List.length_cons] at hlen
            rw [hp]
            refine ⟨by omega, by omega, by omega, hr, by rw [hx]; rfl, by simp⟩
          · simp at h
theorem opPut_inj {c a d b : Int} (h1 : rightB c a = true) (h2 : rightB d b = true) (h : opPut c a = opPut d b) : c = d ∧ a = b := by
  have k1 := opGet_put h1 [] []
  have k2 := opGet_put h2 [] []
  rw [h, k2] at k1
  simp only [Option.some.injEq, Prod.mk.injEq] at k1
  exact ⟨k1.1.1.symm, k1.1.2.symm⟩

/-! texts -/
def opText (c a : Int) : List UInt8 := if rightB c a then (if aArg c = 0 then aName c else aName c ++ 32 :: Lib.itoa a) else [63]
def findC (w : List UInt8) : Nat := if opRows.any (fun r => r.1 == w) then (opRows.findIdx fun r => r.1 == w) + 1 else 0
def digB (l : List UInt8) : Int := match parseS l with | some n => if 0 ≤ n ∧ n ≤ 65535 then n else 0 | none => 0
/-- what stands ahead of the first blank, and behind it -/
def cutW (l : List UInt8) : List UInt8 := l.takeWhile (· != 32)
def cutD (l : List UInt8) : List UInt8 := (l.dropWhile (· != 32)).tail
def opParse (l : List UInt8) : Option (Int × Int) :=
  if 16 < l.length then none else
  if rightB (findC (cutW l)) (digB (cutD l)) = true ∧ opText (findC (cutW l)) (digB (cutD l)) = l then some ((findC (cutW l) : Int), digB (cutD l)) else none
theorem opText_right {c a : Int} (h : rightB c a = true) : opText c a = if aArg c = 0 then aName c else aName c ++ 32 :: Lib.itoa a := by unfold opText; rw [if_pos h]
theorem findC_name (c : Int) (hc : aOk c = true) : (findC (aName c) : Int) = c :=
  all_codes (p := fun c => (findC (aName c) : Int) = c) (by decide +kernel) c hc
theorem takeWhile_name {l r : List UInt8} (h : ∀ x ∈ l, (x != 32) = true) : (l ++ 32 :: r).takeWhile (· != 32) = l ∧ (l ++ 32 :: r).dropWhile (· != 32) = 32 :: r := by
  induction l with
  | nil => exact ⟨rfl, rfl⟩
  | cons x l ih =>
    have hx := h x (by simp)
    have := ih (fun y hy => h y (by simp [hy]))
    simp only [List.cons_append, List.takeWhile_cons, List.dropWhile_cons, hx, if_true]
    exact ⟨by rw [this.1], this.2⟩
theorem takeWhile_all {l : List UInt8} (h : ∀ x ∈ l, (x != 32) = true) : l.takeWhile (· != 32) = l ∧ l.dropWhile (· != 32) = [] := by
  induction l with
  | nil => exact ⟨rfl, rfl⟩
  | cons x l ih =>
    have hx := h x (by simp)
    have := ih (fun y hy => h y (by simp [hy]))
    simp only [List.takeWhile_cons, List.dropWhile_cons, hx, if_true]
    exact ⟨by rw [this.1], this.2⟩
theorem name_no_blank (c : Int) (hc : aOk c = true) : ∀ x ∈ aName c, (x != 32) = true := by
  intro x hx
  have := (name_bytes c hc).1 x hx
  rw [bne_iff_ne]
  rintro rfl
  have e : (32 : UInt8).toNat = 32 := rfl
  omega
theorem inI64_65535 {a : Int} (h : 0 ≤ a ∧ a ≤ 65535) : InI64 a := by unfold InI64; omega
theorem opText_length {c a : Int} (h : rightB c a = true) : (opText c a).length ≤ 16 ∧ 1 ≤ (opText c a).length := by
  obtain ⟨h1, h2, h3, h4, h5⟩ := rightB_true h
  have hn := name_bytes c h1
  rw [opText_right h]
  split
  · omega
  · have hd : (Lib.itoa a).length ≤ 5 := by
      unfold Lib.itoa
      rw [if_neg (by omega)]
      exact decDigits_len a.toNat 4 (by omega)
    simp
    omega
theorem opParse_text {c a : Int} (h : rightB c a = true) : opParse (opText c a) = some (c, a) := by
  obtain ⟨h1, h2, h3, h4, h5⟩ := rightB_true h
  have hnb := name_no_blank c h1
  have hcut : (findC (cutW (opText c a)) : Int) = c ∧ digB (cutD (opText c a)) = a := by
    unfold cutW cutD
    rw [opText_right h]
    by_cases h0 : aArg c = 0
    · rw [if_pos h0, (takeWhile_all hnb).1, (takeWhile_all hnb).2, findC_name c h1]
      refine ⟨rfl, ?_⟩
      rw [h2 h0]
      rfl
    · rw [if_neg h0, (takeWhile_name hnb).1, (takeWhile_name hnb).2, findC_name c h1]
      refine ⟨rfl, ?_⟩
      unfold digB
      rw [List.tail_cons, parseS_eq _ a (inI64_65535 ⟨h4, h5⟩) rfl]
      simp only
      rw [if_pos ⟨h4, h5⟩]
  unfold opParse
  rw [if_neg (by have := opText_length h; omega), hcut.1, hcut.2, if_pos ⟨h, rfl⟩]
theorem opText_parse {l : List UInt8} {c a : Int} (h : opParse l = some (c, a)) : rightB c a = true ∧ opText c a = l := by
  unfold opParse at h
  split at h
  · simp at h
  · split at h
    · rename_i hh
      simp only [Option.some.injEq, Prod.mk.injEq] at h
      obtain ⟨rfl, rfl⟩ := h
      exact hh
    · simp at h
theorem opText_inj {c a d b : Int} (h1 : rightB c a = true) (h2 : rightB d b = true) (h : opText c a = opText d b) : c = d ∧ a = b := by
  have k1 := opParse_text h1
  have k2 := opParse_text h2
  rw [h, k2] at k1
  simp only [Option.some.injEq, Prod.mk.injEq] at k1
  exact ⟨k1.1.symm, k1.2.symm⟩
end Go.Proofs.YthplcmoojmnofaaDoor
