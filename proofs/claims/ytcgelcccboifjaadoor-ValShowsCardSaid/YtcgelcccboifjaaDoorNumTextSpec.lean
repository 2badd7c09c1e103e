/- num's digits, as plain functions: what is shown is parsed, and as the same. No program is in sight. -/
import Derived.Lib.ItoaNum
import Derived.Lib.ParseIntB
import Derived.Test.YtcgelcccboifjaaDoorNumLeb
namespace Go.Proofs.YtcgelcccboifjaaDoor
open Go.RowKit
def parseS (l : List UInt8) : Option Int := match Lib.parseIntB 64 l with | .ok v => if Lib.itoa v = l then some v else none | _ => none
def isDig (c : UInt8) : Prop := 48 ≤ c.toNat ∧ c.toNat ≤ 57
theorem dig_ofNat (d : Nat) (h : d < 10) : (UInt8.ofNat (48 + d)).toNat = 48 + d := ofNat_toNat8 _ (by omega)
theorem decDigits_dig (u : Nat) : ∀ c ∈ Lib.decDigits u, isDig c := by
  induction u using Nat.strongRecOn with
  | _ u ih =>
    rw [Lib.decDigits]
    split
    · intro c hc
      rw [List.mem_singleton] at hc
      subst hc
      unfold isDig
      rw [dig_ofNat u (by omega)]
      omega
    · intro c hc
      rcases List.mem_append.1 hc with hc | hc
      · exact ih (u / 10) (by omega) c hc
      · rw [List.mem_singleton] at hc
        subst hc
        unfold isDig
        rw [dig_ofNat (u % 10) (by omega)]
        omega
theorem decDigits_ne (u : Nat) : Lib.decDigits u ≠ [] := by
  rw [Lib.decDigits]
  split <;> simp
theorem parseUintM_snoc (M : Nat) : ∀ (l : List UInt8) (acc v : Nat) (c : UInt8), Lib.parseUintM M acc l = .ok v → Lib.parseUintM M acc (l ++ [c]) = Lib.parseUintM M v [c] := by
  intro l
  induction l with
  | nil =>
    intro acc v c h
    simp only [Lib.parseUintM, Lib.NumEnd.ok.injEq] at h
    subst h
    rfl
  | cons x r ih =>
    intro acc v c h
    rw [Lib.parseUintM] at h
    split at h
    · split at h
      · simp at h
      · split at h
        · simp at h
        · rename_i h1 h2 h3
          rw [List.cons_append, Lib.parseUintM, if_pos h1, if_neg h2, if_neg h3]
          exact ih _ _ _ h
    · simp at h
theorem parseUintM_one (M acc d : Nat) (hd : d < 10) (h1 : acc < 1844674407370955162) (h2 : acc * 10 + d ≤ M) : Lib.parseUintM M acc [UInt8.ofNat (48 + d)] = .ok (acc * 10 + d) := by
  have e := dig_ofNat d hd
  rw [Lib.parseUintM, if_pos (by rw [e]; omega), if_neg (by omega), if_neg (by rw [e]; omega), Lib.parseUintM, e]
  congr 2
  omega
theorem parseUintM_decDigits (u : Nat) (h : u ≤ 18446744073709551615) : Lib.parseUintM 18446744073709551615 0 (Lib.decDigits u) = .ok u := by
  induction u using Nat.strongRecOn with
  | _ u ih =>
    rw [Lib.decDigits]
    split
    · rename_i h1
      have := parseUintM_one 18446744073709551615 0 u h1 (by omega) (by omega)
      rw [this]
      congr 1
      omega
    · rw [parseUintM_snoc _ _ _ _ _ (ih (u / 10) (by omega) (by omega)), parseUintM_one _ _ _ (by omega) (by omega) (by omega)]
      congr 1
      omega
theorem parseUintB_decDigits (u : Nat) (h : u ≤ 18446744073709551615) : Lib.parseUintB 64 (Lib.decDigits u) = .ok u := by
  rw [Lib.parseUintB, if_neg (decDigits_ne u)]
  exact parseUintM_decDigits u h
theorem parseIntB_itoa (n : Int) (h : InI64 n) : Lib.parseIntB 64 (Lib.itoa n) = .ok n := by
  obtain ⟨h1, h2⟩ := h
  unfold Lib.itoa
  split
  · rename_i hn
    have h45 : (45 : UInt8).toNat = 45 := rfl
    rw [Lib.parseIntB]
    simp only [h45, Nat.reduceEqDiff, or_true, if_true, not_true_eq_false, false_and, if_false, true_and]
    rw [parseUintB_decDigits _ (by omega)]
    simp only
    rw [if_neg (by omega)]
    congr 1
    omega
  · rename_i hn
    have hne := decDigits_ne n.toNat
    match hl : Lib.decDigits n.toNat with
    | [] => exact absurd hl hne
    | c :: r =>
      have hc := decDigits_dig n.toNat c (by rw [hl]; simp)
      unfold isDig at hc
      have h43 : ¬ (c.toNat = 43) := by omega
      have h45 : ¬ (c.toNat = 45) := by omega
      rw [Lib.parseIntB]
      simp only [h43, h45, or_self, if_false, not_false_eq_true, true_and, false_and]
      rw [← hl, parseUintB_decDigits _ (by omega)]
      simp only
      rw [if_neg (by omega)]
      congr 1
      omega
theorem parseIntB_in (l : List UInt8) (v : Int) (h : Lib.parseIntB 64 l = .ok v) : InI64 v := by
  unfold InI64
  match l, h with
  | [], h => simp [Lib.parseIntB] at h
  | c :: r, h =>
    rw [Lib.parseIntB] at h
    split at h
    · simp at h
    · simp at h
    · rename_i u hu
      split at h
      · simp at h
      · split at h
        · simp at h
        · rename_i g1 g2
          simp only [Lib.NumEnd.ok.injEq] at h
          subst h
          split <;> omega
theorem parseS_eq (l : List UInt8) (n : Int) (h : InI64 n) (hl : Lib.itoa n = l) : parseS l = some n := by
  subst hl
  unfold parseS
  rw [parseIntB_itoa n h]
  simp
theorem parseS_some (l : List UInt8) (n : Int) (h : parseS l = some n) : InI64 n ∧ Lib.itoa n = l := by
  unfold parseS at h
  split at h
  · rename_i v hv
    split at h
    · rename_i hl
      simp only [Option.some.injEq] at h
      subst h
      exact ⟨parseIntB_in l v hv, hl⟩
    · simp at h
  · simp at h
theorem parseS_none (l : List UInt8) (h : ∀ n, InI64 n → Lib.itoa n ≠ l) : parseS l = none := by
  match hp : parseS l with
  | none => rfl
  | some n => exact absurd (parseS_some l n hp).2 (h n (parseS_some l n hp).1)
theorem itoa_inj {a b : Int} (ha : InI64 a) (hb : InI64 b) (h : Lib.itoa a = Lib.itoa b) : a = b := by
  have h1 := parseS_eq _ a ha rfl
  rw [h, parseS_eq _ b hb rfl] at h1
  exact (Option.some.inj h1).symm
theorem decDigits_len (u : Nat) (k : Nat) (h : u < 10 ^ (k + 1)) : (Lib.decDigits u).length ≤ k + 1 := by
  induction k generalizing u with
  | zero =>
    rw [Lib.decDigits, dif_pos (by simpa using h)]
    simp
  | succ k ih =>
    rw [Lib.decDigits]
    split
    · simp
    · have := ih (u / 10) (by rw [Nat.pow_succ] at h; omega)
      simp
      omega
theorem itoa_len (n : Int) (h : InI64 n) : (Lib.itoa n).length ≤ 20 := by
  obtain ⟨h1, h2⟩ := h
  unfold Lib.itoa
  split
  · have := decDigits_len n.natAbs 18 (by omega)
    simp
    omega
  · have := decDigits_len n.toNat 18 (by omega)
    omega
theorem itoa_ne (n : Int) : Lib.itoa n ≠ [] := by
  unfold Lib.itoa
  split
  · simp
  · exact decDigits_ne _
/-- what the reference reads: the number of the digits, a sign ahead passed over -/
def dval (acc : Nat) (l : List UInt8) : Nat := l.foldl (fun a c => a * 10 + (c.toNat - 48)) acc
theorem dval_snoc (acc : Nat) (l : List UInt8) (c : UInt8) : dval acc (l ++ [c]) = dval acc l * 10 + (c.toNat - 48) := by simp [dval]
theorem dval_decDigits (u : Nat) : dval 0 (Lib.decDigits u) = u := by
  induction u using Nat.strongRecOn with
  | _ u ih =>
    rw [Lib.decDigits]
    split
    · rename_i h
      simp only [dval, List.foldl_cons, List.foldl_nil]
      rw [dig_ofNat u h]
      omega
    · rw [dval_snoc, ih (u / 10) (by omega), dig_ofNat (u % 10) (by omega)]
      omega
def minus (l : List UInt8) : Prop := l[0]? = some 45
instance (l : List UInt8) : Decidable (minus l) := by unfold minus; exact inferInstance
def rv (l : List UInt8) (k : Nat) : Nat := if minus l then dval 0 ((l.take k).drop 1) else dval 0 (l.take k)
theorem rv_zero (l : List UInt8) : rv l 0 = 0 := by unfold rv; split <;> simp [dval]
theorem rv_minus (l : List UInt8) (h : minus l) : rv l 1 = 0 := by
  unfold rv
  rw [if_pos h, List.drop_eq_nil_of_le (by simp; omega)]
  rfl
theorem rv_step (l : List UInt8) (k : Nat) (c : UInt8) (hc : l[k]? = some c) (h : ¬ (k = 0 ∧ minus l)) : rv l (k + 1) = rv l k * 10 + (c.toNat - 48) := by
  obtain ⟨hk, rfl⟩ := List.getElem?_eq_some_iff.1 hc
  have ht : l.take (k + 1) = l.take k ++ [l[k]] := List.take_succ_eq_append_getElem hk
  unfold rv
  split
  · rename_i hm
    rw [ht, List.drop_append_of_le_length (by
      have : k ≠ 0 := fun e => h ⟨e, hm⟩
      simp
      omega), dval_snoc]
  · rw [ht, dval_snoc]
theorem rv_itoa (n : Int) : rv (Lib.itoa n) (Lib.itoa n).length = n.natAbs ∧ (minus (Lib.itoa n) ↔ n < 0) := by
  unfold Lib.itoa rv
  split
  · rename_i hn
    have hm : minus (45 :: Lib.decDigits n.natAbs) := rfl
    rw [if_pos hm, List.take_length]
    exact ⟨dval_decDigits _, ⟨fun _ => hn, fun _ => hm⟩⟩
  · rename_i hn
    have hm : ¬ minus (Lib.decDigits n.toNat) := by
      intro h
      unfold minus at h
      have hmem := List.mem_of_getElem? h
      have := decDigits_dig _ _ hmem
      unfold isDig at this
      have e : (45 : UInt8).toNat = 45 := rfl
      omega
    rw [if_neg hm, List.take_length, dval_decDigits]
    exact ⟨by omega, ⟨fun h => absurd h hm, fun h => absurd h hn⟩⟩
theorem itoa_bytes (n : Int) (k : Nat) (c : UInt8) (h : (Lib.itoa n)[k]? = some c) : isDig c ∨ (k = 0 ∧ c = 45) := by
  unfold Lib.itoa at h
  split at h
  · match k, h with
    | 0, h => right; simpa using h.symm
    | k + 1, h =>
      left
      rw [List.getElem?_cons_succ] at h
      exact decDigits_dig _ _ (List.mem_of_getElem? h)
  · left
    exact decDigits_dig _ _ (List.mem_of_getElem? h)
def parseEnd (r : Option Int) : Ending := .returned (.tuple #[.int .i64 (r.getD 0), .bool r.isSome])
theorem parseEnd_none : parseEnd none = .returned (.tuple #[.int .i64 0, .bool false]) := rfl
theorem parseEnd_some (n : Int) : parseEnd (some n) = .returned (.tuple #[.int .i64 n, .bool true]) := rfl
end Go.Proofs.YtcgelcccboifjaaDoor
