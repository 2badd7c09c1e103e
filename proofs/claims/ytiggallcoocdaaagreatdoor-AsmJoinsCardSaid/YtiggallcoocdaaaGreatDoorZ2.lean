/- NumTextSpec, NameSpec, ValSpec, OpSpec, ImSpec: joined into one text; each part says below what it holds. -/
import Derived.Lib.ItoaNum
import Derived.Lib.ParseIntB
import Derived.Test.YtiggallcoocdaaaGreatDoorZ1
import Derived.Lib.Bytealg
/- num's digits, as plain functions: what is shown is parsed, and as the same. No program is in sight. -/
namespace Go.Proofs.YtiggallcoocdaaaGreatDoor
open Go.RowKit
def parseS (l : List UInt8) : Option Int := match Lib.parseIntB 64 l with | .ok v => if Lib.itoa v = l then some v else none | _ => none
def isDig (c : UInt8) : Prop := 48 ≤ c.toNat ∧ c.toNat ≤ 57
theorem dig_ofNat (d : Nat) (h : d < 10) : (UInt8.ofNat (48 + d)).toNat = 48 + d := ofNat_toNat8 _ (by omega)
theorem decDigits_dig (u : Nat) : ∀ c ∈ Lib.decDigits u, isDig c := by
  induction u using Nat.strongRecOn with
  | _ u ih =>
    rw [Lib.decDigits]
    split
    · intro c hc
      rw [List.mem_singleton] at hc
      subst hc
      unfold isDig
      rw [dig_ofNat u (by omega)]
      omega
    · intro c hc
      rcases List.mem_append.1 hc with hc | hc
      · exact ih (u / 10) (by omega) c hc
      · rw [List.mem_singleton] at hc
        subst hc
        unfold isDig
        rw [dig_ofNat (u % 10) (by omega)]
        omega
theorem decDigits_ne (u : Nat) : Lib.decDigits u ≠ [] := by
  rw [Lib.decDigits]
  split <;> simp
theorem parseUintM_snoc (M : Nat) : ∀ (l : List UInt8) (acc v : Nat) (c : UInt8), Lib.parseUintM M acc l = .ok v → Lib.parseUintM M acc (l ++ [c]) = Lib.parseUintM M v [c] := by
  intro l
  induction l with
  | nil =>
    intro acc v c h
    simp only [Lib.parseUintM, Lib.NumEnd.ok.injEq] at h
    subst h
    rfl
  | cons x r ih =>
    intro acc v c h
    rw [Lib.parseUintM] at h
    split at h
    · split at h
      · simp at h
      · split at h
        · simp at h
        · rename_i h1 h2 h3
          rw [List.cons_append, Lib.parseUintM, if_pos h1, if_neg h2, if_neg h3]
          exact ih _ _ _ h
    · simp at h
theorem parseUintM_one (M acc d : Nat) (hd : d < 10) (h1 : acc < 1844674407370955162) (h2 : acc * 10 + d ≤ M) : Lib.parseUintM M acc [UInt8.ofNat (48 + d)] = .ok (acc * 10 + d) := by
  have e := dig_ofNat d hd
  rw [Lib.parseUintM, if_pos (by rw [e]; omega), if_neg (by omega), if_neg (by rw [e]; omega), Lib.parseUintM, e]
  congr 2
  omega
theorem parseUintM_decDigits (u : Nat) (h : u ≤ 18446744073709551615) : Lib.parseUintM 18446744073709551615 0 (Lib.decDigits u) = .ok u := by
  induction u using Nat.strongRecOn with
  | _ u ih =>
    rw [Lib.decDigits]
    split
    · rename_i h1
      have := parseUintM_one 18446744073709551615 0 u h1 (by omega) (by omega)
      rw [this]
      congr 1
      omega
    · rw [parseUintM_snoc _ _ _ _ _ (ih (u / 10) (by omega) (by omega)), parseUintM_one _ _ _ (by omega) (by omega) (by omega)]
      congr 1
      omega
theorem parseUintB_decDigits (u : Nat) (h : u ≤ 18446744073709551615) : Lib.parseUintB 64 (Lib.decDigits u) = .ok u := by
  rw [Lib.parseUintB, if_neg (decDigits_ne u)]
  exact parseUintM_decDigits u h
theorem parseIntB_itoa (n : Int) (h : InI64 n) : Lib.parseIntB 64 (Lib.itoa n) = .ok n := by
  obtain ⟨h1, h2⟩ := h
  unfold Lib.itoa
  split
  · rename_i hn
    have h45 : (45 : UInt8).toNat = 45 := rfl
    rw [Lib.parseIntB]
    simp only [h45, Nat.reduceEqDiff, or_true, if_true, not_true_eq_false, false_and, if_false, true_and]
    rw [parseUintB_decDigits _ (by omega)]
    simp only
    rw [if_neg (by omega)]
    congr 1
    omega
  · rename_i hn
    have hne := decDigits_ne n.toNat
    match hl : Lib.decDigits n.toNat with
    | [] => exact absurd hl hne
    | c :: r =>
      have hc := decDigits_dig n.toNat c (by rw [hl]; simp)
      unfold isDig at hc
      have h43 : ¬ (c.toNat = 43) := by omega
      have h45 : ¬ (c.toNat = 45) := by omega
      rw [Lib.parseIntB]
      simp only [h43, h45, or_self, if_false, not_false_eq_true, true_and, false_and]
      rw [← hl, parseUintB_decDigits _ (by omega)]
      simp only
      rw [if_neg (by omega)]
      congr 1
      omega
theorem parseIntB_in (l : List UInt8) (v : Int) (h : Lib.parseIntB 64 l = .ok v) : InI64 v := by
  unfold InI64
  match l, h with
  | [], h => simp [Lib.parseIntB] at h
  | c :: r, h =>
    rw [Lib.parseIntB] at h
    split at h
    · simp at h
    · simp at h
    · rename_i u hu
      split at h
      · simp at h
      · split at h
        · simp at h
        · rename_i g1 g2
          simp only [Lib.NumEnd.ok.injEq] at h
          subst h
          split <;> omega
theorem parseS_eq (l : List UInt8) (n : Int) (h : InI64 n) (hl : Lib.itoa n = l) : parseS l = some n := by
  subst hl
  unfold parseS
  rw [parseIntB_itoa n h]
  simp
theorem parseS_some (l : List UInt8) (n : Int) (h : parseS l = some n) : InI64 n ∧ Lib.itoa n = l := by
  unfold parseS at h
  split at h
  · rename_i v hv
    split at h
    · rename_i hl
      simp only [Option.some.injEq] at h
      subst h
      exact ⟨parseIntB_in l v hv, hl⟩
    · simp at h
  · simp at h
theorem parseS_none (l : List UInt8) (h : ∀ n, InI64 n → Lib.itoa n ≠ l) : parseS l = none := by
  match hp : parseS l with
  | none => rfl
  | some n => exact absurd (parseS_some l n hp).2 (h n (parseS_some l n hp).1)
theorem itoa_inj {a b : Int} (ha : InI64 a) (hb : InI64 b) (h : Lib.itoa a = Lib.itoa b) : a = b := by
  have h1 := parseS_eq _ a ha rfl
  rw [h, parseS_eq _ b hb rfl] at h1
  exact (Option.some.inj h1).symm
theorem decDigits_len (u : Nat) (k : Nat) (h : u < 10 ^ (k + 1)) : (Lib.decDigits u).length ≤ k + 1 := by
  induction k generalizing u with
  | zero =>
    rw [Lib.decDigits, dif_pos (by simpa using h)]
    simp
  | succ k ih =>
    rw [Lib.decDigits]
    split
    · simp
    · have := ih (u / 10) (by rw [Nat.pow_succ] at h; omega)
      simp
      omega
theorem itoa_len (n : Int) (h : InI64 n) : (Lib.itoa n).length ≤ 20 := by
  obtain ⟨h1, h2⟩ := h
  unfold Lib.itoa
  split
  · have := decDigits_len n.natAbs 18 (by omega)
    simp
    omega
  · have := decDigits_len n.toNat 18 (by omega)
    omega
theorem itoa_ne (n : Int) : Lib.itoa n ≠ [] := by
  unfold Lib.itoa
  split
  · simp
  · exact decDigits_ne _
/-- what the reference reads: the number of the digits, a sign ahead passed over -/
def dval (acc : Nat) (l : List UInt8) : Nat := l.foldl (fun a c => a * 10 + (c.toNat - 48)) acc
theorem dval_snoc (acc : Nat) (l : List UInt8) (c : UInt8) : dval acc (l ++ [c]) = dval acc l * 10 + (c.toNat - 48) := by simp [dval]
theorem dval_decDigits (u : Nat) : dval 0 (Lib.decDigits u) = u := by
  induction u using Nat.strongRecOn with
  | _ u ih =>
    rw [Lib.decDigits]
    split
    · rename_i h
      simp only [dval, List.foldl_cons, List.foldl_nil]
      rw [dig_ofNat u h]
      omega
    · rw [dval_snoc, ih (u / 10) (by omega), dig_ofNat (u % 10) (by omega)]
      omega
def minus (l : List UInt8) : Prop := l[0]? = some 45
instance (l : List UInt8) : Decidable (minus l) := by unfold minus; exact inferInstance
def rv (l : List UInt8) (k : Nat) : Nat := if minus l then dval 0 ((l.take k).drop 1) else dval 0 (l.take k)
theorem rv_zero (l : List UInt8) : rv l 0 = 0 := by unfold rv; split <;> simp [dval]
theorem rv_minus (l : List UInt8) (h : minus l) : rv l 1 = 0 := by
  unfold rv
  rw [if_pos h, List.drop_eq_nil_of_le (by simp; omega)]
  rfl
theorem rv_step (l : List UInt8) (k : Nat) (c : UInt8) (hc : l[k]? = some c) (h : ¬ (k = 0 ∧ minus l)) : rv l (k + 1) = rv l k * 10 + (c.toNat - 48) := by
  obtain ⟨hk, rfl⟩ := List.getElem?_eq_some_iff.1 hc
  have ht : l.take (k + 1) = l.take k ++ [l[k]] := List.take_succ_eq_append_getElem hk
  unfold rv
  split
  · rename_i hm
    rw [ht, List.drop_append_of_le_length (by
      have : k ≠ 0 := fun e => h ⟨e, hm⟩
      simp
      omega), dval_snoc]
  · rw [ht, dval_snoc]
theorem rv_itoa (n : Int) : rv (Lib.itoa n) (Lib.itoa n).length = n.natAbs ∧ (minus (Lib.itoa n) ↔ n < 0) := by
  unfold Lib.itoa rv
  split
  · rename_i hn
    have hm : minus (45 :: Lib.decDigits n.natAbs) := rfl
    rw [if_pos hm, List.take_length]
    exact ⟨dval_decDigits _, ⟨fun _ => hn, fun _ => hm⟩⟩
  · rename_i hn
    have hm : ¬ minus (Lib.decDigits n.toNat) := by
      intro h
      unfold minus at h
      have hmem := List.mem_of_getElem? h
      have := decDigits_dig _ _ hmem
      unfold isDig at this
      have e : (45 : UInt8).toNat = 45 := rfl
      omega
    rw [if_neg hm, List.take_length, dval_decDigits]
    exact ⟨by omega, ⟨fun h => absurd h hm, fun h => absurd h hn⟩⟩
theorem itoa_bytes (n : Int) (k : Nat) (c : UInt8) (h : (Lib.itoa n)[k]? = some c) : isDig c ∨ (k = 0 ∧ c = 45) := by
  unfold Lib.itoa at h
  split at h
  · match k, h with
    | 0, h => right; simpa using h.symm
    | k + 1, h =>
      left
      rw [List.getElem?_cons_succ] at h
      exact decDigits_dig _ _ (List.mem_of_getElem? h)
  · left
    exact decDigits_dig _ _ (List.mem_of_getElem? h)
def parseEnd (r : Option Int) : Ending := .returned (.tuple #[.int .i64 (r.getD 0), .bool r.isSome])
theorem parseEnd_none : parseEnd none = .returned (.tuple #[.int .i64 0, .bool false]) := rfl
theorem parseEnd_some (n : Int) : parseEnd (some n) = .returned (.tuple #[.int .i64 n, .bool true]) := rfl
end Go.Proofs.YtiggallcoocdaaaGreatDoor
/- What the package name computes, as plain functions on lists; no program is in sight. -/
namespace Go.Proofs.YtiggallcoocdaaaGreatDoor
open Go.RowKit
/-- what stands between the dots -/
def words : List UInt8 → List (List UInt8)
  | [] => [[]]
  | c :: l => if c = 46 then [] :: words l else match words l with
    | [] => [[c]]
    | h :: t => (c :: h) :: t
theorem words_ne : ∀ l, words l ≠ []
  | [] => by simp [words]
  | c :: l => by
    unfold words
    split
    · simp
    · split <;> simp
theorem words_cons {c : UInt8} (h : c ≠ 46) (l : List UInt8) : ∃ a t, words l = a :: t ∧ words (c :: l) = (c :: a) :: t := by
  cases hw : words l with
  | nil => exact absurd hw (words_ne l)
  | cons a t =>
    refine ⟨a, t, rfl, ?_⟩
    rw [words, if_neg h, hw]
theorem words_dot (l : List UInt8) : words (46 :: l) = [] :: words l := by rw [words, if_pos rfl]
theorem words_none : ∀ {l : List UInt8}, (∀ c ∈ l, c ≠ 46) → words l = [l]
  | [], _ => rfl
  | c :: l, h => by
    obtain ⟨a, t, h1, h2⟩ := words_cons (h c (by simp)) l
    rw [words_none (l := l) (fun x hx => h x (by simp [hx]))] at h1
    simp only [List.cons.injEq] at h1
    rw [h2, ← h1.1, ← h1.2]
theorem words_app : ∀ (l m : List UInt8), (∀ c ∈ l, c ≠ 46) → words (l ++ 46 :: m) = l :: words m
  | [], m, _ => words_dot m
  | c :: l, m, h => by
    obtain ⟨a, t, h1, h2⟩ := words_cons (h c (by simp)) (l ++ 46 :: m)
    rw [words_app l m (fun x hx => h x (by simp [hx]))] at h1
    simp only [List.cons.injEq] at h1
    rw [List.cons_append, h2, ← h1.1, ← h1.2]
/-- the words of a text with a dot in it, wherever the dot is -/
theorem words_join : ∀ (l m : List UInt8), words (l ++ 46 :: m) = words l ++ words m
  | [], m => by rw [List.nil_append, words_dot]; rfl
  | c :: l, m => by
    by_cases hc : c = 46
    · subst hc
      rw [List.cons_append, words_dot, words_dot, words_join l m]
      rfl
    · obtain ⟨a, t, h1, h2⟩ := words_cons hc (l ++ 46 :: m)
      obtain ⟨a', t', h3, h4⟩ := words_cons hc l
      rw [words_join l m, h3] at h1
      simp only [List.cons_append, List.cons.injEq] at h1
      rw [List.cons_append, h2, h4, ← h1.1, ← h1.2]
      rfl
theorem words_snoc {c : UInt8} (hc : c ≠ 46) : ∀ (l : List UInt8), ∃ f x, words l = f ++ [x] ∧ words (l ++ [c]) = f ++ [x ++ [c]]
  | [] => ⟨[], [], rfl, by rw [List.nil_append, words_none (by simpa using hc)]; rfl⟩
  | d :: l => by
    obtain ⟨f, x, h1, h2⟩ := words_snoc hc l
    by_cases hd : d = 46
    · subst hd
      exact ⟨[] :: f, x, by rw [words_dot, h1]; rfl, by rw [List.cons_append, words_dot, h2]; rfl⟩
    · obtain ⟨a, t, h3, h4⟩ := words_cons hd l
      obtain ⟨a', t', h5, h6⟩ := words_cons hd (l ++ [c])
      rw [h2] at h5
      rw [h1] at h3
      cases f with
      | nil =>
        simp only [List.nil_append, List.cons.injEq] at h3 h5
        obtain ⟨rfl, rfl⟩ := h3
        obtain ⟨rfl, rfl⟩ := h5
        exact ⟨[], d :: x, h4, by rw [List.cons_append, h6]; rfl⟩
      | cons g f =>
        simp only [List.cons_append, List.cons.injEq] at h3 h5
        obtain ⟨rfl, rfl⟩ := h3
        obtain ⟨rfl, rfl⟩ := h5
        exact ⟨(d :: g) :: f, x, h4, by rw [List.cons_append, h6]; rfl⟩
/-- one word's number: from 0 to 999 -/
def wordNum (w : List UInt8) : Option Int := match parseS w with
  | some n => if 0 ≤ n ∧ n ≤ 999 then some n else none
  | none => none
theorem wordNum_some {w : List UInt8} {n : Int} (h : wordNum w = some n) : 0 ≤ n ∧ n ≤ 999 ∧ Lib.itoa n = w := by
  unfold wordNum at h
  split at h
  · rename_i m hm
    split at h
    · rename_i hr
      obtain rfl := Option.some.inj h
      exact ⟨hr.1, hr.2, (parseS_some _ _ hm).2⟩
    · cases h
  · cases h
theorem inI64_999 {n : Int} (h : 0 ≤ n ∧ n ≤ 999) : InI64 n := by unfold InI64; omega
theorem wordNum_itoa {n : Int} (h : 0 ≤ n ∧ n ≤ 999) : wordNum (Lib.itoa n) = some n := by
  unfold wordNum
  rw [parseS_eq _ n (inI64_999 h) rfl]
  exact if_pos h
theorem small_all {p : List UInt8 → Prop} [DecidablePred p] (h : ∀ i : Fin 1000, p (Lib.itoa (i.val : Int))) {n : Int} (hn : 0 ≤ n ∧ n ≤ 999) : p (Lib.itoa n) := by
  have := h ⟨n.toNat, by omega⟩
  have e : ((n.toNat : Nat) : Int) = n := by omega
  rw [e] at this
  exact this
theorem itoa_small_bytes {n : Int} (hn : 0 ≤ n ∧ n ≤ 999) : (∀ c ∈ Lib.itoa n, 48 ≤ c.toNat ∧ c.toNat ≤ 57) ∧ 1 ≤ (Lib.itoa n).length ∧ (Lib.itoa n).length ≤ 3 ∧ ((Lib.itoa n).head? = some 48 → (Lib.itoa n).length = 1) :=
  small_all (p := fun l => (∀ c ∈ l, 48 ≤ c.toNat ∧ c.toNat ≤ 57) ∧ 1 ≤ l.length ∧ l.length ≤ 3 ∧ (l.head? = some 48 → l.length = 1)) (by decide +kernel) hn
/-- the numbers of words, behind those that stand there already -/
def readGo : List Int → List (List UInt8) → Option (List Int)
  | acc, [] => some acc
  | acc, w :: ws => match wordNum w with
    | some n => if acc.length < 24 then readGo (acc ++ [n]) ws else none
    | none => none
def readL (s : List UInt8) : Option (List Int) := if 95 < s.length then none else readGo [] (words s)
theorem readGo_some : ∀ {ws : List (List UInt8)} {acc l : List Int}, readGo acc ws = some l → ∃ m, l = acc ++ m ∧ ws = m.map Lib.itoa ∧ (∀ n ∈ m, 0 ≤ n ∧ n ≤ 999) ∧ (acc.length ≤ 24 → l.length ≤ 24)
  | [], acc, l, h => by
    obtain rfl := Option.some.inj h
    exact ⟨[], by simp, rfl, by simp, fun h => h⟩
  | w :: ws, acc, l, h => by
    unfold readGo at h
    split at h
    · rename_i n hn
      split at h
      · rename_i hlt
        obtain ⟨m, h1, h2, h3, h4⟩ := readGo_some h
        obtain ⟨k1, k2, k3⟩ := wordNum_some hn
        refine ⟨n :: m, by rw [h1]; simp, by rw [h2, ← k3]; rfl, ?_, fun _ => h4 (by simp; omega)⟩
        intro x hx
        rcases List.mem_cons.1 hx with rfl | hx
        · exact ⟨k1, k2⟩
        · exact h3 x hx
      · cases h
    · cases h
theorem readGo_itoa : ∀ (m acc : List Int), (∀ n ∈ m, 0 ≤ n ∧ n ≤ 999) → acc.length + m.length ≤ 24 → readGo acc (m.map Lib.itoa) = some (acc ++ m)
  | [], acc, _, _ => by simp [readGo]
  | n :: m, acc, h, hl => by
    simp only [List.length_cons] at hl
    rw [List.map_cons, readGo, wordNum_itoa (h n (by simp))]
    simp only
    rw [if_pos (by omega), readGo_itoa m (acc ++ [n]) (fun x hx => h x (by simp [hx])) (by simp; omega)]
    simp
theorem readGo_bad {ws : List (List UInt8)} {acc : List Int} {w : List UInt8} (hw : w ∈ ws) (h : wordNum w = none) : readGo acc ws = none := by
  cases hr : readGo acc ws with
  | none => rfl
  | some l =>
    obtain ⟨m, h1, h2, h3, h4⟩ := readGo_some hr
    rw [h2, List.mem_map] at hw
    obtain ⟨n, hn, rfl⟩ := hw
    rw [wordNum_itoa (h3 n hn)] at h
    cases h
theorem readL_bad {s w : List UInt8} (hw : w ∈ words s) (h : wordNum w = none) : readL s = none := by
  unfold readL
  split
  · rfl
  · exact readGo_bad hw h
/-- the name of numbers, whether it is one or not -/
def joinL : List Int → List UInt8
  | [] => []
  | [n] => Lib.itoa n
  | n :: m :: l => Lib.itoa n ++ 46 :: joinL (m :: l)
def Fits (l : List Int) : Prop := 1 ≤ l.length ∧ l.length ≤ 24 ∧ ∀ n ∈ l, 0 ≤ n ∧ n ≤ 999
instance (l : List Int) : Decidable (Fits l) := by unfold Fits; infer_instance
def ofL (l : List Int) : Option (List UInt8) := if Fits l then some (joinL l) else none
theorem no_dot {n : Int} (hn : 0 ≤ n ∧ n ≤ 999) : ∀ c ∈ Lib.itoa n, c ≠ 46 := by
  intro c hc h
  have := (itoa_small_bytes hn).1 c hc
  subst h
  simp at this
theorem words_joinL : ∀ (l : List Int), l ≠ [] → (∀ n ∈ l, 0 ≤ n ∧ n ≤ 999) → words (joinL l) = l.map Lib.itoa
  | [], h, _ => absurd rfl h
  | [n], _, h => words_none (no_dot (h n (by simp)))
  | n :: m :: l, _, h => by
    rw [joinL, words_app _ _ (no_dot (h n (by simp))), words_joinL (m :: l) (by simp) (fun x hx => h x (by simp [hx]))]
    rfl
theorem joinL_length : ∀ (l : List Int), (∀ n ∈ l, 0 ≤ n ∧ n ≤ 999) → (joinL l).length + 1 ≤ 4 * l.length + (if l = [] then 1 else 0)
  | [], _ => by simp [joinL]
  | [n], h => by
    have := (itoa_small_bytes (h n (by simp))).2.2.1
    simp [joinL]
    omega
  | n :: m :: l, h => by
    have h1 := (itoa_small_bytes (h n (by simp))).2.2.1
    have h2 := joinL_length (m :: l) (fun x hx => h x (by simp [hx]))
    simp [joinL] at h2 ⊢
    omega
theorem readL_join {l : List Int} (h : Fits l) : readL (joinL l) = some l := by
  obtain ⟨h1, h2, h3⟩ := h
  have hne : l ≠ [] := by intro e; subst e; simp at h1
  have hl := joinL_length l h3
  rw [if_neg hne] at hl
  unfold readL
  rw [if_neg (by omega), words_joinL l hne h3, readGo_itoa l [] h3 (by simpa using h2)]
  rfl
theorem words_inj : ∀ (s t : List UInt8), words s = words t → s = t
  | [], [], _ => rfl
  | [], d :: t, h => by
    by_cases hd : d = 46
    · subst hd
      rw [words_dot] at h
      have := words_ne t
      simp [words] at h
      exact absurd h this
    · obtain ⟨a, u, _, h2⟩ := words_cons hd t
      rw [h2] at h
      simp [words] at h
  | c :: s, [], h => by
    by_cases hc : c = 46
    · subst hc
      rw [words_dot] at h
      have := words_ne s
      simp [words] at h
      exact absurd h this
    · obtain ⟨a, u, _, h2⟩ := words_cons hc s
      rw [h2] at h
      simp [words] at h
  | c :: s, d :: t, h => by
    by_cases hc : c = 46
    · subst hc
      by_cases hd : d = 46
      · subst hd
        rw [words_dot, words_dot] at h
        rw [words_inj s t (List.cons.inj h).2]
      · obtain ⟨a, u, _, h2⟩ := words_cons hd t
        rw [words_dot, h2] at h
        simp at h
    · obtain ⟨a, u, h1, h2⟩ := words_cons hc s
      by_cases hd : d = 46
      · subst hd
        rw [words_dot, h2] at h
        simp at h
      · obtain ⟨a', u', h3, h4⟩ := words_cons hd t
        rw [h2, h4] at h
        simp only [List.cons.injEq] at h
        obtain ⟨⟨rfl, rfl⟩, rfl⟩ := h
        rw [words_inj s t (h1.trans h3.symm)]
theorem readL_some {s : List UInt8} {l : List Int} (h : readL s = some l) : Fits l ∧ joinL l = s := by
  unfold readL at h
  split at h
  · cases h
  · obtain ⟨m, h1, h2, h3, h4⟩ := readGo_some h
    rw [List.nil_append] at h1
    subst h1
    have hne : l ≠ [] := by
      intro e
      subst e
      exact words_ne s h2
    refine ⟨⟨?_, h4 (by simp), h3⟩, words_inj _ _ ?_⟩
    · cases l with
      | nil => exact absurd rfl hne
      | cons a b => simp
    · rw [words_joinL l hne h3, h2]
theorem readL_inj {s t : List UInt8} {l : List Int} (h : readL s = some l) (k : readL t = some l) : s = t := by rw [← (readL_some h).2, ← (readL_some k).2]
theorem joinL_inj {l m : List Int} (h : Fits l) (k : Fits m) (e : joinL l = joinL m) : l = m := by
  have h1 := readL_join h
  rw [e, readL_join k] at h1
  exact (Option.some.inj h1).symm
theorem readL_length {s : List UInt8} {l : List Int} (h : readL s = some l) : s.length ≤ 95 := by
  unfold readL at h
  split at h
  · cases h
  · omega
theorem readL_nil : readL [] = none := by decide +kernel
/-! order -/
def cmpL : List Int → List Int → Int
  | [], [] => 0
  | [], _ :: _ => -1
  | _ :: _, [] => 1
  | a :: as, b :: bs => if a < b then -1 else if b < a then 1 else cmpL as bs
theorem cmpL_refl : ∀ l, cmpL l l = 0
  | [] => rfl
  | a :: l => by simp [cmpL, cmpL_refl l]
theorem cmpL_swap : ∀ l m, cmpL m l = -cmpL l m
  | [], [] => rfl
  | [], _ :: _ => rfl
  | _ :: _, [] => rfl
  | a :: l, b :: m => by
    unfold cmpL
    rw [cmpL_swap l m]
    by_cases h1 : a < b
    · rw [if_pos h1, if_neg (by omega), if_pos h1]
      rfl
    · by_cases h2 : b < a
      · rw [if_pos h2, if_neg h1, if_pos h2]
      · rw [if_neg h1, if_neg h2, if_neg h1, if_neg h2]
theorem cmpL_eq : ∀ {l m}, cmpL l m = 0 → l = m
  | [], [], _ => rfl
  | [], _ :: _, h => by simp [cmpL] at h
  | _ :: _, [], h => by simp [cmpL] at h
  | a :: l, b :: m, h => by
    unfold cmpL at h
    split at h
    · simp at h
    · split at h
      · simp at h
      · rw [cmpL_eq h, show a = b by omega]
theorem cmpL_trans : ∀ {l m k}, cmpL l m < 0 → cmpL m k < 0 → cmpL l k < 0
  | [], [], _, h, _ => by simp [cmpL] at h
  | [], _ :: _, [], _, h => by simp [cmpL] at h
  | [], _ :: _, _ :: _, _, _ => by simp [cmpL]
  | _ :: _, [], _, h, _ => by simp [cmpL] at h
  | _ :: _, _ :: _, [], _, h => by simp [cmpL] at h
  | a :: l, b :: m, c :: k, h1, h2 => by
    unfold cmpL at h1 h2 ⊢
    by_cases e1 : a < b
    · by_cases e2 : b < c
      · rw [if_pos (by omega)]; decide
      · rw [if_neg e2] at h2
        by_cases e3 : c < b
        · rw [if_pos e3] at h2; simp at h2
        · rw [if_pos (by omega)]; decide
    · rw [if_neg e1] at h1
      by_cases e2 : b < a
      · rw [if_pos e2] at h1; simp at h1
      · rw [if_neg e2] at h1
        by_cases e3 : b < c
        · rw [if_pos (by omega)]; decide
        · rw [if_neg e3] at h2
          by_cases e4 : c < b
          · rw [if_pos e4] at h2; simp at h2
          · rw [if_neg e4] at h2
            rw [if_neg (by omega), if_neg (by omega)]
            exact cmpL_trans h1 h2
theorem cmpL_range : ∀ l m, cmpL l m = -1 ∨ cmpL l m = 0 ∨ cmpL l m = 1
  | [], [] => by simp [cmpL]
  | [], _ :: _ => by simp [cmpL]
  | _ :: _, [] => by simp [cmpL]
  | a :: l, b :: m => by
    unfold cmpL
    split
    · simp
    · split
      · simp
      · exact cmpL_range l m
/-- bytes as numbers -/
def nums (l : List UInt8) : List Int := l.map fun c => (c.toNat : Int)
theorem nums_inj : ∀ {l m : List UInt8}, nums l = nums m → l = m
  | [], [], _ => rfl
  | [], _ :: _, h => by simp [nums] at h
  | _ :: _, [], h => by simp [nums] at h
  | a :: l, b :: m, h => by
    simp only [nums, List.map_cons, List.cons.injEq] at h
    rw [nums_inj (l := l) (m := m) h.2, UInt8.toNat_inj.1 (Int.ofNat_inj.1 h.1)]
theorem compareBytes_eq : ∀ l m : List UInt8, Lib.compareBytes l m = cmpL (nums l) (nums m)
  | [], [] => rfl
  | [], _ :: _ => rfl
  | _ :: _, [] => rfl
  | a :: l, b :: m => by
    unfold Lib.compareBytes
    simp only [nums, List.map_cons, cmpL]
    rw [compareBytes_eq l m]
    simp only [UInt8.lt_iff_toNat_lt]
    simp only [Int.ofNat_lt]
    rfl
/-- a name's place: names first, by their numbers; then all else, by bytes -/
def orderS (a b : List UInt8) : Int := match readL a, readL b with
  | some x, some y => cmpL x y
  | some _, none => -1
  | none, some _ => 1
  | none, none => Lib.compareBytes a b
theorem orderS_range (a b : List UInt8) : orderS a b = -1 ∨ orderS a b = 0 ∨ orderS a b = 1 := by
  unfold orderS
  split
  · exact cmpL_range _ _
  · simp
  · simp
  · rw [compareBytes_eq]; exact cmpL_range _ _
theorem orderS_swap (a b : List UInt8) : orderS b a = -orderS a b := by
  unfold orderS
  cases readL a <;> cases readL b <;> simp only
  · rw [compareBytes_eq, compareBytes_eq, cmpL_swap]
  · rfl
  · rw [cmpL_swap]
theorem orderS_zero {a b : List UInt8} : orderS a b = 0 ↔ a = b := by
  constructor
  · intro h
    unfold orderS at h
    cases ha : readL a <;> cases hb : readL b <;> simp only [ha, hb] at h
    · rw [compareBytes_eq] at h
      exact nums_inj (cmpL_eq h)
    · simp at h
    · simp at h
    · rw [cmpL_eq h] at ha
      exact readL_inj ha hb
  · rintro rfl
    unfold orderS
    cases readL a <;> simp only
    · rw [compareBytes_eq, cmpL_refl]
    · exact cmpL_refl _
theorem orderS_trans {a b c : List UInt8} (h : orderS a b < 0) (k : orderS b c < 0) : orderS a c < 0 := by
  unfold orderS at *
  cases ha : readL a <;> cases hb : readL b <;> cases hc : readL c <;> simp only [ha, hb, hc] at h k ⊢
  · rw [compareBytes_eq] at *
    exact cmpL_trans h k
  · simp at k
  · simp at h
  · simp at h
  · decide
  · simp at k
  · decide
  · exact cmpL_trans h k
def underS (a b : List UInt8) : Bool := match readL a, readL b with
  | some x, some y => decide (x.length ≤ y.length) && (x == y.take x.length)
  | _, _ => false
theorem take_prefix {x y : List Int} : (decide (x.length ≤ y.length) && (x == y.take x.length)) = true ↔ x <+: y := by
  rw [Bool.and_eq_true, decide_eq_true_eq, beq_iff_eq]
  constructor
  · rintro ⟨_, h⟩
    have e := List.take_append_drop x.length y
    rw [← h] at e
    exact ⟨_, e⟩
  · rintro ⟨z, rfl⟩
    simp
theorem underS_iff {a b : List UInt8} : underS a b = true ↔ ∃ x y, readL a = some x ∧ readL b = some y ∧ x <+: y := by
  unfold underS
  cases readL a with
  | none => simp
  | some x =>
    cases readL b with
    | none => simp
    | some y =>
      show (decide (x.length ≤ y.length) && (x == y.take x.length)) = true ↔ _
      rw [take_prefix]
      simp
/-- what is a proper beginning stands ahead -/
theorem cmpL_prefix : ∀ {x y : List Int}, x <+: y → x ≠ y → cmpL x y < 0
  | [], [], _, h => absurd rfl h
  | [], _ :: _, _, _ => by simp [cmpL]
  | a :: x, y, ⟨z, hz⟩, h => by
    subst hz
    simp only [List.cons_append, cmpL, Int.lt_irrefl, if_false]
    refine cmpL_prefix ⟨z, rfl⟩ ?_
    intro e
    exact h (by rw [List.cons_append, ← e])
/-- what is behind x, and does not begin with x, is behind all that begins with x -/
theorem cmpL_behind : ∀ {x y : List Int} (t : List Int), cmpL x y < 0 → ¬ x <+: y → cmpL (x ++ t) y < 0
  | [], _, _, _, h => absurd (List.nil_prefix) h
  | _ :: _, [], _, h, _ => by simp [cmpL] at h
  | a :: x, b :: y, t, h1, h2 => by
    simp only [List.cons_append, cmpL] at h1 ⊢
    by_cases e1 : a < b
    · rw [if_pos e1]; decide
    · rw [if_neg e1] at h1 ⊢
      by_cases e2 : b < a
      · rw [if_pos e2] at h1; simp at h1
      · rw [if_neg e2] at h1 ⊢
        refine cmpL_behind t h1 ?_
        rintro ⟨z, hz⟩
        exact h2 ⟨z, by rw [List.cons_append, hz, show a = b by omega]⟩
end Go.Proofs.YtiggallcoocdaaaGreatDoor
/- Values: what the code computes, and what follows; no program in sight. -/
namespace Go.Proofs.YtiggallcoocdaaaGreatDoor
structure Vl where
  k : Int
  n : Int
  nm : List UInt8
  l : Lb
def lb (S I : ByteArray) : Lb := ⟨S.data.toList, I.data.toList⟩
def vl (k n : Int) (m s i : ByteArray) : Vl := ⟨k, n, m.data.toList, lb s i⟩
def Vl.right (v : Vl) : Bool :=
  if v.k = 1 then v.nm.isEmpty && (v.l.S.isEmpty && v.l.I.isEmpty)
  else if v.k = 2 then v.n == 0 && v.nm.isEmpty && v.l.right
  else if 3 ≤ v.k ∧ v.k ≤ 7 then v.n == 0 && (readL v.nm).isSome && v.l.right else false
theorem empty_toList (m : ByteArray) : m.data.toList.isEmpty = m.toList.isEmpty := by rw [ByteArray.toList_eq]
theorem right1 (n : Int) (m s i : ByteArray) : (vl 1 n m s i).right = (m.toList.isEmpty && (s.toList.isEmpty && i.toList.isEmpty)) := by
  unfold Vl.right vl lb
  rw [if_pos rfl, empty_toList, empty_toList, empty_toList]
theorem right2 (n : Int) (m s i : ByteArray) : (vl 2 n m s i).right = (n == 0 && m.toList.isEmpty && (lb s i).right) := by
  unfold Vl.right vl
  rw [if_neg (by simp), if_pos rfl, empty_toList]
theorem right3 {k : Int} (h : 3 ≤ k) (h7 : k ≤ 7) (n : Int) (m s i : ByteArray) : (vl k n m s i).right = (n == 0 && (readL m.data.toList).isSome && (lb s i).right) := by
  unfold Vl.right vl
  simp only
  rw [if_neg (by omega), if_neg (by omega), if_pos ⟨h, h7⟩]
theorem right0 {k : Int} (h : k < 1 ∨ 7 < k) (n : Int) (m s i : ByteArray) : (vl k n m s i).right = false := by
  unfold Vl.right vl
  simp only
  rw [if_neg (by omega), if_neg (by omega), if_neg (by omega)]
/-! bytes -/
def Vl.putR (v : Vl) : List UInt8 :=
  if v.k = 1 then 1 :: putL v.n else if v.k = 2 then 2 :: v.l.put else UInt8.ofNat v.k.toNat :: UInt8.ofNat v.nm.length :: (v.nm ++ v.l.put)
def Vl.put (v : Vl) : List UInt8 := if v.right = true then v.putR else []
/-- a name with its length ahead, and how many bytes it takes -/
def getNm : List UInt8 → Option (List UInt8 × Nat)
  | [] => none
  | c :: l => if c.toNat ≤ l.length ∧ (readL (l.take c.toNat)).isSome = true then some (l.take c.toNat, c.toNat + 1) else none
/-- the value whose bytes stand at the head, and how many they are -/
def getV : List UInt8 → Option (Vl × Nat)
  | [] => none
  | c :: l =>
    if c.toNat = 1 then (match getR l 0 with
      | none => none
      | some (n, e) => some (⟨1, n, [], ⟨[], []⟩⟩, e.toNat + 1))
    else if c.toNat = 2 then (match getLb l with
      | none => none
      | some (b, n) => some (⟨2, 0, [], b⟩, n + 1))
    else if 3 ≤ c.toNat ∧ c.toNat ≤ 7 then (match getNm l with
      | none => none
      | some (m, n) => match getLb (l.drop n) with
        | none => none
        | some (b, n2) => some (⟨c.toNat, 0, m, b⟩, n + n2 + 1))
    else none
theorem getNm_put {m : List UInt8} (h : (readL m).isSome = true) (t : List UInt8) : getNm (UInt8.ofNat m.length :: (m ++ t)) = some (m, m.length + 1) := by
  obtain ⟨x, hx⟩ := Option.isSome_iff_exists.1 h
  have hl := readL_length hx
  have e : (UInt8.ofNat m.length).toNat = m.length := by rw [UInt8.toNat_ofNat']; omega
  rw [getNm, e, List.take_left, if_pos ⟨by simp, h⟩]
theorem getNm_some {s m : List UInt8} {n : Nat} (h : getNm s = some (m, n)) : (readL m).isSome = true ∧ n = m.length + 1 ∧ n ≤ s.length ∧ UInt8.ofNat m.length :: m = s.take n := by
  cases s with
  | nil => simp [getNm] at h
  | cons c l =>
    rw [getNm] at h
    by_cases hc : c.toNat ≤ l.length ∧ (readL (l.take c.toNat)).isSome = true
    · rw [if_pos hc] at h
      simp only [Option.some.injEq, Prod.mk.injEq] at h
      obtain ⟨rfl, rfl⟩ := h
      have hlen : (l.take c.toNat).length = c.toNat := by rw [List.length_take]; omega
      refine ⟨hc.2, by rw [hlen], by simp only [List.length_cons]; omega, ?_⟩
      rw [hlen, UInt8.ofNat_toNat]
      rfl
    · rw [if_neg hc] at h
      cases h
theorem getNm_torn {m : List UInt8} (h : (readL m).isSome = true) {k : Nat} (hk : k < m.length + 1) : getNm ((UInt8.ofNat m.length :: m).take k) = none := by
  cases k with
  | zero => rfl
  | succ k =>
    obtain ⟨x, hx⟩ := Option.isSome_iff_exists.1 h
    have hl := readL_length hx
    rw [List.take_succ_cons, getNm, if_neg]
    rw [UInt8.toNat_ofNat', List.length_take]
    omega
theorem getR_head {n : Int} (hn : InI64 n) (t : List UInt8) : getR (putL n ++ t) 0 = some (n, ((putL n).length : Int)) := by
  have := getR_putL n hn [] t
  simpa using this
/-- what is right, and put, is got -/
theorem getV_put {v : Vl} (h : v.right = true) (hn : InI64 v.n) (t : List UInt8) : getV (v.put ++ t) = some (v, v.put.length) := by
  obtain ⟨k, n, m, l⟩ := v
  have hp : Vl.put ⟨k, n, m, l⟩ = Vl.putR ⟨k, n, m, l⟩ := if_pos h
  rw [hp]
  unfold Vl.right at h
  unfold Vl.putR
  simp only at h hn ⊢
  by_cases k1 : k = 1
  · rw [if_pos k1] at h ⊢
    subst k1
    simp only [Bool.and_eq_true, List.isEmpty_iff] at h
    obtain ⟨S, I⟩ := l
    obtain ⟨rfl, rfl, rfl⟩ := h
    rw [List.cons_append, getV, if_pos (by rfl), getR_head hn]
    simp
  · rw [if_neg k1] at h ⊢
    by_cases k2 : k = 2
    · rw [if_pos k2] at h ⊢
      subst k2
      simp only [Bool.and_eq_true, List.isEmpty_iff, beq_iff_eq] at h
      obtain ⟨⟨rfl, rfl⟩, hl⟩ := h
      rw [List.cons_append, getV, if_neg (by decide), if_pos (by rfl), getLb_put hl]
      simp
    · rw [if_neg k2] at h ⊢
      by_cases k3 : 3 ≤ k ∧ k ≤ 7
      · rw [if_pos k3] at h
        simp only [Bool.and_eq_true, beq_iff_eq] at h
        obtain ⟨⟨rfl, hm⟩, hl⟩ := h
        have e : (UInt8.ofNat k.toNat).toNat = k.toNat := by rw [UInt8.toNat_ofNat']; omega
        rw [List.cons_append, getV, e, if_neg (by omega), if_neg (by omega), if_pos (by omega), List.cons_append, List.append_assoc, getNm_put hm]
        simp only [List.drop_succ_cons, List.drop_left]
        rw [getLb_put hl]
        simp only [List.length_cons, List.length_append, Option.some.injEq, Prod.mk.injEq]
        refine ⟨?_, by omega⟩
        rw [show ((k.toNat : Nat) : Int) = k by omega]
      · rw [if_neg k3] at h
        cases h
theorem getR_zero {l : List UInt8} {n e : Int} (h : getR l 0 = some (n, e)) : InI64 n ∧ 0 < e ∧ e ≤ l.length ∧ putL n = l.take e.toNat := by
  obtain ⟨h1, h2, h3, h4, h5, h6⟩ := putL_getR l 0 n e h
  refine ⟨h4, h2, h3, ?_⟩
  have h7 : (List.drop (0 : Int).toNat l) = l := rfl
  rw [h7, show (e - 0).toNat = e.toNat by omega] at h5
  exact h5.symm
theorem getR_shift (l : List UInt8) (a : Nat) : getR l a = (getR (l.drop a) 0).map fun p => (p.1, (a : Int) + p.2) := by
  unfold getR
  by_cases h : l.length ≤ a
  · rw [if_pos (by omega), if_pos (by rw [List.length_drop]; omega)]
    rfl
  · rw [if_neg (by omega), if_neg (by rw [List.length_drop]; omega)]
    have e1 : (a : Int).toNat = a := Int.toNat_natCast a
    have e2 : ((0 : Int)).toNat = 0 := rfl
    rw [e1, e2, List.drop_zero, Option.map_map]
    congr 1
    funext p
    simp
/-- what is got is right, and is what stands there -/
theorem getV_some {s : List UInt8} {v : Vl} {n : Nat} (h : getV s = some (v, n)) : v.right = true ∧ InI64 v.n ∧ n ≤ s.length ∧ v.put = s.take n ∧ 0 < n := by
  have key : v.right = true → v.putR = s.take n → v.put = s.take n := fun h1 h2 => by rw [← h2]; exact if_pos h1
  have h0 : InI64 0 := by unfold InI64; omega
  cases s with
  | nil => simp [getV] at h
  | cons c l =>
    rw [getV] at h
    by_cases k1 : c.toNat = 1
    · rw [if_pos k1] at h
      cases hr : getR l 0 with
      | none => rw [hr] at h; cases h
      | some p =>
        obtain ⟨x, e⟩ := p
        rw [hr] at h
        simp only [Option.some.injEq, Prod.mk.injEq] at h
        obtain ⟨rfl, rfl⟩ := h
        obtain ⟨h1, h2, h3, h4⟩ := getR_zero hr
        have hR : Vl.right ⟨1, x, [], ⟨[], []⟩⟩ = true := rfl
        refine ⟨hR, h1, by simp only [List.length_cons]; omega, key hR ?_, by omega⟩
        show (1 : UInt8) :: putL x = _
        rw [List.take_succ_cons, ← h4]
        congr 1
        exact UInt8.toNat_inj.1 k1.symm
    · rw [if_neg k1] at h
      by_cases k2 : c.toNat = 2
      · rw [if_pos k2] at h
        cases hr : getLb l with
        | none => rw [hr] at h; cases h
        | some p =>
          obtain ⟨b, e⟩ := p
          rw [hr] at h
          simp only [Option.some.injEq, Prod.mk.injEq] at h
          obtain ⟨rfl, rfl⟩ := h
          obtain ⟨h1, h2, h3, h4⟩ := getLb_some hr
          have hR : Vl.right ⟨2, 0, [], b⟩ = true := by
            show ((0 : Int) == 0 && List.isEmpty ([] : List UInt8) && b.right) = true
            rw [h1]; rfl
          refine ⟨hR, h0, by simp only [List.length_cons]; omega, key hR ?_, by omega⟩
          show (2 : UInt8) :: b.put = _
          rw [List.take_succ_cons, ← h3]
          congr 1
          exact UInt8.toNat_inj.1 k2.symm
      · rw [if_neg k2] at h
        by_cases k3 : 3 ≤ c.toNat ∧ c.toNat ≤ 7
        · rw [if_pos k3] at h
          cases hm : getNm l with
          | none => rw [hm] at h; cases h
          | some p =>
            obtain ⟨m, e⟩ := p
            rw [hm] at h
            simp only at h
            cases hr : getLb (l.drop e) with
            | none => rw [hr] at h; cases h
            | some q =>
              obtain ⟨b, e2⟩ := q
              rw [hr] at h
              simp only [Option.some.injEq, Prod.mk.injEq] at h
              obtain ⟨rfl, rfl⟩ := h
              obtain ⟨m1, m2, m3, m4⟩ := getNm_some hm
              obtain ⟨h1, h2, h3, h4⟩ := getLb_some hr
              rw [List.length_drop] at h2
              have hR : Vl.right ⟨c.toNat, 0, m, b⟩ = true := by
                unfold Vl.right
                simp only
                rw [if_neg (by omega), if_neg (by omega), if_pos (by omega), m1, h1]
                rfl
              refine ⟨hR, h0, by simp only [List.length_cons]; omega, key hR ?_, by omega⟩
              unfold Vl.putR
              simp only
              rw [if_neg (by omega), if_neg (by omega), List.take_succ_cons, List.take_add, ← m4, ← h3]
              simp
        · rw [if_neg k3] at h
          cases h
/-- a beginning of what is put is none -/
theorem getV_torn {v : Vl} (h : v.right = true) (hn : InI64 v.n) {k : Nat} (hk : k < v.put.length) : getV (v.put.take k) = none := by
  cases hg : getV (v.put.take k) with
  | none => rfl
  | some p =>
    obtain ⟨v', n'⟩ := p
    obtain ⟨h1, h2, h3, h4, h5⟩ := getV_some hg
    rw [List.length_take] at h3
    rw [List.take_take, show min n' k = n' by omega] at h4
    have e1 := getV_put h1 h2 (v.put.drop n')
    have e2 := getV_put h hn []
    rw [h4, List.take_append_drop] at e1
    rw [List.append_nil, e1] at e2
    simp only [Option.some.injEq, Prod.mk.injEq] at e2
    have := e2.2
    rw [List.length_take] at this
    omega
theorem put_ne {v : Vl} (h : v.right = true) : v.put ≠ [] := by
  have : v.put = v.putR := if_pos h
  rw [this]
  unfold Vl.putR
  split
  · simp
  · split <;> simp
theorem put_inj {v v' : Vl} (h : v.right = true) (hn : InI64 v.n) (h' : v'.right = true) (hn' : InI64 v'.n) (e : v.put = v'.put) : v = v' := by
  have e1 := getV_put h hn []
  have e2 := getV_put h' hn' []
  rw [e, e2] at e1
  simp only [Option.some.injEq, Prod.mk.injEq] at e1
  exact e1.1.symm
theorem put_length {v : Vl} : v.put.length ≤ 240 := by
  unfold Vl.put
  split
  · rename_i h
    unfold Vl.putR
    have h1 := putL_length v.n
    have h2 := Lb.put_length v.l
    by_cases k1 : v.k = 1
    · rw [if_pos k1]; simp; omega
    · rw [if_neg k1]
      by_cases k2 : v.k = 2
      · rw [if_pos k2]; simp; omega
      · rw [if_neg k2]
        unfold Vl.right at h
        rw [if_neg k1, if_neg k2] at h
        by_cases k3 : 3 ≤ v.k ∧ v.k ≤ 7
        · rw [if_pos k3] at h
          simp only [Bool.and_eq_true] at h
          obtain ⟨x, hx⟩ := Option.isSome_iff_exists.1 h.1.2
          have := readL_length hx
          simp
          omega
        · rw [if_neg k3] at h; cases h
  · simp
/-! texts -/
def wordV (k : Int) : List UInt8 := if k = 3 then [98, 111, 120] else if k = 4 then [114, 101, 102] else if k = 5 then [118, 97, 114] else if k = 6 then [99, 101, 108, 108] else [103, 97, 116, 101]
def markV (l : Lb) : List UInt8 := 60 :: (l.text ++ [62])
def Vl.textR (v : Vl) : List UInt8 := if v.k = 1 then Lib.itoa v.n else if v.k = 2 then markV v.l else wordV v.k ++ 58 :: (v.nm ++ markV v.l)
def Vl.text (v : Vl) : List UInt8 := if v.right = true then v.textR else [63]
theorem joinL_ch : ∀ (l : List Int), (∀ n ∈ l, 0 ≤ n ∧ n ≤ 999) → ∀ c ∈ joinL l, c ≠ 60
  | [], _, c, hc => by simp [joinL] at hc
  | [n], h, c, hc => by
    have := (itoa_small_bytes (h n (by simp))).1 c hc
    rintro rfl
    simp at this
  | n :: m :: l, h, c, hc => by
    rw [joinL, List.mem_append, List.mem_cons] at hc
    rcases hc with hc | rfl | hc
    · have := (itoa_small_bytes (h n (by simp))).1 c hc
      rintro rfl
      simp at this
    · decide
    · exact joinL_ch (m :: l) (fun x hx => h x (by simp [hx])) c hc
theorem name_ch {m : List UInt8} (h : (readL m).isSome = true) : ∀ c ∈ m, c ≠ 60 := by
  obtain ⟨x, hx⟩ := Option.isSome_iff_exists.1 h
  obtain ⟨hf, he⟩ := readL_some hx
  rw [← he]
  exact joinL_ch x hf.2.2
theorem word_ch (k : Int) : ∀ c ∈ wordV k, c ≠ 58 := by
  unfold wordV
  split
  · decide
  · split
    · decide
    · split
      · decide
      · split
        · decide
        · decide
theorem word_inj {k k' : Int} (h : 3 ≤ k ∧ k ≤ 7) (h' : 3 ≤ k' ∧ k' ≤ 7) (e : wordV k = wordV k') : k = k' := by
  have h2 : ∀ i j : Fin 5, wordV ((i.val : Int) + 3) = wordV ((j.val : Int) + 3) → i = j := by decide
  have := h2 ⟨(k - 3).toNat, by omega⟩ ⟨(k' - 3).toNat, by omega⟩
  simp only at this
  rw [show (((k - 3).toNat : Nat) : Int) + 3 = k by omega, show (((k' - 3).toNat : Nat) : Int) + 3 = k' by omega] at this
  have := Fin.mk.inj_iff.1 (this e)
  omega
theorem mark_inj {l l' : Lb} (h : l.right = true) (h' : l'.right = true) (e : markV l = markV l') : l = l' := by
  unfold markV at e
  simp only [List.cons.injEq, true_and] at e
  exact Lb.text_inj h h' (List.append_cancel_right e)
/-- the first byte -/
theorem itoa_first (n : Int) (c : UInt8) (h : (Lib.itoa n)[0]? = some c) : (48 ≤ c.toNat ∧ c.toNat ≤ 57) ∨ c = 45 := by
  rcases itoa_bytes n 0 c h with h | h
  · exact Or.inl h
  · exact Or.inr h.2
theorem word_first (k : Int) : ∃ c l, wordV k = c :: l ∧ 97 ≤ c.toNat := by
  unfold wordV
  split
  · exact ⟨_, _, rfl, by decide⟩
  · split
    · exact ⟨_, _, rfl, by decide⟩
    · split
      · exact ⟨_, _, rfl, by decide⟩
      · split
        · exact ⟨_, _, rfl, by decide⟩
        · exact ⟨_, _, rfl, by decide⟩
theorem itoa_mark {n : Int} {l : List UInt8} : Lib.itoa n ≠ 60 :: l := by
  intro e
  rcases itoa_first n 60 (by rw [e]; rfl) with h | h
  · simp at h
  · simp at h
theorem itoa_word {n k : Int} {l : List UInt8} : Lib.itoa n ≠ wordV k ++ l := by
  obtain ⟨c, r, hc, h97⟩ := word_first k
  intro e
  rw [hc] at e
  rcases itoa_first n c (by rw [e]; rfl) with h | h
  · omega
  · subst h; simp at h97
theorem mark_word {k : Int} {x l : List UInt8} : (60 : UInt8) :: x ≠ wordV k ++ l := by
  obtain ⟨c, r, hc, h97⟩ := word_first k
  rw [hc]
  intro e
  simp only [List.cons_append, List.cons.injEq] at e
  rw [← e.1] at h97
  simp at h97
theorem text_inj {v v' : Vl} (h : v.right = true) (hn : InI64 v.n) (h' : v'.right = true) (hn' : InI64 v'.n) (e : v.text = v'.text) : v = v' := by
  have t1 : v.text = v.textR := if_pos h
  have t2 : v'.text = v'.textR := if_pos h'
  rw [t1, t2] at e
  obtain ⟨k, n, m, l⟩ := v
  obtain ⟨k', n', m', l'⟩ := v'
  unfold Vl.right at h h'
  unfold Vl.textR at e
  simp only at h h' e hn hn'
  by_cases k1 : k = 1
  · rw [if_pos k1] at h e
    by_cases k1' : k' = 1
    · rw [if_pos k1'] at h' e
      obtain ⟨S, I⟩ := l
      obtain ⟨S', I'⟩ := l'
      simp only [Bool.and_eq_true, List.isEmpty_iff] at h h'
      obtain ⟨rfl, rfl, rfl⟩ := h
      obtain ⟨rfl, rfl, rfl⟩ := h'
      rw [k1, k1', itoa_inj hn hn' e]
    · rw [if_neg k1'] at e
      by_cases k2' : k' = 2
      · rw [if_pos k2'] at e; exact absurd e itoa_mark
      · rw [if_neg k2'] at e; exact absurd e itoa_word
  · rw [if_neg k1] at h e
    by_cases k2 : k = 2
    · rw [if_pos k2] at h e
      by_cases k1' : k' = 1
      · rw [if_pos k1'] at e; exact absurd e.symm itoa_mark
      · rw [if_neg k1'] at h' e
        by_cases k2' : k' = 2
        · rw [if_pos k2'] at h' e
          simp only [Bool.and_eq_true, List.isEmpty_iff, beq_iff_eq] at h h'
          obtain ⟨⟨rfl, rfl⟩, hl⟩ := h
          obtain ⟨⟨rfl, rfl⟩, hl'⟩ := h'
          rw [k2, k2', mark_inj hl hl' e]
        · rw [if_neg k2'] at e; exact absurd e mark_word
    · rw [if_neg k2] at h e
      by_cases k3 : 3 ≤ k ∧ k ≤ 7
      · rw [if_pos k3] at h
        by_cases k1' : k' = 1
        · rw [if_pos k1'] at e; exact absurd e.symm itoa_word
        · rw [if_neg k1'] at h' e
          by_cases k2' : k' = 2
          · rw [if_pos k2'] at e; exact absurd e.symm mark_word
          · rw [if_neg k2'] at h' e
            by_cases k3' : 3 ≤ k' ∧ k' ≤ 7
            · rw [if_pos k3'] at h'
              simp only [Bool.and_eq_true, beq_iff_eq] at h h'
              obtain ⟨⟨rfl, hm⟩, hl⟩ := h
              obtain ⟨⟨rfl, hm'⟩, hl'⟩ := h'
              obtain ⟨e1, e2⟩ := split_inj (word_ch k) (word_ch k') e
              obtain ⟨e3, e4⟩ := split_inj (name_ch hm) (name_ch hm') e2
              have e5 := Lb.text_inj hl hl' (List.append_cancel_right e4)
              rw [word_inj k3 k3' e1, e3, e5]
            · rw [if_neg k3'] at h'; cases h'
      · rw [if_neg k3] at h; cases h
theorem text_length (v : Vl) (hn : InI64 v.n) : v.text.length ≤ 1700 := by
  unfold Vl.text
  split
  · rename_i h
    unfold Vl.textR
    have h1 := itoa_len v.n hn
    have h2 := Lb.text_length v.l
    by_cases k1 : v.k = 1
    · rw [if_pos k1]; omega
    · rw [if_neg k1]
      by_cases k2 : v.k = 2
      · rw [if_pos k2]; unfold markV; simp; omega
      · rw [if_neg k2]
        unfold Vl.right at h
        rw [if_neg k1, if_neg k2] at h
        by_cases k3 : 3 ≤ v.k ∧ v.k ≤ 7
        · rw [if_pos k3] at h
          simp only [Bool.and_eq_true] at h
          obtain ⟨x, hx⟩ := Option.isSome_iff_exists.1 h.1.2
          have := readL_length hx
          have hw : (wordV v.k).length ≤ 4 := by
            unfold wordV
            split
            · decide
            · split
              · decide
              · split
                · decide
                · split <;> decide
          unfold markV
          simp
          omega
        · rw [if_neg k3] at h; cases h
  · simp
end Go.Proofs.YtiggallcoocdaaaGreatDoor
/- What the package op computes, as plain functions; no program is in sight. -/
namespace Go.Proofs.YtiggallcoocdaaaGreatDoor
open Go.RowKit
/-- a code's name, what its operand is, what it takes and lays -/
def opRows : List (List UInt8 × Nat × Nat × Nat) := [
  ([112, 117, 115, 104], 1, 0, 1),
  ([108, 111, 97, 100], 2, 0, 1),
  ([115, 116, 111, 114, 101], 2, 1, 0),
  ([112, 111, 112], 0, 1, 0),
  ([100, 117, 112], 0, 1, 2),
  ([115, 119, 97, 112], 0, 2, 2),
  ([97, 100, 100], 0, 2, 1),
  ([115, 117, 98], 0, 2, 1),
  ([109, 117, 108], 0, 2, 1),
  ([100, 105, 118], 0, 2, 1),
  ([114, 101, 109], 0, 2, 1),
  ([101, 113], 0, 2, 1),
  ([108, 116], 0, 2, 1),
  ([110, 111, 116], 0, 1, 1),
  ([106, 117, 109, 112], 3, 0, 0),
  ([105, 102], 3, 1, 0),
  ([99, 97, 108, 108], 4, 0, 1),
  ([114, 101, 116], 0, 1, 0),
  ([116, 104, 114, 111, 119], 0, 1, 0),
  ([116, 114, 121], 3, 0, 0),
  ([101, 110, 100], 0, 0, 0),
  ([106, 111, 105, 110], 0, 2, 1),
  ([109, 101, 101, 116], 0, 2, 1),
  ([102, 108, 111, 119, 115], 0, 2, 1),
  ([99, 117, 114], 0, 0, 1),
  ([99, 108, 114], 0, 0, 1),
  ([114, 97, 105, 115, 101], 0, 1, 0),
  ([108, 111, 119, 101, 114], 0, 1, 0),
  ([98, 111, 120], 0, 2, 1),
  ([111, 112, 101, 110], 0, 1, 1),
  ([108, 97, 98, 111, 102], 0, 1, 1),
  ([114, 101, 102], 0, 2, 1),
  ([103, 101, 116], 0, 1, 1),
  ([115, 101, 116], 0, 2, 0),
  ([118, 97, 114], 0, 1, 1),
  ([116, 97, 107, 101], 0, 1, 1),
  ([112, 117, 116], 0, 2, 0),
  ([102, 111, 114, 107], 4, 3, 1),
  ([119, 97, 105, 116], 0, 1, 1),
  ([115, 99, 111, 112, 101], 4, 4, 1),
  ([111, 117, 116], 0, 2, 0),
  ([100, 114, 111, 112], 0, 1, 0),
  ([108, 105, 102, 116], 0, 1, 0),
  ([108, 101, 115, 115], 5, 0, 0),
  ([103, 97, 116, 101], 4, 1, 1),
  ([101, 110, 116, 101, 114], 0, 2, 1),
  ([111, 119, 110], 0, 0, 1)]
def aRow (c : Int) : List UInt8 × Nat × Nat × Nat := if 1 ≤ c ∧ c ≤ 47 then opRows.getD (c.toNat - 1) ([], 0, 0, 0) else ([], 0, 0, 0)
def aOk (c : Int) : Bool := decide (1 ≤ c ∧ c ≤ 47)
def aName (c : Int) : List UInt8 := (aRow c).1
def aArg (c : Int) : Int := (aRow c).2.1
def aPop (c : Int) : Int := (aRow c).2.2.1
def aPush (c : Int) : Int := (aRow c).2.2.2
def aLast (c : Int) : Bool := c == 15 || c == 18 || c == 19
theorem aOk_true {c : Int} (h : aOk c = true) : 1 ≤ c ∧ c ≤ 47 := by simpa [aOk] using h
theorem aOk_false {c : Int} (h : aOk c = false) : c < 1 ∨ 47 < c := by
  rcases Int.lt_or_le c 1 with h1 | h1
  · exact Or.inl h1
  · rcases Int.lt_or_le 47 c with h2 | h2
    · exact Or.inr h2
    · simp [aOk] at h; omega
theorem aRow_no {c : Int} (h : aOk c = false) : aRow c = ([], 0, 0, 0) := by
  unfold aRow
  rw [if_neg]
  have := aOk_false h
  omega
/-- a fact on all codes: it is enough to look at the forty-seven rows -/
theorem all_codes {p : Int → Prop} [DecidablePred p] (h : ∀ i : Fin 47, p ((i.val + 1 : Nat) : Int)) (c : Int) (hc : aOk c = true) : p c := by
  obtain ⟨h1, h2⟩ := aOk_true hc
  have := h ⟨(c - 1).toNat, by omega⟩
  have e : (((c - 1).toNat + 1 : Nat) : Int) = c := by omega
  simp only [e] at this
  exact this
theorem two_codes {p : Int → Int → Prop} [∀ a b, Decidable (p a b)] (h : ∀ i j : Fin 47, p ((i.val + 1 : Nat) : Int) ((j.val + 1 : Nat) : Int)) (c d : Int) (hc : aOk c = true) (hd : aOk d = true) : p c d := by
  obtain ⟨h1, h2⟩ := aOk_true hc
  obtain ⟨h3, h4⟩ := aOk_true hd
  have := h ⟨(c - 1).toNat, by omega⟩ ⟨(d - 1).toNat, by omega⟩
  have e : (((c - 1).toNat + 1 : Nat) : Int) = c := by omega
  have e2 : (((d - 1).toNat + 1 : Nat) : Int) = d := by omega
  simp only [e, e2] at this
  exact this
theorem name_inj (c d : Int) (hc : aOk c = true) (hd : aOk d = true) (h : aName c = aName d) : c = d :=
  two_codes (p := fun c d => aName c = aName d → c = d) (by decide +kernel) c d hc hd h
theorem name_bytes (c : Int) (hc : aOk c = true) : (∀ x ∈ aName c, 97 ≤ x.toNat ∧ x.toNat ≤ 122) ∧ 1 ≤ (aName c).length ∧ (aName c).length ≤ 5 :=
  all_codes (p := fun c => (∀ x ∈ aName c, 97 ≤ x.toNat ∧ x.toNat ≤ 122) ∧ 1 ≤ (aName c).length ∧ (aName c).length ≤ 5) (by decide +kernel) c hc
theorem arg_range (c : Int) (hc : aOk c = true) : 0 ≤ aArg c ∧ aArg c ≤ 5 ∧ 0 ≤ aPop c ∧ aPop c ≤ 4 ∧ 0 ≤ aPush c ∧ aPush c ≤ 2 ∧ (aLast c = true → aPush c = 0) :=
  all_codes (p := fun c => 0 ≤ aArg c ∧ aArg c ≤ 5 ∧ 0 ≤ aPop c ∧ aPop c ≤ 4 ∧ 0 ≤ aPush c ∧ aPush c ≤ 2 ∧ (aLast c = true → aPush c = 0)) (by decide +kernel) c hc

def rightB (c a : Int) : Bool := aOk c && (if aArg c = 0 then a == 0 else decide (0 ≤ a ∧ a ≤ 65535))
def opSize (c : Int) : Nat := if aArg c = 0 then 1 else 3
def opPut (c a : Int) : List UInt8 :=
  if rightB c a then (if aArg c = 0 then [UInt8.ofNat c.toNat] else [UInt8.ofNat c.toNat, UInt8.ofNat (a.toNat / 256), UInt8.ofNat (a.toNat % 256)]) else []
def opGet (l : List UInt8) (at_ : Int) : Option ((Int × Int) × Int) :=
  if at_ < 0 ∨ (l.length : Int) ≤ at_ then none else
  match l.drop at_.toNat with
  | [] => none
  | c :: r => if aOk (c.toNat : Int) = false then none else if aArg (c.toNat : Int) = 0 then some (((c.toNat : Int), 0), at_ + 1) else
    match r with
    | x :: y :: _ => some (((c.toNat : Int), ((x.toNat * 256 + y.toNat : Nat) : Int)), at_ + 3)
    | _ => none
theorem rightB_true {c a : Int} (h : rightB c a = true) : aOk c = true ∧ (aArg c = 0 → a = 0) ∧ (aArg c ≠ 0 → 0 ≤ a ∧ a ≤ 65535) ∧ 0 ≤ a ∧ a ≤ 65535 := by
  unfold rightB at h
  rw [Bool.and_eq_true] at h
  obtain ⟨h1, h2⟩ := h
  by_cases h0 : aArg c = 0
  · rw [if_pos h0] at h2
    have : a = 0 := by simpa using h2
    exact ⟨h1, fun _ => this, fun h => absurd h0 h, by omega, by omega⟩
  · rw [if_neg h0] at h2
    have : 0 ≤ a ∧ a ≤ 65535 := by simpa using h2
    exact ⟨h1, fun h => absurd h h0, fun _ => this, this.1, this.2⟩
theorem opPut_right {c a : Int} (h : rightB c a = true) : opPut c a = if aArg c = 0 then [UInt8.ofNat c.toNat] else [UInt8.ofNat c.toNat, UInt8.ofNat (a.toNat / 256), UInt8.ofNat (a.toNat % 256)] := by
  unfold opPut
  rw [if_pos h]
theorem opPut_length {c a : Int} (h : rightB c a = true) : (opPut c a).length = opSize c := by
  rw [opPut_right h]
  unfold opSize
  split <;> rfl
theorem opPut_wrong {c a : Int} (h : rightB c a = false) : opPut c a = [] := by
  unfold opPut
  rw [h]
  rfl
theorem opGet_put {c a : Int} (h : rightB c a = true) (x r : List UInt8) : opGet (x ++ opPut c a ++ r) x.length = some ((c, a), (x.length : Int) + (opPut c a).length) := by
  obtain ⟨h1, h2, h3, h4, h5⟩ := rightB_true h
  obtain ⟨k1, k2⟩ := aOk_true h1
  have hl := opPut_length h
  have hpos : 1 ≤ (opPut c a).length := by rw [hl]; unfold opSize; split <;> omega
  unfold opGet
  rw [if_neg (by simp; omega), Int.toNat_natCast, List.append_assoc, List.drop_left, opPut_right h]
  have hc : (UInt8.ofNat c.toNat).toNat = c.toNat := ofNat_toNat8 _ (by omega)
  have hcI : ((UInt8.ofNat c.toNat).toNat : Int) = c := by rw [hc]; omega
  by_cases h0 : aArg c = 0
  · rw [if_pos h0]
    simp only [List.cons_append, hcI]
    rw [if_neg (by rw [h1]; simp), if_pos h0, h2 h0]
    simp
  · rw [if_neg h0]
    simp only [List.cons_append, hcI]
    rw [if_neg (by rw [h1]; simp), if_neg h0]
    have e1 : (UInt8.ofNat (a.toNat / 256)).toNat = a.toNat / 256 := ofNat_toNat8 _ (by omega)
    have e2 : (UInt8.ofNat (a.toNat % 256)).toNat = a.toNat % 256 := ofNat_toNat8 _ (by omega)
    simp only [e1, e2, Option.some.injEq, Prod.mk.injEq, true_and]
    refine ⟨by omega, by simp⟩
theorem opPut_get {l : List UInt8} {at_ c a next : Int} (h : opGet l at_ = some ((c, a), next)) :
    0 ≤ at_ ∧ at_ < next ∧ next ≤ l.length ∧ rightB c a = true ∧ (l.drop at_.toNat).take (opPut c a).length = opPut c a ∧ next = at_ + (opPut c a).length := by
  unfold opGet at h
  split at h
  · simp at h
  · rename_i ha
    have hlen : (l.drop at_.toNat).length = l.length - at_.toNat := List.length_drop
    split at h
    · simp at h
    · rename_i x r hx
      rw [hx, List.length_cons] at hlen
      split at h
      · simp at h
      · rename_i hok
        have hok' : aOk (x.toNat : Int) = true := by simpa using hok
        split at h
        · rename_i h0
          simp only [Option.some.injEq, Prod.mk.injEq] at h
          obtain ⟨⟨rfl, rfl⟩, rfl⟩ := h
          have hr : rightB (x.toNat : Int) 0 = true := by unfold rightB; rw [hok', if_pos h0]; rfl
          have hp : opPut (x.toNat : Int) 0 = [x] := by rw [opPut_right hr, if_pos h0, Int.toNat_natCast, UInt8.ofNat_toNat]
          rw [hp]
          refine ⟨by omega, by omega, by omega, hr, by rw [hx]; rfl, by simp⟩
        · rename_i h0
          split at h
          · rename_i y z r'
            simp only [Option.some.injEq, Prod.mk.injEq] at h
            obtain ⟨⟨rfl, rfl⟩, rfl⟩ := h
            have hy := y.toNat_lt
            have hz := z.toNat_lt
            have hr : rightB (x.toNat : Int) ((y.toNat * 256 + z.toNat : Nat) : Int) = true := by
              unfold rightB
              rw [hok', if_neg h0]
              simp
              omega
            have hp : opPut (x.toNat : Int) ((y.toNat * 256 + z.toNat : Nat) : Int) = [x, y, z] := by
              rw [opPut_right hr, if_neg h0, Int.toNat_natCast, Int.toNat_natCast, UInt8.ofNat_toNat, show (y.toNat * 256 + z.toNat) / 256 = y.toNat by omega, show (y.toNat * 256 + z.toNat) % 256 = z.toNat by omega, UInt8.ofNat_toNat, UInt8.ofNat_toNat]
            simp only [List.length_cons] at hlen
            rw [hp]
            refine ⟨by omega, by omega, by omega, hr, by rw [hx]; rfl, by simp⟩
          · simp at h
theorem opPut_inj {c a d b : Int} (h1 : rightB c a = true) (h2 : rightB d b = true) (h : opPut c a = opPut d b) : c = d ∧ a = b := by
  have k1 := opGet_put h1 [] []
  have k2 := opGet_put h2 [] []
  rw [h, k2] at k1
  simp only [Option.some.injEq, Prod.mk.injEq] at k1
  exact ⟨k1.1.1.symm, k1.1.2.symm⟩

/-! texts -/
def opText (c a : Int) : List UInt8 := if rightB c a then (if aArg c = 0 then aName c else aName c ++ 32 :: Lib.itoa a) else [63]
def findC (w : List UInt8) : Nat := if opRows.any (fun r => r.1 == w) then (opRows.findIdx fun r => r.1 == w) + 1 else 0
def digB (l : List UInt8) : Int := match parseS l with | some n => if 0 ≤ n ∧ n ≤ 65535 then n else 0 | none => 0
/-- what stands ahead of the first blank, and behind it -/
def cutW (l : List UInt8) : List UInt8 := l.takeWhile (· != 32)
def cutD (l : List UInt8) : List UInt8 := (l.dropWhile (· != 32)).tail
def opParse (l : List UInt8) : Option (Int × Int) :=
  if 16 < l.length then none else
  if rightB (findC (cutW l)) (digB (cutD l)) = true ∧ opText (findC (cutW l)) (digB (cutD l)) = l then some ((findC (cutW l) : Int), digB (cutD l)) else none
theorem opText_right {c a : Int} (h : rightB c a = true) : opText c a = if aArg c = 0 then aName c else aName c ++ 32 :: Lib.itoa a := by unfold opText; rw [if_pos h]
theorem findC_name (c : Int) (hc : aOk c = true) : (findC (aName c) : Int) = c :=
  all_codes (p := fun c => (findC (aName c) : Int) = c) (by decide +kernel) c hc
theorem takeWhile_name {l r : List UInt8} (h : ∀ x ∈ l, (x != 32) = true) : (l ++ 32 :: r).takeWhile (· != 32) = l ∧ (l ++ 32 :: r).dropWhile (· != 32) = 32 :: r := by
  induction l with
  | nil => exact ⟨rfl, rfl⟩
  | cons x l ih =>
    have hx := h x (by simp)
    have := ih (fun y hy => h y (by simp [hy]))
    simp only [List.cons_append, List.takeWhile_cons, List.dropWhile_cons, hx, if_true]
    exact ⟨by rw [this.1], this.2⟩
theorem takeWhile_all {l : List UInt8} (h : ∀ x ∈ l, (x != 32) = true) : l.takeWhile (· != 32) = l ∧ l.dropWhile (· != 32) = [] := by
  induction l with
  | nil => exact ⟨rfl, rfl⟩
  | cons x l ih =>
    have hx := h x (by simp)
    have := ih (fun y hy => h y (by simp [hy]))
    simp only [List.takeWhile_cons, List.dropWhile_cons, hx, if_true]
    exact ⟨by rw [this.1], this.2⟩
theorem name_no_blank (c : Int) (hc : aOk c = true) : ∀ x ∈ aName c, (x != 32) = true := by
  intro x hx
  have := (name_bytes c hc).1 x hx
  rw [bne_iff_ne]
  rintro rfl
  have e : (32 : UInt8).toNat = 32 := rfl
  omega
theorem inI64_65535 {a : Int} (h : 0 ≤ a ∧ a ≤ 65535) : InI64 a := by unfold InI64; omega
theorem opText_length {c a : Int} (h : rightB c a = true) : (opText c a).length ≤ 16 ∧ 1 ≤ (opText c a).length := by
  obtain ⟨h1, h2, h3, h4, h5⟩ := rightB_true h
  have hn := name_bytes c h1
  rw [opText_right h]
  split
  · omega
  · have hd : (Lib.itoa a).length ≤ 5 := by
      unfold Lib.itoa
      rw [if_neg (by omega)]
      exact decDigits_len a.toNat 4 (by omega)
    simp
    omega
theorem opParse_text {c a : Int} (h : rightB c a = true) : opParse (opText c a) = some (c, a) := by
  obtain ⟨h1, h2, h3, h4, h5⟩ := rightB_true h
  have hnb := name_no_blank c h1
  have hcut : (findC (cutW (opText c a)) : Int) = c ∧ digB (cutD (opText c a)) = a := by
    unfold cutW cutD
    rw [opText_right h]
    by_cases h0 : aArg c = 0
    · rw [if_pos h0, (takeWhile_all hnb).1, (takeWhile_all hnb).2, findC_name c h1]
      refine ⟨rfl, ?_⟩
      rw [h2 h0]
      rfl
    · rw [if_neg h0, (takeWhile_name hnb).1, (takeWhile_name hnb).2, findC_name c h1]
      refine ⟨rfl, ?_⟩
      unfold digB
      rw [List.tail_cons, parseS_eq _ a (inI64_65535 ⟨h4, h5⟩) rfl]
      simp only
      rw [if_pos ⟨h4, h5⟩]
  unfold opParse
  rw [if_neg (by have := opText_length h; omega), hcut.1, hcut.2, if_pos ⟨h, rfl⟩]
theorem opText_parse {l : List UInt8} {c a : Int} (h : opParse l = some (c, a)) : rightB c a = true ∧ opText c a = l := by
  unfold opParse at h
  split at h
  · simp at h
  · split at h
    · rename_i hh
      simp only [Option.some.injEq, Prod.mk.injEq] at h
      obtain ⟨rfl, rfl⟩ := h
      exact hh
    · simp at h
theorem opText_inj {c a d b : Int} (h1 : rightB c a = true) (h2 : rightB d b = true) (h : opText c a = opText d b) : c = d ∧ a = b := by
  have k1 := opParse_text h1
  have k2 := opParse_text h2
  rw [h, k2] at k1
  simp only [Option.some.injEq, Prod.mk.injEq] at k1
  exact ⟨k1.1.symm, k1.2.symm⟩
end Go.Proofs.YtiggallcoocdaaaGreatDoor
/- Programs as bytes: what the code computes, and what follows; no program in sight. -/
namespace Go.Proofs.YtiggallcoocdaaaGreatDoor
/-- a reader g of what put lays, where it may be laid -/
structure Codec {α : Type} (g : List UInt8 → Option (α × Nat)) (put : α → List UInt8) (ok : α → Prop) : Prop where
  fwd : ∀ x, ok x → ∀ t, g (put x ++ t) = some (x, (put x).length)
  bwd : ∀ l x k, g l = some (x, k) → ok x ∧ k ≤ l.length ∧ put x = l.take k
/-- so many, one behind the other -/
def many {α : Type} (g : List UInt8 → Option (α × Nat)) : Nat → List UInt8 → Option (List α × Nat)
  | 0, _ => some ([], 0)
  | n + 1, l => match g l with
    | none => none
    | some (x, k) => match many g n (l.drop k) with
      | none => none
      | some (xs, m) => some (x :: xs, k + m)
/-- one thing and then another one that the first one tells -/
def andThen {α β : Type} (g : List UInt8 → Option (α × Nat)) (h : α → List UInt8 → Option (β × Nat)) (l : List UInt8) : Option ((α × β) × Nat) := match g l with
  | none => none
  | some (x, k) => match h x (l.drop k) with
    | none => none
    | some (y, m) => some ((x, y), k + m)
theorem andThen_fwd {α β : Type} {g : List UInt8 → Option (α × Nat)} {h : α → List UInt8 → Option (β × Nat)} {p q : List UInt8} {x : α} {y : β} (hg : ∀ t, g (p ++ t) = some (x, p.length)) (hh : ∀ t, h x (q ++ t) = some (y, q.length)) (t : List UInt8) :
    andThen g h (p ++ q ++ t) = some ((x, y), (p ++ q).length) := by
  unfold andThen
  rw [List.append_assoc, hg]
  simp only [List.drop_left]
  rw [hh]
  simp
theorem andThen_bwd {α β : Type} {g : List UInt8 → Option (α × Nat)} {h : α → List UInt8 → Option (β × Nat)} {l : List UInt8} {x : α} {y : β} {k : Nat} (e : andThen g h l = some ((x, y), k)) :
    ∃ a b, g l = some (x, a) ∧ h x (l.drop a) = some (y, b) ∧ k = a + b := by
  unfold andThen at e
  cases hg : g l with
  | none => rw [hg] at e; cases e
  | some p =>
    obtain ⟨x', a⟩ := p
    rw [hg] at e
    simp only at e
    cases hh : h x' (l.drop a) with
    | none => rw [hh] at e; cases e
    | some q =>
      obtain ⟨y', b⟩ := q
      rw [hh] at e
      simp only [Option.some.injEq, Prod.mk.injEq] at e
      obtain ⟨⟨rfl, rfl⟩, rfl⟩ := e
      exact ⟨a, b, rfl, hh, rfl⟩
section
variable {α : Type} {g : List UInt8 → Option (α × Nat)} {put : α → List UInt8} {ok : α → Prop}
theorem many_fwd (h : Codec g put ok) : ∀ (xs : List α), (∀ x ∈ xs, ok x) → ∀ t, many g xs.length (xs.flatMap put ++ t) = some (xs, (xs.flatMap put).length)
  | [], _, t => rfl
  | x :: xs, hx, t => by
    rw [List.length_cons, many, List.flatMap_cons, List.append_assoc, h.fwd x (hx x (by simp))]
    simp only [List.drop_left]
    rw [many_fwd h xs (fun y hy => hx y (by simp [hy])) t]
    simp
theorem many_bwd (h : Codec g put ok) : ∀ (n : Nat) (l : List UInt8) (xs : List α) (k : Nat), many g n l = some (xs, k) → xs.length = n ∧ (∀ x ∈ xs, ok x) ∧ k ≤ l.length ∧ xs.flatMap put = l.take k
  | 0, l, xs, k, e => by
    simp only [many, Option.some.injEq, Prod.mk.injEq] at e
    obtain ⟨rfl, rfl⟩ := e
    simp
  | n + 1, l, xs, k, e => by
    rw [many] at e
    cases hg : g l with
    | none => rw [hg] at e; cases e
    | some p =>
      obtain ⟨x, a⟩ := p
      rw [hg] at e
      simp only at e
      cases hm : many g n (l.drop a) with
      | none => rw [hm] at e; cases e
      | some q =>
        obtain ⟨ys, b⟩ := q
        rw [hm] at e
        simp only [Option.some.injEq, Prod.mk.injEq] at e
        obtain ⟨rfl, rfl⟩ := e
        obtain ⟨h1, h2, h3⟩ := h.bwd l x a hg
        obtain ⟨i1, i2, i3, i4⟩ := many_bwd h n (l.drop a) ys b hm
        rw [List.length_drop] at i3
        refine ⟨by simp [i1], ?_, by omega, ?_⟩
        · intro y hy
          rcases List.mem_cons.1 hy with rfl | hy
          · exact h1
          · exact i2 y hy
        · rw [List.flatMap_cons, h3, i4, List.take_add]
/-- one more behind those that were read -/
theorem many_snoc : ∀ (n : Nat) (l : List UInt8) (xs : List α) (k : Nat) (x : α) (j : Nat), many g n l = some (xs, k) → g (l.drop k) = some (x, j) → many g (n + 1) l = some (xs ++ [x], k + j)
  | 0, l, xs, k, x, j, e, e2 => by
    simp only [many, Option.some.injEq, Prod.mk.injEq] at e
    obtain ⟨rfl, rfl⟩ := e
    rw [List.drop_zero] at e2
    rw [many, e2]
    simp [many]
  | n + 1, l, xs, k, x, j, e, e2 => by
    rw [many] at e ⊢
    cases hg : g l with
    | none => rw [hg] at e; cases e
    | some p =>
      obtain ⟨y, a⟩ := p
      rw [hg] at e
      simp only at e ⊢
      cases hm : many g n (l.drop a) with
      | none => rw [hm] at e; cases e
      | some q =>
        obtain ⟨ys, b⟩ := q
        rw [hm] at e
        simp only [Option.some.injEq, Prod.mk.injEq] at e
        obtain ⟨rfl, rfl⟩ := e
        have e3 : g ((l.drop a).drop b) = some (x, j) := by rw [List.drop_drop]; exact e2
        rw [many_snoc n (l.drop a) ys b x j hm e3]
        simp only [List.cons_append, Nat.add_assoc]
theorem many_stop : ∀ (n m : Nat) (l : List UInt8) (xs : List α) (k : Nat), n < m → many g n l = some (xs, k) → g (l.drop k) = none → many g m l = none
  | 0, 0, _, _, _, h, _, _ => by omega
  | 0, m + 1, l, xs, k, _, e, e2 => by
    simp only [many, Option.some.injEq, Prod.mk.injEq] at e
    obtain ⟨rfl, rfl⟩ := e
    rw [List.drop_zero] at e2
    rw [many, e2]
  | n + 1, 0, _, _, _, h, _, _ => by omega
  | n + 1, m + 1, l, xs, k, h, e, e2 => by
    rw [many] at e ⊢
    cases hg : g l with
    | none => rfl
    | some p =>
      obtain ⟨y, a⟩ := p
      rw [hg] at e
      simp only at e ⊢
      cases hm : many g n (l.drop a) with
      | none => rw [hm] at e; cases e
      | some q =>
        obtain ⟨ys, b⟩ := q
        rw [hm] at e
        simp only [Option.some.injEq, Prod.mk.injEq] at e
        obtain ⟨rfl, rfl⟩ := e
        have e3 : g ((l.drop a).drop b) = none := by rw [List.drop_drop]; exact e2
        rw [many_stop n m (l.drop a) ys b (by omega) hm e3]
end
/-! the parts -/
def oct : List UInt8 → Option (Nat × Nat)
  | [] => none
  | c :: _ => some (c.toNat, 1)
def twoB (l : List UInt8) : Option (Nat × Nat) := match oct l with
  | none => none
  | some (h, _) => match oct (l.drop 1) with
    | none => none
    | some (x, _) => some (h * 256 + x, 2)
def listP {α : Type} (c : List UInt8 → Option (Nat × Nat)) (g : List UInt8 → Option (α × Nat)) (l : List UInt8) : Option (List α × Nat) := (andThen c (fun n => many g n) l).map fun p => (p.1.2, p.2)
def byte (n : Nat) : List UInt8 := [UInt8.ofNat n]
def bytes2 (n : Nat) : List UInt8 := [UInt8.ofNat (n / 256), UInt8.ofNat (n % 256)]
theorem oct_codec : Codec oct byte (· < 256) := by
  refine ⟨fun x hx t => ?_, fun l x k h => ?_⟩
  · have hx : x < 256 := hx
    show some ((UInt8.ofNat x).toNat, 1) = _
    rw [UInt8.toNat_ofNat', Nat.mod_eq_of_lt hx]
    rfl
  · cases l with
    | nil => cases h
    | cons c l =>
      simp only [oct, Option.some.injEq, Prod.mk.injEq] at h
      obtain ⟨rfl, rfl⟩ := h
      refine ⟨UInt8.toNat_lt c, by simp, ?_⟩
      show [UInt8.ofNat c.toNat] = _
      rw [UInt8.ofNat_toNat]
      rfl
theorem two_codec : Codec twoB bytes2 (· < 65536) := by
  refine ⟨fun x hx t => ?_, fun l x k h => ?_⟩
  · have hx : x < 65536 := hx
    unfold twoB bytes2
    simp only [List.cons_append, oct, List.drop_succ_cons, List.drop_zero, UInt8.toNat_ofNat']
    rw [Nat.mod_eq_of_lt (show x / 256 < 2 ^ 8 by omega), Nat.mod_eq_of_lt (show x % 256 < 2 ^ 8 by omega), show x / 256 * 256 + x % 256 = x by omega]
    rfl
  · unfold twoB at h
    match l, h with
    | [], h => cases h
    | [c], h => simp [oct] at h
    | c :: d :: l, h =>
      simp only [oct, List.drop_succ_cons, List.drop_zero, Option.some.injEq, Prod.mk.injEq] at h
      obtain ⟨rfl, rfl⟩ := h
      have hc := UInt8.toNat_lt c
      have hd := UInt8.toNat_lt d
      refine ⟨by omega, by simp, ?_⟩
      unfold bytes2
      rw [show (c.toNat * 256 + d.toNat) / 256 = c.toNat by omega, show (c.toNat * 256 + d.toNat) % 256 = d.toNat by omega, UInt8.ofNat_toNat, UInt8.ofNat_toNat]
      rfl
theorem list_codec {α : Type} {c : List UInt8 → Option (Nat × Nat)} {pc : Nat → List UInt8} {okc : Nat → Prop} {g : List UInt8 → Option (α × Nat)} {put : α → List UInt8} {ok : α → Prop} (hc : Codec c pc okc) (hg : Codec g put ok) :
    Codec (listP c g) (fun xs => pc xs.length ++ xs.flatMap put) (fun xs => okc xs.length ∧ ∀ x ∈ xs, ok x) := by
  refine ⟨fun xs hx t => ?_, fun l xs k h => ?_⟩
  · unfold listP
    rw [andThen_fwd (hc.fwd xs.length hx.1) (many_fwd hg xs hx.2) t]
    rfl
  · unfold listP at h
    obtain ⟨⟨⟨n, ys⟩, m⟩, h1, h2⟩ := Option.map_eq_some_iff.1 h
    simp only [Prod.mk.injEq] at h2
    obtain ⟨rfl, rfl⟩ := h2
    obtain ⟨a, b, e1, e2, rfl⟩ := andThen_bwd h1
    obtain ⟨i1, i2, i3⟩ := hc.bwd _ _ _ e1
    obtain ⟨j1, j2, j3, j4⟩ := many_bwd hg _ _ _ _ e2
    rw [List.length_drop] at j3
    subst j1
    exact ⟨⟨i1, j2⟩, by omega, by rw [i3, j4, List.take_add]⟩
/-! instructions -/
def opP (l : List UInt8) : Option ((Int × Int) × Nat) := (opGet l 0).map fun p => (p.1, p.2.toNat)
def putO (o : Int × Int) : List UInt8 := opPut o.1 o.2
def rightO (o : Int × Int) : Bool := rightB o.1 o.2
theorem op_codec : Codec opP putO (fun o => rightO o = true) := by
  refine ⟨fun x hx t => ?_, fun l x k h => ?_⟩
  · obtain ⟨c, a⟩ := x
    have := opGet_put hx [] t
    unfold opP putO
    simp only [List.nil_append, List.length_nil] at this ⊢
    rw [show ((0 : Nat) : Int) = 0 from rfl] at this
    rw [this]
    simp
  · unfold opP at h
    obtain ⟨⟨⟨c, a⟩, m⟩, h1, h2⟩ := Option.map_eq_some_iff.1 h
    simp only [Prod.mk.injEq] at h2
    obtain ⟨rfl, rfl⟩ := h2
    obtain ⟨h1, h2, h3, h4, h5, h6⟩ := opPut_get h1
    have e : m.toNat = (opPut c a).length := by omega
    refine ⟨h4, by omega, ?_⟩
    rw [e]
    exact h5.symm
theorem opGet_shift (l : List UInt8) (a : Nat) : opGet l a = (opP (l.drop a)).map fun p => (p.1, (a : Int) + p.2) := by
  unfold opP opGet
  by_cases h : l.length ≤ a
  · rw [if_pos (by omega), if_pos (by rw [List.length_drop]; omega)]
    rfl
  · rw [if_neg (by omega), if_neg (by rw [List.length_drop]; omega)]
    have e1 : (a : Int).toNat = a := Int.toNat_natCast a
    have e2 : ((0 : Int)).toNat = 0 := rfl
    rw [e1, e2, List.drop_zero]
    cases l.drop a with
    | nil => rfl
    | cons c r =>
      simp only
      by_cases h1 : aOk (c.toNat : Int) = false
      · rw [if_pos h1, if_pos h1]; rfl
      · rw [if_neg h1, if_neg h1]
        by_cases h2 : aArg (c.toNat : Int) = 0
        · rw [if_pos h2, if_pos h2]; simp
        · rw [if_neg h2, if_neg h2]
          match r with
          | [] => rfl
          | [_] => rfl
          | x :: y :: r => simp
theorem opP_some {l : List UInt8} {o : Int × Int} {k : Nat} (h : opP l = some (o, k)) : k ≤ l.length := (op_codec.bwd l o k h).2.1
/-! functions -/
structure Fn where
  a : Int
  v : Int
  c : List (Int × Int)
structure Im where
  cs : List Vl
  fs : List Fn
def rawV : List UInt8 → Option (Vl × Nat) := getV
theorem val_codec : Codec rawV Vl.put (fun v => v.right = true ∧ InI64 v.n) := by
  refine ⟨fun x hx t => getV_put hx.1 hx.2 t, fun l x k h => ?_⟩
  obtain ⟨h1, h2, h3, h4, h5⟩ := getV_some h
  exact ⟨⟨h1, h2⟩, h3, h4⟩
def putCode (c : List (Int × Int)) : List UInt8 := bytes2 c.length ++ c.flatMap putO
def codeP : List UInt8 → Option (List (Int × Int) × Nat) := listP twoB opP
theorem code_codec : Codec codeP putCode (fun c => c.length < 65536 ∧ ∀ o ∈ c, rightO o = true) := list_codec two_codec op_codec
def Fn.put (f : Fn) : List UInt8 := UInt8.ofNat f.a.toNat :: UInt8.ofNat f.v.toNat :: putCode f.c
def fnP (l : List UInt8) : Option (Fn × Nat) := (andThen oct (fun _ => andThen oct (fun _ => codeP)) l).map fun p => (⟨(p.1.1 : Int), (p.1.2.1 : Int), p.1.2.2⟩, p.2)
def Fn.may (f : Fn) : Prop := 0 ≤ f.a ∧ f.a < 256 ∧ 0 ≤ f.v ∧ f.v < 256 ∧ f.c.length < 65536 ∧ ∀ o ∈ f.c, rightO o = true
theorem fn_codec : Codec fnP Fn.put Fn.may := by
  refine ⟨fun x hx t => ?_, fun l x k h => ?_⟩
  · obtain ⟨a, v, c⟩ := x
    obtain ⟨h1, h2, h3, h4, h5, h6⟩ := hx
    simp only at h1 h2 h3 h4 h5 h6
    have e := andThen_fwd (g := oct) (h := fun _ => andThen oct (fun _ => codeP)) (oct_codec.fwd a.toNat (by omega)) (fun t => andThen_fwd (h := fun _ => codeP) (oct_codec.fwd v.toNat (by omega)) (fun t => code_codec.fwd c ⟨h5, h6⟩ t) t) t
    unfold fnP
    have e2 : Fn.put ⟨a, v, c⟩ = byte a.toNat ++ (byte v.toNat ++ putCode c) := rfl
    rw [e2, e]
    simp only [Option.map_some, Option.some.injEq, Prod.mk.injEq, Fn.mk.injEq, and_true]
    omega
  · unfold fnP at h
    obtain ⟨⟨⟨a, v, c⟩, m⟩, h1, h2⟩ := Option.map_eq_some_iff.1 h
    simp only [Prod.mk.injEq] at h2
    obtain ⟨rfl, rfl⟩ := h2
    obtain ⟨p, q, e1, e2, rfl⟩ := andThen_bwd h1
    obtain ⟨r, s, e3, e4, rfl⟩ := andThen_bwd e2
    obtain ⟨i1, i2, i3⟩ := oct_codec.bwd _ _ _ e1
    obtain ⟨j1, j2, j3⟩ := oct_codec.bwd _ _ _ e3
    obtain ⟨k1, k2, k3⟩ := code_codec.bwd _ _ _ e4
    rw [List.length_drop] at j2 k2
    rw [List.length_drop] at k2
    refine ⟨⟨by simp only []; omega, by simp only []; omega, by simp only []; omega, by simp only []; omega, k1.1, k1.2⟩, by omega, ?_⟩
    have e5 : Fn.put ⟨(a : Int), (v : Int), c⟩ = byte a ++ (byte v ++ putCode c) := by
      unfold Fn.put byte
      rw [Int.toNat_natCast, Int.toNat_natCast]
      rfl
    rw [e5, i3, j3, k3, List.take_add, List.take_add, List.drop_drop]
/-! programs -/
def Im.put (im : Im) : List UInt8 := UInt8.ofNat im.cs.length :: (im.cs.flatMap Vl.put ++ UInt8.ofNat im.fs.length :: im.fs.flatMap Fn.put)
def constsP : List UInt8 → Option (List Vl × Nat) := listP oct rawV
def funsP : List UInt8 → Option (List Fn × Nat) := listP oct fnP
def imP (l : List UInt8) : Option (Im × Nat) := (andThen constsP (fun _ => funsP) l).map fun p => (⟨p.1.1, p.1.2⟩, p.2)
def Im.may (im : Im) : Prop := (im.cs.length < 256 ∧ ∀ v ∈ im.cs, v.right = true ∧ InI64 v.n) ∧ im.fs.length < 256 ∧ ∀ f ∈ im.fs, f.may
theorem consts_codec : Codec constsP (fun xs => byte xs.length ++ xs.flatMap Vl.put) (fun xs => xs.length < 256 ∧ ∀ v ∈ xs, v.right = true ∧ InI64 v.n) := list_codec oct_codec val_codec
theorem funs_codec : Codec funsP (fun xs => byte xs.length ++ xs.flatMap Fn.put) (fun xs => xs.length < 256 ∧ ∀ f ∈ xs, f.may) := list_codec oct_codec fn_codec
theorem im_codec : Codec imP Im.put Im.may := by
  refine ⟨fun x hx t => ?_, fun l x k h => ?_⟩
  · obtain ⟨cs, fs⟩ := x
    have e := andThen_fwd (g := constsP) (h := fun _ => funsP) (consts_codec.fwd cs hx.1) (funs_codec.fwd fs hx.2) t
    unfold imP
    have e2 : Im.put ⟨cs, fs⟩ = (byte cs.length ++ cs.flatMap Vl.put) ++ (byte fs.length ++ fs.flatMap Fn.put) := rfl
    rw [e2, e]
    rfl
  · unfold imP at h
    obtain ⟨⟨⟨cs, fs⟩, m⟩, h1, h2⟩ := Option.map_eq_some_iff.1 h
    simp only [Prod.mk.injEq] at h2
    obtain ⟨rfl, rfl⟩ := h2
    obtain ⟨p, q, e1, e2, rfl⟩ := andThen_bwd h1
    obtain ⟨i1, i2, i3⟩ := consts_codec.bwd _ _ _ e1
    obtain ⟨j1, j2, j3⟩ := funs_codec.bwd _ _ _ e2
    rw [List.length_drop] at j2
    refine ⟨⟨i1, j1⟩, by omega, ?_⟩
    have e2 : Im.put ⟨cs, fs⟩ = (byte cs.length ++ cs.flatMap Vl.put) ++ (byte fs.length ++ fs.flatMap Fn.put) := rfl
    rw [e2]
    rw [i3, j3, List.take_add]
/-! what may run -/
def Fn.check (f : Fn) : Int :=
  if f.a < 0 ∨ 16 < f.a ∨ f.v < 0 ∨ 16 < f.v ∨ 16 < f.a + f.v then 1
  else if f.c.length = 0 then 6 else if 256 < f.c.length then 3
  else if f.c.all rightO = true then 0 else 2
def Vl.const (v : Vl) : Bool := (v.k == 1 || v.k == 2) && v.right
def firstE : List Fn → Int
  | [] => 0
  | f :: l => if f.check = 0 then firstE l else f.check
def Im.check (im : Im) : Int :=
  if 64 < im.cs.length ∨ 16 < im.fs.length then 3
  else if im.cs.all Vl.const = true then (if im.fs.length = 0 then 6 else firstE im.fs) else 5
def Im.put0 (im : Im) : List UInt8 := if im.check = 0 then im.put else []
def getIm (l : List UInt8) : Option Im := match imP l with
  | none => none
  | some (im, k) => if k = l.length ∧ im.check = 0 then some im else none
theorem firstE_zero : ∀ {l : List Fn}, firstE l = 0 → ∀ f ∈ l, f.check = 0
  | [], _, f, hf => by simp at hf
  | g :: l, h, f, hf => by
    rw [firstE] at h
    by_cases hg : g.check = 0
    · rw [if_pos hg] at h
      rcases List.mem_cons.1 hf with rfl | hf
      · exact hg
      · exact firstE_zero h f hf
    · rw [if_neg hg] at h
      exact absurd h hg
theorem Fn.check_zero {f : Fn} (h : f.check = 0) : 0 ≤ f.a ∧ f.a ≤ 16 ∧ 0 ≤ f.v ∧ f.v ≤ 16 ∧ f.a + f.v ≤ 16 ∧ 0 < f.c.length ∧ f.c.length ≤ 256 ∧ ∀ o ∈ f.c, rightO o = true := by
  unfold Fn.check at h
  split at h
  · omega
  · split at h
    · omega
    · split at h
      · omega
      · split at h
        · rename_i h4
          refine ⟨by omega, by omega, by omega, by omega, by omega, by omega, by omega, List.all_eq_true.1 h4⟩
        · omega
theorem Im.check_zero {im : Im} (h : im.check = 0) : im.cs.length ≤ 64 ∧ im.fs.length ≤ 16 ∧ 0 < im.fs.length ∧ (∀ v ∈ im.cs, v.const = true) ∧ ∀ f ∈ im.fs, f.check = 0 := by
  unfold Im.check at h
  split at h
  · omega
  · split at h
    · rename_i h2
      split at h
      · omega
      · exact ⟨by omega, by omega, by omega, List.all_eq_true.1 h2, firstE_zero h⟩
    · omega
theorem Im.check_may {im : Im} (h : im.check = 0) (hn : ∀ v ∈ im.cs, InI64 v.n) : im.may := by
  obtain ⟨h1, h2, h3, h4, h5⟩ := Im.check_zero h
  refine ⟨⟨by omega, fun v hv => ⟨?_, hn v hv⟩⟩, by omega, fun f hf => ?_⟩
  · have := h4 v hv
    unfold Vl.const at this
    simp only [Bool.and_eq_true] at this
    exact this.2
  · obtain ⟨k1, k2, k3, k4, k5, k6, k7, k8⟩ := Fn.check_zero (h5 f hf)
    exact ⟨k1, by omega, k3, by omega, by omega, k8⟩
theorem get_put {im : Im} (h : im.check = 0) (hn : ∀ v ∈ im.cs, InI64 v.n) : getIm im.put = some im := by
  have e := im_codec.fwd im (Im.check_may h hn) []
  rw [List.append_nil] at e
  unfold getIm
  rw [e]
  simp only
  rw [if_pos ⟨trivial, h⟩]
theorem get_some {l : List UInt8} {im : Im} (h : getIm l = some im) : im.check = 0 ∧ im.put = l ∧ im.may ∧ imP l = some (im, l.length) := by
  unfold getIm at h
  cases hp : imP l with
  | none => rw [hp] at h; cases h
  | some p =>
    obtain ⟨im', k⟩ := p
    rw [hp] at h
    simp only at h
    by_cases hc : k = l.length ∧ im'.check = 0
    · rw [if_pos hc] at h
      cases h
      obtain ⟨h1, h2, h3⟩ := im_codec.bwd _ _ _ hp
      refine ⟨hc.2, ?_, h1, by rw [hc.1]⟩
      rw [h3, hc.1, List.take_length]
    · rw [if_neg hc] at h
      cases h
theorem put_len_pos (im : Im) : 0 < im.put.length := by unfold Im.put; simp
theorem get_long {l : List UInt8} {im : Im} (h : getIm l = some im) (x : UInt8) : getIm (l ++ [x]) = none := by
  obtain ⟨h1, h2, h3, h4⟩ := get_some h
  have e := im_codec.fwd im h3 [x]
  rw [h2] at e
  unfold getIm
  rw [e]
  simp only
  rw [if_neg]
  simp
theorem get_short {l : List UInt8} {im : Im} (h : getIm l = some im) : getIm (l.take (l.length - 1)) = none := by
  cases hg : getIm (l.take (l.length - 1)) with
  | none => rfl
  | some im' =>
    obtain ⟨h1, h2, h3, h4⟩ := get_some h
    obtain ⟨k1, k2, k3, k4⟩ := get_some hg
    have e := im_codec.fwd im' k3 (l.drop (l.length - 1))
    rw [k2, List.take_append_drop, h4] at e
    simp only [Option.some.injEq, Prod.mk.injEq] at e
    have := put_len_pos im
    rw [h2] at this
    rw [List.length_take] at e
    omega
theorem get_nil : getIm [] = none := rfl
theorem Im.put_inj {im im' : Im} (h : im.check = 0) (hn : ∀ v ∈ im.cs, InI64 v.n) (h' : im'.check = 0) (hn' : ∀ v ∈ im'.cs, InI64 v.n) (e : im.put = im'.put) : im = im' := by
  have e1 := get_put h hn
  rw [e, get_put h' hn'] at e1
  cases e1
  rfl
theorem flatMap_len_le {α : Type} (f : α → List UInt8) (B : Nat) : ∀ (l : List α), (∀ x ∈ l, (f x).length ≤ B) → (l.flatMap f).length ≤ l.length * B
  | [], _ => by simp
  | x :: l, h => by
    rw [List.flatMap_cons, List.length_append, List.length_cons, Nat.add_mul]
    have := h x (by simp)
    have := flatMap_len_le f B l (fun y hy => h y (by simp [hy]))
    omega
theorem putO_length (o : Int × Int) : (putO o).length ≤ 3 := by
  unfold putO opPut
  split
  · split <;> simp
  · simp
theorem Fn.put_length {f : Fn} (h : f.check = 0) : f.put.length ≤ 772 := by
  obtain ⟨k1, k2, k3, k4, k5, k6, k7, k8⟩ := Fn.check_zero h
  have := flatMap_len_le putO 3 f.c (fun o _ => putO_length o)
  unfold Fn.put putCode bytes2
  simp only [List.length_cons, List.length_append, List.length_nil]
  omega
end Go.Proofs.YtiggallcoocdaaaGreatDoor
