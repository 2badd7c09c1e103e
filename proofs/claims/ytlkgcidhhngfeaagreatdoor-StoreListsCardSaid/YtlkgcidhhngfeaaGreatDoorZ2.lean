/- NumTextSpec, NameSpec: joined into one text; each part says below what it holds. -/
import Derived.Lib.ItoaNum
import Derived.Lib.ParseIntB
import Derived.Test.YtlkgcidhhngfeaaGreatDoorZ1
import Derived.Lib.Bytealg
/- num's digits, as plain functions: what is shown is parsed, and as the same. No program is in sight. -/
namespace Go.Proofs.YtlkgcidhhngfeaaGreatDoor
open Go.RowKit
def parseS (l : List UInt8) : Option Int := match Lib.parseIntB 64 l with | .ok v => if Lib.itoa v = l then some v else none | _ => none
def isDig (c : UInt8) : Prop := 48 ≤ c.toNat ∧ c.toNat ≤ 57
theorem dig_ofNat (d : Nat) (h : d < 10) : (UInt8.ofNat (48 + d)).toNat = 48 + d := ofNat_toNat8 _ (by omega)
theorem decDigits_dig (u : Nat) : ∀ c ∈ Lib.decDigits u, isDig c := by
  induction u using Nat.strongRecOn with
  | _ u ih =>
    rw [Lib.decDigits]
    split
    · intro c hc
      rw [List.mem_singleton] at hc
      subst hc
      unfold isDig
      rw [dig_ofNat u (by omega)]
      omega
    · intro c hc
      rcases List.mem_append.1 hc with hc | hc
      · exact ih (u / 10) (by omega) c hc
      · rw [List.mem_singleton] at hc
        subst hc
        unfold isDig
        rw [dig_ofNat (u % 10) (by omega)]
        omega
theorem decDigits_ne (u : Nat) : Lib.decDigits u ≠ [] := by
  rw [Lib.decDigits]
  split <;> simp
theorem parseUintM_snoc (M : Nat) : ∀ (l : List UInt8) (acc v : Nat) (c : UInt8), Lib.parseUintM M acc l = .ok v → Lib.parseUintM M acc (l ++ [c]) = Lib.parseUintM M v [c] := by
  intro l
  induction l with
  | nil =>
    intro acc v c h
    simp only [Lib.parseUintM, Lib.NumEnd.ok.injEq] at h
    subst h
    rfl
  | cons x r ih =>
    intro acc v c h
    rw [Lib.parseUintM] at h
    split at h
    · split at h
      · simp at h
      · split at h
        · simp at h
        · rename_i h1 h2 h3
          rw [List.cons_append, Lib.parseUintM, if_pos h1, if_neg h2, if_neg h3]
          exact ih _ _ _ h
    · simp at h
theorem parseUintM_one (M acc d : Nat) (hd : d < 10) (h1 : acc < 1844674407370955162) (h2 : acc * 10 + d ≤ M) : Lib.parseUintM M acc [UInt8.ofNat (48 + d)] = .ok (acc * 10 + d) := by
  have e := dig_ofNat d hd
  rw [Lib.parseUintM, if_pos (by rw [e]; omega), if_neg (by omega), if_neg (by rw [e]; omega), Lib.parseUintM, e]
  congr 2
  omega
theorem parseUintM_decDigits (u : Nat) (h : u ≤ 18446744073709551615) : Lib.parseUintM 18446744073709551615 0 (Lib.decDigits u) = .ok u := by
  induction u using Nat.strongRecOn with
  | _ u ih =>
    rw [Lib.decDigits]
    split
    · rename_i h1
      have := parseUintM_one 18446744073709551615 0 u h1 (by omega) (by omega)
      rw [this]
      congr 1
      omega
    · rw [parseUintM_snoc _ _ _ _ _ (ih (u / 10) (by omega) (by omega)), parseUintM_one _ _ _ (by omega) (by omega) (by omega)]
      congr 1
      omega
theorem parseUintB_decDigits (u : Nat) (h : u ≤ 18446744073709551615) : Lib.parseUintB 64 (Lib.decDigits u) = .ok u := by
  rw [Lib.parseUintB, if_neg (decDigits_ne u)]
  exact parseUintM_decDigits u h
theorem parseIntB_itoa (n : Int) (h : InI64 n) : Lib.parseIntB 64 (Lib.itoa n) = .ok n := by
  obtain ⟨h1, h2⟩ := h
  unfold Lib.itoa
  split
  · rename_i hn
    have h45 : (45 : UInt8).toNat = 45 := rfl
    rw [Lib.parseIntB]
    simp only [h45, Nat.reduceEqDiff, or_true, if_true, not_true_eq_false, false_and, if_false, true_and]
    rw [parseUintB_decDigits _ (by omega)]
    simp only
    rw [if_neg (by omega)]
    congr 1
    omega
  · rename_i hn
    have hne := decDigits_ne n.toNat
    match hl : Lib.decDigits n.toNat with
    | [] => exact absurd hl hne
    | c :: r =>
      have hc := decDigits_dig n.toNat c (by rw [hl]; simp)
      unfold isDig at hc
      have h43 : ¬ (c.toNat = 43) := by omega
      have h45 : ¬ (c.toNat = 45) := by omega
      rw [Lib.parseIntB]
      simp only [h43, h45, or_self, if_false, not_false_eq_true, true_and, false_and]
      rw [← hl, parseUintB_decDigits _ (by omega)]
      simp only
      rw [if_neg (by omega)]
      congr 1
      omega
theorem parseIntB_in (l : List UInt8) (v : Int) (h : Lib.parseIntB 64 l = .ok v) : InI64 v := by
  unfold InI64
  match l, h with
  | [], h => simp [Lib.parseIntB] at h
  | c :: r, h =>
    rw [Lib.parseIntB] at h
    split at h
    · simp at h
    · simp at h
    · rename_i u hu
      split at h
      · simp at h
      · split at h
        · simp at h
        · rename_i g1 g2
          simp only [Lib.NumEnd.ok.injEq] at h
          subst h
          split <;> omega
theorem parseS_eq (l : List UInt8) (n : Int) (h : InI64 n) (hl : Lib.itoa n = l) : parseS l = some n := by
  subst hl
  unfold parseS
  rw [parseIntB_itoa n h]
  simp
theorem parseS_some (l : List UInt8) (n : Int) (h : parseS l = some n) : InI64 n ∧ Lib.itoa n = l := by
  unfold parseS at h
  split at h
  · rename_i v hv
    split at h
    · rename_i hl
      simp only [Option.some.injEq] at h
      subst h
      exact ⟨parseIntB_in l v hv, hl⟩
    · simp at h
  · simp at h
theorem parseS_none (l : List UInt8) (h : ∀ n, InI64 n → Lib.itoa n ≠ l) : parseS l = none := by
  match hp : parseS l with
  | none => rfl
  | some n => exact absurd (parseS_some l n hp).2 (h n (parseS_some l n hp).1)
theorem itoa_inj {a b : Int} (ha : InI64 a) (hb : InI64 b) (h : Lib.itoa a = Lib.itoa b) : a = b := by
  have h1 := parseS_eq _ a ha rfl
  rw [h, parseS_eq _ b hb rfl] at h1
  exact (Option.some.inj h1).symm
theorem decDigits_len (u : Nat) (k : Nat) (h : u < 10 ^ (k + 1)) : (Lib.decDigits u).length ≤ k + 1 := by
  induction k generalizing u with
  | zero =>
    rw [Lib.decDigits, dif_pos (by simpa using h)]
    simp
  | succ k ih =>
    rw [Lib.decDigits]
    split
    · simp
    · have := ih (u / 10) (by rw [Nat.pow_succ] at h; omega)
      simp
      omega
theorem itoa_len (n : Int) (h : InI64 n) : (Lib.itoa n).length ≤ 20 := by
  obtain ⟨h1, h2⟩ := h
  unfold Lib.itoa
  split
  · have := decDigits_len n.natAbs 18 (by omega)
    simp
    omega
  · have := decDigits_len n.toNat 18 (by omega)
    omega
theorem itoa_ne (n : Int) : Lib.itoa n ≠ [] := by
  unfold Lib.itoa
  split
  · simp
  · exact decDigits_ne _
/-- what the reference reads: the number of the digits, a sign ahead passed over -/
def dval (acc : Nat) (l : List UInt8) : Nat := l.foldl (fun a c => a * 10 + (c.toNat - 48)) acc
theorem dval_snoc (acc : Nat) (l : List UInt8) (c : UInt8) : dval acc (l ++ [c]) = dval acc l * 10 + (c.toNat - 48) := by simp [dval]
theorem dval_decDigits (u : Nat) : dval 0 (Lib.decDigits u) = u := by
  induction u using Nat.strongRecOn with
  | _ u ih =>
    rw [Lib.decDigits]
    split
    · rename_i h
      simp only [dval, List.foldl_cons, List.foldl_nil]
      rw [dig_ofNat u h]
      omega
    · rw [dval_snoc, ih (u / 10) (by omega), dig_ofNat (u % 10) (by omega)]
      omega
def minus (l : List UInt8) : Prop := l[0]? = some 45
instance (l : List UInt8) : Decidable (minus l) := by unfold minus; exact inferInstance
def rv (l : List UInt8) (k : Nat) : Nat := if minus l then dval 0 ((l.take k).drop 1) else dval 0 (l.take k)
theorem rv_zero (l : List UInt8) : rv l 0 = 0 := by unfold rv; split <;> simp [dval]
theorem rv_minus (l : List UInt8) (h : minus l) : rv l 1 = 0 := by
  unfold rv
  rw [if_pos h, List.drop_eq_nil_of_le (by simp; omega)]
  rfl
theorem rv_step (l : List UInt8) (k : Nat) (c : UInt8) (hc : l[k]? = some c) (h : ¬ (k = 0 ∧ minus l)) : rv l (k + 1) = rv l k * 10 + (c.toNat - 48) := by
  obtain ⟨hk, rfl⟩ := List.getElem?_eq_some_iff.1 hc
  have ht : l.take (k + 1) = l.take k ++ [l[k]] := List.take_succ_eq_append_getElem hk
  unfold rv
  split
  · rename_i hm
    rw [ht, List.drop_append_of_le_length (by
      have : k ≠ 0 := fun e => h ⟨e, hm⟩
      simp
      omega), dval_snoc]
  · rw [ht, dval_snoc]
theorem rv_itoa (n : Int) : rv (Lib.itoa n) (Lib.itoa n).length = n.natAbs ∧ (minus (Lib.itoa n) ↔ n < 0) := by
  unfold Lib.itoa rv
  split
  · rename_i hn
    have hm : minus (45 :: Lib.decDigits n.natAbs) := rfl
    rw [if_pos hm, List.take_length]
    exact ⟨dval_decDigits _, ⟨fun _ => hn, fun _ => hm⟩⟩
  · rename_i hn
    have hm : ¬ minus (Lib.decDigits n.toNat) := by
      intro h
      unfold minus at h
      have hmem := List.mem_of_getElem? h
      have := decDigits_dig _ _ hmem
      unfold isDig at this
      have e : (45 : UInt8).toNat = 45 := rfl
      omega
    rw [if_neg hm, List.take_length, dval_decDigits]
    exact ⟨by omega, ⟨fun h => absurd h hm, fun h => absurd h hn⟩⟩
theorem itoa_bytes (n : Int) (k : Nat) (c : UInt8) (h : (Lib.itoa n)[k]? = some c) : isDig c ∨ (k = 0 ∧ c = 45) := by
  unfold Lib.itoa at h
  split at h
  · match k, h with
    | 0, h => right; simpa using h.symm
    | k + 1, h =>
      left
      rw [List.getElem?_cons_succ] at h
      exact decDigits_dig _ _ (List.mem_of_getElem? h)
  · left
    exact decDigits_dig _ _ (List.mem_of_getElem? h)
def parseEnd (r : Option Int) : Ending := .returned (.tuple #[.int .i64 (r.getD 0), .bool r.isSome])
theorem parseEnd_none : parseEnd none = .returned (.tuple #[.int .i64 0, .bool false]) := rfl
theorem parseEnd_some (n : Int) : parseEnd (some n) = .returned (.tuple #[.int .i64 n, .bool true]) := rfl
end Go.Proofs.YtlkgcidhhngfeaaGreatDoor
/- What the package name computes, as plain functions on lists; no program is in sight. -/
namespace Go.Proofs.YtlkgcidhhngfeaaGreatDoor
open Go.RowKit
/-- what stands between the dots -/
def words : List UInt8 → List (List UInt8)
  | [] => [[]]
  | c :: l => if c = 46 then [] :: words l else match words l with
    | [] => [[c]]
    | h :: t => (c :: h) :: t
theorem words_ne : ∀ l, words l ≠ []
  | [] => by simp [words]
  | c :: l => by
    unfold words
    split
    · simp
    · split <;> simp
theorem words_cons {c : UInt8} (h : c ≠ 46) (l : List UInt8) : ∃ a t, words l = a :: t ∧ words (c :: l) = (c :: a) :: t := by
  cases hw : words l with
  | nil => exact absurd hw (words_ne l)
  | cons a t =>
    refine ⟨a, t, rfl, ?_⟩
    rw [words, if_neg h, hw]
theorem words_dot (l : List UInt8) : words (46 :: l) = [] :: words l := by rw [words, if_pos rfl]
theorem words_none : ∀ {l : List UInt8}, (∀ c ∈ l, c ≠ 46) → words l = [l]
  | [], _ => rfl
  | c :: l, h => by
    obtain ⟨a, t, h1, h2⟩ := words_cons (h c (by simp)) l
    rw [words_none (l := l) (fun x hx => h x (by simp [hx]))] at h1
    simp only [List.cons.injEq] at h1
    rw [h2, ← h1.1, ← h1.2]
theorem words_app : ∀ (l m : List UInt8), (∀ c ∈ l, c ≠ 46) → words (l ++ 46 :: m) = l :: words m
  | [], m, _ => words_dot m
  | c :: l, m, h => by
    obtain ⟨a, t, h1, h2⟩ := words_cons (h c (by simp)) (l ++ 46 :: m)
    rw [words_app l m (fun x hx => h x (by simp [hx]))] at h1
    simp only [List.cons.injEq] at h1
    rw [List.cons_append, h2, ← h1.1, ← h1.2]
/-- the words of a text with a dot in it, wherever the dot is -/
theorem words_join : ∀ (l m : List UInt8), words (l ++ 46 :: m) = words l ++ words m
  | [], m => by rw [List.nil_append, words_dot]; rfl
  | c :: l, m => by
    by_cases hc : c = 46
    · subst hc
      rw [List.cons_append, words_dot, words_dot, words_join l m]
      rfl
    · obtain ⟨a, t, h1, h2⟩ := words_cons hc (l ++ 46 :: m)
      obtain ⟨a', t', h3, h4⟩ := words_cons hc l
      rw [words_join l m, h3] at h1
      simp only [List.cons_append, List.cons.injEq] at h1
      rw [List.cons_append, h2, h4, ← h1.1, ← h1.2]
      rfl
theorem words_snoc {c : UInt8} (hc : c ≠ 46) : ∀ (l : List UInt8), ∃ f x, words l = f ++ [x] ∧ words (l ++ [c]) = f ++ [x ++ [c]]
  | [] => ⟨[], [], rfl, by rw [List.nil_append, words_none (by simpa using hc)]; rfl⟩
  | d :: l => by
    obtain ⟨f, x, h1, h2⟩ := words_snoc hc l
    by_cases hd : d = 46
    · subst hd
      exact ⟨[] :: f, x, by rw [words_dot, h1]; rfl, by rw [List.cons_append, words_dot, h2]; rfl⟩
    · obtain ⟨a, t, h3, h4⟩ := words_cons hd l
      obtain ⟨a', t', h5, h6⟩ := words_cons hd (l ++ [c])
      rw [h2] at h5
      rw [h1] at h3
      cases f with
      | nil =>
        simp only [List.nil_append, List.cons.injEq] at h3 h5
        obtain ⟨rfl, rfl⟩ := h3
        obtain ⟨rfl, rfl⟩ := h5
        exact ⟨[], d :: x, h4, by rw [List.cons_append, h6]; rfl⟩
      | cons g f =>
        simp only [List.cons_append, List.cons.injEq] at h3 h5
        obtain ⟨rfl, rfl⟩ := h3
        obtain ⟨rfl, rfl⟩ := h5
        exact ⟨(d :: g) :: f, x, h4, by rw [List.cons_append, h6]; rfl⟩
/-- one word's number: from 0 to 999 -/
def wordNum (w : List UInt8) : Option Int := match parseS w with
  | some n => if 0 ≤ n ∧ n ≤ 999 then some n else none
  | none => none
theorem wordNum_some {w : List UInt8} {n : Int} (h : wordNum w = some n) : 0 ≤ n ∧ n ≤ 999 ∧ Lib.itoa n = w := by
  unfold wordNum at h
  split at h
  · rename_i m hm
    split at h
    · rename_i hr
      obtain rfl := Option.some.inj h
      exact ⟨hr.1, hr.2, (parseS_some _ _ hm).2⟩
    · cases h
  · cases h
theorem inI64_999 {n : Int} (h : 0 ≤ n ∧ n ≤ 999) : InI64 n := by unfold InI64; omega
theorem wordNum_itoa {n : Int} (h : 0 ≤ n ∧ n ≤ 999) : wordNum (Lib.itoa n) = some n := by
  unfold wordNum
  rw [parseS_eq _ n (inI64_999 h) rfl]
  exact if_pos h
theorem small_all {p : List UInt8 → Prop} [DecidablePred p] (h : ∀ i : Fin 1000, p (Lib.itoa (i.val : Int))) {n : Int} (hn : 0 ≤ n ∧ n ≤ 999) : p (Lib.itoa n) := by
  have := h ⟨n.toNat, by omega⟩
  have e : ((n.toNat : Nat) : Int) = n := by omega
  rw [e] at this
  exact this
theorem itoa_small_bytes {n : Int} (hn : 0 ≤ n ∧ n ≤ 999) : (∀ c ∈ Lib.itoa n, 48 ≤ c.toNat ∧ c.toNat ≤ 57) ∧ 1 ≤ (Lib.itoa n).length ∧ (Lib.itoa n).length ≤ 3 ∧ ((Lib.itoa n).head? = some 48 → (Lib.itoa n).length = 1) :=
  small_all (p := fun l => (∀ c ∈ l, 48 ≤ c.toNat ∧ c.toNat ≤ 57) ∧ 1 ≤ l.length ∧ l.length ≤ 3 ∧ (l.head? = some 48 → l.length = 1)) (by decide +kernel) hn
/-- the numbers of words, behind those that stand there already -/
def readGo : List Int → List (List UInt8) → Option (List Int)
  | acc, [] => some acc
  | acc, w :: ws => match wordNum w with
    | some n => if acc.length < 24 then readGo (acc ++ [n]) ws else none
    | none => none
def readL (s : List UInt8) : Option (List Int) := if 95 < s.length then none else readGo [] (words s)
theorem readGo_some : ∀ {ws : List (List UInt8)} {acc l : List Int}, readGo acc ws = some l → ∃ m, l = acc ++ m ∧ ws = m.map Lib.itoa ∧ (∀ n ∈ m, 0 ≤ n ∧ n ≤ 999) ∧ (acc.length ≤ 24 → l.length ≤ 24)
  | [], acc, l, h => by
    obtain rfl := Option.some.inj h
    exact ⟨[], by simp, rfl, by simp, fun h => h⟩
  | w :: ws, acc, l, h => by
    unfold readGo at h
    split at h
    · rename_i n hn
      split at h
      · rename_i hlt
        obtain ⟨m, h1, h2, h3, h4⟩ := readGo_some h
        obtain ⟨k1, k2, k3⟩ := wordNum_some hn
        refine ⟨n :: m, by rw [h1]; simp, by rw [h2, ← k3]; rfl, ?_, fun _ => h4 (by simp; omega)⟩
        intro x hx
        rcases List.mem_cons.1 hx with rfl | hx
        · exact ⟨k1, k2⟩
        · exact h3 x hx
      · cases h
    · cases h
theorem readGo_itoa : ∀ (m acc : List Int), (∀ n ∈ m, 0 ≤ n ∧ n ≤ 999) → acc.length + m.length ≤ 24 → readGo acc (m.map Lib.itoa) = some (acc ++ m)
  | [], acc, _, _ => by simp [readGo]
  | n :: m, acc, h, hl => by
    simp only [List.length_cons] at hl
    rw [List.map_cons, readGo, wordNum_itoa (h n (by simp))]
    simp only
    rw [if_pos (by omega), readGo_itoa m (acc ++ [n]) (fun x hx => h x (by simp [hx])) (by simp; omega)]
    simp
theorem readGo_bad {ws : List (List UInt8)} {acc : List Int} {w : List UInt8} (hw : w ∈ ws) (h : wordNum w = none) : readGo acc ws = none := by
  cases hr : readGo acc ws with
  | none => rfl
  | some l =>
    obtain ⟨m, h1, h2, h3, h4⟩ := readGo_some hr
    rw [h2, List.mem_map] at hw
    obtain ⟨n, hn, rfl⟩ := hw
    rw [wordNum_itoa (h3 n hn)] at h
    cases h
theorem readL_bad {s w : List UInt8} (hw : w ∈ words s) (h : wordNum w = none) : readL s = none := by
  unfold readL
  split
  · rfl
  · exact readGo_bad hw h
/-- the name of numbers, whether it is one or not -/
def joinL : List Int → List UInt8
  | [] => []
  | [n] => Lib.itoa n
  | n :: m :: l => Lib.itoa n ++ 46 :: joinL (m :: l)
def Fits (l : List Int) : Prop := 1 ≤ l.length ∧ l.length ≤ 24 ∧ ∀ n ∈ l, 0 ≤ n ∧ n ≤ 999
instance (l : List Int) : Decidable (Fits l) := by unfold Fits; infer_instance
def ofL (l : List Int) : Option (List UInt8) := if Fits l then some (joinL l) else none
theorem no_dot {n : Int} (hn : 0 ≤ n ∧ n ≤ 999) : ∀ c ∈ Lib.itoa n, c ≠ 46 := by
  intro c hc h
  have := (itoa_small_bytes hn).1 c hc
  subst h
  simp at this
theorem words_joinL : ∀ (l : List Int), l ≠ [] → (∀ n ∈ l, 0 ≤ n ∧ n ≤ 999) → words (joinL l) = l.map Lib.itoa
  | [], h, _ => absurd rfl h
  | [n], _, h => words_none (no_dot (h n (by simp)))
  | n :: m :: l, _, h => by
    rw [joinL, words_app _ _ (no_dot (h n (by simp))), words_joinL (m :: l) (by simp) (fun x hx => h x (by simp [hx]))]
    rfl
theorem joinL_length : ∀ (l : List Int), (∀ n ∈ l, 0 ≤ n ∧ n ≤ 999) → (joinL l).length + 1 ≤ 4 * l.length + (if l = [] then 1 else 0)
  | [], _ => by simp [joinL]
  | [n], h => by
    have := (itoa_small_bytes (h n (by simp))).2.2.1
    simp [joinL]
    omega
  | n :: m :: l, h => by
    have h1 := (itoa_small_bytes (h n (by simp))).2.2.1
    have h2 := joinL_length (m :: l) (fun x hx => h x (by simp [hx]))
    simp [joinL] at h2 ⊢
    omega
theorem readL_join {l : List Int} (h : Fits l) : readL (joinL l) = some l := by
  obtain ⟨h1, h2, h3⟩ := h
  have hne : l ≠ [] := by intro e; subst e; simp at h1
  have hl := joinL_length l h3
  rw [if_neg hne] at hl
  unfold readL
  rw [if_neg (by omega), words_joinL l hne h3, readGo_itoa l [] h3 (by simpa using h2)]
  rfl
theorem words_inj : ∀ (s t : List UInt8), words s = words t → s = t
  | [], [], _ => rfl
  | [], d :: t, h => by
    by_cases hd : d = 46
    · subst hd
      rw [words_dot] at h
      have := words_ne t
      simp [words] at h
      exact absurd h this
    · obtain ⟨a, u, _, h2⟩ := words_cons hd t
      rw [h2] at h
      simp [words] at h
  | c :: s, [], h => by
    by_cases hc : c = 46
    · subst hc
      rw [words_dot] at h
      have := words_ne s
      simp [words] at h
      exact absurd h this
    · obtain ⟨a, u, _, h2⟩ := words_cons hc s
      rw [h2] at h
      simp [words] at h
  | c :: s, d :: t, h => by
    by_cases hc : c = 46
    · subst hc
      by_cases hd : d = 46
      · subst hd
        rw [words_dot, words_dot] at h
        rw [words_inj s t (List.cons.inj h).2]
      · obtain ⟨a, u, _, h2⟩ := words_cons hd t
        rw [words_dot, h2] at h
        simp at h
    · obtain ⟨a, u, h1, h2⟩ := words_cons hc s
      by_cases hd : d = 46
      · subst hd
        rw [words_dot, h2] at h
        simp at h
      · obtain ⟨a', u', h3, h4⟩ := words_cons hd t
        rw [h2, h4] at h
        simp only [List.cons.injEq] at h
        obtain ⟨⟨rfl, rfl⟩, rfl⟩ := h
        rw [words_inj s t (h1.trans h3.symm)]
theorem readL_some {s : List UInt8} {l : List Int} (h : readL s = some l) : Fits l ∧ joinL l = s := by
  unfold readL at h
  split at h
  · cases h
  · obtain ⟨m, h1, h2, h3, h4⟩ := readGo_some h
    rw [List.nil_append] at h1
    subst h1
    have hne : l ≠ [] := by
      intro e
      subst e
      exact words_ne s h2
    refine ⟨⟨?_, h4 (by simp), h3⟩, words_inj _ _ ?_⟩
    · cases l with
      | nil => exact absurd rfl hne
      | cons a b => simp
    · rw [words_joinL l hne h3, h2]
theorem readL_inj {s t : List UInt8} {l : List Int} (h : readL s = some l) (k : readL t = some l) : s = t := by rw [← (readL_some h).2, ← (readL_some k).2]
theorem joinL_inj {l m : List Int} (h : Fits l) (k : Fits m) (e : joinL l = joinL m) : l = m := by
  have h1 := readL_join h
  rw [e, readL_join k] at h1
  exact (Option.some.inj h1).symm
theorem readL_length {s : List UInt8} {l : List Int} (h : readL s = some l) : s.length ≤ 95 := by
  unfold readL at h
  split at h
  · cases h
  · omega
theorem readL_nil : readL [] = none := by decide +kernel
/-! order -/
def cmpL : List Int → List Int → Int
  | [], [] => 0
  | [], _ :: _ => -1
  | _ :: _, [] => 1
  | a :: as, b :: bs => if a < b then -1 else if b < a then 1 else cmpL as bs
theorem cmpL_refl : ∀ l, cmpL l l = 0
  | [] => rfl
  | a :: l => by simp [cmpL, cmpL_refl l]
theorem cmpL_swap : ∀ l m, cmpL m l = -cmpL l m
  | [], [] => rfl
  | [], _ :: _ => rfl
  | _ :: _, [] => rfl
  | a :: l, b :: m => by
    unfold cmpL
    rw [cmpL_swap l m]
    by_cases h1 : a < b
    · rw [if_pos h1, if_neg (by omega), if_pos h1]
      rfl
    · by_cases h2 : b < a
      · rw [if_pos h2, if_neg h1, if_pos h2]
      · rw [if_neg h1, if_neg h2, if_neg h1, if_neg h2]
theorem cmpL_eq : ∀ {l m}, cmpL l m = 0 → l = m
  | [], [], _ => rfl
  | [], _ :: _, h => by simp [cmpL] at h
  | _ :: _, [], h => by simp [cmpL] at h
  | a :: l, b :: m, h => by
    unfold cmpL at h
    split at h
    · simp at h
    · split at h
      · simp at h
      · rw [cmpL_eq h, show a = b by omega]
theorem cmpL_trans : ∀ {l m k}, cmpL l m < 0 → cmpL m k < 0 → cmpL l k < 0
  | [], [], _, h, _ => by simp [cmpL] at h
  | [], _ :: _, [], _, h => by simp [cmpL] at h
  | [], _ :: _, _ :: _, _, _ => by simp [cmpL]
  | _ :: _, [], _, h, _ => by simp [cmpL] at h
  | _ :: _, _ :: _, [], _, h => by simp [cmpL] at h
  | a :: l, b :: m, c :: k, h1, h2 => by
    unfold cmpL at h1 h2 ⊢
    by_cases e1 : a < b
    · by_cases e2 : b < c
      · rw [if_pos (by omega)]; decide
      · rw [if_neg e2] at h2
        by_cases e3 : c < b
        · rw [if_pos e3] at h2; simp at h2
        · rw [if_pos (by omega)]; decide
    · rw [if_neg e1] at h1
      by_cases e2 : b < a
      · rw [if_pos e2] at h1; simp at h1
      · rw [if_neg e2] at h1
        by_cases e3 : b < c
        · rw [if_pos (by omega)]; decide
        · rw [if_neg e3] at h2
          by_cases e4 : c < b
          · rw [if_pos e4] at h2; simp at h2
          · rw [if_neg e4] at h2
            rw [if_neg (by omega), if_neg (by omega)]
            exact cmpL_trans h1 h2
theorem cmpL_range : ∀ l m, cmpL l m = -1 ∨ cmpL l m = 0 ∨ cmpL l m = 1
  | [], [] => by simp [cmpL]
  | [], _ :: _ => by simp [cmpL]
  | _ :: _, [] => by simp [cmpL]
  | a :: l, b :: m => by
    unfold cmpL
    split
    · simp
    · split
      · simp
      · exact cmpL_range l m
/-- bytes as numbers -/
def nums (l : List UInt8) : List Int := l.map fun c => (c.toNat : Int)
theorem nums_inj : ∀ {l m : List UInt8}, nums l = nums m → l = m
  | [], [], _ => rfl
  | [], _ :: _, h => by simp [nums] at h
  | _ :: _, [], h => by simp [nums] at h
  | a :: l, b :: m, h => by
    simp only [nums, List.map_cons, List.cons.injEq] at h
    rw [nums_inj (l := l) (m := m) h.2, UInt8.toNat_inj.1 (Int.ofNat_inj.1 h.1)]
theorem compareBytes_eq : ∀ l m : List UInt8, Lib.compareBytes l m = cmpL (nums l) (nums m)
  | [], [] => rfl
  | [], _ :: _ => rfl
  | _ :: _, [] => rfl
  | a :: l, b :: m => by
    unfold Lib.compareBytes
    simp only [nums, List.map_cons, cmpL]
    rw [compareBytes_eq l m]
    simp only [UInt8.lt_iff_toNat_lt]
    simp only [Int.ofNat_lt]
    rfl
/-- a name's place: names first, by their numbers; then all else, by bytes -/
def orderS (a b : List UInt8) : Int := match readL a, readL b with
  | some x, some y => cmpL x y
  | some _, none => -1
  | none, some _ => 1
  | none, none => Lib.compareBytes a b
theorem orderS_range (a b : List UInt8) : orderS a b = -1 ∨ orderS a b = 0 ∨ orderS a b = 1 := by
  unfold orderS
  split
  · exact cmpL_range _ _
  · simp
  · simp
  · rw [compareBytes_eq]; exact cmpL_range _ _
theorem orderS_swap (a b : List UInt8) : orderS b a = -orderS a b := by
  unfold orderS
  cases readL a <;> cases readL b <;> simp only
  · rw [compareBytes_eq, compareBytes_eq, cmpL_swap]
  · rfl
  · rw [cmpL_swap]
theorem orderS_zero {a b : List UInt8} : orderS a b = 0 ↔ a = b := by
  constructor
  · intro h
    unfold orderS at h
    cases ha : readL a <;> cases hb : readL b <;> simp only [ha, hb] at h
    · rw [compareBytes_eq] at h
      exact nums_inj (cmpL_eq h)
    · simp at h
    · simp at h
    · rw [cmpL_eq h] at ha
      exact readL_inj ha hb
  · rintro rfl
    unfold orderS
    cases readL a <;> simp only
    · rw [compareBytes_eq, cmpL_refl]
    · exact cmpL_refl _
theorem orderS_trans {a b c : List UInt8} (h : orderS a b < 0) (k : orderS b c < 0) : orderS a c < 0 := by
  unfold orderS at *
  cases ha : readL a <;> cases hb : readL b <;> cases hc : readL c <;> simp only [ha, hb, hc] at h k ⊢
  · rw [compareBytes_eq] at *
    exact cmpL_trans h k
  · simp at k
  · simp at h
  · simp at h
  · decide
  · simp at k
  · decide
  · exact cmpL_trans h k
def underS (a b : List UInt8) : Bool := match readL a, readL b with
  | some x, some y => decide (x.length ≤ y.length) && (x == y.take x.length)
  | _, _ => false
theorem take_prefix {x y : List Int} : (decide (x.length ≤ y.length) && (x == y.take x.length)) = true ↔ x <+: y := by
  rw [Bool.and_eq_true, decide_eq_true_eq, beq_iff_eq]
  constructor
  · rintro ⟨_, h⟩
    have e := List.take_append_drop x.length y
    rw [← h] at e
    exact ⟨_, e⟩
  · rintro ⟨z, rfl⟩
    simp
theorem underS_iff {a b : List UInt8} : underS a b = true ↔ ∃ x y, readL a = some x ∧ readL b = some y ∧ x <+: y := by
  unfold underS
  cases readL a with
  | none => simp
  | some x =>
    cases readL b with
    | none => simp
    | some y =>
      show (decide (x.length ≤ y.length) && (x == y.take x.length)) = true ↔ _
      rw [take_prefix]
      simp
/-- what is a proper beginning stands ahead -/
theorem cmpL_prefix : ∀ {x y : List Int}, x <+: y → x ≠ y → cmpL x y < 0
  | [], [], _, h => absurd rfl h
  | [], _ :: _, _, _ => by simp [cmpL]
  | a :: x, y, ⟨z, hz⟩, h => by
    subst hz
    simp only [List.cons_append, cmpL, Int.lt_irrefl, if_false]
    refine cmpL_prefix ⟨z, rfl⟩ ?_
    intro e
    exact h (by rw [List.cons_append, ← e])
/-- what is behind x, and does not begin with x, is behind all that begins with x -/
theorem cmpL_behind : ∀ {x y : List Int} (t : List Int), cmpL x y < 0 → ¬ x <+: y → cmpL (x ++ t) y < 0
  | [], _, _, _, h => absurd (List.nil_prefix) h
  | _ :: _, [], _, h, _ => by simp [cmpL] at h
  | a :: x, b :: y, t, h1, h2 => by
    simp only [List.cons_append, cmpL] at h1 ⊢
    by_cases e1 : a < b
    · rw [if_pos e1]; decide
    · rw [if_neg e1] at h1 ⊢
      by_cases e2 : b < a
      · rw [if_pos e2] at h1; simp at h1
      · rw [if_neg e2] at h1 ⊢
        refine cmpL_behind t h1 ?_
        rintro ⟨z, hz⟩
        exact h2 ⟨z, by rw [List.cons_append, hz, show a = b by omega]⟩
end Go.Proofs.YtlkgcidhhngfeaaGreatDoor
