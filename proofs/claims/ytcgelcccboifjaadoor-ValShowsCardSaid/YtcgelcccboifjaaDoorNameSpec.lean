/- What the package name computes, as plain functions on lists; no program is in sight. -/
import Derived.Test.YtcgelcccboifjaaDoorNumTextSpec
import Derived.Lib.Bytealg
namespace Go.Proofs.YtcgelcccboifjaaDoor
open Go.RowKit
/-- what stands between the dots -/
def words : List UInt8 → List (List UInt8)
  | [] => [[]]
  | c :: l => if c = 46 then [] :: words l else match words l with
    | [] => [[c]]
    | h :: t => (c :: h) :: t
theorem words_ne : ∀ l, words l ≠ []
  | [] => by simp [words]
  | c :: l => by
    unfold words
    split
    · simp
    · split <;> simp
theorem words_cons {c : UInt8} (h : c ≠ 46) (l : List UInt8) : ∃ a t, words l = a :: t ∧ words (c :: l) = (c :: a) :: t := by
  cases hw : words l with
  | nil => exact absurd hw (words_ne l)
  | cons a t =>
    refine ⟨a, t, rfl, ?_⟩
    rw [words, if_neg h, hw]
theorem words_dot (l : List UInt8) : words (46 :: l) = [] :: words l := by rw [words, if_pos rfl]
theorem words_none : ∀ {l : List UInt8}, (∀ c ∈ l, c ≠ 46) → words l = [l]
  | [], _ => rfl
  | c :: l, h => by
    obtain ⟨a, t, h1, h2⟩ := words_cons (h c (by simp)) l
    rw [words_none (l := l) (fun x hx => h x (by simp [hx]))] at h1
    simp only [List.cons.injEq] at h1
    rw [h2, ← h1.1, ← h1.2]
theorem words_app : ∀ (l m : List UInt8), (∀ c ∈ l, c ≠ 46) → words (l ++ 46 :: m) = l :: words m
  | [], m, _ => words_dot m
  | c :: l, m, h => by
    obtain ⟨a, t, h1, h2⟩ := words_cons (h c (by simp)) (l ++ 46 :: m)
    rw [words_app l m (fun x hx => h x (by simp [hx]))] at h1
    simp only [List.cons.injEq] at h1
    rw [List.cons_append, h2, ← h1.1, ← h1.2]
/-- the words of a text with a dot in it, wherever the dot is -/
theorem words_join : ∀ (l m : List UInt8), words (l ++ 46 :: m) = words l ++ words m
  | [], m => by rw [List.nil_append, words_dot]; rfl
  | c :: l, m => by
    by_cases hc : c = 46
    · subst hc
      rw [List.cons_append, words_dot, words_dot, words_join l m]
      rfl
    · obtain ⟨a, t, h1, h2⟩ := words_cons hc (l ++ 46 :: m)
      obtain ⟨a', t', h3, h4⟩ := words_cons hc l
      rw [words_join l m, h3] at h1
      simp only [List.cons_append, List.cons.injEq] at h1
      rw [List.cons_append, h2, h4, ← h1.1, ← h1.2]
      rfl
theorem words_snoc {c : UInt8} (hc : c ≠ 46) : ∀ (l : List UInt8), ∃ f x, words l = f ++ [x] ∧ words (l ++ [c]) = f ++ [x ++ [c]]
  | [] => ⟨[], [], rfl, by rw [List.nil_append, words_none (by simpa using hc)]; rfl⟩
  | d :: l => by
    obtain ⟨f, x, h1, h2⟩ := words_snoc hc l
    by_cases hd : d = 46
    · subst hd
      exact ⟨[] :: f, x, by rw [words_dot, h1]; rfl, by rw [List.cons_append, words_dot, h2]; rfl⟩
    · obtain ⟨a, t, h3, h4⟩ := words_cons hd l
      obtain ⟨a', t', h5, h6⟩ := words_cons hd (l ++ [c])
      rw [h2] at h5
      rw [h1] at h3
      cases f with
      | nil =>
        simp only [List.nil_append, List.cons.injEq] at h3 h5
        obtain ⟨rfl, rfl⟩ := h3
        obtain ⟨rfl, rfl⟩ := h5
        exact ⟨[], d :: x, h4, by rw [List.cons_append, h6]; rfl⟩
      | cons g f =>
        simp only [List.cons_append, List.cons.injEq] at h3 h5
        obtain ⟨rfl, rfl⟩ := h3
        obtain ⟨rfl, rfl⟩ := h5
        exact ⟨(d :: g) :: f, x, h4, by rw [List.cons_append, h6]; rfl⟩
/-- one word's number: from 0 to 999 -/
def wordNum (w : List UInt8) : Option Int := match parseS w with
  | some n => if 0 ≤ n ∧ n ≤ 999 then some n else none
  | none => none
theorem wordNum_some {w : List UInt8} {n : Int} (h : wordNum w = some n) : 0 ≤ n ∧ n ≤ 999 ∧ Lib.itoa n = w := by
  unfold wordNum at h
  split at h
  · rename_i m hm
    split at h
    · rename_i hr
      obtain rfl := Option.some.inj h
      exact ⟨hr.1, hr.2, (parseS_some _ _ hm).2⟩
    · cases h
  · cases h
theorem inI64_999 {n : Int} (h : 0 ≤ n ∧ n ≤ 999) : InI64 n := by unfold InI64; omega
theorem wordNum_itoa {n : Int} (h : 0 ≤ n ∧ n ≤ 999) : wordNum (Lib.itoa n) = some n := by
  unfold wordNum
  rw [parseS_eq _ n (inI64_999 h) rfl]
  exact if_pos h
theorem small_all {p : List UInt8 → Prop} [DecidablePred p] (h : ∀ i : Fin 1000, p (Lib.itoa (i.val : Int))) {n : Int} (hn : 0 ≤ n ∧ n ≤ 999) : p (Lib.itoa n) := by
  have := h ⟨n.toNat, by omega⟩
  have e : ((n.toNat : Nat) : Int) = n := by omega
  rw [e] at this
  exact this
theorem itoa_small_bytes {n : Int} (hn : 0 ≤ n ∧ n ≤ 999) : (∀ c ∈ Lib.itoa n, 48 ≤ c.toNat ∧ c.toNat ≤ 57) ∧ 1 ≤ (Lib.itoa n).length ∧ (Lib.itoa n).length ≤ 3 ∧ ((Lib.itoa n).head? = some 48 → (Lib.itoa n).length = 1) :=
  small_all (p := fun l => (∀ c ∈ l, 48 ≤ c.toNat ∧ c.toNat ≤ 57) ∧ 1 ≤ l.length ∧ l.length ≤ 3 ∧ (l.head? = some 48 → l.length = 1)) (by decide +kernel) hn
/-- the numbers of words, behind those that stand there already -/
def readGo : List Int → List (List UInt8) → Option (List Int)
  | acc, [] => some acc
  | acc, w :: ws => match wordNum w with
    | some n => if acc.length < 24 then readGo (acc ++ [n]) ws else none
    | none => none
def readL (s : List UInt8) : Option (List Int) := if 95 < s.length then none else readGo [] (words s)
theorem readGo_some : ∀ {ws : List (List UInt8)} {acc l : List Int}, readGo acc ws = some l → ∃ m, l = acc ++ m ∧ ws = m.map Lib.itoa ∧ (∀ n ∈ m, 0 ≤ n ∧ n ≤ 999) ∧ (acc.length ≤ 24 → l.length ≤ 24)
  | [], acc, l, h => by
    obtain rfl := Option.some.inj h
    exact ⟨[], by simp, rfl, by simp, fun h => h⟩
  | w :: ws, acc, l, h => by
    unfold readGo at h
    split at h
    · rename_i n hn
      split at h
      · rename_i hlt
        obtain ⟨m, h1, h2, h3, h4⟩ := readGo_some h
        obtain ⟨k1, k2, k3⟩ := wordNum_some hn
        refine ⟨n :: m, by rw [h1]; simp, by rw [h2, ← k3]; rfl, ?_, fun _ => h4 (by simp; omega)⟩
        intro x hx
        rcases List.mem_cons.1 hx with rfl | hx
        · exact ⟨k1, k2⟩
        · exact h3 x hx
      · cases h
    · cases h
theorem readGo_itoa : ∀ (m acc : List Int), (∀ n ∈ m, 0 ≤ n ∧ n ≤ 999) → acc.length + m.length ≤ 24 → readGo acc (m.map Lib.itoa) = some (acc ++ m)
  | [], acc, _, _ => by simp [readGo]
  | n :: m, acc, h, hl => by
    simp only [List.length_cons] at hl
    rw [List.map_cons, readGo, wordNum_itoa (h n (by simp))]
    simp only
    rw [if_pos (by omega), readGo_itoa m (acc ++ [n]) (fun x hx => h x (by simp [hx])) (by simp; omega)]
    simp
theorem readGo_bad {ws : List (List UInt8)} {acc : List Int} {w : List UInt8} (hw : w ∈ ws) (h : wordNum w = none) : readGo acc ws = none := by
  cases hr : readGo acc ws with
  | none => rfl
  | some l =>
    obtain ⟨m, h1, h2, h3, h4⟩ := readGo_some hr
    rw [h2, List.mem_map] at hw
    obtain ⟨n, hn, rfl⟩ := hw
    rw [wordNum_itoa (h3 n hn)] at h
    cases h
theorem readL_bad {s w : List UInt8} (hw : w ∈ words s) (h : wordNum w = none) : readL s = none := by
  unfold readL
  split
  · rfl
  · exact readGo_bad hw h
/-- the name of numbers, whether it is one or not -/
def joinL : List Int → List UInt8
  | [] => []
  | [n] => Lib.itoa n
  | n :: m :: l => Lib.itoa n ++ 46 :: joinL (m :: l)
def Fits (l : List Int) : Prop := 1 ≤ l.length ∧ l.length ≤ 24 ∧ ∀ n ∈ l, 0 ≤ n ∧ n ≤ 999
instance (l : List Int) : Decidable (Fits l) := by unfold Fits; infer_instance
def ofL (l : List Int) : Option (List UInt8) := if Fits l then some (joinL l) else none
theorem no_dot {n : Int} (hn : 0 ≤ n ∧ n ≤ 999) : ∀ c ∈ Lib.itoa n, c ≠ 46 := by
  intro c hc h
  have := (itoa_small_bytes hn).1 c hc
  subst h
  simp at this
theorem words_joinL : ∀ (l : List Int), l ≠ [] → (∀ n ∈ l, 0 ≤ n ∧ n ≤ 999) → words (joinL l) = l.map Lib.itoa
  | [], h, _ => absurd rfl h
  | [n], _, h => words_none (no_dot (h n (by simp)))
  | n :: m :: l, _, h => by
    rw [joinL, words_app _ _ (no_dot (h n (by simp))), words_joinL (m :: l) (by simp) (fun x hx => h x (by simp [hx]))]
    rfl
theorem joinL_length : ∀ (l : List Int), (∀ n ∈ l, 0 ≤ n ∧ n ≤ 999) → (joinL l).length + 1 ≤ 4 * l.length + (if l = [] then 1 else 0)
  | [], _ => by simp [joinL]
  | [n], h => by
    have := (itoa_small_bytes (h n (by simp))).2.2.1
    simp [joinL]
    omega
  | n :: m :: l, h => by
    have h1 := (itoa_small_bytes (h n (by simp))).2.2.1
    have h2 := joinL_length (m :: l) (fun x hx => h x (by simp [hx]))
    simp [joinL] at h2 ⊢
    omega
theorem readL_join {l : List Int} (h : Fits l) : readL (joinL l) = some l := by
  obtain ⟨h1, h2, h3⟩ := h
  have hne : l ≠ [] := by intro e; subst e; simp at h1
  have hl := joinL_length l h3
  rw [if_neg hne] at hl
  unfold readL
  rw [if_neg (by omega), words_joinL l hne h3, readGo_itoa l [] h3 (by simpa using h2)]
  rfl
theorem words_inj : ∀ (s t : List UInt8), words s = words t → s = t
  | [], [], _ => rfl
  | [], d :: t, h => by
    by_cases hd : d = 46
    · subst hd
      rw [words_dot] at h
      have := words_ne t
      simp [words] at h
      exact absurd h this
    · obtain ⟨a, u, _, h2⟩ := words_cons hd t
      rw [h2] at h
      simp [words] at h
  | c :: s, [], h => by
    by_cases hc : c = 46
    · subst hc
      rw [words_dot] at h
      have := words_ne s
      simp [words] at h
      exact absurd h this
    · obtain ⟨a, u, _, h2⟩ := words_cons hc s
      rw [h2] at h
      simp [words] at h
  | c :: s, d :: t, h => by
    by_cases hc : c = 46
    · subst hc
      by_cases hd : d = 46
      · subst hd
        rw [words_dot, words_dot] at h
        rw [words_inj s t (List.cons.inj h).2]
      · obtain ⟨a, u, _, h2⟩ := words_cons hd t
        rw [words_dot, h2] at h
        simp at h
    · obtain ⟨a, u, h1, h2⟩ := words_cons hc s
      by_cases hd : d = 46
      · subst hd
        rw [words_dot, h2] at h
        simp at h
      · obtain ⟨a', u', h3, h4⟩ := words_cons hd t
        rw [h2, h4] at h
        simp only [List.cons.injEq] at h
        obtain ⟨⟨rfl, rfl⟩, rfl⟩ := h
        rw [words_inj s t (h1.trans h3.symm)]
theorem readL_some {s : List UInt8} {l : List Int} (h : readL s = some l) : Fits l ∧ joinL l = s := by
  unfold readL at h
  split at h
  · cases h
  · obtain ⟨m, h1, h2, h3, h4⟩ := readGo_some h
    rw [List.nil_append] at h1
    subst h1
    have hne : l ≠ [] := by
      intro e
      subst e
      exact words_ne s h2
    refine ⟨⟨?_, h4 (by simp), h3⟩, words_inj _ _ ?_⟩
    · cases l with
      | nil => exact absurd rfl hne
      | cons a b => simp
    · rw [words_joinL l hne h3, h2]
theorem readL_inj {s t : List UInt8} {l : List Int} (h : readL s = some l) (k : readL t = some l) : s = t := by rw [← (readL_some h).2, ← (readL_some k).2]
theorem joinL_inj {l m : List Int} (h : Fits l) (k : Fits m) (e : joinL l = joinL m) : l = m := by
  have h1 := readL_join h
  rw [e, readL_join k] at h1
  exact (Option.some.inj h1).symm
theorem readL_length {s : List UInt8} {l : List Int} (h : readL s = some l) : s.length ≤ 95 := by
  unfold readL at h
  split at h
  · cases h
  · omega
theorem readL_nil : readL [] = none := by decide +kernel
/-! order -/
def cmpL : List Int → List Int → Int
  | [], [] => 0
  | [], _ :: _ => -1
  | _ :: _, [] => 1
  | a :: as, b :: bs => if a < b then -1 else if b < a then 1 else cmpL as bs
theorem cmpL_refl : ∀ l, cmpL l l = 0
  | [] => rfl
  | a :: l => by simp [cmpL, cmpL_refl l]
theorem cmpL_swap : ∀ l m, cmpL m l = -cmpL l m
  | [], [] => rfl
  | [], _ :: _ => rfl
  | _ :: _, [] => rfl
  | a :: l, b :: m => by
    unfold cmpL
    rw [cmpL_swap l m]
    by_cases h1 : a < b
    · rw [if_pos h1, if_neg (by omega), if_pos h1]
      rfl
    · by_cases h2 : b < a
      · rw [if_pos h2, if_neg h1, if_pos h2]
      · rw [if_neg h1, if_neg h2, if_neg h1, if_neg h2]
theorem cmpL_eq : ∀ {l m}, cmpL l m = 0 → l = m
  | [], [], _ => rfl
  | [], _ :: _, h => by simp [cmpL] at h
  | _ :: _, [], h => by simp [cmpL] at h
  | a :: l, b :: m, h => by
    unfold cmpL at h
    split at h
    · simp at h
    · split at h
      · simp at h
      · rw [cmpL_eq h, show a = b by omega]
theorem cmpL_trans : ∀ {l m k}, cmpL l m < 0 → cmpL m k < 0 → cmpL l k < 0
  | [], [], _, h, _ => by simp [cmpL] at h
  | [], _ :: _, [], _, h => by simp [cmpL] at h
  | [], _ :: _, _ :: _, _, _ => by simp [cmpL]
  | _ :: _, [], _, h, _ => by simp [cmpL] at h
  | _ :: _, _ :: _, [], _, h => by simp [cmpL] at h
  | a :: l, b :: m, c :: k, h1, h2 => by
    unfold cmpL at h1 h2 ⊢
    by_cases e1 : a < b
    · by_cases e2 : b < c
      · rw [if_pos (by omega)]; decide
      · rw [if_neg e2] at h2
        by_cases e3 : c < b
        · rw [if_pos e3] at h2; simp at h2
        · rw [if_pos (by omega)]; decide
    · rw [if_neg e1] at h1
      by_cases e2 : b < a
      · rw [if_pos e2] at h1; simp at h1
      · rw [if_neg e2] at h1
        by_cases e3 : b < c
        · rw [if_pos (by omega)]; decide
        · rw [if_neg e3] at h2
          by_cases e4 : c < b
          · rw [if_pos e4] at h2; simp at h2
          · rw [if_neg e4] at h2
            rw [if_neg (by omega), if_neg (by omega)]
            exact cmpL_trans h1 h2
theorem cmpL_range : ∀ l m, cmpL l m = -1 ∨ cmpL l m = 0 ∨ cmpL l m = 1
  | [], [] => by simp [cmpL]
  | [], _ :: _ => by simp [cmpL]
  | _ :: _, [] => by simp [cmpL]
  | a :: l, b :: m => by
    unfold cmpL
    split
    · simp
    · split
      · simp
      · exact cmpL_range l m
/-- bytes as numbers -/
def nums (l : List UInt8) : List Int := l.map fun c => (c.toNat : Int)
theorem nums_inj : ∀ {l m : List UInt8}, nums l = nums m → l = m
  | [], [], _ => rfl
  | [], _ :: _, h => by simp [nums] at h
  | _ :: _, [], h => by simp [nums] at h
  | a :: l, b :: m, h => by
    simp only [nums, List.map_cons, List.cons.injEq] at h
    rw [nums_inj (l := l) (m := m) h.2, UInt8.toNat_inj.1 (Int.ofNat_inj.1 h.1)]
theorem compareBytes_eq : ∀ l m : List UInt8, Lib.compareBytes l m = cmpL (nums l) (nums m)
  | [], [] => rfl
  | [], _ :: _ => rfl
  | _ :: _, [] => rfl
  | a :: l, b :: m => by
    unfold Lib.compareBytes
    simp only [nums, List.map_cons, cmpL]
    rw [compareBytes_eq l m]
    simp only [UInt8.lt_iff_toNat_lt]
    simp only [Int.ofNat_lt]
    rfl
/-- a name's place: names first, by their numbers; then all else, by bytes -/
def orderS (a b : List UInt8) : Int := match readL a, readL b with
  | some x, some y => cmpL x y
  | some _, none => -1
  | none, some _ => 1
  | none, none => Lib.compareBytes a b
theorem orderS_range (a b : List UInt8) : orderS a b = -1 ∨ orderS a b = 0 ∨ orderS a b = 1 := by
  unfold orderS
  split
  · exact cmpL_range _ _
  · simp
  · simp
  · rw [compareBytes_eq]; exact cmpL_range _ _
theorem orderS_swap (a b : List UInt8) : orderS b a = -orderS a b := by
  unfold orderS
  cases readL a <;> cases readL b <;> simp only
  · rw [compareBytes_eq, compareBytes_eq, cmpL_swap]
  · rfl
  · rw [cmpL_swap]
theorem orderS_zero {a b : List UInt8} : orderS a b = 0 ↔ a = b := by
  constructor
  · intro h
    unfold orderS at h
    cases ha : readL a <;> cases hb : readL b <;> simp only [ha, hb] at h
    · rw [compareBytes_eq] at h
      exact nums_inj (cmpL_eq h)
    · simp at h
    · simp at h
    · rw [cmpL_eq h] at ha
      exact readL_inj ha hb
  · rintro rfl
    unfold orderS
    cases readL a <;> simp only
    · rw [compareBytes_eq, cmpL_refl]
    · exact cmpL_refl _
theorem orderS_trans {a b c : List UInt8} (h : orderS a b < 0) (k : orderS b c < 0) : orderS a c < 0 := by
  unfold orderS at *
  cases ha : readL a <;> cases hb : readL b <;> cases hc : readL c <;> simp only [ha, hb, hc] at h k ⊢
  · rw [compareBytes_eq] at *
    exact cmpL_trans h k
  · simp at k
  · simp at h
  · simp at h
  · decide
  · simp at k
  · decide
  · exact cmpL_trans h k
def underS (a b : List UInt8) : Bool := match readL a, readL b with
  | some x, some y => decide (x.length ≤ y.length) && (x == y.take x.length)
  | _, _ => false
theorem take_prefix {x y : List Int} : (decide (x.length ≤ y.length) && (x == y.take x.length)) = true ↔ x <+: y := by
  rw [Bool.and_eq_true, decide_eq_true_eq, beq_iff_eq]
  constructor
  · rintro ⟨_, h⟩
    have e := List.take_append_drop x.length y
    rw [← h] at e
    exact ⟨_, e⟩
  · rintro ⟨z, rfl⟩
    simp
theorem underS_iff {a b : List UInt8} : underS a b = true ↔ ∃ x y, readL a = some x ∧ readL b = some y ∧ x <+: y := by
  unfold underS
  cases readL a with
  | none => simp
  | some x =>
    cases readL b with
    | none => simp
    | some y =>
      show (decide (x.length ≤ y.length) && (x == y.take x.length)) = true ↔ _
      rw [take_prefix]
      simp
/-- what is a proper beginning stands ahead -/
theorem cmpL_prefix : ∀ {x y : List Int}, x <+: y → x ≠ y → cmpL x y < 0
  | [], [], _, h => absurd rfl h
  | [], _ :: _, _, _ => by simp [cmpL]
  | a :: x, y, ⟨z, hz⟩, h => by
    subst hz
    simp only [List.cons_append, cmpL, Int.lt_irrefl, if_false]
    refine cmpL_prefix ⟨z, rfl⟩ ?_
    intro e
    exact h (by rw [List.cons_append, ← e])
/-- what is behind x, and does not begin with x, is behind all that begins with x -/
theorem cmpL_behind : ∀ {x y : List Int} (t : List Int), cmpL x y < 0 → ¬ x <+: y → cmpL (x ++ t) y < 0
  | [], _, _, _, h => absurd (List.nil_prefix) h
  | _ :: _, [], _, h, _ => by simp [cmpL] at h
  | a :: x, b :: y, t, h1, h2 => by
    simp only [List.cons_append, cmpL] at h1 ⊢
    by_cases e1 : a < b
    · rw [if_pos e1]; decide
    · rw [if_neg e1] at h1 ⊢
      by_cases e2 : b < a
      · rw [if_pos e2] at h1; simp at h1
      · rw [if_neg e2] at h1 ⊢
        refine cmpL_behind t h1 ?_
        rintro ⟨z, hz⟩
        exact h2 ⟨z, by rw [List.cons_append, hz, show a = b by omega]⟩
end Go.Proofs.YtcgelcccboifjaaDoor
