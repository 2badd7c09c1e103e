/- Sets of principals, formulas, labels: what the code computes, and what follows; no program in sight. -/
import Derived.Test.YtcgelcccboifjaaDoorNumLeb
namespace Go.Proofs.YtcgelcccboifjaaDoor
/-- each bit of a is one of b -/
def inS (a b : UInt8) : Bool := a &&& ~~~b == 0
/-- those sets below k of l that have no smaller one of l in them -/
def leastGo (l : List UInt8) : Nat → List UInt8
  | 0 => []
  | k + 1 => if l.contains (UInt8.ofNat k) && !((leastGo l k).any fun x => inS x (UInt8.ofNat k)) then leastGo l k ++ [UInt8.ofNat k] else leastGo l k
def leastL (l : List UInt8) : List UInt8 := leastGo l 256
def c6 (c : UInt8) : UInt8 := c &&& 63
def normL (l : List UInt8) : List UInt8 := leastL (l.map c6)
theorem leastGo_mem {l : List UInt8} {x : UInt8} : ∀ {k : Nat}, k ≤ 256 → x ∈ leastGo l k → x ∈ l ∧ x.toNat < k
  | 0, _, h => by simp [leastGo] at h
  | k + 1, hk, h => by
    unfold leastGo at h
    split at h
    · rename_i hc
      rcases List.mem_append.1 h with h | h
      · have := leastGo_mem (by omega) h
        exact ⟨this.1, by omega⟩
      · rw [List.mem_singleton] at h
        subst h
        simp only [Bool.and_eq_true, List.contains_iff_mem] at hc
        refine ⟨hc.1, ?_⟩
        rw [UInt8.toNat_ofNat']
        omega
    · have := leastGo_mem (by omega) h
      exact ⟨this.1, by omega⟩
theorem leastGo_mono {l : List UInt8} {x : UInt8} {j : Nat} : ∀ {k : Nat}, j ≤ k → x ∈ leastGo l j → x ∈ leastGo l k
  | 0, hk, h => by obtain rfl : j = 0 := by omega
                   exact h
  | k + 1, hk, h => by
    rcases Nat.lt_or_ge k j with h1 | h1
    · obtain rfl : j = k + 1 := by omega
      exact h
    · have := leastGo_mono h1 h
      unfold leastGo
      split
      · exact List.mem_append_left _ this
      · exact this
theorem leastGo_least {l : List UInt8} : ∀ {k : Nat}, k ≤ 256 → leastGo (leastL l) k = leastGo l k
  | 0, _ => rfl
  | k + 1, hk => by
    have ih := leastGo_least (l := l) (k := k) (by omega)
    rw [leastGo, leastGo, ih]
    by_cases hc : (l.contains (UInt8.ofNat k) && !((leastGo l k).any fun x => inS x (UInt8.ofNat k))) = true
    · have h1 : UInt8.ofNat k ∈ leastL l := leastGo_mono hk (by rw [leastGo, if_pos hc]; simp)
      rw [if_pos hc, if_pos]
      rw [Bool.and_eq_true] at hc ⊢
      exact ⟨by simpa using h1, hc.2⟩
    · rw [if_neg hc, if_neg]
      intro h
      rw [Bool.and_eq_true, List.contains_iff_mem] at h
      exact hc (by rw [Bool.and_eq_true, List.contains_iff_mem]; exact ⟨(leastGo_mem (Nat.le_refl 256) h.1).1, h.2⟩)
theorem leastL_idem (l : List UInt8) : leastL (leastL l) = leastL l := leastGo_least (Nat.le_refl _)
theorem leastGo_length (l : List UInt8) : ∀ k, (leastGo l k).length ≤ k
  | 0 => Nat.le_refl _
  | k + 1 => by
    have := leastGo_length l k
    unfold leastGo
    split
    · simp; omega
    · omega
theorem leastGo_small {l : List UInt8} (h : ∀ x ∈ l, x.toNat < 64) : ∀ {k : Nat}, 64 ≤ k → k ≤ 256 → leastGo l k = leastGo l 64
  | 0, hk, _ => by omega
  | k + 1, hk, hk2 => by
    by_cases h1 : k + 1 = 64
    · rw [h1]
    · rw [leastGo, if_neg, leastGo_small h (by omega) (by omega)]
      rw [Bool.and_eq_true, List.contains_iff_mem]
      intro hc
      have := h _ hc.1
      rw [UInt8.toNat_ofNat'] at this
      omega
theorem c6_lt (c : UInt8) : (c6 c).toNat < 64 := by
  unfold c6
  rw [UInt8.toNat_and]
  exact Nat.lt_of_le_of_lt Nat.and_le_right (by decide)
theorem c6_idem (c : UInt8) : c6 (c6 c) = c6 c := by unfold c6; rw [UInt8.and_assoc]; rfl
theorem normL_mem {l : List UInt8} {x : UInt8} (h : x ∈ normL l) : ∃ c ∈ l, x = c6 c := by
  have := (leastGo_mem (Nat.le_refl _) h).1
  rw [List.mem_map] at this
  obtain ⟨c, hc, rfl⟩ := this
  exact ⟨c, hc, rfl⟩
theorem normL_lt {l : List UInt8} {x : UInt8} (h : x ∈ normL l) : x.toNat < 64 := by
  obtain ⟨c, _, rfl⟩ := normL_mem h
  exact c6_lt c
theorem normL_c6 (l : List UInt8) : (normL l).map c6 = normL l := by
  conv => rhs; rw [← List.map_id (normL l)]
  apply List.map_congr_left
  intro x hx
  obtain ⟨c, _, rfl⟩ := normL_mem hx
  exact c6_idem c
theorem normL_idem (l : List UInt8) : normL (normL l) = normL l := by
  show leastL ((normL l).map c6) = _
  rw [normL_c6]
  exact leastL_idem _
theorem normL_length (l : List UInt8) : (normL l).length ≤ 64 := by
  have h : normL l = leastGo (l.map c6) 64 := leastGo_small (by
    intro x hx
    rw [List.mem_map] at hx
    obtain ⟨c, _, rfl⟩ := hx
    exact c6_lt c) (by omega) (Nat.le_refl _)
  rw [h]
  exact leastGo_length _ _
def rightFm (l : List UInt8) : Bool := normL l == l
theorem rightFm_norm (l : List UInt8) : rightFm (normL l) = true := by unfold rightFm; rw [normL_idem]; exact beq_self_eq_true _
theorem rightFm_eq {l : List UInt8} (h : rightFm l = true) : normL l = l := eq_of_beq h
theorem rightFm_length {l : List UInt8} (h : rightFm l = true) : l.length ≤ 64 := by rw [← rightFm_eq h]; exact normL_length l
theorem rightFm_lt {l : List UInt8} (h : rightFm l = true) : ∀ x ∈ l, x.toNat < 64 := by rw [← rightFm_eq h]; exact fun x hx => normL_lt hx
/-! bytes -/
def putFm (l : List UInt8) : List UInt8 := UInt8.ofNat (normL l).length :: normL l
/-- the formula whose bytes stand at the head, and how many they are -/
def getFm : List UInt8 → Option (List UInt8 × Nat)
  | [] => none
  | c :: l => if c.toNat ≤ l.length ∧ rightFm (l.take c.toNat) = true then some (l.take c.toNat, c.toNat + 1) else none
theorem getFm_put {l : List UInt8} (h : rightFm l = true) (t : List UInt8) : getFm (putFm l ++ t) = some (l, l.length + 1) := by
  have hl := rightFm_length h
  have hn := rightFm_eq h
  unfold putFm
  rw [hn]
  have e : (UInt8.ofNat l.length).toNat = l.length := by rw [UInt8.toNat_ofNat']; omega
  rw [List.cons_append, getFm, e, List.take_left, if_pos ⟨by simp, h⟩]
theorem getFm_some {s f : List UInt8} {n : Nat} (h : getFm s = some (f, n)) : rightFm f = true ∧ n = f.length + 1 ∧ n ≤ s.length ∧ putFm f = s.take n := by
  cases s with
  | nil => simp [getFm] at h
  | cons c l =>
    rw [getFm] at h
    by_cases hc : c.toNat ≤ l.length ∧ rightFm (l.take c.toNat) = true
    · rw [if_pos hc] at h
      simp only [Option.some.injEq, Prod.mk.injEq] at h
      obtain ⟨rfl, rfl⟩ := h
      have hlen : (l.take c.toNat).length = c.toNat := by rw [List.length_take]; omega
      refine ⟨hc.2, by rw [hlen], by simp only [List.length_cons]; omega, ?_⟩
      unfold putFm
      rw [rightFm_eq hc.2, hlen, UInt8.ofNat_toNat]
      rfl
    · rw [if_neg hc] at h
      cases h
theorem putFm_length (l : List UInt8) : (putFm l).length = (normL l).length + 1 := rfl
/-- a beginning of what is put is none -/
theorem getFm_torn {l : List UInt8} (h : rightFm l = true) {k : Nat} (hk : k < (putFm l).length) : getFm ((putFm l).take k) = none := by
  rw [putFm_length, rightFm_eq h] at hk
  cases k with
  | zero => rfl
  | succ k =>
    have hl := rightFm_length h
    unfold putFm
    rw [List.take_succ_cons, rightFm_eq h, getFm, if_neg]
    rw [UInt8.toNat_ofNat', List.length_take]
    omega
/-! labels -/
structure Lb where
  S : List UInt8
  I : List UInt8
def Lb.right (l : Lb) : Bool := rightFm l.S && rightFm l.I
def Lb.norm (l : Lb) : Lb := ⟨normL l.S, normL l.I⟩
theorem Lb.right_norm (l : Lb) : l.norm.right = true := by simp [Lb.right, Lb.norm, rightFm_norm]
def Lb.put (l : Lb) : List UInt8 := putFm l.S ++ putFm l.I
def getLb (s : List UInt8) : Option (Lb × Nat) := match getFm s with
  | none => none
  | some (f, n) => match getFm (s.drop n) with
    | none => none
    | some (g, m) => some (⟨f, g⟩, n + m)
theorem getLb_put {l : Lb} (h : l.right = true) (t : List UInt8) : getLb (l.put ++ t) = some (l, l.put.length) := by
  obtain ⟨S, I⟩ := l
  simp only [Lb.right, Bool.and_eq_true] at h
  have hS : (putFm S).length = S.length + 1 := by rw [putFm_length, rightFm_eq h.1]
  have hI : (putFm I).length = I.length + 1 := by rw [putFm_length, rightFm_eq h.2]
  unfold getLb Lb.put
  simp only [List.append_assoc]
  rw [getFm_put h.1]
  simp only
  rw [← hS, List.drop_left, getFm_put h.2]
  simp only [List.length_append, hI]
theorem getLb_some {s : List UInt8} {l : Lb} {n : Nat} (h : getLb s = some (l, n)) : l.right = true ∧ n ≤ s.length ∧ l.put = s.take n ∧ n = l.put.length := by
  unfold getLb at h
  split at h
  · cases h
  · rename_i f a hf
    split at h
    · cases h
    · rename_i g m hg
      simp only [Option.some.injEq, Prod.mk.injEq] at h
      obtain ⟨rfl, rfl⟩ := h
      obtain ⟨h1, h2, h3, h4⟩ := getFm_some hf
      obtain ⟨k1, k2, k3, k4⟩ := getFm_some hg
      rw [List.length_drop] at k3
      have e : putFm f ++ putFm g = s.take (a + m) := by rw [h4, k4, List.take_add]
      refine ⟨by simp [Lb.right, h1, k1], by omega, e, ?_⟩
      show a + m = (putFm f ++ putFm g).length
      rw [e, List.length_take]
      omega
theorem getLb_torn {l : Lb} (h : l.right = true) {k : Nat} (hk : k < l.put.length) : getLb (l.put.take k) = none := by
  obtain ⟨S, I⟩ := l
  simp only [Lb.right, Bool.and_eq_true] at h
  unfold Lb.put at hk ⊢
  simp only at hk ⊢
  rw [List.length_append] at hk
  by_cases h1 : k < (putFm S).length
  · rw [List.take_append_of_le_length (by omega)]
    unfold getLb
    rw [getFm_torn h.1 h1]
  · obtain ⟨j, rfl⟩ : ∃ j, k = (putFm S).length + j := ⟨k - (putFm S).length, by omega⟩
    rw [List.take_length_add_append]
    unfold getLb
    rw [getFm_put h.1]
    simp only
    have hS : (putFm S).length = S.length + 1 := by rw [putFm_length, rightFm_eq h.1]
    rw [← hS, List.drop_left, getFm_torn h.2 (by omega)]
/-! texts -/
def bitP (c : UInt8) (k : Nat) : Bool := c >>> (UInt8.ofNat k) &&& 1 == 1
/-- the letters of the first k places -/
def textGo (c : UInt8) : Nat → List UInt8
  | 0 => []
  | k + 1 => if bitP c k then textGo c k ++ (if (textGo c k).isEmpty then [] else [124]) ++ [UInt8.ofNat (97 + k)] else textGo c k
def textP (c : UInt8) : List UInt8 := if 64 ≤ c.toNat then [63] else if c = 0 then [45] else textGo c 6
def okP (c : UInt8) : Bool := (textP c).all (fun d => decide (97 ≤ d.toNat ∧ d.toNat ≤ 102) || d == 124 || d == 45) && !(textP c).isEmpty
theorem textP_ok {c : UInt8} (h : c.toNat < 64) : okP c = true := by
  have h2 : ∀ i : Fin 64, okP (UInt8.ofNat i.val) = true := by decide +kernel
  have := h2 ⟨c.toNat, h⟩
  rwa [UInt8.ofNat_toNat] at this
theorem textP_length {c : UInt8} : (textP c).length ≤ 11 := by
  have h2 : ∀ i : Fin 256, (textP (UInt8.ofNat i.val)).length ≤ 11 := by decide +kernel
  have := h2 ⟨c.toNat, c.toNat_lt⟩
  rwa [UInt8.ofNat_toNat] at this
theorem textP_inj {c d : UInt8} (hc : c.toNat < 64) (hd : d.toNat < 64) (h : textP c = textP d) : c = d := by
  have h2 : ∀ i j : Fin 64, textP (UInt8.ofNat i.val) = textP (UInt8.ofNat j.val) → i = j := by decide +kernel
  have := h2 ⟨c.toNat, hc⟩ ⟨d.toNat, hd⟩
  rw [UInt8.ofNat_toNat, UInt8.ofNat_toNat] at this
  have := Fin.mk.inj_iff.1 (this h)
  exact UInt8.toNat_inj.1 this
/-- the clauses' texts, with what is between -/
def joinP : List UInt8 → List UInt8
  | [] => []
  | [c] => textP c
  | c :: d :: l => textP c ++ 38 :: joinP (d :: l)
def textN (f : List UInt8) : List UInt8 := if f = [] then [84] else if f = [0] then [70] else joinP f
def textFm (l : List UInt8) : List UInt8 := textN (normL l)
theorem joinP_snoc : ∀ (l : List UInt8) (c : UInt8), joinP (l ++ [c]) = joinP l ++ (if l.isEmpty then [] else [38]) ++ textP c
  | [], c => by simp [joinP]
  | [a], c => by simp [joinP]
  | a :: b :: l, c => by
    rw [List.cons_append, List.cons_append, joinP, ← List.cons_append, joinP_snoc (b :: l) c]
    simp [joinP]
theorem textP_ne {c : UInt8} (h : c.toNat < 64) : textP c ≠ [] := by
  have := textP_ok h
  unfold okP at this
  intro e
  rw [e] at this
  simp at this
theorem joinP_ne {l : List UInt8} (h : ∀ c ∈ l, c.toNat < 64) (hl : l ≠ []) : joinP l ≠ [] := by
  match l with
  | [] => exact absurd rfl hl
  | [c] => exact textP_ne (h c (by simp))
  | c :: d :: l =>
    rw [joinP]
    intro e
    simp at e
theorem joinP_length : ∀ (l : List UInt8), (joinP l).length ≤ 12 * l.length
  | [] => by simp [joinP]
  | [c] => by have := textP_length (c := c); simp [joinP]; omega
  | c :: d :: l => by
    have := textP_length (c := c)
    have := joinP_length (d :: l)
    simp [joinP] at *
    omega
def chP (d : UInt8) : Prop := (97 ≤ d.toNat ∧ d.toNat ≤ 102) ∨ d = 124 ∨ d = 45
theorem textP_ch {c : UInt8} (h : c.toNat < 64) : ∀ d ∈ textP c, chP d := by
  have := textP_ok h
  unfold okP at this
  simp only [Bool.and_eq_true, List.all_eq_true, Bool.or_eq_true, decide_eq_true_eq, beq_iff_eq] at this
  intro d hd
  rcases this.1 d hd with (h1 | h1) | h1
  · exact Or.inl h1
  · exact Or.inr (Or.inl h1)
  · exact Or.inr (Or.inr h1)
theorem chP_ne {d : UInt8} (h : chP d) : d ≠ 38 ∧ d ≠ 47 ∧ d ≠ 84 ∧ d ≠ 70 ∧ d ≠ 60 ∧ d ≠ 62 := by
  rcases h with h | rfl | rfl
  · refine ⟨?_, ?_, ?_, ?_, ?_, ?_⟩ <;> (rintro rfl; simp at h)
  · decide
  · decide
/-- a text up to the first place of a byte -/
theorem split_inj {p : UInt8} : ∀ {a b x y : List UInt8}, (∀ d ∈ a, d ≠ p) → (∀ d ∈ b, d ≠ p) → a ++ p :: x = b ++ p :: y → a = b ∧ x = y
  | [], [], x, y, _, _, h => by simp at h; exact ⟨rfl, h⟩
  | [], b :: l, x, y, _, hb, h => by
    simp at h
    exact absurd h.1.symm (hb b (by simp))
  | a :: l, [], x, y, ha, _, h => by
    simp at h
    exact absurd h.1 (ha a (by simp))
  | a :: l, b :: m, x, y, ha, hb, h => by
    simp only [List.cons_append, List.cons.injEq] at h
    obtain ⟨h1, h2⟩ := split_inj (fun d hd => ha d (by simp [hd])) (fun d hd => hb d (by simp [hd])) h.2
    exact ⟨by rw [h.1, h1], h2⟩
theorem no_amp {c : UInt8} (h : c.toNat < 64) : ∀ d ∈ textP c, d ≠ 38 := fun d hd => (chP_ne (textP_ch h d hd)).1
theorem joinP_inj : ∀ {l m : List UInt8}, (∀ c ∈ l, c.toNat < 64) → (∀ c ∈ m, c.toNat < 64) → joinP l = joinP m → l = m
  | [], [], _, _, _ => rfl
  | [], b :: m, _, hm, h => absurd h.symm (joinP_ne hm (by simp))
  | a :: l, [], hl, _, h => absurd h (joinP_ne hl (by simp))
  | [a], [b], hl, hm, h => by rw [textP_inj (hl a (by simp)) (hm b (by simp)) h]
  | [a], b :: c :: m, hl, hm, h => by
    simp only [joinP] at h
    have := no_amp (hl a (by simp)) 38 (by rw [h]; simp)
    exact absurd rfl this
  | a :: c :: l, [b], hl, hm, h => by
    simp only [joinP] at h
    have := no_amp (hm b (by simp)) 38 (by rw [← h]; simp)
    exact absurd rfl this
  | a :: a' :: l, b :: b' :: m, hl, hm, h => by
    simp only [joinP] at h
    obtain ⟨h1, h2⟩ := split_inj (no_amp (hl a (by simp))) (no_amp (hm b (by simp))) h
    rw [textP_inj (hl a (by simp)) (hm b (by simp)) h1, joinP_inj (fun x hx => hl x (by simp [hx])) (fun x hx => hm x (by simp [hx])) h2]
def chF (d : UInt8) : Prop := chP d ∨ d = 38 ∨ d = 84 ∨ d = 70
theorem joinP_ch : ∀ {l : List UInt8}, (∀ c ∈ l, c.toNat < 64) → ∀ d ∈ joinP l, chP d ∨ d = 38
  | [], _, d, hd => by simp [joinP] at hd
  | [c], h, d, hd => Or.inl (textP_ch (h c (by simp)) d hd)
  | c :: e :: l, h, d, hd => by
    rw [joinP, List.mem_append, List.mem_cons] at hd
    rcases hd with hd | hd | hd
    · exact Or.inl (textP_ch (h c (by simp)) d hd)
    · exact Or.inr hd
    · exact joinP_ch (fun x hx => h x (by simp [hx])) d hd
theorem textN_ch {l : List UInt8} (h : ∀ c ∈ l, c.toNat < 64) : ∀ d ∈ textN l, chF d := by
  intro d hd
  unfold textN at hd
  split at hd
  · simp at hd; exact Or.inr (Or.inr (Or.inl hd))
  · split at hd
    · simp at hd; exact Or.inr (Or.inr (Or.inr hd))
    · rcases joinP_ch h d hd with h1 | h1
      · exact Or.inl h1
      · exact Or.inr (Or.inl h1)
theorem chF_ne {d : UInt8} (h : chF d) : d ≠ 47 ∧ d ≠ 60 ∧ d ≠ 62 := by
  rcases h with h | rfl | rfl | rfl
  · have := chP_ne h
    exact ⟨this.2.1, this.2.2.2.2.1, this.2.2.2.2.2⟩
  all_goals decide
theorem not_TF {l : List UInt8} (h : ∀ c ∈ l, c.toNat < 64) : joinP l ≠ [84] ∧ joinP l ≠ [70] := by
  constructor <;>
  · intro e
    rcases joinP_ch h _ (by rw [e]; exact List.mem_singleton.2 rfl) with h1 | h1
    · have := chP_ne h1
      simp at this
    · simp at h1
theorem textN_inj {l m : List UInt8} (hl : ∀ c ∈ l, c.toNat < 64) (hm : ∀ c ∈ m, c.toNat < 64) (h : textN l = textN m) : l = m := by
  have nl := not_TF hl
  have nm := not_TF hm
  unfold textN at h
  by_cases l0 : l = []
  · by_cases m0 : m = []
    · rw [l0, m0]
    · rw [if_pos l0, if_neg m0] at h
      by_cases m1 : m = [0]
      · rw [if_pos m1] at h; simp at h
      · rw [if_neg m1] at h; exact absurd h.symm nm.1
  · rw [if_neg l0] at h
    by_cases l1 : l = [0]
    · rw [if_pos l1] at h
      by_cases m0 : m = []
      · rw [if_pos m0] at h; simp at h
      · rw [if_neg m0] at h
        by_cases m1 : m = [0]
        · rw [l1, m1]
        · rw [if_neg m1] at h; exact absurd h.symm nm.2
    · rw [if_neg l1] at h
      by_cases m0 : m = []
      · rw [if_pos m0] at h; exact absurd h nl.1
      · rw [if_neg m0] at h
        by_cases m1 : m = [0]
        · rw [if_pos m1] at h; exact absurd h nl.2
        · rw [if_neg m1] at h; exact joinP_inj hl hm h
theorem textN_length (l : List UInt8) : (textN l).length ≤ 12 * l.length + 1 := by
  have := joinP_length l
  unfold textN
  split
  · simp
  · split
    · simp
    · omega
theorem textFm_length (l : List UInt8) : (textFm l).length ≤ 769 := by
  have := textN_length (normL l)
  have := normL_length l
  unfold textFm
  omega
theorem textFm_norm (l : List UInt8) : textFm (normL l) = textFm l := by unfold textFm; rw [normL_idem]
theorem textFm_ch (l : List UInt8) : ∀ d ∈ textFm l, chF d := textN_ch fun _ h => normL_lt h
theorem textFm_inj {l m : List UInt8} (hl : rightFm l = true) (hm : rightFm m = true) (h : textFm l = textFm m) : l = m := by
  have := textN_inj (fun c hc => normL_lt hc) (fun c hc => normL_lt hc) h
  rwa [rightFm_eq hl, rightFm_eq hm] at this
def Lb.text (l : Lb) : List UInt8 := textFm l.S ++ 47 :: textFm l.I
theorem Lb.text_inj {l m : Lb} (hl : l.right = true) (hm : m.right = true) (h : l.text = m.text) : l = m := by
  obtain ⟨S, I⟩ := l
  obtain ⟨S', I'⟩ := m
  simp only [Lb.right, Bool.and_eq_true] at hl hm
  obtain ⟨h1, h2⟩ := split_inj (fun d hd => (chF_ne (textFm_ch S d hd)).1) (fun d hd => (chF_ne (textFm_ch S' d hd)).1) h
  rw [textFm_inj hl.1 hm.1 h1, textFm_inj hl.2 hm.2 h2]
theorem Lb.text_ch (l : Lb) : ∀ d ∈ l.text, d ≠ 60 ∧ d ≠ 62 := by
  intro d hd
  unfold Lb.text at hd
  rw [List.mem_append, List.mem_cons] at hd
  rcases hd with hd | rfl | hd
  · exact (chF_ne (textFm_ch _ d hd)).2
  · decide
  · exact (chF_ne (textFm_ch _ d hd)).2
theorem Lb.text_length (l : Lb) : l.text.length ≤ 1539 := by
  have h1 := textFm_length l.S
  have h2 := textFm_length l.I
  unfold Lb.text
  rw [List.length_append, List.length_cons]
  omega
theorem Lb.text_norm (l : Lb) : l.norm.text = l.text := by unfold Lb.text Lb.norm; simp only [textFm_norm]
theorem Lb.put_length (l : Lb) : l.put.length ≤ 130 := by
  have h1 := normL_length l.S
  have h2 := normL_length l.I
  unfold Lb.put
  rw [List.length_append, putFm_length, putFm_length]
  omega
end Go.Proofs.YtcgelcccboifjaaDoor
