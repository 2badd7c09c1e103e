/- Values: what the code computes, and what follows; no program in sight. -/
import Derived.Test.YtcgelcccboifjaaDoorLabSpec
import Derived.Test.YtcgelcccboifjaaDoorNameSpec
namespace Go.Proofs.YtcgelcccboifjaaDoor
structure Vl where
  k : Int
  n : Int
  nm : List UInt8
  l : Lb
def lb (S I : ByteArray) : Lb := ⟨S.data.toList, I.data.toList⟩
def vl (k n : Int) (m s i : ByteArray) : Vl := ⟨k, n, m.data.toList, lb s i⟩
def Vl.right (v : Vl) : Bool :=
  if v.k = 1 then v.nm.isEmpty && (v.l.S.isEmpty && v.l.I.isEmpty)
  else if v.k = 2 then v.n == 0 && v.nm.isEmpty && v.l.right
  else if 3 ≤ v.k ∧ v.k ≤ 7 then v.n == 0 && (readL v.nm).isSome && v.l.right else false
theorem empty_toList (m : ByteArray) : m.data.toList.isEmpty = m.toList.isEmpty := by rw [ByteArray.toList_eq]
theorem right1 (n : Int) (m s i : ByteArray) : (vl 1 n m s i).right = (m.toList.isEmpty && (s.toList.isEmpty && i.toList.isEmpty)) := by
  unfold Vl.right vl lb
  rw [if_pos rfl, empty_toList, empty_toList, empty_toList]
theorem right2 (n : Int) (m s i : ByteArray) : (vl 2 n m s i).right = (n == 0 && m.toList.isEmpty && (lb s i).right) := by
  unfold Vl.right vl
  rw [if_neg (by simp), if_pos rfl, empty_toList]
theorem right3 {k : Int} (h : 3 ≤ k) (h7 : k ≤ 7) (n : Int) (m s i : ByteArray) : (vl k n m s i).right = (n == 0 && (readL m.data.toList).isSome && (lb s i).right) := by
  unfold Vl.right vl
  simp only
  rw [if_neg (by omega), if_neg (by omega), if_pos ⟨h, h7⟩]
theorem right0 {k : Int} (h : k < 1 ∨ 7 < k) (n : Int) (m s i : ByteArray) : (vl k n m s i).right = false := by
  unfold Vl.right vl
  simp only
  rw [if_neg (by omega), if_neg (by omega), if_neg (by omega)]
/-! bytes -/
def Vl.putR (v : Vl) : List UInt8 :=
  if v.k = 1 then 1 :: putL v.n else if v.k = 2 then 2 :: v.l.put else UInt8.ofNat v.k.toNat :: UInt8.ofNat v.nm.length :: (v.nm ++ v.l.put)
def Vl.put (v : Vl) : List UInt8 := if v.right = true then v.putR else []
/-- a name with its length ahead, and how many bytes it takes -/
def getNm : List UInt8 → Option (List UInt8 × Nat)
  | [] => none
  | c :: l => if c.toNat ≤ l.length ∧ (readL (l.take c.toNat)).isSome = true then some (l.take c.toNat, c.toNat + 1) else none
/-- the value whose bytes stand at the head, and how many they are -/
def getV : List UInt8 → Option (Vl × Nat)
  | [] => none
  | c :: l =>
    if c.toNat = 1 then (match getR l 0 with
      | none => none
      | some (n, e) => some (⟨1, n, [], ⟨[], []⟩⟩, e.toNat + 1))
    else if c.toNat = 2 then (match getLb l with
      | none => none
      | some (b, n) => some (⟨2, 0, [], b⟩, n + 1))
    else if 3 ≤ c.toNat ∧ c.toNat ≤ 7 then (match getNm l with
      | none => none
      | some (m, n) => match getLb (l.drop n) with
        | none => none
        | some (b, n2) => some (⟨c.toNat, 0, m, b⟩, n + n2 + 1))
    else none
theorem getNm_put {m : List UInt8} (h : (readL m).isSome = true) (t : List UInt8) : getNm (UInt8.ofNat m.length :: (m ++ t)) = some (m, m.length + 1) := by
  obtain ⟨x, hx⟩ := Option.isSome_iff_exists.1 h
  have hl := readL_length hx
  have e : (UInt8.ofNat m.length).toNat = m.length := by rw [UInt8.toNat_ofNat']; omega
  rw [getNm, e, List.take_left, if_pos ⟨by simp, h⟩]
theorem getNm_some {s m : List UInt8} {n : Nat} (h : getNm s = some (m, n)) : (readL m).isSome = true ∧ n = m.length + 1 ∧ n ≤ s.length ∧ UInt8.ofNat m.length :: m = s.take n := by
  cases s with
  | nil => simp [getNm] at h
  | cons c l =>
    rw [getNm] at h
    by_cases hc : c.toNat ≤ l.length ∧ (readL (l.take c.toNat)).isSome = true
    · rw [if_pos hc] at h
      simp only [Option.some.injEq, Prod.mk.injEq] at h
      obtain ⟨rfl, rfl⟩ := h
      have hlen : (l.take c.toNat).length = c.toNat := by rw [List.length_take]; omega
      refine ⟨hc.2, by rw [hlen], by simp only [List.length_cons]; omega, ?_⟩
      rw [hlen, UInt8.ofNat_toNat]
      rfl
    · rw [if_neg hc] at h
      cases h
theorem getNm_torn {m : List UInt8} (h : (readL m).isSome = true) {k : Nat} (hk : k < m.length + 1) : getNm ((UInt8.ofNat m.length :: m).take k) = none := by
  cases k with
  | zero => rfl
  | succ k =>
    obtain ⟨x, hx⟩ := Option.isSome_iff_exists.1 h
    have hl := readL_length hx
    rw [List.take_succ_cons, getNm, if_neg]
    rw [UInt8.toNat_ofNat', List.length_take]
    omega
theorem getR_head {n : Int} (hn : InI64 n) (t : List UInt8) : getR (putL n ++ t) 0 = some (n, ((putL n).length : Int)) := by
  have := getR_putL n hn [] t
  simpa using this
/-- what is right, and put, is got -/
theorem getV_put {v : Vl} (h : v.right = true) (hn : InI64 v.n) (t : List UInt8) : getV (v.put ++ t) = some (v, v.put.length) := by
  obtain ⟨k, n, m, l⟩ := v
  have hp : Vl.put ⟨k, n, m, l⟩ = Vl.putR ⟨k, n, m, l⟩ := if_pos h
  rw [hp]
  unfold Vl.right at h
  unfold Vl.putR
  simp only at h hn ⊢
  by_cases k1 : k = 1
  · rw [if_pos k1] at h ⊢
    subst k1
    simp only [Bool.and_eq_true, List.isEmpty_iff] at h
    obtain ⟨S, I⟩ := l
    obtain ⟨rfl, rfl, rfl⟩ := h
    rw [List.cons_append, getV, if_pos (by rfl), getR_head hn]
    simp
  · rw [if_neg k1] at h ⊢
    by_cases k2 : k = 2
    · rw [if_pos k2] at h ⊢
      subst k2
      simp only [Bool.and_eq_true, List.isEmpty_iff, beq_iff_eq] at h
      obtain ⟨⟨rfl, rfl⟩, hl⟩ := h
      rw [List.cons_append, getV, if_neg (by decide), if_pos (by rfl), getLb_put hl]
      simp
    · rw [if_neg k2] at h ⊢
      by_cases k3 : 3 ≤ k ∧ k ≤ 7
      · rw [if_pos k3] at h
        simp only [Bool.and_eq_true, beq_iff_eq] at h
        obtain ⟨⟨rfl, hm⟩, hl⟩ := h
        have e : (UInt8.ofNat k.toNat).toNat = k.toNat := by rw [UInt8.toNat_ofNat']; omega
        rw [List.cons_append, getV, e, if_neg (by omega), if_neg (by omega), if_pos (by omega), List.cons_append, List.append_assoc, getNm_put hm]
        simp only [List.drop_succ_cons, List.drop_left]
        rw [getLb_put hl]
        simp only [List.length_cons, List.length_append, Option.some.injEq, Prod.mk.injEq]
        refine ⟨?_, by omega⟩
        rw [show ((k.toNat : Nat) : Int) = k by omega]
      · rw [if_neg k3] at h
        cases h
theorem getR_zero {l : List UInt8} {n e : Int} (h : getR l 0 = some (n, e)) : InI64 n ∧ 0 < e ∧ e ≤ l.length ∧ putL n = l.take e.toNat := by
  obtain ⟨h1, h2, h3, h4, h5, h6⟩ := putL_getR l 0 n e h
  refine ⟨h4, h2, h3, ?_⟩
  have h7 : (List.drop (0 : Int).toNat l) = l := rfl
  rw [h7, show (e - 0).toNat = e.toNat by omega] at h5
  exact h5.symm
theorem getR_shift (l : List UInt8) (a : Nat) : getR l a = (getR (l.drop a) 0).map fun p => (p.1, (a : Int) + p.2) := by
  unfold getR
  by_cases h : l.length ≤ a
  · rw [if_pos (by omega), if_pos (by rw [List.length_drop]; omega)]
    rfl
  · rw [if_neg (by omega), if_neg (by rw [List.length_drop]; omega)]
    have e1 : (a : Int).toNat = a := Int.toNat_natCast a
    have e2 : ((0 : Int)).toNat = 0 := rfl
    rw [e1, e2, List.drop_zero, Option.map_map]
    congr 1
    funext p
    simp
/-- what is got is right, and is what stands there -/
theorem getV_some {s : List UInt8} {v : Vl} {n : Nat} (h : getV s = some (v, n)) : v.right = true ∧ InI64 v.n ∧ n ≤ s.length ∧ v.put = s.take n ∧ 0 < n := by
  have key : v.right = true → v.putR = s.take n → v.put = s.take n := fun h1 h2 => by rw [← h2]; exact if_pos h1
  have h0 : InI64 0 := by unfold InI64; omega
  cases s with
  | nil => simp [getV] at h
  | cons c l =>
    rw [getV] at h
    by_cases k1 : c.toNat = 1
    · rw [if_pos k1] at h
      cases hr : getR l 0 with
      | none => rw [hr] at h; cases h
      | some p =>
        obtain ⟨x, e⟩ := p
        rw [hr] at h
        simp only [Option.some.injEq, Prod.mk.injEq] at h
        obtain ⟨rfl, rfl⟩ := h
        obtain ⟨h1, h2, h3, h4⟩ := getR_zero hr
        have hR : Vl.right ⟨1, x, [], ⟨[], []⟩⟩ = true := rfl
        refine ⟨hR, h1, by simp only [List.length_cons]; omega, key hR ?_, by omega⟩
        show (1 : UInt8) :: putL x = _
        rw [List.take_succ_cons, ← h4]
        congr 1
        exact UInt8.toNat_inj.1 k1.symm
    · rw [if_neg k1] at h
      by_cases k2 : c.toNat = 2
      · rw [if_pos k2] at h
        cases hr : getLb l with
        | none => rw [hr] at h; cases h
        | some p =>
          obtain ⟨b, e⟩ := p
          rw [hr] at h
          simp only [Option.some.injEq, Prod.mk.injEq] at h
          obtain ⟨rfl, rfl⟩ := h
          obtain ⟨h1, h2, h3, h4⟩ := getLb_some hr
          have hR : Vl.right ⟨2, 0, [], b⟩ = true := by
            show ((0 : Int) == 0 && List.isEmpty ([] : List UInt8) && b.right) = true
            rw [h1]; rfl
          refine ⟨hR, h0, by simp only [List.length_cons]; omega, key hR ?_, by omega⟩
          show (2 : UInt8) :: b.put = _
          rw [List.take_succ_cons, ← h3]
          congr 1
          exact UInt8.toNat_inj.1 k2.symm
      · rw [if_neg k2] at h
        by_cases k3 : 3 ≤ c.toNat ∧ c.toNat ≤ 7
        · rw [if_pos k3] at h
          cases hm : getNm l with
          | none => rw [hm] at h; cases h
          | some p =>
            obtain ⟨m, e⟩ := p
            rw [hm] at h
            simp only at h
            cases hr : getLb (l.drop e) with
            | none => rw [hr] at h; cases h
            | some q =>
              obtain ⟨b, e2⟩ := q
              rw [hr] at h
              simp only [Option.some.injEq, Prod.mk.injEq] at h
              obtain ⟨rfl, rfl⟩ := h
              obtain ⟨m1, m2, m3, m4⟩ := getNm_some hm
              obtain ⟨h1, h2, h3, h4⟩ := getLb_some hr
              rw [List.length_drop] at h2
              have hR : Vl.right ⟨c.toNat, 0, m, b⟩ = true := by
                unfold Vl.right
                simp only
                rw [if_neg (by omega), if_neg (by omega), if_pos (by omega), m1, h1]
                rfl
              refine ⟨hR, h0, by simp only [List.length_cons]; omega, key hR ?_, by omega⟩
              unfold Vl.putR
              simp only
              rw [if_neg (by omega), if_neg (by omega), List.take_succ_cons, List.take_add, ← m4, ← h3]
              simp
        · rw [if_neg k3] at h
          cases h
/-- a beginning of what is put is none -/
theorem getV_torn {v : Vl} (h : v.right = true) (hn : InI64 v.n) {k : Nat} (hk : k < v.put.length) : getV (v.put.take k) = none := by
  cases hg : getV (v.put.take k) with
  | none => rfl
  | some p =>
    obtain ⟨v', n'⟩ := p
    obtain ⟨h1, h2, h3, h4, h5⟩ := getV_some hg
    rw [List.length_take] at h3
    rw [List.take_take, show min n' k = n' by omega] at h4
    have e1 := getV_put h1 h2 (v.put.drop n')
    have e2 := getV_put h hn []
    rw [h4, List.take_append_drop] at e1
    rw [List.append_nil, e1] at e2
    simp only [Option.some.injEq, Prod.mk.injEq] at e2
    have := e2.2
    rw [List.length_take] at this
    omega
theorem put_ne {v : Vl} (h : v.right = true) : v.put ≠ [] := by
  have : v.put = v.putR := if_pos h
  rw [this]
  unfold Vl.putR
  split
  · simp
  · split <;> simp
theorem put_inj {v v' : Vl} (h : v.right = true) (hn : InI64 v.n) (h' : v'.right = true) (hn' : InI64 v'.n) (e : v.put = v'.put) : v = v' := by
  have e1 := getV_put h hn []
  have e2 := getV_put h' hn' []
  rw [e, e2] at e1
  simp only [Option.some.injEq, Prod.mk.injEq] at e1
  exact e1.1.symm
theorem put_length {v : Vl} : v.put.length ≤ 240 := by
  unfold Vl.put
  split
  · rename_i h
    unfold Vl.putR
    have h1 := putL_length v.n
    have h2 := Lb.put_length v.l
    by_cases k1 : v.k = 1
    · rw [if_pos k1]; simp; omega
    · rw [if_neg k1]
      by_cases k2 : v.k = 2
      · rw [if_pos k2]; simp; omega
      · rw [if_neg k2]
        unfold Vl.right at h
        rw [if_neg k1, if_neg k2] at h
        by_cases k3 : 3 ≤ v.k ∧ v.k ≤ 7
        · rw [if_pos k3] at h
          simp only [Bool.and_eq_true] at h
          obtain ⟨x, hx⟩ := Option.isSome_iff_exists.1 h.1.2
          have := readL_length hx
          simp
          omega
        · rw [if_neg k3] at h; cases h
  · simp
/-! texts -/
def wordV (k : Int) : List UInt8 := if k = 3 then [98, 111, 120] else if k = 4 then [114, 101, 102] else if k = 5 then [118, 97, 114] else if k = 6 then [99, 101, 108, 108] else [103, 97, 116, 101]
def markV (l : Lb) : List UInt8 := 60 :: (l.text ++ [62])
def Vl.textR (v : Vl) : List UInt8 := if v.k = 1 then Lib.itoa v.n else if v.k = 2 then markV v.l else wordV v.k ++ 58 :: (v.nm ++ markV v.l)
def Vl.text (v : Vl) : List UInt8 := if v.right = true then v.textR else [63]
theorem joinL_ch : ∀ (l : List Int), (∀ n ∈ l, 0 ≤ n ∧ n ≤ 999) → ∀ c ∈ joinL l, c ≠ 60
  | [], _, c, hc => by simp [joinL] at hc
  | [n], h, c, hc => by
    have := (itoa_small_bytes (h n (by simp))).1 c hc
    rintro rfl
    simp at this
  | n :: m :: l, h, c, hc => by
    rw [joinL, List.mem_append, List.mem_cons] at hc
    rcases hc with hc | rfl | hc
    · have := (itoa_small_bytes (h n (by simp))).1 c hc
      rintro rfl
      simp at this
    · decide
    · exact joinL_ch (m :: l) (fun x hx => h x (by simp [hx])) c hc
theorem name_ch {m : List UInt8} (h : (readL m).isSome = true) : ∀ c ∈ m, c ≠ 60 := by
  obtain ⟨x, hx⟩ := Option.isSome_iff_exists.1 h
  obtain ⟨hf, he⟩ := readL_some hx
  rw [← he]
  exact joinL_ch x hf.2.2
theorem word_ch (k : Int) : ∀ c ∈ wordV k, c ≠ 58 := by
  unfold wordV
  split
  · decide
  · split
    · decide
    · split
      · decide
      · split
        · decide
        · decide
theorem word_inj {k k' : Int} (h : 3 ≤ k ∧ k ≤ 7) (h' : 3 ≤ k' ∧ k' ≤ 7) (e : wordV k = wordV k') : k = k' := by
  have h2 : ∀ i j : Fin 5, wordV ((i.val : Int) + 3) = wordV ((j.val : Int) + 3) → i = j := by decide
  have := h2 ⟨(k - 3).toNat, by omega⟩ ⟨(k' - 3).toNat, by omega⟩
  simp only at this
  rw [show (((k - 3).toNat : Nat) : Int) + 3 = k by omega, show (((k' - 3).toNat : Nat) : Int) + 3 = k' by omega] at this
  have := Fin.mk.inj_iff.1 (this e)
  omega
theorem mark_inj {l l' : Lb} (h : l.right = true) (h' : l'.right = true) (e : markV l = markV l') : l = l' := by
  unfold markV at e
  simp only [List.cons.injEq, true_and] at e
  exact Lb.text_inj h h' (List.append_cancel_right e)
/-- the first byte -/
theorem itoa_first (n : Int) (c : UInt8) (h : (Lib.itoa n)[0]? = some c) : (48 ≤ c.toNat ∧ c.toNat ≤ 57) ∨ c = 45 := by
  rcases itoa_bytes n 0 c h with h | h
  · exact Or.inl h
  · exact Or.inr h.2
theorem word_first (k : Int) : ∃ c l, wordV k = c :: l ∧ 97 ≤ c.toNat := by
  unfold wordV
  split
  · exact ⟨_, _, rfl, by decide⟩
  · split
    · exact ⟨_, _, rfl, by decide⟩
    · split
      · exact ⟨_, _, rfl, by decide⟩
      · split
        · exact ⟨_, _, rfl, by decide⟩
        · exact ⟨_, _, rfl, by decide⟩
theorem itoa_mark {n : Int} {l : List UInt8} : Lib.itoa n ≠ 60 :: l := by
  intro e
  rcases itoa_first n 60 (by rw [e]; rfl) with h | h
  · simp at h
  · simp at h
theorem itoa_word {n k : Int} {l : List UInt8} : Lib.itoa n ≠ wordV k ++ l := by
  obtain ⟨c, r, hc, h97⟩ := word_first k
  intro e
  rw [hc] at e
  rcases itoa_first n c (by rw [e]; rfl) with h | h
  · omega
  · subst h; simp at h97
theorem mark_word {k : Int} {x l : List UInt8} : (60 : UInt8) :: x ≠ wordV k ++ l := by
  obtain ⟨c, r, hc, h97⟩ := word_first k
  rw [hc]
  intro e
  simp only [List.cons_append, List.cons.injEq] at e
  rw [← e.1] at h97
  simp at h97
theorem text_inj {v v' : Vl} (h : v.right = true) (hn : InI64 v.n) (h' : v'.right = true) (hn' : InI64 v'.n) (e : v.text = v'.text) : v = v' := by
  have t1 : v.text = v.textR := if_pos h
  have t2 : v'.text = v'.textR := if_pos h'
  rw [t1, t2] at e
  obtain ⟨k, n, m, l⟩ := v
  obtain ⟨k', n', m', l'⟩ := v'
  unfold Vl.right at h h'
  unfold Vl.textR at e
  simp only at h h' e hn hn'
  by_cases k1 : k = 1
  · rw [if_pos k1] at h e
    by_cases k1' : k' = 1
    · rw [if_pos k1'] at h' e
      obtain ⟨S, I⟩ := l
      obtain ⟨S', I'⟩ := l'
      simp only [Bool.and_eq_true, List.isEmpty_iff] at h h'
      obtain ⟨rfl, rfl, rfl⟩ := h
      obtain ⟨rfl, rfl, rfl⟩ := h'
      rw [k1, k1', itoa_inj hn hn' e]
    · rw [if_neg k1'] at e
      by_cases k2' : k' = 2
      · rw [if_pos k2'] at e; exact absurd e itoa_mark
      · rw [if_neg k2'] at e; exact absurd e itoa_word
  · rw [if_neg k1] at h e
    by_cases k2 : k = 2
    · rw [if_pos k2] at h e
      by_cases k1' : k' = 1
      · rw [if_pos k1'] at e; exact absurd e.symm itoa_mark
      · rw [if_neg k1'] at h' e
        by_cases k2' : k' = 2
        · rw [if_pos k2'] at h' e
          simp only [Bool.and_eq_true, List.isEmpty_iff, beq_iff_eq] at h h'
          obtain ⟨⟨rfl, rfl⟩, hl⟩ := h
          obtain ⟨⟨rfl, rfl⟩, hl'⟩ := h'
          rw [k2, k2', mark_inj hl hl' e]
        · rw [if_neg k2'] at e; exact absurd e mark_word
    · rw [if_neg k2] at h e
      by_cases k3 : 3 ≤ k ∧ k ≤ 7
      · rw [if_pos k3] at h
        by_cases k1' : k' = 1
        · rw [if_pos k1'] at e; exact absurd e.symm itoa_word
        · rw [if_neg k1'] at h' e
          by_cases k2' : k' = 2
          · rw [if_pos k2'] at e; exact absurd e.symm mark_word
          · rw [if_neg k2'] at h' e
            by_cases k3' : 3 ≤ k' ∧ k' ≤ 7
            · rw [if_pos k3'] at h'
              simp only [Bool.and_eq_true, beq_iff_eq] at h h'
              obtain ⟨⟨rfl, hm⟩, hl⟩ := h
              obtain ⟨⟨rfl, hm'⟩, hl'⟩ := h'
              obtain ⟨e1, e2⟩ := split_inj (word_ch k) (word_ch k') e
              obtain ⟨e3, e4⟩ := split_inj (name_ch hm) (name_ch hm') e2
              have e5 := Lb.text_inj hl hl' (List.append_cancel_right e4)
              rw [word_inj k3 k3' e1, e3, e5]
            · rw [if_neg k3'] at h'; cases h'
      · rw [if_neg k3] at h; cases h
theorem text_length (v : Vl) (hn : InI64 v.n) : v.text.length ≤ 1700 := by
  unfold Vl.text
  split
  · rename_i h
    unfold Vl.textR
    have h1 := itoa_len v.n hn
    have h2 := Lb.text_length v.l
    by_cases k1 : v.k = 1
    · rw [if_pos k1]; omega
    · rw [if_neg k1]
      by_cases k2 : v.k = 2
      · rw [if_pos k2]; unfold markV; simp; omega
      · rw [if_neg k2]
        unfold Vl.right at h
        rw [if_neg k1, if_neg k2] at h
        by_cases k3 : 3 ≤ v.k ∧ v.k ≤ 7
        · rw [if_pos k3] at h
          simp only [Bool.and_eq_true] at h
          obtain ⟨x, hx⟩ := Option.isSome_iff_exists.1 h.1.2
          have := readL_length hx
          have hw : (wordV v.k).length ≤ 4 := by
            unfold wordV
            split
            · decide
            · split
              · decide
              · split
                · decide
                · split <;> decide
          unfold markV
          simp
          omega
        · rw [if_neg k3] at h; cases h
  · simp
end Go.Proofs.YtcgelcccboifjaaDoor
