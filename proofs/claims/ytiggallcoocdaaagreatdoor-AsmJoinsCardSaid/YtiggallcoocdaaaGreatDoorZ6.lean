/- AsmSpec, AsmLib, AsmSz, AsmLaws: joined into one text; each part says below what it holds. -/
import Derived.Test.YtiggallcoocdaaaGreatDoorZ2
import Derived.Lib.SplitLaws
import Derived.Lib.IndexBytes
/- What the package asm computes, as plain functions on lists; no program is in sight. -/
namespace Go.Proofs.YtiggallcoocdaaaGreatDoor
open Go.RowKit
/-- what stands between the places of a byte -/
def pieces (p : UInt8) : List UInt8 → List (List UInt8)
  | [] => [[]]
  | c :: l => if c = p then [] :: pieces p l else match pieces p l with
    | [] => [[c]]
    | h :: t => (c :: h) :: t
theorem pieces_ne (p : UInt8) : ∀ l, pieces p l ≠ []
  | [] => by simp [pieces]
  | c :: l => by
    unfold pieces
    split
    · simp
    · split <;> simp
theorem pieces_cons {p c : UInt8} (h : c ≠ p) (l : List UInt8) : ∃ a t, pieces p l = a :: t ∧ pieces p (c :: l) = (c :: a) :: t := by
  cases hw : pieces p l with
  | nil => exact absurd hw (pieces_ne p l)
  | cons a t =>
    refine ⟨a, t, rfl, ?_⟩
    rw [pieces, if_neg h, hw]
theorem pieces_at (p : UInt8) (l : List UInt8) : pieces p (p :: l) = [] :: pieces p l := by rw [pieces, if_pos rfl]
theorem pieces_none {p : UInt8} : ∀ {l : List UInt8}, (∀ c ∈ l, c ≠ p) → pieces p l = [l]
  | [], _ => rfl
  | c :: l, h => by
    obtain ⟨a, t, h1, h2⟩ := pieces_cons (h c (by simp)) l
    rw [pieces_none (l := l) (fun x hx => h x (by simp [hx]))] at h1
    simp only [List.cons.injEq] at h1
    obtain ⟨rfl, rfl⟩ := h1
    exact h2
theorem pieces_join (p : UInt8) : ∀ (l m : List UInt8), pieces p (l ++ p :: m) = pieces p l ++ pieces p m
  | [], m => by
    rw [List.nil_append, pieces_at]
    rfl
  | c :: l, m => by
    rw [List.cons_append]
    by_cases h : c = p
    · subst h
      rw [pieces_at, pieces_at, pieces_join c l m]
      rfl
    · obtain ⟨a, t, h1, h2⟩ := pieces_cons h l
      obtain ⟨b, s, h3, h4⟩ := pieces_cons h (l ++ p :: m)
      rw [pieces_join p l m, h1] at h3
      simp only [List.cons_append, List.cons.injEq] at h3
      obtain ⟨rfl, rfl⟩ := h3
      rw [h4, h2]
      rfl
theorem pieces_app {p : UInt8} {l : List UInt8} (h : ∀ c ∈ l, c ≠ p) (m : List UInt8) : pieces p (l ++ p :: m) = l :: pieces p m := by
  rw [pieces_join, pieces_none h]
  rfl
theorem pieces_no {p : UInt8} : ∀ {l : List UInt8}, ∀ x ∈ pieces p l, ∀ c ∈ x, c ≠ p
  | [], x, hx, c, hc => by
    simp [pieces] at hx
    subst hx
    simp at hc
  | d :: l, x, hx, c, hc => by
    by_cases h : d = p
    · subst h
      rw [pieces_at] at hx
      rcases List.mem_cons.1 hx with rfl | hx
      · simp at hc
      · exact pieces_no x hx c hc
    · obtain ⟨a, t, h1, h2⟩ := pieces_cons h l
      rw [h2] at hx
      rcases List.mem_cons.1 hx with rfl | hx
      · rcases List.mem_cons.1 hc with rfl | hc
        · exact h
        · exact pieces_no (l := l) a (by rw [h1]; simp) c hc
      · exact pieces_no (l := l) x (by rw [h1]; simp [hx]) c hc
def joinW (p : UInt8) : List (List UInt8) → List UInt8
  | [] => []
  | [w] => w
  | w :: v :: l => w ++ p :: joinW p (v :: l)
theorem pieces_joinW {p : UInt8} : ∀ {ws : List (List UInt8)}, ws ≠ [] → (∀ w ∈ ws, ∀ c ∈ w, c ≠ p) → pieces p (joinW p ws) = ws
  | [], h, _ => absurd rfl h
  | [w], _, h => pieces_none (h w (by simp))
  | w :: v :: l, _, h => by
    rw [joinW, pieces_app (h w (by simp)), pieces_joinW (by simp) (fun x hx => h x (by simp [hx]))]
theorem joinW_pieces (p : UInt8) : ∀ l : List UInt8, joinW p (pieces p l) = l
  | [] => rfl
  | c :: l => by
    by_cases h : c = p
    · subst h
      rw [pieces_at]
      have := joinW_pieces c l
      cases hp : pieces c l with
      | nil => exact absurd hp (pieces_ne c l)
      | cons a t =>
        rw [hp] at this
        rw [joinW, this]
        rfl
    · obtain ⟨a, t, h1, h2⟩ := pieces_cons h l
      have := joinW_pieces p l
      rw [h1] at this
      rw [h2]
      cases t with
      | nil =>
        rw [joinW] at this ⊢
        rw [this]
      | cons b t =>
        rw [joinW] at this ⊢
        rw [← this]
        rfl
/-- what stands ahead of the first place of a byte, and behind it -/
def cutP (p : UInt8) : List UInt8 → Option (List UInt8 × List UInt8)
  | [] => none
  | c :: l => if c = p then some ([], l) else (cutP p l).map fun x => (c :: x.1, x.2)
theorem cutP_app {p : UInt8} : ∀ {a : List UInt8}, (∀ c ∈ a, c ≠ p) → ∀ b, cutP p (a ++ p :: b) = some (a, b)
  | [], _, b => by simp [cutP]
  | c :: a, h, b => by
    rw [List.cons_append, cutP, if_neg (h c (by simp)), cutP_app (fun x hx => h x (by simp [hx]))]
    rfl
theorem cutP_none {p : UInt8} : ∀ {l : List UInt8}, (∀ c ∈ l, c ≠ p) → cutP p l = none
  | [], _ => rfl
  | c :: l, h => by
    rw [cutP, if_neg (h c (by simp)), cutP_none (fun x hx => h x (by simp [hx]))]
    rfl
theorem cutP_some {p : UInt8} : ∀ {l a b : List UInt8}, cutP p l = some (a, b) → l = a ++ p :: b ∧ ∀ c ∈ a, c ≠ p
  | [], a, b, h => by simp [cutP] at h
  | c :: l, a, b, h => by
    rw [cutP] at h
    split at h
    · rename_i e
      simp only [Option.some.injEq, Prod.mk.injEq] at h
      obtain ⟨rfl, rfl⟩ := h
      exact ⟨by rw [e]; rfl, fun x hx => by simp at hx⟩
    · rename_i e
      cases hc : cutP p l with
      | none => rw [hc] at h; cases h
      | some x =>
        obtain ⟨a', b'⟩ := x
        rw [hc] at h
        simp only [Option.map_some, Option.some.injEq, Prod.mk.injEq] at h
        obtain ⟨rfl, rfl⟩ := h
        obtain ⟨h1, h2⟩ := cutP_some hc
        refine ⟨by rw [h1]; rfl, fun x hx => ?_⟩
        rcases List.mem_cons.1 hx with rfl | hx
        · exact e
        · exact h2 x hx
/-! principals, formulas and labels of texts -/
def allSets : List UInt8 := (List.range 64).map UInt8.ofNat
def parseP (l : List UInt8) : Option UInt8 := allSets.find? fun c => textP c == l
theorem parseP_some {l : List UInt8} {c : UInt8} (h : parseP l = some c) : c.toNat < 64 ∧ textP c = l := by
  unfold parseP at h
  have h1 := List.mem_of_find?_eq_some h
  have h2 := List.find?_some h
  unfold allSets at h1
  obtain ⟨n, hn, rfl⟩ := List.mem_map.1 h1
  rw [List.mem_range] at hn
  refine ⟨by rw [UInt8.toNat_ofNat']; omega, by simpa using h2⟩
theorem parseP_text {c : UInt8} (h : c.toNat < 64) : parseP (textP c) = some c := by
  cases hp : parseP (textP c) with
  | some d =>
    obtain ⟨h1, h2⟩ := parseP_some hp
    rw [textP_inj h1 h h2]
  | none =>
    unfold parseP at hp
    rw [List.find?_eq_none] at hp
    have hm : c ∈ allSets := by
      unfold allSets
      refine List.mem_map.2 ⟨c.toNat, List.mem_range.2 h, UInt8.ofNat_toNat⟩
    exact absurd (by simp) (hp c hm)
def goF : List UInt8 → List (List UInt8) → Option (List UInt8)
  | acc, [] => some acc
  | acc, w :: ws => match parseP w with
    | some c => if c = 0 ∨ acc.length = 64 then none else goF (acc ++ [c]) ws
    | none => none
def parseFm (l : List UInt8) : Option (List UInt8) := if l = [84] then some [] else if l = [70] then some [0] else match goF [] (pieces 38 l) with
  | some f => if rightFm f then some f else none
  | none => none
theorem goF_some : ∀ {ws : List (List UInt8)} {acc f : List UInt8}, goF acc ws = some f → ∃ g, f = acc ++ g ∧ ws = g.map textP ∧ (∀ c ∈ g, c.toNat < 64 ∧ c ≠ 0)
  | [], acc, f, h => by
    simp only [goF, Option.some.injEq] at h
    exact ⟨[], by simp [h], rfl, fun c hc => by simp at hc⟩
  | w :: ws, acc, f, h => by
    rw [goF] at h
    cases hp : parseP w with
    | none => rw [hp] at h; cases h
    | some c =>
      rw [hp] at h
      simp only at h
      split at h
      · cases h
      · rename_i hn
        obtain ⟨g, h1, h2, h3⟩ := goF_some h
        obtain ⟨h4, h5⟩ := parseP_some hp
        refine ⟨c :: g, by rw [h1]; simp, by rw [h2, ← h5]; rfl, fun x hx => ?_⟩
        rcases List.mem_cons.1 hx with rfl | hx
        · exact ⟨h4, fun e => hn (.inl e)⟩
        · exact h3 x hx
theorem goF_text : ∀ {g acc : List UInt8}, (∀ c ∈ g, c.toNat < 64 ∧ c ≠ 0) → acc.length + g.length ≤ 64 → goF acc (g.map textP) = some (acc ++ g)
  | [], acc, _, _ => by simp [goF]
  | c :: g, acc, h, hl => by
    have h1 := h c (by simp)
    simp only [List.length_cons] at hl
    rw [List.map_cons, goF, parseP_text h1.1]
    simp only
    have hno : ¬ (c = 0 ∨ acc.length = 64) := fun e => e.elim h1.2 (fun e => by omega)
    rw [if_neg hno, goF_text (fun x hx => h x (by simp [hx])) (by simp; omega)]
    simp
theorem joinP_W : ∀ (l : List UInt8), joinP l = joinW 38 (l.map textP)
  | [] => rfl
  | [c] => rfl
  | c :: d :: l => by
    rw [joinP, joinP_W (d :: l)]
    rfl
theorem least_zero {m : List UInt8} (h0 : (0 : UInt8) ∈ m) : ∀ k, leastGo m (k + 1) = [0]
  | 0 => by
    rw [leastGo, if_pos]
    · rfl
    · rw [Bool.and_eq_true, List.contains_iff_mem]
      exact ⟨h0, rfl⟩
  | k + 1 => by
    have h1 : inS 0 (UInt8.ofNat (k + 1)) = true := by
      unfold inS
      rw [UInt8.zero_and]
      rfl
    rw [leastGo, least_zero h0 k, if_neg]
    intro hc
    rw [Bool.and_eq_true] at hc
    have h2 := hc.2
    rw [List.any_cons, h1] at h2
    cases h2
theorem right_zero {f : List UInt8} (h : rightFm f = true) (h0 : (0 : UInt8) ∈ f) : f = [0] := by
  have h1 := rightFm_eq h
  have h2 : (0 : UInt8) ∈ f.map c6 := List.mem_map.2 ⟨0, h0, rfl⟩
  rw [← h1]
  exact least_zero h2 255
theorem textFm_right {f : List UInt8} (h : rightFm f = true) : textFm f = textN f := by
  unfold textFm
  rw [rightFm_eq h]
theorem parseFm_some {l f : List UInt8} (h : parseFm l = some f) : rightFm f = true ∧ textFm f = l := by
  unfold parseFm at h
  split at h
  · rename_i e
    obtain rfl := Option.some.inj h
    exact ⟨by decide +kernel, by rw [e]; decide +kernel⟩
  · split at h
    · rename_i e
      obtain rfl := Option.some.inj h
      exact ⟨by decide +kernel, by rw [e]; decide +kernel⟩
    · cases hg : goF [] (pieces 38 l) with
      | none => rw [hg] at h; cases h
      | some g =>
        rw [hg] at h
        simp only at h
        split at h
        · rename_i hr
          obtain rfl := Option.some.inj h
          refine ⟨hr, ?_⟩
          obtain ⟨g', h1, h2, h3⟩ := goF_some hg
          rw [List.nil_append] at h1
          subst h1
          have hne : g ≠ [] := fun e => by
            rw [e] at h2
            exact pieces_ne 38 l h2
          rw [textFm_right hr]
          unfold textN
          rw [if_neg hne, if_neg (fun e => by
            rw [e] at h3
            exact (h3 0 (by simp)).2 rfl), joinP_W, ← h2, joinW_pieces]
        · cases h
theorem parseFm_text {f : List UInt8} (h : rightFm f = true) : parseFm (textFm f) = some f := by
  rw [textFm_right h]
  have hlt := rightFm_lt h
  have hlen := rightFm_length h
  unfold textN
  by_cases h1 : f = []
  · rw [if_pos h1, h1]
    rfl
  · rw [if_neg h1]
    by_cases h2 : f = [0]
    · rw [if_pos h2, h2]
      rfl
    · rw [if_neg h2]
      obtain ⟨n1, n2⟩ := not_TF hlt
      have h3 : ∀ c ∈ f, c.toNat < 64 ∧ c ≠ 0 := fun c hc => ⟨hlt c hc, fun e => h2 (right_zero h (e ▸ hc))⟩
      unfold parseFm
      rw [if_neg n1, if_neg n2, joinP_W, pieces_joinW (by simpa using h1) (fun w hw => by
        obtain ⟨c, hc, rfl⟩ := List.mem_map.1 hw
        exact no_amp (hlt c hc)), goF_text h3 (by simpa using hlen)]
      simp only [List.nil_append]
      rw [if_pos h]
def parseLb (l : List UInt8) : Option Lb := match cutP 47 l with
  | none => none
  | some (a, b) => match parseFm a with
    | none => none
    | some s => match parseFm b with
      | none => none
      | some i => some ⟨s, i⟩
theorem parseLb_text {l : Lb} (h : l.right = true) : parseLb l.text = some l := by
  unfold Lb.right at h
  simp only [Bool.and_eq_true] at h
  unfold parseLb Lb.text
  rw [cutP_app (fun c hc => (chF_ne (textFm_ch l.S c hc)).1)]
  simp only
  rw [parseFm_text h.1, parseFm_text h.2]
theorem parseLb_some {l : List UInt8} {b : Lb} (h : parseLb l = some b) : b.right = true ∧ b.text = l := by
  unfold parseLb at h
  cases hc : cutP 47 l with
  | none => rw [hc] at h; cases h
  | some x =>
    obtain ⟨p, q⟩ := x
    rw [hc] at h
    simp only at h
    cases hs : parseFm p with
    | none => rw [hs] at h; cases h
    | some s =>
      rw [hs] at h
      simp only at h
      cases hi : parseFm q with
      | none => rw [hi] at h; cases h
      | some i =>
        rw [hi] at h
        obtain rfl := Option.some.inj h
        obtain ⟨s1, s2⟩ := parseFm_some hs
        obtain ⟨i1, i2⟩ := parseFm_some hi
        refine ⟨by simp [Lb.right, s1, i1], ?_⟩
        rw [(cutP_some hc).1]
        unfold Lb.text
        rw [s2, i2]
/-! lines -/
def sInt : List UInt8 := [105, 110, 116]
def sMark : List UInt8 := [109, 97, 114, 107]
def sFun : List UInt8 := [102, 117, 110]
def silent (s : List UInt8) : Bool := match s with
  | [] => true
  | c :: _ => c == 35
def numI (im : Im) (r : List UInt8) : Option Im := match parseS r with
  | some n => if im.fs = [] then some ⟨im.cs ++ [⟨1, n, [], ⟨[], []⟩⟩], im.fs⟩ else none
  | none => none
def markI (im : Im) (r : List UInt8) : Option Im := match parseLb r with
  | some l => if im.fs = [] then some ⟨im.cs ++ [⟨2, 0, [], l⟩], im.fs⟩ else none
  | none => none
def funI (im : Im) (r : List UInt8) : Option Im := match parseS ((cutP 32 r).getD (r, [])).1, parseS ((cutP 32 r).getD (r, [])).2 with
  | some x, some y => if 0 ≤ x ∧ x ≤ 255 ∧ 0 ≤ y ∧ y ≤ 255 then some ⟨im.cs, im.fs ++ [⟨x, y, []⟩]⟩ else none
  | _, _ => none
def addOp (o : Int × Int) : List Fn → List Fn
  | [] => []
  | [f] => [⟨f.a, f.v, f.c ++ [o]⟩]
  | f :: g :: l => f :: addOp o (g :: l)
def opI (im : Im) (s : List UInt8) : Option Im := match opParse s with
  | some o => if im.fs = [] then none else some ⟨im.cs, addOp o im.fs⟩
  | none => none
def stepL (im : Im) (s : List UInt8) : Option Im :=
  if silent s = true then some im else match cutP 32 s with
    | some (w, r) => if w = sInt then numI im r else if w = sMark then markI im r else if w = sFun then funI im r else opI im s
    | none => opI im s
def runL : Im → List (List UInt8) → Option Im
  | im, [] => some im
  | im, s :: ls => match stepL im s with
    | some im' => runL im' ls
    | none => none
/-- how many lines ahead of the first one that is none -/
def badL : Im → List (List UInt8) → Nat
  | _, [] => 0
  | im, s :: ls => match stepL im s with
    | some im' => badL im' ls + 1
    | none => 0
def im0 : Im := ⟨[], []⟩
/-- what Parse tells: the program, the line, the error -/
def parseA (l : List UInt8) : Im × Nat × Int := match runL im0 (pieces 10 l) with
  | none => (im0, badL im0 (pieces 10 l) + 1, 4)
  | some im => if im.check = 0 then (im, 0, 0) else (im0, 0, im.check)
def lineC (v : Vl) : List UInt8 := if v.k = 1 then sInt ++ 32 :: Lib.itoa v.n else sMark ++ 32 :: v.l.text
def lineF (f : Fn) : List UInt8 := sFun ++ 32 :: (Lib.itoa f.a ++ 32 :: Lib.itoa f.v)
def lineO (o : Int × Int) : List UInt8 := opText o.1 o.2
def linesF (f : Fn) : List (List UInt8) := lineF f :: f.c.map lineO
def linesI (im : Im) : List (List UInt8) := im.cs.map lineC ++ im.fs.flatMap linesF
def printL (ls : List (List UInt8)) : List UInt8 := ls.flatMap (· ++ [10])
def printI (im : Im) : List UInt8 := if im.check = 0 then printL (linesI im) else []
theorem runL_append : ∀ (a b : List (List UInt8)) (im : Im), runL im (a ++ b) = (runL im a).bind fun x => runL x b
  | [], b, im => rfl
  | s :: a, b, im => by
    rw [List.cons_append, runL, runL]
    cases h : stepL im s with
    | none => rfl
    | some x => exact runL_append a b x
theorem stepL_silent {s : List UInt8} (h : silent s = true) (im : Im) : stepL im s = some im := by
  unfold stepL
  rw [if_pos h]
theorem runL_silent : ∀ {ls : List (List UInt8)}, (∀ s ∈ ls, silent s = true) → ∀ im, runL im ls = some im
  | [], _, im => rfl
  | s :: ls, h, im => by
    rw [runL, stepL_silent (h s (by simp))]
    exact runL_silent (fun x hx => h x (by simp [hx])) im
theorem badL_append_none : ∀ {a : List (List UInt8)} (b : List (List UInt8)) {im : Im}, runL im a = none → badL im (a ++ b) = badL im a
  | [], b, im, h => by cases h
  | s :: a, b, im, h => by
    rw [List.cons_append, badL, badL]
    rw [runL] at h
    cases hs : stepL im s with
    | none => rfl
    | some x =>
      rw [hs] at h
      simp only
      rw [badL_append_none b h]
theorem badL_lt : ∀ {a : List (List UInt8)} {im : Im}, runL im a = none → badL im a < a.length
  | [], im, h => by cases h
  | s :: a, im, h => by
    rw [badL]
    rw [runL] at h
    cases hs : stepL im s with
    | none => simp
    | some x =>
      rw [hs] at h
      have := badL_lt (a := a) (im := x) h
      simp only [List.length_cons]
      omega
/-- all ahead of the first line that is none are lines; with it they are not -/
theorem badL_take : ∀ {a : List (List UInt8)} {im : Im}, runL im a = none → (runL im (a.take (badL im a))).isSome = true ∧ runL im (a.take (badL im a + 1)) = none
  | [], im, h => by cases h
  | s :: a, im, h => by
    rw [badL]
    rw [runL] at h
    cases hs : stepL im s with
    | none =>
      simp only [List.take_zero, List.take_succ_cons, runL, hs]
      exact ⟨rfl, trivial⟩
    | some x =>
      rw [hs] at h
      obtain ⟨h1, h2⟩ := badL_take (a := a) (im := x) h
      simp only [List.take_succ_cons, runL, hs]
      exact ⟨h1, h2⟩
/-! what is printed is parsed -/
theorem pieces_print {ls : List (List UInt8)} (h : ∀ s ∈ ls, ∀ c ∈ s, c ≠ 10) : ∀ t, pieces 10 (printL ls ++ t) = ls ++ pieces 10 t := by
  induction ls with
  | nil => exact fun t => rfl
  | cons s ls ih =>
    intro t
    show pieces 10 ((s ++ [10]) ++ printL ls ++ t) = _
    rw [List.append_assoc, List.append_assoc, List.singleton_append, pieces_app (h s (by simp)), ih (fun x hx => h x (by simp [hx]))]
    rfl
theorem itoa_no {n : Int} {p : UInt8} (hp : p.toNat < 45) : ∀ c ∈ Lib.itoa n, c ≠ p := by
  intro c hc e
  subst e
  obtain ⟨k, hk, hg⟩ := List.getElem_of_mem hc
  rcases itoa_bytes n k c (by rw [List.getElem?_eq_getElem hk, hg]) with h | ⟨_, h⟩
  · unfold isDig at h
    omega
  · rw [h] at hp
    simp at hp
theorem chF_no {d p : UInt8} (h : chF d) (hp : p = 10 ∨ p = 32 ∨ p = 35) : d ≠ p := by
  unfold chF chP at h
  intro e
  subst e
  rcases hp with rfl | rfl | rfl <;> revert h <;> decide
theorem label_no {l : Lb} {p : UInt8} (hp : p = 10 ∨ p = 32 ∨ p = 35) : ∀ c ∈ l.text, c ≠ p := by
  intro c hc
  unfold Lb.text at hc
  rcases List.mem_append.1 hc with hc | hc
  · exact chF_no (textFm_ch _ c hc) hp
  · rcases List.mem_cons.1 hc with rfl | hc
    · rcases hp with rfl | rfl | rfl <;> decide
    · exact chF_no (textFm_ch _ c hc) hp
theorem name_no (c : Int) {p : UInt8} (hp : p.toNat < 97) : ∀ x ∈ aName c, x ≠ p := by
  intro x hx e
  subst e
  cases hk : aOk c with
  | false =>
    unfold aName at hx
    rw [aRow_no hk] at hx
    simp at hx
  | true =>
    have := ((name_bytes c hk).1 x hx).1
    omega
theorem opText_no {c a : Int} {p : UInt8} (hp : p = 10 ∨ p = 35) : ∀ x ∈ opText c a, x ≠ p := by
  have hp1 : p.toNat < 45 := by rcases hp with rfl | rfl <;> decide
  intro x hx
  unfold opText at hx
  split at hx
  · split at hx
    · exact name_no c (by omega) x hx
    · rcases List.mem_append.1 hx with hx | hx
      · exact name_no c (by omega) x hx
      · rcases List.mem_cons.1 hx with rfl | hx
        · rcases hp with rfl | rfl <;> decide
        · exact itoa_no hp1 x hx
  · simp only [List.mem_singleton] at hx
    subst hx
    rcases hp with rfl | rfl <;> decide
theorem lineC_no (v : Vl) : ∀ c ∈ lineC v, c ≠ 10 := by
  intro c hc
  unfold lineC at hc
  have h1 : ∀ x ∈ sInt, x ≠ 10 := by decide
  have h2 : ∀ x ∈ sMark, x ≠ 10 := by decide
  split at hc <;> rcases List.mem_append.1 hc with hc | hc
  · exact h1 c hc
  · rcases List.mem_cons.1 hc with rfl | hc
    · decide
    · exact itoa_no (by decide) c hc
  · exact h2 c hc
  · rcases List.mem_cons.1 hc with rfl | hc
    · decide
    · exact label_no (.inl rfl) c hc
theorem lineF_no (f : Fn) : ∀ c ∈ lineF f, c ≠ 10 := by
  intro c hc
  unfold lineF at hc
  have h1 : ∀ x ∈ sFun, x ≠ 10 := by decide
  rcases List.mem_append.1 hc with hc | hc
  · exact h1 c hc
  · rcases List.mem_cons.1 hc with rfl | hc
    · decide
    · rcases List.mem_append.1 hc with hc | hc
      · exact itoa_no (by decide) c hc
      · rcases List.mem_cons.1 hc with rfl | hc
        · decide
        · exact itoa_no (by decide) c hc
theorem linesI_no (im : Im) : ∀ s ∈ linesI im, ∀ c ∈ s, c ≠ 10 := by
  intro s hs
  unfold linesI at hs
  rcases List.mem_append.1 hs with hs | hs
  · obtain ⟨v, _, rfl⟩ := List.mem_map.1 hs
    exact lineC_no v
  · obtain ⟨f, _, hf⟩ := List.mem_flatMap.1 hs
    unfold linesF at hf
    rcases List.mem_cons.1 hf with rfl | hf
    · exact lineF_no f
    · obtain ⟨o, _, rfl⟩ := List.mem_map.1 hf
      exact opText_no (.inl rfl)
theorem const_form {v : Vl} (h : v.const = true) : (v = ⟨1, v.n, [], ⟨[], []⟩⟩ ∧ v.k = 1) ∨ (v = ⟨2, 0, [], v.l⟩ ∧ v.k = 2 ∧ v.l.right = true) := by
  obtain ⟨k, n, m, l⟩ := v
  unfold Vl.const at h
  rw [Bool.and_eq_true, Bool.or_eq_true, beq_iff_eq, beq_iff_eq] at h
  obtain ⟨hk, hr⟩ := h
  simp only at hk
  unfold Vl.right at hr
  simp only at hr ⊢
  rcases hk with rfl | rfl
  · rw [if_pos rfl] at hr
    simp only [Bool.and_eq_true, List.isEmpty_iff] at hr
    obtain ⟨S, I⟩ := l
    obtain ⟨rfl, h1, h2⟩ := hr
    simp only at h1 h2
    subst h1
    subst h2
    exact .inl ⟨rfl, rfl⟩
  · rw [if_neg (by omega), if_pos rfl] at hr
    simp only [Bool.and_eq_true, beq_iff_eq, List.isEmpty_iff] at hr
    obtain ⟨⟨rfl, rfl⟩, h1⟩ := hr
    exact .inr ⟨rfl, rfl, h1⟩
theorem stepL_C {v : Vl} (h : v.const = true) (hn : InI64 v.n) (cs : List Vl) : stepL ⟨cs, []⟩ (lineC v) = some ⟨cs ++ [v], []⟩ := by
  rcases const_form h with ⟨e, hk⟩ | ⟨e, hk, hr⟩
  · have h1 : silent (lineC v) = false := by unfold lineC; rw [if_pos hk]; rfl
    have h2 : cutP 32 (lineC v) = some (sInt, Lib.itoa v.n) := by
      unfold lineC
      rw [if_pos hk]
      exact cutP_app (by decide) _
    unfold stepL
    rw [h1, h2]
    simp only [Bool.false_eq_true, if_false, if_true]
    unfold numI
    rw [parseS_eq _ v.n hn rfl]
    simp only [if_true]
    rw [← e]
  · have hk1 : ¬ v.k = 1 := by omega
    have h1 : silent (lineC v) = false := by unfold lineC; rw [if_neg hk1]; rfl
    have h2 : cutP 32 (lineC v) = some (sMark, v.l.text) := by
      unfold lineC
      rw [if_neg hk1]
      exact cutP_app (by decide) _
    unfold stepL
    rw [h1, h2]
    simp only [Bool.false_eq_true, if_false, if_true]
    rw [if_neg (by decide)]
    unfold markI
    rw [parseLb_text hr]
    simp only [if_true]
    rw [← e]
theorem in_small {x : Int} (h : 0 ≤ x ∧ x ≤ 255) : InI64 x := by unfold InI64; omega
theorem stepL_F {f : Fn} (ha : 0 ≤ f.a ∧ f.a ≤ 255) (hv : 0 ≤ f.v ∧ f.v ≤ 255) (im : Im) : stepL im (lineF f) = some ⟨im.cs, im.fs ++ [⟨f.a, f.v, []⟩]⟩ := by
  have h1 : silent (lineF f) = false := rfl
  have h2 : cutP 32 (lineF f) = some (sFun, Lib.itoa f.a ++ 32 :: Lib.itoa f.v) := cutP_app (by decide) _
  unfold stepL
  rw [h1, h2]
  simp only [Bool.false_eq_true, if_false, if_true]
  rw [if_neg (by decide), if_neg (by decide)]
  unfold funI
  rw [cutP_app (itoa_no (by decide))]
  simp only [Option.getD_some]
  rw [parseS_eq _ f.a (in_small ha) rfl, parseS_eq _ f.v (in_small hv) rfl]
  simp only
  rw [if_pos ⟨ha.1, ha.2, hv.1, hv.2⟩]
theorem names_apart (c : Int) (hc : aOk c = true) : aName c ≠ sInt ∧ aName c ≠ sMark ∧ aName c ≠ sFun :=
  all_codes (p := fun c => aName c ≠ sInt ∧ aName c ≠ sMark ∧ aName c ≠ sFun) (by decide +kernel) c hc
theorem stepL_O {o : Int × Int} (h : rightO o = true) (im : Im) (hf : im.fs ≠ []) : stepL im (lineO o) = some ⟨im.cs, addOp o im.fs⟩ := by
  obtain ⟨c, a⟩ := o
  have hr : rightB c a = true := h
  have hk := (rightB_true hr).1
  have hp := opParse_text hr
  have hne := (opText_length hr).2
  have h1 : silent (lineO (c, a)) = false := by
    have hno := opText_no (c := c) (a := a) (p := 35) (.inr rfl)
    unfold lineO
    simp only
    cases hl : opText c a with
    | nil => rw [hl] at hne; simp at hne
    | cons x l =>
      have := hno x (by rw [hl]; simp)
      unfold silent
      simpa using this
  have h3 : opI im (lineO (c, a)) = some ⟨im.cs, addOp (c, a) im.fs⟩ := by
    unfold opI lineO
    rw [hp]
    simp only
    rw [if_neg hf]
  unfold stepL
  rw [h1]
  simp only [Bool.false_eq_true, if_false]
  cases hc : cutP 32 (lineO (c, a)) with
  | none => exact h3
  | some x =>
    obtain ⟨w, r⟩ := x
    simp only
    have hw : w = aName c := by
      unfold lineO at hc
      rw [opText_right hr] at hc
      split at hc
      · rw [cutP_none (fun x hx => name_no c (by decide) x hx)] at hc
        cases hc
      · rw [cutP_app (fun x hx => name_no c (by decide) x hx)] at hc
        simp only [Option.some.injEq, Prod.mk.injEq] at hc
        exact hc.1.symm
    obtain ⟨n1, n2, n3⟩ := names_apart c hk
    rw [if_neg (by rw [hw]; exact n1), if_neg (by rw [hw]; exact n2), if_neg (by rw [hw]; exact n3)]
    exact h3
theorem runL_C : ∀ {l : List Vl} (cs : List Vl), (∀ v ∈ l, v.const = true ∧ InI64 v.n) → runL ⟨cs, []⟩ (l.map lineC) = some ⟨cs ++ l, []⟩
  | [], cs, _ => by simp [runL]
  | v :: l, cs, h => by
    rw [List.map_cons, runL, stepL_C (h v (by simp)).1 (h v (by simp)).2]
    simp only
    rw [runL_C (cs ++ [v]) (fun x hx => h x (by simp [hx]))]
    simp
theorem addOp_snoc (o : Int × Int) (f : Fn) : ∀ l : List Fn, addOp o (l ++ [f]) = l ++ [⟨f.a, f.v, f.c ++ [o]⟩]
  | [] => rfl
  | [g] => rfl
  | g :: g' :: l => by
    show addOp o (g :: g' :: (l ++ [f])) = _
    rw [addOp, ← List.cons_append, addOp_snoc o f (g' :: l)]
    rfl
theorem runL_O : ∀ {l : List (Int × Int)} (cs : List Vl) (fs : List Fn) (a v : Int) (c : List (Int × Int)), (∀ o ∈ l, rightO o = true) → runL ⟨cs, fs ++ [⟨a, v, c⟩]⟩ (l.map lineO) = some ⟨cs, fs ++ [⟨a, v, c ++ l⟩]⟩
  | [], cs, fs, a, v, c, _ => by simp [runL]
  | o :: l, cs, fs, a, v, c, h => by
    rw [List.map_cons, runL, stepL_O (h o (by simp)) _ (by simp)]
    simp only
    rw [addOp_snoc, runL_O cs fs a v (c ++ [o]) (fun x hx => h x (by simp [hx]))]
    simp
def fnMay (f : Fn) : Prop := (0 ≤ f.a ∧ f.a ≤ 255) ∧ (0 ≤ f.v ∧ f.v ≤ 255) ∧ ∀ o ∈ f.c, rightO o = true
theorem runL_fns : ∀ {l : List Fn} (cs : List Vl) (fs : List Fn), (∀ f ∈ l, fnMay f) → runL ⟨cs, fs⟩ (l.flatMap linesF) = some ⟨cs, fs ++ l⟩
  | [], cs, fs, _ => by simp [runL]
  | f :: l, cs, fs, h => by
    obtain ⟨h1, h2, h3⟩ := h f (by simp)
    rw [List.flatMap_cons, runL_append, linesF, runL, stepL_F h1 h2]
    simp only
    rw [runL_O cs fs f.a f.v [] h3]
    simp only [List.nil_append, Option.bind_some]
    rw [runL_fns cs (fs ++ [f]) (fun x hx => h x (by simp [hx]))]
    simp
theorem check_fnMay {im : Im} (h : im.check = 0) : ∀ f ∈ im.fs, fnMay f := fun f hf => by
  obtain ⟨h1, h2, h3, h4, _, _, _, h5⟩ := Fn.check_zero ((Im.check_zero h).2.2.2.2 f hf)
  exact ⟨⟨h1, by omega⟩, ⟨h3, by omega⟩, h5⟩
theorem runL_lines {im : Im} (h : im.check = 0) (hn : ∀ v ∈ im.cs, InI64 v.n) : runL im0 (linesI im) = some im := by
  unfold linesI im0
  rw [runL_append, runL_C [] (fun v hv => ⟨(Im.check_zero h).2.2.2.1 v hv, hn v hv⟩)]
  simp only [List.nil_append, Option.bind_some]
  rw [runL_fns im.cs [] (check_fnMay h)]
  rfl
theorem parse_print {im : Im} (h : im.check = 0) (hn : ∀ v ∈ im.cs, InI64 v.n) : parseA (printI im) = (im, 0, 0) := by
  unfold parseA printI
  rw [if_pos h]
  have hp : pieces 10 (printL (linesI im)) = linesI im ++ [[]] := by
    have := pieces_print (linesI_no im) []
    rwa [List.append_nil] at this
  have hr : runL im0 (linesI im ++ [[]]) = some im := by
    rw [runL_append, runL_lines h hn]
    rfl
  rw [hp, hr]
  simp only
  rw [if_pos h]
/-! what is parsed may be -/
theorem stepL_in {im im' : Im} {s : List UInt8} (h : stepL im s = some im') (hi : ∀ v ∈ im.cs, InI64 v.n) : ∀ v ∈ im'.cs, InI64 v.n := by
  have h1 : ∀ {r}, numI im r = some im' → ∀ v ∈ im'.cs, InI64 v.n := by
    intro r h
    unfold numI at h
    cases hp : parseS r with
    | none => rw [hp] at h; cases h
    | some n =>
      rw [hp] at h
      simp only at h
      split at h
      · obtain rfl := Option.some.inj h
        intro v hv
        rcases List.mem_append.1 hv with hv | hv
        · exact hi v hv
        · rw [List.mem_singleton] at hv
          subst hv
          exact (parseS_some r n hp).1
      · cases h
  have h2 : ∀ {r}, markI im r = some im' → ∀ v ∈ im'.cs, InI64 v.n := by
    intro r h
    unfold markI at h
    cases hp : parseLb r with
    | none => rw [hp] at h; cases h
    | some l =>
      rw [hp] at h
      simp only at h
      split at h
      · obtain rfl := Option.some.inj h
        intro v hv
        rcases List.mem_append.1 hv with hv | hv
        · exact hi v hv
        · rw [List.mem_singleton] at hv
          subst hv
          show InI64 0
          unfold InI64
          omega
      · cases h
  have h3 : ∀ {r}, funI im r = some im' → ∀ v ∈ im'.cs, InI64 v.n := by
    intro r h
    unfold funI at h
    split at h
    · split at h
      · obtain rfl := Option.some.inj h
        exact hi
      · cases h
    · cases h
  have h4 : ∀ {r}, opI im r = some im' → ∀ v ∈ im'.cs, InI64 v.n := by
    intro r h
    unfold opI at h
    split at h
    · split at h
      · cases h
      · obtain rfl := Option.some.inj h
        exact hi
    · cases h
  unfold stepL at h
  split at h
  · obtain rfl := Option.some.inj h
    exact hi
  · split at h
    · split at h
      · exact h1 h
      · split at h
        · exact h2 h
        · split at h
          · exact h3 h
          · exact h4 h
    · exact h4 h
theorem runL_in : ∀ {ls : List (List UInt8)} {im im' : Im}, runL im ls = some im' → (∀ v ∈ im.cs, InI64 v.n) → ∀ v ∈ im'.cs, InI64 v.n
  | [], im, im', h, hi => by
    obtain rfl := Option.some.inj h
    exact hi
  | s :: ls, im, im', h, hi => by
    rw [runL] at h
    cases hs : stepL im s with
    | none => rw [hs] at h; cases h
    | some x =>
      rw [hs] at h
      exact runL_in h (stepL_in hs hi)
/-! the laws, in plain words -/
theorem parseA_ok {l : List UInt8} {im : Im} (h : parseA l = (im, 0, 0)) : im.check = 0 ∧ (∀ v ∈ im.cs, InI64 v.n) ∧ runL im0 (pieces 10 l) = some im := by
  unfold parseA at h
  cases hr : runL im0 (pieces 10 l) with
  | none =>
    rw [hr] at h
    simp at h
  | some x =>
    rw [hr] at h
    simp only at h
    split at h
    · rename_i hc
      simp only [Prod.mk.injEq, and_true] at h
      subst h
      exact ⟨hc, runL_in hr (fun v hv => by simp [im0] at hv), rfl⟩
    · rename_i hc
      simp only [Prod.mk.injEq] at h
      exact absurd h.2.2 hc
theorem fcheck_ne4 (f : Fn) : f.check ≠ 4 := by
  unfold Fn.check
  split
  · decide
  · split
    · decide
    · split
      · decide
      · split <;> decide
theorem firstE_ne4 : ∀ l : List Fn, firstE l ≠ 4
  | [] => by decide
  | f :: l => by
    rw [firstE]
    split
    · exact firstE_ne4 l
    · exact fcheck_ne4 f
theorem check_ne4 (im : Im) : im.check ≠ 4 := by
  unfold Im.check
  split
  · decide
  · split
    · split
      · decide
      · exact firstE_ne4 _
    · decide
/-- the error is one of the lines alone that say something -/
theorem parseA_same {l m : List UInt8} (h : runL im0 (pieces 10 l) = runL im0 (pieces 10 m)) : (parseA l).1 = (parseA m).1 ∧ (parseA l).2.2 = (parseA m).2.2 := by
  unfold parseA
  rw [h]
  cases runL im0 (pieces 10 m) with
  | none => exact ⟨rfl, rfl⟩
  | some x => exact ⟨rfl, rfl⟩
theorem runL_between {a b : List (List UInt8)} {m : List (List UInt8)} (hm : ∀ s ∈ m, silent s = true) (im : Im) : runL im (a ++ m ++ b) = runL im (a ++ b) := by
  rw [List.append_assoc, runL_append, runL_append]
  congr 1
  funext x
  rw [runL_append, runL_silent hm]
  rfl
theorem parseA_line {l : List UInt8} : (parseA l).2.2 = 4 ↔ runL im0 (pieces 10 l) = none := by
  unfold parseA
  cases hr : runL im0 (pieces 10 l) with
  | none => simp
  | some x =>
    simp only
    split
    · simp
    · simp only [reduceCtorEq, iff_false]
      exact check_ne4 x
theorem parseA_zero {l : List UInt8} (h : (parseA l).2.2 ≠ 4) : (parseA l).2.1 = 0 := by
  have h1 : runL im0 (pieces 10 l) ≠ none := fun e => h (parseA_line.2 e)
  unfold parseA
  cases hr : runL im0 (pieces 10 l) with
  | none => exact absurd hr h1
  | some x =>
    simp only
    split <;> rfl
theorem parseA_bad {l : List UInt8} (h : (parseA l).2.2 = 4) : parseA l = (im0, badL im0 (pieces 10 l) + 1, 4) := by
  have h1 := parseA_line.1 h
  unfold parseA
  rw [h1]
theorem count_no {p : UInt8} {l : List UInt8} (h : ∀ c ∈ l, c ≠ p) : l.count p = 0 := List.count_eq_zero.2 fun hm => h p hm rfl
theorem count_print {ls : List (List UInt8)} (h : ∀ s ∈ ls, ∀ c ∈ s, c ≠ 10) : (printL ls).count 10 = ls.length := by
  induction ls with
  | nil => rfl
  | cons s ls ih =>
    show ((s ++ [10]) ++ printL ls).count 10 = _
    rw [List.count_append, List.count_append, count_no (h s (by simp)), ih (fun x hx => h x (by simp [hx]))]
    simp
    omega
theorem print_last {ls : List (List UInt8)} (h : ls ≠ []) : (printL ls)[(printL ls).length - 1]? = some 10 := by
  obtain ⟨f, x, rfl⟩ : ∃ f x, ls = f ++ [x] := ⟨ls.dropLast, ls.getLast h, (List.dropLast_concat_getLast h).symm⟩
  have e : printL (f ++ [x]) = (printL f ++ x) ++ [10] := by
    unfold printL
    rw [List.flatMap_append]
    simp
  rw [e, List.length_append, List.length_singleton, Nat.add_sub_cancel, List.getElem?_append_right (Nat.le_refl _), Nat.sub_self]
  rfl
theorem parse_joins {a b : List Fn} (ha : Im.check ⟨[], a⟩ = 0) (hb : Im.check ⟨[], b⟩ = 0) (h : Im.check ⟨[], a ++ b⟩ = 0) : parseA (printI ⟨[], a⟩ ++ printI ⟨[], b⟩) = (⟨[], a ++ b⟩, 0, 0) := by
  have hno : ∀ v ∈ ([] : List Vl), InI64 v.n := fun v hv => by simp at hv
  unfold parseA printI
  rw [if_pos ha, if_pos hb]
  have hp : pieces 10 (printL (linesI ⟨[], a⟩) ++ printL (linesI ⟨[], b⟩)) = linesI ⟨[], a⟩ ++ (linesI ⟨[], b⟩ ++ [[]]) := by
    have h1 := pieces_print (linesI_no ⟨[], b⟩) []
    rw [List.append_nil] at h1
    rw [pieces_print (linesI_no ⟨[], a⟩), h1]
    rfl
  have hr : runL im0 (linesI ⟨[], a⟩ ++ (linesI ⟨[], b⟩ ++ [[]])) = some ⟨[], a ++ b⟩ := by
    rw [runL_append, runL_lines ha hno, Option.bind_some, runL_append]
    have h2 : linesI ⟨[], b⟩ = b.flatMap linesF := rfl
    rw [h2, runL_fns [] a (check_fnMay hb)]
    rfl
  rw [hp, hr]
  simp only
  rw [if_pos h]
end Go.Proofs.YtiggallcoocdaaaGreatDoor
/- The library's Split and Cut at one byte, prin.Parse: as the plain functions. No program is in sight. -/
namespace Go.Proofs.YtiggallcoocdaaaGreatDoor
open Go.RowKit
theorem index_cases (p : UInt8) : ∀ l : List UInt8, (Lib.index l [p] = -1 ∧ ∀ c ∈ l, c ≠ p) ∨ ∃ a b, Lib.index l [p] = (a.length : Int) ∧ l = a ++ p :: b ∧ ∀ c ∈ a, c ≠ p
  | [] => .inl ⟨rfl, fun c hc => by simp at hc⟩
  | d :: l => by
    rw [Lib.index_one]
    unfold Lib.indexByte
    by_cases hd : d = p
    · subst hd
      exact .inr ⟨[], l, by simp, rfl, fun c hc => by simp at hc⟩
    · have hb : (d == p) = false := by simpa using hd
      rw [hb]
      rcases index_cases p l with ⟨h1, h2⟩ | ⟨a, b, h1, h2, h3⟩
      · rw [Lib.index_one] at h1
        rw [h1]
        refine .inl ⟨rfl, fun c hc => ?_⟩
        rcases List.mem_cons.1 hc with rfl | hc
        · exact hd
        · exact h2 c hc
      · rw [Lib.index_one] at h1
        rw [h1]
        have h0 : (((a.length : Int)) == -1) = false := beq_eq_false_iff_ne.2 (by omega)
        refine .inr ⟨d :: a, b, ?_, by rw [h2]; rfl, fun c hc => ?_⟩
        · simp only [h0, Bool.false_eq_true, if_false, List.length_cons]
          omega
        · rcases List.mem_cons.1 hc with rfl | hc
          · exact hd
          · exact h3 c hc
theorem splitK_pieces (p : UInt8) : ∀ (n : Nat) (l : List UInt8), l.count p = n → Lib.splitK [p] 0 n l = pieces p l
  | 0, l, h => by
    rw [Lib.splitK, pieces_none]
    intro c hc e
    subst e
    have := List.count_pos_iff.2 hc
    omega
  | n + 1, l, h => by
    rw [Lib.splitK]
    rcases index_cases p l with ⟨h1, h2⟩ | ⟨a, b, h1, h2, h3⟩
    · rw [List.count_eq_zero.2 (fun hm => h2 p hm rfl)] at h
      omega
    · have h0 : (((a.length : Int)) == -1) = false := beq_eq_false_iff_ne.2 (by omega)
      rw [h1, h0]
      simp only [Bool.false_eq_true, if_false, Int.toNat_natCast, List.length_singleton, Nat.add_zero]
      subst h2
      rw [List.count_append, List.count_cons_self, List.count_eq_zero.2 (fun hm => h3 p hm rfl)] at h
      rw [List.take_left, pieces_app h3, ← List.drop_drop, List.drop_left]
      congr 1
      exact splitK_pieces p n b (by omega)
theorem splitB_pieces (p : UInt8) (s : ByteArray) : (Lib.splitB ⟨#[p]⟩ 0 (Lib.countB s ⟨#[p]⟩) s).map (·.data.toList) = pieces p s.data.toList := by
  rw [Lib.splitB_data]
  refine splitK_pieces p _ _ ?_
  show _ = Lib.count s.data.toList [p]
  rw [Lib.count_one]
theorem cut_P (p : UInt8) (l : List UInt8) : Lib.cut l [p] = match cutP p l with
    | some (a, b) => (a, b, true)
    | none => (l, [], false) := by
  unfold Lib.cut
  rcases index_cases p l with ⟨h1, h2⟩ | ⟨a, b, h1, h2, h3⟩
  · rw [h1, if_neg (by omega), cutP_none h2]
  · rw [h1, if_pos (by omega)]
    subst h2
    rw [cutP_app h3]
    simp only [Int.toNat_natCast, List.length_singleton]
    rw [List.take_left, ← List.drop_drop, List.drop_left]
    rfl
/-! prin.Parse -/
def bitsOf (l : List UInt8) : Nat → UInt8
  | 0 => 0
  | k + 1 => if l.contains (UInt8.ofNat (97 + k)) then bitsOf l k ||| (1 <<< UInt8.ofNat k) else bitsOf l k
theorem bitsOf_text : ∀ {c : UInt8}, c.toNat < 64 → c ≠ 0 → bitsOf (textP c) 6 = c := by
  have h2 : ∀ i : Fin 64, i.val ≠ 0 → bitsOf (textP (UInt8.ofNat i.val)) 6 = UInt8.ofNat i.val := by decide +kernel
  intro c hc h0
  have := h2 ⟨c.toNat, hc⟩ (fun e => h0 (UInt8.toNat_inj.1 e))
  rwa [UInt8.ofNat_toNat] at this
theorem or_lt {a b : UInt8} (ha : a.toNat < 64) (hb : b.toNat < 64) : (a ||| b).toNat < 64 := by
  have h2 : ∀ i j : Fin 64, (UInt8.ofNat i.val ||| UInt8.ofNat j.val).toNat < 64 := by decide +kernel
  have := h2 ⟨a.toNat, ha⟩ ⟨b.toNat, hb⟩
  rwa [UInt8.ofNat_toNat, UInt8.ofNat_toNat] at this
theorem bitsOf_lt (l : List UInt8) : ∀ k, k ≤ 6 → (bitsOf l k).toNat < 64
  | 0, _ => by show (0 : UInt8).toNat < 64; decide
  | k + 1, hk => by
    have h1 := bitsOf_lt l k (by omega)
    have h2 : ∀ j : Fin 6, ((1 : UInt8) <<< UInt8.ofNat j.val).toNat < 64 := by decide +kernel
    rw [bitsOf]
    split
    · exact or_lt h1 (h2 ⟨k, by omega⟩)
    · exact h1
theorem parseP_eq (l : List UInt8) : parseP l = if l = [45] then some 0 else if l = [] ∨ 11 < l.length then none else if bitsOf l 6 = 0 then none else if textP (bitsOf l 6) = l then some (bitsOf l 6) else none := by
  have hb := bitsOf_lt l 6 (Nat.le_refl _)
  by_cases h1 : l = [45]
  · rw [if_pos h1, h1]
    decide +kernel
  · rw [if_neg h1]
    have key : ∀ c, parseP l = some c → bitsOf l 6 = c ∧ c ≠ 0 := fun c hc => by
      obtain ⟨g1, g2⟩ := parseP_some hc
      have h0 : c ≠ 0 := fun e => h1 (by rw [← g2, e]; rfl)
      exact ⟨by rw [← g2]; exact bitsOf_text g1 h0, h0⟩
    cases hp : parseP l with
    | some c =>
      obtain ⟨g1, g2⟩ := parseP_some hp
      obtain ⟨g3, g4⟩ := key c hp
      rw [if_neg, g3, if_neg g4, if_pos g2]
      intro e
      rcases e with e | e
      · exact textP_ne g1 (g2.trans e)
      · have := textP_length (c := c)
        rw [g2] at this
        omega
    | none =>
      split
      · rfl
      · split
        · rfl
        · split
          · rename_i e
            have := parseP_text hb
            rw [e, hp] at this
            cases this
          · rfl
end Go.Proofs.YtiggallcoocdaaaGreatDoor
/- Lines one by one: how much they say, what they lay is right; where the first one stands that is none. No program is in sight. -/
namespace Go.Proofs.YtiggallcoocdaaaGreatDoor
open Go.RowKit
def szI (im : Im) (m : Nat) : Prop := im.cs.length ≤ m ∧ im.fs.length ≤ m ∧ ∀ f ∈ im.fs, f.c.length ≤ m
theorem addOp_len (o : Int × Int) : ∀ l : List Fn, (addOp o l).length = l.length
  | [] => rfl
  | [_] => rfl
  | f :: g :: l => by
    rw [addOp, List.length_cons, addOp_len o (g :: l)]
    rfl
theorem addOp_c (o : Int × Int) (m : Nat) : ∀ l : List Fn, (∀ f ∈ l, f.c.length ≤ m) → ∀ f ∈ addOp o l, f.c.length ≤ m + 1
  | [], _, f, hf => by simp [addOp] at hf
  | [g], h, f, hf => by
    have := h g (by simp)
    rw [addOp, List.mem_singleton] at hf
    subst hf
    simp only [List.length_append, List.length_singleton]
    omega
  | g :: g' :: l, h, f, hf => by
    rw [addOp] at hf
    rcases List.mem_cons.1 hf with rfl | hf
    · have := h f (by simp)
      omega
    · exact addOp_c o m (g' :: l) (fun x hx => h x (by simp [hx])) f hf
/-- what a line may lay: a constant, a function, an instruction; or nothing -/
theorem stepL_cases {im im' : Im} {s : List UInt8} (h : stepL im s = some im') : im' = im ∨ (∃ v : Vl, v.right = true ∧ im' = ⟨im.cs ++ [v], im.fs⟩) ∨ (∃ x y : Int, im' = ⟨im.cs, im.fs ++ [⟨x, y, []⟩]⟩) ∨ ∃ o, im' = ⟨im.cs, addOp o im.fs⟩ := by
  have h1 : ∀ {r}, numI im r = some im' → ∃ v : Vl, v.right = true ∧ im' = ⟨im.cs ++ [v], im.fs⟩ := by
    intro r h
    unfold numI at h
    split at h
    · split at h
      · exact ⟨_, by rfl, (Option.some.inj h).symm⟩
      · cases h
    · cases h
  have h2 : ∀ {r}, markI im r = some im' → ∃ v : Vl, v.right = true ∧ im' = ⟨im.cs ++ [v], im.fs⟩ := by
    intro r h
    unfold markI at h
    cases hp : parseLb r with
    | none => rw [hp] at h; cases h
    | some l =>
      rw [hp] at h
      simp only at h
      split at h
      · exact ⟨⟨2, 0, [], l⟩, (parseLb_some hp).1, (Option.some.inj h).symm⟩
      · cases h
  have h3 : ∀ {r}, funI im r = some im' → ∃ x y : Int, im' = ⟨im.cs, im.fs ++ [⟨x, y, []⟩]⟩ := by
    intro r h
    unfold funI at h
    split at h
    · split at h
      · exact ⟨_, _, (Option.some.inj h).symm⟩
      · cases h
    · cases h
  have h4 : ∀ {r}, opI im r = some im' → ∃ o, im' = ⟨im.cs, addOp o im.fs⟩ := by
    intro r h
    unfold opI at h
    split at h
    · split at h
      · cases h
      · exact ⟨_, (Option.some.inj h).symm⟩
    · cases h
  unfold stepL at h
  split at h
  · exact .inl (Option.some.inj h).symm
  · split at h
    · split at h
      · exact .inr (.inl (h1 h))
      · split at h
        · exact .inr (.inl (h2 h))
        · split at h
          · exact .inr (.inr (.inl (h3 h)))
          · exact .inr (.inr (.inr (h4 h)))
    · exact .inr (.inr (.inr (h4 h)))
theorem stepL_sz {im im' : Im} {s : List UInt8} {m : Nat} (h : stepL im s = some im') (hz : szI im m) : szI im' (m + 1) := by
  obtain ⟨z1, z2, z3⟩ := hz
  rcases stepL_cases h with rfl | ⟨v, _, rfl⟩ | ⟨x, y, rfl⟩ | ⟨o, rfl⟩
  · exact ⟨by omega, by omega, fun f hf => by have := z3 f hf; omega⟩
  · exact ⟨by simp only [List.length_append, List.length_singleton]; omega, by simp only; omega, fun f hf => by have := z3 f hf; omega⟩
  · refine ⟨by simp only; omega, by simp only [List.length_append, List.length_singleton]; omega, fun f hf => ?_⟩
    rcases List.mem_append.1 hf with hf | hf
    · have := z3 f hf
      omega
    · rw [List.mem_singleton] at hf
      subst hf
      simp
  · exact ⟨by simp only; omega, by simp only [addOp_len]; omega, addOp_c o m im.fs z3⟩
theorem runL_sz : ∀ {ls : List (List UInt8)} {im im' : Im} {m : Nat}, runL im ls = some im' → szI im m → szI im' (m + ls.length)
  | [], im, im', m, h, hz => by
    obtain rfl := Option.some.inj h
    exact hz
  | s :: ls, im, im', m, h, hz => by
    rw [runL] at h
    cases hs : stepL im s with
    | none => rw [hs] at h; cases h
    | some x =>
      rw [hs] at h
      have := runL_sz h (stepL_sz hs hz)
      rwa [show m + 1 + ls.length = m + (s :: ls).length by simp only [List.length_cons]; omega] at this
theorem runL_right : ∀ {ls : List (List UInt8)} {im im' : Im}, runL im ls = some im' → (∀ v ∈ im.cs, v.right = true) → ∀ v ∈ im'.cs, v.right = true
  | [], im, im', h, hz => by
    obtain rfl := Option.some.inj h
    exact hz
  | s :: ls, im, im', h, hz => by
    rw [runL] at h
    cases hs : stepL im s with
    | none => rw [hs] at h; cases h
    | some x =>
      rw [hs] at h
      refine runL_right h ?_
      rcases stepL_cases hs with rfl | ⟨v, hv, rfl⟩ | ⟨_, _, rfl⟩ | ⟨_, rfl⟩
      · exact hz
      · intro u hu
        rcases List.mem_append.1 hu with hu | hu
        · exact hz u hu
        · rw [List.mem_singleton] at hu
          subst hu
          exact hv
      · exact hz
      · exact hz
theorem sz0 : szI im0 0 := ⟨Nat.le_refl _, Nat.le_refl _, fun f hf => by simp [im0] at hf⟩
theorem runL_next {ls : List (List UInt8)} {k : Nat} {im : Im} (h : runL im0 (ls.take k) = some im) (hk : k < ls.length) : runL im0 (ls.take (k + 1)) = stepL im ls[k] := by
  rw [List.take_succ_eq_append_getElem hk, runL_append, h, Option.bind_some, runL]
  cases stepL im ls[k] with
  | none => rfl
  | some x => rfl
theorem badL_append : ∀ {a : List (List UInt8)} {b : List (List UInt8)} {im im' : Im}, runL im a = some im' → badL im (a ++ b) = a.length + badL im' b
  | [], b, im, im', h => by
    obtain rfl := Option.some.inj h
    simp
  | s :: a, b, im, im', h => by
    rw [runL] at h
    rw [List.cons_append, badL]
    cases hs : stepL im s with
    | none => rw [hs] at h; cases h
    | some x =>
      rw [hs] at h
      simp only
      rw [badL_append h, List.length_cons]
      omega
theorem runL_bad {ls : List (List UInt8)} {k : Nat} {im : Im} (h : runL im0 (ls.take k) = some im) (hk : k < ls.length) (hs : stepL im ls[k] = none) : runL im0 ls = none ∧ badL im0 ls = k := by
  have e : ls = ls.take k ++ (ls[k] :: ls.drop (k + 1)) := by
    rw [List.getElem_cons_drop, List.take_append_drop]
  have hl : (ls.take k).length = k := by rw [List.length_take]; omega
  constructor
  · rw [e, runL_append, h, Option.bind_some, runL, hs]
  · conv => lhs; rw [e]
    rw [badL_append h, badL, hs, hl]
    rfl
end Go.Proofs.YtiggallcoocdaaaGreatDoor
/- The laws of chapter 11 in plain words; no program is in sight. -/
namespace Go.Proofs.YtiggallcoocdaaaGreatDoor
open Go.RowKit
def tab : List (List UInt8) := [[105, 110, 116, 32, 53],
  [105, 110, 116, 32, 45, 57, 50, 50, 51, 51, 55, 50, 48, 51, 54, 56, 53, 52, 55, 55, 53, 56, 48, 56],
  [105, 110, 116, 32, 48, 53],
  [109, 97, 114, 107, 32, 97, 47, 84],
  [109, 97, 114, 107, 32, 97, 38, 98, 47, 99, 124, 100],
  [109, 97, 114, 107, 32, 98, 38, 97, 47, 84],
  [102, 117, 110, 32, 49, 32, 50],
  [102, 117, 110, 32, 48, 32, 48],
  [102, 117, 110, 32, 48, 32, 50, 53, 53],
  [102, 117, 110, 32, 48, 32, 50, 53, 54],
  [102, 117, 110, 32, 49],
  [112, 117, 115, 104, 32, 48],
  [114, 101, 116],
  [106, 117, 109, 112, 32, 48],
  [111, 119, 110],
  [111, 119, 110, 32, 48],
  [112, 117, 115, 104],
  [],
  [35, 32, 120],
  [32, 114, 101, 116],
  [114, 101, 116, 32],
  [105, 110, 116],
  [109, 97, 114, 107, 32],
  [102, 117, 110, 32, 49, 32, 32, 50],
  [105, 102, 32, 49],
  [82, 101, 116]]
def tabL (c : UInt8) : List UInt8 := tab.getD (c.toNat % 26) []
def linesB (l : List UInt8) : List UInt8 := joinW 10 ((l.take 40).map tabL)
def noWord : List UInt8 := [10, 35, 32, 110, 111, 32, 119, 111, 114, 100, 10, 10]
theorem tab_no : ∀ s ∈ tab, ∀ c ∈ s, c ≠ 10 := by decide +kernel
theorem tabL_mem (c : UInt8) : tabL c ∈ tab := by
  unfold tabL
  have h : c.toNat % 26 < tab.length := Nat.mod_lt _ (by decide)
  rw [List.getD_eq_getElem?_getD, List.getElem?_eq_getElem h, Option.getD_some]
  exact List.getElem_mem h
theorem tabL_no (c : UInt8) : ∀ x ∈ tabL c, x ≠ 10 := tab_no _ (tabL_mem c)
theorem lines_pieces {l : List UInt8} (h : l ≠ []) (hl : l.length ≤ 40) : pieces 10 (linesB l) = l.map tabL := by
  unfold linesB
  rw [List.take_of_length_le hl]
  exact pieces_joinW (by simpa using h) (fun w hw => by
    obtain ⟨c, _, rfl⟩ := List.mem_map.1 hw
    exact tabL_no c)
theorem lines_run {l : List UInt8} (hl : l.length ≤ 40) (im : Im) : runL im (pieces 10 (linesB l)) = runL im (l.map tabL) := by
  by_cases h : l = []
  · subst h
    rfl
  · rw [lines_pieces h hl]
/-- lines that say nothing turn nothing -/
theorem once_same {l : List UInt8} (hl : l.length ≤ 40) (k : Nat) : runL im0 (pieces 10 (linesB (l.take k) ++ noWord ++ linesB (l.drop k))) = runL im0 (pieces 10 (linesB l)) := by
  have e : linesB (l.take k) ++ noWord ++ linesB (l.drop k) = linesB (l.take k) ++ 10 :: ([35, 32, 110, 111, 32, 119, 111, 114, 100] ++ 10 :: ([] ++ 10 :: linesB (l.drop k))) := by
    rw [List.append_assoc]
    rfl
  have h1 : ∀ im, runL im (pieces 10 (linesB (l.take k))) = runL im ((l.take k).map tabL) := lines_run (by rw [List.length_take]; omega)
  have h2 : ∀ im, runL im (pieces 10 (linesB (l.drop k))) = runL im ((l.drop k).map tabL) := lines_run (by rw [List.length_drop]; omega)
  rw [e, pieces_join, pieces_join, pieces_join, lines_run hl, runL_append, h1]
  conv => rhs; rw [← List.take_append_drop k l, List.map_append, runL_append]
  congr 1
  funext x
  rw [runL_append, runL_silent (ls := pieces 10 [35, 32, 110, 111, 32, 119, 111, 114, 100]) (by decide +kernel), Option.bind_some, runL_append, runL_silent (ls := pieces 10 []) (by decide +kernel), Option.bind_some, h2]
theorem places_ahead {l : List UInt8} (hl : l.length ≤ 40) (h : (parseA (linesB l)).2.2 = 4) :
    ∃ k, parseA (linesB l) = (im0, k + 1, 4) ∧ k < l.length ∧ (parseA (linesB (l.take k))).2.2 ≠ 4 ∧ (parseA (linesB (l.take k))).2.1 = 0 ∧ ∀ t, parseA (linesB (l.take (k + 1)) ++ 10 :: t) = (im0, k + 1, 4) := by
  have hr := parseA_line.1 h
  have hne : l ≠ [] := fun e => by
    subst e
    have : runL im0 (pieces 10 (linesB [])) = some im0 := rfl
    rw [this] at hr
    cases hr
  have hp := lines_pieces hne hl
  rw [hp] at hr
  have hb := badL_lt hr
  rw [List.length_map] at hb
  obtain ⟨t1, t2⟩ := badL_take hr
  have e1 := parseA_bad h
  rw [hp] at e1
  obtain ⟨k, hk⟩ : ∃ k, k = badL im0 (l.map tabL) := ⟨_, rfl⟩
  rw [← hk] at hb t1 t2 e1
  rw [← List.map_take] at t1 t2
  have hx : (parseA (linesB (l.take k))).2.2 ≠ 4 := fun e => by
    have := parseA_line.1 e
    rw [lines_run (by rw [List.length_take]; omega)] at this
    rw [this] at t1
    cases t1
  refine ⟨k, e1, hb, hx, parseA_zero hx, fun t => ?_⟩
  have hne2 : l.take (k + 1) ≠ [] := by
    intro e
    have := congrArg List.length e
    rw [List.length_take, List.length_nil] at this
    omega
  have hp2 : pieces 10 (linesB (l.take (k + 1)) ++ 10 :: t) = (l.take (k + 1)).map tabL ++ pieces 10 t := by
    rw [pieces_join, lines_pieces hne2 (by rw [List.length_take]; omega)]
  have hn : runL im0 (pieces 10 (linesB (l.take (k + 1)) ++ 10 :: t)) = none := by
    rw [hp2, runL_append, t2]
    rfl
  have hbk : badL im0 ((l.take (k + 1)).map tabL) = k := by
    have h3 : l.map tabL = (l.take (k + 1)).map tabL ++ (l.drop (k + 1)).map tabL := by rw [← List.map_append, List.take_append_drop]
    rw [h3, badL_append_none _ t2] at hk
    exact hk.symm
  rw [parseA_bad (parseA_line.2 hn), hp2, badL_append_none _ t2, hbk]
theorem linesB_length (l : List UInt8) : (linesB l).length ≤ 1200 := by
  unfold linesB
  have h1 : ∀ s ∈ tab, s.length ≤ 24 := by decide +kernel
  have h2 : ∀ ws : List (List UInt8), (∀ s ∈ ws, s.length ≤ 24) → (joinW 10 ws).length ≤ 25 * ws.length := by
    intro ws
    induction ws with
    | nil => intro _; simp [joinW]
    | cons w ws ih =>
      intro h
      have hw := h w (by simp)
      cases ws with
      | nil =>
        rw [joinW]
        simp only [List.length_cons, List.length_nil]
        omega
      | cons v ws =>
        have := ih (fun s hs => h s (by simp [hs]))
        rw [joinW]
        simp only [List.length_append, List.length_cons] at this ⊢
        omega
  have h3 := h2 ((l.take 40).map tabL) (fun s hs => by
    obtain ⟨c, _, rfl⟩ := List.mem_map.1 hs
    exact h1 _ (tabL_mem c))
  rw [List.length_map, List.length_take] at h3
  omega
end Go.Proofs.YtiggallcoocdaaaGreatDoor
