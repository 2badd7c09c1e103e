/- HidP, ClnS: joined into one text; each part says below what it holds. -/
import Derived.Test.YtlkgcidhhngfeaaGreatDoorAddS
import Derived.Test.YtlkgcidhhngfeaaGreatDoorZ7
import Derived.Test.YtlkgcidhhngfeaaGreatDoorShelf
import Derived.Laws.OwnMore
/- What hiding leaves of a store: plain facts on its two maps while the loop goes on, and at its end. -/
namespace Go.Proofs.YtlkgcidhhngfeaaGreatDoor
open Go.RowKit Go.Maps
theorem has_some {P : Program} {k : TypeId} {w : World} {b n : Nat} {D : DataW Value} (h : w.ownsMap P k rawR b n D) (K : Keyed P k) (kl : Lit) : Maps.has D kl = (fD D kl).isSome := by
  obtain ⟨es, he, hp, hk⟩ := h.entries K
  have hheld : ∀ q ∈ es, ∃ v, q.2 = .held v := by
    intro q hq
    obtain ⟨es', c, _, F, _, hD⟩ := h
    rw [hD] at he
    cases he
    obtain ⟨x, hx, rfl⟩ := List.mem_map.1 (mem_sorted.1 hq)
    obtain ⟨y, hy⟩ := F.reads x hx
    rw [WideElems.rg_of hy]
    obtain ⟨z, hz, e⟩ := WideElems.rd_val hy
    cases hz
    exact ⟨_, e⟩
  subst he
  cases hh : Maps.has (.map es : DataW Value) kl with
  | false => unfold fD; rw [hh]; rfl
  | true =>
    unfold fD
    rw [if_pos hh]
    obtain ⟨q, hq, hqk⟩ := List.any_eq_true.1 hh
    cases hf : es.find? (fun p => p.1.sameKey kl) with
    | none => exact absurd hqk (List.find?_eq_none.1 hf q hq)
    | some p =>
      obtain ⟨v, hv⟩ := hheld p (List.mem_of_find?_eq_some hf)
      have : (DataW.map es).atKey kl .nil = p.2 := by unfold DataW.atKey; simp only [hf]
      rw [this, hv]
      rfl
theorem ranges_kf {F : Nat → Prop} {P : Program} {k : TypeId} {w w' : World} {b r n cnt : Nat} {D : DataW Value} {left : Lit → Bool} (h : w.ranges P k rawR b r n D left cnt) (g : KF F w w') (hb : ¬ F b) (hr : ¬ F r) : w'.ranges P k rawR b r n D left cnt := by
  have h1 := h.owns.lt
  have h2 := h.lt
  obtain ⟨es, clock, since, seen, c0, hb', Fi, hs, hD, hr', rest⟩ := h
  exact ⟨es, clock, since, seen, c0, (g.block b h1 hb).trans hb', Fi, hs, hD, (g.block r h2 hr).trans hr', rest⟩
theorem hid_ranges {P : Program} {k : TypeId} {w w' : World} {b r n cnt : Nat} {D : DataW Value} {left : Lit → Bool} (h : Hid (w.ranges P k rawR b r n D left cnt)) (g : Below w.heap.size w w') : Hid (w'.ranges P k rawR b r n D left cnt) := Lib.hid (ranges_kf h.out (KF.of_below (F := fun _ => False) g) (fun e => e) (fun e => e))
theorem hid_map {k : TypeId} {w w' : World} {b n : Nat} {D : DataW Value} (h : Hid (w.ownsMap Tryz.prog k rawR b n D)) (g : Below w.heap.size w w') : Hid (w'.ownsMap Tryz.prog k rawR b n D) := Lib.hid (ownsMap_kf h.out (KF.of_below (F := fun _ => False) g) (fun e => e))
/-! the range over the names' map -/
theorem labK_inj' {a b c d : ByteArray} (ha : a.size ≤ maxLen) (hb : b.size ≤ maxLen) (hc : c.size ≤ maxLen) (hd : d.size ≤ maxLen) (h : labK a b = labK c d) : a = c ∧ b = d := by
  have h1 := keyLab a b ha hb
  have h2 := keyLab c d hc hd
  rw [h] at h1
  have := kLab.inj h1 h2
  simpa using this
theorem next_lab (w : World) {ops : Array Oper} {rest : List Oper} {o : Oper} {a : Act} {Q : Exit → Act → World → Prop} (hg : o.guard = none) (it : Operand) (hop : o.op = Op.next it false) (b r n : Nat) (D : DataW Value) (left : Lit → Bool) (cnt : Nat)
    (hit : a.eval it = .pointer (some ⟨r, 0, none⟩)) (h : w.ranges Tryz.prog 25 rawR b r n D left cnt)
    (hDone : cnt = 0 → (∀ kl, left kl = false) → wpList Tryz.prog ops Q rest (a.put o.dst (.tuple #[.bool false])) w)
    (hMore : ∀ (x y : ByteArray) (v : Value) (w' : World) (cnt' : Nat), x.size ≤ maxLen → y.size ≤ maxLen → left (labK x y) = true → fD D (labK x y) = some v → w'.ranges Tryz.prog 25 rawR b r n D (fun z => left z && !z.sameKey (labK x y)) cnt' → cnt' < cnt →
      w.grownBy w' (some r) → (Instr.entry (.pointer (some ⟨r, 0, none⟩))).run Tryz.prog w' = .ok (.tuple #[.agg #[.string x, .string y], v]) w' → wpList Tryz.prog ops Q rest (a.put o.dst (.tuple #[.bool true, .agg #[.string x, .string y], v])) w') :
    wpList Tryz.prog ops Q (o :: rest) a w :=
  wpList_next_ranges w hg it hop 25 kLab rawR (fun q : ByteArray × ByteArray => .agg #[.string q.1, .string q.2]) id (fun key kl hk => by
      obtain ⟨x, y, rfl, _⟩ := keyLab_inv hk
      exact ⟨(x, y), rfl⟩) (fun v _ _ => ⟨v, rfl⟩) b r n D left cnt hit h hDone
    (fun q v kl yd w' cnt' hkey hlk hv hat hrg hlt hgr hsz hen => by
      obtain ⟨x, y, e, rfl, hx, hy⟩ := keyLab_inv hkey
      have e1 : q.1 = x ∧ q.2 = y := by simpa using e
      obtain ⟨x', y'⟩ := q
      obtain ⟨rfl, rfl⟩ := e1
      obtain rfl := Option.some.inj hv
      exact hMore x' y' v w' cnt' hx hy hlk (fD_held hat) hrg hlt hgr hen)
theorem row_ne_iter {w : World} {B k : Nat} {e : TypeId} {n : Nat} {v : Value} {xs : List Value} {P : Program} {K : TypeId} {b r m cnt : Nat} {D : DataW Value} {left : Lit → Bool} (h : w.ownsRow B e k v n xs) (hm : w.ranges P K rawR b r m D left cnt) : ∀ j, v.ownBlock = some j → ¬ j = r := by
  rintro j hj rfl
  obtain ⟨es, c, since, seen, c0, _, _, _, _, hr, _⟩ := hm
  rcases h.2 with ⟨rfl, _⟩ | ⟨g, cap, cur, rfl, _, hg, _⟩
  · cases hj
  · cases hj
    rw [hr] at hg
    cases hg
/-- of a store: what a label may know -/
def hideS (S : St) (lS lI : ByteArray) : St := S.filter fun e => flowsB e.2.lS e.2.lI lS lI
/-- its things, while some labels are still to come -/
def HideT (S : St) (lS lI : ByteArray) (left : Lit → Bool) (Dt DT : DataW Value) : Prop :=
  (∀ s x, (s, x) ∈ S → fD DT (.string s.data.toList) = if (left (labK x.lS x.lI) || flowsB x.lS x.lI lS lI) = true then fD Dt (.string s.data.toList) else none) ∧ ∀ kl, fD Dt kl = none → fD DT kl = none
/-- its names, while some labels are still to come -/
structure HideN (S : St) (lS lI : ByteArray) (left : Lit → Bool) (Z : Nat) (w : World) (Dn DN : DataW Value) : Prop where
  kept : ∀ a b, Bd a → Bd b → left (labK a b) = true → fD DN (labK a b) = fD Dn (labK a b)
  has : ∀ a b, namesOf S a b ≠ [] → left (labK a b) = false → flowsB a b lS lI = true → ∃ v, fD DN (labK a b) = some v ∧ w.ownsRow Z 9 1 v (namesOf S a b).length ((namesOf S a b).map .string)
  gone : ∀ a b, Bd a → Bd b → left (labK a b) = false → flowsB a b lS lI = false → fD DN (labK a b) = none
  only : ∀ kl v, fD DN kl = some v → ∃ a b, Bd a ∧ Bd b ∧ kl = labK a b ∧ namesOf S a b ≠ []
  new : ∀ kl v k, fD DN kl = some v → left kl = false → v.ownBlock = some k → Z ≤ k
  apart : ∀ kl kl' v v' k, fD DN kl = some v → fD DN kl' = some v' → left kl = false → left kl' = false → v.ownBlock = some k → v'.ownBlock = some k → kl = kl'
theorem hideT_start {S : St} {lS lI : ByteArray} {left : Lit → Bool} {Dt : DataW Value} (h : ∀ s x, (s, x) ∈ S → left (labK x.lS x.lI) = true) : HideT S lS lI left Dt Dt :=
  ⟨fun s x hx => by rw [h s x hx]; rfl, fun _ h => h⟩
theorem hideN_start {S : St} {lS lI : ByteArray} {left : Lit → Bool} {Z : Nat} {w wi : World} {W : Nat → Prop} {Dn : DataW Value} (hl : ∀ kl, left kl = (fD Dn kl).isSome) (h : NamesR wi W Dn S) : HideN S lS lI left Z w Dn Dn :=
  ⟨fun _ _ _ _ _ => rfl,
   fun a b hab hf _ => (by
    obtain ⟨v, hv, _⟩ := h.has a b hab
    rw [hl, hv] at hf
    exact nomatch hf),
   fun a b _ _ hf _ => (by
    rw [hl] at hf
    cases h : fD Dn (labK a b) with
    | none => rfl
    | some v => rw [h] at hf; exact nomatch hf),
   h.only,
   fun kl v k hv hf _ => (by
    rw [hl, hv] at hf
    exact nomatch hf),
   fun kl kl' v v' k hv _ hf _ _ _ => (by
    rw [hl, hv] at hf
    exact nomatch hf)⟩
theorem HideN.kf {F : Nat → Prop} {S : St} {lS lI : ByteArray} {left : Lit → Bool} {Z : Nat} {w w' : World} {Dn DN : DataW Value} (h : HideN S lS lI left Z w Dn DN) (g : KF F w w') (hF : ∀ a b v k, w.ownsRow Z 9 1 v (namesOf S a b).length ((namesOf S a b).map .string) → v.ownBlock = some k → ¬ F k) : HideN S lS lI left Z w' Dn DN :=
  ⟨h.kept, fun a b hab hf hfl => by
    obtain ⟨v, hv, hr⟩ := h.has a b hab hf hfl
    exact ⟨v, hv, ownsRow_kf hr g fun k hk => hF a b v k hr hk⟩, h.gone, h.only, h.new, h.apart⟩
theorem hid_hideN {S : St} {lS lI : ByteArray} {left : Lit → Bool} {Z : Nat} {w w' : World} {Dn DN : DataW Value} (h : Hid (HideN S lS lI left Z w Dn DN)) (g : Below w.heap.size w w') : Hid (HideN S lS lI left Z w' Dn DN) := Lib.hid (h.out.kf (KF.of_below (F := fun _ => False) g) fun _ _ _ _ _ _ e => e)
theorem HideN.lt {S : St} {lS lI : ByteArray} {left : Lit → Bool} {Z : Nat} {w : World} {Dn DN : DataW Value} (h : HideN S lS lI left Z w Dn DN) (_ : ∀ e ∈ S, OkE e) : ∀ kl u k, fD DN kl = some u → left kl = false → u.ownBlock = some k → k < w.heap.size := fun kl u k hu hl hk => by
  obtain ⟨a, b, ha, hb, rfl, hn⟩ := h.only kl u hu
  cases hf : flowsB a b lS lI with
  | false =>
    rw [h.gone a b ha hb hl hf] at hu
    cases hu
  | true =>
    obtain ⟨v, hv, hr⟩ := h.has a b hn hl hf
    rw [hu] at hv
    cases hv
    exact (hr.lt k hk).2
theorem HideN.size {S : St} {lS lI : ByteArray} {left : Lit → Bool} {Z : Nat} {w wi : World} {Dn DN : DataW Value} {p bt bn b1 n1 : Nat} {W Q : Nat → Prop} {Dt : DataW Value} (h : HideN S lS lI left Z w Dn DN) (hi : StoreIn wi p S W Q bt bn Dt Dn) (hm : w.ownsMap Tryz.prog 25 rawR b1 n1 DN) : Maps.size DN ≤ S.length := by
  obtain ⟨ks, h1, h2, h3⟩ := map_keys hm kLab
  obtain ⟨ks', h1', h2', h3'⟩ := map_keys hi.names kLab
  have := hi.sizeN
  rw [← h2]
  rw [← h2'] at this
  refine Nat.le_trans (nodup_sub_len ks ks' h1 fun kl hkl => ?_) this
  obtain ⟨v, hv⟩ := Option.isSome_iff_exists.1 ((h3 kl).1 hkl)
  obtain ⟨a, b, _, _, rfl, hn⟩ := h.only kl v hv
  obtain ⟨u, hu, _⟩ := hi.rN.has a b hn
  exact (h3' _).2 (by rw [hu]; rfl)
/-- a list's names are gone -/
def CutT (M : List ByteArray) (D D' : DataW Value) : Prop := (∀ s ∈ M, fD D' (.string s.data.toList) = none) ∧ ∀ kl, (∀ s ∈ M, kl ≠ .string s.data.toList) → fD D' kl = fD D kl
theorem cutT_zero (D : DataW Value) : CutT [] D D := ⟨(fun _ h => nomatch h), (fun _ _ => rfl)⟩
theorem cutT_step {L : List ByteArray} {k : Nat} (hk : k < L.length) {D D' : DataW Value} (h : CutT (L.take k) D D') : CutT (L.take (k + 1)) D (D'.del (.string L[k].data.toList)) := by
  rw [List.take_succ_eq_append_getElem hk]
  refine ⟨fun s hs => ?_, fun kl hkl => ?_⟩
  · by_cases he : s = L[k]
    · rw [he]; exact fD_del_same
    · rw [fD_del_other (fun e => he (strLit_inj e))]
      refine h.1 s ?_
      rcases List.mem_append.1 hs with h1 | h1
      · exact h1
      · exact absurd (List.mem_singleton.1 h1) he
  · rw [fD_del_other (hkl _ (List.mem_append.2 (.inr (List.mem_singleton.2 rfl))))]
    exact h.2 kl fun s hs => hkl s (List.mem_append.2 (.inl hs))
/-- a label comes that flows: its names are copied -/
theorem hideT_flow {S : St} {lS lI : ByteArray} {left : Lit → Bool} {Dt DT : DataW Value} {a b : ByteArray} (hok : ∀ e ∈ S, OkE e) (ha : Bd a) (hb : Bd b) (hf : flowsB a b lS lI = true) (h : HideT S lS lI left Dt DT) : HideT S lS lI (fun z => left z && !z.sameKey (labK a b)) Dt DT := by
  refine ⟨fun s x hx => ?_, h.2⟩
  rw [h.1 s x hx]
  dsimp only
  by_cases he : labK x.lS x.lI = labK a b
  · obtain ⟨e1, e2⟩ := labK_inj (hok _ hx).2.1 (hok _ hx).2.2 ha hb he
    dsimp only at e1 e2
    rw [e1, e2, hf]
    simp
  · simp [sameKey_ne he]
theorem hideN_flow {S : St} {lS lI : ByteArray} {left : Lit → Bool} {Z : Nat} {w w' : World} {b0 n : Nat} {Dn DN : DataW Value} {a b : ByteArray} {v : Value} (ha : Bd a) (hb : Bd b) (hn : namesOf S a b ≠ []) (hf : flowsB a b lS lI = true) (hok : ∀ e ∈ S, OkE e) (hm : w.ownsMap Tryz.prog 25 rawR b0 n DN)
    (h : HideN S lS lI left Z w Dn DN) (g : KF (fun k => k = b0) w w') (hr : w.ownsRow Z 9 1 v (namesOf S a b).length ((namesOf S a b).map .string)) (hnew : ∀ kl u k, fD DN kl = some u → left kl = false → u.ownBlock = some k → v.ownBlock ≠ some k) :
    HideN S lS lI (fun z => left z && !z.sameKey (labK a b)) Z w' Dn (DN.put (labK a b) (.held v)) := by
  have hkey : WideAt.IsKeyLit (labK a b) := trivial
  have hself : (labK a b).sameKey (labK a b) = true := WideAt.sameKey_self hkey
  have hZ : ∀ k, v.ownBlock = some k → Z ≤ k := fun k hk => by
    rcases hr.2 with ⟨rfl, _⟩ | ⟨g', cap, cur, rfl, hg, _⟩
    · cases hk
    · cases hk; exact hg
  have hl : ∀ kl, kl ≠ labK a b → (left kl && !kl.sameKey (labK a b)) = left kl := fun kl hne => by rw [sameKey_ne hne]; simp
  refine ⟨fun c d hc hd hcd => ?_, fun c d hcd hlf hfl => ?_, fun c d hc hd hlf hfl => ?_, fun kl u hu => ?_, fun kl u k hu hlf hk => ?_, fun kl kl' u u' k hu hu' hlf hlf' hk hk' => ?_⟩
  · by_cases he : labK c d = labK a b
    · rw [he, hself] at hcd
      simp at hcd
    · rw [hl _ he] at hcd
      rw [fD_put_other he]
      exact h.kept c d hc hd hcd
  · by_cases he : labK c d = labK a b
    · obtain ⟨h3, h4⟩ := bd_names hok hcd
      obtain ⟨rfl, rfl⟩ := labK_inj h3 h4 ha hb he
      exact ⟨v, fD_put_same hm.isMap hkey v, ownsRow_kf hr g (row_ne_map hr hm)⟩
    · rw [hl _ he] at hlf
      obtain ⟨u, hu, hru⟩ := h.has c d hcd hlf hfl
      exact ⟨u, by rw [fD_put_other he]; exact hu, ownsRow_kf hru g (row_ne_map hru hm)⟩
  · by_cases he : labK c d = labK a b
    · obtain ⟨rfl, rfl⟩ := labK_inj hc hd ha hb he
      rw [hf] at hfl
      cases hfl
    · rw [hl _ he] at hlf
      rw [fD_put_other he]
      exact h.gone c d hc hd hlf hfl
  · by_cases he : kl = labK a b
    · exact ⟨a, b, ha, hb, he, hn⟩
    · rw [fD_put_other he] at hu
      exact h.only kl u hu
  · by_cases he : kl = labK a b
    · subst he
      rw [fD_put_same hm.isMap hkey] at hu
      cases hu
      exact hZ k hk
    · rw [fD_put_other he] at hu
      rw [hl _ he] at hlf
      exact h.new kl u k hu hlf hk
  · by_cases he : kl = labK a b
    · by_cases he' : kl' = labK a b
      · rw [he, he']
      · subst he
        rw [fD_put_same hm.isMap hkey] at hu
        cases hu
        rw [fD_put_other he'] at hu'
        rw [hl _ he'] at hlf'
        exact absurd hk (hnew kl' u' k hu' hlf' hk')
    · by_cases he' : kl' = labK a b
      · subst he'
        rw [fD_put_same hm.isMap hkey] at hu'
        cases hu'
        rw [fD_put_other he] at hu
        rw [hl _ he] at hlf
        exact absurd hk' (hnew kl u k hu hlf hk)
      · rw [fD_put_other he] at hu
        rw [fD_put_other he'] at hu'
        rw [hl _ he] at hlf
        rw [hl _ he'] at hlf'
        exact h.apart kl kl' u u' k hu hu' hlf hlf' hk hk'
/-- a label comes that does not flow: its names go, and their things -/
theorem hideT_gone {S : St} {lS lI : ByteArray} {left : Lit → Bool} {Dt DT DT' : DataW Value} {a b : ByteArray} (hs : SortedS S) (hok : ∀ e ∈ S, OkE e) (ha : Bd a) (hb : Bd b) (hf : flowsB a b lS lI = false) (h : HideT S lS lI left Dt DT)
    (h1 : ∀ s ∈ namesOf S a b, fD DT' (.string s.data.toList) = none) (h2 : ∀ kl, (∀ s ∈ namesOf S a b, kl ≠ .string s.data.toList) → fD DT' kl = fD DT kl) : HideT S lS lI (fun z => left z && !z.sameKey (labK a b)) Dt DT' := by
  refine ⟨fun s x hx => ?_, fun kl hkl => ?_⟩
  · dsimp only
    by_cases he : labK x.lS x.lI = labK a b
    · obtain ⟨e1, e2⟩ := labK_inj (hok _ hx).2.1 (hok _ hx).2.2 ha hb he
      dsimp only at e1 e2
      rw [h1 s (namesOf_mem.2 ⟨x, hx, e1, e2⟩), e1, e2, hf]
      simp [WideAt.sameKey_self (show WideAt.IsKeyLit (labK a b) from trivial)]
    · rw [h2 _ fun t ht e => ?_, h.1 s x hx]
      · simp [sameKey_ne he]
      · obtain ⟨y, hy, e1, e2⟩ := namesOf_mem.1 ht
        have e3 := strLit_inj e
        subst e3
        have := sorted_fun hs hx hy
        subst this
        exact he (by rw [e1, e2])
  · by_cases hm : ∃ s ∈ namesOf S a b, kl = .string s.data.toList
    · obtain ⟨s, hs', rfl⟩ := hm
      exact h1 s hs'
    · rw [h2 kl fun s hs' e => hm ⟨s, hs', e⟩]
      exact h.2 kl hkl
theorem hideN_gone {S : St} {lS lI : ByteArray} {left : Lit → Bool} {Z : Nat} {w w' : World} {b0 n : Nat} {Dn DN : DataW Value} {a b : ByteArray} (ha : Bd a) (hb : Bd b) (hf : flowsB a b lS lI = false) (hok : ∀ e ∈ S, OkE e) (hm : w.ownsMap Tryz.prog 25 rawR b0 n DN)
    (h : HideN S lS lI left Z w Dn DN) (g : KF (fun k => k = b0) w w') : HideN S lS lI (fun z => left z && !z.sameKey (labK a b)) Z w' Dn (DN.del (labK a b)) := by
  have hself : (labK a b).sameKey (labK a b) = true := WideAt.sameKey_self (show WideAt.IsKeyLit (labK a b) from trivial)
  have hl : ∀ kl, kl ≠ labK a b → (left kl && !kl.sameKey (labK a b)) = left kl := fun kl hne => by rw [sameKey_ne hne]; simp
  have hd : ∀ kl u, fD (DN.del (labK a b)) kl = some u → kl ≠ labK a b ∧ fD DN kl = some u := fun kl u hu => by
    by_cases he : kl = labK a b
    · subst he
      rw [fD_del_same] at hu
      cases hu
    · rw [fD_del_other he] at hu
      exact ⟨he, hu⟩
  refine ⟨fun c d hc hd' hcd => ?_, fun c d hcd hlf hfl => ?_, fun c d hc hd' hlf hfl => ?_, fun kl u hu => h.only kl u (hd kl u hu).2, fun kl u k hu hlf hk => ?_, fun kl kl' u u' k hu hu' hlf hlf' hk hk' => ?_⟩
  · by_cases he : labK c d = labK a b
    · rw [he, hself] at hcd
      simp at hcd
    · rw [hl _ he] at hcd
      rw [fD_del_other he]
      exact h.kept c d hc hd' hcd
  · by_cases he : labK c d = labK a b
    · obtain ⟨h3, h4⟩ := bd_names hok hcd
      obtain ⟨rfl, rfl⟩ := labK_inj h3 h4 ha hb he
      rw [hf] at hfl
      cases hfl
    · rw [hl _ he] at hlf
      obtain ⟨u, hu, hru⟩ := h.has c d hcd hlf hfl
      exact ⟨u, by rw [fD_del_other he]; exact hu, ownsRow_kf hru g (row_ne_map hru hm)⟩
  · by_cases he : labK c d = labK a b
    · rw [he, fD_del_same]
    · rw [hl _ he] at hlf
      rw [fD_del_other he]
      exact h.gone c d hc hd' hlf hfl
  · obtain ⟨hne, hu'⟩ := hd kl u hu
    rw [hl _ hne] at hlf
    exact h.new kl u k hu' hlf hk
  · obtain ⟨hne, h1⟩ := hd kl u hu
    obtain ⟨hne', h2⟩ := hd kl' u' hu'
    rw [hl _ hne] at hlf
    rw [hl _ hne'] at hlf'
    exact h.apart kl kl' u u' k h1 h2 hlf hlf' hk hk'
/-! the end -/
theorem hideS_mem {S : St} {lS lI s : ByteArray} {x : OB} : (s, x) ∈ hideS S lS lI ↔ (s, x) ∈ S ∧ flowsB x.lS x.lI lS lI = true := by simp [hideS]
theorem hideS_sorted {S : St} (h : SortedS S) (lS lI : ByteArray) : SortedS (hideS S lS lI) := List.Pairwise.sublist List.filter_sublist h
theorem names_hideS (S : St) (lS lI a b : ByteArray) : namesOf (hideS S lS lI) a b = if flowsB a b lS lI = true then namesOf S a b else [] := by
  unfold namesOf hideS
  rw [List.filter_filter]
  by_cases hf : flowsB a b lS lI = true
  · rw [if_pos hf]
    congr 1
    refine List.filter_congr fun e he => ?_
    by_cases hl : labB e.2.lS e.2.lI a b = true
    · obtain ⟨e1, e2⟩ := (labB_iff _ _ _ _).1 hl
      rw [hl, e1, e2, hf]
      rfl
    · have : labB e.2.lS e.2.lI a b = false := by simpa using hl
      rw [this]
      rfl
  · rw [if_neg hf]
    have : S.filter (fun e => labB e.2.lS e.2.lI a b && flowsB e.2.lS e.2.lI lS lI) = [] := by
      refine List.filter_eq_nil_iff.2 fun e he hc => hf ?_
      rw [Bool.and_eq_true] at hc
      obtain ⟨e1, e2⟩ := (labB_iff _ _ _ _).1 hc.1
      rw [← e1, ← e2]
      exact hc.2
    rw [this]
    rfl
theorem StoreIn.hide {w w' : World} {p ph Z : Nat} {S : St} {W Q : Nat → Prop} {bt bn ht hn n1 n2 : Nat} {Dt Dn DT DN : DataW Value} {lS lI : ByteArray} {left : Lit → Bool} (h : StoreIn w p S W Q bt bn Dt Dn) (hB : Below w.heap.size w w') (hl : ∀ kl, left kl = false)
    (hp : w'.heap[ph]? = some (.cells #[.map (some ht), .map (some hn)] 64)) (h1 : w'.ownsMap Tryz.prog 9 rawR ht n1 DT) (h2 : w'.ownsMap Tryz.prog 25 rawR hn n2 DN)
    (hT : HideT S lS lI left Dt DT) (hN : HideN S lS lI left Z w' Dn DN) (hne : ht ≠ hn) (ho : w.heap.size ≤ ht ∧ w.heap.size ≤ hn ∧ w.heap.size ≤ ph ∧ ph ≠ ht ∧ ph ≠ hn ∧ ph < Z) (_ : Z ≤ w'.heap.size) :
    StoreIn w' ph (hideS S lS lI) (fun b => b = ht ∨ b = hn ∨ (Z ≤ b ∧ b < w'.heap.size)) (fun b => (Q b ∧ ¬ W b) ∨ b = ph) ht hn DT DN where
  ptr := hp
  things := map_size h1
  names := map_size h2
  rT := by
    refine ⟨fun s x hx => ?_, fun kl v hv => ?_⟩
    · obtain ⟨hx1, hx2⟩ := hideS_mem.1 hx
      obtain ⟨v, hv, hob⟩ := h.rT.1 s x hx1
      refine ⟨v, ?_, (hob.below hB).mono fun b hb _ => ⟨.inl hb, fun hw => ?_⟩⟩
      · rw [hT.1 s x hx1, hx2]
        simpa using hv
      · have := h.lt b (.inr hb.1)
        rcases hw with rfl | rfl | hw <;> omega
    · cases hd : fD Dt kl with
      | none => rw [hT.2 kl hd] at hv; cases hv
      | some u =>
        obtain ⟨s, x, hx, rfl⟩ := h.rT.2 kl u hd
        refine ⟨s, x, hideS_mem.2 ⟨hx, ?_⟩, rfl⟩
        rw [hT.1 s x hx, hl] at hv
        cases hf : flowsB x.lS x.lI lS lI with
        | true => rfl
        | false => rw [hf] at hv; cases hv
  rN := by
    refine ⟨fun a b hab => ?_, fun kl v hv => ?_, fun kl v k hv hk => ?_, fun kl kl' v v' k hv hv' hk hk' => hN.apart kl kl' v v' k hv hv' (hl _) (hl _) hk hk'⟩
    · rw [names_hideS] at hab ⊢
      by_cases hf : flowsB a b lS lI = true
      · rw [if_pos hf] at hab ⊢
        obtain ⟨v, hv, hr⟩ := hN.has a b hab (hl _) hf
        exact ⟨v, hv, hr.1, hr.2.imp id fun ⟨g, cap, cur, e, _, r⟩ => ⟨g, cap, cur, e, Nat.zero_le _, r⟩⟩
      · rw [if_neg hf] at hab
        exact absurd rfl hab
    · obtain ⟨a, b, ha, hb, e, hn'⟩ := hN.only kl v hv
      refine ⟨a, b, ha, hb, e, ?_⟩
      rw [names_hideS]
      by_cases hf : flowsB a b lS lI = true
      · rw [if_pos hf]; exact hn'
      · rw [e, hN.gone a b ha hb (hl _) (by simpa using hf)] at hv
        cases hv
    · by_cases hc : ∃ a b, namesOf S a b ≠ [] ∧ kl = labK a b
      · have h3 := hN.new kl v k hv (hl _) hk
        obtain ⟨a, b, hab, rfl⟩ := hc
        obtain ⟨h5, h6⟩ := bd_names h.ok hab
        by_cases hf : flowsB a b lS lI = true
        · obtain ⟨u, hu, hr⟩ := hN.has a b hab (hl _) hf
          rw [hv] at hu
          cases hu
          refine .inr (.inr ⟨h3, ?_⟩)
          rcases hr.2 with ⟨rfl, _⟩ | ⟨g, cap, cur, rfl, _, hg, _⟩
          · cases hk
          · cases hk
            exact (Array.getElem?_eq_some_iff.1 hg).1
        · rw [hN.gone a b h5 h6 (hl _) (by simpa using hf)] at hv
          cases hv
      · obtain ⟨a, b, _, _, e, hn'⟩ := hN.only kl v hv
        exact absurd ⟨a, b, hn', e⟩ hc
  wt := .inl rfl
  wn := .inr (.inl rfl)
  ne := hne
  np := fun e => by rcases e with e | e | e <;> omega
  qp := .inr rfl
  lt := fun b hb => by
    have e1 := h1.lt
    have e2 := h2.lt
    have e3 : ph < w'.heap.size := (Array.getElem?_eq_some_iff.1 hp).1
    rcases hb with (rfl | rfl | hb) | (hb | rfl)
    · exact e1
    · exact e2
    · exact hb.2
    · exact Nat.lt_of_lt_of_le (h.lt b (.inr hb.1)) hB.size
    · exact e3
  sorted := hideS_sorted h.sorted lS lI
  ok := fun e he => h.ok e (List.mem_filter.1 he).1
end Go.Proofs.YtlkgcidhhngfeaaGreatDoor
/- slices.Clone at []string: a list of its own, the same. -/
namespace Go.Proofs.YtlkgcidhhngfeaaGreatDoor
open Go.RowKit Go.Maps
theorem strInfo : (Tryz.prog.info? 9).map (fun i => (i.zero, i.size, i.bytes)) = some (some (.string ⟨#[]⟩), 1, 16) := by kernel_rfl
theorem strSize (w : World) : (Go.sizeOf 9).run Tryz.prog w = .ok 1 w := by kernel_rfl
theorem cloneStr_any (L : List ByteArray) (B : Nat) (v : Value) (w : World) (hr : w.ownsRow B 9 1 v L.length (L.map .string)) (hlen : L.length ≤ 1000000) :
    Calls Tryz.prog 28 #[v] w fun e w' => ∃ v', e = .returned v' ∧ w'.ownsRow w.heap.size 9 1 v' L.length (L.map .string) ∧ Below w.heap.size w w' := by
  obtain ⟨i0, hi, hz0, hz1, hz2⟩ := info_parts strInfo
  rcases hr.2 with ⟨rfl, hn⟩ | ⟨g, cap, cur, rfl, _, hg, h1, h2, h3, h4⟩
  · obtain rfl : L = [] := List.eq_nil_of_length_eq_zero hn
    refine (Tryz.slices_Clone_string_nil 0 0 w).mono ?_
    rintro e w' ⟨rfl, rfl⟩
    exact ⟨_, rfl, ⟨by simp, .inl ⟨rfl, rfl⟩⟩, Below.refl _ _⟩
  · refine (Tryz.slices_Clone_string g 0 L.length cap L w (Nat.le_refl _) (by omega) ?_).mono ?_
    · intro j hj
      rw [Nat.zero_add, World.ownsRow.cellAt hr j (by simpa using hj), List.getElem?_map, List.getElem?_eq_getElem hj, List.getD_eq_getElem?_getD, List.getElem?_eq_getElem hj]
      rfl
    · rintro e w' ⟨v', rfl, hown, _, hB⟩
      rw [List.take_length] at hown
      exact ⟨v', rfl, hown, hB⟩
end Go.Proofs.YtlkgcidhhngfeaaGreatDoor
