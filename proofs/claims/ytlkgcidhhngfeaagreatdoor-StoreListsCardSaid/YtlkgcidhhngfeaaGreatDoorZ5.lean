/- StoS, StoP, StoM: joined into one text; each part says below what it holds. -/
import Derived.Test.YtlkgcidhhngfeaaGreatDoorAlkS
import Derived.Test.YtlkgcidhhngfeaaGreatDoorMapS
import Derived.Test.YtlkgcidhhngfeaaGreatDoorZ8
import Derived.Test.YtlkgcidhhngfeaaGreatDoorLatS
import Derived.Test.YtlkgcidhhngfeaaGreatDoorLabR
/- A store in memory: its things by names, its names by labels. -/
namespace Go.Proofs.YtlkgcidhhngfeaaGreatDoor
open Go.RowKit Go.Maps
/-- a store in plain words: names in order, and what they have -/
abbrev St := List (ByteArray × OB)
def ordB (a b : ByteArray) : Int := orderS a.data.toList b.data.toList
def SortedS (S : St) : Prop := S.Pairwise fun a b => ordB a.1 b.1 < 0
def OkE (e : ByteArray × OB) : Prop := (readL e.1.data.toList).isSome = true ∧ Bd e.2.lS ∧ Bd e.2.lI
/-- the names of a label -/
def namesOf (S : St) (a b : ByteArray) : List ByteArray := (S.filter fun e => labB e.2.lS e.2.lI a b).map (·.1)
theorem ordB_irr (a : ByteArray) : ¬ ordB a a < 0 := by
  have := (orderS_zero (a := a.data.toList) (b := a.data.toList)).2 rfl
  unfold ordB
  omega
theorem ordB_trans {a b c : ByteArray} (h : ordB a b < 0) (k : ordB b c < 0) : ordB a c < 0 := orderS_trans h k
theorem bytes_inj {a b : ByteArray} (h : a.data.toList = b.data.toList) : a = b := by
  obtain ⟨⟨x⟩⟩ := a
  obtain ⟨⟨y⟩⟩ := b
  simp at h
  rw [h]
theorem ordB_zero {a b : ByteArray} : ordB a b = 0 ↔ a = b := by
  unfold ordB
  rw [orderS_zero]
  exact ⟨bytes_inj, fun h => by rw [h]⟩
theorem ordB_swap (a b : ByteArray) : ordB b a = -ordB a b := orderS_swap _ _
theorem sorted_fun {S : St} (h : SortedS S) {s : ByteArray} {x y : OB} (hx : (s, x) ∈ S) (hy : (s, y) ∈ S) : x = y := by
  induction S with
  | nil => cases hx
  | cons e S ih =>
    obtain ⟨h1, h2⟩ := List.pairwise_cons.1 h
    rcases List.mem_cons.1 hx with rfl | hx'
    · rcases List.mem_cons.1 hy with hy' | hy'
      · exact (Prod.mk.inj hy').2.symm
      · exact absurd (h1 _ hy') (ordB_irr s)
    · rcases List.mem_cons.1 hy with rfl | hy'
      · exact absurd (h1 _ hx') (ordB_irr s)
      · exact ih h2 hx' hy'
theorem sorted_names {S : St} (h : SortedS S) : (S.map (·.1)).Nodup := by
  unfold List.Nodup
  rw [List.pairwise_map]
  refine List.Pairwise.imp ?_ h
  intro a b hab he
  rw [he] at hab
  exact ordB_irr b.1 hab
theorem okE_size {e : ByteArray × OB} (h : OkE e) : e.1.size ≤ 95 := by
  obtain ⟨h1, _⟩ := h
  obtain ⟨l, hl⟩ := Option.isSome_iff_exists.1 h1
  have h := readL_length hl
  have e1 : e.1.data.toList.length = e.1.size := Array.length_toList
  omega
theorem bd_max {a : ByteArray} (h : Bd a) : a.size ≤ maxLen := by unfold Bd at h; unfold maxLen; omega
/-- the things of S lie in the map D -/
def Things (w : World) (A : Nat → Prop) (D : DataW Value) (S : St) : Prop :=
  (∀ s x, (s, x) ∈ S → ∃ v, fD D (.string s.data.toList) = some v ∧ ObIn w A v x) ∧ ∀ kl v, fD D kl = some v → ∃ s x, (s, x) ∈ S ∧ kl = .string s.data.toList
/-- the names of S, by labels, lie in the map D, each list in a block of its own -/
structure NamesR (w : World) (W : Nat → Prop) (D : DataW Value) (S : St) : Prop where
  has : ∀ a b, namesOf S a b ≠ [] → ∃ v, fD D (labK a b) = some v ∧ w.ownsRow 0 9 1 v (namesOf S a b).length ((namesOf S a b).map .string)
  only : ∀ kl v, fD D kl = some v → ∃ a b, Bd a ∧ Bd b ∧ kl = labK a b ∧ namesOf S a b ≠ []
  wr : ∀ kl v b, fD D kl = some v → v.ownBlock = some b → W b
  apart : ∀ kl kl' v v' b, fD D kl = some v → fD D kl' = some v' → v.ownBlock = some b → v'.ownBlock = some b → kl = kl'
/-- block p is a store that has S; its writable blocks are W's, what it reads beside them is Q's -/
structure StoreIn (w : World) (p : Nat) (S : St) (W Q : Nat → Prop) (bt bn : Nat) (Dt Dn : DataW Value) : Prop where
  ptr : w.heap[p]? = some (.cells #[.map (some bt), .map (some bn)] 64)
  things : w.ownsMap Tryz.prog 9 rawR bt (Maps.size Dt) Dt
  names : w.ownsMap Tryz.prog 25 rawR bn (Maps.size Dn) Dn
  rT : Things w (fun b => Q b ∧ ¬ W b) Dt S
  rN : NamesR w W Dn S
  wt : W bt
  wn : W bn
  ne : bt ≠ bn
  np : ¬ W p
  qp : Q p
  lt : ∀ b, W b ∨ Q b → b < w.heap.size
  sorted : SortedS S
  ok : ∀ e ∈ S, OkE e
def StoreAt (w : World) (p : Nat) (S : St) (W Q : Nat → Prop) : Prop := ∃ bt bn Dt Dn, StoreIn w p S W Q bt bn Dt Dn
/-- w' is w but for blocks of F, and new ones -/
structure KF (F : Nat → Prop) (w w' : World) : Prop where
  os : w'.os = w.os
  tape : w'.tape = w.tape
  output : w'.output = w.output
  size : w.heap.size ≤ w'.heap.size
  block : ∀ k, k < w.heap.size → ¬ F k → w'.heap[k]? = w.heap[k]?
theorem KF.of_below {F : Nat → Prop} {w w' : World} (h : Below w.heap.size w w') : KF F w w' := ⟨h.os, h.tape, h.output, h.size, fun k hk _ => h.block k hk⟩
theorem KF.refl (F : Nat → Prop) (w : World) : KF F w w := KF.of_below (Below.refl _ _)
theorem KF.trans {F : Nat → Prop} {a b c : World} (h : KF F a b) (g : KF F b c) : KF F a c :=
  ⟨g.os.trans h.os, g.tape.trans h.tape, g.output.trans h.output, Nat.le_trans h.size g.size, fun k hk hf => (g.block k (Nat.lt_of_lt_of_le hk h.size) hf).trans (h.block k hk hf)⟩
theorem KF.below {F : Nat → Prop} {a b c : World} (h : KF F a b) (g : Below b.heap.size b c) : KF F a c := h.trans (KF.of_below g)
theorem KF.grown {F : Nat → Prop} {a b : World} {row : Option Nat} (h : a.grownBy b row) (hr : ∀ j, row = some j → F j) : KF F a b :=
  ⟨h.os, h.tape, h.output, h.size, fun k hk hf => h.block k hk (fun e => hf (hr k e.symm))⟩
theorem KF.mono {F G : Nat → Prop} {a b : World} (h : KF F a b) (hg : ∀ k, k < a.heap.size → F k → G k) : KF G a b := ⟨h.os, h.tape, h.output, h.size, fun k hk hf => h.block k hk (fun e => hf (hg k hk e))⟩
/-- of blocks from B on alone -/
theorem KF.toBelow {F : Nat → Prop} {B : Nat} {a b c : World} (h : KF F b c) (g : Below B a b) (hB : B ≤ b.heap.size) (hF : ∀ k, F k → B ≤ k) : Below B a c :=
  ⟨h.os.trans g.os, h.tape.trans g.tape, h.output.trans g.output, Nat.le_trans g.size h.size, fun k hk => (h.block k (Nat.lt_of_lt_of_le hk hB) (fun e => by have := hF k e; omega)).trans (g.block k hk)⟩
theorem kf_al {F : Nat → Prop} {w W : World} (h : KF F w W) (o : Obj) : KF F w (W.alloc o) := h.below ((Below.refl _ _).alloc (Nat.le_refl _) o)
theorem kf_dr {F : Nat → Prop} {w W : World} (h : KF F w W) : KF F w W.drew := h.below (Below.refl _ _).drew
theorem kf_then {F : Nat → Prop} {w W W' : World} (h : KF F w W) (h' : Below W.heap.size W W') : KF F w W' := h.below h'
theorem kf_setCells {F : Nat → Prop} {w W : World} (h : KF F w W) {b : Nat} (hb : F b ∨ w.heap.size ≤ b) (o : Nat) (vs : List Value) : KF F w (W.setCells b o vs) := by
  obtain ⟨h1, h2, h3, h4⟩ := setCells_same (b := b) vs o W
  refine ⟨h1.trans h.os, h2.trans h.tape, h3.trans h.output, by rw [h4]; exact h.size, fun k hk hf => (setCells_other vs o W k ?_).trans (h.block k hk hf)⟩
  rintro rfl
  rcases hb with hb | hb
  · exact hf hb
  · omega
/-- the listed variables lie below all that F may turn -/
def LaidF (F : Nat → Prop) (w : World) : Prop := ∃ w0, Laid w0 ∧ Below w0.heap.size w0 w ∧ ∀ b, F b → w0.heap.size ≤ b
theorem LaidF.laid {F : Nat → Prop} {w : World} (h : LaidF F w) : Laid w := by
  obtain ⟨w0, h1, h2, _⟩ := h
  exact h1.below h2
theorem LaidF.kf {F : Nat → Prop} {w w' : World} (h : LaidF F w) (g : KF F w w') : LaidF F w' := by
  obtain ⟨w0, h1, h2, h3⟩ := h
  exact ⟨w0, h1, g.toBelow h2 h2.size h3, h3⟩
theorem LaidF.below {F : Nat → Prop} {w w' : World} (h : LaidF F w) (g : Below w.heap.size w w') : LaidF F w' := h.kf (KF.of_below g)
theorem LaidF.alloc {F : Nat → Prop} {w : World} (h : LaidF F w) (o : Obj) : LaidF F (w.alloc o) := h.below ((Below.refl _ _).alloc (Nat.le_refl _) o)
theorem LaidF.after {F : Nat → Prop} {w : World} (h : LaidF F w) (p : After w) : LaidF F p.world := h.below p.h
theorem cells_put {w w' : World} {a b : Nat} {c : Array Value} {t : TypeId} {f : Nat × Nat} {es : Array MapEntry} {cl : Nat} (h : w.heap[a]? = some (.cells c t f)) (hb : w.heap[b]? = some (.map es cl)) (hg : w.grownBy w' (some b)) : w'.heap[a]? = some (.cells c t f) := by
  refine (hg.block a (Array.getElem?_eq_some_iff.1 h).1 ?_).trans h
  intro e
  cases e
  rw [h] at hb
  cases hb
theorem ownsMap_kf {F : Nat → Prop} {w w' : World} {k : TypeId} {b n : Nat} {D : DataW Value} (h : w.ownsMap Tryz.prog k rawR b n D) (g : KF F w w') (hb : ¬ F b) : w'.ownsMap Tryz.prog k rawR b n D := by
  have hl := h.lt
  obtain ⟨es, c, he, r⟩ := h
  exact ⟨es, c, (g.block b hl hb).trans he, r⟩
theorem ownsRow_kf {F : Nat → Prop} {w w' : World} {B k : Nat} {e : TypeId} {n : Nat} {v : Value} {xs : List Value} (h : w.ownsRow B e k v n xs) (g : KF F w w') (hb : ∀ b, v.ownBlock = some b → ¬ F b) : w'.ownsRow B e k v n xs := by
  refine ⟨h.1, ?_⟩
  rcases h.2 with h0 | ⟨b, cap, cur, hv, hB, hg, hr⟩
  · exact .inl h0
  · exact .inr ⟨b, cap, cur, hv, hB, (g.block b (Array.getElem?_eq_some_iff.1 hg).1 (hb b (by rw [hv]; rfl))).trans hg, hr⟩
theorem slotsAt_kf {F : Nat → Prop} {w w' : World} {k : Nat} {v : Value} {l : List (List Value)} (h : SlotsAt w k v l) (g : KF F w w') (hb : ∀ b, v.ownBlock = some b → ¬ F b) : SlotsAt w' k v l := by
  refine ⟨h.1, ?_⟩
  rcases h.2 with h1 | ⟨b, off, cap, hv, hc, hlt, hg⟩
  · exact .inl h1
  · refine .inr ⟨b, off, cap, hv, hc, Nat.lt_of_lt_of_le hlt g.size, fun j u hj => ?_⟩
    have e := g.block b hlt (hb b (by rw [hv]; rfl))
    have := hg j u hj
    unfold World.cell? at this ⊢
    rw [e]
    exact this
theorem ObIn.kf {F A : Nat → Prop} {w w' : World} {v : Value} {x : OB} (h : ObIn w A v x) (g : KF F w w') (hA : ∀ b, A b → ¬ F b) : ObIn w' A v x := by
  obtain ⟨a, c, hv, hq, hl, ha⟩ := h
  rcases ha with h0 | ha
  · exact ⟨a, c, hv, ⟨hq.1, .inl ⟨⟨a, c, by rw [h0]; rfl⟩, by rw [h0]; rfl⟩⟩, hl, .inl h0⟩
  refine ⟨a, c, hv, slotsAt_kf hq g fun b hb => ?_, hl, .inr fun p hp => ⟨(ha p hp).1, Nat.lt_of_lt_of_le (ha p hp).2 g.size⟩⟩
  cases a with
  | none => cases hb
  | some p => cases hb; exact hA _ (ha p rfl).1
theorem ObIn.mono {A A' : Nat → Prop} {w : World} {v : Value} {x : OB} (h : ObIn w A v x) (hA : ∀ b, A b → b < w.heap.size → A' b) : ObIn w A' v x := by
  obtain ⟨a, c, hv, hq, hl, ha⟩ := h
  exact ⟨a, c, hv, hq, hl, ha.imp id fun ha p hp => ⟨hA _ (ha p hp).1 (ha p hp).2, (ha p hp).2⟩⟩
/-- the store stays, where nothing that it reads is turned -/
theorem StoreIn.kf {F : Nat → Prop} {w w' : World} {p : Nat} {S : St} {W Q : Nat → Prop} {bt bn : Nat} {Dt Dn : DataW Value} (h : StoreIn w p S W Q bt bn Dt Dn) (g : KF F w w') (hF : ∀ b, W b ∨ Q b → ¬ F b) : StoreIn w' p S W Q bt bn Dt Dn where
  ptr := (g.block p (h.lt p (.inr h.qp)) (hF p (.inr h.qp))).trans h.ptr
  things := ownsMap_kf h.things g (hF bt (.inl h.wt))
  names := ownsMap_kf h.names g (hF bn (.inl h.wn))
  rT := ⟨fun s x hx => by
    obtain ⟨v, hv, ho⟩ := h.rT.1 s x hx
    exact ⟨v, hv, ho.kf g fun b hb => hF b (.inr hb.1)⟩, h.rT.2⟩
  rN := ⟨fun a b hab => by
    obtain ⟨v, hv, ho⟩ := h.rN.has a b hab
    exact ⟨v, hv, ownsRow_kf ho g fun k hk => hF k (.inl (h.rN.wr _ v k hv hk))⟩, h.rN.only, h.rN.wr, h.rN.apart⟩
  wt := h.wt
  wn := h.wn
  ne := h.ne
  np := h.np
  qp := h.qp
  lt := fun b hb => Nat.lt_of_lt_of_le (h.lt b hb) g.size
  sorted := h.sorted
  ok := h.ok
theorem StoreAt.kf {F : Nat → Prop} {w w' : World} {p : Nat} {S : St} {W Q : Nat → Prop} (h : StoreAt w p S W Q) (g : KF F w w') (hF : ∀ b, W b ∨ Q b → ¬ F b) : StoreAt w' p S W Q := by
  obtain ⟨bt, bn, Dt, Dn, h⟩ := h
  exact ⟨bt, bn, Dt, Dn, h.kf g hF⟩
theorem StoreAt.below {w w' : World} {p : Nat} {S : St} {W Q : Nat → Prop} (h : StoreAt w p S W Q) (hb : Below w.heap.size w w') : StoreAt w' p S W Q :=
  h.kf (KF.of_below (F := fun _ => False) hb) fun _ _ h => h
theorem StoreIn.below {w w' : World} {p : Nat} {S : St} {W Q : Nat → Prop} {bt bn : Nat} {Dt Dn : DataW Value} (h : StoreIn w p S W Q bt bn Dt Dn) (hb : Below w.heap.size w w') : StoreIn w' p S W Q bt bn Dt Dn :=
  h.kf (KF.of_below (F := fun _ => False) hb) fun _ _ h => h
theorem hid_st {w w' : World} {p : Nat} {S : St} {W Q : Nat → Prop} (h : Hid (StoreAt w p S W Q)) (hb : Below w.heap.size w w') : Hid (StoreAt w' p S W Q) := Lib.hid (h.out.below hb)
theorem hid_si {w w' : World} {p : Nat} {S : St} {W Q : Nat → Prop} {bt bn : Nat} {Dt Dn : DataW Value} (h : Hid (StoreIn w p S W Q bt bn Dt Dn)) (hb : Below w.heap.size w w') : Hid (StoreIn w' p S W Q bt bn Dt Dn) := Lib.hid (h.out.below hb)
/-! how many -/
theorem nodup_sub_dec {α : Type} [DecidableEq α] : ∀ (l m : List α), l.Nodup → (∀ x ∈ l, x ∈ m) → l.length ≤ m.length
  | [], _, _, _ => Nat.zero_le _
  | x :: l, m, hn, hs => by
    obtain ⟨h1, h2⟩ := List.nodup_cons.1 hn
    have hx := hs x (by simp)
    have ih := nodup_sub_dec l (m.erase x) h2 fun y hy => (List.mem_erase_of_ne (fun e => h1 (by rw [← e]; exact hy))).2 (hs y (by simp [hy]))
    rw [List.length_erase_of_mem hx] at ih
    have := List.length_pos_of_mem hx
    simp only [List.length_cons]
    omega
theorem nodup_sub_len {α : Type} (l m : List α) (h : l.Nodup) (hs : ∀ x ∈ l, x ∈ m) : l.length ≤ m.length :=
  haveI : DecidableEq α := fun _ _ => Classical.propDecidable _
  nodup_sub_dec l m h hs
theorem map_keys {P : Program} {k : TypeId} {w : World} {b n : Nat} {D : DataW Value} (h : w.ownsMap P k rawR b n D) (K : Keyed P k) : ∃ ks : List Lit, ks.Nodup ∧ ks.length = Maps.size D ∧ ∀ kl, kl ∈ ks ↔ (fD D kl).isSome = true := by
  obtain ⟨es, he, hp, hk⟩ := h.entries K
  have hheld : ∀ q ∈ es, ∃ v, q.2 = .held v := by
    intro q hq
    obtain ⟨es', c, _, F, _, hD⟩ := h
    rw [hD] at he
    cases he
    obtain ⟨x, hx, rfl⟩ := List.mem_map.1 (mem_sorted.1 hq)
    obtain ⟨y, hy⟩ := F.reads x hx
    rw [WideElems.rg_of hy]
    obtain ⟨z, hz, e⟩ := WideElems.rd_val hy
    cases hz
    exact ⟨_, e⟩
  subst he
  refine ⟨es.map (·.1), by unfold List.Nodup; rw [List.pairwise_map]; exact hp, by simp [Maps.size], fun kl => ?_⟩
  constructor
  · intro hm
    obtain ⟨q, hq, rfl⟩ := List.mem_map.1 hm
    have hh : Maps.has (.map es : DataW Value) q.1 = true := List.any_eq_true.2 ⟨q, hq, WideAt.sameKey_self (hk q hq)⟩
    unfold fD
    rw [if_pos hh]
    have : ∃ p ∈ es, (DataW.map es).atKey q.1 .nil = p.2 := by
      unfold DataW.atKey
      simp only
      cases hf : es.find? (fun p => p.1.sameKey q.1) with
      | none =>
        have := List.find?_eq_none.1 hf q hq
        rw [WideAt.sameKey_self (hk q hq)] at this
        exact absurd rfl this
      | some p => exact ⟨p, List.mem_of_find?_eq_some hf, rfl⟩
    obtain ⟨p, hp', e⟩ := this
    obtain ⟨v, hv⟩ := hheld p hp'
    rw [e, hv]
    rfl
  · intro hs
    unfold fD at hs
    split at hs
    · rename_i hh
      obtain ⟨p, hp', hpk⟩ := List.any_eq_true.1 hh
      exact List.mem_map.2 ⟨p, hp', WideAt.sameKey_eq hpk⟩
    · cases hs
theorem strLit_inj {a b : ByteArray} (h : Lit.string a.data.toList = .string b.data.toList) : a = b := bytes_inj (Lit.string.inj h)
theorem StoreIn.size {w : World} {p : Nat} {S : St} {W Q : Nat → Prop} {bt bn : Nat} {Dt Dn : DataW Value} (h : StoreIn w p S W Q bt bn Dt Dn) : Maps.size Dt = S.length := by
  obtain ⟨ks, h1, h2, h3⟩ := map_keys h.things kStr
  have hn : (S.map fun e => Lit.string e.1.data.toList).Nodup := by
    have := sorted_names h.sorted
    unfold List.Nodup at this ⊢
    rw [List.pairwise_map] at this ⊢
    exact this.imp fun {a b} hab e => hab (strLit_inj e)
  have e1 := nodup_sub_len ks (S.map fun e => Lit.string e.1.data.toList) h1 fun kl hkl => by
    obtain ⟨v, hv⟩ := Option.isSome_iff_exists.1 ((h3 kl).1 hkl)
    obtain ⟨s, x, hx, rfl⟩ := h.rT.2 kl v hv
    exact List.mem_map.2 ⟨(s, x), hx, rfl⟩
  have e2 := nodup_sub_len _ ks hn fun kl hkl => by
    obtain ⟨⟨s, x⟩, hx, rfl⟩ := List.mem_map.1 hkl
    obtain ⟨v, hv, _⟩ := h.rT.1 s x hx
    exact (h3 _).2 (by rw [hv]; rfl)
  simp only [List.length_map] at e1 e2
  omega
theorem namesOf_mem {S : St} {a b : ByteArray} {s : ByteArray} : s ∈ namesOf S a b ↔ ∃ x, (s, x) ∈ S ∧ x.lS = a ∧ x.lI = b := by
  unfold namesOf
  rw [List.mem_map]
  constructor
  · rintro ⟨⟨s', x⟩, he, rfl⟩
    obtain ⟨h1, h2⟩ := List.mem_filter.1 he
    obtain ⟨h3, h4⟩ := (labB_iff _ _ _ _).1 h2
    exact ⟨x, h1, h3, h4⟩
  · rintro ⟨x, h1, h2, h3⟩
    exact ⟨(s, x), List.mem_filter.2 ⟨h1, (labB_iff _ _ _ _).2 ⟨h2, h3⟩⟩, rfl⟩
theorem StoreIn.sizeN {w : World} {p : Nat} {S : St} {W Q : Nat → Prop} {bt bn : Nat} {Dt Dn : DataW Value} (h : StoreIn w p S W Q bt bn Dt Dn) : Maps.size Dn ≤ S.length := by
  obtain ⟨ks, h1, h2, h3⟩ := map_keys h.names kLab
  have e1 := nodup_sub_len ks (S.map fun e => labK e.2.lS e.2.lI) h1 fun kl hkl => by
    obtain ⟨v, hv⟩ := Option.isSome_iff_exists.1 ((h3 kl).1 hkl)
    obtain ⟨a, b, _, _, rfl, hne⟩ := h.rN.only kl v hv
    obtain ⟨s, hs⟩ := List.exists_mem_of_ne_nil _ hne
    obtain ⟨x, hx, rfl, rfl⟩ := namesOf_mem.1 hs
    exact List.mem_map.2 ⟨(s, x), hx, rfl⟩
  simp only [List.length_map] at e1
  omega
theorem labK_inj {a b c d : ByteArray} (ha : Bd a) (hb : Bd b) (hc : Bd c) (hd : Bd d) (h : labK a b = labK c d) : a = c ∧ b = d := by
  have h1 := keyLab a b (bd_max ha) (bd_max hb)
  have h2 := keyLab c d (bd_max hc) (bd_max hd)
  rw [h] at h1
  have := kLab.inj h1 h2
  simpa using this
/-- what a store has under a name -/
def getS (S : St) (key : ByteArray) : Option OB := (S.find? fun e => decide (e.1 = key)).map (·.2)
def OB0 : OB := ⟨0, ⟨#[]⟩, ⟨#[]⟩, 0, 0, ⟨#[]⟩, ⟨#[]⟩, ⟨#[]⟩, false, false, false, 0, 0, ⟨#[]⟩, ⟨#[]⟩, ⟨#[]⟩, [], 0, 0⟩
theorem OB0_raw : OB0.raw none 0 = ox0 := rfl
theorem getS_mem {S : St} (h : SortedS S) {s : ByteArray} {x : OB} : (s, x) ∈ S ↔ getS S s = some x := by
  unfold getS
  constructor
  · intro hm
    cases hf : S.find? fun e => decide (e.1 = s) with
    | none => exact absurd (List.find?_eq_none.1 hf _ hm) (by simp)
    | some e =>
      have h1 := List.mem_of_find?_eq_some hf
      have h2 := List.find?_some hf
      obtain ⟨t, y⟩ := e
      obtain rfl : t = s := by simpa using h2
      rw [sorted_fun h hm h1]
      rfl
  · intro hg
    obtain ⟨e, he, rfl⟩ := Option.map_eq_some_iff.1 hg
    have h1 := List.mem_of_find?_eq_some he
    have h2 := List.find?_some he
    obtain ⟨t, y⟩ := e
    obtain rfl : t = s := by simpa using h2
    exact h1
theorem obIn_zero (w : World) (A : Nat → Prop) : ObIn w A (.agg (ox ox0)) OB0 :=
  ⟨none, 0, rfl, ⟨rowsQ_wide [], .inl ⟨⟨none, 0, rfl⟩, rfl⟩⟩, by decide, .inl rfl⟩
/-- what lies under a name -/
def rawT (D : DataW Value) (key : ByteArray) : Value := (fD D (.string key.data.toList)).getD (.agg (ox ox0))
/-- the look-up of a name -/
theorem StoreIn.look {w : World} {p : Nat} {S : St} {W Q : Nat → Prop} {bt bn : Nat} {Dt Dn : DataW Value} (h : StoreIn w p S W Q bt bn Dt Dn) (key : ByteArray) (hk : key.size ≤ maxLen) :
    (Instr.lookup 60 (.map (some bt)) (.string key) true).run Tryz.prog w = .ok (.tuple #[rawT Dt key, .bool (getS S key).isSome]) w ∧ ObIn w (fun b => Q b ∧ ¬ W b) (rawT Dt key) ((getS S key).getD OB0) := by
  have hl := map_look h.things kStr Tryz.underlying60 (zero_ox w) (keyStr key hk) true
  rw [if_pos rfl] at hl
  unfold rawT
  cases hg : getS S key with
  | some x =>
    obtain ⟨v, hv, ho⟩ := h.rT.1 key x ((getS_mem h.sorted).2 hg)
    rw [hv] at hl ⊢
    exact ⟨hl, ho⟩
  | none =>
    have hn : fD Dt (.string key.data.toList) = none := by
      cases hf : fD Dt (.string key.data.toList) with
      | none => rfl
      | some v =>
        obtain ⟨s, x, hx, e⟩ := h.rT.2 _ v hf
        rw [← strLit_inj e] at hx
        rw [(getS_mem h.sorted).1 hx] at hg
        cases hg
    rw [hn] at hl ⊢
    exact ⟨hl, obIn_zero w _⟩
end Go.Proofs.YtlkgcidhhngfeaaGreatDoor
/- Adding to a store and setting in it, in plain words. -/
namespace Go.Proofs.YtlkgcidhhngfeaaGreatDoor
open Go.RowKit Go.Maps
/-- set under a name -/
def setS (S : St) (key : ByteArray) (x : OB) : St := S.map fun e => if e.1 = key then (key, x) else e
/-- added under a name -/
def insS (S : St) (key : ByteArray) (x : OB) : St := (S.filter fun e => decide (ordB e.1 key < 0)) ++ (key, x) :: S.filter fun e => !decide (ordB e.1 key < 0)
/-- a name laid among those that rise -/
def insL (L : List ByteArray) (key : ByteArray) : List ByteArray := (L.filter fun s => decide (ordB s key < 0)) ++ key :: L.filter fun s => !decide (ordB s key < 0)
theorem setS_names (S : St) (key : ByteArray) (x : OB) : (setS S key x).map (·.1) = S.map (·.1) := by
  unfold setS
  rw [List.map_map]
  refine List.map_congr_left fun e _ => ?_
  show (if e.1 = key then (key, x) else e).1 = e.1
  split
  · rename_i h; exact h.symm
  · rfl
theorem sorted_iff {S : St} : SortedS S ↔ (S.map (·.1)).Pairwise fun a b => ordB a b < 0 := by
  unfold SortedS
  rw [List.pairwise_map]
theorem setS_sorted {S : St} (h : SortedS S) (key : ByteArray) (x : OB) : SortedS (setS S key x) := by
  rw [sorted_iff, setS_names]
  exact sorted_iff.1 h
theorem setS_mem {S : St} {key s : ByteArray} {x y : OB} : (s, y) ∈ setS S key x ↔ (s = key ∧ y = x ∧ ∃ z, (key, z) ∈ S) ∨ (s ≠ key ∧ (s, y) ∈ S) := by
  unfold setS
  rw [List.mem_map]
  constructor
  · rintro ⟨⟨t, z⟩, he, hq⟩
    by_cases ht : t = key
    · subst ht
      rw [if_pos rfl] at hq
      obtain ⟨rfl, rfl⟩ := Prod.mk.inj hq
      exact .inl ⟨rfl, rfl, z, he⟩
    · rw [if_neg ht] at hq
      obtain ⟨rfl, rfl⟩ := Prod.mk.inj hq
      exact .inr ⟨ht, he⟩
  · rintro (⟨rfl, rfl, z, hz⟩ | ⟨hne, hs⟩)
    · exact ⟨(s, z), hz, by rw [if_pos rfl]⟩
    · exact ⟨(s, y), hs, by rw [if_neg hne]⟩
theorem insS_mem {S : St} {key : ByteArray} {x : OB} {e : ByteArray × OB} : e ∈ insS S key x ↔ e = (key, x) ∨ e ∈ S := by
  unfold insS
  simp only [List.mem_append, List.mem_cons, List.mem_filter, Bool.not_eq_true', decide_eq_true_eq, decide_eq_false_iff_not]
  constructor
  · rintro (⟨h, _⟩ | h | ⟨h, _⟩)
    · exact .inr h
    · exact .inl h
    · exact .inr h
  · rintro (h | h)
    · exact .inr (.inl h)
    · by_cases hc : ordB e.1 key < 0
      · exact .inl ⟨h, hc⟩
      · exact .inr (.inr ⟨h, hc⟩)
theorem ordB_total {a b : ByteArray} (h : ¬ ordB a b < 0) (hne : a ≠ b) : ordB b a < 0 := by
  have h1 := ordB_swap a b
  have h2 : ordB a b ≠ 0 := fun e => hne (ordB_zero.1 e)
  omega
theorem insS_sorted {S : St} (h : SortedS S) {key : ByteArray} {x : OB} (hk : getS S key = none) : SortedS (insS S key x) := by
  have hne : ∀ e ∈ S, e.1 ≠ key := by
    rintro ⟨s, y⟩ he rfl
    rw [(getS_mem h).1 he] at hk
    cases hk
  unfold SortedS insS at *
  refine List.pairwise_append.2 ⟨List.Pairwise.sublist List.filter_sublist h, List.pairwise_cons.2 ⟨fun e he => ?_, List.Pairwise.sublist List.filter_sublist h⟩, fun a ha b hb => ?_⟩
  · obtain ⟨h1, h2⟩ := List.mem_filter.1 he
    simp only [Bool.not_eq_true', decide_eq_false_iff_not] at h2
    exact ordB_total h2 (hne e h1)
  · obtain ⟨h1, h2⟩ := List.mem_filter.1 ha
    simp only [decide_eq_true_eq] at h2
    rcases List.mem_cons.1 hb with rfl | hb
    · exact h2
    · obtain ⟨h3, h4⟩ := List.mem_filter.1 hb
      simp only [Bool.not_eq_true', decide_eq_false_iff_not] at h4
      exact ordB_trans h2 (ordB_total h4 (hne b h3))
/-- the names ahead of one, and those that are not, are all of them -/
theorem part_sorted (key : ByteArray) : ∀ {S : St}, SortedS S → (S.filter fun e => decide (ordB e.1 key < 0)) ++ (S.filter fun e => !decide (ordB e.1 key < 0)) = S
  | [], _ => rfl
  | e :: S, h => by
    obtain ⟨h1, h2⟩ := List.pairwise_cons.1 h
    by_cases hc : ordB e.1 key < 0
    · rw [List.filter_cons_of_pos (by simpa using hc), List.filter_cons_of_neg (by simpa using hc), List.cons_append, part_sorted key h2]
    · have hall : ∀ f ∈ S, ¬ ordB f.1 key < 0 := fun f hf hfk => by
        have h3 := h1 f hf
        exact hc (ordB_trans h3 hfk)
      have e1 : (S.filter fun e => decide (ordB e.1 key < 0)) = [] := List.filter_eq_nil_iff.2 fun f hf => by simpa using hall f hf
      have e2 : (S.filter fun e => !decide (ordB e.1 key < 0)) = S := List.filter_eq_self.2 fun f hf => by simpa using hall f hf
      rw [List.filter_cons_of_neg (by simpa using hc), List.filter_cons_of_pos (by simpa using hc), e1, e2]
      rfl
theorem filter_comm {α : Type} (p q : α → Bool) (l : List α) : (l.filter p).filter q = (l.filter q).filter p := by
  rw [List.filter_filter, List.filter_filter]
  exact List.filter_congr fun x _ => Bool.and_comm _ _
theorem namesOf_filter (S : St) (a b : ByteArray) (p : ByteArray → Bool) : namesOf (S.filter fun e => p e.1) a b = (namesOf S a b).filter p := by
  unfold namesOf
  rw [filter_comm, List.filter_map]
  rfl
theorem names_insS_same {S : St} {key : ByteArray} {x : OB} : namesOf (insS S key x) x.lS x.lI = insL (namesOf S x.lS x.lI) key := by
  have h1 := namesOf_filter S x.lS x.lI fun s => decide (ordB s key < 0)
  have h2 := namesOf_filter S x.lS x.lI fun s => !decide (ordB s key < 0)
  have hl : labB x.lS x.lI x.lS x.lI = true := (labB_iff _ _ _ _).2 ⟨rfl, rfl⟩
  unfold insL
  rw [← h1, ← h2]
  unfold insS namesOf
  rw [List.filter_append, List.filter_cons_of_pos (by exact hl), List.map_append, List.map_cons]
theorem names_insS_other {S : St} (h : SortedS S) {key : ByteArray} {x : OB} {a b : ByteArray} (hab : ¬ (x.lS = a ∧ x.lI = b)) : namesOf (insS S key x) a b = namesOf S a b := by
  have hl : ¬ labB x.lS x.lI a b = true := fun e => hab ((labB_iff _ _ _ _).1 e)
  have hp := part_sorted key h
  unfold insS namesOf
  rw [List.filter_append, List.filter_cons_of_neg (by exact hl), ← List.filter_append, hp]
theorem names_setS {S : St} (h : SortedS S) {key : ByteArray} {x y : OB} (hg : getS S key = some y) (h1 : y.lS = x.lS) (h2 : y.lI = x.lI) (a b : ByteArray) : namesOf (setS S key x) a b = namesOf S a b := by
  have hy := (getS_mem h).2 hg
  unfold namesOf setS
  rw [List.filter_map, List.map_map]
  have hcl : ∀ e ∈ S, (labB (if e.1 = key then (key, x) else e).2.lS (if e.1 = key then (key, x) else e).2.lI a b) = labB e.2.lS e.2.lI a b := by
    intro e he
    split
    · rename_i hk
      obtain ⟨s, z⟩ := e
      obtain rfl : s = key := hk
      rw [sorted_fun h he hy]
      show labB x.lS x.lI a b = labB y.lS y.lI a b
      rw [h1, h2]
    · rfl
  have hf : S.filter ((fun e : ByteArray × OB => labB e.2.lS e.2.lI a b) ∘ fun e => if e.1 = key then (key, x) else e) = S.filter fun e => labB e.2.lS e.2.lI a b := List.filter_congr fun e he => hcl e he
  rw [hf]
  refine List.map_congr_left fun e _ => ?_
  show (if e.1 = key then (key, x) else e).1 = e.1
  split
  · rename_i hk; exact hk.symm
  · rfl
theorem names_sorted {S : St} (h : SortedS S) (a b : ByteArray) : (namesOf S a b).Pairwise fun s t => ordB s t < 0 := by
  unfold namesOf
  rw [List.pairwise_map]
  exact List.Pairwise.sublist List.filter_sublist h
theorem getS_setS {S : St} (h : SortedS S) {key s : ByteArray} {x : OB} : getS (setS S key x) s = if s = key then (getS S key).map fun _ => x else getS S s := by
  have hs := setS_sorted h key x
  by_cases hk : s = key
  · subst hk
    rw [if_pos rfl]
    cases hg : getS S s with
    | some y => exact (getS_mem hs).1 (setS_mem.2 (.inl ⟨rfl, rfl, y, (getS_mem h).2 hg⟩))
    | none =>
      cases hf : getS (setS S s x) s with
      | none => rfl
      | some z =>
        rcases setS_mem.1 ((getS_mem hs).2 hf) with ⟨_, _, y, hy⟩ | ⟨hne, _⟩
        · rw [(getS_mem h).1 hy] at hg; cases hg
        · exact absurd rfl hne
  · rw [if_neg hk]
    cases hg : getS S s with
    | some y => exact (getS_mem hs).1 (setS_mem.2 (.inr ⟨hk, (getS_mem h).2 hg⟩))
    | none =>
      cases hf : getS (setS S key x) s with
      | none => rfl
      | some z =>
        rcases setS_mem.1 ((getS_mem hs).2 hf) with ⟨e, _⟩ | ⟨_, hz⟩
        · exact absurd e hk
        · rw [(getS_mem h).1 hz] at hg; cases hg
theorem setS_ok {S : St} (h : ∀ e ∈ S, OkE e) {key : ByteArray} {x y : OB} (hs : SortedS S) (hg : getS S key = some y) (h1 : y.lS = x.lS) (h2 : y.lI = x.lI) : ∀ e ∈ setS S key x, OkE e := by
  rintro ⟨s, z⟩ he
  have hy := h _ ((getS_mem hs).2 hg)
  rcases setS_mem.1 he with ⟨rfl, rfl, _⟩ | ⟨_, hz⟩
  · exact ⟨hy.1, by rw [← h1]; exact hy.2.1, by rw [← h2]; exact hy.2.2⟩
  · exact h _ hz
end Go.Proofs.YtlkgcidhhngfeaaGreatDoor
/- store.New, Get, Len. -/
namespace Go.Proofs.YtlkgcidhhngfeaaGreatDoor
open Go.RowKit Go.Maps
theorem below_ge {w w' : World} (h : Below w.heap.size w w') : w.heap.size ≤ w'.heap.size := h.size
theorem fD_no {kl : Lit} {v : Value} {P : Prop} (h : fD (.map []) kl = some v) : P := by
  rw [fD_empty] at h
  cases h
theorem storeAt_new (w : World) : StoreAt (((w.alloc (.map #[] 0)).alloc (.map #[] 0)).alloc (.cells #[.map (some w.heap.size), .map (some (w.heap.size + 1))] 64)) (w.heap.size + 1 + 1) [] (fun b => b = w.heap.size ∨ b = w.heap.size + 1) (fun b => b = w.heap.size + 1 + 1) := by
  have M := ((Mem.nil w).new' w.heap.size rfl (.map #[] 0)).new' (w.heap.size + 1) (by simp) (.map #[] 0) |>.new' (w.heap.size + 1 + 1) (by simp) (.cells #[.map (some w.heap.size), .map (some (w.heap.size + 1))] 64)
  refine ⟨w.heap.size, w.heap.size + 1, .map [], .map [], ?_⟩
  have o1 := World.ownsMap_made w Tryz.prog 9 (rawR)
  have o2 := World.ownsMap_made (w.alloc (.map #[] 0)) Tryz.prog 25 (rawR)
  exact {
    ptr := M.1
    things := (o1.alloc _).alloc _
    names := by
      have e : (w.alloc (.map #[] 0)).heap.size = w.heap.size + 1 := by simp
      rw [e] at o2
      exact o2.alloc _
    rT := ⟨fun s x hx => (List.not_mem_nil hx).elim, fun kl v hv => fD_no hv⟩
    rN := ⟨fun a b h => absurd rfl h, fun kl v hv => fD_no hv, fun kl v b hv => fD_no hv, fun kl kl' v v' b hv => fD_no hv⟩
    wt := .inl rfl
    wn := .inr rfl
    ne := by omega
    np := by omega
    qp := rfl
    lt := fun b hb => by simp; omega
    sorted := List.Pairwise.nil
    ok := fun e he => by cases he }
theorem new_any (w : World) :
    Calls Tryz.prog 24 #[] w fun e w' => ∃ p W Q, e = .returned (.pointer (some ⟨p, 0, none⟩)) ∧ Hid (StoreAt w' p [] W Q) ∧ Hid (∀ b, W b ∨ Q b → w.heap.size ≤ b) ∧ Below w.heap.size w w' := by
  have hmm := @run_makeMap Tryz.prog
  have HS := Lib.hid (storeAt_new w)
  go_enter Tryz.func24, Tryz.ntmps24
  go_wp2_with fail
  go_ret
  exact ⟨_, _, _, rfl, HS, Lib.hid (fun b hb => by omega), below_al (below_al (below_al (Below.refl _ _) _) _) _⟩
set_option maxRecDepth 100000 in
theorem len_any (p : Nat) (S : St) (W Q : Nat → Prop) (w : World) (h : StoreAt w p S W Q) :
    Calls Tryz.prog 20 #[.pointer (some ⟨p, 0, none⟩)] w fun e w' => e = .returned (.int .i64 (S.length : Int)) ∧ Below w.heap.size w w' := by
  obtain ⟨bt, bn, Dt, Dn, h⟩ := h
  have hsz := h.size
  have hl := fun ty => h.things.len Tryz.underlying60 ty
  have c0 := Mem.cell (v := .map (some bt)) h.ptr 0 rfl
  rw [hsz] at hl
  clear h hsz
  go_enter Tryz.func20, Tryz.ntmps20
  go_wp2_with fail
  go_ret
  exact ⟨rfl, Below.refl _ _⟩
set_option maxRecDepth 100000 in
set_option maxHeartbeats 4000000 in
theorem get_raw (p bt : Nat) (key : ByteArray) (o : Ox) (ok : Bool) (l : List Wt) (hlen : l.length * 88 ≤ 140737488355328) (w : World)
    (hp : ∀ W, Below w.heap.size w W → W.cell? ⟨p, 0, none⟩ = some (.map (some bt))) (hk : ∀ W, Below w.heap.size w W → (Instr.lookup 60 (.map (some bt)) (.string key) true).run Tryz.prog W = .ok (.tuple #[.agg (ox o), .bool ok]) W)
    (hq : ∀ W, Below w.heap.size w W → QAt W (.slice o.q.a o.q.n o.q.c) l) :
    Calls Tryz.prog 12 #[.pointer (some ⟨p, 0, none⟩), .string key] w fun e w' => ∃ a c, e = .returned (.tuple #[.agg (ox { o with q := ⟨a, l.length, c⟩ }), .bool ok]) ∧ Hid (w'.ownsRow w.heap.size 94 7 (.slice a l.length c) l.length (rowsQ l).flatten) ∧ Below w.heap.size w w' := by
  have HQ := Lib.hid hq
  have HP := Lib.hid hp
  have HK := Lib.hid hk
  clear hq hp hk
  go_enter Tryz.func12, Tryz.ntmps12
  have hB0 := Below.refl w.heap.size w
  have M0 := Mem.nil w
  go_upto_region 1 with (fail)
  refine wp_named ?_
  intro w1 hW1
  have hB1 : Below w.heap.size w w1 := by rw [hW1]; exact (below_al hB0 _)
  have M1 : Mem w1 [(w.heap.size, .cells (ox (ox0)) 32)] := by rw [hW1]; exact (M0).new' (w.heap.size) (by rfl) (.cells (ox (ox0)) 32)
  clear hW1
  have z1_0 := Mem.lt M1.1
  have cp := HP.out _ hB1
  have hlk := HK.out _ hB1
  refine wp_region_lit ?_
  iterate 30 go_step
  have oo1_0 : w.heap.size < w1.heap.size := Mem.lt M1.1
  refine wpl_named ?_
  intro w2 hW2
  have hB2 : Below w.heap.size w w2 := by rw [hW2]; exact (below_al hB1 _)
  have M2 : Mem w2 [(w1.heap.size, .cells (ox (ox0)) 32), (w.heap.size, .cells (ox (ox0)) 32)] := by rw [hW2]; exact (M1).new' (w1.heap.size) (by rfl) (.cells (ox (ox0)) 32)
  clear z1_0
  clear hW2
  have z2_0 := Mem.lt M2.1
  have z2_1 := Mem.lt M2.2.1
  clear cp hlk
  refine store_ox rfl _ _ rfl (w1.heap.size) rfl (ox0) (o) rfl M2.1 ?_
  intro w3 hW3
  have hB3 : Below w.heap.size w w3 := by rw [hW3]; exact below_setCells (B := w.heap.size) hB2 (b := w1.heap.size) (by have := hB2.size; omega) 0 _
  have M3 : Mem w3 [(w1.heap.size, .cells (ox (o)) 32), (w.heap.size, .cells (ox (ox0)) 32)] := by rw [hW3]; exact ⟨set_ox M2.1 _, (setCells_other _ 0 _ _ (by omega)).trans M2.2.1, trivial⟩
  clear z2_0 z2_1
  clear hW3
  have z3_0 := Mem.lt M3.1
  have z3_1 := Mem.lt M3.2.1
  go_upto_region 2 with (fail)
  refine wp_region_lit ?_
  refine load_ox rfl _ rfl (w1.heap.size) rfl (o) M3.1 ?_
  go_wp2_with fail
  refine Calls.named ?_
  intro W4 hW4
  have hB4_ : Below w.heap.size w W4 := by rw [hW4]; exact hB3
  have M4_ := M3
  rw [← hW4] at M4_
  clear hW4
  have ZZ4_0 := Lib.hid (Mem.lt M4_.1)
  have ZZ4_1 := Lib.hid (Mem.lt M4_.2.1)
  clear z3_0 z3_1
  refine (copied_raw o l _ (HQ.out _ hB4_) hlen).mono ?_
  rintro e w4 ⟨a, c, rfl, hown, hb4⟩
  have hB4 := below_then hB4_ hb4
  have M4 := M4_.below hb4
  clear M4_ hB4_ hb4
  have z4_0 := Mem.lt M4.1
  have z4_1 := Mem.lt M4.2.1
  have zb := ZZ4_0.out
  have zr := ZZ4_1.out
  have yy := hB1.size
  simp only
  iterate 4 go_step
  refine store_ox rfl _ _ rfl (w.heap.size) rfl (ox0) ({ o with q := ⟨a, l.length, c⟩ }) rfl M4.2.1 ?_
  intro w5 hW5
  have hB5 : Below w.heap.size w w5 := by rw [hW5]; exact below_setCells (B := w.heap.size) hB4 (b := w.heap.size) (by have := hB4.size; omega) 0 _
  have M5 : Mem w5 [(w1.heap.size, .cells (ox (o)) 32), (w.heap.size, .cells (ox ({ o with q := ⟨a, l.length, c⟩ })) 32)] := by rw [hW5]; exact ⟨(setCells_other _ 0 _ _ (by omega)).trans M4.1, set_ox M4.2.1 _, trivial⟩
  have hown3 := Lib.hid (ownsRow_set (b := w.heap.size) hown.out (by omega) 0 (oxL ({ o with q := ⟨a, l.length, c⟩ })))
  rw [← hW5] at hown3
  clear z4_0 z4_1
  clear hW5
  have z5_0 := Mem.lt M5.1
  have z5_1 := Mem.lt M5.2.1
  have hown4 : Hid (w5.ownsRow w.heap.size 94 7 (.slice a l.length c) l.length (rowsQ l).flatten) := Lib.hid (by
    have h1 := hown3.out
    refine ⟨h1.1, ?_⟩
    rcases h1.2 with h0 | ⟨g, cap, cur, hv, hB, hg, hr⟩
    · exact .inl h0
    · exact .inr ⟨g, cap, cur, hv, by omega, hg, hr⟩)
  go_wp2_with fail
  refine bodyPost_ret (v := .tuple #[.agg (ox ({ o with q := ⟨a, l.length, c⟩ })), .bool ok]) (results_ox2 Tryz.results12 _ _ (w.heap.size) ({ o with q := ⟨a, l.length, c⟩ }) rfl M5.2.1) rfl ⟨_, _, rfl, hown4, hB5⟩
theorem get_any (p : Nat) (S : St) (W Q : Nat → Prop) (key : ByteArray) (hk : key.size ≤ maxLen) (w : World) (h : StoreAt w p S W Q) :
    Calls Tryz.prog 12 #[.pointer (some ⟨p, 0, none⟩), .string key] w fun e w' => ∃ a c, e = .returned (.tuple #[.agg (ox (((getS S key).getD OB0).raw a c)), .bool (getS S key).isSome]) ∧ Hid (ObIn w' (fun b => w.heap.size ≤ b) (.agg (ox (((getS S key).getD OB0).raw a c))) ((getS S key).getD OB0)) ∧ Below w.heap.size w w' := by
  obtain ⟨bt, bn, Dt, Dn, h⟩ := h
  obtain ⟨a, c, hv, hq, hl, _⟩ := (h.look key hk).2
  refine (get_raw p bt key (((getS S key).getD OB0).raw a c) (getS S key).isSome ((getS S key).getD OB0).q hl w (fun W' hb => Mem.cell (h.below hb).ptr 0 rfl) (fun W' hb => by have := ((h.below hb).look key hk).1; rw [hv] at this; exact this) (fun W' hb => hq.below hb)).mono ?_
  rintro e w' ⟨a', c', rfl, hown, hb⟩
  exact ⟨a', c', rfl, Lib.hid (ObIn.copied hl hown.out fun _ h => h), hb⟩
end Go.Proofs.YtlkgcidhhngfeaaGreatDoor
