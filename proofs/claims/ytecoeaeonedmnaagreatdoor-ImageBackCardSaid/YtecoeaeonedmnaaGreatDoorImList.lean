/- image.list: as many as are told, one behind the other. -/
import Derived.Test.YtecoeaeonedmnaaGreatDoorZ9
import Derived.Lib.SliceRun
import Derived.Maps.AppendAt
import Derived.ArgAppend
import Derived.Deep.RegionLawGrows
import Derived.Deep.AppendLies
namespace Go.Proofs.YtecoeaeonedmnaaGreatDoor
open Go.RowKit
theorem row_low {w : World} {B k : Nat} {e : TypeId} {v : Value} {n : Nat} {xs : List Value} (h : w.ownsRow B e k v n xs) : ∀ j, v.ownBlock = some j → B ≤ j := by
  intro j hj
  rcases h.2 with ⟨rfl, _⟩ | ⟨g, cap, cur, rfl, hB, _⟩
  · cases hj
  · simp [Value.ownBlock] at hj; omega
theorem owns_slice {w : World} {B k : Nat} {e : TypeId} {v : Value} {n : Nat} {xs : List Value} (h : w.ownsRow B e k v n xs) : ∃ ao n' cap, v = .slice ao n' cap := by
  rcases h.2 with ⟨rfl, _⟩ | ⟨g, cap, cur, rfl, _⟩
  · exact ⟨_, _, _, rfl⟩
  · exact ⟨_, _, _, rfl⟩
theorem owns_len {w : World} {B k : Nat} {e : TypeId} {ao : Option Addr} {n' cap n : Nat} {xs : List Value} (h : w.ownsRow B e k (.slice ao n' cap) n xs) : n' = n := by
  rcases h.2 with ⟨hv, h0⟩ | ⟨g, cap', cur, hv, _⟩
  · cases hv; omega
  · cases hv; rfl
theorem ownsRow_ka {w w' : World} {A B k : Nat} {e : TypeId} {v : Value} {n : Nat} {xs : List Value} (h : w.ownsRow B e k v n xs) (hk : KA A w w') (hA : A < B) : w'.ownsRow B e k v n xs :=
  ⟨h.1, h.2.imp id fun ⟨g, cap, cur, hv, hB, hg, r⟩ => ⟨g, cap, cur, hv, hB, hk.keep hg (by omega), r⟩⟩
theorem ka_grown {A : Nat} {w w2 w3 : World} {o1 o2 : Obj} {row : Option Nat} (h : KA A w w2) (hg : ((w2.alloc o1).alloc o2).grownBy w3 row) (hB : ∀ j, row = some j → w.heap.size ≤ j) : KA A w w3 := by
  refine ⟨hg.os.trans h.os, hg.tape.trans h.tape, hg.output.trans h.output, ?_, fun k hk hb => ?_⟩
  · have h1 := hg.size
    have h2 := h.size
    simp at h1
    omega
  · have h2 := h.size
    rw [hg.block k (by simp; omega) (fun e => by have := hB k e.symm; omega), Lib.alloc_old _ _ k (by simp; omega), Lib.alloc_old _ _ k (by omega)]
    exact h.block k hk hb
theorem many_len {α : Type} {g : List UInt8 → Option (α × Nat)} : ∀ {n : Nat} {l : List UInt8} {xs : List α} {k : Nat}, many g n l = some (xs, k) → xs.length = n
  | 0, l, xs, k, e => by
    simp only [many, Option.some.injEq, Prod.mk.injEq] at e
    obtain ⟨rfl, rfl⟩ := e
    rfl
  | n + 1, l, xs, k, e => by
    rw [many] at e
    cases hg : g l with
    | none => rw [hg] at e; cases e
    | some p =>
      obtain ⟨x, a⟩ := p
      rw [hg] at e
      simp only at e
      cases hm : many g n (l.drop a) with
      | none => rw [hm] at e; cases e
      | some q =>
        obtain ⟨ys, b⟩ := q
        rw [hm] at e
        simp only [Option.some.injEq, Prod.mk.injEq] at e
        obtain ⟨rfl, rfl⟩ := e
        rw [List.length_cons, many_len hm]
def contP {α : Type} (it : List UInt8 → Option (α × Nat)) (L : List UInt8) (p : Nat) (q : Option (Nat × Nat)) : Option (List α × Nat) := match q with
  | none => none
  | some (n, k) => match many it n (L.drop (p + k)) with
    | none => none
    | some (xs, m) => some (xs, k + m)
theorem listP_cont {α : Type} (c : List UInt8 → Option (Nat × Nat)) (it : List UInt8 → Option (α × Nat)) (L : List UInt8) (p : Nat) : listP c it (L.drop p) = contP it L p (c (L.drop p)) := by
  unfold listP andThen contP
  cases c (L.drop p) with
  | none => rfl
  | some z =>
    obtain ⟨n, k⟩ := z
    simp only [List.drop_drop]
    cases many it n (L.drop (p + k)) with
    | none => rfl
    | some y => rfl
theorem contP_none {α : Type} {it : List UInt8 → Option (α × Nat)} {L : List UInt8} {p n k : Nat} (h : many it n (L.drop (p + k)) = none) : contP it L p (some (n, k)) = none := by
  unfold contP
  simp only
  rw [h]
theorem contP_some {α : Type} {it : List UInt8 → Option (α × Nat)} {L : List UInt8} {p n k m : Nat} {xs : List α} (h : many it n (L.drop (p + k)) = some (xs, m)) : contP it L p (some (n, k)) = some (xs, k + m) := by
  unfold contP
  simp only
  rw [h]
theorem infLV : (Tryz.prog.info? 50).map (fun i => (i.zero, i.size, i.bytes)) = some (some (.agg #[.int .i64 0, .int .i64 0, .string ⟨#[]⟩, .string ⟨#[]⟩, .string ⟨#[]⟩]), 5, 64) := by kernel_rfl
theorem infLO : (Tryz.prog.info? 45).map (fun i => (i.zero, i.size, i.bytes)) = some (some (.agg #[.int .i64 0, .int .i64 0]), 2, 16) := by kernel_rfl
set_option maxRecDepth 100000 in
set_option maxHeartbeats 4000000 in
theorem listO_any (L : List UInt8) (N A bn bc p : Nat) (hL : L.length = N) (_ : N ≤ 1152921504606846976) (w : World) (G : World → Prop) (hG : ∀ w w', G w → KA A w w' → G w') (hg : G w) (hA : At w A p) (hp : p ≤ N)
    (hc : ∀ w p, G w → At w A p → p ≤ N → Calls Tryz.prog 22 #[.pointer (some ⟨bc, 0, none⟩)] w fun e w' => ∃ (x : Int) (p' : Nat), e = .returned (.tuple #[.int .i64 x, .bool (twoB (L.drop p)).isSome]) ∧ At w' A p' ∧ p' ≤ N ∧ KA A w w' ∧ ∀ n k, twoB (L.drop p) = some (n, k) → x = (n : Nat) ∧ p' = p + k ∧ n < 65536)
    (hn : ∀ w p, G w → At w A p → p ≤ N → Calls Tryz.prog 48 #[.pointer (some ⟨bn + 2, 0, none⟩), .pointer (some ⟨bn, 0, none⟩), .pointer (some ⟨bn + 1, 0, none⟩)] w fun e w' => e = .returned (.tuple #[opVal (opP (L.drop p)), .bool (opP (L.drop p)).isSome]) ∧ At w' A (posAfter (opP (L.drop p)) p) ∧ KA A w w')
    (hk : ∀ l x k, opP l = some (x, k) → k ≤ l.length) :
    Calls Tryz.prog 26 #[.func (.func 22) #[] #[.pointer (some ⟨bc, 0, none⟩)], .func (.func 48) #[] #[.pointer (some ⟨bn + 2, 0, none⟩), .pointer (some ⟨bn, 0, none⟩), .pointer (some ⟨bn + 1, 0, none⟩)]] w fun e w' => ∃ ao n cap p', e = .returned (.tuple #[.slice ao n cap, .bool (listP twoB opP (L.drop p)).isSome]) ∧ At w' A p' ∧ p' ≤ N ∧ KA A w w' ∧ ∀ xs k, listP twoB opP (L.drop p) = some (xs, k) → p' = p + k ∧ n = xs.length ∧ w'.ownsRow w.heap.size 45 2 (.slice ao n cap) n (xs.map orow).flatten := by
  obtain ⟨i0, hi, hz0, hz1, hz2⟩ := info_parts infLO
  have hAw := Mem.lt hA
  obtain ⟨r, hr⟩ : ∃ r, r = listP twoB opP (L.drop p) := ⟨_, rfl⟩
  rw [← hr]
  have hcw := hc w p hg hA hp
  obtain ⟨q, hq⟩ : ∃ q, q = twoB (L.drop p) := ⟨_, rfl⟩
  rw [← hq] at hcw
  have HR : Hid (r = contP opP L p q) := Lib.hid (by rw [hr, hq]; exact listP_cont _ _ _ _)
  have HC := Lib.hid hn
  have HG := Lib.hid hG
  clear hr hc hn hG hq
  cases q with
  | none =>
    obtain rfl : r = none := HR.out
    clear HR
    go_enter Tryz.func26, Tryz.ntmps26
    go_wp2_with (go_at_call 22; refine hcw.mono ?_; rintro e w1 ⟨x, p', rfl, h1, h2, h3, -⟩)
    go_ret2
    exact ⟨_, _, _, p', rfl, h1, h2, h3, fun xs k e => by cases e⟩
  | some z =>
    obtain ⟨n, kc⟩ := z
    go_enter Tryz.func26, Tryz.ntmps26
    go_wp2_with (go_at_call 22; refine hcw.mono ?_; rintro e w1 ⟨x, p', rfl, h1, h2, h3, h4⟩; obtain ⟨rfl, rfl, hn64⟩ := h4 n kc rfl)
    have HA1 := Lib.hid h1
    have HK1 := Lib.hid h3
    have HG1 := Lib.hid (HG.out _ _ hg h3)
    clear h1 h3 h4 hcw
    go_loopw [8, 19] (fun l i wr => ∃ k : Nat, k ≤ n ∧ i = .int .i64 k ∧ KA A w wr ∧ G wr ∧ ∃ xs m, many opP k (L.drop (p + kc)) = some (xs, m) ∧ p + kc + m ≤ N ∧ At wr A (p + kc + m) ∧ wr.ownsRow w.heap.size 45 2 l k (xs.map orow).flatten) (fun _ i _ => n - (intOf i).toNat)
    case atStart => exact ⟨0, by omega, rfl, HK1.out, HG1.out, [], 0, rfl, h2, HA1.out, ⟨rfl, .inl ⟨rfl, rfl⟩⟩⟩
    case round =>
      obtain ⟨k, hkn, rfl, hK, hGr, xs, m, hm, hpN, hAt, hown⟩ := hrel
      clear HA1 HK1 HG1
      have hxl : xs.length = k := many_len hm
      by_cases hlt : k < n
      · have g2 : (k : Int) < (n : Int) := by omega
        have hnx := HC.out wr (p + kc + m) hGr hAt hpN
        obtain ⟨q, hq⟩ : ∃ q, q = opP (L.drop (p + kc + m)) := ⟨_, rfl⟩
        rw [← hq] at hnx
        have hwr := hK.size
        have HK := Lib.hid hK
        have HGr := Lib.hid hGr
        have HAt := Lib.hid hAt
        have HO := Lib.hid hown
        obtain ⟨ao, n', cap, rfl⟩ := owns_slice hown
        cases q with
        | none =>
          have hf : r = none := by
            rw [HR.out]
            exact contP_none (many_stop k n _ xs m hlt hm (by rw [List.drop_drop]; exact hq.symm))
          have HF := Lib.hid hf
          have hnx2 : Calls Tryz.prog 48 #[.pointer (some ⟨bn + 2, 0, none⟩), .pointer (some ⟨bn, 0, none⟩), .pointer (some ⟨bn + 1, 0, none⟩)] wr fun e w' => e = .returned (.tuple #[.agg #[.int .i64 0, .int .i64 0], .bool false]) ∧ At w' A (p + kc + m) ∧ KA A wr w' := hnx
          clear hf hown hq hm HR hK hGr hAt hnx
          go_wp2_with (go_at_call 48; refine hnx2.mono ?_; rintro e w2 ⟨rfl, hA2, hK2⟩)
          go_ret2
          refine ⟨_, _, _, p + kc + m, by rw [HF.out]; rfl, hA2.below (below_al (Below.refl _ _) _), hpN, (HK.out.trans hK2).al _, fun xs k e => by rw [HF.out] at e; cases e⟩
        | some z =>
          obtain ⟨o, j⟩ := z
          have hm' := many_snoc k _ xs m o j hm (by rw [List.drop_drop]; exact hq.symm)
          have hpj : p + kc + m + j ≤ N := by
            have := hk _ _ _ hq.symm
            rw [List.length_drop] at this
            omega
          have HM := Lib.hid hm'
          have HX : Hid (((xs ++ [o]).map orow).flatten = (xs.map orow).flatten ++ orow o) := Lib.hid (by simp)
          obtain ⟨oc, oa⟩ := o
          have hnx2 : Calls Tryz.prog 48 #[.pointer (some ⟨bn + 2, 0, none⟩), .pointer (some ⟨bn, 0, none⟩), .pointer (some ⟨bn + 1, 0, none⟩)] wr fun e w' => e = .returned (.tuple #[.agg #[.int .i64 oc, .int .i64 oa], .bool true]) ∧ At w' A (p + kc + m + j) ∧ KA A wr w' := hnx
          clear hm' hown hq hm hK hGr hAt hnx
          go_wp2_with (first | (go_at_call 48; refine hnx2.mono ?_; rintro e w2 ⟨rfl, hA2, hK2⟩; have hown2 := ownsRow_ka HO.out hK2 hAw; have hsz2 := hK2.size) | (at_builtin; refine wpList_append_own _ rfl _ _ 41 rfl w.heap.size 45 i0 _ 2 16 Tryz.underlying41 hi hz0 hz1 hz2 rfl (by decide) _ _ _ rfl ((hown2.alloc _).alloc _) ⟨w2.heap.size + 1, 0, none⟩ 1 1 [.int .i64 oc, .int .i64 oa] rfl rfl (by rw [show w2.heap.size + 1 = (w2.alloc (.cells #[.int .i64 oc, .int .i64 oa] 45)).heap.size by simp]; exact World.news_of_block (cs := #[.int .i64 oc, .int .i64 oa]) (t := 45) (fr := (0, 0)) (heap_alloc_new _ _)) (by simp [Value.oneCell']) (by unfold maxLen; omega) (by omega) (by simp; omega) ?_; intro v' w3 hown' hgrow _))
          have hne : some A ≠ (Value.slice ao n' cap).ownBlock := fun e => by
            have := row_low HO.out A e.symm
            omega
          have hKg := ka_grown (A := A) (HK.out.trans hK2) hgrow (row_low HO.out)
          have hAg : At w3 A (p + kc + m + j) := (hgrow.block A (by have := Mem.lt hA2; simp; omega) hne).trans ((Lib.alloc_old _ _ A (by have := Mem.lt hA2; simp; omega)).trans ((Lib.alloc_old _ _ A (Mem.lt hA2)).trans hA2))
          go_roundw
          case rel => exact ⟨k + 1, by omega, by go_num, hKg, HG.out _ _ hg hKg, _, _, HM.out, by omega, by rw [show p + kc + (m + j) = p + kc + m + j by omega]; exact hAg, by rw [HX.out]; exact hown'⟩
          case measure => simp [intOf]; omega
      · obtain rfl : k = n := by omega
        have hf : r = some (xs, kc + m) := by
          rw [HR.out]
          exact contP_some hm
        have HF := Lib.hid hf
        have HK := Lib.hid hK
        have HAt := Lib.hid hAt
        have HO := Lib.hid hown
        obtain ⟨ao, n', cap, rfl⟩ := owns_slice hown
        have hn' := owns_len hown
        subst hn'
        clear hf hown hm HR hK hGr hAt
        go_wp2_with fail
        go_ret2
        refine ⟨_, _, _, p + kc + m, by rw [HF.out]; rfl, HAt.out, hpN, HK.out, fun ys kk e => ?_⟩
        rw [HF.out] at e
        cases e
        exact ⟨by omega, hxl.symm, HO.out⟩
set_option maxRecDepth 100000 in
set_option maxHeartbeats 4000000 in
theorem listV_any (L : List UInt8) (N A bn bc p : Nat) (hL : L.length = N) (_ : N ≤ 1152921504606846976) (w : World) (G : World → Prop) (hG : ∀ w w', G w → KA A w w' → G w') (hg : G w) (hA : At w A p) (hp : p ≤ N)
    (hc : ∀ w p, G w → At w A p → p ≤ N → Calls Tryz.prog 47 #[.pointer (some ⟨bc + 2, 0, none⟩), .pointer (some ⟨bc, 0, none⟩), .pointer (some ⟨bc + 1, 0, none⟩)] w fun e w' => ∃ (x : Int) (p' : Nat), e = .returned (.tuple #[.int .i64 x, .bool (oct (L.drop p)).isSome]) ∧ At w' A p' ∧ p' ≤ N ∧ KA A w w' ∧ ∀ n k, oct (L.drop p) = some (n, k) → x = (n : Nat) ∧ p' = p + k ∧ n < 65536)
    (hn : ∀ w p, G w → At w A p → p ≤ N → Calls Tryz.prog 50 #[.pointer (some ⟨bn + 2, 0, none⟩), .pointer (some ⟨bn, 0, none⟩), .pointer (some ⟨bn + 1, 0, none⟩)] w fun e w' => e = .returned (.tuple #[valVal (getV (L.drop p)), .bool (getV (L.drop p)).isSome]) ∧ At w' A (posAfter (getV (L.drop p)) p) ∧ KA A w w')
    (hk : ∀ l x k, getV l = some (x, k) → k ≤ l.length) :
    Calls Tryz.prog 27 #[.func (.func 47) #[] #[.pointer (some ⟨bc + 2, 0, none⟩), .pointer (some ⟨bc, 0, none⟩), .pointer (some ⟨bc + 1, 0, none⟩)], .func (.func 50) #[] #[.pointer (some ⟨bn + 2, 0, none⟩), .pointer (some ⟨bn, 0, none⟩), .pointer (some ⟨bn + 1, 0, none⟩)]] w fun e w' => ∃ ao n cap p', e = .returned (.tuple #[.slice ao n cap, .bool (listP oct getV (L.drop p)).isSome]) ∧ At w' A p' ∧ p' ≤ N ∧ KA A w w' ∧ ∀ xs k, listP oct getV (L.drop p) = some (xs, k) → p' = p + k ∧ n = xs.length ∧ w'.ownsRow w.heap.size 50 5 (.slice ao n cap) n (xs.map vrow).flatten := by
  obtain ⟨i0, hi, hz0, hz1, hz2⟩ := info_parts infLV
  have hAw := Mem.lt hA
  obtain ⟨r, hr⟩ : ∃ r, r = listP oct getV (L.drop p) := ⟨_, rfl⟩
  rw [← hr]
  have hcw := hc w p hg hA hp
  obtain ⟨q, hq⟩ : ∃ q, q = oct (L.drop p) := ⟨_, rfl⟩
  rw [← hq] at hcw
  have HR : Hid (r = contP getV L p q) := Lib.hid (by rw [hr, hq]; exact listP_cont _ _ _ _)
  have HC := Lib.hid hn
  have HG := Lib.hid hG
  clear hr hc hn hG hq
  cases q with
  | none =>
    obtain rfl : r = none := HR.out
    clear HR
    go_enter Tryz.func27, Tryz.ntmps27
    go_wp2_with (go_at_call 47; refine hcw.mono ?_; rintro e w1 ⟨x, p', rfl, h1, h2, h3, -⟩)
    go_ret2
    exact ⟨_, _, _, p', rfl, h1, h2, h3, fun xs k e => by cases e⟩
  | some z =>
    obtain ⟨n, kc⟩ := z
    go_enter Tryz.func27, Tryz.ntmps27
    go_wp2_with (go_at_call 47; refine hcw.mono ?_; rintro e w1 ⟨x, p', rfl, h1, h2, h3, h4⟩; obtain ⟨rfl, rfl, hn64⟩ := h4 n kc rfl)
    have HA1 := Lib.hid h1
    have HK1 := Lib.hid h3
    have HG1 := Lib.hid (HG.out _ _ hg h3)
    clear h1 h3 h4 hcw
    go_loopw [8, 19] (fun l i wr => ∃ k : Nat, k ≤ n ∧ i = .int .i64 k ∧ KA A w wr ∧ G wr ∧ ∃ xs m, many getV k (L.drop (p + kc)) = some (xs, m) ∧ p + kc + m ≤ N ∧ At wr A (p + kc + m) ∧ wr.ownsRow w.heap.size 50 5 l k (xs.map vrow).flatten) (fun _ i _ => n - (intOf i).toNat)
    case atStart => exact ⟨0, by omega, rfl, HK1.out, HG1.out, [], 0, rfl, h2, HA1.out, ⟨rfl, .inl ⟨rfl, rfl⟩⟩⟩
    case round =>
      obtain ⟨k, hkn, rfl, hK, hGr, xs, m, hm, hpN, hAt, hown⟩ := hrel
      clear HA1 HK1 HG1
      have hxl : xs.length = k := many_len hm
      by_cases hlt : k < n
      · have g2 : (k : Int) < (n : Int) := by omega
        have hnx := HC.out wr (p + kc + m) hGr hAt hpN
        obtain ⟨q, hq⟩ : ∃ q, q = getV (L.drop (p + kc + m)) := ⟨_, rfl⟩
        rw [← hq] at hnx
        have hwr := hK.size
        have HK := Lib.hid hK
        have HGr := Lib.hid hGr
        have HAt := Lib.hid hAt
        have HO := Lib.hid hown
        obtain ⟨ao, n', cap, rfl⟩ := owns_slice hown
        cases q with
        | none =>
          have hf : r = none := by
            rw [HR.out]
            exact contP_none (many_stop k n _ xs m hlt hm (by rw [List.drop_drop]; exact hq.symm))
          have HF := Lib.hid hf
          have hnx2 : Calls Tryz.prog 50 #[.pointer (some ⟨bn + 2, 0, none⟩), .pointer (some ⟨bn, 0, none⟩), .pointer (some ⟨bn + 1, 0, none⟩)] wr fun e w' => e = .returned (.tuple #[.agg #[.int .i64 0, .int .i64 0, .string ⟨#[]⟩, .string ⟨#[]⟩, .string ⟨#[]⟩], .bool false]) ∧ At w' A (p + kc + m) ∧ KA A wr w' := hnx
          clear hf hown hq hm HR hK hGr hAt hnx
          go_wp2_with (go_at_call 50; refine hnx2.mono ?_; rintro e w2 ⟨rfl, hA2, hK2⟩)
          go_ret2
          refine ⟨_, _, _, p + kc + m, by rw [HF.out]; rfl, hA2.below (below_al (Below.refl _ _) _), hpN, (HK.out.trans hK2).al _, fun xs k e => by rw [HF.out] at e; cases e⟩
        | some z =>
          obtain ⟨o, j⟩ := z
          have hm' := many_snoc k _ xs m o j hm (by rw [List.drop_drop]; exact hq.symm)
          have hpj : p + kc + m + j ≤ N := by
            have := hk _ _ _ hq.symm
            rw [List.length_drop] at this
            omega
          have HM := Lib.hid hm'
          have HX : Hid (((xs ++ [o]).map vrow).flatten = (xs.map vrow).flatten ++ vrow o) := Lib.hid (by simp)
          obtain ⟨vk, vn, vm, ⟨vS, vI⟩⟩ := o
          have hnx2 : Calls Tryz.prog 50 #[.pointer (some ⟨bn + 2, 0, none⟩), .pointer (some ⟨bn, 0, none⟩), .pointer (some ⟨bn + 1, 0, none⟩)] wr fun e w' => e = .returned (.tuple #[.agg #[.int .i64 vk, .int .i64 vn, .string ⟨vm.toArray⟩, .string ⟨vS.toArray⟩, .string ⟨vI.toArray⟩], .bool true]) ∧ At w' A (p + kc + m + j) ∧ KA A wr w' := hnx
          clear hm' hown hq hm hK hGr hAt hnx
          go_wp2_with (first | (go_at_call 50; refine hnx2.mono ?_; rintro e w2 ⟨rfl, hA2, hK2⟩; have hown2 := ownsRow_ka HO.out hK2 hAw; have hsz2 := hK2.size) | (at_builtin; refine wpList_append_own _ rfl _ _ 22 rfl w.heap.size 50 i0 _ 5 64 Tryz.underlying22 hi hz0 hz1 hz2 rfl (by decide) _ _ _ rfl ((hown2.alloc _).alloc _) ⟨w2.heap.size + 1, 0, none⟩ 1 1 [.int .i64 vk, .int .i64 vn, .string ⟨vm.toArray⟩, .string ⟨vS.toArray⟩, .string ⟨vI.toArray⟩] rfl rfl (by rw [show w2.heap.size + 1 = (w2.alloc (.cells #[.int .i64 vk, .int .i64 vn, .string ⟨vm.toArray⟩, .string ⟨vS.toArray⟩, .string ⟨vI.toArray⟩] 50)).heap.size by simp]; exact World.news_of_block (cs := #[.int .i64 vk, .int .i64 vn, .string ⟨vm.toArray⟩, .string ⟨vS.toArray⟩, .string ⟨vI.toArray⟩]) (t := 50) (fr := (0, 0)) (heap_alloc_new _ _)) (by simp [Value.oneCell']) (by unfold maxLen; omega) (by omega) (by simp; omega) ?_; intro v' w3 hown' hgrow _))
          have hne : some A ≠ (Value.slice ao n' cap).ownBlock := fun e => by
            have := row_low HO.out A e.symm
            omega
          have hKg := ka_grown (A := A) (HK.out.trans hK2) hgrow (row_low HO.out)
          have hAg : At w3 A (p + kc + m + j) := (hgrow.block A (by have := Mem.lt hA2; simp; omega) hne).trans ((Lib.alloc_old _ _ A (by have := Mem.lt hA2; simp; omega)).trans ((Lib.alloc_old _ _ A (Mem.lt hA2)).trans hA2))
          go_roundw
          case rel => exact ⟨k + 1, by omega, by go_num, hKg, HG.out _ _ hg hKg, _, _, HM.out, by omega, by rw [show p + kc + (m + j) = p + kc + m + j by omega]; exact hAg, by rw [HX.out]; exact hown'⟩
          case measure => simp [intOf]; omega
      · obtain rfl : k = n := by omega
        have hf : r = some (xs, kc + m) := by
          rw [HR.out]
          exact contP_some hm
        have HF := Lib.hid hf
        have HK := Lib.hid hK
        have HAt := Lib.hid hAt
        have HO := Lib.hid hown
        obtain ⟨ao, n', cap, rfl⟩ := owns_slice hown
        have hn' := owns_len hown
        subst hn'
        clear hf hown hm HR hK hGr hAt
        go_wp2_with fail
        go_ret2
        refine ⟨_, _, _, p + kc + m, by rw [HF.out]; rfl, HAt.out, hpN, HK.out, fun ys kk e => ?_⟩
        rw [HF.out] at e
        cases e
        exact ⟨by omega, hxl.symm, HO.out⟩
end Go.Proofs.YtecoeaeonedmnaaGreatDoor
