/- image.list at functions. -/
import Derived.Test.YtecoeaeonedmnaaGreatDoorImFn
namespace Go.Proofs.YtecoeaeonedmnaaGreatDoor
open Go.RowKit
theorem infLF : (Tryz.prog.info? 43).map (fun i => (i.zero, i.size, i.bytes)) = some (some (.agg #[.int .i64 0, .int .i64 0, .slice none 0 0]), 3, 40) := by kernel_rfl
/-- functions in memory of the call's own -/
def FnOwn (w : World) (B : Nat) (v : Value) (fs : List Fn) : Prop := ∃ rows : List (List Value), rows.length = fs.length ∧ w.ownsRow B 43 3 v fs.length rows.flatten ∧
  ∀ (i : Nat) (f : Fn), fs[i]? = some f → ∃ ao cap, rows[i]? = some (frow f (.slice ao f.c.length cap)) ∧ w.ownsRow B 45 2 (.slice ao f.c.length cap) f.c.length (f.c.map orow).flatten
theorem FnOwn.nil (w : World) (B : Nat) : FnOwn w B (.slice none 0 0) [] := ⟨[], rfl, ⟨rfl, .inl ⟨rfl, rfl⟩⟩, fun i f h => by simp at h⟩
theorem FnOwn.ka {w w' : World} {A B : Nat} {v : Value} {fs : List Fn} (h : FnOwn w B v fs) (hk : KA A w w') (hA : A < B) : FnOwn w' B v fs := by
  obtain ⟨rows, h1, h2, h3⟩ := h
  refine ⟨rows, h1, ownsRow_ka h2 hk hA, fun i f hi => ?_⟩
  obtain ⟨ao, cap, e, ho⟩ := h3 i f hi
  exact ⟨ao, cap, e, ownsRow_ka ho hk hA⟩
theorem wide_os (l : List (Int × Int)) : Wide 2 (l.map orow) := by
  intro r hr
  obtain ⟨o, _, rfl⟩ := List.mem_map.1 hr
  exact ⟨rfl, fun x hx => by simp only [orow, List.mem_cons, List.not_mem_nil, or_false] at hx; rcases hx with rfl | rfl <;> rfl⟩
theorem wide_vs (l : List Vl) : Wide 5 (l.map vrow) := by
  intro r hr
  obtain ⟨o, _, rfl⟩ := List.mem_map.1 hr
  exact ⟨rfl, fun x hx => by simp only [vrow, List.mem_cons, List.not_mem_nil, or_false] at hx; rcases hx with rfl | rfl | rfl | rfl | rfl <;> rfl⟩
theorem OsAt.of_owns {w : World} {B : Nat} {v : Value} {l : List (Int × Int)} (h : w.ownsRow B 45 2 v l.length (l.map orow).flatten) : OsAt w v l := SlotsAt.of_owns (wide_os l) h (by simp) rfl
theorem VsAt.of_owns {w : World} {B : Nat} {v : Value} {l : List Vl} (h : w.ownsRow B 50 5 v l.length (l.map vrow).flatten) : VsAt w v l := SlotsAt.of_owns (wide_vs l) h (by simp) rfl
theorem FnOwn.at {w : World} {B : Nat} {v : Value} {fs : List Fn} (h : FnOwn w B v fs) : FsAt w v fs := by
  obtain ⟨rows, h1, h2, h3⟩ := h
  have hw : Wide 3 rows := by
    intro r hr
    obtain ⟨i, hi⟩ := List.getElem?_of_mem hr
    have hlt : i < fs.length := by rw [← h1]; exact (List.getElem?_eq_some_iff.1 hi).1
    obtain ⟨ao, cap, e, _⟩ := h3 i fs[i] (List.getElem?_eq_getElem hlt)
    rw [hi] at e
    cases e
    exact ⟨rfl, fun x hx => by simp only [frow, List.mem_cons, List.not_mem_nil, or_false] at hx; rcases hx with rfl | rfl | rfl <;> rfl⟩
  refine ⟨rows, h1, SlotsAt.of_owns hw h2 h1.symm rfl, fun i f hi => ?_⟩
  obtain ⟨ao, cap, e, ho⟩ := h3 i f hi
  exact ⟨_, e, OsAt.of_owns ho⟩
theorem owns_grown {w w' : World} {B k n n' k' : Nat} {e e' : TypeId} {v v' : Value} {xs ys : List Value} (h : w.ownsRow B e k v n xs) (hv : w.ownsRow B e' k' v' n' ys) (hne : e ≠ e') (hg : w.grownBy w' v'.ownBlock) : w'.ownsRow B e k v n xs := by
  refine h.kept hg ?_
  rcases h.2 with ⟨rfl, _⟩ | ⟨g, cap, cur, rfl, _, hgb, _⟩
  · exact .inl rfl
  · refine .inr fun e1 => ?_
    rcases hv.2 with ⟨rfl, _⟩ | ⟨g', cap', cur', rfl, _, hgb', _⟩
    · cases e1
    · have e2 : g' = g := by simpa [Value.ownBlock, eq_comm] using e1
      subst e2
      rw [hgb] at hgb'
      cases hgb'
      exact hne rfl
theorem FnOwn.snoc {w w' : World} {B : Nat} {v v' : Value} {fs : List Fn} {rows : List (List Value)} (h1 : rows.length = fs.length) (h2 : w.ownsRow B 43 3 v fs.length rows.flatten)
    (h3 : ∀ (i : Nat) (f : Fn), fs[i]? = some f → ∃ ao cap, rows[i]? = some (frow f (.slice ao f.c.length cap)) ∧ w.ownsRow B 45 2 (.slice ao f.c.length cap) f.c.length (f.c.map orow).flatten)
    (f : Fn) (ao : Option Addr) (cap : Nat) (ho : w.ownsRow B 45 2 (.slice ao f.c.length cap) f.c.length (f.c.map orow).flatten) (hg : w.grownBy w' v.ownBlock)
    (hn : w'.ownsRow B 43 3 v' (fs.length + 1) (rows.flatten ++ frow f (.slice ao f.c.length cap))) : FnOwn w' B v' (fs ++ [f]) := by
  refine ⟨rows ++ [frow f (.slice ao f.c.length cap)], by simp [h1], ?_, fun i g hi => ?_⟩
  · rw [List.flatten_append, List.flatten_singleton, List.length_append]
    exact hn
  · by_cases hlt : i < fs.length
    · rw [List.getElem?_append_left hlt] at hi
      obtain ⟨ao', cap', e, ho'⟩ := h3 i g hi
      exact ⟨ao', cap', by rw [List.getElem?_append_left (by omega)]; exact e, owns_grown ho' h2 (by decide) hg⟩
    · rw [List.getElem?_append_right (by omega)] at hi
      have h0 : i - fs.length = 0 := by
        have := (List.getElem?_eq_some_iff.1 hi).1
        simp at this
        omega
      rw [h0] at hi
      cases hi
      exact ⟨ao, cap, by rw [List.getElem?_append_right (by omega), h1, h0]; rfl, owns_grown ho h2 (by decide) hg⟩
theorem FnOwn.slice {w : World} {B : Nat} {v : Value} {fs : List Fn} (h : FnOwn w B v fs) : ∃ ao cap, v = .slice ao fs.length cap := by
  obtain ⟨rows, h1, h2, _⟩ := h
  rcases h2.2 with ⟨rfl, h0⟩ | ⟨g, cap, cur, rfl, _⟩
  · exact ⟨none, 0, by rw [h0]⟩
  · exact ⟨_, _, rfl⟩
theorem FnOwn.alloc {w : World} {B : Nat} {v : Value} {fs : List Fn} (h : FnOwn w B v fs) (o : Obj) : FnOwn (w.alloc o) B v fs := by
  obtain ⟨rows, h1, h2, h3⟩ := h
  refine ⟨rows, h1, h2.alloc _, fun i f hi => ?_⟩
  obtain ⟨ao, cap, e, ho⟩ := h3 i f hi
  exact ⟨ao, cap, e, ho.alloc _⟩
theorem FnOwn.low {w : World} {B : Nat} {v : Value} {fs : List Fn} (h : FnOwn w B v fs) : ∀ j, v.ownBlock = some j → B ≤ j := by
  obtain ⟨rows, h1, h2, h3⟩ := h
  exact row_low h2
set_option maxRecDepth 100000 in
set_option maxHeartbeats 4000000 in
theorem listF_any (L : List UInt8) (N A b5 b6 b7 bc p : Nat) (hL : L.length = N) (w : World) (G : World → Prop) (hG : ∀ w w', G w → KA A w w' → G w') (hg : G w) (hA : At w A p) (hp : p ≤ N)
    (hc : ∀ w p, G w → At w A p → p ≤ N → Calls Tryz.prog 47 #[.pointer (some ⟨bc + 2, 0, none⟩), .pointer (some ⟨bc, 0, none⟩), .pointer (some ⟨bc + 1, 0, none⟩)] w fun e w' => ∃ (x : Int) (p' : Nat), e = .returned (.tuple #[.int .i64 x, .bool (oct (L.drop p)).isSome]) ∧ At w' A p' ∧ p' ≤ N ∧ KA A w w' ∧ ∀ n k, oct (L.drop p) = some (n, k) → x = (n : Nat) ∧ p' = p + k ∧ n < 65536)
    (hn : ∀ w p, G w → At w A p → p ≤ N → Calls Tryz.prog 25 #[.pointer (some ⟨b5, 0, none⟩), .pointer (some ⟨b6, 0, none⟩), .pointer (some ⟨b7, 0, none⟩)] w fun e w' => ∃ fa fv so sn sc p', e = .returned (.tuple #[.agg #[.int .i64 fa, .int .i64 fv, .slice so sn sc], .bool (fnP (L.drop p)).isSome]) ∧ At w' A p' ∧ p' ≤ N ∧ KA A w w' ∧ ∀ f k, fnP (L.drop p) = some (f, k) → p' = p + k ∧ fa = f.a ∧ fv = f.v ∧ sn = f.c.length ∧ w'.ownsRow w.heap.size 45 2 (.slice so sn sc) sn (f.c.map orow).flatten) :
    Calls Tryz.prog 30 #[.func (.func 47) #[] #[.pointer (some ⟨bc + 2, 0, none⟩), .pointer (some ⟨bc, 0, none⟩), .pointer (some ⟨bc + 1, 0, none⟩)], .func (.func 25) #[] #[.pointer (some ⟨b5, 0, none⟩), .pointer (some ⟨b6, 0, none⟩), .pointer (some ⟨b7, 0, none⟩)]] w fun e w' => ∃ ao n cap p', e = .returned (.tuple #[.slice ao n cap, .bool (listP oct fnP (L.drop p)).isSome]) ∧ At w' A p' ∧ p' ≤ N ∧ KA A w w' ∧ ∀ fs k, listP oct fnP (L.drop p) = some (fs, k) → p' = p + k ∧ n = fs.length ∧ FnOwn w' w.heap.size (.slice ao n cap) fs := by
  obtain ⟨i0, hi, hz0, hz1, hz2⟩ := info_parts infLF
  have hAw := Mem.lt hA
  obtain ⟨r, hr⟩ : ∃ r, r = listP oct fnP (L.drop p) := ⟨_, rfl⟩
  rw [← hr]
  have hcw := hc w p hg hA hp
  obtain ⟨q, hq⟩ : ∃ q, q = oct (L.drop p) := ⟨_, rfl⟩
  rw [← hq] at hcw
  have HR : Hid (r = contP fnP L p q) := Lib.hid (by rw [hr, hq]; exact listP_cont _ _ _ _)
  have HC := Lib.hid hn
  have HG := Lib.hid hG
  clear hr hc hn hG hq
  cases q with
  | none =>
    obtain rfl : r = none := HR.out
    clear HR
    go_enter Tryz.func30, Tryz.ntmps30
    go_wp2_with (go_at_call 47; refine hcw.mono ?_; rintro e w1 ⟨x, p', rfl, h1, h2, h3, -⟩)
    go_ret2
    exact ⟨_, _, _, p', rfl, h1, h2, h3, fun xs k e => by cases e⟩
  | some z =>
    obtain ⟨n, kc⟩ := z
    go_enter Tryz.func30, Tryz.ntmps30
    go_wp2_with (go_at_call 47; refine hcw.mono ?_; rintro e w1 ⟨x, p', rfl, h1, h2, h3, h4⟩; obtain ⟨rfl, rfl, hn64⟩ := h4 n kc rfl)
    have HA1 := Lib.hid h1
    have HK1 := Lib.hid h3
    have HG1 := Lib.hid (HG.out _ _ hg h3)
    clear h1 h3 h4 hcw
    go_loopw [8, 19] (fun l i wr => ∃ k : Nat, k ≤ n ∧ i = .int .i64 k ∧ KA A w wr ∧ G wr ∧ ∃ xs m, many fnP k (L.drop (p + kc)) = some (xs, m) ∧ p + kc + m ≤ N ∧ At wr A (p + kc + m) ∧ FnOwn wr w.heap.size l xs) (fun _ i _ => n - (intOf i).toNat)
    case atStart => exact ⟨0, by omega, rfl, HK1.out, HG1.out, [], 0, rfl, h2, HA1.out, FnOwn.nil _ _⟩
    case round =>
      obtain ⟨k, hkn, rfl, hK, hGr, xs, m, hm, hpN, hAt, hown⟩ := hrel
      clear HA1 HK1 HG1
      have hxl : xs.length = k := many_len hm
      subst hxl
      by_cases hlt : xs.length < n
      · have g2 : (xs.length : Int) < (n : Int) := by omega
        have hnx := HC.out wr (p + kc + m) hGr hAt hpN
        obtain ⟨q, hq⟩ : ∃ q, q = fnP (L.drop (p + kc + m)) := ⟨_, rfl⟩
        rw [← hq] at hnx
        have hwr := hK.size
        have HK := Lib.hid hK
        have HGr := Lib.hid hGr
        have HAt := Lib.hid hAt
        have HO := Lib.hid hown
        obtain ⟨ao, cap, rfl⟩ := hown.slice
        cases q with
        | none =>
          have hf : r = none := by
            rw [HR.out]
            exact contP_none (many_stop xs.length n _ xs m hlt hm (by rw [List.drop_drop]; exact hq.symm))
          have HF := Lib.hid hf
          clear hf hown hq hm HR hK hGr hAt
          go_wp2_with (go_at_call 25; refine hnx.mono ?_; rintro e w2 ⟨fa, fv, so, sn, sc, p2, rfl, hA2, hp2, hK2, -⟩)
          go_ret2
          refine ⟨_, _, _, p2, by rw [HF.out]; rfl, hA2.below (below_al (Below.refl _ _) _), hp2, (HK.out.trans hK2).al _, fun xs k e => by rw [HF.out] at e; cases e⟩
        | some z =>
          obtain ⟨f, j⟩ := z
          have hm' := many_snoc xs.length _ xs m f j hm (by rw [List.drop_drop]; exact hq.symm)
          have hpj : p + kc + m + j ≤ N := by
            have := (fn_codec.bwd _ _ _ hq.symm).2.1
            rw [List.length_drop] at this
            omega
          have HM := Lib.hid hm'
          obtain ⟨rows0, h1r, h2r, h3r⟩ := hown
          have HR3 := Lib.hid h3r
          have HR1 := Lib.hid h1r
          have HR2 := Lib.hid h2r
          clear hm' hq hm hK hGr hAt h1r h2r h3r
          go_wp2_with (first | (go_at_call 25; refine hnx.mono ?_; rintro e w2 ⟨fa, fv, so, sn, sc, p2, rfl, hA2, hp2, hK2, hfin⟩; obtain ⟨rfl, rfl, rfl, rfl, hcode⟩ := hfin f j rfl; have hown2 := ownsRow_ka HR2.out hK2 hAw; have hsz2 := hK2.size; have HCO := Lib.hid hcode; clear hfin hcode) | (at_builtin; refine wpList_append_own _ rfl _ _ 23 rfl w.heap.size 43 i0 _ 3 40 Tryz.underlying23 hi hz0 hz1 hz2 rfl (by decide) _ _ _ rfl ((hown2.alloc _).alloc _) ⟨w2.heap.size + 1, 0, none⟩ 1 1 [.int .i64 f.a, .int .i64 f.v, .slice so f.c.length sc] rfl rfl (by rw [show w2.heap.size + 1 = (w2.alloc (.cells #[.int .i64 f.a, .int .i64 f.v, .slice so f.c.length sc] 43)).heap.size by simp]; exact World.news_of_block (cs := #[.int .i64 f.a, .int .i64 f.v, .slice so f.c.length sc]) (t := 43) (fr := (0, 0)) (heap_alloc_new _ _)) (by simp [Value.oneCell']) (by unfold maxLen; omega) (by omega) (by simp; omega) ?_; intro v' w3 hown' hgrow _))
          have hne : some A ≠ (Value.slice ao xs.length cap).ownBlock := fun e => by
            have := FnOwn.low HO.out A e.symm
            omega
          have hKg := ka_grown (A := A) (HK.out.trans hK2) hgrow (FnOwn.low HO.out)
          have hAg : At w3 A (p + kc + m + j) := (hgrow.block A (by have := Mem.lt hA2; simp; omega) hne).trans ((Lib.alloc_old _ _ A (by have := Mem.lt hA2; simp; omega)).trans ((Lib.alloc_old _ _ A (Mem.lt hA2)).trans hA2))
          have hFn : FnOwn w3 w.heap.size v' (xs ++ [f]) := FnOwn.snoc HR1.out ((hown2.alloc _).alloc _) (fun i g hi => by
            obtain ⟨a1, c1, e1, o1⟩ := HR3.out i g hi
            exact ⟨a1, c1, e1, ((ownsRow_ka o1 hK2 hAw).alloc _).alloc _⟩) f so sc (((owns_low HCO.out hwr).alloc _).alloc _) hgrow hown'
          go_roundw
          case rel => exact ⟨xs.length + 1, by omega, by go_num, hKg, HG.out _ _ hg hKg, _, _, HM.out, by omega, by rw [show p + kc + (m + j) = p + kc + m + j by omega]; exact hAg, hFn⟩
          case measure => simp [intOf]; omega
      · obtain rfl : xs.length = n := by omega
        have hf : r = some (xs, kc + m) := by
          rw [HR.out]
          exact contP_some hm
        have HF := Lib.hid hf
        have HK := Lib.hid hK
        have HAt := Lib.hid hAt
        have HO := Lib.hid hown
        obtain ⟨ao, cap, rfl⟩ := hown.slice
        clear hf hown hm HR hK hGr hAt
        go_wp2_with fail
        go_ret2
        refine ⟨_, _, _, p + kc + m, by rw [HF.out]; rfl, HAt.out, hpN, HK.out, fun ys kk e => ?_⟩
        rw [HF.out] at e
        cases e
        exact ⟨by omega, rfl, HO.out⟩
end Go.Proofs.YtecoeaeonedmnaaGreatDoor
