/- lazarettolaw12.MvarKeeps: the walk. -/
import Derived.Test.YtdpmilffadalkaaDoorWMvarLeaves
namespace Go.Proofs.YtdpmilffadalkaaDoor
open Go.RowKit
theorem QAt.news {w : World} {b off n cap : Nat} {l : List Wt} (h : QAt w (.slice (some ⟨b, off, none⟩) n cap) l) (hn : 0 < n) : ∀ j u, (rowsQ l).flatten[j]? = some u → w.cell? ((⟨b, off, none⟩ : Addr).add j) = some u := by
  intro j u hj
  rw [Addr.add_lit]
  rcases h.2 with ⟨⟨ao, cap', hv⟩, h0⟩ | ⟨b', off', cap', hv, _, _, hg⟩
  · cases hv; omega
  · simp only [Value.slice.injEq, Option.some.injEq, Addr.mk.injEq] at hv
    obtain ⟨⟨rfl, rfl, _⟩, _, rfl⟩ := hv
    exact hg j u hj
theorem run_append_nothing {P : Program} (w : World) (t ty e : TypeId) (i : TypeInfo) (ht : P.underlying t = some (.slice e)) (hi : P.info? e = some i) (ao : Option Addr) (cap : Nat) :
    (Builtin.append_ #[t, t] ty #[.slice none 0 0, .slice ao 0 cap]).run P w = .ok (.slice none 0 0) w := by
  cases ao <;> simp [Builtin.append_, run_underlying ht, sizeOf, typeInfo, hi, Builtin.lenOf, Builtin.firstCells, loadCells, loadCellsFrom]
theorem step_append_nothing {P : Program} {ops : Array Oper} {o : Oper} {a : Act} {w : World} {K : Act → World → Prop} {Q : Exit → Act → World → Prop} {E : Prop}
    (hg : o.guard = none) (s x : Operand) (t : TypeId) (hop : o.op = Op.call { callee := Callee.builtin Builtin.append, args := #[s, x], argTypes := #[t, t] })
    (e : TypeId) (i : TypeInfo) (h1 : P.underlying t = some (.slice e)) (h2 : P.info? e = some i) (hs : a.eval s = .slice none 0 0) (ao : Option Addr) (cap : Nat) (hx : a.eval x = .slice ao 0 cap)
    (hK : K (a.put o.dst (.slice none 0 0)) w) : if Region.wanted o (yielded ops a.tmps) = true then Oper.wp P o a w K Q else E := by
  have hw : Region.wanted o (yielded ops a.tmps) = true := by simp [Region.wanted, hg]
  rw [if_pos hw]
  have hrun := run_append_nothing (P := P) w t o.type e i h1 h2 ao cap
  unfold Oper.wp
  simp [execOp, hop, resolve, invoke, builtin, hs, hx, hrun, Result.andThen]
  exact hK
theorem take_len (x : VM) (id : ByteArray) : (takeM x id).y.q.length ≤ x.q.length + 1 := by
  unfold takeM
  split
  · simp
  · split
    · simp
    · simp only [List.length_eraseIdx]
      split <;> omega
theorem put_len (x : VM) (id : ByteArray) (v : V5) : (putM x id v).y.q.length ≤ x.q.length + 1 := by
  unfold putM
  split
  · simp
  · split
    · simp
    · simp only [List.length_eraseIdx]
      split <;> omega
theorem leave_len (x : VM) (id : ByteArray) : (leaveM x id).y.q.length ≤ x.q.length := by
  unfold leaveM
  split
  · simp
  · simp only [List.length_eraseIdx]
    split <;> omega
theorem tk_parts {P : TK → Prop} (r : TK) (h : ∀ f k n m s i q k2 n2 m2 s2 i2 ok wk, r = ⟨⟨f, ⟨k, n, m, s, i⟩, q⟩, ⟨k2, n2, m2, s2, i2⟩, ok, wk⟩ → P ⟨⟨f, ⟨k, n, m, s, i⟩, q⟩, ⟨k2, n2, m2, s2, i2⟩, ok, wk⟩) : P r := by
  obtain ⟨⟨f, ⟨k, n, m, s, i⟩, q⟩, ⟨k2, n2, m2, s2, i2⟩, ok, wk⟩ := r
  exact h _ _ _ _ _ _ _ _ _ _ _ _ _ _ rfl
set_option maxRecDepth 100000 in
set_option maxHeartbeats 8000000 in
theorem mvarKeeps_walk (f : Bool) (k n : Int) (m s i : ByteArray) (v : Value) (q : List Wt) (id : ByteArray) (k2 n2 : Int) (m2 s2 i2 : ByteArray) (hlen : q.length * 88 ≤ 140737488351232) (w : World) (hv : QAt w v q) (hw : Laid w) :
    Calls Tryd.prog 6 #[.agg #[.bool f, .int .i64 k, .int .i64 n, .string m, .string s, .string i, v], .string id, .agg #[.int .i64 k2, .int .i64 n2, .string m2, .string s2, .string i2]] w fun e w' => e = .returned (.bool true) ∧ Below w.heap.size w w' := by
  obtain ⟨i0, hi, hz0, hz1, hz2⟩ := info_parts wInfo
  obtain ⟨ao, cap, rfl⟩ := hv.slice
  obtain ⟨⟨⟨af, ⟨ak, an, am, as', ai⟩, aq⟩, ⟨vk, vn, vm, vs, vi⟩, aok, awk⟩, hta⟩ : ∃ r, takeM ⟨f, ⟨k, n, m, s, i⟩, q⟩ id = r := ⟨_, rfl⟩
  obtain ⟨⟨⟨bf, ⟨bk, bn, bm, bs, bi⟩, bq⟩, bok, bwk⟩, htb⟩ : ∃ r, putM ⟨f, ⟨k, n, m, s, i⟩, q⟩ id ⟨k2, n2, m2, s2, i2⟩ = r := ⟨_, rfl⟩
  obtain ⟨⟨⟨cf, ⟨ck, cn, cm, cs, ci⟩, cq⟩, cok⟩, htc⟩ : ∃ r, leaveM ⟨f, ⟨k, n, m, s, i⟩, q⟩ id = r := ⟨_, rfl⟩
  obtain ⟨⟨⟨ef, ⟨ek, en, em, es, ei⟩, eq'⟩, eok, ewk⟩, hte⟩ : ∃ r, putM ⟨af, ⟨ak, an, am, as', ai⟩, aq⟩ ⟨#[57]⟩ ⟨k2, n2, m2, s2, i2⟩ = r := ⟨_, rfl⟩
  have ha1 : aq.length ≤ q.length + 1 := by have := take_len ⟨f, ⟨k, n, m, s, i⟩, q⟩ id; rw [hta] at this; exact this
  have hb1 : bq.length ≤ q.length + 1 := by have := put_len ⟨f, ⟨k, n, m, s, i⟩, q⟩ id ⟨k2, n2, m2, s2, i2⟩; rw [htb] at this; exact this
  have hc1 : cq.length ≤ q.length := by have := leave_len ⟨f, ⟨k, n, m, s, i⟩, q⟩ id; rw [htc] at this; exact this
  have he1 : eq'.length ≤ aq.length + 1 := by have := put_len ⟨af, ⟨ak, an, am, as', ai⟩, aq⟩ ⟨#[57]⟩ ⟨k2, n2, m2, s2, i2⟩; rw [hte] at this; exact this
  have HTA := Lib.hid hta
  have HTB := Lib.hid htb
  have HTC := Lib.hid htc
  have HTE := Lib.hid hte
  clear hta htb htc hte
  have hbI : (bq.length : Int) ≤ (q.length : Int) + 1 := by omega
  have hcI : (cq.length : Int) ≤ (q.length : Int) := by omega
  have hqI : (q.length : Int) ≤ 9223372036854775806 := by omega
  go_enter Tryd.func6, Tryd.ntmps6
  have hB0 := Below.refl w.heap.size w
  have M0 := Mem.nil w
  go_wp2_with fail
  refine Calls.named ?_
  intro W1 hW1
  have hB1_ : Below w.heap.size w W1 := by rw [hW1]; exact (below_al (below_al hB0 _) _)
  have hw1_ : Laid W1 := by rw [hW1]; exact ((hw.alloc _).alloc _)
  have M1_ := ((M0).new' (w.heap.size) (by rfl) (.cells #[.bool f, .int .i64 k, .int .i64 n, .string m, .string s, .string i, .slice ao q.length cap] 31)).new' (w.heap.size + 1) (by simp) (.cells #[.int .i64 k2, .int .i64 n2, .string m2, .string s2, .string i2] 28)
  rw [← hW1] at M1_
  have hS1 : Below w.heap.size w W1 := by rw [hW1]; exact (below_al (below_al (Below.refl _ _) _) _)
  have hv_ := QAt.below hv hS1
  clear hS1 hv
  clear hW1
  refine (examples_any _ hw1_).mono ?_
  rintro e w1 ⟨rfl, hb1⟩
  have hv := QAt.below hv_ hb1
  clear hv_
  have hB1 := below_then hB1_ hb1
  have hw1 := hw1_.below hb1
  have M1 := M1_.below hb1
  clear M1_ hB1_ hb1 hw1_
  have c1_0_0 := Mem.cell (v := .int .i64 k2) M1.1 0 rfl
  have c1_0_1 := Mem.cell (v := .int .i64 n2) M1.1 1 rfl
  have c1_0_2 := Mem.cell (v := .string m2) M1.1 2 rfl
  have c1_0_3 := Mem.cell (v := .string s2) M1.1 3 rfl
  have c1_0_4 := Mem.cell (v := .string i2) M1.1 4 rfl
  have z1_0 := Mem.lt M1.1
  have c1_1_0 := Mem.cell (v := .bool f) M1.2.1 0 rfl
  have c1_1_1 := Mem.cell (v := .int .i64 k) M1.2.1 1 rfl
  have c1_1_2 := Mem.cell (v := .int .i64 n) M1.2.1 2 rfl
  have c1_1_3 := Mem.cell (v := .string m) M1.2.1 3 rfl
  have c1_1_4 := Mem.cell (v := .string s) M1.2.1 4 rfl
  have c1_1_5 := Mem.cell (v := .string i) M1.2.1 5 rfl
  have c1_1_6 := Mem.cell (v := .slice ao q.length cap) M1.2.1 6 rfl
  have z1_1 := Mem.lt M1.2.1
  go_upto_region 4 with (fail)
  refine wp_named ?_
  intro w2 hW2
  have hB2 : Below w.heap.size w w2 := by rw [hW2]; exact hB1
  have hw2 : Laid w2 := by rw [hW2]; exact hw1
  have M2 := M1
  rw [← hW2] at M2
  have hS2 : Below w1.heap.size w1 w2 := by rw [hW2]; exact (Below.refl _ _)
  replace hv := QAt.below hv hS2
  clear hS2
  clear c1_0_0 c1_0_1 c1_0_2 c1_0_3 c1_0_4 z1_0 c1_1_0 c1_1_1 c1_1_2 c1_1_3 c1_1_4 c1_1_5 c1_1_6 z1_1
  clear hW2
  have c2_0_0 := Mem.cell (v := .int .i64 k2) M2.1 0 rfl
  have c2_0_1 := Mem.cell (v := .int .i64 n2) M2.1 1 rfl
  have c2_0_2 := Mem.cell (v := .string m2) M2.1 2 rfl
  have c2_0_3 := Mem.cell (v := .string s2) M2.1 3 rfl
  have c2_0_4 := Mem.cell (v := .string i2) M2.1 4 rfl
  have z2_0 := Mem.lt M2.1
  have c2_1_0 := Mem.cell (v := .bool f) M2.2.1 0 rfl
  have c2_1_1 := Mem.cell (v := .int .i64 k) M2.2.1 1 rfl
  have c2_1_2 := Mem.cell (v := .int .i64 n) M2.2.1 2 rfl
  have c2_1_3 := Mem.cell (v := .string m) M2.2.1 3 rfl
  have c2_1_4 := Mem.cell (v := .string s) M2.2.1 4 rfl
  have c2_1_5 := Mem.cell (v := .string i) M2.2.1 5 rfl
  have c2_1_6 := Mem.cell (v := .slice ao q.length cap) M2.2.1 6 rfl
  have z2_1 := Mem.lt M2.2.1
  go_cut [8] (fun s8 wx => VarBox w2 ⟨f, ⟨k, n, m, s, i⟩, q⟩ s8 wx)
  case first =>
    have hz2w : w.heap.size < w2.heap.size := by first | assumption | omega
    have ho2 := cell_other (b := w.heap.size) (b' := w2.heap.size) (by omega)
    by_cases h0 : 0 < q.length
    · obtain ⟨qb, off, rfl, -, hqb, -⟩ := slots_someQ hv h0
      have HQ1 := Lib.hid (fun W hb => QAt.news (QAt.below (w' := W) hv hb) h0)
      have HLn := Lib.hid ((rowsQ_wide q).len.trans (by rw [rowsQ_len]))
      go_region_held3 (fun w' => w'.cell? ⟨w.heap.size, 0, none⟩ = some (.bool f) ∧ w'.cell? ⟨w.heap.size, 1, none⟩ = some (.int .i64 k) ∧ w'.cell? ⟨w.heap.size, 2, none⟩ = some (.int .i64 n) ∧ w'.cell? ⟨w.heap.size, 3, none⟩ = some (.string m) ∧ w'.cell? ⟨w.heap.size, 4, none⟩ = some (.string s) ∧ w'.cell? ⟨w.heap.size, 5, none⟩ = some (.string i) ∧ w'.cell? ⟨w.heap.size, 6, none⟩ = some (.slice (some ⟨qb, off, none⟩) q.length cap))
        (go_keep)
        ((refine step_append_lies _ (by rfl) _ _ _ (by rfl) w2.heap.size 48 i0 _ 7 88 Tryd.underlying29 hi hz0 hz1 hz2 rfl (by omega) (.slice none 0 0) 0 [] (by rfl) (World.ownsRow_nil _ _ _ _) ⟨qb, off, none⟩ q.length cap (rowsQ q).flatten (by rfl) HLn.out (HQ1.out _ (by repeat' (first | exact Below.refl _ _ | refine below_dr ?_ | refine below_al ?_ _))) (rowsQ_wide q).one h0 (by unfold maxLen; omega) (by omega) (by simp <;> omega) _ rfl ?_; intro gg cap2 wA hown hgrow hat hltA; have hgA := (fun (b o : Nat) (h : b < _) => hgrow.cell_far ⟨b, o, none⟩ h (by simp [Value.ownBlock])); have hfA := (fun (b o : Nat) (h : b < _) => hgrow.frozen_far ⟨b, o, none⟩ h (by simp [Value.ownBlock])); have hkA := (fun o => hgrow.cell_far ⟨w.heap.size, o, none⟩ (by simp <;> omega) (by simp [Value.ownBlock]))))
      · have hO : OwnQ w2.heap.size wA (.slice (some ⟨gg, 0, none⟩) q.length cap2) q := by simpa [OwnQ, Nat.zero_add] using hown
        have hC : Below w2.heap.size w2 wA := (below_dr (Below.refl _ _)).grown hgrow (by simp) (by simp [Value.ownBlock])
        go_wp2_with fail
        go_meet
        exact ⟨wA.heap.size, some ⟨gg, 0, none⟩, cap2, rfl, heap_alloc_new _ _, hC.size, (OwnQ.keep hO (below_al (Below.refl _ _) _)).at, below_al hC _⟩
      · have hO : OwnQ w2.heap.size wA (.slice (some ⟨gg, 0, none⟩) q.length cap2) q := by simpa [OwnQ, Nat.zero_add] using hown
        have hC : Below w2.heap.size w2 wA := (below_dr (below_al (Below.refl _ _) _)).grown hgrow (by simp) (by simp [Value.ownBlock])
        have hold := (hgrow.block w2.heap.size (by simp) (by simp [Value.ownBlock])).trans (heap_alloc_new w2 _)
        have hA := set_block hold [.bool f, .int .i64 k, .int .i64 n, .string m, .string s, .string i, .slice (some ⟨gg, 0, none⟩) q.length cap2] rfl
        have hg1 : w2.heap.size + 1 = gg := by
          rcases hat with h9 | h9
          · simp [Value.ownBlock] at h9
          · simpa using h9.symm
        have hB := (own_set (B := w2.heap.size + 1) (show OwnQ (w2.heap.size + 1) wA _ q from ⟨hO.1, hO.2.imp (fun h => h) (fun ⟨g, c, cu, e, hb, r⟩ => ⟨g, c, cu, e, by simp at e; omega, r⟩)⟩) (b := w2.heap.size) (by omega) [.bool f, .int .i64 k, .int .i64 n, .string m, .string s, .string i, .slice (some ⟨gg, 0, none⟩) q.length cap2] 0).at
        have hD := below_setCells hC (b := w2.heap.size) (Nat.le_refl _) 0 [.bool f, .int .i64 k, .int .i64 n, .string m, .string s, .string i, .slice (some ⟨gg, 0, none⟩) q.length cap2]
        go_wp2_with fail
        go_meet
        exact ⟨w2.heap.size, some ⟨gg, 0, none⟩, cap2, rfl, hA, Nat.le_refl _, hB, hD⟩
    · have hq0 : q = [] := List.eq_nil_of_length_eq_zero (by omega)
      subst hq0
      go_region_held3 (fun w' => w'.cell? ⟨w.heap.size, 0, none⟩ = some (.bool f) ∧ w'.cell? ⟨w.heap.size, 1, none⟩ = some (.int .i64 k) ∧ w'.cell? ⟨w.heap.size, 2, none⟩ = some (.int .i64 n) ∧ w'.cell? ⟨w.heap.size, 3, none⟩ = some (.string m) ∧ w'.cell? ⟨w.heap.size, 4, none⟩ = some (.string s) ∧ w'.cell? ⟨w.heap.size, 5, none⟩ = some (.string i) ∧ w'.cell? ⟨w.heap.size, 6, none⟩ = some (.slice ao 0 cap))
        (go_keep)
        (refine step_append_nothing (by rfl) _ _ _ (by rfl) 48 i0 Tryd.underlying29 hi (by rfl) ao cap (by rfl) ?_)
      all_goals
        go_wp2_with fail
        go_meet
        exact ⟨w2.heap.size, none, 0, rfl, heap_alloc_new _ _, Nat.le_refl _, ⟨rowsQ_wide _, .inl ⟨⟨none, 0, rfl⟩, rfl⟩⟩, below_al (below_dr (Below.refl _ _)) _⟩
  obtain ⟨bO, aoO, capO, rfl, hXO, hleO, hqqO, hbXO⟩ := hcut
  replace hXO : wc.heap[bO]? = some (.cells #[.bool f, .int .i64 k, .int .i64 n, .string m, .string s, .string i, .slice aoO q.length capO] 31) := hXO
  replace hqqO : QAt wc (.slice aoO q.length capO) q := hqqO
  obtain ⟨w3, rfl⟩ : ∃ x, x = wc := ⟨_, rfl⟩
  have hB3 := below_then hB2 hbXO
  have hw3 := hw2.below hbXO
  have M3 := mem_cons hXO (M2.below hbXO)
  replace hv := QAt.below hv hbXO
  clear c2_0_0 c2_0_1 c2_0_2 c2_0_3 c2_0_4 z2_0 c2_1_0 c2_1_1 c2_1_2 c2_1_3 c2_1_4 c2_1_5 c2_1_6 z2_1
  have c3_0_0 := Mem.cell (v := .bool f) M3.1 0 rfl
  have c3_0_1 := Mem.cell (v := .int .i64 k) M3.1 1 rfl
  have c3_0_2 := Mem.cell (v := .int .i64 n) M3.1 2 rfl
  have c3_0_3 := Mem.cell (v := .string m) M3.1 3 rfl
  have c3_0_4 := Mem.cell (v := .string s) M3.1 4 rfl
  have c3_0_5 := Mem.cell (v := .string i) M3.1 5 rfl
  have c3_0_6 := Mem.cell (v := .slice aoO q.length capO) M3.1 6 rfl
  have z3_0 := Mem.lt M3.1
  have c3_1_0 := Mem.cell (v := .int .i64 k2) M3.2.1 0 rfl
  have c3_1_1 := Mem.cell (v := .int .i64 n2) M3.2.1 1 rfl
  have c3_1_2 := Mem.cell (v := .string m2) M3.2.1 2 rfl
  have c3_1_3 := Mem.cell (v := .string s2) M3.2.1 3 rfl
  have c3_1_4 := Mem.cell (v := .string i2) M3.2.1 4 rfl
  have z3_1 := Mem.lt M3.2.1
  have c3_2_0 := Mem.cell (v := .bool f) M3.2.2.1 0 rfl
  have c3_2_1 := Mem.cell (v := .int .i64 k) M3.2.2.1 1 rfl
  have c3_2_2 := Mem.cell (v := .int .i64 n) M3.2.2.1 2 rfl
  have c3_2_3 := Mem.cell (v := .string m) M3.2.2.1 3 rfl
  have c3_2_4 := Mem.cell (v := .string s) M3.2.2.1 4 rfl
  have c3_2_5 := Mem.cell (v := .string i) M3.2.2.1 5 rfl
  have c3_2_6 := Mem.cell (v := .slice ao q.length cap) M3.2.2.1 6 rfl
  have z3_2 := Mem.lt M3.2.2.1
  go_wp2_with fail
  refine Calls.named ?_
  intro W4 hW4
  have hB4_ : Below w.heap.size w W4 := by rw [hW4]; exact hB3
  have hw4_ : Laid W4 := by rw [hW4]; exact hw3
  have M4_ := M3
  rw [← hW4] at M4_
  have hS4 : Below w3.heap.size w3 W4 := by rw [hW4]; exact (Below.refl _ _)
  have hv_ := QAt.below hv hS4
  have hqqO_ := QAt.below hqqO hS4
  clear hS4 hv hqqO
  clear hW4
  clear c3_0_0 c3_0_1 c3_0_2 c3_0_3 c3_0_4 c3_0_5 c3_0_6 z3_0 c3_1_0 c3_1_1 c3_1_2 c3_1_3 c3_1_4 z3_1 c3_2_0 c3_2_1 c3_2_2 c3_2_3 c3_2_4 c3_2_5 c3_2_6 z3_2
  refine (mtake_any f k n m s i id q _ _ hv_ (by omega)).mono ?_
  rw [HTA.out]
  rintro e w4 ⟨va, rfl, hqa, hb4⟩
  have hv := QAt.below hv_ hb4
  have hqqO := QAt.below hqqO_ hb4
  clear hv_ hqqO_
  have hB4 := below_then hB4_ hb4
  have hw4 := hw4_.below hb4
  have M4 := M4_.below hb4
  clear M4_ hB4_ hb4 hw4_
  have c4_0_0 := Mem.cell (v := .bool f) M4.1 0 rfl
  have c4_0_1 := Mem.cell (v := .int .i64 k) M4.1 1 rfl
  have c4_0_2 := Mem.cell (v := .int .i64 n) M4.1 2 rfl
  have c4_0_3 := Mem.cell (v := .string m) M4.1 3 rfl
  have c4_0_4 := Mem.cell (v := .string s) M4.1 4 rfl
  have c4_0_5 := Mem.cell (v := .string i) M4.1 5 rfl
  have c4_0_6 := Mem.cell (v := .slice aoO q.length capO) M4.1 6 rfl
  have z4_0 := Mem.lt M4.1
  have c4_1_0 := Mem.cell (v := .int .i64 k2) M4.2.1 0 rfl
  have c4_1_1 := Mem.cell (v := .int .i64 n2) M4.2.1 1 rfl
  have c4_1_2 := Mem.cell (v := .string m2) M4.2.1 2 rfl
  have c4_1_3 := Mem.cell (v := .string s2) M4.2.1 3 rfl
  have c4_1_4 := Mem.cell (v := .string i2) M4.2.1 4 rfl
  have z4_1 := Mem.lt M4.2.1
  have c4_2_0 := Mem.cell (v := .bool f) M4.2.2.1 0 rfl
  have c4_2_1 := Mem.cell (v := .int .i64 k) M4.2.2.1 1 rfl
  have c4_2_2 := Mem.cell (v := .int .i64 n) M4.2.2.1 2 rfl
  have c4_2_3 := Mem.cell (v := .string m) M4.2.2.1 3 rfl
  have c4_2_4 := Mem.cell (v := .string s) M4.2.2.1 4 rfl
  have c4_2_5 := Mem.cell (v := .string i) M4.2.2.1 5 rfl
  have c4_2_6 := Mem.cell (v := .slice ao q.length cap) M4.2.2.1 6 rfl
  have z4_2 := Mem.lt M4.2.2.1
  replace hqa := (show OwnQ _ _ va aq from hqa).at
  obtain ⟨aoA, capA, rfl⟩ := hqa.slice
  go_wp2_with fail
  refine Calls.named ?_
  intro W5 hW5
  have hB5_ : Below w.heap.size w W5 := by rw [hW5]; exact (below_al (below_al hB4 _) _)
  have hw5_ : Laid W5 := by rw [hW5]; exact ((hw4.alloc _).alloc _)
  have M5_ := ((M4).new' (w4.heap.size) (by rfl) (.cells #[.bool af, .int .i64 ak, .int .i64 an, .string am, .string as', .string ai, .slice aoA aq.length capA] 31)).new' (w4.heap.size + 1) (by simp) (.cells #[.int .i64 vk, .int .i64 vn, .string vm, .string vs, .string vi] 28)
  rw [← hW5] at M5_
  have hS5 : Below w4.heap.size w4 W5 := by rw [hW5]; exact (below_al (below_al (Below.refl _ _) _) _)
  have hv_ := QAt.below hv hS5
  have hqqO_ := QAt.below hqqO hS5
  have hqa_ := QAt.below hqa hS5
  clear hS5 hv hqqO hqa
  clear hW5
  clear c4_0_0 c4_0_1 c4_0_2 c4_0_3 c4_0_4 c4_0_5 c4_0_6 z4_0 c4_1_0 c4_1_1 c4_1_2 c4_1_3 c4_1_4 z4_1 c4_2_0 c4_2_1 c4_2_2 c4_2_3 c4_2_4 c4_2_5 c4_2_6 z4_2
  refine (mput_any f k n m s i id k2 n2 m2 s2 i2 q _ _ hv_ (by omega)).mono ?_
  rw [HTB.out]
  rintro e w5 ⟨vb, rfl, hqb, hb5⟩
  have hv := QAt.below hv_ hb5
  have hqqO := QAt.below hqqO_ hb5
  have hqa := QAt.below hqa_ hb5
  clear hv_ hqqO_ hqa_
  have hB5 := below_then hB5_ hb5
  have hw5 := hw5_.below hb5
  have M5 := M5_.below hb5
  clear M5_ hB5_ hb5 hw5_
  have c5_0_0 := Mem.cell (v := .int .i64 vk) M5.1 0 rfl
  have c5_0_1 := Mem.cell (v := .int .i64 vn) M5.1 1 rfl
  have c5_0_2 := Mem.cell (v := .string vm) M5.1 2 rfl
  have c5_0_3 := Mem.cell (v := .string vs) M5.1 3 rfl
  have c5_0_4 := Mem.cell (v := .string vi) M5.1 4 rfl
  have z5_0 := Mem.lt M5.1
  have c5_1_0 := Mem.cell (v := .bool af) M5.2.1 0 rfl
  have c5_1_1 := Mem.cell (v := .int .i64 ak) M5.2.1 1 rfl
  have c5_1_2 := Mem.cell (v := .int .i64 an) M5.2.1 2 rfl
  have c5_1_3 := Mem.cell (v := .string am) M5.2.1 3 rfl
  have c5_1_4 := Mem.cell (v := .string as') M5.2.1 4 rfl
  have c5_1_5 := Mem.cell (v := .string ai) M5.2.1 5 rfl
  have c5_1_6 := Mem.cell (v := .slice aoA aq.length capA) M5.2.1 6 rfl
  have z5_1 := Mem.lt M5.2.1
  have c5_2_0 := Mem.cell (v := .bool f) M5.2.2.1 0 rfl
  have c5_2_1 := Mem.cell (v := .int .i64 k) M5.2.2.1 1 rfl
  have c5_2_2 := Mem.cell (v := .int .i64 n) M5.2.2.1 2 rfl
  have c5_2_3 := Mem.cell (v := .string m) M5.2.2.1 3 rfl
  have c5_2_4 := Mem.cell (v := .string s) M5.2.2.1 4 rfl
  have c5_2_5 := Mem.cell (v := .string i) M5.2.2.1 5 rfl
  have c5_2_6 := Mem.cell (v := .slice aoO q.length capO) M5.2.2.1 6 rfl
  have z5_2 := Mem.lt M5.2.2.1
  have c5_3_0 := Mem.cell (v := .int .i64 k2) M5.2.2.2.1 0 rfl
  have c5_3_1 := Mem.cell (v := .int .i64 n2) M5.2.2.2.1 1 rfl
  have c5_3_2 := Mem.cell (v := .string m2) M5.2.2.2.1 2 rfl
  have c5_3_3 := Mem.cell (v := .string s2) M5.2.2.2.1 3 rfl
  have c5_3_4 := Mem.cell (v := .string i2) M5.2.2.2.1 4 rfl
  have z5_3 := Mem.lt M5.2.2.2.1
  have c5_4_0 := Mem.cell (v := .bool f) M5.2.2.2.2.1 0 rfl
  have c5_4_1 := Mem.cell (v := .int .i64 k) M5.2.2.2.2.1 1 rfl
  have c5_4_2 := Mem.cell (v := .int .i64 n) M5.2.2.2.2.1 2 rfl
  have c5_4_3 := Mem.cell (v := .string m) M5.2.2.2.2.1 3 rfl
  have c5_4_4 := Mem.cell (v := .string s) M5.2.2.2.2.1 4 rfl
  have c5_4_5 := Mem.cell (v := .string i) M5.2.2.2.2.1 5 rfl
  have c5_4_6 := Mem.cell (v := .slice ao q.length cap) M5.2.2.2.2.1 6 rfl
  have z5_4 := Mem.lt M5.2.2.2.2.1
  replace hqb := (show OwnQ _ _ vb bq from hqb).at
  obtain ⟨aoB, capB, rfl⟩ := hqb.slice
  clear hqb
  go_wp2_with fail
  refine Calls.named ?_
  intro W6 hW6
  have hB6_ : Below w.heap.size w W6 := by rw [hW6]; exact (below_al hB5 _)
  have hw6_ : Laid W6 := by rw [hW6]; exact (hw5.alloc _)
  have M6_ := (M5).new' (w5.heap.size) (by rfl) (.cells #[.bool bf, .int .i64 bk, .int .i64 bn, .string bm, .string bs, .string bi, .slice aoB bq.length capB] 31)
  rw [← hW6] at M6_
  have hS6 : Below w5.heap.size w5 W6 := by rw [hW6]; exact (below_al (Below.refl _ _) _)
  have hv_ := QAt.below hv hS6
  have hqqO_ := QAt.below hqqO hS6
  have hqa_ := QAt.below hqa hS6
  clear hS6 hv hqqO hqa
  clear hW6
  clear c5_0_0 c5_0_1 c5_0_2 c5_0_3 c5_0_4 z5_0 c5_1_0 c5_1_1 c5_1_2 c5_1_3 c5_1_4 c5_1_5 c5_1_6 z5_1 c5_2_0 c5_2_1 c5_2_2 c5_2_3 c5_2_4 c5_2_5 c5_2_6 z5_2 c5_3_0 c5_3_1 c5_3_2 c5_3_3 c5_3_4 z5_3 c5_4_0 c5_4_1 c5_4_2 c5_4_3 c5_4_4 c5_4_5 c5_4_6 z5_4
  refine (mleave_any f k n m s i id q _ _ hv_ (by omega)).mono ?_
  rw [HTC.out]
  rintro e w6 ⟨vc, rfl, hqc, hb6⟩
  have hv := QAt.below hv_ hb6
  have hqqO := QAt.below hqqO_ hb6
  have hqa := QAt.below hqa_ hb6
  clear hv_ hqqO_ hqa_
  have hB6 := below_then hB6_ hb6
  have hw6 := hw6_.below hb6
  have M6 := M6_.below hb6
  clear M6_ hB6_ hb6 hw6_
  have c6_0_0 := Mem.cell (v := .bool bf) M6.1 0 rfl
  have c6_0_1 := Mem.cell (v := .int .i64 bk) M6.1 1 rfl
  have c6_0_2 := Mem.cell (v := .int .i64 bn) M6.1 2 rfl
  have c6_0_3 := Mem.cell (v := .string bm) M6.1 3 rfl
  have c6_0_4 := Mem.cell (v := .string bs) M6.1 4 rfl
  have c6_0_5 := Mem.cell (v := .string bi) M6.1 5 rfl
  have c6_0_6 := Mem.cell (v := .slice aoB bq.length capB) M6.1 6 rfl
  have z6_0 := Mem.lt M6.1
  have c6_1_0 := Mem.cell (v := .int .i64 vk) M6.2.1 0 rfl
  have c6_1_1 := Mem.cell (v := .int .i64 vn) M6.2.1 1 rfl
  have c6_1_2 := Mem.cell (v := .string vm) M6.2.1 2 rfl
  have c6_1_3 := Mem.cell (v := .string vs) M6.2.1 3 rfl
  have c6_1_4 := Mem.cell (v := .string vi) M6.2.1 4 rfl
  have z6_1 := Mem.lt M6.2.1
  have c6_2_0 := Mem.cell (v := .bool af) M6.2.2.1 0 rfl
  have c6_2_1 := Mem.cell (v := .int .i64 ak) M6.2.2.1 1 rfl
  have c6_2_2 := Mem.cell (v := .int .i64 an) M6.2.2.1 2 rfl
  have c6_2_3 := Mem.cell (v := .string am) M6.2.2.1 3 rfl
  have c6_2_4 := Mem.cell (v := .string as') M6.2.2.1 4 rfl
  have c6_2_5 := Mem.cell (v := .string ai) M6.2.2.1 5 rfl
  have c6_2_6 := Mem.cell (v := .slice aoA aq.length capA) M6.2.2.1 6 rfl
  have z6_2 := Mem.lt M6.2.2.1
  have c6_3_0 := Mem.cell (v := .bool f) M6.2.2.2.1 0 rfl
  have c6_3_1 := Mem.cell (v := .int .i64 k) M6.2.2.2.1 1 rfl
  have c6_3_2 := Mem.cell (v := .int .i64 n) M6.2.2.2.1 2 rfl
  have c6_3_3 := Mem.cell (v := .string m) M6.2.2.2.1 3 rfl
  have c6_3_4 := Mem.cell (v := .string s) M6.2.2.2.1 4 rfl
  have c6_3_5 := Mem.cell (v := .string i) M6.2.2.2.1 5 rfl
  have c6_3_6 := Mem.cell (v := .slice aoO q.length capO) M6.2.2.2.1 6 rfl
  have z6_3 := Mem.lt M6.2.2.2.1
  have c6_4_0 := Mem.cell (v := .int .i64 k2) M6.2.2.2.2.1 0 rfl
  have c6_4_1 := Mem.cell (v := .int .i64 n2) M6.2.2.2.2.1 1 rfl
  have c6_4_2 := Mem.cell (v := .string m2) M6.2.2.2.2.1 2 rfl
  have c6_4_3 := Mem.cell (v := .string s2) M6.2.2.2.2.1 3 rfl
  have c6_4_4 := Mem.cell (v := .string i2) M6.2.2.2.2.1 4 rfl
  have z6_4 := Mem.lt M6.2.2.2.2.1
  have c6_5_0 := Mem.cell (v := .bool f) M6.2.2.2.2.2.1 0 rfl
  have c6_5_1 := Mem.cell (v := .int .i64 k) M6.2.2.2.2.2.1 1 rfl
  have c6_5_2 := Mem.cell (v := .int .i64 n) M6.2.2.2.2.2.1 2 rfl
  have c6_5_3 := Mem.cell (v := .string m) M6.2.2.2.2.2.1 3 rfl
  have c6_5_4 := Mem.cell (v := .string s) M6.2.2.2.2.2.1 4 rfl
  have c6_5_5 := Mem.cell (v := .string i) M6.2.2.2.2.2.1 5 rfl
  have c6_5_6 := Mem.cell (v := .slice ao q.length cap) M6.2.2.2.2.2.1 6 rfl
  have z6_5 := Mem.lt M6.2.2.2.2.2.1
  replace hqc := (show OwnQ _ _ vc cq from hqc).at
  obtain ⟨aoC, capC, rfl⟩ := hqc.slice
  clear hqc
  go_wp2_with fail
  refine Calls.named ?_
  intro W7 hW7
  have hB7_ : Below w.heap.size w W7 := by rw [hW7]; exact (below_al hB6 _)
  have hw7_ : Laid W7 := by rw [hW7]; exact (hw6.alloc _)
  have M7_ := (M6).new' (w6.heap.size) (by rfl) (.cells #[.bool cf, .int .i64 ck, .int .i64 cn, .string cm, .string cs, .string ci, .slice aoC cq.length capC] 31)
  rw [← hW7] at M7_
  have hS7 : Below w6.heap.size w6 W7 := by rw [hW7]; exact (below_al (Below.refl _ _) _)
  have hv_ := QAt.below hv hS7
  have hqqO_ := QAt.below hqqO hS7
  have hqa_ := QAt.below hqa hS7
  clear hS7 hv hqqO hqa
  clear hW7
  clear c6_0_0 c6_0_1 c6_0_2 c6_0_3 c6_0_4 c6_0_5 c6_0_6 z6_0 c6_1_0 c6_1_1 c6_1_2 c6_1_3 c6_1_4 z6_1 c6_2_0 c6_2_1 c6_2_2 c6_2_3 c6_2_4 c6_2_5 c6_2_6 z6_2 c6_3_0 c6_3_1 c6_3_2 c6_3_3 c6_3_4 c6_3_5 c6_3_6 z6_3 c6_4_0 c6_4_1 c6_4_2 c6_4_3 c6_4_4 z6_4 c6_5_0 c6_5_1 c6_5_2 c6_5_3 c6_5_4 c6_5_5 c6_5_6 z6_5
  refine (mtake_any f k n m s i id q _ _ hv_ (by omega)).mono ?_
  rw [HTA.out]
  rintro e w7 ⟨vd, rfl, hqd, hb7⟩
  have hv := QAt.below hv_ hb7
  have hqqO := QAt.below hqqO_ hb7
  have hqa := QAt.below hqa_ hb7
  clear hv_ hqqO_ hqa_
  have hB7 := below_then hB7_ hb7
  have hw7 := hw7_.below hb7
  have M7 := M7_.below hb7
  clear M7_ hB7_ hb7 hw7_
  have c7_0_0 := Mem.cell (v := .bool cf) M7.1 0 rfl
  have c7_0_1 := Mem.cell (v := .int .i64 ck) M7.1 1 rfl
  have c7_0_2 := Mem.cell (v := .int .i64 cn) M7.1 2 rfl
  have c7_0_3 := Mem.cell (v := .string cm) M7.1 3 rfl
  have c7_0_4 := Mem.cell (v := .string cs) M7.1 4 rfl
  have c7_0_5 := Mem.cell (v := .string ci) M7.1 5 rfl
  have c7_0_6 := Mem.cell (v := .slice aoC cq.length capC) M7.1 6 rfl
  have z7_0 := Mem.lt M7.1
  have c7_1_0 := Mem.cell (v := .bool bf) M7.2.1 0 rfl
  have c7_1_1 := Mem.cell (v := .int .i64 bk) M7.2.1 1 rfl
  have c7_1_2 := Mem.cell (v := .int .i64 bn) M7.2.1 2 rfl
  have c7_1_3 := Mem.cell (v := .string bm) M7.2.1 3 rfl
  have c7_1_4 := Mem.cell (v := .string bs) M7.2.1 4 rfl
  have c7_1_5 := Mem.cell (v := .string bi) M7.2.1 5 rfl
  have c7_1_6 := Mem.cell (v := .slice aoB bq.length capB) M7.2.1 6 rfl
  have z7_1 := Mem.lt M7.2.1
  have c7_2_0 := Mem.cell (v := .int .i64 vk) M7.2.2.1 0 rfl
  have c7_2_1 := Mem.cell (v := .int .i64 vn) M7.2.2.1 1 rfl
  have c7_2_2 := Mem.cell (v := .string vm) M7.2.2.1 2 rfl
  have c7_2_3 := Mem.cell (v := .string vs) M7.2.2.1 3 rfl
  have c7_2_4 := Mem.cell (v := .string vi) M7.2.2.1 4 rfl
  have z7_2 := Mem.lt M7.2.2.1
  have c7_3_0 := Mem.cell (v := .bool af) M7.2.2.2.1 0 rfl
  have c7_3_1 := Mem.cell (v := .int .i64 ak) M7.2.2.2.1 1 rfl
  have c7_3_2 := Mem.cell (v := .int .i64 an) M7.2.2.2.1 2 rfl
  have c7_3_3 := Mem.cell (v := .string am) M7.2.2.2.1 3 rfl
  have c7_3_4 := Mem.cell (v := .string as') M7.2.2.2.1 4 rfl
  have c7_3_5 := Mem.cell (v := .string ai) M7.2.2.2.1 5 rfl
  have c7_3_6 := Mem.cell (v := .slice aoA aq.length capA) M7.2.2.2.1 6 rfl
  have z7_3 := Mem.lt M7.2.2.2.1
  have c7_4_0 := Mem.cell (v := .bool f) M7.2.2.2.2.1 0 rfl
  have c7_4_1 := Mem.cell (v := .int .i64 k) M7.2.2.2.2.1 1 rfl
  have c7_4_2 := Mem.cell (v := .int .i64 n) M7.2.2.2.2.1 2 rfl
  have c7_4_3 := Mem.cell (v := .string m) M7.2.2.2.2.1 3 rfl
  have c7_4_4 := Mem.cell (v := .string s) M7.2.2.2.2.1 4 rfl
  have c7_4_5 := Mem.cell (v := .string i) M7.2.2.2.2.1 5 rfl
  have c7_4_6 := Mem.cell (v := .slice aoO q.length capO) M7.2.2.2.2.1 6 rfl
  have z7_4 := Mem.lt M7.2.2.2.2.1
  have c7_5_0 := Mem.cell (v := .int .i64 k2) M7.2.2.2.2.2.1 0 rfl
  have c7_5_1 := Mem.cell (v := .int .i64 n2) M7.2.2.2.2.2.1 1 rfl
  have c7_5_2 := Mem.cell (v := .string m2) M7.2.2.2.2.2.1 2 rfl
  have c7_5_3 := Mem.cell (v := .string s2) M7.2.2.2.2.2.1 3 rfl
  have c7_5_4 := Mem.cell (v := .string i2) M7.2.2.2.2.2.1 4 rfl
  have z7_5 := Mem.lt M7.2.2.2.2.2.1
  have c7_6_0 := Mem.cell (v := .bool f) M7.2.2.2.2.2.2.1 0 rfl
  have c7_6_1 := Mem.cell (v := .int .i64 k) M7.2.2.2.2.2.2.1 1 rfl
  have c7_6_2 := Mem.cell (v := .int .i64 n) M7.2.2.2.2.2.2.1 2 rfl
  have c7_6_3 := Mem.cell (v := .string m) M7.2.2.2.2.2.2.1 3 rfl
  have c7_6_4 := Mem.cell (v := .string s) M7.2.2.2.2.2.2.1 4 rfl
  have c7_6_5 := Mem.cell (v := .string i) M7.2.2.2.2.2.2.1 5 rfl
  have c7_6_6 := Mem.cell (v := .slice ao q.length cap) M7.2.2.2.2.2.2.1 6 rfl
  have z7_6 := Mem.lt M7.2.2.2.2.2.2.1
  replace hqd := (show OwnQ _ _ vd aq from hqd).at
  obtain ⟨aoD, capD, rfl⟩ := hqd.slice
  go_wp2_with fail
  refine Calls.named ?_
  intro W8 hW8
  have hB8_ : Below w.heap.size w W8 := by rw [hW8]; exact (below_al (below_al hB7 _) _)
  have hw8_ : Laid W8 := by rw [hW8]; exact ((hw7.alloc _).alloc _)
  have M8_ := ((M7).new' (w7.heap.size) (by rfl) (.cells #[.bool af, .int .i64 ak, .int .i64 an, .string am, .string as', .string ai, .slice aoD aq.length capD] 31)).new' (w7.heap.size + 1) (by simp) (.cells #[.int .i64 vk, .int .i64 vn, .string vm, .string vs, .string vi] 28)
  rw [← hW8] at M8_
  have hS8 : Below w7.heap.size w7 W8 := by rw [hW8]; exact (below_al (below_al (Below.refl _ _) _) _)
  have hv_ := QAt.below hv hS8
  have hqqO_ := QAt.below hqqO hS8
  have hqa_ := QAt.below hqa hS8
  have hqd_ := QAt.below hqd hS8
  clear hS8 hv hqqO hqa hqd
  clear hW8
  clear c7_0_0 c7_0_1 c7_0_2 c7_0_3 c7_0_4 c7_0_5 c7_0_6 z7_0 c7_1_0 c7_1_1 c7_1_2 c7_1_3 c7_1_4 c7_1_5 c7_1_6 z7_1 c7_2_0 c7_2_1 c7_2_2 c7_2_3 c7_2_4 z7_2 c7_3_0 c7_3_1 c7_3_2 c7_3_3 c7_3_4 c7_3_5 c7_3_6 z7_3 c7_4_0 c7_4_1 c7_4_2 c7_4_3 c7_4_4 c7_4_5 c7_4_6 z7_4 c7_5_0 c7_5_1 c7_5_2 c7_5_3 c7_5_4 z7_5 c7_6_0 c7_6_1 c7_6_2 c7_6_3 c7_6_4 c7_6_5 c7_6_6 z7_6
  refine (mput_any af ak an am as' ai ⟨#[57]⟩ k2 n2 m2 s2 i2 aq _ _ hqa_ (by omega)).mono ?_
  rw [HTE.out]
  rintro e w8 ⟨ve, rfl, hqe, hb8⟩
  have hv := QAt.below hv_ hb8
  have hqqO := QAt.below hqqO_ hb8
  have hqa := QAt.below hqa_ hb8
  have hqd := QAt.below hqd_ hb8
  clear hv_ hqqO_ hqa_ hqd_
  have hB8 := below_then hB8_ hb8
  have hw8 := hw8_.below hb8
  have M8 := M8_.below hb8
  clear M8_ hB8_ hb8 hw8_
  have c8_0_0 := Mem.cell (v := .int .i64 vk) M8.1 0 rfl
  have c8_0_1 := Mem.cell (v := .int .i64 vn) M8.1 1 rfl
  have c8_0_2 := Mem.cell (v := .string vm) M8.1 2 rfl
  have c8_0_3 := Mem.cell (v := .string vs) M8.1 3 rfl
  have c8_0_4 := Mem.cell (v := .string vi) M8.1 4 rfl
  have z8_0 := Mem.lt M8.1
  have c8_1_0 := Mem.cell (v := .bool af) M8.2.1 0 rfl
  have c8_1_1 := Mem.cell (v := .int .i64 ak) M8.2.1 1 rfl
  have c8_1_2 := Mem.cell (v := .int .i64 an) M8.2.1 2 rfl
  have c8_1_3 := Mem.cell (v := .string am) M8.2.1 3 rfl
  have c8_1_4 := Mem.cell (v := .string as') M8.2.1 4 rfl
  have c8_1_5 := Mem.cell (v := .string ai) M8.2.1 5 rfl
  have c8_1_6 := Mem.cell (v := .slice aoD aq.length capD) M8.2.1 6 rfl
  have z8_1 := Mem.lt M8.2.1
  have c8_2_0 := Mem.cell (v := .bool cf) M8.2.2.1 0 rfl
  have c8_2_1 := Mem.cell (v := .int .i64 ck) M8.2.2.1 1 rfl
  have c8_2_2 := Mem.cell (v := .int .i64 cn) M8.2.2.1 2 rfl
  have c8_2_3 := Mem.cell (v := .string cm) M8.2.2.1 3 rfl
  have c8_2_4 := Mem.cell (v := .string cs) M8.2.2.1 4 rfl
  have c8_2_5 := Mem.cell (v := .string ci) M8.2.2.1 5 rfl
  have c8_2_6 := Mem.cell (v := .slice aoC cq.length capC) M8.2.2.1 6 rfl
  have z8_2 := Mem.lt M8.2.2.1
  have c8_3_0 := Mem.cell (v := .bool bf) M8.2.2.2.1 0 rfl
  have c8_3_1 := Mem.cell (v := .int .i64 bk) M8.2.2.2.1 1 rfl
  have c8_3_2 := Mem.cell (v := .int .i64 bn) M8.2.2.2.1 2 rfl
  have c8_3_3 := Mem.cell (v := .string bm) M8.2.2.2.1 3 rfl
  have c8_3_4 := Mem.cell (v := .string bs) M8.2.2.2.1 4 rfl
  have c8_3_5 := Mem.cell (v := .string bi) M8.2.2.2.1 5 rfl
  have c8_3_6 := Mem.cell (v := .slice aoB bq.length capB) M8.2.2.2.1 6 rfl
  have z8_3 := Mem.lt M8.2.2.2.1
  have c8_4_0 := Mem.cell (v := .int .i64 vk) M8.2.2.2.2.1 0 rfl
  have c8_4_1 := Mem.cell (v := .int .i64 vn) M8.2.2.2.2.1 1 rfl
  have c8_4_2 := Mem.cell (v := .string vm) M8.2.2.2.2.1 2 rfl
  have c8_4_3 := Mem.cell (v := .string vs) M8.2.2.2.2.1 3 rfl
  have c8_4_4 := Mem.cell (v := .string vi) M8.2.2.2.2.1 4 rfl
  have z8_4 := Mem.lt M8.2.2.2.2.1
  have c8_5_0 := Mem.cell (v := .bool af) M8.2.2.2.2.2.1 0 rfl
  have c8_5_1 := Mem.cell (v := .int .i64 ak) M8.2.2.2.2.2.1 1 rfl
  have c8_5_2 := Mem.cell (v := .int .i64 an) M8.2.2.2.2.2.1 2 rfl
  have c8_5_3 := Mem.cell (v := .string am) M8.2.2.2.2.2.1 3 rfl
  have c8_5_4 := Mem.cell (v := .string as') M8.2.2.2.2.2.1 4 rfl
  have c8_5_5 := Mem.cell (v := .string ai) M8.2.2.2.2.2.1 5 rfl
  have c8_5_6 := Mem.cell (v := .slice aoA aq.length capA) M8.2.2.2.2.2.1 6 rfl
  have z8_5 := Mem.lt M8.2.2.2.2.2.1
  have c8_6_0 := Mem.cell (v := .bool f) M8.2.2.2.2.2.2.1 0 rfl
  have c8_6_1 := Mem.cell (v := .int .i64 k) M8.2.2.2.2.2.2.1 1 rfl
  have c8_6_2 := Mem.cell (v := .int .i64 n) M8.2.2.2.2.2.2.1 2 rfl
  have c8_6_3 := Mem.cell (v := .string m) M8.2.2.2.2.2.2.1 3 rfl
  have c8_6_4 := Mem.cell (v := .string s) M8.2.2.2.2.2.2.1 4 rfl
  have c8_6_5 := Mem.cell (v := .string i) M8.2.2.2.2.2.2.1 5 rfl
  have c8_6_6 := Mem.cell (v := .slice aoO q.length capO) M8.2.2.2.2.2.2.1 6 rfl
  have z8_6 := Mem.lt M8.2.2.2.2.2.2.1
  have c8_7_0 := Mem.cell (v := .int .i64 k2) M8.2.2.2.2.2.2.2.1 0 rfl
  have c8_7_1 := Mem.cell (v := .int .i64 n2) M8.2.2.2.2.2.2.2.1 1 rfl
  have c8_7_2 := Mem.cell (v := .string m2) M8.2.2.2.2.2.2.2.1 2 rfl
  have c8_7_3 := Mem.cell (v := .string s2) M8.2.2.2.2.2.2.2.1 3 rfl
  have c8_7_4 := Mem.cell (v := .string i2) M8.2.2.2.2.2.2.2.1 4 rfl
  have z8_7 := Mem.lt M8.2.2.2.2.2.2.2.1
  have c8_8_0 := Mem.cell (v := .bool f) M8.2.2.2.2.2.2.2.2.1 0 rfl
  have c8_8_1 := Mem.cell (v := .int .i64 k) M8.2.2.2.2.2.2.2.2.1 1 rfl
  have c8_8_2 := Mem.cell (v := .int .i64 n) M8.2.2.2.2.2.2.2.2.1 2 rfl
  have c8_8_3 := Mem.cell (v := .string m) M8.2.2.2.2.2.2.2.2.1 3 rfl
  have c8_8_4 := Mem.cell (v := .string s) M8.2.2.2.2.2.2.2.2.1 4 rfl
  have c8_8_5 := Mem.cell (v := .string i) M8.2.2.2.2.2.2.2.2.1 5 rfl
  have c8_8_6 := Mem.cell (v := .slice ao q.length cap) M8.2.2.2.2.2.2.2.2.1 6 rfl
  have z8_8 := Mem.lt M8.2.2.2.2.2.2.2.2.1
  replace hqe := (show OwnQ _ _ ve eq' from hqe).at
  obtain ⟨aoE, capE, rfl⟩ := hqe.slice
  go_wp2_with fail
  refine Calls.named ?_
  intro W9 hW9
  have hB9_ : Below w.heap.size w W9 := by rw [hW9]; exact (below_al hB8 _)
  have hw9_ : Laid W9 := by rw [hW9]; exact (hw8.alloc _)
  have M9_ := (M8).new' (w8.heap.size) (by rfl) (.cells #[.bool ef, .int .i64 ek, .int .i64 en, .string em, .string es, .string ei, .slice aoE eq'.length capE] 31)
  rw [← hW9] at M9_
  have hS9 : Below w8.heap.size w8 W9 := by rw [hW9]; exact (below_al (Below.refl _ _) _)
  have hv_ := QAt.below hv hS9
  have hqqO_ := QAt.below hqqO hS9
  have hqa_ := QAt.below hqa hS9
  have hqd_ := QAt.below hqd hS9
  have hqe_ := QAt.below hqe hS9
  clear hS9 hv hqqO hqa hqd hqe
  clear hW9
  clear c8_0_0 c8_0_1 c8_0_2 c8_0_3 c8_0_4 z8_0 c8_1_0 c8_1_1 c8_1_2 c8_1_3 c8_1_4 c8_1_5 c8_1_6 z8_1 c8_2_0 c8_2_1 c8_2_2 c8_2_3 c8_2_4 c8_2_5 c8_2_6 z8_2 c8_3_0 c8_3_1 c8_3_2 c8_3_3 c8_3_4 c8_3_5 c8_3_6 z8_3 c8_4_0 c8_4_1 c8_4_2 c8_4_3 c8_4_4 z8_4 c8_5_0 c8_5_1 c8_5_2 c8_5_3 c8_5_4 c8_5_5 c8_5_6 z8_5 c8_6_0 c8_6_1 c8_6_2 c8_6_3 c8_6_4 c8_6_5 c8_6_6 z8_6 c8_7_0 c8_7_1 c8_7_2 c8_7_3 c8_7_4 z8_7 c8_8_0 c8_8_1 c8_8_2 c8_8_3 c8_8_4 c8_8_5 c8_8_6 z8_8
  refine (mput_any af ak an am as' ai ⟨#[57]⟩ k2 n2 m2 s2 i2 aq _ _ hqd_ (by omega)).mono ?_
  rw [HTE.out]
  rintro e w9 ⟨vf, rfl, hqf, hb9⟩
  have hv := QAt.below hv_ hb9
  have hqqO := QAt.below hqqO_ hb9
  have hqa := QAt.below hqa_ hb9
  have hqd := QAt.below hqd_ hb9
  have hqe := QAt.below hqe_ hb9
  clear hv_ hqqO_ hqa_ hqd_ hqe_
  have hB9 := below_then hB9_ hb9
  have hw9 := hw9_.below hb9
  have M9 := M9_.below hb9
  clear M9_ hB9_ hb9 hw9_
  have c9_0_0 := Mem.cell (v := .bool ef) M9.1 0 rfl
  have c9_0_1 := Mem.cell (v := .int .i64 ek) M9.1 1 rfl
  have c9_0_2 := Mem.cell (v := .int .i64 en) M9.1 2 rfl
  have c9_0_3 := Mem.cell (v := .string em) M9.1 3 rfl
  have c9_0_4 := Mem.cell (v := .string es) M9.1 4 rfl
  have c9_0_5 := Mem.cell (v := .string ei) M9.1 5 rfl
  have c9_0_6 := Mem.cell (v := .slice aoE eq'.length capE) M9.1 6 rfl
  have z9_0 := Mem.lt M9.1
  have c9_1_0 := Mem.cell (v := .int .i64 vk) M9.2.1 0 rfl
  have c9_1_1 := Mem.cell (v := .int .i64 vn) M9.2.1 1 rfl
  have c9_1_2 := Mem.cell (v := .string vm) M9.2.1 2 rfl
  have c9_1_3 := Mem.cell (v := .string vs) M9.2.1 3 rfl
  have c9_1_4 := Mem.cell (v := .string vi) M9.2.1 4 rfl
  have z9_1 := Mem.lt M9.2.1
  have c9_2_0 := Mem.cell (v := .bool af) M9.2.2.1 0 rfl
  have c9_2_1 := Mem.cell (v := .int .i64 ak) M9.2.2.1 1 rfl
  have c9_2_2 := Mem.cell (v := .int .i64 an) M9.2.2.1 2 rfl
  have c9_2_3 := Mem.cell (v := .string am) M9.2.2.1 3 rfl
  have c9_2_4 := Mem.cell (v := .string as') M9.2.2.1 4 rfl
  have c9_2_5 := Mem.cell (v := .string ai) M9.2.2.1 5 rfl
  have c9_2_6 := Mem.cell (v := .slice aoD aq.length capD) M9.2.2.1 6 rfl
  have z9_2 := Mem.lt M9.2.2.1
  have c9_3_0 := Mem.cell (v := .bool cf) M9.2.2.2.1 0 rfl
  have c9_3_1 := Mem.cell (v := .int .i64 ck) M9.2.2.2.1 1 rfl
  have c9_3_2 := Mem.cell (v := .int .i64 cn) M9.2.2.2.1 2 rfl
  have c9_3_3 := Mem.cell (v := .string cm) M9.2.2.2.1 3 rfl
  have c9_3_4 := Mem.cell (v := .string cs) M9.2.2.2.1 4 rfl
  have c9_3_5 := Mem.cell (v := .string ci) M9.2.2.2.1 5 rfl
  have c9_3_6 := Mem.cell (v := .slice aoC cq.length capC) M9.2.2.2.1 6 rfl
  have z9_3 := Mem.lt M9.2.2.2.1
  have c9_4_0 := Mem.cell (v := .bool bf) M9.2.2.2.2.1 0 rfl
  have c9_4_1 := Mem.cell (v := .int .i64 bk) M9.2.2.2.2.1 1 rfl
  have c9_4_2 := Mem.cell (v := .int .i64 bn) M9.2.2.2.2.1 2 rfl
  have c9_4_3 := Mem.cell (v := .string bm) M9.2.2.2.2.1 3 rfl
  have c9_4_4 := Mem.cell (v := .string bs) M9.2.2.2.2.1 4 rfl
  have c9_4_5 := Mem.cell (v := .string bi) M9.2.2.2.2.1 5 rfl
  have c9_4_6 := Mem.cell (v := .slice aoB bq.length capB) M9.2.2.2.2.1 6 rfl
  have z9_4 := Mem.lt M9.2.2.2.2.1
  have c9_5_0 := Mem.cell (v := .int .i64 vk) M9.2.2.2.2.2.1 0 rfl
  have c9_5_1 := Mem.cell (v := .int .i64 vn) M9.2.2.2.2.2.1 1 rfl
  have c9_5_2 := Mem.cell (v := .string vm) M9.2.2.2.2.2.1 2 rfl
  have c9_5_3 := Mem.cell (v := .string vs) M9.2.2.2.2.2.1 3 rfl
  have c9_5_4 := Mem.cell (v := .string vi) M9.2.2.2.2.2.1 4 rfl
  have z9_5 := Mem.lt M9.2.2.2.2.2.1
  have c9_6_0 := Mem.cell (v := .bool af) M9.2.2.2.2.2.2.1 0 rfl
  have c9_6_1 := Mem.cell (v := .int .i64 ak) M9.2.2.2.2.2.2.1 1 rfl
  have c9_6_2 := Mem.cell (v := .int .i64 an) M9.2.2.2.2.2.2.1 2 rfl
  have c9_6_3 := Mem.cell (v := .string am) M9.2.2.2.2.2.2.1 3 rfl
  have c9_6_4 := Mem.cell (v := .string as') M9.2.2.2.2.2.2.1 4 rfl
  have c9_6_5 := Mem.cell (v := .string ai) M9.2.2.2.2.2.2.1 5 rfl
  have c9_6_6 := Mem.cell (v := .slice aoA aq.length capA) M9.2.2.2.2.2.2.1 6 rfl
  have z9_6 := Mem.lt M9.2.2.2.2.2.2.1
  have c9_7_0 := Mem.cell (v := .bool f) M9.2.2.2.2.2.2.2.1 0 rfl
  have c9_7_1 := Mem.cell (v := .int .i64 k) M9.2.2.2.2.2.2.2.1 1 rfl
  have c9_7_2 := Mem.cell (v := .int .i64 n) M9.2.2.2.2.2.2.2.1 2 rfl
  have c9_7_3 := Mem.cell (v := .string m) M9.2.2.2.2.2.2.2.1 3 rfl
  have c9_7_4 := Mem.cell (v := .string s) M9.2.2.2.2.2.2.2.1 4 rfl
  have c9_7_5 := Mem.cell (v := .string i) M9.2.2.2.2.2.2.2.1 5 rfl
  have c9_7_6 := Mem.cell (v := .slice aoO q.length capO) M9.2.2.2.2.2.2.2.1 6 rfl
  have z9_7 := Mem.lt M9.2.2.2.2.2.2.2.1
  have c9_8_0 := Mem.cell (v := .int .i64 k2) M9.2.2.2.2.2.2.2.2.1 0 rfl
  have c9_8_1 := Mem.cell (v := .int .i64 n2) M9.2.2.2.2.2.2.2.2.1 1 rfl
  have c9_8_2 := Mem.cell (v := .string m2) M9.2.2.2.2.2.2.2.2.1 2 rfl
  have c9_8_3 := Mem.cell (v := .string s2) M9.2.2.2.2.2.2.2.2.1 3 rfl
  have c9_8_4 := Mem.cell (v := .string i2) M9.2.2.2.2.2.2.2.2.1 4 rfl
  have z9_8 := Mem.lt M9.2.2.2.2.2.2.2.2.1
  have c9_9_0 := Mem.cell (v := .bool f) M9.2.2.2.2.2.2.2.2.2.1 0 rfl
  have c9_9_1 := Mem.cell (v := .int .i64 k) M9.2.2.2.2.2.2.2.2.2.1 1 rfl
  have c9_9_2 := Mem.cell (v := .int .i64 n) M9.2.2.2.2.2.2.2.2.2.1 2 rfl
  have c9_9_3 := Mem.cell (v := .string m) M9.2.2.2.2.2.2.2.2.2.1 3 rfl
  have c9_9_4 := Mem.cell (v := .string s) M9.2.2.2.2.2.2.2.2.2.1 4 rfl
  have c9_9_5 := Mem.cell (v := .string i) M9.2.2.2.2.2.2.2.2.2.1 5 rfl
  have c9_9_6 := Mem.cell (v := .slice ao q.length cap) M9.2.2.2.2.2.2.2.2.2.1 6 rfl
  have z9_9 := Mem.lt M9.2.2.2.2.2.2.2.2.2.1
  replace hqf := (show OwnQ _ _ vf eq' from hqf).at
  obtain ⟨aoF, capF, rfl⟩ := hqf.slice
  go_wp2_with fail
  refine Calls.named ?_
  intro W10 hW10
  have hB10_ : Below w.heap.size w W10 := by rw [hW10]; exact (below_al hB9 _)
  have hw10_ : Laid W10 := by rw [hW10]; exact (hw9.alloc _)
  have M10_ := (M9).new' (w9.heap.size) (by rfl) (.cells #[.bool ef, .int .i64 ek, .int .i64 en, .string em, .string es, .string ei, .slice aoF eq'.length capF] 31)
  rw [← hW10] at M10_
  have hS10 : Below w9.heap.size w9 W10 := by rw [hW10]; exact (below_al (Below.refl _ _) _)
  have hv_ := QAt.below hv hS10
  have hqqO_ := QAt.below hqqO hS10
  have hqa_ := QAt.below hqa hS10
  have hqd_ := QAt.below hqd hS10
  have hqe_ := QAt.below hqe hS10
  have hqf_ := QAt.below hqf hS10
  clear hS10 hv hqqO hqa hqd hqe hqf
  clear hW10
  clear c9_0_0 c9_0_1 c9_0_2 c9_0_3 c9_0_4 c9_0_5 c9_0_6 z9_0 c9_1_0 c9_1_1 c9_1_2 c9_1_3 c9_1_4 z9_1 c9_2_0 c9_2_1 c9_2_2 c9_2_3 c9_2_4 c9_2_5 c9_2_6 z9_2 c9_3_0 c9_3_1 c9_3_2 c9_3_3 c9_3_4 c9_3_5 c9_3_6 z9_3 c9_4_0 c9_4_1 c9_4_2 c9_4_3 c9_4_4 c9_4_5 c9_4_6 z9_4 c9_5_0 c9_5_1 c9_5_2 c9_5_3 c9_5_4 z9_5 c9_6_0 c9_6_1 c9_6_2 c9_6_3 c9_6_4 c9_6_5 c9_6_6 z9_6 c9_7_0 c9_7_1 c9_7_2 c9_7_3 c9_7_4 c9_7_5 c9_7_6 z9_7 c9_8_0 c9_8_1 c9_8_2 c9_8_3 c9_8_4 z9_8 c9_9_0 c9_9_1 c9_9_2 c9_9_3 c9_9_4 c9_9_5 c9_9_6 z9_9
  refine (msame_any f k n m s i q _ f k n m s i q _ _ hv_ hqqO_ (by omega) (by omega)).mono ?_
  rw [same_refl]
  rintro e w10 ⟨rfl, hb10⟩
  have hv := QAt.below hv_ hb10
  have hqqO := QAt.below hqqO_ hb10
  have hqa := QAt.below hqa_ hb10
  have hqd := QAt.below hqd_ hb10
  have hqe := QAt.below hqe_ hb10
  have hqf := QAt.below hqf_ hb10
  clear hv_ hqqO_ hqa_ hqd_ hqe_ hqf_
  have hB10 := below_then hB10_ hb10
  have hw10 := hw10_.below hb10
  have M10 := M10_.below hb10
  clear M10_ hB10_ hb10 hw10_
  have c10_0_0 := Mem.cell (v := .bool ef) M10.1 0 rfl
  have c10_0_1 := Mem.cell (v := .int .i64 ek) M10.1 1 rfl
  have c10_0_2 := Mem.cell (v := .int .i64 en) M10.1 2 rfl
  have c10_0_3 := Mem.cell (v := .string em) M10.1 3 rfl
  have c10_0_4 := Mem.cell (v := .string es) M10.1 4 rfl
  have c10_0_5 := Mem.cell (v := .string ei) M10.1 5 rfl
  have c10_0_6 := Mem.cell (v := .slice aoF eq'.length capF) M10.1 6 rfl
  have z10_0 := Mem.lt M10.1
  have c10_1_0 := Mem.cell (v := .bool ef) M10.2.1 0 rfl
  have c10_1_1 := Mem.cell (v := .int .i64 ek) M10.2.1 1 rfl
  have c10_1_2 := Mem.cell (v := .int .i64 en) M10.2.1 2 rfl
  have c10_1_3 := Mem.cell (v := .string em) M10.2.1 3 rfl
  have c10_1_4 := Mem.cell (v := .string es) M10.2.1 4 rfl
  have c10_1_5 := Mem.cell (v := .string ei) M10.2.1 5 rfl
  have c10_1_6 := Mem.cell (v := .slice aoE eq'.length capE) M10.2.1 6 rfl
  have z10_1 := Mem.lt M10.2.1
  have c10_2_0 := Mem.cell (v := .int .i64 vk) M10.2.2.1 0 rfl
  have c10_2_1 := Mem.cell (v := .int .i64 vn) M10.2.2.1 1 rfl
  have c10_2_2 := Mem.cell (v := .string vm) M10.2.2.1 2 rfl
  have c10_2_3 := Mem.cell (v := .string vs) M10.2.2.1 3 rfl
  have c10_2_4 := Mem.cell (v := .string vi) M10.2.2.1 4 rfl
  have z10_2 := Mem.lt M10.2.2.1
  have c10_3_0 := Mem.cell (v := .bool af) M10.2.2.2.1 0 rfl
  have c10_3_1 := Mem.cell (v := .int .i64 ak) M10.2.2.2.1 1 rfl
  have c10_3_2 := Mem.cell (v := .int .i64 an) M10.2.2.2.1 2 rfl
  have c10_3_3 := Mem.cell (v := .string am) M10.2.2.2.1 3 rfl
  have c10_3_4 := Mem.cell (v := .string as') M10.2.2.2.1 4 rfl
  have c10_3_5 := Mem.cell (v := .string ai) M10.2.2.2.1 5 rfl
  have c10_3_6 := Mem.cell (v := .slice aoD aq.length capD) M10.2.2.2.1 6 rfl
  have z10_3 := Mem.lt M10.2.2.2.1
  have c10_4_0 := Mem.cell (v := .bool cf) M10.2.2.2.2.1 0 rfl
  have c10_4_1 := Mem.cell (v := .int .i64 ck) M10.2.2.2.2.1 1 rfl
  have c10_4_2 := Mem.cell (v := .int .i64 cn) M10.2.2.2.2.1 2 rfl
  have c10_4_3 := Mem.cell (v := .string cm) M10.2.2.2.2.1 3 rfl
  have c10_4_4 := Mem.cell (v := .string cs) M10.2.2.2.2.1 4 rfl
  have c10_4_5 := Mem.cell (v := .string ci) M10.2.2.2.2.1 5 rfl
  have c10_4_6 := Mem.cell (v := .slice aoC cq.length capC) M10.2.2.2.2.1 6 rfl
  have z10_4 := Mem.lt M10.2.2.2.2.1
  have c10_5_0 := Mem.cell (v := .bool bf) M10.2.2.2.2.2.1 0 rfl
  have c10_5_1 := Mem.cell (v := .int .i64 bk) M10.2.2.2.2.2.1 1 rfl
  have c10_5_2 := Mem.cell (v := .int .i64 bn) M10.2.2.2.2.2.1 2 rfl
  have c10_5_3 := Mem.cell (v := .string bm) M10.2.2.2.2.2.1 3 rfl
  have c10_5_4 := Mem.cell (v := .string bs) M10.2.2.2.2.2.1 4 rfl
  have c10_5_5 := Mem.cell (v := .string bi) M10.2.2.2.2.2.1 5 rfl
  have c10_5_6 := Mem.cell (v := .slice aoB bq.length capB) M10.2.2.2.2.2.1 6 rfl
  have z10_5 := Mem.lt M10.2.2.2.2.2.1
  have c10_6_0 := Mem.cell (v := .int .i64 vk) M10.2.2.2.2.2.2.1 0 rfl
  have c10_6_1 := Mem.cell (v := .int .i64 vn) M10.2.2.2.2.2.2.1 1 rfl
  have c10_6_2 := Mem.cell (v := .string vm) M10.2.2.2.2.2.2.1 2 rfl
  have c10_6_3 := Mem.cell (v := .string vs) M10.2.2.2.2.2.2.1 3 rfl
  have c10_6_4 := Mem.cell (v := .string vi) M10.2.2.2.2.2.2.1 4 rfl
  have z10_6 := Mem.lt M10.2.2.2.2.2.2.1
  have c10_7_0 := Mem.cell (v := .bool af) M10.2.2.2.2.2.2.2.1 0 rfl
  have c10_7_1 := Mem.cell (v := .int .i64 ak) M10.2.2.2.2.2.2.2.1 1 rfl
  have c10_7_2 := Mem.cell (v := .int .i64 an) M10.2.2.2.2.2.2.2.1 2 rfl
  have c10_7_3 := Mem.cell (v := .string am) M10.2.2.2.2.2.2.2.1 3 rfl
  have c10_7_4 := Mem.cell (v := .string as') M10.2.2.2.2.2.2.2.1 4 rfl
  have c10_7_5 := Mem.cell (v := .string ai) M10.2.2.2.2.2.2.2.1 5 rfl
  have c10_7_6 := Mem.cell (v := .slice aoA aq.length capA) M10.2.2.2.2.2.2.2.1 6 rfl
  have z10_7 := Mem.lt M10.2.2.2.2.2.2.2.1
  have c10_8_0 := Mem.cell (v := .bool f) M10.2.2.2.2.2.2.2.2.1 0 rfl
  have c10_8_1 := Mem.cell (v := .int .i64 k) M10.2.2.2.2.2.2.2.2.1 1 rfl
  have c10_8_2 := Mem.cell (v := .int .i64 n) M10.2.2.2.2.2.2.2.2.1 2 rfl
  have c10_8_3 := Mem.cell (v := .string m) M10.2.2.2.2.2.2.2.2.1 3 rfl
  have c10_8_4 := Mem.cell (v := .string s) M10.2.2.2.2.2.2.2.2.1 4 rfl
  have c10_8_5 := Mem.cell (v := .string i) M10.2.2.2.2.2.2.2.2.1 5 rfl
  have c10_8_6 := Mem.cell (v := .slice aoO q.length capO) M10.2.2.2.2.2.2.2.2.1 6 rfl
  have z10_8 := Mem.lt M10.2.2.2.2.2.2.2.2.1
  have c10_9_0 := Mem.cell (v := .int .i64 k2) M10.2.2.2.2.2.2.2.2.2.1 0 rfl
  have c10_9_1 := Mem.cell (v := .int .i64 n2) M10.2.2.2.2.2.2.2.2.2.1 1 rfl
  have c10_9_2 := Mem.cell (v := .string m2) M10.2.2.2.2.2.2.2.2.2.1 2 rfl
  have c10_9_3 := Mem.cell (v := .string s2) M10.2.2.2.2.2.2.2.2.2.1 3 rfl
  have c10_9_4 := Mem.cell (v := .string i2) M10.2.2.2.2.2.2.2.2.2.1 4 rfl
  have z10_9 := Mem.lt M10.2.2.2.2.2.2.2.2.2.1
  have c10_10_0 := Mem.cell (v := .bool f) M10.2.2.2.2.2.2.2.2.2.2.1 0 rfl
  have c10_10_1 := Mem.cell (v := .int .i64 k) M10.2.2.2.2.2.2.2.2.2.2.1 1 rfl
  have c10_10_2 := Mem.cell (v := .int .i64 n) M10.2.2.2.2.2.2.2.2.2.2.1 2 rfl
  have c10_10_3 := Mem.cell (v := .string m) M10.2.2.2.2.2.2.2.2.2.2.1 3 rfl
  have c10_10_4 := Mem.cell (v := .string s) M10.2.2.2.2.2.2.2.2.2.2.1 4 rfl
  have c10_10_5 := Mem.cell (v := .string i) M10.2.2.2.2.2.2.2.2.2.2.1 5 rfl
  have c10_10_6 := Mem.cell (v := .slice ao q.length cap) M10.2.2.2.2.2.2.2.2.2.2.1 6 rfl
  have z10_10 := Mem.lt M10.2.2.2.2.2.2.2.2.2.2.1
  go_wp2_with fail
  refine Calls.named ?_
  intro W11 hW11
  have hB11_ : Below w.heap.size w W11 := by rw [hW11]; exact hB10
  have hw11_ : Laid W11 := by rw [hW11]; exact hw10
  have M11_ := M10
  rw [← hW11] at M11_
  have hS11 : Below w10.heap.size w10 W11 := by rw [hW11]; exact (Below.refl _ _)
  have hv_ := QAt.below hv hS11
  have hqqO_ := QAt.below hqqO hS11
  have hqa_ := QAt.below hqa hS11
  have hqd_ := QAt.below hqd hS11
  have hqe_ := QAt.below hqe hS11
  have hqf_ := QAt.below hqf hS11
  clear hS11 hv hqqO hqa hqd hqe hqf
  clear hW11
  clear c10_0_0 c10_0_1 c10_0_2 c10_0_3 c10_0_4 c10_0_5 c10_0_6 z10_0 c10_1_0 c10_1_1 c10_1_2 c10_1_3 c10_1_4 c10_1_5 c10_1_6 z10_1 c10_2_0 c10_2_1 c10_2_2 c10_2_3 c10_2_4 z10_2 c10_3_0 c10_3_1 c10_3_2 c10_3_3 c10_3_4 c10_3_5 c10_3_6 z10_3 c10_4_0 c10_4_1 c10_4_2 c10_4_3 c10_4_4 c10_4_5 c10_4_6 z10_4 c10_5_0 c10_5_1 c10_5_2 c10_5_3 c10_5_4 c10_5_5 c10_5_6 z10_5 c10_6_0 c10_6_1 c10_6_2 c10_6_3 c10_6_4 z10_6 c10_7_0 c10_7_1 c10_7_2 c10_7_3 c10_7_4 c10_7_5 c10_7_6 z10_7 c10_8_0 c10_8_1 c10_8_2 c10_8_3 c10_8_4 c10_8_5 c10_8_6 z10_8 c10_9_0 c10_9_1 c10_9_2 c10_9_3 c10_9_4 z10_9 c10_10_0 c10_10_1 c10_10_2 c10_10_3 c10_10_4 c10_10_5 c10_10_6 z10_10
  refine (msame_any af ak an am as' ai aq _ af ak an am as' ai aq _ _ hqa_ hqd_ (by omega) (by omega)).mono ?_
  rw [same_refl]
  rintro e w11 ⟨rfl, hb11⟩
  have hv := QAt.below hv_ hb11
  have hqqO := QAt.below hqqO_ hb11
  have hqa := QAt.below hqa_ hb11
  have hqd := QAt.below hqd_ hb11
  have hqe := QAt.below hqe_ hb11
  have hqf := QAt.below hqf_ hb11
  clear hv_ hqqO_ hqa_ hqd_ hqe_ hqf_
  have hB11 := below_then hB11_ hb11
  have hw11 := hw11_.below hb11
  have M11 := M11_.below hb11
  clear M11_ hB11_ hb11 hw11_
  have c11_0_0 := Mem.cell (v := .bool ef) M11.1 0 rfl
  have c11_0_1 := Mem.cell (v := .int .i64 ek) M11.1 1 rfl
  have c11_0_2 := Mem.cell (v := .int .i64 en) M11.1 2 rfl
  have c11_0_3 := Mem.cell (v := .string em) M11.1 3 rfl
  have c11_0_4 := Mem.cell (v := .string es) M11.1 4 rfl
  have c11_0_5 := Mem.cell (v := .string ei) M11.1 5 rfl
  have c11_0_6 := Mem.cell (v := .slice aoF eq'.length capF) M11.1 6 rfl
  have z11_0 := Mem.lt M11.1
  have c11_1_0 := Mem.cell (v := .bool ef) M11.2.1 0 rfl
  have c11_1_1 := Mem.cell (v := .int .i64 ek) M11.2.1 1 rfl
  have c11_1_2 := Mem.cell (v := .int .i64 en) M11.2.1 2 rfl
  have c11_1_3 := Mem.cell (v := .string em) M11.2.1 3 rfl
  have c11_1_4 := Mem.cell (v := .string es) M11.2.1 4 rfl
  have c11_1_5 := Mem.cell (v := .string ei) M11.2.1 5 rfl
  have c11_1_6 := Mem.cell (v := .slice aoE eq'.length capE) M11.2.1 6 rfl
  have z11_1 := Mem.lt M11.2.1
  have c11_2_0 := Mem.cell (v := .int .i64 vk) M11.2.2.1 0 rfl
  have c11_2_1 := Mem.cell (v := .int .i64 vn) M11.2.2.1 1 rfl
  have c11_2_2 := Mem.cell (v := .string vm) M11.2.2.1 2 rfl
  have c11_2_3 := Mem.cell (v := .string vs) M11.2.2.1 3 rfl
  have c11_2_4 := Mem.cell (v := .string vi) M11.2.2.1 4 rfl
  have z11_2 := Mem.lt M11.2.2.1
  have c11_3_0 := Mem.cell (v := .bool af) M11.2.2.2.1 0 rfl
  have c11_3_1 := Mem.cell (v := .int .i64 ak) M11.2.2.2.1 1 rfl
  have c11_3_2 := Mem.cell (v := .int .i64 an) M11.2.2.2.1 2 rfl
  have c11_3_3 := Mem.cell (v := .string am) M11.2.2.2.1 3 rfl
  have c11_3_4 := Mem.cell (v := .string as') M11.2.2.2.1 4 rfl
  have c11_3_5 := Mem.cell (v := .string ai) M11.2.2.2.1 5 rfl
  have c11_3_6 := Mem.cell (v := .slice aoD aq.length capD) M11.2.2.2.1 6 rfl
  have z11_3 := Mem.lt M11.2.2.2.1
  have c11_4_0 := Mem.cell (v := .bool cf) M11.2.2.2.2.1 0 rfl
  have c11_4_1 := Mem.cell (v := .int .i64 ck) M11.2.2.2.2.1 1 rfl
  have c11_4_2 := Mem.cell (v := .int .i64 cn) M11.2.2.2.2.1 2 rfl
  have c11_4_3 := Mem.cell (v := .string cm) M11.2.2.2.2.1 3 rfl
  have c11_4_4 := Mem.cell (v := .string cs) M11.2.2.2.2.1 4 rfl
  have c11_4_5 := Mem.cell (v := .string ci) M11.2.2.2.2.1 5 rfl
  have c11_4_6 := Mem.cell (v := .slice aoC cq.length capC) M11.2.2.2.2.1 6 rfl
  have z11_4 := Mem.lt M11.2.2.2.2.1
  have c11_5_0 := Mem.cell (v := .bool bf) M11.2.2.2.2.2.1 0 rfl
  have c11_5_1 := Mem.cell (v := .int .i64 bk) M11.2.2.2.2.2.1 1 rfl
  have c11_5_2 := Mem.cell (v := .int .i64 bn) M11.2.2.2.2.2.1 2 rfl
  have c11_5_3 := Mem.cell (v := .string bm) M11.2.2.2.2.2.1 3 rfl
  have c11_5_4 := Mem.cell (v := .string bs) M11.2.2.2.2.2.1 4 rfl
  have c11_5_5 := Mem.cell (v := .string bi) M11.2.2.2.2.2.1 5 rfl
  have c11_5_6 := Mem.cell (v := .slice aoB bq.length capB) M11.2.2.2.2.2.1 6 rfl
  have z11_5 := Mem.lt M11.2.2.2.2.2.1
  have c11_6_0 := Mem.cell (v := .int .i64 vk) M11.2.2.2.2.2.2.1 0 rfl
  have c11_6_1 := Mem.cell (v := .int .i64 vn) M11.2.2.2.2.2.2.1 1 rfl
  have c11_6_2 := Mem.cell (v := .string vm) M11.2.2.2.2.2.2.1 2 rfl
  have c11_6_3 := Mem.cell (v := .string vs) M11.2.2.2.2.2.2.1 3 rfl
  have c11_6_4 := Mem.cell (v := .string vi) M11.2.2.2.2.2.2.1 4 rfl
  have z11_6 := Mem.lt M11.2.2.2.2.2.2.1
  have c11_7_0 := Mem.cell (v := .bool af) M11.2.2.2.2.2.2.2.1 0 rfl
  have c11_7_1 := Mem.cell (v := .int .i64 ak) M11.2.2.2.2.2.2.2.1 1 rfl
  have c11_7_2 := Mem.cell (v := .int .i64 an) M11.2.2.2.2.2.2.2.1 2 rfl
  have c11_7_3 := Mem.cell (v := .string am) M11.2.2.2.2.2.2.2.1 3 rfl
  have c11_7_4 := Mem.cell (v := .string as') M11.2.2.2.2.2.2.2.1 4 rfl
  have c11_7_5 := Mem.cell (v := .string ai) M11.2.2.2.2.2.2.2.1 5 rfl
  have c11_7_6 := Mem.cell (v := .slice aoA aq.length capA) M11.2.2.2.2.2.2.2.1 6 rfl
  have z11_7 := Mem.lt M11.2.2.2.2.2.2.2.1
  have c11_8_0 := Mem.cell (v := .bool f) M11.2.2.2.2.2.2.2.2.1 0 rfl
  have c11_8_1 := Mem.cell (v := .int .i64 k) M11.2.2.2.2.2.2.2.2.1 1 rfl
  have c11_8_2 := Mem.cell (v := .int .i64 n) M11.2.2.2.2.2.2.2.2.1 2 rfl
  have c11_8_3 := Mem.cell (v := .string m) M11.2.2.2.2.2.2.2.2.1 3 rfl
  have c11_8_4 := Mem.cell (v := .string s) M11.2.2.2.2.2.2.2.2.1 4 rfl
  have c11_8_5 := Mem.cell (v := .string i) M11.2.2.2.2.2.2.2.2.1 5 rfl
  have c11_8_6 := Mem.cell (v := .slice aoO q.length capO) M11.2.2.2.2.2.2.2.2.1 6 rfl
  have z11_8 := Mem.lt M11.2.2.2.2.2.2.2.2.1
  have c11_9_0 := Mem.cell (v := .int .i64 k2) M11.2.2.2.2.2.2.2.2.2.1 0 rfl
  have c11_9_1 := Mem.cell (v := .int .i64 n2) M11.2.2.2.2.2.2.2.2.2.1 1 rfl
  have c11_9_2 := Mem.cell (v := .string m2) M11.2.2.2.2.2.2.2.2.2.1 2 rfl
  have c11_9_3 := Mem.cell (v := .string s2) M11.2.2.2.2.2.2.2.2.2.1 3 rfl
  have c11_9_4 := Mem.cell (v := .string i2) M11.2.2.2.2.2.2.2.2.2.1 4 rfl
  have z11_9 := Mem.lt M11.2.2.2.2.2.2.2.2.2.1
  have c11_10_0 := Mem.cell (v := .bool f) M11.2.2.2.2.2.2.2.2.2.2.1 0 rfl
  have c11_10_1 := Mem.cell (v := .int .i64 k) M11.2.2.2.2.2.2.2.2.2.2.1 1 rfl
  have c11_10_2 := Mem.cell (v := .int .i64 n) M11.2.2.2.2.2.2.2.2.2.2.1 2 rfl
  have c11_10_3 := Mem.cell (v := .string m) M11.2.2.2.2.2.2.2.2.2.2.1 3 rfl
  have c11_10_4 := Mem.cell (v := .string s) M11.2.2.2.2.2.2.2.2.2.2.1 4 rfl
  have c11_10_5 := Mem.cell (v := .string i) M11.2.2.2.2.2.2.2.2.2.2.1 5 rfl
  have c11_10_6 := Mem.cell (v := .slice ao q.length cap) M11.2.2.2.2.2.2.2.2.2.2.1 6 rfl
  have z11_10 := Mem.lt M11.2.2.2.2.2.2.2.2.2.2.1
  go_wp2_with fail
  refine Calls.named ?_
  intro W12 hW12
  have hB12_ : Below w.heap.size w W12 := by rw [hW12]; exact hB11
  have hw12_ : Laid W12 := by rw [hW12]; exact hw11
  have M12_ := M11
  rw [← hW12] at M12_
  have hS12 : Below w11.heap.size w11 W12 := by rw [hW12]; exact (Below.refl _ _)
  have hv_ := QAt.below hv hS12
  have hqqO_ := QAt.below hqqO hS12
  have hqa_ := QAt.below hqa hS12
  have hqd_ := QAt.below hqd hS12
  have hqe_ := QAt.below hqe hS12
  have hqf_ := QAt.below hqf hS12
  clear hS12 hv hqqO hqa hqd hqe hqf
  clear hW12
  clear c11_0_0 c11_0_1 c11_0_2 c11_0_3 c11_0_4 c11_0_5 c11_0_6 z11_0 c11_1_0 c11_1_1 c11_1_2 c11_1_3 c11_1_4 c11_1_5 c11_1_6 z11_1 c11_2_0 c11_2_1 c11_2_2 c11_2_3 c11_2_4 z11_2 c11_3_0 c11_3_1 c11_3_2 c11_3_3 c11_3_4 c11_3_5 c11_3_6 z11_3 c11_4_0 c11_4_1 c11_4_2 c11_4_3 c11_4_4 c11_4_5 c11_4_6 z11_4 c11_5_0 c11_5_1 c11_5_2 c11_5_3 c11_5_4 c11_5_5 c11_5_6 z11_5 c11_6_0 c11_6_1 c11_6_2 c11_6_3 c11_6_4 z11_6 c11_7_0 c11_7_1 c11_7_2 c11_7_3 c11_7_4 c11_7_5 c11_7_6 z11_7 c11_8_0 c11_8_1 c11_8_2 c11_8_3 c11_8_4 c11_8_5 c11_8_6 z11_8 c11_9_0 c11_9_1 c11_9_2 c11_9_3 c11_9_4 z11_9 c11_10_0 c11_10_1 c11_10_2 c11_10_3 c11_10_4 c11_10_5 c11_10_6 z11_10
  refine (msame_any ef ek en em es ei eq' _ ef ek en em es ei eq' _ _ hqe_ hqf_ (by omega) (by omega)).mono ?_
  rw [same_refl]
  rintro e w12 ⟨rfl, hb12⟩
  have hv := QAt.below hv_ hb12
  have hqqO := QAt.below hqqO_ hb12
  have hqa := QAt.below hqa_ hb12
  have hqd := QAt.below hqd_ hb12
  have hqe := QAt.below hqe_ hb12
  have hqf := QAt.below hqf_ hb12
  clear hv_ hqqO_ hqa_ hqd_ hqe_ hqf_
  have hB12 := below_then hB12_ hb12
  have hw12 := hw12_.below hb12
  have M12 := M12_.below hb12
  clear M12_ hB12_ hb12 hw12_
  have c12_0_0 := Mem.cell (v := .bool ef) M12.1 0 rfl
  have c12_0_1 := Mem.cell (v := .int .i64 ek) M12.1 1 rfl
  have c12_0_2 := Mem.cell (v := .int .i64 en) M12.1 2 rfl
  have c12_0_3 := Mem.cell (v := .string em) M12.1 3 rfl
  have c12_0_4 := Mem.cell (v := .string es) M12.1 4 rfl
  have c12_0_5 := Mem.cell (v := .string ei) M12.1 5 rfl
  have c12_0_6 := Mem.cell (v := .slice aoF eq'.length capF) M12.1 6 rfl
  have z12_0 := Mem.lt M12.1
  have c12_1_0 := Mem.cell (v := .bool ef) M12.2.1 0 rfl
  have c12_1_1 := Mem.cell (v := .int .i64 ek) M12.2.1 1 rfl
  have c12_1_2 := Mem.cell (v := .int .i64 en) M12.2.1 2 rfl
  have c12_1_3 := Mem.cell (v := .string em) M12.2.1 3 rfl
  have c12_1_4 := Mem.cell (v := .string es) M12.2.1 4 rfl
  have c12_1_5 := Mem.cell (v := .string ei) M12.2.1 5 rfl
  have c12_1_6 := Mem.cell (v := .slice aoE eq'.length capE) M12.2.1 6 rfl
  have z12_1 := Mem.lt M12.2.1
  have c12_2_0 := Mem.cell (v := .int .i64 vk) M12.2.2.1 0 rfl
  have c12_2_1 := Mem.cell (v := .int .i64 vn) M12.2.2.1 1 rfl
  have c12_2_2 := Mem.cell (v := .string vm) M12.2.2.1 2 rfl
  have c12_2_3 := Mem.cell (v := .string vs) M12.2.2.1 3 rfl
  have c12_2_4 := Mem.cell (v := .string vi) M12.2.2.1 4 rfl
  have z12_2 := Mem.lt M12.2.2.1
  have c12_3_0 := Mem.cell (v := .bool af) M12.2.2.2.1 0 rfl
  have c12_3_1 := Mem.cell (v := .int .i64 ak) M12.2.2.2.1 1 rfl
  have c12_3_2 := Mem.cell (v := .int .i64 an) M12.2.2.2.1 2 rfl
  have c12_3_3 := Mem.cell (v := .string am) M12.2.2.2.1 3 rfl
  have c12_3_4 := Mem.cell (v := .string as') M12.2.2.2.1 4 rfl
  have c12_3_5 := Mem.cell (v := .string ai) M12.2.2.2.1 5 rfl
  have c12_3_6 := Mem.cell (v := .slice aoD aq.length capD) M12.2.2.2.1 6 rfl
  have z12_3 := Mem.lt M12.2.2.2.1
  have c12_4_0 := Mem.cell (v := .bool cf) M12.2.2.2.2.1 0 rfl
  have c12_4_1 := Mem.cell (v := .int .i64 ck) M12.2.2.2.2.1 1 rfl
  have c12_4_2 := Mem.cell (v := .int .i64 cn) M12.2.2.2.2.1 2 rfl
  have c12_4_3 := Mem.cell (v := .string cm) M12.2.2.2.2.1 3 rfl
  have c12_4_4 := Mem.cell (v := .string cs) M12.2.2.2.2.1 4 rfl
  have c12_4_5 := Mem.cell (v := .string ci) M12.2.2.2.2.1 5 rfl
  have c12_4_6 := Mem.cell (v := .slice aoC cq.length capC) M12.2.2.2.2.1 6 rfl
  have z12_4 := Mem.lt M12.2.2.2.2.1
  have c12_5_0 := Mem.cell (v := .bool bf) M12.2.2.2.2.2.1 0 rfl
  have c12_5_1 := Mem.cell (v := .int .i64 bk) M12.2.2.2.2.2.1 1 rfl
  have c12_5_2 := Mem.cell (v := .int .i64 bn) M12.2.2.2.2.2.1 2 rfl
  have c12_5_3 := Mem.cell (v := .string bm) M12.2.2.2.2.2.1 3 rfl
  have c12_5_4 := Mem.cell (v := .string bs) M12.2.2.2.2.2.1 4 rfl
  have c12_5_5 := Mem.cell (v := .string bi) M12.2.2.2.2.2.1 5 rfl
  have c12_5_6 := Mem.cell (v := .slice aoB bq.length capB) M12.2.2.2.2.2.1 6 rfl
  have z12_5 := Mem.lt M12.2.2.2.2.2.1
  have c12_6_0 := Mem.cell (v := .int .i64 vk) M12.2.2.2.2.2.2.1 0 rfl
  have c12_6_1 := Mem.cell (v := .int .i64 vn) M12.2.2.2.2.2.2.1 1 rfl
  have c12_6_2 := Mem.cell (v := .string vm) M12.2.2.2.2.2.2.1 2 rfl
  have c12_6_3 := Mem.cell (v := .string vs) M12.2.2.2.2.2.2.1 3 rfl
  have c12_6_4 := Mem.cell (v := .string vi) M12.2.2.2.2.2.2.1 4 rfl
  have z12_6 := Mem.lt M12.2.2.2.2.2.2.1
  have c12_7_0 := Mem.cell (v := .bool af) M12.2.2.2.2.2.2.2.1 0 rfl
  have c12_7_1 := Mem.cell (v := .int .i64 ak) M12.2.2.2.2.2.2.2.1 1 rfl
  have c12_7_2 := Mem.cell (v := .int .i64 an) M12.2.2.2.2.2.2.2.1 2 rfl
  have c12_7_3 := Mem.cell (v := .string am) M12.2.2.2.2.2.2.2.1 3 rfl
  have c12_7_4 := Mem.cell (v := .string as') M12.2.2.2.2.2.2.2.1 4 rfl
  have c12_7_5 := Mem.cell (v := .string ai) M12.2.2.2.2.2.2.2.1 5 rfl
  have c12_7_6 := Mem.cell (v := .slice aoA aq.length capA) M12.2.2.2.2.2.2.2.1 6 rfl
  have z12_7 := Mem.lt M12.2.2.2.2.2.2.2.1
  have c12_8_0 := Mem.cell (v := .bool f) M12.2.2.2.2.2.2.2.2.1 0 rfl
  have c12_8_1 := Mem.cell (v := .int .i64 k) M12.2.2.2.2.2.2.2.2.1 1 rfl
  have c12_8_2 := Mem.cell (v := .int .i64 n) M12.2.2.2.2.2.2.2.2.1 2 rfl
  have c12_8_3 := Mem.cell (v := .string m) M12.2.2.2.2.2.2.2.2.1 3 rfl
  have c12_8_4 := Mem.cell (v := .string s) M12.2.2.2.2.2.2.2.2.1 4 rfl
  have c12_8_5 := Mem.cell (v := .string i) M12.2.2.2.2.2.2.2.2.1 5 rfl
  have c12_8_6 := Mem.cell (v := .slice aoO q.length capO) M12.2.2.2.2.2.2.2.2.1 6 rfl
  have z12_8 := Mem.lt M12.2.2.2.2.2.2.2.2.1
  have c12_9_0 := Mem.cell (v := .int .i64 k2) M12.2.2.2.2.2.2.2.2.2.1 0 rfl
  have c12_9_1 := Mem.cell (v := .int .i64 n2) M12.2.2.2.2.2.2.2.2.2.1 1 rfl
  have c12_9_2 := Mem.cell (v := .string m2) M12.2.2.2.2.2.2.2.2.2.1 2 rfl
  have c12_9_3 := Mem.cell (v := .string s2) M12.2.2.2.2.2.2.2.2.2.1 3 rfl
  have c12_9_4 := Mem.cell (v := .string i2) M12.2.2.2.2.2.2.2.2.2.1 4 rfl
  have z12_9 := Mem.lt M12.2.2.2.2.2.2.2.2.2.1
  have c12_10_0 := Mem.cell (v := .bool f) M12.2.2.2.2.2.2.2.2.2.2.1 0 rfl
  have c12_10_1 := Mem.cell (v := .int .i64 k) M12.2.2.2.2.2.2.2.2.2.2.1 1 rfl
  have c12_10_2 := Mem.cell (v := .int .i64 n) M12.2.2.2.2.2.2.2.2.2.2.1 2 rfl
  have c12_10_3 := Mem.cell (v := .string m) M12.2.2.2.2.2.2.2.2.2.2.1 3 rfl
  have c12_10_4 := Mem.cell (v := .string s) M12.2.2.2.2.2.2.2.2.2.2.1 4 rfl
  have c12_10_5 := Mem.cell (v := .string i) M12.2.2.2.2.2.2.2.2.2.2.1 5 rfl
  have c12_10_6 := Mem.cell (v := .slice ao q.length cap) M12.2.2.2.2.2.2.2.2.2.2.1 6 rfl
  have z12_10 := Mem.lt M12.2.2.2.2.2.2.2.2.2.2.1
  go_wp2_with fail
  go_ret
  exact ⟨rfl, hB12⟩
end Go.Proofs.YtdpmilffadalkaaDoor
