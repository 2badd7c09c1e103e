/- thread.Enter: the good way. -/
import Derived.Test.YtnmepcogijgbjaaGreatDoorZE
import Derived.Test.YtnmepcogijgbjaaGreatDoorThE
namespace Go.Proofs.YtnmepcogijgbjaaGreatDoor
open Go.RowKit
theorem rows_one {w : World} {b : Nat} {xs : List Value} {t : TypeId} (h : w.heap[b]? = some (.cells xs.toArray t)) : RowsIn w (some ⟨b, 0, none⟩) xs := by
  intro b' hb
  obtain rfl : (⟨b, 0, none⟩ : Addr) = b' := by simpa using hb
  refine ⟨(Array.getElem?_eq_some_iff.1 h).1, fun j u hj => ?_⟩
  have ha : (⟨b, 0, none⟩ : Addr).add j = ⟨b, j, none⟩ := by unfold Addr.add; split <;> simp_all
  rw [ha]
  simp only [World.cell?, h]
  simpa using hj
theorem hid_then {w w1 w2 : World} (h : Hid (Below w.heap.size w w1)) (g : Below w1.heap.size w1 w2) : Hid (Below w.heap.size w w2) := Lib.hid (below_then h.out g)
theorem hid_own {w w' : World} {B k : Nat} {e : TypeId} {n : Nat} {v : Value} {xs : List Value} (h : Hid (w.ownsRow B e k v n xs)) (hb : Below w.heap.size w w') : Hid (w'.ownsRow B e k v n xs) := Lib.hid (ownsRow_keep h.out hb)
theorem fold_sc (s : Sc) : (Array.foldl (fun cs x => cs.setIfInBounds x.snd x.fst) #[Value.string { data := #[] }, Value.string { data := #[] }, Value.string { data := #[] },
            Value.int IntKind.i64 0, Value.int IntKind.i64 0, Value.int IntKind.i64 0, Value.int IntKind.i64 0,
            Value.string { data := #[] }, Value.string { data := #[] }, Value.string { data := #[] },
            Value.string { data := #[] }, Value.string { data := #[] }, Value.int IntKind.i64 0,
            Value.int IntKind.i64 0] (sc s).zipIdx 0 14) = sc s := by
  kernel_rfl
theorem info_Scope : (Tryz.prog.info? 56).map (fun i => (i.zero, i.size, i.bytes)) = some (some (.agg #[.string ⟨#[]⟩, .string ⟨#[]⟩, .string ⟨#[]⟩, .int .i64 0, .int .i64 0, .int .i64 0, .int .i64 0, .string ⟨#[]⟩, .string ⟨#[]⟩, .string ⟨#[]⟩, .string ⟨#[]⟩, .string ⟨#[]⟩, .int .i64 0, .int .i64 0]), 14, 176) := by kernel_rfl
theorem one_scL (s : Sc) : ∀ u ∈ scL s, u.oneCell' = true := by
  have h := one_sc s
  rw [Array.all_eq_true_iff_forall_mem] at h
  exact fun u hu => h u (by simpa [sc] using hu)
theorem ScAt.holds {w : World} {v : Sl} {l : List Sc} (h : ScAt w v l) : ∀ b, v.a = some b → ∀ j u, (l.map scL).flatten[j]? = some u → w.cell? (b.add j) = some u := by
  intro b hb j u hj
  rcases h.2 with ⟨_, h0⟩ | ⟨g, off, cap, hv, hc, hlt, hg⟩
  · rw [h0] at hj; simp at hj
  · obtain ⟨e1, e2, e3⟩ := Value.slice.inj hv
    rw [hb] at e1
    cases e1
    have ha : (⟨g, off, none⟩ : Addr).add j = ⟨g, off + j, none⟩ := by unfold Addr.add; split <;> simp_all
    rw [ha]
    exact hg j u hj
theorem anyH_named {P : Program} {md : Region.Mode} {ops : Array Oper} {Q : Exit → Act → World → Prop} {S : World → Prop} {n : Nat} {l : Array Bool} {a : Act} {w : World} (h : ∀ W, W = w → wpAnyH P md ops Q S n l a W) : wpAnyH P md ops Q S n l a w := h w rfl
def scNew (mn nS nI : ByteArray) (tot : Int) (t : Th) (rm : Int) : Sc := ⟨mn, nS, nI, tot, t.fr.n, t.sk.n, t.tr.n, t.cS, t.cI, t.kS, t.kI, t.pa, t.md + 1, t.rm - 1 - rm⟩
set_option maxRecDepth 100000 in
set_option maxHeartbeats 2000000 in
theorem enter_good (t : Th) (l : List Sc) (hl9 : l.length ≤ 1000) (hscc : t.sc.n ≤ t.sc.c) (_ : t.sc.c ≤ maxLen) (hsc0 : t.sc.a = none → t.sc.n = 0 ∧ t.sc.c = 0)
    (xf : List Value) (hfl : xf.length = t.fr.n * 5) (hfn : t.fr.n ≤ t.fr.c) (hfc : t.fr.c ≤ maxLen) (hf16 : t.fr.n < 16) (hf0 : t.fr.a = none → t.fr.n = 0) (hsk9 : t.sk.n ≤ 1000000)
    (fu : Int) (q : Nat) (hq : q ≤ 16) (ak ax mk tk rm nw : Int) (am aS aI lS lI nS nI : ByteArray) (htk : 1 ≤ tk) (htk2 : tk ≤ 1000) (hrm : 0 ≤ rm) (hrm2 : rm ≤ 999) (htr : rm < t.rm) (htr2 : t.rm ≤ 1000) (mn : ByteArray)
    (tot : Int) (htot : IntKind.i64.wrap (nw + tk) = tot) (w : World) (hS : ScAt w t.sc l) (hF : RowsIn w t.fr.a xf)
    (XWR : ∀ W, Below w.heap.size w W → Calls Tryz.prog 27 #[.agg #[.string t.cS, .string t.cI, .string t.kS, .string t.kI], .agg #[.string lS, .string lI]] W fun e w' => e = .returned (.int .i64 0) ∧ Below W.heap.size W w')
    (HNM : ∀ W, Below w.heap.size w W → Calls Tryz.prog 19 #[.agg (th t)] W fun e w' => e = .returned (.tuple #[.agg (th { t with md := t.md + 1, rm := t.rm - 1 }), .string mn, .bool true]) ∧ Below W.heap.size W w')
    (HNO : ∀ W, Below w.heap.size w W → Calls Tryz.prog 14 #[.agg #[.string lS, .string lI]] W fun e w' => e = .returned (.agg #[.string nS, .string nI]) ∧ Below W.heap.size W w') :
    Calls Tryz.prog 9 #[.agg (th t), .int .i64 fu, .int .i64 (q : Int), .agg #[.int .i64 ak, .int .i64 ax, .string am, .string aS, .string aI], .int .u8 mk, .agg #[.string lS, .string lI], .int .i64 tk, .int .i64 rm, .int .i64 nw] w fun e w' => ∃ fo fc va vc so soc, e = .returned (.tuple #[.agg (th { t with fr := ⟨fo, t.fr.n + 1, fc⟩, sc := ⟨so, t.sc.n + 1, soc⟩, kS := nS, kI := nI, pa := mn, md := 0, rm := rm }), .int .i64 0]) ∧
      w'.ownsRow w.heap.size 104 5 (.slice fo (t.fr.n + 1) fc) (t.fr.n + 1) (xf ++ [.int .i64 fu, .int .i64 0, .int .i64 t.sk.n, .int .u8 mk, .slice va (1 + q) vc]) ∧
      w'.ownsRow w.heap.size 56 14 (.slice so (t.sc.n + 1) soc) (t.sc.n + 1) ((l.map scL).flatten ++ scL (scNew mn nS nI tot t rm)) ∧ Below w.heap.size w w' := by
  have XRI := Lib.hid XWR
  have HN := Lib.hid HNM
  have HL := Lib.hid HNO
  have HRF := Lib.hid fun (W : World) (hb : Below w.heap.size w W) => RowsIn.below hF hb
  have HSC := Lib.hid fun (W : World) (hb : Below w.heap.size w W) => hS.below hb
  clear XWR HNM HNO hF
  obtain ⟨i0, hi, hz0, hz1, hz2⟩ := info_parts info_Scope
  have HLE := Lib.hid hS.len
  have HLN := Lib.hid (show (l.map scL).flatten.length = t.sc.n * 14 by rw [(wide_sc l).len, List.length_map, hS.len])
  have htm : IntKind.i64.wrap (t.rm - 1 - rm) = t.rm - 1 - rm := IntWalk.i64_in _ ⟨by omega, by omega⟩
  clear hS
  go_enter Tryz.func9, Tryz.ntmps9
  have hB0 := Below.refl w.heap.size w
  have M0 := Mem.nil w
  go_upto_region 1 with (fail)
  refine wp_named ?_
  intro w1 hW1
  have hB1 : Below w.heap.size w w1 := by rw [hW1]; exact (below_al (below_al (below_al (below_al hB0 _) _) _) _)
  have M1 : Mem w1 [(w.heap.size + 1 + 1 + 1, .cells (th (th0)) 39), (w.heap.size + 1 + 1, .cells #[.string lS, .string lI] 24), (w.heap.size + 1, .cells #[.int .i64 ak, .int .i64 ax, .string am, .string aS, .string aI] 28), (w.heap.size, .cells (th (t)) 39)] := by rw [hW1]; exact ((((M0).new' (w.heap.size) (by rfl) (.cells (th (t)) 39)).new' (w.heap.size + 1) (by simp) (.cells #[.int .i64 ak, .int .i64 ax, .string am, .string aS, .string aI] 28)).new' (w.heap.size + 1 + 1) (by simp) (.cells #[.string lS, .string lI] 24)).new' (w.heap.size + 1 + 1 + 1) (by simp) (.cells (th (th0)) 39)
  clear hW1
  have z1_0 := Mem.lt M1.1
  have c1_1_0 := Mem.cell (v := .string lS) M1.2.1 0 rfl
  have c1_1_1 := Mem.cell (v := .string lI) M1.2.1 1 rfl
  have z1_1 := Mem.lt M1.2.1
  have c1_2_0 := Mem.cell (v := .int .i64 ak) M1.2.2.1 0 rfl
  have c1_2_1 := Mem.cell (v := .int .i64 ax) M1.2.2.1 1 rfl
  have c1_2_2 := Mem.cell (v := .string am) M1.2.2.1 2 rfl
  have c1_2_3 := Mem.cell (v := .string aS) M1.2.2.1 3 rfl
  have c1_2_4 := Mem.cell (v := .string aI) M1.2.2.1 4 rfl
  have z1_2 := Mem.lt M1.2.2.1
  have c1_3_0 := Mem.cell (v := .string t.id) M1.2.2.2.1 0 rfl
  have c1_3_1 := Mem.cell (v := .string t.pa) M1.2.2.2.1 1 rfl
  have c1_3_2 := Mem.cell (v := .string t.cS) M1.2.2.2.1 2 rfl
  have c1_3_3 := Mem.cell (v := .string t.cI) M1.2.2.2.1 3 rfl
  have c1_3_4 := Mem.cell (v := .string t.kS) M1.2.2.2.1 4 rfl
  have c1_3_5 := Mem.cell (v := .string t.kI) M1.2.2.2.1 5 rfl
  have c1_3_6 := Mem.cell (v := .slice t.fr.a t.fr.n t.fr.c) M1.2.2.2.1 6 rfl
  have c1_3_7 := Mem.cell (v := .slice t.sk.a t.sk.n t.sk.c) M1.2.2.2.1 7 rfl
  have c1_3_8 := Mem.cell (v := .slice t.tr.a t.tr.n t.tr.c) M1.2.2.2.1 8 rfl
  have c1_3_9 := Mem.cell (v := .slice t.sc.a t.sc.n t.sc.c) M1.2.2.2.1 9 rfl
  have c1_3_10 := Mem.cell (v := .int .i64 t.md) M1.2.2.2.1 10 rfl
  have c1_3_11 := Mem.cell (v := .int .i64 t.rm) M1.2.2.2.1 11 rfl
  have c1_3_12 := Mem.cell (v := .int .i64 t.st) M1.2.2.2.1 12 rfl
  have c1_3_13 := Mem.cell (v := .string t.on) M1.2.2.2.1 13 rfl
  have c1_3_14 := Mem.cell (v := .int .i64 t.vk) M1.2.2.2.1 14 rfl
  have c1_3_15 := Mem.cell (v := .int .i64 t.vx) M1.2.2.2.1 15 rfl
  have c1_3_16 := Mem.cell (v := .string t.vm) M1.2.2.2.1 16 rfl
  have c1_3_17 := Mem.cell (v := .string t.vS) M1.2.2.2.1 17 rfl
  have c1_3_18 := Mem.cell (v := .string t.vI) M1.2.2.2.1 18 rfl
  have c1_3_19 := Mem.cell (v := .bool t.ex) M1.2.2.2.1 19 rfl
  have z1_3 := Mem.lt M1.2.2.2.1
  go_upto_region 5 with (fail)
  go_wp2_with fail
  refine Calls.named ?_
  intro W2 hW2
  have hB2_ : Below w.heap.size w W2 := by rw [hW2]; exact hB1
  have M2_ := M1
  rw [← hW2] at M2_
  clear hW2
  have ZZ2_0 := Lib.hid (Mem.lt M2_.1)
  have ZZ2_1 := Lib.hid (Mem.lt M2_.2.1)
  have ZZ2_2 := Lib.hid (Mem.lt M2_.2.2.1)
  have ZZ2_3 := Lib.hid (Mem.lt M2_.2.2.2.1)
  clear z1_0 c1_1_0 c1_1_1 z1_1 c1_2_0 c1_2_1 c1_2_2 c1_2_3 c1_2_4 z1_2 c1_3_0 c1_3_1 c1_3_2 c1_3_3 c1_3_4 c1_3_5 c1_3_6 c1_3_7 c1_3_8 c1_3_9 c1_3_10 c1_3_11 c1_3_12 c1_3_13 c1_3_14 c1_3_15 c1_3_16 c1_3_17 c1_3_18 c1_3_19 z1_3
  refine (XRI.out _ hB2_).mono ?_
  rintro e w2 ⟨rfl, hb2⟩
  have hB2 := below_then hB2_ hb2
  have M2 := M2_.below hb2
  clear M2_ hB2_ hb2
  have z2_0 := Mem.lt M2.1
  have c2_1_0 := Mem.cell (v := .string lS) M2.2.1 0 rfl
  have c2_1_1 := Mem.cell (v := .string lI) M2.2.1 1 rfl
  have z2_1 := Mem.lt M2.2.1
  have c2_2_0 := Mem.cell (v := .int .i64 ak) M2.2.2.1 0 rfl
  have c2_2_1 := Mem.cell (v := .int .i64 ax) M2.2.2.1 1 rfl
  have c2_2_2 := Mem.cell (v := .string am) M2.2.2.1 2 rfl
  have c2_2_3 := Mem.cell (v := .string aS) M2.2.2.1 3 rfl
  have c2_2_4 := Mem.cell (v := .string aI) M2.2.2.1 4 rfl
  have z2_2 := Mem.lt M2.2.2.1
  have c2_3_0 := Mem.cell (v := .string t.id) M2.2.2.2.1 0 rfl
  have c2_3_1 := Mem.cell (v := .string t.pa) M2.2.2.2.1 1 rfl
  have c2_3_2 := Mem.cell (v := .string t.cS) M2.2.2.2.1 2 rfl
  have c2_3_3 := Mem.cell (v := .string t.cI) M2.2.2.2.1 3 rfl
  have c2_3_4 := Mem.cell (v := .string t.kS) M2.2.2.2.1 4 rfl
  have c2_3_5 := Mem.cell (v := .string t.kI) M2.2.2.2.1 5 rfl
  have c2_3_6 := Mem.cell (v := .slice t.fr.a t.fr.n t.fr.c) M2.2.2.2.1 6 rfl
  have c2_3_7 := Mem.cell (v := .slice t.sk.a t.sk.n t.sk.c) M2.2.2.2.1 7 rfl
  have c2_3_8 := Mem.cell (v := .slice t.tr.a t.tr.n t.tr.c) M2.2.2.2.1 8 rfl
  have c2_3_9 := Mem.cell (v := .slice t.sc.a t.sc.n t.sc.c) M2.2.2.2.1 9 rfl
  have c2_3_10 := Mem.cell (v := .int .i64 t.md) M2.2.2.2.1 10 rfl
  have c2_3_11 := Mem.cell (v := .int .i64 t.rm) M2.2.2.2.1 11 rfl
  have c2_3_12 := Mem.cell (v := .int .i64 t.st) M2.2.2.2.1 12 rfl
  have c2_3_13 := Mem.cell (v := .string t.on) M2.2.2.2.1 13 rfl
  have c2_3_14 := Mem.cell (v := .int .i64 t.vk) M2.2.2.2.1 14 rfl
  have c2_3_15 := Mem.cell (v := .int .i64 t.vx) M2.2.2.2.1 15 rfl
  have c2_3_16 := Mem.cell (v := .string t.vm) M2.2.2.2.1 16 rfl
  have c2_3_17 := Mem.cell (v := .string t.vS) M2.2.2.2.1 17 rfl
  have c2_3_18 := Mem.cell (v := .string t.vI) M2.2.2.2.1 18 rfl
  have c2_3_19 := Mem.cell (v := .bool t.ex) M2.2.2.2.1 19 rfl
  have z2_3 := Mem.lt M2.2.2.2.1
  go_upto_region 8 with (fail)
  refine wp_region_lit ?_
  refine load_th rfl _ rfl (w.heap.size) rfl (t) M2.2.2.2.1 ?_
  go_wp2_with fail
  refine Calls.named ?_
  intro W3 hW3
  have hB3_ : Below w.heap.size w W3 := by rw [hW3]; exact hB2
  have M3_ := M2
  rw [← hW3] at M3_
  clear hW3
  have ZZ3_0 := Lib.hid (Mem.lt M3_.1)
  have ZZ3_1 := Lib.hid (Mem.lt M3_.2.1)
  have ZZ3_2 := Lib.hid (Mem.lt M3_.2.2.1)
  have ZZ3_3 := Lib.hid (Mem.lt M3_.2.2.2.1)
  clear z2_0 c2_1_0 c2_1_1 z2_1 c2_2_0 c2_2_1 c2_2_2 c2_2_3 c2_2_4 z2_2 c2_3_0 c2_3_1 c2_3_2 c2_3_3 c2_3_4 c2_3_5 c2_3_6 c2_3_7 c2_3_8 c2_3_9 c2_3_10 c2_3_11 c2_3_12 c2_3_13 c2_3_14 c2_3_15 c2_3_16 c2_3_17 c2_3_18 c2_3_19 z2_3
  refine (HN.out _ hB3_).mono ?_
  rintro e w3 ⟨rfl, hb3⟩
  have hB3 := below_then hB3_ hb3
  have M3 := M3_.below hb3
  clear M3_ hB3_ hb3
  have z3_0 := Mem.lt M3.1
  have c3_1_0 := Mem.cell (v := .string lS) M3.2.1 0 rfl
  have c3_1_1 := Mem.cell (v := .string lI) M3.2.1 1 rfl
  have z3_1 := Mem.lt M3.2.1
  have c3_2_0 := Mem.cell (v := .int .i64 ak) M3.2.2.1 0 rfl
  have c3_2_1 := Mem.cell (v := .int .i64 ax) M3.2.2.1 1 rfl
  have c3_2_2 := Mem.cell (v := .string am) M3.2.2.1 2 rfl
  have c3_2_3 := Mem.cell (v := .string aS) M3.2.2.1 3 rfl
  have c3_2_4 := Mem.cell (v := .string aI) M3.2.2.1 4 rfl
  have z3_2 := Mem.lt M3.2.2.1
  have c3_3_0 := Mem.cell (v := .string t.id) M3.2.2.2.1 0 rfl
  have c3_3_1 := Mem.cell (v := .string t.pa) M3.2.2.2.1 1 rfl
  have c3_3_2 := Mem.cell (v := .string t.cS) M3.2.2.2.1 2 rfl
  have c3_3_3 := Mem.cell (v := .string t.cI) M3.2.2.2.1 3 rfl
  have c3_3_4 := Mem.cell (v := .string t.kS) M3.2.2.2.1 4 rfl
  have c3_3_5 := Mem.cell (v := .string t.kI) M3.2.2.2.1 5 rfl
  have c3_3_6 := Mem.cell (v := .slice t.fr.a t.fr.n t.fr.c) M3.2.2.2.1 6 rfl
  have c3_3_7 := Mem.cell (v := .slice t.sk.a t.sk.n t.sk.c) M3.2.2.2.1 7 rfl
  have c3_3_8 := Mem.cell (v := .slice t.tr.a t.tr.n t.tr.c) M3.2.2.2.1 8 rfl
  have c3_3_9 := Mem.cell (v := .slice t.sc.a t.sc.n t.sc.c) M3.2.2.2.1 9 rfl
  have c3_3_10 := Mem.cell (v := .int .i64 t.md) M3.2.2.2.1 10 rfl
  have c3_3_11 := Mem.cell (v := .int .i64 t.rm) M3.2.2.2.1 11 rfl
  have c3_3_12 := Mem.cell (v := .int .i64 t.st) M3.2.2.2.1 12 rfl
  have c3_3_13 := Mem.cell (v := .string t.on) M3.2.2.2.1 13 rfl
  have c3_3_14 := Mem.cell (v := .int .i64 t.vk) M3.2.2.2.1 14 rfl
  have c3_3_15 := Mem.cell (v := .int .i64 t.vx) M3.2.2.2.1 15 rfl
  have c3_3_16 := Mem.cell (v := .string t.vm) M3.2.2.2.1 16 rfl
  have c3_3_17 := Mem.cell (v := .string t.vS) M3.2.2.2.1 17 rfl
  have c3_3_18 := Mem.cell (v := .string t.vI) M3.2.2.2.1 18 rfl
  have c3_3_19 := Mem.cell (v := .bool t.ex) M3.2.2.2.1 19 rfl
  have z3_3 := Mem.lt M3.2.2.2.1
  simp only
  iterate 16 go_step
  have yS : w.heap.size + 1 + 1 + 1 < w3.heap.size := z3_0
  refine wpl_named ?_
  intro w4 hW4
  have hB4 : Below w.heap.size w w4 := by rw [hW4]; exact (below_al hB3 _)
  have M4 : Mem w4 [(w3.heap.size, .cells (th (th0)) 39), (w.heap.size + 1 + 1 + 1, .cells (th (th0)) 39), (w.heap.size + 1 + 1, .cells #[.string lS, .string lI] 24), (w.heap.size + 1, .cells #[.int .i64 ak, .int .i64 ax, .string am, .string aS, .string aI] 28), (w.heap.size, .cells (th (t)) 39)] := by rw [hW4]; exact (M3).new' (w3.heap.size) (by rfl) (.cells (th (th0)) 39)
  clear z3_0 c3_1_0 c3_1_1 z3_1 c3_2_0 c3_2_1 c3_2_2 c3_2_3 c3_2_4 z3_2 c3_3_0 c3_3_1 c3_3_2 c3_3_3 c3_3_4 c3_3_5 c3_3_6 c3_3_7 c3_3_8 c3_3_9 c3_3_10 c3_3_11 c3_3_12 c3_3_13 c3_3_14 c3_3_15 c3_3_16 c3_3_17 c3_3_18 c3_3_19 z3_3
  clear hW4
  have z4_0 := Mem.lt M4.1
  have z4_1 := Mem.lt M4.2.1
  have c4_2_0 := Mem.cell (v := .string lS) M4.2.2.1 0 rfl
  have c4_2_1 := Mem.cell (v := .string lI) M4.2.2.1 1 rfl
  have z4_2 := Mem.lt M4.2.2.1
  have c4_3_0 := Mem.cell (v := .int .i64 ak) M4.2.2.2.1 0 rfl
  have c4_3_1 := Mem.cell (v := .int .i64 ax) M4.2.2.2.1 1 rfl
  have c4_3_2 := Mem.cell (v := .string am) M4.2.2.2.1 2 rfl
  have c4_3_3 := Mem.cell (v := .string aS) M4.2.2.2.1 3 rfl
  have c4_3_4 := Mem.cell (v := .string aI) M4.2.2.2.1 4 rfl
  have z4_3 := Mem.lt M4.2.2.2.1
  have c4_4_0 := Mem.cell (v := .string t.id) M4.2.2.2.2.1 0 rfl
  have c4_4_1 := Mem.cell (v := .string t.pa) M4.2.2.2.2.1 1 rfl
  have c4_4_2 := Mem.cell (v := .string t.cS) M4.2.2.2.2.1 2 rfl
  have c4_4_3 := Mem.cell (v := .string t.cI) M4.2.2.2.2.1 3 rfl
  have c4_4_4 := Mem.cell (v := .string t.kS) M4.2.2.2.2.1 4 rfl
  have c4_4_5 := Mem.cell (v := .string t.kI) M4.2.2.2.2.1 5 rfl
  have c4_4_6 := Mem.cell (v := .slice t.fr.a t.fr.n t.fr.c) M4.2.2.2.2.1 6 rfl
  have c4_4_7 := Mem.cell (v := .slice t.sk.a t.sk.n t.sk.c) M4.2.2.2.2.1 7 rfl
  have c4_4_8 := Mem.cell (v := .slice t.tr.a t.tr.n t.tr.c) M4.2.2.2.2.1 8 rfl
  have c4_4_9 := Mem.cell (v := .slice t.sc.a t.sc.n t.sc.c) M4.2.2.2.2.1 9 rfl
  have c4_4_10 := Mem.cell (v := .int .i64 t.md) M4.2.2.2.2.1 10 rfl
  have c4_4_11 := Mem.cell (v := .int .i64 t.rm) M4.2.2.2.2.1 11 rfl
  have c4_4_12 := Mem.cell (v := .int .i64 t.st) M4.2.2.2.2.1 12 rfl
  have c4_4_13 := Mem.cell (v := .string t.on) M4.2.2.2.2.1 13 rfl
  have c4_4_14 := Mem.cell (v := .int .i64 t.vk) M4.2.2.2.2.1 14 rfl
  have c4_4_15 := Mem.cell (v := .int .i64 t.vx) M4.2.2.2.2.1 15 rfl
  have c4_4_16 := Mem.cell (v := .string t.vm) M4.2.2.2.2.1 16 rfl
  have c4_4_17 := Mem.cell (v := .string t.vS) M4.2.2.2.2.1 17 rfl
  have c4_4_18 := Mem.cell (v := .string t.vI) M4.2.2.2.2.1 18 rfl
  have c4_4_19 := Mem.cell (v := .bool t.ex) M4.2.2.2.2.1 19 rfl
  have z4_4 := Mem.lt M4.2.2.2.2.1
  refine store_th rfl _ _ rfl (w3.heap.size) rfl (th0) ({ t with md := (t.md + 1), rm := (t.rm - 1) }) rfl M4.1 (one_th _) ?_
  intro w5 hW5
  have hB5 : Below w.heap.size w w5 := by rw [hW5]; exact below_setCells (B := w.heap.size) hB4 (b := w3.heap.size) (by have := hB4.size; omega) 0 _
  have M5 : Mem w5 [(w3.heap.size, .cells (th ({ t with md := (t.md + 1), rm := (t.rm - 1) })) 39), (w.heap.size + 1 + 1 + 1, .cells (th (th0)) 39), (w.heap.size + 1 + 1, .cells #[.string lS, .string lI] 24), (w.heap.size + 1, .cells #[.int .i64 ak, .int .i64 ax, .string am, .string aS, .string aI] 28), (w.heap.size, .cells (th (t)) 39)] := by rw [hW5]; exact ⟨set_th M4.1 _, (setCells_other _ 0 _ _ (by omega)).trans M4.2.1, (setCells_other _ 0 _ _ (by omega)).trans M4.2.2.1, (setCells_other _ 0 _ _ (by omega)).trans M4.2.2.2.1, (setCells_other _ 0 _ _ (by omega)).trans M4.2.2.2.2.1, trivial⟩
  clear z4_0 z4_1 c4_2_0 c4_2_1 z4_2 c4_3_0 c4_3_1 c4_3_2 c4_3_3 c4_3_4 z4_3 c4_4_0 c4_4_1 c4_4_2 c4_4_3 c4_4_4 c4_4_5 c4_4_6 c4_4_7 c4_4_8 c4_4_9 c4_4_10 c4_4_11 c4_4_12 c4_4_13 c4_4_14 c4_4_15 c4_4_16 c4_4_17 c4_4_18 c4_4_19 z4_4
  clear hW5
  have c5_0_0 := Mem.cell (v := .string t.id) M5.1 0 rfl
  have c5_0_1 := Mem.cell (v := .string t.pa) M5.1 1 rfl
  have c5_0_2 := Mem.cell (v := .string t.cS) M5.1 2 rfl
  have c5_0_3 := Mem.cell (v := .string t.cI) M5.1 3 rfl
  have c5_0_4 := Mem.cell (v := .string t.kS) M5.1 4 rfl
  have c5_0_5 := Mem.cell (v := .string t.kI) M5.1 5 rfl
  have c5_0_6 := Mem.cell (v := .slice t.fr.a t.fr.n t.fr.c) M5.1 6 rfl
  have c5_0_7 := Mem.cell (v := .slice t.sk.a t.sk.n t.sk.c) M5.1 7 rfl
  have c5_0_8 := Mem.cell (v := .slice t.tr.a t.tr.n t.tr.c) M5.1 8 rfl
  have c5_0_9 := Mem.cell (v := .slice t.sc.a t.sc.n t.sc.c) M5.1 9 rfl
  have c5_0_10 := Mem.cell (v := .int .i64 (t.md + 1)) M5.1 10 rfl
  have c5_0_11 := Mem.cell (v := .int .i64 (t.rm - 1)) M5.1 11 rfl
  have c5_0_12 := Mem.cell (v := .int .i64 t.st) M5.1 12 rfl
  have c5_0_13 := Mem.cell (v := .string t.on) M5.1 13 rfl
  have c5_0_14 := Mem.cell (v := .int .i64 t.vk) M5.1 14 rfl
  have c5_0_15 := Mem.cell (v := .int .i64 t.vx) M5.1 15 rfl
  have c5_0_16 := Mem.cell (v := .string t.vm) M5.1 16 rfl
  have c5_0_17 := Mem.cell (v := .string t.vS) M5.1 17 rfl
  have c5_0_18 := Mem.cell (v := .string t.vI) M5.1 18 rfl
  have c5_0_19 := Mem.cell (v := .bool t.ex) M5.1 19 rfl
  have z5_0 := Mem.lt M5.1
  have z5_1 := Mem.lt M5.2.1
  have c5_2_0 := Mem.cell (v := .string lS) M5.2.2.1 0 rfl
  have c5_2_1 := Mem.cell (v := .string lI) M5.2.2.1 1 rfl
  have z5_2 := Mem.lt M5.2.2.1
  have c5_3_0 := Mem.cell (v := .int .i64 ak) M5.2.2.2.1 0 rfl
  have c5_3_1 := Mem.cell (v := .int .i64 ax) M5.2.2.2.1 1 rfl
  have c5_3_2 := Mem.cell (v := .string am) M5.2.2.2.1 2 rfl
  have c5_3_3 := Mem.cell (v := .string aS) M5.2.2.2.1 3 rfl
  have c5_3_4 := Mem.cell (v := .string aI) M5.2.2.2.1 4 rfl
  have z5_3 := Mem.lt M5.2.2.2.1
  have c5_4_0 := Mem.cell (v := .string t.id) M5.2.2.2.2.1 0 rfl
  have c5_4_1 := Mem.cell (v := .string t.pa) M5.2.2.2.2.1 1 rfl
  have c5_4_2 := Mem.cell (v := .string t.cS) M5.2.2.2.2.1 2 rfl
  have c5_4_3 := Mem.cell (v := .string t.cI) M5.2.2.2.2.1 3 rfl
  have c5_4_4 := Mem.cell (v := .string t.kS) M5.2.2.2.2.1 4 rfl
  have c5_4_5 := Mem.cell (v := .string t.kI) M5.2.2.2.2.1 5 rfl
  have c5_4_6 := Mem.cell (v := .slice t.fr.a t.fr.n t.fr.c) M5.2.2.2.2.1 6 rfl
  have c5_4_7 := Mem.cell (v := .slice t.sk.a t.sk.n t.sk.c) M5.2.2.2.2.1 7 rfl
  have c5_4_8 := Mem.cell (v := .slice t.tr.a t.tr.n t.tr.c) M5.2.2.2.2.1 8 rfl
  have c5_4_9 := Mem.cell (v := .slice t.sc.a t.sc.n t.sc.c) M5.2.2.2.2.1 9 rfl
  have c5_4_10 := Mem.cell (v := .int .i64 t.md) M5.2.2.2.2.1 10 rfl
  have c5_4_11 := Mem.cell (v := .int .i64 t.rm) M5.2.2.2.2.1 11 rfl
  have c5_4_12 := Mem.cell (v := .int .i64 t.st) M5.2.2.2.2.1 12 rfl
  have c5_4_13 := Mem.cell (v := .string t.on) M5.2.2.2.2.1 13 rfl
  have c5_4_14 := Mem.cell (v := .int .i64 t.vk) M5.2.2.2.2.1 14 rfl
  have c5_4_15 := Mem.cell (v := .int .i64 t.vx) M5.2.2.2.2.1 15 rfl
  have c5_4_16 := Mem.cell (v := .string t.vm) M5.2.2.2.2.1 16 rfl
  have c5_4_17 := Mem.cell (v := .string t.vS) M5.2.2.2.2.1 17 rfl
  have c5_4_18 := Mem.cell (v := .string t.vI) M5.2.2.2.2.1 18 rfl
  have c5_4_19 := Mem.cell (v := .bool t.ex) M5.2.2.2.2.1 19 rfl
  have z5_4 := Mem.lt M5.2.2.2.2.1
  have yU : w3.heap.size < w5.heap.size := z5_0
  go_upto_region 11 with (fail)
  go_wp2_with fail
  refine Calls.named ?_
  intro W6 hW6
  have hB6_ : Below w.heap.size w W6 := by rw [hW6]; exact (below_al hB5 _)
  have M6_ := (M5).new' (w5.heap.size) (by rfl) (.cells #[.int .i64 ak, .int .i64 ax, .string am, .string aS, .string aI] 28)
  rw [← hW6] at M6_
  clear hW6
  have ZZ6_0 := Lib.hid (Mem.lt M6_.1)
  have ZZ6_1 := Lib.hid (Mem.lt M6_.2.1)
  have ZZ6_2 := Lib.hid (Mem.lt M6_.2.2.1)
  have ZZ6_3 := Lib.hid (Mem.lt M6_.2.2.2.1)
  have ZZ6_4 := Lib.hid (Mem.lt M6_.2.2.2.2.1)
  have ZZ6_5 := Lib.hid (Mem.lt M6_.2.2.2.2.2.1)
  clear c5_0_0 c5_0_1 c5_0_2 c5_0_3 c5_0_4 c5_0_5 c5_0_6 c5_0_7 c5_0_8 c5_0_9 c5_0_10 c5_0_11 c5_0_12 c5_0_13 c5_0_14 c5_0_15 c5_0_16 c5_0_17 c5_0_18 c5_0_19 z5_0 z5_1 c5_2_0 c5_2_1 z5_2 c5_3_0 c5_3_1 c5_3_2 c5_3_3 c5_3_4 z5_3 c5_4_0 c5_4_1 c5_4_2 c5_4_3 c5_4_4 c5_4_5 c5_4_6 c5_4_7 c5_4_8 c5_4_9 c5_4_10 c5_4_11 c5_4_12 c5_4_13 c5_4_14 c5_4_15 c5_4_16 c5_4_17 c5_4_18 c5_4_19 z5_4
  refine (enterC_any t.fr.a t.sk.a t.tr.a t.fr.n t.fr.c t.sk.n t.sk.c t.tr.n t.tr.c xf hfl hfn hfc hf16 hf0 hsk9 fu q hq (some ⟨w5.heap.size, 0, none⟩) 1 1 [.int .i64 ak, .int .i64 ax, .string am, .string aS, .string aI] (by simp) rfl (by simp [Value.oneCell']) (by omega) mk _ (HRF.out _ hB6_) (rows_one M6_.1)).mono ?_
  rintro e w6 ⟨fo, fc, va, vc, rfl, hown, hb6⟩
  have hB6 := below_then hB6_ hb6
  have M6 := M6_.below hb6
  clear M6_ hB6_ hb6
  have c6_0_0 := Mem.cell (v := .int .i64 ak) M6.1 0 rfl
  have c6_0_1 := Mem.cell (v := .int .i64 ax) M6.1 1 rfl
  have c6_0_2 := Mem.cell (v := .string am) M6.1 2 rfl
  have c6_0_3 := Mem.cell (v := .string aS) M6.1 3 rfl
  have c6_0_4 := Mem.cell (v := .string aI) M6.1 4 rfl
  have z6_0 := Mem.lt M6.1
  have c6_1_0 := Mem.cell (v := .string t.id) M6.2.1 0 rfl
  have c6_1_1 := Mem.cell (v := .string t.pa) M6.2.1 1 rfl
  have c6_1_2 := Mem.cell (v := .string t.cS) M6.2.1 2 rfl
  have c6_1_3 := Mem.cell (v := .string t.cI) M6.2.1 3 rfl
  have c6_1_4 := Mem.cell (v := .string t.kS) M6.2.1 4 rfl
  have c6_1_5 := Mem.cell (v := .string t.kI) M6.2.1 5 rfl
  have c6_1_6 := Mem.cell (v := .slice t.fr.a t.fr.n t.fr.c) M6.2.1 6 rfl
  have c6_1_7 := Mem.cell (v := .slice t.sk.a t.sk.n t.sk.c) M6.2.1 7 rfl
  have c6_1_8 := Mem.cell (v := .slice t.tr.a t.tr.n t.tr.c) M6.2.1 8 rfl
  have c6_1_9 := Mem.cell (v := .slice t.sc.a t.sc.n t.sc.c) M6.2.1 9 rfl
  have c6_1_10 := Mem.cell (v := .int .i64 (t.md + 1)) M6.2.1 10 rfl
  have c6_1_11 := Mem.cell (v := .int .i64 (t.rm - 1)) M6.2.1 11 rfl
  have c6_1_12 := Mem.cell (v := .int .i64 t.st) M6.2.1 12 rfl
  have c6_1_13 := Mem.cell (v := .string t.on) M6.2.1 13 rfl
  have c6_1_14 := Mem.cell (v := .int .i64 t.vk) M6.2.1 14 rfl
  have c6_1_15 := Mem.cell (v := .int .i64 t.vx) M6.2.1 15 rfl
  have c6_1_16 := Mem.cell (v := .string t.vm) M6.2.1 16 rfl
  have c6_1_17 := Mem.cell (v := .string t.vS) M6.2.1 17 rfl
  have c6_1_18 := Mem.cell (v := .string t.vI) M6.2.1 18 rfl
  have c6_1_19 := Mem.cell (v := .bool t.ex) M6.2.1 19 rfl
  have z6_1 := Mem.lt M6.2.1
  have z6_2 := Mem.lt M6.2.2.1
  have c6_3_0 := Mem.cell (v := .string lS) M6.2.2.2.1 0 rfl
  have c6_3_1 := Mem.cell (v := .string lI) M6.2.2.2.1 1 rfl
  have z6_3 := Mem.lt M6.2.2.2.1
  have c6_4_0 := Mem.cell (v := .int .i64 ak) M6.2.2.2.2.1 0 rfl
  have c6_4_1 := Mem.cell (v := .int .i64 ax) M6.2.2.2.2.1 1 rfl
  have c6_4_2 := Mem.cell (v := .string am) M6.2.2.2.2.1 2 rfl
  have c6_4_3 := Mem.cell (v := .string aS) M6.2.2.2.2.1 3 rfl
  have c6_4_4 := Mem.cell (v := .string aI) M6.2.2.2.2.1 4 rfl
  have z6_4 := Mem.lt M6.2.2.2.2.1
  have c6_5_0 := Mem.cell (v := .string t.id) M6.2.2.2.2.2.1 0 rfl
  have c6_5_1 := Mem.cell (v := .string t.pa) M6.2.2.2.2.2.1 1 rfl
  have c6_5_2 := Mem.cell (v := .string t.cS) M6.2.2.2.2.2.1 2 rfl
  have c6_5_3 := Mem.cell (v := .string t.cI) M6.2.2.2.2.2.1 3 rfl
  have c6_5_4 := Mem.cell (v := .string t.kS) M6.2.2.2.2.2.1 4 rfl
  have c6_5_5 := Mem.cell (v := .string t.kI) M6.2.2.2.2.2.1 5 rfl
  have c6_5_6 := Mem.cell (v := .slice t.fr.a t.fr.n t.fr.c) M6.2.2.2.2.2.1 6 rfl
  have c6_5_7 := Mem.cell (v := .slice t.sk.a t.sk.n t.sk.c) M6.2.2.2.2.2.1 7 rfl
  have c6_5_8 := Mem.cell (v := .slice t.tr.a t.tr.n t.tr.c) M6.2.2.2.2.2.1 8 rfl
  have c6_5_9 := Mem.cell (v := .slice t.sc.a t.sc.n t.sc.c) M6.2.2.2.2.2.1 9 rfl
  have c6_5_10 := Mem.cell (v := .int .i64 t.md) M6.2.2.2.2.2.1 10 rfl
  have c6_5_11 := Mem.cell (v := .int .i64 t.rm) M6.2.2.2.2.2.1 11 rfl
  have c6_5_12 := Mem.cell (v := .int .i64 t.st) M6.2.2.2.2.2.1 12 rfl
  have c6_5_13 := Mem.cell (v := .string t.on) M6.2.2.2.2.2.1 13 rfl
  have c6_5_14 := Mem.cell (v := .int .i64 t.vk) M6.2.2.2.2.2.1 14 rfl
  have c6_5_15 := Mem.cell (v := .int .i64 t.vx) M6.2.2.2.2.2.1 15 rfl
  have c6_5_16 := Mem.cell (v := .string t.vm) M6.2.2.2.2.2.1 16 rfl
  have c6_5_17 := Mem.cell (v := .string t.vS) M6.2.2.2.2.2.1 17 rfl
  have c6_5_18 := Mem.cell (v := .string t.vI) M6.2.2.2.2.2.1 18 rfl
  have c6_5_19 := Mem.cell (v := .bool t.ex) M6.2.2.2.2.2.1 19 rfl
  have z6_5 := Mem.lt M6.2.2.2.2.2.1
  have yV : w5.heap.size < w6.heap.size := z6_0
  have HOW := Lib.hid hown
  clear hown
  go_upto_region 14 with (fail)
  refine wp_named ?_
  intro w7 hW7
  have hB7 : Below w.heap.size w w7 := by rw [hW7]; exact (below_al hB6 _)
  have M7 := (M6).new' (w6.heap.size) (by rfl) (.cells #[.slice fo (t.fr.n + 1) fc, .slice t.sk.a t.sk.n t.sk.c, .slice t.tr.a t.tr.n t.tr.c] 36)
  rw [← hW7] at M7
  have hS7 : Below w6.heap.size w6 w7 := by rw [hW7]; exact (below_al (Below.refl _ _) _)
  replace HOW := hid_own HOW hS7
  clear hS7
  clear c6_0_0 c6_0_1 c6_0_2 c6_0_3 c6_0_4 z6_0 c6_1_0 c6_1_1 c6_1_2 c6_1_3 c6_1_4 c6_1_5 c6_1_6 c6_1_7 c6_1_8 c6_1_9 c6_1_10 c6_1_11 c6_1_12 c6_1_13 c6_1_14 c6_1_15 c6_1_16 c6_1_17 c6_1_18 c6_1_19 z6_1 z6_2 c6_3_0 c6_3_1 z6_3 c6_4_0 c6_4_1 c6_4_2 c6_4_3 c6_4_4 z6_4 c6_5_0 c6_5_1 c6_5_2 c6_5_3 c6_5_4 c6_5_5 c6_5_6 c6_5_7 c6_5_8 c6_5_9 c6_5_10 c6_5_11 c6_5_12 c6_5_13 c6_5_14 c6_5_15 c6_5_16 c6_5_17 c6_5_18 c6_5_19 z6_5
  clear hW7
  have c7_0_0 := Mem.cell (v := .slice fo (t.fr.n + 1) fc) M7.1 0 rfl
  have c7_0_1 := Mem.cell (v := .slice t.sk.a t.sk.n t.sk.c) M7.1 1 rfl
  have c7_0_2 := Mem.cell (v := .slice t.tr.a t.tr.n t.tr.c) M7.1 2 rfl
  have z7_0 := Mem.lt M7.1
  have c7_1_0 := Mem.cell (v := .int .i64 ak) M7.2.1 0 rfl
  have c7_1_1 := Mem.cell (v := .int .i64 ax) M7.2.1 1 rfl
  have c7_1_2 := Mem.cell (v := .string am) M7.2.1 2 rfl
  have c7_1_3 := Mem.cell (v := .string aS) M7.2.1 3 rfl
  have c7_1_4 := Mem.cell (v := .string aI) M7.2.1 4 rfl
  have z7_1 := Mem.lt M7.2.1
  have c7_2_0 := Mem.cell (v := .string t.id) M7.2.2.1 0 rfl
  have c7_2_1 := Mem.cell (v := .string t.pa) M7.2.2.1 1 rfl
  have c7_2_2 := Mem.cell (v := .string t.cS) M7.2.2.1 2 rfl
  have c7_2_3 := Mem.cell (v := .string t.cI) M7.2.2.1 3 rfl
  have c7_2_4 := Mem.cell (v := .string t.kS) M7.2.2.1 4 rfl
  have c7_2_5 := Mem.cell (v := .string t.kI) M7.2.2.1 5 rfl
  have c7_2_6 := Mem.cell (v := .slice t.fr.a t.fr.n t.fr.c) M7.2.2.1 6 rfl
  have c7_2_7 := Mem.cell (v := .slice t.sk.a t.sk.n t.sk.c) M7.2.2.1 7 rfl
  have c7_2_8 := Mem.cell (v := .slice t.tr.a t.tr.n t.tr.c) M7.2.2.1 8 rfl
  have c7_2_9 := Mem.cell (v := .slice t.sc.a t.sc.n t.sc.c) M7.2.2.1 9 rfl
  have c7_2_10 := Mem.cell (v := .int .i64 (t.md + 1)) M7.2.2.1 10 rfl
  have c7_2_11 := Mem.cell (v := .int .i64 (t.rm - 1)) M7.2.2.1 11 rfl
  have c7_2_12 := Mem.cell (v := .int .i64 t.st) M7.2.2.1 12 rfl
  have c7_2_13 := Mem.cell (v := .string t.on) M7.2.2.1 13 rfl
  have c7_2_14 := Mem.cell (v := .int .i64 t.vk) M7.2.2.1 14 rfl
  have c7_2_15 := Mem.cell (v := .int .i64 t.vx) M7.2.2.1 15 rfl
  have c7_2_16 := Mem.cell (v := .string t.vm) M7.2.2.1 16 rfl
  have c7_2_17 := Mem.cell (v := .string t.vS) M7.2.2.1 17 rfl
  have c7_2_18 := Mem.cell (v := .string t.vI) M7.2.2.1 18 rfl
  have c7_2_19 := Mem.cell (v := .bool t.ex) M7.2.2.1 19 rfl
  have z7_2 := Mem.lt M7.2.2.1
  have z7_3 := Mem.lt M7.2.2.2.1
  have c7_4_0 := Mem.cell (v := .string lS) M7.2.2.2.2.1 0 rfl
  have c7_4_1 := Mem.cell (v := .string lI) M7.2.2.2.2.1 1 rfl
  have z7_4 := Mem.lt M7.2.2.2.2.1
  have c7_5_0 := Mem.cell (v := .int .i64 ak) M7.2.2.2.2.2.1 0 rfl
  have c7_5_1 := Mem.cell (v := .int .i64 ax) M7.2.2.2.2.2.1 1 rfl
  have c7_5_2 := Mem.cell (v := .string am) M7.2.2.2.2.2.1 2 rfl
  have c7_5_3 := Mem.cell (v := .string aS) M7.2.2.2.2.2.1 3 rfl
  have c7_5_4 := Mem.cell (v := .string aI) M7.2.2.2.2.2.1 4 rfl
  have z7_5 := Mem.lt M7.2.2.2.2.2.1
  have c7_6_0 := Mem.cell (v := .string t.id) M7.2.2.2.2.2.2.1 0 rfl
  have c7_6_1 := Mem.cell (v := .string t.pa) M7.2.2.2.2.2.2.1 1 rfl
  have c7_6_2 := Mem.cell (v := .string t.cS) M7.2.2.2.2.2.2.1 2 rfl
  have c7_6_3 := Mem.cell (v := .string t.cI) M7.2.2.2.2.2.2.1 3 rfl
  have c7_6_4 := Mem.cell (v := .string t.kS) M7.2.2.2.2.2.2.1 4 rfl
  have c7_6_5 := Mem.cell (v := .string t.kI) M7.2.2.2.2.2.2.1 5 rfl
  have c7_6_6 := Mem.cell (v := .slice t.fr.a t.fr.n t.fr.c) M7.2.2.2.2.2.2.1 6 rfl
  have c7_6_7 := Mem.cell (v := .slice t.sk.a t.sk.n t.sk.c) M7.2.2.2.2.2.2.1 7 rfl
  have c7_6_8 := Mem.cell (v := .slice t.tr.a t.tr.n t.tr.c) M7.2.2.2.2.2.2.1 8 rfl
  have c7_6_9 := Mem.cell (v := .slice t.sc.a t.sc.n t.sc.c) M7.2.2.2.2.2.2.1 9 rfl
  have c7_6_10 := Mem.cell (v := .int .i64 t.md) M7.2.2.2.2.2.2.1 10 rfl
  have c7_6_11 := Mem.cell (v := .int .i64 t.rm) M7.2.2.2.2.2.2.1 11 rfl
  have c7_6_12 := Mem.cell (v := .int .i64 t.st) M7.2.2.2.2.2.2.1 12 rfl
  have c7_6_13 := Mem.cell (v := .string t.on) M7.2.2.2.2.2.2.1 13 rfl
  have c7_6_14 := Mem.cell (v := .int .i64 t.vk) M7.2.2.2.2.2.2.1 14 rfl
  have c7_6_15 := Mem.cell (v := .int .i64 t.vx) M7.2.2.2.2.2.2.1 15 rfl
  have c7_6_16 := Mem.cell (v := .string t.vm) M7.2.2.2.2.2.2.1 16 rfl
  have c7_6_17 := Mem.cell (v := .string t.vS) M7.2.2.2.2.2.2.1 17 rfl
  have c7_6_18 := Mem.cell (v := .string t.vI) M7.2.2.2.2.2.2.1 18 rfl
  have c7_6_19 := Mem.cell (v := .bool t.ex) M7.2.2.2.2.2.2.1 19 rfl
  have z7_6 := Mem.lt M7.2.2.2.2.2.2.1
  go_upto_region 14 with (fail)
  have yW : w6.heap.size < w7.heap.size := z7_0
  go_cut [25] (fun s25 wx => ∃ b, s25 = .pointer (some ⟨b, 0, none⟩) ∧ w7.heap.size ≤ b ∧ Below w7.heap.size w7 wx ∧ wx.heap[b]? = some (.cells (sc (scNew mn nS nI tot t rm)) 56))
  case first =>
    have hX := Lib.hid (Below.refl w7.heap.size w7)
    clear c7_0_0 c7_0_1 c7_0_2 z7_0 c7_1_0 c7_1_1 c7_1_2 c7_1_3 c7_1_4 z7_1 c7_2_0 c7_2_1 c7_2_2 c7_2_3 c7_2_4 c7_2_5 c7_2_6 c7_2_7 c7_2_8 c7_2_9 c7_2_10 c7_2_11 c7_2_12 c7_2_13 c7_2_14 c7_2_15 c7_2_16 c7_2_17 c7_2_18 c7_2_19 z7_2 z7_3 c7_4_0 c7_4_1 z7_4 c7_5_0 c7_5_1 c7_5_2 c7_5_3 c7_5_4 z7_5 c7_6_0 c7_6_1 c7_6_2 c7_6_3 c7_6_4 c7_6_5 c7_6_6 c7_6_7 c7_6_8 c7_6_9 c7_6_10 c7_6_11 c7_6_12 c7_6_13 c7_6_14 c7_6_15 c7_6_16 c7_6_17 c7_6_18 c7_6_19 z7_6
    refine wp_region_held (S := fun w' => Mem w' [(w6.heap.size, .cells #[.slice fo (t.fr.n + 1) fc, .slice t.sk.a t.sk.n t.sk.c, .slice t.tr.a t.tr.n t.tr.c] 36), (w5.heap.size, .cells #[.int .i64 ak, .int .i64 ax, .string am, .string aS, .string aI] 28), (w3.heap.size, .cells (th ({ t with md := (t.md + 1), rm := (t.rm - 1) })) 39), (w.heap.size + 1 + 1 + 1, .cells (th (th0)) 39), (w.heap.size + 1 + 1, .cells #[.string lS, .string lI] 24), (w.heap.size + 1, .cells #[.int .i64 ak, .int .i64 ax, .string am, .string aS, .string aI] 28), (w.heap.size, .cells (th (t)) 39)]) (by kernel_rfl) ?_
    change wpAnyH _ _ _ _ _ 31 (Array.replicate 31 false) _ w7.drew
    refine anyH_named ?_
    intro w8 hW8
    have hB8 : Below w.heap.size w w8 := by rw [hW8]; exact below_dr hB7
    have M8 : Mem w8 [(w6.heap.size, .cells #[.slice fo (t.fr.n + 1) fc, .slice t.sk.a t.sk.n t.sk.c, .slice t.tr.a t.tr.n t.tr.c] 36), (w5.heap.size, .cells #[.int .i64 ak, .int .i64 ax, .string am, .string aS, .string aI] 28), (w3.heap.size, .cells (th ({ t with md := (t.md + 1), rm := (t.rm - 1) })) 39), (w.heap.size + 1 + 1 + 1, .cells (th (th0)) 39), (w.heap.size + 1 + 1, .cells #[.string lS, .string lI] 24), (w.heap.size + 1, .cells #[.int .i64 ak, .int .i64 ax, .string am, .string aS, .string aI] 28), (w.heap.size, .cells (th (t)) 39)] := by rw [hW8]; exact Mem.drew M7
    have zz8 : w7.heap.size ≤ w8.heap.size := by rw [hW8]; exact Nat.le_refl _
    replace HOW := hid_own HOW (below_dr (Below.refl _ w7))
    rw [← hW8] at HOW
    replace hX := hid_then hX (below_dr (Below.refl _ w7))
    rw [← hW8] at hX
    clear hW8
    have zh8_0 := Mem.lt M8.1
    have zh8_1 := Mem.lt M8.2.1
    have zh8_2 := Mem.lt M8.2.2.1
    have zh8_3 := Mem.lt M8.2.2.2.1
    have zh8_4 := Mem.lt M8.2.2.2.2.1
    have zh8_5 := Mem.lt M8.2.2.2.2.2.1
    have zh8_6 := Mem.lt M8.2.2.2.2.2.2.1
    refine wpAnyH_take (i := 0) (v := ?_) rfl (by decide +kernel) (by decide +kernel) (by decide +kernel) (fun _ _ _ h => h) (Or.inl ⟨by rfl, ?_⟩) M8 ?_
    rotate_left
    · intro w hSw
      clear hSw
      go_simp; try (with_reducible rfl)
    try simp only [Act.put, List.setIfInBounds_toArray]
    refine wpAnyH_take (i := 1) (v := ?_) rfl (by decide +kernel) (by decide +kernel) (by decide +kernel) (fun _ _ _ h => h) (Or.inl ⟨by rfl, ?_⟩) M8 ?_
    rotate_left
    · intro w hSw
      have s_0 := Mem.cell (v := .string lS) hSw.2.2.2.2.1 0 rfl
      have s_1 := Mem.cell (v := .string lI) hSw.2.2.2.2.1 1 rfl
      clear hSw
      go_simp; try (with_reducible rfl)
    try simp only [Act.put]
    refine wpAnyH_take (i := 3) (v := ?_) rfl (by decide +kernel) (by decide +kernel) (by decide +kernel) (fun _ _ _ h => h) (Or.inl ⟨by rfl, ?_⟩) M8 ?_
    rotate_left
    · intro w hSw
      clear hSw
      go_simp; try (with_reducible rfl)
    try simp only [Act.put]
    refine wpAnyH_take (i := 4) (v := ?_) rfl (by decide +kernel) (by decide +kernel) (by decide +kernel) (fun _ _ _ h => h) (Or.inl ⟨by rfl, ?_⟩) M8 ?_
    rotate_left
    · intro w hSw
      clear hSw
      go_simp; try (with_reducible rfl)
    try simp only [Act.put]
    refine wpAnyH_take (i := 5) (v := ?_) rfl (by decide +kernel) (by decide +kernel) (by decide +kernel) (fun _ _ _ h => h) (Or.inl ⟨by rfl, ?_⟩) M8 ?_
    rotate_left
    · intro w hSw
      clear hSw
      go_simp; try (with_reducible rfl)
    try simp only [Act.put]
    refine wpAnyH_take (i := 6) (v := ?_) rfl (by decide +kernel) (by decide +kernel) (by decide +kernel) (fun _ _ _ h => h) (Or.inl ⟨by rfl, ?_⟩) M8 ?_
    rotate_left
    · intro w hSw
      clear hSw
      go_simp; try (with_reducible rfl)
    try simp only [Act.put]
    refine wpAnyH_take (i := 7) (v := ?_) rfl (by decide +kernel) (by decide +kernel) (by decide +kernel) (fun _ _ _ h => h) (Or.inl ⟨by rfl, ?_⟩) M8 ?_
    rotate_left
    · intro w hSw
      clear hSw
      go_simp; try (with_reducible rfl)
    try simp only [Act.put]
    refine wpAnyH_take (i := 8) (v := ?_) rfl (by decide +kernel) (by decide +kernel) (by decide +kernel) (fun _ _ _ h => h) (Or.inl ⟨by rfl, ?_⟩) M8 ?_
    rotate_left
    · intro w hSw
      have s_6 := Mem.cell (v := .slice t.fr.a t.fr.n t.fr.c) hSw.2.2.2.2.2.2.1 6 rfl
      clear hSw
      go_simp; try (with_reducible rfl)
    try simp only [Act.put]
    refine wpAnyH_take (i := 9) (v := ?_) rfl (by decide +kernel) (by decide +kernel) (by decide +kernel) (fun _ _ _ h => h) (Or.inl ⟨by rfl, ?_⟩) M8 ?_
    rotate_left
    · intro w hSw
      clear hSw
      go_simp; try (with_reducible rfl)
    try simp only [Act.put]
    refine wpAnyH_take (i := 10) (v := ?_) rfl (by decide +kernel) (by decide +kernel) (by decide +kernel) (fun _ _ _ h => h) (Or.inl ⟨by rfl, ?_⟩) M8 ?_
    rotate_left
    · intro w hSw
      clear hSw
      go_simp; try (with_reducible rfl)
    try simp only [Act.put]
    refine wpAnyH_take (i := 11) (v := ?_) rfl (by decide +kernel) (by decide +kernel) (by decide +kernel) (fun _ _ _ h => h) (Or.inl ⟨by rfl, ?_⟩) M8 ?_
    rotate_left
    · intro w hSw
      clear hSw
      go_simp; try (with_reducible rfl)
    try simp only [Act.put]
    refine wpAnyH_take (i := 12) (v := ?_) rfl (by decide +kernel) (by decide +kernel) (by decide +kernel) (fun _ _ _ h => h) (Or.inl ⟨by rfl, ?_⟩) M8 ?_
    rotate_left
    · intro w hSw
      have s_7 := Mem.cell (v := .slice t.sk.a t.sk.n t.sk.c) hSw.2.2.2.2.2.2.1 7 rfl
      clear hSw
      go_simp; try (with_reducible rfl)
    try simp only [Act.put]
    refine wpAnyH_take (i := 13) (v := ?_) rfl (by decide +kernel) (by decide +kernel) (by decide +kernel) (fun _ _ _ h => h) (Or.inl ⟨by rfl, ?_⟩) M8 ?_
    rotate_left
    · intro w hSw
      clear hSw
      go_simp; try (with_reducible rfl)
    try simp only [Act.put]
    refine wpAnyH_take (i := 14) (v := ?_) rfl (by decide +kernel) (by decide +kernel) (by decide +kernel) (fun _ _ _ h => h) (Or.inl ⟨by rfl, ?_⟩) M8 ?_
    rotate_left
    · intro w hSw
      clear hSw
      go_simp; try (with_reducible rfl)
    try simp only [Act.put]
    refine wpAnyH_take (i := 15) (v := ?_) rfl (by decide +kernel) (by decide +kernel) (by decide +kernel) (fun _ _ _ h => h) (Or.inl ⟨by rfl, ?_⟩) M8 ?_
    rotate_left
    · intro w hSw
      clear hSw
      go_simp; try (with_reducible rfl)
    try simp only [Act.put]
    refine wpAnyH_take (i := 16) (v := ?_) rfl (by decide +kernel) (by decide +kernel) (by decide +kernel) (fun _ _ _ h => h) (Or.inl ⟨by rfl, ?_⟩) M8 ?_
    rotate_left
    · intro w hSw
      have s_8 := Mem.cell (v := .slice t.tr.a t.tr.n t.tr.c) hSw.2.2.2.2.2.2.1 8 rfl
      clear hSw
      go_simp; try (with_reducible rfl)
    try simp only [Act.put]
    refine wpAnyH_take (i := 17) (v := ?_) rfl (by decide +kernel) (by decide +kernel) (by decide +kernel) (fun _ _ _ h => h) (Or.inl ⟨by rfl, ?_⟩) M8 ?_
    rotate_left
    · intro w hSw
      clear hSw
      go_simp; try (with_reducible rfl)
    try simp only [Act.put]
    refine wpAnyH_take (i := 18) (v := ?_) rfl (by decide +kernel) (by decide +kernel) (by decide +kernel) (fun _ _ _ h => h) (Or.inl ⟨by rfl, ?_⟩) M8 ?_
    rotate_left
    · intro w hSw
      clear hSw
      go_simp; try (with_reducible rfl)
    try simp only [Act.put]
    refine wpAnyH_take (i := 19) (v := ?_) rfl (by decide +kernel) (by decide +kernel) (by decide +kernel) (fun _ _ _ h => h) (Or.inl ⟨by rfl, ?_⟩) M8 ?_
    rotate_left
    · intro w hSw
      have s_2 := Mem.cell (v := .string t.cS) hSw.2.2.2.2.2.2.1 2 rfl
      have s_3 := Mem.cell (v := .string t.cI) hSw.2.2.2.2.2.2.1 3 rfl
      have s_4 := Mem.cell (v := .string t.kS) hSw.2.2.2.2.2.2.1 4 rfl
      have s_5 := Mem.cell (v := .string t.kI) hSw.2.2.2.2.2.2.1 5 rfl
      clear hSw
      go_simp; try (with_reducible rfl)
    try simp only [Act.put]
    refine wpAnyH_take (i := 20) (v := ?_) rfl (by decide +kernel) (by decide +kernel) (by decide +kernel) (fun _ _ _ h => h) (Or.inl ⟨by rfl, ?_⟩) M8 ?_
    rotate_left
    · intro w hSw
      clear hSw
      go_simp; try (with_reducible rfl)
    try simp only [Act.put]
    refine wpAnyH_take (i := 21) (v := ?_) rfl (by decide +kernel) (by decide +kernel) (by decide +kernel) (fun _ _ _ h => h) (Or.inl ⟨by rfl, ?_⟩) M8 ?_
    rotate_left
    · intro w hSw
      have s_1 := Mem.cell (v := .string t.pa) hSw.2.2.2.2.2.2.1 1 rfl
      clear hSw
      go_simp; try (with_reducible rfl)
    try simp only [Act.put]
    refine wpAnyH_take (i := 22) (v := ?_) rfl (by decide +kernel) (by decide +kernel) (by decide +kernel) (fun _ _ _ h => h) (Or.inl ⟨by rfl, ?_⟩) M8 ?_
    rotate_left
    · intro w hSw
      clear hSw
      go_simp; try (with_reducible rfl)
    try simp only [Act.put]
    refine wpAnyH_take (i := 23) (v := ?_) rfl (by decide +kernel) (by decide +kernel) (by decide +kernel) (fun _ _ _ h => h) (Or.inl ⟨by rfl, ?_⟩) M8 ?_
    rotate_left
    · intro w hSw
      have s_10 := Mem.cell (v := .int .i64 (t.md + 1)) hSw.2.2.1 10 rfl
      clear hSw
      go_simp; try (with_reducible rfl)
    try simp only [Act.put]
    refine wpAnyH_take (i := 24) (v := ?_) rfl (by decide +kernel) (by decide +kernel) (by decide +kernel) (fun _ _ _ h => h) (Or.inl ⟨by rfl, ?_⟩) M8 ?_
    rotate_left
    · intro w hSw
      clear hSw
      go_simp; try (with_reducible rfl)
    try simp only [Act.put]
    refine wpAnyH_take (i := 25) (v := ?_) rfl (by decide +kernel) (by decide +kernel) (by decide +kernel) (fun _ _ _ h => h) (Or.inl ⟨by rfl, ?_⟩) M8 ?_
    rotate_left
    · intro w hSw
      have s_11 := Mem.cell (v := .int .i64 (t.rm - 1)) hSw.2.2.1 11 rfl
      clear hSw
      go_simp; try (with_reducible rfl)
    try simp only [Act.put]
    refine wpAnyH_take (i := 26) (v := ?_) rfl (by decide +kernel) (by decide +kernel) (by decide +kernel) (fun _ _ _ h => h) (Or.inl ⟨by rfl, ?_⟩) M8 ?_
    rotate_left
    · intro w hSw
      clear hSw
      go_simp; try (with_reducible rfl)
    try simp only [Act.put]
    refine wpAnyH_take (i := 27) (v := ?_) rfl (by decide +kernel) (by decide +kernel) (by decide +kernel) (fun _ _ _ h => h) (Or.inl ⟨by rfl, ?_⟩) M8 ?_
    rotate_left
    · intro w hSw
      clear hSw
      go_simp; try (with_reducible rfl)
    try simp only [Act.put]
    refine wpAnyH_ready (rs := [2, 29]) (by decide +kernel) (by simp) (AllReadyH.cons rfl ?_ (AllReadyH.cons rfl ?_ AllReadyH.nil))
    · skip
      intro K hK
      rw [if_pos (by rfl)]
      go_simp
      go_at_call 14
      refine (HL.out _ hB8).mono ?_
      rintro e w9 ⟨rfl, hb9⟩
      have hB9 := below_then hB8 hb9
      have M9 := M8.below hb9
      replace HOW := hid_own HOW hb9
      replace hX := hid_then hX hb9
      have zz9 := hb9.size
      clear hb9
      refine hK.out _ _ M9 (fun _ => ?_)
      clear hK K
      try simp only [Act.put, List.getElem_toArray, List.getElem_cons_succ, List.getElem_cons_zero, List.setIfInBounds_toArray, List.set_cons_zero, List.set_cons_succ]
      refine wpAnyH_take (i := 28) (v := ?_) rfl (by decide +kernel) (by decide +kernel) (by decide +kernel) (fun _ _ _ h => h) (Or.inl ⟨by rfl, ?_⟩) M9 ?_
      rotate_left
      · intro w hSw
        clear hSw
        go_simp; try (with_reducible rfl)
      try simp only [Act.put, List.setIfInBounds_toArray]
      refine wpAnyH_ready (rs := [29]) (by decide +kernel) (by simp) (AllReadyH.cons rfl ?_ AllReadyH.nil)
      intro K hK
      rw [if_pos (by rfl)]
      go_simp
      have N10 : Mem (w9.alloc (.cells (sc (sc0)) 56)) [(w9.heap.size, .cells (sc (sc0)) 56), (w6.heap.size, .cells #[.slice fo (t.fr.n + 1) fc, .slice t.sk.a t.sk.n t.sk.c, .slice t.tr.a t.tr.n t.tr.c] 36), (w5.heap.size, .cells #[.int .i64 ak, .int .i64 ax, .string am, .string aS, .string aI] 28), (w3.heap.size, .cells (th ({ t with md := (t.md + 1), rm := (t.rm - 1) })) 39), (w.heap.size + 1 + 1 + 1, .cells (th (th0)) 39), (w.heap.size + 1 + 1, .cells #[.string lS, .string lI] 24), (w.heap.size + 1, .cells #[.int .i64 ak, .int .i64 ax, .string am, .string aS, .string aI] 28), (w.heap.size, .cells (th (t)) 39)] := (M9).new' (w9.heap.size) (by rfl) (.cells (sc (sc0)) 56)
      refine hK.out _ _ ⟨N10.2.1, N10.2.2.1, N10.2.2.2.1, N10.2.2.2.2.1, N10.2.2.2.2.2.1, N10.2.2.2.2.2.2.1, N10.2.2.2.2.2.2.2.1, trivial⟩ (fun _ => ?_)
      clear hK K
      try simp only [Act.put, List.getElem_toArray, List.getElem_cons_succ, List.getElem_cons_zero, List.setIfInBounds_toArray, List.set_cons_zero, List.set_cons_succ]
      refine anyH_named ?_
      intro w10 hW10
      have hB10 : Below w.heap.size w w10 := by rw [hW10]; exact below_al hB9 _
      have M10 : Mem w10 [(w9.heap.size, .cells (sc (sc0)) 56), (w6.heap.size, .cells #[.slice fo (t.fr.n + 1) fc, .slice t.sk.a t.sk.n t.sk.c, .slice t.tr.a t.tr.n t.tr.c] 36), (w5.heap.size, .cells #[.int .i64 ak, .int .i64 ax, .string am, .string aS, .string aI] 28), (w3.heap.size, .cells (th ({ t with md := (t.md + 1), rm := (t.rm - 1) })) 39), (w.heap.size + 1 + 1 + 1, .cells (th (th0)) 39), (w.heap.size + 1 + 1, .cells #[.string lS, .string lI] 24), (w.heap.size + 1, .cells #[.int .i64 ak, .int .i64 ax, .string am, .string aS, .string aI] 28), (w.heap.size, .cells (th (t)) 39)] := by rw [hW10]; exact N10
      replace HOW := hid_own HOW (below_al (Below.refl _ w9) (.cells (sc (sc0)) 56))
      rw [show w9.alloc (.cells (sc (sc0)) 56) = w10 from hW10.symm] at HOW
      replace hX := hid_then hX (below_al (Below.refl _ w9) (.cells (sc (sc0)) 56))
      rw [show w9.alloc (.cells (sc (sc0)) 56) = w10 from hW10.symm] at hX
      clear hW10 N10
      have zz10 : w9.heap.size < w10.heap.size := Mem.lt M10.1
      refine wpAnyH_ready (rs := [30]) (by decide +kernel) (by simp) (AllReadyH.cons rfl ?_ AllReadyH.nil)
      intro K hK
      rw [if_pos (by rfl)]
      refine wp_store_mid 56 _ _ rfl (w9.heap.size) 0 (sc ((scNew mn nS nI tot t rm))) (by rfl) (by rfl) (there_block M10.1 (Nat.le_refl 14)) info_sc (one_sc _) ?_
      have N11 : Mem (w10.setCells (w9.heap.size) 0 (scL ((scNew mn nS nI tot t rm)))) [(w9.heap.size, .cells (sc ((scNew mn nS nI tot t rm))) 56), (w6.heap.size, .cells #[.slice fo (t.fr.n + 1) fc, .slice t.sk.a t.sk.n t.sk.c, .slice t.tr.a t.tr.n t.tr.c] 36), (w5.heap.size, .cells #[.int .i64 ak, .int .i64 ax, .string am, .string aS, .string aI] 28), (w3.heap.size, .cells (th ({ t with md := (t.md + 1), rm := (t.rm - 1) })) 39), (w.heap.size + 1 + 1 + 1, .cells (th (th0)) 39), (w.heap.size + 1 + 1, .cells #[.string lS, .string lI] 24), (w.heap.size + 1, .cells #[.int .i64 ak, .int .i64 ax, .string am, .string aS, .string aI] 28), (w.heap.size, .cells (th (t)) 39)] := ⟨set_sc M10.1 _, (setCells_other _ 0 _ _ (by omega)).trans M10.2.1, (setCells_other _ 0 _ _ (by omega)).trans M10.2.2.1, (setCells_other _ 0 _ _ (by omega)).trans M10.2.2.2.1, (setCells_other _ 0 _ _ (by omega)).trans M10.2.2.2.2.1, (setCells_other _ 0 _ _ (by omega)).trans M10.2.2.2.2.2.1, (setCells_other _ 0 _ _ (by omega)).trans M10.2.2.2.2.2.2.1, (setCells_other _ 0 _ _ (by omega)).trans M10.2.2.2.2.2.2.2.1, trivial⟩
      refine hK.out _ _ ⟨N11.2.1, N11.2.2.1, N11.2.2.2.1, N11.2.2.2.2.1, N11.2.2.2.2.2.1, N11.2.2.2.2.2.2.1, N11.2.2.2.2.2.2.2.1, trivial⟩ (fun _ => ?_)
      clear hK K
      try simp only [Act.put, List.getElem_toArray, List.getElem_cons_succ, List.getElem_cons_zero]
      refine anyH_named ?_
      intro w11 hW11
      have hB11 : Below w.heap.size w w11 := by rw [hW11]; exact below_setCells (B := w.heap.size) hB10 (b := w9.heap.size) (by have := hB10.size; omega) 0 _
      have M11 : Mem w11 [(w9.heap.size, .cells (sc ((scNew mn nS nI tot t rm))) 56), (w6.heap.size, .cells #[.slice fo (t.fr.n + 1) fc, .slice t.sk.a t.sk.n t.sk.c, .slice t.tr.a t.tr.n t.tr.c] 36), (w5.heap.size, .cells #[.int .i64 ak, .int .i64 ax, .string am, .string aS, .string aI] 28), (w3.heap.size, .cells (th ({ t with md := (t.md + 1), rm := (t.rm - 1) })) 39), (w.heap.size + 1 + 1 + 1, .cells (th (th0)) 39), (w.heap.size + 1 + 1, .cells #[.string lS, .string lI] 24), (w.heap.size + 1, .cells #[.int .i64 ak, .int .i64 ax, .string am, .string aS, .string aI] 28), (w.heap.size, .cells (th (t)) 39)] := by rw [hW11]; exact N11
      have hY := below_setCells (B := w7.heap.size) hX.out (b := w9.heap.size) (by omega) 0 (scL (scNew mn nS nI tot t rm))
      rw [show w10.setCells (w9.heap.size) 0 (scL ((scNew mn nS nI tot t rm))) = w11 from hW11.symm] at hY
      clear hW11 N11
      refine wpAnyH_done (by kernel_rfl) ?_ _
      have c11_0_0 := Mem.cell (v := .string (scNew mn nS nI tot t rm).nm) M11.1 0 rfl
      have c11_0_1 := Mem.cell (v := .string (scNew mn nS nI tot t rm).lS) M11.1 1 rfl
      have c11_0_2 := Mem.cell (v := .string (scNew mn nS nI tot t rm).lI) M11.1 2 rfl
      have c11_0_3 := Mem.cell (v := .int .i64 (scNew mn nS nI tot t rm).un) M11.1 3 rfl
      have c11_0_4 := Mem.cell (v := .int .i64 (scNew mn nS nI tot t rm).fr) M11.1 4 rfl
      have c11_0_5 := Mem.cell (v := .int .i64 (scNew mn nS nI tot t rm).ht) M11.1 5 rfl
      have c11_0_6 := Mem.cell (v := .int .i64 (scNew mn nS nI tot t rm).tr) M11.1 6 rfl
      have c11_0_7 := Mem.cell (v := .string (scNew mn nS nI tot t rm).cS) M11.1 7 rfl
      have c11_0_8 := Mem.cell (v := .string (scNew mn nS nI tot t rm).cI) M11.1 8 rfl
      have c11_0_9 := Mem.cell (v := .string (scNew mn nS nI tot t rm).kS) M11.1 9 rfl
      have c11_0_10 := Mem.cell (v := .string (scNew mn nS nI tot t rm).kI) M11.1 10 rfl
      have c11_0_11 := Mem.cell (v := .string (scNew mn nS nI tot t rm).pa) M11.1 11 rfl
      have c11_0_12 := Mem.cell (v := .int .i64 (scNew mn nS nI tot t rm).md) M11.1 12 rfl
      have c11_0_13 := Mem.cell (v := .int .i64 (scNew mn nS nI tot t rm).rm) M11.1 13 rfl
      have z11_0 := Mem.lt M11.1
      have c11_1_0 := Mem.cell (v := .slice fo (t.fr.n + 1) fc) M11.2.1 0 rfl
      have c11_1_1 := Mem.cell (v := .slice t.sk.a t.sk.n t.sk.c) M11.2.1 1 rfl
      have c11_1_2 := Mem.cell (v := .slice t.tr.a t.tr.n t.tr.c) M11.2.1 2 rfl
      have z11_1 := Mem.lt M11.2.1
      have c11_2_0 := Mem.cell (v := .int .i64 ak) M11.2.2.1 0 rfl
      have c11_2_1 := Mem.cell (v := .int .i64 ax) M11.2.2.1 1 rfl
      have c11_2_2 := Mem.cell (v := .string am) M11.2.2.1 2 rfl
      have c11_2_3 := Mem.cell (v := .string aS) M11.2.2.1 3 rfl
      have c11_2_4 := Mem.cell (v := .string aI) M11.2.2.1 4 rfl
      have z11_2 := Mem.lt M11.2.2.1
      have c11_3_0 := Mem.cell (v := .string t.id) M11.2.2.2.1 0 rfl
      have c11_3_1 := Mem.cell (v := .string t.pa) M11.2.2.2.1 1 rfl
      have c11_3_2 := Mem.cell (v := .string t.cS) M11.2.2.2.1 2 rfl
      have c11_3_3 := Mem.cell (v := .string t.cI) M11.2.2.2.1 3 rfl
      have c11_3_4 := Mem.cell (v := .string t.kS) M11.2.2.2.1 4 rfl
      have c11_3_5 := Mem.cell (v := .string t.kI) M11.2.2.2.1 5 rfl
      have c11_3_6 := Mem.cell (v := .slice t.fr.a t.fr.n t.fr.c) M11.2.2.2.1 6 rfl
      have c11_3_7 := Mem.cell (v := .slice t.sk.a t.sk.n t.sk.c) M11.2.2.2.1 7 rfl
      have c11_3_8 := Mem.cell (v := .slice t.tr.a t.tr.n t.tr.c) M11.2.2.2.1 8 rfl
      have c11_3_9 := Mem.cell (v := .slice t.sc.a t.sc.n t.sc.c) M11.2.2.2.1 9 rfl
      have c11_3_10 := Mem.cell (v := .int .i64 (t.md + 1)) M11.2.2.2.1 10 rfl
      have c11_3_11 := Mem.cell (v := .int .i64 (t.rm - 1)) M11.2.2.2.1 11 rfl
      have c11_3_12 := Mem.cell (v := .int .i64 t.st) M11.2.2.2.1 12 rfl
      have c11_3_13 := Mem.cell (v := .string t.on) M11.2.2.2.1 13 rfl
      have c11_3_14 := Mem.cell (v := .int .i64 t.vk) M11.2.2.2.1 14 rfl
      have c11_3_15 := Mem.cell (v := .int .i64 t.vx) M11.2.2.2.1 15 rfl
      have c11_3_16 := Mem.cell (v := .string t.vm) M11.2.2.2.1 16 rfl
      have c11_3_17 := Mem.cell (v := .string t.vS) M11.2.2.2.1 17 rfl
      have c11_3_18 := Mem.cell (v := .string t.vI) M11.2.2.2.1 18 rfl
      have c11_3_19 := Mem.cell (v := .bool t.ex) M11.2.2.2.1 19 rfl
      have z11_3 := Mem.lt M11.2.2.2.1
      have z11_4 := Mem.lt M11.2.2.2.2.1
      have c11_5_0 := Mem.cell (v := .string lS) M11.2.2.2.2.2.1 0 rfl
      have c11_5_1 := Mem.cell (v := .string lI) M11.2.2.2.2.2.1 1 rfl
      have z11_5 := Mem.lt M11.2.2.2.2.2.1
      have c11_6_0 := Mem.cell (v := .int .i64 ak) M11.2.2.2.2.2.2.1 0 rfl
      have c11_6_1 := Mem.cell (v := .int .i64 ax) M11.2.2.2.2.2.2.1 1 rfl
      have c11_6_2 := Mem.cell (v := .string am) M11.2.2.2.2.2.2.1 2 rfl
      have c11_6_3 := Mem.cell (v := .string aS) M11.2.2.2.2.2.2.1 3 rfl
      have c11_6_4 := Mem.cell (v := .string aI) M11.2.2.2.2.2.2.1 4 rfl
      have z11_6 := Mem.lt M11.2.2.2.2.2.2.1
      have c11_7_0 := Mem.cell (v := .string t.id) M11.2.2.2.2.2.2.2.1 0 rfl
      have c11_7_1 := Mem.cell (v := .string t.pa) M11.2.2.2.2.2.2.2.1 1 rfl
      have c11_7_2 := Mem.cell (v := .string t.cS) M11.2.2.2.2.2.2.2.1 2 rfl
      have c11_7_3 := Mem.cell (v := .string t.cI) M11.2.2.2.2.2.2.2.1 3 rfl
      have c11_7_4 := Mem.cell (v := .string t.kS) M11.2.2.2.2.2.2.2.1 4 rfl
      have c11_7_5 := Mem.cell (v := .string t.kI) M11.2.2.2.2.2.2.2.1 5 rfl
      have c11_7_6 := Mem.cell (v := .slice t.fr.a t.fr.n t.fr.c) M11.2.2.2.2.2.2.2.1 6 rfl
      have c11_7_7 := Mem.cell (v := .slice t.sk.a t.sk.n t.sk.c) M11.2.2.2.2.2.2.2.1 7 rfl
      have c11_7_8 := Mem.cell (v := .slice t.tr.a t.tr.n t.tr.c) M11.2.2.2.2.2.2.2.1 8 rfl
      have c11_7_9 := Mem.cell (v := .slice t.sc.a t.sc.n t.sc.c) M11.2.2.2.2.2.2.2.1 9 rfl
      have c11_7_10 := Mem.cell (v := .int .i64 t.md) M11.2.2.2.2.2.2.2.1 10 rfl
      have c11_7_11 := Mem.cell (v := .int .i64 t.rm) M11.2.2.2.2.2.2.2.1 11 rfl
      have c11_7_12 := Mem.cell (v := .int .i64 t.st) M11.2.2.2.2.2.2.2.1 12 rfl
      have c11_7_13 := Mem.cell (v := .string t.on) M11.2.2.2.2.2.2.2.1 13 rfl
      have c11_7_14 := Mem.cell (v := .int .i64 t.vk) M11.2.2.2.2.2.2.2.1 14 rfl
      have c11_7_15 := Mem.cell (v := .int .i64 t.vx) M11.2.2.2.2.2.2.2.1 15 rfl
      have c11_7_16 := Mem.cell (v := .string t.vm) M11.2.2.2.2.2.2.2.1 16 rfl
      have c11_7_17 := Mem.cell (v := .string t.vS) M11.2.2.2.2.2.2.2.1 17 rfl
      have c11_7_18 := Mem.cell (v := .string t.vI) M11.2.2.2.2.2.2.2.1 18 rfl
      have c11_7_19 := Mem.cell (v := .bool t.ex) M11.2.2.2.2.2.2.2.1 19 rfl
      have z11_7 := Mem.lt M11.2.2.2.2.2.2.2.1
      go_wp2_with fail
      go_meet
      exact ⟨_, rfl, by omega, hY, M11.1⟩
    · skip
      intro K hK
      rw [if_pos (by rfl)]
      go_simp
      have N9 : Mem (w8.alloc (.cells (sc (sc0)) 56)) [(w8.heap.size, .cells (sc (sc0)) 56), (w6.heap.size, .cells #[.slice fo (t.fr.n + 1) fc, .slice t.sk.a t.sk.n t.sk.c, .slice t.tr.a t.tr.n t.tr.c] 36), (w5.heap.size, .cells #[.int .i64 ak, .int .i64 ax, .string am, .string aS, .string aI] 28), (w3.heap.size, .cells (th ({ t with md := (t.md + 1), rm := (t.rm - 1) })) 39), (w.heap.size + 1 + 1 + 1, .cells (th (th0)) 39), (w.heap.size + 1 + 1, .cells #[.string lS, .string lI] 24), (w.heap.size + 1, .cells #[.int .i64 ak, .int .i64 ax, .string am, .string aS, .string aI] 28), (w.heap.size, .cells (th (t)) 39)] := (M8).new' (w8.heap.size) (by rfl) (.cells (sc (sc0)) 56)
      refine hK.out _ _ ⟨N9.2.1, N9.2.2.1, N9.2.2.2.1, N9.2.2.2.2.1, N9.2.2.2.2.2.1, N9.2.2.2.2.2.2.1, N9.2.2.2.2.2.2.2.1, trivial⟩ (fun _ => ?_)
      clear hK K
      try simp only [Act.put, List.getElem_toArray, List.getElem_cons_succ, List.getElem_cons_zero, List.setIfInBounds_toArray, List.set_cons_zero, List.set_cons_succ]
      refine anyH_named ?_
      intro w9 hW9
      have hB9 : Below w.heap.size w w9 := by rw [hW9]; exact below_al hB8 _
      have M9 : Mem w9 [(w8.heap.size, .cells (sc (sc0)) 56), (w6.heap.size, .cells #[.slice fo (t.fr.n + 1) fc, .slice t.sk.a t.sk.n t.sk.c, .slice t.tr.a t.tr.n t.tr.c] 36), (w5.heap.size, .cells #[.int .i64 ak, .int .i64 ax, .string am, .string aS, .string aI] 28), (w3.heap.size, .cells (th ({ t with md := (t.md + 1), rm := (t.rm - 1) })) 39), (w.heap.size + 1 + 1 + 1, .cells (th (th0)) 39), (w.heap.size + 1 + 1, .cells #[.string lS, .string lI] 24), (w.heap.size + 1, .cells #[.int .i64 ak, .int .i64 ax, .string am, .string aS, .string aI] 28), (w.heap.size, .cells (th (t)) 39)] := by rw [hW9]; exact N9
      replace HOW := hid_own HOW (below_al (Below.refl _ w8) (.cells (sc (sc0)) 56))
      rw [show w8.alloc (.cells (sc (sc0)) 56) = w9 from hW9.symm] at HOW
      replace hX := hid_then hX (below_al (Below.refl _ w8) (.cells (sc (sc0)) 56))
      rw [show w8.alloc (.cells (sc (sc0)) 56) = w9 from hW9.symm] at hX
      clear hW9 N9
      have zz9 : w8.heap.size < w9.heap.size := Mem.lt M9.1
      refine wpAnyH_ready (rs := [2]) (by decide +kernel) (by simp) (AllReadyH.cons rfl ?_ AllReadyH.nil)
      intro K hK
      rw [if_pos (by rfl)]
      go_simp
      go_at_call 14
      refine (HL.out _ hB9).mono ?_
      rintro e w10 ⟨rfl, hb10⟩
      have hB10 := below_then hB9 hb10
      have M10 := M9.below hb10
      replace HOW := hid_own HOW hb10
      replace hX := hid_then hX hb10
      have zz10 := hb10.size
      clear hb10
      refine hK.out _ _ ⟨M10.2.1, M10.2.2.1, M10.2.2.2.1, M10.2.2.2.2.1, M10.2.2.2.2.2.1, M10.2.2.2.2.2.2.1, M10.2.2.2.2.2.2.2.1, trivial⟩ (fun _ => ?_)
      clear hK K
      try simp only [Act.put, List.getElem_toArray, List.getElem_cons_succ, List.getElem_cons_zero, List.setIfInBounds_toArray, List.set_cons_zero, List.set_cons_succ]
      refine wpAnyH_take (i := 28) (v := ?_) rfl (by decide +kernel) (by decide +kernel) (by decide +kernel) (fun _ _ _ h => h) (Or.inl ⟨by rfl, ?_⟩) ⟨M10.2.1, M10.2.2.1, M10.2.2.2.1, M10.2.2.2.2.1, M10.2.2.2.2.2.1, M10.2.2.2.2.2.2.1, M10.2.2.2.2.2.2.2.1, trivial⟩ ?_
      rotate_left
      · intro w hSw
        clear hSw
        go_simp; try (with_reducible rfl)
      try simp only [Act.put, List.setIfInBounds_toArray]
      refine wpAnyH_ready (rs := [30]) (by decide +kernel) (by simp) (AllReadyH.cons rfl ?_ AllReadyH.nil)
      intro K hK
      rw [if_pos (by rfl)]
      refine wp_store_mid 56 _ _ rfl (w8.heap.size) 0 (sc ((scNew mn nS nI tot t rm))) (by rfl) (by rfl) (there_block M10.1 (Nat.le_refl 14)) info_sc (one_sc _) ?_
      have N11 : Mem (w10.setCells (w8.heap.size) 0 (scL ((scNew mn nS nI tot t rm)))) [(w8.heap.size, .cells (sc ((scNew mn nS nI tot t rm))) 56), (w6.heap.size, .cells #[.slice fo (t.fr.n + 1) fc, .slice t.sk.a t.sk.n t.sk.c, .slice t.tr.a t.tr.n t.tr.c] 36), (w5.heap.size, .cells #[.int .i64 ak, .int .i64 ax, .string am, .string aS, .string aI] 28), (w3.heap.size, .cells (th ({ t with md := (t.md + 1), rm := (t.rm - 1) })) 39), (w.heap.size + 1 + 1 + 1, .cells (th (th0)) 39), (w.heap.size + 1 + 1, .cells #[.string lS, .string lI] 24), (w.heap.size + 1, .cells #[.int .i64 ak, .int .i64 ax, .string am, .string aS, .string aI] 28), (w.heap.size, .cells (th (t)) 39)] := ⟨set_sc M10.1 _, (setCells_other _ 0 _ _ (by omega)).trans M10.2.1, (setCells_other _ 0 _ _ (by omega)).trans M10.2.2.1, (setCells_other _ 0 _ _ (by omega)).trans M10.2.2.2.1, (setCells_other _ 0 _ _ (by omega)).trans M10.2.2.2.2.1, (setCells_other _ 0 _ _ (by omega)).trans M10.2.2.2.2.2.1, (setCells_other _ 0 _ _ (by omega)).trans M10.2.2.2.2.2.2.1, (setCells_other _ 0 _ _ (by omega)).trans M10.2.2.2.2.2.2.2.1, trivial⟩
      refine hK.out _ _ ⟨N11.2.1, N11.2.2.1, N11.2.2.2.1, N11.2.2.2.2.1, N11.2.2.2.2.2.1, N11.2.2.2.2.2.2.1, N11.2.2.2.2.2.2.2.1, trivial⟩ (fun _ => ?_)
      clear hK K
      try simp only [Act.put, List.getElem_toArray, List.getElem_cons_succ, List.getElem_cons_zero, List.set_cons_zero, List.set_cons_succ]
      refine anyH_named ?_
      intro w11 hW11
      have hB11 : Below w.heap.size w w11 := by rw [hW11]; exact below_setCells (B := w.heap.size) hB10 (b := w8.heap.size) (by have := hB10.size; omega) 0 _
      have M11 : Mem w11 [(w8.heap.size, .cells (sc ((scNew mn nS nI tot t rm))) 56), (w6.heap.size, .cells #[.slice fo (t.fr.n + 1) fc, .slice t.sk.a t.sk.n t.sk.c, .slice t.tr.a t.tr.n t.tr.c] 36), (w5.heap.size, .cells #[.int .i64 ak, .int .i64 ax, .string am, .string aS, .string aI] 28), (w3.heap.size, .cells (th ({ t with md := (t.md + 1), rm := (t.rm - 1) })) 39), (w.heap.size + 1 + 1 + 1, .cells (th (th0)) 39), (w.heap.size + 1 + 1, .cells #[.string lS, .string lI] 24), (w.heap.size + 1, .cells #[.int .i64 ak, .int .i64 ax, .string am, .string aS, .string aI] 28), (w.heap.size, .cells (th (t)) 39)] := by rw [hW11]; exact N11
      have hY := below_setCells (B := w7.heap.size) hX.out (b := w8.heap.size) (by omega) 0 (scL (scNew mn nS nI tot t rm))
      rw [show w10.setCells (w8.heap.size) 0 (scL ((scNew mn nS nI tot t rm))) = w11 from hW11.symm] at hY
      clear hW11 N11
      refine wpAnyH_done (by kernel_rfl) ?_ _
      have c11_0_0 := Mem.cell (v := .string (scNew mn nS nI tot t rm).nm) M11.1 0 rfl
      have c11_0_1 := Mem.cell (v := .string (scNew mn nS nI tot t rm).lS) M11.1 1 rfl
      have c11_0_2 := Mem.cell (v := .string (scNew mn nS nI tot t rm).lI) M11.1 2 rfl
      have c11_0_3 := Mem.cell (v := .int .i64 (scNew mn nS nI tot t rm).un) M11.1 3 rfl
      have c11_0_4 := Mem.cell (v := .int .i64 (scNew mn nS nI tot t rm).fr) M11.1 4 rfl
      have c11_0_5 := Mem.cell (v := .int .i64 (scNew mn nS nI tot t rm).ht) M11.1 5 rfl
      have c11_0_6 := Mem.cell (v := .int .i64 (scNew mn nS nI tot t rm).tr) M11.1 6 rfl
      have c11_0_7 := Mem.cell (v := .string (scNew mn nS nI tot t rm).cS) M11.1 7 rfl
      have c11_0_8 := Mem.cell (v := .string (scNew mn nS nI tot t rm).cI) M11.1 8 rfl
      have c11_0_9 := Mem.cell (v := .string (scNew mn nS nI tot t rm).kS) M11.1 9 rfl
      have c11_0_10 := Mem.cell (v := .string (scNew mn nS nI tot t rm).kI) M11.1 10 rfl
      have c11_0_11 := Mem.cell (v := .string (scNew mn nS nI tot t rm).pa) M11.1 11 rfl
      have c11_0_12 := Mem.cell (v := .int .i64 (scNew mn nS nI tot t rm).md) M11.1 12 rfl
      have c11_0_13 := Mem.cell (v := .int .i64 (scNew mn nS nI tot t rm).rm) M11.1 13 rfl
      have z11_0 := Mem.lt M11.1
      have c11_1_0 := Mem.cell (v := .slice fo (t.fr.n + 1) fc) M11.2.1 0 rfl
      have c11_1_1 := Mem.cell (v := .slice t.sk.a t.sk.n t.sk.c) M11.2.1 1 rfl
      have c11_1_2 := Mem.cell (v := .slice t.tr.a t.tr.n t.tr.c) M11.2.1 2 rfl
      have z11_1 := Mem.lt M11.2.1
      have c11_2_0 := Mem.cell (v := .int .i64 ak) M11.2.2.1 0 rfl
      have c11_2_1 := Mem.cell (v := .int .i64 ax) M11.2.2.1 1 rfl
      have c11_2_2 := Mem.cell (v := .string am) M11.2.2.1 2 rfl
      have c11_2_3 := Mem.cell (v := .string aS) M11.2.2.1 3 rfl
      have c11_2_4 := Mem.cell (v := .string aI) M11.2.2.1 4 rfl
      have z11_2 := Mem.lt M11.2.2.1
      have c11_3_0 := Mem.cell (v := .string t.id) M11.2.2.2.1 0 rfl
      have c11_3_1 := Mem.cell (v := .string t.pa) M11.2.2.2.1 1 rfl
      have c11_3_2 := Mem.cell (v := .string t.cS) M11.2.2.2.1 2 rfl
      have c11_3_3 := Mem.cell (v := .string t.cI) M11.2.2.2.1 3 rfl
      have c11_3_4 := Mem.cell (v := .string t.kS) M11.2.2.2.1 4 rfl
      have c11_3_5 := Mem.cell (v := .string t.kI) M11.2.2.2.1 5 rfl
      have c11_3_6 := Mem.cell (v := .slice t.fr.a t.fr.n t.fr.c) M11.2.2.2.1 6 rfl
      have c11_3_7 := Mem.cell (v := .slice t.sk.a t.sk.n t.sk.c) M11.2.2.2.1 7 rfl
      have c11_3_8 := Mem.cell (v := .slice t.tr.a t.tr.n t.tr.c) M11.2.2.2.1 8 rfl
      have c11_3_9 := Mem.cell (v := .slice t.sc.a t.sc.n t.sc.c) M11.2.2.2.1 9 rfl
      have c11_3_10 := Mem.cell (v := .int .i64 (t.md + 1)) M11.2.2.2.1 10 rfl
      have c11_3_11 := Mem.cell (v := .int .i64 (t.rm - 1)) M11.2.2.2.1 11 rfl
      have c11_3_12 := Mem.cell (v := .int .i64 t.st) M11.2.2.2.1 12 rfl
      have c11_3_13 := Mem.cell (v := .string t.on) M11.2.2.2.1 13 rfl
      have c11_3_14 := Mem.cell (v := .int .i64 t.vk) M11.2.2.2.1 14 rfl
      have c11_3_15 := Mem.cell (v := .int .i64 t.vx) M11.2.2.2.1 15 rfl
      have c11_3_16 := Mem.cell (v := .string t.vm) M11.2.2.2.1 16 rfl
      have c11_3_17 := Mem.cell (v := .string t.vS) M11.2.2.2.1 17 rfl
      have c11_3_18 := Mem.cell (v := .string t.vI) M11.2.2.2.1 18 rfl
      have c11_3_19 := Mem.cell (v := .bool t.ex) M11.2.2.2.1 19 rfl
      have z11_3 := Mem.lt M11.2.2.2.1
      have z11_4 := Mem.lt M11.2.2.2.2.1
      have c11_5_0 := Mem.cell (v := .string lS) M11.2.2.2.2.2.1 0 rfl
      have c11_5_1 := Mem.cell (v := .string lI) M11.2.2.2.2.2.1 1 rfl
      have z11_5 := Mem.lt M11.2.2.2.2.2.1
      have c11_6_0 := Mem.cell (v := .int .i64 ak) M11.2.2.2.2.2.2.1 0 rfl
      have c11_6_1 := Mem.cell (v := .int .i64 ax) M11.2.2.2.2.2.2.1 1 rfl
      have c11_6_2 := Mem.cell (v := .string am) M11.2.2.2.2.2.2.1 2 rfl
      have c11_6_3 := Mem.cell (v := .string aS) M11.2.2.2.2.2.2.1 3 rfl
      have c11_6_4 := Mem.cell (v := .string aI) M11.2.2.2.2.2.2.1 4 rfl
      have z11_6 := Mem.lt M11.2.2.2.2.2.2.1
      have c11_7_0 := Mem.cell (v := .string t.id) M11.2.2.2.2.2.2.2.1 0 rfl
      have c11_7_1 := Mem.cell (v := .string t.pa) M11.2.2.2.2.2.2.2.1 1 rfl
      have c11_7_2 := Mem.cell (v := .string t.cS) M11.2.2.2.2.2.2.2.1 2 rfl
      have c11_7_3 := Mem.cell (v := .string t.cI) M11.2.2.2.2.2.2.2.1 3 rfl
      have c11_7_4 := Mem.cell (v := .string t.kS) M11.2.2.2.2.2.2.2.1 4 rfl
      have c11_7_5 := Mem.cell (v := .string t.kI) M11.2.2.2.2.2.2.2.1 5 rfl
      have c11_7_6 := Mem.cell (v := .slice t.fr.a t.fr.n t.fr.c) M11.2.2.2.2.2.2.2.1 6 rfl
      have c11_7_7 := Mem.cell (v := .slice t.sk.a t.sk.n t.sk.c) M11.2.2.2.2.2.2.2.1 7 rfl
      have c11_7_8 := Mem.cell (v := .slice t.tr.a t.tr.n t.tr.c) M11.2.2.2.2.2.2.2.1 8 rfl
      have c11_7_9 := Mem.cell (v := .slice t.sc.a t.sc.n t.sc.c) M11.2.2.2.2.2.2.2.1 9 rfl
      have c11_7_10 := Mem.cell (v := .int .i64 t.md) M11.2.2.2.2.2.2.2.1 10 rfl
      have c11_7_11 := Mem.cell (v := .int .i64 t.rm) M11.2.2.2.2.2.2.2.1 11 rfl
      have c11_7_12 := Mem.cell (v := .int .i64 t.st) M11.2.2.2.2.2.2.2.1 12 rfl
      have c11_7_13 := Mem.cell (v := .string t.on) M11.2.2.2.2.2.2.2.1 13 rfl
      have c11_7_14 := Mem.cell (v := .int .i64 t.vk) M11.2.2.2.2.2.2.2.1 14 rfl
      have c11_7_15 := Mem.cell (v := .int .i64 t.vx) M11.2.2.2.2.2.2.2.1 15 rfl
      have c11_7_16 := Mem.cell (v := .string t.vm) M11.2.2.2.2.2.2.2.1 16 rfl
      have c11_7_17 := Mem.cell (v := .string t.vS) M11.2.2.2.2.2.2.2.1 17 rfl
      have c11_7_18 := Mem.cell (v := .string t.vI) M11.2.2.2.2.2.2.2.1 18 rfl
      have c11_7_19 := Mem.cell (v := .bool t.ex) M11.2.2.2.2.2.2.2.1 19 rfl
      have z11_7 := Mem.lt M11.2.2.2.2.2.2.2.1
      go_wp2_with fail
      go_meet
      exact ⟨_, rfl, by omega, hY, M11.1⟩
  case rest =>
    obtain ⟨bs, rfl, hbs, hbc, hsc⟩ := hcut
    obtain ⟨w8, rfl⟩ : ∃ x, x = wc := ⟨_, rfl⟩
    have hB8 := below_then hB7 hbc
    have M8 : Mem w8 [(bs, .cells (sc ((scNew mn nS nI tot t rm))) 56), (w6.heap.size, .cells #[.slice fo (t.fr.n + 1) fc, .slice t.sk.a t.sk.n t.sk.c, .slice t.tr.a t.tr.n t.tr.c] 36), (w5.heap.size, .cells #[.int .i64 ak, .int .i64 ax, .string am, .string aS, .string aI] 28), (w3.heap.size, .cells (th ({ t with md := (t.md + 1), rm := (t.rm - 1) })) 39), (w.heap.size + 1 + 1 + 1, .cells (th (th0)) 39), (w.heap.size + 1 + 1, .cells #[.string lS, .string lI] 24), (w.heap.size + 1, .cells #[.int .i64 ak, .int .i64 ax, .string am, .string aS, .string aI] 28), (w.heap.size, .cells (th (t)) 39)] := ⟨hsc, M7.below hbc⟩
    replace HOW := hid_own HOW hbc
    clear c7_0_0 c7_0_1 c7_0_2 z7_0 c7_1_0 c7_1_1 c7_1_2 c7_1_3 c7_1_4 z7_1 c7_2_0 c7_2_1 c7_2_2 c7_2_3 c7_2_4 c7_2_5 c7_2_6 c7_2_7 c7_2_8 c7_2_9 c7_2_10 c7_2_11 c7_2_12 c7_2_13 c7_2_14 c7_2_15 c7_2_16 c7_2_17 c7_2_18 c7_2_19 z7_2 z7_3 c7_4_0 c7_4_1 z7_4 c7_5_0 c7_5_1 c7_5_2 c7_5_3 c7_5_4 z7_5 c7_6_0 c7_6_1 c7_6_2 c7_6_3 c7_6_4 c7_6_5 c7_6_6 c7_6_7 c7_6_8 c7_6_9 c7_6_10 c7_6_11 c7_6_12 c7_6_13 c7_6_14 c7_6_15 c7_6_16 c7_6_17 c7_6_18 c7_6_19 z7_6
    have c8_0_0 := Mem.cell (v := .string (scNew mn nS nI tot t rm).nm) M8.1 0 rfl
    have c8_0_1 := Mem.cell (v := .string (scNew mn nS nI tot t rm).lS) M8.1 1 rfl
    have c8_0_2 := Mem.cell (v := .string (scNew mn nS nI tot t rm).lI) M8.1 2 rfl
    have c8_0_3 := Mem.cell (v := .int .i64 (scNew mn nS nI tot t rm).un) M8.1 3 rfl
    have c8_0_4 := Mem.cell (v := .int .i64 (scNew mn nS nI tot t rm).fr) M8.1 4 rfl
    have c8_0_5 := Mem.cell (v := .int .i64 (scNew mn nS nI tot t rm).ht) M8.1 5 rfl
    have c8_0_6 := Mem.cell (v := .int .i64 (scNew mn nS nI tot t rm).tr) M8.1 6 rfl
    have c8_0_7 := Mem.cell (v := .string (scNew mn nS nI tot t rm).cS) M8.1 7 rfl
    have c8_0_8 := Mem.cell (v := .string (scNew mn nS nI tot t rm).cI) M8.1 8 rfl
    have c8_0_9 := Mem.cell (v := .string (scNew mn nS nI tot t rm).kS) M8.1 9 rfl
    have c8_0_10 := Mem.cell (v := .string (scNew mn nS nI tot t rm).kI) M8.1 10 rfl
    have c8_0_11 := Mem.cell (v := .string (scNew mn nS nI tot t rm).pa) M8.1 11 rfl
    have c8_0_12 := Mem.cell (v := .int .i64 (scNew mn nS nI tot t rm).md) M8.1 12 rfl
    have c8_0_13 := Mem.cell (v := .int .i64 (scNew mn nS nI tot t rm).rm) M8.1 13 rfl
    have z8_0 := Mem.lt M8.1
    have c8_1_0 := Mem.cell (v := .slice fo (t.fr.n + 1) fc) M8.2.1 0 rfl
    have c8_1_1 := Mem.cell (v := .slice t.sk.a t.sk.n t.sk.c) M8.2.1 1 rfl
    have c8_1_2 := Mem.cell (v := .slice t.tr.a t.tr.n t.tr.c) M8.2.1 2 rfl
    have z8_1 := Mem.lt M8.2.1
    have c8_2_0 := Mem.cell (v := .int .i64 ak) M8.2.2.1 0 rfl
    have c8_2_1 := Mem.cell (v := .int .i64 ax) M8.2.2.1 1 rfl
    have c8_2_2 := Mem.cell (v := .string am) M8.2.2.1 2 rfl
    have c8_2_3 := Mem.cell (v := .string aS) M8.2.2.1 3 rfl
    have c8_2_4 := Mem.cell (v := .string aI) M8.2.2.1 4 rfl
    have z8_2 := Mem.lt M8.2.2.1
    have c8_3_0 := Mem.cell (v := .string t.id) M8.2.2.2.1 0 rfl
    have c8_3_1 := Mem.cell (v := .string t.pa) M8.2.2.2.1 1 rfl
    have c8_3_2 := Mem.cell (v := .string t.cS) M8.2.2.2.1 2 rfl
    have c8_3_3 := Mem.cell (v := .string t.cI) M8.2.2.2.1 3 rfl
    have c8_3_4 := Mem.cell (v := .string t.kS) M8.2.2.2.1 4 rfl
    have c8_3_5 := Mem.cell (v := .string t.kI) M8.2.2.2.1 5 rfl
    have c8_3_6 := Mem.cell (v := .slice t.fr.a t.fr.n t.fr.c) M8.2.2.2.1 6 rfl
    have c8_3_7 := Mem.cell (v := .slice t.sk.a t.sk.n t.sk.c) M8.2.2.2.1 7 rfl
    have c8_3_8 := Mem.cell (v := .slice t.tr.a t.tr.n t.tr.c) M8.2.2.2.1 8 rfl
    have c8_3_9 := Mem.cell (v := .slice t.sc.a t.sc.n t.sc.c) M8.2.2.2.1 9 rfl
    have c8_3_10 := Mem.cell (v := .int .i64 (t.md + 1)) M8.2.2.2.1 10 rfl
    have c8_3_11 := Mem.cell (v := .int .i64 (t.rm - 1)) M8.2.2.2.1 11 rfl
    have c8_3_12 := Mem.cell (v := .int .i64 t.st) M8.2.2.2.1 12 rfl
    have c8_3_13 := Mem.cell (v := .string t.on) M8.2.2.2.1 13 rfl
    have c8_3_14 := Mem.cell (v := .int .i64 t.vk) M8.2.2.2.1 14 rfl
    have c8_3_15 := Mem.cell (v := .int .i64 t.vx) M8.2.2.2.1 15 rfl
    have c8_3_16 := Mem.cell (v := .string t.vm) M8.2.2.2.1 16 rfl
    have c8_3_17 := Mem.cell (v := .string t.vS) M8.2.2.2.1 17 rfl
    have c8_3_18 := Mem.cell (v := .string t.vI) M8.2.2.2.1 18 rfl
    have c8_3_19 := Mem.cell (v := .bool t.ex) M8.2.2.2.1 19 rfl
    have z8_3 := Mem.lt M8.2.2.2.1
    have z8_4 := Mem.lt M8.2.2.2.2.1
    have c8_5_0 := Mem.cell (v := .string lS) M8.2.2.2.2.2.1 0 rfl
    have c8_5_1 := Mem.cell (v := .string lI) M8.2.2.2.2.2.1 1 rfl
    have z8_5 := Mem.lt M8.2.2.2.2.2.1
    have c8_6_0 := Mem.cell (v := .int .i64 ak) M8.2.2.2.2.2.2.1 0 rfl
    have c8_6_1 := Mem.cell (v := .int .i64 ax) M8.2.2.2.2.2.2.1 1 rfl
    have c8_6_2 := Mem.cell (v := .string am) M8.2.2.2.2.2.2.1 2 rfl
    have c8_6_3 := Mem.cell (v := .string aS) M8.2.2.2.2.2.2.1 3 rfl
    have c8_6_4 := Mem.cell (v := .string aI) M8.2.2.2.2.2.2.1 4 rfl
    have z8_6 := Mem.lt M8.2.2.2.2.2.2.1
    have c8_7_0 := Mem.cell (v := .string t.id) M8.2.2.2.2.2.2.2.1 0 rfl
    have c8_7_1 := Mem.cell (v := .string t.pa) M8.2.2.2.2.2.2.2.1 1 rfl
    have c8_7_2 := Mem.cell (v := .string t.cS) M8.2.2.2.2.2.2.2.1 2 rfl
    have c8_7_3 := Mem.cell (v := .string t.cI) M8.2.2.2.2.2.2.2.1 3 rfl
    have c8_7_4 := Mem.cell (v := .string t.kS) M8.2.2.2.2.2.2.2.1 4 rfl
    have c8_7_5 := Mem.cell (v := .string t.kI) M8.2.2.2.2.2.2.2.1 5 rfl
    have c8_7_6 := Mem.cell (v := .slice t.fr.a t.fr.n t.fr.c) M8.2.2.2.2.2.2.2.1 6 rfl
    have c8_7_7 := Mem.cell (v := .slice t.sk.a t.sk.n t.sk.c) M8.2.2.2.2.2.2.2.1 7 rfl
    have c8_7_8 := Mem.cell (v := .slice t.tr.a t.tr.n t.tr.c) M8.2.2.2.2.2.2.2.1 8 rfl
    have c8_7_9 := Mem.cell (v := .slice t.sc.a t.sc.n t.sc.c) M8.2.2.2.2.2.2.2.1 9 rfl
    have c8_7_10 := Mem.cell (v := .int .i64 t.md) M8.2.2.2.2.2.2.2.1 10 rfl
    have c8_7_11 := Mem.cell (v := .int .i64 t.rm) M8.2.2.2.2.2.2.2.1 11 rfl
    have c8_7_12 := Mem.cell (v := .int .i64 t.st) M8.2.2.2.2.2.2.2.1 12 rfl
    have c8_7_13 := Mem.cell (v := .string t.on) M8.2.2.2.2.2.2.2.1 13 rfl
    have c8_7_14 := Mem.cell (v := .int .i64 t.vk) M8.2.2.2.2.2.2.2.1 14 rfl
    have c8_7_15 := Mem.cell (v := .int .i64 t.vx) M8.2.2.2.2.2.2.2.1 15 rfl
    have c8_7_16 := Mem.cell (v := .string t.vm) M8.2.2.2.2.2.2.2.1 16 rfl
    have c8_7_17 := Mem.cell (v := .string t.vS) M8.2.2.2.2.2.2.2.1 17 rfl
    have c8_7_18 := Mem.cell (v := .string t.vI) M8.2.2.2.2.2.2.2.1 18 rfl
    have c8_7_19 := Mem.cell (v := .bool t.ex) M8.2.2.2.2.2.2.2.1 19 rfl
    have z8_7 := Mem.lt M8.2.2.2.2.2.2.2.1
    go_upto_region 15 with (fail)
    go_cut [] (fun wx => ∃ so soc, Below w.heap.size w wx ∧ wx.ownsRow W6.heap.size 104 5 (.slice fo (t.fr.n + 1) fc) (t.fr.n + 1) (xf ++ [.int .i64 fu, .int .i64 0, .int .i64 t.sk.n, .int .u8 mk, .slice va (1 + q) vc]) ∧ wx.ownsRow w6.heap.size 56 14 (.slice so (t.sc.n + 1) soc) (t.sc.n + 1) ((l.map scL).flatten ++ scL (scNew mn nS nI tot t rm)) ∧
      Mem wx [(bs, .cells (sc (scNew mn nS nI tot t rm)) 56), (w6.heap.size, .cells #[.slice fo (t.fr.n + 1) fc, .slice t.sk.a t.sk.n t.sk.c, .slice t.tr.a t.tr.n t.tr.c] 36), (w3.heap.size, .cells (th { t with md := t.md + 1, rm := t.rm - 1, sc := ⟨so, t.sc.n + 1, soc⟩ }) 39), (w.heap.size + 1 + 1 + 1, .cells (th th0) 39)])
    case first =>
      clear c8_0_0 c8_0_1 c8_0_2 c8_0_3 c8_0_4 c8_0_5 c8_0_6 c8_0_7 c8_0_8 c8_0_9 c8_0_10 c8_0_11 c8_0_12 c8_0_13 z8_0 c8_1_0 c8_1_1 c8_1_2 z8_1 c8_2_0 c8_2_1 c8_2_2 c8_2_3 c8_2_4 z8_2 c8_3_0 c8_3_1 c8_3_2 c8_3_3 c8_3_4 c8_3_5 c8_3_6 c8_3_7 c8_3_8 c8_3_9 c8_3_10 c8_3_11 c8_3_12 c8_3_13 c8_3_14 c8_3_15 c8_3_16 c8_3_17 c8_3_18 c8_3_19 z8_3 z8_4 c8_5_0 c8_5_1 z8_5 c8_6_0 c8_6_1 c8_6_2 c8_6_3 c8_6_4 z8_6 c8_7_0 c8_7_1 c8_7_2 c8_7_3 c8_7_4 c8_7_5 c8_7_6 c8_7_7 c8_7_8 c8_7_9 c8_7_10 c8_7_11 c8_7_12 c8_7_13 c8_7_14 c8_7_15 c8_7_16 c8_7_17 c8_7_18 c8_7_19 z8_7
      refine wp_region_held (S := fun w' => Mem w' [(bs, .cells (sc ((scNew mn nS nI tot t rm))) 56), (w6.heap.size, .cells #[.slice fo (t.fr.n + 1) fc, .slice t.sk.a t.sk.n t.sk.c, .slice t.tr.a t.tr.n t.tr.c] 36), (w5.heap.size, .cells #[.int .i64 ak, .int .i64 ax, .string am, .string aS, .string aI] 28), (w.heap.size + 1 + 1 + 1, .cells (th (th0)) 39), (w.heap.size + 1 + 1, .cells #[.string lS, .string lI] 24), (w.heap.size + 1, .cells #[.int .i64 ak, .int .i64 ax, .string am, .string aS, .string aI] 28), (w.heap.size, .cells (th (t)) 39)]) (by kernel_rfl) ?_
      change wpAnyH _ _ _ _ _ 8 (Array.replicate 8 false) _ w8.drew
      refine anyH_named ?_
      intro w9 hW9
      have hB9 : Below w.heap.size w w9 := by rw [hW9]; exact below_dr hB8
      have M9 : Mem w9 [(bs, .cells (sc ((scNew mn nS nI tot t rm))) 56), (w6.heap.size, .cells #[.slice fo (t.fr.n + 1) fc, .slice t.sk.a t.sk.n t.sk.c, .slice t.tr.a t.tr.n t.tr.c] 36), (w5.heap.size, .cells #[.int .i64 ak, .int .i64 ax, .string am, .string aS, .string aI] 28), (w3.heap.size, .cells (th ({ t with md := (t.md + 1), rm := (t.rm - 1) })) 39), (w.heap.size + 1 + 1 + 1, .cells (th (th0)) 39), (w.heap.size + 1 + 1, .cells #[.string lS, .string lI] 24), (w.heap.size + 1, .cells #[.int .i64 ak, .int .i64 ax, .string am, .string aS, .string aI] 28), (w.heap.size, .cells (th (t)) 39)] := by rw [hW9]; exact Mem.drew M8
      have zz9 : w8.heap.size ≤ w9.heap.size := by rw [hW9]; exact Nat.le_refl _
      replace HOW := hid_own HOW (below_dr (Below.refl _ w8))
      rw [← hW9] at HOW
      clear hW9
      have zh9_0 := Mem.lt M9.1
      have zh9_1 := Mem.lt M9.2.1
      have zh9_2 := Mem.lt M9.2.2.1
      have zh9_3 := Mem.lt M9.2.2.2.1
      have zh9_4 := Mem.lt M9.2.2.2.2.1
      have zh9_5 := Mem.lt M9.2.2.2.2.2.1
      have zh9_6 := Mem.lt M9.2.2.2.2.2.2.1
      have zh9_7 := Mem.lt M9.2.2.2.2.2.2.2.1
      refine wpAnyH_take (i := 0) (v := ?_) rfl (by decide +kernel) (by decide +kernel) (by decide +kernel) (fun _ _ _ h => h) (Or.inl ⟨by rfl, ?_⟩) ⟨M9.1, M9.2.1, M9.2.2.1, M9.2.2.2.2.1, M9.2.2.2.2.2.1, M9.2.2.2.2.2.2.1, M9.2.2.2.2.2.2.2.1, trivial⟩ ?_
      rotate_left
      · intro w hSw
        clear hSw
        go_simp; try (with_reducible rfl)
      try simp only [Act.put, List.setIfInBounds_toArray]
      refine wpAnyH_take (i := 1) (v := ?_) rfl (by decide +kernel) (by decide +kernel) (by decide +kernel) (fun _ _ _ h => h) (Or.inl ⟨by rfl, ?_⟩) ⟨M9.1, M9.2.1, M9.2.2.1, M9.2.2.2.2.1, M9.2.2.2.2.2.1, M9.2.2.2.2.2.2.1, M9.2.2.2.2.2.2.2.1, trivial⟩ ?_
      rotate_left
      · intro w hSw
        have s_9 := Mem.cell (v := .slice t.sc.a t.sc.n t.sc.c) hSw.2.2.2.2.2.2.1 9 rfl
        clear hSw
        go_simp; try (with_reducible rfl)
      try simp only [Act.put]
      refine wpAnyH_take (i := 3) (v := .agg (sc ((scNew mn nS nI tot t rm)))) rfl (by decide +kernel) (by decide +kernel) (by decide +kernel) (fun _ _ _ h => h) (yieldsIf_load_mid (by rfl) 56 _ rfl (bs) 0 (by rfl) (scL ((scNew mn nS nI tot t rm))) _ (fun w hSw => range_block hSw.1) Tryz.underlying56 rfl info_sc) ⟨M9.1, M9.2.1, M9.2.2.1, M9.2.2.2.2.1, M9.2.2.2.2.2.1, M9.2.2.2.2.2.2.1, M9.2.2.2.2.2.2.2.1, trivial⟩ ?_
      try simp only [Act.put]
      refine wpAnyH_ready (rs := [2, 4]) (by decide +kernel) (by simp) (AllReadyH.cons rfl ?_ (AllReadyH.cons rfl ?_ AllReadyH.nil))
      · skip
        intro K hK
        rw [if_pos (by rfl)]
        go_simp
        go_at_call 28
        refine (clip_any t.sc.a t.sc.n t.sc.c hscc _).mono ?_
        rintro e _ ⟨rfl, rfl⟩
        refine hK.out _ _ ⟨M9.1, M9.2.1, M9.2.2.1, M9.2.2.2.2.1, M9.2.2.2.2.2.1, M9.2.2.2.2.2.2.1, M9.2.2.2.2.2.2.2.1, trivial⟩ (fun _ => ?_)
        clear hK K
        try simp only [Act.put, List.getElem_toArray, List.getElem_cons_succ, List.getElem_cons_zero, List.setIfInBounds_toArray, List.set_cons_zero, List.set_cons_succ]
        refine wpAnyH_ready (rs := [4]) (by decide +kernel) (by simp) (AllReadyH.cons rfl ?_ AllReadyH.nil)
        intro K hK
        rw [if_pos (by rfl)]
        go_simp
        rw [fold_sc]
        have N10 : Mem (w9.alloc (.cells (sc ((scNew mn nS nI tot t rm))) 56)) [(w9.heap.size, .cells (sc ((scNew mn nS nI tot t rm))) 56), (bs, .cells (sc ((scNew mn nS nI tot t rm))) 56), (w6.heap.size, .cells #[.slice fo (t.fr.n + 1) fc, .slice t.sk.a t.sk.n t.sk.c, .slice t.tr.a t.tr.n t.tr.c] 36), (w5.heap.size, .cells #[.int .i64 ak, .int .i64 ax, .string am, .string aS, .string aI] 28), (w3.heap.size, .cells (th ({ t with md := (t.md + 1), rm := (t.rm - 1) })) 39), (w.heap.size + 1 + 1 + 1, .cells (th (th0)) 39), (w.heap.size + 1 + 1, .cells #[.string lS, .string lI] 24), (w.heap.size + 1, .cells #[.int .i64 ak, .int .i64 ax, .string am, .string aS, .string aI] 28), (w.heap.size, .cells (th (t)) 39)] := (M9).new' (w9.heap.size) (by rfl) (.cells (sc ((scNew mn nS nI tot t rm))) 56)
        refine hK.out _ _ ⟨N10.2.1, N10.2.2.1, N10.2.2.2.1, N10.2.2.2.2.2.1, N10.2.2.2.2.2.2.1, N10.2.2.2.2.2.2.2.1, N10.2.2.2.2.2.2.2.2.1, trivial⟩ (fun _ => ?_)
        clear hK K
        try simp only [Act.put, List.getElem_toArray, List.getElem_cons_succ, List.getElem_cons_zero, List.setIfInBounds_toArray, List.set_cons_zero, List.set_cons_succ]
        refine anyH_named ?_
        intro w10 hW10
        have hB10 : Below w.heap.size w w10 := by rw [hW10]; exact below_al hB9 _
        have M10 : Mem w10 [(w9.heap.size, .cells (sc ((scNew mn nS nI tot t rm))) 56), (bs, .cells (sc ((scNew mn nS nI tot t rm))) 56), (w6.heap.size, .cells #[.slice fo (t.fr.n + 1) fc, .slice t.sk.a t.sk.n t.sk.c, .slice t.tr.a t.tr.n t.tr.c] 36), (w5.heap.size, .cells #[.int .i64 ak, .int .i64 ax, .string am, .string aS, .string aI] 28), (w3.heap.size, .cells (th ({ t with md := (t.md + 1), rm := (t.rm - 1) })) 39), (w.heap.size + 1 + 1 + 1, .cells (th (th0)) 39), (w.heap.size + 1 + 1, .cells #[.string lS, .string lI] 24), (w.heap.size + 1, .cells #[.int .i64 ak, .int .i64 ax, .string am, .string aS, .string aI] 28), (w.heap.size, .cells (th (t)) 39)] := by rw [hW10]; exact N10
        replace HOW := hid_own HOW (below_al (Below.refl _ w9) (.cells (sc ((scNew mn nS nI tot t rm))) 56))
        rw [show w9.alloc (.cells (sc ((scNew mn nS nI tot t rm))) 56) = w10 from hW10.symm] at HOW
        clear hW10 N10
        have zz10 : w9.heap.size < w10.heap.size := Mem.lt M10.1
        refine wpAnyH_ready (rs := [5]) (by decide +kernel) (by simp) (AllReadyH.cons rfl ?_ AllReadyH.nil)
        intro K hK
        refine step_append_grows (by rfl) _ _ 37 (by rfl) 56 i0 _ 14 176 Tryz.underlying37 hi hz0 hz1 hz2 rfl (by omega) t.sc.a t.sc.n t.sc.n (l.map scL).flatten (by rfl) (fun h => ⟨(hsc0 h).1, (hsc0 h).1⟩) HLN.out ((HSC.out _ hB10).holds) ⟨w9.heap.size, 0, none⟩ 1 1 (scL (scNew mn nS nI tot t rm)) (by rfl) (by rfl) (World.news_of_block (cs := sc (scNew mn nS nI tot t rm)) (t := 56) (fr := (0, 0)) M10.1) (one_scL _) (by omega) (by have := HLE.out; unfold maxLen; omega) (by have := HLE.out; omega) ?_
        intro v' w' hown' hgrow
        obtain ⟨so, soc, rfl, -⟩ := rows_owned hown'
        have HO3 := Lib.hid hown'
        clear hown'
        have hb11 := (Below.refl _ w10).grown hgrow (Nat.le_refl _) (fun k hk => by cases hk)
        obtain ⟨w11, rfl⟩ : ∃ x, x = w' := ⟨_, rfl⟩
        have hB11 := below_then hB10 hb11
        have M11 := M10.below hb11
        replace HOW := hid_own HOW hb11
        have zz11 := hb11.size
        clear hb11 hgrow
        refine hK.out _ _ ⟨M11.2.1, M11.2.2.1, M11.2.2.2.1, M11.2.2.2.2.2.1, M11.2.2.2.2.2.2.1, M11.2.2.2.2.2.2.2.1, M11.2.2.2.2.2.2.2.2.1, trivial⟩ (fun _ => ?_)
        clear hK K
        try simp only [Act.put, List.getElem_toArray, List.getElem_cons_succ, List.getElem_cons_zero, List.setIfInBounds_toArray, List.set_cons_zero, List.set_cons_succ]
        refine wpAnyH_take (i := 6) (v := ?_) rfl (by decide +kernel) (by decide +kernel) (by decide +kernel) (fun _ _ _ h => h) (Or.inl ⟨by rfl, ?_⟩) ⟨M11.2.1, M11.2.2.1, M11.2.2.2.1, M11.2.2.2.2.2.1, M11.2.2.2.2.2.2.1, M11.2.2.2.2.2.2.2.1, M11.2.2.2.2.2.2.2.2.1, trivial⟩ ?_
        rotate_left
        · intro w hSw
          clear hSw
          go_simp; try (with_reducible rfl)
        try simp only [Act.put, List.setIfInBounds_toArray]
        refine wpAnyH_ready (rs := [7]) (by decide +kernel) (by simp) (AllReadyH.cons rfl ?_ AllReadyH.nil)
        intro K hK
        have f_ := fun j => Mem.free M11.2.2.2.2.1 j
        have c_0 := Mem.cell (v := .slice t.sc.a t.sc.n t.sc.c) M11.2.2.2.2.1 9 rfl
        rw [if_pos (by rfl)]
        go_simp
        clear f_ c_0
        have hX11 : (w11.setCells (w3.heap.size) 9 [.slice so (t.sc.n + 1) soc]).heap[w3.heap.size]? = some (.cells (th ({ t with md := (t.md + 1), rm := (t.rm - 1), sc := ⟨so, (t.sc.n + 1), soc⟩ })) 39) := by rw [setCells_block [.slice so (t.sc.n + 1) soc] 9 _ _ (M11.2.2.2.2.1) (by simp)]; rfl
        have N12 : Mem (w11.setCells (w3.heap.size) 9 [.slice so (t.sc.n + 1) soc]) [(w9.heap.size, .cells (sc ((scNew mn nS nI tot t rm))) 56), (bs, .cells (sc ((scNew mn nS nI tot t rm))) 56), (w6.heap.size, .cells #[.slice fo (t.fr.n + 1) fc, .slice t.sk.a t.sk.n t.sk.c, .slice t.tr.a t.tr.n t.tr.c] 36), (w5.heap.size, .cells #[.int .i64 ak, .int .i64 ax, .string am, .string aS, .string aI] 28), (w3.heap.size, .cells (th ({ t with md := (t.md + 1), rm := (t.rm - 1), sc := ⟨so, (t.sc.n + 1), soc⟩ })) 39), (w.heap.size + 1 + 1 + 1, .cells (th (th0)) 39), (w.heap.size + 1 + 1, .cells #[.string lS, .string lI] 24), (w.heap.size + 1, .cells #[.int .i64 ak, .int .i64 ax, .string am, .string aS, .string aI] 28), (w.heap.size, .cells (th (t)) 39)] := ⟨(setCells_other [.slice so (t.sc.n + 1) soc] 9 _ _ (by omega)).trans M11.1, (setCells_other [.slice so (t.sc.n + 1) soc] 9 _ _ (by omega)).trans M11.2.1, (setCells_other [.slice so (t.sc.n + 1) soc] 9 _ _ (by omega)).trans M11.2.2.1, (setCells_other [.slice so (t.sc.n + 1) soc] 9 _ _ (by omega)).trans M11.2.2.2.1, hX11, (setCells_other [.slice so (t.sc.n + 1) soc] 9 _ _ (by omega)).trans M11.2.2.2.2.2.1, (setCells_other [.slice so (t.sc.n + 1) soc] 9 _ _ (by omega)).trans M11.2.2.2.2.2.2.1, (setCells_other [.slice so (t.sc.n + 1) soc] 9 _ _ (by omega)).trans M11.2.2.2.2.2.2.2.1, (setCells_other [.slice so (t.sc.n + 1) soc] 9 _ _ (by omega)).trans M11.2.2.2.2.2.2.2.2.1, trivial⟩
        refine hK.out _ _ ⟨N12.2.1, N12.2.2.1, N12.2.2.2.1, N12.2.2.2.2.2.1, N12.2.2.2.2.2.2.1, N12.2.2.2.2.2.2.2.1, N12.2.2.2.2.2.2.2.2.1, trivial⟩ (fun _ => ?_)
        clear hK K
        refine anyH_named ?_
        intro w12 hW12
        have hB12 : Below w.heap.size w w12 := by rw [hW12]; exact below_setCells (B := w.heap.size) hB11 (b := w3.heap.size) (by have := hB11.size; omega) 9 [.slice so (t.sc.n + 1) soc]
        have M12 : Mem w12 [(w9.heap.size, .cells (sc ((scNew mn nS nI tot t rm))) 56), (bs, .cells (sc ((scNew mn nS nI tot t rm))) 56), (w6.heap.size, .cells #[.slice fo (t.fr.n + 1) fc, .slice t.sk.a t.sk.n t.sk.c, .slice t.tr.a t.tr.n t.tr.c] 36), (w5.heap.size, .cells #[.int .i64 ak, .int .i64 ax, .string am, .string aS, .string aI] 28), (w3.heap.size, .cells (th ({ t with md := (t.md + 1), rm := (t.rm - 1), sc := ⟨so, (t.sc.n + 1), soc⟩ })) 39), (w.heap.size + 1 + 1 + 1, .cells (th (th0)) 39), (w.heap.size + 1 + 1, .cells #[.string lS, .string lI] 24), (w.heap.size + 1, .cells #[.int .i64 ak, .int .i64 ax, .string am, .string aS, .string aI] 28), (w.heap.size, .cells (th (t)) 39)] := by rw [hW12]; exact N12
        have HO4 := ownsRow_set HO3.out (b := w3.heap.size) (by omega) 9 [.slice so (t.sc.n + 1) soc]
        rw [show w11.setCells (w3.heap.size) 9 [.slice so (t.sc.n + 1) soc] = w12 from hW12.symm] at HO4
        have HO5 := ownsRow_set HOW.out (b := w3.heap.size) (by have := ZZ6_1.out; omega) 9 [.slice so (t.sc.n + 1) soc]
        rw [show w11.setCells (w3.heap.size) 9 [.slice so (t.sc.n + 1) soc] = w12 from hW12.symm] at HO5
        clear hW12 N12 hX11
        refine wpAnyH_done (by kernel_rfl) ?_ _
        have c12_0_0 := Mem.cell (v := .string (scNew mn nS nI tot t rm).nm) M12.1 0 rfl
        have c12_0_1 := Mem.cell (v := .string (scNew mn nS nI tot t rm).lS) M12.1 1 rfl
        have c12_0_2 := Mem.cell (v := .string (scNew mn nS nI tot t rm).lI) M12.1 2 rfl
        have c12_0_3 := Mem.cell (v := .int .i64 (scNew mn nS nI tot t rm).un) M12.1 3 rfl
        have c12_0_4 := Mem.cell (v := .int .i64 (scNew mn nS nI tot t rm).fr) M12.1 4 rfl
        have c12_0_5 := Mem.cell (v := .int .i64 (scNew mn nS nI tot t rm).ht) M12.1 5 rfl
        have c12_0_6 := Mem.cell (v := .int .i64 (scNew mn nS nI tot t rm).tr) M12.1 6 rfl
        have c12_0_7 := Mem.cell (v := .string (scNew mn nS nI tot t rm).cS) M12.1 7 rfl
        have c12_0_8 := Mem.cell (v := .string (scNew mn nS nI tot t rm).cI) M12.1 8 rfl
        have c12_0_9 := Mem.cell (v := .string (scNew mn nS nI tot t rm).kS) M12.1 9 rfl
        have c12_0_10 := Mem.cell (v := .string (scNew mn nS nI tot t rm).kI) M12.1 10 rfl
        have c12_0_11 := Mem.cell (v := .string (scNew mn nS nI tot t rm).pa) M12.1 11 rfl
        have c12_0_12 := Mem.cell (v := .int .i64 (scNew mn nS nI tot t rm).md) M12.1 12 rfl
        have c12_0_13 := Mem.cell (v := .int .i64 (scNew mn nS nI tot t rm).rm) M12.1 13 rfl
        have z12_0 := Mem.lt M12.1
        have c12_1_0 := Mem.cell (v := .string (scNew mn nS nI tot t rm).nm) M12.2.1 0 rfl
        have c12_1_1 := Mem.cell (v := .string (scNew mn nS nI tot t rm).lS) M12.2.1 1 rfl
        have c12_1_2 := Mem.cell (v := .string (scNew mn nS nI tot t rm).lI) M12.2.1 2 rfl
        have c12_1_3 := Mem.cell (v := .int .i64 (scNew mn nS nI tot t rm).un) M12.2.1 3 rfl
        have c12_1_4 := Mem.cell (v := .int .i64 (scNew mn nS nI tot t rm).fr) M12.2.1 4 rfl
        have c12_1_5 := Mem.cell (v := .int .i64 (scNew mn nS nI tot t rm).ht) M12.2.1 5 rfl
        have c12_1_6 := Mem.cell (v := .int .i64 (scNew mn nS nI tot t rm).tr) M12.2.1 6 rfl
        have c12_1_7 := Mem.cell (v := .string (scNew mn nS nI tot t rm).cS) M12.2.1 7 rfl
        have c12_1_8 := Mem.cell (v := .string (scNew mn nS nI tot t rm).cI) M12.2.1 8 rfl
        have c12_1_9 := Mem.cell (v := .string (scNew mn nS nI tot t rm).kS) M12.2.1 9 rfl
        have c12_1_10 := Mem.cell (v := .string (scNew mn nS nI tot t rm).kI) M12.2.1 10 rfl
        have c12_1_11 := Mem.cell (v := .string (scNew mn nS nI tot t rm).pa) M12.2.1 11 rfl
        have c12_1_12 := Mem.cell (v := .int .i64 (scNew mn nS nI tot t rm).md) M12.2.1 12 rfl
        have c12_1_13 := Mem.cell (v := .int .i64 (scNew mn nS nI tot t rm).rm) M12.2.1 13 rfl
        have z12_1 := Mem.lt M12.2.1
        have c12_2_0 := Mem.cell (v := .slice fo (t.fr.n + 1) fc) M12.2.2.1 0 rfl
        have c12_2_1 := Mem.cell (v := .slice t.sk.a t.sk.n t.sk.c) M12.2.2.1 1 rfl
        have c12_2_2 := Mem.cell (v := .slice t.tr.a t.tr.n t.tr.c) M12.2.2.1 2 rfl
        have z12_2 := Mem.lt M12.2.2.1
        have c12_3_0 := Mem.cell (v := .int .i64 ak) M12.2.2.2.1 0 rfl
        have c12_3_1 := Mem.cell (v := .int .i64 ax) M12.2.2.2.1 1 rfl
        have c12_3_2 := Mem.cell (v := .string am) M12.2.2.2.1 2 rfl
        have c12_3_3 := Mem.cell (v := .string aS) M12.2.2.2.1 3 rfl
        have c12_3_4 := Mem.cell (v := .string aI) M12.2.2.2.1 4 rfl
        have z12_3 := Mem.lt M12.2.2.2.1
        have c12_4_0 := Mem.cell (v := .string t.id) M12.2.2.2.2.1 0 rfl
        have c12_4_1 := Mem.cell (v := .string t.pa) M12.2.2.2.2.1 1 rfl
        have c12_4_2 := Mem.cell (v := .string t.cS) M12.2.2.2.2.1 2 rfl
        have c12_4_3 := Mem.cell (v := .string t.cI) M12.2.2.2.2.1 3 rfl
        have c12_4_4 := Mem.cell (v := .string t.kS) M12.2.2.2.2.1 4 rfl
        have c12_4_5 := Mem.cell (v := .string t.kI) M12.2.2.2.2.1 5 rfl
        have c12_4_6 := Mem.cell (v := .slice t.fr.a t.fr.n t.fr.c) M12.2.2.2.2.1 6 rfl
        have c12_4_7 := Mem.cell (v := .slice t.sk.a t.sk.n t.sk.c) M12.2.2.2.2.1 7 rfl
        have c12_4_8 := Mem.cell (v := .slice t.tr.a t.tr.n t.tr.c) M12.2.2.2.2.1 8 rfl
        have c12_4_9 := Mem.cell (v := .slice so (t.sc.n + 1) soc) M12.2.2.2.2.1 9 rfl
        have c12_4_10 := Mem.cell (v := .int .i64 (t.md + 1)) M12.2.2.2.2.1 10 rfl
        have c12_4_11 := Mem.cell (v := .int .i64 (t.rm - 1)) M12.2.2.2.2.1 11 rfl
        have c12_4_12 := Mem.cell (v := .int .i64 t.st) M12.2.2.2.2.1 12 rfl
        have c12_4_13 := Mem.cell (v := .string t.on) M12.2.2.2.2.1 13 rfl
        have c12_4_14 := Mem.cell (v := .int .i64 t.vk) M12.2.2.2.2.1 14 rfl
        have c12_4_15 := Mem.cell (v := .int .i64 t.vx) M12.2.2.2.2.1 15 rfl
        have c12_4_16 := Mem.cell (v := .string t.vm) M12.2.2.2.2.1 16 rfl
        have c12_4_17 := Mem.cell (v := .string t.vS) M12.2.2.2.2.1 17 rfl
        have c12_4_18 := Mem.cell (v := .string t.vI) M12.2.2.2.2.1 18 rfl
        have c12_4_19 := Mem.cell (v := .bool t.ex) M12.2.2.2.2.1 19 rfl
        have z12_4 := Mem.lt M12.2.2.2.2.1
        have z12_5 := Mem.lt M12.2.2.2.2.2.1
        have c12_6_0 := Mem.cell (v := .string lS) M12.2.2.2.2.2.2.1 0 rfl
        have c12_6_1 := Mem.cell (v := .string lI) M12.2.2.2.2.2.2.1 1 rfl
        have z12_6 := Mem.lt M12.2.2.2.2.2.2.1
        have c12_7_0 := Mem.cell (v := .int .i64 ak) M12.2.2.2.2.2.2.2.1 0 rfl
        have c12_7_1 := Mem.cell (v := .int .i64 ax) M12.2.2.2.2.2.2.2.1 1 rfl
        have c12_7_2 := Mem.cell (v := .string am) M12.2.2.2.2.2.2.2.1 2 rfl
        have c12_7_3 := Mem.cell (v := .string aS) M12.2.2.2.2.2.2.2.1 3 rfl
        have c12_7_4 := Mem.cell (v := .string aI) M12.2.2.2.2.2.2.2.1 4 rfl
        have z12_7 := Mem.lt M12.2.2.2.2.2.2.2.1
        have c12_8_0 := Mem.cell (v := .string t.id) M12.2.2.2.2.2.2.2.2.1 0 rfl
        have c12_8_1 := Mem.cell (v := .string t.pa) M12.2.2.2.2.2.2.2.2.1 1 rfl
        have c12_8_2 := Mem.cell (v := .string t.cS) M12.2.2.2.2.2.2.2.2.1 2 rfl
        have c12_8_3 := Mem.cell (v := .string t.cI) M12.2.2.2.2.2.2.2.2.1 3 rfl
        have c12_8_4 := Mem.cell (v := .string t.kS) M12.2.2.2.2.2.2.2.2.1 4 rfl
        have c12_8_5 := Mem.cell (v := .string t.kI) M12.2.2.2.2.2.2.2.2.1 5 rfl
        have c12_8_6 := Mem.cell (v := .slice t.fr.a t.fr.n t.fr.c) M12.2.2.2.2.2.2.2.2.1 6 rfl
        have c12_8_7 := Mem.cell (v := .slice t.sk.a t.sk.n t.sk.c) M12.2.2.2.2.2.2.2.2.1 7 rfl
        have c12_8_8 := Mem.cell (v := .slice t.tr.a t.tr.n t.tr.c) M12.2.2.2.2.2.2.2.2.1 8 rfl
        have c12_8_9 := Mem.cell (v := .slice t.sc.a t.sc.n t.sc.c) M12.2.2.2.2.2.2.2.2.1 9 rfl
        have c12_8_10 := Mem.cell (v := .int .i64 t.md) M12.2.2.2.2.2.2.2.2.1 10 rfl
        have c12_8_11 := Mem.cell (v := .int .i64 t.rm) M12.2.2.2.2.2.2.2.2.1 11 rfl
        have c12_8_12 := Mem.cell (v := .int .i64 t.st) M12.2.2.2.2.2.2.2.2.1 12 rfl
        have c12_8_13 := Mem.cell (v := .string t.on) M12.2.2.2.2.2.2.2.2.1 13 rfl
        have c12_8_14 := Mem.cell (v := .int .i64 t.vk) M12.2.2.2.2.2.2.2.2.1 14 rfl
        have c12_8_15 := Mem.cell (v := .int .i64 t.vx) M12.2.2.2.2.2.2.2.2.1 15 rfl
        have c12_8_16 := Mem.cell (v := .string t.vm) M12.2.2.2.2.2.2.2.2.1 16 rfl
        have c12_8_17 := Mem.cell (v := .string t.vS) M12.2.2.2.2.2.2.2.2.1 17 rfl
        have c12_8_18 := Mem.cell (v := .string t.vI) M12.2.2.2.2.2.2.2.2.1 18 rfl
        have c12_8_19 := Mem.cell (v := .bool t.ex) M12.2.2.2.2.2.2.2.2.1 19 rfl
        have z12_8 := Mem.lt M12.2.2.2.2.2.2.2.2.1
        go_wp2_with fail
        go_meet
        exact ⟨so, soc, hB12, HO5, ownsRow_low HO4 (by omega), M12.2.1, M12.2.2.1, M12.2.2.2.2.1, M12.2.2.2.2.2.1, trivial⟩
      · skip
        intro K hK
        rw [if_pos (by rfl)]
        go_simp
        rw [fold_sc]
        have N10 : Mem (w9.alloc (.cells (sc ((scNew mn nS nI tot t rm))) 56)) [(w9.heap.size, .cells (sc ((scNew mn nS nI tot t rm))) 56), (bs, .cells (sc ((scNew mn nS nI tot t rm))) 56), (w6.heap.size, .cells #[.slice fo (t.fr.n + 1) fc, .slice t.sk.a t.sk.n t.sk.c, .slice t.tr.a t.tr.n t.tr.c] 36), (w5.heap.size, .cells #[.int .i64 ak, .int .i64 ax, .string am, .string aS, .string aI] 28), (w3.heap.size, .cells (th ({ t with md := (t.md + 1), rm := (t.rm - 1) })) 39), (w.heap.size + 1 + 1 + 1, .cells (th (th0)) 39), (w.heap.size + 1 + 1, .cells #[.string lS, .string lI] 24), (w.heap.size + 1, .cells #[.int .i64 ak, .int .i64 ax, .string am, .string aS, .string aI] 28), (w.heap.size, .cells (th (t)) 39)] := (M9).new' (w9.heap.size) (by rfl) (.cells (sc ((scNew mn nS nI tot t rm))) 56)
        refine hK.out _ _ ⟨N10.2.1, N10.2.2.1, N10.2.2.2.1, N10.2.2.2.2.2.1, N10.2.2.2.2.2.2.1, N10.2.2.2.2.2.2.2.1, N10.2.2.2.2.2.2.2.2.1, trivial⟩ (fun _ => ?_)
        clear hK K
        try simp only [Act.put, List.getElem_toArray, List.getElem_cons_succ, List.getElem_cons_zero, List.setIfInBounds_toArray, List.set_cons_zero, List.set_cons_succ]
        refine anyH_named ?_
        intro w10 hW10
        have hB10 : Below w.heap.size w w10 := by rw [hW10]; exact below_al hB9 _
        have M10 : Mem w10 [(w9.heap.size, .cells (sc ((scNew mn nS nI tot t rm))) 56), (bs, .cells (sc ((scNew mn nS nI tot t rm))) 56), (w6.heap.size, .cells #[.slice fo (t.fr.n + 1) fc, .slice t.sk.a t.sk.n t.sk.c, .slice t.tr.a t.tr.n t.tr.c] 36), (w5.heap.size, .cells #[.int .i64 ak, .int .i64 ax, .string am, .string aS, .string aI] 28), (w3.heap.size, .cells (th ({ t with md := (t.md + 1), rm := (t.rm - 1) })) 39), (w.heap.size + 1 + 1 + 1, .cells (th (th0)) 39), (w.heap.size + 1 + 1, .cells #[.string lS, .string lI] 24), (w.heap.size + 1, .cells #[.int .i64 ak, .int .i64 ax, .string am, .string aS, .string aI] 28), (w.heap.size, .cells (th (t)) 39)] := by rw [hW10]; exact N10
        replace HOW := hid_own HOW (below_al (Below.refl _ w9) (.cells (sc ((scNew mn nS nI tot t rm))) 56))
        rw [show w9.alloc (.cells (sc ((scNew mn nS nI tot t rm))) 56) = w10 from hW10.symm] at HOW
        clear hW10 N10
        have zz10 : w9.heap.size < w10.heap.size := Mem.lt M10.1
        refine wpAnyH_ready (rs := [2]) (by decide +kernel) (by simp) (AllReadyH.cons rfl ?_ AllReadyH.nil)
        intro K hK
        rw [if_pos (by rfl)]
        go_simp
        go_at_call 28
        refine (clip_any t.sc.a t.sc.n t.sc.c hscc _).mono ?_
        rintro e _ ⟨rfl, rfl⟩
        refine hK.out _ _ ⟨M10.2.1, M10.2.2.1, M10.2.2.2.1, M10.2.2.2.2.2.1, M10.2.2.2.2.2.2.1, M10.2.2.2.2.2.2.2.1, M10.2.2.2.2.2.2.2.2.1, trivial⟩ (fun _ => ?_)
        clear hK K
        try simp only [Act.put, List.getElem_toArray, List.getElem_cons_succ, List.getElem_cons_zero, List.setIfInBounds_toArray, List.set_cons_zero, List.set_cons_succ]
        refine wpAnyH_ready (rs := [5]) (by decide +kernel) (by simp) (AllReadyH.cons rfl ?_ AllReadyH.nil)
        intro K hK
        refine step_append_grows (by rfl) _ _ 37 (by rfl) 56 i0 _ 14 176 Tryz.underlying37 hi hz0 hz1 hz2 rfl (by omega) t.sc.a t.sc.n t.sc.n (l.map scL).flatten (by rfl) (fun h => ⟨(hsc0 h).1, (hsc0 h).1⟩) HLN.out ((HSC.out _ hB10).holds) ⟨w9.heap.size, 0, none⟩ 1 1 (scL (scNew mn nS nI tot t rm)) (by rfl) (by rfl) (World.news_of_block (cs := sc (scNew mn nS nI tot t rm)) (t := 56) (fr := (0, 0)) M10.1) (one_scL _) (by omega) (by have := HLE.out; unfold maxLen; omega) (by have := HLE.out; omega) ?_
        intro v' w' hown' hgrow
        obtain ⟨so, soc, rfl, -⟩ := rows_owned hown'
        have HO3 := Lib.hid hown'
        clear hown'
        have hb11 := (Below.refl _ w10).grown hgrow (Nat.le_refl _) (fun k hk => by cases hk)
        obtain ⟨w11, rfl⟩ : ∃ x, x = w' := ⟨_, rfl⟩
        have hB11 := below_then hB10 hb11
        have M11 := M10.below hb11
        replace HOW := hid_own HOW hb11
        have zz11 := hb11.size
        clear hb11 hgrow
        refine hK.out _ _ ⟨M11.2.1, M11.2.2.1, M11.2.2.2.1, M11.2.2.2.2.2.1, M11.2.2.2.2.2.2.1, M11.2.2.2.2.2.2.2.1, M11.2.2.2.2.2.2.2.2.1, trivial⟩ (fun _ => ?_)
        clear hK K
        try simp only [Act.put, List.getElem_toArray, List.getElem_cons_succ, List.getElem_cons_zero, List.setIfInBounds_toArray, List.set_cons_zero, List.set_cons_succ]
        refine wpAnyH_take (i := 6) (v := ?_) rfl (by decide +kernel) (by decide +kernel) (by decide +kernel) (fun _ _ _ h => h) (Or.inl ⟨by rfl, ?_⟩) ⟨M11.2.1, M11.2.2.1, M11.2.2.2.1, M11.2.2.2.2.2.1, M11.2.2.2.2.2.2.1, M11.2.2.2.2.2.2.2.1, M11.2.2.2.2.2.2.2.2.1, trivial⟩ ?_
        rotate_left
        · intro w hSw
          clear hSw
          go_simp; try (with_reducible rfl)
        try simp only [Act.put, List.setIfInBounds_toArray]
        refine wpAnyH_ready (rs := [7]) (by decide +kernel) (by simp) (AllReadyH.cons rfl ?_ AllReadyH.nil)
        intro K hK
        have f_ := fun j => Mem.free M11.2.2.2.2.1 j
        have c_0 := Mem.cell (v := .slice t.sc.a t.sc.n t.sc.c) M11.2.2.2.2.1 9 rfl
        rw [if_pos (by rfl)]
        go_simp
        clear f_ c_0
        have hX11 : (w11.setCells (w3.heap.size) 9 [.slice so (t.sc.n + 1) soc]).heap[w3.heap.size]? = some (.cells (th ({ t with md := (t.md + 1), rm := (t.rm - 1), sc := ⟨so, (t.sc.n + 1), soc⟩ })) 39) := by rw [setCells_block [.slice so (t.sc.n + 1) soc] 9 _ _ (M11.2.2.2.2.1) (by simp)]; rfl
        have N12 : Mem (w11.setCells (w3.heap.size) 9 [.slice so (t.sc.n + 1) soc]) [(w9.heap.size, .cells (sc ((scNew mn nS nI tot t rm))) 56), (bs, .cells (sc ((scNew mn nS nI tot t rm))) 56), (w6.heap.size, .cells #[.slice fo (t.fr.n + 1) fc, .slice t.sk.a t.sk.n t.sk.c, .slice t.tr.a t.tr.n t.tr.c] 36), (w5.heap.size, .cells #[.int .i64 ak, .int .i64 ax, .string am, .string aS, .string aI] 28), (w3.heap.size, .cells (th ({ t with md := (t.md + 1), rm := (t.rm - 1), sc := ⟨so, (t.sc.n + 1), soc⟩ })) 39), (w.heap.size + 1 + 1 + 1, .cells (th (th0)) 39), (w.heap.size + 1 + 1, .cells #[.string lS, .string lI] 24), (w.heap.size + 1, .cells #[.int .i64 ak, .int .i64 ax, .string am, .string aS, .string aI] 28), (w.heap.size, .cells (th (t)) 39)] := ⟨(setCells_other [.slice so (t.sc.n + 1) soc] 9 _ _ (by omega)).trans M11.1, (setCells_other [.slice so (t.sc.n + 1) soc] 9 _ _ (by omega)).trans M11.2.1, (setCells_other [.slice so (t.sc.n + 1) soc] 9 _ _ (by omega)).trans M11.2.2.1, (setCells_other [.slice so (t.sc.n + 1) soc] 9 _ _ (by omega)).trans M11.2.2.2.1, hX11, (setCells_other [.slice so (t.sc.n + 1) soc] 9 _ _ (by omega)).trans M11.2.2.2.2.2.1, (setCells_other [.slice so (t.sc.n + 1) soc] 9 _ _ (by omega)).trans M11.2.2.2.2.2.2.1, (setCells_other [.slice so (t.sc.n + 1) soc] 9 _ _ (by omega)).trans M11.2.2.2.2.2.2.2.1, (setCells_other [.slice so (t.sc.n + 1) soc] 9 _ _ (by omega)).trans M11.2.2.2.2.2.2.2.2.1, trivial⟩
        refine hK.out _ _ ⟨N12.2.1, N12.2.2.1, N12.2.2.2.1, N12.2.2.2.2.2.1, N12.2.2.2.2.2.2.1, N12.2.2.2.2.2.2.2.1, N12.2.2.2.2.2.2.2.2.1, trivial⟩ (fun _ => ?_)
        clear hK K
        refine anyH_named ?_
        intro w12 hW12
        have hB12 : Below w.heap.size w w12 := by rw [hW12]; exact below_setCells (B := w.heap.size) hB11 (b := w3.heap.size) (by have := hB11.size; omega) 9 [.slice so (t.sc.n + 1) soc]
        have M12 : Mem w12 [(w9.heap.size, .cells (sc ((scNew mn nS nI tot t rm))) 56), (bs, .cells (sc ((scNew mn nS nI tot t rm))) 56), (w6.heap.size, .cells #[.slice fo (t.fr.n + 1) fc, .slice t.sk.a t.sk.n t.sk.c, .slice t.tr.a t.tr.n t.tr.c] 36), (w5.heap.size, .cells #[.int .i64 ak, .int .i64 ax, .string am, .string aS, .string aI] 28), (w3.heap.size, .cells (th ({ t with md := (t.md + 1), rm := (t.rm - 1), sc := ⟨so, (t.sc.n + 1), soc⟩ })) 39), (w.heap.size + 1 + 1 + 1, .cells (th (th0)) 39), (w.heap.size + 1 + 1, .cells #[.string lS, .string lI] 24), (w.heap.size + 1, .cells #[.int .i64 ak, .int .i64 ax, .string am, .string aS, .string aI] 28), (w.heap.size, .cells (th (t)) 39)] := by rw [hW12]; exact N12
        have HO4 := ownsRow_set HO3.out (b := w3.heap.size) (by omega) 9 [.slice so (t.sc.n + 1) soc]
        rw [show w11.setCells (w3.heap.size) 9 [.slice so (t.sc.n + 1) soc] = w12 from hW12.symm] at HO4
        have HO5 := ownsRow_set HOW.out (b := w3.heap.size) (by have := ZZ6_1.out; omega) 9 [.slice so (t.sc.n + 1) soc]
        rw [show w11.setCells (w3.heap.size) 9 [.slice so (t.sc.n + 1) soc] = w12 from hW12.symm] at HO5
        clear hW12 N12 hX11
        refine wpAnyH_done (by kernel_rfl) ?_ _
        have c12_0_0 := Mem.cell (v := .string (scNew mn nS nI tot t rm).nm) M12.1 0 rfl
        have c12_0_1 := Mem.cell (v := .string (scNew mn nS nI tot t rm).lS) M12.1 1 rfl
        have c12_0_2 := Mem.cell (v := .string (scNew mn nS nI tot t rm).lI) M12.1 2 rfl
        have c12_0_3 := Mem.cell (v := .int .i64 (scNew mn nS nI tot t rm).un) M12.1 3 rfl
        have c12_0_4 := Mem.cell (v := .int .i64 (scNew mn nS nI tot t rm).fr) M12.1 4 rfl
        have c12_0_5 := Mem.cell (v := .int .i64 (scNew mn nS nI tot t rm).ht) M12.1 5 rfl
        have c12_0_6 := Mem.cell (v := .int .i64 (scNew mn nS nI tot t rm).tr) M12.1 6 rfl
        have c12_0_7 := Mem.cell (v := .string (scNew mn nS nI tot t rm).cS) M12.1 7 rfl
        have c12_0_8 := Mem.cell (v := .string (scNew mn nS nI tot t rm).cI) M12.1 8 rfl
        have c12_0_9 := Mem.cell (v := .string (scNew mn nS nI tot t rm).kS) M12.1 9 rfl
        have c12_0_10 := Mem.cell (v := .string (scNew mn nS nI tot t rm).kI) M12.1 10 rfl
        have c12_0_11 := Mem.cell (v := .string (scNew mn nS nI tot t rm).pa) M12.1 11 rfl
        have c12_0_12 := Mem.cell (v := .int .i64 (scNew mn nS nI tot t rm).md) M12.1 12 rfl
        have c12_0_13 := Mem.cell (v := .int .i64 (scNew mn nS nI tot t rm).rm) M12.1 13 rfl
        have z12_0 := Mem.lt M12.1
        have c12_1_0 := Mem.cell (v := .string (scNew mn nS nI tot t rm).nm) M12.2.1 0 rfl
        have c12_1_1 := Mem.cell (v := .string (scNew mn nS nI tot t rm).lS) M12.2.1 1 rfl
        have c12_1_2 := Mem.cell (v := .string (scNew mn nS nI tot t rm).lI) M12.2.1 2 rfl
        have c12_1_3 := Mem.cell (v := .int .i64 (scNew mn nS nI tot t rm).un) M12.2.1 3 rfl
        have c12_1_4 := Mem.cell (v := .int .i64 (scNew mn nS nI tot t rm).fr) M12.2.1 4 rfl
        have c12_1_5 := Mem.cell (v := .int .i64 (scNew mn nS nI tot t rm).ht) M12.2.1 5 rfl
        have c12_1_6 := Mem.cell (v := .int .i64 (scNew mn nS nI tot t rm).tr) M12.2.1 6 rfl
        have c12_1_7 := Mem.cell (v := .string (scNew mn nS nI tot t rm).cS) M12.2.1 7 rfl
        have c12_1_8 := Mem.cell (v := .string (scNew mn nS nI tot t rm).cI) M12.2.1 8 rfl
        have c12_1_9 := Mem.cell (v := .string (scNew mn nS nI tot t rm).kS) M12.2.1 9 rfl
        have c12_1_10 := Mem.cell (v := .string (scNew mn nS nI tot t rm).kI) M12.2.1 10 rfl
        have c12_1_11 := Mem.cell (v := .string (scNew mn nS nI tot t rm).pa) M12.2.1 11 rfl
        have c12_1_12 := Mem.cell (v := .int .i64 (scNew mn nS nI tot t rm).md) M12.2.1 12 rfl
        have c12_1_13 := Mem.cell (v := .int .i64 (scNew mn nS nI tot t rm).rm) M12.2.1 13 rfl
        have z12_1 := Mem.lt M12.2.1
        have c12_2_0 := Mem.cell (v := .slice fo (t.fr.n + 1) fc) M12.2.2.1 0 rfl
        have c12_2_1 := Mem.cell (v := .slice t.sk.a t.sk.n t.sk.c) M12.2.2.1 1 rfl
        have c12_2_2 := Mem.cell (v := .slice t.tr.a t.tr.n t.tr.c) M12.2.2.1 2 rfl
        have z12_2 := Mem.lt M12.2.2.1
        have c12_3_0 := Mem.cell (v := .int .i64 ak) M12.2.2.2.1 0 rfl
        have c12_3_1 := Mem.cell (v := .int .i64 ax) M12.2.2.2.1 1 rfl
        have c12_3_2 := Mem.cell (v := .string am) M12.2.2.2.1 2 rfl
        have c12_3_3 := Mem.cell (v := .string aS) M12.2.2.2.1 3 rfl
        have c12_3_4 := Mem.cell (v := .string aI) M12.2.2.2.1 4 rfl
        have z12_3 := Mem.lt M12.2.2.2.1
        have c12_4_0 := Mem.cell (v := .string t.id) M12.2.2.2.2.1 0 rfl
        have c12_4_1 := Mem.cell (v := .string t.pa) M12.2.2.2.2.1 1 rfl
        have c12_4_2 := Mem.cell (v := .string t.cS) M12.2.2.2.2.1 2 rfl
        have c12_4_3 := Mem.cell (v := .string t.cI) M12.2.2.2.2.1 3 rfl
        have c12_4_4 := Mem.cell (v := .string t.kS) M12.2.2.2.2.1 4 rfl
        have c12_4_5 := Mem.cell (v := .string t.kI) M12.2.2.2.2.1 5 rfl
        have c12_4_6 := Mem.cell (v := .slice t.fr.a t.fr.n t.fr.c) M12.2.2.2.2.1 6 rfl
        have c12_4_7 := Mem.cell (v := .slice t.sk.a t.sk.n t.sk.c) M12.2.2.2.2.1 7 rfl
        have c12_4_8 := Mem.cell (v := .slice t.tr.a t.tr.n t.tr.c) M12.2.2.2.2.1 8 rfl
        have c12_4_9 := Mem.cell (v := .slice so (t.sc.n + 1) soc) M12.2.2.2.2.1 9 rfl
        have c12_4_10 := Mem.cell (v := .int .i64 (t.md + 1)) M12.2.2.2.2.1 10 rfl
        have c12_4_11 := Mem.cell (v := .int .i64 (t.rm - 1)) M12.2.2.2.2.1 11 rfl
        have c12_4_12 := Mem.cell (v := .int .i64 t.st) M12.2.2.2.2.1 12 rfl
        have c12_4_13 := Mem.cell (v := .string t.on) M12.2.2.2.2.1 13 rfl
        have c12_4_14 := Mem.cell (v := .int .i64 t.vk) M12.2.2.2.2.1 14 rfl
        have c12_4_15 := Mem.cell (v := .int .i64 t.vx) M12.2.2.2.2.1 15 rfl
        have c12_4_16 := Mem.cell (v := .string t.vm) M12.2.2.2.2.1 16 rfl
        have c12_4_17 := Mem.cell (v := .string t.vS) M12.2.2.2.2.1 17 rfl
        have c12_4_18 := Mem.cell (v := .string t.vI) M12.2.2.2.2.1 18 rfl
        have c12_4_19 := Mem.cell (v := .bool t.ex) M12.2.2.2.2.1 19 rfl
        have z12_4 := Mem.lt M12.2.2.2.2.1
        have z12_5 := Mem.lt M12.2.2.2.2.2.1
        have c12_6_0 := Mem.cell (v := .string lS) M12.2.2.2.2.2.2.1 0 rfl
        have c12_6_1 := Mem.cell (v := .string lI) M12.2.2.2.2.2.2.1 1 rfl
        have z12_6 := Mem.lt M12.2.2.2.2.2.2.1
        have c12_7_0 := Mem.cell (v := .int .i64 ak) M12.2.2.2.2.2.2.2.1 0 rfl
        have c12_7_1 := Mem.cell (v := .int .i64 ax) M12.2.2.2.2.2.2.2.1 1 rfl
        have c12_7_2 := Mem.cell (v := .string am) M12.2.2.2.2.2.2.2.1 2 rfl
        have c12_7_3 := Mem.cell (v := .string aS) M12.2.2.2.2.2.2.2.1 3 rfl
        have c12_7_4 := Mem.cell (v := .string aI) M12.2.2.2.2.2.2.2.1 4 rfl
        have z12_7 := Mem.lt M12.2.2.2.2.2.2.2.1
        have c12_8_0 := Mem.cell (v := .string t.id) M12.2.2.2.2.2.2.2.2.1 0 rfl
        have c12_8_1 := Mem.cell (v := .string t.pa) M12.2.2.2.2.2.2.2.2.1 1 rfl
        have c12_8_2 := Mem.cell (v := .string t.cS) M12.2.2.2.2.2.2.2.2.1 2 rfl
        have c12_8_3 := Mem.cell (v := .string t.cI) M12.2.2.2.2.2.2.2.2.1 3 rfl
        have c12_8_4 := Mem.cell (v := .string t.kS) M12.2.2.2.2.2.2.2.2.1 4 rfl
        have c12_8_5 := Mem.cell (v := .string t.kI) M12.2.2.2.2.2.2.2.2.1 5 rfl
        have c12_8_6 := Mem.cell (v := .slice t.fr.a t.fr.n t.fr.c) M12.2.2.2.2.2.2.2.2.1 6 rfl
        have c12_8_7 := Mem.cell (v := .slice t.sk.a t.sk.n t.sk.c) M12.2.2.2.2.2.2.2.2.1 7 rfl
        have c12_8_8 := Mem.cell (v := .slice t.tr.a t.tr.n t.tr.c) M12.2.2.2.2.2.2.2.2.1 8 rfl
        have c12_8_9 := Mem.cell (v := .slice t.sc.a t.sc.n t.sc.c) M12.2.2.2.2.2.2.2.2.1 9 rfl
        have c12_8_10 := Mem.cell (v := .int .i64 t.md) M12.2.2.2.2.2.2.2.2.1 10 rfl
        have c12_8_11 := Mem.cell (v := .int .i64 t.rm) M12.2.2.2.2.2.2.2.2.1 11 rfl
        have c12_8_12 := Mem.cell (v := .int .i64 t.st) M12.2.2.2.2.2.2.2.2.1 12 rfl
        have c12_8_13 := Mem.cell (v := .string t.on) M12.2.2.2.2.2.2.2.2.1 13 rfl
        have c12_8_14 := Mem.cell (v := .int .i64 t.vk) M12.2.2.2.2.2.2.2.2.1 14 rfl
        have c12_8_15 := Mem.cell (v := .int .i64 t.vx) M12.2.2.2.2.2.2.2.2.1 15 rfl
        have c12_8_16 := Mem.cell (v := .string t.vm) M12.2.2.2.2.2.2.2.2.1 16 rfl
        have c12_8_17 := Mem.cell (v := .string t.vS) M12.2.2.2.2.2.2.2.2.1 17 rfl
        have c12_8_18 := Mem.cell (v := .string t.vI) M12.2.2.2.2.2.2.2.2.1 18 rfl
        have c12_8_19 := Mem.cell (v := .bool t.ex) M12.2.2.2.2.2.2.2.2.1 19 rfl
        have z12_8 := Mem.lt M12.2.2.2.2.2.2.2.2.1
        go_wp2_with fail
        go_meet
        exact ⟨so, soc, hB12, HO5, ownsRow_low HO4 (by omega), M12.2.1, M12.2.2.1, M12.2.2.2.2.1, M12.2.2.2.2.2.1, trivial⟩
    case rest =>
      obtain ⟨so, soc, hBx, hOx, hSx, hMx⟩ := hcut
      have HOF := Lib.hid hOx
      have HOS := Lib.hid hSx
      clear hOx hSx
      obtain ⟨w9, rfl⟩ : ∃ x, x = wc := ⟨_, rfl⟩
      have hB9 := hBx
      have M9 := hMx
      clear hMx hBx
      have c9_0_0 := Mem.cell (v := .string (scNew mn nS nI tot t rm).nm) M9.1 0 rfl
      have c9_0_1 := Mem.cell (v := .string (scNew mn nS nI tot t rm).lS) M9.1 1 rfl
      have c9_0_2 := Mem.cell (v := .string (scNew mn nS nI tot t rm).lI) M9.1 2 rfl
      have c9_0_3 := Mem.cell (v := .int .i64 (scNew mn nS nI tot t rm).un) M9.1 3 rfl
      have c9_0_4 := Mem.cell (v := .int .i64 (scNew mn nS nI tot t rm).fr) M9.1 4 rfl
      have c9_0_5 := Mem.cell (v := .int .i64 (scNew mn nS nI tot t rm).ht) M9.1 5 rfl
      have c9_0_6 := Mem.cell (v := .int .i64 (scNew mn nS nI tot t rm).tr) M9.1 6 rfl
      have c9_0_7 := Mem.cell (v := .string (scNew mn nS nI tot t rm).cS) M9.1 7 rfl
      have c9_0_8 := Mem.cell (v := .string (scNew mn nS nI tot t rm).cI) M9.1 8 rfl
      have c9_0_9 := Mem.cell (v := .string (scNew mn nS nI tot t rm).kS) M9.1 9 rfl
      have c9_0_10 := Mem.cell (v := .string (scNew mn nS nI tot t rm).kI) M9.1 10 rfl
      have c9_0_11 := Mem.cell (v := .string (scNew mn nS nI tot t rm).pa) M9.1 11 rfl
      have c9_0_12 := Mem.cell (v := .int .i64 (scNew mn nS nI tot t rm).md) M9.1 12 rfl
      have c9_0_13 := Mem.cell (v := .int .i64 (scNew mn nS nI tot t rm).rm) M9.1 13 rfl
      have z9_0 := Mem.lt M9.1
      have c9_1_0 := Mem.cell (v := .slice fo (t.fr.n + 1) fc) M9.2.1 0 rfl
      have c9_1_1 := Mem.cell (v := .slice t.sk.a t.sk.n t.sk.c) M9.2.1 1 rfl
      have c9_1_2 := Mem.cell (v := .slice t.tr.a t.tr.n t.tr.c) M9.2.1 2 rfl
      have z9_1 := Mem.lt M9.2.1
      have c9_2_0 := Mem.cell (v := .string t.id) M9.2.2.1 0 rfl
      have c9_2_1 := Mem.cell (v := .string t.pa) M9.2.2.1 1 rfl
      have c9_2_2 := Mem.cell (v := .string t.cS) M9.2.2.1 2 rfl
      have c9_2_3 := Mem.cell (v := .string t.cI) M9.2.2.1 3 rfl
      have c9_2_4 := Mem.cell (v := .string t.kS) M9.2.2.1 4 rfl
      have c9_2_5 := Mem.cell (v := .string t.kI) M9.2.2.1 5 rfl
      have c9_2_6 := Mem.cell (v := .slice t.fr.a t.fr.n t.fr.c) M9.2.2.1 6 rfl
      have c9_2_7 := Mem.cell (v := .slice t.sk.a t.sk.n t.sk.c) M9.2.2.1 7 rfl
      have c9_2_8 := Mem.cell (v := .slice t.tr.a t.tr.n t.tr.c) M9.2.2.1 8 rfl
      have c9_2_9 := Mem.cell (v := .slice so (t.sc.n + 1) soc) M9.2.2.1 9 rfl
      have c9_2_10 := Mem.cell (v := .int .i64 (t.md + 1)) M9.2.2.1 10 rfl
      have c9_2_11 := Mem.cell (v := .int .i64 (t.rm - 1)) M9.2.2.1 11 rfl
      have c9_2_12 := Mem.cell (v := .int .i64 t.st) M9.2.2.1 12 rfl
      have c9_2_13 := Mem.cell (v := .string t.on) M9.2.2.1 13 rfl
      have c9_2_14 := Mem.cell (v := .int .i64 t.vk) M9.2.2.1 14 rfl
      have c9_2_15 := Mem.cell (v := .int .i64 t.vx) M9.2.2.1 15 rfl
      have c9_2_16 := Mem.cell (v := .string t.vm) M9.2.2.1 16 rfl
      have c9_2_17 := Mem.cell (v := .string t.vS) M9.2.2.1 17 rfl
      have c9_2_18 := Mem.cell (v := .string t.vI) M9.2.2.1 18 rfl
      have c9_2_19 := Mem.cell (v := .bool t.ex) M9.2.2.1 19 rfl
      have z9_2 := Mem.lt M9.2.2.1
      have z9_3 := Mem.lt M9.2.2.2.1
      go_upto_region 16 with (fail)
      have f9 := fun j => Mem.free M9.2.2.1 j
      have hco := fun (W : World) (o o' : Nat) (v : Value) => cell_other (b := w6.heap.size) (b' := w3.heap.size) (by omega) W o o' v
      have hco2 := fun (W : World) (o o' : Nat) (v : Value) => cell_other (b := bs) (b' := w3.heap.size) (by omega) W o o' v
      have hbs2 : w3.heap.size < bs := by omega
      go_region_held3 (fun w' => w'.cell? ⟨w6.heap.size, 0, none⟩ = some (.slice fo (t.fr.n + 1) fc) ∧ w'.cell? ⟨w6.heap.size, 1, none⟩ = some (.slice t.sk.a t.sk.n t.sk.c) ∧ w'.cell? ⟨w6.heap.size, 2, none⟩ = some (.slice t.tr.a t.tr.n t.tr.c) ∧ w'.cell? ⟨bs, 1, none⟩ = some (.string (scNew mn nS nI tot t rm).lS) ∧ w'.cell? ⟨bs, 2, none⟩ = some (.string (scNew mn nS nI tot t rm).lI))
        (go_keep)
        (fail)
      have hX9_0 : (w9.setCells (w3.heap.size) 6 [.slice fo (t.fr.n + 1) fc, .slice t.sk.a t.sk.n t.sk.c, .slice t.tr.a t.tr.n t.tr.c]).heap[w3.heap.size]? = some (.cells (th ({ t with md := (t.md + 1), rm := (t.rm - 1), sc := ⟨so, t.sc.n + 1, soc⟩, fr := ⟨fo, (t.fr.n + 1), fc⟩, sk := ⟨t.sk.a, t.sk.n, t.sk.c⟩, tr := ⟨t.tr.a, t.tr.n, t.tr.c⟩ })) 39) := by rw [setCells_block [.slice fo (t.fr.n + 1) fc, .slice t.sk.a t.sk.n t.sk.c, .slice t.tr.a t.tr.n t.tr.c] 6 _ _ (M9.2.2.1) (by simp)]; rfl
      have hY9_0 := below_setCells (B := w.heap.size) hB9 (b := w3.heap.size) (by have := hB9.size; omega) 6 [.slice fo (t.fr.n + 1) fc, .slice t.sk.a t.sk.n t.sk.c, .slice t.tr.a t.tr.n t.tr.c]
      have hX9_1 : ((w9.setCells (w3.heap.size) 6 [.slice fo (t.fr.n + 1) fc, .slice t.sk.a t.sk.n t.sk.c, .slice t.tr.a t.tr.n t.tr.c]).setCells (w3.heap.size) 4 [.string nS, .string nI]).heap[w3.heap.size]? = some (.cells (th ({ t with md := (t.md + 1), rm := (t.rm - 1), sc := ⟨so, t.sc.n + 1, soc⟩, fr := ⟨fo, (t.fr.n + 1), fc⟩, sk := ⟨t.sk.a, t.sk.n, t.sk.c⟩, tr := ⟨t.tr.a, t.tr.n, t.tr.c⟩, kS := nS, kI := nI })) 39) := by rw [setCells_block [.string nS, .string nI] 4 _ _ (hX9_0) (by simp)]; rfl
      have hY9_1 := below_setCells (B := w.heap.size) hY9_0 (b := w3.heap.size) (by have := hB9.size; omega) 4 [.string nS, .string nI]
      obtain ⟨w10, hW10⟩ : ∃ x, x = ((w9.setCells (w3.heap.size) 6 [.slice fo (t.fr.n + 1) fc, .slice t.sk.a t.sk.n t.sk.c, .slice t.tr.a t.tr.n t.tr.c]).setCells (w3.heap.size) 4 [.string nS, .string nI]).drew := ⟨_, rfl⟩
      refine at_world hW10 ?_
      rename_i hHeld_; clear hHeld_
      have hB10 : Below w.heap.size w w10 := by rw [hW10]; exact below_dr hY9_1
      have M10 : Mem w10 [(bs, .cells (sc ((scNew mn nS nI tot t rm))) 56), (w6.heap.size, .cells #[.slice fo (t.fr.n + 1) fc, .slice t.sk.a t.sk.n t.sk.c, .slice t.tr.a t.tr.n t.tr.c] 36), (w3.heap.size, .cells (th ({ t with md := (t.md + 1), rm := (t.rm - 1), sc := ⟨so, t.sc.n + 1, soc⟩, fr := ⟨fo, (t.fr.n + 1), fc⟩, sk := ⟨t.sk.a, t.sk.n, t.sk.c⟩, tr := ⟨t.tr.a, t.tr.n, t.tr.c⟩, kS := nS, kI := nI })) 39), (w.heap.size + 1 + 1 + 1, .cells (th (th0)) 39)] := by rw [hW10]; exact Mem.drew ⟨(setCells_other [.string nS, .string nI] 4 _ _ (by omega)).trans ((setCells_other [.slice fo (t.fr.n + 1) fc, .slice t.sk.a t.sk.n t.sk.c, .slice t.tr.a t.tr.n t.tr.c] 6 _ _ (by omega)).trans (M9.1)), (setCells_other [.string nS, .string nI] 4 _ _ (by omega)).trans ((setCells_other [.slice fo (t.fr.n + 1) fc, .slice t.sk.a t.sk.n t.sk.c, .slice t.tr.a t.tr.n t.tr.c] 6 _ _ (by omega)).trans (M9.2.1)), hX9_1, (setCells_other [.string nS, .string nI] 4 _ _ (by omega)).trans ((setCells_other [.slice fo (t.fr.n + 1) fc, .slice t.sk.a t.sk.n t.sk.c, .slice t.tr.a t.tr.n t.tr.c] 6 _ _ (by omega)).trans (M9.2.2.2.1)), trivial⟩
      have HOF2 := Lib.hid (ownsRow_set (ownsRow_set HOF.out (b := w3.heap.size) (by have := ZZ6_1.out; omega) 6 [.slice fo (t.fr.n + 1) fc, .slice t.sk.a t.sk.n t.sk.c, .slice t.tr.a t.tr.n t.tr.c]) (b := w3.heap.size) (by have := ZZ6_1.out; omega) 4 [.string nS, .string nI]).drew
      rw [show ((w9.setCells (w3.heap.size) 6 [.slice fo (t.fr.n + 1) fc, .slice t.sk.a t.sk.n t.sk.c, .slice t.tr.a t.tr.n t.tr.c]).setCells (w3.heap.size) 4 [.string nS, .string nI]).drew = w10 from hW10.symm] at HOF2
      have HOS2 := Lib.hid (ownsRow_set (ownsRow_set HOS.out (b := w3.heap.size) (by omega) 6 [.slice fo (t.fr.n + 1) fc, .slice t.sk.a t.sk.n t.sk.c, .slice t.tr.a t.tr.n t.tr.c]) (b := w3.heap.size) (by omega) 4 [.string nS, .string nI]).drew
      rw [show ((w9.setCells (w3.heap.size) 6 [.slice fo (t.fr.n + 1) fc, .slice t.sk.a t.sk.n t.sk.c, .slice t.tr.a t.tr.n t.tr.c]).setCells (w3.heap.size) 4 [.string nS, .string nI]).drew = w10 from hW10.symm] at HOS2
      clear c9_0_0 c9_0_1 c9_0_2 c9_0_3 c9_0_4 c9_0_5 c9_0_6 c9_0_7 c9_0_8 c9_0_9 c9_0_10 c9_0_11 c9_0_12 c9_0_13 z9_0 c9_1_0 c9_1_1 c9_1_2 z9_1 c9_2_0 c9_2_1 c9_2_2 c9_2_3 c9_2_4 c9_2_5 c9_2_6 c9_2_7 c9_2_8 c9_2_9 c9_2_10 c9_2_11 c9_2_12 c9_2_13 c9_2_14 c9_2_15 c9_2_16 c9_2_17 c9_2_18 c9_2_19 z9_2 z9_3
      clear hW10 hX9_0 hY9_0 hX9_1 hY9_1
      have c10_0_0 := Mem.cell (v := .string (scNew mn nS nI tot t rm).nm) M10.1 0 rfl
      have c10_0_1 := Mem.cell (v := .string (scNew mn nS nI tot t rm).lS) M10.1 1 rfl
      have c10_0_2 := Mem.cell (v := .string (scNew mn nS nI tot t rm).lI) M10.1 2 rfl
      have c10_0_3 := Mem.cell (v := .int .i64 (scNew mn nS nI tot t rm).un) M10.1 3 rfl
      have c10_0_4 := Mem.cell (v := .int .i64 (scNew mn nS nI tot t rm).fr) M10.1 4 rfl
      have c10_0_5 := Mem.cell (v := .int .i64 (scNew mn nS nI tot t rm).ht) M10.1 5 rfl
      have c10_0_6 := Mem.cell (v := .int .i64 (scNew mn nS nI tot t rm).tr) M10.1 6 rfl
      have c10_0_7 := Mem.cell (v := .string (scNew mn nS nI tot t rm).cS) M10.1 7 rfl
      have c10_0_8 := Mem.cell (v := .string (scNew mn nS nI tot t rm).cI) M10.1 8 rfl
      have c10_0_9 := Mem.cell (v := .string (scNew mn nS nI tot t rm).kS) M10.1 9 rfl
      have c10_0_10 := Mem.cell (v := .string (scNew mn nS nI tot t rm).kI) M10.1 10 rfl
      have c10_0_11 := Mem.cell (v := .string (scNew mn nS nI tot t rm).pa) M10.1 11 rfl
      have c10_0_12 := Mem.cell (v := .int .i64 (scNew mn nS nI tot t rm).md) M10.1 12 rfl
      have c10_0_13 := Mem.cell (v := .int .i64 (scNew mn nS nI tot t rm).rm) M10.1 13 rfl
      have z10_0 := Mem.lt M10.1
      have c10_1_0 := Mem.cell (v := .slice fo (t.fr.n + 1) fc) M10.2.1 0 rfl
      have c10_1_1 := Mem.cell (v := .slice t.sk.a t.sk.n t.sk.c) M10.2.1 1 rfl
      have c10_1_2 := Mem.cell (v := .slice t.tr.a t.tr.n t.tr.c) M10.2.1 2 rfl
      have z10_1 := Mem.lt M10.2.1
      have c10_2_0 := Mem.cell (v := .string t.id) M10.2.2.1 0 rfl
      have c10_2_1 := Mem.cell (v := .string t.pa) M10.2.2.1 1 rfl
      have c10_2_2 := Mem.cell (v := .string t.cS) M10.2.2.1 2 rfl
      have c10_2_3 := Mem.cell (v := .string t.cI) M10.2.2.1 3 rfl
      have c10_2_4 := Mem.cell (v := .string nS) M10.2.2.1 4 rfl
      have c10_2_5 := Mem.cell (v := .string nI) M10.2.2.1 5 rfl
      have c10_2_6 := Mem.cell (v := .slice fo (t.fr.n + 1) fc) M10.2.2.1 6 rfl
      have c10_2_7 := Mem.cell (v := .slice t.sk.a t.sk.n t.sk.c) M10.2.2.1 7 rfl
      have c10_2_8 := Mem.cell (v := .slice t.tr.a t.tr.n t.tr.c) M10.2.2.1 8 rfl
      have c10_2_9 := Mem.cell (v := .slice so (t.sc.n + 1) soc) M10.2.2.1 9 rfl
      have c10_2_10 := Mem.cell (v := .int .i64 (t.md + 1)) M10.2.2.1 10 rfl
      have c10_2_11 := Mem.cell (v := .int .i64 (t.rm - 1)) M10.2.2.1 11 rfl
      have c10_2_12 := Mem.cell (v := .int .i64 t.st) M10.2.2.1 12 rfl
      have c10_2_13 := Mem.cell (v := .string t.on) M10.2.2.1 13 rfl
      have c10_2_14 := Mem.cell (v := .int .i64 t.vk) M10.2.2.1 14 rfl
      have c10_2_15 := Mem.cell (v := .int .i64 t.vx) M10.2.2.1 15 rfl
      have c10_2_16 := Mem.cell (v := .string t.vm) M10.2.2.1 16 rfl
      have c10_2_17 := Mem.cell (v := .string t.vS) M10.2.2.1 17 rfl
      have c10_2_18 := Mem.cell (v := .string t.vI) M10.2.2.1 18 rfl
      have c10_2_19 := Mem.cell (v := .bool t.ex) M10.2.2.1 19 rfl
      have z10_2 := Mem.lt M10.2.2.1
      have z10_3 := Mem.lt M10.2.2.2.1
      clear f9 hco hco2
      have f10 := fun j => Mem.free M10.2.2.1 j
      go_upto_region 18 with (fail)
      clear f10
      have hX10_0 : (w10.setCells (w3.heap.size) 1 [.string mn]).heap[w3.heap.size]? = some (.cells (th ({ t with md := (t.md + 1), rm := (t.rm - 1), sc := ⟨so, t.sc.n + 1, soc⟩, fr := ⟨fo, (t.fr.n + 1), fc⟩, sk := ⟨t.sk.a, t.sk.n, t.sk.c⟩, tr := ⟨t.tr.a, t.tr.n, t.tr.c⟩, kS := nS, kI := nI, pa := mn })) 39) := by rw [setCells_block [.string mn] 1 _ _ ((M10).2.2.1) (by simp)]; rfl
      have hY10_0 := below_setCells (B := w.heap.size) hB10 (b := w3.heap.size) (by have := hB10.size; omega) 1 [.string mn]
      have hX10_1 : ((w10.setCells (w3.heap.size) 1 [.string mn]).setCells (w3.heap.size) 10 [.int .i64 0]).heap[w3.heap.size]? = some (.cells (th ({ t with md := 0, rm := (t.rm - 1), sc := ⟨so, t.sc.n + 1, soc⟩, fr := ⟨fo, (t.fr.n + 1), fc⟩, sk := ⟨t.sk.a, t.sk.n, t.sk.c⟩, tr := ⟨t.tr.a, t.tr.n, t.tr.c⟩, kS := nS, kI := nI, pa := mn })) 39) := by rw [setCells_block [.int .i64 0] 10 _ _ (hX10_0) (by simp)]; rfl
      have hY10_1 := below_setCells (B := w.heap.size) hY10_0 (b := w3.heap.size) (by have := hB10.size; omega) 10 [.int .i64 0]
      have hX10_2 : (((w10.setCells (w3.heap.size) 1 [.string mn]).setCells (w3.heap.size) 10 [.int .i64 0]).setCells (w3.heap.size) 11 [.int .i64 rm]).heap[w3.heap.size]? = some (.cells (th ({ t with md := 0, rm := rm, sc := ⟨so, t.sc.n + 1, soc⟩, fr := ⟨fo, (t.fr.n + 1), fc⟩, sk := ⟨t.sk.a, t.sk.n, t.sk.c⟩, tr := ⟨t.tr.a, t.tr.n, t.tr.c⟩, kS := nS, kI := nI, pa := mn })) 39) := by rw [setCells_block [.int .i64 rm] 11 _ _ (hX10_1) (by simp)]; rfl
      have hY10_2 := below_setCells (B := w.heap.size) hY10_1 (b := w3.heap.size) (by have := hB10.size; omega) 11 [.int .i64 rm]
      refine wp_named ?_
      intro w11 hW11
      have hB11 : Below w.heap.size w w11 := by rw [hW11]; exact hY10_2
      have M11 : Mem w11 [(bs, .cells (sc ((scNew mn nS nI tot t rm))) 56), (w6.heap.size, .cells #[.slice fo (t.fr.n + 1) fc, .slice t.sk.a t.sk.n t.sk.c, .slice t.tr.a t.tr.n t.tr.c] 36), (w3.heap.size, .cells (th ({ t with md := 0, rm := rm, sc := ⟨so, t.sc.n + 1, soc⟩, fr := ⟨fo, (t.fr.n + 1), fc⟩, sk := ⟨t.sk.a, t.sk.n, t.sk.c⟩, tr := ⟨t.tr.a, t.tr.n, t.tr.c⟩, kS := nS, kI := nI, pa := mn })) 39), (w.heap.size + 1 + 1 + 1, .cells (th (th0)) 39)] := by rw [hW11]; exact ⟨(setCells_other [.int .i64 rm] 11 _ _ (by omega)).trans ((setCells_other [.int .i64 0] 10 _ _ (by omega)).trans ((setCells_other [.string mn] 1 _ _ (by omega)).trans ((M10).1))), (setCells_other [.int .i64 rm] 11 _ _ (by omega)).trans ((setCells_other [.int .i64 0] 10 _ _ (by omega)).trans ((setCells_other [.string mn] 1 _ _ (by omega)).trans ((M10).2.1))), hX10_2, (setCells_other [.int .i64 rm] 11 _ _ (by omega)).trans ((setCells_other [.int .i64 0] 10 _ _ (by omega)).trans ((setCells_other [.string mn] 1 _ _ (by omega)).trans ((M10).2.2.2.1))), trivial⟩
      have HOF3 := Lib.hid (ownsRow_set (ownsRow_set (ownsRow_set HOF2.out (b := w3.heap.size) (by have := ZZ6_1.out; omega) 1 [.string mn]) (b := w3.heap.size) (by have := ZZ6_1.out; omega) 10 [.int .i64 0]) (b := w3.heap.size) (by have := ZZ6_1.out; omega) 11 [.int .i64 rm])
      rw [show (((w10.setCells (w3.heap.size) 1 [.string mn]).setCells (w3.heap.size) 10 [.int .i64 0]).setCells (w3.heap.size) 11 [.int .i64 rm]) = w11 from hW11.symm] at HOF3
      have HOS3 := Lib.hid (ownsRow_set (ownsRow_set (ownsRow_set HOS2.out (b := w3.heap.size) (by omega) 1 [.string mn]) (b := w3.heap.size) (by omega) 10 [.int .i64 0]) (b := w3.heap.size) (by omega) 11 [.int .i64 rm])
      rw [show (((w10.setCells (w3.heap.size) 1 [.string mn]).setCells (w3.heap.size) 10 [.int .i64 0]).setCells (w3.heap.size) 11 [.int .i64 rm]) = w11 from hW11.symm] at HOS3
      clear c10_0_0 c10_0_1 c10_0_2 c10_0_3 c10_0_4 c10_0_5 c10_0_6 c10_0_7 c10_0_8 c10_0_9 c10_0_10 c10_0_11 c10_0_12 c10_0_13 z10_0 c10_1_0 c10_1_1 c10_1_2 z10_1 c10_2_0 c10_2_1 c10_2_2 c10_2_3 c10_2_4 c10_2_5 c10_2_6 c10_2_7 c10_2_8 c10_2_9 c10_2_10 c10_2_11 c10_2_12 c10_2_13 c10_2_14 c10_2_15 c10_2_16 c10_2_17 c10_2_18 c10_2_19 z10_2 z10_3
      clear hW11 hX10_0 hY10_0 hX10_1 hY10_1 hX10_2 hY10_2
      have c11_0_0 := Mem.cell (v := .string (scNew mn nS nI tot t rm).nm) M11.1 0 rfl
      have c11_0_1 := Mem.cell (v := .string (scNew mn nS nI tot t rm).lS) M11.1 1 rfl
      have c11_0_2 := Mem.cell (v := .string (scNew mn nS nI tot t rm).lI) M11.1 2 rfl
      have c11_0_3 := Mem.cell (v := .int .i64 (scNew mn nS nI tot t rm).un) M11.1 3 rfl
      have c11_0_4 := Mem.cell (v := .int .i64 (scNew mn nS nI tot t rm).fr) M11.1 4 rfl
      have c11_0_5 := Mem.cell (v := .int .i64 (scNew mn nS nI tot t rm).ht) M11.1 5 rfl
      have c11_0_6 := Mem.cell (v := .int .i64 (scNew mn nS nI tot t rm).tr) M11.1 6 rfl
      have c11_0_7 := Mem.cell (v := .string (scNew mn nS nI tot t rm).cS) M11.1 7 rfl
      have c11_0_8 := Mem.cell (v := .string (scNew mn nS nI tot t rm).cI) M11.1 8 rfl
      have c11_0_9 := Mem.cell (v := .string (scNew mn nS nI tot t rm).kS) M11.1 9 rfl
      have c11_0_10 := Mem.cell (v := .string (scNew mn nS nI tot t rm).kI) M11.1 10 rfl
      have c11_0_11 := Mem.cell (v := .string (scNew mn nS nI tot t rm).pa) M11.1 11 rfl
      have c11_0_12 := Mem.cell (v := .int .i64 (scNew mn nS nI tot t rm).md) M11.1 12 rfl
      have c11_0_13 := Mem.cell (v := .int .i64 (scNew mn nS nI tot t rm).rm) M11.1 13 rfl
      have z11_0 := Mem.lt M11.1
      have c11_1_0 := Mem.cell (v := .slice fo (t.fr.n + 1) fc) M11.2.1 0 rfl
      have c11_1_1 := Mem.cell (v := .slice t.sk.a t.sk.n t.sk.c) M11.2.1 1 rfl
      have c11_1_2 := Mem.cell (v := .slice t.tr.a t.tr.n t.tr.c) M11.2.1 2 rfl
      have z11_1 := Mem.lt M11.2.1
      have c11_2_0 := Mem.cell (v := .string t.id) M11.2.2.1 0 rfl
      have c11_2_1 := Mem.cell (v := .string mn) M11.2.2.1 1 rfl
      have c11_2_2 := Mem.cell (v := .string t.cS) M11.2.2.1 2 rfl
      have c11_2_3 := Mem.cell (v := .string t.cI) M11.2.2.1 3 rfl
      have c11_2_4 := Mem.cell (v := .string nS) M11.2.2.1 4 rfl
      have c11_2_5 := Mem.cell (v := .string nI) M11.2.2.1 5 rfl
      have c11_2_6 := Mem.cell (v := .slice fo (t.fr.n + 1) fc) M11.2.2.1 6 rfl
      have c11_2_7 := Mem.cell (v := .slice t.sk.a t.sk.n t.sk.c) M11.2.2.1 7 rfl
      have c11_2_8 := Mem.cell (v := .slice t.tr.a t.tr.n t.tr.c) M11.2.2.1 8 rfl
      have c11_2_9 := Mem.cell (v := .slice so (t.sc.n + 1) soc) M11.2.2.1 9 rfl
      have c11_2_10 := Mem.cell (v := .int .i64 0) M11.2.2.1 10 rfl
      have c11_2_11 := Mem.cell (v := .int .i64 rm) M11.2.2.1 11 rfl
      have c11_2_12 := Mem.cell (v := .int .i64 t.st) M11.2.2.1 12 rfl
      have c11_2_13 := Mem.cell (v := .string t.on) M11.2.2.1 13 rfl
      have c11_2_14 := Mem.cell (v := .int .i64 t.vk) M11.2.2.1 14 rfl
      have c11_2_15 := Mem.cell (v := .int .i64 t.vx) M11.2.2.1 15 rfl
      have c11_2_16 := Mem.cell (v := .string t.vm) M11.2.2.1 16 rfl
      have c11_2_17 := Mem.cell (v := .string t.vS) M11.2.2.1 17 rfl
      have c11_2_18 := Mem.cell (v := .string t.vI) M11.2.2.1 18 rfl
      have c11_2_19 := Mem.cell (v := .bool t.ex) M11.2.2.1 19 rfl
      have z11_2 := Mem.lt M11.2.2.1
      have z11_3 := Mem.lt M11.2.2.2.1
      refine wp_region_lit ?_
      refine load_th rfl _ rfl (w3.heap.size) rfl ({ t with md := 0, rm := rm, sc := ⟨so, t.sc.n + 1, soc⟩, fr := ⟨fo, (t.fr.n + 1), fc⟩, sk := ⟨t.sk.a, t.sk.n, t.sk.c⟩, tr := ⟨t.tr.a, t.tr.n, t.tr.c⟩, kS := nS, kI := nI, pa := mn }) M11.2.2.1 ?_
      refine store_th rfl _ _ rfl (w.heap.size + 1 + 1 + 1) rfl (th0) ({ t with md := 0, rm := rm, sc := ⟨so, t.sc.n + 1, soc⟩, fr := ⟨fo, (t.fr.n + 1), fc⟩, sk := ⟨t.sk.a, t.sk.n, t.sk.c⟩, tr := ⟨t.tr.a, t.tr.n, t.tr.c⟩, kS := nS, kI := nI, pa := mn }) rfl M11.2.2.2.1 (one_th _) ?_
      intro w12 hW12
      have hB12 : Below w.heap.size w w12 := by rw [hW12]; exact below_setCells (B := w.heap.size) hB11 (b := w.heap.size + 1 + 1 + 1) (by have := hB11.size; omega) 0 _
      have M12 : Mem w12 [(bs, .cells (sc ((scNew mn nS nI tot t rm))) 56), (w6.heap.size, .cells #[.slice fo (t.fr.n + 1) fc, .slice t.sk.a t.sk.n t.sk.c, .slice t.tr.a t.tr.n t.tr.c] 36), (w3.heap.size, .cells (th ({ t with md := 0, rm := rm, sc := ⟨so, t.sc.n + 1, soc⟩, fr := ⟨fo, (t.fr.n + 1), fc⟩, sk := ⟨t.sk.a, t.sk.n, t.sk.c⟩, tr := ⟨t.tr.a, t.tr.n, t.tr.c⟩, kS := nS, kI := nI, pa := mn })) 39), (w.heap.size + 1 + 1 + 1, .cells (th ({ t with md := 0, rm := rm, sc := ⟨so, t.sc.n + 1, soc⟩, fr := ⟨fo, (t.fr.n + 1), fc⟩, sk := ⟨t.sk.a, t.sk.n, t.sk.c⟩, tr := ⟨t.tr.a, t.tr.n, t.tr.c⟩, kS := nS, kI := nI, pa := mn })) 39)] := by rw [hW12]; exact ⟨(setCells_other _ 0 _ _ (by omega)).trans M11.1, (setCells_other _ 0 _ _ (by omega)).trans M11.2.1, (setCells_other _ 0 _ _ (by omega)).trans M11.2.2.1, set_th M11.2.2.2.1 _, trivial⟩
      have HOF4 := ownsRow_set HOF3.out (b := w.heap.size + 1 + 1 + 1) (by have := ZZ6_2.out; omega) 0 (th ({ t with md := 0, rm := rm, sc := ⟨so, t.sc.n + 1, soc⟩, fr := ⟨fo, (t.fr.n + 1), fc⟩, sk := ⟨t.sk.a, t.sk.n, t.sk.c⟩, tr := ⟨t.tr.a, t.tr.n, t.tr.c⟩, kS := nS, kI := nI, pa := mn })).toList
      rw [← hW12] at HOF4
      have HOS4 := ownsRow_set HOS3.out (b := w.heap.size + 1 + 1 + 1) (by omega) 0 (th ({ t with md := 0, rm := rm, sc := ⟨so, t.sc.n + 1, soc⟩, fr := ⟨fo, (t.fr.n + 1), fc⟩, sk := ⟨t.sk.a, t.sk.n, t.sk.c⟩, tr := ⟨t.tr.a, t.tr.n, t.tr.c⟩, kS := nS, kI := nI, pa := mn })).toList
      rw [← hW12] at HOS4
      clear c11_0_0 c11_0_1 c11_0_2 c11_0_3 c11_0_4 c11_0_5 c11_0_6 c11_0_7 c11_0_8 c11_0_9 c11_0_10 c11_0_11 c11_0_12 c11_0_13 z11_0 c11_1_0 c11_1_1 c11_1_2 z11_1 c11_2_0 c11_2_1 c11_2_2 c11_2_3 c11_2_4 c11_2_5 c11_2_6 c11_2_7 c11_2_8 c11_2_9 c11_2_10 c11_2_11 c11_2_12 c11_2_13 c11_2_14 c11_2_15 c11_2_16 c11_2_17 c11_2_18 c11_2_19 z11_2 z11_3
      clear hW12
      have c12_0_0 := Mem.cell (v := .string (scNew mn nS nI tot t rm).nm) M12.1 0 rfl
      have c12_0_1 := Mem.cell (v := .string (scNew mn nS nI tot t rm).lS) M12.1 1 rfl
      have c12_0_2 := Mem.cell (v := .string (scNew mn nS nI tot t rm).lI) M12.1 2 rfl
      have c12_0_3 := Mem.cell (v := .int .i64 (scNew mn nS nI tot t rm).un) M12.1 3 rfl
      have c12_0_4 := Mem.cell (v := .int .i64 (scNew mn nS nI tot t rm).fr) M12.1 4 rfl
      have c12_0_5 := Mem.cell (v := .int .i64 (scNew mn nS nI tot t rm).ht) M12.1 5 rfl
      have c12_0_6 := Mem.cell (v := .int .i64 (scNew mn nS nI tot t rm).tr) M12.1 6 rfl
      have c12_0_7 := Mem.cell (v := .string (scNew mn nS nI tot t rm).cS) M12.1 7 rfl
      have c12_0_8 := Mem.cell (v := .string (scNew mn nS nI tot t rm).cI) M12.1 8 rfl
      have c12_0_9 := Mem.cell (v := .string (scNew mn nS nI tot t rm).kS) M12.1 9 rfl
      have c12_0_10 := Mem.cell (v := .string (scNew mn nS nI tot t rm).kI) M12.1 10 rfl
      have c12_0_11 := Mem.cell (v := .string (scNew mn nS nI tot t rm).pa) M12.1 11 rfl
      have c12_0_12 := Mem.cell (v := .int .i64 (scNew mn nS nI tot t rm).md) M12.1 12 rfl
      have c12_0_13 := Mem.cell (v := .int .i64 (scNew mn nS nI tot t rm).rm) M12.1 13 rfl
      have z12_0 := Mem.lt M12.1
      have c12_1_0 := Mem.cell (v := .slice fo (t.fr.n + 1) fc) M12.2.1 0 rfl
      have c12_1_1 := Mem.cell (v := .slice t.sk.a t.sk.n t.sk.c) M12.2.1 1 rfl
      have c12_1_2 := Mem.cell (v := .slice t.tr.a t.tr.n t.tr.c) M12.2.1 2 rfl
      have z12_1 := Mem.lt M12.2.1
      have c12_2_0 := Mem.cell (v := .string t.id) M12.2.2.1 0 rfl
      have c12_2_1 := Mem.cell (v := .string mn) M12.2.2.1 1 rfl
      have c12_2_2 := Mem.cell (v := .string t.cS) M12.2.2.1 2 rfl
      have c12_2_3 := Mem.cell (v := .string t.cI) M12.2.2.1 3 rfl
      have c12_2_4 := Mem.cell (v := .string nS) M12.2.2.1 4 rfl
      have c12_2_5 := Mem.cell (v := .string nI) M12.2.2.1 5 rfl
      have c12_2_6 := Mem.cell (v := .slice fo (t.fr.n + 1) fc) M12.2.2.1 6 rfl
      have c12_2_7 := Mem.cell (v := .slice t.sk.a t.sk.n t.sk.c) M12.2.2.1 7 rfl
      have c12_2_8 := Mem.cell (v := .slice t.tr.a t.tr.n t.tr.c) M12.2.2.1 8 rfl
      have c12_2_9 := Mem.cell (v := .slice so (t.sc.n + 1) soc) M12.2.2.1 9 rfl
      have c12_2_10 := Mem.cell (v := .int .i64 0) M12.2.2.1 10 rfl
      have c12_2_11 := Mem.cell (v := .int .i64 rm) M12.2.2.1 11 rfl
      have c12_2_12 := Mem.cell (v := .int .i64 t.st) M12.2.2.1 12 rfl
      have c12_2_13 := Mem.cell (v := .string t.on) M12.2.2.1 13 rfl
      have c12_2_14 := Mem.cell (v := .int .i64 t.vk) M12.2.2.1 14 rfl
      have c12_2_15 := Mem.cell (v := .int .i64 t.vx) M12.2.2.1 15 rfl
      have c12_2_16 := Mem.cell (v := .string t.vm) M12.2.2.1 16 rfl
      have c12_2_17 := Mem.cell (v := .string t.vS) M12.2.2.1 17 rfl
      have c12_2_18 := Mem.cell (v := .string t.vI) M12.2.2.1 18 rfl
      have c12_2_19 := Mem.cell (v := .bool t.ex) M12.2.2.1 19 rfl
      have z12_2 := Mem.lt M12.2.2.1
      have c12_3_0 := Mem.cell (v := .string t.id) M12.2.2.2.1 0 rfl
      have c12_3_1 := Mem.cell (v := .string mn) M12.2.2.2.1 1 rfl
      have c12_3_2 := Mem.cell (v := .string t.cS) M12.2.2.2.1 2 rfl
      have c12_3_3 := Mem.cell (v := .string t.cI) M12.2.2.2.1 3 rfl
      have c12_3_4 := Mem.cell (v := .string nS) M12.2.2.2.1 4 rfl
      have c12_3_5 := Mem.cell (v := .string nI) M12.2.2.2.1 5 rfl
      have c12_3_6 := Mem.cell (v := .slice fo (t.fr.n + 1) fc) M12.2.2.2.1 6 rfl
      have c12_3_7 := Mem.cell (v := .slice t.sk.a t.sk.n t.sk.c) M12.2.2.2.1 7 rfl
      have c12_3_8 := Mem.cell (v := .slice t.tr.a t.tr.n t.tr.c) M12.2.2.2.1 8 rfl
      have c12_3_9 := Mem.cell (v := .slice so (t.sc.n + 1) soc) M12.2.2.2.1 9 rfl
      have c12_3_10 := Mem.cell (v := .int .i64 0) M12.2.2.2.1 10 rfl
      have c12_3_11 := Mem.cell (v := .int .i64 rm) M12.2.2.2.1 11 rfl
      have c12_3_12 := Mem.cell (v := .int .i64 t.st) M12.2.2.2.1 12 rfl
      have c12_3_13 := Mem.cell (v := .string t.on) M12.2.2.2.1 13 rfl
      have c12_3_14 := Mem.cell (v := .int .i64 t.vk) M12.2.2.2.1 14 rfl
      have c12_3_15 := Mem.cell (v := .int .i64 t.vx) M12.2.2.2.1 15 rfl
      have c12_3_16 := Mem.cell (v := .string t.vm) M12.2.2.2.1 16 rfl
      have c12_3_17 := Mem.cell (v := .string t.vS) M12.2.2.2.1 17 rfl
      have c12_3_18 := Mem.cell (v := .string t.vI) M12.2.2.2.1 18 rfl
      have c12_3_19 := Mem.cell (v := .bool t.ex) M12.2.2.2.1 19 rfl
      have z12_3 := Mem.lt M12.2.2.2.1
      go_wp2_with fail
      refine bodyPost_ret (v := .tuple #[.agg (th ({ t with md := 0, rm := rm, sc := ⟨so, t.sc.n + 1, soc⟩, fr := ⟨fo, (t.fr.n + 1), fc⟩, sk := ⟨t.sk.a, t.sk.n, t.sk.c⟩, tr := ⟨t.tr.a, t.tr.n, t.tr.c⟩, kS := nS, kI := nI, pa := mn })), .int .i64 0]) (results_th2 Tryz.results9 _ _ (w.heap.size + 1 + 1 + 1) ({ t with md := 0, rm := rm, sc := ⟨so, t.sc.n + 1, soc⟩, fr := ⟨fo, (t.fr.n + 1), fc⟩, sk := ⟨t.sk.a, t.sk.n, t.sk.c⟩, tr := ⟨t.tr.a, t.tr.n, t.tr.c⟩, kS := nS, kI := nI, pa := mn }) rfl M12.2.2.2.1) rfl ⟨fo, fc, va, vc, so, soc, rfl, ownsRow_low HOF4 (by have := ZZ6_2.out; omega), ownsRow_low HOS4 (by omega), hB12⟩
end Go.Proofs.YtnmepcogijgbjaaGreatDoor
