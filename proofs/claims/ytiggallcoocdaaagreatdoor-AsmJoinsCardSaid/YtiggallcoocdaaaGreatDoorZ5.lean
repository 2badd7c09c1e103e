/- Made1A, MadeA: joined into one text; each part says below what it holds. -/
import Derived.Test.YtiggallcoocdaaaGreatDoorZC
import Derived.Deep.RegionLaw
import Derived.Deep.CutBlock
import Derived.Deep.DeepCutAuto
/- The chapter's labels; an append to a row of the call's own, as one step of a region that draws. -/
namespace Go.Proofs.YtiggallcoocdaaaGreatDoor
open Go.RowKit
theorem step_append_own {P : Program} {ops : Array Oper} {o : Oper} {a : Act} {w : World} {K : Act → World → Prop} {Q : Exit → Act → World → Prop} {E : Prop}
    (hg : o.guard = none) (s x : Operand) (t : TypeId) (hop : o.op = Op.call { callee := Callee.builtin Builtin.append, args := #[s, x], argTypes := #[t, t] })
    (base : Nat) (e : TypeId) (i : TypeInfo) (z : Value) (size bytes : Nat) (h1 : P.underlying t = some (.slice e)) (h2 : P.info? e = some i) (h3 : i.zero = some z) (h4 : i.size = size) (h5 : i.bytes = bytes) (h6 : z.cells.size = size) (h7 : 0 < size)
    (v : Value) (n : Nat) (xs : List Value) (hs : a.eval s = v) (hown : w.ownsRow base e size v n xs)
    (ad : Addr) (m c : Nat) (news : List Value) (hx : a.eval x = .slice (some ad) m c) (hn : news.length = m * size) (hc : ∀ j u, news[j]? = some u → w.cell? (ad.add j) = some u) (h1c : ∀ u ∈ news, u.oneCell' = true)
    (b1 : n + m ≤ maxLen) (b2 : (n + m) * bytes ≤ 140737488355328) (hbase : base ≤ w.heap.size)
    (hK : ∀ v' w', w'.ownsRow base e size v' (n + m) (xs ++ news) → w.grownBy w' v.ownBlock → K (a.put o.dst v') w') :
    if Region.wanted o (yielded ops a.tmps) = true then Oper.wp P o a w K Q else E := by
  have hw : Region.wanted o (yielded ops a.tmps) = true := by simp [Region.wanted, hg]
  rw [if_pos hw]
  obtain ⟨v', w', hrun, r1, r2, _⟩ := run_append_own (P := P) w base t o.type e i z size bytes h1 h2 h3 h4 h5 h6 h7 v n xs hown ad m c news hn hc h1c b1 b2 hbase
  unfold Oper.wp
  simp [execOp, hop, resolve, invoke, builtin, hs, hx, hrun, Result.andThen]
  exact hK v' w' r1 r2
def madeN : List Int := [0, 1, 2, 3, 4, 5, 9, 14]
def madeL : List Lb := [⟨[], []⟩, ⟨[1], []⟩, ⟨[2], []⟩, ⟨[1, 2], []⟩, ⟨[3], []⟩, ⟨[], [1]⟩, ⟨[1], [1]⟩, ⟨[0], []⟩]
def conN (n : Int) : Vl := ⟨1, n, [], ⟨[], []⟩⟩
def conL (l : Lb) : Vl := ⟨2, 0, [], l⟩
def madeCs : List Vl := madeN.map conN ++ madeL.map conL
def labCells : List Value := madeL.flatMap fun l => [.string ⟨l.S.toArray⟩, .string ⟨l.I.toArray⟩]
set_option maxRecDepth 100000 in
set_option maxHeartbeats 1000000 in
theorem labels_any (w : World) : Calls Tryz.prog 20 #[] w fun e w' => ∃ bl, e = .returned (.slice (some ⟨bl, 0, none⟩) 8 8) ∧ (∀ (k : Nat) (hk : k < madeL.length), w'.cell? ⟨bl, k * 2, none⟩ = some (.string ⟨madeL[k].S.toArray⟩) ∧ w'.cell? ⟨bl, k * 2 + 1, none⟩ = some (.string ⟨madeL[k].I.toArray⟩)) ∧ Below w.heap.size w w' := by
  go_enter Tryz.func20, Tryz.ntmps20
  go_wp2
  go_ret
  refine ⟨w.heap.size, rfl, fun k hk => ?_, below_al (Below.refl _ _) _⟩
  have hM := (Mem.nil w).new (.cells labCells.toArray 48)
  have hc : ∀ k : Fin 8, labCells.toArray[k.val * 2]? = some (.string ⟨(madeL[k.val]'k.2).S.toArray⟩) ∧ labCells.toArray[k.val * 2 + 1]? = some (.string ⟨(madeL[k.val]'k.2).I.toArray⟩) := by
    intro k
    match k with
    | 0 => exact ⟨rfl, rfl⟩
    | 1 => exact ⟨rfl, rfl⟩
    | 2 => exact ⟨rfl, rfl⟩
    | 3 => exact ⟨rfl, rfl⟩
    | 4 => exact ⟨rfl, rfl⟩
    | 5 => exact ⟨rfl, rfl⟩
    | 6 => exact ⟨rfl, rfl⟩
    | 7 => exact ⟨rfl, rfl⟩
  obtain ⟨h1, h2⟩ := hc ⟨k, hk⟩
  exact ⟨Mem.cell hM.1 _ h1, Mem.cell hM.1 _ h2⟩
end Go.Proofs.YtiggallcoocdaaaGreatDoor
/- The chapter's programs by bytes. -/
namespace Go.Proofs.YtiggallcoocdaaaGreatDoor
open Go.RowKit
def BsAt (w : World) (v : Value) (l : List UInt8) : Prop := SlotsAt w 1 v (l.map fun c => [.int .u8 (c.toNat : Nat)]) ∧ l.length ≤ 1152921504606846976
def LsAt (w : World) (v : Value) (ll : List (List UInt8)) : Prop := ∃ rows : List (List Value), rows.length = ll.length ∧ SlotsAt w 1 v rows ∧ ∀ (i : Nat) (l : List UInt8), ll[i]? = some l → ∃ ao cap, rows[i]? = some [.slice ao l.length cap] ∧ BsAt w (.slice ao l.length cap) l
theorem Src.of {w w' : World} {m : Nat} {ao : Option Addr} {n cap : Nat} {l : List UInt8} (h : BsAt w (.slice ao n cap) l) (hn : n = l.length) (hm : w.heap.size ≤ m) (hb : Below w.heap.size w w') : Src w' m (.slice ao n cap) l := by
  refine ⟨ao, cap, by rw [hn], h.2, fun i hi => ?_⟩
  obtain ⟨b, off, h1, -, h3, h4⟩ := slots_row h.1 (by omega)
  refine ⟨b, off, h1, by omega, ?_⟩
  rw [hb.cell (p := ⟨b, off + i, none⟩) h3]
  have := h4 i 0 [.int .u8 (l[i].toNat : Nat)] (.int .u8 (l[i].toNat : Nat)) (by rw [List.getElem?_map, List.getElem?_eq_getElem hi]; rfl) rfl
  simpa using this
theorem Src.nil (w : World) (m : Nat) : Src w m (.slice none 0 0) [] := ⟨none, 0, rfl, by simp, fun i hi => by simp at hi⟩
theorem LsAt.row {w : World} {ao : Option Addr} {n cap : Nat} {ll : List (List UInt8)} (h : LsAt w (.slice ao n cap) ll) {k : Nat} (hk : k < ll.length) (hn : n = ll.length) :
    ∃ b off bo bc, ao = some ⟨b, off, none⟩ ∧ b < w.heap.size ∧ w.cell? ⟨b, off + k, none⟩ = some (.slice bo ll[k].length bc) ∧ BsAt w (.slice bo ll[k].length bc) ll[k] := by
  obtain ⟨rows, g1, g2, g3⟩ := h
  obtain ⟨b, off, h1, -, h3, h4⟩ := slots_row g2 (by omega)
  obtain ⟨bo, bc, hc, ho⟩ := g3 k ll[k] (List.getElem?_eq_getElem hk)
  refine ⟨b, off, bo, bc, h1, h3, ?_, ho⟩
  have := h4 k 0 _ _ hc rfl
  simpa using this
def numCells : List Value := madeN.map fun n => .int .i64 n
def fnGood (f : Fn) : Prop := f.a = 1 ∧ f.v = 7 ∧ (∀ o ∈ f.c, gd o) ∧ 0 < f.c.length ∧ f.c.length ≤ 256
/-- the image as it is being made: the result's box, its own box -/
structure IM (n0 : Nat) (w : World) (cs : List Vl) (fs : List Fn) (W : World) : Prop where
  hb : Below n0 w W
  sz : n0 + 3 ≤ W.heap.size
  res : W.heap[n0]? = some (.cells #[.slice none 0 0, .slice none 0 0] 27)
  ex : ∃ cv fv, W.heap[n0 + 1]? = some (.cells #[cv, fv] 27) ∧ W.ownsRow (n0 + 3) 50 5 cv cs.length (cs.map vrow).flatten ∧ FnOwn W (n0 + 3) fv fs
theorem IM.below {n0 : Nat} {w W W' : World} {cs : List Vl} {fs : List Fn} (h : IM n0 w cs fs W) (hk : Below W.heap.size W W') : IM n0 w cs fs W' := by
  obtain ⟨h1, hs, h2, cv, fv, h3, h4, h5⟩ := h
  exact ⟨h1.trans (hk.mono (by omega)), Nat.le_trans hs hk.size, (hk.block _ (Mem.lt h2)).trans h2, cv, fv, (hk.block _ (Mem.lt h3)).trans h3, ownsRow_keep h4 hk, h5.keep hk⟩
theorem FnOwn.grown {w w' : World} {B n' k' : Nat} {e' : TypeId} {v v' : Value} {ys : List Value} {fs : List Fn} (h : FnOwn w B v fs) (hv : w.ownsRow B e' k' v' n' ys) (h1 : (37 : TypeId) ≠ e') (h2 : (52 : TypeId) ≠ e') (hg : w.grownBy w' v'.ownBlock) : FnOwn w' B v fs := by
  obtain ⟨rows, r1, r2, r3⟩ := h
  refine ⟨rows, r1, owns_grown r2 hv h1 hg, fun i f hi => ?_⟩
  obtain ⟨ao, cap, e, ho⟩ := r3 i f hi
  exact ⟨ao, cap, e, owns_grown ho hv h2 hg⟩
theorem IM.consts {n0 : Nat} {w W W1 w2 : World} {cs cs' : List Vl} {fs : List Fn} {cv fv v' : Value} (h : IM n0 w cs fs W) (hbk : W.heap[n0 + 1]? = some (.cells #[cv, fv] 27)) (hown : W.ownsRow (n0 + 3) 50 5 cv cs.length (cs.map vrow).flatten) (hfn : FnOwn W (n0 + 3) fv fs)
    (hb : Below W.heap.size W W1) (hg : W1.grownBy w2 cv.ownBlock) (hown' : w2.ownsRow (n0 + 3) 50 5 v' cs'.length (cs'.map vrow).flatten) : IM n0 w cs' fs (w2.setCell ⟨n0 + 1, 0, none⟩ v') := by
  have hlow := row_low hown
  have hsz := h.sz
  have hsz1 := hb.size
  have key : ∀ k, k < n0 + 3 → w2.heap[k]? = W.heap[k]? := fun k hk => (hg.block k (by omega) (fun e => by have := hlow k e.symm; omega)).trans (hb.block k (by omega))
  refine ⟨?_, ?_, (Below.heap_setCell _ _ _ _ (by simp)).trans ((key _ (by omega)).trans h.res), v', fv, setCell_block ((key _ (by omega)).trans hbk) _, owns_set hown' (b := n0 + 1) (by omega) 0 [v'], FnOwn.set (FnOwn.grown (hfn.keep hb) (ownsRow_keep hown hb) (by decide) (by decide) hg) (b := n0 + 1) (by omega) 0 [v']⟩
  · exact ((h.hb.trans (hb.mono (by omega))).grown hg (by omega) (fun k hk => by have := hlow k hk; omega)).setCell (p := ⟨n0 + 1, 0, none⟩) (by simp) _
  · have := hg.size
    simp [World.setCell]
    omega
theorem IM.funs {n0 : Nat} {w W W1 w2 : World} {cs : List Vl} {fs : List Fn} {cv fv v' : Value} {rows : List (List Value)} (h : IM n0 w cs fs W) (hbk : W.heap[n0 + 1]? = some (.cells #[cv, fv] 27)) (hown : W.ownsRow (n0 + 3) 50 5 cv cs.length (cs.map vrow).flatten)
    (r1 : rows.length = fs.length) (r2 : W.ownsRow (n0 + 3) 37 3 fv fs.length rows.flatten) (r3 : ∀ (i : Nat) (f : Fn), fs[i]? = some f → ∃ ao cap, rows[i]? = some (frow f (.slice ao f.c.length cap)) ∧ W.ownsRow (n0 + 3) 52 2 (.slice ao f.c.length cap) f.c.length (f.c.map orow).flatten)
    (hb : Below W.heap.size W W1) (hg : W1.grownBy w2 fv.ownBlock) (f : Fn) (ao : Option Addr) (cap : Nat) (ho : W.ownsRow (n0 + 3) 52 2 (.slice ao f.c.length cap) f.c.length (f.c.map orow).flatten)
    (hn : w2.ownsRow (n0 + 3) 37 3 v' (fs.length + 1) (rows.flatten ++ frow f (.slice ao f.c.length cap))) : IM n0 w cs (fs ++ [f]) (w2.setCell ⟨n0 + 1, 1, none⟩ v') := by
  have hlow := row_low r2
  have hsz := h.sz
  have hsz1 := hb.size
  have key : ∀ k, k < n0 + 3 → w2.heap[k]? = W.heap[k]? := fun k hk => (hg.block k (by omega) (fun e => by have := hlow k e.symm; omega)).trans (hb.block k (by omega))
  refine ⟨?_, ?_, (Below.heap_setCell _ _ _ _ (by simp)).trans ((key _ (by omega)).trans h.res), cv, v', setCell_block ((key _ (by omega)).trans hbk) _, owns_set (owns_grown (ownsRow_keep hown hb) (ownsRow_keep r2 hb) (by decide) hg) (b := n0 + 1) (by omega) 1 [v'], ?_⟩
  · exact ((h.hb.trans (hb.mono (by omega))).grown hg (by omega) (fun k hk => by have := hlow k hk; omega)).setCell (p := ⟨n0 + 1, 1, none⟩) (by simp) _
  · have := hg.size
    simp [World.setCell]
    omega
  · refine FnOwn.set (FnOwn.snoc r1 (ownsRow_keep r2 hb) (fun i g hi => ?_) f ao cap (ownsRow_keep ho hb) hg hn) (b := n0 + 1) (by omega) 1 [v']
    obtain ⟨a1, c1, e1, o1⟩ := r3 i g hi
    exact ⟨a1, c1, e1, ownsRow_keep o1 hb⟩
theorem w64 (n : Nat) (h : n ≤ 9223372036854775807) : wrap64 (n : Int) = n := IntWalk.wrap64_in _ (by omega)
theorem num_at (k : Nat) (hk : k < 8) : numCells.toArray[k]? = some (.int .i64 (madeN[k]'hk)) := by
  match k, hk with
  | 0, _ => rfl
  | 1, _ => rfl
  | 2, _ => rfl
  | 3, _ => rfl
  | 4, _ => rfl
  | 5, _ => rfl
  | 6, _ => rfl
  | 7, _ => rfl
set_option maxRecDepth 100000 in
set_option maxHeartbeats 16000000 in
theorem made_any (lo : Option Addr) (ln lc : Nat) (ll : List (List UInt8)) (w : World) (hL : LsAt w (.slice lo ln lc) ll) (hln : ln = ll.length) :
    Calls Tryz.prog 11 #[.slice lo ln lc] w fun e w' => ∃ fs co cc fo fc, e = .returned (.agg #[.slice co 16 cc, .slice fo 3 fc]) ∧ w'.ownsRow w.heap.size 50 5 (.slice co 16 cc) 16 (madeCs.map vrow).flatten ∧ FnOwn w' w.heap.size (.slice fo 3 fc) fs ∧ fs.length = 3 ∧ (∀ f ∈ fs, fnGood f) ∧ Below w.heap.size w w' := by
  obtain ⟨i0, hi, hz0, hz1, hz2⟩ := info_parts infLV
  have HL := Lib.hid hL
  have HLN := Lib.hid hln
  clear hL hln
  go_enter Tryz.func11, Tryz.ntmps11
  have hIM : IM w.heap.size w [] [] (((w.alloc (.cells #[.slice none 0 0, .slice none 0 0] 27)).alloc (.cells #[.slice none 0 0, .slice none 0 0] 27)).alloc (.cells numCells.toArray 2)) := by
    have hM := (((Mem.nil w).new (.cells #[.slice none 0 0, .slice none 0 0] 27)).new (.cells #[.slice none 0 0, .slice none 0 0] 27)).new (.cells numCells.toArray 2)
    rw [World.size_alloc, World.size_alloc] at hM
    exact ⟨below_al (below_al (below_al (Below.refl _ _) _) _) _, by simp, hM.2.2.1, .slice none 0 0, .slice none 0 0, hM.2.1, ⟨rfl, .inl ⟨rfl, rfl⟩⟩, FnOwn.nil _ _⟩
  have hNB : (((w.alloc (.cells #[.slice none 0 0, .slice none 0 0] 27)).alloc (.cells #[.slice none 0 0, .slice none 0 0] 27)).alloc (.cells numCells.toArray 2)).heap[w.heap.size + 1 + 1]? = some (.cells numCells.toArray 2) := by
    have hM := (((Mem.nil w).new (.cells #[.slice none 0 0, .slice none 0 0] 27)).new (.cells #[.slice none 0 0, .slice none 0 0] 27)).new (.cells numCells.toArray 2)
    rw [World.size_alloc, World.size_alloc] at hM
    exact hM.1
  have HIM := Lib.hid hIM
  have HNB := Lib.hid hNB
  clear hIM hNB
  go_wp2_with fail
  go_loopw [14] (fun i wr => ∃ k : Nat, k ≤ 8 ∧ i = .int .i64 k ∧ IM w.heap.size w ((madeN.take k).map conN) [] wr ∧ wr.heap[w.heap.size + 1 + 1]? = some (.cells numCells.toArray 2)) (fun i _ => 8 - (intOf i).toNat)
  case atStart => exact ⟨0, by omega, rfl, HIM.out, HNB.out⟩
  case round =>
    obtain ⟨k, hk, rfl, hIM, hNB⟩ := hrel
    clear HIM HNB
    have hszw := hIM.sz
    obtain ⟨cv, fv, hbk, hown, hfn⟩ := hIM.ex
    have c0 := Mem.cell (v := cv) hbk 0 rfl
    have c1 := Mem.cell (v := fv) hbk 1 rfl
    have f0 := Mem.free hbk 0
    by_cases hlt : k < 8
    · have hn1 := num_at k hlt
      obtain ⟨x, hx⟩ : ∃ x, x = madeN[k]'hlt := ⟨_, rfl⟩
      rw [← hx] at hn1
      have hnc := Mem.cell hNB k hn1
      have g1 : (0 : Int) ≤ (k : Int) := by omega
      have g2 : (k : Int) < 8 := by omega
      have hlen : ((madeN.take k).map conN).length = k := by
        rw [List.length_map, List.length_take]
        show min k 8 = k
        omega
      rw [hlen] at hown
      have HX : Hid (((madeN.take (k + 1)).map conN).map vrow = ((madeN.take k).map conN).map vrow ++ [[.int .i64 1, .int .i64 x, .string ⟨#[]⟩, .string ⟨#[]⟩, .string ⟨#[]⟩]]) := Lib.hid (by
        rw [List.take_add_one, List.getElem?_eq_getElem (show k < madeN.length from hlt), List.map_append, List.map_append, hx]
        rfl)
      have HL2 : Hid (((madeN.take (k + 1)).map conN).length = k + 1) := Lib.hid (by
        rw [List.length_map, List.length_take]
        show min (k + 1) 8 = k + 1
        omega)
      have HBK := Lib.hid hbk
      have HOW := Lib.hid hown
      have HRES := Lib.hid hIM.res
      have HFN := Lib.hid hfn
      have HNB := Lib.hid hNB
      have HHB := Lib.hid hIM.hb
      have hlow := row_low hown
      have HIM := Lib.hid hIM
      clear hbk hfn hNB hn1 hx hIM
      go_wp2_with (at_builtin; refine wpList_append_own _ rfl _ _ 24 rfl (w.heap.size + 3) 50 i0 _ 5 64 Tryz.underlying24 hi hz0 hz1 hz2 rfl (by decide) _ _ _ rfl (hown.alloc _) ⟨wr.heap.size, 0, none⟩ 1 1 [.int .i64 1, .int .i64 x, .string ⟨#[]⟩, .string ⟨#[]⟩, .string ⟨#[]⟩] rfl rfl (World.news_of_block (cs := #[.int .i64 1, .int .i64 x, .string ⟨#[]⟩, .string ⟨#[]⟩, .string ⟨#[]⟩]) (t := 50) (fr := (0, 0)) (heap_alloc_new _ _)) (by simp [Value.oneCell']) (by unfold maxLen; omega) (by omega) (by simp; omega) ?_; intro v' w2 hown' hgrow _; obtain ⟨ao', n', cap', rfl⟩ := owns_slice hown'; have hbk2 : w2.heap[w.heap.size + 1]? = some (.cells #[cv, fv] 27) := (hgrow.block _ (by simp; omega) (fun e => by have := hlow _ e.symm; omega)).trans ((Lib.alloc_old wr _ _ (by omega)).trans HBK.out); have f2 := Mem.free hbk2 0; have d2 := Mem.cell (v := cv) hbk2 0 rfl)
      have hNB2 : (w2.setCell ⟨w.heap.size + 1, 0, none⟩ (.slice ao' n' cap')).heap[w.heap.size + 1 + 1]? = some (.cells numCells.toArray 2) := (Below.heap_setCell _ _ _ _ (by simp)).trans ((hgrow.block _ (by simp; omega) (fun e => by have := hlow _ e.symm; omega)).trans ((Lib.alloc_old wr _ _ (by omega)).trans HNB.out))
      have hIM2 := IM.consts (cs' := (madeN.take (k + 1)).map conN) HIM.out HBK.out (by rw [hlen]; exact HOW.out) HFN.out (below_al (Below.refl _ _) _) hgrow (by
        rw [HL2.out, HX.out, List.flatten_append, List.flatten_singleton]
        exact hown')
      go_roundw
      case rel => exact ⟨k + 1, by omega, by go_num, hIM2, hNB2⟩
      case measure => simp [intOf]; omega
    · have hk8 : k = 8 := by omega
      have hge : (8 : Int) ≤ (k : Int) := by omega
      rw [hk8] at hIM
      have HIM := Lib.hid hIM
      clear hk8 hNB hbk hown hfn c0 c1 f0 hIM hszw cv fv
      go_wp2_with fail
      go_loopw [6] (fun i wr => ∃ k : Nat, k ≤ 8 ∧ i = .int .i64 k ∧ IM w.heap.size w (madeN.map conN ++ (madeL.take k).map conL) [] wr) (fun i _ => 8 - (intOf i).toNat)
      case atStart => exact ⟨0, by omega, rfl, HIM.out⟩
      case round =>
        clear HIM hk hlt hge
        obtain ⟨k, hk, rfl, hIM⟩ := hrel
        have hszw := hIM.sz
        by_cases hlt : k < 8
        · obtain ⟨cv, fv, hbk, hown, hfn⟩ := hIM.ex
          have c0 := Mem.cell (v := cv) hbk 0 rfl
          have f0 := Mem.free hbk 0
          have g1 : (0 : Int) ≤ (k : Int) := by omega
          have g2 : (k : Int) < 8 := by omega
          obtain ⟨S, hS⟩ : ∃ S, S = (⟨(madeL[k]'hlt).S.toArray⟩ : ByteArray) := ⟨_, rfl⟩
          obtain ⟨I, hI⟩ : ∃ S, S = (⟨(madeL[k]'hlt).I.toArray⟩ : ByteArray) := ⟨_, rfl⟩
          have hlb : ∀ W, Calls Tryz.prog 20 #[] W fun e w' => ∃ bl, e = .returned (.slice (some ⟨bl, 0, none⟩) 8 8) ∧ w'.cell? ⟨bl, k * 2, none⟩ = some (.string S) ∧ w'.cell? ⟨bl, k * 2 + 1, none⟩ = some (.string I) ∧ Below W.heap.size W w' := fun W => (labels_any W).mono fun e w' ⟨bl, h1, h2, h3⟩ => ⟨bl, h1, by rw [hS]; exact (h2 k hlt).1, by rw [hI]; exact (h2 k hlt).2, h3⟩
          have hlen : (madeN.map conN ++ (madeL.take k).map conL).length = 8 + k := by
            rw [List.length_append, List.length_map, List.length_map, List.length_take]
            show 8 + min k 8 = 8 + k
            omega
          rw [hlen] at hown
          have HX : Hid ((madeN.map conN ++ (madeL.take (k + 1)).map conL).map vrow = (madeN.map conN ++ (madeL.take k).map conL).map vrow ++ [[.int .i64 2, .int .i64 0, .string ⟨#[]⟩, .string S, .string I]]) := Lib.hid (by
            rw [List.take_add_one, List.getElem?_eq_getElem (show k < madeL.length from hlt), List.map_append, List.map_append, List.map_append, List.map_append, ← List.append_assoc, hS, hI]
            rfl)
          have HL2 : Hid ((madeN.map conN ++ (madeL.take (k + 1)).map conL).length = 8 + k + 1) := Lib.hid (by
            rw [List.length_append, List.length_map, List.length_map, List.length_take]
            show 8 + min (k + 1) 8 = 8 + k + 1
            omega)
          have HBK := Lib.hid hbk
          have HOW := Lib.hid hown
          have HFN := Lib.hid hfn
          have HIM := Lib.hid hIM
          have hlow := row_low hown
          have HOB := Lib.hid (fun W (h : Below wr.heap.size wr W) => ownsRow_keep hown h)
          clear hbk hfn hIM hS hI hown
          go_wp2_with fail
          have hq := fun (W : World) (h : Below wr.heap.size wr W) => (h.cell (p := ⟨w.heap.size + 1, 0, none⟩) (show w.heap.size + 1 < wr.heap.size by omega)).trans c0
          have c9 := Mem.cell (v := .slice none 0 0) HIM.out.res 0 rfl
          have hr0 := fun (W : World) (h : Below wr.heap.size wr W) => (h.cell (p := ⟨w.heap.size, 0, none⟩) (show w.heap.size < wr.heap.size by omega)).trans c9
          have ho9 := cell_other (b := w.heap.size) (b' := w.heap.size + 1) (by omega)
          go_region_law (first
              | (refine step_append_own (by rfl) _ _ 24 (by rfl) (w.heap.size + 3) 50 i0 _ 5 64 Tryz.underlying24 hi hz0 hz1 hz2 rfl (by omega) cv (8 + k) _ (by rfl) (HOB.out _ (by repeat' (first | exact Below.refl _ _ | exact hbl1 | refine below_dr ?_ | refine below_al ?_ _))) ⟨wl.heap.size, 0, none⟩ 1 1 [.int .i64 2, .int .i64 0, .string ⟨#[]⟩, .string S, .string I] (by rfl) (by rfl) (World.news_of_block (cs := #[.int .i64 2, .int .i64 0, .string ⟨#[]⟩, .string S, .string I]) (t := 50) (fr := (0, 0)) (heap_alloc_new _ _)) (by simp [Value.oneCell']) (by unfold maxLen; omega) (by omega) (by simp; omega) ?_; intro v' w2 hown' hgrow; obtain ⟨ao', n', cap', rfl⟩ := owns_slice hown'; have hbk2 : w2.heap[w.heap.size + 1]? = some (.cells #[cv, fv] 27) := (hgrow.block _ (by simp; omega) (fun e => by have := hlow _ e.symm; omega)).trans ((((by repeat' (first | exact Below.refl _ _ | exact hbl1 | refine below_dr ?_ | refine below_al ?_ _)) : Below wr.heap.size wr _).block _ (by omega)).trans HBK.out); have f2 := Mem.free hbk2 0; have d2 := Mem.cell (v := cv) hbk2 0 rfl; have hr2 : w2.cell? ⟨w.heap.size, 0, none⟩ = some (.slice none 0 0) := Mem.cell ((hgrow.block _ (by simp; omega) (fun e => by have := hlow _ e.symm; omega)).trans ((((by repeat' (first | exact Below.refl _ _ | exact hbl1 | refine below_dr ?_ | refine below_al ?_ _)) : Below wr.heap.size wr _).block _ (by omega)).trans HIM.out.res)) 0 rfl)
              | (go_simp; go_at_call 20; (with_reducible refine (hlb _).mono ?_); rintro e wl ⟨bl, rfl, hl0, hl1, hbl⟩; have hbl1 : Below wr.heap.size wr wl := ((by repeat' (first | exact Below.refl _ _ | refine below_dr ?_ | refine below_al ?_ _)) : Below wr.heap.size wr _).trans (hbl.mono (by first | omega | (simp <;> omega))); have hql := hq wl hbl1; have hrl := hr0 wl hbl1; have hzl := hbl1.size; have hza := (show w.heap.size + 1 < wl.heap.size by omega); have hzb := (show w.heap.size < wl.heap.size by omega)))
          all_goals
            have hIM2 := IM.consts (cs' := madeN.map conN ++ (madeL.take (k + 1)).map conL) HIM.out HBK.out (by rw [hlen]; exact HOW.out) HFN.out (by repeat' (first | exact Below.refl _ _ | exact hbl1 | refine below_dr ?_ | refine below_al ?_ _)) hgrow (by
              rw [HL2.out, HX.out, List.flatten_append, List.flatten_singleton]
              exact hown')
            clear hown' hgrow hbk2 f2 d2 hr2 hql hrl hl0 hl1 HOB HOW HFN HBK HX hlb hq hr0 ho9 c9 HIM c0 f0
            go_wp2_with fail
            go_roundw
            case rel => exact ⟨k + 1, by omega, by go_num, hIM2⟩
            case measure => simp [intOf]; omega
        · have hk8 : k = 8 := by omega
          have hge : (8 : Int) ≤ (k : Int) := by omega
          rw [hk8] at hIM
          have HIM := Lib.hid hIM
          clear hk8 hIM hszw
          -- THIRD LOOP
          go_wp2_with fail
          go_loopw [7] (fun i wr => ∃ q : Nat, q ≤ 3 ∧ i = .int .i64 q ∧ ∃ fs, fs.length = q ∧ (∀ f ∈ fs, fnGood f) ∧ IM w.heap.size w madeCs fs wr) (fun i _ => 3 - (intOf i).toNat)
          case atStart => exact ⟨0, by omega, rfl, [], rfl, fun f hf => by simp at hf, HIM.out⟩
          case round =>
            clear HIM hk hlt hge
            obtain ⟨q, hq, rfl, fs, hfl, hgood, hIM⟩ := hrel
            have hszw := hIM.sz
            by_cases hlt : q < 3
            · have g1 : (0 : Int) ≤ (q : Int) := by omega
              have g2 : (q : Int) < 3 := by omega
              have HIM := Lib.hid hIM
              have HFL := Lib.hid hfl
              have HG := Lib.hid hgood
              clear hfl hgood
              go_upto_if 49 with fail
              go_cut [] (fun wx => ∃ lv lb, MK wr.heap.size lv lb 0 [] wx ∧ Below wr.heap.size wr wx)
              case first =>
                by_cases hin : q < ll.length
                · obtain ⟨b, off, bo, bc, rfl, hbw, hcl, hbs⟩ := HL.out.row hin HLN.out
                  have hclr : wr.cell? ⟨b, off + q, none⟩ = some (.slice bo ll[q].length bc) := by
                    rw [hIM.hb.cell (p := ⟨b, off + q, none⟩) hbw]
                    exact hcl
                  have hqn : (q : Int) < (ln : Int) := by have := HLN.out; omega
                  have hblr : b < wr.heap.size := by omega
                  obtain ⟨lb, hlb⟩ : ∃ lb, lb = ll[q] := ⟨_, rfl⟩
                  rw [← hlb] at hclr hbs
                  have hbm : Below wr.heap.size wr (wr.alloc (.cells #[.slice bo lb.length bc, .int .i64 0, .slice none 0 0] 70)) := below_al (Below.refl _ _) _
                  have HMK : Hid (MK wr.heap.size (.slice bo lb.length bc) lb 0 [] (wr.alloc (.cells #[.slice bo lb.length bc, .int .i64 0, .slice none 0 0] 70))) := Lib.hid ⟨Src.of hbs rfl (by omega) (hIM.hb.trans (hbm.mono (by omega))), .slice none 0 0, ((Mem.nil wr).new (.cells #[.slice bo lb.length bc, .int .i64 0, .slice none 0 0] 70)).1, ⟨rfl, .inl ⟨rfl, rfl⟩⟩⟩
                  have HB0 := Lib.hid hbm
                  clear hbm hIM hcl hbs hlb
                  go_wp2_with fail
                  go_meet
                  exact ⟨_, _, HMK.out, HB0.out⟩
                · have hqn : (ln : Int) ≤ (q : Int) := by have := HLN.out; omega
                  have hbm : Below wr.heap.size wr (wr.alloc (.cells #[.slice none 0 0, .int .i64 0, .slice none 0 0] 70)) := below_al (Below.refl _ _) _
                  have HMK : Hid (MK wr.heap.size (.slice none 0 0) [] 0 [] (wr.alloc (.cells #[.slice none 0 0, .int .i64 0, .slice none 0 0] 70))) := Lib.hid ⟨Src.nil _ _, .slice none 0 0, ((Mem.nil wr).new (.cells #[.slice none 0 0, .int .i64 0, .slice none 0 0] 70)).1, ⟨rfl, .inl ⟨rfl, rfl⟩⟩⟩
                  have HB0 := Lib.hid hbm
                  clear hbm hIM
                  go_wp2_with fail
                  go_meet
                  exact ⟨_, _, HMK.out, HB0.out⟩
              case rest =>
                obtain ⟨lv, lb, hmk, hb0⟩ := hcut
                clear hIM
                obtain ⟨W0, hW0⟩ : ∃ W0, W0 = wc := ⟨_, rfl⟩
                rw [← hW0] at hmk hb0 ⊢
                clear hW0
                have HB0 := Lib.hid hb0
                have HMK := Lib.hid hmk
                clear hb0 hmk
                generalize hmm : wr.heap.size = mm at HMK HB0 hszw ⊢
                have HMM := Lib.hid hmm
                clear hmm
                obtain ⟨lo2, cap2, rfl, hlbn, -⟩ := HMK.out.src
                have H0 := DS.new HMK.out
                clear HMK
                go_upto_block 6 with fail
                go_cut [10] (fun s10 wx => ∃ a c, DS mm (.slice lo2 lb.length cap2) lb [] W0 a c wx ∧ a ≤ 120 ∧ c.length ≤ 120)
                case first =>
                  clear HIM HFL HG
                  go_wp2_with fail
                  go_loopw [10] (fun i wr' => ∃ k : Nat, k ≤ 12 ∧ i = .int .i64 k ∧ ∃ a c, DS mm (.slice lo2 lb.length cap2) lb [] W0 a c wr' ∧ a ≤ 10 * k ∧ c.length ≤ 10 * k) (fun i _ => 12 - (intOf i).toNat)
                  case atStart => exact ⟨0, by omega, rfl, 0, [], H0, by omega, by simp⟩
                  case round =>
                    clear H0
                    obtain ⟨k, hk, rfl, a, c, H, ha, hcl⟩ := hrel
                    obtain ⟨cw, hbk, -⟩ := H.mak.own
                    have c0 := Mem.cell (v := .slice lo2 lb.length cap2) hbk 0 rfl
                    have c1 := Mem.cell (v := .int .i64 a) hbk 1 rfl
                    clear hbk cw
                    obtain ⟨A1, hA1⟩ : ∃ A1 : Nat, A1 = 1 + a := ⟨_, rfl⟩
                    obtain ⟨D6, hD6⟩ : ∃ D6 : Nat, D6 = lb.length / 6 := ⟨_, rfl⟩
                    obtain ⟨B2, hB2⟩ : ∃ B2 : Nat, B2 = 2 + D6 := ⟨_, rfl⟩
                    have eA : 1 + (a : Int) = (A1 : Int) := by omega
                    have e6 : ((lb.length : Nat) : Int) / 6 = (D6 : Int) := by omega
                    have eB : 2 + (D6 : Int) = (B2 : Int) := by omega
                    have bA : A1 ≤ 9223372036854775807 := by omega
                    have b6 : D6 ≤ 9223372036854775807 := by omega
                    have bB : B2 ≤ 9223372036854775807 := by omega
                    have hw64 := w64
                    have HAB := Lib.hid (And.intro hA1 (And.intro hD6 hB2))
                    clear hA1 hD6 hB2
                    by_cases hcond : (k < A1 ∧ k < B2) ∧ k < 12
                    · obtain ⟨⟨h1, h2⟩, h3⟩ := hcond
                      have i1 : (k : Int) < (A1 : Int) := by omega
                      have i2 : (k : Int) < (B2 : Int) := by omega
                      have i3 : (k : Int) < 12 := by omega
                      go_wp2_with (go_at_call 21; refine (part_any mm _ lb a ([] ++ c) _ _ H.mak (by omega) (by simp; omega) (by omega) (by omega)).mono ?_; rintro e W ⟨rfl, a2, d2, H2, ha2, hd2⟩; have H := H.join H2; clear H2)
                      go_roundw
                      case rel => exact ⟨k + 1, by omega, by go_num, a2, _, H, by omega, by simp; omega⟩
                      case measure => simp [intOf]; omega
                    · have hways : ((A1 : Int) ≤ (k : Int)) ∨ ((k : Int) < (A1 : Int) ∧ (B2 : Int) ≤ (k : Int)) ∨ ((k : Int) < (A1 : Int) ∧ (k : Int) < (B2 : Int) ∧ (12 : Int) ≤ (k : Int)) := by omega
                      clear hcond
                      have HH := Lib.hid (show ∃ a c, DS mm (.slice lo2 lb.length cap2) lb [] W0 a c _ ∧ a ≤ 120 ∧ c.length ≤ 120 from ⟨a, c, H, by omega, by omega⟩)
                      clear H
                      rcases hways with hw1 | ⟨hw1, hw2⟩ | ⟨hw1, hw2, hw3⟩
                      · have n1 : decide (k < A1) = false := decide_eq_false (by omega)
                        clear bA b6 bB e6 eB HAB
                        go_wp2_with fail
                        go_meet
                        exact HH.out
                      · have n1 : decide (k < A1) = true := decide_eq_true (by omega)
                        have n2 : decide (k < B2) = false := decide_eq_false (by omega)
                        have n1' : (k : Int) < (A1 : Int) := by omega
                        clear HAB hw1
                        go_wp2_with fail
                        go_meet
                        exact HH.out
                      · have n1 : decide (k < A1) = true := decide_eq_true (by omega)
                        have n2 : decide (k < B2) = true := decide_eq_true (by omega)
                        have n3 : decide (k < 12) = false := decide_eq_false (by omega)
                        have n4 : decide ((k : Int) < 12) = false := decide_eq_false (by omega)
                        clear HAB hw1 hw2 hk ha hcl
                        go_wp2_with fail
                        go_meet
                        exact HH.out
                case rest =>
                  obtain ⟨a, c, H, ha, hcl⟩ := hcut
                  clear H0
                  obtain ⟨i1, hj, hy0, hy1, hy2⟩ := info_parts infLF
                  go_upto_region 24 with (first
                    | (go_at_call 23; refine (next_c H (by omega)).mono ?_; clear H; rintro e W ⟨rfl, H, -⟩)
                    | (go_at_call 22; refine (emit_c H _ _ (by simp; omega) (by first | exact gd1 (by omega) (by omega) (by omega) | exact gd0 (by omega))).mono ?_; clear H; rintro e W ⟨rfl, H⟩))
                  have HIMW := IM.below (W' := W) HIM.out (by rw [HMM.out]; exact HB0.out.trans H.hb)
                  obtain ⟨cI, fI, hbI, hoI, rows0, r1, r2, r3⟩ := HIMW.ex
                  obtain ⟨cv, hbm, hom⟩ := H.mak.own
                  have hcl2 : ([] ++ (c ++ [((2 : Int), ((rdB lb a : Nat) : Int) % 8)] ++ [((18 : Int), (0 : Int))])).length ≤ 256 ∧ 0 < ([] ++ (c ++ [((2 : Int), ((rdB lb a : Nat) : Int) % 8)] ++ [((18 : Int), (0 : Int))])).length := by simp; omega
                  have hgood2 := H.good
                  obtain ⟨code, hcode⟩ : ∃ code, code = [] ++ (c ++ [((2 : Int), ((rdB lb a : Nat) : Int) % 8)] ++ [((18 : Int), (0 : Int))]) := ⟨_, rfl⟩
                  have hgood3 : ∀ o ∈ code, gd o := by rw [hcode]; simpa using hgood2
                  rw [← hcode] at hom hcl2
                  obtain ⟨co, cn, cc, rfl⟩ := owns_slice hom
                  obtain rfl := owns_len hom
                  have m2 := Mem.cell (v := .slice co code.length cc) hbm 2 rfl
                  have k1 := Mem.cell (v := fI) hbI 1 rfl
                  have f1 := Mem.free hbI 1
                  have hmw := Mem.lt hbm
                  have hszW := HIMW.sz
                  have hl1 : w.heap.size + 1 < W.heap.size := by omega
                  have hlow := row_low r2
                  have ROB := Lib.hid (fun W' (h : Below W.heap.size W W') => ownsRow_keep r2 h)
                  have HHW := Lib.hid HIMW
                  have HBI := Lib.hid hbI
                  have HOI := Lib.hid hoI
                  have HR1 := Lib.hid r1
                  have HR2 := Lib.hid r2
                  have HR3 := Lib.hid r3
                  have HOM := Lib.hid (owns_low (B := w.heap.size + 3) hom hszw)
                  have HG3 := Lib.hid hgood3
                  have HCL := Lib.hid hcl2
                  have hfq : fs.length ≤ 3 := by have := HFL.out; omega
                  clear HIMW hbI hoI r1 r2 r3 hbm hom H hgood2 hgood3 hcode hcl2 hcl ha
                  go_region_law (refine step_append_own (by rfl) _ _ 25 (by rfl) (w.heap.size + 3) 37 i1 _ 3 40 Tryz.underlying25 hj hy0 hy1 hy2 rfl (by omega) fI fs.length _ (by rfl) (ROB.out _ (by repeat' (first | exact Below.refl _ _ | refine below_dr ?_ | refine below_al ?_ _))) ⟨W.heap.size, 0, none⟩ 1 1 [.int .i64 1, .int .i64 7, .slice co code.length cc] (by rfl) (by rfl) (World.news_of_block (cs := #[.int .i64 1, .int .i64 7, .slice co code.length cc]) (t := 37) (fr := (0, 0)) (heap_alloc_new _ _)) (by simp [Value.oneCell']) (by unfold maxLen; omega) (by omega) (by simp; omega) ?_; intro v' w2 hown' hgrow; obtain ⟨ao', n', cap', rfl⟩ := owns_slice hown'; have hbk2 : w2.heap[w.heap.size + 1]? = some (.cells #[cI, fI] 27) := (hgrow.block _ (by simp; omega) (fun e => by have := hlow _ e.symm; omega)).trans ((((by repeat' (first | exact Below.refl _ _ | refine below_dr ?_ | refine below_al ?_ _)) : Below W.heap.size W _).block _ (by omega)).trans HBI.out); have f2 := Mem.free hbk2 1; have d2 := Mem.cell (v := fI) hbk2 1 rfl)
                  all_goals
                    have hIM2 := IM.funs HHW.out HBI.out HOI.out HR1.out HR2.out HR3.out (by repeat' (first | exact Below.refl _ _ | refine below_dr ?_ | refine below_al ?_ _)) hgrow ⟨1, 7, code⟩ co cc HOM.out hown'
                    have hG2 : ∀ f ∈ fs ++ [(⟨1, 7, code⟩ : Fn)], fnGood f := fun f hf => (List.mem_append.1 hf).elim (HG.out f) (fun h => by rw [List.mem_singleton.1 h]; exact ⟨rfl, rfl, HG3.out, HCL.out.2, HCL.out.1⟩)
                    clear hown' hgrow hbk2 f2 d2 m2 k1 f1
                    go_wp2_with fail
                    go_roundw
                    case rel => exact ⟨q + 1, by omega, by go_num, fs ++ [⟨1, 7, code⟩], by rw [List.length_append, HFL.out]; rfl, hG2, hIM2⟩
                    case measure => simp [intOf]; omega
            · have hq3 : q = 3 := by omega
              subst hq3
              have hge3 : (3 : Int) ≤ ((3 : Nat) : Int) := by omega
              obtain ⟨cv, fv, hbk, hown, rows, r1, r2, r3⟩ := hIM.ex
              have hc16 : madeCs.length = 16 := rfl
              rw [hc16] at hown
              rw [hfl] at r2
              obtain ⟨co, n', cc, rfl⟩ := owns_slice hown
              obtain rfl := owns_len hown
              obtain ⟨fo, n', fc, rfl⟩ := owns_slice r2
              obtain rfl := owns_len r2
              have c0 := Mem.cell (v := .slice co 16 cc) hbk 0 rfl
              have c1 := Mem.cell (v := .slice fo 3 fc) hbk 1 rfl
              have fr := fun j => Mem.free hIM.res j
              have q0 := Mem.cell (v := .slice none 0 0) hIM.res 0 rfl
              have q1 := Mem.cell (v := .slice none 0 0) hIM.res 1 rfl
              have HIM := Lib.hid hIM
              have HOW := Lib.hid hown
              have HFN : Hid (FnOwn wr (w.heap.size + 3) (.slice fo 3 fc) fs) := Lib.hid ⟨rows, r1, by rw [hfl]; exact r2, r3⟩
              have HG := Lib.hid hgood
              have HFL := Lib.hid hfl
              clear hIM hown r1 r2 r3 hbk hgood hfl hc16
              go_wp2_with fail
              have hX := set_block HIM.out.res [.slice co 16 cc, .slice fo 3 fc] rfl
              have hY := below_setCells (B := w.heap.size) HIM.out.hb (b := w.heap.size) (Nat.le_refl _) 0 [.slice co 16 cc, .slice fo 3 fc]
              have hO := owns_low (owns_set HOW.out (b := w.heap.size) (by omega) 0 [.slice co 16 cc, .slice fo 3 fc]) (show w.heap.size ≤ w.heap.size + 3 by omega)
              have hF := (HFN.out.set (b := w.heap.size) (by omega) 0 [.slice co 16 cc, .slice fo 3 fc]).lower (show w.heap.size ≤ w.heap.size + 3 by omega)
              obtain ⟨W_e, hW_e⟩ : ∃ W_e, W_e = wr.setCells w.heap.size 0 [.slice co 16 cc, .slice fo 3 fc] := ⟨_, rfl⟩
              rw [← hW_e] at hX hY hO hF
              refine at_world hW_e ?_
              have k_0 := Mem.cell (v := .slice co 16 cc) hX 0 rfl
              have k_1 := Mem.cell (v := .slice fo 3 fc) hX 1 rfl
              refine bodyPost_ret (v := .agg #[.slice co 16 cc, .slice fo 3 fc]) (by simp [results, Tryz.results11, go_sem, k_0, k_1]) rfl ⟨fs, co, cc, fo, fc, rfl, hO, hF, HFL.out, HG.out, hY⟩
end Go.Proofs.YtiggallcoocdaaaGreatDoor
