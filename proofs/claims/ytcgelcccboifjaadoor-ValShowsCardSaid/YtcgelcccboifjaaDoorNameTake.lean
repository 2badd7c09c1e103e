/- name.read's closure 'take': one word's number is laid behind the others, or it says no. -/
import Derived.Test.YtcgelcccboifjaaDoorNameSpec
import Derived.Test.YtcgelcccboifjaaDoorNumText
import Derived.Test.YtcgelcccboifjaaDoorRow
namespace Go.Proofs.YtcgelcccboifjaaDoor
open Go.RowKit
def ic (l : List Int) : List Value := l.map (.int .i64)
theorem ic_app (l m : List Int) : ic (l ++ m) = ic l ++ ic m := by simp [ic]
theorem ic_len (l : List Int) : (ic l).length = l.length := by simp [ic]
theorem ownsRow_slice {W : World} {B : Nat} {e : TypeId} {v : Value} {n : Nat} {xs : List Value} (h : W.ownsRow B e 1 v n xs) : ∃ ao cap, v = .slice ao n cap := by
  rcases h.2 with ⟨hv, h0⟩ | ⟨g, cap, cur, hv, _⟩
  · exact ⟨none, 0, by rw [hv, h0]⟩
  · exact ⟨_, _, hv⟩
theorem ownsRow_mono {W : World} {B B' : Nat} {e : TypeId} {v : Value} {n : Nat} {xs : List Value} (h : W.ownsRow B e 1 v n xs) (hB : B' ≤ B) : W.ownsRow B' e 1 v n xs := by
  refine ⟨h.1, ?_⟩
  rcases h.2 with hn | ⟨g, cap, cur, hv, hb, hg, rest⟩
  · exact Or.inl hn
  · exact Or.inr ⟨g, cap, cur, hv, by omega, hg, rest⟩
/-- blocks below B, but for two of them, are as they were -/
structure Kept2 (B p q : Nat) (W W' : World) : Prop where
  os : W'.os = W.os
  tape : W'.tape = W.tape
  output : W'.output = W.output
  size : W.heap.size ≤ W'.heap.size
  block : ∀ k, k < B → k ≠ p → k ≠ q → W'.heap[k]? = W.heap[k]?
theorem Kept2.of_below {B p q : Nat} {W W' : World} (h : Below W.heap.size W W') (hB : B ≤ W.heap.size) : Kept2 B p q W W' :=
  ⟨h.os, h.tape, h.output, h.size, fun k hk _ _ => h.block k (by omega)⟩
theorem Kept2.trans {B p q : Nat} {a b c : World} (h : Kept2 B p q a b) (k : Kept2 B p q b c) : Kept2 B p q a c :=
  ⟨k.os.trans h.os, k.tape.trans h.tape, k.output.trans h.output, Nat.le_trans h.size k.size, fun i hi hp hq => (k.block i hi hp hq).trans (h.block i hi hp hq)⟩
theorem Kept2.set {B p q : Nat} {a b : World} (h : Kept2 B p q a b) {k : Nat} (hk : k = p ∨ k = q ∨ B ≤ k) (i : Nat) (v : Value) : Kept2 B p q a (b.setCell ⟨k, i, none⟩ v) :=
  ⟨h.os, h.tape, h.output, by simpa [World.setCell] using h.size, fun j hj hp hq => (Below.heap_setCell b ⟨k, i, none⟩ v j (by rintro rfl; rcases hk with h | h | h <;> simp_all <;> omega)).trans (h.block j hj hp hq)⟩
theorem Kept2.alloc {B p q : Nat} {a b : World} (h : Kept2 B p q a b) (hB : B ≤ a.heap.size) (o : Obj) : Kept2 B p q a (b.alloc o) :=
  h.trans (Kept2.of_below ((Below.refl _ _).alloc (Nat.le_refl _) _) (by have := h.size; omega))
theorem Kept2.grown {B p q : Nat} {a b c : World} {row : Option Nat} (h : Kept2 B p q a b) (hB : B ≤ a.heap.size) (hg : b.grownBy c row) (hr : ∀ k, row = some k → B ≤ k) : Kept2 B p q a c :=
  h.trans ⟨hg.os, hg.tape, hg.output, hg.size, fun k hk _ _ => hg.block k (by have := h.size; omega) (fun e => by have := hr k e.symm; omega)⟩
/-- what 'take' makes of a word, behind these numbers -/
def tk (l : List Int) (w : List UInt8) : Option (List Int) := match wordNum w with
  | some n => if l.length < 24 then some (l ++ [n]) else none
  | none => none
theorem readGo_step (l : List Int) (w : List UInt8) (ws : List (List UInt8)) : readGo l (w :: ws) = match tk l w with
    | some l' => readGo l' ws
    | none => none := by
  unfold tk
  rw [readGo]
  cases wordNum w with
  | none => rfl
  | some n =>
    by_cases h : l.length < 24
    · simp only [if_pos h]
    · simp only [if_neg h]
/-- the state of 'take': its two boxes, over a world w0 -/
structure Taken (w0 : World) (B bp bo : Nat) (l : List Int) (b : Bool) (W : World) : Prop where
  row : ∃ v, W.heap[bp]? = some (.cells #[v] 40) ∧ W.ownsRow B 3 1 v l.length (ic l)
  flag : W.heap[bo]? = some (.cells #[.bool b] 4)
  ne : bp ≠ bo
  ltp : bp < B
  lto : bo < B
  size : B ≤ W.heap.size
  len : l.length ≤ 24
  low : w0.heap.size ≤ bp ∧ w0.heap.size ≤ bo
  base : Below w0.heap.size w0 W
def TakeEnds (w0 : World) (B bp bo : Nat) (l : List Int) (w : List UInt8) (W : World) (e : Ending) (w' : World) : Prop :=
  e = .returned (.bool (tk l w).isSome) ∧ Taken w0 B bp bo ((tk l w).getD l) (tk l w).isSome w' ∧ Kept2 B bp bo W w'
theorem TakeEnds.no {w0 : World} {B bp bo : Nat} {l : List Int} {w : List UInt8} {W w' : World} (hk : tk l w = none) (h : Taken w0 B bp bo l false w') (k : Kept2 B bp bo W w') : TakeEnds w0 B bp bo l w W (.returned (.bool false)) w' := by
  unfold TakeEnds
  rw [hk]
  exact ⟨rfl, h, k⟩
theorem TakeEnds.yes {w0 : World} {B bp bo : Nat} {l l' : List Int} {w : List UInt8} {W w' : World} (hk : tk l w = some l') (h : Taken w0 B bp bo l' true w') (k : Kept2 B bp bo W w') : TakeEnds w0 B bp bo l w W (.returned (.bool true)) w' := by
  unfold TakeEnds
  rw [hk]
  exact ⟨rfl, h, k⟩
/-- the flag is stored -/
theorem Taken.setFlag {w0 : World} {B bp bo : Nat} {l : List Int} {b : Bool} {W : World} (h : Taken w0 B bp bo l b W) (c : Bool) : Taken w0 B bp bo l c (W.setCell ⟨bo, 0, none⟩ (.bool c)) := by
  obtain ⟨⟨v, hv, hown⟩, hfl, hne, hbp, hbo, hsz, hlen, hlow, hb⟩ := h
  refine ⟨⟨v, setCell_other hv (fun e => hne e.symm) _, ownsRow_setCell_below hown (a := ⟨bo, 0, none⟩) hbo _⟩, setCell_block hfl _, hne, hbp, hbo, by simpa [World.setCell] using hsz, hlen, hlow, hb.setCell hlow.2 _⟩
theorem Taken.below {w0 : World} {B bp bo : Nat} {l : List Int} {b : Bool} {W w' : World} (h : Taken w0 B bp bo l b W) (hb : Below W.heap.size W w') : Taken w0 B bp bo l b w' := by
  obtain ⟨⟨v, hv, hown⟩, hfl, hne, hbp, hbo, hsz, hlen, hlow, hb0⟩ := h
  exact ⟨⟨v, (hb.block _ (Mem.lt hv)).trans hv, ownsRow_below hown hb⟩, (hb.block _ (Mem.lt hfl)).trans hfl, hne, hbp, hbo, Nat.le_trans hsz hb.size, hlen, hlow, below_then hb0 hb⟩
theorem pnone : pV none = 0 ∧ pO none = false := ⟨rfl, rfl⟩
theorem psome (n : Int) : pV (some n) = n ∧ pO (some n) = true := ⟨rfl, rfl⟩
theorem intInfo : (Tryd.prog.info? 3).map (fun i => (i.zero, i.size, i.bytes)) = some (some (.int .i64 0), 1, 8) := by kernel_rfl
set_option maxHeartbeats 1000000 in
theorem take_none (w0 : World) (hw0 : Laid w0) (B bp bo : Nat) (l : List Int) (word : ByteArray) (w : World) (h : Taken w0 B bp bo l true w) (hs : word.size ≤ 140737488351232) (HP : Hid (parseS word.data.toList = none)) (hk : tk l word.data.toList = none) :
    Calls Tryd.prog 37 #[.string word, .pointer (some ⟨bp, 0, none⟩), .pointer (some ⟨bo, 0, none⟩)] w (TakeEnds w0 B bp bo l word.data.toList w) := by
  go_enter Tryd.func37, Tryd.ntmps37
  go_wp2_with fail
  refine (parse_t _ _ hs (hw0.below h.base)).mono ?_
  rw [HP.out, pnone.1, pnone.2]
  rintro e w1 ⟨rfl, hb1⟩
  have H1 := h.below hb1
  have H2 := H1.setFlag false
  have k2 := (Kept2.of_below (p := bp) (q := bo) hb1 h.size).set (Or.inr (Or.inl rfl)) 0 (.bool false)
  have H1' := H1
  obtain ⟨⟨v, hv, hown⟩, hfl, hne, hbp, hbo, hsz, hlen, hlow, hb0⟩ := H1'
  obtain ⟨ao, cap, rfl⟩ := ownsRow_slice hown
  have c1 := Mem.cell (v := .slice ao l.length cap) hv 0 rfl
  have c2 := Mem.cell (v := .bool true) hfl 0 rfl
  have f2 := Mem.free hfl 0
  have hkk := Lib.hid (TakeEnds.no hk H2 k2)
  clear h hb1 H1 H2 k2 hv hown hfl hne hlow hb0 hk hbp hbo hsz
  go_wp2_with fail
  go_ret
  exact hkk.out
set_option maxHeartbeats 1000000 in
theorem take_low (w0 : World) (hw0 : Laid w0) (B bp bo : Nat) (l : List Int) (word : ByteArray) (w : World) (h : Taken w0 B bp bo l true w) (hs : word.size ≤ 140737488351232) (n : Int) (HP : Hid (parseS word.data.toList = some n)) (hn : n < 0) (hk : tk l word.data.toList = none) :
    Calls Tryd.prog 37 #[.string word, .pointer (some ⟨bp, 0, none⟩), .pointer (some ⟨bo, 0, none⟩)] w (TakeEnds w0 B bp bo l word.data.toList w) := by
  go_enter Tryd.func37, Tryd.ntmps37
  go_wp2_with fail
  refine (parse_t _ _ hs (hw0.below h.base)).mono ?_
  rw [HP.out, (psome _).1, (psome _).2]
  rintro e w1 ⟨rfl, hb1⟩
  have H1 := h.below hb1
  have H2 := H1.setFlag false
  have k2 := (Kept2.of_below (p := bp) (q := bo) hb1 h.size).set (Or.inr (Or.inl rfl)) 0 (.bool false)
  have H1' := H1
  obtain ⟨⟨v, hv, hown⟩, hfl, hne, hbp, hbo, hsz, hlen, hlow, hb0⟩ := H1'
  obtain ⟨ao, cap, rfl⟩ := ownsRow_slice hown
  have c1 := Mem.cell (v := .slice ao l.length cap) hv 0 rfl
  have c2 := Mem.cell (v := .bool true) hfl 0 rfl
  have f2 := Mem.free hfl 0
  have hkk := Lib.hid (TakeEnds.no hk H2 k2)
  clear h hb1 H1 H2 k2 hv hown hfl hne hlow hb0 hk hbp hbo hsz
  go_wp2_with fail
  go_ret
  exact hkk.out
set_option maxHeartbeats 1000000 in
theorem take_high (w0 : World) (hw0 : Laid w0) (B bp bo : Nat) (l : List Int) (word : ByteArray) (w : World) (h : Taken w0 B bp bo l true w) (hs : word.size ≤ 140737488351232) (n : Int) (HP : Hid (parseS word.data.toList = some n)) (hn : 0 ≤ n) (hn2 : 999 < n) (hk : tk l word.data.toList = none) :
    Calls Tryd.prog 37 #[.string word, .pointer (some ⟨bp, 0, none⟩), .pointer (some ⟨bo, 0, none⟩)] w (TakeEnds w0 B bp bo l word.data.toList w) := by
  go_enter Tryd.func37, Tryd.ntmps37
  go_wp2_with fail
  refine (parse_t _ _ hs (hw0.below h.base)).mono ?_
  rw [HP.out, (psome _).1, (psome _).2]
  rintro e w1 ⟨rfl, hb1⟩
  have H1 := h.below hb1
  have H2 := H1.setFlag false
  have k2 := (Kept2.of_below (p := bp) (q := bo) hb1 h.size).set (Or.inr (Or.inl rfl)) 0 (.bool false)
  have H1' := H1
  obtain ⟨⟨v, hv, hown⟩, hfl, hne, hbp, hbo, hsz, hlen, hlow, hb0⟩ := H1'
  obtain ⟨ao, cap, rfl⟩ := ownsRow_slice hown
  have c1 := Mem.cell (v := .slice ao l.length cap) hv 0 rfl
  have c2 := Mem.cell (v := .bool true) hfl 0 rfl
  have f2 := Mem.free hfl 0
  have hkk := Lib.hid (TakeEnds.no hk H2 k2)
  clear h hb1 H1 H2 k2 hv hown hfl hne hlow hb0 hk hbp hbo hsz
  go_wp2_with fail
  go_ret
  exact hkk.out
set_option maxHeartbeats 1000000 in
theorem take_full (w0 : World) (hw0 : Laid w0) (B bp bo : Nat) (l : List Int) (word : ByteArray) (w : World) (h : Taken w0 B bp bo l true w) (hs : word.size ≤ 140737488351232) (n : Int) (HP : Hid (parseS word.data.toList = some n)) (hn : 0 ≤ n) (hn2 : n ≤ 999) (hfull : decide ((l.length : Int) < 24) = false) (hk : tk l word.data.toList = none) :
    Calls Tryd.prog 37 #[.string word, .pointer (some ⟨bp, 0, none⟩), .pointer (some ⟨bo, 0, none⟩)] w (TakeEnds w0 B bp bo l word.data.toList w) := by
  go_enter Tryd.func37, Tryd.ntmps37
  go_wp2_with fail
  refine (parse_t _ _ hs (hw0.below h.base)).mono ?_
  rw [HP.out, (psome _).1, (psome _).2]
  rintro e w1 ⟨rfl, hb1⟩
  have H1 := h.below hb1
  have H2 := H1.setFlag false
  have k2 := (Kept2.of_below (p := bp) (q := bo) hb1 h.size).set (Or.inr (Or.inl rfl)) 0 (.bool false)
  have H1' := H1
  obtain ⟨⟨v, hv, hown⟩, hfl, hne, hbp, hbo, hsz, hlen, hlow, hb0⟩ := H1'
  obtain ⟨ao, cap, rfl⟩ := ownsRow_slice hown
  have c1 := Mem.cell (v := .slice ao l.length cap) hv 0 rfl
  have c2 := Mem.cell (v := .bool true) hfl 0 rfl
  have f2 := Mem.free hfl 0
  have hkk := Lib.hid (TakeEnds.no hk H2 k2)
  clear h hb1 H1 H2 k2 hv hown hfl hne hlow hb0 hk hbp hbo hsz
  go_wp2_with fail
  go_ret
  exact hkk.out
set_option maxHeartbeats 1000000 in
theorem take_yes (w0 : World) (hw0 : Laid w0) (B bp bo : Nat) (l : List Int) (word : ByteArray) (w : World) (h : Taken w0 B bp bo l true w) (hs : word.size ≤ 140737488351232) (n : Int) (HP : Hid (parseS word.data.toList = some n)) (hn : 0 ≤ n) (hn2 : n ≤ 999) (hroom : l.length < 24) (hk : tk l word.data.toList = some (l ++ [n])) :
    Calls Tryd.prog 37 #[.string word, .pointer (some ⟨bp, 0, none⟩), .pointer (some ⟨bo, 0, none⟩)] w (TakeEnds w0 B bp bo l word.data.toList w) := by
  obtain ⟨i0, hi, hz0, hz1, hz2⟩ := info_parts intInfo
  have hd : decide ((l.length : Int) < 24) = true := by simp; omega
  go_enter Tryd.func37, Tryd.ntmps37
  go_wp2_with fail
  refine (parse_t _ _ hs (hw0.below h.base)).mono ?_
  rw [HP.out, (psome _).1, (psome _).2]
  rintro e w1 ⟨rfl, hb1⟩
  have H1 := h.below hb1
  have H2 := H1.setFlag true
  have k2 := (Kept2.of_below (p := bp) (q := bo) hb1 h.size).set (Or.inr (Or.inl rfl)) 0 (.bool true)
  obtain ⟨⟨v, hv, hown⟩, hfl, hne, hbp, hbo, hsz, hlen, hlow, hb0⟩ := H1
  obtain ⟨ao, cap, rfl⟩ := ownsRow_slice hown
  have c1 := Mem.cell (v := .slice ao l.length cap) hv 0 rfl
  have c2 := Mem.cell (v := .bool true) hfl 0 rfl
  have f2 := Mem.free hfl 0
  have d1 := Mem.cell (v := .slice ao l.length cap) (setCell_other (b := bo) (i := 0) hv (fun e => hne e.symm) (.bool true)) 0 rfl
  have d2 := Mem.cell (v := .bool true) (setCell_block (i := 0) hfl (.bool true)) 0 rfl
  obtain ⟨W2, hW2⟩ : ∃ W2, W2 = w1.setCell ⟨bo, 0, none⟩ (.bool true) := ⟨_, rfl⟩
  have hv2 := setCell_other (b := bo) (i := 0) hv (fun e => hne e.symm) (.bool true)
  have hfl2 := setCell_block (i := 0) hfl (.bool true)
  have hown2 := ownsRow_setCell_below hown (a := ⟨bo, 0, none⟩) hbo (.bool true)
  have hsz2 : B ≤ W2.heap.size := by rw [hW2]; simpa [World.setCell] using hsz
  have hb2 : Below w0.heap.size w0 W2 := by rw [hW2]; exact hb0.setCell hlow.2 _
  rw [← hW2] at hv2 hfl2 hown2 k2
  have hk0 := Lib.hid hk
  have hne' := Lib.hid hne
  have HK := Lib.hid k2
  clear hk h hb1 H2 k2 hv hown hfl hne hb0
  go_upto_region 4 with (fail)
  rw [← hW2]
  clear c1 c2 f2 d1 d2 hW2
  have c1 := Mem.cell (v := .slice ao l.length cap) hv2 0 rfl
  go_wp2_with (at_builtin; refine wpList_append_own _ rfl _ _ 40 rfl B 3 i0 (.int .i64 0) 1 8 Tryd.underlying40 hi hz0 hz1 hz2 rfl (by decide) _ _ _ rfl (hown2.alloc _) ⟨W2.heap.size, 0, none⟩ 1 1 [.int .i64 n] rfl rfl ?c1 ?c2 ?c3 ?c4 ?c5 ?_)
  case c1 =>
    intro j u hj
    match j, hj with
    | 0, hj => simp at hj; subst hj; simp [Addr.add]
  case c2 => intro u hu; simp at hu; subst hu; rfl
  case c3 => unfold maxLen; omega
  case c4 => omega
  case c5 => simp; omega
  intro v' w3 hown' hgrow _
  have hg1 : w3.heap[bp]? = some (.cells #[.slice ao l.length cap] 40) := by
    rw [hgrow.block bp (by simp; omega) (fun e => by have := (hown2.lt bp e.symm).1; omega), Lib.alloc_old W2 _ bp (by omega)]
    exact hv2
  have hg2 : w3.heap[bo]? = some (.cells #[.bool true] 4) := by
    rw [hgrow.block bo (by simp; omega) (fun e => by have := (hown2.lt bo e.symm).1; omega), Lib.alloc_old W2 _ bo (by omega)]
    exact hfl2
  obtain ⟨g, cap', rfl⟩ : ∃ g cap', v' = .slice (some ⟨g, 0, none⟩) (l.length + 1) cap' := by
    rcases hown'.2 with ⟨_, h0⟩ | ⟨g, cap, cur, hv, _⟩
    · omega
    · exact ⟨g, cap, hv⟩
  have d1 := Mem.cell (v := .slice ao l.length cap) hg1 0 rfl
  have d2 := Mem.cell (v := .bool true) hg2 0 rfl
  have f1 := Mem.free hg1 0
  have e1 := Mem.cell (v := .bool true) (setCell_other (b := bp) (i := 0) hg2 hne'.out (.slice (some ⟨g, 0, none⟩) (l.length + 1) cap')) 0 rfl
  have hfin : TakeEnds w0 B bp bo l word.data.toList w (.returned (.bool true)) (w3.setCell ⟨bp, 0, none⟩ (.slice (some ⟨g, 0, none⟩) (l.length + 1) cap')) := by
    have hrow : ∀ k, (Value.slice ao l.length cap).ownBlock = some k → B ≤ k := fun k hk => (hown2.lt k hk).1
    have hsz3 : B ≤ w3.heap.size := by have := hgrow.size; simp at this; omega
    refine TakeEnds.yes hk0.out ⟨⟨_, setCell_block hg1 _, ?_⟩, setCell_other hg2 hne'.out _, hne'.out, hbp, hbo, by simpa [World.setCell] using hsz3, by simp; omega, hlow, ?_⟩ ?_
    · have : w3.ownsRow B 3 1 (.slice (some ⟨g, 0, none⟩) (l.length + 1) cap') (l ++ [n]).length (ic (l ++ [n])) := by
        rw [ic_app]
        simpa [ic] using hown'
      exact ownsRow_setCell_below this (a := ⟨bp, 0, none⟩) hbp _
    · exact (((hb2.alloc hb2.size _).grown hgrow (by have := hb2.size; simp; omega) (fun k hk => by have := hrow k hk; omega))).setCell (p := ⟨bp, 0, none⟩) hlow.1 _
    · have k3 : Kept2 B bp bo w W2 := HK.out
      have k4 : Kept2 B bp bo w w3 := k3.trans ((((Kept2.of_below (Below.refl _ _) hsz2).alloc hsz2 _)).grown hsz2 hgrow (fun k hk => hrow k hk))
      exact k4.set (Or.inl rfl) 0 _
  have HF := Lib.hid hfin
  clear hfin hown' hgrow hg1 hg2 hown2 hv2 hfl2 hb2 hsz2 HK hk0 hlow c1 hroom hn hn2 hd hbp hbo hsz hlen
  go_wp2_with fail
  go_ret
  exact HF.out
theorem take_any (w0 : World) (hw0 : Laid w0) (B bp bo : Nat) (l : List Int) (word : ByteArray) (w : World) (h : Taken w0 B bp bo l true w) (hs : word.size ≤ 140737488351232) :
    Calls Tryd.prog 37 #[.string word, .pointer (some ⟨bp, 0, none⟩), .pointer (some ⟨bo, 0, none⟩)] w (TakeEnds w0 B bp bo l word.data.toList w) := by
  cases hP : parseS word.data.toList with
  | none => exact take_none w0 hw0 B bp bo l word w h hs (Lib.hid hP) (by unfold tk wordNum; rw [hP])
  | some n =>
    by_cases h1 : 0 ≤ n
    · by_cases h2 : n ≤ 999
      · have hwn : wordNum word.data.toList = some n := by unfold wordNum; rw [hP]; exact if_pos ⟨h1, h2⟩
        by_cases h3 : l.length < 24
        · exact take_yes w0 hw0 B bp bo l word w h hs n (Lib.hid hP) h1 h2 h3 (by unfold tk; rw [hwn]; exact if_pos h3)
        · exact take_full w0 hw0 B bp bo l word w h hs n (Lib.hid hP) h1 h2 (by simp; omega) (by unfold tk; rw [hwn]; exact if_neg h3)
      · exact take_high w0 hw0 B bp bo l word w h hs n (Lib.hid hP) h1 (by omega) (by unfold tk wordNum; rw [hP]; simp only; rw [if_neg (fun h => h2 h.2)])
    · exact take_low w0 hw0 B bp bo l word w h hs n (Lib.hid hP) (by omega) (by unfold tk wordNum; rw [hP]; simp only; rw [if_neg (fun h => h1 h.1)])
end Go.Proofs.YtcgelcccboifjaaDoor
