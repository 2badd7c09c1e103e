/- NameTake, NameSeq, NameRead: joined into one text; each part says below what it holds. -/
import Derived.Test.YtlkgcidhhngfeaaGreatDoorZ2
import Derived.Test.YtlkgcidhhngfeaaGreatDoorNumText
import Derived.Test.YtlkgcidhhngfeaaGreatDoorZ1
import Derived.Lib.IndexBytes
/- name.read's closure 'take': one word's number is laid behind the others, or it says no. -/
namespace Go.Proofs.YtlkgcidhhngfeaaGreatDoor
open Go.RowKit
def ic (l : List Int) : List Value := l.map (.int .i64)
theorem ic_app (l m : List Int) : ic (l ++ m) = ic l ++ ic m := by simp [ic]
theorem ic_len (l : List Int) : (ic l).length = l.length := by simp [ic]
theorem ownsRow_slice {W : World} {B : Nat} {e : TypeId} {v : Value} {n : Nat} {xs : List Value} (h : W.ownsRow B e 1 v n xs) : ∃ ao cap, v = .slice ao n cap := by
  rcases h.2 with ⟨hv, h0⟩ | ⟨g, cap, cur, hv, _⟩
  · exact ⟨none, 0, by rw [hv, h0]⟩
  · exact ⟨_, _, hv⟩
theorem ownsRow_mono {W : World} {B B' : Nat} {e : TypeId} {v : Value} {n : Nat} {xs : List Value} (h : W.ownsRow B e 1 v n xs) (hB : B' ≤ B) : W.ownsRow B' e 1 v n xs := by
  refine ⟨h.1, ?_⟩
  rcases h.2 with hn | ⟨g, cap, cur, hv, hb, hg, rest⟩
  · exact Or.inl hn
  · exact Or.inr ⟨g, cap, cur, hv, by omega, hg, rest⟩
/-- blocks below B, but for two of them, are as they were -/
structure Kept2 (B p q : Nat) (W W' : World) : Prop where
  os : W'.os = W.os
  tape : W'.tape = W.tape
  output : W'.output = W.output
  size : W.heap.size ≤ W'.heap.size
  block : ∀ k, k < B → k ≠ p → k ≠ q → W'.heap[k]? = W.heap[k]?
theorem Kept2.of_below {B p q : Nat} {W W' : World} (h : Below W.heap.size W W') (hB : B ≤ W.heap.size) : Kept2 B p q W W' :=
  ⟨h.os, h.tape, h.output, h.size, fun k hk _ _ => h.block k (by omega)⟩
theorem Kept2.trans {B p q : Nat} {a b c : World} (h : Kept2 B p q a b) (k : Kept2 B p q b c) : Kept2 B p q a c :=
  ⟨k.os.trans h.os, k.tape.trans h.tape, k.output.trans h.output, Nat.le_trans h.size k.size, fun i hi hp hq => (k.block i hi hp hq).trans (h.block i hi hp hq)⟩
theorem Kept2.set {B p q : Nat} {a b : World} (h : Kept2 B p q a b) {k : Nat} (hk : k = p ∨ k = q ∨ B ≤ k) (i : Nat) (v : Value) : Kept2 B p q a (b.setCell ⟨k, i, none⟩ v) :=
  ⟨h.os, h.tape, h.output, by simpa [World.setCell] using h.size, fun j hj hp hq => (Below.heap_setCell b ⟨k, i, none⟩ v j (by rintro rfl; rcases hk with h | h | h <;> simp_all <;> omega)).trans (h.block j hj hp hq)⟩
theorem Kept2.alloc {B p q : Nat} {a b : World} (h : Kept2 B p q a b) (hB : B ≤ a.heap.size) (o : Obj) : Kept2 B p q a (b.alloc o) :=
  h.trans (Kept2.of_below ((Below.refl _ _).alloc (Nat.le_refl _) _) (by have := h.size; omega))
theorem Kept2.grown {B p q : Nat} {a b c : World} {row : Option Nat} (h : Kept2 B p q a b) (hB : B ≤ a.heap.size) (hg : b.grownBy c row) (hr : ∀ k, row = some k → B ≤ k) : Kept2 B p q a c :=
  h.trans ⟨hg.os, hg.tape, hg.output, hg.size, fun k hk _ _ => hg.block k (by have := h.size; omega) (fun e => by have := hr k e.symm; omega)⟩
/-- what 'take' makes of a word, behind these numbers -/
def tk (l : List Int) (w : List UInt8) : Option (List Int) := match wordNum w with
  | some n => if l.length < 24 then some (l ++ [n]) else none
  | none => none
theorem readGo_step (l : List Int) (w : List UInt8) (ws : List (List UInt8)) : readGo l (w :: ws) = match tk l w with
    | some l' => readGo l' ws
    | none => none := by
  unfold tk
  rw [readGo]
  cases wordNum w with
  | none => rfl
  | some n =>
    by_cases h : l.length < 24
    · simp only [if_pos h]
    · simp only [if_neg h]
/-- the state of 'take': its two boxes, over a world w0 -/
structure Taken (w0 : World) (B bp bo : Nat) (l : List Int) (b : Bool) (W : World) : Prop where
  row : ∃ v, W.heap[bp]? = some (.cells #[v] 95) ∧ W.ownsRow B 3 1 v l.length (ic l)
  flag : W.heap[bo]? = some (.cells #[.bool b] 4)
  ne : bp ≠ bo
  ltp : bp < B
  lto : bo < B
  size : B ≤ W.heap.size
  len : l.length ≤ 24
  low : w0.heap.size ≤ bp ∧ w0.heap.size ≤ bo
  base : Below w0.heap.size w0 W
def TakeEnds (w0 : World) (B bp bo : Nat) (l : List Int) (w : List UInt8) (W : World) (e : Ending) (w' : World) : Prop :=
  e = .returned (.bool (tk l w).isSome) ∧ Taken w0 B bp bo ((tk l w).getD l) (tk l w).isSome w' ∧ Kept2 B bp bo W w'
theorem TakeEnds.no {w0 : World} {B bp bo : Nat} {l : List Int} {w : List UInt8} {W w' : World} (hk : tk l w = none) (h : Taken w0 B bp bo l false w') (k : Kept2 B bp bo W w') : TakeEnds w0 B bp bo l w W (.returned (.bool false)) w' := by
  unfold TakeEnds
  rw [hk]
  exact ⟨rfl, h, k⟩
theorem TakeEnds.yes {w0 : World} {B bp bo : Nat} {l l' : List Int} {w : List UInt8} {W w' : World} (hk : tk l w = some l') (h : Taken w0 B bp bo l' true w') (k : Kept2 B bp bo W w') : TakeEnds w0 B bp bo l w W (.returned (.bool true)) w' := by
  unfold TakeEnds
  rw [hk]
  exact ⟨rfl, h, k⟩
/-- the flag is stored -/
theorem Taken.setFlag {w0 : World} {B bp bo : Nat} {l : List Int} {b : Bool} {W : World} (h : Taken w0 B bp bo l b W) (c : Bool) : Taken w0 B bp bo l c (W.setCell ⟨bo, 0, none⟩ (.bool c)) := by
  obtain ⟨⟨v, hv, hown⟩, hfl, hne, hbp, hbo, hsz, hlen, hlow, hb⟩ := h
  refine ⟨⟨v, setCell_other hv (fun e => hne e.symm) _, ownsRow_setCell_below hown (a := ⟨bo, 0, none⟩) hbo _⟩, setCell_block hfl _, hne, hbp, hbo, by simpa [World.setCell] using hsz, hlen, hlow, hb.setCell hlow.2 _⟩
theorem Taken.below {w0 : World} {B bp bo : Nat} {l : List Int} {b : Bool} {W w' : World} (h : Taken w0 B bp bo l b W) (hb : Below W.heap.size W w') : Taken w0 B bp bo l b w' := by
  obtain ⟨⟨v, hv, hown⟩, hfl, hne, hbp, hbo, hsz, hlen, hlow, hb0⟩ := h
  exact ⟨⟨v, (hb.block _ (Mem.lt hv)).trans hv, ownsRow_below hown hb⟩, (hb.block _ (Mem.lt hfl)).trans hfl, hne, hbp, hbo, Nat.le_trans hsz hb.size, hlen, hlow, below_then hb0 hb⟩
theorem pnone : pV none = 0 ∧ pO none = false := ⟨rfl, rfl⟩
theorem psome (n : Int) : pV (some n) = n ∧ pO (some n) = true := ⟨rfl, rfl⟩
theorem intInfo : (Tryz.prog.info? 3).map (fun i => (i.zero, i.size, i.bytes)) = some (some (.int .i64 0), 1, 8) := by kernel_rfl
set_option maxHeartbeats 1000000 in
theorem take_none (w0 : World) (hw0 : Laid w0) (B bp bo : Nat) (l : List Int) (word : ByteArray) (w : World) (h : Taken w0 B bp bo l true w) (hs : word.size ≤ 140737488351232) (HP : Hid (parseS word.data.toList = none)) (hk : tk l word.data.toList = none) :
    Calls Tryz.prog 67 #[.string word, .pointer (some ⟨bp, 0, none⟩), .pointer (some ⟨bo, 0, none⟩)] w (TakeEnds w0 B bp bo l word.data.toList w) := by
  go_enter Tryz.func67, Tryz.ntmps67
  go_wp2_with fail
  refine (parse_t _ _ hs (hw0.below h.base)).mono ?_
  rw [HP.out, pnone.1, pnone.2]
  rintro e w1 ⟨rfl, hb1⟩
  have H1 := h.below hb1
  have H2 := H1.setFlag false
  have k2 := (Kept2.of_below (p := bp) (q := bo) hb1 h.size).set (Or.inr (Or.inl rfl)) 0 (.bool false)
  have H1' := H1
  obtain ⟨⟨v, hv, hown⟩, hfl, hne, hbp, hbo, hsz, hlen, hlow, hb0⟩ := H1'
  obtain ⟨ao, cap, rfl⟩ := ownsRow_slice hown
  have c1 := Mem.cell (v := .slice ao l.length cap) hv 0 rfl
  have c2 := Mem.cell (v := .bool true) hfl 0 rfl
  have f2 := Mem.free hfl 0
  have hkk := Lib.hid (TakeEnds.no hk H2 k2)
  clear h hb1 H1 H2 k2 hv hown hfl hne hlow hb0 hk hbp hbo hsz
  go_wp2_with fail
  go_ret
  exact hkk.out
set_option maxHeartbeats 1000000 in
theorem take_low (w0 : World) (hw0 : Laid w0) (B bp bo : Nat) (l : List Int) (word : ByteArray) (w : World) (h : Taken w0 B bp bo l true w) (hs : word.size ≤ 140737488351232) (n : Int) (HP : Hid (parseS word.data.toList = some n)) (hn : n < 0) (hk : tk l word.data.toList = none) :
    Calls Tryz.prog 67 #[.string word, .pointer (some ⟨bp, 0, none⟩), .pointer (some ⟨bo, 0, none⟩)] w (TakeEnds w0 B bp bo l word.data.toList w) := by
  go_enter Tryz.func67, Tryz.ntmps67
  go_wp2_with fail
  refine (parse_t _ _ hs (hw0.below h.base)).mono ?_
  rw [HP.out, (psome _).1, (psome _).2]
  rintro e w1 ⟨rfl, hb1⟩
  have H1 := h.below hb1
  have H2 := H1.setFlag false
  have k2 := (Kept2.of_below (p := bp) (q := bo) hb1 h.size).set (Or.inr (Or.inl rfl)) 0 (.bool false)
  have H1' := H1
  obtain ⟨⟨v, hv, hown⟩, hfl, hne, hbp, hbo, hsz, hlen, hlow, hb0⟩ := H1'
  obtain ⟨ao, cap, rfl⟩ := ownsRow_slice hown
  have c1 := Mem.cell (v := .slice ao l.length cap) hv 0 rfl
  have c2 := Mem.cell (v := .bool true) hfl 0 rfl
  have f2 := Mem.free hfl 0
  have hkk := Lib.hid (TakeEnds.no hk H2 k2)
  clear h hb1 H1 H2 k2 hv hown hfl hne hlow hb0 hk hbp hbo hsz
  go_wp2_with fail
  go_ret
  exact hkk.out
set_option maxHeartbeats 1000000 in
theorem take_high (w0 : World) (hw0 : Laid w0) (B bp bo : Nat) (l : List Int) (word : ByteArray) (w : World) (h : Taken w0 B bp bo l true w) (hs : word.size ≤ 140737488351232) (n : Int) (HP : Hid (parseS word.data.toList = some n)) (hn : 0 ≤ n) (hn2 : 999 < n) (hk : tk l word.data.toList = none) :
    Calls Tryz.prog 67 #[.string word, .pointer (some ⟨bp, 0, none⟩), .pointer (some ⟨bo, 0, none⟩)] w (TakeEnds w0 B bp bo l word.data.toList w) := by
  go_enter Tryz.func67, Tryz.ntmps67
  go_wp2_with fail
  refine (parse_t _ _ hs (hw0.below h.base)).mono ?_
  rw [HP.out, (psome _).1, (psome _).2]
  rintro e w1 ⟨rfl, hb1⟩
  have H1 := h.below hb1
  have H2 := H1.setFlag false
  have k2 := (Kept2.of_below (p := bp) (q := bo) hb1 h.size).set (Or.inr (Or.inl rfl)) 0 (.bool false)
  have H1' := H1
  obtain ⟨⟨v, hv, hown⟩, hfl, hne, hbp, hbo, hsz, hlen, hlow, hb0⟩ := H1'
  obtain ⟨ao, cap, rfl⟩ := ownsRow_slice hown
  have c1 := Mem.cell (v := .slice ao l.length cap) hv 0 rfl
  have c2 := Mem.cell (v := .bool true) hfl 0 rfl
  have f2 := Mem.free hfl 0
  have hkk := Lib.hid (TakeEnds.no hk H2 k2)
  clear h hb1 H1 H2 k2 hv hown hfl hne hlow hb0 hk hbp hbo hsz
  go_wp2_with fail
  go_ret
  exact hkk.out
set_option maxHeartbeats 1000000 in
theorem take_full (w0 : World) (hw0 : Laid w0) (B bp bo : Nat) (l : List Int) (word : ByteArray) (w : World) (h : Taken w0 B bp bo l true w) (hs : word.size ≤ 140737488351232) (n : Int) (HP : Hid (parseS word.data.toList = some n)) (hn : 0 ≤ n) (hn2 : n ≤ 999) (hfull : decide ((l.length : Int) < 24) = false) (hk : tk l word.data.toList = none) :
    Calls Tryz.prog 67 #[.string word, .pointer (some ⟨bp, 0, none⟩), .pointer (some ⟨bo, 0, none⟩)] w (TakeEnds w0 B bp bo l word.data.toList w) := by
  go_enter Tryz.func67, Tryz.ntmps67
  go_wp2_with fail
  refine (parse_t _ _ hs (hw0.below h.base)).mono ?_
  rw [HP.out, (psome _).1, (psome _).2]
  rintro e w1 ⟨rfl, hb1⟩
  have H1 := h.below hb1
  have H2 := H1.setFlag false
  have k2 := (Kept2.of_below (p := bp) (q := bo) hb1 h.size).set (Or.inr (Or.inl rfl)) 0 (.bool false)
  have H1' := H1
  obtain ⟨⟨v, hv, hown⟩, hfl, hne, hbp, hbo, hsz, hlen, hlow, hb0⟩ := H1'
  obtain ⟨ao, cap, rfl⟩ := ownsRow_slice hown
  have c1 := Mem.cell (v := .slice ao l.length cap) hv 0 rfl
  have c2 := Mem.cell (v := .bool true) hfl 0 rfl
  have f2 := Mem.free hfl 0
  have hkk := Lib.hid (TakeEnds.no hk H2 k2)
  clear h hb1 H1 H2 k2 hv hown hfl hne hlow hb0 hk hbp hbo hsz
  go_wp2_with fail
  go_ret
  exact hkk.out
set_option maxHeartbeats 1000000 in
theorem take_yes (w0 : World) (hw0 : Laid w0) (B bp bo : Nat) (l : List Int) (word : ByteArray) (w : World) (h : Taken w0 B bp bo l true w) (hs : word.size ≤ 140737488351232) (n : Int) (HP : Hid (parseS word.data.toList = some n)) (hn : 0 ≤ n) (hn2 : n ≤ 999) (hroom : l.length < 24) (hk : tk l word.data.toList = some (l ++ [n])) :
    Calls Tryz.prog 67 #[.string word, .pointer (some ⟨bp, 0, none⟩), .pointer (some ⟨bo, 0, none⟩)] w (TakeEnds w0 B bp bo l word.data.toList w) := by
  obtain ⟨i0, hi, hz0, hz1, hz2⟩ := info_parts intInfo
  have hd : decide ((l.length : Int) < 24) = true := by simp; omega
  go_enter Tryz.func67, Tryz.ntmps67
  go_wp2_with fail
  refine (parse_t _ _ hs (hw0.below h.base)).mono ?_
  rw [HP.out, (psome _).1, (psome _).2]
  rintro e w1 ⟨rfl, hb1⟩
  have H1 := h.below hb1
  have H2 := H1.setFlag true
  have k2 := (Kept2.of_below (p := bp) (q := bo) hb1 h.size).set (Or.inr (Or.inl rfl)) 0 (.bool true)
  obtain ⟨⟨v, hv, hown⟩, hfl, hne, hbp, hbo, hsz, hlen, hlow, hb0⟩ := H1
  obtain ⟨ao, cap, rfl⟩ := ownsRow_slice hown
  have c1 := Mem.cell (v := .slice ao l.length cap) hv 0 rfl
  have c2 := Mem.cell (v := .bool true) hfl 0 rfl
  have f2 := Mem.free hfl 0
  have d1 := Mem.cell (v := .slice ao l.length cap) (setCell_other (b := bo) (i := 0) hv (fun e => hne e.symm) (.bool true)) 0 rfl
  have d2 := Mem.cell (v := .bool true) (setCell_block (i := 0) hfl (.bool true)) 0 rfl
  obtain ⟨W2, hW2⟩ : ∃ W2, W2 = w1.setCell ⟨bo, 0, none⟩ (.bool true) := ⟨_, rfl⟩
  have hv2 := setCell_other (b := bo) (i := 0) hv (fun e => hne e.symm) (.bool true)
  have hfl2 := setCell_block (i := 0) hfl (.bool true)
  have hown2 := ownsRow_setCell_below hown (a := ⟨bo, 0, none⟩) hbo (.bool true)
  have hsz2 : B ≤ W2.heap.size := by rw [hW2]; simpa [World.setCell] using hsz
  have hb2 : Below w0.heap.size w0 W2 := by rw [hW2]; exact hb0.setCell hlow.2 _
  rw [← hW2] at hv2 hfl2 hown2 k2
  have hk0 := Lib.hid hk
  have hne' := Lib.hid hne
  have HK := Lib.hid k2
  clear hk h hb1 H2 k2 hv hown hfl hne hb0
  go_upto_region 4 with (fail)
  rw [← hW2]
  clear c1 c2 f2 d1 d2 hW2
  have c1 := Mem.cell (v := .slice ao l.length cap) hv2 0 rfl
  go_wp2_with (at_builtin; refine wpList_append_own _ rfl _ _ 95 rfl B 3 i0 (.int .i64 0) 1 8 Tryz.underlying95 hi hz0 hz1 hz2 rfl (by decide) _ _ _ rfl (hown2.alloc _) ⟨W2.heap.size, 0, none⟩ 1 1 [.int .i64 n] rfl rfl ?c1 ?c2 ?c3 ?c4 ?c5 ?_)
  case c1 =>
    intro j u hj
    match j, hj with
    | 0, hj => simp at hj; subst hj; simp [Addr.add]
  case c2 => intro u hu; simp at hu; subst hu; rfl
  case c3 => unfold maxLen; omega
  case c4 => omega
  case c5 => simp; omega
  intro v' w3 hown' hgrow _
  have hg1 : w3.heap[bp]? = some (.cells #[.slice ao l.length cap] 95) := by
    rw [hgrow.block bp (by simp; omega) (fun e => by have := (hown2.lt bp e.symm).1; omega), Lib.alloc_old W2 _ bp (by omega)]
    exact hv2
  have hg2 : w3.heap[bo]? = some (.cells #[.bool true] 4) := by
    rw [hgrow.block bo (by simp; omega) (fun e => by have := (hown2.lt bo e.symm).1; omega), Lib.alloc_old W2 _ bo (by omega)]
    exact hfl2
  obtain ⟨g, cap', rfl⟩ : ∃ g cap', v' = .slice (some ⟨g, 0, none⟩) (l.length + 1) cap' := by
    rcases hown'.2 with ⟨_, h0⟩ | ⟨g, cap, cur, hv, _⟩
    · omega
    · exact ⟨g, cap, hv⟩
  have d1 := Mem.cell (v := .slice ao l.length cap) hg1 0 rfl
  have d2 := Mem.cell (v := .bool true) hg2 0 rfl
  have f1 := Mem.free hg1 0
  have e1 := Mem.cell (v := .bool true) (setCell_other (b := bp) (i := 0) hg2 hne'.out (.slice (some ⟨g, 0, none⟩) (l.length + 1) cap')) 0 rfl
  have hfin : TakeEnds w0 B bp bo l word.data.toList w (.returned (.bool true)) (w3.setCell ⟨bp, 0, none⟩ (.slice (some ⟨g, 0, none⟩) (l.length + 1) cap')) := by
    have hrow : ∀ k, (Value.slice ao l.length cap).ownBlock = some k → B ≤ k := fun k hk => (hown2.lt k hk).1
    have hsz3 : B ≤ w3.heap.size := by have := hgrow.size; simp at this; omega
    refine TakeEnds.yes hk0.out ⟨⟨_, setCell_block hg1 _, ?_⟩, setCell_other hg2 hne'.out _, hne'.out, hbp, hbo, by simpa [World.setCell] using hsz3, by simp; omega, hlow, ?_⟩ ?_
    · have : w3.ownsRow B 3 1 (.slice (some ⟨g, 0, none⟩) (l.length + 1) cap') (l ++ [n]).length (ic (l ++ [n])) := by
        rw [ic_app]
        simpa [ic] using hown'
      exact ownsRow_setCell_below this (a := ⟨bp, 0, none⟩) hbp _
    · exact (((hb2.alloc hb2.size _).grown hgrow (by have := hb2.size; simp; omega) (fun k hk => by have := hrow k hk; omega))).setCell (p := ⟨bp, 0, none⟩) hlow.1 _
    · have k3 : Kept2 B bp bo w W2 := HK.out
      have k4 : Kept2 B bp bo w w3 := k3.trans ((((Kept2.of_below (Below.refl _ _) hsz2).alloc hsz2 _)).grown hsz2 hgrow (fun k hk => hrow k hk))
      exact k4.set (Or.inl rfl) 0 _
  have HF := Lib.hid hfin
  clear hfin hown' hgrow hg1 hg2 hown2 hv2 hfl2 hb2 hsz2 HK hk0 hlow c1 hroom hn hn2 hd hbp hbo hsz hlen
  go_wp2_with fail
  go_ret
  exact HF.out
theorem take_any (w0 : World) (hw0 : Laid w0) (B bp bo : Nat) (l : List Int) (word : ByteArray) (w : World) (h : Taken w0 B bp bo l true w) (hs : word.size ≤ 140737488351232) :
    Calls Tryz.prog 67 #[.string word, .pointer (some ⟨bp, 0, none⟩), .pointer (some ⟨bo, 0, none⟩)] w (TakeEnds w0 B bp bo l word.data.toList w) := by
  cases hP : parseS word.data.toList with
  | none => exact take_none w0 hw0 B bp bo l word w h hs (Lib.hid hP) (by unfold tk wordNum; rw [hP])
  | some n =>
    by_cases h1 : 0 ≤ n
    · by_cases h2 : n ≤ 999
      · have hwn : wordNum word.data.toList = some n := by unfold wordNum; rw [hP]; exact if_pos ⟨h1, h2⟩
        by_cases h3 : l.length < 24
        · exact take_yes w0 hw0 B bp bo l word w h hs n (Lib.hid hP) h1 h2 h3 (by unfold tk; rw [hwn]; exact if_pos h3)
        · exact take_full w0 hw0 B bp bo l word w h hs n (Lib.hid hP) h1 h2 (by simp; omega) (by unfold tk; rw [hwn]; exact if_neg h3)
      · exact take_high w0 hw0 B bp bo l word w h hs n (Lib.hid hP) h1 (by omega) (by unfold tk wordNum; rw [hP]; simp only; rw [if_neg (fun h => h2 h.2)])
    · exact take_low w0 hw0 B bp bo l word w h hs n (Lib.hid hP) (by omega) (by unfold tk wordNum; rw [hP]; simp only; rw [if_neg (fun h => h1 h.1)])
end Go.Proofs.YtlkgcidhhngfeaaGreatDoor
/- strings.SplitSeq at a dot, called with name.read's closure; name.read. -/
namespace Go.Proofs.YtlkgcidhhngfeaaGreatDoor
open Go.RowKit
structure SeqAt (w0 : World) (B bp bo bs be bv : Nat) (l : List Int) (rest : ByteArray) (W : World) : Prop where
  tk : Taken w0 B bp bo l true W
  cs : W.heap[bs]? = some (.cells #[.string rest] 9)
  ce : W.heap[be]? = some (.cells #[.string ⟨#[46]⟩] 9)
  cv : W.heap[bv]? = some (.cells #[.int .i64 0] 3)
  lt : bs < B ∧ be < B ∧ bv < B
  ne : bs ≠ bp ∧ bs ≠ bo ∧ be ≠ bp ∧ be ≠ bo ∧ bv ≠ bp ∧ bv ≠ bo ∧ bs ≠ be ∧ bs ≠ bv
  low : w0.heap.size ≤ bs
def SeqEnds (w0 : World) (B bp bo : Nat) (F : Option (List Int)) (e : Ending) (w' : World) : Prop :=
  e = .returned (.tuple #[]) ∧ ∃ l, Taken w0 B bp bo l F.isSome w' ∧ (∀ x, F = some x → x = l)
/-- the words of a text by where its first dot is -/
theorem indexByte_dot : ∀ l : List UInt8, (Lib.indexByte l 46 = -1 ∧ words l = [l]) ∨ ∃ k : Nat, Lib.indexByte l 46 = k ∧ k < l.length ∧ words l = l.take k :: words (l.drop (k + 1))
  | [] => Or.inl ⟨rfl, rfl⟩
  | c :: l => by
    unfold Lib.indexByte
    by_cases hc : c = 46
    · subst hc
      exact Or.inr ⟨0, by simp, by simp, by rw [words_dot]; rfl⟩
    · have hb : (c == 46) = false := by simpa using hc
      obtain ⟨a, t, h3, h4⟩ := words_cons hc l
      rcases indexByte_dot l with ⟨h1, h2⟩ | ⟨k, h1, h2, h5⟩
      · rw [h2] at h3
        simp only [List.cons.injEq] at h3
        left
        rw [h1, h4, ← h3.1, ← h3.2]
        exact ⟨by simp [hb], rfl⟩
      · rw [h5] at h3
        simp only [List.cons.injEq] at h3
        right
        refine ⟨k + 1, ?_, by simp; omega, ?_⟩
        · rw [h1]
          have h0 : (((k : Int)) == -1) = false := beq_eq_false_iff_ne.2 (by omega)
          simp only [hb, h0, Bool.false_eq_true, if_false]
          omega
        · rw [h4, ← h3.1, ← h3.2]
          rfl
theorem SeqAt.kept {w0 : World} {B bp bo bs be bv : Nat} {l l' : List Int} {rest : ByteArray} {W W' : World} (h : SeqAt w0 B bp bo bs be bv l rest W) (k : Kept2 B bp bo W W') (t : Taken w0 B bp bo l' true W') : SeqAt w0 B bp bo bs be bv l' rest W' := by
  obtain ⟨n1, n2, n3, n4, n5, n6, n7, n8⟩ := h.ne
  exact ⟨t, (k.block _ h.lt.1 n1 n2).trans h.cs, (k.block _ h.lt.2.1 n3 n4).trans h.ce, (k.block _ h.lt.2.2 n5 n6).trans h.cv, h.lt, h.ne, h.low⟩
theorem Taken.other {w0 : World} {B bp bo : Nat} {l : List Int} {b : Bool} {W : World} (h : Taken w0 B bp bo l b W) {k : Nat} (h1 : k ≠ bp) (h2 : k ≠ bo) (hk : k < B) (hlow : w0.heap.size ≤ k) (x : Value) : Taken w0 B bp bo l b (W.setCell ⟨k, 0, none⟩ x) := by
  obtain ⟨⟨v, hv, hown⟩, hfl, hne, hbp, hbo, hsz, hlen, hl, hb⟩ := h
  exact ⟨⟨v, setCell_other hv h1 _, ownsRow_setCell_below hown (a := ⟨k, 0, none⟩) hk _⟩, setCell_other hfl h2 _, hne, hbp, hbo, by simpa [World.setCell] using hsz, hlen, hl, hb.setCell hlow _⟩
theorem SeqAt.set {w0 : World} {B bp bo bs be bv : Nat} {l : List Int} {rest : ByteArray} {W : World} (h : SeqAt w0 B bp bo bs be bv l rest W) (r : ByteArray) : SeqAt w0 B bp bo bs be bv l r (W.setCell ⟨bs, 0, none⟩ (.string r)) := by
  obtain ⟨n1, n2, n3, n4, n5, n6, n7, n8⟩ := h.ne
  exact ⟨h.tk.other n1 n2 h.lt.1 h.low _, setCell_block h.cs _, setCell_other h.ce n7 _, setCell_other h.cv n8 _, h.lt, h.ne, h.low⟩
def restSize (bs : Nat) (W : World) : Nat := match W.heap[bs]? with
  | some (.cells #[.string r] _ _) => r.size
  | _ => 0
theorem restSize_eq {bs : Nat} {W : World} {r : ByteArray} {T : TypeId} (h : W.heap[bs]? = some (.cells #[.string r] T)) : restSize bs W = r.size := by unfold restSize; rw [h]; rfl
def SeqRel (w0 : World) (B bp bo bs be bv n : Nat) (F : Option (List Int)) (W : World) : Prop := ∃ l rest, SeqAt w0 B bp bo bs be bv l rest W ∧ rest.size ≤ n ∧ readGo l (words rest.data.toList) = F
theorem SeqEnds.mk {w0 : World} {B bp bo : Nat} {F : Option (List Int)} {l : List Int} {w : List UInt8} {W w' : World} (h : TakeEnds w0 B bp bo l w W (.returned (.bool (tk l w).isSome)) w') (hF : tk l w = F) : SeqEnds w0 B bp bo F (.returned (.tuple #[])) w' := by
  obtain ⟨_, ht, _⟩ := h
  rw [hF] at ht
  refine ⟨rfl, _, ht, ?_⟩
  rintro x rfl
  rfl
set_option maxHeartbeats 1000000 in
theorem seq_any (w0 : World) (hw0 : Laid w0) (B bp bo bs be bv : Nat) (s : ByteArray) (w : World) (hs : s.size ≤ 140737488351232) (h : SeqAt w0 B bp bo bs be bv [] s w) :
    Calls Tryz.prog 109 #[.func (.func 67) #[] #[.pointer (some ⟨bp, 0, none⟩), .pointer (some ⟨bo, 0, none⟩)], .pointer (some ⟨be, 0, none⟩), .pointer (some ⟨bs, 0, none⟩), .pointer (some ⟨bv, 0, none⟩)] w (SeqEnds w0 B bp bo (readGo [] (words s.data.toList))) := by
  have ce := Mem.cell (v := .string ⟨#[46]⟩) h.ce 0 rfl
  generalize hF : readGo [] (words s.data.toList) = F
  have hrel0 : SeqRel w0 B bp bo bs be bv s.size F w := ⟨[], s, h, Nat.le_refl _, hF⟩
  generalize hN : s.size = N at hs hrel0
  clear hF hN h
  go_enter Tryz.func109, Tryz.ntmps109
  go_wp2_with fail
  go_loopw [7, 8] (fun _ _ W => SeqRel w0 B bp bo bs be bv N F W) (fun _ _ W => restSize bs W)
  case atStart => exact hrel0
  case round =>
    obtain ⟨l, rest, h, hn, hF⟩ := hrel
    have cs := Mem.cell (v := .string rest) h.cs 0 rfl
    have ce := Mem.cell (v := .string ⟨#[46]⟩) h.ce 0 rfl
    have cv := Mem.cell (v := .int .i64 0) h.cv 0 rfl
    have fs := Mem.free h.cs 0
    have hm := Lib.hid (restSize_eq h.cs)
    have H := Lib.hid h
    have HF := Lib.hid hF
    clear hrel0 h hF
    rcases indexByte_dot rest.data.toList with ⟨h1, h2⟩ | ⟨k, h1, h2, h3⟩
    · have H1 := Lib.hid h1
      have H2 := Lib.hid h2
      clear h1 h2
      go_wp2_with fail
      refine (Go.Proofs.Tryz.strings_Index_one _ _ _).mono ?_
      rw [H1.out]
      rintro e _ ⟨rfl, rfl⟩
      go_wp2_with fail
      refine (take_any w0 hw0 B bp bo l rest _ H.out.tk (by omega)).mono ?_
      rintro e w2 ht
      have hF2 : tk l rest.data.toList = F := by
        have h3 := HF.out
        rw [H2.out, readGo_step] at h3
        rw [← h3]
        cases tk l rest.data.toList <;> rfl
      obtain rfl := ht.1
      have HE := Lib.hid (SeqEnds.mk ht hF2)
      clear ht hF2 HF H hm cs ce cv fs hw0
      go_wp2_with fail
      go_end0
      exact HE.out
    · have H1 := Lib.hid h1
      have H2 := Lib.hid h3
      have hk : k < rest.size := h2
      have hr : rest.size ≤ 140737488351232 := by omega
      clear h1 h3 h2
      go_wp2_with fail
      refine (Go.Proofs.Tryz.strings_Index_one _ _ _).mono ?_
      rw [H1.out]
      rintro e _ ⟨rfl, rfl⟩
      go_wp2_with fail
      have hex : (rest.extract 0 k).data.toList = rest.data.toList.take k := by simp
      have hex2 : (rest.extract (k + 1) rest.size).data.toList = rest.data.toList.drop (k + 1) := Lib.extract_to_end rest (k + 1)
      have hF1 : (match tk l (rest.data.toList.take k) with | some l' => readGo l' (words (rest.data.toList.drop (k + 1))) | none => none) = F := by
        have := HF.out
        rw [H2.out, readGo_step] at this
        exact this
      refine (take_any w0 hw0 B bp bo l (rest.extract 0 k) _ H.out.tk (by have : (rest.extract 0 k).size = k := by simp; omega
                                                                          omega)).mono ?_
      rintro e w2 ht
      have hb := ht.1
      cases htk : tk l (rest.data.toList.take k) with
      | none =>
        rw [htk] at hF1
        rw [hex, htk] at hb
        obtain rfl := hb
        have HE : Hid (SeqEnds w0 B bp bo F (.returned (.tuple #[])) w2) := Lib.hid (SeqEnds.mk (l := l) (w := (rest.extract 0 k).data.toList) (by rw [hex, htk]; rw [hex] at ht; exact ht) (by rw [hex, htk]; exact hF1))
        clear ht hF1 HF H hm cs ce cv fs hw0 hex hex2 htk
        go_wp2_with fail
        go_end0
        exact HE.out
      | some l' =>
        rw [htk] at hF1
        rw [hex, htk] at hb
        obtain rfl := hb
        have ht2 := ht
        unfold TakeEnds at ht2
        rw [hex, htk] at ht2
        have S2 := H.out.kept ht2.2.2 ht2.2.1
        have S3 := Lib.hid (S2.set (rest.extract (k + 1) rest.size))
        have cs2 := Mem.cell (v := .string rest) S2.cs 0 rfl
        have ce2 := Mem.cell (v := .string ⟨#[46]⟩) S2.ce 0 rfl
        have fs2 := Mem.free S2.cs 0
        have HF3 : Hid (readGo l' (words (rest.extract (k + 1) rest.size).data.toList) = F) := Lib.hid (by rw [hex2]; exact hF1)
        have hm2 : Hid (restSize bs (w2.setCell ⟨bs, 0, none⟩ (.string (rest.extract (k + 1) rest.size))) < restSize bs w2) := Lib.hid (by
          rw [restSize_eq S3.out.cs, restSize_eq S2.cs]
          simp
          omega)
        have hm3 : Hid (restSize bs (w2.setCell ⟨bs, 0, none⟩ (.string (rest.extract (k + 1) rest.size))) < rest.size) := Lib.hid (by
          rw [restSize_eq S3.out.cs]
          simp
          omega)
        clear ht ht2 S2 hF1 HF H cs ce cv fs hw0 hex hex2 htk
        go_wp2_with fail
        go_roundw
        case rel => exact ⟨l', _, S3.out, by simp; omega, HF3.out⟩
        case measure => rw [hm.out]; exact hm3.out
end Go.Proofs.YtlkgcidhhngfeaaGreatDoor
/- name.read: the numbers of a name. -/
namespace Go.Proofs.YtlkgcidhhngfeaaGreatDoor
open Go.RowKit
theorem splitSeq_any (s : ByteArray) (w : World) :
    Calls Tryz.prog 69 #[.string s, .string ⟨#[46]⟩] w fun e w' => e = .returned (.func (.func 109) #[] #[.pointer (some ⟨w.heap.size + 1, 0, none⟩), .pointer (some ⟨w.heap.size, 0, none⟩), .pointer (some ⟨w.heap.size + 1 + 1, 0, none⟩)]) ∧
      ((w.alloc (.cells #[.string s] 9)).alloc (.cells #[.string ⟨#[46]⟩] 9)).alloc (.cells #[.int .i64 0] 3) = w' := by
  go_enter Tryz.func69, Tryz.ntmps69
  go_wp2
  go_ret
  exact ⟨rfl, rfl⟩
def ReadEnds (w : World) (F : Option (List Int)) (e : Ending) (w' : World) : Prop :=
  ∃ v, e = .returned (.tuple #[v, .bool F.isSome]) ∧ w'.ownsRow w.heap.size 3 1 v (F.getD []).length (ic (F.getD [])) ∧ Below w.heap.size w w' ∧ (F = none → v = .slice none 0 0)
theorem ReadEnds.no {w w' : World} {F : Option (List Int)} (h : F = none) (hb : Below w.heap.size w w') : ReadEnds w F (.returned (.tuple #[.slice none 0 0, .bool false])) w' := by
  subst h
  exact ⟨_, rfl, World.ownsRow_nil _ _ _ _, hb, fun _ => rfl⟩
set_option maxHeartbeats 1000000 in
theorem read_long (s : ByteArray) (w : World) (hs : s.size ≤ 140737488351232) (h : (95 : Int) < s.size) :
    Calls Tryz.prog 52 #[.string s] w (ReadEnds w (readL s.data.toList)) := by
  have HE := Lib.hid (ReadEnds.no (w := w) (w' := w) (F := readL s.data.toList) (by unfold readL; rw [if_pos (by rw [Array.length_toList]; have : s.data.size = s.size := rfl; omega)]) (Below.refl _ _))
  go_enter Tryz.func52, Tryz.ntmps52
  go_wp2_with fail
  go_ret2
  exact HE.out
set_option maxHeartbeats 1000000 in
theorem read_short (s : ByteArray) (w : World) (h : s.size ≤ 95) (hw : Laid w) :
    Calls Tryz.prog 52 #[.string s] w (ReadEnds w (readL s.data.toList)) := by
  have hI : (s.size : Int) ≤ 95 := by omega
  generalize hF : readL s.data.toList = F
  have hF2 : readGo [] (words s.data.toList) = F := by
    rw [← hF]
    unfold readL
    rw [if_neg (by rw [Array.length_toList]; have : s.data.size = s.size := rfl; omega)]
  have HF2 := Lib.hid hF2
  clear hF hF2
  go_enter Tryz.func52, Tryz.ntmps52
  have hB0 := Below.refl w.heap.size w
  have M0 := Mem.nil w
  have hw0 := hw
  go_wp2_with fail
  refine Calls.named ?_
  intro W hW
  have hM : Mem W [(w.heap.size + 1, .cells #[.bool true] 4), (w.heap.size, .cells #[.slice none 0 0] 95)] := by
    rw [hW]
    exact (M0.new (.cells #[.slice none 0 0] 95)).new' _ (by simp) _
  have hB1 : Below w.heap.size w W := by rw [hW]; exact below_al (below_al hB0 _) _
  have hn : W.heap.size = w.heap.size + 1 + 1 := by rw [hW]; simp
  have hn' := Lib.hid hn
  clear hn hW
  refine (splitSeq_any s W).mono ?_
  rintro e w1 ⟨rfl, hw1⟩
  have hM1 : Mem w1 [(W.heap.size + 1 + 1, .cells #[.int .i64 0] 3), (W.heap.size + 1, .cells #[.string ⟨#[46]⟩] 9), (W.heap.size, .cells #[.string s] 9), (w.heap.size + 1, .cells #[.bool true] 4), (w.heap.size, .cells #[.slice none 0 0] 95)] := by
    rw [← hw1]
    exact ((hM.new (.cells #[.string s] 9)).new' _ (by simp) _).new' _ (by simp) _
  have hB2 : Below w.heap.size w w1 := by rw [← hw1]; exact below_al (below_al (below_al hB1 _) _) _
  have hn1 : w1.heap.size = w.heap.size + 5 := by rw [← hw1]; simp [hn'.out]
  have HN := Lib.hid hn1
  clear hw1 hn1 hB1 hM
  go_wp2_with fail
  refine (seq_any w hw (w.heap.size + 5) w.heap.size (w.heap.size + 1) W.heap.size (W.heap.size + 1) (W.heap.size + 1 + 1) s w1 (by omega) ?_).mono ?_
  · obtain ⟨m1, m2, m3, m4, m5, _⟩ := hM1
    have := hn'.out
    exact ⟨⟨⟨_, m5, World.ownsRow_nil _ _ _ _⟩, m4, by omega, by omega, by omega, by rw [HN.out]; omega, by simp, ⟨by omega, by omega⟩, hB2⟩, m3, m2, m1, ⟨by omega, by omega, by omega⟩, ⟨by omega, by omega, by omega, by omega, by omega, by omega, by omega, by omega⟩, by omega⟩
  rintro e w2 ⟨rfl, l, ht, hl⟩
  rw [HF2.out] at ht hl
  obtain ⟨⟨v, hv, hown⟩, hfl, -, -, -, -, -, -, hb⟩ := ht
  have hn3 := hn'.out
  cases F with
  | none =>
    have c1 := Mem.cell (v := .bool false) hfl 0 rfl
    have HE := Lib.hid (ReadEnds.no (w := w) (w' := w2) (F := none) rfl hb)
    clear hM1 hB2 HN HF2 hl hv hown hfl hb hn' hn3 M0 hB0
    go_wp2_with fail
    go_ret2
    exact HE.out
  | some x =>
    obtain rfl := hl x rfl
    have c1 := Mem.cell (v := .bool true) hfl 0 rfl
    have c2 := Mem.cell (v := v) hv 0 rfl
    have hown2 : w2.ownsRow w.heap.size 3 1 v x.length (ic x) := ownsRow_mono hown (by omega)
    have HE : Hid (ReadEnds w (some x) (.returned (.tuple #[v, .bool true])) w2) := Lib.hid ⟨_, rfl, hown2, hb, fun h => by cases h⟩
    clear hM1 hB2 HN HF2 hl hv hown hown2 hfl hb hn' hn3 M0 hB0
    go_wp2_with fail
    go_ret2
    exact HE.out
theorem read_any (s : ByteArray) (w : World) (hs : s.size ≤ 140737488351232) (hw : Laid w) :
    Calls Tryz.prog 52 #[.string s] w (ReadEnds w (readL s.data.toList)) := by
  by_cases h : s.size ≤ 95
  · exact read_short s w h hw
  · exact read_long s w hs (by omega)
end Go.Proofs.YtlkgcidhhngfeaaGreatDoor
