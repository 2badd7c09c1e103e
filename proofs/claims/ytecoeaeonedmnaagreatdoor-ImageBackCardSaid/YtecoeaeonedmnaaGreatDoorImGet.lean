/- image.Get. -/
import Derived.Test.YtecoeaeonedmnaaGreatDoorImEnv
namespace Go.Proofs.YtecoeaeonedmnaaGreatDoor
open Go.RowKit
theorem fromI_lit (s : ByteArray) (A : Nat) (w : World) :
    Calls Tryz.prog 20 #[.string s, .pointer (some ⟨A, 0, none⟩), .func (.func 21) #[] #[]] w fun e w' => e = .returned (.func (.func 47) #[] #[.pointer (some ⟨w.heap.size + 1 + 1, 0, none⟩), .pointer (some ⟨w.heap.size, 0, none⟩), .pointer (some ⟨w.heap.size + 1, 0, none⟩)]) ∧ w' = ((w.alloc (.cells #[.string s] 9)).alloc (.cells #[.pointer (some ⟨A, 0, none⟩)] 66)).alloc (.cells #[.func (.func 21) #[] #[]] 67) := fromI_any s A w
theorem fromO_lit (s : ByteArray) (A : Nat) (w : World) :
    Calls Tryz.prog 23 #[.string s, .pointer (some ⟨A, 0, none⟩), .func (.func 24) #[] #[]] w fun e w' => e = .returned (.func (.func 48) #[] #[.pointer (some ⟨w.heap.size + 1 + 1, 0, none⟩), .pointer (some ⟨w.heap.size, 0, none⟩), .pointer (some ⟨w.heap.size + 1, 0, none⟩)]) ∧ w' = ((w.alloc (.cells #[.string s] 9)).alloc (.cells #[.pointer (some ⟨A, 0, none⟩)] 66)).alloc (.cells #[.func (.func 24) #[] #[]] 72) := fromO_any s A w
theorem fromV_lit (s : ByteArray) (A : Nat) (w : World) :
    Calls Tryz.prog 28 #[.string s, .pointer (some ⟨A, 0, none⟩), .func (.func 29) #[] #[]] w fun e w' => e = .returned (.func (.func 50) #[] #[.pointer (some ⟨w.heap.size + 1 + 1, 0, none⟩), .pointer (some ⟨w.heap.size, 0, none⟩), .pointer (some ⟨w.heap.size + 1, 0, none⟩)]) ∧ w' = ((w.alloc (.cells #[.string s] 9)).alloc (.cells #[.pointer (some ⟨A, 0, none⟩)] 66)).alloc (.cells #[.func (.func 29) #[] #[]] 80) := fromV_any s A w
theorem getIm_no1 {l : List UInt8} (h : constsP l = none) : getIm l = none := by
  unfold getIm imP andThen
  rw [h]
  rfl
theorem getIm_no2 {l : List UInt8} {cs : List Vl} {k : Nat} (h : constsP l = some (cs, k)) (h2 : funsP (l.drop k) = none) : getIm l = none := by
  unfold getIm imP andThen
  rw [h]
  simp only
  rw [h2]
  rfl
theorem getIm_yes {l : List UInt8} {cs : List Vl} {fs : List Fn} {k j : Nat} (h : constsP l = some (cs, k)) (h2 : funsP (l.drop k) = some (fs, j)) : getIm l = if k + j = l.length ∧ Im.check ⟨cs, fs⟩ = 0 then some ⟨cs, fs⟩ else none := by
  unfold getIm imP andThen
  rw [h]
  simp only
  rw [h2]
  rfl
theorem Env.below {w w' : World} {s : ByteArray} {A b gf : Nat} {T : TypeId} (h : Env w s A b gf T) (k : Below w.heap.size w w') : Env w' s A b gf T := h.ka (.of_below k)
theorem fromV_b (s : ByteArray) (A : Nat) (w : World) (hA : A < w.heap.size) :
    Calls Tryz.prog 28 #[.string s, .pointer (some ⟨A, 0, none⟩), .func (.func 29) #[] #[]] w fun e w' => ∃ b3, e = .returned (.func (.func 50) #[] #[.pointer (some ⟨b3 + 1 + 1, 0, none⟩), .pointer (some ⟨b3, 0, none⟩), .pointer (some ⟨b3 + 1, 0, none⟩)]) ∧ Env w' s A b3 29 80 ∧ Below w.heap.size w w' := by
  refine (fromV_lit s A w).mono ?_
  rintro e w' ⟨rfl, rfl⟩
  have hM := (((Mem.nil w).new (.cells #[.string s] 9)).new (.cells #[.pointer (some ⟨A, 0, none⟩)] 66)).new (.cells #[.func (.func 29) #[] #[]] 80)
  rw [World.size_alloc, World.size_alloc] at hM
  exact ⟨w.heap.size, rfl, ⟨hM.2.2.1, hM.2.1, hM.1, hA⟩, below_al (below_al (below_al (Below.refl _ w) _) _) _⟩
theorem getL_env (s : ByteArray) (w w1 : World) (hw : LaidI w) (hs : s.size ≤ 1152921504606846976) (hG : GE s (w.heap.size + 1) (w.heap.size + 1 + 1) (w.heap.size + 1 + 1 + 1 + 1 + 1 + 1 + 1) (w.heap.size + 1 + 1 + 1 + 1 + 1) (w.heap.size + 1 + 1 + 1 + 1 + 1 + 1) (w.heap.size + 1 + 1 + 1 + 1 + 1 + 1 + 1 + 1 + 1 + 1) w w1) (hA : At w1 (w.heap.size + 1) 0) (W : World) (b3 : Nat) (hb : Below w1.heap.size w1 W) (hE3 : Env W s (w.heap.size + 1) b3 29 80) :
    Calls Tryz.prog 27 #[.func (.func 47) #[] #[.pointer (some ⟨w.heap.size + 1 + 1 + 1 + 1, 0, none⟩), .pointer (some ⟨w.heap.size + 1 + 1, 0, none⟩), .pointer (some ⟨w.heap.size + 1 + 1 + 1, 0, none⟩)], .func (.func 50) #[] #[.pointer (some ⟨b3 + 1 + 1, 0, none⟩), .pointer (some ⟨b3, 0, none⟩), .pointer (some ⟨b3 + 1, 0, none⟩)]] W fun e w' => ∃ ao n cap p', e = .returned (.tuple #[.slice ao n cap, .bool (constsP s.data.toList).isSome]) ∧ At w' (w.heap.size + 1) p' ∧ p' ≤ s.size ∧ KA (w.heap.size + 1) w1 w' ∧ ∀ xs k, constsP s.data.toList = some (xs, k) → p' = k ∧ n = xs.length ∧ w'.ownsRow w1.heap.size 50 5 (.slice ao n cap) n (xs.map vrow).flatten := by
  have hL : s.data.toList.length = s.size := Array.length_toList
  have hl := listV_any s.data.toList s.size (w.heap.size + 1) b3 (w.heap.size + 1 + 1) 0 hL hs W (fun W => GE s (w.heap.size + 1) (w.heap.size + 1 + 1) (w.heap.size + 1 + 1 + 1 + 1 + 1 + 1 + 1) (w.heap.size + 1 + 1 + 1 + 1 + 1) (w.heap.size + 1 + 1 + 1 + 1 + 1 + 1) (w.heap.size + 1 + 1 + 1 + 1 + 1 + 1 + 1 + 1 + 1 + 1) w W ∧ Env W s (w.heap.size + 1) b3 29 80) (fun _ _ h k => ⟨h.1.ka k, h.2.ka k⟩) ⟨hG.ka (.of_below hb), hE3⟩ (hA.below hb) (by omega)
    (fun w' p hg ha hp => cntI s _ _ p hs hp w' hg.1.e1 ha) (fun w' p hg ha hp => rdV_any s _ _ p w' hs (hw.below hg.1.low) hg.2 ha) (fun l x k e => (getV_some e).2.2.1)
  refine hl.mono ?_
  rintro e w' ⟨ao, n, cap, p', rfl, h2, h3, h4, h5⟩
  refine ⟨ao, n, cap, p', rfl, h2, h3, (KA.of_below hb).trans h4, fun xs k e => ?_⟩
  obtain ⟨q1, q2, q3⟩ := h5 xs k e
  exact ⟨by omega, q2, owns_low q3 hb.size⟩
/-- what Get hands back -/
def GotIm (w : World) (R : Option Im) (e : Ending) (w' : World) : Prop := match R with
  | none => e = .returned (.tuple #[.agg #[.slice none 0 0, .slice none 0 0], .bool false])
  | some im => ∃ co cc fo fc, e = .returned (.tuple #[.agg #[.slice co im.cs.length cc, .slice fo im.fs.length fc], .bool true]) ∧ w'.ownsRow w.heap.size 50 5 (.slice co im.cs.length cc) im.cs.length (im.cs.map vrow).flatten ∧ FnOwn w' w.heap.size (.slice fo im.fs.length fc) im.fs
theorem GotIm.no {w w' : World} {R : Option Im} (h : R = none) : GotIm w R (.returned (.tuple #[.agg #[.slice none 0 0, .slice none 0 0], .bool false])) w' := by
  subst h
  rfl
theorem FnOwn.set {w : World} {B : Nat} {v : Value} {fs : List Fn} (h : FnOwn w B v fs) {b : Nat} (hb : b < B) (o : Nat) (vs : List Value) : FnOwn (w.setCells b o vs) B v fs := by
  obtain ⟨rows, h1, h2, h3⟩ := h
  refine ⟨rows, h1, owns_set h2 hb o vs, fun i f hi => ?_⟩
  obtain ⟨ao, cap, e, ho⟩ := h3 i f hi
  exact ⟨ao, cap, e, owns_set ho hb o vs⟩
theorem FnOwn.keep {w w' : World} {B : Nat} {v : Value} {fs : List Fn} (h : FnOwn w B v fs) (hb : Below w.heap.size w w') : FnOwn w' B v fs := by
  obtain ⟨rows, h1, h2, h3⟩ := h
  refine ⟨rows, h1, ownsRow_keep h2 hb, fun i f hi => ?_⟩
  obtain ⟨ao, cap, e, ho⟩ := h3 i f hi
  exact ⟨ao, cap, e, ownsRow_keep ho hb⟩
theorem FnOwn.lower {w : World} {B B' : Nat} {v : Value} {fs : List Fn} (h : FnOwn w B' v fs) (hb : B ≤ B') : FnOwn w B v fs := by
  obtain ⟨rows, h1, h2, h3⟩ := h
  refine ⟨rows, h1, owns_low h2 hb, fun i f hi => ?_⟩
  obtain ⟨ao, cap, e, ho⟩ := h3 i f hi
  exact ⟨ao, cap, e, owns_low ho hb⟩
set_option maxRecDepth 100000 in
set_option maxHeartbeats 4000000 in
theorem iget_go (s : ByteArray) (w : World) (hw : LaidI w) (hs : s.size ≤ 1152921504606846976) :
    Calls Tryz.prog 9 #[.string s] w fun e w' => GotIm w (getIm s.data.toList) e w' ∧ Below w.heap.size w w' := by
  have hmf : ∀ (fn : Go.Fn) (first cap : Array Value) (w : World), (Instr.makeFunc fn first cap).run Tryz.prog w = .ok (.func fn first cap) w := fun _ _ _ _ => rfl
  have hL : s.data.toList.length = s.size := Array.length_toList
  obtain ⟨R, hRR⟩ : ∃ R, R = getIm s.data.toList := ⟨_, rfl⟩
  rw [← hRR]
  have HR : Hid (R = getIm s.data.toList) := Lib.hid hRR
  clear hRR
  go_enter Tryz.func9, Tryz.ntmps9
  have hB0 := Below.refl w.heap.size w
  have M0 := Mem.nil w
  go_upto_region 6 with (first | (go_at_call 20; refine (fromI_lit s _ _).mono ?_; rintro e w1 ⟨rfl, rfl⟩) | (go_at_call 23; refine (fromO_lit s _ _).mono ?_; rintro e w1 ⟨rfl, rfl⟩))
  refine wp_named ?_
  intro w1 hW1
  have hB1 : Below w.heap.size w w1 := by rw [hW1]; exact (below_al (below_al (below_al (below_al (below_al (below_al (below_al (below_al (below_al (below_al (below_al hB0 _) _) _) _) _) _) _) _) _) _) _)
  have M1 := (((((((((((M0).new' (w.heap.size) (by rfl) (.cells #[.slice none 0 0, .slice none 0 0] 25)).new' (w.heap.size + 1) (by simp) (.cells #[.int .i64 0] 3)).new' (w.heap.size + 1 + 1) (by simp) (.cells #[.string s] 9)).new' (w.heap.size + 1 + 1 + 1) (by simp) (.cells #[.pointer (some ⟨w.heap.size + 1, 0, none⟩)] 66)).new' (w.heap.size + 1 + 1 + 1 + 1) (by simp) (.cells #[.func (.func 21) #[] #[]] 67)).new' (w.heap.size + 1 + 1 + 1 + 1 + 1) (by simp) (.cells #[.func (.func 47) #[] #[.pointer (some ⟨w.heap.size + 1 + 1 + 1 + 1, 0, none⟩), .pointer (some ⟨w.heap.size + 1 + 1, 0, none⟩), .pointer (some ⟨w.heap.size + 1 + 1 + 1, 0, none⟩)]] 64)).new' (w.heap.size + 1 + 1 + 1 + 1 + 1 + 1) (by simp) (.cells #[.func (.func 22) #[] #[.pointer (some ⟨w.heap.size + 1 + 1 + 1 + 1 + 1, 0, none⟩)]] 64)).new' (w.heap.size + 1 + 1 + 1 + 1 + 1 + 1 + 1) (by simp) (.cells #[.string s] 9)).new' (w.heap.size + 1 + 1 + 1 + 1 + 1 + 1 + 1 + 1) (by simp) (.cells #[.pointer (some ⟨w.heap.size + 1, 0, none⟩)] 66)).new' (w.heap.size + 1 + 1 + 1 + 1 + 1 + 1 + 1 + 1 + 1) (by simp) (.cells #[.func (.func 24) #[] #[]] 72)).new' (w.heap.size + 1 + 1 + 1 + 1 + 1 + 1 + 1 + 1 + 1 + 1) (by simp) (.cells #[.func (.func 48) #[] #[.pointer (some ⟨w.heap.size + 1 + 1 + 1 + 1 + 1 + 1 + 1 + 1 + 1, 0, none⟩), .pointer (some ⟨w.heap.size + 1 + 1 + 1 + 1 + 1 + 1 + 1, 0, none⟩), .pointer (some ⟨w.heap.size + 1 + 1 + 1 + 1 + 1 + 1 + 1 + 1, 0, none⟩)]] 70)
  rw [← hW1] at M1
  clear hW1
  have c1_0_0 := Mem.cell (v := .func (.func 48) #[] #[.pointer (some ⟨w.heap.size + 1 + 1 + 1 + 1 + 1 + 1 + 1 + 1 + 1, 0, none⟩), .pointer (some ⟨w.heap.size + 1 + 1 + 1 + 1 + 1 + 1 + 1, 0, none⟩), .pointer (some ⟨w.heap.size + 1 + 1 + 1 + 1 + 1 + 1 + 1 + 1, 0, none⟩)]) M1.1 0 rfl
  have z1_0 := Mem.lt M1.1
  have c1_1_0 := Mem.cell (v := .func (.func 24) #[] #[]) M1.2.1 0 rfl
  have z1_1 := Mem.lt M1.2.1
  have c1_2_0 := Mem.cell (v := .pointer (some ⟨w.heap.size + 1, 0, none⟩)) M1.2.2.1 0 rfl
  have z1_2 := Mem.lt M1.2.2.1
  have c1_3_0 := Mem.cell (v := .string s) M1.2.2.2.1 0 rfl
  have z1_3 := Mem.lt M1.2.2.2.1
  have c1_4_0 := Mem.cell (v := .func (.func 22) #[] #[.pointer (some ⟨w.heap.size + 1 + 1 + 1 + 1 + 1, 0, none⟩)]) M1.2.2.2.2.1 0 rfl
  have z1_4 := Mem.lt M1.2.2.2.2.1
  have c1_5_0 := Mem.cell (v := .func (.func 47) #[] #[.pointer (some ⟨w.heap.size + 1 + 1 + 1 + 1, 0, none⟩), .pointer (some ⟨w.heap.size + 1 + 1, 0, none⟩), .pointer (some ⟨w.heap.size + 1 + 1 + 1, 0, none⟩)]) M1.2.2.2.2.2.1 0 rfl
  have z1_5 := Mem.lt M1.2.2.2.2.2.1
  have c1_6_0 := Mem.cell (v := .func (.func 21) #[] #[]) M1.2.2.2.2.2.2.1 0 rfl
  have z1_6 := Mem.lt M1.2.2.2.2.2.2.1
  have c1_7_0 := Mem.cell (v := .pointer (some ⟨w.heap.size + 1, 0, none⟩)) M1.2.2.2.2.2.2.2.1 0 rfl
  have z1_7 := Mem.lt M1.2.2.2.2.2.2.2.1
  have c1_8_0 := Mem.cell (v := .string s) M1.2.2.2.2.2.2.2.2.1 0 rfl
  have z1_8 := Mem.lt M1.2.2.2.2.2.2.2.2.1
  have c1_9_0 := Mem.cell (v := .int .i64 0) M1.2.2.2.2.2.2.2.2.2.1 0 rfl
  have z1_9 := Mem.lt M1.2.2.2.2.2.2.2.2.2.1
  have c1_10_0 := Mem.cell (v := .slice none 0 0) M1.2.2.2.2.2.2.2.2.2.2.1 0 rfl
  have c1_10_1 := Mem.cell (v := .slice none 0 0) M1.2.2.2.2.2.2.2.2.2.2.1 1 rfl
  have z1_10 := Mem.lt M1.2.2.2.2.2.2.2.2.2.2.1
  have hG : GE s (w.heap.size + 1) (w.heap.size + 1 + 1) (w.heap.size + 1 + 1 + 1 + 1 + 1 + 1 + 1) (w.heap.size + 1 + 1 + 1 + 1 + 1) (w.heap.size + 1 + 1 + 1 + 1 + 1 + 1) (w.heap.size + 1 + 1 + 1 + 1 + 1 + 1 + 1 + 1 + 1 + 1) w w1 := ⟨hB1, by omega, ⟨M1.2.2.2.2.2.2.2.2.1, M1.2.2.2.2.2.2.2.1, M1.2.2.2.2.2.2.1, by omega⟩, ⟨M1.2.2.2.1, M1.2.2.1, M1.2.1, by omega⟩, M1.2.2.2.2.2.1, M1.2.2.2.2.1, M1.1, by omega, by omega, by omega⟩
  have hAt : At w1 (w.heap.size + 1) 0 := M1.2.2.2.2.2.2.2.2.2.1
  have hR0 := M1.2.2.2.2.2.2.2.2.2.2.1
  have HL := Lib.hid (getL_env s w w1 hw hs hG hAt)
  have HGE := Lib.hid hG
  have HR1 := Lib.hid hR0
  have hz1 := Lib.hid z1_10
  have hzA := Lib.hid z1_9
  have hzz : w.heap.size + 1 + 1 + 1 + 1 + 1 + 1 + 1 + 1 + 1 + 1 < w1.heap.size := z1_0
  clear hG hR0 hAt M1 M0 hB0
  obtain ⟨r, hr⟩ : ∃ r, r = constsP s.data.toList := ⟨_, rfl⟩
  rw [← hr] at HL
  have HRC := Lib.hid hr
  clear hr
  clear c1_0_0 c1_1_0 c1_2_0 c1_3_0 c1_4_0 c1_6_0 c1_7_0 c1_8_0 c1_9_0 c1_10_0 c1_10_1 z1_0 z1_1 z1_2 z1_3 z1_4 z1_6 z1_7 z1_8
  go_region_held3 (fun w' => w'.cell? ⟨w.heap.size + 1 + 1 + 1 + 1 + 1, 0, none⟩ = some (.func (.func 47) #[] #[.pointer (some ⟨w.heap.size + 1 + 1 + 1 + 1, 0, none⟩), .pointer (some ⟨w.heap.size + 1 + 1, 0, none⟩), .pointer (some ⟨w.heap.size + 1 + 1 + 1, 0, none⟩)]))
    (go_keep)
    (first
      | (go_at_call 28; (with_reducible refine (fromV_b s _ _ (by first | omega | (simp <;> omega))).mono ?_); rintro e wf ⟨b3, rfl, hEf, hbf⟩; have hbf1 : Below w1.heap.size w1 wf := ((by repeat' (first | exact Below.refl _ _ | refine below_dr ?_ | refine below_al ?_ _)) : Below w1.heap.size w1 _).trans (hbf.mono (by first | omega | (simp <;> omega))); have hcf := (fun o => hbf.cell (p := ⟨w.heap.size + 1 + 1 + 1 + 1 + 1, o, none⟩) (by simp <;> omega)); have HEf := Lib.hid (fun W (h : Below wf.heap.size wf W) => Env.below hEf h); clear hEf)
      | (go_at_call 27; (with_reducible refine (HL.out _ b3 (by repeat' (first | exact Below.refl _ _ | exact hbf1 | refine below_dr ?_ | refine below_al ?_ _)) (HEf.out _ (by repeat' (first | exact Below.refl _ _ | refine below_dr ?_ | refine below_al ?_ _)))).mono ?_); rintro e w7 ⟨co, cn, cc, p7, rfl, hA7, hp7, hK7, hV7⟩; have hc7 := hK7.keep (o := .cells #[.func (.func 47) #[] #[.pointer (some ⟨w.heap.size + 1 + 1 + 1 + 1, 0, none⟩), .pointer (some ⟨w.heap.size + 1 + 1, 0, none⟩), .pointer (some ⟨w.heap.size + 1 + 1 + 1, 0, none⟩)]] 64) HGE.out.x5 (by omega); have hcc7 := Mem.cell (v := .func (.func 47) #[] #[.pointer (some ⟨w.heap.size + 1 + 1 + 1 + 1, 0, none⟩), .pointer (some ⟨w.heap.size + 1 + 1, 0, none⟩), .pointer (some ⟨w.heap.size + 1 + 1 + 1, 0, none⟩)]) hc7 0 rfl))
  have hB7 := KA.below hB1 hK7 (by omega) (by omega)
  have hR7 := hK7.keep HR1.out (by omega)
  have hG7 := HGE.out.ka hK7
  have fw7 := fun j => Mem.free hR7 j
  have gw70 := Mem.cell (v := .slice none 0 0) hR7 0 rfl
  have gw71 := Mem.cell (v := .slice none 0 0) hR7 1 rfl
  clear HL HEf hbf hbf1 hcf hc7 c1_5_0
  have hz7 := hK7.size
  cases r with
  | none =>
    clear hV7 hG7
    go_wp2_with fail
    obtain ⟨W_e, hW_e⟩ : ∃ W_e, W_e = w7.setCells w.heap.size 0 [.slice none 0 0, .slice none 0 0] := ⟨_, rfl⟩
    have hRe := set_block hR7 [.slice none 0 0, .slice none 0 0] rfl
    have hBe := below_setCells (B := w.heap.size) hB7 (b := w.heap.size) (Nat.le_refl _) 0 [.slice none 0 0, .slice none 0 0]
    rw [← hW_e] at hRe hBe
    refine at_world hW_e ?_
    have k_0 := Mem.cell (v := .slice none 0 0) hRe 0 rfl
    have k_1 := Mem.cell (v := .slice none 0 0) hRe 1 rfl
    refine bodyPost_ret (v := .tuple #[.agg #[.slice none 0 0, .slice none 0 0], .bool false]) (by simp [results, Tryz.results9, go_sem, k_0, k_1]) rfl ⟨GotIm.no (by rw [HR.out]; exact getIm_no1 HRC.out.symm), hBe⟩
  | some z =>
    obtain ⟨cs, k1⟩ := z
    obtain ⟨rfl, rfl, hVO⟩ := hV7 cs k1 rfl
    clear hV7
    have hLF := listF_any s.data.toList s.size (w.heap.size + 1) (w.heap.size + 1 + 1 + 1 + 1 + 1) (w.heap.size + 1 + 1 + 1 + 1 + 1 + 1) (w.heap.size + 1 + 1 + 1 + 1 + 1 + 1 + 1 + 1 + 1 + 1) (w.heap.size + 1 + 1) p7 hL w7 (fun W => GE s (w.heap.size + 1) (w.heap.size + 1 + 1) (w.heap.size + 1 + 1 + 1 + 1 + 1 + 1 + 1) (w.heap.size + 1 + 1 + 1 + 1 + 1) (w.heap.size + 1 + 1 + 1 + 1 + 1 + 1) (w.heap.size + 1 + 1 + 1 + 1 + 1 + 1 + 1 + 1 + 1 + 1) w W) (fun _ _ h k => h.ka k) hG7 hA7 hp7
      (fun w' p hg ha hp => cntI s _ _ p hs hp w' hg.e1 ha) (fun w' p hg ha hp => rdF s _ _ _ _ _ _ p hs hp w w' hw hg ha)
    obtain ⟨q, hq⟩ : ∃ q, q = funsP (s.data.toList.drop p7) := ⟨_, rfl⟩
    have hq' : listP oct fnP (s.data.toList.drop p7) = q := hq.symm
    rw [hq'] at hLF
    have HVO := Lib.hid hVO
    have HQ := Lib.hid hq
    clear hq hq' hVO
    cases q with
    | none =>
      go_wp2_with (go_at_call 30; refine hLF.mono ?_; rintro e w8 ⟨fo, fn, fc, p8, rfl, hA8, hp8, hK8, hF8⟩; have hR8 := hK8.keep hR7 (by omega); have fw8 := fun j => Mem.free hR8 j; have gw80 := Mem.cell (v := .slice none 0 0) hR8 0 rfl; have gw81 := Mem.cell (v := .slice none 0 0) hR8 1 rfl; have hcA := Mem.cell (v := .int .i64 (p8 : Int)) hA8 0 rfl)
      have hB8 := KA.below hB7 hK8 (by omega) (by omega)
      obtain ⟨W_e, hW_e⟩ : ∃ W_e, W_e = w8.setCells w.heap.size 0 [.slice none 0 0, .slice none 0 0] := ⟨_, rfl⟩
      have hRe := set_block hR8 [.slice none 0 0, .slice none 0 0] rfl
      have hBe := below_setCells (B := w.heap.size) hB8 (b := w.heap.size) (Nat.le_refl _) 0 [.slice none 0 0, .slice none 0 0]
      rw [← hW_e] at hRe hBe
      refine at_world hW_e ?_
      have k_0 := Mem.cell (v := .slice none 0 0) hRe 0 rfl
      have k_1 := Mem.cell (v := .slice none 0 0) hRe 1 rfl
      refine bodyPost_ret (v := .tuple #[.agg #[.slice none 0 0, .slice none 0 0], .bool false]) (by simp [results, Tryz.results9, go_sem, k_0, k_1]) rfl ⟨GotIm.no (by rw [HR.out]; exact getIm_no2 HRC.out.symm HQ.out.symm), hBe⟩
    | some z =>
      obtain ⟨fs, k2⟩ := z
      have hGI := getIm_yes HRC.out.symm HQ.out.symm
      rw [hL] at hGI
      by_cases hend : p7 + k2 = s.size
      · have hendI : ((p7 + k2 : Nat) : Int) = s.size := by omega
        have hmay := (consts_codec.bwd _ _ _ HRC.out.symm).1
        have hck := fun fo fc w' hw' hV hF => check_any ⟨cs, fs⟩ (.slice co cs.length cc) (.slice fo fs.length fc) (fun v hv => small_right (hmay.2 v hv).1) w' hw' hV hF
        obtain ⟨E, hE⟩ : ∃ E, E = Im.check ⟨cs, fs⟩ := ⟨_, rfl⟩
        rw [← hE] at hck hGI
        by_cases hc0 : E = 0
        · rw [if_pos ⟨hend, hc0⟩] at hGI
          have HGI := Lib.hid hGI
          rw [hc0] at hck
          clear hGI hE hc0 hmay hend
          go_wp2_with (first
            | (go_at_call 30; refine hLF.mono ?_; rintro e w8 ⟨fo, fn, fc, p8, rfl, hA8, hp8, hK8, hF8⟩; have hR8 := hK8.keep hR7 (by omega); have fw8 := fun j => Mem.free hR8 j; have gw80 := Mem.cell (v := .slice none 0 0) hR8 0 rfl; have gw81 := Mem.cell (v := .slice none 0 0) hR8 1 rfl; have hcA := Mem.cell (v := .int .i64 (p8 : Int)) hA8 0 rfl; have hz8 := hK8.size; obtain ⟨rfl, rfl, hFO⟩ := hF8 fs k2 rfl; have HFO := Lib.hid hFO; have HB8 := Lib.hid (KA.below hB7 hK8 (by omega) (by omega)); have HV8 := Lib.hid (ownsRow_ka HVO.out hK8 hzA.out); clear hF8 hFO)
            | (go_at_call 12; refine (hck fo fc _ (hw.below (below_al HB8.out _)) (VsAt.below (VsAt.of_owns HV8.out) (below_al (Below.refl _ _) _)) ((HFO.out.alloc _).at)).mono ?_; rintro e w9 ⟨rfl, hb9⟩; have hb89 := below_then (below_al (Below.refl _ w8) _) hb9; have hR9 := (hb89.block _ (by omega)).trans hR8; have fw9 := fun j => Mem.free hR9 j; have gw90 := Mem.cell (v := .slice none 0 0) hR9 0 rfl; have gw91 := Mem.cell (v := .slice none 0 0) hR9 1 rfl; have hI9 := (hb9.block w8.heap.size (by simp)).trans (heap_alloc_new w8 (.cells #[.slice co cs.length cc, .slice fo fs.length fc] 25)); have gw92 := Mem.cell (v := .slice co cs.length cc) hI9 0 rfl; have gw93 := Mem.cell (v := .slice fo fs.length fc) hI9 1 rfl))
          obtain ⟨W_e, hW_e⟩ : ∃ W_e, W_e = w9.setCells w.heap.size 0 [.slice co cs.length cc, .slice fo fs.length fc] := ⟨_, rfl⟩
          have hB9 := below_then HB8.out hb89
          have hRe := set_block hR9 [.slice co cs.length cc, .slice fo fs.length fc] rfl
          have hBe := below_setCells (B := w.heap.size) hB9 (b := w.heap.size) (Nat.le_refl _) 0 [.slice co cs.length cc, .slice fo fs.length fc]
          have hVe := owns_low (B := w.heap.size) (owns_set (ownsRow_keep HV8.out hb89) (b := w.heap.size) hz1.out 0 [.slice co cs.length cc, .slice fo fs.length fc]) (by omega)
          have hFe := FnOwn.lower (B := w.heap.size) ((HFO.out.keep hb89).set (b := w.heap.size) (by omega) 0 [.slice co cs.length cc, .slice fo fs.length fc]) (by omega)
          rw [← hW_e] at hRe hBe hVe hFe
          refine at_world hW_e ?_
          have k_0 := Mem.cell (v := .slice co cs.length cc) hRe 0 rfl
          have k_1 := Mem.cell (v := .slice fo fs.length fc) hRe 1 rfl
          have hRs : R = some ⟨cs, fs⟩ := by rw [HR.out]; exact HGI.out
          refine bodyPost_ret (v := .tuple #[.agg #[.slice co cs.length cc, .slice fo fs.length fc], .bool true]) (by simp [results, Tryz.results9, go_sem, k_0, k_1]) rfl ⟨by rw [hRs]; exact ⟨co, cc, fo, fc, rfl, hVe, hFe⟩, hBe⟩
        · rw [if_neg (fun h => hc0 h.2)] at hGI
          have HGI := Lib.hid hGI
          have hE0 := int_ne hc0
          clear hGI hE hc0 hmay hend
          go_wp2_with (first
            | (go_at_call 30; refine hLF.mono ?_; rintro e w8 ⟨fo, fn, fc, p8, rfl, hA8, hp8, hK8, hF8⟩; have hR8 := hK8.keep hR7 (by omega); have fw8 := fun j => Mem.free hR8 j; have gw80 := Mem.cell (v := .slice none 0 0) hR8 0 rfl; have gw81 := Mem.cell (v := .slice none 0 0) hR8 1 rfl; have hcA := Mem.cell (v := .int .i64 (p8 : Int)) hA8 0 rfl; have hz8 := hK8.size; obtain ⟨rfl, rfl, hFO⟩ := hF8 fs k2 rfl; have HFO := Lib.hid hFO; have HB8 := Lib.hid (KA.below hB7 hK8 (by omega) (by omega)); have HV8 := Lib.hid (ownsRow_ka HVO.out hK8 hzA.out); clear hF8 hFO)
            | (go_at_call 12; refine (hck fo fc _ (hw.below (below_al HB8.out _)) (VsAt.below (VsAt.of_owns HV8.out) (below_al (Below.refl _ _) _)) ((HFO.out.alloc _).at)).mono ?_; rintro e w9 ⟨rfl, hb9⟩; have hb89 := below_then (below_al (Below.refl _ w8) _) hb9; have hR9 := (hb89.block _ (by omega)).trans hR8; have fw9 := fun j => Mem.free hR9 j; have gw90 := Mem.cell (v := .slice none 0 0) hR9 0 rfl; have gw91 := Mem.cell (v := .slice none 0 0) hR9 1 rfl; have hI9 := (hb9.block w8.heap.size (by simp)).trans (heap_alloc_new w8 (.cells #[.slice co cs.length cc, .slice fo fs.length fc] 25)); have gw92 := Mem.cell (v := .slice co cs.length cc) hI9 0 rfl; have gw93 := Mem.cell (v := .slice fo fs.length fc) hI9 1 rfl))
          obtain ⟨W_e, hW_e⟩ : ∃ W_e, W_e = w9.setCells w.heap.size 0 [.slice none 0 0, .slice none 0 0] := ⟨_, rfl⟩
          have hB9 := below_then HB8.out hb89
          have hRe := set_block hR9 [.slice none 0 0, .slice none 0 0] rfl
          have hBe := below_setCells (B := w.heap.size) hB9 (b := w.heap.size) (Nat.le_refl _) 0 [.slice none 0 0, .slice none 0 0]
          rw [← hW_e] at hRe hBe
          refine at_world hW_e ?_
          have k_0 := Mem.cell (v := .slice none 0 0) hRe 0 rfl
          have k_1 := Mem.cell (v := .slice none 0 0) hRe 1 rfl
          refine bodyPost_ret (v := .tuple #[.agg #[.slice none 0 0, .slice none 0 0], .bool false]) (by simp [results, Tryz.results9, go_sem, k_0, k_1]) rfl ⟨GotIm.no (by rw [HR.out]; exact HGI.out), hBe⟩
      · have hne : ((p7 + k2 : Nat) : Int) ≠ s.size := by omega
        have hneb : (((p7 + k2 : Nat) : Int) == (s.size : Int)) = false := int_ne hne
        rw [if_neg (fun h => hend h.1)] at hGI
        have HGI := Lib.hid hGI
        clear hGI hne hend
        go_wp2_with (go_at_call 30; refine hLF.mono ?_; rintro e w8 ⟨fo, fn, fc, p8, rfl, hA8, hp8, hK8, hF8⟩; have hR8 := hK8.keep hR7 (by omega); have fw8 := fun j => Mem.free hR8 j; have gw80 := Mem.cell (v := .slice none 0 0) hR8 0 rfl; have gw81 := Mem.cell (v := .slice none 0 0) hR8 1 rfl; have hcA := Mem.cell (v := .int .i64 (p8 : Int)) hA8 0 rfl; obtain ⟨rfl, rfl, hFO⟩ := hF8 fs k2 rfl; have HFO := Lib.hid hFO; clear hF8 hFO)
        have hB8 := KA.below hB7 hK8 (by omega) (by omega)
        obtain ⟨W_e, hW_e⟩ : ∃ W_e, W_e = w8.setCells w.heap.size 0 [.slice none 0 0, .slice none 0 0] := ⟨_, rfl⟩
        have hRe := set_block hR8 [.slice none 0 0, .slice none 0 0] rfl
        have hBe := below_setCells (B := w.heap.size) hB8 (b := w.heap.size) (Nat.le_refl _) 0 [.slice none 0 0, .slice none 0 0]
        rw [← hW_e] at hRe hBe
        refine at_world hW_e ?_
        have k_0 := Mem.cell (v := .slice none 0 0) hRe 0 rfl
        have k_1 := Mem.cell (v := .slice none 0 0) hRe 1 rfl
        refine bodyPost_ret (v := .tuple #[.agg #[.slice none 0 0, .slice none 0 0], .bool false]) (by simp [results, Tryz.results9, go_sem, k_0, k_1]) rfl ⟨GotIm.no (by rw [HR.out]; exact HGI.out), hBe⟩
end Go.Proofs.YtecoeaeonedmnaaGreatDoor
