/- name.read: the numbers of a name. -/
import Derived.Test.YtcgelcccboifjaaDoorNameSeq
namespace Go.Proofs.YtcgelcccboifjaaDoor
open Go.RowKit
theorem splitSeq_any (s : ByteArray) (w : World) :
    Calls Tryd.prog 39 #[.string s, .string ⟨#[46]⟩] w fun e w' => e = .returned (.func (.func 62) #[] #[.pointer (some ⟨w.heap.size + 1, 0, none⟩), .pointer (some ⟨w.heap.size, 0, none⟩), .pointer (some ⟨w.heap.size + 1 + 1, 0, none⟩)]) ∧
      ((w.alloc (.cells #[.string s] 9)).alloc (.cells #[.string ⟨#[46]⟩] 9)).alloc (.cells #[.int .i64 0] 3) = w' := by
  go_enter Tryd.func39, Tryd.ntmps39
  go_wp2
  go_ret
  exact ⟨rfl, rfl⟩
def ReadEnds (w : World) (F : Option (List Int)) (e : Ending) (w' : World) : Prop :=
  ∃ v, e = .returned (.tuple #[v, .bool F.isSome]) ∧ w'.ownsRow w.heap.size 3 1 v (F.getD []).length (ic (F.getD [])) ∧ Below w.heap.size w w' ∧ (F = none → v = .slice none 0 0)
theorem ReadEnds.no {w w' : World} {F : Option (List Int)} (h : F = none) (hb : Below w.heap.size w w') : ReadEnds w F (.returned (.tuple #[.slice none 0 0, .bool false])) w' := by
  subst h
  exact ⟨_, rfl, World.ownsRow_nil _ _ _ _, hb, fun _ => rfl⟩
set_option maxHeartbeats 1000000 in
theorem read_long (s : ByteArray) (w : World) (hs : s.size ≤ 140737488351232) (h : (95 : Int) < s.size) :
    Calls Tryd.prog 27 #[.string s] w (ReadEnds w (readL s.data.toList)) := by
  have HE := Lib.hid (ReadEnds.no (w := w) (w' := w) (F := readL s.data.toList) (by unfold readL; rw [if_pos (by rw [Array.length_toList]; have : s.data.size = s.size := rfl; omega)]) (Below.refl _ _))
  go_enter Tryd.func27, Tryd.ntmps27
  go_wp2_with fail
  go_ret2
  exact HE.out
set_option maxHeartbeats 1000000 in
theorem read_short (s : ByteArray) (w : World) (h : s.size ≤ 95) (hw : Laid w) :
    Calls Tryd.prog 27 #[.string s] w (ReadEnds w (readL s.data.toList)) := by
  have hI : (s.size : Int) ≤ 95 := by omega
  generalize hF : readL s.data.toList = F
  have hF2 : readGo [] (words s.data.toList) = F := by
    rw [← hF]
    unfold readL
    rw [if_neg (by rw [Array.length_toList]; have : s.data.size = s.size := rfl; omega)]
  have HF2 := Lib.hid hF2
  clear hF hF2
  go_enter Tryd.func27, Tryd.ntmps27
  have hB0 := Below.refl w.heap.size w
  have M0 := Mem.nil w
  go_wp2_with fail
  refine Calls.named ?_
  intro W hW
  have hM : Mem W [(w.heap.size + 1, .cells #[.bool true] 4), (w.heap.size, .cells #[.slice none 0 0] 40)] := by
    rw [hW]
    exact (M0.new (.cells #[.slice none 0 0] 40)).new' _ (by simp) _
  have hB1 : Below w.heap.size w W := by rw [hW]; exact below_al (below_al hB0 _) _
  have hn : W.heap.size = w.heap.size + 1 + 1 := by rw [hW]; simp
  have hn' := Lib.hid hn
  clear hn hW
  refine (splitSeq_any s W).mono ?_
  rintro e w1 ⟨rfl, hw1⟩
  have hM1 : Mem w1 [(W.heap.size + 1 + 1, .cells #[.int .i64 0] 3), (W.heap.size + 1, .cells #[.string ⟨#[46]⟩] 9), (W.heap.size, .cells #[.string s] 9), (w.heap.size + 1, .cells #[.bool true] 4), (w.heap.size, .cells #[.slice none 0 0] 40)] := by
    rw [← hw1]
    exact ((hM.new (.cells #[.string s] 9)).new' _ (by simp) _).new' _ (by simp) _
  have hB2 : Below w.heap.size w w1 := by rw [← hw1]; exact below_al (below_al (below_al hB1 _) _) _
  have hn1 : w1.heap.size = w.heap.size + 5 := by rw [← hw1]; simp [hn'.out]
  have HN := Lib.hid hn1
  clear hw1 hn1 hB1 hM
  go_wp2_with fail
  refine (seq_any w hw (w.heap.size + 5) w.heap.size (w.heap.size + 1) W.heap.size (W.heap.size + 1) (W.heap.size + 1 + 1) s w1 (by omega) ?_).mono ?_
  · obtain ⟨m1, m2, m3, m4, m5, _⟩ := hM1
    have := hn'.out
    exact ⟨⟨⟨_, m5, World.ownsRow_nil _ _ _ _⟩, m4, by omega, by omega, by omega, by rw [HN.out]; omega, by simp, ⟨by omega, by omega⟩, hB2⟩, m3, m2, m1, ⟨by omega, by omega, by omega⟩, ⟨by omega, by omega, by omega, by omega, by omega, by omega, by omega, by omega⟩, by omega⟩
  rintro e w2 ⟨rfl, l, ht, hl⟩
  rw [HF2.out] at ht hl
  obtain ⟨⟨v, hv, hown⟩, hfl, -, -, -, -, -, -, hb⟩ := ht
  have hn3 := hn'.out
  cases F with
  | none =>
    have c1 := Mem.cell (v := .bool false) hfl 0 rfl
    have HE := Lib.hid (ReadEnds.no (w := w) (w' := w2) (F := none) rfl hb)
    clear hM1 hB2 HN HF2 hl hv hown hfl hb hn' hn3 M0 hB0
    go_wp2_with fail
    go_ret2
    exact HE.out
  | some x =>
    obtain rfl := hl x rfl
    have c1 := Mem.cell (v := .bool true) hfl 0 rfl
    have c2 := Mem.cell (v := v) hv 0 rfl
    have hown2 : w2.ownsRow w.heap.size 3 1 v x.length (ic x) := ownsRow_mono hown (by omega)
    have HE : Hid (ReadEnds w (some x) (.returned (.tuple #[v, .bool true])) w2) := Lib.hid ⟨_, rfl, hown2, hb, fun h => by cases h⟩
    clear hM1 hB2 HN HF2 hl hv hown hown2 hfl hb hn' hn3 M0 hB0
    go_wp2_with fail
    go_ret2
    exact HE.out
theorem read_any (s : ByteArray) (w : World) (hs : s.size ≤ 140737488351232) (hw : Laid w) :
    Calls Tryd.prog 27 #[.string s] w (ReadEnds w (readL s.data.toList)) := by
  by_cases h : s.size ≤ 95
  · exact read_short s w h hw
  · exact read_long s w hs (by omega)
end Go.Proofs.YtcgelcccboifjaaDoor
