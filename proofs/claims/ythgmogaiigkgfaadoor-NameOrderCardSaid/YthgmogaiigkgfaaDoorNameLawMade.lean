/- The statements' own 'made': a name by bytes. -/
import Derived.Test.YthgmogaiigkgfaaDoorNameLaws
import Derived.Test.YthgmogaiigkgfaaDoorOpen
import Derived.Laws.AppendOwnNone
namespace Go.Proofs.YthgmogaiigkgfaaDoor
open Go.RowKit
def nsL (l : List UInt8) (m : Nat) : List Int := (l.take m).map fun c => (c.toNat : Int) * 3
def mkN (l : List UInt8) (m : Nat) : List Int := 7 :: nsL l m
theorem nsL_len (l : List UInt8) (m : Nat) : (nsL l m).length = min m l.length := by simp [nsL]
theorem nsL_step (l : List UInt8) (k : Nat) (h : k < l.length) : nsL l (k + 1) = nsL l k ++ [((l.getD k 0).toNat : Int) * 3] := by
  unfold nsL
  rw [List.take_succ_eq_append_getElem h, List.map_append]
  simp [h]
theorem nsL_range (l : List UInt8) (m : Nat) : ∀ n ∈ nsL l m, 0 ≤ n ∧ n ≤ 999 := by
  intro n hn
  unfold nsL at hn
  rw [List.mem_map] at hn
  obtain ⟨c, _, rfl⟩ := hn
  have := c.toNat_lt
  omega
theorem mkN_fits (l : List UInt8) (m : Nat) (h : m ≤ 23) : Fits (mkN l m) := by
  refine ⟨by simp [mkN], ?_, ?_⟩
  · have := nsL_len l m
    simp [mkN]
    omega
  · intro n hn
    rcases List.mem_cons.1 hn with rfl | hn
    · omega
    · exact nsL_range l m n hn
theorem nsL_min (l : List UInt8) (m : Nat) : nsL l (min m l.length) = nsL l m := by
  unfold nsL
  rcases Nat.le_total m l.length with h | h
  · rw [Nat.min_eq_left h]
  · rw [Nat.min_eq_right h, List.take_of_length_le h, List.take_length]
theorem BytesAt.slice {w : World} {v : Value} {l : List UInt8} (h : BytesAt w v l) : ∃ ao cap, v = .slice ao l.length cap ∧ l.length ≤ 9223372036854775807 := by
  rcases h with ⟨ao, cap, hv, h0⟩ | ⟨b, off, cap, hv, h1, h2, _⟩
  · subst h0; exact ⟨ao, cap, hv, by simp⟩
  · unfold maxLen at h2
    exact ⟨_, _, hv, by omega⟩
theorem BytesAt.cellAt {w : World} {ao : Option Addr} {cap : Nat} {l : List UInt8} (h : BytesAt w (.slice ao l.length cap) l) {k : Nat} (hk : k < l.length) : ∃ b off, ao = some ⟨b, off, none⟩ ∧ w.cell? ⟨b, off + k, none⟩ = some (.int .u8 (l.getD k 0).toNat) := by
  rcases h with ⟨_, _, _, h0⟩ | ⟨b, off, cap', hv, h1, h2, hc⟩
  · subst h0; simp at hk
  · simp only [Value.slice.injEq] at hv
    exact ⟨b, off, hv.1, hc k hk⟩
theorem ownsRow_seven (W : World) : (W.alloc (.cells #[.int .i64 7] 3)).ownsRow W.heap.size 3 1 (.slice (some ⟨W.heap.size, 0, none⟩) 1 1) 1 [.int .i64 7] :=
  ⟨rfl, Or.inr ⟨W.heap.size, 1, #[.int .i64 7], rfl, Nat.le_refl _, by show (W.heap.push _)[W.heap.size]? = _; simp, Nat.le_refl _, by unfold maxLen; simp, rfl, rfl⟩⟩
set_option maxHeartbeats 2000000 in
set_option maxRecDepth 100000 in
theorem lmade_any (v : Value) (l : List UInt8) (m : Int) (h0 : 0 ≤ m) (hm : m ≤ 23) (w : World) (ib : BytesAt w v l) (hw : Laid w) :
    Calls Tryd.prog 22 #[v, .int .i64 m] w fun e w' => e = .returned (.string ⟨(joinL (mkN l m.toNat)).toArray⟩) ∧ Below w.heap.size w w' := by
  obtain ⟨ao, cap, rfl, la⟩ := ib.slice
  obtain ⟨i0, hi, hz0, hz1, hz2⟩ := info_parts intInfo
  obtain ⟨M, rfl⟩ := Int.eq_ofNat_of_zero_le h0
  rw [Int.toNat_natCast]
  have hF := Lib.hid (if_pos (mkN_fits l M (by omega)) : ofL (mkN l M) = some _)
  go_enter Tryd.func22, Tryd.ntmps22
  go_wp2_with fail
  go_loopw [5, 6] (fun u i W => ∃ (k : Nat), k ≤ l.length ∧ k ≤ M ∧ i = .int .i64 k ∧ W.ownsRow w.heap.size 3 1 u k (ic (nsL l k)) ∧ Below w.heap.size w W) (fun _ i _ => M - (intOf i).toNat)
  case atStart => exact ⟨0, by omega, by omega, rfl, World.ownsRow_nil _ _ _ _, Below.refl _ _⟩
  case round =>
    obtain ⟨k, hk, hkm, rfl, hown, hb⟩ := hrel
    refine wp_named ?_
    intro W hW
    subst hW
    by_cases hgo : k < l.length ∧ k < M
    · obtain ⟨hlt, hltm⟩ := hgo
      have hltI : (k : Int) < l.length := by omega
      have hltM : (k : Int) < M := by omega
      obtain ⟨b, off, rfl, cw⟩ := (ib.below hb).cellAt hlt
      have hst := nsL_step l k hlt
      obtain ⟨c, hc⟩ : ∃ c, c = (l.getD k 0).toNat := ⟨_, rfl⟩
      have hcb : c < 256 := by rw [hc]; exact (l.getD k 0).toNat_lt
      rw [← hc] at cw hst
      have HS := Lib.hid hst
      clear hst hc
      obtain ⟨ao2, cap2, rfl⟩ := ownsRow_slice hown
      have hz := hb.size
      go_wp2_with (at_builtin; refine wpList_append_own _ rfl _ _ 22 rfl w.heap.size 3 i0 (.int .i64 0) 1 8 Tryd.underlying22 hi hz0 hz1 hz2 rfl (by decide) _ _ _ rfl (hown.alloc _) ⟨W.heap.size, 0, none⟩ 1 1 [.int .i64 ((c : Int) * 3)] rfl rfl ?c1 ?c2 ?c3 ?c4 ?c5 ?_)
      case c1 =>
        intro j u hj
        match j, hj with
        | 0, hj => simp at hj; subst hj; simp [Addr.add]
      case c2 => intro u hu; simp at hu; subst hu; rfl
      case c3 => unfold maxLen; omega
      case c4 => omega
      case c5 => simp; omega
      intro v' w3 hown' hgrow _
      have hb3 : Below w.heap.size w w3 := (below_al hb _).grown hgrow (by simp; omega) (fun q hq => (hown.lt q hq).1)
      have hown3 : w3.ownsRow w.heap.size 3 1 v' (k + 1) (ic (nsL l (k + 1))) := by rw [HS.out, ic_app]; exact hown'
      clear hown hown' hgrow hb cw
      go_wp2_with fail
      go_roundw
      case rel => exact ⟨k + 1, by omega, by omega, by go_num, hown3, hb3⟩
      case measure => simp [intOf]; omega
    · have hkk : k = min M l.length := by omega
      have hend : (l.length : Int) ≤ k ∨ ((k : Int) < l.length ∧ (M : Int) ≤ k) := by omega
      have hns : nsL l k = nsL l M := by rw [hkk, nsL_min]
      rw [hns] at hown
      have hk23 : k ≤ 23 := by omega
      have hz := hb.size
      clear hkk hns hgo
      rcases hown.2 with ⟨rfl, h00⟩ | ⟨g, cap2, cur, rfl, hg1, hg2, hg3, hg4, hg5, hg6⟩
      · have hnil : nsL l M = [] := by
          have := hown.1
          rw [ic_len, h00] at this
          exact List.length_eq_zero_iff.1 (by simpa using this)
        have hI : IntsAt (W.alloc (.cells #[.int .i64 7] 3)) (.slice (some ⟨W.heap.size, 0, none⟩) 1 1) (mkN l M) := by
          unfold mkN
          rw [hnil]
          exact IntsAt.of_row (l := [7]) (ownsRow_seven W)
        have HI := Lib.hid hI
        clear hI hnil hown h00
        rcases hend with hend | ⟨hend, hend2⟩
        all_goals
          go_wp2_with (at_builtin; refine wpList_append_own_none rfl _ _ 22 rfl W.heap.size 3 i0 1 Tryd.underlying22 hi _ _ _ rfl (ownsRow_seven W) rfl ?_)
          go_wp2_with fail
          refine (of_t hF.out _ HI.out (hw.below (below_al hb _))).mono ?_
          rintro e w4 ⟨rfl, hb4⟩
          have hb5 := below_then (below_al hb _) hb4
          clear hb hb4
          go_wp2_with fail
          go_ret
          exact ⟨rfl, hb5⟩
      · have hlk : (nsL l M).length = k := by
          have := hown.1
          rw [ic_len] at this
          omega
        rcases hend with hend | ⟨hend, hend2⟩
        all_goals
          go_wp2_with (at_builtin; refine wpList_append_own _ rfl _ _ 22 rfl W.heap.size 3 i0 (.int .i64 0) 1 8 Tryd.underlying22 hi hz0 hz1 hz2 rfl (by decide) _ _ _ rfl (ownsRow_seven W) ⟨g, 0, none⟩ k cap2 (ic (nsL l M)) rfl (by rw [ic_len]; omega) ?c1 ?c2 ?c3 ?c4 ?c5 ?_)
          case c1 =>
            intro j u hj
            have hlt : g < W.heap.size := Mem.lt hg2
            have hgg : (W.alloc (.cells #[.int .i64 7] 3)).heap[g]? = some (.cells cur 3 (0, 0)) := by rw [Lib.alloc_old W _ g hlt]; exact hg2
            rw [addr_add rfl, Nat.zero_add]
            unfold World.cell?
            rw [hgg]
            show cur[j]? = some u
            rw [← hg6] at hj
            have hjl : j < k := by
              have := (List.getElem?_eq_some_iff.1 hj).1
              simp at this
              omega
            rw [List.getElem?_take_of_lt (by omega)] at hj
            simpa using hj
          case c2 =>
            intro u hu
            unfold ic at hu
            rw [List.mem_map] at hu
            obtain ⟨n, _, rfl⟩ := hu
            rfl
          case c3 => unfold maxLen; omega
          case c4 => omega
          case c5 => simp
          intro v' w3 hown' hgrow _
          have hb3 : Below w.heap.size w w3 := (below_al hb _).grown hgrow (by simp; omega) (fun q hq => by
            simp [Value.ownBlock] at hq
            omega)
          have hI : IntsAt w3 v' (mkN l M) := IntsAt.of_row (B := W.heap.size) (by
            have e : (mkN l M).length = 1 + k := by unfold mkN; rw [List.length_cons, hlk]; omega
            rw [e]
            exact hown')
          have HI := Lib.hid hI
          clear hI hown hown' hgrow hg2 hg5 hg6 hb
          go_wp2_with fail
          refine (of_t hF.out _ HI.out (hw.below hb3)).mono ?_
          rintro e w4 ⟨rfl, hb4⟩
          have hb5 := below_then hb3 hb4
          clear hb3 hb4
          go_wp2_with fail
          go_ret
          exact ⟨rfl, hb5⟩
end Go.Proofs.YthgmogaiigkgfaaDoor
