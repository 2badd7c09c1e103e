/- slices.BinarySearchFunc at names, by name.Order. -/
import Derived.Test.YtlkgcidhhngfeaaGreatDoorZ5
import Derived.Deep.LoopGhost
namespace Go.Proofs.YtlkgcidhhngfeaaGreatDoor
open Go.RowKit Go.Maps
/-- where a name comes among those that rise -/
def loL (L : List ByteArray) (key : ByteArray) : Nat := (L.filter fun s => decide (ordB s key < 0)).length
/-- is it among them? -/
def hasL (L : List ByteArray) (key : ByteArray) : Bool := L.any fun s => decide (s = key)
theorem hasL_iff {L : List ByteArray} {key : ByteArray} : hasL L key = true ↔ key ∈ L := by simp [hasL]
theorem hasL_no {L : List ByteArray} {key : ByteArray} (h : key ∉ L) : hasL L key = false := by
  cases e : hasL L key with
  | false => rfl
  | true => exact absurd (hasL_iff.1 e) h
theorem str_row {w : World} {B : Nat} {v : Value} {L : List ByteArray} (h : w.ownsRow B 9 1 v L.length (L.map .string)) : ∃ a c, v = .slice a L.length c ∧ L.length ≤ maxLen ∧ ∀ (k : Nat) (hk : k < L.length), ∃ g, a = some ⟨g, 0, none⟩ ∧ w.cell? ⟨g, k, none⟩ = some (.string L[k]) := by
  rcases h.2 with ⟨rfl, h0⟩ | ⟨g, cap, cur, rfl, _, hg, h1, h2, h3, h4⟩
  · exact ⟨none, 0, by rw [h0], by rw [h0]; exact Nat.zero_le _, fun k hk => by omega⟩
  · refine ⟨some ⟨g, 0, none⟩, cap, rfl, by omega, fun k hk => ⟨g, rfl, ?_⟩⟩
    have hx : (L.map Value.string)[k]? = some (.string L[k]) := by simp [hk]
    rw [← h4, List.getElem?_take] at hx
    split at hx
    · simp only [World.cell?, hg]
      simpa using hx
    · cases hx
theorem filter_cut {α : Type} (p : α → Bool) (L : List α) (i : Nat) (hi : i ≤ L.length) (h1 : ∀ k (hk : k < L.length), k < i → p L[k] = true) (h2 : ∀ k (hk : k < L.length), i ≤ k → p L[k] = false) : L.filter p = L.take i ∧ L.filter (fun x => !p x) = L.drop i := by
  have e := List.take_append_drop i L
  have a1 : (L.take i).filter p = L.take i := List.filter_eq_self.2 fun x hx => by
    obtain ⟨k, hk, rfl⟩ := List.getElem_of_mem hx
    rw [List.length_take] at hk
    rw [List.getElem_take]
    exact h1 k (by omega) (by omega)
  have a2 : (L.drop i).filter p = [] := List.filter_eq_nil_iff.2 fun x hx => by
    obtain ⟨k, hk, rfl⟩ := List.getElem_of_mem hx
    rw [List.length_drop] at hk
    rw [List.getElem_drop]
    simpa using h2 (i + k) (by omega) (by omega)
  have a3 : (L.take i).filter (fun x => !p x) = [] := List.filter_eq_nil_iff.2 fun x hx => by
    obtain ⟨k, hk, rfl⟩ := List.getElem_of_mem hx
    rw [List.length_take] at hk
    rw [List.getElem_take]
    simpa using h1 k (by omega) (by omega)
  have a4 : (L.drop i).filter (fun x => !p x) = L.drop i := List.filter_eq_self.2 fun x hx => by
    obtain ⟨k, hk, rfl⟩ := List.getElem_of_mem hx
    rw [List.length_drop] at hk
    rw [List.getElem_drop]
    simpa using h2 (i + k) (by omega) (by omega)
  constructor
  · conv => lhs; rw [← e]
    rw [List.filter_append, a1, a2, List.append_nil]
  · conv => lhs; rw [← e]
    rw [List.filter_append, a3, a4, List.nil_append]
theorem rise_lt {L : List ByteArray} (h : L.Pairwise fun s t => ordB s t < 0) {i j : Nat} (hi : i < L.length) (hj : j < L.length) (hij : i < j) : ordB L[i] L[j] < 0 := List.pairwise_iff_getElem.1 h i j hi hj hij
theorem order_at (a b : ByteArray) (w : World) (ha : a.size ≤ 95) (hb : b.size ≤ 95) (hw : Laid w) : Calls Tryz.prog 33 #[.string a, .string b] w fun e w' => e = .returned (.int .i64 (ordB a b)) ∧ Below w.heap.size w w' := order_any a b w (by omega) (by omega) hw
set_option maxRecDepth 100000 in
set_option maxHeartbeats 8000000 in
theorem bsearch_any (L : List ByteArray) (hL : L.Pairwise fun s t => ordB s t < 0) (hs : ∀ s ∈ L, s.size ≤ 95) (key : ByteArray) (hk : key.size ≤ 95) (B : Nat) (v : Value) (w : World) (hw : Laid w) (hr : w.ownsRow B 9 1 v L.length (L.map .string)) (hlen : L.length ≤ 1000000) :
    Calls Tryz.prog 32 #[v, .string key, .func (.func 33) #[] #[]] w fun e w' => e = .returned (.tuple #[.int .i64 (loL L key : Int), .bool (hasL L key)]) ∧ Below w.heap.size w w' := by
  have HW := Lib.hid fun (W : World) (hb : Below w.heap.size w W) => hw.below hb
  have HR := Lib.hid fun (W : World) (hb : Below w.heap.size w W) => ownsRow_keep hr hb
  obtain ⟨a, c, rfl, _⟩ := str_row hr
  have HL := Lib.hid hL
  have HS := Lib.hid hs
  have HK := Lib.hid hk
  obtain ⟨n, hn⟩ : ∃ n, n = L.length := ⟨_, rfl⟩
  have HN := Lib.hid hn
  obtain ⟨R, hR⟩ : ∃ R, R = loL L key := ⟨_, rfl⟩
  obtain ⟨F, hF⟩ : ∃ F, F = hasL L key := ⟨_, rfl⟩
  have HRR := Lib.hid hR
  have HFF := Lib.hid hF
  have hn6 : n ≤ 1000000 := by omega
  rw [← hR, ← hF, ← hn]
  clear hw hr hL hs hk hn hR hF hlen
  go_enter Tryz.func32, Tryz.ntmps32
  go_wp2_with fail
  go_loopw [9, 10] (fun s9 s10 wr => ∃ lo hi : Nat, s9 = .int .i64 lo ∧ s10 = .int .i64 hi ∧ lo ≤ hi ∧ hi ≤ n ∧ Hid (Below w.heap.size w wr) ∧ Hid ((∀ k (hk : k < L.length), k < lo → ordB L[k] key < 0) ∧ (∀ k (hk : k < L.length), hi ≤ k → 0 ≤ ordB L[k] key))) (fun s9 s10 _ => (intOf s10).toNat - (intOf s9).toNat)
  case atStart => exact ⟨0, n, rfl, rfl, Nat.zero_le _, Nat.le_refl _, Lib.hid (Below.refl _ _), Lib.hid ⟨fun k hk h => by omega, fun k hk h => by have := HN.out; omega⟩⟩
  case round =>
    obtain ⟨lo, hi, rfl, rfl, hlh, hin, HB, HI⟩ := hrel
    by_cases hlt : lo < hi
    · have hm : (lo + hi) / 2 < L.length := by have := HN.out; omega
      obtain ⟨_, _, e, _, hc⟩ := str_row (HR.out wr HB.out)
      obtain ⟨g, hag, cm⟩ := hc _ hm
      obtain ⟨rfl, -, -⟩ := Value.slice.inj e
      subst hag
      obtain ⟨y, hy⟩ : ∃ y, y = L[(lo + hi) / 2] := ⟨_, rfl⟩
      rw [← hy] at cm
      have hys : y.size ≤ 95 := by rw [hy]; exact HS.out _ (List.getElem_mem hm)
      have HY := Lib.hid hy
      have ho := order_at y key wr hys HK.out (HW.out wr HB.out)
      obtain ⟨r, hr⟩ : ∃ r, r = ordB y key := ⟨_, rfl⟩
      rw [← hr] at ho
      have HRO := Lib.hid hr
      clear hy hr hys e hc
      by_cases hyx : r < 0
      · go_wp2_with (go_at_call 33; refine ho.mono ?_; rintro e w' ⟨rfl, hb'⟩)
        have HB' := Lib.hid (below_then HB.out hb')
        go_roundw
        case measure => simp [intOf]; omega
        case rel =>
          refine ⟨(lo + hi) / 2 + 1, hi, by go_num, rfl, by omega, hin, HB', Lib.hid ⟨fun k hk hkl => ?_, HI.out.2⟩⟩
          have h1 := HRO.out
          rw [HY.out] at h1
          by_cases hkm : k = (lo + hi) / 2
          · subst hkm; omega
          · exact ordB_trans (rise_lt HL.out hk hm (by omega)) (by omega)
      · go_wp2_with (go_at_call 33; refine ho.mono ?_; rintro e w' ⟨rfl, hb'⟩)
        have HB' := Lib.hid (below_then HB.out hb')
        go_roundw
        case measure => simp [intOf]; omega
        case rel =>
          refine ⟨lo, (lo + hi) / 2, rfl, by go_num, by omega, by omega, HB', Lib.hid ⟨HI.out.1, fun k hk hkl => ?_⟩⟩
          have h1 := HRO.out
          rw [HY.out] at h1
          by_cases hkm : k = (lo + hi) / 2
          · subst hkm; omega
          · refine Int.not_lt.1 fun h2 => ?_
            have h3 := ordB_trans (rise_lt HL.out hm hk (by omega)) h2
            omega
    · obtain rfl : hi = lo := by omega
      have hcut := filter_cut (fun s => decide (ordB s key < 0)) L hi (by have := HN.out; omega) (fun k hk h => by simpa using HI.out.1 k hk h) (fun k hk h => by have := HI.out.2 k hk h; simpa using this)
      have hRhi : R = hi := by
        rw [HRR.out]
        unfold loL
        rw [hcut.1, List.length_take]
        have := HN.out
        omega
      subst hRhi
      by_cases hlast : R < n
      · have hm : R < L.length := by have := HN.out; omega
        obtain ⟨_, _, e, _, hc⟩ := str_row (HR.out wr HB.out)
        obtain ⟨g, hag, cm⟩ := hc _ hm
        obtain ⟨rfl, -, -⟩ := Value.slice.inj e
        subst hag
        obtain ⟨y, hy⟩ : ∃ y, y = L[R] := ⟨_, rfl⟩
        rw [← hy] at cm
        have hys : y.size ≤ 95 := by rw [hy]; exact HS.out _ (List.getElem_mem hm)
        have ho := order_at y key wr hys HK.out (HW.out wr HB.out)
        obtain ⟨r, hr⟩ : ∃ r, r = ordB y key := ⟨_, rfl⟩
        rw [← hr] at ho
        have hge := HI.out.2 R hm (Nat.le_refl _)
        have hFr : F = decide (r = 0) := by
          rw [HFF.out, hr]
          rw [Bool.eq_iff_iff, hasL_iff, decide_eq_true_eq]
          refine ⟨fun hmem => ?_, fun h0 => ?_⟩
          · obtain ⟨k, hk, rfl⟩ := List.getElem_of_mem hmem
            by_cases hkR : k < R
            · exact absurd (HI.out.1 k hk hkR) (ordB_irr _)
            · by_cases hke : k = R
              · subst hke; rw [hy]; exact ordB_zero.2 rfl
              · have h3 := rise_lt HL.out hm hk (by omega)
                omega
          · rw [← ordB_zero.1 h0, hy]
            exact List.getElem_mem hm
        clear hy hr hys e hc hge hcut
        by_cases hyx : r = 0
        · have hF1 : F = true := by rw [hFr]; simpa using hyx
          subst hF1
          clear hFr
          go_wp2_with (go_at_call 33; refine ho.mono ?_; rintro e w' ⟨rfl, hb'⟩)
          have HB' := Lib.hid (below_then HB.out hb')
          go_ret2
          exact ⟨rfl, HB'.out⟩
        · have hF1 : F = false := by rw [hFr]; simpa using hyx
          subst hF1
          clear hFr
          have hq : (r == 0) = false := by simpa using hyx
          go_wp2_with (go_at_call 33; refine ho.mono ?_; rintro e w' ⟨rfl, hb'⟩)
          have HB' := Lib.hid (below_then HB.out hb')
          go_ret2
          exact ⟨rfl, HB'.out⟩
      · have hF1 : F = false := by
          rw [HFF.out]
          refine hasL_no fun hmem => ?_
          obtain ⟨k, hk, rfl⟩ := List.getElem_of_mem hmem
          exact absurd (HI.out.1 k hk (by have := HN.out; omega)) (ordB_irr _)
        subst hF1
        clear hcut
        go_wp2_with fail
        go_ret2
        exact ⟨rfl, HB.out⟩
end Go.Proofs.YtlkgcidhhngfeaaGreatDoor
