/- op.find, op.Parse, op.Get. -/
import Derived.Test.YthplcmoojmnofaaDoorOpWalk
import Derived.Test.YthplcmoojmnofaaDoorShelf
namespace Go.Proofs.YthplcmoojmnofaaDoor
open Go.RowKit
theorem opRows_len : opRows.length = 47 := rfl
theorem find_at (w : List UInt8) (k : Nat) (hk : k < opRows.length) (h : ∀ j (hj : j < k), (opRows[j]'(by omega)).1 ≠ w) (he : opRows[k].1 = w) : findC w = k + 1 := by
  unfold findC
  rw [if_pos]
  · congr 1
    rw [List.findIdx_eq hk]
    refine ⟨by simp [he], fun j hj => ?_⟩
    simpa using h j hj
  · rw [List.any_eq_true]
    exact ⟨opRows[k], List.getElem_mem hk, by simp [he]⟩
theorem find_no (w : List UInt8) (h : ∀ j (hj : j < opRows.length), opRows[j].1 ≠ w) : findC w = 0 := by
  unfold findC
  rw [if_neg]
  rw [List.any_eq_true]
  rintro ⟨x, hx, he⟩
  obtain ⟨j, hj, rfl⟩ := List.getElem_of_mem hx
  exact h j hj (by simpa using he)
theorem find_any (word : ByteArray) (w : World) (hw : LaidOp w) : Calls Tryd.prog 18 #[.string word] w fun e w' => e = .returned (.int .i64 (findC word.data.toList : Nat)) ∧ w = w' := by
  have hsz := hw.2.1.size
  generalize hr : findC word.data.toList = R
  have HR := Lib.hid hr
  clear hr
  go_enter Tryd.func18, Tryd.ntmps18
  go_wp2_with fail
  go_loop [3, 4] (fun _ i => ∃ k : Nat, k ≤ 47 ∧ i = .int .i64 k ∧ Hid (∀ j (hj : j < opRows.length), j < k → opRows[j].1 ≠ word.data.toList)) (fun _ i => 47 - (intOf i).toNat)
  case atStart => exact ⟨0, by omega, rfl, Lib.hid (fun j hj hjk => by omega)⟩
  case round =>
    obtain ⟨k, hk, rfl, hn⟩ := hrel
    by_cases hlt : k < 47
    · have hkl : k < opRows.length := by rw [opRows_len]; exact hlt
      have hc := hw.2.1.cell k 0 opRows[k] (List.getElem?_eq_getElem hkl) (by omega)
      have hc' : w.cell? ⟨0, k * 4, none⟩ = some (.string ⟨opRows[k].1.toArray⟩) := hc
      obtain ⟨nm, hnm⟩ : ∃ nm, opRows[k].1 = nm := ⟨_, rfl⟩
      rw [hnm] at hc'
      by_cases he : nm = word.data.toList
      · have hq := str_beq he
        have hf := find_at word.data.toList k hkl (fun j hj => hn.out j (by omega) hj) (by rw [hnm, he])
        rw [HR.out] at hf
        have HF := Lib.hid hf
        clear hc hnm he hf hkl
        go_wp2_with fail
        go_ret
        exact ⟨ret_int (by rw [HF.out]; omega), rfl⟩
      · have hq := str_bne he
        have hn' : Hid (∀ j (hj : j < opRows.length), j < k + 1 → opRows[j].1 ≠ word.data.toList) := Lib.hid (fun j hj hjk => by
          by_cases hjk2 : j < k
          · exact hn.out j hj hjk2
          · obtain rfl : j = k := by omega
            rw [hnm]
            exact he)
        clear hc hnm he hkl
        go_wp2_with fail
        go_round
        case rel => exact ⟨k + 1, by omega, by go_num, hn'⟩
        case measure => simp [intOf]; omega
    · have hf := find_no word.data.toList (fun j hj => hn.out j hj (by rw [opRows_len] at hj; omega))
      rw [HR.out] at hf
      have HF := Lib.hid hf
      have hge : (47 : Int) ≤ k := by omega
      clear hf
      go_wp2_with fail
      go_ret
      exact ⟨ret_int (by rw [HF.out]; rfl), rfl⟩
theorem setCell_same {w : World} {a : Addr} {v : Value} (h : w.cell? a = some v) : w.setCell a v = w := by
  unfold World.cell? at h
  have hh : (w.setCell a v).heap = w.heap := by
    unfold World.setCell
    apply Array.ext_getElem?
    intro i
    rw [Array.getElem?_modify]
    by_cases hi : a.block = i
    · subst hi
      rw [if_pos rfl]
      cases hh : w.heap[a.block]? with
      | none => rfl
      | some o =>
        rw [hh] at h
        cases o with
        | cells c e f =>
          simp only at h
          cases hs : a.spot with
          | some x => simp [hs] at h
          | none =>
            simp only [hs, Option.isSome_none, Bool.false_eq_true, if_false] at h
            simp only [Option.map_some, Option.isSome_none, Bool.false_eq_true, if_false, Option.some.injEq]
            congr 1
            apply Array.ext_getElem?
            intro j
            rw [Array.getElem?_setIfInBounds]
            by_cases hj : a.off = j
            · subst hj
              obtain ⟨hlt, he⟩ := Array.getElem?_eq_some_iff.1 h
              rw [if_pos rfl, if_pos hlt, h]
            · rw [if_neg hj]
        | _ => rfl
    · rw [if_neg hi]
  have e : w.setCell a v = { w with heap := (w.setCell a v).heap } := rfl
  rw [e, hh]
end Go.Proofs.YthplcmoojmnofaaDoor
