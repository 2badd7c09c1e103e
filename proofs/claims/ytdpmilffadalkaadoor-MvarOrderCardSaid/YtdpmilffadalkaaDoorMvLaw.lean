/- The law's own helpers of chapter 12: who, waits; mvar.Right at the two examples. -/
import Derived.Test.YtdpmilffadalkaaDoorMvAny
namespace Go.Proofs.YtdpmilffadalkaaDoor
open Go.RowKit
def whoS (n : Int) : ByteArray := if n % 8 = 0 then ⟨#[48]⟩ else if n % 8 = 1 then ⟨#[49]⟩ else if n % 8 = 2 then ⟨#[50]⟩ else if n % 8 = 3 then ⟨#[51]⟩ else if n % 8 = 4 then ⟨#[48, 46, 48]⟩ else if n % 8 = 5 then ⟨#[48, 46, 49]⟩ else if n % 8 = 6 then ⟨#[49, 46, 48]⟩ else ⟨#[52, 46, 52]⟩
theorem whoS_some (n : Int) : 0 < (whoS n).data.size := by
  unfold whoS
  (repeat' split) <;> decide
set_option maxHeartbeats 1000000 in
theorem who_any (n : Int) (h0 : 0 ≤ n) (h1 : n ≤ 255) (w : World) : Calls Tryd.prog 8 #[.int .u8 n] w fun e w' => e = .returned (.string (whoS n)) ∧ Below w.heap.size w w' := by
  have hc : n % 8 = 0 ∨ n % 8 = 1 ∨ n % 8 = 2 ∨ n % 8 = 3 ∨ n % 8 = 4 ∨ n % 8 = 5 ∨ n % 8 = 6 ∨ n % 8 = 7 := by omega
  rcases hc with h | h | h | h | h | h | h | h
  all_goals
    obtain ⟨r, hr⟩ : ∃ r, whoS n = r := ⟨_, rfl⟩
    have HR := Lib.hid hr
    rw [hr]
    unfold whoS at hr
    rw [h] at hr
    simp at hr
    subst hr
    go_enter Tryd.func8, Tryd.ntmps8
    go_wp2_with fail
    go_ret
    exact ⟨rfl, below_al (Below.refl _ _) _⟩
def waitsB (q : List Wt) (id : ByteArray) : Bool := q.any fun w => w.id.toList == id.toList
theorem waits_no {q : List Wt} {id : ByteArray} (h : ∀ j (hj : j < q.length), (q[j].id.toList == id.toList) = false) : waitsB q id = false := by
  unfold waitsB
  rw [List.any_eq_false]
  intro x hx
  obtain ⟨j, hj, rfl⟩ := List.getElem_of_mem hx
  simpa using h j hj
theorem waits_yes {q : List Wt} {id : ByteArray} {j : Nat} (hj : j < q.length) (h : (q[j].id.toList == id.toList) = true) : waitsB q id = true := by
  unfold waitsB
  rw [List.any_eq_true]
  exact ⟨q[j], List.getElem_mem hj, h⟩
set_option maxRecDepth 100000 in
set_option maxHeartbeats 2000000 in
theorem waits_any (f : Bool) (k n : Int) (m s i : ByteArray) (id : ByteArray) (q : List Wt) (v : Value) (w : World) (h : QAt w v q) (hlen : q.length * 88 ≤ 140737488355328) :
    Calls Tryd.prog 9 #[.agg #[.bool f, .int .i64 k, .int .i64 n, .string m, .string s, .string i, v], .string id] w fun e w' => e = .returned (.bool (waitsB q id)) ∧ Below w.heap.size w w' := by
  generalize hR : waitsB q id = R
  have HR := Lib.hid hR
  clear hR
  have HQ : Hid (∀ W, Below w.heap.size w W → QAt W v q) := Lib.hid (fun W hb => h.below hb)
  obtain ⟨ao, cap, hv⟩ := h.slice
  subst hv
  clear h
  obtain ⟨N, hN⟩ : ∃ N, q.length = N := ⟨_, rfl⟩
  rw [hN] at HQ hlen ⊢
  have HN := Lib.hid hN
  clear hN
  go_enter Tryd.func9, Tryd.ntmps9
  go_wp2_with fail
  refine wp_named ?_
  intro W hW
  have hB1 : Below w.heap.size w W := by rw [hW]; exact below_al (Below.refl _ _) _
  have M1 : Mem W [(w.heap.size, .cells #[.bool f, .int .i64 k, .int .i64 n, .string m, .string s, .string i, .slice ao N cap] 31)] := by
    rw [hW]
    exact (Mem.nil w).new _
  clear hW
  have c6 := Mem.cell M1.1 6 rfl
  clear M1
  have HB := Lib.hid hB1
  clear hB1
  go_loop [5] (fun i => ∃ k : Nat, k ≤ N ∧ i = .int .i64 k ∧ Hid (∀ j (hj : j < q.length), j < k → (q[j].id.toList == id.toList) = false)) (fun i => N - (intOf i).toNat)
  case atStart => exact ⟨0, by omega, rfl, Lib.hid (fun j hj hjk => by omega)⟩
  case round =>
    obtain ⟨j, hj, rfl, hn⟩ := hrel
    by_cases hlt : j < N
    · have hjl : j < q.length := by rw [HN.out]; exact hlt
      obtain ⟨b, off, rfl, -, hbl, hg⟩ := slots_someQ (HQ.out _ HB.out) (by omega)
      obtain ⟨x, hx⟩ : ∃ x, q[j].id = x := ⟨_, rfl⟩
      have c0 := hg j 0 hjl _ (by simp only [Wt.row, List.getElem?_cons_zero]; rw [hx])
      simp only [Nat.add_zero] at c0
      have HX := Lib.hid hx
      clear hg hx
      cases hp : (x.toList == id.toList) with
      | true =>
        have hf : R = true := by rw [← HR.out]; exact waits_yes hjl (by rw [HX.out]; exact hp)
        have HF := Lib.hid hf
        clear hf
        go_wp2_with fail
        go_ret
        exact ⟨ret_bool HF.out.symm, HB.out⟩
      | false =>
        have hn' : Hid (∀ t (ht : t < q.length), t < j + 1 → (q[t].id.toList == id.toList) = false) := Lib.hid (fun t ht htj => by
          by_cases htj2 : t < j
          · exact hn.out t ht htj2
          · obtain rfl : t = j := by omega
            rw [HX.out]
            exact hp)
        clear hn
        go_wp2_with fail
        go_round
        case rel => exact ⟨j + 1, by omega, by go_num, hn'⟩
        case measure => simp [intOf]; omega
    · have hf : R = false := by rw [← HR.out]; exact waits_no (fun t ht => hn.out t ht (by have := HN.out; omega))
      have HF := Lib.hid hf
      have hge : (N : Int) ≤ j := by omega
      clear hf
      go_wp2_with fail
      go_ret
      exact ⟨ret_bool HF.out.symm, HB.out⟩
theorem right_bad (w : World) : Calls Tryd.prog 15 #[.agg #[.bool true, .int .i64 0, .int .i64 0, .string ⟨#[]⟩, .string ⟨#[]⟩, .string ⟨#[]⟩, .slice none 0 0]] w fun e w' => e = .returned (.bool false) ∧ Below w.heap.size w w' := by
  go_enter Tryd.func15, Tryd.ntmps15
  go_wp2_with fail
  refine (vright_zero _).mono ?_
  rintro e w1 ⟨rfl, hb⟩
  have HB := Lib.hid (below_then (below_al (Below.refl _ _) _) hb)
  clear hb
  go_wp2_with fail
  go_ret
  exact ⟨rfl, HB.out⟩
end Go.Proofs.YtdpmilffadalkaaDoor
