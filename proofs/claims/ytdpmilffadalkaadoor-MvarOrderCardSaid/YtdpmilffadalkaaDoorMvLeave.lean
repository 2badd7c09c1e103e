/- mvar.Leave. -/
import Derived.Test.YtdpmilffadalkaaDoorMvWith
import Derived.Test.YtdpmilffadalkaaDoorMvEq
namespace Go.Proofs.YtdpmilffadalkaaDoor
open Go.RowKit
def LeaveEnds (w : World) (f : Bool) (x : V5) (q : List Wt) (ok : Bool) (e : Ending) (w' : World) : Prop :=
  ∃ v, e = .returned (.tuple #[.agg #[.bool f, .int .i64 x.k, .int .i64 x.n, .string x.nm, .string x.s, .string x.i, v], .bool ok]) ∧ OwnQ w.heap.size w' v q ∧ Below w.heap.size w w'
theorem firstI_lt {p : Wt → Bool} {l : List Wt} (h : 0 ≤ firstI p l) : ∃ k : Nat, k < l.length ∧ firstI p l = (k : Int) := by
  unfold firstI at *
  cases hf : l.findIdx? p with
  | none => rw [hf] at h; simp at h
  | some k =>
    rw [List.findIdx?_eq_some_iff_getElem] at hf
    exact ⟨k, hf.1, rfl⟩
theorem firstI_neg {p : Wt → Bool} {l : List Wt} (h : ¬ 0 ≤ firstI p l) : firstI p l = -1 := by
  unfold firstI at *
  cases hf : l.findIdx? p with
  | none => rfl
  | some k => rw [hf] at h; simp at h
theorem cell_other {b b' : Nat} (h : b' ≠ b) (W : World) (o o' : Nat) (v : Value) : (W.setCell ⟨b', o', none⟩ v).cell? ⟨b, o, none⟩ = W.cell? ⟨b, o, none⟩ := by
  unfold World.cell?
  show (match (W.heap.modify b' _)[b]? with | some (.cells c _ _) => _ | _ => _) = _
  rw [Array.getElem?_modify, if_neg h]
  rfl
theorem at_world {Q : Exit → Act → World → Prop} {e : Exit} {a : Act} {E W : World} (h : W = E) (hq : Q e a W) : Q e a E := h ▸ hq
theorem set_block {W : World} {b : Nat} {T : TypeId} {old : Array Value} (h : W.heap[b]? = some (.cells old T)) (vs : List Value) (hn : vs.length = old.size) : (W.setCells b 0 vs).heap[b]? = some (.cells vs.toArray T) := by
  have h1 := setCells_block vs 0 W old h (by omega)
  rw [h1, List.take_zero, List.drop_of_length_le (by simp; omega)]
  simp
theorem own_set {B : Nat} {W : World} {v : Value} {l : List Wt} (h : OwnQ B W v l) {b : Nat} (hb : b < B) : ∀ (vs : List Value) (o : Nat), OwnQ B (W.setCells b o vs) v l := by
  intro vs
  induction vs generalizing W with
  | nil => exact fun _ => h
  | cons x r ih => exact fun o => ih (ownsRow_setCell_below h (a := ⟨b, o, none⟩) hb x) (o + 1)
set_option maxRecDepth 100000 in
set_option maxHeartbeats 2000000 in
theorem leave_no (f : Bool) (k n : Int) (m s i : ByteArray) (q : List Wt) (v : Value) (who : ByteArray) (w : World) (h : QAt w v q) (hlen : q.length * 88 ≤ 140737488355328) (hno : firstI (fun x => x.id.toList == who.toList) q = -1) :
    Calls Tryd.prog 13 #[.agg #[.bool f, .int .i64 k, .int .i64 n, .string m, .string s, .string i, v], .string who] w (LeaveEnds w f ⟨k, n, m, s, i⟩ q false) := by
  have HQ : Hid (∀ W, Below w.heap.size w W → QAt W v q) := Lib.hid (fun W hb => h.below hb)
  clear h
  have HN := Lib.hid hno
  clear hno
  go_enter Tryd.func13, Tryd.ntmps13
  go_wp2_with fail
  refine Calls.named ?_
  intro W hW
  have hB1 : Below w.heap.size w W := by rw [hW]; exact below_al (below_al (below_al (Below.refl _ _) _) _) _
  have M1 : Mem W [(w.heap.size + 1 + 1, .cells #[.bool false, .int .i64 0, .int .i64 0, .string ⟨#[]⟩, .string ⟨#[]⟩, .string ⟨#[]⟩, .slice none 0 0] 31), (w.heap.size + 1, .cells #[.string who] 9), (w.heap.size, .cells #[.bool f, .int .i64 k, .int .i64 n, .string m, .string s, .string i, v] 31)] := by
    rw [hW]
    exact ((((Mem.nil w).new' _ rfl _).new' _ (by simp) _).new' _ (by simp) _)
  have hz : W.heap.size = w.heap.size + 3 := by rw [hW]; simp
  have HZ := Lib.hid hz
  clear hW hz
  refine (first_id q v _ (HQ.out _ hB1) hlen _ who (Lib.hid M1.2.1)).mono ?_
  rw [HN.out]
  rintro e w1 ⟨rfl, hb1⟩
  have M2 := M1.below hb1
  have hB2 := below_then hB1 hb1
  have hz1 : w.heap.size + 3 ≤ w1.heap.size := by have := HZ.out; have := hb1.size; omega
  have f0 := Mem.free M2.1
  have c0 := Mem.cell M2.2.2.1 0 rfl
  have c1 := Mem.cell M2.2.2.1 1 rfl
  have c2 := Mem.cell M2.2.2.1 2 rfl
  have c3 := Mem.cell M2.2.2.1 3 rfl
  have c4 := Mem.cell M2.2.2.1 4 rfl
  have c5 := Mem.cell M2.2.2.1 5 rfl
  have c6 := Mem.cell M2.2.2.1 6 rfl
  clear M1 hB1 hb1
  have e0 := Mem.cell M2.1 0 rfl
  have e1 := Mem.cell M2.1 1 rfl
  have e2 := Mem.cell M2.1 2 rfl
  have e3 := Mem.cell M2.1 3 rfl
  have e4 := Mem.cell M2.1 4 rfl
  have e5 := Mem.cell M2.1 5 rfl
  have e6 := Mem.cell M2.1 6 rfl
  have hco := cell_other (b := w.heap.size) (b' := w.heap.size + 1 + 1) (by omega)
  go_wp2_with fail
  go_region_held3 (fun w' => w'.cell? ⟨w.heap.size, 0, none⟩ = some (.bool f) ∧ w'.cell? ⟨w.heap.size, 1, none⟩ = some (.int .i64 k) ∧ w'.cell? ⟨w.heap.size, 2, none⟩ = some (.int .i64 n) ∧ w'.cell? ⟨w.heap.size, 3, none⟩ = some (.string m) ∧ w'.cell? ⟨w.heap.size, 4, none⟩ = some (.string s) ∧ w'.cell? ⟨w.heap.size, 5, none⟩ = some (.string i) ∧ w'.cell? ⟨w.heap.size, 6, none⟩ = some v)
    (go_keep)
    (first
      | (go_at_call 19; (with_reducible refine (cloneQ q v _ (HQ.out _ (below_dr hB2)) hlen).mono ?_); rintro e w2 ⟨v1, rfl, hown, hb2⟩; obtain ⟨ao2, cap2, rfl⟩ := QAt.slice hown.at; have hc2 := (fun o => hb2.cell (p := ⟨w.heap.size, o, none⟩) (by simp; omega)); have hd2 := (fun o => hb2.cell (p := ⟨w.heap.size + 1 + 1, o, none⟩) (by simp; omega)); have hf2 := (fun o => hb2.frozen (p := ⟨w.heap.size + 1 + 1, o, none⟩) (by simp; omega)))
      | (fail))
  have M3 := (Mem.drew M2).below hb2
  obtain ⟨W3, hW3⟩ : ∃ W3, W3 = w2.setCells (w.heap.size + 1 + 1) 0 [.bool f, .int .i64 k, .int .i64 n, .string m, .string s, .string i, .slice ao2 q.length cap2] := ⟨_, rfl⟩
  have hX := set_block M3.1 [.bool f, .int .i64 k, .int .i64 n, .string m, .string s, .string i, .slice ao2 q.length cap2] rfl
  have hY := below_setCells (B := w.heap.size) ((below_dr hB2).trans (hb2.mono (by simp; omega))) (b := w.heap.size + 1 + 1) (by omega) 0 [.bool f, .int .i64 k, .int .i64 n, .string m, .string s, .string i, .slice ao2 q.length cap2]
  have hZ := OwnQ.low (B := w.heap.size) (own_set hown (b := w.heap.size + 1 + 1) (by simp; omega) [.bool f, .int .i64 k, .int .i64 n, .string m, .string s, .string i, .slice ao2 q.length cap2] 0) (by simp; omega)
  rw [← hW3] at hX hY hZ
  refine at_world hW3 ?_
  have k0 := Mem.cell hX 0 rfl
  have k1 := Mem.cell hX 1 rfl
  have k2 := Mem.cell hX 2 rfl
  have k3 := Mem.cell hX 3 rfl
  have k4 := Mem.cell hX 4 rfl
  have k5 := Mem.cell hX 5 rfl
  have k6 := Mem.cell hX 6 rfl
  have HY := Lib.hid hY
  have HZ2 := Lib.hid hZ
  clear hX hY hZ hW3 hco hc2 hd2 hf2 hb2 hown M2 M3
  go_wp2_with fail
  refine bodyPost_ret (v := .tuple #[.agg #[.bool f, .int .i64 k, .int .i64 n, .string m, .string s, .string i, .slice ao2 q.length cap2], .bool false]) (by simp [results, Tryd.results13, go_sem, k0, k1, k2, k3, k4, k5, k6]) rfl ⟨_, rfl, HZ2.out, HY.out⟩
end Go.Proofs.YtdpmilffadalkaaDoor
