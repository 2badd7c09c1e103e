/- slices.Insert of one name, by the library's contracts. -/
import Derived.Test.YtlkgcidhhngfeaaGreatDoorShelf2
import Derived.Test.YtlkgcidhhngfeaaGreatDoorBsS
namespace Go.Proofs.YtlkgcidhhngfeaaGreatDoor
open Go.RowKit Go.Maps
theorem ins_f : Tryz.lx_ins_ren.f 22 = 34 := rfl
theorem ins_t : Tryz.lx_ins_ren.t 9 = 9 := rfl
theorem one_strs (L : List ByteArray) : ∀ u ∈ L.map Value.string, u.oneCell' = true := by
  intro u hu
  obtain ⟨s, _, rfl⟩ := List.mem_map.1 hu
  rfl
/-- two runs of cells laid into a list, the one behind the other's place -/
theorem lay_two {α : Type} (xs : List α) (n i : Nat) (hi : i ≤ n) (hn : n + 1 ≤ xs.length) (y : α) :
    ((xs.take (i + 1) ++ (xs.take n).drop i ++ xs.drop (i + 1 + ((xs.take n).drop i).length)).take i ++ [y] ++ (xs.take (i + 1) ++ (xs.take n).drop i ++ xs.drop (i + 1 + ((xs.take n).drop i).length)).drop (i + [y].length)).take (n + 1) = (xs.take n).take i ++ y :: (xs.take n).drop i := by
  have hl : ((xs.take n).drop i).length = n - i := by rw [List.length_drop, List.length_take]; omega
  refine List.ext_getElem? fun j => ?_
  simp only [List.getElem?_take, List.getElem?_append, List.length_append, List.length_take, List.length_drop, List.getElem?_drop, List.length_cons, List.length_nil, List.getElem?_cons]
  repeat' split
  all_goals first
    | rfl
    | omega
    | (congr 1; omega)
    | (exfalso; omega)
    | (rw [List.getElem?_eq_none]; (first | omega | (simp; omega)))
    | (symm; rw [List.getElem?_eq_none]; (first | omega | (simp; omega)))
    | (simp; done)
/-- what one more name leaves -/
def InsEnds (w : World) (v : Value) (M : List ByteArray) (e : Ending) (w' : World) : Prop :=
  ∃ v', e = .returned v' ∧ Hid (w'.ownsRow 0 9 1 v' M.length (M.map .string)) ∧ (v'.ownBlock = v.ownBlock ∨ v'.ownBlock = some w.heap.size) ∧ (v'.ownBlock ≠ none) ∧ KF (fun b => v.ownBlock = some b) w w'
theorem below_dal (w : World) (o : Obj) : Below w.heap.size w (w.drew.alloc o) := (Below.refl w.heap.size w).drew.alloc (Nat.le_refl _) o
theorem lay_three {α : Type} (A D : List α) (i n : Nat) (y : α) (hi : i ≤ A.length) (hD : D.length + i = n) :
    ((A.take i ++ [y] ++ A.drop (i + [y].length)).take (i + 1) ++ D ++ (A.take i ++ [y] ++ A.drop (i + [y].length)).drop (i + 1 + D.length)).take (n + 1) = A.take i ++ y :: D := by
  have hl : (A.take i ++ [y]).length = i + 1 := by rw [List.length_append, List.length_take, List.length_singleton]; omega
  have e1 : (A.take i ++ [y] ++ A.drop (i + [y].length)).take (i + 1) = A.take i ++ [y] := by rw [← hl]; exact List.take_left
  rw [e1]
  have h2 : (A.take i ++ [y] ++ D).length = n + 1 := by rw [List.length_append, hl]; omega
  rw [← h2, List.take_left, List.append_assoc]
  rfl
theorem take_end {α : Type} {A : List α} {n : Nat} (Z : List α) (y : α) (h : A.length = n) : (A ++ y :: Z).take (n + 1) = A.take n ++ y :: A.drop n := by
  subst h
  have e : A ++ y :: Z = (A ++ [y]) ++ Z := by simp
  rw [e, List.take_append_of_le_length (by simp), List.take_of_length_le (by simp), List.take_of_length_le (Nat.le_refl _), List.drop_of_length_le (Nat.le_refl _)]
theorem kf_drew (F : Nat → Prop) (w : World) : KF F w w.drew := ⟨rfl, rfl, rfl, Nat.le_refl _, fun _ _ _ => rfl⟩
theorem row_of_block {w' : World} {g cap n : Nat} {cur : Array Value} {xs : List Value} (hg : w'.heap[g]? = some (.cells cur 9)) (h1 : n ≤ cap) (h2 : cap ≤ maxLen) (h3 : cur.size = cap) (h4 : cur.toList.take n = xs) (hx : xs.length = n) : w'.ownsRow 0 9 1 (.slice (some ⟨g, 0, none⟩) n cap) n xs :=
  ⟨by omega, .inr ⟨g, cap, cur, rfl, Nat.zero_le _, hg, h1, h2, by omega, by rw [Nat.mul_one]; exact h4⟩⟩
theorem alloc_drew (w : World) (o : Obj) : w.drew.alloc o = (w.alloc o).drew := rfl
theorem map_ins (L : List ByteArray) (i : Nat) (key : ByteArray) : (L.take i ++ key :: L.drop i).map Value.string = (L.map Value.string).take i ++ .string key :: (L.map Value.string).drop i := by
  rw [List.map_append, List.map_cons, List.map_take, List.map_drop]
theorem len_ins (L : List ByteArray) (i : Nat) (hi : i ≤ L.length) (key : ByteArray) : (L.take i ++ key :: L.drop i).length = L.length + 1 := by
  rw [List.length_append, List.length_cons, List.length_take, List.length_drop]
  omega
theorem zero_size (n : Nat) : (Builtin.zeroCells (Value.string ⟨#[]⟩).cells n).size = n := by simp [size_zeroCells, Value.cells]
set_option maxRecDepth 100000 in
theorem insert_any (L : List ByteArray) (i : Nat) (hi : i ≤ L.length) (key : ByteArray) (v : Value) (gb : Nat) (w : World) (hr : w.ownsRow 0 9 1 v L.length (L.map .string)) (hb : w.heap[gb]? = some (.cells #[.string key] 9)) (hne : ∀ b, v.ownBlock = some b → gb ≠ b) (hlen : L.length ≤ 1000000) :
    Calls Tryz.prog 34 #[v, .int .i64 (i : Int), .slice (some ⟨gb, 0, none⟩) 1 1] w (InsEnds w v (L.take i ++ key :: L.drop i)) := by
  have hll := len_ins L i hi key
  have hgb : gb < w.heap.size := (Array.getElem?_eq_some_iff.1 hb).1
  have hvs : ∀ j u, [Value.string key][j]? = some u → w.cell? ⟨gb, 0 + j, none⟩ = some u := fun j u hj => by
    match j, hj with
    | 0, hj =>
      simp at hj
      subst hj
      simp [World.cell?, hb]
  have h1v : ∀ u ∈ [Value.string key], u.oneCell' = true := fun u hu => by simp at hu; subst hu; rfl
  rcases hr.2 with ⟨rfl, h0⟩ | ⟨g, cap, cur, rfl, _, hg, hc1, hc2, hc3, hc4⟩
  · -- nil
    obtain rfl : L = [] := List.eq_nil_of_length_eq_zero h0
    obtain rfl : i = 0 := by simpa using hi
    refine (Any2.slices_Insert_string_end_grow Tryz.lx_ins none 0 0 gb 0 1 1 [] [.string key] w (by omega) (by omega) (by omega) (by omega) rfl rfl (fun _ => rfl) (fun a ha => by cases ha) hvs h1v).mono ?_
    rintro e w' ⟨rfl, rfl⟩
    rw [ins_t]
    have hcap := grownCap_ge w (0 + 1) 0 9
    have hcm := grownCap_le_maxLen w (0 + 1) 0 9 (by unfold maxLen; omega)
    obtain ⟨G, hG⟩ : ∃ G, G = grownCap w (0 + 1) 0 9 := ⟨_, rfl⟩
    rw [← hG] at hcap hcm ⊢
    refine ⟨_, rfl, Lib.hid (row_of_block (heap_alloc_new w.drew _) hcap hcm ?_ ?_ rfl), .inr rfl, by simp [Value.ownBlock], KF.of_below (below_dal w _)⟩
    · simp [zero_size]; omega
    · simp
  · have hkf : ∀ (o : Nat) (vs : List Value) (W : World), KF (fun b => (Value.slice (some ⟨g, 0, none⟩) L.length cap).ownBlock = some b) w W → KF (fun b => (Value.slice (some ⟨g, 0, none⟩) L.length cap).ownBlock = some b) w (W.setCells g o vs) := fun o vs W h => kf_setCells h (.inl rfl) o vs
    rw [Nat.mul_one] at hc3 hc4
    have hcs : ∀ j u, (L.map Value.string)[j]? = some u → w.cell? ⟨g, 0 + j, none⟩ = some u := fun j u hj => by
      rw [← hc4, List.getElem?_take] at hj
      split at hj
      · rw [Nat.zero_add]
        simp only [World.cell?, hg]
        simpa using hj
      · cases hj
    have hfz : ∀ j, w.frozen? ⟨g, 0 + j, none⟩ = false := fun j => Mem.free hg _
    have hsp : ∀ j, j < cap → (w.cell? ⟨g, 0 + j, none⟩).isSome = true := fun j hj => by
      rw [Nat.zero_add]
      have : j < cur.size := by omega
      simp only [World.cell?, hg]
      simp [this]
    by_cases hroom : L.length + 1 ≤ cap
    · by_cases he : i = L.length
      · -- room, at the end
        subst he
        refine (Any2.slices_Insert_string_end_room Tryz.lx_ins g 0 L.length cap gb 0 1 1 [.string key] w (by omega) hroom (by unfold maxLen at hc2; omega) rfl (fun j hj => by rw [show 0 + L.length + j = 0 + (L.length + j) by omega]; exact hsp _ (by omega)) (fun j _ => by rw [show 0 + L.length + j = 0 + (L.length + j) by omega]; exact hfz _) hvs h1v).mono ?_
        rintro e w' ⟨rfl, rfl⟩
        rw [Nat.zero_add]
        refine ⟨_, rfl, Lib.hid ?_, .inl rfl, by simp [Value.ownBlock], hkf _ _ _ (KF.refl _ w)⟩
        rw [hll]
        refine row_of_block (setCells_block [.string key] L.length w cur hg (by simp; omega)) hroom hc2 (by simp; omega) ?_ (by rw [List.length_map, hll])
        rw [map_ins, ← hc4]
        simp only [List.length_cons, List.length_nil]
        rw [List.take_append_of_le_length (by simp; omega), List.take_of_length_le (by simp; omega)]
        simp [List.take_take]
      · -- room, in the midst
        have hlt : i < L.length := by omega
        refine (Any2.slices_Insert_string_shift Tryz.lx_ins g 0 L.length cap i gb 0 1 1 (L.map .string) [.string key] w hlt (by omega) hroom (by unfold maxLen at hc2; omega) (hne g rfl) (by rw [List.length_map]) rfl hcs (fun j hj => hsp j (by omega)) (fun j _ => hfz j) hvs (one_strs L) h1v 9 9 1 cap (by simp [World.shape?, hb]) (by simp [World.shape?, hg, hc3]) (by omega) (Mem.free hb _) (Mem.free hb _)).mono ?_
        rintro e w' ⟨rfl, rfl⟩
        simp only [Nat.zero_add]
        refine ⟨_, rfl, Lib.hid ?_, .inl rfl, by simp [Value.ownBlock], hkf _ _ _ (hkf _ _ _ (kf_drew _ w))⟩
        rw [hll]
        have hd : ((L.map Value.string).drop i).length = L.length - i := by rw [List.length_drop, List.length_map]
        have b1 := setCells_block ((L.map Value.string).drop i) (i + 1) w.drew cur hg (by rw [hd]; omega)
        have b2 := setCells_block [.string key] i _ _ b1 (by simp; omega)
        refine row_of_block b2 hroom hc2 (by simp; omega) ?_ (by rw [List.length_map, hll])
        rw [map_ins, ← hc4]
        exact lay_two cur.toList L.length i (by omega) (by simp; omega) (.string key)
    · have hcn : cap = L.length := by omega
      subst hcn
      have hcap := grownCap_ge w (L.length + 1) L.length 9
      have hcm := grownCap_le_maxLen w (L.length + 1) L.length 9 (by unfold maxLen; omega)
      by_cases he : i = L.length
      · -- no room, at the end
        subst he
        refine (Any2.slices_Insert_string_end_grow Tryz.lx_ins (some ⟨g, 0, none⟩) L.length L.length gb 0 1 1 (L.map .string) [.string key] w (by omega) (by omega) (by omega) (by omega) (by rw [List.length_map]) rfl (fun h => by cases h) (fun a ha j u hj => by cases ha; rw [Addr.add_lit]; exact hcs j u hj) hvs h1v).mono ?_
        rintro e w' ⟨rfl, rfl⟩
        rw [ins_t]
        refine ⟨_, rfl, Lib.hid ?_, .inr rfl, by simp [Value.ownBlock], KF.of_below (below_dal w _)⟩
        rw [hll]
        refine row_of_block (heap_alloc_new w.drew _) hcap hcm ?_ ?_ (by rw [List.length_map, hll])
        · simp [zero_size]; omega
        · rw [map_ins]
          simp only [Array.toList_append, List.append_assoc, List.cons_append, List.nil_append]
          exact take_end _ _ (by rw [List.length_map])
      · have hlt : i < L.length := by omega
        refine (Any2.slices_Insert_string_grow Tryz.lx_ins g 0 L.length L.length i gb 0 1 1 (L.map .string) [.string key] w hlt (by omega) (by omega) (by omega) (by omega) (by rw [List.length_map]) rfl hcs hvs (one_strs L) h1v).mono ?_
        rintro e w' ⟨rfl, hw'⟩
        rw [ins_t] at hw' ⊢
        obtain ⟨G, hG⟩ : ∃ G, G = grownCap w (L.length + 1) L.length 9 := ⟨_, rfl⟩
        rw [← hG] at hw' hcap hcm ⊢
        have b0 := heap_alloc_new w (.cells (((L.map Value.string).take i).toArray ++ Builtin.zeroCells (Value.string ⟨#[]⟩).cells (L.length + 1 - i) ++ Builtin.zeroCells (Value.string ⟨#[]⟩).cells (G - (L.length + 1))) 9)
        have hsz : (((L.map Value.string).take i).toArray ++ Builtin.zeroCells (Value.string ⟨#[]⟩).cells (L.length + 1 - i) ++ Builtin.zeroCells (Value.string ⟨#[]⟩).cells (G - (L.length + 1))).size = G := by simp [zero_size]; omega
        obtain ⟨A, hA⟩ : ∃ A, A = ((L.map Value.string).take i).toArray ++ Builtin.zeroCells (Value.string ⟨#[]⟩).cells (L.length + 1 - i) ++ Builtin.zeroCells (Value.string ⟨#[]⟩).cells (G - (L.length + 1)) := ⟨_, rfl⟩
        rw [← hA] at b0 hsz hw'
        have hd : ((L.map Value.string).drop i).length = L.length - i := by rw [List.length_drop, List.length_map]
        have b1 := setCells_block [.string key] i (w.alloc (.cells A 9)).drew A b0 (by rw [hsz]; simp; omega)
        have b2 := setCells_block ((L.map Value.string).drop i) (i + 1) ((w.alloc (.cells A 9)).drew.setCells w.heap.size i [.string key]).drew _ b1 (by simp; omega)
        subst hw'
        refine ⟨_, rfl, Lib.hid ?_, .inr rfl, by simp [Value.ownBlock], ?_⟩
        · rw [hll]
          refine row_of_block b2 hcap hcm (by simp; omega) ?_ (by rw [List.length_map, hll])
          rw [map_ins]
          have e1 : A.toList.take i = (L.map Value.string).take i := by
            rw [hA]
            simp only [Array.toList_append, List.append_assoc]
            rw [List.take_append_of_le_length (by rw [List.length_take, List.length_map]; omega)]
            first
              | rw [List.take_take, Nat.min_self]
              | rw [List.toList_toArray, List.take_take, Nat.min_self]
          have e2 := lay_three A.toList ((L.map Value.string).drop i) i L.length (.string key) (by simp; omega) (by omega)
          rw [← e1]
          exact e2
        · have k1 : KF (fun b => (Value.slice (some ⟨g, 0, none⟩) L.length L.length).ownBlock = some b) w (w.alloc (.cells A 9)) := kf_al (KF.refl _ w) _
          exact kf_setCells (kf_dr (kf_setCells (kf_dr k1) (.inr (Nat.le_refl _)) _ _)) (.inr (Nat.le_refl _)) _ _
end Go.Proofs.YtlkgcidhhngfeaaGreatDoor
