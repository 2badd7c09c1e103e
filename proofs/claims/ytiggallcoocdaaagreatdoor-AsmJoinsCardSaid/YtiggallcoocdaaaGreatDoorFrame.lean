/- What the rows' listed variables give, and a world that holds them. -/
import Derived.Test.YtiggallcoocdaaaGreatDoorCards
import Derived.Test.YtiggallcoocdaaaGreatDoorLaid
import Derived.LaidLaws
import Derived.Stop.LaidErr
import Derived.SizedLaws
import Derived.ProofKit
import Derived.OpenShut
import Derived.Deep.DeepHandedRow
import Derived.Deep.DeepLaidRun
import Derived.Lib.SmallJoins
import Derived.Test.YtiggallcoocdaaaGreatDoorOpRows
import Derived.Test.YtiggallcoocdaaaGreatDoorImA
import Derived.Test.YtiggallcoocdaaaGreatDoorValA
import Derived.Test.YtiggallcoocdaaaGreatDoorZ4
namespace Go.Proofs.YtiggallcoocdaaaGreatDoor
open Go.ChangeShapes Go.WideShapes Go.ChangeAt Go.RowKit Go.Joins Go.Deep
theorem own : ownKnob Tryz.prog.godebug = none := by kernel_rfl
def laidList : List (String × DataW Unit) := [("math/bits.deBruijn32tab", Rows.laid_math_bits_deBruijn32tab), ("math/bits.deBruijn64tab", Rows.laid_math_bits_deBruijn64tab), ("internal/strconv.uint64pow10", Rows.laid_internal_strconv_uint64pow10), ("unicode/utf8.acceptRanges", Rows.laid_unicode_utf8_acceptRanges), ("strconv.ErrRange", Rows.laid_strconv_ErrRange), ("strconv.ErrSyntax", Rows.laid_strconv_ErrSyntax), ("lazaretto/op.table", Rows.laid_lazaretto_op_table), ("lazaretto/prin.letters", Rows.laid_lazaretto_prin_letters), ("unicode/utf8.first", Rows.laid_unicode_utf8_first)]
theorem gSynType : (Tryz.prog.globals[6]?).map (·.type) = some 78 := by kernel_rfl
theorem starSyn : "*" ++ "errors.errorString" = "*errors.errorString" := by decide
theorem rowSyn (u : TypeId) (h : Tryz.prog.typeName? 3 u = some "*errors.errorString") : u = 188 :=
  typeName_ptr_named (nm := "errors.errorString") (by rw [starSyn]; kernel_rfl) (by kernel_rfl) (by decide) u (by rw [starSyn]; exact h)
theorem laid_syn {W : World} (h : laidMet Tryz.prog laidList W) : ∃ tp p, W.var? Tryz.prog "strconv.ErrSyntax" = some #[.iface tp p] := by
  obtain ⟨a, s, hv, -, -, -⟩ := laid_sentinel h.tail.tail.tail.tail.tail gSyn gSynType Tryz.underlying78 rowSyn Tryz.underlying188 Tryz.underlying190 rfl rfl Tryz.underlying9 (by kernel_rfl) (by kernel_rfl)
  exact ⟨_, _, hv⟩
theorem gRanType : (Tryz.prog.globals[7]?).map (·.type) = some 78 := by kernel_rfl
theorem starRan : "*" ++ "errors.errorString" = "*errors.errorString" := by decide
theorem rowRan (u : TypeId) (h : Tryz.prog.typeName? 3 u = some "*errors.errorString") : u = 188 :=
  typeName_ptr_named (nm := "errors.errorString") (by rw [starRan]; kernel_rfl) (by kernel_rfl) (by decide) u (by rw [starRan]; exact h)
theorem laid_ran {W : World} (h : laidMet Tryz.prog laidList W) : ∃ tp p, W.var? Tryz.prog "strconv.ErrRange" = some #[.iface tp p] := by
  obtain ⟨a, s, hv, -, -, -⟩ := laid_sentinel h.tail.tail.tail.tail gRan gRanType Tryz.underlying78 rowRan Tryz.underlying188 Tryz.underlying190 rfl rfl Tryz.underlying9 (by kernel_rfl) (by kernel_rfl)
  exact ⟨_, _, hv⟩
theorem gPowType : (Tryz.prog.globals[3]?).map (·.type) = some 163 := by kernel_rfl
theorem powCells : Tryz.prog.cellsOf 163 = 20 := by kernel_rfl
theorem u64Cells : Tryz.prog.cellsOf 137 = 1 := by kernel_rfl
theorem powData : (Rows.laid_internal_strconv_uint64pow10 : DataW Unit) = Lib.tabData .u64 Lib.pow10Tab := by kernel_rfl
theorem laid_pow {W : World} (h : laidMet Tryz.prog laidList W) : Lib.TabIs Tryz.prog W "internal/strconv.uint64pow10" .u64 Lib.pow10Tab := by
  have h1 := h.tail.tail
  rw [powData] at h1
  exact Lib.tabIs_of_head gPow gPowType Tryz.underlying163 Tryz.underlying137 u64Cells powCells h1
theorem gLetters : Tryz.prog.globalNamed "lazaretto/prin.letters" = some 2 := by kernel_rfl
theorem gLettersType : (Tryz.prog.globals[2]?).map (·.type) = some 147 := by kernel_rfl
theorem letterCells : Tryz.prog.cellsOf 147 = 6 := by kernel_rfl
theorem u8Cells : Tryz.prog.cellsOf 5 = 1 := by kernel_rfl
theorem letterData : (Rows.laid_lazaretto_prin_letters : DataW Unit) = Lib.tabData .u8 [97, 98, 99, 100, 101, 102] := by kernel_rfl
theorem laid_letters {W : World} (h : laidMet Tryz.prog laidList W) : Letters W := by
  have h1 := h.tail.tail.tail.tail.tail.tail.tail
  rw [letterData] at h1
  have h2 := Lib.tabIs_of_head gLetters gLettersType Tryz.underlying147 Tryz.underlying5 u8Cells letterCells h1
  exact letters_of h2
theorem tabData : (Rows.laid_lazaretto_op_table : DataW Unit) = .agg (opRows.map rowData) := by kernel_rfl
theorem gTabType : (Tryz.prog.globals[0]?).map (·.type) = some 123 := by kernel_rfl
theorem laid_tab {W : World} (h : laidMet Tryz.prog laidList W) : OpTab W := by
  have h1 := h.tail.tail.tail.tail.tail.tail
  rw [tabData] at h1
  obtain ⟨ps, ⟨g', t', cs, fuel, p, q, hg', ht', hvar, hd, _, _⟩, _⟩ := h1
  obtain rfl := Option.some.inj (gTab.symm.trans hg')
  obtain rfl := Option.some.inj (gTabType.symm.trans ht')
  unfold OpTab tabCells
  rw [hvar, ← cells_of_rows Tryz.underlying123 Tryz.underlying122 (by kernel_rfl) (by kernel_rfl) (by kernel_rfl) Tryz.underlying9 Tryz.underlying5 Tryz.underlying5 Tryz.underlying5 hd]
theorem maxLen_of {W : World} (hs : W.ShapedOpen Tryz.prog) : MaxLenAt W :=
  cell_of_shapedOpen_int (zero := #[.int .i64 0]) hs (by decide +kernel) (by kernel_rfl) rfl (by kernel_rfl) (by kernel_rfl) Tryz.underlying3
theorem laid_of {W : World} (hs : W.ShapedOpen Tryz.prog) (h : laidMetH Tryz.prog laidList W) : LaidI W :=
  ⟨⟨⟨laid_pow h, laid_syn h, laid_ran h⟩, laid_letters h⟩, ⟨⟨laid_pow h, laid_syn h, laid_ran h⟩, laid_tab h, maxLen_of hs⟩⟩
noncomputable def low : Nat := (World.holding Tryz.prog default ⟨#[], #[], []⟩).heap.size
noncomputable def laidWorld (os : Os) : World :=
  let w0 := World.holding Tryz.prog os ⟨#[.cells #[.string ⟨#[118, 97, 108, 117, 101, 32, 111, 117, 116, 32, 111, 102, 32, 114, 97, 110, 103, 101]⟩] 190, .cells #[.string ⟨#[105, 110, 118, 97, 108, 105, 100, 32, 115, 121, 110, 116, 97, 120]⟩] 190], #[], []⟩
  let put (h : Array Obj) (g : Nat) (cs : Array Value) : Array Obj := h.modify g fun
    | .cells _ t frozen => .cells cs t frozen
    | o => o
  { w0 with heap := put (put (put (put (put (put (put (put (put (w0.heap) 8 #[.int .u8 0, .int .u8 1, .int .u8 28, .int .u8 2, .int .u8 29, .int .u8 14, .int .u8 24, .int .u8 3, .int .u8 30, .int .u8 22, .int .u8 20, .int .u8 15, .int .u8 25, .int .u8 17, .int .u8 4, .int .u8 8, .int .u8 31, .int .u8 27, .int .u8 13, .int .u8 23, .int .u8 21, .int .u8 19, .int .u8 16, .int .u8 7, .int .u8 26, .int .u8 12, .int .u8 18, .int .u8 6, .int .u8 11, .int .u8 5, .int .u8 10, .int .u8 9]) 9 #[.int .u8 0, .int .u8 1, .int .u8 56, .int .u8 2, .int .u8 57, .int .u8 49, .int .u8 28, .int .u8 3, .int .u8 61, .int .u8 58, .int .u8 42, .int .u8 50, .int .u8 38, .int .u8 29, .int .u8 17, .int .u8 4, .int .u8 62, .int .u8 47, .int .u8 59, .int .u8 36, .int .u8 45, .int .u8 43, .int .u8 51, .int .u8 22, .int .u8 53, .int .u8 39, .int .u8 33, .int .u8 30, .int .u8 24, .int .u8 18, .int .u8 12, .int .u8 5, .int .u8 63, .int .u8 55, .int .u8 48, .int .u8 27, .int .u8 60, .int .u8 41, .int .u8 37, .int .u8 16, .int .u8 46, .int .u8 35, .int .u8 44, .int .u8 21, .int .u8 52, .int .u8 32, .int .u8 23, .int .u8 11, .int .u8 54, .int .u8 26, .int .u8 40, .int .u8 15, .int .u8 34, .int .u8 20, .int .u8 31, .int .u8 10, .int .u8 25, .int .u8 14, .int .u8 19, .int .u8 9, .int .u8 13, .int .u8 8, .int .u8 7, .int .u8 6]) 3 #[.int .u64 1, .int .u64 10, .int .u64 100, .int .u64 1000, .int .u64 10000, .int .u64 100000, .int .u64 1000000, .int .u64 10000000, .int .u64 100000000, .int .u64 1000000000, .int .u64 10000000000, .int .u64 100000000000, .int .u64 1000000000000, .int .u64 10000000000000, .int .u64 100000000000000, .int .u64 1000000000000000, .int .u64 10000000000000000, .int .u64 100000000000000000, .int .u64 1000000000000000000, .int .u64 10000000000000000000]) 5 #[.int .u8 128, .int .u8 191, .int .u8 160, .int .u8 191, .int .u8 128, .int .u8 159, .int .u8 144, .int .u8 191, .int .u8 128, .int .u8 143, .int .u8 0, .int .u8 0, .int .u8 0, .int .u8 0, .int .u8 0, .int .u8 0, .int .u8 0, .int .u8 0, .int .u8 0, .int .u8 0, .int .u8 0, .int .u8 0, .int .u8 0, .int .u8 0, .int .u8 0, .int .u8 0, .int .u8 0, .int .u8 0, .int .u8 0, .int .u8 0, .int .u8 0, .int .u8 0]) 7 #[.iface 188 (.pointer (some ⟨low + 0, 0, none⟩))]) 6 #[.iface 188 (.pointer (some ⟨low + 1, 0, none⟩))]) 0 #[.string ⟨#[112, 117, 115, 104]⟩, .int .u8 1, .int .u8 0, .int .u8 1, .string ⟨#[108, 111, 97, 100]⟩, .int .u8 2, .int .u8 0, .int .u8 1, .string ⟨#[115, 116, 111, 114, 101]⟩, .int .u8 2, .int .u8 1, .int .u8 0, .string ⟨#[112, 111, 112]⟩, .int .u8 0, .int .u8 1, .int .u8 0, .string ⟨#[100, 117, 112]⟩, .int .u8 0, .int .u8 1, .int .u8 2, .string ⟨#[115, 119, 97, 112]⟩, .int .u8 0, .int .u8 2, .int .u8 2, .string ⟨#[97, 100, 100]⟩, .int .u8 0, .int .u8 2, .int .u8 1, .string ⟨#[115, 117, 98]⟩, .int .u8 0, .int .u8 2, .int .u8 1, .string ⟨#[109, 117, 108]⟩, .int .u8 0, .int .u8 2, .int .u8 1, .string ⟨#[100, 105, 118]⟩, .int .u8 0, .int .u8 2, .int .u8 1, .string ⟨#[114, 101, 109]⟩, .int .u8 0, .int .u8 2, .int .u8 1, .string ⟨#[101, 113]⟩, .int .u8 0, .int .u8 2, .int .u8 1, .string ⟨#[108, 116]⟩, .int .u8 0, .int .u8 2, .int .u8 1, .string ⟨#[110, 111, 116]⟩, .int .u8 0, .int .u8 1, .int .u8 1, .string ⟨#[106, 117, 109, 112]⟩, .int .u8 3, .int .u8 0, .int .u8 0, .string ⟨#[105, 102]⟩, .int .u8 3, .int .u8 1, .int .u8 0, .string ⟨#[99, 97, 108, 108]⟩, .int .u8 4, .int .u8 0, .int .u8 1, .string ⟨#[114, 101, 116]⟩, .int .u8 0, .int .u8 1, .int .u8 0, .string ⟨#[116, 104, 114, 111, 119]⟩, .int .u8 0, .int .u8 1, .int .u8 0, .string ⟨#[116, 114, 121]⟩, .int .u8 3, .int .u8 0, .int .u8 0, .string ⟨#[101, 110, 100]⟩, .int .u8 0, .int .u8 0, .int .u8 0, .string ⟨#[106, 111, 105, 110]⟩, .int .u8 0, .int .u8 2, .int .u8 1, .string ⟨#[109, 101, 101, 116]⟩, .int .u8 0, .int .u8 2, .int .u8 1, .string ⟨#[102, 108, 111, 119, 115]⟩, .int .u8 0, .int .u8 2, .int .u8 1, .string ⟨#[99, 117, 114]⟩, .int .u8 0, .int .u8 0, .int .u8 1, .string ⟨#[99, 108, 114]⟩, .int .u8 0, .int .u8 0, .int .u8 1, .string ⟨#[114, 97, 105, 115, 101]⟩, .int .u8 0, .int .u8 1, .int .u8 0, .string ⟨#[108, 111, 119, 101, 114]⟩, .int .u8 0, .int .u8 1, .int .u8 0, .string ⟨#[98, 111, 120]⟩, .int .u8 0, .int .u8 2, .int .u8 1, .string ⟨#[111, 112, 101, 110]⟩, .int .u8 0, .int .u8 1, .int .u8 1, .string ⟨#[108, 97, 98, 111, 102]⟩, .int .u8 0, .int .u8 1, .int .u8 1, .string ⟨#[114, 101, 102]⟩, .int .u8 0, .int .u8 2, .int .u8 1, .string ⟨#[103, 101, 116]⟩, .int .u8 0, .int .u8 1, .int .u8 1, .string ⟨#[115, 101, 116]⟩, .int .u8 0, .int .u8 2, .int .u8 0, .string ⟨#[118, 97, 114]⟩, .int .u8 0, .int .u8 1, .int .u8 1, .string ⟨#[116, 97, 107, 101]⟩, .int .u8 0, .int .u8 1, .int .u8 1, .string ⟨#[112, 117, 116]⟩, .int .u8 0, .int .u8 2, .int .u8 0, .string ⟨#[102, 111, 114, 107]⟩, .int .u8 4, .int .u8 3, .int .u8 1, .string ⟨#[119, 97, 105, 116]⟩, .int .u8 0, .int .u8 1, .int .u8 1, .string ⟨#[115, 99, 111, 112, 101]⟩, .int .u8 4, .int .u8 4, .int .u8 1, .string ⟨#[111, 117, 116]⟩, .int .u8 0, .int .u8 2, .int .u8 0, .string ⟨#[100, 114, 111, 112]⟩, .int .u8 0, .int .u8 1, .int .u8 0, .string ⟨#[108, 105, 102, 116]⟩, .int .u8 0, .int .u8 1, .int .u8 0, .string ⟨#[108, 101, 115, 115]⟩, .int .u8 5, .int .u8 0, .int .u8 0, .string ⟨#[103, 97, 116, 101]⟩, .int .u8 4, .int .u8 1, .int .u8 1, .string ⟨#[101, 110, 116, 101, 114]⟩, .int .u8 0, .int .u8 2, .int .u8 1, .string ⟨#[111, 119, 110]⟩, .int .u8 0, .int .u8 0, .int .u8 1]) 2 #[.int .u8 97, .int .u8 98, .int .u8 99, .int .u8 100, .int .u8 101, .int .u8 102]) 4 ((Go.Pinned.utf8FirstZ.map fun (n : Nat) => Value.int .u8 (n : Int)).toArray) }
theorem laid_met (os : Os) (args : Array Value) : laidMet Tryz.prog laidList ((laidWorld os).forCall (fun _ _ => 0) ⟨#[], args, []⟩).memory :=
  laidMet_of_run3 10 (by kernel_rfl) (by kernel_rfl) (by kernel_rfl)
end Go.Proofs.YtiggallcoocdaaaGreatDoor
