/- The walks of the store's laws, as the cards ask for them. -/
import Derived.Test.YtlkgcidhhngfeaaGreatDoorWStoreHides
namespace Go.Proofs.YtlkgcidhhngfeaaGreatDoor
open Go.RowKit Go.Maps
theorem storeApart_walk (v : Value) (l : List Ac) (id : Int) (o1 : Ox) (x : OB) (o2 : Ox) (y : OB) (SS II : ByteArray) (hid : 0 ≤ id ∧ id ≤ 255) (_ : SS.size ≤ 140737488351232 ∧ II.size ≤ 140737488351232) (w : World) (hl : AcAt w v l) (hx : ObIn w (fun b => b < w.heap.size) (.agg (ox o1)) x) (hy : ObIn w (fun b => b < w.heap.size) (.agg (ox o2)) y) (hw : Laid w) :
    Calls Tryz.prog 3 #[v, .int .u8 id, .agg (ox o1), .agg (ox o2), .agg #[.string SS, .string II]] w fun e w' => e = .returned (.bool true) ∧ Below w.heap.size w w' :=
  storeApart_raw v l id hid.1 hid.2 o1 o2 x y SS II w hl hx hy hw
theorem storeHides_walk (v : Value) (l : List Ac) (SS II TT JJ : ByteArray) (_ : SS.size ≤ 140737488351232 ∧ II.size ≤ 140737488351232) (_ : TT.size ≤ 140737488351232 ∧ JJ.size ≤ 140737488351232) (w : World) (hl : AcAt w v l) (hw : Laid w) :
    Calls Tryz.prog 5 #[v, .agg #[.string SS, .string II], .agg #[.string TT, .string JJ]] w fun e w' => e = .returned (.bool true) ∧ Below w.heap.size w w' :=
  storeHides_raw v l SS II TT JJ w hl hw
end Go.Proofs.YtlkgcidhhngfeaaGreatDoor
