import Derived.Test.YtdcfcpgpbbgceaaGreatDoorRows
import Derived.Test.YtdcfcpgpbbgceaaGreatDoorGlob
import Derived.Test.YtdcfcpgpbbgceaaGreatDoorShelf
import Derived.Deep.DeepHandedRow
import Derived.Deep.DeepWitnessRowRef
import Derived.Lib.LaidIn
import Derived.Lib.LaidTab
import Derived.Stop.LaidErr
import Derived.ProofKit
namespace Go.Proofs.YtdcfcpgpbbgceaaGreatDoor.PAll
open Go.RowKit
set_option maxRecDepth 100000 in
theorem glob_of {W : World} (hL : laidMet Tryz.prog Rows.pricesValidRow.laid W) (hs : W.ShapedOpen Tryz.prog) : Glob W := by
  refine ⟨Tryz.laysM146.s1_3 W hs, ?_⟩
  have e : (Rows.laid_internal_strconv_uint64pow10 : DataW Unit) = Lib.tabData .u64 Lib.pow10Tab := by kernel_rfl
  have h := hL.tail.tail
  have h' : laidMet Tryz.prog (("internal/strconv.uint64pow10", Lib.tabData .u64 Lib.pow10Tab) :: (Rows.pricesValidRow.laid.drop 3)) W := e ▸ h
  exact Lib.tabIs_of_head (g := 1) (t := 149) (e := 100) (n := 20) (by kernel_rfl) (by kernel_rfl) Tryz.underlying149 Tryz.underlying100 (by kernel_rfl) (by kernel_rfl) h'
def cellsOf8 : DataW Unit → List Value
  | .agg xs => xs.flatMap fun
    | .lit (.int k z) => [Value.int k z]
    | .agg ys => ys.flatMap fun
      | .lit (.int k z) => [Value.int k z]
      | _ => []
    | _ => []
  | _ => []
noncomputable def laidWorld (os : Os) : World :=
  let N := (World.settled Tryz.prog os).heap.size
  let w0 := World.holding Tryz.prog os ⟨#[.cells #[.string ⟨#[118, 97, 108, 117, 101, 32, 111, 117, 116, 32, 111, 102, 32, 114, 97, 110, 103, 101]⟩] 170, .cells #[.string ⟨#[105, 110, 118, 97, 108, 105, 100, 32, 115, 121, 110, 116, 97, 120]⟩] 170], #[], []⟩
  let put (h : Array Obj) (g : Nat) (cs : List Value) : Array Obj := h.modify g fun
    | .cells _ t frozen => .cells cs.toArray t frozen
    | o => o
  let h1 := put w0.heap 6 (cellsOf8 Rows.laid_math_bits_deBruijn32tab)
  let h2 := put h1 7 (cellsOf8 Rows.laid_math_bits_deBruijn64tab)
  let h3 := put h2 1 (cellsOf8 Rows.laid_internal_strconv_uint64pow10)
  let h4 := put h3 3 (cellsOf8 Rows.laid_unicode_utf8_acceptRanges)
  let h5 := put h4 5 [.iface 168 (.pointer (some ⟨N, 0, none⟩))]
  let h6 := put h5 4 [.iface 168 (.pointer (some ⟨N + 1, 0, none⟩))]
  let h7 := put h6 2 (cellsOf8 Rows.laid_unicode_utf8_first)
  { w0 with heap := h7 }
noncomputable abbrev N0 : Nat := (World.settled Tryz.prog default).heap.size
set_option maxRecDepth 1000000 in
theorem laid_in (os : Os) (args : Array Value) : LaidIn Tryz.prog ((laidWorld os).forCall (fun _ _ => 0) ⟨#[], args, []⟩).memory Rows.pricesValidRow.laid [6, 7, 1, 3, 5, N0, 4, N0 + 1, 2] :=
  LaidIn.of_run [6, 7, 1, 3, 5, N0, 4, N0 + 1, 2] 8 (by kernel_rfl) (by kernel_rfl) (by kernel_rfl) (by kernel_rfl)
theorem laid_met (os : Os) (args : Array Value) : laidMet Tryz.prog Rows.pricesValidRow.laid ((laidWorld os).forCall (fun _ _ => 0) ⟨#[], args, []⟩).memory := (laid_in os args).met
end Go.Proofs.YtdcfcpgpbbgceaaGreatDoor.PAll
