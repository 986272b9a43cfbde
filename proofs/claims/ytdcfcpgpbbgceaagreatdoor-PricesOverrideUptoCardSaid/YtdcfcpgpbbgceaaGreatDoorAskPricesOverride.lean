-- by rowgen.py (wip/)
import Derived.Test.YtdcfcpgpbbgceaaGreatDoorPAllx22d
namespace Go.Proofs.YtdcfcpgpbbgceaaGreatDoor.RPricesOverride
open Go.RowKit Go.Proofs.YtdcfcpgpbbgceaaGreatDoorW.PrintWords Go.Proofs.YtdcfcpgpbbgceaaGreatDoorW.PrintLast Go.Proofs.YtdcfcpgpbbgceaaGreatDoor.PAll
def g9 (x : ByteArray) : Prop := x.size ≤ maxLen
def g41 (x : Int) : Prop := (Lit.int .u16 x).wf = true
def PricesOverride.Pure : Prop := ∀ x0 : ByteArray, ∀ x1 : Int, ∀ x2 : Int, x0.size ≤ 1048576 → g41 x1 → g41 x2 → ∃ k, emendatelaw34_PricesOverride.f k x0 x1 x2 = some true
end Go.Proofs.YtdcfcpgpbbgceaaGreatDoor.RPricesOverride
