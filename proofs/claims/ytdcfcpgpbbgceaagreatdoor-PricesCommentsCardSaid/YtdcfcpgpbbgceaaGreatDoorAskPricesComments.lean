-- by rowgen.py (wip/)
import Derived.Test.YtdcfcpgpbbgceaaGreatDoorPAllx21
namespace Go.Proofs.YtdcfcpgpbbgceaaGreatDoor.RPricesComments
open Go.RowKit Go.Proofs.YtdcfcpgpbbgceaaGreatDoorW.PrintWords Go.Proofs.YtdcfcpgpbbgceaaGreatDoorW.PrintLast Go.Proofs.YtdcfcpgpbbgceaaGreatDoor.PAll
def g9 (x : ByteArray) : Prop := x.size ≤ maxLen
def PricesComments.Pure : Prop := ∀ x0 : ByteArray, ∀ x1 : ByteArray, g9 x0 → g9 x1 → ∃ k, emendatelaw34_PricesComments.f k x0 x1 = some true
end Go.Proofs.YtdcfcpgpbbgceaaGreatDoor.RPricesComments
