-- by rowgen.py (wip/)
import Derived.Test.YtdcfcpgpbbgceaaGreatDoorPAllx18p
namespace Go.Proofs.YtdcfcpgpbbgceaaGreatDoor.RPricesParse
open Go.RowKit Go.Proofs.YtdcfcpgpbbgceaaGreatDoorW.PrintWords Go.Proofs.YtdcfcpgpbbgceaaGreatDoorW.PrintLast Go.Proofs.YtdcfcpgpbbgceaaGreatDoor.PAll
def g9 (x : ByteArray) : Prop := x.size ≤ maxLen
def g31 (l : List ByteArray) : Prop := ∀ x ∈ l, g9 x
def PricesParse.Pure : Prop := ∀ x0 : ByteArray, ∀ x1 : (List ByteArray), g9 x0 → g31 x1 → ∃ k, emendatelaw34_PricesParse.f k x0 x1 = some true
end Go.Proofs.YtdcfcpgpbbgceaaGreatDoor.RPricesParse
