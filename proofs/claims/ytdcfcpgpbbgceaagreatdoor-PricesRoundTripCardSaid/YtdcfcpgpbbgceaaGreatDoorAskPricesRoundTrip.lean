-- by rowgen.py (wip/)
import Derived.Test.YtdcfcpgpbbgceaaGreatDoorPAllx20r
namespace Go.Proofs.YtdcfcpgpbbgceaaGreatDoor.RPricesRoundTrip
open Go.RowKit Go.Proofs.YtdcfcpgpbbgceaaGreatDoorW.PrintWords Go.Proofs.YtdcfcpgpbbgceaaGreatDoorW.PrintLast Go.Proofs.YtdcfcpgpbbgceaaGreatDoor.PAll
def g3 (x : Int) : Prop := (Lit.int .i64 x).wf = true
def g22 (l : List Int) : Prop := ∀ x ∈ l, g3 x
def g23 (l : List (List Int)) : Prop := ∀ x ∈ l, g22 x
def g25 (x : S25) : Prop := g22 x.f0 ∧ g22 x.f1 ∧ g23 x.f2 ∧ g3 x.f3 ∧ g3 x.f4
def g9 (x : ByteArray) : Prop := x.size ≤ maxLen
def g31 (l : List ByteArray) : Prop := ∀ x ∈ l, g9 x
def PricesRoundTrip.Pure : Prop := ∀ x0 : S25, ∀ x1 : (List ByteArray), ∀ x2 : ByteArray, g25 x0 → g31 x1 → g9 x2 → ∃ k, emendatelaw34_PricesRoundTrip.f k x0.f0 x0.f1 x0.f2 x0.f3 x0.f4 x1 x2 = some true
end Go.Proofs.YtdcfcpgpbbgceaaGreatDoor.RPricesRoundTrip
