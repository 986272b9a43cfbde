import Derived.Test.YtdcfcpgpbbgceaaGreatDoorRt
namespace Go.Proofs.YtdcfcpgpbbgceaaGreatDoor.Pl
open Go.RowKit Go.Proofs.YtdcfcpgpbbgceaaGreatDoorW.PrintWords Go.Proofs.YtdcfcpgpbbgceaaGreatDoorW.PrintLast Go.Proofs.YtdcfcpgpbbgceaaGreatDoor.PAll
open PAll.prices_Format (lastB lineB lineL accL kwI kwD kwR kwS kwU gI gD gR gRow fmtB fmtOk)
open PAll.prices_Parse (idxP idxFrom idxP_rg applyP zeroP PT apQ apFin)
open PAll.prices_form (kIns kDel kRep kSwap kUnk kNever sizeK formP)
open PAll.prices_number (numP numVal isDig)
set_option linter.unusedVariables false
set_option linter.unusedSimpArgs false
variable {ts : List ByteArray} {P : PT}
def dI : Nat → Int := fun _ => 10
def dR (a : Nat) : Nat → Int := fun c => if a = c then 0 else 15
end Go.Proofs.YtdcfcpgpbbgceaaGreatDoor.Pl
