import Derived.Test.YtdcfcpgpbbgceaaGreatDoorPAllx7
import Derived.Test.YtdcfcpgpbbgceaaGreatDoorPAllx14
import Derived.Test.YtdcfcpgpbbgceaaGreatDoorPAllx15
import Derived.IntWalk
namespace Go.Proofs.YtdcfcpgpbbgceaaGreatDoor.Pl
open Go.RowKit Go.Proofs.YtdcfcpgpbbgceaaGreatDoorW.PrintWords Go.Proofs.YtdcfcpgpbbgceaaGreatDoorW.PrintLast Go.Proofs.YtdcfcpgpbbgceaaGreatDoor.PAll
open PAll.prices_Parse (idxP idxFrom idxP_rg)
set_option linter.unusedVariables false
set_option linter.unusedSimpArgs false
def letP (v : Int) : Bool := (decide (97 ≤ v) && decide (v ≤ 122)) || (decide (65 ≤ v) && decide (v ≤ 90))
def chrI (v : Int) : Bool := letP v || ((decide (48 ≤ v) && decide (v ≤ 57)) || decide (v = 95))
def chk (s : ByteArray) : Nat → Nat → Bool
  | 0, _ => true
  | n + 1, i => chrI (bt s (i : Int)) && chk s n (i + 1)
def kws : List ByteArray := [⟨#[115, 116, 97, 114, 116]⟩, ⟨#[108, 101, 102, 116]⟩, ⟨#[114, 105, 103, 104, 116]⟩, ⟨#[110, 111, 110, 101]⟩, ⟨#[112, 114, 105, 99, 101]⟩]
def tailOk (s : ByteArray) : Bool := decide (1 ≤ s.size) && (decide (s.size ≤ 24) && decide (idxP kws s = -1))
def nameOk (s : ByteArray) : Bool := tailOk s && (letP (bt s 0) && chk s s.size 0)
def namesGo (l : List ByteArray) : Nat → Nat → Bool
  | 0, _ => true
  | n + 1, i => nameOk (l.getD i ByteArray.empty) && (decide (idxP (l.take i) (l.getD i ByteArray.empty) = -1) && namesGo l n (i + 1))
def namesOk (l : List ByteArray) : Bool := decide (l.length ≤ 120) && namesGo l l.length 0
end Go.Proofs.YtdcfcpgpbbgceaaGreatDoor.Pl
