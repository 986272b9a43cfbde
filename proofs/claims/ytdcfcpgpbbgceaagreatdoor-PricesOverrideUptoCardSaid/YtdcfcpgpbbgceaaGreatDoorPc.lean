import Derived.Test.YtdcfcpgpbbgceaaGreatDoorPl
import Derived.Test.YtdcfcpgpbbgceaaGreatDoorPAllx3
namespace Go.Proofs.YtdcfcpgpbbgceaaGreatDoor.Pl
open Go.RowKit Go.Proofs.YtdcfcpgpbbgceaaGreatDoorW.PrintWords Go.Proofs.YtdcfcpgpbbgceaaGreatDoorW.PrintLast Go.Proofs.YtdcfcpgpbbgceaaGreatDoor.PAll
open PAll.prices_Parse (goL applyP zeroP PT)
set_option linter.unusedVariables false
set_option linter.unusedSimpArgs false
def T3 : List ByteArray := [⟨#[97]⟩, ⟨#[98]⟩, ⟨#[99]⟩]
def D3 : PT := ([10, 10, 10], [10, 10, 10], [[0, 15, 15], [15, 0, 15], [15, 15, 0]], 12, 8)
theorem names3 : prices_names.f 100 T3 = some true := by kernel_rfl
theorem def3 : prices_Default.f 100 3 = some D3 := by kernel_rfl
def fl (r : PT × Int × Int) : List Int × List Int × (List (List Int)) × Int × Int × Int × Int := (r.1.1, r.1.2.1, r.1.2.2.1, r.1.2.2.2.1, r.1.2.2.2.2, r.2.1, r.2.2)
theorem parse3 (s : ByteArray) (h : s.size ≤ 2000000) : Ev (fun k => prices_Parse.f k s T3) (fl (goB T3 (splitL 10 s.data.toList) 0 D3)) :=
  Ev.of (fun k => prices_Parse.mono _ _ k) (parse_goB 100 s h T3 D3 names3 def3 (by kernel_rfl))
theorem bt_at (s : ByteArray) (i : Nat) (h : i < s.size) : bt s (i : Int) = ((s.data.toList[i]'h).toNat : Int) := by
  unfold bt
  rw [dif_pos (by simpa using h)]
  rfl
theorem toList_append (a b : ByteArray) : (a ++ b).data.toList = a.data.toList ++ b.data.toList := by simp [ByteArray.data_append]
end Go.Proofs.YtdcfcpgpbbgceaaGreatDoor.Pl
