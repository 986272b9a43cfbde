import Derived.Test.YtdcfcpgpbbgceaaGreatDoorVk
import Derived.Test.YtdcfcpgpbbgceaaGreatDoorNm
import Derived.Test.YtdcfcpgpbbgceaaGreatDoorPAllx8
import Derived.Test.YtdcfcpgpbbgceaaGreatDoorPAllx0
namespace Go.Proofs.YtdcfcpgpbbgceaaGreatDoor.Pl
open Go.RowKit Go.Proofs.YtdcfcpgpbbgceaaGreatDoorW.PrintWords Go.Proofs.YtdcfcpgpbbgceaaGreatDoorW.PrintLast Go.Proofs.YtdcfcpgpbbgceaaGreatDoor.PAll
open PAll.prices_Format (lastB lineB lineL accL kwI kwD kwR kwS kwU gI gD gR gRow fmtB fmtOk)
set_option linter.unusedVariables false
set_option linter.unusedSimpArgs false
abbrev of (L : List UInt8) : ByteArray := ⟨L.toArray⟩
theorem of_size (L : List UInt8) : (of L).size = L.length := by show L.toArray.size = L.length; simp
theorem of_eq (s : ByteArray) (l : List UInt8) (h : s.data.toList = l) : s = of l := by
  subst h; cases s; simp [of]
theorem app_list (a b : ByteArray) : (a ++ b).data.toList = a.data.toList ++ b.data.toList := by simp [ByteArray.data_append]
theorem accL_len (g : Nat → List UInt8) (B T : Nat) (h : ∀ i, i < T → (g i).length ≤ B) : ∀ i, i ≤ T → (accL g i).length ≤ i * B
  | 0, _ => by simp [accL]
  | i + 1, hi => by
    have h1 := accL_len g B T h i (by omega)
    have h2 := h i (by omega)
    rw [accL, List.length_append, Nat.succ_mul]
    omega
theorem rdOf_nat (l : List ByteArray) (i : Nat) : rdOf ByteArray.empty l (i : Int) = l.getD i ByteArray.empty := rfl
end Go.Proofs.YtdcfcpgpbbgceaaGreatDoor.Pl
