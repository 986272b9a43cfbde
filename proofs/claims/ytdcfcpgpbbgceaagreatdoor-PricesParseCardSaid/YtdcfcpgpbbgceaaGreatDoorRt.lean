import Derived.Test.YtdcfcpgpbbgceaaGreatDoorPl
import Derived.Test.YtdcfcpgpbbgceaaGreatDoorFm
namespace Go.Proofs.YtdcfcpgpbbgceaaGreatDoor.Pl
open Go.RowKit Go.Proofs.YtdcfcpgpbbgceaaGreatDoorW.PrintWords Go.Proofs.YtdcfcpgpbbgceaaGreatDoorW.PrintLast Go.Proofs.YtdcfcpgpbbgceaaGreatDoor.PAll
open PAll.prices_Format (lastB lineB lineL accL kwI kwD kwR kwS kwU gI gD gR gRow fmtB fmtOk)
open PAll.prices_Parse (idxP idxFrom idxP_rg applyP zeroP PT apQ apFin)
open PAll.prices_form (kIns kDel kRep kSwap kUnk kNever sizeK formP)
open PAll.prices_number (numP numVal isDig)
set_option linter.unusedVariables false
set_option linter.unusedSimpArgs false
theorem bt_nat (s : ByteArray) (i : Nat) (h : i < s.size) : bt s (i : Int) = ((s.data.toList[i]'h).toNat : Int) := by
  unfold bt
  rw [dif_pos (by simpa using h)]
  rfl
def RunsTo (ts : List ByteArray) (X : List UInt8) (P P' : PT) : Prop := ∀ Y i, ∃ j, goB ts (splitL 10 (X ++ Y)) i P = goB ts (splitL 10 Y) j P'
theorem RunsTo.none {ts : List ByteArray} {P : PT} : RunsTo ts [] P P := fun Y i => ⟨i, rfl⟩
theorem RunsTo.app {ts : List ByteArray} {X Z : List UInt8} {P P' P'' : PT} (h : RunsTo ts X P P') (k : RunsTo ts Z P' P'') : RunsTo ts (X ++ Z) P P'' := fun Y i => by
  obtain ⟨j, hj⟩ := h (Z ++ Y) i
  obtain ⟨j', hj'⟩ := k Y j
  exact ⟨j', by rw [List.append_assoc, hj, hj']⟩
theorem RunsTo.line {ts : List ByteArray} {l : List UInt8} {f : List ByteArray} {P P' : PT} (hw : words l = f) (hn : 10 ∉ l) (hf : f ≠ []) (hform : formW f = true) (ha : applyP P f ts = (0, P')) : RunsTo ts (l ++ [10]) P P' := fun Y i => by
  refine ⟨i + 1, ?_⟩
  have e : l ++ [10] ++ Y = l ++ 10 :: Y := by simp
  rw [e, splitL_at, splitL_none 10 l hn, List.singleton_append, goB, hw, if_neg hf, if_pos hform, ha, if_pos rfl]
theorem RunsTo.acc {ts : List ByteArray} {g : Nat → List UInt8} (Q : Nat → PT) (n : Nat) (h : ∀ i, i < n → RunsTo ts (g i) (Q i) (Q (i + 1))) : ∀ i, i ≤ n → RunsTo ts (accL g i) (Q 0) (Q i)
  | 0, _ => RunsTo.none
  | i + 1, hi => by
    rw [accL]
    exact (RunsTo.acc Q n h i (by omega)).app (h i (by omega))
theorem RunsTo.done {ts : List ByteArray} {X : List UInt8} {P P' : PT} (h : RunsTo ts X P P') : goB ts (splitL 10 X) 0 P = (P', 0, 0) := by
  obtain ⟨j, hj⟩ := h [] 0
  rw [List.append_nil] at hj
  rw [hj]
  show goB ts [[]] j P' = _
  rw [goB_blank _ _ (show words [] = [] from rfl)]
  rfl
end Go.Proofs.YtdcfcpgpbbgceaaGreatDoor.Pl
