-- printed by a variant of the print (wip/mkprint.py)
import Derived.Test.YtdcfcpgpbbgceaaGreatDoorPAllx0
namespace Go.Proofs.YtdcfcpgpbbgceaaGreatDoor.PAll
open Go.RowKit Go.Proofs.YtdcfcpgpbbgceaaGreatDoorW.PrintWords Go.Proofs.YtdcfcpgpbbgceaaGreatDoorW.PrintLast Go.Proofs.YtdcfcpgpbbgceaaGreatDoorW.PrintMore
attribute [local go_sem] max2_int min2_int max_two min_two max_three min_three max_four min_four   -- for this text's walks alone
set_option linter.unusedVariables false
set_option linter.unusedSimpArgs false
def emendateref16_Decimal.l0 : Nat → Int → ByteArray → Option (ByteArray)
 | 0, _, _ => none
 | k + 1, x0, x3 => if x0 > 0 then ((some (([(wrap64 (48 + (Int.tmod x0 10))) % 256] : List Int) : List Int)).bind fun y369 => (if (strOfNums y369).size + x3.size ≤ 9223372036854775807 then (emendateref16_Decimal.l0 k (wrap64 (Int.tdiv x0 10)) ((strOfNums y369) ++ x3)) else (none))) else (some x3)
def emendateref16_Decimal.f (k : Nat) (a0 : Int) : Option (ByteArray) := emendateref16_Decimal.l0 k (wrap64 (Int.tdiv a0 10)) (strOfNums (([(wrap64 (48 + (Int.tmod a0 10))) % 256] : List Int)))
theorem emendateref16_Decimal.mono_l : ∀ k, (∀ y0 y1, LeO (emendateref16_Decimal.l0 k y0 y1) (emendateref16_Decimal.l0 (k + 1) y0 y1))
 | 0 => fun _ _ r h => by simp [emendateref16_Decimal.l0] at h
 | k + 1 => by
  have ih0 := emendateref16_Decimal.mono_l k
  ·
   intro y0 y1
   unfold emendateref16_Decimal.l0
   repeat' first
   | (with_reducible exact ih0 _ _)
   | (with_reducible exact LeO.refl _)
   | (with_reducible exact LeO.none _)
   | (with_reducible refine LeO.ite ?_ ?_)
   | (with_reducible refine LeO.bind ?_ (fun _ => ?_))
   | exact ih0 _ _
   | exact LeO.none _
   | refine LeO.ite ?_ ?_
   | refine LeO.bind ?_ (fun _ => ?_)
theorem emendateref16_Decimal.mono : ∀ a0 k, LeO (emendateref16_Decimal.f k a0) (emendateref16_Decimal.f (k + 1) a0) := by
 intro a0 k; have ih0 := emendateref16_Decimal.mono_l k
 unfold emendateref16_Decimal.f
 repeat' first
   | (with_reducible exact ih0 _ _)
   | (with_reducible exact LeO.refl _)
   | (with_reducible exact LeO.none _)
   | (with_reducible refine LeO.ite ?_ ?_)
   | (with_reducible refine LeO.bind ?_ (fun _ => ?_))
   | exact ih0 _ _
   | exact LeO.none _
   | refine LeO.ite ?_ ?_
   | refine LeO.bind ?_ (fun _ => ?_)
end Go.Proofs.YtdcfcpgpbbgceaaGreatDoor.PAll
-- dedented
