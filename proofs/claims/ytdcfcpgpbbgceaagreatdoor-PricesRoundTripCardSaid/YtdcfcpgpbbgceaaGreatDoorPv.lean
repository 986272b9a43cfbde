import Derived.Test.YtdcfcpgpbbgceaaGreatDoorPAllx2
import Derived.Test.YtdcfcpgpbbgceaaGreatDoorPAllx3
import Derived.Test.YtdcfcpgpbbgceaaGreatDoorPAllx10
import Derived.Test.YtdcfcpgpbbgceaaGreatDoorPAllx11
import Derived.IntWalk
namespace Go.Proofs.YtdcfcpgpbbgceaaGreatDoor.PAll
open Go.RowKit Go.Proofs.YtdcfcpgpbbgceaaGreatDoorW.PrintWords Go.Proofs.YtdcfcpgpbbgceaaGreatDoorW.PrintLast Go.Proofs.YtdcfcpgpbbgceaaGreatDoorW.PrintMore
set_option linter.unusedVariables false
set_option linter.unusedSimpArgs false
theorem few_rows (l0 l1 : List Int) (l2 : List (List Int)) (s u x1 : Int) (hb : l2.length ≤ 1048576) : ∀ (m : Nat) (a : Int), 0 ≤ a → ((l2.length : Int) - a).toNat = m →
    ∃ r, Ev (fun k => emendateref34_Few.l0 k x1 a l0 l1 l2 s u) r
  | m, a, ha, hm => by
    by_cases h : a < (l2.length : Int)
    · obtain ⟨m', rfl⟩ : ∃ m', m = m' + 1 := ⟨m - 1, by omega⟩
      obtain ⟨r, ih⟩ := few_rows l0 l1 l2 s u x1 hb m' (wrap64 (a + 1)) (by rw [IntWalk.wrap64_in _ (by omega)]; omega) (by rw [IntWalk.wrap64_in _ (by omega)]; omega)
      by_cases h5 : ((rd_L1 l2 a).length : Int) > x1
      · exact ⟨false, Ev.step (fun k => by conv => lhs; unfold emendateref34_Few.l0
                                           simp only [if_pos h, if_pos ha, if_pos h5]) (Ev.now false)⟩
      · exact ⟨r, Ev.step (fun k => by conv => lhs; unfold emendateref34_Few.l0
                                       simp only [if_pos h, if_pos ha, if_neg h5]) ih⟩
    · exact ⟨true, Ev.step (fun k => by conv => lhs; unfold emendateref34_Few.l0
                                        simp only [if_neg h]) (Ev.now true)⟩
theorem few_ev (l0 l1 : List Int) (l2 : List (List Int)) (s u x1 : Int) (hx : 0 ≤ x1 ∧ x1 ≤ 1048576) : ∃ r, Ev (fun k => emendateref34_Few.f k l0 l1 l2 s u x1) r ∧ (r = true → (l0.length : Int) ≤ x1 ∧ (l1.length : Int) ≤ x1 ∧ (l2.length : Int) ≤ x1) := by
  unfold emendateref34_Few.f
  by_cases h0 : (l0.length : Int) > x1
  · simp only [if_pos h0]; exact ⟨false, Ev.step (fun k => rfl) (Ev.now false), fun h => by cases h⟩
  by_cases h1 : (l1.length : Int) > x1
  · simp only [if_neg h0, if_pos h1]; exact ⟨false, Ev.step (fun k => rfl) (Ev.now false), fun h => by cases h⟩
  by_cases h2 : (l2.length : Int) > x1
  · simp only [if_neg h0, if_neg h1, h2, decide_true]; exact ⟨false, Ev.step (fun k => rfl) (Ev.now false), fun h => by cases h⟩
  · simp only [if_neg h0, if_neg h1, h2, decide_false]
    obtain ⟨r, hr⟩ := few_rows l0 l1 l2 s u x1 (by omega) _ 0 (by omega) rfl
    exact ⟨r, Ev.step (fun k => rfl) hr, fun _ => by omega⟩
end Go.Proofs.YtdcfcpgpbbgceaaGreatDoor.PAll
