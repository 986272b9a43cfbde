/- Valid of the program answers as Valid of the reference, for whatever prices; Default of both comes to the same prices, which are valid. -/
import Derived.Test.YtdcfcpgpbbgceaaGreatDoorAskPricesValid
import Derived.Test.YtdcfcpgpbbgceaaGreatDoorPv
namespace Go.Proofs.YtdcfcpgpbbgceaaGreatDoor.RPricesValid
open Go.RowKit Go.Proofs.YtdcfcpgpbbgceaaGreatDoorW.PrintWords Go.Proofs.YtdcfcpgpbbgceaaGreatDoorW.PrintLast Go.Proofs.YtdcfcpgpbbgceaaGreatDoor.PAll
set_option linter.unusedVariables false
set_option linter.unusedSimpArgs false
theorem awake : emendatelaw34_awake.f = some true := rfl
theorem PricesValid : PricesValid.Pure := by
  rintro ⟨l0, l1, l2, s, u⟩ n x2 _ _ g2
  refine Ev.rounds (?_ : Ev (fun k => emendatelaw34_PricesValid.f k l0 l1 l2 s u n x2) true)
  unfold emendatelaw34_PricesValid.f
  obtain ⟨r, hf, hr⟩ := few_ev l0 l1 l2 s u 10 (by omega)
  refine Ev.bind hf ?_
  cases r with
  | false => exact Ev.now true
  | true =>
    obtain ⟨h0, h1, h2⟩ := hr rfl
    have hk : ∃ m : Nat, m < 20 ∧ wrap64 (Int.tmod x2 20) = (m : Int) := by
      have hw : 0 ≤ x2 ∧ x2 ≤ 255 := by
        have e1 : IntKind.u8.min = 0 := rfl
        have e2 : IntKind.u8.max = 255 := rfl
        have := g2
        unfold g5 at this
        simp [Lit.wf, e1, e2] at this
        omega
      refine ⟨(x2 % 20).toNat, by omega, ?_⟩
      rw [Int.tmod_eq_emod_of_nonneg hw.1, IntWalk.wrap64_in _ (by omega)]
      omega
    obtain ⟨m, hm, em⟩ := hk
    simp only [em, if_true]
    obtain ⟨p, d1, d2, d3, d4⟩ := defaults m hm
    obtain ⟨v, v1, v2⟩ := valid_both l0 l1 l2 s u n (by omega)
    refine Ev.bind d1 ?_
    rw [awake]
    simp only [Option.bind_some, if_true]
    refine Ev.bind v1 ?_
    refine Ev.bind v2 ?_
    simp only [beq_self_eq_true, if_true]
    refine Ev.bind d2 ?_
    refine Ev.bind d3 ?_
    simp only [if_true]
    exact Ev.bind d4 (Ev.now true)
end Go.Proofs.YtdcfcpgpbbgceaaGreatDoor.RPricesValid
