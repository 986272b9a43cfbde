/- The lines that are appended set their prices and nothing else, for texts of up to 1048576 bytes (of more than 500 bytes, nothing is asked). -/
import Derived.Test.YtdcfcpgpbbgceaaGreatDoorAskPricesOverride
import Derived.Test.YtdcfcpgpbbgceaaGreatDoorOw
namespace Go.Proofs.YtdcfcpgpbbgceaaGreatDoor.RPricesOverride
open Go.RowKit Go.Proofs.YtdcfcpgpbbgceaaGreatDoorW.PrintWords Go.Proofs.YtdcfcpgpbbgceaaGreatDoorW.PrintLast Go.Proofs.YtdcfcpgpbbgceaaGreatDoor.PAll
set_option linter.unusedVariables false
set_option linter.unusedSimpArgs false
theorem u16_rng {x : Int} (h : g41 x) : 0 ≤ x ∧ x ≤ 65535 := by
  have e1 : IntKind.u16.min = 0 := rfl
  have e2 : IntKind.u16.max = 65535 := rfl
  unfold g41 at h
  simp [Lit.wf, e1, e2] at h
  omega
theorem PricesOverride : PricesOverride.Pure := by
  intro s u v hs hu hv
  exact (Pl.override_ev s hs u v (u16_rng hu) (u16_rng hv)).rounds
end Go.Proofs.YtdcfcpgpbbgceaaGreatDoor.RPricesOverride
