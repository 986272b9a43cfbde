/- Parse of the program and Parse of the reference tell the same prices, line and error. -/
import Derived.Test.YtdcfcpgpbbgceaaGreatDoorAskPricesParse
import Derived.Test.YtdcfcpgpbbgceaaGreatDoorPu
import Derived.Test.YtdcfcpgpbbgceaaGreatDoorPc
import Derived.Test.YtdcfcpgpbbgceaaGreatDoorSh
namespace Go.Proofs.YtdcfcpgpbbgceaaGreatDoor.RPricesParse
open Go.RowKit Go.Proofs.YtdcfcpgpbbgceaaGreatDoorW.PrintWords Go.Proofs.YtdcfcpgpbbgceaaGreatDoorW.PrintLast Go.Proofs.YtdcfcpgpbbgceaaGreatDoor.PAll Go.Proofs.YtdcfcpgpbbgceaaGreatDoor.Pl
open PAll.prices_Parse (PT zeroP)
set_option linter.unusedVariables false
set_option linter.unusedSimpArgs false
theorem awake : emendatelaw34_awake.f = some true := rfl
theorem lens_of {P : PT} {n : Nat} (hn : n ≤ 1048576) (h : vokP P n) : lens 1048576 P := by
  obtain ⟨⟨q0, q1, q2⟩, _, qa⟩ := (vok_iff _ _ _ _ _ _).1 h
  refine ⟨by omega, by omega, by omega, fun r hr => ?_⟩
  obtain ⟨a, ha, rfl⟩ := List.getElem_of_mem hr
  have e := (qa a (by omega)).2.2.1
  rw [List.getD_eq_getElem?_getD, List.getElem?_eq_getElem ha] at e
  have e' : (P.2.2.1[a]).length = n := e
  omega
theorem PricesParse : PricesParse.Pure := by
  rintro s ts _ _
  refine Ev.rounds (?_ : Ev (fun k => emendatelaw34_PricesParse.f k s ts) true)
  unfold emendatelaw34_PricesParse.f
  have ht : Ev (fun k => emendatelaw34_PricesParse.j0 k s ts true) true := Ev.step (fun k => rfl) (Ev.now true)
  by_cases h5 : (s.size : Int) > 500
  · simp only [if_pos h5]; exact ht
  · simp only [if_neg h5]
    obtain ⟨q, hq, hq2⟩ := short_ev ts
    refine Ev.bind hq ?_
    cases q with
    | false => exact ht
    | true =>
      obtain ⟨hT, hs⟩ := hq2 rfl
      have p1 := parse_ev s (by omega) ts hT hs
      have p2 := parseR_ev s (by omega) ts hT hs
      have hl : lens 1048576 (if namesOk ts = true then (goB ts (splitL 10 s.data.toList) 0 (defT ts.length)).1 else zeroP) := by
        by_cases hn : namesOk ts = true
        · rw [if_pos hn]; exact goB_lens ts _ 0 (lens_of (by omega) (def_ev ts.length hT).2.2)
        · rw [if_neg hn]; exact ⟨Nat.zero_le _, Nat.zero_le _, Nat.zero_le _, fun r hr => by cases hr⟩
      obtain ⟨P, a, b, eR, hl⟩ : ∃ (P : PT) (a b : Int), (if namesOk ts = true then fl7 (goB ts (splitL 10 s.data.toList) 0 (defT ts.length)) else ([], [], [], 0, 0, 0, 1)) = (P.1, P.2.1, P.2.2.1, P.2.2.2.1, P.2.2.2.2, a, b) ∧ lens 1048576 P := by
        by_cases hn : namesOk ts = true
        · rw [if_pos hn] at hl ⊢; exact ⟨_, _, _, rfl, hl⟩
        · rw [if_neg hn] at hl ⊢; exact ⟨zeroP, 0, 1, rfl, hl⟩
      rw [eR] at p1 p2
      refine Ev.step (f := fun k => (prices_Parse.f k s ts).bind fun x => (emendateref34_Parse.f k s ts).bind fun y => if x.2.2.2.2.2.2 = y.2.2.2.2.2.2 then (if x.2.2.2.2.2.1 = y.2.2.2.2.2.1 then ((emendateref34_Same.f k x.1 x.2.1 x.2.2.1 x.2.2.2.1 x.2.2.2.2.1 y.1 y.2.1 y.2.2.1 y.2.2.2.1 y.2.2.2.2.1).bind fun t => some t) else some false) else some false) (fun k => ?_) (Ev.bind p1 (Ev.bind p2 ?_))
      · conv => lhs; unfold emendatelaw34_PricesParse.j0
        rw [awake]
        rfl
      · simp only [if_true]
        exact Ev.bind (same_refl P hl) (Ev.now true)
end Go.Proofs.YtdcfcpgpbbgceaaGreatDoor.RPricesParse
