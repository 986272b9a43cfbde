import Derived.Test.YtdcfcpgpbbgceaaGreatDoorFm
import Derived.Test.YtdcfcpgpbbgceaaGreatDoorPAllx13
namespace Go.Proofs.YtdcfcpgpbbgceaaGreatDoor.Pl
open Go.RowKit Go.Proofs.YtdcfcpgpbbgceaaGreatDoorW.PrintWords Go.Proofs.YtdcfcpgpbbgceaaGreatDoorW.PrintLast Go.Proofs.YtdcfcpgpbbgceaaGreatDoor.PAll
open PAll.prices_Format (lastB lineB lineL accL kwI kwD kwR kwS kwU gI gD gR gRow fmtB fmtOk small)
set_option linter.unusedVariables false
set_option linter.unusedSimpArgs false
theorem short_loop (ts : List ByteArray) : ∀ (m i : Nat), i + m = 9 → (∀ j, j < i → j < ts.length → (ts.getD j ByteArray.empty).size ≤ 30) →
    ∃ r, Ev (fun k => emendatelaw34_short.l0 k ts (i : Int)) r ∧ (r = true → ts.length ≤ 8 ∧ ∀ j, j < ts.length → (ts.getD j ByteArray.empty).size ≤ 30)
  | m, i, h, hp => by
    by_cases h1 : i < ts.length ∧ i < 8
    · obtain ⟨m', rfl⟩ : ∃ m', m = m' + 1 := ⟨m - 1, by omega⟩
      have st : ∀ k, emendatelaw34_short.l0 (k + 1) ts (i : Int) = emendatelaw34_short.j1 k ts (i : Int) true := by
        intro k
        conv => lhs; unfold emendatelaw34_short.l0
        rw [if_pos (by omega), decide_eq_true (show (i : Int) < 8 by omega)]
      by_cases h2 : ((ts.getD i ByteArray.empty).size : Int) > 30
      · refine ⟨false, Ev.step st (Ev.step (f := fun _ => some false) (fun k => ?_) (Ev.now _)), fun h => by cases h⟩
        conv => lhs; unfold emendatelaw34_short.j1
        rw [if_pos rfl, if_pos (by omega), if_pos (by omega), rdOf_nat, if_pos h2]
      · obtain ⟨r, hr, hr2⟩ := short_loop ts m' (i + 1) (by omega) (fun j hj hj2 => by
          by_cases e : j = i
          · rw [e]; omega
          · exact hp j (by omega) hj2)
        refine ⟨r, Ev.step st (Ev.step (fun k => ?_) hr), hr2⟩
        conv => lhs; unfold emendatelaw34_short.j1
        rw [if_pos rfl, if_pos (by omega), if_pos (by omega), rdOf_nat, if_neg h2, IntWalk.wrap64_in _ (by omega)]
        rfl
    · have st : ∀ k, emendatelaw34_short.l0 (k + 1) ts (i : Int) = emendatelaw34_short.j1 k ts (i : Int) false := by
        intro k
        conv => lhs; unfold emendatelaw34_short.l0
        by_cases h3 : (i : Int) < (ts.length : Int)
        · rw [if_pos h3, decide_eq_false (show ¬ (i : Int) < 8 by omega)]
        · rw [if_neg h3]
      refine ⟨decide ((ts.length : Int) ≤ 8), Ev.step st (Ev.step (f := fun _ => some (decide ((ts.length : Int) ≤ 8))) (fun k => rfl) (Ev.now _)), fun h => ?_⟩
      have hle := of_decide_eq_true h
      exact ⟨by omega, fun j hj => hp j (by omega) hj⟩
theorem short_ev (ts : List ByteArray) : ∃ r, Ev (fun k => emendatelaw34_short.f k ts) r ∧ (r = true → ts.length ≤ 8 ∧ ∀ t ∈ ts, t.size ≤ 30) := by
  obtain ⟨r, h1, h2⟩ := short_loop ts 9 0 (by omega) (fun j hj => by omega)
  refine ⟨r, h1, fun h => ⟨(h2 h).1, fun t ht => ?_⟩⟩
  obtain ⟨j, hj, rfl⟩ := List.getElem_of_mem ht
  have := (h2 h).2 j hj
  rw [List.getD_eq_getElem?_getD, List.getElem?_eq_getElem hj] at this
  exact this
variable {l0 l1 : List Int} {l2 : List (List Int)} {s u : Int} {ts : List ByteArray}
end Go.Proofs.YtdcfcpgpbbgceaaGreatDoor.Pl
