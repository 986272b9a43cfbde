/- Format of the program and Format of the reference tell the same text and the same error. -/
import Derived.Test.YtdcfcpgpbbgceaaGreatDoorAskPricesFormat
import Derived.Test.YtdcfcpgpbbgceaaGreatDoorFr
import Derived.Test.YtdcfcpgpbbgceaaGreatDoorSh
namespace Go.Proofs.YtdcfcpgpbbgceaaGreatDoor.RPricesFormat
open Go.RowKit Go.Proofs.YtdcfcpgpbbgceaaGreatDoorW.PrintWords Go.Proofs.YtdcfcpgpbbgceaaGreatDoorW.PrintLast Go.Proofs.YtdcfcpgpbbgceaaGreatDoor.PAll Go.Proofs.YtdcfcpgpbbgceaaGreatDoor.Pl
open PAll.prices_Format (fmtB)
set_option linter.unusedVariables false
set_option linter.unusedSimpArgs false
theorem awake : emendatelaw34_awake.f = some true := rfl
theorem fmt_refuse (l0 l1 : List Int) (l2 : List (List Int)) (s u : Int) (ts : List ByteArray) (hl0 : l0.length ≤ 1048576) (hT : ts.length ≤ 8) (hs : ∀ t ∈ ts, t.size ≤ 30) (h : ¬ (namesOk ts = true ∧ vok l0 l1 l2 s u ts.length = true)) :
    Ev (fun k => emendateref34_Format.f k l0 l1 l2 s u ts) (of [], 1) := by
  have hs' : ∀ t ∈ ts, t.size ≤ 140737488355328 := fun t ht => by have := hs t ht; omega
  unfold emendateref34_Format.f
  refine Ev.bind (namesR_ev ts hs') ?_
  cases hn : namesOk ts with
  | false => exact Ev.step (f := fun _ => some (of [], 1)) (fun k => rfl) (Ev.now _)
  | true =>
    simp only [if_true]
    have hv : vok l0 l1 l2 s u ts.length = false := by
      cases hv : vok l0 l1 l2 s u ts.length with
      | false => rfl
      | true => exact absurd ⟨hn, hv⟩ h
    obtain ⟨v, v1, v2⟩ := valid_both l0 l1 l2 s u (ts.length : Int) (by omega)
    have hv1 := valid_val l0 l1 l2 s u ts.length (by omega)
    rw [hv] at hv1
    have ev : v = false := by
      obtain ⟨K, a⟩ := v1
      obtain ⟨K', b⟩ := hv1
      exact Option.some.inj ((a (K + K') (by omega)).symm.trans (b (K + K') (by omega)))
    subst ev
    refine Ev.bind v2 ?_
    exact Ev.step (f := fun _ => some (of [], 1)) (fun k => rfl) (Ev.now _)
theorem PricesFormat : PricesFormat.Pure := by
  rintro ⟨l0, l1, l2, s, u⟩ ts _ _
  refine Ev.rounds (?_ : Ev (fun k => emendatelaw34_PricesFormat.f k l0 l1 l2 s u ts) true)
  unfold emendatelaw34_PricesFormat.f
  have ht : Ev (fun k => emendatelaw34_PricesFormat.j0 k ts true l0 l1 l2 s u) true := Ev.step (fun k => rfl) (Ev.now true)
  obtain ⟨r, hf, hr⟩ := few_ev l0 l1 l2 s u 10 (by omega)
  refine Ev.bind hf ?_
  cases r with
  | false => simpa using ht
  | true =>
    obtain ⟨h0, h1, h2⟩ := hr rfl
    simp only [if_true]
    obtain ⟨q, hq, hq2⟩ := short_ev ts
    refine Ev.bind hq ?_
    cases q with
    | false => simpa using ht
    | true =>
      obtain ⟨hT, hs⟩ := hq2 rfl
      have f1 := fmt_ev l0 l1 l2 s u ts hT hs
      have f2 : Ev (fun k => emendateref34_Format.f k l0 l1 l2 s u ts) (if namesOk ts = true ∧ vok l0 l1 l2 s u ts.length = true then (of (fmtB l0 l1 l2 s u ts), 0) else (of [], 1)) := by
        by_cases h : namesOk ts = true ∧ vok l0 l1 l2 s u ts.length = true
        · rw [if_pos h]; exact fmt_ref hT hs h.1 h.2
        · rw [if_neg h]; exact fmt_refuse l0 l1 l2 s u ts (by omega) hT hs h
      generalize (if namesOk ts = true ∧ vok l0 l1 l2 s u ts.length = true then (of (fmtB l0 l1 l2 s u ts), (0 : Int)) else (of [], 1)) = R at f1 f2
      refine Ev.step (f := fun k => (prices_Format.f k l0 l1 l2 s u ts).bind fun b => (emendateref34_Format.f k l0 l1 l2 s u ts).bind fun c => if b.1.toList = c.1.toList then some (b.2 == c.2) else some false) (fun k => ?_) (Ev.bind f1 (Ev.bind f2 ?_))
      · conv => lhs; unfold emendatelaw34_PricesFormat.j0
        rw [awake]
        rfl
      · simp only [if_true, beq_self_eq_true]
        exact Ev.now true
end Go.Proofs.YtdcfcpgpbbgceaaGreatDoor.RPricesFormat
