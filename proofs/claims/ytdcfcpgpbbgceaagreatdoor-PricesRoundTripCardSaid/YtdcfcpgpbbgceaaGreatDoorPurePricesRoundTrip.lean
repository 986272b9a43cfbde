/- Parse takes back what Format tells, and what Parse takes is valid. -/
import Derived.Test.YtdcfcpgpbbgceaaGreatDoorAskPricesRoundTrip
import Derived.Test.YtdcfcpgpbbgceaaGreatDoorRv
import Derived.Test.YtdcfcpgpbbgceaaGreatDoorSh
import Derived.Test.YtdcfcpgpbbgceaaGreatDoorPc
namespace Go.Proofs.YtdcfcpgpbbgceaaGreatDoor.RPricesRoundTrip
open Go.RowKit Go.Proofs.YtdcfcpgpbbgceaaGreatDoorW.PrintWords Go.Proofs.YtdcfcpgpbbgceaaGreatDoorW.PrintLast Go.Proofs.YtdcfcpgpbbgceaaGreatDoor.PAll Go.Proofs.YtdcfcpgpbbgceaaGreatDoor.Pl
open PAll.prices_Format (fmtB accL gI gD gR gRow lineL kwI kwD kwS kwU)
set_option linter.unusedVariables false
set_option linter.unusedSimpArgs false
theorem awake : emendatelaw34_awake.f = some true := rfl
theorem fmtB_len {l0 l1 : List Int} {l2 : List (List Int)} {s u : Int} {ts : List ByteArray} (hT : ts.length ≤ 8) (hs : ∀ t ∈ ts, t.size ≤ 30) (hv : vok l0 l1 l2 s u ts.length = true) : (fmtB l0 l1 l2 s u ts).length ≤ 100000 := by
  obtain ⟨⟨q0, q1, q2⟩, ⟨qs, qu⟩, qa⟩ := (vok_iff _ _ _ _ _ _).1 hv
  have hm : ∀ a, a < ts.length → ∀ kw : ByteArray, kw.size ≤ 30 → ∀ w ∈ [kw, ts.getD a ByteArray.empty], w.size ≤ 30 := by
    intro a ha kw hk w hw
    rcases List.mem_cons.1 hw with rfl | hw
    · exact hk
    · obtain rfl := List.mem_singleton.1 hw
      rw [List.getD_eq_getElem?_getD, List.getElem?_eq_getElem ha]; exact hs _ (List.getElem_mem ha)
  have hI : (accL (gI l0 ts) ts.length).length ≤ ts.length * 100 := accL_len _ 100 ts.length (fun j hj => lineL_len _ _ _ (by have := qa j hj; omega) (by have := qa j hj; omega) (by simp) (hm j hj _ (by decide))) _ (Nat.le_refl _)
  have hD : (accL (gD l1 ts) ts.length).length ≤ ts.length * 100 := accL_len _ 100 ts.length (fun j hj => lineL_len _ _ _ (by have := qa j hj; omega) (by have := qa j hj; omega) (by simp) (hm j hj _ (by decide))) _ (Nat.le_refl _)
  have hR : (accL (gRow l2 ts) ts.length).length ≤ ts.length * 800 := accL_len _ 800 ts.length (fun a ha => by
    have := accL_len (gR l2 ts a) 100 ts.length (fun b hb => by
      unfold gR
      split
      · simp
      · have he := (qa a ha).2.2.2 b hb
        have hr : -1 ≤ (l2.getD a []).getD b 0 ∧ (l2.getD a []).getD b 0 ≤ 1000 := by
          unfold entOk at he
          split at he
          · have := of_decide_eq_true he; omega
          · rw [Bool.or_eq_true, rng_iff, decide_eq_true_eq] at he; omega
        refine lineL_len _ _ _ hr.1 hr.2 (by simp) (fun w hw => ?_)
        rcases List.mem_cons.1 hw with rfl | hw
        · decide
        · rcases List.mem_cons.1 hw with rfl | hw
          · rw [List.getD_eq_getElem?_getD, List.getElem?_eq_getElem ha]; exact hs _ (List.getElem_mem ha)
          · obtain rfl := List.mem_singleton.1 hw
            rw [List.getD_eq_getElem?_getD, List.getElem?_eq_getElem hb]; exact hs _ (List.getElem_mem hb)) ts.length (Nat.le_refl _)
    unfold gRow
    omega) _ (Nat.le_refl _)
  have hS : (lineL s 12 [kwS]).length ≤ 100 := lineL_len _ _ _ (by omega) (by omega) (by simp) (by intro w hw; obtain rfl := List.mem_singleton.1 hw; decide)
  have hU : (lineL u 8 [kwU]).length ≤ 100 := lineL_len _ _ _ (by omega) (by omega) (by simp) (by intro w hw; obtain rfl := List.mem_singleton.1 hw; decide)
  unfold fmtB
  simp only [List.length_append]
  omega
theorem back (l0 l1 : List Int) (l2 : List (List Int)) (s u : Int) (ts : List ByteArray) (hT : ts.length ≤ 8) (hs : ∀ t ∈ ts, t.size ≤ 30) :
    Ev (fun k => emendatelaw34_PricesRoundTrip.j1 k ts false l0 l1 l2 s u) true := by
  have f1 := fmt_ev l0 l1 l2 s u ts hT hs
  refine Ev.step (f := fun k => (prices_Format.f k l0 l1 l2 s u ts).bind fun b => if b.2 = 0 then ((prices_Parse.f k b.1 ts).bind fun c => if c.2.2.2.2.2.2 = 0 then (if c.2.2.2.2.2.1 = 0 then ((emendateref34_Same.f k c.1 c.2.1 c.2.2.1 c.2.2.2.1 c.2.2.2.2.1 l0 l1 l2 s u).bind fun t => some t) else some false) else some false) else some (b.1.toList == ([] : List UInt8))) (fun k => ?_) (Ev.bind f1 ?_)
  · conv => lhs; unfold emendatelaw34_PricesRoundTrip.j1
    rw [awake]
    rfl
  · by_cases h : namesOk ts = true ∧ vok l0 l1 l2 s u ts.length = true
    · simp only [if_pos h, if_true]
      obtain ⟨⟨q0, q1, q2⟩, ⟨qs, qu⟩, qa⟩ := (vok_iff _ _ _ _ _ _).1 h.2
      have hl := fmtB_len hT hs h.2
      have hp := parse_ev (of (fmtB l0 l1 l2 s u ts)) (by rw [of_size]; omega) ts hT hs
      rw [if_pos h.1] at hp
      have hd : (of (fmtB l0 l1 l2 s u ts)).data.toList = fmtB l0 l1 l2 s u ts := by simp
      have hr := round_trip (ts := ts) l0 l1 l2 s u h.1 h.2
      rw [part_zero, part_zero, parts_zero] at hr
      rw [hd] at hp
      change Ev _ (fl7 (goB ts (splitL 10 (fmtB l0 l1 l2 s u ts)) 0 ((List.range ts.length).map dI, (List.range ts.length).map dI, (List.range ts.length).map fun r => (List.range ts.length).map (dR r), 12, 8))) at hp
      rw [hr] at hp
      refine Ev.bind hp ?_
      simp only [fl7, if_true]
      refine Ev.bind (same_refl (l0, l1, l2, s, u) ⟨by simp only; omega, by simp only; omega, by simp only; omega, fun r hr => ?_⟩) (Ev.now true)
      obtain ⟨a, ha, rfl⟩ := List.getElem_of_mem hr
      have e := (qa a (by simp only at ha; omega)).2.2.1
      rw [List.getD_eq_getElem?_getD, List.getElem?_eq_getElem ha] at e
      have e' : (l2[a]).length = ts.length := e
      simp only
      omega
    · simp only [if_neg h, if_neg (show ¬ (1 : Int) = 0 by decide)]
      have e : ((of []).toList == ([] : List UInt8)) = true := by rw [Lib.toList_data]; rfl
      rw [e]
      exact Ev.now true
theorem PricesRoundTrip : PricesRoundTrip.Pure := by
  rintro ⟨l0, l1, l2, s, u⟩ ts tx _ _ _
  refine Ev.rounds (?_ : Ev (fun k => emendatelaw34_PricesRoundTrip.f k l0 l1 l2 s u ts tx) true)
  unfold emendatelaw34_PricesRoundTrip.f
  have ht : Ev (fun k => emendatelaw34_PricesRoundTrip.j0 k ts tx true l0 l1 l2 s u) true := Ev.step (fun k => rfl) (Ev.now true)
  obtain ⟨r, hf, hr⟩ := few_ev l0 l1 l2 s u 10 (by omega)
  refine Ev.bind hf ?_
  cases r with
  | false => simpa using ht
  | true =>
    simp only [if_true]
    obtain ⟨q, hq, hq2⟩ := short_ev ts
    refine Ev.bind hq ?_
    cases q with
    | false => simpa using ht
    | true =>
      obtain ⟨hT, hs⟩ := hq2 rfl
      simp only [if_true]
      by_cases h5 : (tx.size : Int) > 500
      · simp only [h5, decide_true]; exact ht
      · simp only [h5, decide_false]
        have hb := back l0 l1 l2 s u ts hT hs
        have hp := parse_ev tx (by omega) ts hT hs
        refine Ev.step (f := fun k => (prices_Parse.f k tx ts).bind fun b => if b.2.2.2.2.2.2 = 0 then ((prices_Valid.f k b.1 b.2.1 b.2.2.1 b.2.2.2.1 b.2.2.2.2.1 (ts.length : Int)).bind fun t => emendatelaw34_PricesRoundTrip.j1 k ts (!t) l0 l1 l2 s u) else emendatelaw34_PricesRoundTrip.j1 k ts false l0 l1 l2 s u) (fun k => rfl) (Ev.bind hp ?_)
        by_cases hn : namesOk ts = true
        · simp only [if_pos hn, fl7]
          by_cases hc : (goB ts (splitL 10 tx.data.toList) 0 (defT ts.length)).2.2 = 0
          · have hv := goB_vok (splitL 10 tx.data.toList) 0 (defT ts.length) (def_ev ts.length hT).2.2 hc
            simp only [if_pos hc]
            have h1 := valid_val (goB ts (splitL 10 tx.data.toList) 0 (defT ts.length)).1.1 (goB ts (splitL 10 tx.data.toList) 0 (defT ts.length)).1.2.1 (goB ts (splitL 10 tx.data.toList) 0 (defT ts.length)).1.2.2.1 (goB ts (splitL 10 tx.data.toList) 0 (defT ts.length)).1.2.2.2.1 (goB ts (splitL 10 tx.data.toList) 0 (defT ts.length)).1.2.2.2.2 ts.length (by omega)
            unfold vokP at hv
            rw [hv] at h1
            exact Ev.bind h1 hb
          · simp only [if_neg hc]; exact hb
        · simp only [if_neg hn]
          exact hb
end Go.Proofs.YtdcfcpgpbbgceaaGreatDoor.RPricesRoundTrip
