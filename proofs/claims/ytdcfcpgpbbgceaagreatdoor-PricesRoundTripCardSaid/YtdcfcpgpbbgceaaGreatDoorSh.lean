import Derived.Test.YtdcfcpgpbbgceaaGreatDoorFm
import Derived.Test.YtdcfcpgpbbgceaaGreatDoorPAllx13
namespace Go.Proofs.YtdcfcpgpbbgceaaGreatDoor.Pl
open Go.RowKit Go.Proofs.YtdcfcpgpbbgceaaGreatDoorW.PrintWords Go.Proofs.YtdcfcpgpbbgceaaGreatDoorW.PrintLast Go.Proofs.YtdcfcpgpbbgceaaGreatDoor.PAll
open PAll.prices_Format (lastB lineB lineL accL kwI kwD kwR kwS kwU gI gD gR gRow fmtB fmtOk small)
set_option linter.unusedVariables false
set_option linter.unusedSimpArgs false
theorem short_loop (ts : List ByteArray) : ∀ (m i : Nat), i + m = 9 → (∀ j, j < i → j < ts.length → (ts.getD j ByteArray.empty).size ≤ 30) →
    ∃ r, Ev (fun k => emendatelaw34_short.l0 k ts (i : Int)) r ∧ (r = true → ts.length ≤ 8 ∧ ∀ j, j < ts.length → (ts.getD j ByteArray.empty).size ≤ 30)
  | m, i, h, hp => by
    by_cases h1 : i < ts.length ∧ i < 8
    · obtain ⟨m', rfl⟩ : ∃ m', m = m' + 1 := ⟨m - 1, by omega⟩
      have st : ∀ k, emendatelaw34_short.l0 (k + 1) ts (i : Int) = emendatelaw34_short.j1 k ts (i : Int) true := by
        intro k
        conv => lhs; unfold emendatelaw34_short.l0
        rw [if_pos (by omega), decide_eq_true (show (i : Int) < 8 by omega)]
      by_cases h2 : ((ts.getD i ByteArray.empty).size : Int) > 30
      · refine ⟨false, Ev.step st (Ev.step (f := fun _ => some false) (fun k => ?_) (Ev.now _)), fun h => by cases h⟩
        conv => lhs; unfold emendatelaw34_short.j1
        rw [if_pos rfl, if_pos (by omega), if_pos (by omega), rdOf_nat, if_pos h2]
      · obtain ⟨r, hr, hr2⟩ := short_loop ts m' (i + 1) (by omega) (fun j hj hj2 => by
          by_cases e : j = i
          · rw [e]; omega
          · exact hp j (by omega) hj2)
        refine ⟨r, Ev.step st (Ev.step (fun k => ?_) hr), hr2⟩
        conv => lhs; unfold emendatelaw34_short.j1
        rw [if_pos rfl, if_pos (by omega), if_pos (by omega), rdOf_nat, if_neg h2, IntWalk.wrap64_in _ (by omega)]
        rfl
    · have st : ∀ k, emendatelaw34_short.l0 (k + 1) ts (i : Int) = emendatelaw34_short.j1 k ts (i : Int) false := by
        intro k
        conv => lhs; unfold emendatelaw34_short.l0
        by_cases h3 : (i : Int) < (ts.length : Int)
        · rw [if_pos h3, decide_eq_false (show ¬ (i : Int) < 8 by omega)]
        · rw [if_neg h3]
      refine ⟨decide ((ts.length : Int) ≤ 8), Ev.step st (Ev.step (f := fun _ => some (decide ((ts.length : Int) ≤ 8))) (fun k => rfl) (Ev.now _)), fun h => ?_⟩
      have hle := of_decide_eq_true h
      exact ⟨by omega, fun j hj => hp j (by omega) hj⟩
theorem short_ev (ts : List ByteArray) : ∃ r, Ev (fun k => emendatelaw34_short.f k ts) r ∧ (r = true → ts.length ≤ 8 ∧ ∀ t ∈ ts, t.size ≤ 30) := by
  obtain ⟨r, h1, h2⟩ := short_loop ts 9 0 (by omega) (fun j hj => by omega)
  refine ⟨r, h1, fun h => ⟨(h2 h).1, fun t ht => ?_⟩⟩
  obtain ⟨j, hj, rfl⟩ := List.getElem_of_mem ht
  have := (h2 h).2 j hj
  rw [List.getD_eq_getElem?_getD, List.getElem?_eq_getElem hj] at this
  exact this
variable {l0 l1 : List Int} {l2 : List (List Int)} {s u : Int} {ts : List ByteArray}
theorem getD_of (l : List Int) (i : Nat) (h : i < l.length) : l.getD i 0 = l[i] := by rw [List.getD_eq_getElem?_getD, List.getElem?_eq_getElem h]; rfl
theorem ok_of_vok (hT : ts.length ≤ 8) (hs : ∀ t ∈ ts, t.size ≤ 30) (hv : vok l0 l1 l2 s u ts.length = true) : fmtOk l0 l1 l2 s u ts = true := by
  obtain ⟨⟨q0, q1, q2⟩, ⟨qs, qu⟩, qa⟩ := (vok_iff _ _ _ _ _ _).1 hv
  have sm : ∀ x : Int, -1 ≤ x → x ≤ 1000 → small x = true := fun x h1 h2 => by unfold small; simp [h1, h2]
  have hr : ∀ r ∈ l2, r.length = ts.length ∧ ∀ x ∈ r, -1 ≤ x ∧ x ≤ 1000 := by
    intro r hr
    obtain ⟨a, ha, rfl⟩ := List.getElem_of_mem hr
    have h := qa a (by omega)
    have e : l2.getD a [] = l2[a] := by rw [List.getD_eq_getElem?_getD, List.getElem?_eq_getElem ha]; rfl
    rw [e] at h
    refine ⟨h.2.2.1, fun x hx => ?_⟩
    obtain ⟨b, hb, rfl⟩ := List.getElem_of_mem hx
    have h2 := h.2.2.2 b (by omega)
    rw [getD_of _ _ hb] at h2
    unfold entOk at h2
    split at h2
    · have := of_decide_eq_true h2; omega
    · rw [Bool.or_eq_true, rng_iff, decide_eq_true_eq] at h2; omega
  have h0 : ∀ x ∈ l0, small x = true := by
    intro x hx
    obtain ⟨a, ha, rfl⟩ := List.getElem_of_mem hx
    have h := (qa a (by omega)).1
    rw [getD_of _ _ ha] at h
    exact sm _ (by omega) h.2
  have h1 : ∀ x ∈ l1, small x = true := by
    intro x hx
    obtain ⟨a, ha, rfl⟩ := List.getElem_of_mem hx
    have h := (qa a (by omega)).2.1
    rw [getD_of _ _ ha] at h
    exact sm _ (by omega) h.2
  unfold fmtOk
  simp only [Bool.and_eq_true, List.all_eq_true, decide_eq_true_eq]
  exact ⟨⟨⟨⟨⟨⟨⟨⟨⟨⟨by omega, fun t ht => by have := hs t ht; omega⟩, q0⟩, q1⟩, q2⟩, fun r h => (hr r h).1⟩, h0⟩, h1⟩, fun r h x hx => sm _ ((hr r h).2 x hx).1 ((hr r h).2 x hx).2⟩, sm _ (by omega) qs.2⟩, sm _ (by omega) qu.2⟩
theorem fmt_ev (l0 l1 : List Int) (l2 : List (List Int)) (s u : Int) (ts : List ByteArray) (hT : ts.length ≤ 8) (hs : ∀ t ∈ ts, t.size ≤ 30) :
    Ev (fun k => prices_Format.f k l0 l1 l2 s u ts) (if namesOk ts = true ∧ vok l0 l1 l2 s u ts.length = true then (of (fmtB l0 l1 l2 s u ts), 0) else (of [], 1)) := by
  have hs' : ∀ t ∈ ts, t.size ≤ 140737488355328 := fun t ht => by have := hs t ht; omega
  unfold prices_Format.f
  refine Ev.bind (names_ev ts hs') ?_
  cases hn : namesOk ts with
  | false => simpa using Ev.now _
  | true =>
    simp only [if_true, true_and]
    refine Ev.bind (valid_val l0 l1 l2 s u ts.length (by omega)) ?_
    cases hv : vok l0 l1 l2 s u ts.length with
    | false => simpa using Ev.now _
    | true =>
      simp only [if_true, ok_of_vok hT hs hv]
      exact Ev.now _
end Go.Proofs.YtdcfcpgpbbgceaaGreatDoor.Pl
