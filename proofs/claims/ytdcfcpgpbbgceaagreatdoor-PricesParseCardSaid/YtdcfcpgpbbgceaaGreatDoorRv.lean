import Derived.Test.YtdcfcpgpbbgceaaGreatDoorRu
namespace Go.Proofs.YtdcfcpgpbbgceaaGreatDoor.Pl
open Go.RowKit Go.Proofs.YtdcfcpgpbbgceaaGreatDoorW.PrintWords Go.Proofs.YtdcfcpgpbbgceaaGreatDoorW.PrintLast Go.Proofs.YtdcfcpgpbbgceaaGreatDoor.PAll
open PAll.prices_Parse (idxP idxFrom idxP_rg applyP zeroP PT apQ apFin preB)
open PAll.prices_form (kIns kDel kRep kSwap kUnk kNever sizeK formP)
open PAll.prices_number (numP numVal isDig)
set_option linter.unusedVariables false
set_option linter.unusedSimpArgs false
def vokP (P : PT) (n : Nat) : Prop := vok P.1 P.2.1 P.2.2.1 P.2.2.2.1 P.2.2.2.2 n = true
theorem getD_set (l : List Int) (i a : Nat) (x : Int) (h : i < l.length) : (l.set i x).getD a 0 = if a = i then x else l.getD a 0 := by
  rw [List.getD_eq_getElem?_getD, List.getElem?_set, List.getD_eq_getElem?_getD]
  by_cases e : i = a
  · subst e; simp [h]
  · rw [if_neg e, if_neg (fun h => e h.symm)]
theorem getDL_set (l : List (List Int)) (i a : Nat) (x : List Int) (h : i < l.length) : (l.set i x).getD a [] = if a = i then x else l.getD a [] := by
  rw [List.getD_eq_getElem?_getD, List.getElem?_set, List.getD_eq_getElem?_getD]
  by_cases e : i = a
  · subst e; simp [h]
  · rw [if_neg e, if_neg (fun h => e h.symm)]
theorem fin_vok {P : PT} {n : Nat} {v low : Int} {ok : Bool} {g : Int → PT} (h1 : ok = true → low ≤ v → v ≤ 1000 → vokP (g v) n) (h2 : ok = false → vokP (g (-1)) n) (h : (apFin v ok low g P).1 = 0) : vokP (apFin v ok low g P).2 n := by
  unfold apFin at h ⊢
  cases ok with
  | true =>
    simp only [if_true] at h ⊢
    by_cases hr : low ≤ v ∧ v ≤ 1000
    · rw [if_pos hr]; exact h1 rfl hr.1 hr.2
    · rw [if_neg hr] at h; exact absurd h (show ¬ (2 : Int) = 0 by decide)
  | false => exact h2 rfl
theorem apply_vok {ts f : List ByteArray} {P : PT} (hP : vokP P ts.length) (hf : formW f = true) (h : (applyP P f ts).1 = 0) : vokP (applyP P f ts).2 ts.length := by
  unfold formW formP at hf
  rw [Bool.and_eq_true, decide_eq_true_eq] at hf
  obtain ⟨hsz, hlast⟩ := hf
  have hok : ¬ f.getD 0 ByteArray.empty = kRep → (numP (f.getD (f.length - 1) ByteArray.empty)).2 = true := by
    intro hne
    rw [Bool.or_eq_true, Bool.and_eq_true, decide_eq_true_eq] at hlast
    rcases hlast with h | h
    · exact h
    · exact absurd h.1 hne
  obtain ⟨⟨q0, q1, q2⟩, ⟨qs, qu⟩, qa⟩ := (vok_iff _ _ _ _ _ _).1 hP
  unfold applyP at h ⊢
  by_cases hall : (((f.drop 1).take (f.length - 2)).all fun s => decide (0 ≤ idxP ts s)) = true
  · rw [if_pos hall] at h ⊢
    rw [List.all_eq_true] at hall
    have at1 : 3 ≤ f.length → 0 ≤ idxP ts (f.getD 1 ByteArray.empty) ∧ (idxP ts (f.getD 1 ByteArray.empty)).toNat < ts.length := by
      intro hl
      have hm : f.getD 1 ByteArray.empty ∈ (f.drop 1).take (f.length - 2) := by
        rw [List.mem_take_iff_getElem]
        refine ⟨0, by simp; omega, ?_⟩
        rw [List.getElem_drop, List.getD_eq_getElem?_getD, List.getElem?_eq_getElem (by omega)]
        rfl
      have h1 := of_decide_eq_true (hall _ hm)
      have h2 := idxP_rg ts (f.getD 1 ByteArray.empty)
      exact ⟨h1, by omega⟩
    have at2 : 4 ≤ f.length → 0 ≤ idxP ts (f.getD 2 ByteArray.empty) ∧ (idxP ts (f.getD 2 ByteArray.empty)).toNat < ts.length := by
      intro hl
      have hm : f.getD 2 ByteArray.empty ∈ (f.drop 1).take (f.length - 2) := by
        rw [List.mem_take_iff_getElem]
        refine ⟨1, by simp; omega, ?_⟩
        rw [List.getElem_drop, List.getD_eq_getElem?_getD, List.getElem?_eq_getElem (by omega)]
        rfl
      have h1 := of_decide_eq_true (hall _ hm)
      have h2 := idxP_rg ts (f.getD 2 ByteArray.empty)
      exact ⟨h1, by omega⟩
    generalize idxP ts (f.getD 1 ByteArray.empty) = i1 at *
    generalize idxP ts (f.getD 2 ByteArray.empty) = i2 at *
    generalize (numP (f.getD (f.length - 1) ByteArray.empty)).1 = v at *
    generalize (numP (f.getD (f.length - 1) ByteArray.empty)).2 = ok at *
    generalize f.getD 0 ByteArray.empty = q at *
    unfold apQ at h ⊢
    by_cases c1 : q = kIns
    · rw [if_pos c1] at h ⊢
      have hl : f.length = 3 := by have : sizeK q = 3 := by rw [c1]; rfl
                                   omega
      obtain ⟨a1, a2⟩ := at1 (by omega)
      refine fin_vok (fun _ h1 h2 => ?_) (fun e => absurd (hok (by rw [c1]; decide)) (by rw [e]; decide)) h
      refine (vok_iff _ _ _ _ _ _).2 ⟨⟨by simpa using q0, q1, q2⟩, ⟨qs, qu⟩, fun a ha => ?_⟩
      obtain ⟨e1, e2⟩ := qa a ha
      refine ⟨?_, e2⟩
      rw [getD_set _ _ _ _ (by omega)]
      by_cases e : a = i1.toNat
      · rw [if_pos e]; exact ⟨h1, h2⟩
      · rw [if_neg e]; exact e1
    rw [if_neg c1] at h ⊢
    by_cases c2 : q = kDel
    · rw [if_pos c2] at h ⊢
      have hl : f.length = 3 := by have : sizeK q = 3 := by rw [c2]; rfl
                                   omega
      obtain ⟨a1, a2⟩ := at1 (by omega)
      refine fin_vok (fun _ h1 h2 => ?_) (fun e => absurd (hok (by rw [c2]; decide)) (by rw [e]; decide)) h
      refine (vok_iff _ _ _ _ _ _).2 ⟨⟨q0, by simpa using q1, q2⟩, ⟨qs, qu⟩, fun a ha => ?_⟩
      obtain ⟨e1, e2, e3⟩ := qa a ha
      refine ⟨e1, ?_, e3⟩
      rw [getD_set _ _ _ _ (by omega)]
      by_cases e : a = i1.toNat
      · rw [if_pos e]; exact ⟨h1, h2⟩
      · rw [if_neg e]; exact e2
    rw [if_neg c2] at h ⊢
    by_cases c3 : q = kRep
    · rw [if_pos c3] at h ⊢
      by_cases hne : i1 = i2
      · rw [if_pos hne] at h; exact absurd h (show ¬ (1 : Int) = 0 by decide)
      rw [if_neg hne] at h ⊢
      have hl : f.length = 4 := by have : sizeK q = 4 := by rw [c3]; rfl
                                   omega
      obtain ⟨a1, a2⟩ := at1 (by omega)
      obtain ⟨b1, b2⟩ := at2 (by omega)
      have set : ∀ x : Int, (x = -1 ∨ (1 ≤ x ∧ x ≤ 1000)) → vokP (P.1, P.2.1, P.2.2.1.set i1.toNat ((P.2.2.1.getD i1.toNat []).set i2.toNat x), P.2.2.2) ts.length := by
        intro x hx
        have hlr := (qa i1.toNat a2).2.2.1
        refine (vok_iff _ _ _ _ _ _).2 ⟨⟨q0, q1, by simpa using q2⟩, ⟨qs, qu⟩, fun a ha => ?_⟩
        obtain ⟨e1, e2, e3, e4⟩ := qa a ha
        refine ⟨e1, e2, ?_⟩
        simp only
        rw [getDL_set _ _ _ _ (by omega)]
        by_cases e : a = i1.toNat
        · rw [if_pos e]
          refine ⟨by rw [List.length_set]; exact hlr, fun b hb => ?_⟩
          rw [getD_set _ _ _ _ (by omega)]
          by_cases e5 : b = i2.toNat
          · rw [if_pos e5]
            unfold entOk
            rw [if_neg (by omega), Bool.or_eq_true, rng_iff, decide_eq_true_eq]
            exact hx
          · rw [if_neg e5, ← e]; exact e4 b hb
        · rw [if_neg e]; exact ⟨e3, e4⟩
      exact fin_vok (fun _ h1 h2 => set v (.inr ⟨h1, h2⟩)) (fun _ => set (-1) (.inl rfl)) h
    rw [if_neg c3] at h ⊢
    have hok' := hok c3
    by_cases c4 : q = kSwap
    · rw [if_pos c4] at h ⊢
      exact fin_vok (fun _ h1 h2 => (vok_iff _ _ _ _ _ _).2 ⟨⟨q0, q1, q2⟩, ⟨⟨h1, h2⟩, qu⟩, qa⟩) (fun e => absurd hok' (by rw [e]; decide)) h
    rw [if_neg c4] at h ⊢
    exact fin_vok (fun _ h1 h2 => (vok_iff _ _ _ _ _ _).2 ⟨⟨q0, q1, q2⟩, ⟨qs, ⟨h1, h2⟩⟩, qa⟩) (fun e => absurd hok' (by rw [e]; decide)) h
  · rw [if_neg hall] at h; exact absurd h (by simp)
def defT (T : Nat) : PT := ((List.range T).map dI, (List.range T).map dI, (List.range T).map fun r => (List.range T).map (dR r), 12, 8)
theorem def_all : ((List.range 9).all fun T => decide (prices_Default.f 100 (T : Int) = some (defT T)) && (preB (defT T) T && vok (defT T).1 (defT T).2.1 (defT T).2.2.1 (defT T).2.2.2.1 (defT T).2.2.2.2 T)) = true := by kernel_rfl
theorem def_ev (T : Nat) (h : T ≤ 8) : Ev (fun k => prices_Default.f k (T : Int)) (defT T) ∧ preB (defT T) T = true ∧ vokP (defT T) T := by
  have h := List.all_eq_true.1 def_all T (List.mem_range.2 (by omega))
  simp only [Bool.and_eq_true, decide_eq_true_eq] at h
  exact ⟨Ev.of (fun k => prices_Default.mono _ k) h.1, h.2.1, h.2.2⟩
def fl7 (r : PT × Int × Int) : List Int × List Int × (List (List Int)) × Int × Int × Int × Int := (r.1.1, r.1.2.1, r.1.2.2.1, r.1.2.2.2.1, r.1.2.2.2.2, r.2.1, r.2.2)
theorem parse_ev (s : ByteArray) (hs : s.size ≤ 2000000) (ts : List ByteArray) (hT : ts.length ≤ 8) (hz : ∀ t ∈ ts, t.size ≤ 30) :
    Ev (fun k => prices_Parse.f k s ts) (if namesOk ts = true then fl7 (goB ts (splitL 10 s.data.toList) 0 (defT ts.length)) else ([], [], [], 0, 0, 0, 1)) := by
  have hz' : ∀ t ∈ ts, t.size ≤ 140737488355328 := fun t ht => by have := hz t ht; omega
  obtain ⟨d1, d2, d3⟩ := def_ev ts.length hT
  obtain ⟨K, hK⟩ := names_ev ts hz'
  obtain ⟨K', hK'⟩ := d1
  cases hn : namesOk ts with
  | true =>
    rw [hn] at hK
    exact ⟨K + K', fun k hk => parse_goB k s hs ts _ (hK k (by omega)) (hK' k (by omega)) d2⟩
  | false =>
    rw [hn] at hK
    refine ⟨K, fun k hk => ?_⟩
    show prices_Parse.f k s ts = _
    unfold prices_Parse.f
    have := hK k hk
    simp only at this
    rw [this]
    rfl
end Go.Proofs.YtdcfcpgpbbgceaaGreatDoor.Pl
