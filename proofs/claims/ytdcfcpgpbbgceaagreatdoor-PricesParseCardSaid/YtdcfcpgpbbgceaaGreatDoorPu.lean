import Derived.Test.YtdcfcpgpbbgceaaGreatDoorPt
import Derived.Test.YtdcfcpgpbbgceaaGreatDoorPAllx11
namespace Go.Proofs.YtdcfcpgpbbgceaaGreatDoor.Pl
open Go.RowKit Go.Proofs.YtdcfcpgpbbgceaaGreatDoorW.PrintWords Go.Proofs.YtdcfcpgpbbgceaaGreatDoorW.PrintLast Go.Proofs.YtdcfcpgpbbgceaaGreatDoor.PAll
open PAll.prices_Parse (idxP idxFrom idxP_rg applyP zeroP PT apQ apFin preB)
set_option linter.unusedVariables false
set_option linter.unusedSimpArgs false
variable {s : ByteArray} {ts : List ByteArray}
def wordsOf (row : List UInt8) (skip : Bool) (h : List UInt8) : List ByteArray := (scanF [] (if skip = true then row else row ++ h.takeWhile (· != 35))).map of
def goW (ts : List ByteArray) (w : List ByteArray) (t : List (List UInt8)) (j : Nat) (P : PT) : PT × Int × Int :=
  if w = [] then goB ts t (j + 1) P else if lineC P w ts = 0 then goB ts t (j + 1) (applyP P w ts).2 else (zeroP, j + 1, lineC P w ts)
theorem goB_goW (ts : List ByteArray) (l : List UInt8) (t : List (List UInt8)) (j : Nat) (P : PT) : goB ts (l :: t) j P = goW ts (words l) t j P := by
  rw [goB]
  unfold goW lineC
  by_cases h0 : words l = []
  · rw [if_pos h0, if_pos h0]
  · rw [if_neg h0, if_neg h0]
    by_cases hf : formW (words l) = true
    · rw [if_pos hf, if_pos hf]
    · rw [if_neg hf, if_neg hf, if_neg (show ¬ (3 : Int) = 0 by decide)]
theorem lineC_vok {P : PT} {w : List ByteArray} (hP : vokP P ts.length) (h : lineC P w ts = 0) : vokP (applyP P w ts).2 ts.length := by
  unfold lineC at h
  by_cases hf : formW w = true
  · rw [if_pos hf] at h; exact apply_vok hP hf h
  · rw [if_neg hf] at h; exact absurd h (by decide)
theorem end_line (hT : ts.length ≤ 8) (row : List UInt8) (skip : Bool) (hrow : row.length ≤ 1000) (i j : Nat) (hi : i ≤ 1000) (hj : j ≤ 1000) (P : PT) (hP : vokP P ts.length) (t : List (List UInt8))
    (hnext : ∀ P' : PT, vokP P' ts.length → Ev (fun k => emendateref34_Parse.l0 k s ts (of []) false ((j + 2 : Nat) : Int) ((i + 1 : Nat) : Int) P'.1 P'.2.1 P'.2.2.1 P'.2.2.2.1 P'.2.2.2.2) (fl7 (goB ts t (j + 1) P'))) :
    Ev (fun k => emendateref34_Parse.j1 k s ts (of row) skip ((j + 1 : Nat) : Int) (i : Int) false P.1 P.2.1 P.2.2.1 P.2.2.2.1 P.2.2.2.2) (fl7 (goW ts ((scanF [] row).map of) t j P)) := by
  have hf := fields_ev row (by omega)
  have e1 : wrap64 (((j + 1 : Nat) : Int) + 1) = ((j + 2 : Nat) : Int) := by rw [IntWalk.wrap64_in _ (by omega)]; omega
  have e2 : wrap64 ((i : Int) + 1) = ((i + 1 : Nat) : Int) := by rw [IntWalk.wrap64_in _ (by omega)]; rfl
  generalize hw : (scanF [] row).map of = w at *
  refine Ev.step (f := fun k => (emendateref34_fields.f k (of row)).bind fun t318 => if (t318.length : Int) > 0 then ((emendateref34_line.f k P.1 P.2.1 P.2.2.1 P.2.2.2.1 P.2.2.2.2 t318 ts).bind fun b => if b.2.2.2.2.2 = 0 then emendateref34_Parse.l0 k s ts (of []) false ((j + 2 : Nat) : Int) ((i + 1 : Nat) : Int) b.1 b.2.1 b.2.2.1 b.2.2.2.1 b.2.2.2.2.1 else some ([], [], [], 0, 0, ((j + 1 : Nat) : Int), b.2.2.2.2.2)) else emendateref34_Parse.l0 k s ts (of []) false ((j + 2 : Nat) : Int) ((i + 1 : Nat) : Int) P.1 P.2.1 P.2.2.1 P.2.2.2.1 P.2.2.2.2) (fun k => ?_) (Ev.bind hf ?_)
  · conv => lhs; unfold emendateref34_Parse.j1
    rw [if_neg Bool.false_ne_true, e1, e2]
  · unfold goW
    by_cases h0 : w = []
    · have hz : ¬ (w.length : Int) > 0 := by rw [h0]; decide
      simp only [if_pos h0, if_neg hz]
      exact hnext P hP
    · have hl : 0 < w.length := List.length_pos_iff.2 h0
      simp only [if_neg h0, if_pos (show (w.length : Int) > 0 by omega)]
      obtain ⟨r, h1, h2, h3⟩ := line_ev (w := w) hP hT hl
      refine Ev.bind h1 ?_
      simp only [h2]
      by_cases hc : lineC P w ts = 0
      · simp only [if_pos hc]
        rw [h3 hc]
        exact hnext _ (lineC_vok hP hc)
      · simp only [if_neg hc]
        exact Ev.now _
theorem parse_loop (hs : s.size ≤ 500) (hT : ts.length ≤ 8) : ∀ (m i : Nat) (row : List UInt8) (skip : Bool) (j : Nat) (P : PT), i + m = s.size → vokP P ts.length → row.length ≤ i → j ≤ i →
    ∀ h t, splitL 10 (s.data.toList.drop i) = h :: t → Ev (fun k => emendateref34_Parse.l0 k s ts (of row) skip ((j + 1 : Nat) : Int) (i : Int) P.1 P.2.1 P.2.2.1 P.2.2.2.1 P.2.2.2.2) (fl7 (goW ts (wordsOf row skip h) t j P))
  | m, i, row, skip, j, P, hm, hP, hr, hj, h, t, hsp => by
    have hlen : s.data.toList.length = s.size := rfl
    have wo : wordsOf row skip [] = (scanF [] row).map of := by
      unfold wordsOf
      cases skip <;> simp
    cases m with
    | zero =>
      have hi : i = s.size := by omega
      rw [List.drop_eq_nil_iff.2 (by omega)] at hsp
      have e : splitL 10 [] = [[]] := rfl
      rw [e] at hsp
      injection hsp with a1 a2
      subst a1; subst a2
      rw [wo]
      refine Ev.step (f := fun k => emendateref34_Parse.j1 k s ts (of row) skip ((j + 1 : Nat) : Int) (i : Int) false P.1 P.2.1 P.2.2.1 P.2.2.2.1 P.2.2.2.2) (fun k => ?_) (end_line hT row skip (by omega) i j (by omega) (by omega) P hP [] (fun P' _ => ?_))
      · conv => lhs; unfold emendateref34_Parse.l0
        rw [if_pos (by omega), if_neg (by omega)]
      · refine Ev.step (f := fun _ => some (fl7 (goB ts [] (j + 1) P'))) (fun k => ?_) (Ev.now _)
        conv => lhs; unfold emendateref34_Parse.l0
        rw [if_neg (by omega)]
        rfl
    | succ m =>
      have hi : i < s.size := by omega
      have hi' : i < s.data.toList.length := hi
      rw [List.drop_eq_getElem_cons hi', splitL_cons] at hsp
      have hb : bt s (i : Int) = ((s.data.toList[i]).toNat : Int) := bt_nat s i hi
      have hext := extract_one s i hi
      obtain ⟨h', t', hsp'⟩ : ∃ h' t', splitL 10 (s.data.toList.drop (i + 1)) = h' :: t' := by
        cases e : splitL 10 (s.data.toList.drop (i + 1)) with
        | nil => exact absurd e (splitL_ne _ _)
        | cons a b => exact ⟨a, b, rfl⟩
      rw [hsp'] at hsp
      generalize s.data.toList[i] = b at hb hsp hext
      have bnat : ∀ c : UInt8, ((b.toNat : Int) = (c.toNat : Int)) ↔ b = c := fun c => ⟨fun e => UInt8.toNat_inj.1 (by omega), fun e => by rw [e]⟩
      have st : ∀ k, emendateref34_Parse.l0 (k + 1) s ts (of row) skip ((j + 1 : Nat) : Int) (i : Int) P.1 P.2.1 P.2.2.1 P.2.2.2.1 P.2.2.2.2 = emendateref34_Parse.j1 k s ts (of row) skip ((j + 1 : Nat) : Int) (i : Int) (!decide (b = 10)) P.1 P.2.1 P.2.2.1 P.2.2.2.1 P.2.2.2.2 := by
        intro k
        conv => lhs; unfold emendateref34_Parse.l0
        rw [if_pos (by omega), if_pos (by omega), if_pos (by omega), hb]
        have e10 : ((b.toNat : Int) != 10) = !decide (b = 10) := by
          by_cases c : b = 10
          · rw [decide_eq_true c, c]; rfl
          · rw [decide_eq_false c]
            have : ¬ (b.toNat : Int) = 10 := fun e => c ((bnat 10).1 e)
            simp [this]
        rw [e10]
      refine Ev.step st ?_
      by_cases c10 : b = 10
      · rw [if_pos c10] at hsp
        injection hsp with a1 a2
        subst a1; subst a2
        rw [decide_eq_true c10, wo]
        refine end_line hT row skip (by omega) i j (by omega) (by omega) P hP _ (fun P' hP' => ?_)
        rw [goB_goW]
        exact parse_loop hs hT m (i + 1) [] false (j + 1) P' (by omega) hP' (by simp) (by omega) h' t' hsp'
      · rw [if_neg c10] at hsp
        simp only [List.cons.injEq] at hsp
        obtain ⟨a1, a2⟩ := hsp
        subst a1; subst a2
        rw [decide_eq_false c10, Bool.not_false]
        have e2 : wrap64 ((i : Int) + 1) = ((i + 1 : Nat) : Int) := by rw [IntWalk.wrap64_in _ (by omega)]; rfl
        cases skip with
        | true =>
          have ih := parse_loop hs hT m (i + 1) row true j P (by omega) hP (by omega) (by omega) h' t' hsp'
          refine Ev.step (fun k => ?_) ih
          conv => lhs; unfold emendateref34_Parse.j1
          rw [if_pos rfl, if_pos rfl, e2]
        | false =>
          by_cases c35 : b = 35
          · have ih := parse_loop hs hT m (i + 1) row true j P (by omega) hP (by omega) (by omega) h' t' hsp'
            have ew : wordsOf row false (b :: h') = wordsOf row true h' := by
              unfold wordsOf
              rw [if_neg Bool.false_ne_true, if_pos rfl, c35, List.takeWhile_cons, if_neg (by decide), List.append_nil]
            rw [ew]
            refine Ev.step (fun k => ?_) ih
            conv => lhs; unfold emendateref34_Parse.j1
            have e35 : (b.toNat : Int) = 35 := by rw [c35]; rfl
            rw [if_pos rfl, if_neg Bool.false_ne_true, if_pos (by omega), if_pos (by omega), hb, if_pos e35, e2, e35]
            rfl
          · have ih := parse_loop hs hT m (i + 1) (row ++ [b]) false j P (by omega) hP (by rw [List.length_append]; simp; omega) (by omega) h' t' hsp'
            have ew : wordsOf row false (b :: h') = wordsOf (row ++ [b]) false h' := by
              unfold wordsOf
              rw [if_neg Bool.false_ne_true, if_neg Bool.false_ne_true, List.takeWhile_cons, if_pos (by simpa using c35), List.append_assoc, List.singleton_append]
            rw [ew]
            refine Ev.step (fun k => ?_) ih
            have n35 : ¬ (b.toNat : Int) = 35 := fun e => c35 ((bnat 35).1 e)
            have e1 : (((i + 1 : Nat) : Int)).toNat = i + 1 := rfl
            conv => lhs; unfold emendateref34_Parse.j1
            rw [if_pos rfl, if_neg Bool.false_ne_true, if_pos (by omega), if_pos (by omega), hb, if_neg n35, e2, if_pos (by omega), if_pos (by omega), e1, show ((i : Int)).toNat = i from rfl, hext,
              if_pos (by rw [of_size, of_size]; simp; omega), of_app, show ((b.toNat : Int) == 35) = false from beq_eq_false_iff_ne.2 n35]
def defR_ok (m : Int) : Bool := decide (emendateref34_Default.f 100 m = prices_Default.f 100 m)
theorem defR_all : ((List.range 9).all fun T => defR_ok (T : Int)) = true := by kernel_rfl
theorem defR_ev (T : Nat) (h : T ≤ 8) : Ev (fun k => emendateref34_Default.f k (T : Int)) (defT T) := by
  have h1 := List.all_eq_true.1 defR_all T (List.mem_range.2 (by omega))
  unfold defR_ok at h1
  rw [decide_eq_true_eq] at h1
  have h2 := List.all_eq_true.1 def_all T (List.mem_range.2 (by omega))
  simp only [Bool.and_eq_true, decide_eq_true_eq] at h2
  exact Ev.of (fun k => emendateref34_Default.mono _ k) (h1.trans h2.1)
theorem parseR_ev (s : ByteArray) (hs : s.size ≤ 500) (ts : List ByteArray) (hT : ts.length ≤ 8) (hz : ∀ t ∈ ts, t.size ≤ 30) :
    Ev (fun k => emendateref34_Parse.f k s ts) (if namesOk ts = true then fl7 (goB ts (splitL 10 s.data.toList) 0 (defT ts.length)) else ([], [], [], 0, 0, 0, 1)) := by
  have hz' : ∀ t ∈ ts, t.size ≤ 140737488355328 := fun t ht => by have := hz t ht; omega
  unfold emendateref34_Parse.f
  refine Ev.bind (namesR_ev ts hz') ?_
  cases hn : namesOk ts with
  | false => exact Ev.now _
  | true =>
    simp only [if_true]
    refine Ev.bind (defR_ev ts.length hT) ?_
    obtain ⟨h, t, hsp⟩ : ∃ h t, splitL 10 s.data.toList = h :: t := by
      cases e : splitL 10 s.data.toList with
      | nil => exact absurd e (splitL_ne _ _)
      | cons a b => exact ⟨a, b, rfl⟩
    rw [hsp, goB_goW]
    have := parse_loop (s := s) hs hT s.size 0 [] false 0 (defT ts.length) (by omega) (def_ev ts.length hT).2.2 (by simp) (by omega) h t (by simpa using hsp)
    exact this
end Go.Proofs.YtdcfcpgpbbgceaaGreatDoor.Pl
