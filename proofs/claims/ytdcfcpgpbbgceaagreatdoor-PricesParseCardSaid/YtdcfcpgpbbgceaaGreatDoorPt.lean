import Derived.Test.YtdcfcpgpbbgceaaGreatDoorPs
import Derived.Test.YtdcfcpgpbbgceaaGreatDoorPAllx18
namespace Go.Proofs.YtdcfcpgpbbgceaaGreatDoor.Pl
open Go.RowKit Go.Proofs.YtdcfcpgpbbgceaaGreatDoorW.PrintWords Go.Proofs.YtdcfcpgpbbgceaaGreatDoorW.PrintLast Go.Proofs.YtdcfcpgpbbgceaaGreatDoor.PAll
open PAll.prices_Parse (idxP idxFrom idxP_rg applyP zeroP PT apQ apFin preB)
open PAll.prices_form (kIns kDel kRep kSwap kUnk kNever sizeK formP)
open PAll.prices_number (numP numVal isDig)
set_option linter.unusedVariables false
set_option linter.unusedSimpArgs false
variable {P : PT} {w ts : List ByteArray}
theorem num_nonneg (s : ByteArray) (h : (numP s).2 = true) : 0 ≤ (numP s).1 := by
  unfold numP at h ⊢
  by_cases hc : 1 ≤ s.size ∧ s.size ≤ 9 ∧ s.data.toList.all isDig = true
  · rw [if_pos hc]
    have key : ∀ (l : List UInt8) (v : Int), l.all isDig = true → 0 ≤ v → 0 ≤ l.foldl (fun (a : Int) b => a * 10 + ((b.toNat : Int) - 48)) v := by
      intro l
      induction l with
      | nil => intro v _ hv; exact hv
      | cons b l ih =>
        intro v ha hv
        rw [List.all_cons, Bool.and_eq_true] at ha
        have hb : 48 ≤ (b.toNat : Int) := by
          have := ha.1
          unfold isDig at this
          rw [Bool.and_eq_true, decide_eq_true_eq] at this
          have h2 : (48 : UInt8).toNat ≤ b.toNat := this.1
          have h3 : (48 : UInt8).toNat = 48 := rfl
          omega
        exact ih (v * 10 + ((b.toNat : Int) - 48)) ha.2 (by omega)
    exact key _ 0 hc.2.2 (by omega)
  · rw [if_neg hc] at h; cases h
def lineC (P : PT) (w ts : List ByteArray) : Int := if formW w = true then (applyP P w ts).1 else 3
def lineOk (P : PT) (w ts : List ByteArray) (r : List Int × List Int × (List (List Int)) × Int × Int × Int) : Prop := r.2.2.2.2.2 = lineC P w ts ∧ (lineC P w ts = 0 → r = pk (applyP P w ts).2 0)
theorem fin_pair (v : Int) (ok : Bool) (low : Int) (g : Int → PT) (P : PT) (x : Int) (hx : x = if ok = true then v else -1) :
    (apFin v ok low g P).1 = (if ok = false then 0 else if low ≤ x ∧ x ≤ 1000 then 0 else 2) ∧ ((apFin v ok low g P).1 = 0 → (apFin v ok low g P).2 = g x) := by
  unfold apFin
  cases ok with
  | false => rw [if_neg Bool.false_ne_true] at hx; subst hx; exact ⟨rfl, fun _ => rfl⟩
  | true =>
    rw [if_pos rfl] at hx; subst hx
    rw [if_pos rfl]
    by_cases h : low ≤ x ∧ x ≤ 1000
    · rw [if_pos h]; exact ⟨by rw [if_neg (by decide), if_pos h], fun _ => rfl⟩
    · rw [if_neg h]; exact ⟨by rw [if_neg (by decide), if_neg h], fun e => absurd e (show ¬ (2 : Int) = 0 by decide)⟩
theorem len1 {l : List ByteArray} (h : l.length = 2) : ∃ a b, l = [a, b] := by
  rcases l with _ | ⟨a, _ | ⟨b, _ | ⟨c, r⟩⟩⟩ <;> simp at h
  exact ⟨a, b, rfl⟩
theorem len2 {l : List ByteArray} (h : l.length = 3) : ∃ a b c, l = [a, b, c] := by
  rcases l with _ | ⟨a, _ | ⟨b, _ | ⟨c, _ | ⟨d, r⟩⟩⟩⟩ <;> simp at h
  exact ⟨a, b, c, rfl⟩
theorem len3 {l : List ByteArray} (h : l.length = 4) : ∃ a b c d, l = [a, b, c, d] := by
  rcases l with _ | ⟨a, _ | ⟨b, _ | ⟨c, _ | ⟨d, _ | ⟨e, r⟩⟩⟩⟩⟩ <;> simp at h
  exact ⟨a, b, c, d, rfl⟩
theorem line_one_name (hP : vokP P ts.length) (hT : ts.length ≤ 8) (hw : 0 < w.length) (hq : w.getD 0 ByteArray.empty = kIns ∨ w.getD 0 ByteArray.empty = kDel) :
    ∃ r, Ev (fun k => emendateref34_line.j1 k w ts 1 1 P.1 P.2.1 P.2.2.1 P.2.2.2.1 P.2.2.2.2) r ∧ lineOk P w ts r := by
  have hne : ¬ w.getD 0 ByteArray.empty = kRep := by rcases hq with h | h <;> rw [h] <;> decide
  have hsz : sizeK (w.getD 0 ByteArray.empty) = 3 := by rcases hq with h | h <;> rw [h] <;> rfl
  have hnev : (decide (w.getD 0 ByteArray.empty = kRep) && decide (w.getD (1 + 1) ByteArray.empty = kNever)) = false := by rw [decide_eq_false hne, Bool.false_and]
  by_cases hl : w.length = 3
  · by_cases hneg : numR (w.getD 2 ByteArray.empty) < 0
    · have hok : (numP (w.getD 2 ByteArray.empty)).2 = false := by
        cases h : (numP (w.getD 2 ByteArray.empty)).2 with
        | false => rfl
        | true => have := num_nonneg _ h; unfold numR at hneg; rw [if_pos h] at hneg; omega
      have hf : formW w = false := by
        unfold formW formP
        rw [hl, show (3 : Nat) - 1 = 2 from rfl, hok, decide_eq_false hne]
        simp
      refine ⟨pk P 3, ?_, ?_, ?_⟩
      · have h := s1 (P := P) (w := w) (ts := ts) 1 1 (by omega) hw (pk P 3) (fun _ h => by have := h hneg; rw [hnev] at this; cases this)
        rw [if_pos (by omega), if_pos ⟨hneg, hnev⟩] at h
        exact h
      · unfold lineC; rw [if_neg (by rw [hf]; decide)]; rfl
      · unfold lineC; rw [if_neg (by rw [hf]; decide)]; intro h; exact absurd h (by decide)
    · have hok : (numP (w.getD 2 ByteArray.empty)).2 = true := by
        cases h : (numP (w.getD 2 ByteArray.empty)).2 with
        | true => rfl
        | false => exfalso; apply hneg; unfold numR; rw [h, if_neg Bool.false_ne_true]; decide
      have hx : numR (w.getD 2 ByteArray.empty) = (numP (w.getD 2 ByteArray.empty)).1 := by unfold numR; rw [if_pos hok]
      have hf : formW w = true := by
        unfold formW formP
        rw [hl, show (3 : Nat) - 1 = 2 from rfl, hok, hsz]
        rfl
      have hr := idxP_rg ts (w.getD (0 + 1) ByteArray.empty)
      have h5 := sl_0 (P := P) (w := w) hP hT hw (numR (w.getD 2 ByteArray.empty)) 1 false (idxP ts (w.getD (0 + 1) ByteArray.empty)) 0 1 (.inr rfl)
      have hstep := sl_step (P := P) (w := w) hT (numR (w.getD 2 ByteArray.empty)) 1 1 false 0 0 0 (by omega) (by decide) (by omega) _ (fun hge => h5 (fun _ => ⟨by omega, by omega⟩) hne)
      have h := s1 (P := P) (w := w) (ts := ts) 1 1 (by omega) hw _ (fun _ _ => by rw [hnev]; exact hstep)
      rw [if_pos (by omega), if_neg (fun e => hneg e.1)] at h
      refine ⟨_, h, ?_⟩
      have happ : applyP P w ts = if 0 ≤ idxP ts (w.getD 1 ByteArray.empty) then apQ P (w.getD 0 ByteArray.empty) (idxP ts (w.getD 1 ByteArray.empty)) (idxP ts (w.getD 2 ByteArray.empty)) (numP (w.getD 2 ByteArray.empty)).1 (numP (w.getD 2 ByteArray.empty)).2 else (4, P) := by
        obtain ⟨a, b, c, rfl⟩ := len2 hl
        unfold applyP
        show (if ([b].all fun s => decide (0 ≤ idxP ts s)) = true then _ else _) = _
        rw [List.all_cons, List.all_nil, Bool.and_true]
        by_cases h0 : 0 ≤ idxP ts b
        · rw [decide_eq_true h0, if_pos rfl]
          show _ = if 0 ≤ idxP ts b then _ else _
          rw [if_pos h0]; rfl
        · rw [decide_eq_false h0, if_neg (by decide)]
          show _ = if 0 ≤ idxP ts b then _ else _
          rw [if_neg h0]
      have hc : lineC P w ts = (applyP P w ts).1 := by unfold lineC; rw [if_pos hf]
      unfold lineOk
      rw [hc, happ]
      show (if idxP ts (w.getD 1 ByteArray.empty) < 0 then pk P 4 else _).2.2.2.2.2 = _ ∧ _
      by_cases h0 : 0 ≤ idxP ts (w.getD 1 ByteArray.empty)
      · rw [if_neg (show ¬ idxP ts (w.getD 1 ByteArray.empty) < 0 by omega), if_pos h0]
        have hap : apQ P (w.getD 0 ByteArray.empty) (idxP ts (w.getD 1 ByteArray.empty)) (idxP ts (w.getD 2 ByteArray.empty)) (numP (w.getD 2 ByteArray.empty)).1 (numP (w.getD 2 ByteArray.empty)).2 = apFin (numP (w.getD 2 ByteArray.empty)).1 (numP (w.getD 2 ByteArray.empty)).2 1 (fun x => setQ P (w.getD 0 ByteArray.empty) (idxP ts (w.getD 1 ByteArray.empty)) 0 x) P := by
          unfold apQ setQ
          rcases hq with h | h
          · rw [if_pos h]; congr 1; funext x; rw [if_pos h]
          · have hni : ¬ w.getD 0 ByteArray.empty = kIns := by rw [h]; decide
            rw [if_neg hni, if_pos h]; congr 1; funext x; rw [if_neg hni, if_pos h]
        rw [hap]
        have hfp := fin_pair (numP (w.getD 2 ByteArray.empty)).1 (numP (w.getD 2 ByteArray.empty)).2 1 (fun x => setQ P (w.getD 0 ByteArray.empty) (idxP ts (w.getD 1 ByteArray.empty)) 0 x) P (numR (w.getD 2 ByteArray.empty)) rfl
        unfold r5
        rw [if_neg Bool.false_ne_true, if_neg Bool.false_ne_true]
        obtain ⟨f1, f2⟩ := hfp
        rw [hok, if_neg (show ¬ true = false by decide)] at f1
        rw [hok] at f2 ⊢
        by_cases hrg : 1 ≤ numR (w.getD 2 ByteArray.empty) ∧ numR (w.getD 2 ByteArray.empty) ≤ 1000
        · rw [if_pos hrg] at f1 ⊢
          exact ⟨f1.symm, fun e => by rw [f2 e]⟩
        · rw [if_neg hrg] at f1 ⊢
          exact ⟨f1.symm, fun e => by rw [f1] at e; exact absurd e (show ¬ (2 : Int) = 0 by decide)⟩
      · rw [if_pos (show idxP ts (w.getD 1 ByteArray.empty) < 0 by omega), if_neg h0]
        exact ⟨rfl, fun e => absurd e (show ¬ (4 : Int) = 0 by decide)⟩
  · have hf : formW w = false := by
      unfold formW formP
      rw [hsz, decide_eq_false (by omega), Bool.false_and]
    refine ⟨pk P 3, ?_, ?_, ?_⟩
    · have h := s1 (P := P) (w := w) (ts := ts) 1 1 (by omega) hw (pk P 3) (fun h => absurd h hl)
      rw [if_neg hl] at h
      exact h
    · unfold lineC; rw [if_neg (by rw [hf]; decide)]; rfl
    · unfold lineC; rw [if_neg (by rw [hf]; decide)]; intro h; exact absurd h (by decide)
theorem line_no_name (hP : vokP P ts.length) (hT : ts.length ≤ 8) (hw : 0 < w.length) (low : Int) (hq : (w.getD 0 ByteArray.empty = kSwap ∧ low = 0) ∨ (w.getD 0 ByteArray.empty = kUnk ∧ low = 1)) :
    ∃ r, Ev (fun k => emendateref34_line.j1 k w ts 0 low P.1 P.2.1 P.2.2.1 P.2.2.2.1 P.2.2.2.2) r ∧ lineOk P w ts r := by
  have hne : ¬ w.getD 0 ByteArray.empty = kRep := by rcases hq with h | h <;> rw [h.1] <;> decide
  have hnI : ¬ w.getD 0 ByteArray.empty = kIns := by rcases hq with h | h <;> rw [h.1] <;> decide
  have hnD : ¬ w.getD 0 ByteArray.empty = kDel := by rcases hq with h | h <;> rw [h.1] <;> decide
  have hsz : sizeK (w.getD 0 ByteArray.empty) = 2 := by rcases hq with h | h <;> rw [h.1] <;> rfl
  have hnev : (decide (w.getD 0 ByteArray.empty = kRep) && decide (w.getD (0 + 1) ByteArray.empty = kNever)) = false := by rw [decide_eq_false hne, Bool.false_and]
  by_cases hl : w.length = 2
  · by_cases hneg : numR (w.getD (0 + 1) ByteArray.empty) < 0
    · have hok : (numP (w.getD (0 + 1) ByteArray.empty)).2 = false := by
        cases h : (numP (w.getD (0 + 1) ByteArray.empty)).2 with
        | false => rfl
        | true => have := num_nonneg _ h; unfold numR at hneg; rw [if_pos h] at hneg; omega
      have hf : formW w = false := by
        unfold formW formP
        rw [hl, show (2 : Nat) - 1 = 0 + 1 from rfl, hok, decide_eq_false hne]
        simp
      refine ⟨pk P 3, ?_, ?_, ?_⟩
      · have h := s1 (P := P) (w := w) (ts := ts) 0 low (by omega) hw (pk P 3) (fun _ h => by have := h hneg; rw [hnev] at this; cases this)
        rw [if_pos (by omega), if_pos ⟨hneg, hnev⟩] at h
        exact h
      · unfold lineC; rw [if_neg (by rw [hf]; decide)]; rfl
      · unfold lineC; rw [if_neg (by rw [hf]; decide)]; intro h; exact absurd h (by decide)
    · have hok : (numP (w.getD (0 + 1) ByteArray.empty)).2 = true := by
        cases h : (numP (w.getD (0 + 1) ByteArray.empty)).2 with
        | true => rfl
        | false => exfalso; apply hneg; unfold numR; rw [h, if_neg Bool.false_ne_true]; decide
      have hf : formW w = true := by
        unfold formW formP
        rw [hl, show (2 : Nat) - 1 = 0 + 1 from rfl, hok, hsz]
        rfl
      have h5 := sl_0 (P := P) (w := w) hP hT hw (numR (w.getD (0 + 1) ByteArray.empty)) low false 0 0 0 (.inl rfl) (fun h => h.elim (fun h => absurd h hnI) (fun h => h.elim (fun h => absurd h hnD) (fun h => absurd h hne))) hne
      have h := s1 (P := P) (w := w) (ts := ts) 0 low (by omega) hw _ (fun _ _ => by rw [hnev]; exact h5)
      rw [if_pos (by omega), if_neg (fun e => hneg e.1)] at h
      refine ⟨_, h, ?_⟩
      have happ : applyP P w ts = apFin (numP (w.getD (0 + 1) ByteArray.empty)).1 (numP (w.getD (0 + 1) ByteArray.empty)).2 low (fun x => setQ P (w.getD 0 ByteArray.empty) 0 0 x) P := by
        obtain ⟨a, b, rfl⟩ := len1 hl
        unfold applyP
        show (if (([] : List ByteArray).all fun s => decide (0 ≤ idxP ts s)) = true then _ else _) = _
        rw [List.all_nil, if_pos rfl]
        change apQ P a (idxP ts b) (idxP ts ByteArray.empty) (numP b).1 (numP b).2 = apFin (numP b).1 (numP b).2 low (fun x => setQ P a 0 0 x) P
        change (a = kSwap ∧ low = 0) ∨ (a = kUnk ∧ low = 1) at hq
        unfold apQ setQ
        rcases hq with ⟨hz, rfl⟩ | ⟨hz, rfl⟩
        · subst hz; rfl
        · subst hz; rfl
      have hc : lineC P w ts = (applyP P w ts).1 := by unfold lineC; rw [if_pos hf]
      unfold lineOk
      rw [hc, happ]
      have hfp := fin_pair (numP (w.getD (0 + 1) ByteArray.empty)).1 (numP (w.getD (0 + 1) ByteArray.empty)).2 low (fun x => setQ P (w.getD 0 ByteArray.empty) 0 0 x) P (numR (w.getD (0 + 1) ByteArray.empty)) rfl
      unfold r5
      rw [if_neg Bool.false_ne_true, if_neg Bool.false_ne_true]
      obtain ⟨f1, f2⟩ := hfp
      rw [hok, if_neg (show ¬ true = false by decide)] at f1
      rw [hok] at f2 ⊢
      by_cases hrg : low ≤ numR (w.getD (0 + 1) ByteArray.empty) ∧ numR (w.getD (0 + 1) ByteArray.empty) ≤ 1000
      · rw [if_pos hrg] at f1 ⊢
        exact ⟨f1.symm, fun e => by rw [f2 e]⟩
      · rw [if_neg hrg] at f1 ⊢
        exact ⟨f1.symm, fun e => by rw [f1] at e; exact absurd e (show ¬ (2 : Int) = 0 by decide)⟩
  · have hf : formW w = false := by
      unfold formW formP
      rw [hsz, decide_eq_false (by omega), Bool.false_and]
    refine ⟨pk P 3, ?_, ?_, ?_⟩
    · have h := s1 (P := P) (w := w) (ts := ts) 0 low (by omega) hw (pk P 3) (fun h => absurd h hl)
      rw [if_neg hl] at h
      exact h
    · unfold lineC; rw [if_neg (by rw [hf]; decide)]; rfl
    · unfold lineC; rw [if_neg (by rw [hf]; decide)]; intro h; exact absurd h (by decide)
theorem line_two_names (hP : vokP P ts.length) (hT : ts.length ≤ 8) (hw : 0 < w.length) (hq : w.getD 0 ByteArray.empty = kRep) :
    ∃ r, Ev (fun k => emendateref34_line.j1 k w ts 2 1 P.1 P.2.1 P.2.2.1 P.2.2.2.1 P.2.2.2.2) r ∧ lineOk P w ts r := by
  have hsz : sizeK (w.getD 0 ByteArray.empty) = 4 := by rw [hq]; rfl
  have hnv : (decide (w.getD 0 ByteArray.empty = kRep) && decide (w.getD (2 + 1) ByteArray.empty = kNever)) = decide (w.getD 3 ByteArray.empty = kNever) := by rw [decide_eq_true hq, Bool.true_and]
  by_cases hl : w.length = 4
  · have hform : formW w = ((numP (w.getD 3 ByteArray.empty)).2 || decide (w.getD 3 ByteArray.empty = kNever)) := by
      unfold formW formP
      rw [hl, show (4 : Nat) - 1 = 3 from rfl, hsz, decide_eq_true hq, Bool.true_and]
      rfl
    have hnn : w.getD 3 ByteArray.empty = kNever → (numP (w.getD 3 ByteArray.empty)).2 = false := fun h => by rw [h]; rfl
    have hnum : numR (w.getD 3 ByteArray.empty) < 0 ↔ (numP (w.getD 3 ByteArray.empty)).2 = false := by
      cases h : (numP (w.getD 3 ByteArray.empty)).2 with
      | false => unfold numR; rw [h, if_neg Bool.false_ne_true]; simp
      | true =>
        have := num_nonneg _ h
        unfold numR
        rw [if_pos h]
        exact ⟨fun e => by omega, fun e => by cases e⟩
    by_cases hbad : numR (w.getD 3 ByteArray.empty) < 0 ∧ decide (w.getD 3 ByteArray.empty = kNever) = false
    · have hf : formW w = false := by rw [hform, hnum.1 hbad.1, hbad.2]; rfl
      refine ⟨pk P 3, ?_, ?_, ?_⟩
      · have h := s1 (P := P) (w := w) (ts := ts) 2 1 (by omega) hw (pk P 3) (fun _ h => by have := h hbad.1; rw [hnv, hbad.2] at this; cases this)
        rw [if_pos (by omega), if_pos ⟨hbad.1, by rw [hnv]; exact hbad.2⟩] at h
        exact h
      · unfold lineC; rw [if_neg (by rw [hf]; decide)]; rfl
      · unfold lineC; rw [if_neg (by rw [hf]; decide)]; intro h; exact absurd h (by decide)
    · have hf : formW w = true := by
        rw [hform]
        cases h : (numP (w.getD 3 ByteArray.empty)).2 with
        | true => rfl
        | false =>
          cases h2 : decide (w.getD 3 ByteArray.empty = kNever) with
          | true => rfl
          | false => exact absurd ⟨hnum.2 h, h2⟩ hbad
      have hr1 := idxP_rg ts (w.getD (0 + 1) ByteArray.empty)
      have hr2 := idxP_rg ts (w.getD (1 + 1) ByteArray.empty)
      have h5 : ¬ idxP ts (w.getD (0 + 1) ByteArray.empty) < 0 → ¬ idxP ts (w.getD (1 + 1) ByteArray.empty) < 0 → Ev (fun k => emendateref34_line.l0 k w ts 2 1 (numR (w.getD 3 ByteArray.empty)) (decide (w.getD 3 ByteArray.empty = kNever)) [idxP ts (w.getD (0 + 1) ByteArray.empty), idxP ts (w.getD (1 + 1) ByteArray.empty)] 2 P.1 P.2.1 P.2.2.1 P.2.2.2.1 P.2.2.2.2)
          (pk (r5 P (w.getD 0 ByteArray.empty) (idxP ts (w.getD (0 + 1) ByteArray.empty)) (idxP ts (w.getD (1 + 1) ByteArray.empty)) (numR (w.getD 3 ByteArray.empty)) 1 (decide (w.getD 3 ByteArray.empty = kNever)) (idxP ts (w.getD (0 + 1) ByteArray.empty) == idxP ts (w.getD (1 + 1) ByteArray.empty))).1 (r5 P (w.getD 0 ByteArray.empty) (idxP ts (w.getD (0 + 1) ByteArray.empty)) (idxP ts (w.getD (1 + 1) ByteArray.empty)) (numR (w.getD 3 ByteArray.empty)) 1 (decide (w.getD 3 ByteArray.empty = kNever)) (idxP ts (w.getD (0 + 1) ByteArray.empty) == idxP ts (w.getD (1 + 1) ByteArray.empty))).2) := by
        intro g1 g2
        refine Ev.step (fun k => ?_) (s5 hP hT hw (idxP ts (w.getD (0 + 1) ByteArray.empty)) (idxP ts (w.getD (1 + 1) ByteArray.empty)) (numR (w.getD 3 ByteArray.empty)) 1 (decide (w.getD 3 ByteArray.empty = kNever)) (idxP ts (w.getD (0 + 1) ByteArray.empty) == idxP ts (w.getD (1 + 1) ByteArray.empty)) (fun _ => ⟨by omega, by omega⟩) (fun _ => ⟨by omega, by omega⟩))
        conv => lhs; unfold emendateref34_line.l0
        try dsimp only
        rw [if_neg (by omega), if_pos rfl, if_pos (by simp), if_pos (by simp), rd0, rd1]
      have st2 : ¬ idxP ts (w.getD (0 + 1) ByteArray.empty) < 0 → _ := fun g1 => sl_step (P := P) (w := w) hT (numR (w.getD 3 ByteArray.empty)) 1 2 (decide (w.getD 3 ByteArray.empty = kNever)) (idxP ts (w.getD (0 + 1) ByteArray.empty)) 0 1 (by omega) (by decide) (by omega) _ (fun g2 => h5 g1 g2)
      have st1 := sl_step (P := P) (w := w) hT (numR (w.getD 3 ByteArray.empty)) 1 2 (decide (w.getD 3 ByteArray.empty = kNever)) 0 0 0 (by omega) (by decide) (by omega) _ (fun g1 => st2 g1)
      have h := s1 (P := P) (w := w) (ts := ts) 2 1 (by omega) hw _ (fun _ _ => by rw [hnv]; exact st1)
      rw [if_pos (by omega), if_neg (fun e => hbad ⟨e.1, by rw [← hnv]; exact e.2⟩)] at h
      refine ⟨_, h, ?_⟩
      have happ : applyP P w ts = if 0 ≤ idxP ts (w.getD (0 + 1) ByteArray.empty) ∧ 0 ≤ idxP ts (w.getD (1 + 1) ByteArray.empty) then (if idxP ts (w.getD (0 + 1) ByteArray.empty) = idxP ts (w.getD (1 + 1) ByteArray.empty) then (1, P) else apFin (numP (w.getD 3 ByteArray.empty)).1 (numP (w.getD 3 ByteArray.empty)).2 1 (fun x => setQ P (w.getD 0 ByteArray.empty) (idxP ts (w.getD (0 + 1) ByteArray.empty)) (idxP ts (w.getD (1 + 1) ByteArray.empty)) x) P) else (4, P) := by
        obtain ⟨a, b, c, d, rfl⟩ := len3 hl
        change a = kRep at hq
        subst hq
        unfold applyP
        change (if ([b, c].all fun s => decide (0 ≤ idxP ts s)) = true then apQ P kRep (idxP ts b) (idxP ts c) (numP d).1 (numP d).2 else (4, P)) = if 0 ≤ idxP ts b ∧ 0 ≤ idxP ts c then (if idxP ts b = idxP ts c then (1, P) else apFin (numP d).1 (numP d).2 1 (fun x => setQ P kRep (idxP ts b) (idxP ts c) x) P) else (4, P)
        rw [List.all_cons, List.all_cons, List.all_nil, Bool.and_true]
        by_cases h0 : 0 ≤ idxP ts b
        · by_cases h1 : 0 ≤ idxP ts c
          · rw [decide_eq_true h0, decide_eq_true h1, show (true && true) = true from rfl, if_pos rfl, if_pos ⟨h0, h1⟩]; rfl
          · rw [decide_eq_true h0, decide_eq_false h1, show (true && false) = false from rfl, if_neg (by decide), if_neg (fun e => h1 e.2)]
        · rw [decide_eq_false h0, Bool.false_and, if_neg (by decide), if_neg (fun e => h0 e.1)]
      have hc : lineC P w ts = (applyP P w ts).1 := by unfold lineC; rw [if_pos hf]
      unfold lineOk
      rw [hc, happ]
      by_cases g1 : idxP ts (w.getD (0 + 1) ByteArray.empty) < 0
      · rw [if_pos g1, if_neg (fun e => by omega)]
        exact ⟨rfl, fun e => absurd e (show ¬ (4 : Int) = 0 by decide)⟩
      by_cases g2 : idxP ts (w.getD (1 + 1) ByteArray.empty) < 0
      · rw [if_neg g1, if_pos g2, if_neg (fun e => by omega)]
        exact ⟨rfl, fun e => absurd e (show ¬ (4 : Int) = 0 by decide)⟩
      rw [if_neg g1, if_neg g2, if_pos ⟨by omega, by omega⟩]
      unfold r5
      by_cases heq : idxP ts (w.getD (0 + 1) ByteArray.empty) = idxP ts (w.getD (1 + 1) ByteArray.empty)
      · rw [if_pos (beq_iff_eq.2 heq), if_pos heq]
        exact ⟨rfl, fun e => absurd e (show ¬ (1 : Int) = 0 by decide)⟩
      · rw [if_neg (fun e => heq (beq_iff_eq.1 e)), if_neg heq]
        have hfp := fin_pair (numP (w.getD 3 ByteArray.empty)).1 (numP (w.getD 3 ByteArray.empty)).2 1 (fun x => setQ P (w.getD 0 ByteArray.empty) (idxP ts (w.getD (0 + 1) ByteArray.empty)) (idxP ts (w.getD (1 + 1) ByteArray.empty)) x) P (numR (w.getD 3 ByteArray.empty)) rfl
        obtain ⟨f1, f2⟩ := hfp
        by_cases hnev : w.getD 3 ByteArray.empty = kNever
        · rw [hnn hnev, if_pos rfl] at f1
          rw [hnn hnev] at f2 ⊢
          rw [decide_eq_true hnev, if_pos rfl]
          exact ⟨f1.symm, fun e => by rw [f2 e]⟩
        · have hok : (numP (w.getD 3 ByteArray.empty)).2 = true := by
            rw [hform, decide_eq_false hnev, Bool.or_false] at hf; exact hf
          rw [hok, if_neg (show ¬ true = false by decide)] at f1
          rw [hok] at f2 ⊢
          rw [decide_eq_false hnev, if_neg Bool.false_ne_true]
          by_cases hrg : 1 ≤ numR (w.getD 3 ByteArray.empty) ∧ numR (w.getD 3 ByteArray.empty) ≤ 1000
          · rw [if_pos hrg] at f1 ⊢
            exact ⟨f1.symm, fun e => by rw [f2 e]⟩
          · rw [if_neg hrg] at f1 ⊢
            exact ⟨f1.symm, fun e => by rw [f1] at e; exact absurd e (show ¬ (2 : Int) = 0 by decide)⟩
  · have hf : formW w = false := by
      unfold formW formP
      rw [hsz, decide_eq_false (by omega), Bool.false_and]
    refine ⟨pk P 3, ?_, ?_, ?_⟩
    · have h := s1 (P := P) (w := w) (ts := ts) 2 1 (by omega) hw (pk P 3) (fun h => absurd h hl)
      rw [if_neg hl] at h
      exact h
    · unfold lineC; rw [if_neg (by rw [hf]; decide)]; rfl
    · unfold lineC; rw [if_neg (by rw [hf]; decide)]; intro h; exact absurd h (by decide)
theorem line_ev (hP : vokP P ts.length) (hT : ts.length ≤ 8) (hw : 0 < w.length) : ∃ r, Ev (fun k => emendateref34_line.f k P.1 P.2.1 P.2.2.1 P.2.2.2.1 P.2.2.2.2 w ts) r ∧ lineOk P w ts r := by
  have e0 : rdOf ByteArray.empty w 0 = w.getD 0 ByteArray.empty := rfl
  have st : ∀ k, emendateref34_line.f k P.1 P.2.1 P.2.2.1 P.2.2.2.1 P.2.2.2.2 w ts = emendateref34_line.j0 k w ts 0 1 (w.getD 0 ByteArray.empty) (decide (w.getD 0 ByteArray.empty = kIns) || decide (w.getD 0 ByteArray.empty = kDel)) P.1 P.2.1 P.2.2.1 P.2.2.2.1 P.2.2.2.2 := by
    intro k
    unfold emendateref34_line.f
    rw [if_pos (by omega), e0, beq_tl (k1 _), beq_tl (k2 _)]
    by_cases c1 : w.getD 0 ByteArray.empty = kIns
    · rw [if_pos ((k1 _).2 c1), decide_eq_true c1, Bool.true_or]
    · rw [if_neg (fun e => c1 ((k1 _).1 e)), decide_eq_false c1, Bool.false_or]
  have go : ∀ r, (∃ g : Nat → Option _, (∀ k, emendateref34_line.j0 (k + 1) w ts 0 1 (w.getD 0 ByteArray.empty) (decide (w.getD 0 ByteArray.empty = kIns) || decide (w.getD 0 ByteArray.empty = kDel)) P.1 P.2.1 P.2.2.1 P.2.2.2.1 P.2.2.2.2 = g k) ∧ Ev g r) → Ev (fun k => emendateref34_line.f k P.1 P.2.1 P.2.2.1 P.2.2.2.1 P.2.2.2.2 w ts) r := by
    rintro r ⟨g, h1, h2⟩
    exact Ev.congr st (Ev.step h1 h2)
  by_cases c1 : w.getD 0 ByteArray.empty = kIns ∨ w.getD 0 ByteArray.empty = kDel
  · obtain ⟨r, h1, h2⟩ := line_one_name hP hT hw c1
    refine ⟨r, go r ⟨_, fun k => ?_, h1⟩, h2⟩
    have e : (decide (w.getD 0 ByteArray.empty = kIns) || decide (w.getD 0 ByteArray.empty = kDel)) = true := by
      rcases c1 with c | c
      · rw [decide_eq_true c, Bool.true_or]
      · rw [decide_eq_true c, Bool.or_true]
    rw [e]
    rfl
  have e : (decide (w.getD 0 ByteArray.empty = kIns) || decide (w.getD 0 ByteArray.empty = kDel)) = false := by
    rw [decide_eq_false (fun h => c1 (.inl h)), decide_eq_false (fun h => c1 (.inr h))]; rfl
  have st0 : ∀ k, emendateref34_line.j0 (k + 1) w ts 0 1 (w.getD 0 ByteArray.empty) (decide (w.getD 0 ByteArray.empty = kIns) || decide (w.getD 0 ByteArray.empty = kDel)) P.1 P.2.1 P.2.2.1 P.2.2.2.1 P.2.2.2.2 =
      if w.getD 0 ByteArray.empty = kRep then emendateref34_line.j1 k w ts 2 1 P.1 P.2.1 P.2.2.1 P.2.2.2.1 P.2.2.2.2 else if w.getD 0 ByteArray.empty = kSwap then emendateref34_line.j1 k w ts 0 0 P.1 P.2.1 P.2.2.1 P.2.2.2.1 P.2.2.2.2 else if w.getD 0 ByteArray.empty = kUnk then emendateref34_line.j1 k w ts 0 1 P.1 P.2.1 P.2.2.1 P.2.2.2.1 P.2.2.2.2 else some (pk P 3) := by
    intro k
    rw [e]
    conv => lhs; unfold emendateref34_line.j0
    try dsimp only
    rw [if_neg Bool.false_ne_true]
    generalize w.getD 0 ByteArray.empty = q
    by_cases c3 : q = kRep
    · rw [if_pos ((k3 _).2 c3), if_pos c3]
    rw [if_neg (fun e => c3 ((k3 _).1 e)), if_neg c3]
    by_cases c4 : q = kSwap
    · rw [if_pos ((k4 _).2 c4), if_pos c4]
    rw [if_neg (fun e => c4 ((k4 _).1 e)), if_neg c4]
    by_cases c5 : q = kUnk
    · rw [if_pos ((k5 _).2 c5), if_pos c5]
    rw [if_neg (fun e => c5 ((k5 _).1 e)), if_neg c5]
    rfl
  by_cases c3 : w.getD 0 ByteArray.empty = kRep
  · obtain ⟨r, h1, h2⟩ := line_two_names hP hT hw c3
    exact ⟨r, go r ⟨_, fun k => by rw [st0 k, if_pos c3], h1⟩, h2⟩
  by_cases c4 : w.getD 0 ByteArray.empty = kSwap
  · obtain ⟨r, h1, h2⟩ := line_no_name hP hT hw 0 (.inl ⟨c4, rfl⟩)
    exact ⟨r, go r ⟨_, fun k => by rw [st0 k, if_neg c3, if_pos c4], h1⟩, h2⟩
  by_cases c5 : w.getD 0 ByteArray.empty = kUnk
  · obtain ⟨r, h1, h2⟩ := line_no_name hP hT hw 1 (.inr ⟨c5, rfl⟩)
    exact ⟨r, go r ⟨_, fun k => by rw [st0 k, if_neg c3, if_neg c4, if_pos c5], h1⟩, h2⟩
  have hf : formW w = false := by
    have hs : sizeK (w.getD 0 ByteArray.empty) = 0 := by
      unfold sizeK
      rw [if_neg (fun h => c1 (.inl h)), if_neg (fun h => c1 (.inr h)), if_neg c3, if_neg c4, if_neg c5]
    unfold formW formP
    rw [hs, decide_eq_false (by omega), Bool.false_and]
  refine ⟨pk P 3, go _ ⟨_, fun k => by rw [st0 k, if_neg c3, if_neg c4, if_neg c5], Ev.now _⟩, ?_, ?_⟩
  · unfold lineC; rw [if_neg (by rw [hf]; decide)]; rfl
  · unfold lineC; rw [if_neg (by rw [hf]; decide)]; intro h; exact absurd h (by decide)
end Go.Proofs.YtdcfcpgpbbgceaaGreatDoor.Pl
