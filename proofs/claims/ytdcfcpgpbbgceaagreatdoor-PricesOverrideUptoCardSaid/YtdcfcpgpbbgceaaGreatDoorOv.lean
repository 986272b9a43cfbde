import Derived.Test.YtdcfcpgpbbgceaaGreatDoorRv
import Derived.Test.YtdcfcpgpbbgceaaGreatDoorPc
namespace Go.Proofs.YtdcfcpgpbbgceaaGreatDoor.Pl
open Go.RowKit Go.Proofs.YtdcfcpgpbbgceaaGreatDoorW.PrintWords Go.Proofs.YtdcfcpgpbbgceaaGreatDoorW.PrintLast Go.Proofs.YtdcfcpgpbbgceaaGreatDoor.PAll
open PAll.prices_Format (lastB lineB lineL kwI kwD kwR kwS kwU)
open PAll.prices_Parse (idxP idxFrom idxP_rg applyP zeroP PT apQ apFin preB)
open PAll.prices_form (kIns kDel kRep kSwap kUnk kNever sizeK formP)
open PAll.prices_number (numP)
set_option linter.unusedVariables false
set_option linter.unusedSimpArgs false
variable {ts : List ByteArray} {P : PT}
theorem set_ins (hn : namesOk ts = true) (a : Nat) (ha : a < ts.length) (x : Int) (h0 : 1 ≤ x) (h1 : x ≤ 1000) : RunsTo ts (lineB [kwI, ts.getD a ByteArray.empty] x) P (P.1.set a x, P.2) := by
  rw [lineB3]
  obtain ⟨t1, t2, t3⟩ := names_at hn a ha
  have hl := last_num x (by omega) h1
  have hw := line_words3 kwI _ _ key_plain.1.1 t1 hl.2.1 key_plain.1.2 t2 hl.2.2
  refine RunsTo.line hw.1 hw.2 (by simp) ?_ ?_
  · unfold formW formP
    show (decide (sizeK kwI = 3) && ((numP (lastB x)).2 || _)) = true
    rw [hl.1]; rfl
  · unfold applyP
    show (if ([ts.getD a ByteArray.empty].all fun s => decide (0 ≤ idxP ts s)) = true then apQ P kwI (idxP ts (ts.getD a ByteArray.empty)) (idxP ts (lastB x)) (numP (lastB x)).1 (numP (lastB x)).2 else (4, P)) = _
    rw [List.all_cons, List.all_nil, t3, decide_eq_true (show (0 : Int) ≤ (a : Int) by omega), show (true && true) = true from rfl, if_pos rfl, hl.1]
    show (if (1 : Int) ≤ x ∧ x ≤ 1000 then _ else _) = _
    rw [if_pos ⟨h0, h1⟩]
    rfl
theorem set_del (hn : namesOk ts = true) (a : Nat) (ha : a < ts.length) (x : Int) (h0 : 1 ≤ x) (h1 : x ≤ 1000) : RunsTo ts (lineB [kwD, ts.getD a ByteArray.empty] x) P (P.1, P.2.1.set a x, P.2.2) := by
  rw [lineB3]
  obtain ⟨t1, t2, t3⟩ := names_at hn a ha
  have hl := last_num x (by omega) h1
  have hw := line_words3 kwD _ _ key_plain.2.1.1 t1 hl.2.1 key_plain.2.1.2 t2 hl.2.2
  refine RunsTo.line hw.1 hw.2 (by simp) ?_ ?_
  · unfold formW formP
    show (decide (sizeK kwD = 3) && ((numP (lastB x)).2 || _)) = true
    rw [hl.1]; rfl
  · unfold applyP
    show (if ([ts.getD a ByteArray.empty].all fun s => decide (0 ≤ idxP ts s)) = true then apQ P kwD (idxP ts (ts.getD a ByteArray.empty)) (idxP ts (lastB x)) (numP (lastB x)).1 (numP (lastB x)).2 else (4, P)) = _
    rw [List.all_cons, List.all_nil, t3, decide_eq_true (show (0 : Int) ≤ (a : Int) by omega), show (true && true) = true from rfl, if_pos rfl, hl.1]
    show (if (1 : Int) ≤ x ∧ x ≤ 1000 then _ else _) = _
    rw [if_pos ⟨h0, h1⟩]
    rfl
theorem set_never (hn : namesOk ts = true) (a b : Nat) (ha : a < ts.length) (hb : b < ts.length) (hab : a ≠ b) :
    RunsTo ts (lineB [kwR, ts.getD a ByteArray.empty, ts.getD b ByteArray.empty] (-1)) P (P.1, P.2.1, P.2.2.1.set a ((P.2.2.1.getD a []).set b (-1)), P.2.2.2) := by
  have h := line_rep (P := P) hn a b ha hb hab (-1) (.inl rfl)
  rw [if_neg (by decide)] at h
  unfold lineL at h
  rw [if_neg (by decide)] at h
  exact h
def last5 : List UInt8 := [117, 110, 107, 110, 111, 119, 110, 32, 53]
theorem words5 : words last5 = [kwU, ⟨#[53]⟩] := by kernel_rfl
theorem form5 : formW (words last5) = true := by kernel_rfl
theorem apply5 (P : PT) (ts : List ByteArray) : applyP P (words last5) ts = (0, (P.1, P.2.1, P.2.2.1, P.2.2.2.1, 5)) := by rw [words5]; rfl
theorem run5 (ts : List ByteArray) (i : Nat) (P : PT) : goB ts (splitL 10 last5) i P = ((P.1, P.2.1, P.2.2.1, P.2.2.2.1, 5), 0, 0) := by
  rw [splitL_none 10 last5 (by decide), goB, if_neg (by rw [words5]; simp), if_pos form5, apply5, if_pos rfl]
  rfl
def moreL (ts : List ByteArray) (a b : Nat) (x : Int) : List UInt8 := lineB [kwI, ts.getD a ByteArray.empty] x ++ lineB [kwD, ts.getD a ByteArray.empty] 9 ++ lineB [kwR, ts.getD a ByteArray.empty, ts.getD b ByteArray.empty] (-1) ++ last5
def over (P : PT) (a b : Nat) (x : Int) : PT := (P.1.set a x, P.2.1.set a 9, P.2.2.1.set a ((P.2.2.1.getD a []).set b (-1)), P.2.2.2.1, 5)
theorem over_run (hn : namesOk ts = true) (a b : Nat) (ha : a < ts.length) (hb : b < ts.length) (hab : a ≠ b) (x : Int) (h0 : 1 ≤ x) (h1 : x ≤ 1000) (X : List UInt8) (P0 : PT) (hc : (goB ts (splitL 10 X) 0 P0).2.2 = 0) :
    goB ts (splitL 10 (X ++ 10 :: moreL ts a b x)) 0 P0 = (over (goB ts (splitL 10 X) 0 P0).1 a b x, 0, 0) := by
  rw [splitL_at, goB_append, if_pos hc]
  generalize (goB ts (splitL 10 X) 0 P0).1 = P
  have r1 := set_ins (P := P) hn a ha x h0 h1
  have r2 := set_del (P := (P.1.set a x, P.2)) hn a ha 9 (by decide) (by decide)
  have r3 := set_never (P := (P.1.set a x, P.2.1.set a 9, P.2.2)) hn a b ha hb hab
  obtain ⟨j, hj⟩ := ((r1.app r2).app r3) last5 (0 + (splitL 10 X).length)
  unfold moreL
  rw [hj, run5]
  rfl
theorem names3Ok : namesOk T3 = true := by kernel_rfl
end Go.Proofs.YtdcfcpgpbbgceaaGreatDoor.Pl
