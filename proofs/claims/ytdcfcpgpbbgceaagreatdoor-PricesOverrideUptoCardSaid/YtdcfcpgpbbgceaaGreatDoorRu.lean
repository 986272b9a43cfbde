import Derived.Test.YtdcfcpgpbbgceaaGreatDoorRt
namespace Go.Proofs.YtdcfcpgpbbgceaaGreatDoor.Pl
open Go.RowKit Go.Proofs.YtdcfcpgpbbgceaaGreatDoorW.PrintWords Go.Proofs.YtdcfcpgpbbgceaaGreatDoorW.PrintLast Go.Proofs.YtdcfcpgpbbgceaaGreatDoor.PAll
open PAll.prices_Format (lastB lineB lineL accL kwI kwD kwR kwS kwU gI gD gR gRow fmtB fmtOk)
open PAll.prices_Parse (idxP idxFrom idxP_rg applyP zeroP PT apQ apFin)
open PAll.prices_form (kIns kDel kRep kSwap kUnk kNever sizeK formP)
open PAll.prices_number (numP numVal isDig)
set_option linter.unusedVariables false
set_option linter.unusedSimpArgs false
variable {ts : List ByteArray} {P : PT}
theorem key_plain : (kwI.data.toList.all plainB = true ∧ kwI.data.toList ≠ []) ∧ (kwD.data.toList.all plainB = true ∧ kwD.data.toList ≠ []) ∧ (kwR.data.toList.all plainB = true ∧ kwR.data.toList ≠ []) ∧ (kwS.data.toList.all plainB = true ∧ kwS.data.toList ≠ []) ∧ (kwU.data.toList.all plainB = true ∧ kwU.data.toList ≠ []) ∧ (kNever.data.toList.all plainB = true ∧ kNever.data.toList ≠ []) := by decide +kernel
theorem lineB3 (a b : ByteArray) (x : Int) : lineB [a, b] x = (a.data.toList ++ 32 :: (b.data.toList ++ 32 :: (lastB x).data.toList)) ++ [10] := by
  unfold lineB Lib.join; simp [List.intercalate, List.intersperse]
theorem lineB4 (a b c : ByteArray) (x : Int) : lineB [a, b, c] x = (a.data.toList ++ 32 :: (b.data.toList ++ 32 :: (c.data.toList ++ 32 :: (lastB x).data.toList))) ++ [10] := by
  unfold lineB Lib.join; simp [List.intercalate, List.intersperse]
theorem last_word (x : Int) (h : x = -1 ∨ (0 ≤ x ∧ x ≤ 1000)) : (lastB x).data.toList.all plainB = true ∧ (lastB x).data.toList ≠ [] := by
  rcases h with h | h
  · rw [last_never x (by omega)]; exact key_plain.2.2.2.2.2
  · exact (last_num x h.1 h.2).2
theorem line_rep (hn : namesOk ts = true) (a b : Nat) (ha : a < ts.length) (hb : b < ts.length) (hab : a ≠ b) (x : Int) (hx : x = -1 ∨ (1 ≤ x ∧ x ≤ 1000)) :
    RunsTo ts (lineL x 15 [kwR, ts.getD a ByteArray.empty, ts.getD b ByteArray.empty]) P (if x = 15 then P else (P.1, P.2.1, P.2.2.1.set a ((P.2.2.1.getD a []).set b x), P.2.2.2)) := by
  unfold lineL
  by_cases h : x = 15
  · rw [if_pos h, if_pos h]; exact RunsTo.none
  · rw [if_neg h, if_neg h, lineB4]
    obtain ⟨t1, t2, t3⟩ := names_at hn a ha
    obtain ⟨u1, u2, u3⟩ := names_at hn b hb
    have hl := last_word x (by omega)
    have hw := line_words4 kwR _ _ _ key_plain.2.2.1.1 t1 u1 hl.1 key_plain.2.2.1.2 t2 u2 hl.2
    refine RunsTo.line hw.1 hw.2 (by simp) ?_ ?_
    · unfold formW formP
      show (decide (sizeK kwR = 4) && ((numP (lastB x)).2 || (decide (kwR = kRep) && decide (lastB x = kNever)))) = true
      rcases hx with hx | hx
      · rw [last_never x (by omega)]; rfl
      · rw [(last_num x (by omega) hx.2).1]; rfl
    · unfold applyP
      show (if ([ts.getD a ByteArray.empty, ts.getD b ByteArray.empty].all fun s => decide (0 ≤ idxP ts s)) = true then apQ P kwR (idxP ts (ts.getD a ByteArray.empty)) (idxP ts (ts.getD b ByteArray.empty)) (numP (lastB x)).1 (numP (lastB x)).2 else (4, P)) = _
      rw [List.all_cons, List.all_cons, List.all_nil, t3, u3, decide_eq_true (show (0 : Int) ≤ (a : Int) by omega), decide_eq_true (show (0 : Int) ≤ (b : Int) by omega), show (true && (true && true)) = true from rfl, if_pos rfl]
      show (if (a : Int) = (b : Int) then _ else _) = _
      rw [if_neg (by omega)]
      rcases hx with hx | hx
      · rw [last_never x (by omega), hx]; rfl
      · rw [(last_num x (by omega) hx.2).1]
        show (if (1 : Int) ≤ x ∧ x ≤ 1000 then _ else _) = _
        rw [if_pos hx]
        rfl
def dI : Nat → Int := fun _ => 10
def dR (a : Nat) : Nat → Int := fun c => if a = c then 0 else 15
end Go.Proofs.YtdcfcpgpbbgceaaGreatDoor.Pl
