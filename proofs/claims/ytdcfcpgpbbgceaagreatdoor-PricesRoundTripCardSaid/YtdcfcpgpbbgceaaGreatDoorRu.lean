import Derived.Test.YtdcfcpgpbbgceaaGreatDoorRt
namespace Go.Proofs.YtdcfcpgpbbgceaaGreatDoor.Pl
open Go.RowKit Go.Proofs.YtdcfcpgpbbgceaaGreatDoorW.PrintWords Go.Proofs.YtdcfcpgpbbgceaaGreatDoorW.PrintLast Go.Proofs.YtdcfcpgpbbgceaaGreatDoor.PAll
open PAll.prices_Format (lastB lineB lineL accL kwI kwD kwR kwS kwU gI gD gR gRow fmtB fmtOk)
open PAll.prices_Parse (idxP idxFrom idxP_rg applyP zeroP PT apQ apFin)
open PAll.prices_form (kIns kDel kRep kSwap kUnk kNever sizeK formP)
open PAll.prices_number (numP numVal isDig)
set_option linter.unusedVariables false
set_option linter.unusedSimpArgs false
variable {ts : List ByteArray} {P : PT}
theorem key_plain : (kwI.data.toList.all plainB = true ∧ kwI.data.toList ≠ []) ∧ (kwD.data.toList.all plainB = true ∧ kwD.data.toList ≠ []) ∧ (kwR.data.toList.all plainB = true ∧ kwR.data.toList ≠ []) ∧ (kwS.data.toList.all plainB = true ∧ kwS.data.toList ≠ []) ∧ (kwU.data.toList.all plainB = true ∧ kwU.data.toList ≠ []) ∧ (kNever.data.toList.all plainB = true ∧ kNever.data.toList ≠ []) := by decide +kernel
theorem lineB2 (a : ByteArray) (x : Int) : lineB [a] x = (a.data.toList ++ 32 :: (lastB x).data.toList) ++ [10] := by
  unfold lineB Lib.join; simp [List.intercalate, List.intersperse]
theorem lineB3 (a b : ByteArray) (x : Int) : lineB [a, b] x = (a.data.toList ++ 32 :: (b.data.toList ++ 32 :: (lastB x).data.toList)) ++ [10] := by
  unfold lineB Lib.join; simp [List.intercalate, List.intersperse]
theorem lineB4 (a b c : ByteArray) (x : Int) : lineB [a, b, c] x = (a.data.toList ++ 32 :: (b.data.toList ++ 32 :: (c.data.toList ++ 32 :: (lastB x).data.toList))) ++ [10] := by
  unfold lineB Lib.join; simp [List.intercalate, List.intersperse]
theorem last_word (x : Int) (h : x = -1 ∨ (0 ≤ x ∧ x ≤ 1000)) : (lastB x).data.toList.all plainB = true ∧ (lastB x).data.toList ≠ [] := by
  rcases h with h | h
  · rw [last_never x (by omega)]; exact key_plain.2.2.2.2.2
  · exact (last_num x h.1 h.2).2
theorem line_ins (hn : namesOk ts = true) (a : Nat) (ha : a < ts.length) (x : Int) (h0 : 1 ≤ x) (h1 : x ≤ 1000) : RunsTo ts (lineL x 10 [kwI, ts.getD a ByteArray.empty]) P (if x = 10 then P else (P.1.set a x, P.2)) := by
  unfold lineL
  by_cases h : x = 10
  · rw [if_pos h, if_pos h]; exact RunsTo.none
  · rw [if_neg h, if_neg h, lineB3]
    obtain ⟨t1, t2, t3⟩ := names_at hn a ha
    have hl := last_num x (by omega) h1
    have hw := line_words3 kwI _ _ key_plain.1.1 t1 hl.2.1 key_plain.1.2 t2 hl.2.2
    refine RunsTo.line hw.1 hw.2 (by simp) ?_ ?_
    · unfold formW formP
      show (decide (sizeK kwI = 3) && ((numP (lastB x)).2 || _)) = true
      rw [hl.1]; rfl
    · unfold applyP
      simp only [List.length_cons, List.length_nil, List.drop_succ_cons, List.drop_zero, List.getD_cons_zero, List.getD_cons_succ]
      show (if ([ts.getD a ByteArray.empty].all fun s => decide (0 ≤ idxP ts s)) = true then apQ P kwI (idxP ts (ts.getD a ByteArray.empty)) (idxP ts (lastB x)) (numP (lastB x)).1 (numP (lastB x)).2 else (4, P)) = _
      rw [List.all_cons, List.all_nil, t3, decide_eq_true (show (0 : Int) ≤ (a : Int) by omega), show (true && true) = true from rfl, if_pos rfl, hl.1]
      show (if (1 : Int) ≤ x ∧ x ≤ 1000 then _ else _) = _
      rw [if_pos ⟨h0, h1⟩]
      rfl
theorem line_del (hn : namesOk ts = true) (a : Nat) (ha : a < ts.length) (x : Int) (h0 : 1 ≤ x) (h1 : x ≤ 1000) : RunsTo ts (lineL x 10 [kwD, ts.getD a ByteArray.empty]) P (if x = 10 then P else (P.1, P.2.1.set a x, P.2.2)) := by
  unfold lineL
  by_cases h : x = 10
  · rw [if_pos h, if_pos h]; exact RunsTo.none
  · rw [if_neg h, if_neg h, lineB3]
    obtain ⟨t1, t2, t3⟩ := names_at hn a ha
    have hl := last_num x (by omega) h1
    have hw := line_words3 kwD _ _ key_plain.2.1.1 t1 hl.2.1 key_plain.2.1.2 t2 hl.2.2
    refine RunsTo.line hw.1 hw.2 (by simp) ?_ ?_
    · unfold formW formP
      show (decide (sizeK kwD = 3) && ((numP (lastB x)).2 || _)) = true
      rw [hl.1]; rfl
    · unfold applyP
      simp only [List.length_cons, List.length_nil, List.drop_succ_cons, List.drop_zero, List.getD_cons_zero, List.getD_cons_succ]
      show (if ([ts.getD a ByteArray.empty].all fun s => decide (0 ≤ idxP ts s)) = true then apQ P kwD (idxP ts (ts.getD a ByteArray.empty)) (idxP ts (lastB x)) (numP (lastB x)).1 (numP (lastB x)).2 else (4, P)) = _
      rw [List.all_cons, List.all_nil, t3, decide_eq_true (show (0 : Int) ≤ (a : Int) by omega), show (true && true) = true from rfl, if_pos rfl, hl.1]
      show (if (1 : Int) ≤ x ∧ x ≤ 1000 then _ else _) = _
      rw [if_pos ⟨h0, h1⟩]
      rfl
theorem line_swap (x : Int) (h0 : 0 ≤ x) (h1 : x ≤ 1000) : RunsTo ts (lineL x 12 [kwS]) P (if x = 12 then P else (P.1, P.2.1, P.2.2.1, x, P.2.2.2.2)) := by
  unfold lineL
  by_cases h : x = 12
  · rw [if_pos h, if_pos h]; exact RunsTo.none
  · rw [if_neg h, if_neg h, lineB2]
    have hl := last_num x (by omega) h1
    have hw := line_words2 kwS _ key_plain.2.2.2.1.1 hl.2.1 key_plain.2.2.2.1.2 hl.2.2
    refine RunsTo.line hw.1 hw.2 (by simp) ?_ ?_
    · unfold formW formP
      show (decide (sizeK kwS = 2) && ((numP (lastB x)).2 || _)) = true
      rw [hl.1]; rfl
    · unfold applyP
      show (if (([] : List ByteArray).all fun s => decide (0 ≤ idxP ts s)) = true then apQ P kwS (idxP ts (lastB x)) (idxP ts ByteArray.empty) (numP (lastB x)).1 (numP (lastB x)).2 else (4, P)) = _
      rw [List.all_nil, if_pos rfl, hl.1]
      show (if (0 : Int) ≤ x ∧ x ≤ 1000 then _ else _) = _
      rw [if_pos ⟨h0, h1⟩]
theorem line_unk (x : Int) (h0 : 1 ≤ x) (h1 : x ≤ 1000) : RunsTo ts (lineL x 8 [kwU]) P (if x = 8 then P else (P.1, P.2.1, P.2.2.1, P.2.2.2.1, x)) := by
  unfold lineL
  by_cases h : x = 8
  · rw [if_pos h, if_pos h]; exact RunsTo.none
  · rw [if_neg h, if_neg h, lineB2]
    have hl := last_num x (by omega) h1
    have hw := line_words2 kwU _ key_plain.2.2.2.2.1.1 hl.2.1 key_plain.2.2.2.2.1.2 hl.2.2
    refine RunsTo.line hw.1 hw.2 (by simp) ?_ ?_
    · unfold formW formP
      show (decide (sizeK kwU = 2) && ((numP (lastB x)).2 || _)) = true
      rw [hl.1]; rfl
    · unfold applyP
      show (if (([] : List ByteArray).all fun s => decide (0 ≤ idxP ts s)) = true then apQ P kwU (idxP ts (lastB x)) (idxP ts ByteArray.empty) (numP (lastB x)).1 (numP (lastB x)).2 else (4, P)) = _
      rw [List.all_nil, if_pos rfl, hl.1]
      show (if (1 : Int) ≤ x ∧ x ≤ 1000 then _ else _) = _
      rw [if_pos ⟨h0, h1⟩]
theorem line_rep (hn : namesOk ts = true) (a b : Nat) (ha : a < ts.length) (hb : b < ts.length) (hab : a ≠ b) (x : Int) (hx : x = -1 ∨ (1 ≤ x ∧ x ≤ 1000)) :
    RunsTo ts (lineL x 15 [kwR, ts.getD a ByteArray.empty, ts.getD b ByteArray.empty]) P (if x = 15 then P else (P.1, P.2.1, P.2.2.1.set a ((P.2.2.1.getD a []).set b x), P.2.2.2)) := by
  unfold lineL
  by_cases h : x = 15
  · rw [if_pos h, if_pos h]; exact RunsTo.none
  · rw [if_neg h, if_neg h, lineB4]
    obtain ⟨t1, t2, t3⟩ := names_at hn a ha
    obtain ⟨u1, u2, u3⟩ := names_at hn b hb
    have hl := last_word x (by omega)
    have hw := line_words4 kwR _ _ _ key_plain.2.2.1.1 t1 u1 hl.1 key_plain.2.2.1.2 t2 u2 hl.2
    refine RunsTo.line hw.1 hw.2 (by simp) ?_ ?_
    · unfold formW formP
      show (decide (sizeK kwR = 4) && ((numP (lastB x)).2 || (decide (kwR = kRep) && decide (lastB x = kNever)))) = true
      rcases hx with hx | hx
      · rw [last_never x (by omega)]; rfl
      · rw [(last_num x (by omega) hx.2).1]; rfl
    · unfold applyP
      show (if ([ts.getD a ByteArray.empty, ts.getD b ByteArray.empty].all fun s => decide (0 ≤ idxP ts s)) = true then apQ P kwR (idxP ts (ts.getD a ByteArray.empty)) (idxP ts (ts.getD b ByteArray.empty)) (numP (lastB x)).1 (numP (lastB x)).2 else (4, P)) = _
      rw [List.all_cons, List.all_cons, List.all_nil, t3, u3, decide_eq_true (show (0 : Int) ≤ (a : Int) by omega), decide_eq_true (show (0 : Int) ≤ (b : Int) by omega), show (true && (true && true)) = true from rfl, if_pos rfl]
      show (if (a : Int) = (b : Int) then _ else _) = _
      rw [if_neg (by omega)]
      rcases hx with hx | hx
      · rw [last_never x (by omega), hx]; rfl
      · rw [(last_num x (by omega) hx.2).1]
        show (if (1 : Int) ≤ x ∧ x ≤ 1000 then _ else _) = _
        rw [if_pos hx]
        rfl
def part (l : List Int) (d : Nat → Int) (T i : Nat) : List Int := (List.range T).map fun j => if j < i then l.getD j 0 else d j
theorem part_length (l : List Int) (d : Nat → Int) (T i : Nat) : (part l d T i).length = T := by unfold part; simp
theorem part_at (l : List Int) (d : Nat → Int) (T i j : Nat) (h : j < (part l d T i).length) : (part l d T i)[j] = if j < i then l.getD j 0 else d j := by simp [part]
theorem part_set (l : List Int) (d : Nat → Int) (T i : Nat) (h : i < T) : (part l d T i).set i (l.getD i 0) = part l d T (i + 1) := by
  apply List.ext_getElem
  · simp [part]
  · intro j h1 h2
    rw [List.getElem_set, part_at, part_at]
    by_cases e : i = j
    · subst e; rw [if_pos rfl, if_pos (by omega)]
    · rw [if_neg e]
      by_cases hj : j < i
      · rw [if_pos hj, if_pos (by omega)]
      · rw [if_neg hj, if_neg (by omega)]
theorem part_same (l : List Int) (d : Nat → Int) (T i : Nat) (h : i < T) (e : l.getD i 0 = d i) : part l d T (i + 1) = part l d T i := by
  unfold part
  apply List.map_congr_left
  intro j _
  by_cases hj : j = i
  · subst hj; rw [if_pos (by omega), if_neg (by omega), e]
  · by_cases h2 : j < i
    · rw [if_pos (by omega), if_pos h2]
    · rw [if_neg (by omega), if_neg h2]
theorem part_full (l : List Int) (d : Nat → Int) (T : Nat) (h : l.length = T) : part l d T T = l := by
  apply List.ext_getElem
  · rw [part_length, h]
  · intro j h1 h2
    rw [part_at, if_pos (by omega), List.getD_eq_getElem?_getD, List.getElem?_eq_getElem h2]
    rfl
def dI : Nat → Int := fun _ => 10
def dR (a : Nat) : Nat → Int := fun c => if a = c then 0 else 15
def parts (l2 : List (List Int)) (T a b : Nat) : List (List Int) := (List.range T).map fun r => part (l2.getD r []) (dR r) T (if r < a then T else if r = a then b else 0)
theorem parts_at (l2 : List (List Int)) (T a b j : Nat) (h : j < (parts l2 T a b).length) : (parts l2 T a b)[j] = part (l2.getD j []) (dR j) T (if j < a then T else if j = a then b else 0) := by simp [parts]
theorem parts_row (l2 : List (List Int)) (T a b : Nat) (h : a < T) : (parts l2 T a b).getD a [] = part (l2.getD a []) (dR a) T b := by
  unfold parts
  rw [List.getD_eq_getElem?_getD, List.getElem?_eq_getElem (by simpa using h)]
  simp
theorem parts_set (l2 : List (List Int)) (T a b : Nat) (h : a < T) (hb : b < T) : (parts l2 T a b).set a ((part (l2.getD a []) (dR a) T b).set b ((l2.getD a []).getD b 0)) = parts l2 T a (b + 1) := by
  rw [part_set _ _ _ _ hb]
  apply List.ext_getElem
  · simp [parts]
  · intro j h1 h2
    rw [List.getElem_set, parts_at, parts_at]
    by_cases e : a = j
    · subst e; rw [if_pos rfl, if_neg (by omega), if_pos rfl]
    · rw [if_neg e]
      by_cases hj : j < a
      · rw [if_pos hj, if_pos hj]
      · rw [if_neg hj, if_neg (by omega), if_neg hj, if_neg (by omega)]
theorem parts_same (l2 : List (List Int)) (T a b : Nat) (hb : b < T) (e : (l2.getD a []).getD b 0 = dR a b) : parts l2 T a (b + 1) = parts l2 T a b := by
  unfold parts
  apply List.map_congr_left
  intro r _
  by_cases h1 : r < a
  · rw [if_pos h1, if_pos h1]
  · by_cases h2 : r = a
    · subst h2; rw [if_neg h1, if_pos rfl, if_neg h1, if_pos rfl]; exact part_same _ _ _ _ hb e
    · rw [if_neg h1, if_neg h2, if_neg h1, if_neg h2]
theorem parts_next (l2 : List (List Int)) (T a : Nat) : parts l2 T a T = parts l2 T (a + 1) 0 := by
  unfold parts
  apply List.map_congr_left
  intro r _
  by_cases h1 : r < a
  · rw [if_pos h1, if_pos (by omega)]
  · by_cases h2 : r = a
    · rw [if_neg h1, if_pos h2, if_pos (by omega)]
    · rw [if_neg h1, if_neg h2, if_neg (by omega)]
      by_cases h3 : r = a + 1
      · rw [if_pos h3]
      · rw [if_neg h3]
theorem parts_full (l2 : List (List Int)) (T : Nat) (h : l2.length = T) (hr : ∀ a, a < T → (l2.getD a []).length = T) : parts l2 T T 0 = l2 := by
  apply List.ext_getElem
  · simp [parts, h]
  · intro j h1 h2
    rw [parts_at, if_pos (by simp [parts] at h1; omega), part_full _ _ _ (hr j (by omega)), List.getD_eq_getElem?_getD, List.getElem?_eq_getElem h2]
    rfl
theorem round_trip (l0 l1 : List Int) (l2 : List (List Int)) (s u : Int) (hn : namesOk ts = true) (hv : vok l0 l1 l2 s u ts.length = true) :
    goB ts (splitL 10 (fmtB l0 l1 l2 s u ts)) 0 (part l0 dI ts.length 0, part l1 dI ts.length 0, parts l2 ts.length 0 0, 12, 8) = ((l0, l1, l2, s, u), 0, 0) := by
  obtain ⟨⟨q0, q1, q2⟩, ⟨qs, qu⟩, qa⟩ := (vok_iff _ _ _ _ _ _).1 hv
  have bI := RunsTo.acc (ts := ts) (g := gI l0 ts) (fun i => (part l0 dI ts.length i, part l1 dI ts.length 0, parts l2 ts.length 0 0, 12, 8)) ts.length (fun i hi => by
    have h := line_ins (P := (part l0 dI ts.length i, part l1 dI ts.length 0, parts l2 ts.length 0 0, 12, 8)) hn i hi (l0.getD i 0) (qa i hi).1.1 (qa i hi).1.2
    by_cases e : l0.getD i 0 = 10
    · rw [if_pos e] at h
      rw [part_same l0 dI _ i hi e]
      exact h
    · rw [if_neg e] at h
      simp only at h
      rw [part_set _ _ _ _ hi] at h
      exact h) ts.length (Nat.le_refl _)
  have bD := RunsTo.acc (ts := ts) (g := gD l1 ts) (fun i => (l0, part l1 dI ts.length i, parts l2 ts.length 0 0, 12, 8)) ts.length (fun i hi => by
    have h := line_del (P := (l0, part l1 dI ts.length i, parts l2 ts.length 0 0, 12, 8)) hn i hi (l1.getD i 0) (qa i hi).2.1.1 (qa i hi).2.1.2
    by_cases e : l1.getD i 0 = 10
    · rw [if_pos e] at h
      rw [part_same l1 dI _ i hi e]
      exact h
    · rw [if_neg e] at h
      simp only at h
      rw [part_set _ _ _ _ hi] at h
      exact h) ts.length (Nat.le_refl _)
  have bR := RunsTo.acc (ts := ts) (g := gRow l2 ts) (fun a => (l0, l1, parts l2 ts.length a 0, 12, 8)) ts.length (fun a ha => by
    have h := RunsTo.acc (ts := ts) (g := gR l2 ts a) (fun b => (l0, l1, parts l2 ts.length a b, 12, 8)) ts.length (fun b hb => by
      have hent := (qa a ha).2.2.2 b hb
      unfold entOk at hent
      unfold gR
      by_cases hab : a = b
      · rw [if_pos hab] at hent ⊢
        rw [parts_same _ _ _ _ hb (by unfold dR; rw [if_pos hab]; exact of_decide_eq_true hent)]
        exact RunsTo.none
      · rw [if_neg hab] at hent ⊢
        rw [Bool.or_eq_true, rng_iff, decide_eq_true_eq] at hent
        have h := line_rep (P := (l0, l1, parts l2 ts.length a b, 12, 8)) hn a b ha hb hab ((l2.getD a []).getD b 0) hent
        by_cases e : (l2.getD a []).getD b 0 = 15
        · rw [if_pos e] at h
          rw [parts_same _ _ _ _ hb (by unfold dR; rw [if_neg hab]; exact e)]
          exact h
        · rw [if_neg e] at h
          simp only at h
          rw [parts_row _ _ _ _ ha, parts_set _ _ _ _ ha hb] at h
          exact h) ts.length (Nat.le_refl _)
    rw [parts_next] at h
    exact h) ts.length (Nat.le_refl _)
  rw [part_full _ _ _ q0] at bI
  rw [part_full _ _ _ q1] at bD
  rw [parts_full _ _ q2 (fun a ha => (qa a ha).2.2.1)] at bR
  have bS := line_swap (ts := ts) (P := (l0, l1, l2, 12, 8)) s qs.1 qs.2
  have bS' : RunsTo ts (lineL s 12 [kwS]) (l0, l1, l2, 12, 8) (l0, l1, l2, s, 8) := by
    by_cases e : s = 12
    · rw [if_pos e] at bS; rw [e] at bS ⊢; exact bS
    · rw [if_neg e] at bS; exact bS
  have bU := line_unk (ts := ts) (P := (l0, l1, l2, s, 8)) u qu.1 qu.2
  have bU' : RunsTo ts (lineL u 8 [kwU]) (l0, l1, l2, s, 8) (l0, l1, l2, s, u) := by
    by_cases e : u = 8
    · rw [if_pos e] at bU; rw [e] at bU ⊢; exact bU
    · rw [if_neg e] at bU; exact bU
  unfold fmtB
  exact ((((bI.app bD).app bR).app bS').app bU').done
end Go.Proofs.YtdcfcpgpbbgceaaGreatDoor.Pl
