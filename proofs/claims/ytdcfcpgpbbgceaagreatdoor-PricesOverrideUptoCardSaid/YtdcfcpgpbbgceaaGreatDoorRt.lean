import Derived.Test.YtdcfcpgpbbgceaaGreatDoorPl
import Derived.Test.YtdcfcpgpbbgceaaGreatDoorFm
namespace Go.Proofs.YtdcfcpgpbbgceaaGreatDoor.Pl
open Go.RowKit Go.Proofs.YtdcfcpgpbbgceaaGreatDoorW.PrintWords Go.Proofs.YtdcfcpgpbbgceaaGreatDoorW.PrintLast Go.Proofs.YtdcfcpgpbbgceaaGreatDoor.PAll
open PAll.prices_Format (lastB lineB lineL accL kwI kwD kwR kwS kwU gI gD gR gRow fmtB fmtOk)
open PAll.prices_Parse (idxP idxFrom idxP_rg applyP zeroP PT apQ apFin)
open PAll.prices_form (kIns kDel kRep kSwap kUnk kNever sizeK formP)
open PAll.prices_number (numP numVal isDig)
set_option linter.unusedVariables false
set_option linter.unusedSimpArgs false
def plainB (b : UInt8) : Bool := !blankB b && (b != 35 && b != 10)
theorem plain_all {w : List UInt8} (h : w.all plainB = true) : (∀ b ∈ w, blankB b = false) ∧ (35 ∉ w) ∧ (10 ∉ w) := by
  rw [List.all_eq_true] at h
  refine ⟨fun b hb => ?_, fun hb => ?_, fun hb => ?_⟩
  · have := h b hb; unfold plainB at this; simp at this; exact this.1
  · have := h _ hb; revert this; decide
  · have := h _ hb; revert this; decide
theorem takeWhile_none (l : List UInt8) (h : 35 ∉ l) : l.takeWhile (· != 35) = l := by
  induction l with
  | nil => rfl
  | cons b l ih =>
    have hb : (b != 35) = true := by simpa using fun e => h (by simp [e])
    rw [List.takeWhile_cons, if_pos hb, ih (fun e => h (by simp [e]))]
theorem scan_word (w l : List UInt8) (h : w.all plainB = true) (hne : w ≠ []) : scanF [] (w ++ 32 :: l) = w :: scanF [] l := by
  rw [scanF_skip w [] (32 :: l) (plain_all h).1, List.nil_append, scanF, if_pos (by decide), if_neg hne]
theorem scan_last (w : List UInt8) (h : w.all plainB = true) (hne : w ≠ []) : scanF [] w = [w] := by
  have := scanF_skip w [] [] (plain_all h).1
  rw [List.append_nil, List.nil_append] at this
  rw [this, scanF, if_neg hne]
theorem plain_app {a b : List UInt8} (ha : 35 ∉ a ∧ 10 ∉ a) (hb : 35 ∉ b ∧ 10 ∉ b) : 35 ∉ a ++ 32 :: b ∧ 10 ∉ a ++ 32 :: b := by
  constructor <;> (intro h; rcases List.mem_append.1 h with h | h) <;> first | exact ha.1 h | exact ha.2 h | skip
  all_goals (rcases List.mem_cons.1 h with h | h) <;> first | exact hb.1 h | exact hb.2 h | (revert h; decide)
theorem mk_data (t : ByteArray) : (⟨t.data.toList.toArray⟩ : ByteArray) = t := by cases t; simp
theorem line_words3 (a b c : ByteArray) (ha : a.data.toList.all plainB = true) (hb : b.data.toList.all plainB = true) (hc : c.data.toList.all plainB = true) (ea : a.data.toList ≠ []) (eb : b.data.toList ≠ []) (ec : c.data.toList ≠ []) :
    words (a.data.toList ++ 32 :: (b.data.toList ++ 32 :: c.data.toList)) = [a, b, c] ∧ 10 ∉ a.data.toList ++ 32 :: (b.data.toList ++ 32 :: c.data.toList) := by
  have h := plain_app (plain_all ha).2 (plain_app (plain_all hb).2 (plain_all hc).2)
  unfold words
  rw [takeWhile_none _ h.1, scan_word _ _ ha ea, scan_word _ _ hb eb, scan_last _ hc ec]
  refine ⟨?_, h.2⟩
  simp only [List.map_cons, List.map_nil, mk_data]
theorem line_words4 (a b d c : ByteArray) (ha : a.data.toList.all plainB = true) (hb : b.data.toList.all plainB = true) (hd : d.data.toList.all plainB = true) (hc : c.data.toList.all plainB = true) (ea : a.data.toList ≠ []) (eb : b.data.toList ≠ []) (ed : d.data.toList ≠ []) (ec : c.data.toList ≠ []) :
    words (a.data.toList ++ 32 :: (b.data.toList ++ 32 :: (d.data.toList ++ 32 :: c.data.toList))) = [a, b, d, c] ∧ 10 ∉ a.data.toList ++ 32 :: (b.data.toList ++ 32 :: (d.data.toList ++ 32 :: c.data.toList)) := by
  have h := plain_app (plain_all ha).2 (plain_app (plain_all hb).2 (plain_app (plain_all hd).2 (plain_all hc).2))
  unfold words
  rw [takeWhile_none _ h.1, scan_word _ _ ha ea, scan_word _ _ hb eb, scan_word _ _ hd ed, scan_last _ hc ec]
  refine ⟨?_, h.2⟩
  simp only [List.map_cons, List.map_nil, mk_data]
def chrB (b : UInt8) : Bool := chrI (b.toNat : Int)
theorem chr_plain (b : UInt8) (h : chrI (b.toNat : Int) = true) : plainB b = true := by
  have := prices_number.u8_forall (p := fun b => !chrB b || plainB b) (by decide +kernel) b
  unfold chrB at this
  rw [h] at this
  simpa using this
theorem bt_nat (s : ByteArray) (i : Nat) (h : i < s.size) : bt s (i : Int) = ((s.data.toList[i]'h).toNat : Int) := by
  unfold bt
  rw [dif_pos (by simpa using h)]
  rfl
theorem chk_all (s : ByteArray) : ∀ (n i : Nat), i + n = s.size → chk s n i = true → (s.data.toList.drop i).all plainB = true
  | 0, i, h, _ => by rw [List.drop_eq_nil_iff.2 (by show s.size ≤ i; omega)]; rfl
  | n + 1, i, h, hc => by
    unfold chk at hc
    rw [Bool.and_eq_true] at hc
    have hi : i < s.data.toList.length := by show i < s.size; omega
    rw [List.drop_eq_getElem_cons hi, List.all_cons, chk_all s n (i + 1) (by omega) hc.2, Bool.and_true]
    rw [bt_nat s i hi] at hc
    exact chr_plain _ hc.1
theorem name_plain (s : ByteArray) (h : nameOk s = true) : s.data.toList.all plainB = true ∧ s.data.toList ≠ [] := by
  unfold nameOk tailOk at h
  simp only [Bool.and_eq_true, decide_eq_true_eq] at h
  refine ⟨by simpa using chk_all s s.size 0 (by omega) h.2.2, fun e => ?_⟩
  have : s.data.toList.length = 0 := by rw [e]; rfl
  have h2 : s.size = 0 := this
  omega
theorem num_all : ((List.range 1001).all fun n => decide (numP ⟨(digs 4 n).toArray⟩ = ((n : Int), true)) && ((digs 4 n).all plainB && decide (digs 4 n ≠ []))) = true := by kernel_rfl
theorem last_num (x : Int) (h0 : 0 ≤ x) (h1 : x ≤ 1000) : numP (lastB x) = (x, true) ∧ (lastB x).data.toList.all plainB = true ∧ (lastB x).data.toList ≠ [] := by
  obtain ⟨n, rfl⟩ : ∃ n : Nat, x = n := ⟨x.toNat, by omega⟩
  have h := List.all_eq_true.1 num_all n (List.mem_range.2 (by omega))
  simp only [Bool.and_eq_true, decide_eq_true_eq] at h
  have e : lastB (n : Int) = ⟨(digs 4 n).toArray⟩ := by unfold lastB; rw [if_neg (by omega), itoa_digs n (by omega)]
  rw [e]
  exact ⟨h.1, by simpa using h.2.1, by simpa using h.2.2⟩
theorem last_never (x : Int) (h : x < 0) : lastB x = kNever := by unfold lastB; rw [if_pos h]; rfl
theorem idx_app (s : ByteArray) : ∀ (xs ys : List ByteArray) (i : Int), 0 ≤ i → idxFrom s xs i = -1 → idxFrom s (xs ++ ys) i = idxFrom s ys (i + xs.length)
  | [], ys, i, _, _ => by simp
  | x :: xs, ys, i, hi, h => by
    rw [idxFrom] at h
    split at h
    · omega
    · rename_i hx
      rw [List.cons_append, idxFrom, if_neg hx, idx_app s xs ys (i + 1) (by omega) h, List.length_cons]
      congr 1
      omega
theorem namesGo_at (l : List ByteArray) : ∀ (n i : Nat), namesGo l n i = true → ∀ j, i ≤ j → j < i + n → nameOk (l.getD j ByteArray.empty) = true ∧ idxP (l.take j) (l.getD j ByteArray.empty) = -1
  | 0, i, _, j, h1, h2 => by omega
  | n + 1, i, h, j, h1, h2 => by
    unfold namesGo at h
    simp only [Bool.and_eq_true, decide_eq_true_eq] at h
    by_cases e : j = i
    · subst e; exact ⟨h.1, h.2.1⟩
    · exact namesGo_at l n (i + 1) h.2.2 j (by omega) (by omega)
theorem names_at {ts : List ByteArray} (h : namesOk ts = true) (a : Nat) (ha : a < ts.length) : (ts.getD a ByteArray.empty).data.toList.all plainB = true ∧ (ts.getD a ByteArray.empty).data.toList ≠ [] ∧ idxP ts (ts.getD a ByteArray.empty) = (a : Int) := by
  unfold namesOk at h
  rw [Bool.and_eq_true] at h
  obtain ⟨h1, h2⟩ := namesGo_at ts ts.length 0 h.2 a (by omega) (by omega)
  have hp := name_plain _ h1
  refine ⟨hp.1, hp.2, ?_⟩
  have e : ts = ts.take a ++ (ts[a] :: ts.drop (a + 1)) := by rw [← List.drop_eq_getElem_cons ha, List.take_append_drop]
  have eg : ts.getD a ByteArray.empty = ts[a] := by rw [List.getD_eq_getElem?_getD, List.getElem?_eq_getElem ha]; rfl
  rw [eg] at h2 ⊢
  unfold idxP at h2 ⊢
  generalize hz : ts[a] = z at *
  rw [e, idx_app _ _ _ 0 (by omega) h2, idxFrom, if_pos rfl, List.length_take]
  omega
def RunsTo (ts : List ByteArray) (X : List UInt8) (P P' : PT) : Prop := ∀ Y i, ∃ j, goB ts (splitL 10 (X ++ Y)) i P = goB ts (splitL 10 Y) j P'
theorem RunsTo.none {ts : List ByteArray} {P : PT} : RunsTo ts [] P P := fun Y i => ⟨i, rfl⟩
theorem RunsTo.app {ts : List ByteArray} {X Z : List UInt8} {P P' P'' : PT} (h : RunsTo ts X P P') (k : RunsTo ts Z P' P'') : RunsTo ts (X ++ Z) P P'' := fun Y i => by
  obtain ⟨j, hj⟩ := h (Z ++ Y) i
  obtain ⟨j', hj'⟩ := k Y j
  exact ⟨j', by rw [List.append_assoc, hj, hj']⟩
theorem RunsTo.line {ts : List ByteArray} {l : List UInt8} {f : List ByteArray} {P P' : PT} (hw : words l = f) (hn : 10 ∉ l) (hf : f ≠ []) (hform : formW f = true) (ha : applyP P f ts = (0, P')) : RunsTo ts (l ++ [10]) P P' := fun Y i => by
  refine ⟨i + 1, ?_⟩
  have e : l ++ [10] ++ Y = l ++ 10 :: Y := by simp
  rw [e, splitL_at, splitL_none 10 l hn, List.singleton_append, goB, hw, if_neg hf, if_pos hform, ha, if_pos rfl]
theorem RunsTo.acc {ts : List ByteArray} {g : Nat → List UInt8} (Q : Nat → PT) (n : Nat) (h : ∀ i, i < n → RunsTo ts (g i) (Q i) (Q (i + 1))) : ∀ i, i ≤ n → RunsTo ts (accL g i) (Q 0) (Q i)
  | 0, _ => RunsTo.none
  | i + 1, hi => by
    rw [accL]
    exact (RunsTo.acc Q n h i (by omega)).app (h i (by omega))
theorem RunsTo.done {ts : List ByteArray} {X : List UInt8} {P P' : PT} (h : RunsTo ts X P P') : goB ts (splitL 10 X) 0 P = (P', 0, 0) := by
  obtain ⟨j, hj⟩ := h [] 0
  rw [List.append_nil] at hj
  rw [hj]
  show goB ts [[]] j P' = _
  rw [goB_blank _ _ (show words [] = [] from rfl)]
  rfl
end Go.Proofs.YtdcfcpgpbbgceaaGreatDoor.Pl
