/- Comments, empty lines and blanks have no effect; a text with a malformed line at its end is rejected at that line. -/
import Derived.Test.YtdcfcpgpbbgceaaGreatDoorAskPricesComments
import Derived.Test.YtdcfcpgpbbgceaaGreatDoorPc
namespace Go.Proofs.YtdcfcpgpbbgceaaGreatDoor.RPricesComments
open Go.RowKit Go.Proofs.YtdcfcpgpbbgceaaGreatDoorW.PrintWords Go.Proofs.YtdcfcpgpbbgceaaGreatDoorW.PrintLast Go.Proofs.YtdcfcpgpbbgceaaGreatDoor.PAll Go.Proofs.YtdcfcpgpbbgceaaGreatDoor.Pl
open PAll.prices_Parse (goL applyP zeroP PT)
set_option linter.unusedVariables false
set_option linter.unusedSimpArgs false
theorem awake : emendatelaw34_awake.f = some true := rfl
theorem comment_loop (s c : ByteArray) (hc : c.size ≤ 50) (hfin : 10 ∉ c.data.toList → Ev (fun k => emendatelaw34_PricesComments.l1 k s c T3 1 0) true) :
    ∀ (m i : Nat), i ≤ c.size → c.size - i = m → 10 ∉ c.data.toList.take i → Ev (fun k => emendatelaw34_PricesComments.l0 k s c T3 (i : Int)) true
  | m, i, hi, hm, hno => by
    have hlen : c.data.toList.length = c.size := rfl
    by_cases h : i < c.size
    · obtain ⟨m', rfl⟩ : ∃ m', m = m' + 1 := ⟨m - 1, by omega⟩
      have hi' : ((i : Int) < (c.size : Int)) := by omega
      by_cases hb : bt c (i : Int) = 10
      · exact Ev.step (fun k => by conv => lhs; unfold emendatelaw34_PricesComments.l0
                                   simp only [if_pos hi', if_pos (show (0 : Int) ≤ (i : Int) by omega), if_pos hb, awake, Option.bind_some]) (Ev.now true)
      · have hb' : ¬ c.data.toList[i] = 10 := fun e => hb ((bt_ten c i h).2 e)
        have ih := comment_loop s c hc hfin m' (i + 1) (by omega) (by omega) (by
          rw [List.take_add_one, List.getElem?_eq_getElem (by omega)]
          intro hmem
          rcases List.mem_append.1 hmem with hmem | hmem
          · exact hno hmem
          · simp only [Option.toList_some, List.mem_singleton] at hmem
            exact hb' hmem.symm)
        refine Ev.step (f := fun k => emendatelaw34_PricesComments.l0 k s c T3 ((i + 1 : Nat) : Int)) (fun k => ?_) ih
        conv => lhs; unfold emendatelaw34_PricesComments.l0
        simp only [if_pos hi', if_pos (show (0 : Int) ≤ (i : Int) by omega), if_neg hb]
        rw [IntWalk.wrap64_in _ (by omega)]
        rfl
    · have e : i = c.size := by omega
      refine Ev.step (fun k => ?_) (hfin (by rw [e, ← hlen, List.take_length] at hno; exact hno))
      conv => lhs; unfold emendatelaw34_PricesComments.l0
      simp only [if_neg (show ¬ ((i : Int) < (c.size : Int)) by omega)]
theorem lines_loop (s c : ByteArray) (hs : s.size ≤ 300) (hfin : Ev (fun k => emendatelaw34_PricesComments.l1 k s c T3 ((s.data.toList.count 10 + 1 : Nat) : Int) (s.size : Int)) true) :
    ∀ (m i : Nat), i ≤ s.size → s.size - i = m → Ev (fun k => emendatelaw34_PricesComments.l1 k s c T3 (((s.data.toList.take i).count 10 + 1 : Nat) : Int) (i : Int)) true
  | m, i, hi, hm => by
    have hlen : s.data.toList.length = s.size := rfl
    by_cases h : i < s.size
    · obtain ⟨m', rfl⟩ : ∃ m', m = m' + 1 := ⟨m - 1, by omega⟩
      have hi' : ((i : Int) < (s.size : Int)) := by omega
      have ih := lines_loop s c hs hfin m' (i + 1) (by omega) (by omega)
      have hcl : (s.data.toList.take i).count 10 ≤ 300 := Nat.le_trans List.count_le_length (by rw [List.length_take]; omega)
      rw [List.take_add_one, List.getElem?_eq_getElem (by omega), List.count_append] at ih
      have hw : wrap64 ((i : Int) + 1) = ((i + 1 : Nat) : Int) := by rw [IntWalk.wrap64_in _ (by omega)]; rfl
      by_cases hb : bt s (i : Int) = 10
      · have hb' : s.data.toList[i] = 10 := (bt_ten s i h).1 hb
        rw [hb'] at ih
        refine Ev.step (f := fun k => emendatelaw34_PricesComments.l1 k s c T3 (((s.data.toList.take i).count 10 + [10].count (10 : UInt8) + 1 : Nat) : Int) ((i + 1 : Nat) : Int)) (fun k => ?_) ih
        conv => lhs; unfold emendatelaw34_PricesComments.l1
        simp only [if_pos hi', if_pos (show (0 : Int) ≤ (i : Int) by omega), if_pos hb]
        rw [hw, IntWalk.wrap64_in _ (by omega)]
        rfl
      · have hb' : ¬ s.data.toList[i] = 10 := fun e => hb ((bt_ten s i h).2 e)
        have e0 : (some s.data.toList[i]).toList.count (10 : UInt8) = 0 := by
          rw [Option.toList_some, List.count_eq_zero]
          intro hmem
          exact hb' (List.mem_singleton.1 hmem).symm
        rw [e0] at ih
        refine Ev.step (fun k => ?_) ih
        conv => lhs; unfold emendatelaw34_PricesComments.l1
        simp only [if_pos hi', if_pos (show (0 : Int) ≤ (i : Int) by omega), if_neg hb]
        rw [hw]
    · have e : i = s.size := by omega
      subst e
      rw [← hlen, List.take_length, hlen]
      exact hfin
theorem words_head (c : List UInt8) : words ([32, 9, 35] ++ c) = [] := rfl
theorem words_foot (c : List UInt8) : words ([32, 32, 35, 32] ++ c) = [] := rfl
theorem words_none : words [] = [] := rfl
def bad : List UInt8 := [112, 114, 105, 99, 101, 32, 97, 32, 49]
theorem words_bad : words bad = [⟨#[112, 114, 105, 99, 101]⟩, ⟨#[97]⟩, ⟨#[49]⟩] := by kernel_rfl
theorem form_bad : formW (words bad) = false := by kernel_rfl
theorem around (X C : List UInt8) (hC : 10 ∉ C) : (goB T3 (splitL 10 ([32, 9, 35] ++ C ++ [10, 10] ++ X ++ [10, 32, 32, 35, 32] ++ C)) 0 D3).1 = (goB T3 (splitL 10 X) 0 D3).1 ∧
    (goB T3 (splitL 10 ([32, 9, 35] ++ C ++ [10, 10] ++ X ++ [10, 32, 32, 35, 32] ++ C)) 0 D3).2.2 = (goB T3 (splitL 10 X) 0 D3).2.2 := by
  have e : [32, 9, 35] ++ C ++ [10, 10] ++ X ++ [10, 32, 32, 35, 32] ++ C = ([32, 9, 35] ++ C) ++ 10 :: ([] ++ 10 :: (X ++ 10 :: ([32, 32, 35, 32] ++ C))) := by simp
  rw [e, splitL_at, splitL_at, splitL_at, splitL_none 10 ([32, 9, 35] ++ C) (by simp [hC]), splitL_none 10 ([32, 32, 35, 32] ++ C) (by simp [hC]), show splitL 10 [] = [[]] from rfl,
    List.singleton_append, List.singleton_append, goB_blank _ _ (words_head C), goB_blank _ _ words_none, goB_append]
  have h := goB_start T3 (splitL 10 X) (0 + 1 + 1) 0 D3
  by_cases h0 : (goB T3 (splitL 10 X) (0 + 1 + 1) D3).2.2 = 0
  · rw [if_pos h0, goB_blank _ _ (words_foot C)]
    exact ⟨h.1, by rw [← h.2, h0]; rfl⟩
  · rw [if_neg h0]
    exact h
theorem ending (X : List UInt8) : ((goB T3 (splitL 10 X) 0 D3).2.2 = 0 → (goB T3 (splitL 10 (X ++ 10 :: bad)) 0 D3).2 = (((X.count 10 + 2 : Nat) : Int), 3)) ∧
    (¬ (goB T3 (splitL 10 X) 0 D3).2.2 = 0 → (goB T3 (splitL 10 (X ++ 10 :: bad)) 0 D3).2.2 = (goB T3 (splitL 10 X) 0 D3).2.2) := by
  rw [splitL_at, splitL_none 10 bad (by decide), goB_append]
  refine ⟨fun h0 => ?_, fun h0 => by rw [if_neg h0]⟩
  rw [if_pos h0]
  unfold goB
  rw [if_neg (by rw [words_bad]; simp), form_bad, if_neg (by decide), splitL_length]
  show (((0 + (X.count 10 + 1) : Nat) : Int) + 1, (3 : Int)) = _
  rw [Prod.mk.injEq]
  exact ⟨by omega, rfl⟩
theorem fin_ev (s c : ByteArray) (hs : s.size ≤ 300) (hc : c.size ≤ 50) (hC : 10 ∉ c.data.toList) :
    Ev (fun k => emendatelaw34_PricesComments.l1 k s c T3 ((s.data.toList.count 10 + 1 : Nat) : Int) (s.size : Int)) true := by
  have z1 : (⟨#[32, 9, 35]⟩ : ByteArray).size = 3 := rfl
  have z2 : (⟨#[10, 10]⟩ : ByteArray).size = 2 := rfl
  have z3 : (⟨#[10, 32, 32, 35, 32]⟩ : ByteArray).size = 5 := rfl
  have z4 : (⟨#[10, 112, 114, 105, 99, 101, 32, 97, 32, 49]⟩ : ByteArray).size = 10 := rfl
  have hcl : s.data.toList.count 10 ≤ 300 := Nat.le_trans List.count_le_length hs
  have p1 := parse3 s (by omega)
  have p2 := parse3 ((((((⟨#[32, 9, 35]⟩ : ByteArray) ++ c) ++ (⟨#[10, 10]⟩ : ByteArray)) ++ s) ++ (⟨#[10, 32, 32, 35, 32]⟩ : ByteArray)) ++ c) (by simp only [ByteArray.size_append]; omega)
  have p3 := parse3 (s ++ (⟨#[10, 112, 114, 105, 99, 101, 32, 97, 32, 49]⟩ : ByteArray)) (by simp only [ByteArray.size_append]; omega)
  simp only [toList_append] at p2 p3
  have q2 := around s.data.toList c.data.toList hC
  have q3 := ending s.data.toList
  have q2' : ∀ x : PT × Int × Int, x.1 = (goB T3 (splitL 10 s.data.toList) 0 D3).1 → x.2.2 = (goB T3 (splitL 10 s.data.toList) 0 D3).2.2 → x = ((goB T3 (splitL 10 s.data.toList) 0 D3).1, x.2.1, (goB T3 (splitL 10 s.data.toList) 0 D3).2.2) := by
    rintro ⟨a, b, d⟩ h1 h2
    simp only at h1 h2
    rw [h1, h2]
  have e2 := q2' _ q2.1 q2.2
  change Ev _ (fl (goB T3 (splitL 10 ([32, 9, 35] ++ c.data.toList ++ [10, 10] ++ s.data.toList ++ [10, 32, 32, 35, 32] ++ c.data.toList)) 0 D3)) at p2
  rw [e2] at p2
  generalize (goB T3 (splitL 10 ([32, 9, 35] ++ c.data.toList ++ [10, 10] ++ s.data.toList ++ [10, 32, 32, 35, 32] ++ c.data.toList)) 0 D3).2.1 = at2 at p2
  change Ev _ (fl (goB T3 (splitL 10 (s.data.toList ++ 10 :: bad)) 0 D3)) at p3
  have hl := goB_lens (T := 1048576) T3 (splitL 10 s.data.toList) 0 lens3
  generalize goB T3 (splitL 10 s.data.toList) 0 D3 = R at p1 p2 q3 hl
  obtain ⟨P, ln, e⟩ := R
  generalize goB T3 (splitL 10 (s.data.toList ++ 10 :: bad)) 0 D3 = R3 at p3 q3
  obtain ⟨P3, ln3, e3⟩ := R3
  simp only [fl] at p1 p2 p3 q3 hl
  have fin3 : Ev (fun k => emendatelaw34_PricesComments.j3 k s T3 ((s.data.toList.count 10 + 1 : Nat) : Int) e false) true := by
    refine Ev.step (f := fun k => (prices_Parse.f k (s ++ (⟨#[10, 112, 114, 105, 99, 101, 32, 97, 32, 49]⟩ : ByteArray)) T3).bind fun b => if e = 0 then (if b.2.2.2.2.2.2 = 3 then some (b.2.2.2.2.2.1 == wrap64 (((s.data.toList.count 10 + 1 : Nat) : Int) + 1)) else some false) else (if b.2.2.2.2.2.2 = e then some true else some false)) (fun k => ?_) (Ev.bind p3 ?_)
    · conv => lhs; unfold emendatelaw34_PricesComments.j3
      dsimp only
      rw [if_neg (by decide), if_pos (by omega), awake]
      rfl
    · by_cases h0 : e = 0
      · have h := q3.1 h0
        simp only [Prod.mk.injEq] at h
        obtain ⟨rfl, rfl⟩ := h
        simp only [if_pos h0, if_true]
        rw [IntWalk.wrap64_in _ (by omega), show ((((s.data.toList.count 10 + 2 : Nat) : Int)) == (((s.data.toList.count 10 + 1 : Nat) : Int) + 1)) = true from beq_iff_eq.2 (by omega)]
        exact Ev.now true
      · have h := q3.2 h0
        simp only [if_neg h0, if_pos h]
        exact Ev.now true
  refine Ev.step (f := fun k => (prices_Parse.f k s T3).bind fun b => (prices_Parse.f k ((((((⟨#[32, 9, 35]⟩ : ByteArray) ++ c) ++ (⟨#[10, 10]⟩ : ByteArray)) ++ s) ++ (⟨#[10, 32, 32, 35, 32]⟩ : ByteArray)) ++ c) T3).bind fun b2 => if b.2.2.2.2.2.2 = b2.2.2.2.2.2.2 then ((emendateref34_Same.f k b.1 b.2.1 b.2.2.1 b.2.2.2.1 b.2.2.2.2.1 b2.1 b2.2.1 b2.2.2.1 b2.2.2.2.1 b2.2.2.2.2.1).bind fun t => emendatelaw34_PricesComments.j3 k s T3 ((s.data.toList.count 10 + 1 : Nat) : Int) b.2.2.2.2.2.2 (!t)) else emendatelaw34_PricesComments.j3 k s T3 ((s.data.toList.count 10 + 1 : Nat) : Int) b.2.2.2.2.2.2 true) (fun k => ?_) (Ev.bind p1 (Ev.bind p2 ?_))
  · conv => lhs; unfold emendatelaw34_PricesComments.l1
    rw [if_neg (by omega)]
    congr 1
    funext b
    rw [if_pos (by omega), if_pos (by simp only [ByteArray.size_append]; omega), if_pos (by simp only [ByteArray.size_append]; omega), if_pos (by simp only [ByteArray.size_append]; omega), if_pos (by simp only [ByteArray.size_append]; omega)]
  · simp only [if_true]
    refine Ev.bind (same_refl P hl) ?_
    exact fin3
theorem PricesComments : PricesComments.Pure := by
  intro s c _ _
  refine Ev.rounds (?_ : Ev (fun k => emendatelaw34_PricesComments.f k s c) true)
  have hsome : ∀ k, emendatelaw34_PricesComments.f k s c = if (s.size : Int) > 300 then (emendatelaw34_PricesComments.j0 k s c T3 true) else (emendatelaw34_PricesComments.j0 k s c T3 (decide ((c.size : Int) > 50))) := fun k => rfl
  have ht : Ev (fun k => emendatelaw34_PricesComments.j0 k s c T3 true) true := Ev.step (fun k => rfl) (Ev.now true)
  refine Ev.congr hsome ?_
  by_cases h1 : (s.size : Int) > 300
  · simp only [if_pos h1]; exact ht
  · simp only [if_neg h1]
    by_cases h2 : (c.size : Int) > 50
    · simp only [h2, decide_true]; exact ht
    · simp only [h2, decide_false]
      refine Ev.step (f := fun k => emendatelaw34_PricesComments.l0 k s c T3 ((0 : Nat) : Int)) (fun k => rfl) ?_
      refine comment_loop s c (by omega) (fun hC => ?_) _ 0 (by omega) rfl (by simp)
      exact lines_loop s c (by omega) (fin_ev s c (by omega) (by omega) hC) _ 0 (by omega) rfl
end Go.Proofs.YtdcfcpgpbbgceaaGreatDoor.RPricesComments
