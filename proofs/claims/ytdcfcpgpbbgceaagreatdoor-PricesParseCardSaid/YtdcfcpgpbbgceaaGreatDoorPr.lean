import Derived.Test.YtdcfcpgpbbgceaaGreatDoorRv
import Derived.Test.YtdcfcpgpbbgceaaGreatDoorPAllx15
import Derived.Test.YtdcfcpgpbbgceaaGreatDoorPAllx17d
import Derived.Test.YtdcfcpgpbbgceaaGreatDoorPAllx16
namespace Go.Proofs.YtdcfcpgpbbgceaaGreatDoor.Pl
open Go.RowKit Go.Proofs.YtdcfcpgpbbgceaaGreatDoorW.PrintWords Go.Proofs.YtdcfcpgpbbgceaaGreatDoorW.PrintLast Go.Proofs.YtdcfcpgpbbgceaaGreatDoor.PAll
open PAll.prices_Parse (idxP idxFrom idxP_rg applyP zeroP PT apQ apFin preB)
open PAll.prices_form (kIns kDel kRep kSwap kUnk kNever sizeK formP)
open PAll.prices_number (numP numVal isDig)
set_option linter.unusedVariables false
set_option linter.unusedSimpArgs false
theorem toList_nil (L : List UInt8) : (of L).toList = ([] : List UInt8) ↔ L = [] := by rw [Lib.toList_data]
theorem extract_one (s : ByteArray) (i : Nat) (h : i < s.size) : s.extract i (i + 1) = of [s.data.toList[i]'h] := by
  apply of_eq
  have e : (s.extract i (i + 1)).data.toList = (s.data.toList.drop i).take 1 := by
    rw [Lib.extract_data]
    congr 1
    omega
  rw [e, List.drop_eq_getElem_cons (show i < s.data.toList.length from h)]
  rfl
theorem of_app (a b : List UInt8) : of a ++ of b = of (a ++ b) := by apply of_eq; simp [app_list]
theorem fields_loop (s : ByteArray) (hs : s.size ≤ 100000) : ∀ (m i : Nat) (acc : List ByteArray) (cur : List UInt8), i + m = s.size → acc.length ≤ i → cur.length ≤ i →
    Ev (fun k => emendateref34_fields.l0 k s acc (of cur) (i : Int)) (acc ++ (scanF cur (s.data.toList.drop i)).map of)
  | m, i, acc, cur, h, ha, hc => by
    have hlen : s.data.toList.length = s.size := rfl
    cases m with
    | zero =>
      have hi : i = s.size := by omega
      rw [List.drop_eq_nil_iff.2 (by omega), scanF]
      have last : ∀ a : List ByteArray, Ev (fun k => emendateref34_fields.l0 k s a (⟨#[]⟩ : ByteArray) ((i : Int) + 1)) a := fun a =>
        Ev.step (f := fun _ => some a) (fun k => by conv => lhs; unfold emendateref34_fields.l0
                                                    rw [if_neg (by omega)]) (Ev.now a)
      refine Ev.step (f := fun k => emendateref34_fields.j1 k s acc (of cur) (i : Int) true) (fun k => ?_) ?_
      · conv => lhs; unfold emendateref34_fields.l0
        rw [if_pos (by omega), if_pos (by omega)]
      · by_cases h0 : cur = []
        · rw [if_pos h0, List.map_nil, List.append_nil]
          refine Ev.step (fun k => ?_) (last acc)
          conv => lhs; unfold emendateref34_fields.j1
          rw [if_pos rfl, if_pos ((toList_nil cur).2 h0), IntWalk.wrap64_in _ (by omega)]
        · rw [if_neg h0]
          refine Ev.step (fun k => ?_) (last (acc ++ [of cur]))
          conv => lhs; unfold emendateref34_fields.j1
          rw [if_pos rfl, if_neg (fun e => h0 ((toList_nil cur).1 e)), if_pos (by omega), IntWalk.wrap64_in _ (by omega)]
    | succ m =>
      have hi : i < s.size := by omega
      have hi' : i < s.data.toList.length := hi
      rw [List.drop_eq_getElem_cons hi', scanF]
      have hb : bt s (i : Int) = ((s.data.toList[i]).toNat : Int) := bt_nat s i hi
      have hblank : ∀ b : UInt8, blankB b = (decide ((b.toNat : Int) = 32) || ((b.toNat : Int) == 9)) := by
        intro b
        exact eq_of_beq (prices_number.u8_forall (p := fun b => blankB b == (decide ((b.toNat : Int) = 32) || ((b.toNat : Int) == 9))) (by decide +kernel) b)
      have st : ∀ k, emendateref34_fields.l0 (k + 1) s acc (of cur) (i : Int) = emendateref34_fields.j1 k s acc (of cur) (i : Int) (blankB s.data.toList[i]) := by
        intro k
        conv => lhs; unfold emendateref34_fields.l0
        rw [if_pos (by omega), if_neg (by omega), if_pos (by omega), if_pos (by omega), hb, hblank]
        by_cases h32 : ((s.data.toList[i]).toNat : Int) = 32
        · rw [if_pos h32, decide_eq_true h32, Bool.true_or]
        · rw [if_neg h32, decide_eq_false h32, Bool.false_or]
      refine Ev.step st ?_
      cases hbl : blankB s.data.toList[i] with
      | true =>
        rw [if_pos rfl]
        by_cases h0 : cur = []
        · rw [if_pos h0]
          have ih := fields_loop s hs m (i + 1) acc [] (by omega) (by omega) (by simp)
          refine Ev.step (fun k => ?_) ih
          conv => lhs; unfold emendateref34_fields.j1
          rw [if_pos rfl, if_pos ((toList_nil cur).2 h0), IntWalk.wrap64_in _ (by omega)]
          rfl
        · rw [if_neg h0, List.map_cons]
          have ih := fields_loop s hs m (i + 1) (acc ++ [of cur]) [] (by omega) (by rw [List.length_append]; simp; omega) (by simp)
          rw [List.append_assoc, List.singleton_append] at ih
          refine Ev.step (fun k => ?_) ih
          conv => lhs; unfold emendateref34_fields.j1
          rw [if_pos rfl, if_neg (fun e => h0 ((toList_nil cur).1 e)), if_pos (by omega), IntWalk.wrap64_in _ (by omega)]
          rfl
      | false =>
        rw [if_neg Bool.false_ne_true]
        have ih := fields_loop s hs m (i + 1) acc (cur ++ [s.data.toList[i]]) (by omega) (by omega) (by rw [List.length_append]; simp; omega)
        refine Ev.step (fun k => ?_) ih
        have e1 : (((i : Int) + 1)).toNat = i + 1 := by omega
        conv => lhs; unfold emendateref34_fields.j1
        rw [if_neg Bool.false_ne_true, IntWalk.wrap64_in _ (by omega), if_pos (by omega), if_pos (by omega), if_pos (by omega), e1, show ((i : Int)).toNat = i from rfl, extract_one s i hi,
          if_pos (by rw [of_size, of_size]; simp; omega), of_app]
        rfl
theorem fields_ev (L : List UInt8) (hL : L.length ≤ 100000) : Ev (fun k => emendateref34_fields.f k (of L)) ((scanF [] L).map of) := by
  have h := fields_loop (of L) (by rw [of_size]; exact hL) (of L).size 0 [] [] (by omega) (by simp) (by simp)
  rw [List.drop_zero, List.nil_append] at h
  exact h
def numR (s : ByteArray) : Int := if (numP s).2 = true then (numP s).1 else -1
theorem number_loop (s : ByteArray) (hs : s.size ≤ 9) : ∀ (m i : Nat) (v : Int), i + m = s.size → 0 ≤ v → v < 10 ^ i →
    Ev (fun k => emendateref34_number.l0 k s v (i : Int)) (if (s.data.toList.drop i).all isDig = true then (s.data.toList.drop i).foldl (fun (a : Int) b => a * 10 + ((b.toNat : Int) - 48)) v else -1)
  | 0, i, v, h, h0, hv => by
    rw [List.drop_eq_nil_iff.2 (by show s.size ≤ i; omega)]
    refine Ev.step (f := fun _ => some v) (fun k => ?_) (Ev.now _)
    conv => lhs; unfold emendateref34_number.l0
    rw [if_neg (by omega)]
  | m + 1, i, v, h, h0, hv => by
    have hi : i < s.size := by omega
    have hi' : i < s.data.toList.length := hi
    rw [List.drop_eq_getElem_cons hi', List.all_cons, List.foldl_cons]
    have hb : bt s (i : Int) = ((s.data.toList[i]).toNat : Int) := bt_nat s i hi
    have hd : ∀ b : UInt8, isDig b = (decide (48 ≤ (b.toNat : Int)) && decide ((b.toNat : Int) ≤ 57)) := by
      intro b
      exact eq_of_beq (prices_number.u8_forall (p := fun b => isDig b == (decide (48 ≤ (b.toNat : Int)) && decide ((b.toNat : Int) ≤ 57))) (by decide +kernel) b)
    rw [hd]
    generalize s.data.toList[i] = b at hb ⊢
    have h1 : (b.toNat : Int) < 256 := by have := b.toNat_lt; omega
    by_cases c1 : (b.toNat : Int) < 48
    · rw [decide_eq_false (show ¬ 48 ≤ (b.toNat : Int) by omega), Bool.false_and, Bool.false_and, if_neg Bool.false_ne_true]
      refine Ev.step (f := fun _ => some (-1)) (fun k => ?_) (Ev.now _)
      conv => lhs; unfold emendateref34_number.l0
      rw [if_pos (by omega), if_pos (by omega), hb, if_pos c1]
    · by_cases c2 : (b.toNat : Int) > 57
      · rw [decide_eq_false (show ¬ (b.toNat : Int) ≤ 57 by omega), Bool.and_false, Bool.false_and, if_neg Bool.false_ne_true]
        refine Ev.step (f := fun _ => some (-1)) (fun k => ?_) (Ev.now _)
        conv => lhs; unfold emendateref34_number.l0
        rw [if_pos (by omega), if_pos (by omega), hb, if_neg c1, if_pos c2]
      · rw [decide_eq_true (show 48 ≤ (b.toNat : Int) by omega), decide_eq_true (show (b.toNat : Int) ≤ 57 by omega), Bool.true_and, Bool.true_and]
        have hp : v * 10 + 10 ≤ 10 ^ (i + 1) := by
          have e : (10 : Int) ^ (i + 1) = 10 ^ i * 10 := Int.pow_succ ..
          rw [e]
          omega
        have h9 : (10 : Int) ^ (i + 1) ≤ 1000000000 := by
          have h2 : (10 : Nat) ^ (i + 1) ≤ 10 ^ 9 := Nat.pow_le_pow_right (by omega) (by omega)
          have h3 : (((10 : Nat) ^ (i + 1) : Nat) : Int) ≤ ((10 ^ 9 : Nat) : Int) := Int.ofNat_le.2 h2
          rw [Int.natCast_pow] at h3
          exact h3
        have ih := number_loop s hs m (i + 1) (v * 10 + ((b.toNat : Int) - 48)) (by omega) (by omega) (by omega)
        refine Ev.step (fun k => ?_) ih
        conv => lhs; unfold emendateref34_number.l0
        rw [if_pos (by omega), if_pos (by omega), hb, if_neg c1, if_neg c2, IntWalk.wrap64_in (10 * v) (by omega), show ((b.toNat : Int) - 48) % 256 = (b.toNat : Int) - 48 by omega, IntWalk.wrap64_in _ (by omega), IntWalk.wrap64_in _ (by omega),
          show 10 * v + ((b.toNat : Int) - 48) = v * 10 + ((b.toNat : Int) - 48) by omega]
        rfl
theorem number_ev (s : ByteArray) : Ev (fun k => emendateref34_number.f k s) (numR s) := by
  have ht : Ev (fun k => emendateref34_number.j0 k s true) (-1) := Ev.step (f := fun _ => some (-1)) (fun k => rfl) (Ev.now _)
  by_cases h1 : s.size < 1
  · have e : numR s = -1 := by unfold numR numP; rw [if_neg (show ¬ (1 ≤ s.size ∧ s.size ≤ 9 ∧ s.data.toList.all isDig = true) from fun h => by omega)]; rfl
    rw [e]
    unfold emendateref34_number.f
    simp only [if_pos (show (s.size : Int) < 1 by omega)]
    exact ht
  by_cases h2 : s.size > 9
  · have e : numR s = -1 := by unfold numR numP; rw [if_neg (show ¬ (1 ≤ s.size ∧ s.size ≤ 9 ∧ s.data.toList.all isDig = true) from fun h => by omega)]; rfl
    rw [e]
    unfold emendateref34_number.f
    simp only [if_neg (show ¬ (s.size : Int) < 1 by omega), decide_eq_true (show (s.size : Int) > 9 by omega)]
    exact ht
  unfold emendateref34_number.f
  simp only [if_neg (show ¬ (s.size : Int) < 1 by omega), decide_eq_false (show ¬ (s.size : Int) > 9 by omega)]
  have h := number_loop s (by omega) s.size 0 0 (by omega) (by omega) (by decide)
  rw [List.drop_zero] at h
  refine Ev.step (f := fun k => emendateref34_number.l0 k s 0 0) (fun k => rfl) ?_
  by_cases ha : s.data.toList.all isDig = true
  · rw [if_pos ha] at h
    have hp : numP s = (numVal s.data.toList, true) := by unfold numP; rw [if_pos ⟨by omega, by omega, ha⟩]
    have e : numR s = numVal s.data.toList := by unfold numR; rw [hp]; rfl
    rw [e]
    exact h
  · rw [if_neg ha] at h
    have e : numR s = -1 := by unfold numR numP; rw [if_neg (show ¬ (1 ≤ s.size ∧ s.size ≤ 9 ∧ s.data.toList.all isDig = true) from fun h => ha h.2.2)]; rfl
    rw [e]
    exact h
theorem index34_l0 (l : List ByteArray) (s : ByteArray) (hl : l.length ≤ 1048576) : ∀ (n i : Nat), i + n = l.length → Ev (fun k => emendateref34_index.l0 k l s (i : Int)) (idxFrom s (l.drop i) i)
  | 0, i, h => by
    rw [List.drop_eq_nil_iff.2 (by omega)]
    exact Ev.step (f := fun _ => some (-1)) (fun k => by conv => lhs; unfold emendateref34_index.l0
                                                         rw [if_neg (by omega)]) (Ev.now _)
  | n + 1, i, h => by
    have hi : i < l.length := by omega
    have ih := index34_l0 l s hl n (i + 1) (by omega)
    rw [List.drop_eq_getElem_cons hi, idxFrom]
    have e : rdOf ByteArray.empty l (i : Int) = l[i] := by
      unfold rdOf
      rw [show ((i : Int)).toNat = i from rfl, List.getD_eq_getElem?_getD, List.getElem?_eq_getElem hi]
      rfl
    have e2 : (l[i].toList = s.toList) ↔ l[i] = s := by
      rw [Lib.toList_data, Lib.toList_data]
      constructor
      · intro h
        generalize l[i] = z at *
        cases z; cases s; simp only at h; rw [Array.toList_inj.1 h]
      · intro h; rw [h]
    refine Ev.step (f := fun k => if l[i] = s then some (i : Int) else emendateref34_index.l0 k l s ((i + 1 : Nat) : Int)) (fun k => ?_) ?_
    · conv => lhs; unfold emendateref34_index.l0
      simp only [if_pos (show (i : Int) < (l.length : Int) by omega), if_pos (show (0 : Int) ≤ (i : Int) by omega), e, e2]
      rw [w64 (by omega)]
      rfl
    · by_cases hz : l[i] = s
      · simp only [if_pos hz]; exact Ev.now _
      · simp only [if_neg hz]; exact ih
theorem index34_ev (l : List ByteArray) (s : ByteArray) (hl : l.length ≤ 1048576) : Ev (fun k => emendateref34_index.f k l s) (idxP l s) := index34_l0 l s hl l.length 0 (by omega)
theorem with_f (l : List Int) (i : Nat) (x : Int) (h : i < l.length) (hl : l.length ≤ 1048576) : emendateref34_with.f l (i : Int) x = some (l.set i x) := by
  unfold emendateref34_with.f
  simp only [Option.bind_some, List.nil_append, List.length_nil]
  rw [if_pos (by omega), if_pos (by omega), if_pos (by omega)]
  rfl
end Go.Proofs.YtdcfcpgpbbgceaaGreatDoor.Pl
