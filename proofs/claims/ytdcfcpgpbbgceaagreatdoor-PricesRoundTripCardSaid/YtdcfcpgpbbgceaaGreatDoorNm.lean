import Derived.Test.YtdcfcpgpbbgceaaGreatDoorPAllx7
import Derived.Test.YtdcfcpgpbbgceaaGreatDoorPAllx14
import Derived.Test.YtdcfcpgpbbgceaaGreatDoorPAllx15
import Derived.IntWalk
namespace Go.Proofs.YtdcfcpgpbbgceaaGreatDoor.Pl
open Go.RowKit Go.Proofs.YtdcfcpgpbbgceaaGreatDoorW.PrintWords Go.Proofs.YtdcfcpgpbbgceaaGreatDoorW.PrintLast Go.Proofs.YtdcfcpgpbbgceaaGreatDoor.PAll
open PAll.prices_Parse (idxP idxFrom idxP_rg)
set_option linter.unusedVariables false
set_option linter.unusedSimpArgs false
theorem w64 {n : Int} (h : -9223372036854775808 ≤ n ∧ n ≤ 9223372036854775807) : wrap64 n = n := IntWalk.wrap64_in n h
def letP (v : Int) : Bool := (decide (97 ≤ v) && decide (v ≤ 122)) || (decide (65 ≤ v) && decide (v ≤ 90))
def chrI (v : Int) : Bool := letP v || ((decide (48 ≤ v) && decide (v ≤ 57)) || decide (v = 95))
def chk (s : ByteArray) : Nat → Nat → Bool
  | 0, _ => true
  | n + 1, i => chrI (bt s (i : Int)) && chk s n (i + 1)
def kws : List ByteArray := [⟨#[115, 116, 97, 114, 116]⟩, ⟨#[108, 101, 102, 116]⟩, ⟨#[114, 105, 103, 104, 116]⟩, ⟨#[110, 111, 110, 101]⟩, ⟨#[112, 114, 105, 99, 101]⟩]
def tailOk (s : ByteArray) : Bool := decide (1 ≤ s.size) && (decide (s.size ≤ 24) && decide (idxP kws s = -1))
def nameOk (s : ByteArray) : Bool := tailOk s && (letP (bt s 0) && chk s s.size 0)
theorem letter_f (v : Int) : grammarfile_letter.f v = some (letP v) := by
  unfold grammarfile_letter.f letP
  by_cases h1 : v ≥ 97 <;> by_cases h2 : v ≤ 122 <;> by_cases h3 : v ≥ 65 <;> by_cases h4 : v ≤ 90 <;> simp [h1, h2, h3, h4] <;> omega
theorem chr_body {α : Type} (L F : α) (v : Int) : (if letP v = true then L else (if v ≥ 48 then (if v ≤ 57 then L else (if v = 95 then L else F)) else (if v = 95 then L else F))) = if chrI v = true then L else F := by
  unfold chrI
  by_cases h0 : letP v = true
  · simp [h0]
  · by_cases h1 : v ≥ 48 <;> by_cases h2 : v ≤ 57 <;> by_cases h3 : v = 95 <;> simp [h0, h1, h2, h3] <;> omega
theorem name_l0 (s : ByteArray) (hs : s.size ≤ 140737488355328) : ∀ (n i : Nat), i + n = s.size → Ev (fun k => grammarfile_name.l0 k s (s.size : Int) (i : Int)) (chk s n i)
  | 0, i, h => Ev.step (fun k => by conv => lhs; unfold grammarfile_name.l0
                                    rw [if_neg (by omega)]) (Ev.now true)
  | n + 1, i, h => by
    have ih := name_l0 s hs n (i + 1) (by omega)
    refine Ev.step (f := fun k => if chrI (bt s (i : Int)) = true then grammarfile_name.l0 k s (s.size : Int) ((i + 1 : Nat) : Int) else some false) (fun k => ?_) ?_
    · conv => lhs; unfold grammarfile_name.l0
      simp only [if_pos (show (i : Int) < (s.size : Int) by omega), if_pos (show (0 : Int) ≤ (i : Int) by omega), letter_f, Option.bind_some]
      rw [w64 (by omega), chr_body]
      rfl
    · unfold chk
      cases chrI (bt s (i : Int)) with
      | true => exact ih
      | false => exact Ev.now false
theorem contains_ev (l : List ByteArray) (s : ByteArray) (hl : l.length ≤ 1048576) : Ev (fun k => slices_Contains_string_string.f k l s) (!decide (idxP l s = -1)) := by
  have h := prices_Parse.index_f l s (by omega)
  have hr := idxP_rg l s
  unfold slices_Contains_string_string.f
  refine Ev.bind (Ev.of (fun k => slices_Index_string_string.mono _ _ k) h) ?_
  have e : decide (idxP l s ≥ 0) = !decide (idxP l s = -1) := by
    by_cases h1 : idxP l s = -1
    · simp [h1]
    · simp [h1]; omega
  rw [← e]
  exact Ev.now _
theorem empty_iff (s : ByteArray) : s.toList = ([] : List UInt8) ↔ s.size = 0 := by
  rw [Lib.toList_data, ← List.length_eq_zero_iff]
  exact Iff.rfl
theorem name_ev (s : ByteArray) (hs : s.size ≤ 140737488355328) : Ev (fun k => grammarfile_name.f k s) (nameOk s) := by
  have hf : Ev (fun k => grammarfile_name.j0 k s true) false := Ev.step (fun k => rfl) (Ev.now false)
  unfold grammarfile_name.f nameOk tailOk
  by_cases h0 : s.size = 0
  · simp only [if_pos ((empty_iff s).2 h0), h0]; exact hf
  · simp only [if_neg (fun e => h0 ((empty_iff s).1 e))]
    by_cases h1 : (s.size : Int) > 24
    · simp only [if_pos h1, show ¬ s.size ≤ 24 by omega, decide_false, Bool.and_false, Bool.false_and]; exact hf
    · simp only [if_neg h1, if_pos (show (0 : Int) < (s.size : Int) by omega), letter_f, Option.bind_some, show s.size ≤ 24 by omega, show 1 ≤ s.size by omega, decide_true, Bool.true_and]
      cases letP (bt s 0) with
      | false => simpa using hf
      | true =>
        simp only [if_true, Bool.true_and]
        refine Ev.bind (contains_ev kws s (by decide)) ?_
        cases decide (idxP kws s = -1) with
        | false => exact hf
        | true =>
          simp only [Bool.not_true, Bool.true_and]
          exact Ev.step (fun k => rfl) (name_l0 s hs s.size 0 (by omega))
theorem distinct_one (s : ByteArray) (hs : s.size ≤ 140737488355328) : Ev (fun k => grammarfile_distinct.f k [s]) (nameOk s) := name_ev s hs
theorem gvalid_ev (s : ByteArray) (hs : s.size ≤ 140737488355328) : Ev (fun k => grammarfile_Valid.f k s [] [prices_names.ruleOf s]) (nameOk s) := by
  have h0 : ∀ k, grammarfile_Valid.f k s [] [prices_names.ruleOf s] = grammarfile_Valid.j0 k false s [] [prices_names.ruleOf s] := fun k => rfl
  refine Ev.congr h0 ?_
  refine Ev.step (f := fun k => grammarfile_Valid.l0 k [] [prices_names.ruleOf s] 1 0 s [] [prices_names.ruleOf s]) (fun k => rfl) ?_
  refine Ev.step (f := fun k => grammarfile_Valid.l0 k [s] [prices_names.ruleOf s] 1 1 s [] [prices_names.ruleOf s]) (fun k => by kernel_rfl) ?_
  refine Ev.step (f := fun k => grammarfile_Valid.l1 k [s] [] [] 0 0 s [] [prices_names.ruleOf s]) (fun k => rfl) ?_
  refine Ev.step (f := fun k => (grammarfile_distinct.f k [s]).bind fun t167 => if t167 = true then (grammarfile_distinct.f k []).bind fun t168 => if t168 = true then (slices_Contains_string_string.f k [s] s).bind fun t169 => some t169 else some false else some false) (fun k => rfl) (Ev.bind (distinct_one s hs) ?_)
  cases nameOk s with
  | false => exact Ev.now false
  | true =>
    have hd : ∀ k, grammarfile_distinct.f k [] = some true := fun k => rfl
    simp only [if_true, hd, Option.bind_some]
    refine Ev.bind (contains_ev [s] s (by simp)) ?_
    have e : (!decide (idxP [s] s = -1)) = true := by unfold idxP idxFrom; simp
    rw [e]
    exact Ev.now true
def namesGo (l : List ByteArray) : Nat → Nat → Bool
  | 0, _ => true
  | n + 1, i => nameOk (l.getD i ByteArray.empty) && (decide (idxP (l.take i) (l.getD i ByteArray.empty) = -1) && namesGo l n (i + 1))
def namesOk (l : List ByteArray) : Bool := decide (l.length ≤ 120) && namesGo l l.length 0
theorem getD_size (l : List ByteArray) (h : ∀ s ∈ l, s.size ≤ 140737488355328) (i : Nat) : (l.getD i ByteArray.empty).size ≤ 140737488355328 := by
  rw [List.getD_eq_getElem?_getD]
  by_cases hi : i < l.length
  · rw [List.getElem?_eq_getElem hi]; exact h _ (List.getElem_mem hi)
  · rw [List.getElem?_eq_none (by omega)]; exact Nat.zero_le _
theorem names_go (l : List ByteArray) (h : ∀ s ∈ l, s.size ≤ 140737488355328) (hl : l.length ≤ 120) : ∀ (n i : Nat), Ev (fun k => prices_names.go k l n i) (namesGo l n i)
  | 0, i => Ev.now true
  | n + 1, i => by
    have ih := names_go l h hl n (i + 1)
    unfold prices_names.go namesGo
    refine Ev.bind (gvalid_ev _ (getD_size l h i)) ?_
    cases nameOk (l.getD i ByteArray.empty) with
    | false => exact Ev.now false
    | true =>
      simp only [if_true, Bool.true_and]
      refine Ev.bind (contains_ev (l.take i) _ (by rw [List.length_take]; omega)) ?_
      cases decide (idxP (l.take i) (l.getD i ByteArray.empty) = -1) with
      | false => exact Ev.now false
      | true => simpa using ih
theorem names_ev (l : List ByteArray) (h : ∀ s ∈ l, s.size ≤ 140737488355328) : Ev (fun k => prices_names.f k l) (namesOk l) := by
  unfold prices_names.f namesOk
  by_cases hl : 120 < l.length
  · simp only [if_pos hl, show ¬ l.length ≤ 120 by omega, decide_false, Bool.false_and]; exact Ev.now false
  · simp only [if_neg hl, show l.length ≤ 120 by omega, decide_true, Bool.true_and]; exact names_go l h (by omega) _ _
end Go.Proofs.YtdcfcpgpbbgceaaGreatDoor.Pl
