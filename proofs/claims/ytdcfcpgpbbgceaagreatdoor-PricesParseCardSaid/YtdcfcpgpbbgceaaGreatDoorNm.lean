import Derived.Test.YtdcfcpgpbbgceaaGreatDoorPAllx7
import Derived.Test.YtdcfcpgpbbgceaaGreatDoorPAllx14
import Derived.Test.YtdcfcpgpbbgceaaGreatDoorPAllx15
import Derived.IntWalk
namespace Go.Proofs.YtdcfcpgpbbgceaaGreatDoor.Pl
open Go.RowKit Go.Proofs.YtdcfcpgpbbgceaaGreatDoorW.PrintWords Go.Proofs.YtdcfcpgpbbgceaaGreatDoorW.PrintLast Go.Proofs.YtdcfcpgpbbgceaaGreatDoor.PAll
open PAll.prices_Parse (idxP idxFrom idxP_rg)
set_option linter.unusedVariables false
set_option linter.unusedSimpArgs false
theorem w64 {n : Int} (h : -9223372036854775808 ≤ n ∧ n ≤ 9223372036854775807) : wrap64 n = n := IntWalk.wrap64_in n h
def letP (v : Int) : Bool := (decide (97 ≤ v) && decide (v ≤ 122)) || (decide (65 ≤ v) && decide (v ≤ 90))
def chrI (v : Int) : Bool := letP v || ((decide (48 ≤ v) && decide (v ≤ 57)) || decide (v = 95))
def chk (s : ByteArray) : Nat → Nat → Bool
  | 0, _ => true
  | n + 1, i => chrI (bt s (i : Int)) && chk s n (i + 1)
def kws : List ByteArray := [⟨#[115, 116, 97, 114, 116]⟩, ⟨#[108, 101, 102, 116]⟩, ⟨#[114, 105, 103, 104, 116]⟩, ⟨#[110, 111, 110, 101]⟩, ⟨#[112, 114, 105, 99, 101]⟩]
def tailOk (s : ByteArray) : Bool := decide (1 ≤ s.size) && (decide (s.size ≤ 24) && decide (idxP kws s = -1))
def nameOk (s : ByteArray) : Bool := tailOk s && (letP (bt s 0) && chk s s.size 0)
theorem letter_f (v : Int) : grammarfile_letter.f v = some (letP v) := by
  unfold grammarfile_letter.f letP
  by_cases h1 : v ≥ 97 <;> by_cases h2 : v ≤ 122 <;> by_cases h3 : v ≥ 65 <;> by_cases h4 : v ≤ 90 <;> simp [h1, h2, h3, h4] <;> omega
theorem chr_body {α : Type} (L F : α) (v : Int) : (if letP v = true then L else (if v ≥ 48 then (if v ≤ 57 then L else (if v = 95 then L else F)) else (if v = 95 then L else F))) = if chrI v = true then L else F := by
  unfold chrI
  by_cases h0 : letP v = true
  · simp [h0]
  · by_cases h1 : v ≥ 48 <;> by_cases h2 : v ≤ 57 <;> by_cases h3 : v = 95 <;> simp [h0, h1, h2, h3] <;> omega
theorem chr_body19 {α : Type} (L F : α) (v x : Int) : (if v ≥ 97 then (if v ≤ 122 then L else (if v ≥ 65 then (if v ≤ 90 then L else (if x = 0 then F else (if v < 48 then (if v = 95 then L else F) else (if v > 57 then (if v = 95 then L else F) else L)))) else (if x = 0 then F else (if v < 48 then (if v = 95 then L else F) else (if v > 57 then (if v = 95 then L else F) else L))))) else
    (if v ≥ 65 then (if v ≤ 90 then L else (if x = 0 then F else (if v < 48 then (if v = 95 then L else F) else (if v > 57 then (if v = 95 then L else F) else L)))) else (if x = 0 then F else (if v < 48 then (if v = 95 then L else F) else (if v > 57 then (if v = 95 then L else F) else L))))) = if (letP v || (decide (¬ x = 0) && chrI v)) = true then L else F := by
  have hrest : (if x = 0 then F else (if v < 48 then (if v = 95 then L else F) else (if v > 57 then (if v = 95 then L else F) else L))) = if (decide (¬ x = 0) && ((decide (48 ≤ v) && decide (v ≤ 57)) || decide (v = 95))) = true then L else F := by
    by_cases h0 : x = 0
    · simp [h0]
    · by_cases h1 : v < 48 <;> by_cases h2 : v > 57 <;> by_cases h3 : v = 95 <;> simp [h0, h1, h2, h3] <;> first | omega | (intros; omega) | skip
  rw [hrest]
  unfold chrI letP
  by_cases h0 : x = 0 <;> by_cases h1 : v ≥ 97 <;> by_cases h2 : v ≤ 122 <;> by_cases h3 : v ≥ 65 <;> by_cases h4 : v ≤ 90 <;> simp [h0, h1, h2, h3, h4]
theorem name_l0 (s : ByteArray) (hs : s.size ≤ 140737488355328) : ∀ (n i : Nat), i + n = s.size → Ev (fun k => grammarfile_name.l0 k s (s.size : Int) (i : Int)) (chk s n i)
  | 0, i, h => Ev.step (fun k => by conv => lhs; unfold grammarfile_name.l0
                                    rw [if_neg (by omega)]) (Ev.now true)
  | n + 1, i, h => by
    have ih := name_l0 s hs n (i + 1) (by omega)
    refine Ev.step (f := fun k => if chrI (bt s (i : Int)) = true then grammarfile_name.l0 k s (s.size : Int) ((i + 1 : Nat) : Int) else some false) (fun k => ?_) ?_
    · conv => lhs; unfold grammarfile_name.l0
      simp only [if_pos (show (i : Int) < (s.size : Int) by omega), if_pos (show (0 : Int) ≤ (i : Int) by omega), letter_f, Option.bind_some]
      rw [w64 (by omega), chr_body]
      rfl
    · unfold chk
      cases chrI (bt s (i : Int)) with
      | true => exact ih
      | false => exact Ev.now false
theorem contains_ev (l : List ByteArray) (s : ByteArray) (hl : l.length ≤ 1048576) : Ev (fun k => slices_Contains_string_string.f k l s) (!decide (idxP l s = -1)) := by
  have h := prices_Parse.index_f l s (by omega)
  have hr := idxP_rg l s
  unfold slices_Contains_string_string.f
  refine Ev.bind (Ev.of (fun k => slices_Index_string_string.mono _ _ k) h) ?_
  have e : decide (idxP l s ≥ 0) = !decide (idxP l s = -1) := by
    by_cases h1 : idxP l s = -1
    · simp [h1]
    · simp [h1]; omega
  rw [← e]
  exact Ev.now _
theorem empty_iff (s : ByteArray) : s.toList = ([] : List UInt8) ↔ s.size = 0 := by
  rw [Lib.toList_data, ← List.length_eq_zero_iff]
  exact Iff.rfl
theorem name_ev (s : ByteArray) (hs : s.size ≤ 140737488355328) : Ev (fun k => grammarfile_name.f k s) (nameOk s) := by
  have hf : Ev (fun k => grammarfile_name.j0 k s true) false := Ev.step (fun k => rfl) (Ev.now false)
  unfold grammarfile_name.f nameOk tailOk
  by_cases h0 : s.size = 0
  · simp only [if_pos ((empty_iff s).2 h0), h0]; exact hf
  · simp only [if_neg (fun e => h0 ((empty_iff s).1 e))]
    by_cases h1 : (s.size : Int) > 24
    · simp only [if_pos h1, show ¬ s.size ≤ 24 by omega, decide_false, Bool.and_false, Bool.false_and]; exact hf
    · simp only [if_neg h1, if_pos (show (0 : Int) < (s.size : Int) by omega), letter_f, Option.bind_some, show s.size ≤ 24 by omega, show 1 ≤ s.size by omega, decide_true, Bool.true_and]
      cases letP (bt s 0) with
      | false => simpa using hf
      | true =>
        simp only [if_true, Bool.true_and]
        refine Ev.bind (contains_ev kws s (by decide)) ?_
        cases decide (idxP kws s = -1) with
        | false => exact hf
        | true =>
          simp only [Bool.not_true, Bool.true_and]
          exact Ev.step (fun k => rfl) (name_l0 s hs s.size 0 (by omega))
theorem kw_tail (s : ByteArray) : (if s.toList = ([115, 116, 97, 114, 116] : List UInt8) then (some false) else (if s.toList = ([108, 101, 102, 116] : List UInt8) then (some false) else (if s.toList = ([114, 105, 103, 104, 116] : List UInt8) then (some false) else (if s.toList = ([110, 111, 110, 101] : List UInt8) then (some false) else (some (s.toList != ([112, 114, 105, 99, 101] : List UInt8))))))) = some (decide (idxP kws s = -1)) := by
  have e : ∀ (a : Array UInt8), (s.toList = a.toList) ↔ (⟨a⟩ : ByteArray) = s := fun a => by
    rw [Lib.toList_data]
    constructor
    · intro h; cases s; simp only at h; rw [← Array.toList_inj.1 h]
    · intro h; subst h; rfl
  have e1 := e #[115, 116, 97, 114, 116]
  have e2 := e #[108, 101, 102, 116]
  have e3 := e #[114, 105, 103, 104, 116]
  have e4 := e #[110, 111, 110, 101]
  have e5 := e #[112, 114, 105, 99, 101]
  simp only at e1 e2 e3 e4 e5
  unfold idxP kws
  by_cases h1 : (⟨#[115, 116, 97, 114, 116]⟩ : ByteArray) = s
  · simp [e1.2 h1, h1, idxFrom]
  · by_cases h2 : (⟨#[108, 101, 102, 116]⟩ : ByteArray) = s
    · simp [mt e1.1 h1, e2.2 h2, h1, h2, idxFrom]
    · by_cases h3 : (⟨#[114, 105, 103, 104, 116]⟩ : ByteArray) = s
      · simp [mt e1.1 h1, mt e2.1 h2, e3.2 h3, h1, h2, h3, idxFrom]
      · by_cases h4 : (⟨#[110, 111, 110, 101]⟩ : ByteArray) = s
        · simp [mt e1.1 h1, mt e2.1 h2, mt e3.1 h3, e4.2 h4, h1, h2, h3, h4, idxFrom]
        · by_cases h5 : (⟨#[112, 114, 105, 99, 101]⟩ : ByteArray) = s
          · simp [mt e1.1 h1, mt e2.1 h2, mt e3.1 h3, mt e4.1 h4, e5.2 h5, h1, h2, h3, h4, h5, idxFrom]
          · simp [mt e1.1 h1, mt e2.1 h2, mt e3.1 h3, mt e4.1 h4, mt e5.1 h5, h1, h2, h3, h4, h5, idxFrom]
theorem name_l0R (s : ByteArray) (hs : s.size ≤ 140737488355328) : ∀ (n i : Nat), i + n = s.size → 1 ≤ i → Ev (fun k => emendateref16_Name.l0 k s (i : Int)) (tailOk s && chk s n i)
  | 0, i, h, hi => by
    refine Ev.step (f := fun _ => some (tailOk s)) (fun k => ?_) (by unfold chk; rw [Bool.and_true]; exact Ev.now _)
    conv => lhs; unfold emendateref16_Name.l0
    simp only [if_neg (show ¬ (i : Int) < (s.size : Int) by omega), kw_tail]
    unfold tailOk
    by_cases h0 : s.size = 0
    · rw [if_pos ((empty_iff s).2 h0)]; simp [h0]
    · rw [if_neg (fun e => h0 ((empty_iff s).1 e))]
      by_cases h1 : (s.size : Int) ≤ 24
      · rw [if_pos h1]; simp [show s.size ≤ 24 by omega, show 1 ≤ s.size by omega]
      · rw [if_neg h1]; simp [show ¬ s.size ≤ 24 by omega]
  | n + 1, i, h, hi => by
    have ih := name_l0R s hs n (i + 1) (by omega) (by omega)
    refine Ev.step (f := fun k => if (letP (bt s (i : Int)) || (decide (¬ (i : Int) = 0) && chrI (bt s (i : Int)))) = true then emendateref16_Name.l0 k s ((i + 1 : Nat) : Int) else some false) (fun k => ?_) ?_
    · conv => lhs; unfold emendateref16_Name.l0
      simp only [if_pos (show (i : Int) < (s.size : Int) by omega), if_pos (show (0 : Int) ≤ (i : Int) by omega)]
      rw [w64 (by omega), chr_body19]
      rfl
    · have e : (letP (bt s (i : Int)) || (decide (¬ (i : Int) = 0) && chrI (bt s (i : Int)))) = chrI (bt s (i : Int)) := by
        rw [decide_eq_true (show ¬ (i : Int) = 0 by omega), Bool.true_and]
        unfold chrI
        cases letP (bt s (i : Int)) <;> simp
      simp only [e]
      unfold chk
      cases chrI (bt s (i : Int)) with
      | true => simpa using ih
      | false => simpa using Ev.now false
theorem nameR_ev (s : ByteArray) (hs : s.size ≤ 140737488355328) : Ev (fun k => emendateref16_Name.f k s) (nameOk s) := by
  unfold emendateref16_Name.f nameOk
  by_cases h0 : s.size = 0
  · have ht : tailOk s = false := by unfold tailOk; simp [h0]
    rw [ht, Bool.false_and]
    refine Ev.step (f := fun _ => some false) (fun k => ?_) (Ev.now _)
    conv => lhs; unfold emendateref16_Name.l0
    rw [if_neg (by omega), if_pos ((empty_iff s).2 h0)]
  · obtain ⟨n, hn⟩ : ∃ n, s.size = n + 1 := ⟨s.size - 1, by omega⟩
    have ih := name_l0R s hs n 1 (by omega) (by omega)
    refine Ev.step (f := fun k => if letP (bt s 0) = true then emendateref16_Name.l0 k s ((1 : Nat) : Int) else some false) (fun k => ?_) ?_
    · conv => lhs; unfold emendateref16_Name.l0
      rw [if_pos (show (0 : Int) < (s.size : Int) by omega), if_pos (show (0 : Int) ≤ (0 : Int) by omega), w64 (by omega), chr_body19]
      simp
    · rw [hn]
      unfold chk
      have e : letP (bt s 0) = true → chrI (bt s ((0 : Nat) : Int)) = true := fun h => by unfold chrI; simp at h ⊢; simp [h]
      cases hl : letP (bt s 0) with
      | true =>
        rw [e hl]
        simpa using ih
      | false => simpa using Ev.now false
theorem distinct_one (s : ByteArray) (hs : s.size ≤ 140737488355328) : Ev (fun k => grammarfile_distinct.f k [s]) (nameOk s) := name_ev s hs
theorem gvalid_ev (s : ByteArray) (hs : s.size ≤ 140737488355328) : Ev (fun k => grammarfile_Valid.f k s [] [prices_names.ruleOf s]) (nameOk s) := by
  have h0 : ∀ k, grammarfile_Valid.f k s [] [prices_names.ruleOf s] = grammarfile_Valid.j0 k false s [] [prices_names.ruleOf s] := fun k => rfl
  refine Ev.congr h0 ?_
  refine Ev.step (f := fun k => grammarfile_Valid.l0 k [] [prices_names.ruleOf s] 1 0 s [] [prices_names.ruleOf s]) (fun k => rfl) ?_
  refine Ev.step (f := fun k => grammarfile_Valid.l0 k [s] [prices_names.ruleOf s] 1 1 s [] [prices_names.ruleOf s]) (fun k => by kernel_rfl) ?_
  refine Ev.step (f := fun k => grammarfile_Valid.l1 k [s] [] [] 0 0 s [] [prices_names.ruleOf s]) (fun k => rfl) ?_
  refine Ev.step (f := fun k => (grammarfile_distinct.f k [s]).bind fun t167 => if t167 = true then (grammarfile_distinct.f k []).bind fun t168 => if t168 = true then (slices_Contains_string_string.f k [s] s).bind fun t169 => some t169 else some false else some false) (fun k => rfl) (Ev.bind (distinct_one s hs) ?_)
  cases nameOk s with
  | false => exact Ev.now false
  | true =>
    have hd : ∀ k, grammarfile_distinct.f k [] = some true := fun k => rfl
    simp only [if_true, hd, Option.bind_some]
    refine Ev.bind (contains_ev [s] s (by simp)) ?_
    have e : (!decide (idxP [s] s = -1)) = true := by unfold idxP idxFrom; simp
    rw [e]
    exact Ev.now true
def namesGo (l : List ByteArray) : Nat → Nat → Bool
  | 0, _ => true
  | n + 1, i => nameOk (l.getD i ByteArray.empty) && (decide (idxP (l.take i) (l.getD i ByteArray.empty) = -1) && namesGo l n (i + 1))
def namesOk (l : List ByteArray) : Bool := decide (l.length ≤ 120) && namesGo l l.length 0
theorem getD_size (l : List ByteArray) (h : ∀ s ∈ l, s.size ≤ 140737488355328) (i : Nat) : (l.getD i ByteArray.empty).size ≤ 140737488355328 := by
  rw [List.getD_eq_getElem?_getD]
  by_cases hi : i < l.length
  · rw [List.getElem?_eq_getElem hi]; exact h _ (List.getElem_mem hi)
  · rw [List.getElem?_eq_none (by omega)]; exact Nat.zero_le _
theorem names_go (l : List ByteArray) (h : ∀ s ∈ l, s.size ≤ 140737488355328) (hl : l.length ≤ 120) : ∀ (n i : Nat), Ev (fun k => prices_names.go k l n i) (namesGo l n i)
  | 0, i => Ev.now true
  | n + 1, i => by
    have ih := names_go l h hl n (i + 1)
    unfold prices_names.go namesGo
    refine Ev.bind (gvalid_ev _ (getD_size l h i)) ?_
    cases nameOk (l.getD i ByteArray.empty) with
    | false => exact Ev.now false
    | true =>
      simp only [if_true, Bool.true_and]
      refine Ev.bind (contains_ev (l.take i) _ (by rw [List.length_take]; omega)) ?_
      cases decide (idxP (l.take i) (l.getD i ByteArray.empty) = -1) with
      | false => exact Ev.now false
      | true => simpa using ih
theorem names_ev (l : List ByteArray) (h : ∀ s ∈ l, s.size ≤ 140737488355328) : Ev (fun k => prices_names.f k l) (namesOk l) := by
  unfold prices_names.f namesOk
  by_cases hl : 120 < l.length
  · simp only [if_pos hl, show ¬ l.length ≤ 120 by omega, decide_false, Bool.false_and]; exact Ev.now false
  · simp only [if_neg hl, show l.length ≤ 120 by omega, decide_true, Bool.true_and]; exact names_go l h (by omega) _ _
theorem index19_l0 (l : List ByteArray) (s : ByteArray) (hl : l.length ≤ 1048576) : ∀ (n i : Nat), i + n = l.length → Ev (fun k => emendateref19_index.l0 k l s (i : Int)) (idxFrom s (l.drop i) i)
  | 0, i, h => by
    rw [List.drop_eq_nil_iff.2 (by omega)]
    exact Ev.step (f := fun _ => some (-1)) (fun k => by conv => lhs; unfold emendateref19_index.l0
                                                         rw [if_neg (by omega)]) (Ev.now _)
  | n + 1, i, h => by
    have hi : i < l.length := by omega
    have ih := index19_l0 l s hl n (i + 1) (by omega)
    rw [List.drop_eq_getElem_cons hi, idxFrom]
    have e : rdOf ByteArray.empty l (i : Int) = l[i] := by
      unfold rdOf
      rw [show ((i : Int)).toNat = i from rfl, List.getD_eq_getElem?_getD, List.getElem?_eq_getElem hi]
      rfl
    have e2 : (l[i].toList = s.toList) ↔ l[i] = s := by
      rw [Lib.toList_data, Lib.toList_data]
      constructor
      · intro h
        generalize l[i] = z at *
        cases z; cases s; simp only at h; rw [Array.toList_inj.1 h]
      · intro h; rw [h]
    refine Ev.step (f := fun k => if l[i] = s then some (i : Int) else emendateref19_index.l0 k l s ((i + 1 : Nat) : Int)) (fun k => ?_) ?_
    · conv => lhs; unfold emendateref19_index.l0
      simp only [if_pos (show (i : Int) < (l.length : Int) by omega), if_pos (show (0 : Int) ≤ (i : Int) by omega), e, e2]
      rw [w64 (by omega)]
      rfl
    · by_cases hz : l[i] = s
      · simp only [if_pos hz]; exact Ev.now _
      · simp only [if_neg hz]; exact ih
theorem index19_ev (l : List ByteArray) (s : ByteArray) (hl : l.length ≤ 1048576) : Ev (fun k => emendateref19_index.f k l s) (idxP l s) := index19_l0 l s hl l.length 0 (by omega)
theorem terms_go (l : List ByteArray) (h : ∀ s ∈ l, s.size ≤ 140737488355328) (hl : l.length ≤ 120) : ∀ (n i : Nat), Ev (fun k => emendateref19_Terms.go19 k l n i) (namesGo l n i)
  | 0, i => Ev.now true
  | n + 1, i => by
    have ih := terms_go l h hl n (i + 1)
    unfold emendateref19_Terms.go19 namesGo
    refine Ev.bind (nameR_ev _ (getD_size l h i)) ?_
    cases nameOk (l.getD i ByteArray.empty) with
    | false => exact Ev.now false
    | true =>
      simp only [if_true, Bool.true_and]
      refine Ev.bind (index19_ev (l.take i) _ (by rw [List.length_take]; omega)) ?_
      have hr := idxP_rg (l.take i) (l.getD i ByteArray.empty)
      by_cases hz : idxP (l.take i) (l.getD i ByteArray.empty) = -1
      · simp only [hz]; simpa using ih
      · simp only [if_pos (show 0 ≤ idxP (l.take i) (l.getD i ByteArray.empty) by omega), hz, decide_false, Bool.false_and]; exact Ev.now false
theorem namesR_ev (l : List ByteArray) (h : ∀ s ∈ l, s.size ≤ 140737488355328) : Ev (fun k => emendateref34_names.f k l) (namesOk l) := by
  unfold emendateref34_names.f namesOk
  by_cases hl : (l.length : Int) ≤ 120
  · simp only [if_pos hl, show l.length ≤ 120 by omega, decide_true, Bool.true_and]
    exact Ev.bind (terms_go l h (by omega) _ _) (Ev.now _)
  · simp only [if_neg hl, show ¬ l.length ≤ 120 by omega, decide_false, Bool.false_and]; exact Ev.now false
end Go.Proofs.YtdcfcpgpbbgceaaGreatDoor.Pl
