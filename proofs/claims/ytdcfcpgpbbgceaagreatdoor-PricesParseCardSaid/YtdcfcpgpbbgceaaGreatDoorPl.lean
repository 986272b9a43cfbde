import Derived.Test.YtdcfcpgpbbgceaaGreatDoorPAllx7
import Derived.Lib.SplitLaws
import Derived.Lib.SpaceUEq
import Derived.Lib.TrimUEq
import Derived.Lib.TrimU
import Derived.IntWalk
set_option linter.unusedVariables false
set_option linter.unusedSimpArgs false
namespace Go.Proofs.YtdcfcpgpbbgceaaGreatDoor.Pl
open Go.Lib Go.Proofs.YtdcfcpgpbbgceaaGreatDoorW.PrintWords
open PAll.prices_fields (blankP)
def splitL (c : UInt8) : List UInt8 → List (List UInt8)
  | [] => [[]]
  | b :: l => if b = c then [] :: splitL c l else match splitL c l with
    | [] => [[b]]
    | h :: t => (b :: h) :: t
theorem index_eq (b c : UInt8) (l : List UInt8) : index (b :: l) [c] = if [c].isPrefixOf (b :: l) then 0 else if index l [c] == -1 then -1 else index l [c] + 1 := rfl
theorem index_cons (b c : UInt8) (l : List UInt8) : index (b :: l) [c] = if c = b then 0 else if index l [c] = -1 then -1 else index l [c] + 1 := by
  rw [index_eq]
  by_cases h : c = b
  · subst h; simp [List.isPrefixOf]
  · rw [if_neg (by simp [List.isPrefixOf, h]), if_neg h]
    by_cases h2 : index l [c] = -1
    · rw [if_pos h2, if_pos (beq_iff_eq.2 h2)]
    · rw [if_neg h2, if_neg (fun e => h2 (beq_iff_eq.1 e))]
theorem splitK_splitL (c : UInt8) : ∀ l : List UInt8, splitK [c] 0 (count l [c]) l = splitL c l
  | [] => by
    rw [count_one]
    rfl
  | b :: l => by
    have ih := splitK_splitL c l
    by_cases h : b = c
    · subst h
      rw [count_cons_eq, Nat.add_comm]
      unfold splitK splitL
      rw [index_cons, if_pos rfl, if_pos rfl, if_neg (by decide)]
      simpa using ih
    · rw [count_cons_ne b c l h]
      unfold splitL
      rw [if_neg h, ← ih]
      generalize count l [c] = n
      cases n with
      | zero => rfl
      | succ n =>
        have hc : ¬ c = b := fun e => h e.symm
        have hix := index_cons b c l
        rw [if_neg hc] at hix
        unfold splitK
        rw [hix]
        by_cases h2 : index l [c] = -1
        · rw [if_pos h2, if_pos (beq_iff_eq.2 rfl), if_pos (beq_iff_eq.2 h2)]
        · have hge := index_ge l [c]
          have e : (index l [c] + 1).toNat = (index l [c]).toNat + 1 := by omega
          have n1 : ¬ (index l [c] + 1 == -1) = true := fun e => by have := beq_iff_eq.1 e; omega
          have n2 : ¬ (index l [c] == -1) = true := fun e => h2 (beq_iff_eq.1 e)
          rw [if_neg h2, if_neg n1, if_neg n2, e]
          simp only [Nat.add_zero, List.take_succ_cons, List.length_singleton, List.drop_succ_cons]
def blankB (b : UInt8) : Bool := b == 32 || b == 9
def scanF (cur : List UInt8) : List UInt8 → List (List UInt8)
  | [] => if cur = [] then [] else [cur]
  | b :: l => if blankB b = true then (if cur = [] then scanF [] l else cur :: scanF [] l) else scanF (cur ++ [b]) l
theorem scanF_skip : ∀ (w : List UInt8) (cur l : List UInt8), (∀ b ∈ w, blankB b = false) → scanF cur (w ++ l) = scanF (cur ++ w) l
  | [], cur, l, _ => by simp
  | b :: w, cur, l, h => by
    rw [List.cons_append, scanF, if_neg (by rw [h b (by simp)]; decide), scanF_skip w (cur ++ [b]) l (fun x hx => h x (by simp [hx]))]
    simp
theorem blankB_high (b : UInt8) (h : 128 ≤ b.toNat) : blankB b = false := by
  unfold blankB
  rw [Bool.or_eq_false_iff]
  constructor <;> (rw [beq_eq_false_iff_ne]; rintro rfl; revert h; decide)
theorem decodeN_high (n b0 b1 b2 b3 : Nat) (h : 128 ≤ b0) : 128 ≤ (decodeN n b0 b1 b2 b3).1 := by
  unfold decodeN
  repeat' split
  all_goals (simp only; omega)
theorem rune_bytes (l : List UInt8) (b : UInt8) (t : List UInt8) (hl : l = b :: t) :
    ((decodeL l).1 = b.toNat ∧ (decodeL l).2 = 1 ∧ b.toNat < 128) ∨ (128 ≤ (decodeL l).1 ∧ 1 ≤ (decodeL l).2 ∧ (decodeL l).2 ≤ l.length ∧ ∀ x ∈ l.take (decodeL l).2, 128 ≤ x.toNat) := by
  by_cases hb : b.toNat < 128
  · left
    rw [hl, decodeL_ascii b t hb]
    exact ⟨rfl, rfl, hb⟩
  · right
    have hN := decodeL_N l
    have hb0 : l.getD 0 0 = b := by rw [hl]; rfl
    have hc := decodeN_conts l.length (l.getD 0 0).toNat (l.getD 1 0).toNat (l.getD 2 0).toNat (l.getD 3 0).toNat
    rw [← hN] at hc
    refine ⟨by rw [hN]; exact decodeN_high _ _ _ _ _ (by rw [hb0]; omega), decodeL_width l, by rw [hN]; exact decodeN_le_n' _ _ _ _ _ (by rw [hl]; simp), ?_⟩
    intro x hx
    obtain ⟨i, hi, hx⟩ := List.getElem_of_mem hx
    rw [List.length_take] at hi
    rw [List.getElem_take] at hx
    have hg : l.getD i 0 = x := by rw [List.getD_eq_getElem?_getD, List.getElem?_eq_getElem (by omega)]; exact hx
    rw [← hg]
    obtain ⟨h1, h2, h3, h4⟩ := hc
    have hi4 : i < 4 := by omega
    rcases i with _ | _ | _ | _ | i
    · rw [hb0]; omega
    · have := (h1 (by omega)).1; show 128 ≤ (l.getD 1 0).toNat; omega
    · have := (h2 (by omega)).1; show 128 ≤ (l.getD 2 0).toNat; omega
    · have := (h3 (by omega)).1; show 128 ≤ (l.getD 3 0).toNat; omega
    · omega
def curOf (L : List UInt8) (pos : Nat) : Option Nat → List UInt8
  | some a => (L.drop a).take (pos - a)
  | none => []
theorem blankP_byte (b : UInt8) : blankP b.toNat = blankB b := by
  unfold blankP blankB
  have key : (List.range 256).all (fun n => ((UInt8.ofNat n).toNat == 32 || (UInt8.ofNat n).toNat == 9) == ((UInt8.ofNat n) == 32 || (UInt8.ofNat n) == 9)) = true := by decide +kernel
  rw [List.all_eq_true] at key
  have h := key b.toNat (List.mem_range.2 b.toNat_lt)
  simpa using h
theorem blankP_high (r : Nat) (h : 128 ≤ r) : blankP r = false := by
  unfold blankP
  rw [Bool.or_eq_false_iff]
  constructor <;> (rw [beq_eq_false_iff_ne]; omega)
theorem take_more (L : List UInt8) (a pos w : Nat) (h : a ≤ pos) : (L.drop a).take (pos - a) ++ (L.drop pos).take w = (L.drop a).take (pos + w - a) := by
  have e : L.drop pos = (L.drop a).drop (pos - a) := by rw [List.drop_drop]; congr 1; omega
  rw [e, ← List.take_add]
  congr 1
  omega
theorem spans_scan (s : ByteArray) (L : List UInt8) (hL : L = s.data.toList) : ∀ (f pos : Nat) (st : Option Nat) (acc : List (Nat × Nat)), L.length - pos ≤ f → pos ≤ L.length → (∀ a, st = some a → a < pos) →
    ((closeSpans s (spansFromP blankP s f pos st acc)).map fun x => (s.extract x.1 x.2).data.toList) = (acc.map fun x => (s.extract x.1 x.2).data.toList) ++ scanF (curOf L pos st) (L.drop pos)
  | f, pos, st, acc, hf, hp, hst => by
    have hsz : s.size = L.length := by rw [hL]; rfl
    by_cases hlt : pos < s.size
    · cases f with
      | zero => omega
      | succ f =>
        obtain ⟨b, t, hbt⟩ : ∃ b t, L.drop pos = b :: t := by
          cases h : L.drop pos with
          | nil => rw [List.drop_eq_nil_iff] at h; omega
          | cons b t => exact ⟨b, t, rfl⟩
        have hd := decodeL_drop s pos
        rw [← hL] at hd
        have hstep := rune_bytes (L.drop pos) b t hbt
        rw [hd] at hstep
        unfold spansFromP
        rw [if_pos hlt]
        rcases hstep with ⟨h1, h2, h3⟩ | ⟨h1, h2, h3, h4⟩
        · rw [h1, h2, blankP_byte]
          have hdrop : L.drop (pos + 1) = t := by rw [← List.drop_drop, hbt]; rfl
          by_cases hbl : blankB b = true
          · rw [if_pos hbl, hbt, scanF, if_pos hbl]
            cases st with
            | none =>
              simp only []
              rw [spans_scan s L hL f (pos + 1) none acc (by omega) (by omega) (by intro a h; cases h), hdrop]
              simp [curOf]
            | some a =>
              have ha := hst a rfl
              simp only []
              rw [spans_scan s L hL f (pos + 1) none (acc ++ [(a, pos)]) (by omega) (by omega) (by intro a h; cases h), hdrop]
              have hne : ¬ curOf L pos (some a) = [] := by
                intro h
                have := congrArg List.length h
                simp [curOf] at this
                omega
              rw [if_neg hne, List.map_append]
              simp only [List.map_cons, List.map_nil, List.append_assoc, List.singleton_append, curOf]
              rw [extract_data, ← hL]
          · have hbl' : blankB b = false := by simpa using hbl
            rw [if_neg hbl]
            cases st with
            | none =>
              simp only []
              rw [spans_scan s L hL f (pos + 1) (some pos) acc (by omega) (by omega) (by intro a h; injection h; omega), hdrop, hbt, scanF, if_neg hbl]
              simp [curOf, hbt]
            | some a =>
              have ha := hst a rfl
              simp only []
              rw [spans_scan s L hL f (pos + 1) (some a) acc (by omega) (by omega) (by intro a' h; injection h; omega), hdrop]
              have hm := take_more L a pos 1 (by omega)
              rw [hbt] at hm ⊢
              rw [scanF, if_neg hbl]
              simp only [curOf]
              rw [← hm]
              rfl
        · rw [blankP_high _ h1]
          simp only [Bool.false_eq_true, if_false]
          have hw : pos + (Utf8.decode s pos).2 ≤ L.length := by rw [List.length_drop] at h3; omega
          generalize (Utf8.decode s pos).2 = w at *
          have hsk : scanF (curOf L pos st) (L.drop pos) = scanF (curOf L pos st ++ (L.drop pos).take w) (L.drop (pos + w)) := by
            have h9 := scanF_skip ((L.drop pos).take w) (curOf L pos st) ((L.drop pos).drop w) (fun x hx => blankB_high x (h4 x hx))
            rw [List.take_append_drop, List.drop_drop] at h9
            exact h9
          rw [hsk]
          cases st with
          | none =>
            simp only []
            rw [spans_scan s L hL f (pos + w) (some pos) acc (by omega) (by omega) (by intro a h; injection h; omega)]
            simp [curOf]
          | some a =>
            have ha := hst a rfl
            simp only []
            rw [spans_scan s L hL f (pos + w) (some a) acc (by omega) (by omega) (by intro a' h; injection h; omega)]
            simp only [curOf]
            rw [take_more L a pos w (by omega)]
    · have hpe : pos = L.length := by omega
      rw [spansFromP_end _ _ _ _ _ _ hlt, hpe, List.drop_length]
      cases st with
      | none => simp [closeSpans, scanF, curOf]
      | some a =>
        have ha := hst a rfl
        have hne : ¬ curOf L L.length (some a) = [] := by
          intro h
          have := congrArg List.length h
          simp [curOf] at this
          omega
        simp only [closeSpans, List.map_append, List.map_cons, List.map_nil]
        rw [scanF, if_neg hne, extract_data, ← hL, hsz]
        rfl
theorem fields_scan (s : ByteArray) : (goFieldsP blankP s).map (·.data.toList) = scanF [] s.data.toList := by
  have h := spans_scan s _ rfl s.size 0 none [] (by show s.data.toList.length - 0 ≤ s.size; exact Nat.le_of_eq rfl) (Nat.zero_le _) (by intro a h; cases h)
  unfold goFieldsP spansOfP
  rw [List.map_map]
  exact h
open PAll.prices_Parse (goL applyP zeroP PT)
theorem goL_cons (terms : List ByteArray) (s : ByteArray) (r : List ByteArray) (i : Nat) (P : PT) : goL terms (s :: r) i P = (PAll.prices_fields.f s).bind fun f => if f.length = 0 then goL terms r (i + 1) P else (PAll.prices_form.f f).bind fun b => if b = true then (if (applyP P f terms).1 = 0 then goL terms r (i + 1) (applyP P f terms).2 else some (zeroP, i + 1, (applyP P f terms).1)) else some (zeroP, i + 1, 3) := rfl
theorem cut_take (l : List UInt8) : (cut l [35]).1 = l.takeWhile (· != 35) := by
  unfold cut
  induction l with
  | nil => rfl
  | cons b l ih =>
    rw [index_cons]
    by_cases h : (35 : UInt8) = b
    · subst h; rfl
    · have hb : (b != 35) = true := by simpa using fun e => h e.symm
      have ht : (b :: l).takeWhile (· != 35) = b :: l.takeWhile (· != 35) := by simp [hb]
      rw [if_neg h, ht, ← ih]
      by_cases h2 : index l [35] = -1
      · simp [h2]
      · have hge := index_ge l [35]
        have e : (index l [35] + 1).toNat = (index l [35]).toNat + 1 := by omega
        simp only [if_neg h2, if_pos (show 0 ≤ index l [35] + 1 by omega), if_pos (show 0 ≤ index l [35] by omega), e, List.take_succ_cons]
def words (l : List UInt8) : List ByteArray := (scanF [] (l.takeWhile (· != 35))).map fun w => ⟨w.toArray⟩
theorem fields_words (s : ByteArray) : PAll.prices_fields.fieldsP s = words s.data.toList := by
  unfold PAll.prices_fields.fieldsP words
  rw [cut_take, ← show ((⟨(s.data.toList.takeWhile (· != 35)).toArray⟩ : ByteArray)).data.toList = s.data.toList.takeWhile (· != 35) by simp, ← fields_scan, List.map_map]
  rw [show ((fun w : List UInt8 => (⟨w.toArray⟩ : ByteArray)) ∘ fun x : ByteArray => x.data.toList) = id from by funext x; cases x; simp, List.map_id]
theorem scanF_bound : ∀ (l cur : List UInt8), (scanF cur l).length ≤ l.length + 1 ∧ ∀ w ∈ scanF cur l, w.length ≤ cur.length + l.length
  | [], cur => by
    unfold scanF
    split
    · simp
    · simp
  | b :: l, cur => by
    unfold scanF
    split
    · split
      · have h := scanF_bound l []
        exact ⟨by simp; omega, fun w hw => by have := h.2 w hw; simp at this ⊢; omega⟩
      · have h := scanF_bound l []
        refine ⟨by simp; omega, fun w hw => ?_⟩
        rcases List.mem_cons.1 hw with rfl | hw
        · first | (simp; done) | (simp; omega)
        · have := h.2 w hw; simp at this ⊢; omega
    · have h := scanF_bound l (cur ++ [b])
      exact ⟨by simp; omega, fun w hw => by have := h.2 w hw; simp at this ⊢; omega⟩
theorem words_bound (l : List UInt8) (n : Nat) (h : l.length ≤ n) : (words l).length ≤ n + 1 ∧ ∀ w ∈ words l, w.size ≤ n := by
  have h1 : (l.takeWhile (· != 35)).length ≤ l.length := (List.takeWhile_sublist _).length_le
  have h2 := scanF_bound (l.takeWhile (· != 35)) []
  unfold words
  refine ⟨by rw [List.length_map]; omega, fun w hw => ?_⟩
  obtain ⟨v, hv, rfl⟩ := List.mem_map.1 hw
  have := h2.2 v hv
  show v.toArray.size ≤ n
  simp at this ⊢
  omega
theorem splitL_bound (c : UInt8) : ∀ (l : List UInt8) (n : Nat), l.length ≤ n → ∀ p ∈ splitL c l, p.length ≤ n
  | [], n, h => by simp [splitL]
  | b :: l, n, h => by
    have hl : l.length + 1 ≤ n := h
    have ih := splitL_bound c l (n - 1) (by omega)
    unfold splitL
    split
    · intro p hp
      rcases List.mem_cons.1 hp with rfl | hp
      · simp
      · have := ih p hp; omega
    · split
      · intro p hp
        obtain rfl := List.mem_singleton.1 hp
        simp; omega
      · rename_i h' t e
        intro p hp
        rw [e] at ih
        rcases List.mem_cons.1 hp with rfl | hp
        · have := ih h' (by simp); simp; omega
        · have := ih p (by simp [hp]); omega
theorem splitL_ne (c : UInt8) (l : List UInt8) : splitL c l ≠ [] := by
  cases l with
  | nil => simp [splitL]
  | cons b l =>
    unfold splitL
    split
    · simp
    · split <;> simp
theorem splitL_cons (c x : UInt8) (a : List UInt8) : splitL c (x :: a) = if x = c then [] :: splitL c a else match splitL c a with
    | [] => [[x]]
    | h :: t => (x :: h) :: t := rfl
theorem splitL_at (c : UInt8) : ∀ (a b : List UInt8), splitL c (a ++ c :: b) = splitL c a ++ splitL c b
  | [], b => by rw [List.nil_append]; conv => lhs; unfold splitL
                simp [splitL]
  | x :: a, b => by
    rw [List.cons_append, splitL_cons, splitL_cons, splitL_at c a b]
    split
    · rfl
    · cases h : splitL c a with
      | nil => exact absurd h (splitL_ne c a)
      | cons p t => rfl
theorem splitL_none (c : UInt8) : ∀ (a : List UInt8), c ∉ a → splitL c a = [a]
  | [], _ => rfl
  | x :: a, h => by
    unfold splitL
    rw [if_neg (fun e => h (by simp [e])), splitL_none c a (fun e => h (by simp [e]))]
theorem splitL_length (c : UInt8) : ∀ (a : List UInt8), (splitL c a).length = a.count c + 1
  | [] => rfl
  | x :: a => by
    unfold splitL
    by_cases h : x = c
    · rw [if_pos h, List.length_cons, splitL_length c a, h, List.count_cons_self]
    · rw [if_neg h, List.count_cons_of_ne (by exact h), ← splitL_length c a]
      cases h2 : splitL c a with
      | nil => exact absurd h2 (splitL_ne c a)
      | cons p t => rfl
open PAll.prices_Parse (apQ)
def formW (f : List ByteArray) : Bool := PAll.prices_form.formP (f.getD 0 ByteArray.empty) (f.getD (f.length - 1) ByteArray.empty) f.length
def goB (terms : List ByteArray) : List (List UInt8) → Nat → PT → PT × Int × Int
  | [], _, P => (P, 0, 0)
  | l :: r, i, P => if words l = [] then goB terms r (i + 1) P else if formW (words l) = true then (if (applyP P (words l) terms).1 = 0 then goB terms r (i + 1) (applyP P (words l) terms).2 else (zeroP, i + 1, (applyP P (words l) terms).1)) else (zeroP, i + 1, 3)
theorem goL_goB (terms : List ByteArray) : ∀ (xs : List ByteArray) (i : Nat) (P : PT), (∀ x ∈ xs, x.size ≤ 2000000) → goL terms xs i P = some (goB terms (xs.map (·.data.toList)) i P)
  | [], i, P, _ => rfl
  | x :: xs, i, P, h => by
    have hx := h x (by simp)
    have ih := fun i P => goL_goB terms xs i P (fun y hy => h y (by simp [hy]))
    have hw := words_bound x.data.toList 2000000 hx
    have hf : PAll.prices_fields.f x = some (words x.data.toList) := by
      unfold PAll.prices_fields.f
      rw [if_pos (by omega), fields_words]
    rw [goL_cons, hf, List.map_cons, goB]
    simp only [Option.bind_some]
    by_cases h0 : words x.data.toList = []
    · rw [if_pos (by rw [h0]; rfl), if_pos h0, ih]
    · have h1 : 1 ≤ (words x.data.toList).length := List.length_pos_iff.2 h0
      rw [if_neg (by omega), if_neg h0]
      have hfm : PAll.prices_form.f (words x.data.toList) = some (formW (words x.data.toList)) := by
        unfold PAll.prices_form.f formW
        rw [if_pos ⟨h1, by omega, by rw [List.all_eq_true]; intro s hs; have := hw.2 s hs; exact decide_eq_true (by omega)⟩]
      rw [hfm]
      simp only [Option.bind_some]
      split
      · split
        · exact ih _ _
        · rfl
      · rfl
theorem goB_blank (terms : List ByteArray) (x : List UInt8) (h : words x = []) (xs : List (List UInt8)) (i : Nat) (P : PT) : goB terms (x :: xs) i P = goB terms xs (i + 1) P := by rw [goB, if_pos h]
def lens (T : Nat) (P : PT) : Prop := P.1.length ≤ T ∧ P.2.1.length ≤ T ∧ P.2.2.1.length ≤ T ∧ ∀ r ∈ P.2.2.1, r.length ≤ T
theorem fin_lens {T : Nat} {P : PT} (hP : lens T P) {v : Int} {ok : Bool} {low : Int} {g : Int → PT} (hg : ∀ x, lens T (g x)) : lens T (PAll.prices_Parse.apFin v ok low g P).2 := by
  unfold PAll.prices_Parse.apFin
  repeat' split
  all_goals first | exact hg _ | exact hP
theorem apply_lens {T : Nat} {P : PT} (hP : lens T P) (f terms : List ByteArray) : lens T (applyP P f terms).2 := by
  obtain ⟨h1, h2, h3, h4⟩ := hP
  have hP : lens T P := ⟨h1, h2, h3, h4⟩
  unfold applyP
  split
  · unfold apQ
    repeat' split
    · exact fin_lens hP fun x => ⟨by simpa using h1, h2, h3, h4⟩
    · exact fin_lens hP fun x => ⟨h1, by simpa using h2, h3, h4⟩
    · exact hP
    · refine fin_lens hP fun x => ⟨h1, h2, by simpa using h3, fun r hr => ?_⟩
      rcases List.mem_or_eq_of_mem_set hr with hr | rfl
      · exact h4 r hr
      · rw [List.length_set]
        by_cases hl : (PAll.prices_Parse.idxP terms (f.getD 1 ByteArray.empty)).toNat < P.2.2.1.length
        · rw [List.getD_eq_getElem?_getD, List.getElem?_eq_getElem hl]
          exact h4 _ (List.getElem_mem hl)
        · rw [List.getD_eq_getElem?_getD, List.getElem?_eq_none (by omega)]
          simp
    · exact fin_lens hP fun x => ⟨h1, h2, h3, h4⟩
    · exact fin_lens hP fun x => ⟨h1, h2, h3, h4⟩
  · exact hP
theorem goB_lens {T : Nat} (terms : List ByteArray) : ∀ (xs : List (List UInt8)) (i : Nat) {P : PT}, lens T P → lens T (goB terms xs i P).1
  | [], i, P, h => h
  | x :: xs, i, P, h => by
    have hz : lens T zeroP := ⟨Nat.zero_le _, Nat.zero_le _, Nat.zero_le _, fun r hr => by cases hr⟩
    rw [goB]
    split
    · exact goB_lens terms xs _ h
    · split
      · split
        · exact goB_lens terms xs _ (apply_lens h _ _)
        · exact hz
      · exact hz
theorem split_lines (s : ByteArray) (h : s.size ≤ 2000000) : ∃ xs, PAll.strings_Split.f s ⟨#[10]⟩ = some xs ∧ xs.map (·.data.toList) = splitL 10 s.data.toList ∧ ∀ x ∈ xs, x.size ≤ 2000000 := by
  have hd : (PAll.strings_Split.splitP s ⟨#[10]⟩).map (·.data.toList) = splitL 10 s.data.toList := by
    unfold PAll.strings_Split.splitP
    rw [splitB_data]
    exact splitK_splitL 10 s.data.toList
  have hc : countB s ⟨#[10]⟩ ≤ 2000000 := by
    have h1 := splitL_length 10 s.data.toList
    rw [← hd, List.length_map] at h1
    have h2 : (PAll.strings_Split.splitP s ⟨#[10]⟩).length = countB s ⟨#[10]⟩ + 1 := by
      unfold PAll.strings_Split.splitP
      exact splitB_all _ (by decide) _ _ _ rfl
    have h3 : s.data.toList.count 10 ≤ s.data.toList.length := List.count_le_length
    have h4 : s.data.toList.length = s.size := rfl
    omega
  refine ⟨_, ?_, hd, fun x hx => ?_⟩
  · unfold PAll.strings_Split.f
    rw [if_pos ⟨by omega, by decide, by omega⟩]
  · have hm : x.data.toList ∈ splitL 10 s.data.toList := by rw [← hd]; exact List.mem_map_of_mem hx
    exact splitL_bound 10 s.data.toList 2000000 h _ hm
theorem parse_goB (k : Nat) (s : ByteArray) (h : s.size ≤ 2000000) (terms : List ByteArray) (P0 : PT) (hn : PAll.prices_names.f k terms = some true) (hd : PAll.prices_Default.f k terms.length = some P0) (hp : PAll.prices_Parse.preB P0 terms.length = true) :
    PAll.prices_Parse.f k s terms = some ((goB terms (splitL 10 s.data.toList) 0 P0).1.1, (goB terms (splitL 10 s.data.toList) 0 P0).1.2.1, (goB terms (splitL 10 s.data.toList) 0 P0).1.2.2.1, (goB terms (splitL 10 s.data.toList) 0 P0).1.2.2.2.1, (goB terms (splitL 10 s.data.toList) 0 P0).1.2.2.2.2, (goB terms (splitL 10 s.data.toList) 0 P0).2.1, (goB terms (splitL 10 s.data.toList) 0 P0).2.2) := by
  obtain ⟨xs, h1, h2, h3⟩ := split_lines s h
  unfold PAll.prices_Parse.f
  rw [hn]
  simp only [Option.bind_some, if_true]
  rw [hd]
  simp only [Option.bind_some, if_pos hp]
  rw [h1]
  simp only [Option.bind_some]
  rw [goL_goB terms xs 0 P0 h3, h2]
  rfl
end Go.Proofs.YtdcfcpgpbbgceaaGreatDoor.Pl
