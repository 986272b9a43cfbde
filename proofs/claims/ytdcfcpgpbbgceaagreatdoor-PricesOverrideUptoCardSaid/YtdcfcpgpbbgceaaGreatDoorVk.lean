import Derived.Test.YtdcfcpgpbbgceaaGreatDoorPAllx2
import Derived.Test.YtdcfcpgpbbgceaaGreatDoorPAllx3
import Derived.Test.YtdcfcpgpbbgceaaGreatDoorPAllx10
import Derived.Test.YtdcfcpgpbbgceaaGreatDoorPAllx11
import Derived.IntWalk
namespace Go.Proofs.YtdcfcpgpbbgceaaGreatDoor.Pl
open Go.RowKit Go.Proofs.YtdcfcpgpbbgceaaGreatDoorW.PrintWords Go.Proofs.YtdcfcpgpbbgceaaGreatDoorW.PrintLast Go.Proofs.YtdcfcpgpbbgceaaGreatDoor.PAll
set_option linter.unusedVariables false
set_option linter.unusedSimpArgs false
def rng (x low : Int) : Bool := decide (low ≤ x) && decide (x ≤ 1000)
def entOk (a c : Nat) (x : Int) : Bool := if a = c then decide (x = 0) else (decide (x = -1) || rng x 1)
def rowChk (row : List Int) (a : Nat) : Nat → Nat → Bool
  | 0, _ => true
  | m + 1, c => entOk a c (row.getD c 0) && rowChk row a m (c + 1)
def allChk (l0 l1 : List Int) (l2 : List (List Int)) (n : Nat) : Nat → Nat → Bool
  | 0, _ => true
  | m + 1, a => (rng (l0.getD a 0) 1 && (rng (l1.getD a 0) 1 && (decide ((l2.getD a []).length = n) && rowChk (l2.getD a []) a n 0))) && allChk l0 l1 l2 n m (a + 1)
def vok (l0 l1 : List Int) (l2 : List (List Int)) (s u : Int) (n : Nat) : Bool :=
  (decide (l0.length = n) && (decide (l1.length = n) && decide (l2.length = n))) && ((rng s 0 && rng u 1) && allChk l0 l1 l2 n n 0)
theorem in_rng (x low : Int) : prices_in.f x low = some (rng x low) := by
  unfold prices_in.f rng
  by_cases h : x ≥ low
  · rw [if_pos h, decide_eq_true (show low ≤ x from h), Bool.true_and]
  · rw [if_neg h, decide_eq_false (show ¬ low ≤ x from h), Bool.false_and]
theorem rd_nat (l : List Int) (i : Nat) : rd l (i : Int) = l.getD i 0 := rfl
theorem rdL_nat (l : List (List Int)) (i : Nat) : rd_L1 l (i : Int) = l.getD i [] := rfl
theorem row_val (l0 l1 : List Int) (l2 : List (List Int)) (s u : Int) (n a : Nat) (r : Bool) (hn : n ≤ 1048576) (hr : (l2.getD a []).length = n)
    (hnext : Ev (fun k => prices_Valid.l0 k (n : Int) (n : Int) ((a + 1 : Nat) : Int) l0 l1 l2 s u) r) (ha : a < n) :
    ∀ (m c : Nat), c + m = n → Ev (fun k => prices_Valid.l1 k (n : Int) (a : Int) (n : Int) (a : Int) (l2.getD a []) ((l2.getD a []).length : Int) (c : Int) l0 l1 l2 s u) (rowChk (l2.getD a []) a m c && r)
  | 0, c, h => by
    refine Ev.step (fun k => ?_) (by simpa [rowChk] using hnext)
    conv => lhs; unfold prices_Valid.l1
    simp only [hr, if_neg (show ¬ (c : Int) < (n : Int) by omega)]
    rw [IntWalk.wrap64_in _ (by omega)]
  | m + 1, c, h => by
    have ih := row_val l0 l1 l2 s u n a r hn hr hnext ha m (c + 1) (by omega)
    have st : ∀ k, prices_Valid.l1 (k + 1) (n : Int) (a : Int) (n : Int) (a : Int) (l2.getD a []) ((l2.getD a []).length : Int) (c : Int) l0 l1 l2 s u = if entOk a c ((l2.getD a []).getD c 0) = true then prices_Valid.l1 k (n : Int) (a : Int) (n : Int) (a : Int) (l2.getD a []) ((l2.getD a []).length : Int) ((c + 1 : Nat) : Int) l0 l1 l2 s u else some false := by
      intro k
      conv => lhs; unfold prices_Valid.l1
      simp only [hr, if_pos (show (c : Int) < (n : Int) by omega), if_pos (show (0 : Int) ≤ (c : Int) by omega), rd_nat, in_rng, Option.bind_some]
      rw [IntWalk.wrap64_in _ (by omega)]
      unfold entOk
      by_cases h1 : a = c
      · rw [if_pos (show (a : Int) = (c : Int) by omega), if_pos h1]
        by_cases h2 : (l2.getD a []).getD c 0 = 0
        · simp only [h2, decide_true, if_true]; rfl
        · simp only [h2, decide_false, if_false, Bool.false_eq_true]
      · rw [if_neg (show ¬ (a : Int) = (c : Int) by omega), if_neg h1]
        by_cases h2 : (l2.getD a []).getD c 0 = -1
        · simp only [h2, decide_true, if_true, Bool.true_or]; rfl
        · simp only [h2, decide_false, if_false, Bool.false_or]
          rfl
    refine Ev.step st ?_
    unfold rowChk
    cases entOk a c ((l2.getD a []).getD c 0) with
    | true => simpa using ih
    | false => simpa using Ev.now false
theorem rows_val (l0 l1 : List Int) (l2 : List (List Int)) (s u : Int) (n : Nat) (hn : n ≤ 1048576) (h0 : l0.length = n) (h1 : l1.length = n) (h2 : l2.length = n) :
    ∀ (m a : Nat), a + m = n → Ev (fun k => prices_Valid.l0 k (n : Int) (n : Int) (a : Int) l0 l1 l2 s u) (allChk l0 l1 l2 n m a)
  | 0, a, h => by
    refine Ev.step (f := fun _ => some true) (fun k => ?_) (Ev.now _)
    conv => lhs; unfold prices_Valid.l0
    simp only [if_neg (show ¬ (a : Int) < (n : Int) by omega)]
  | m + 1, a, h => by
    have ih := rows_val l0 l1 l2 s u n hn h0 h1 h2 m (a + 1) (by omega)
    have hj : ∀ b : Bool, (b = false → (l2.getD a []).length = n) → Ev (fun k => prices_Valid.j2 k (n : Int) (a : Int) (n : Int) (a : Int) b l0 l1 l2 s u) (!b && (rowChk (l2.getD a []) a n 0 && allChk l0 l1 l2 n m (a + 1))) := by
      intro b hbb
      cases b with
      | true => exact Ev.step (fun k => rfl) (Ev.now false)
      | false =>
        have hr := row_val l0 l1 l2 s u n a _ hn (hbb rfl) ih (by omega) n 0 (by omega)
        refine Ev.step (fun k => ?_) (by simpa using hr)
        conv => lhs; unfold prices_Valid.j2
        simp only [Bool.false_eq_true, if_false, if_pos (show (0 : Int) ≤ (a : Int) by omega), if_pos (show (a : Int) < (l2.length : Int) by omega), rdL_nat]
        rfl
    have st : ∀ k, prices_Valid.l0 (k + 1) (n : Int) (n : Int) (a : Int) l0 l1 l2 s u = if rng (l0.getD a 0) 1 = true then (if rng (l1.getD a 0) 1 = true then prices_Valid.j2 k (n : Int) (a : Int) (n : Int) (a : Int) (!decide ((l2.getD a []).length = n)) l0 l1 l2 s u else prices_Valid.j2 k (n : Int) (a : Int) (n : Int) (a : Int) true l0 l1 l2 s u) else prices_Valid.j2 k (n : Int) (a : Int) (n : Int) (a : Int) true l0 l1 l2 s u := by
      intro k
      conv => lhs; unfold prices_Valid.l0
      have e : (((l2.getD a []).length : Int) != (n : Int)) = !decide ((l2.getD a []).length = n) := by
        generalize (l2.getD a []).length = q
        by_cases h9 : q = n
        · simp [h9]
        · simp [h9, show ¬ (q : Int) = (n : Int) by omega]
      simp only [if_pos (show (a : Int) < (n : Int) by omega), if_pos (show (0 : Int) ≤ (a : Int) by omega), if_pos (show (a : Int) < (l0.length : Int) by omega), if_pos (show (a : Int) < (l1.length : Int) by omega), if_pos (show (a : Int) < (l2.length : Int) by omega), rd_nat, rdL_nat, in_rng, Option.bind_some, e]
    refine Ev.step st ?_
    unfold allChk
    have e1 := hj true (fun h => by cases h)
    have e2 := hj (!decide ((l2.getD a []).length = n)) (fun h => by simpa using h)
    cases rng (l0.getD a 0) 1 with
    | false => simpa using e1
    | true =>
      cases rng (l1.getD a 0) 1 with
      | false => simpa using e1
      | true =>
        simp only [if_true, Bool.true_and]
        simpa [Bool.and_assoc] using e2
theorem valid_val (l0 l1 : List Int) (l2 : List (List Int)) (s u : Int) (n : Nat) (hn : n ≤ 1048576) : Ev (fun k => prices_Valid.f k l0 l1 l2 s u (n : Int)) (vok l0 l1 l2 s u n) := by
  have ht : Ev (fun k => prices_Valid.j0 k (n : Int) true l0 l1 l2 s u) false := Ev.step (fun k => rfl) (Ev.now false)
  unfold prices_Valid.f vok
  simp only [in_rng, Option.bind_some, if_neg (show ¬ (n : Int) < 0 by omega)]
  by_cases h0 : l0.length = n
  · by_cases h1 : l1.length = n
    · by_cases h2 : l2.length = n
      · simp only [if_pos (show (l0.length : Int) = (n : Int) by omega), if_pos (show (l1.length : Int) = (n : Int) by omega), if_pos (show (l2.length : Int) = (n : Int) by omega), h0, h1, h2, decide_true, Bool.true_and]
        cases rng s 0 with
        | false => simpa using ht
        | true =>
          cases rng u 1 with
          | false => simpa using ht
          | true =>
            simp only [if_true, Bool.true_and, Bool.not_true]
            exact Ev.step (fun k => rfl) (rows_val l0 l1 l2 s u n hn h0 h1 h2 n 0 (by omega))
      · simp only [if_pos (show (l0.length : Int) = (n : Int) by omega), if_pos (show (l1.length : Int) = (n : Int) by omega), if_neg (show ¬ (l2.length : Int) = (n : Int) by omega), h2, decide_false, Bool.and_false, Bool.false_and]; exact ht
    · simp only [if_pos (show (l0.length : Int) = (n : Int) by omega), if_neg (show ¬ (l1.length : Int) = (n : Int) by omega), h1, decide_false, Bool.and_false, Bool.false_and]; exact ht
  · simp only [if_neg (show ¬ (l0.length : Int) = (n : Int) by omega), h0, decide_false, Bool.false_and]; exact ht
theorem rng_iff (x low : Int) : rng x low = true ↔ low ≤ x ∧ x ≤ 1000 := by unfold rng; simp
theorem rowChk_iff (row : List Int) (a : Nat) : ∀ m c, rowChk row a m c = true ↔ ∀ j, c ≤ j → j < c + m → entOk a j (row.getD j 0) = true
  | 0, c => by simp [rowChk]; omega
  | m + 1, c => by
    rw [rowChk, Bool.and_eq_true, rowChk_iff row a m (c + 1)]
    constructor
    · rintro ⟨h1, h2⟩ j hj hj2
      by_cases e : j = c
      · rw [e]; exact h1
      · exact h2 j (by omega) (by omega)
    · intro h
      exact ⟨h c (by omega) (by omega), fun j hj hj2 => h j (by omega) (by omega)⟩
theorem allChk_iff (l0 l1 : List Int) (l2 : List (List Int)) (n : Nat) : ∀ m a, allChk l0 l1 l2 n m a = true ↔ ∀ j, a ≤ j → j < a + m → (rng (l0.getD j 0) 1 = true ∧ rng (l1.getD j 0) 1 = true ∧ (l2.getD j []).length = n ∧ rowChk (l2.getD j []) j n 0 = true)
  | 0, a => by simp [allChk]; omega
  | m + 1, a => by
    rw [allChk, Bool.and_eq_true, allChk_iff l0 l1 l2 n m (a + 1), Bool.and_eq_true, Bool.and_eq_true, Bool.and_eq_true, decide_eq_true_eq]
    constructor
    · rintro ⟨h1, h2⟩ j hj hj2
      by_cases e : j = a
      · rw [e]; exact h1
      · exact h2 j (by omega) (by omega)
    · intro h
      exact ⟨h a (by omega) (by omega), fun j hj hj2 => h j (by omega) (by omega)⟩
theorem vok_iff (l0 l1 : List Int) (l2 : List (List Int)) (s u : Int) (n : Nat) : vok l0 l1 l2 s u n = true ↔ (l0.length = n ∧ l1.length = n ∧ l2.length = n) ∧ ((0 ≤ s ∧ s ≤ 1000) ∧ (1 ≤ u ∧ u ≤ 1000)) ∧
    ∀ a, a < n → (1 ≤ l0.getD a 0 ∧ l0.getD a 0 ≤ 1000) ∧ (1 ≤ l1.getD a 0 ∧ l1.getD a 0 ≤ 1000) ∧ (l2.getD a []).length = n ∧ ∀ b, b < n → entOk a b ((l2.getD a []).getD b 0) = true := by
  unfold vok
  rw [Bool.and_eq_true, Bool.and_eq_true, Bool.and_eq_true, Bool.and_eq_true, Bool.and_eq_true, allChk_iff, rng_iff, rng_iff, decide_eq_true_eq, decide_eq_true_eq, decide_eq_true_eq]
  constructor
  · rintro ⟨h1, h2, h3⟩
    refine ⟨h1, h2, fun a ha => ?_⟩
    obtain ⟨e1, e2, e3, e4⟩ := h3 a (by omega) (by omega)
    rw [rng_iff] at e1 e2
    rw [rowChk_iff] at e4
    exact ⟨e1, e2, e3, fun b hb => e4 b (by omega) (by omega)⟩
  · rintro ⟨h1, h2, h3⟩
    refine ⟨h1, h2, fun a _ ha => ?_⟩
    obtain ⟨e1, e2, e3, e4⟩ := h3 a (by omega)
    rw [rng_iff, rng_iff, rowChk_iff]
    exact ⟨e1, e2, e3, fun b _ hb => e4 b (by omega)⟩
end Go.Proofs.YtdcfcpgpbbgceaaGreatDoor.Pl
