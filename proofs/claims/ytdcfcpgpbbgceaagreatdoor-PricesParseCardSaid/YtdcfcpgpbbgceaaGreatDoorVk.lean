import Derived.Test.YtdcfcpgpbbgceaaGreatDoorPv
namespace Go.Proofs.YtdcfcpgpbbgceaaGreatDoor.Pl
open Go.RowKit Go.Proofs.YtdcfcpgpbbgceaaGreatDoorW.PrintWords Go.Proofs.YtdcfcpgpbbgceaaGreatDoorW.PrintLast Go.Proofs.YtdcfcpgpbbgceaaGreatDoor.PAll
set_option linter.unusedVariables false
set_option linter.unusedSimpArgs false
def rng (x low : Int) : Bool := decide (low ≤ x) && decide (x ≤ 1000)
def entOk (a c : Nat) (x : Int) : Bool := if a = c then decide (x = 0) else (decide (x = -1) || rng x 1)
def rowChk (row : List Int) (a : Nat) : Nat → Nat → Bool
  | 0, _ => true
  | m + 1, c => entOk a c (row.getD c 0) && rowChk row a m (c + 1)
def allChk (l0 l1 : List Int) (l2 : List (List Int)) (n : Nat) : Nat → Nat → Bool
  | 0, _ => true
  | m + 1, a => (rng (l0.getD a 0) 1 && (rng (l1.getD a 0) 1 && (decide ((l2.getD a []).length = n) && rowChk (l2.getD a []) a n 0))) && allChk l0 l1 l2 n m (a + 1)
def vok (l0 l1 : List Int) (l2 : List (List Int)) (s u : Int) (n : Nat) : Bool :=
  (decide (l0.length = n) && (decide (l1.length = n) && decide (l2.length = n))) && ((rng s 0 && rng u 1) && allChk l0 l1 l2 n n 0)
theorem in_rng (x low : Int) : prices_in.f x low = some (rng x low) := by
  unfold prices_in.f rng
  by_cases h : x ≥ low
  · rw [if_pos h, decide_eq_true (show low ≤ x from h), Bool.true_and]
  · rw [if_neg h, decide_eq_false (show ¬ low ≤ x from h), Bool.false_and]
theorem rng_iff (x low : Int) : rng x low = true ↔ low ≤ x ∧ x ≤ 1000 := by unfold rng; simp
theorem rowChk_iff (row : List Int) (a : Nat) : ∀ m c, rowChk row a m c = true ↔ ∀ j, c ≤ j → j < c + m → entOk a j (row.getD j 0) = true
  | 0, c => by simp [rowChk]; omega
  | m + 1, c => by
    rw [rowChk, Bool.and_eq_true, rowChk_iff row a m (c + 1)]
    constructor
    · rintro ⟨h1, h2⟩ j hj hj2
      by_cases e : j = c
      · rw [e]; exact h1
      · exact h2 j (by omega) (by omega)
    · intro h
      exact ⟨h c (by omega) (by omega), fun j hj hj2 => h j (by omega) (by omega)⟩
theorem allChk_iff (l0 l1 : List Int) (l2 : List (List Int)) (n : Nat) : ∀ m a, allChk l0 l1 l2 n m a = true ↔ ∀ j, a ≤ j → j < a + m → (rng (l0.getD j 0) 1 = true ∧ rng (l1.getD j 0) 1 = true ∧ (l2.getD j []).length = n ∧ rowChk (l2.getD j []) j n 0 = true)
  | 0, a => by simp [allChk]; omega
  | m + 1, a => by
    rw [allChk, Bool.and_eq_true, allChk_iff l0 l1 l2 n m (a + 1), Bool.and_eq_true, Bool.and_eq_true, Bool.and_eq_true, decide_eq_true_eq]
    constructor
    · rintro ⟨h1, h2⟩ j hj hj2
      by_cases e : j = a
      · rw [e]; exact h1
      · exact h2 j (by omega) (by omega)
    · intro h
      exact ⟨h a (by omega) (by omega), fun j hj hj2 => h j (by omega) (by omega)⟩
theorem vok_iff (l0 l1 : List Int) (l2 : List (List Int)) (s u : Int) (n : Nat) : vok l0 l1 l2 s u n = true ↔ (l0.length = n ∧ l1.length = n ∧ l2.length = n) ∧ ((0 ≤ s ∧ s ≤ 1000) ∧ (1 ≤ u ∧ u ≤ 1000)) ∧
    ∀ a, a < n → (1 ≤ l0.getD a 0 ∧ l0.getD a 0 ≤ 1000) ∧ (1 ≤ l1.getD a 0 ∧ l1.getD a 0 ≤ 1000) ∧ (l2.getD a []).length = n ∧ ∀ b, b < n → entOk a b ((l2.getD a []).getD b 0) = true := by
  unfold vok
  rw [Bool.and_eq_true, Bool.and_eq_true, Bool.and_eq_true, Bool.and_eq_true, Bool.and_eq_true, allChk_iff, rng_iff, rng_iff, decide_eq_true_eq, decide_eq_true_eq, decide_eq_true_eq]
  constructor
  · rintro ⟨h1, h2, h3⟩
    refine ⟨h1, h2, fun a ha => ?_⟩
    obtain ⟨e1, e2, e3, e4⟩ := h3 a (by omega) (by omega)
    rw [rng_iff] at e1 e2
    rw [rowChk_iff] at e4
    exact ⟨e1, e2, e3, fun b hb => e4 b (by omega) (by omega)⟩
  · rintro ⟨h1, h2, h3⟩
    refine ⟨h1, h2, fun a _ ha => ?_⟩
    obtain ⟨e1, e2, e3, e4⟩ := h3 a (by omega)
    rw [rng_iff, rng_iff, rowChk_iff]
    exact ⟨e1, e2, e3, fun b _ hb => e4 b (by omega)⟩
end Go.Proofs.YtdcfcpgpbbgceaaGreatDoor.Pl
