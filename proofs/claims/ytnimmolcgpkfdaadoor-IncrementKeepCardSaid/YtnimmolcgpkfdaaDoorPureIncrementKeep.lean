/- Keep of the program and Keep of the reference come to the same item and the same bool, for every item, change and number of states up to 1000. -/
import Derived.Test.YtnimmolcgpkfdaaDoorAskIncrementKeep
namespace Go.Proofs.YtnimmolcgpkfdaaDoor.PIncrementKeep
open Go.RowKit Go.Proofs.YtnimmolcgpkfdaaDoorW.PrintWords Go.Proofs.YtnimmolcgpkfdaaDoorW.PrintLast
set_option linter.unusedVariables false
set_option linter.unusedSimpArgs false

theorem keep_no (h f t cf co cn : Int) : increment_Keep.j0 3 true h f t cf co cn = some (0, 0, 0, false) := by simp [increment_Keep.j0]
theorem ref_no (h f t cf co cn : Int) : emendateref43_Keep.j0 3 true h f t cf co cn = some (0, 0, 0, false) := by simp [emendateref43_Keep.j0]
theorem keep_last (b : Bool) (h f t cf co cn : Int) (ht : 0 ≤ t) : ∃ r, increment_Keep.j0 3 b h f t cf co cn = some r ∧ emendateref43_Keep.j0 3 b h f t cf co cn = some r := by
  cases b with
  | true => exact ⟨_, keep_no .., ref_no ..⟩
  | false =>
    have ht2 : Int.tmod t 2 = t % 2 := Int.tmod_eq_emod_of_nonneg ht
    rcases (by omega : t % 2 = 0 ∨ t % 2 = 1) with h0 | h0
    all_goals
      simp only [emendateref43_Keep.j0, increment_Keep.j0, emendateref43_Keep.j1, increment_end.f, ht2, h0, if_true, Option.bind_some, Bool.false_eq_true, if_false, reduceCtorEq, Int.reduceEq]
      refine (fun ⟨r, hr⟩ => ⟨r, hr, hr⟩) (?_ : ∃ r, _ = some r)
      split
      · exact ⟨_, rfl⟩
      · split <;> exact ⟨_, rfl⟩

theorem keep_same (h f t cf co cn st : Int) : ∃ r, increment_Keep.f 3 h f t cf co cn st = some r ∧ emendateref43_Keep.f 3 h f t cf co cn st = some r := by
  unfold increment_Keep.f emendateref43_Keep.f
  by_cases c1 : h < 0
  · rw [if_pos c1, if_pos c1]; exact ⟨_, keep_no .., ref_no ..⟩
  by_cases c2 : f < 0
  · rw [if_neg c1, if_neg c1, if_pos c2, if_pos c2]; exact ⟨_, keep_no .., ref_no ..⟩
  by_cases c3 : t < f
  · rw [if_neg c1, if_neg c1, if_neg c2, if_neg c2, if_pos c3, if_pos c3]; exact ⟨_, keep_no .., ref_no ..⟩
  rw [if_neg c1, if_neg c1, if_neg c2, if_neg c2, if_neg c3, if_neg c3]
  have last := fun b => keep_last b h f t cf co cn (by omega)
  by_cases c4 : t ≥ st
  · rw [if_pos c4, if_pos c4]; exact ⟨_, keep_no .., ref_no ..⟩
  rw [if_neg c4, if_neg c4]
  by_cases c5 : cf < 0
  · rw [if_pos c5, if_pos c5]; exact ⟨_, keep_no .., ref_no ..⟩
  rw [if_neg c5, if_neg c5]
  by_cases c6 : co < 0
  · rw [if_pos c6, if_pos c6]; exact ⟨_, keep_no .., ref_no ..⟩
  rw [if_neg c6, if_neg c6]
  by_cases c7 : cn < 0
  · rw [if_pos c7, if_pos c7]; exact ⟨_, keep_no .., ref_no ..⟩
  rw [if_neg c7, if_neg c7]
  by_cases c8 : cn > 60
  · rw [if_pos c8, if_pos c8]; exact ⟨_, keep_no .., ref_no ..⟩
  rw [if_neg c8, if_neg c8]
  by_cases c9 : cf > wrap64 (Int.tdiv (wrap64 (st - 1)) 2)
  · rw [if_pos c9, if_pos c9]; exact ⟨_, keep_no .., ref_no ..⟩
  rw [if_neg c9, if_neg c9]
  exact last _

theorem IncrementKeep : IncrementKeep.Pure := by
  rintro ⟨h, f, t⟩ ⟨cf, co, cn⟩ st _ _ _
  refine ⟨3, ?_⟩
  show emendatelaw43_IncrementKeep.f 3 h f t cf co cn st = some true
  unfold emendatelaw43_IncrementKeep.f
  by_cases hs : st > 1000
  · rw [if_pos hs]; rfl
  · rw [if_neg hs]
    obtain ⟨r, h1, h2⟩ := keep_same h f t cf co cn st
    rw [h1, h2]
    simp [emendatelaw43_awake.f]

end Go.Proofs.YtnimmolcgpkfdaaDoor.PIncrementKeep
