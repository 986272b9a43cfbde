import Derived.Test.YtdcfcpgpbbgceaaGreatDoorPAllx2
import Derived.Test.YtdcfcpgpbbgceaaGreatDoorPAllx3
import Derived.Test.YtdcfcpgpbbgceaaGreatDoorPAllx10
import Derived.Test.YtdcfcpgpbbgceaaGreatDoorPAllx11
import Derived.IntWalk
namespace Go.Proofs.YtdcfcpgpbbgceaaGreatDoor.PAll
open Go.RowKit Go.Proofs.YtdcfcpgpbbgceaaGreatDoorW.PrintWords Go.Proofs.YtdcfcpgpbbgceaaGreatDoorW.PrintLast Go.Proofs.YtdcfcpgpbbgceaaGreatDoorW.PrintMore
set_option linter.unusedVariables false
set_option linter.unusedSimpArgs false
theorem between_in (n m : Int) : emendateref34_between.f n m 1000 = prices_in.f n m := rfl
theorem valid_step (l0 l1 : List Int) (l2 : List (List Int)) (s u x1 : Int) (hx : (l2.length : Int) = x1) : ∀ k,
    (∀ a, prices_Valid.l0 k x1 x1 a l0 l1 l2 s u = emendateref34_Valid.l0 k x1 a l0 l1 l2 s u) ∧
    (∀ a b, 0 ≤ a → (b = false → a < (l2.length : Int) ∧ ((rd_L1 l2 a).length : Int) = x1) → prices_Valid.j2 k x1 a x1 a b l0 l1 l2 s u = emendateref34_Valid.j2 k x1 a b l0 l1 l2 s u) ∧
    (∀ a c, 0 ≤ a → a < (l2.length : Int) → ((rd_L1 l2 a).length : Int) = x1 → prices_Valid.l1 k x1 a x1 a (rd_L1 l2 a) ((rd_L1 l2 a).length : Int) c l0 l1 l2 s u = emendateref34_Valid.l1 k x1 a c l0 l1 l2 s u)
  | 0 => ⟨fun _ => rfl, fun _ _ _ _ => rfl, fun _ _ _ _ _ => rfl⟩
  | k + 1 => by
    obtain ⟨i0, i2, i1⟩ := valid_step l0 l1 l2 s u x1 hx k
    refine ⟨fun a => ?_, fun a b ha hb => ?_, fun a c ha hl hr => ?_⟩
    · unfold prices_Valid.l0 emendateref34_Valid.l0
      simp only [between_in]
      split
      · split
        · rename_i h1 h0
          have e3 := i2 a true h0 (fun h => by cases h)
          have hb : a < (l2.length : Int) → prices_Valid.j2 k x1 a x1 a (((rd_L1 l2 a).length : Int) != x1) l0 l1 l2 s u = emendateref34_Valid.j2 k x1 a (((rd_L1 l2 a).length : Int) != x1) l0 l1 l2 s u := by
            intro hl
            refine i2 a _ h0 (fun h => ⟨hl, ?_⟩)
            simpa using h
          split
          · congr 1
            funext t
            split
            · split
              · congr 1
                funext t
                split
                · split
                  · rename_i hh; exact hb hh
                  · rfl
                · exact e3
              · rfl
            · exact e3
          · rfl
        · rfl
      · rfl
    · cases b with
      | true => unfold prices_Valid.j2 emendateref34_Valid.j2; rfl
      | false =>
        obtain ⟨h1, h2⟩ := hb rfl
        unfold prices_Valid.j2 emendateref34_Valid.j2
        simp only [Bool.false_eq_true, if_false, if_pos ha, if_pos h1]
        exact i1 a 0 ha h1 h2
    · unfold prices_Valid.l1 emendateref34_Valid.l1
      simp only [between_in, if_pos ha, if_pos hl, hr]
      have i1' := fun c => i1 a c ha hl hr
      simp only [hr] at i1'
      rw [i0]
      split
      · split
        · simp only [i1', hr]
        · rfl
      · rfl
theorem valid_same (l0 l1 : List Int) (l2 : List (List Int)) (s u x1 : Int) (k : Nat) : prices_Valid.f (k + 1) l0 l1 l2 s u x1 = emendateref34_Valid.f (k + 1) l0 l1 l2 s u x1 := by
  have ht : prices_Valid.j0 (k + 1) x1 true l0 l1 l2 s u = emendateref34_Valid.j0 (k + 1) x1 true l0 l1 l2 s u := rfl
  unfold prices_Valid.f emendateref34_Valid.f
  simp only [between_in]
  by_cases hneg : x1 < 0
  · rw [if_pos hneg, if_neg (by omega)]
    rfl
  · rw [if_neg hneg]
    by_cases h2 : (l2.length : Int) = x1
    · have hj : ∀ b, prices_Valid.j0 (k + 1) x1 b l0 l1 l2 s u = emendateref34_Valid.j0 (k + 1) x1 b l0 l1 l2 s u := by
        intro b
        cases b with
        | true => rfl
        | false =>
          unfold prices_Valid.j0 emendateref34_Valid.j0
          simp only [Bool.false_eq_true, if_false]
          exact (valid_step l0 l1 l2 s u x1 h2 k).1 0
      simp only [hj]
    · simp only [if_neg h2, ht]
theorem in_some (n m : Int) : ∃ b, prices_in.f n m = some b := by unfold prices_in.f; split <;> exact ⟨_, rfl⟩
theorem valid_row (l0 l1 : List Int) (l2 : List (List Int)) (s u x1 a : Int) (ha : 0 ≤ a) (hb : x1 ≤ 1048576) (hnext : ∃ r, Ev (fun k => prices_Valid.l0 k x1 x1 (wrap64 (a + 1)) l0 l1 l2 s u) r)
    (hr : ((rd_L1 l2 a).length : Int) = x1) : ∀ (m : Nat) (c : Int), 0 ≤ c → (x1 - c).toNat = m → ∃ r, Ev (fun k => prices_Valid.l1 k x1 a x1 a (rd_L1 l2 a) ((rd_L1 l2 a).length : Int) c l0 l1 l2 s u) r
  | m, c, hc, hm => by
    by_cases h : c < x1
    · obtain ⟨m', rfl⟩ : ∃ m', m = m' + 1 := ⟨m - 1, by omega⟩
      obtain ⟨r, ih⟩ := valid_row l0 l1 l2 s u x1 a ha hb hnext hr m' (wrap64 (c + 1)) (by rw [IntWalk.wrap64_in _ (by omega)]; omega) (by rw [IntWalk.wrap64_in _ (by omega)]; omega)
      obtain ⟨b, hbb⟩ := in_some (rd (rd_L1 l2 a) c) 1
      by_cases h5 : a = c
      · by_cases h6 : rd (rd_L1 l2 a) c = 0
        · exact ⟨r, Ev.step (fun k => by conv => lhs; unfold prices_Valid.l1
                                         simp only [hr, if_pos h, if_pos hc, if_pos h5, if_pos h6]) ih⟩
        · exact ⟨false, Ev.step (fun k => by conv => lhs; unfold prices_Valid.l1
                                             simp only [hr, if_pos h, if_pos hc, if_pos h5, if_neg h6]) (Ev.now false)⟩
      · by_cases h6 : rd (rd_L1 l2 a) c = -1
        · exact ⟨r, Ev.step (fun k => by conv => lhs; unfold prices_Valid.l1
                                         simp only [hr, if_pos h, if_pos hc, if_neg h5, if_pos h6]) ih⟩
        · cases b with
          | true => exact ⟨r, Ev.step (fun k => by conv => lhs; unfold prices_Valid.l1
                                                   simp only [hr, if_pos h, if_pos hc, if_neg h5, if_neg h6, hbb, Option.bind_some, if_true]) ih⟩
          | false => exact ⟨false, Ev.step (fun k => by conv => lhs; unfold prices_Valid.l1
                                                        simp only [hr, if_pos h, if_pos hc, if_neg h5, if_neg h6, hbb, Option.bind_some, Bool.false_eq_true, if_false]) (Ev.now false)⟩
    · obtain ⟨r, hn⟩ := hnext
      exact ⟨r, Ev.step (fun k => by conv => lhs; unfold prices_Valid.l1
                                     simp only [hr, if_neg h]) hn⟩
theorem valid_rows (l0 l1 : List Int) (l2 : List (List Int)) (s u x1 : Int) (hb : x1 ≤ 1048576) (h0 : (l0.length : Int) = x1) (h1 : (l1.length : Int) = x1) (h2 : (l2.length : Int) = x1) :
    ∀ (m : Nat) (a : Int), 0 ≤ a → (x1 - a).toNat = m → ∃ r, Ev (fun k => prices_Valid.l0 k x1 x1 a l0 l1 l2 s u) r
  | m, a, ha, hm => by
    by_cases h : a < x1
    · obtain ⟨m', rfl⟩ : ∃ m', m = m' + 1 := ⟨m - 1, by omega⟩
      have ih := valid_rows l0 l1 l2 s u x1 hb h0 h1 h2 m' (wrap64 (a + 1)) (by rw [IntWalk.wrap64_in _ (by omega)]; omega) (by rw [IntWalk.wrap64_in _ (by omega)]; omega)
      have hj : ∀ b, (b = false → ((rd_L1 l2 a).length : Int) = x1) → ∃ r, Ev (fun k => prices_Valid.j2 k x1 a x1 a b l0 l1 l2 s u) r := by
        intro b hbb
        cases b with
        | true => exact ⟨false, Ev.step (fun k => rfl) (Ev.now false)⟩
        | false =>
          obtain ⟨r, hr⟩ := valid_row l0 l1 l2 s u x1 a ha hb ih (hbb rfl) _ 0 (by omega) rfl
          exact ⟨r, Ev.step (fun k => by conv => lhs; unfold prices_Valid.j2
                                         simp only [Bool.false_eq_true, if_false, if_pos ha, if_pos (show a < (l2.length : Int) by omega)]) hr⟩
      obtain ⟨b0, hb0⟩ := in_some (rd l0 a) 1
      obtain ⟨b1, hb1⟩ := in_some (rd l1 a) 1
      have st : ∀ k, prices_Valid.l0 (k + 1) x1 x1 a l0 l1 l2 s u = if b0 = true then (if b1 = true then prices_Valid.j2 k x1 a x1 a (((rd_L1 l2 a).length : Int) != x1) l0 l1 l2 s u else prices_Valid.j2 k x1 a x1 a true l0 l1 l2 s u) else prices_Valid.j2 k x1 a x1 a true l0 l1 l2 s u := by
        intro k
        conv => lhs; unfold prices_Valid.l0
        simp only [if_pos h, if_pos ha, if_pos (show a < (l0.length : Int) by omega), if_pos (show a < (l1.length : Int) by omega), if_pos (show a < (l2.length : Int) by omega), hb0, hb1, Option.bind_some]
      obtain ⟨r1, e1⟩ := hj true (fun h => by cases h)
      obtain ⟨r2, e2⟩ := hj (((rd_L1 l2 a).length : Int) != x1) (fun h => by simpa using h)
      cases b0 with
      | false => exact ⟨r1, Ev.step (fun k => by rw [st]; rfl) e1⟩
      | true =>
        cases b1 with
        | false => exact ⟨r1, Ev.step (fun k => by rw [st]; rfl) e1⟩
        | true => exact ⟨r2, Ev.step (fun k => by rw [st]; rfl) e2⟩
    · exact ⟨true, Ev.step (fun k => by conv => lhs; unfold prices_Valid.l0
                                        simp only [if_neg h]) (Ev.now true)⟩
theorem valid_ev (l0 l1 : List Int) (l2 : List (List Int)) (s u x1 : Int) (hb : (l0.length : Int) ≤ 1048576) : ∃ r, Ev (fun k => prices_Valid.f k l0 l1 l2 s u x1) r := by
  have hj : ∀ b, (b = false → (l0.length : Int) = x1 ∧ (l1.length : Int) = x1 ∧ (l2.length : Int) = x1) → ∃ r, Ev (fun k => prices_Valid.j0 k x1 b l0 l1 l2 s u) r := by
    intro b h
    cases b with
    | true => exact ⟨false, Ev.step (fun k => rfl) (Ev.now false)⟩
    | false =>
      obtain ⟨h0, h1, h2⟩ := h rfl
      obtain ⟨r, hr⟩ := valid_rows l0 l1 l2 s u x1 (by omega) h0 h1 h2 _ 0 (by omega) rfl
      exact ⟨r, Ev.step (fun k => rfl) hr⟩
  obtain ⟨rt, et⟩ := hj true (fun h => by cases h)
  obtain ⟨b0, hb0⟩ := in_some s 0
  obtain ⟨b1, hb1⟩ := in_some u 1
  unfold prices_Valid.f
  simp only [hb0, hb1, Option.bind_some]
  by_cases hn : x1 < 0
  · simp only [if_pos hn]; exact ⟨rt, et⟩
  by_cases h0 : (l0.length : Int) = x1
  · by_cases h1 : (l1.length : Int) = x1
    · by_cases h2 : (l2.length : Int) = x1
      · simp only [if_neg hn, if_pos h0, if_pos h1, if_pos h2]
        cases b0 with
        | false => exact ⟨rt, et⟩
        | true => exact hj (!b1) (fun _ => ⟨h0, h1, h2⟩)
      · simp only [if_neg hn, if_pos h0, if_pos h1, if_neg h2]; exact ⟨rt, et⟩
    · simp only [if_neg hn, if_pos h0, if_neg h1]; exact ⟨rt, et⟩
  · simp only [if_neg hn, if_neg h0]; exact ⟨rt, et⟩
theorem valid_both (l0 l1 : List Int) (l2 : List (List Int)) (s u x1 : Int) (hb : (l0.length : Int) ≤ 1048576) : ∃ r, Ev (fun k => prices_Valid.f k l0 l1 l2 s u x1) r ∧ Ev (fun k => emendateref34_Valid.f k l0 l1 l2 s u x1) r := by
  obtain ⟨r, h⟩ := valid_ev l0 l1 l2 s u x1 hb
  refine ⟨r, h, ?_⟩
  obtain ⟨K, h⟩ := h
  refine ⟨K + 1, fun k hk => ?_⟩
  obtain ⟨m, rfl⟩ : ∃ m, k = m + 1 := ⟨k - 1, by omega⟩
  show emendateref34_Valid.f (m + 1) l0 l1 l2 s u x1 = some r
  rw [← valid_same]
  exact h _ (by omega)
theorem few_rows (l0 l1 : List Int) (l2 : List (List Int)) (s u x1 : Int) (hb : l2.length ≤ 1048576) : ∀ (m : Nat) (a : Int), 0 ≤ a → ((l2.length : Int) - a).toNat = m →
    ∃ r, Ev (fun k => emendateref34_Few.l0 k x1 a l0 l1 l2 s u) r
  | m, a, ha, hm => by
    by_cases h : a < (l2.length : Int)
    · obtain ⟨m', rfl⟩ : ∃ m', m = m' + 1 := ⟨m - 1, by omega⟩
      obtain ⟨r, ih⟩ := few_rows l0 l1 l2 s u x1 hb m' (wrap64 (a + 1)) (by rw [IntWalk.wrap64_in _ (by omega)]; omega) (by rw [IntWalk.wrap64_in _ (by omega)]; omega)
      by_cases h5 : ((rd_L1 l2 a).length : Int) > x1
      · exact ⟨false, Ev.step (fun k => by conv => lhs; unfold emendateref34_Few.l0
                                           simp only [if_pos h, if_pos ha, if_pos h5]) (Ev.now false)⟩
      · exact ⟨r, Ev.step (fun k => by conv => lhs; unfold emendateref34_Few.l0
                                       simp only [if_pos h, if_pos ha, if_neg h5]) ih⟩
    · exact ⟨true, Ev.step (fun k => by conv => lhs; unfold emendateref34_Few.l0
                                        simp only [if_neg h]) (Ev.now true)⟩
theorem few_ev (l0 l1 : List Int) (l2 : List (List Int)) (s u x1 : Int) (hx : 0 ≤ x1 ∧ x1 ≤ 1048576) : ∃ r, Ev (fun k => emendateref34_Few.f k l0 l1 l2 s u x1) r ∧ (r = true → (l0.length : Int) ≤ x1 ∧ (l1.length : Int) ≤ x1 ∧ (l2.length : Int) ≤ x1) := by
  unfold emendateref34_Few.f
  by_cases h0 : (l0.length : Int) > x1
  · simp only [if_pos h0]; exact ⟨false, Ev.step (fun k => rfl) (Ev.now false), fun h => by cases h⟩
  by_cases h1 : (l1.length : Int) > x1
  · simp only [if_neg h0, if_pos h1]; exact ⟨false, Ev.step (fun k => rfl) (Ev.now false), fun h => by cases h⟩
  by_cases h2 : (l2.length : Int) > x1
  · simp only [if_neg h0, if_neg h1, h2, decide_true]; exact ⟨false, Ev.step (fun k => rfl) (Ev.now false), fun h => by cases h⟩
  · simp only [if_neg h0, if_neg h1, h2, decide_false]
    obtain ⟨r, hr⟩ := few_rows l0 l1 l2 s u x1 (by omega) _ 0 (by omega) rfl
    exact ⟨r, Ev.step (fun k => rfl) hr, fun _ => by omega⟩
end Go.Proofs.YtdcfcpgpbbgceaaGreatDoor.PAll
