import Derived.Test.YtdcfcpgpbbgceaaGreatDoorPl
import Derived.Test.YtdcfcpgpbbgceaaGreatDoorPAllx3
namespace Go.Proofs.YtdcfcpgpbbgceaaGreatDoor.Pl
open Go.RowKit Go.Proofs.YtdcfcpgpbbgceaaGreatDoorW.PrintWords Go.Proofs.YtdcfcpgpbbgceaaGreatDoorW.PrintLast Go.Proofs.YtdcfcpgpbbgceaaGreatDoor.PAll
open PAll.prices_Parse (goL applyP zeroP PT)
set_option linter.unusedVariables false
set_option linter.unusedSimpArgs false
theorem ints_loop (l : List Int) (hl : l.length ≤ 1048576) : ∀ (m : Nat) (i : Int), 0 ≤ i → ((l.length : Int) - i).toNat = m → Ev (fun k => emendateref07_Ints.l0 k l l i) true
  | m, i, hi, hm => by
    by_cases h : i < (l.length : Int)
    · obtain ⟨m', rfl⟩ : ∃ m', m = m' + 1 := ⟨m - 1, by omega⟩
      have ih := ints_loop l hl m' (wrap64 (i + 1)) (by rw [IntWalk.wrap64_in _ (by omega)]; omega) (by rw [IntWalk.wrap64_in _ (by omega)]; omega)
      exact Ev.step (fun k => by conv => lhs; unfold emendateref07_Ints.l0
                                 simp only [if_pos h, if_pos hi, if_true]) ih
    · exact Ev.step (fun k => by conv => lhs; unfold emendateref07_Ints.l0
                                 simp only [if_neg h]) (Ev.now true)
theorem ints_refl (l : List Int) (hl : l.length ≤ 1048576) : Ev (fun k => emendateref07_Ints.f k l l) true := by
  unfold emendateref07_Ints.f
  simp only [if_true]
  exact ints_loop l hl _ 0 (by omega) rfl
theorem rows_refl (a b : List Int) (r : List (List Int)) (s u : Int) (hr : r.length ≤ 1048576) (hl : ∀ x ∈ r, x.length ≤ 1048576) : ∀ (m : Nat) (i : Int), 0 ≤ i → ((r.length : Int) - i).toNat = m →
    Ev (fun k => emendateref34_Same.l0 k i a b r s u a b r s u) true
  | m, i, hi, hm => by
    by_cases h : i < (r.length : Int)
    · obtain ⟨m', rfl⟩ : ∃ m', m = m' + 1 := ⟨m - 1, by omega⟩
      have ih := rows_refl a b r s u hr hl m' (wrap64 (i + 1)) (by rw [IntWalk.wrap64_in _ (by omega)]; omega) (by rw [IntWalk.wrap64_in _ (by omega)]; omega)
      have hx : (rd_L1 r i).length ≤ 1048576 := by
        unfold rd_L1
        rw [List.getD_eq_getElem?_getD, List.getElem?_eq_getElem (by omega)]
        exact hl _ (List.getElem_mem _)
      refine Ev.step (f := fun k => (emendateref07_Ints.f k (rd_L1 r i) (rd_L1 r i)).bind fun t => if t = true then emendateref34_Same.l0 k (wrap64 (i + 1)) a b r s u a b r s u else some false) (fun k => ?_) (Ev.bind (ints_refl _ hx) ?_)
      · conv => lhs; unfold emendateref34_Same.l0
        simp only [if_pos h, if_pos hi]
      · simpa using ih
    · exact Ev.step (fun k => by conv => lhs; unfold emendateref34_Same.l0
                                 simp only [if_neg h]) (Ev.now true)
theorem same_refl (P : PT) (h : lens 1048576 P) : Ev (fun k => emendateref34_Same.f k P.1 P.2.1 P.2.2.1 P.2.2.2.1 P.2.2.2.2 P.1 P.2.1 P.2.2.1 P.2.2.2.1 P.2.2.2.2) true := by
  obtain ⟨h1, h2, h3, h4⟩ := h
  unfold emendateref34_Same.f
  simp only [if_true, bne_self_eq_false]
  refine Ev.bind (ints_refl _ h1) ?_
  simp only [if_true]
  refine Ev.bind (ints_refl _ h2) ?_
  simp only [if_true]
  exact Ev.step (fun k => rfl) (rows_refl _ _ _ _ _ h3 h4 _ 0 (by omega) rfl)
theorem bt_at (s : ByteArray) (i : Nat) (h : i < s.size) : bt s (i : Int) = ((s.data.toList[i]'h).toNat : Int) := by
  unfold bt
  rw [dif_pos (by simpa using h)]
  rfl
theorem toList_append (a b : ByteArray) : (a ++ b).data.toList = a.data.toList ++ b.data.toList := by simp [ByteArray.data_append]
end Go.Proofs.YtdcfcpgpbbgceaaGreatDoor.Pl
