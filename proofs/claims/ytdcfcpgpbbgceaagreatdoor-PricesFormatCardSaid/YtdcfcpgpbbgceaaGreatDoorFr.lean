import Derived.Test.YtdcfcpgpbbgceaaGreatDoorFm
import Derived.Test.YtdcfcpgpbbgceaaGreatDoorPAllx19
namespace Go.Proofs.YtdcfcpgpbbgceaaGreatDoor.Pl
open Go.RowKit Go.Proofs.YtdcfcpgpbbgceaaGreatDoorW.PrintWords Go.Proofs.YtdcfcpgpbbgceaaGreatDoorW.PrintLast Go.Proofs.YtdcfcpgpbbgceaaGreatDoor.PAll
open PAll.prices_Format (lastB lineB lineL accL kwI kwD kwR kwS kwU gI gD gR gRow fmtB fmtOk)
set_option linter.unusedVariables false
set_option linter.unusedSimpArgs false
variable {l0 l1 : List Int} {l2 : List (List Int)} {s u : Int} {ts : List ByteArray} {R : ByteArray × Int}
theorem lineL_self (x us : Int) (ws : List ByteArray) (h : x = us) : lineL x us ws = [] := by unfold lineL; rw [if_pos h]
theorem lineL_line (x us : Int) (ws : List ByteArray) (h : ¬ x = us) : lineL x us ws = lineB ws x := by unfold lineL; rw [if_neg h]
theorem zs (a b : Nat) (h : a + b ≤ 1000000) : a + b ≤ 9223372036854775807 := by omega
theorem fl0 (hT : ts.length ≤ 8) (hs : ∀ t ∈ ts, t.size ≤ 30) (hl : l0.length = ts.length) (hv : ∀ a, a < ts.length → 1 ≤ l0.getD a 0 ∧ l0.getD a 0 ≤ 1000)
    (hnext : Ev (fun k => emendateref34_Format.l1 k ts (of (accL (gI l0 ts) ts.length)) 0 l0 l1 l2 s u) R) :
    ∀ (m i : Nat), i + m = ts.length → Ev (fun k => emendateref34_Format.l0 k ts (of (accL (gI l0 ts) i)) (i : Int) l0 l1 l2 s u) R
  | 0, i, h => by
    have e : i = ts.length := by omega
    refine Ev.step (fun k => ?_) hnext
    conv => lhs; unfold emendateref34_Format.l0
    rw [if_neg (by omega), e]
  | m + 1, i, h => by
    have hi : i < ts.length := by omega
    obtain ⟨K', hK'⟩ := fl0 hT hs hl hv hnext m (i + 1) (by omega)
    obtain ⟨v1, v2⟩ := hv i hi
    obtain ⟨D, ⟨K, hK⟩, eD, hD⟩ := dec_ev _ (show 0 ≤ l0.getD i 0 by omega) v2
    have hlen : (accL (gI l0 ts) i).length ≤ i * 100 := accL_len _ 100 ts.length (fun j hj => lineL_len _ _ _ (by have := hv j hj; omega) (by have := hv j hj; omega) (by simp) (by
      intro w hw
      rcases List.mem_cons.1 hw with rfl | hw
      · decide
      · obtain rfl := List.mem_singleton.1 hw
        rw [List.getD_eq_getElem?_getD, List.getElem?_eq_getElem hj]; exact hs _ (List.getElem_mem hj))) i (by omega)
    have ht : (ts.getD i ByteArray.empty).size ≤ 30 := by rw [List.getD_eq_getElem?_getD, List.getElem?_eq_getElem hi]; exact hs _ (List.getElem_mem hi)
    have hi8 : i * 100 ≤ 800 := by omega
    refine ⟨K + K' + 1, fun k hk => ?_⟩
    obtain ⟨k', rfl⟩ : ∃ k', k = k' + 1 := ⟨k - 1, by omega⟩
    have hK2 := hK' k' (by omega)
    have hK1 := hK k' (by omega)
    show emendateref34_Format.l0 (k' + 1) ts (of (accL (gI l0 ts) i)) (i : Int) l0 l1 l2 s u = some R
    conv => lhs; unfold emendateref34_Format.l0
    rw [if_pos (show (i : Int) < (ts.length : Int) by omega), if_pos (show (0 : Int) ≤ (i : Int) by omega), if_pos (show (i : Int) < (l0.length : Int) by omega), rd_nat, rdOf_nat]
    rw [IntWalk.wrap64_in _ (by omega), show (i : Int) + 1 = ((i + 1 : Nat) : Int) from rfl]
    by_cases h10 : l0.getD i 0 = 10
    · rw [if_pos h10]
      have e : accL (gI l0 ts) (i + 1) = accL (gI l0 ts) i := by rw [accL, gI, lineL_self _ _ _ h10, List.append_nil]
      rw [e] at hK2
      exact hK2
    · rw [if_neg h10]
      have e : accL (gI l0 ts) (i + 1) = accL (gI l0 ts) i ++ lineB [kwI, ts.getD i ByteArray.empty] (l0.getD i 0) := by rw [accL, gI, lineL_line _ _ _ h10]
      have c1 : (⟨#[105, 110, 115, 101, 114, 116, 32]⟩ : ByteArray) = of (kwI.data.toList ++ [32]) := rfl
      have z1 : (of (kwI.data.toList ++ [32])).size = 7 := rfl
      have z2 : (⟨#[32]⟩ : ByteArray).size = 1 := rfl
      have z3 := of_size (accL (gI l0 ts) i)
      have z4 := of_size D
      change ∀ k : Nat, K ≤ k → emendateref16_Decimal.f k (l0.getD i 0) = some (of D) at hK
      rw [c1, if_pos (zs _ _ (by omega)), if_pos (zs _ _ (by simp only [ByteArray.size_append]; omega)), if_pos (zs _ _ (by simp only [ByteArray.size_append]; omega)), hK k' (by omega)]
      simp only [Option.bind_some]
      rw [if_pos (zs _ _ (by simp only [ByteArray.size_append]; omega)), if_pos (zs _ _ (by simp only [ByteArray.size_append]; omega)), line_two _ _ _ _ _ eD, ← e]
      exact hK2
theorem fl1 (A : List UInt8) (hA : A.length ≤ 800) (hT : ts.length ≤ 8) (hs : ∀ t ∈ ts, t.size ≤ 30) (hl : l1.length = ts.length) (hv : ∀ a, a < ts.length → 1 ≤ l1.getD a 0 ∧ l1.getD a 0 ≤ 1000)
    (hnext : Ev (fun k => emendateref34_Format.l2 k ts (of (A ++ accL (gD l1 ts) ts.length)) 0 l0 l1 l2 s u) R) :
    ∀ (m i : Nat), i + m = ts.length → Ev (fun k => emendateref34_Format.l1 k ts (of (A ++ accL (gD l1 ts) i)) (i : Int) l0 l1 l2 s u) R
  | 0, i, h => by
    have e : i = ts.length := by omega
    refine Ev.step (fun k => ?_) hnext
    conv => lhs; unfold emendateref34_Format.l1
    rw [if_neg (by omega), e]
  | m + 1, i, h => by
    have hi : i < ts.length := by omega
    obtain ⟨K', hK'⟩ := fl1 A hA hT hs hl hv hnext m (i + 1) (by omega)
    obtain ⟨v1, v2⟩ := hv i hi
    obtain ⟨D, ⟨K, hK⟩, eD, hD⟩ := dec_ev _ (show 0 ≤ l1.getD i 0 by omega) v2
    have hlen : (accL (gD l1 ts) i).length ≤ i * 100 := accL_len _ 100 ts.length (fun j hj => lineL_len _ _ _ (by have := hv j hj; omega) (by have := hv j hj; omega) (by simp) (by
      intro w hw
      rcases List.mem_cons.1 hw with rfl | hw
      · decide
      · obtain rfl := List.mem_singleton.1 hw
        rw [List.getD_eq_getElem?_getD, List.getElem?_eq_getElem hj]; exact hs _ (List.getElem_mem hj))) i (by omega)
    have ht : (ts.getD i ByteArray.empty).size ≤ 30 := by rw [List.getD_eq_getElem?_getD, List.getElem?_eq_getElem hi]; exact hs _ (List.getElem_mem hi)
    have hi8 : i * 100 ≤ 800 := by omega
    refine ⟨K + K' + 1, fun k hk => ?_⟩
    obtain ⟨k', rfl⟩ : ∃ k', k = k' + 1 := ⟨k - 1, by omega⟩
    have hK2 := hK' k' (by omega)
    show emendateref34_Format.l1 (k' + 1) ts (of (A ++ accL (gD l1 ts) i)) (i : Int) l0 l1 l2 s u = some R
    conv => lhs; unfold emendateref34_Format.l1
    rw [if_pos (show (i : Int) < (ts.length : Int) by omega), if_pos (show (0 : Int) ≤ (i : Int) by omega), if_pos (show (i : Int) < (l1.length : Int) by omega), rd_nat, rdOf_nat]
    rw [IntWalk.wrap64_in _ (by omega), show (i : Int) + 1 = ((i + 1 : Nat) : Int) from rfl]
    by_cases h10 : l1.getD i 0 = 10
    · rw [if_pos h10]
      have e : accL (gD l1 ts) (i + 1) = accL (gD l1 ts) i := by rw [accL, gD, lineL_self _ _ _ h10, List.append_nil]
      rw [e] at hK2
      exact hK2
    · rw [if_neg h10]
      have e : A ++ accL (gD l1 ts) (i + 1) = A ++ accL (gD l1 ts) i ++ lineB [kwD, ts.getD i ByteArray.empty] (l1.getD i 0) := by rw [accL, gD, lineL_line _ _ _ h10, List.append_assoc]
      have c1 : (⟨#[100, 101, 108, 101, 116, 101, 32]⟩ : ByteArray) = of (kwD.data.toList ++ [32]) := rfl
      have z1 : (of (kwD.data.toList ++ [32])).size = 7 := rfl
      have z2 : (⟨#[32]⟩ : ByteArray).size = 1 := rfl
      have z3 := of_size (A ++ accL (gD l1 ts) i)
      rw [List.length_append] at z3
      have z4 := of_size D
      change ∀ k : Nat, K ≤ k → emendateref16_Decimal.f k (l1.getD i 0) = some (of D) at hK
      rw [c1, if_pos (zs _ _ (by omega)), if_pos (zs _ _ (by simp only [ByteArray.size_append]; omega)), if_pos (zs _ _ (by simp only [ByteArray.size_append]; omega)), hK k' (by omega)]
      simp only [Option.bind_some]
      rw [if_pos (zs _ _ (by simp only [ByteArray.size_append]; omega)), if_pos (zs _ _ (by simp only [ByteArray.size_append]; omega)), line_two _ _ _ _ _ eD, ← e]
      exact hK2
theorem ent_rng {a b : Nat} {x : Int} (h : entOk a b x = true) : -1 ≤ x ∧ x ≤ 1000 := by
  unfold entOk at h
  split at h
  · have := of_decide_eq_true h; omega
  · rw [Bool.or_eq_true, rng_iff, decide_eq_true_eq] at h; omega
theorem gR_len (hs : ∀ t ∈ ts, t.size ≤ 30) (a b : Nat) (ha : a < ts.length) (hb : b < ts.length) (hv : entOk a b ((l2.getD a []).getD b 0) = true) : (gR l2 ts a b).length ≤ 100 := by
  unfold gR
  split
  · simp
  · have hr := ent_rng hv
    refine lineL_len _ _ _ hr.1 hr.2 (by simp) (fun w hw => ?_)
    rcases List.mem_cons.1 hw with rfl | hw
    · decide
    · rcases List.mem_cons.1 hw with rfl | hw
      · rw [List.getD_eq_getElem?_getD, List.getElem?_eq_getElem ha]; exact hs _ (List.getElem_mem ha)
      · obtain rfl := List.mem_singleton.1 hw
        rw [List.getD_eq_getElem?_getD, List.getElem?_eq_getElem hb]; exact hs _ (List.getElem_mem hb)
theorem fl3 (A : List UInt8) (hA : A.length ≤ 10000) (hT : ts.length ≤ 8) (hs : ∀ t ∈ ts, t.size ≤ 30) (a : Nat) (ha : a < ts.length) (hl : l2.length = ts.length) (hlr : (l2.getD a []).length = ts.length)
    (hv : ∀ b, b < ts.length → entOk a b ((l2.getD a []).getD b 0) = true)
    (hnext : Ev (fun k => emendateref34_Format.l2 k ts (of (A ++ accL (gR l2 ts a) ts.length)) ((a + 1 : Nat) : Int) l0 l1 l2 s u) R) :
    ∀ (m i : Nat), i + m = ts.length → Ev (fun k => emendateref34_Format.l3 k ts (of (A ++ accL (gR l2 ts a) i)) (a : Int) (i : Int) l0 l1 l2 s u) R
  | 0, i, h => by
    have e : i = ts.length := by omega
    refine Ev.step (fun k => ?_) hnext
    conv => lhs; unfold emendateref34_Format.l3
    rw [if_neg (by omega), e, IntWalk.wrap64_in _ (by omega)]
    rfl
  | m + 1, i, h => by
    have hi : i < ts.length := by omega
    obtain ⟨K', hK'⟩ := fl3 A hA hT hs a ha hl hlr hv hnext m (i + 1) (by omega)
    have hr := ent_rng (hv i hi)
    have hlen : (accL (gR l2 ts a) i).length ≤ i * 100 := accL_len _ 100 ts.length (fun j hj => gR_len hs a j ha hj (hv j hj)) i (by omega)
    have ht : (ts.getD i ByteArray.empty).size ≤ 30 := by rw [List.getD_eq_getElem?_getD, List.getElem?_eq_getElem hi]; exact hs _ (List.getElem_mem hi)
    have hta : (ts.getD a ByteArray.empty).size ≤ 30 := by rw [List.getD_eq_getElem?_getD, List.getElem?_eq_getElem ha]; exact hs _ (List.getElem_mem ha)
    have hi8 : i * 100 ≤ 800 := by omega
    have st : ∀ k, emendateref34_Format.l3 (k + 1) ts (of (A ++ accL (gR l2 ts a) i)) (a : Int) (i : Int) l0 l1 l2 s u = if a = i then emendateref34_Format.j5 k ts (of (A ++ accL (gR l2 ts a) i)) (a : Int) (i : Int) true l0 l1 l2 s u else emendateref34_Format.j5 k ts (of (A ++ accL (gR l2 ts a) i)) (a : Int) (i : Int) ((l2.getD a []).getD i 0 == 15) l0 l1 l2 s u := by
      intro k
      conv => lhs; unfold emendateref34_Format.l3
      rw [if_pos (show (i : Int) < (ts.length : Int) by omega), if_pos (show (0 : Int) ≤ (a : Int) by omega), if_pos (show (0 : Int) ≤ (i : Int) by omega), rdL_nat, rd_nat, if_pos (show (a : Int) < (l2.length : Int) by omega), if_pos (show (i : Int) < ((l2.getD a []).length : Int) by omega)]
      by_cases e : a = i
      · rw [if_pos (by omega), if_pos e]
      · rw [if_neg (by omega), if_neg e]
    refine Ev.step st ?_
    have skip : accL (gR l2 ts a) (i + 1) = accL (gR l2 ts a) i → Ev (fun k => emendateref34_Format.j5 k ts (of (A ++ accL (gR l2 ts a) i)) (a : Int) (i : Int) true l0 l1 l2 s u) R := by
      intro e
      refine Ev.step (fun k => ?_) ⟨K', hK'⟩
      conv => lhs; unfold emendateref34_Format.j5
      simp only [if_true]
      rw [IntWalk.wrap64_in _ (by omega), e]
      rfl
    by_cases e : a = i
    · simp only [if_pos e]
      have hsk := skip (by rw [accL, gR, if_pos e, List.append_nil])
      rw [← e] at hsk ⊢
      exact hsk
    · simp only [if_neg e]
      by_cases h15 : (l2.getD a []).getD i 0 = 15
      · rw [show ((l2.getD a []).getD i 0 == 15) = true from beq_iff_eq.2 h15]
        exact skip (by rw [accL, gR, if_neg e, lineL_self _ _ _ h15, List.append_nil])
      · rw [show ((l2.getD a []).getD i 0 == 15) = false from beq_eq_false_iff_ne.2 h15]
        have eq : A ++ accL (gR l2 ts a) (i + 1) = A ++ accL (gR l2 ts a) i ++ lineB [kwR, ts.getD a ByteArray.empty, ts.getD i ByteArray.empty] ((l2.getD a []).getD i 0) := by rw [accL, gR, if_neg e, lineL_line _ _ _ h15, List.append_assoc]
        have c1 : (⟨#[114, 101, 112, 108, 97, 99, 101, 32]⟩ : ByteArray) = of (kwR.data.toList ++ [32]) := rfl
        have z1 : (of (kwR.data.toList ++ [32])).size = 8 := rfl
        have z2 : (⟨#[32]⟩ : ByteArray).size = 1 := rfl
        have z3 := of_size (A ++ accL (gR l2 ts a) i)
        rw [List.length_append] at z3
        by_cases hneg : (l2.getD a []).getD i 0 < 0
        · refine ⟨K' + 1, fun k hk => ?_⟩
          obtain ⟨k', rfl⟩ : ∃ k', k = k' + 1 := ⟨k - 1, by omega⟩
          have hK2 := hK' k' (by omega)
          show emendateref34_Format.j5 (k' + 1) ts (of (A ++ accL (gR l2 ts a) i)) (a : Int) (i : Int) false l0 l1 l2 s u = some R
          conv => lhs; unfold emendateref34_Format.j5
          rw [if_neg Bool.false_ne_true, rdOf_nat ts a, rdOf_nat ts i, rdL_nat, rd_nat, c1, if_pos (zs _ _ (by omega)), if_pos (by omega), if_pos (by omega), if_pos (zs _ _ (by simp only [ByteArray.size_append]; omega)), if_pos (zs _ _ (by simp only [ByteArray.size_append]; omega)), if_pos (by omega), if_pos (by omega),
            if_pos (zs _ _ (by simp only [ByteArray.size_append]; omega)), if_pos (zs _ _ (by simp only [ByteArray.size_append]; omega)), if_pos (by omega), if_pos (by omega), if_pos hneg, if_pos (zs _ _ (by simp only [ByteArray.size_append]; omega)), IntWalk.wrap64_in _ (by omega),
            line_never _ _ _ _ _ hneg, ← eq]
          exact hK2
        · obtain ⟨D, ⟨K, hK⟩, eD, hD⟩ := dec_ev _ (show 0 ≤ (l2.getD a []).getD i 0 by omega) hr.2
          have z4 := of_size D
          change ∀ k : Nat, K ≤ k → emendateref16_Decimal.f k ((l2.getD a []).getD i 0) = some (of D) at hK
          refine ⟨K + K' + 1, fun k hk => ?_⟩
          obtain ⟨k', rfl⟩ : ∃ k', k = k' + 1 := ⟨k - 1, by omega⟩
          have hK2 := hK' k' (by omega)
          show emendateref34_Format.j5 (k' + 1) ts (of (A ++ accL (gR l2 ts a) i)) (a : Int) (i : Int) false l0 l1 l2 s u = some R
          conv => lhs; unfold emendateref34_Format.j5
          rw [if_neg Bool.false_ne_true, rdOf_nat ts a, rdOf_nat ts i, rdL_nat, rd_nat, c1, if_pos (zs _ _ (by omega)), if_pos (by omega), if_pos (by omega), if_pos (zs _ _ (by simp only [ByteArray.size_append]; omega)), if_pos (zs _ _ (by simp only [ByteArray.size_append]; omega)), if_pos (by omega), if_pos (by omega),
            if_pos (zs _ _ (by simp only [ByteArray.size_append]; omega)), if_pos (zs _ _ (by simp only [ByteArray.size_append]; omega)), if_pos (by omega), if_pos (by omega), if_neg hneg, hK k' (by omega)]
          simp only [Option.bind_some]
          rw [if_pos (zs _ _ (by simp only [ByteArray.size_append]; omega)), if_pos (zs _ _ (by simp only [ByteArray.size_append]; omega)), IntWalk.wrap64_in _ (by omega), line_three _ _ _ _ _ _ eD, ← eq]
          exact hK2
theorem fl_end (A : List UInt8) (hA : A.length ≤ 10000) (hT : ts.length ≤ 8) (hsw : 0 ≤ s ∧ s ≤ 1000) (hun : 1 ≤ u ∧ u ≤ 1000) :
    Ev (fun k => emendateref34_Format.l2 k ts (of A) (ts.length : Int) l0 l1 l2 s u) (of (A ++ lineL s 12 [kwS] ++ lineL u 8 [kwU]), 0) := by
  obtain ⟨D, ⟨K, hK⟩, eD, hD⟩ := dec_ev s hsw.1 hsw.2
  obtain ⟨D', ⟨K', hK'⟩, eD', hD'⟩ := dec_ev u (by omega) hun.2
  change ∀ k : Nat, K ≤ k → emendateref16_Decimal.f k s = some (of D) at hK
  change ∀ k : Nat, K' ≤ k → emendateref16_Decimal.f k u = some (of D') at hK'
  have z3 := of_size A
  have z4 := of_size D
  have z5 := of_size D'
  have c1 : (⟨#[115, 119, 97, 112, 32]⟩ : ByteArray) = of (kwS.data.toList ++ [32]) := rfl
  have z1 : (of (kwS.data.toList ++ [32])).size = 5 := rfl
  have c2 : (⟨#[117, 110, 107, 110, 111, 119, 110, 32]⟩ : ByteArray) = of (kwU.data.toList ++ [32]) := rfl
  have z2 : (of (kwU.data.toList ++ [32])).size = 8 := rfl
  have z6 : (⟨#[10]⟩ : ByteArray).size = 1 := rfl
  refine ⟨K + K' + 1, fun k hk => ?_⟩
  obtain ⟨k', rfl⟩ : ∃ k', k = k' + 1 := ⟨k - 1, by omega⟩
  show emendateref34_Format.l2 (k' + 1) ts (of A) (ts.length : Int) l0 l1 l2 s u = _
  conv => lhs; unfold emendateref34_Format.l2
  rw [if_neg (by omega)]
  by_cases h12 : s = 12
  · rw [if_pos h12, lineL_self _ _ _ h12, List.append_nil]
    by_cases h8 : u = 8
    · rw [if_pos h8, lineL_self _ _ _ h8, List.append_nil]
    · rw [if_neg h8, c2, if_pos (zs _ _ (by omega)), hK' k' (by omega), lineL_line _ _ _ h8]
      simp only [Option.bind_some]
      rw [if_pos (zs _ _ (by simp only [ByteArray.size_append]; omega)), if_pos (zs _ _ (by simp only [ByteArray.size_append]; omega)), line_one _ _ _ _ eD']
  · rw [if_neg h12, c1, if_pos (zs _ _ (by omega)), hK k' (by omega), lineL_line _ _ _ h12]
    simp only [Option.bind_some]
    rw [if_pos (zs _ _ (by simp only [ByteArray.size_append]; omega)), if_pos (zs _ _ (by simp only [ByteArray.size_append]; omega))]
    by_cases h8 : u = 8
    · rw [if_pos h8, lineL_self _ _ _ h8, List.append_nil, line_one _ _ _ _ eD]
    · rw [if_neg h8, c2, if_pos (zs _ _ (by simp only [ByteArray.size_append]; omega)), hK' k' (by omega), lineL_line _ _ _ h8]
      simp only [Option.bind_some]
      rw [if_pos (zs _ _ (by simp only [ByteArray.size_append]; omega)), if_pos (zs _ _ (by simp only [ByteArray.size_append]; omega)), line_one _ _ _ _ eD, line_one _ _ _ _ eD']
theorem fl2 (A : List UInt8) (hA : A.length ≤ 1600) (hT : ts.length ≤ 8) (hs : ∀ t ∈ ts, t.size ≤ 30) (hl : l2.length = ts.length)
    (hlr : ∀ a, a < ts.length → (l2.getD a []).length = ts.length) (hv : ∀ a, a < ts.length → ∀ b, b < ts.length → entOk a b ((l2.getD a []).getD b 0) = true)
    (hsw : 0 ≤ s ∧ s ≤ 1000) (hun : 1 ≤ u ∧ u ≤ 1000) :
    ∀ (m i : Nat), i + m = ts.length → Ev (fun k => emendateref34_Format.l2 k ts (of (A ++ accL (gRow l2 ts) i)) (i : Int) l0 l1 l2 s u) (of (A ++ accL (gRow l2 ts) ts.length ++ lineL s 12 [kwS] ++ lineL u 8 [kwU]), 0)
  | m, i, h => by
    have hrow : ∀ j, j < ts.length → (gRow l2 ts j).length ≤ 800 := fun j hj => by
      have := accL_len (gR l2 ts j) 100 ts.length (fun b hb => gR_len hs j b hj hb (hv j hj b hb)) ts.length (Nat.le_refl _)
      unfold gRow
      omega
    have hlen : (accL (gRow l2 ts) i).length ≤ i * 800 := accL_len _ 800 ts.length hrow i (by omega)
    have hi8 : i * 800 ≤ 6400 := by omega
    cases m with
    | zero =>
      have e : i = ts.length := by omega
      subst e
      exact fl_end _ (by rw [List.length_append]; omega) hT hsw hun
    | succ m =>
      have ih := fl2 A hA hT hs hl hlr hv hsw hun m (i + 1) (by omega)
      rw [accL, ← List.append_assoc] at ih
      refine Ev.step (f := fun k => emendateref34_Format.l3 k ts (of (A ++ accL (gRow l2 ts) i)) (i : Int) 0 l0 l1 l2 s u) (fun k => ?_) ?_
      · conv => lhs; unfold emendateref34_Format.l2
        rw [if_pos (by omega)]
      · have := fl3 (A ++ accL (gRow l2 ts) i) (by rw [List.length_append]; omega) hT hs i (by omega) hl (hlr i (by omega)) (hv i (by omega)) ih ts.length 0 (by omega)
        simpa [accL] using this
theorem fmt_ref (hT : ts.length ≤ 8) (hs : ∀ t ∈ ts, t.size ≤ 30) (hn : namesOk ts = true) (hv : vok l0 l1 l2 s u ts.length = true) : Ev (fun k => emendateref34_Format.f k l0 l1 l2 s u ts) (of (fmtB l0 l1 l2 s u ts), 0) := by
  have hs' : ∀ t ∈ ts, t.size ≤ 140737488355328 := fun t ht => by have := hs t ht; omega
  have h1 := namesR_ev ts hs'
  rw [hn] at h1
  obtain ⟨v, v1, v2⟩ := valid_both l0 l1 l2 s u (ts.length : Int) (by rw [((vok_iff _ _ _ _ _ _).1 hv).1.1]; omega)
  have hv1 := valid_val l0 l1 l2 s u ts.length (by omega)
  rw [hv] at hv1
  have ev : v = true := by
    obtain ⟨K, a⟩ := v1
    obtain ⟨K', b⟩ := hv1
    have := (a (K + K') (by omega)).symm.trans (b (K + K') (by omega))
    exact Option.some.inj this
  subst ev
  obtain ⟨⟨q0, q1, q2⟩, ⟨qs, qu⟩, qa⟩ := (vok_iff _ _ _ _ _ _).1 hv
  unfold emendateref34_Format.f
  refine Ev.bind h1 ?_
  simp only [if_true]
  refine Ev.bind v2 ?_
  simp only [Bool.not_true]
  refine Ev.step (f := fun k => emendateref34_Format.l0 k ts (of (accL (gI l0 ts) 0)) ((0 : Nat) : Int) l0 l1 l2 s u) (fun k => rfl) ?_
  have hgI : (accL (gI l0 ts) ts.length).length ≤ ts.length * 100 := accL_len _ 100 ts.length (fun j hj => lineL_len _ _ _ (by have := qa j hj; omega) (by have := qa j hj; omega) (by simp) (by
      intro w hw
      rcases List.mem_cons.1 hw with rfl | hw
      · decide
      · obtain rfl := List.mem_singleton.1 hw
        rw [List.getD_eq_getElem?_getD, List.getElem?_eq_getElem hj]; exact hs _ (List.getElem_mem hj))) _ (Nat.le_refl _)
  have hgD : (accL (gD l1 ts) ts.length).length ≤ ts.length * 100 := accL_len _ 100 ts.length (fun j hj => lineL_len _ _ _ (by have := qa j hj; omega) (by have := qa j hj; omega) (by simp) (by
      intro w hw
      rcases List.mem_cons.1 hw with rfl | hw
      · decide
      · obtain rfl := List.mem_singleton.1 hw
        rw [List.getD_eq_getElem?_getD, List.getElem?_eq_getElem hj]; exact hs _ (List.getElem_mem hj))) _ (Nat.le_refl _)
  have h3 := fl2 (l0 := l0) (l1 := l1) (A := accL (gI l0 ts) ts.length ++ accL (gD l1 ts) ts.length) (by rw [List.length_append]; omega) hT hs q2 (fun a ha => (qa a ha).2.2.1) (fun a ha => (qa a ha).2.2.2) qs qu ts.length 0 (by omega)
  rw [accL, List.append_nil] at h3
  have h2 := fl1 (l0 := l0) (A := accL (gI l0 ts) ts.length) (by omega) hT hs q1 (fun a ha => (qa a ha).2.1) h3 ts.length 0 (by omega)
  rw [accL, List.append_nil] at h2
  exact fl0 hT hs q0 (fun a ha => (qa a ha).1) h2 ts.length 0 (by omega)
end Go.Proofs.YtdcfcpgpbbgceaaGreatDoor.Pl
