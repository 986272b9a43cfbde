import Derived.Test.YtdcfcpgpbbgceaaGreatDoorOv
import Derived.Test.YtdcfcpgpbbgceaaGreatDoorPAllx22d
namespace Go.Proofs.YtdcfcpgpbbgceaaGreatDoor.Pl
open Go.RowKit Go.Proofs.YtdcfcpgpbbgceaaGreatDoorW.PrintWords Go.Proofs.YtdcfcpgpbbgceaaGreatDoorW.PrintLast Go.Proofs.YtdcfcpgpbbgceaaGreatDoor.PAll
open PAll.prices_Format (lastB lineB lineL kwI kwD kwR kwS kwU)
open PAll.prices_Parse (PT)
set_option linter.unusedVariables false
set_option linter.unusedSimpArgs false
section
variable {P : PT} {a b : Nat} {x : Int}
theorem awakeT : emendatelaw34_awake.f = some true := rfl
theorem lensP (hP : vokP P 3) : P.1.length = 3 ∧ P.2.1.length = 3 ∧ P.2.2.1.length = 3 ∧ ∀ i, i < 3 → (P.2.2.1.getD i []).length = 3 := by
  obtain ⟨⟨q0, q1, q2⟩, _, qa⟩ := (vok_iff _ _ _ _ _ _).1 hP
  exact ⟨q0, q1, q2, fun i hi => (qa i hi).2.2.1⟩
theorem over_row (hP : vokP P 3) (ha : a < 3) (i : Nat) (hi : i < 3) : ((over P a b x).2.2.1.getD i []).length = 3 := by
  obtain ⟨q0, q1, q2, q3⟩ := lensP hP
  show ((P.2.2.1.set a ((P.2.2.1.getD a []).set b (-1))).getD i []).length = 3
  rw [getDL_set _ _ _ _ (by omega)]
  split
  · rw [List.length_set]; exact q3 a ha
  · exact q3 i hi
theorem over_ent (hP : vokP P 3) (ha : a < 3) (hb : b < 3) (i j : Nat) (hi : i < 3) (hj : j < 3) (h : ¬ (i = a ∧ j = b)) : ((over P a b x).2.2.1.getD i []).getD j 0 = (P.2.2.1.getD i []).getD j 0 := by
  obtain ⟨q0, q1, q2, q3⟩ := lensP hP
  show ((P.2.2.1.set a ((P.2.2.1.getD a []).set b (-1))).getD i []).getD j 0 = _
  rw [getDL_set _ _ _ _ (by omega)]
  by_cases e : i = a
  · rw [if_pos e, getD_set _ _ _ _ (by rw [q3 a ha]; exact hb), if_neg (fun e2 => h ⟨e, e2⟩), e]
  · rw [if_neg e]
theorem over_at (hP : vokP P 3) (ha : a < 3) (hb : b < 3) : ((over P a b x).2.2.1.getD a []).getD b 0 = -1 := by
  obtain ⟨q0, q1, q2, q3⟩ := lensP hP
  show ((P.2.2.1.set a ((P.2.2.1.getD a []).set b (-1))).getD a []).getD b 0 = _
  rw [getDL_set _ _ _ _ (by omega), if_pos rfl, getD_set _ _ _ _ (by rw [q3 a ha]; exact hb), if_pos rfl]
structure OvF (P Q : PT) (a b : Nat) (x : Int) : Prop where
  p0 : P.1.length = 3
  p1 : P.2.1.length = 3
  p2 : P.2.2.1.length = 3
  pr : ∀ i, i < 3 → (P.2.2.1.getD i []).length = 3
  q0 : Q.1.length = 3
  q1 : Q.2.1.length = 3
  q2 : Q.2.2.1.length = 3
  qr : ∀ i, i < 3 → (Q.2.2.1.getD i []).length = 3
  ent : ∀ i j, i < 3 → j < 3 → ¬ (i = a ∧ j = b) → (Q.2.2.1.getD i []).getD j 0 = (P.2.2.1.getD i []).getD j 0
  i0 : ∀ i, i < 3 → ¬ i = a → Q.1.getD i 0 = P.1.getD i 0
  i1 : ∀ i, i < 3 → ¬ i = a → Q.2.1.getD i 0 = P.2.1.getD i 0
  a0 : Q.1.getD a 0 = x
  a1 : Q.2.1.getD a 0 = 9
  a2 : (Q.2.2.1.getD a []).getD b 0 = -1
  s5 : Q.2.2.2.2 = 5
  s4 : Q.2.2.2.1 = P.2.2.2.1
theorem over_f (hP : vokP P 3) (ha : a < 3) (hb : b < 3) : OvF P (over P a b x) a b x := by
  obtain ⟨q0, q1, q2, q3⟩ := lensP hP
  refine ⟨q0, q1, q2, q3, ?_, ?_, ?_, over_row hP ha, fun i j hi hj h => over_ent hP ha hb i j hi hj h, ?_, ?_, ?_, ?_, over_at hP ha hb, rfl, rfl⟩
  · show (P.1.set a x).length = 3; rw [List.length_set]; exact q0
  · show (P.2.1.set a 9).length = 3; rw [List.length_set]; exact q1
  · show (P.2.2.1.set a _).length = 3; rw [List.length_set]; exact q2
  · intro i hi h; show (P.1.set a x).getD i 0 = _; rw [getD_set _ _ _ _ (by omega), if_neg h]
  · intro i hi h; show (P.2.1.set a 9).getD i 0 = _; rw [getD_set _ _ _ _ (by omega), if_neg h]
  · show (P.1.set a x).getD a 0 = _; rw [getD_set _ _ _ _ (by omega), if_pos rfl]
  · show (P.2.1.set a 9).getD a 0 = _; rw [getD_set _ _ _ _ (by omega), if_pos rfl]
theorem ov_l1 {p0 p1 q0 q1 : List Int} {p2 q2 : List (List Int)} {ps pu qs qu : Int} (F : OvF (p0, p1, p2, ps, pu) (q0, q1, q2, qs, qu) a b x) (ha : a < 3) (hb : b < 3) (hab : Int.tmod (wrap64 ((a : Int) + 1)) 3 = (b : Int)) (i : Nat) (hi : i < 3)
    (hnext : Ev (fun k => emendatelaw34_PricesOverride.l0 k (a : Int) x ((i + 1 : Nat) : Int) p0 p1 p2 ps pu q0 q1 q2 qs qu) true) :
    ∀ (m j : Nat), j + m = 3 → Ev (fun k => emendatelaw34_PricesOverride.l1 k (a : Int) x (i : Int) (j : Int) p0 p1 p2 ps pu q0 q1 q2 qs qu) true
  | 0, j, h => by
    have e2 : wrap64 ((i : Int) + 1) = ((i + 1 : Nat) : Int) := by rw [IntWalk.wrap64_in _ (by omega)]; rfl
    have f0 : p0.length = 3 := F.p0
    have f1 : p1.length = 3 := F.p1
    have g0 : q0.length = 3 := F.q0
    have g1 : q1.length = 3 := F.q1
    refine Ev.step (fun k => ?_) hnext
    conv => lhs; unfold emendatelaw34_PricesOverride.l1
    rw [if_neg (by omega), e2]
    by_cases hk : i = a
    · rw [if_pos (by omega)]
    · have r0 : q0.getD i 0 = p0.getD i 0 := F.i0 i hi hk
      have r1 : q1.getD i 0 = p1.getD i 0 := F.i1 i hi hk
      rw [if_neg (by omega), if_pos (by omega), if_pos (by omega), if_pos (by omega), rd_nat, rd_nat, if_pos r0, if_pos (by omega), if_pos (by omega), rd_nat, rd_nat, if_pos r1]
  | m + 1, j, h => by
    have ih := ov_l1 F ha hb hab i hi hnext m (j + 1) (by omega)
    have e2 : wrap64 ((j : Int) + 1) = ((j + 1 : Nat) : Int) := by rw [IntWalk.wrap64_in _ (by omega)]; rfl
    have f2 : p2.length = 3 := F.p2
    have g2 : q2.length = 3 := F.q2
    have fr : (p2.getD i []).length = 3 := F.pr i hi
    have gr : (q2.getD i []).length = 3 := F.qr i hi
    refine Ev.step (fun k => ?_) ih
    conv => lhs; unfold emendatelaw34_PricesOverride.l1
    rw [if_pos (by omega), e2, hab]
    by_cases hk : i = a
    · rw [if_pos (by omega)]
      by_cases hj : j = b
      · rw [if_pos (by omega)]
      · have he : (q2.getD i []).getD j 0 = (p2.getD i []).getD j 0 := F.ent i j hi (by omega) (fun e => hj e.2)
        rw [if_neg (by omega), if_pos (by omega), if_pos (by omega), if_pos (by omega), rdL_nat, if_pos (by omega), if_pos (by omega), rdL_nat, if_pos (by omega), rd_nat, rd_nat, if_pos he]
    · have he : (q2.getD i []).getD j 0 = (p2.getD i []).getD j 0 := F.ent i j hi (by omega) (fun e => hk e.1)
      rw [if_neg (by omega), if_pos (by omega), if_pos (by omega), if_pos (by omega), rdL_nat, if_pos (by omega), if_pos (by omega), rdL_nat, if_pos (by omega), rd_nat, rd_nat, if_pos he]
theorem ov_l0 {p0 p1 q0 q1 : List Int} {p2 q2 : List (List Int)} {ps pu qs qu : Int} (F : OvF (p0, p1, p2, ps, pu) (q0, q1, q2, qs, qu) a b x) (ha : a < 3) (hb : b < 3) (hab : Int.tmod (wrap64 ((a : Int) + 1)) 3 = (b : Int)) :
    ∀ (m i : Nat), i + m = 3 → Ev (fun k => emendatelaw34_PricesOverride.l0 k (a : Int) x (i : Int) p0 p1 p2 ps pu q0 q1 q2 qs qu) true
  | 0, i, h => by
    have g0 : q0.length = 3 := F.q0
    have g1 : q1.length = 3 := F.q1
    have g2 : q2.length = 3 := F.q2
    have gr : (q2.getD a []).length = 3 := F.qr a ha
    have r0 : q0.getD a 0 = x := F.a0
    have r1 : q1.getD a 0 = 9 := F.a1
    have r2 : (q2.getD a []).getD b 0 = -1 := F.a2
    have r5 : qu = 5 := F.s5
    have r4 : qs = ps := F.s4
    refine Ev.step (f := fun _ => some true) (fun k => ?_) (Ev.now _)
    conv => lhs; unfold emendatelaw34_PricesOverride.l0
    rw [if_neg (by omega), awakeT, Option.bind_some, if_pos rfl, if_pos (by omega), if_pos (by omega), rd_nat, if_pos r0, if_pos (by omega), rd_nat, if_pos r1, if_pos (by omega), hab, if_pos (by omega), rdL_nat, if_pos (by omega), rd_nat, if_pos r2, if_pos r5, r4, beq_self_eq_true]
  | m + 1, i, h => by
    have ih := ov_l0 F ha hb hab m (i + 1) (by omega)
    refine Ev.step (fun k => ?_) (ov_l1 F ha hb hab i (by omega) ih 3 0 (by omega))
    conv => lhs; unfold emendatelaw34_PricesOverride.l0
    rw [if_pos (by omega)]
    rfl
end
theorem more_bytes (t u : ByteArray) (D : List UInt8) (x : Int) (hD : lastB x = of D) :
    (((((((((((⟨#[10, 105, 110, 115, 101, 114, 116, 32]⟩ : ByteArray) ++ t) ++ (⟨#[32]⟩ : ByteArray)) ++ of D) ++ (⟨#[10, 100, 101, 108, 101, 116, 101, 32]⟩ : ByteArray)) ++ t) ++ (⟨#[32, 57, 10, 114, 101, 112, 108, 97, 99, 101, 32]⟩ : ByteArray)) ++ t) ++ (⟨#[32]⟩ : ByteArray)) ++ u) ++ (⟨#[32, 110, 101, 118, 101, 114, 10, 117, 110, 107, 110, 111, 119, 110, 32, 53]⟩ : ByteArray)).data.toList =
      10 :: (lineB [kwI, t] x ++ lineB [kwD, t] 9 ++ lineB [kwR, t, u] (-1) ++ last5) := by
  have h9 : lastB 9 = of [57] := by
    have : Lib.itoa 9 = digs 4 9 := itoa_digs 9 (by omega)
    unfold lastB; rw [if_neg (by decide), this]; rfl
  have hn : lastB (-1) = of [110, 101, 118, 101, 114] := rfl
  rw [lineB3, lineB3, lineB4, hD, h9, hn]
  simp [app_list, kwI, kwD, kwR, last5]
theorem ov_body (s : ByteArray) (hs : s.size ≤ 500) (u v : Int) (hu : 0 ≤ u ∧ u ≤ 65535) (hv : 0 ≤ v ∧ v ≤ 65535) (hc : (goB T3 (splitL 10 s.data.toList) 0 D3).2.2 = 0) (hP : vokP (goB T3 (splitL 10 s.data.toList) 0 D3).1 3) :
    Ev (fun k => emendatelaw34_PricesOverride.j0 k s u v T3 false (goB T3 (splitL 10 s.data.toList) 0 D3).1.1 (goB T3 (splitL 10 s.data.toList) 0 D3).1.2.1 (goB T3 (splitL 10 s.data.toList) 0 D3).1.2.2.1 (goB T3 (splitL 10 s.data.toList) 0 D3).1.2.2.2.1 (goB T3 (splitL 10 s.data.toList) 0 D3).1.2.2.2.2) true := by
  obtain ⟨a, ha3, ha⟩ : ∃ a : Nat, a < 3 ∧ Int.tmod (wrap64 u) 3 = (a : Int) := by
    refine ⟨(u % 3).toNat, by omega, ?_⟩
    rw [IntWalk.wrap64_in _ (by omega), Int.tmod_eq_emod_of_nonneg hu.1]
    omega
  obtain ⟨b, hb3, hb, hab⟩ : ∃ b : Nat, b < 3 ∧ Int.tmod (wrap64 ((a : Int) + 1)) 3 = (b : Int) ∧ a ≠ b := by
    refine ⟨(a + 1) % 3, by omega, ?_, by omega⟩
    rw [IntWalk.wrap64_in _ (by omega), Int.tmod_eq_emod_of_nonneg (by omega)]
    omega
  obtain ⟨x, hx, hx1, hx2⟩ : ∃ x : Int, wrap64 (1 + Int.tmod (wrap64 v) 1000) = x ∧ 1 ≤ x ∧ x ≤ 1000 := by
    refine ⟨1 + v % 1000, ?_, by omega, by omega⟩
    rw [IntWalk.wrap64_in v (by omega), Int.tmod_eq_emod_of_nonneg hv.1, IntWalk.wrap64_in _ (by omega)]
  obtain ⟨D, hD, eD, hDl⟩ := dec_ev x (by omega) hx2
  have hrun := over_run (ts := T3) names3Ok a b ha3 hb3 hab x hx1 hx2 s.data.toList D3 hc
  generalize hG : goB T3 (splitL 10 s.data.toList) 0 D3 = G at *
  obtain ⟨⟨p0, p1, p2, ps, pu⟩, ln, e0⟩ := G
  have hF := over_f (x := x) hP ha3 hb3
  have hT3 : ∀ i, i < 3 → (T3.getD i ByteArray.empty).size = 1 := by
    intro i hi
    rcases (by omega : i = 0 ∨ i = 1 ∨ i = 2) with rfl | rfl | rfl <;> rfl
  have hta := hT3 a ha3
  have htb := hT3 b hb3
  have ebytes := more_bytes (T3.getD a ByteArray.empty) (T3.getD b ByteArray.empty) D x eD
  have hsz : ((((((((((((⟨#[10, 105, 110, 115, 101, 114, 116, 32]⟩ : ByteArray) ++ T3.getD a ByteArray.empty) ++ (⟨#[32]⟩ : ByteArray)) ++ of D) ++ (⟨#[10, 100, 101, 108, 101, 116, 101, 32]⟩ : ByteArray)) ++ T3.getD a ByteArray.empty) ++ (⟨#[32, 57, 10, 114, 101, 112, 108, 97, 99, 101, 32]⟩ : ByteArray)) ++ T3.getD a ByteArray.empty) ++ (⟨#[32]⟩ : ByteArray)) ++ T3.getD b ByteArray.empty) ++ (⟨#[32, 110, 101, 118, 101, 114, 10, 117, 110, 107, 110, 111, 119, 110, 32, 53]⟩ : ByteArray))).size ≤ 100 := by
    have z1 : (⟨#[10, 105, 110, 115, 101, 114, 116, 32]⟩ : ByteArray).size = 8 := rfl
    have z2 : (⟨#[32]⟩ : ByteArray).size = 1 := rfl
    have z3 : (⟨#[10, 100, 101, 108, 101, 116, 101, 32]⟩ : ByteArray).size = 8 := rfl
    have z4 : (⟨#[32, 57, 10, 114, 101, 112, 108, 97, 99, 101, 32]⟩ : ByteArray).size = 11 := rfl
    have z5 : (⟨#[32, 110, 101, 118, 101, 114, 10, 117, 110, 107, 110, 111, 119, 110, 32, 53]⟩ : ByteArray).size = 16 := rfl
    have z6 := of_size D
    simp only [ByteArray.size_append]
    omega
  have hpar := parse3 (s ++ (((((((((((⟨#[10, 105, 110, 115, 101, 114, 116, 32]⟩ : ByteArray) ++ T3.getD a ByteArray.empty) ++ (⟨#[32]⟩ : ByteArray)) ++ of D) ++ (⟨#[10, 100, 101, 108, 101, 116, 101, 32]⟩ : ByteArray)) ++ T3.getD a ByteArray.empty) ++ (⟨#[32, 57, 10, 114, 101, 112, 108, 97, 99, 101, 32]⟩ : ByteArray)) ++ T3.getD a ByteArray.empty) ++ (⟨#[32]⟩ : ByteArray)) ++ T3.getD b ByteArray.empty) ++ (⟨#[32, 110, 101, 118, 101, 114, 10, 117, 110, 107, 110, 111, 119, 110, 32, 53]⟩ : ByteArray))) (by rw [ByteArray.size_append]; omega)
  rw [app_list, ebytes] at hpar
  change Ev _ (fl (goB T3 (splitL 10 (s.data.toList ++ 10 :: moreL T3 a b x)) 0 D3)) at hpar
  rw [hrun] at hpar
  have hq : (goB T3 (splitL 10 (s.data.toList ++ 10 :: moreL T3 a b x)) 0 D3).2.2 = 0 := by rw [hrun]
  have hvq := goB_vok (ts := T3) (splitL 10 (s.data.toList ++ 10 :: moreL T3 a b x)) 0 D3 (def_ev 3 (by omega)).2.2 hq
  rw [hrun] at hvq
  generalize hO : over (p0, p1, p2, ps, pu) a b x = O at *
  obtain ⟨o0, o1, o2, os, ou⟩ := O
  have hval := valid_val o0 o1 o2 os ou 3 (by omega)
  have hvq' : vok o0 o1 o2 os ou 3 = true := hvq
  rw [hvq'] at hval
  have hl0 := ov_l0 hF ha3 hb3 hb 3 0 (by omega)
  simp only [fl] at hpar
  obtain ⟨K1, k1⟩ := hD
  obtain ⟨K2, k2⟩ := hpar
  obtain ⟨K3, k3⟩ := hval
  obtain ⟨K4, k4⟩ := hl0
  refine ⟨K1 + K2 + K3 + K4 + 2, fun k hk => ?_⟩
  obtain ⟨m, rfl⟩ : ∃ m, k = m + 2 := ⟨k - 2, by omega⟩
  have d1 : emendateref16_Decimal.f (m + 1) x = some (of D) := k1 (m + 1) (by omega)
  have d2 := k2 (m + 1) (by omega)
  dsimp only at d2
  have d3 : prices_Valid.f (m + 1) o0 o1 o2 os ou 3 = some true := k3 (m + 1) (by omega)
  have d4 := k4 m (by omega)
  have d5 : emendatelaw34_PricesOverride.j1 (m + 1) (a : Int) x false p0 p1 p2 ps pu o0 o1 o2 os ou = some true := d4
  show emendatelaw34_PricesOverride.j0 (m + 1 + 1) s u v T3 false p0 p1 p2 ps pu = some true
  have za : rdOf ByteArray.empty T3 (a : Int) = T3.getD a ByteArray.empty := rfl
  have zb : rdOf ByteArray.empty T3 (b : Int) = T3.getD b ByteArray.empty := rfl
  have zl : (T3.length : Int) = 3 := rfl
  have z1 : (⟨#[10, 105, 110, 115, 101, 114, 116, 32]⟩ : ByteArray).size = 8 := rfl
  have z2 : (⟨#[32]⟩ : ByteArray).size = 1 := rfl
  have z3 : (⟨#[10, 100, 101, 108, 101, 116, 101, 32]⟩ : ByteArray).size = 8 := rfl
  have z4 : (⟨#[32, 57, 10, 114, 101, 112, 108, 97, 99, 101, 32]⟩ : ByteArray).size = 11 := rfl
  have z5 : (⟨#[32, 110, 101, 118, 101, 114, 10, 117, 110, 107, 110, 111, 119, 110, 32, 53]⟩ : ByteArray).size = 16 := rfl
  have z6 := of_size D
  conv => lhs; unfold emendatelaw34_PricesOverride.j0
  dsimp only
  rw [if_neg Bool.false_ne_true, ha, hb, hx, za, zb, zl]
  generalize T3.getD a ByteArray.empty = ta at *
  generalize T3.getD b ByteArray.empty = tb at *
  rw [if_pos (by omega), if_pos (by omega), if_pos (by omega), if_pos (by simp only [ByteArray.size_append]; omega), d1]
  simp only [Option.bind_some]
  rw [if_pos (by simp only [ByteArray.size_append]; omega), if_pos (by simp only [ByteArray.size_append]; omega), if_pos (by simp only [ByteArray.size_append]; omega), if_pos (by simp only [ByteArray.size_append]; omega), if_pos (by simp only [ByteArray.size_append]; omega), if_pos (by simp only [ByteArray.size_append]; omega), if_pos (by omega), if_pos (by omega),
    if_pos (by simp only [ByteArray.size_append]; omega), if_pos (by simp only [ByteArray.size_append]; omega), if_pos (by simp only [ByteArray.size_append]; omega), d2]
  simp only [Option.bind_some, if_true]
  rw [d3]
  simp only [Option.bind_some, Bool.not_true]
  exact d5
theorem override_ev (s : ByteArray) (hs : s.size ≤ 1048576) (u v : Int) (hu : 0 ≤ u ∧ u ≤ 65535) (hv : 0 ≤ v ∧ v ≤ 65535) : Ev (fun k => emendatelaw34_PricesOverride.f k s u v) true := by
  have hp := parse3 s (by omega)
  have hl := fun hc => goB_vok (ts := T3) (splitL 10 s.data.toList) 0 D3 (def_ev 3 (by omega)).2.2 hc
  have hbody := fun (h5 : s.size ≤ 500) hc => ov_body s h5 u v hu hv hc (hl hc)
  generalize goB T3 (splitL 10 s.data.toList) 0 D3 = G at *
  obtain ⟨⟨p0, p1, p2, ps, pu⟩, ln, e0⟩ := G
  simp only [fl] at hp
  have ht : Ev (fun k => emendatelaw34_PricesOverride.j0 k s u v T3 true p0 p1 p2 ps pu) true := Ev.step (fun k => rfl) (Ev.now true)
  refine Ev.congr (f := fun k => (prices_Parse.f k s T3).bind fun b => if (s.size : Int) > 500 then emendatelaw34_PricesOverride.j0 k s u v T3 true b.1 b.2.1 b.2.2.1 b.2.2.2.1 b.2.2.2.2.1 else (if b.2.2.2.2.2.2 = 0 then ((prices_Valid.f k b.1 b.2.1 b.2.2.1 b.2.2.2.1 b.2.2.2.2.1 3).bind fun t => emendatelaw34_PricesOverride.j0 k s u v T3 (!t) b.1 b.2.1 b.2.2.1 b.2.2.2.1 b.2.2.2.2.1) else emendatelaw34_PricesOverride.j0 k s u v T3 true b.1 b.2.1 b.2.2.1 b.2.2.2.1 b.2.2.2.2.1)) (fun k => rfl) (Ev.bind hp ?_)
  by_cases h5 : (s.size : Int) > 500
  · simp only [if_pos h5]; exact ht
  · simp only [if_neg h5]
    by_cases he : e0 = 0
    · simp only [if_pos he]
      have hP : vok p0 p1 p2 ps pu 3 = true := hl he
      have hval := valid_val p0 p1 p2 ps pu 3 (by omega)
      rw [hP] at hval
      refine Ev.bind hval ?_
      simp only [Bool.not_true]
      exact hbody (by omega) he
    · simp only [if_neg he]; exact ht
end Go.Proofs.YtdcfcpgpbbgceaaGreatDoor.Pl
