-- printed by a variant of the print (wip/mkprint.py)
import Derived.Test.YtdcfcpgpbbgceaaGreatDoorPAllx0
import Derived.Test.YtdcfcpgpbbgceaaGreatDoorPAllx14
namespace Go.Proofs.YtdcfcpgpbbgceaaGreatDoor.PAll
open Go.RowKit Go.Proofs.YtdcfcpgpbbgceaaGreatDoorW.PrintWords Go.Proofs.YtdcfcpgpbbgceaaGreatDoorW.PrintLast Go.Proofs.YtdcfcpgpbbgceaaGreatDoorW.PrintMore
attribute [local go_sem] max2_int min2_int max_two min_two max_three min_three max_four min_four   -- for this text's walks alone
set_option linter.unusedVariables false
set_option linter.unusedSimpArgs false
def emendateref19_index.l0 : Nat → List ByteArray → ByteArray → Int → Option (Int)
 | 0, _, _, _ => none
 | k + 1, x0, x1, x5 => if x5 < (x0.length : Int) then (if 0 ≤ x5 then (if (rdOf ByteArray.empty x0 x5).toList = x1.toList then (some x5) else (emendateref19_index.l0 k x0 x1 (wrap64 (x5 + 1)))) else (none)) else (some (-1))
def emendateref19_index.f (k : Nat) (l0 : List ByteArray) (a1 : ByteArray) : Option (Int) := emendateref19_index.l0 k l0 a1 0
set_option maxHeartbeats 8000000 in
set_option maxRecDepth 100000 in
theorem emendateref19_index.calls (k : Nat) (A0 : Option Addr) (c0 : Nat) (l0 : List ByteArray) (a1 : ByteArray) (r : Int) (w : World) (hr0 : Kd.C Kd.string w A0 l0.length l0) (hc0 : l0.length ≤ c0) (h : emendateref19_index.f k l0 a1 = some r) :
  Calls Tryz.prog 66 #[.slice A0 l0.length c0, .string a1] w fun e w' => e = .returned (.int .i64 r) ∧ Drawn0 w w' := by
 have HR0 := Aside0.mk hr0; have HC0 := Aside0.mk hc0; clear hr0 hc0; have H : (emendateref19_index.l0 k l0 a1 0) = some r := h; clear h; have H' := Aside0.mk H; clear H
 go_enter Tryz.func66, Tryz.ntmps66
 go_wp2
 go_loopg [5] k (fun kq v5 w' => ∃ (x5_1 : Int), v5 = .int .i64 x5_1 ∧ Aside0 (emendateref19_index.l0 kq l0 a1 x5_1 = some r) ∧ Aside0 (kq ≤ k) ∧ Drawn0 w w')
 case atStart => exact ⟨(0), (by first | rfl | (simp; done) | (simp [*]; done)), H', ⟨Nat.le_refl _⟩, by repeat (first | exact Drawn0.refl _ | apply Drawn0.step)⟩
 case round =>
  clear H'
  try clear p2
  obtain ⟨x5_1, rfl, HA, HK1, ⟨m1, rfl⟩⟩ := hrel
  cases gk with
  | zero => exact absurd HA.out (by simp [emendateref19_index.l0])
  | succ k1 =>
   have H := HA.out; clear HA
   simp only [emendateref19_index.l0] at H
   by_cases c3 : x5_1 < (l0.length : Int)
   ·
    rw [if_pos c3] at H
    have c3b0 : decide (x5_1 < (l0.length : Int)) = true := decide_eq_true c3; clear c3
    by_cases c4 : 0 ≤ x5_1
    ·
     rw [if_pos c4] at H
     have c4b0 : decide (0 ≤ x5_1) = true := decide_eq_true c4; clear c4
     by_cases c5 : (rdOf ByteArray.empty l0 x5_1).toList = a1.toList
     ·
      rw [if_pos c5] at H
      have c5b0 : ((rdOf ByteArray.empty l0 x5_1).toList == a1.toList) = true := beq_iff_eq.mpr c5; have c5b1 : ((rdOf ByteArray.empty l0 x5_1).toList != a1.toList) = false := bne_eq_false_iff_eq.mpr c5; clear c5; obtain rfl := Option.some.inj H; have p251 : 0 ≤ (x5_1 : Int) := of_decide_eq_true (by first | (with_reducible assumption) | assumption)
      have q251 : x5_1 < (l0.length : Int) := of_decide_eq_true (by first | (with_reducible assumption) | assumption)
      obtain ⟨ad251, e251, hx251_0⟩ := Kd.at_string HR0.out x5_1 p251 q251
      cases e251
      replace p251 := eq_true p251; replace q251 := eq_true q251
      go_wp2
      go_ret
      exact ⟨by first | rfl | (simp; done) | (simp [*]; done), by repeat (first | exact Drawn0.refl _ | apply Drawn0.step)⟩
     ·
      rw [if_neg c5] at H
      have c5b0 : ((rdOf ByteArray.empty l0 x5_1).toList == a1.toList) = false := beq_eq_false_iff_ne.mpr c5; have c5b1 : ((rdOf ByteArray.empty l0 x5_1).toList != a1.toList) = true := bne_iff_ne.mpr c5; have H' := Aside0.mk H; clear H; have p251 : 0 ≤ (x5_1 : Int) := of_decide_eq_true (by first | (with_reducible assumption) | assumption)
      have q251 : x5_1 < (l0.length : Int) := of_decide_eq_true (by first | (with_reducible assumption) | assumption)
      obtain ⟨ad251, e251, hx251_0⟩ := Kd.at_string HR0.out x5_1 p251 q251
      cases e251
      replace p251 := eq_true p251; replace q251 := eq_true q251
      go_wp2
      go_roundg k1
      case measure => have := HK1.out; omega
      case rel => exact ⟨(wrap64 (x5_1 + 1)), (by first | rfl | (simp; done) | (simp [*]; done)), H', ⟨by have := HK1.out; omega⟩, by repeat (first | exact Drawn0.refl _ | apply Drawn0.step)⟩
    ·
     rw [if_neg c4] at H
     exact absurd H (by simp)
   ·
    rw [if_neg c3] at H
    have c3b0 : decide (x5_1 < (l0.length : Int)) = false := decide_eq_false c3; clear c3; obtain rfl := Option.some.inj H
    go_wp2
    go_ret
    exact ⟨by first | rfl | (simp; done) | (simp [*]; done), by repeat (first | exact Drawn0.refl _ | apply Drawn0.step)⟩
def emendateref19_Terms.go19 (k : Nat) (l : List ByteArray) : Nat → Nat → Option Bool
 | 0, _ => some true
 | n + 1, i => (emendateref16_Name.f k (l.getD i ByteArray.empty)).bind fun t => if t = true then (emendateref19_index.f k (l.take i) (l.getD i ByteArray.empty)).bind fun c => if 0 ≤ c then some false else emendateref19_Terms.go19 k l n (i + 1) else some false
theorem emendateref19_Terms.takeC19 {w : World} {A : Addr} {l : List ByteArray} (hcell : ∀ j, j < l.length → w.cell? (A.add j) = some (.string (l.getD j ByteArray.empty))) {i : Nat} (hi : i ≤ l.length) (hm : i ≤ 9223372036854775807) : Kd.C Kd.string w (some A) i (l.take i) := by
 refine ⟨by simp; omega, hm, fun _ => ⟨A, rfl, fun j p hj => ?_⟩⟩
 have hj' : j < i := by
  have := (List.getElem?_eq_some_iff.1 hj).1
  simp at this
  omega
 rw [List.getElem?_take, if_pos hj'] at hj
 refine ⟨[.string p], rfl, rfl, fun q u hu => ?_⟩
 obtain rfl : q = 0 := by
  rcases q with _ | q
  ·
   rfl
  ·
   simp at hu
 obtain rfl := Option.some.inj hu; have := hcell j (by omega)
 rw [List.getD_eq_getElem?_getD, hj] at this
 have e1 : Kd.string.sz = 1 := rfl
 rw [e1, Nat.mul_one, Nat.add_zero]
 exact this
def emendateref19_Terms.tR (k : Nat) (l : List ByteArray) (r : Bool) (w : World) (v : Value) (wr : World) : Prop := ∃ i : Nat, i ≤ l.length ∧ v = .int .i64 i ∧ emendateref19_Terms.go19 k l (l.length - i) i = some r ∧ Drawn0 w wr
set_option maxRecDepth 100000 in
set_option maxHeartbeats 2000000 in
theorem emendateref19_Terms.terms_calls (k : Nat) (A : Addr) (c : Nat) (l : List ByteArray) (r : Bool) (w : World) (hl0 : 0 < l.length) (hm : l.length ≤ 9223372036854775807) (hc : l.length ≤ c) (hcell : ∀ j, j < l.length → w.cell? (A.add j) = some (.string (l.getD j ByteArray.empty))) (h : emendateref19_Terms.go19 k l l.length 0 = some r) :
  Calls Tryz.prog 48 #[.slice (some A) l.length c] w fun e w' => e = .returned (.bool r) ∧ Drawn0 w w' := by
 have H := Aside0.mk h; have HC := Aside0.mk hcell; clear h hcell; obtain ⟨n, hn⟩ : ∃ n, n = l.length := ⟨_, rfl⟩
 have HN := Aside0.mk hn
 rw [← hn] at hl0 hm hc ⊢
 clear hn
 go_enter Tryz.func48, Tryz.ntmps48
 go_wp2
 go_loopw [2, 3, 4, 5, 6, 7, 8, 9, 10, 11, 12, 13, 14, 15, 16, 17, 18, 19, 20, 21, 22, 23, 24, 25, 26] (fun v2 v3 v4 v5 v6 v7 v8 v9 v10 v11 v12 v13 v14 v15 v16 v17 v18 v19 v20 v21 v22 v23 v24 v25 v26 wr => emendateref19_Terms.tR k l r w v3 wr) (fun v2 v3 v4 v5 v6 v7 v8 v9 v10 v11 v12 v13 v14 v15 v16 v17 v18 v19 v20 v21 v22 v23 v24 v25 v26 wr => n - (intOf v3).toNat)
 case atStart => exact ⟨0, Nat.zero_le _, rfl, H.out, Drawn0.refl _⟩
 case round =>
  obtain ⟨i, hi, rfl, hg, hb⟩ := hrel; have hN := HN.out
  by_cases hlt : i < n
  ·
   have hx : wr.cell? (A.add i) = some (.string (l.getD i ByteArray.empty)) := pw_cell_below hb.below (HC.out i (by omega))
   have HCW := Aside0.mk (fun j (hj : j < l.length) => pw_cell_below hb.below (HC.out j hj))
   obtain ⟨m, hmm⟩ : ∃ m, l.length - i = m + 1 := ⟨l.length - i - 1, by omega⟩
   rw [hmm] at hg
   have HM2 := Aside0.mk (show l.length - (i + 1) = m by omega)
   unfold emendateref19_Terms.go19 at hg
   have HLEN := Aside0.mk (show (l.take i).length = i by rw [List.length_take]; omega)
   have HDR := Aside0.mk hb
   generalize l.getD i ByteArray.empty = s at *
   clear hmm hb; obtain ⟨t, hv, hg⟩ := Option.bind_eq_some_iff.mp hg; have HV := Aside0.mk hv; clear hv hN
   cases t with
   | false =>
    simp only [Bool.false_eq_true, if_false, Option.some.injEq] at hg
    subst hg
    go_wp2
    go_quiet (((refine (emendateref16_Name.calls k s false _ HV.out).mono ?_); rintro e w' ⟨rfl, ⟨nd, rfl⟩⟩; exact ⟨rfl, _, World.drewN_drewN _ _ _⟩))
    go_wp2
    go_ret
    exact ⟨rfl, Drawn0.step HDR.out _⟩
   | true =>
    simp only [if_true] at hg
    obtain ⟨q, hv, hg⟩ := Option.bind_eq_some_iff.mp hg; have HI := Aside0.mk hv; have IDX : Aside0 (∀ n, Calls Tryz.prog 66 #[.slice (some A) i c, .string s] (wr.drewN n) fun e w' => e = .returned (.int .i64 q) ∧ Drawn0 (wr.drewN n) w') := ⟨by
     intro nw; have key := emendateref19_index.calls k (some A) c (l.take i) s q (wr.drewN nw) (by rw [HLEN.out]; exact emendateref19_Terms.takeC19 (w := wr.drewN nw) HCW.out (by omega) (by omega)) (by rw [HLEN.out]; omega) HI.out
     rw [HLEN.out] at key
     exact key⟩
    clear hv
    by_cases hq : 0 ≤ q
    ·
     rw [if_pos hq] at hg
     obtain rfl := Option.some.inj hg
     go_wp2
     go_quiet (first | ((refine (emendateref16_Name.calls k s true _ HV.out).mono ?_); rintro e w' ⟨rfl, ⟨nd, rfl⟩⟩; exact ⟨rfl, _, World.drewN_drewN _ _ _⟩) | ((refine (IDX.out _).mono ?_); rintro e w' ⟨rfl, ⟨nd, rfl⟩⟩; exact ⟨rfl, _, World.drewN_drewN _ _ _⟩))
     go_wp2
     go_ret
     exact ⟨rfl, Drawn0.step HDR.out _⟩
    ·
     rw [if_neg hq] at hg
     have HGO := Aside0.mk hg; clear hg
     go_wp2
     go_quiet (first | ((refine (emendateref16_Name.calls k s true _ HV.out).mono ?_); rintro e w' ⟨rfl, ⟨nd, rfl⟩⟩; exact ⟨rfl, _, World.drewN_drewN _ _ _⟩) | ((refine (IDX.out _).mono ?_); rintro e w' ⟨rfl, ⟨nd, rfl⟩⟩; exact ⟨rfl, _, World.drewN_drewN _ _ _⟩))
     go_wp2
     go_roundw
     case rel => exact ⟨i + 1, by have := HN.out; omega, by go_num, by rw [HM2.out]; exact HGO.out, Drawn0.step HDR.out _⟩
     case measure => simp [intOf]; omega
  ·
   obtain rfl : i = n := by omega
   obtain rfl : r = true := by
    rw [← hN, Nat.sub_self] at hg
    exact (Option.some.inj hg).symm
   clear hN HN
   go_wp2
   go_ret
   exact ⟨rfl, hb⟩
set_option maxHeartbeats 1000000 in
theorem emendateref19_Terms.terms_nil (A : Option Addr) (c : Nat) (w : World) : Calls Tryz.prog 48 #[.slice A 0 c] w fun e w' => e = .returned (.bool true) ∧ Drawn0 w w' := by
 go_enter Tryz.func48, Tryz.ntmps48
 go_wp2
 go_loop [3, 4, 5, 6, 7] (fun v3 v4 v5 v6 v7 => v3 = .int .i64 0) (fun v3 v4 v5 v6 v7 => 0)
 case atStart => rfl
 case round =>
  subst hrel
  go_wp2
  go_ret
  exact ⟨rfl, Drawn0.refl _⟩
def emendateref19_Terms.f (k : Nat) (l0 : List ByteArray) : Option Bool := emendateref19_Terms.go19 k l0 l0.length 0
theorem emendateref19_Terms.calls (k : Nat) (A0 : Option Addr) (c0 : Nat) (l0 : List ByteArray) (r : Bool) (w : World) (hr0 : Kd.C Kd.string w A0 l0.length l0) (hc0 : l0.length ≤ c0) (h : emendateref19_Terms.f k l0 = some r) :
  Calls Tryz.prog 48 #[.slice A0 l0.length c0] w fun e w' => e = .returned (.bool r) ∧ Drawn0 w w' := by
 unfold emendateref19_Terms.f at h
 by_cases h0 : l0.length = 0
 ·
  rw [h0] at h ⊢
  obtain rfl := Option.some.inj h
  exact emendateref19_Terms.terms_nil A0 c0 w
 ·
  obtain ⟨ad, rfl, hc⟩ := hr0.2.2 (by omega)
  refine emendateref19_Terms.terms_calls k ad c0 l0 r w (by omega) hr0.2.1 hc0 (fun j hj => ?_) h
  obtain ⟨c, _, hk, hcell⟩ := hc j (l0.getD j ByteArray.empty) (by rw [List.getD_eq_getElem?_getD, List.getElem?_eq_getElem hj]; rfl)
  have hk' : c = [.string (l0.getD j ByteArray.empty)] := hk; have h1 := hcell 0 (.string (l0.getD j ByteArray.empty)) (by rw [hk']; rfl)
  have e1 : Kd.string.sz = 1 := rfl
  rw [e1, Nat.mul_one, Nat.add_zero] at h1
  exact h1
def emendateref34_names.f (k : Nat) (l0 : List ByteArray) : Option (Bool) := if (l0.length : Int) ≤ 120 then ((emendateref19_Terms.f k l0).bind fun t252 => (some t252)) else (some false)
set_option maxHeartbeats 8000000 in
set_option maxRecDepth 100000 in
theorem emendateref34_names.calls (k : Nat) (A0 : Option Addr) (c0 : Nat) (l0 : List ByteArray) (r : Bool) (w : World) (hr0 : Kd.C Kd.string w A0 l0.length l0) (hc0 : l0.length ≤ c0) (h : emendateref34_names.f k l0 = some r) :
  Calls Tryz.prog 31 #[.slice A0 l0.length c0] w fun e w' => e = .returned (.bool r) ∧ Drawn0 w w' := by
 have HR0 := Aside0.mk hr0; have HC0 := Aside0.mk hc0; clear hr0 hc0; have H : (if (l0.length : Int) ≤ 120 then ((emendateref19_Terms.f k l0).bind fun t252 => (some t252)) else (some false)) = some r := h
 clear h
 by_cases c2 : (l0.length : Int) ≤ 120
 ·
  rw [if_pos c2] at H
  have c2b0 : decide ((l0.length : Int) ≤ 120) = true := decide_eq_true c2; have c2b1 : decide (l0.length ≤ 120) = true := decide_eq_true (by omega)
  clear c2; replace H := Option.bind_eq_some_iff.mp H; obtain ⟨t252, A30, H⟩ := H; replace H : (some t252) = some r := H; have A3 := Aside0.mk A30; clear A30; obtain rfl := Option.some.inj H
  go_enter Tryz.func31, Tryz.ntmps31
  go_wp2_with (first | (go_at_call 48; (with_reducible refine (emendateref19_Terms.calls k _ _ l0 t252 _ ?side1 ?side2 A3.out).mono ?_); (case side1 => repeat (first | exact HR0.out | (with_reducible refine Kd.C_alloc ?_ _) | (with_reducible refine Kd.C_drewN ?_ _) | (with_reducible refine Kd.C_drew ?_))); (case side2 => exact HC0.out); rintro e w' ⟨rfl, ⟨nd, rfl⟩⟩))
  go_ret
  exact ⟨by first | rfl | (simp; done) | (simp [*]; done), by repeat (first | exact Drawn0.refl _ | apply Drawn0.step)⟩
 ·
  rw [if_neg c2] at H
  have c2b0 : decide ((l0.length : Int) ≤ 120) = false := decide_eq_false c2; have c2b1 : decide (l0.length ≤ 120) = false := decide_eq_false (by omega)
  clear c2; obtain rfl := Option.some.inj H
  go_enter Tryz.func31, Tryz.ntmps31
  go_wp2
  go_ret
  exact ⟨by first | rfl | (simp; done) | (simp [*]; done), by repeat (first | exact Drawn0.refl _ | apply Drawn0.step)⟩
end Go.Proofs.YtdcfcpgpbbgceaaGreatDoor.PAll
-- dedented
