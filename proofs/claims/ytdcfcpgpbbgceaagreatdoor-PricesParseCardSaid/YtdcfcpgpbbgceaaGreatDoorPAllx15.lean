-- printed by a variant of the print (wip/mkprint.py)
import Derived.Test.YtdcfcpgpbbgceaaGreatDoorPAllx0
import Derived.Test.YtdcfcpgpbbgceaaGreatDoorPAllx14
namespace Go.Proofs.YtdcfcpgpbbgceaaGreatDoor.PAll
open Go.RowKit Go.Proofs.YtdcfcpgpbbgceaaGreatDoorW.PrintWords Go.Proofs.YtdcfcpgpbbgceaaGreatDoorW.PrintLast Go.Proofs.YtdcfcpgpbbgceaaGreatDoorW.PrintMore
attribute [local go_sem] max2_int min2_int max_two min_two max_three min_three max_four min_four   -- for this text's walks alone
set_option linter.unusedVariables false
set_option linter.unusedSimpArgs false
def emendateref19_index.l0 : Nat → List ByteArray → ByteArray → Int → Option (Int)
 | 0, _, _, _ => none
 | k + 1, x0, x1, x5 => if x5 < (x0.length : Int) then (if 0 ≤ x5 then (if (rdOf ByteArray.empty x0 x5).toList = x1.toList then (some x5) else (emendateref19_index.l0 k x0 x1 (wrap64 (x5 + 1)))) else (none)) else (some (-1))
def emendateref19_index.f (k : Nat) (l0 : List ByteArray) (a1 : ByteArray) : Option (Int) := emendateref19_index.l0 k l0 a1 0
set_option maxHeartbeats 8000000 in
set_option maxRecDepth 100000 in
theorem emendateref19_index.calls (k : Nat) (A0 : Option Addr) (c0 : Nat) (l0 : List ByteArray) (a1 : ByteArray) (r : Int) (w : World) (hr0 : Kd.C Kd.string w A0 l0.length l0) (hc0 : l0.length ≤ c0) (h : emendateref19_index.f k l0 a1 = some r) :
  Calls Tryz.prog 66 #[.slice A0 l0.length c0, .string a1] w fun e w' => e = .returned (.int .i64 r) ∧ Drawn0 w w' := by
 have HR0 := Aside0.mk hr0; have HC0 := Aside0.mk hc0; clear hr0 hc0; have H : (emendateref19_index.l0 k l0 a1 0) = some r := h; clear h; have H' := Aside0.mk H; clear H
 go_enter Tryz.func66, Tryz.ntmps66
 go_wp2
 go_loopg [5] k (fun kq v5 w' => ∃ (x5_1 : Int), v5 = .int .i64 x5_1 ∧ Aside0 (emendateref19_index.l0 kq l0 a1 x5_1 = some r) ∧ Aside0 (kq ≤ k) ∧ Drawn0 w w')
 case atStart => exact ⟨(0), (by first | rfl | (simp; done) | (simp [*]; done)), H', ⟨Nat.le_refl _⟩, by repeat (first | exact Drawn0.refl _ | apply Drawn0.step)⟩
 case round =>
  clear H'
  try clear p2
  obtain ⟨x5_1, rfl, HA, HK1, ⟨m1, rfl⟩⟩ := hrel
  cases gk with
  | zero => exact absurd HA.out (by simp [emendateref19_index.l0])
  | succ k1 =>
   have H := HA.out; clear HA
   simp only [emendateref19_index.l0] at H
   by_cases c3 : x5_1 < (l0.length : Int)
   rotate_left
   ·
    rw [if_neg c3] at H
    have c3b0 : decide (x5_1 < (l0.length : Int)) = false := decide_eq_false c3; clear c3; obtain rfl := Option.some.inj H
    go_wp2
    go_ret
    exact ⟨by first | rfl | (simp; done) | (simp [*]; done), by repeat (first | exact Drawn0.refl _ | apply Drawn0.step)⟩
   rw [if_pos c3] at H
   have c3b0 : decide (x5_1 < (l0.length : Int)) = true := decide_eq_true c3; clear c3
   by_cases c4 : 0 ≤ x5_1
   rotate_left
   ·
    rw [if_neg c4] at H
    exact absurd H (by simp)
   rw [if_pos c4] at H
   have c4b0 : decide (0 ≤ x5_1) = true := decide_eq_true c4; clear c4
   by_cases c5 : (rdOf ByteArray.empty l0 x5_1).toList = a1.toList
   rotate_left
   ·
    rw [if_neg c5] at H
    have c5b0 : ((rdOf ByteArray.empty l0 x5_1).toList == a1.toList) = false := beq_eq_false_iff_ne.mpr c5; have c5b1 : ((rdOf ByteArray.empty l0 x5_1).toList != a1.toList) = true := bne_iff_ne.mpr c5; have H' := Aside0.mk H; clear H; have p251 : 0 ≤ (x5_1 : Int) := of_decide_eq_true (by first | (with_reducible assumption) | assumption)
    have q251 : x5_1 < (l0.length : Int) := of_decide_eq_true (by first | (with_reducible assumption) | assumption)
    obtain ⟨ad251, e251, hx251_0⟩ := Kd.at_string HR0.out x5_1 p251 q251
    cases e251
    replace p251 := eq_true p251; replace q251 := eq_true q251
    go_wp2
    go_roundg k1
    case measure => have := HK1.out; omega
    case rel => exact ⟨(wrap64 (x5_1 + 1)), (by first | rfl | (simp; done) | (simp [*]; done)), H', ⟨by have := HK1.out; omega⟩, by repeat (first | exact Drawn0.refl _ | apply Drawn0.step)⟩
   rw [if_pos c5] at H
   have c5b0 : ((rdOf ByteArray.empty l0 x5_1).toList == a1.toList) = true := beq_iff_eq.mpr c5; have c5b1 : ((rdOf ByteArray.empty l0 x5_1).toList != a1.toList) = false := bne_eq_false_iff_eq.mpr c5; clear c5; obtain rfl := Option.some.inj H; have p251 : 0 ≤ (x5_1 : Int) := of_decide_eq_true (by first | (with_reducible assumption) | assumption)
   have q251 : x5_1 < (l0.length : Int) := of_decide_eq_true (by first | (with_reducible assumption) | assumption)
   obtain ⟨ad251, e251, hx251_0⟩ := Kd.at_string HR0.out x5_1 p251 q251
   cases e251
   replace p251 := eq_true p251; replace q251 := eq_true q251
   go_wp2
   go_ret
   exact ⟨by first | rfl | (simp; done) | (simp [*]; done), by repeat (first | exact Drawn0.refl _ | apply Drawn0.step)⟩
def emendateref19_Terms.go19 (k : Nat) (l : List ByteArray) : Nat → Nat → Option Bool
 | 0, _ => some true
 | n + 1, i => (emendateref16_Name.f k (l.getD i ByteArray.empty)).bind fun t => if t = true then (emendateref19_index.f k (l.take i) (l.getD i ByteArray.empty)).bind fun c => if 0 ≤ c then some false else emendateref19_Terms.go19 k l n (i + 1) else some false
theorem emendateref19_Terms.takeC19 {w : World} {A : Addr} {l : List ByteArray} (hcell : ∀ j, j < l.length → w.cell? (A.add j) = some (.string (l.getD j ByteArray.empty))) {i : Nat} (hi : i ≤ l.length) (hm : i ≤ 9223372036854775807) : Kd.C Kd.string w (some A) i (l.take i) := by
 refine ⟨by simp; omega, hm, fun _ => ⟨A, rfl, fun j p hj => ?_⟩⟩
 have hj' : j < i := by
  have := (List.getElem?_eq_some_iff.1 hj).1
  simp at this
  omega
 rw [List.getElem?_take, if_pos hj'] at hj
 refine ⟨[.string p], rfl, rfl, fun q u hu => ?_⟩
 obtain rfl : q = 0 := by
  rcases q with _ | q
  ·
   rfl
  ·
   simp at hu
 obtain rfl := Option.some.inj hu; have := hcell j (by omega)
 rw [List.getD_eq_getElem?_getD, hj] at this
 have e1 : Kd.string.sz = 1 := rfl
 rw [e1, Nat.mul_one, Nat.add_zero]
 exact this
def emendateref19_Terms.tR (k : Nat) (l : List ByteArray) (r : Bool) (w : World) (v : Value) (wr : World) : Prop := ∃ i : Nat, i ≤ l.length ∧ v = .int .i64 i ∧ emendateref19_Terms.go19 k l (l.length - i) i = some r ∧ Drawn0 w wr
set_option maxRecDepth 100000 in
set_option maxHeartbeats 2000000 in
theorem emendateref19_Terms.terms_calls (k : Nat) (A : Addr) (c : Nat) (l : List ByteArray) (r : Bool) (w : World) (hl0 : 0 < l.length) (hm : l.length ≤ 9223372036854775807) (hc : l.length ≤ c) (hcell : ∀ j, j < l.length → w.cell? (A.add j) = some (.string (l.getD j ByteArray.empty))) (h : emendateref19_Terms.go19 k l l.length 0 = some r) :
  Calls Tryz.prog 48 #[.slice (some A) l.length c] w fun e w' => e = .returned (.bool r) ∧ Drawn0 w w' := by
 have H := Aside0.mk h; have HC := Aside0.mk hcell; clear h hcell; obtain ⟨n, hn⟩ : ∃ n, n = l.length := ⟨_, rfl⟩
 have HN := Aside0.mk hn
 rw [← hn] at hl0 hm hc ⊢
 clear hn
 go_enter Tryz.func48, Tryz.ntmps48
 go_wp2
 go_loopw [2, 3, 4, 5, 6, 7, 8, 9, 10, 11, 12, 13, 14, 15, 16, 17, 18, 19, 20, 21, 22, 23, 24, 25, 26] (fun v2 v3 v4 v5 v6 v7 v8 v9 v10 v11 v12 v13 v14 v15 v16 v17 v18 v19 v20 v21 v22 v23 v24 v25 v26 wr => emendateref19_Terms.tR k l r w v3 wr) (fun v2 v3 v4 v5 v6 v7 v8 v9 v10 v11 v12 v13 v14 v15 v16 v17 v18 v19 v20 v21 v22 v23 v24 v25 v26 wr => n - (intOf v3).toNat)
 case atStart => exact ⟨0, Nat.zero_le _, rfl, H.out, Drawn0.refl _⟩
 case round =>
  obtain ⟨i, hi, rfl, hg, hb⟩ := hrel; have hN := HN.out
  by_cases hlt : i < n
  rotate_left
  ·
   obtain rfl : i = n := by omega
   obtain rfl : r = true := by
    rw [← hN, Nat.sub_self] at hg
    exact (Option.some.inj hg).symm
   clear hN HN
   go_wp2
   go_ret
   exact ⟨rfl, hb⟩
  have hx : wr.cell? (A.add i) = some (.string (l.getD i ByteArray.empty)) := pw_cell_below hb.below (HC.out i (by omega))
  have HCW := Aside0.mk (fun j (hj : j < l.length) => pw_cell_below hb.below (HC.out j hj))
  obtain ⟨m, hmm⟩ : ∃ m, l.length - i = m + 1 := ⟨l.length - i - 1, by omega⟩
  rw [hmm] at hg
  have HM2 := Aside0.mk (show l.length - (i + 1) = m by omega)
  unfold emendateref19_Terms.go19 at hg
  have HLEN := Aside0.mk (show (l.take i).length = i by rw [List.length_take]; omega)
  have HDR := Aside0.mk hb
  generalize l.getD i ByteArray.empty = s at *
  clear hmm hb; obtain ⟨t, hv, hg⟩ := Option.bind_eq_some_iff.mp hg; have HV := Aside0.mk hv; clear hv hN
  cases t with
  | false =>
   simp only [Bool.false_eq_true, if_false, Option.some.injEq] at hg
   subst hg
   go_wp2
   go_quiet (((refine (emendateref16_Name.calls k s false _ HV.out).mono ?_); rintro e w' ⟨rfl, ⟨nd, rfl⟩⟩; exact ⟨rfl, _, World.drewN_drewN _ _ _⟩))
   go_wp2
   go_ret
   exact ⟨rfl, Drawn0.step HDR.out _⟩
  | true =>
   simp only [if_true] at hg
   obtain ⟨q, hv, hg⟩ := Option.bind_eq_some_iff.mp hg; have HI := Aside0.mk hv; have IDX : Aside0 (∀ n, Calls Tryz.prog 66 #[.slice (some A) i c, .string s] (wr.drewN n) fun e w' => e = .returned (.int .i64 q) ∧ Drawn0 (wr.drewN n) w') := ⟨by
    intro nw; have key := emendateref19_index.calls k (some A) c (l.take i) s q (wr.drewN nw) (by rw [HLEN.out]; exact emendateref19_Terms.takeC19 (w := wr.drewN nw) HCW.out (by omega) (by omega)) (by rw [HLEN.out]; omega) HI.out
    rw [HLEN.out] at key
    exact key⟩
   clear hv
   by_cases hq : 0 ≤ q
   rotate_left
   ·
    rw [if_neg hq] at hg
    have HGO := Aside0.mk hg; clear hg
    go_wp2
    go_quiet (first | ((refine (emendateref16_Name.calls k s true _ HV.out).mono ?_); rintro e w' ⟨rfl, ⟨nd, rfl⟩⟩; exact ⟨rfl, _, World.drewN_drewN _ _ _⟩) | ((refine (IDX.out _).mono ?_); rintro e w' ⟨rfl, ⟨nd, rfl⟩⟩; exact ⟨rfl, _, World.drewN_drewN _ _ _⟩))
    go_wp2
    go_roundw
    case rel => exact ⟨i + 1, by have := HN.out; omega, by go_num, by rw [HM2.out]; exact HGO.out, Drawn0.step HDR.out _⟩
    case measure => simp [intOf]; omega
   rw [if_pos hq] at hg
   obtain rfl := Option.some.inj hg
   go_wp2
   go_quiet (first | ((refine (emendateref16_Name.calls k s true _ HV.out).mono ?_); rintro e w' ⟨rfl, ⟨nd, rfl⟩⟩; exact ⟨rfl, _, World.drewN_drewN _ _ _⟩) | ((refine (IDX.out _).mono ?_); rintro e w' ⟨rfl, ⟨nd, rfl⟩⟩; exact ⟨rfl, _, World.drewN_drewN _ _ _⟩))
   go_wp2
   go_ret
   exact ⟨rfl, Drawn0.step HDR.out _⟩
set_option maxHeartbeats 1000000 in
theorem emendateref19_Terms.terms_nil (A : Option Addr) (c : Nat) (w : World) : Calls Tryz.prog 48 #[.slice A 0 c] w fun e w' => e = .returned (.bool true) ∧ Drawn0 w w' := by
 go_enter Tryz.func48, Tryz.ntmps48
 go_wp2
 go_loop [3, 4, 5, 6, 7] (fun v3 v4 v5 v6 v7 => v3 = .int .i64 0) (fun v3 v4 v5 v6 v7 => 0)
 case atStart => rfl
 case round =>
  subst hrel
  go_wp2
  go_ret
  exact ⟨rfl, Drawn0.refl _⟩
def emendateref19_Terms.f (k : Nat) (l0 : List ByteArray) : Option Bool := emendateref19_Terms.go19 k l0 l0.length 0
theorem emendateref19_Terms.calls (k : Nat) (A0 : Option Addr) (c0 : Nat) (l0 : List ByteArray) (r : Bool) (w : World) (hr0 : Kd.C Kd.string w A0 l0.length l0) (hc0 : l0.length ≤ c0) (h : emendateref19_Terms.f k l0 = some r) :
  Calls Tryz.prog 48 #[.slice A0 l0.length c0] w fun e w' => e = .returned (.bool r) ∧ Drawn0 w w' := by
 unfold emendateref19_Terms.f at h
 by_cases h0 : l0.length = 0
 rotate_left
 ·
  obtain ⟨ad, rfl, hc⟩ := hr0.2.2 (by omega)
  refine emendateref19_Terms.terms_calls k ad c0 l0 r w (by omega) hr0.2.1 hc0 (fun j hj => ?_) h
  obtain ⟨c, _, hk, hcell⟩ := hc j (l0.getD j ByteArray.empty) (by rw [List.getD_eq_getElem?_getD, List.getElem?_eq_getElem hj]; rfl)
  have hk' : c = [.string (l0.getD j ByteArray.empty)] := hk; have h1 := hcell 0 (.string (l0.getD j ByteArray.empty)) (by rw [hk']; rfl)
  have e1 : Kd.string.sz = 1 := rfl
  rw [e1, Nat.mul_one, Nat.add_zero] at h1
  exact h1
 rw [h0] at h ⊢
 obtain rfl := Option.some.inj h
 exact emendateref19_Terms.terms_nil A0 c0 w
def emendateref34_names.f (k : Nat) (l0 : List ByteArray) : Option (Bool) := if (l0.length : Int) ≤ 120 then ((emendateref19_Terms.f k l0).bind fun t252 => (some t252)) else (some false)
set_option maxHeartbeats 8000000 in
set_option maxRecDepth 100000 in
theorem emendateref34_names.calls (k : Nat) (A0 : Option Addr) (c0 : Nat) (l0 : List ByteArray) (r : Bool) (w : World) (hr0 : Kd.C Kd.string w A0 l0.length l0) (hc0 : l0.length ≤ c0) (h : emendateref34_names.f k l0 = some r) :
  Calls Tryz.prog 31 #[.slice A0 l0.length c0] w fun e w' => e = .returned (.bool r) ∧ Drawn0 w w' := by
 have HR0 := Aside0.mk hr0; have HC0 := Aside0.mk hc0; clear hr0 hc0; have H : (if (l0.length : Int) ≤ 120 then ((emendateref19_Terms.f k l0).bind fun t252 => (some t252)) else (some false)) = some r := h
 clear h
 by_cases c2 : (l0.length : Int) ≤ 120
 rotate_left
 ·
  rw [if_neg c2] at H
  have c2b0 : decide ((l0.length : Int) ≤ 120) = false := decide_eq_false c2; have c2b1 : decide (l0.length ≤ 120) = false := decide_eq_false (by omega)
  clear c2; obtain rfl := Option.some.inj H
  go_enter Tryz.func31, Tryz.ntmps31
  go_wp2
  go_ret
  exact ⟨by first | rfl | (simp; done) | (simp [*]; done), by repeat (first | exact Drawn0.refl _ | apply Drawn0.step)⟩
 rw [if_pos c2] at H
 have c2b0 : decide ((l0.length : Int) ≤ 120) = true := decide_eq_true c2; have c2b1 : decide (l0.length ≤ 120) = true := decide_eq_true (by omega)
 clear c2; replace H := Option.bind_eq_some_iff.mp H; obtain ⟨t252, A30, H⟩ := H; replace H : (some t252) = some r := H; have A3 := Aside0.mk A30; clear A30; obtain rfl := Option.some.inj H
 go_enter Tryz.func31, Tryz.ntmps31
 go_wp2_with (first | (go_at_call 48; (with_reducible refine (emendateref19_Terms.calls k _ _ l0 t252 _ ?side1 ?side2 A3.out).mono ?_); (case side1 => repeat (first | exact HR0.out | (with_reducible refine Kd.C_alloc ?_ _) | (with_reducible refine Kd.C_drewN ?_ _) | (with_reducible refine Kd.C_drew ?_))); (case side2 => exact HC0.out); rintro e w' ⟨rfl, ⟨nd, rfl⟩⟩))
 go_ret
 exact ⟨by first | rfl | (simp; done) | (simp [*]; done), by repeat (first | exact Drawn0.refl _ | apply Drawn0.step)⟩
mutual
def emendateref34_fields.l0 : Nat → ByteArray → List ByteArray → ByteArray → Int → Option (List ByteArray)
 | 0, _, _, _, _ => none
 | k + 1, x0, x3, x4, x5 => if x5 ≤ (x0.size : Int) then (if x5 = (x0.size : Int) then (emendateref34_fields.j1 k x0 x3 x4 x5 true) else (if 0 ≤ x5 then (if x5 < (x0.size : Int) then (if (bt x0 x5) = 32 then (emendateref34_fields.j1 k x0 x3 x4 x5 true) else (emendateref34_fields.j1 k x0 x3 x4 x5 ((bt x0 x5) == 9))) else (none)) else (none))) else (some x3)
def emendateref34_fields.j1 : Nat → ByteArray → List ByteArray → ByteArray → Int → Bool → Option (List ByteArray)
 | 0, _, _, _, _, _ => none
 | k + 1, x0, x3, x4, x5, x27 => if x27 = true then (if x4.toList = ([] : List UInt8) then (emendateref34_fields.l0 k x0 x3 (⟨#[]⟩ : ByteArray) (wrap64 (x5 + 1))) else (if x3.length < 8796093022208 then (emendateref34_fields.l0 k x0 (x3 ++ [x4]) (⟨#[]⟩ : ByteArray) (wrap64 (x5 + 1))) else (none))) else (if 0 ≤ x5 then (if x5 ≤ (wrap64 (x5 + 1)) then (if (wrap64 (x5 + 1)) ≤ (x0.size : Int) then (if x4.size + (x0.extract (x5 : Int).toNat ((wrap64 (x5 + 1)) : Int).toNat).size ≤ 9223372036854775807 then (emendateref34_fields.l0 k x0 x3 (x4 ++ (x0.extract (x5 : Int).toNat ((wrap64 (x5 + 1)) : Int).toNat)) (wrap64 (x5 + 1))) else (none)) else (none)) else (none)) else (none))
end
def emendateref34_fields.f (k : Nat) (a0 : ByteArray) : Option (List ByteArray) := emendateref34_fields.l0 k a0 ([] : List ByteArray) (⟨#[]⟩ : ByteArray) 0
set_option maxHeartbeats 8000000 in
set_option maxRecDepth 100000 in
theorem emendateref34_fields.calls (k : Nat) (a0 : ByteArray) (r : List ByteArray) (w : World) (h : emendateref34_fields.f k a0 = some r) :
  Calls Tryz.prog 32 #[.string a0] w fun e w' => ∃ v0_ : Value, e = .returned (v0_) ∧ Kd.R Kd.string 9 w' w.heap.size (fun _ => True) v0_ r ∧ Below w.heap.size w w' := by
 have HB := Aside0.mk (Below.refl w.heap.size w); have H : (emendateref34_fields.l0 k a0 ([] : List ByteArray) (⟨#[]⟩ : ByteArray) 0) = some r := h; clear h; have H' := Aside0.mk H; clear H
 go_enter Tryz.func32, Tryz.ntmps32
 go_wp2
 go_loopg [3, 4, 5] k (fun kq v3 v4 v5 w' => ∃ (x3_1 : List ByteArray) (x4_1 : ByteArray) (x5_1 : Int), v4 = .string x4_1 ∧ v5 = .int .i64 x5_1 ∧ Aside0 (emendateref34_fields.l0 kq a0 x3_1 x4_1 x5_1 = some r) ∧ Aside0 (kq ≤ k) ∧ Aside0 (Kd.R Kd.string 9 w' w.heap.size (fun _ => True) v3 x3_1) ∧ Aside0 (Below w.heap.size w w'))
 case atStart => exact ⟨(([] : List ByteArray)), ((⟨#[]⟩ : ByteArray)), (0), (by first | rfl | (simp; done) | (simp [*]; done)), (by first | rfl | (simp; done) | (simp [*]; done)), H', ⟨Nat.le_refl _⟩, ⟨by first | exact Kd.R_nil _ _ _ _ _ | exact Kd.N_nil _ _ _ _ _ | exact Kd.V_nil _ _ _ _ _ | exact Kd.Q_nil _ _ _ _ _ | exact Kd.S_nil _ _ _ _ _⟩, ⟨by repeat (first | (with_reducible first | exact HB.out | apply below_alloc | apply pw_below_drewN | apply below_drew1) | exact HB.out)⟩⟩
 case round =>
  clear H'; obtain ⟨x3_1, x4_1, x5_1, rfl, rfl, HA, HK1, HO_3, HB⟩ := hrel
  cases gk with
  | zero => exact absurd HA.out (by simp [emendateref34_fields.l0])
  | succ k1 =>
   have H := HA.out; clear HA
   simp only [emendateref34_fields.l0] at H
   by_cases c2 : x5_1 ≤ (a0.size : Int)
   rotate_left
   ·
    rw [if_neg c2] at H
    have c2b0 : decide (x5_1 ≤ (a0.size : Int)) = false := decide_eq_false c2; clear c2; obtain rfl := Option.some.inj H
    go_wp2
    go_ret
    exact ⟨_, by first | rfl | (simp [errW_none, errW_some] <;> rfl) | (simp [*, errW_none, errW_some] <;> rfl), by (with_reducible repeat (first | apply Kd.R_alloc | apply Kd.R_drewN | apply Kd.R_drew)); exact HO_3.out, by repeat (first | (with_reducible first | exact HB.out | apply below_alloc | apply pw_below_drewN | apply below_drew1) | exact HB.out)⟩
   rw [if_pos c2] at H
   have c2b0 : decide (x5_1 ≤ (a0.size : Int)) = true := decide_eq_true c2; clear c2; have HC3 := Aside0.mk H; clear H
   go_upto_region 6 with (fail)
   go_cut [27] (fun v27 wc => ∃ (kq : Nat) (x27_2 : Bool), v27 = .bool x27_2 ∧ Aside0 (emendateref34_fields.j1 kq a0 x3_1 x4_1 x5_1 x27_2 = some r) ∧ Aside0 (kq ≤ k1) ∧ Aside0 (Kd.R Kd.string 9 wc w.heap.size (fun _ => True) u3 x3_1) ∧ Aside0 (Below w.heap.size w wc))
   case first =>
    have H := HC3.out; clear HC3
    by_cases c4 : x5_1 = (a0.size : Int)
    rotate_left
    ·
     rw [if_neg c4] at H
     have c4b0 : (x5_1 == (a0.size : Int)) = false := beq_eq_false_iff_ne.mpr c4; have c4b1 : (x5_1 != (a0.size : Int)) = true := bne_iff_ne.mpr c4
     (first | rw [c4b0] | (simp only [i64_w, i32_w]; rw [c4b0]) | skip)
     by_cases c5 : 0 ≤ x5_1
     rotate_left
     ·
      rw [if_neg c5] at H
      exact absurd H (by simp)
     rw [if_pos c5] at H
     have c5b0 : decide (0 ≤ x5_1) = true := decide_eq_true c5; clear c5
     by_cases c6 : x5_1 < (a0.size : Int)
     rotate_left
     ·
      rw [if_neg c6] at H
      exact absurd H (by simp)
     rw [if_pos c6] at H
     have c6b0 : decide (x5_1 < (a0.size : Int)) = true := decide_eq_true c6; clear c6
     by_cases c8 : (bt a0 x5_1) = 32
     rotate_left
     ·
      rw [if_neg c8] at H
      have c8b0 : ((bt a0 x5_1) == 32) = false := beq_eq_false_iff_ne.mpr c8; have c8b1 : ((bt a0 x5_1) != 32) = true := bne_iff_ne.mpr c8; have H' := Aside0.mk H; clear H; have p7 : 0 ≤ (x5_1 : Int) := of_decide_eq_true (by first | (with_reducible assumption) | assumption)
      have q7 : x5_1 < (a0.size : Int) := of_decide_eq_true (by first | (with_reducible assumption) | assumption)
      have hx7 := bt_at a0 x5_1; replace p7 := eq_true p7; replace q7 := eq_true q7; have p9 : 0 ≤ (x5_1 : Int) := of_decide_eq_true (by first | (with_reducible assumption) | assumption)
      have q9 : x5_1 < (a0.size : Int) := of_decide_eq_true (by first | (with_reducible assumption) | assumption)
      have hx9 := bt_at a0 x5_1; replace p9 := eq_true p9; replace q9 := eq_true q9
      go_wp2
      go_meet
      case rel => exact ⟨_, (((bt a0 x5_1) == 9)), (by first | rfl | (simp; done) | (simp [*]; done)), H', ⟨by have := HK1.out; first | omega | exact Nat.le_refl _⟩, ⟨by (with_reducible repeat (first | apply Kd.R_alloc | apply Kd.R_drewN | apply Kd.R_drew)); exact HO_3.out⟩, ⟨by repeat (first | (with_reducible first | exact HB.out | apply below_alloc | apply pw_below_drewN | apply below_drew1) | exact HB.out)⟩⟩
     rw [if_pos c8] at H
     have c8b0 : ((bt a0 x5_1) == 32) = true := beq_iff_eq.mpr c8; have c8b1 : ((bt a0 x5_1) != 32) = false := bne_eq_false_iff_eq.mpr c8; clear c8; have H' := Aside0.mk H; clear H; have p7 : 0 ≤ (x5_1 : Int) := of_decide_eq_true (by first | (with_reducible assumption) | assumption)
     have q7 : x5_1 < (a0.size : Int) := of_decide_eq_true (by first | (with_reducible assumption) | assumption)
     have hx7 := bt_at a0 x5_1; replace p7 := eq_true p7; replace q7 := eq_true q7
     go_wp2
     go_meet
     case rel => exact ⟨_, (true), (by first | rfl | (simp; done) | (simp [*]; done)), H', ⟨by have := HK1.out; first | omega | exact Nat.le_refl _⟩, ⟨by (with_reducible repeat (first | apply Kd.R_alloc | apply Kd.R_drewN | apply Kd.R_drew)); exact HO_3.out⟩, ⟨by repeat (first | (with_reducible first | exact HB.out | apply below_alloc | apply pw_below_drewN | apply below_drew1) | exact HB.out)⟩⟩
    rw [if_pos c4] at H
    have c4b0 : (x5_1 == (a0.size : Int)) = true := beq_iff_eq.mpr c4; have c4b1 : (x5_1 != (a0.size : Int)) = false := bne_eq_false_iff_eq.mpr c4; clear c4
    (first | rw [c4b0] | (simp only [i64_w, i32_w]; rw [c4b0]) | skip)
    have H' := Aside0.mk H; clear H
    go_wp2
    go_meet
    case rel => exact ⟨_, (true), (by first | rfl | (simp; done) | (simp [*]; done)), H', ⟨by have := HK1.out; first | omega | exact Nat.le_refl _⟩, ⟨by (with_reducible repeat (first | apply Kd.R_alloc | apply Kd.R_drewN | apply Kd.R_drew)); exact HO_3.out⟩, ⟨by repeat (first | (with_reducible first | exact HB.out | apply below_alloc | apply pw_below_drewN | apply below_drew1) | exact HB.out)⟩⟩
   case rest =>
    clear HC3
    try clear c2
    try clear c2b0
    try clear p2
    try clear c3
    try clear c4
    try clear c4b0
    try clear c4b1
    try clear c5
    try clear c5b0
    try clear c6
    try clear c6b0
    try clear p7
    try clear q7
    try clear hx7
    try clear c8
    try clear c8b0
    try clear c8b1
    try clear p9
    try clear q9
    try clear hx9
    try clear p7
    try clear p9
    try clear q7
    try clear q9
    obtain ⟨kq, x27_2, rfl, HA, HJ2, HO_3, HB⟩ := hcut
    cases kq with
    | zero => exact absurd HA.out (by simp [emendateref34_fields.j1])
    | succ kj2 =>
     have H := HA.out; clear HA
     simp only [emendateref34_fields.j1] at H
     by_cases c10 : x27_2 = true
     rotate_left
     ·
      replace c10 := Bool.eq_false_iff.mpr c10; subst c10; have H1 : (if 0 ≤ x5_1 then (if x5_1 ≤ (wrap64 (x5_1 + 1)) then (if (wrap64 (x5_1 + 1)) ≤ (a0.size : Int) then (if x4_1.size + (a0.extract (x5_1 : Int).toNat ((wrap64 (x5_1 + 1)) : Int).toNat).size ≤ 9223372036854775807 then (emendateref34_fields.l0 kj2 a0 x3_1 (x4_1 ++ (a0.extract (x5_1 : Int).toNat ((wrap64 (x5_1 + 1)) : Int).toNat)) (wrap64 (x5_1 + 1))) else (none)) else (none)) else (none)) else (none)) = some r := by rw [if_neg (show ¬ (false = true) by decide)] at H; exact H
      clear H; have H := H1; clear H1
      by_cases c14 : 0 ≤ x5_1
      rotate_left
      ·
       rw [if_neg c14] at H
       exact absurd H (by simp)
      rw [if_pos c14] at H
      have c14b0 := eq_true c14; have c14b1 : decide (0 ≤ x5_1) = true := decide_eq_true c14; clear c14
      by_cases c15 : x5_1 ≤ (wrap64 (x5_1 + 1))
      rotate_left
      ·
       rw [if_neg c15] at H
       exact absurd H (by simp)
      rw [if_pos c15] at H
      have c15b0 := eq_true c15; have c15b1 : decide (x5_1 ≤ (wrap64 (x5_1 + 1))) = true := decide_eq_true c15
      by_cases c16 : (wrap64 (x5_1 + 1)) ≤ (a0.size : Int)
      rotate_left
      ·
       rw [if_neg c16] at H
       exact absurd H (by simp)
      rw [if_pos c16] at H
      have c16b0 := eq_true c16; have c16b1 : decide ((wrap64 (x5_1 + 1)) ≤ (a0.size : Int)) = true := decide_eq_true c16
      by_cases c17 : x4_1.size + (a0.extract (x5_1 : Int).toNat ((wrap64 (x5_1 + 1)) : Int).toNat).size ≤ 9223372036854775807
      rotate_left
      ·
       rw [if_neg c17] at H
       exact absurd H (by simp)
      rw [if_pos c17] at H
      have c17b0 := eq_true c17; have c17b1 : decide (x4_1.size + (a0.extract (x5_1 : Int).toNat ((wrap64 (x5_1 + 1)) : Int).toNat).size ≤ 9223372036854775807) = true := decide_eq_true c17
      try have c17b2 : (9223372036854775807 < x4_1.size + (a0.extract (x5_1 : Int).toNat ((wrap64 (x5_1 + 1)) : Int).toNat).size) = False := eq_false (Nat.not_lt.2 c17)
      have H' := Aside0.mk H; clear H
      go_wp2
      go_roundg kj2
      case measure => have := HK1.out; have := HJ2.out; omega
      case rel => exact ⟨(x3_1), (x4_1 ++ (a0.extract (x5_1 : Int).toNat ((wrap64 (x5_1 + 1)) : Int).toNat)), (wrap64 (x5_1 + 1)), (by first | rfl | (simp; done) | (simp [*]; done)), (by first | rfl | (simp; done) | (simp [*]; done)), H', ⟨by have := HK1.out; have := HJ2.out; omega⟩, ⟨by (with_reducible repeat (first | apply Kd.R_alloc | apply Kd.R_drewN | apply Kd.R_drew)); exact HO_3.out⟩, ⟨by repeat (first | (with_reducible first | exact HB.out | apply below_alloc | apply pw_below_drewN | apply below_drew1) | exact HB.out)⟩⟩
     subst c10; have H1 : (if x4_1.toList = ([] : List UInt8) then (emendateref34_fields.l0 kj2 a0 x3_1 (⟨#[]⟩ : ByteArray) (wrap64 (x5_1 + 1))) else (if x3_1.length < 8796093022208 then (emendateref34_fields.l0 kj2 a0 (x3_1 ++ [x4_1]) (⟨#[]⟩ : ByteArray) (wrap64 (x5_1 + 1))) else (none))) = some r := by rw [if_pos rfl] at H; exact H
     clear H; have H := H1; clear H1
     by_cases c11 : x4_1.toList = ([] : List UInt8)
     rotate_left
     ·
      rw [if_neg c11] at H
      have c11b0 : (x4_1.toList == ([] : List UInt8)) = false := beq_eq_false_iff_ne.mpr c11; have c11b1 : (x4_1.toList != ([] : List UInt8)) = true := bne_iff_ne.mpr c11
      by_cases c12 : x3_1.length < 8796093022208
      rotate_left
      ·
       rw [if_neg c12] at H
       exact absurd H (by simp)
      rw [if_pos c12] at H
      have LMc12 := Aside0.mk c12; clear c12; obtain ⟨y253, hy253⟩ : ∃ y_ : List ByteArray, y_ = (x3_1 ++ [x4_1]) := ⟨_, rfl⟩
      replace H : (emendateref34_fields.l0 kj2 a0 y253 (⟨#[]⟩ : ByteArray) (wrap64 (x5_1 + 1))) = some r := by first | (rw [hy253]; with_reducible exact H) | (have H2_ := (Option.bind_some _ _).symm.trans H; rw [hy253]; with_reducible exact H2_) | (have H2_ := (Option.bind_some _ _).symm.trans H; with_reducible exact H2_) | with_reducible exact H | (rw [hy253]; exact H) | exact H
      have Ny253 := Aside0.mk hy253; clear hy253; have H' := Aside0.mk H; clear H
      go_wp2_with (first | ((with_reducible refine gate_builtin (b := .append) (xs := #[.tmp 30, .tmp 32]) rfl ?_); at_builtin; refine Kd.R_append Kd.string (w0 := w) w.heap.size rfl (.tmp 30) (.tmp 32) 31 9 (.string ⟨#[]⟩) 16 rfl Tryz.underlying31 info9 rfl (by decide) (by omega) u3 x3_1 x4_1 [.string x4_1] (fun _ => True) (fun _ => False) rfl rfl ?aP (fun _ hk => hk.elim) ?aF ?aO ?aB ?aS ?aL ?_; (case aP => exact rfl); (case aB => exact (by repeat (first | (with_reducible first | exact HB.out | apply below_alloc | apply pw_below_drewN | apply below_drew1) | exact HB.out))); (case aF => exact (fun _ _ => trivial)); (case aO => exact (by (with_reducible repeat (first | apply Kd.R_alloc | apply Kd.R_drewN | apply Kd.R_drew)); exact HO_3.out)); (case aS => exact (below_size (by repeat (first | (with_reducible first | exact HB.out | apply below_alloc | apply pw_below_drewN | apply below_drew1) | exact HB.out)))); (case aL => have := LMc12.out; omega); intro v254 w13 ho hb hg hat; rw [← Ny253.out] at ho; have n0_ := Aside0.mk (hb); have n1_ := Aside0.mk (ho); clear HB; clear HO_3; have HB := n0_; have HO255 := n1_; clear n0_ n1_; clear ho hb hg hat))
      go_roundg kj2
      case measure => have := HK1.out; have := HJ2.out; omega
      case rel => exact ⟨(y253), ((⟨#[]⟩ : ByteArray)), (wrap64 (x5_1 + 1)), (by first | rfl | (simp; done) | (simp [*]; done)), (by first | rfl | (simp; done) | (simp [*]; done)), H', ⟨by have := HK1.out; have := HJ2.out; omega⟩, ⟨by (with_reducible repeat (first | apply Kd.R_alloc | apply Kd.R_drewN | apply Kd.R_drew)); exact HO255.out⟩, ⟨by repeat (first | (with_reducible first | exact HB.out | apply below_alloc | apply pw_below_drewN | apply below_drew1) | exact HB.out)⟩⟩
     rw [if_pos c11] at H
     have c11b0 : (x4_1.toList == ([] : List UInt8)) = true := beq_iff_eq.mpr c11; have c11b1 : (x4_1.toList != ([] : List UInt8)) = false := bne_eq_false_iff_eq.mpr c11; clear c11; have H' := Aside0.mk H; clear H
     go_wp2
     go_roundg kj2
     case measure => have := HK1.out; have := HJ2.out; omega
     case rel => exact ⟨(x3_1), ((⟨#[]⟩ : ByteArray)), (wrap64 (x5_1 + 1)), (by first | rfl | (simp; done) | (simp [*]; done)), (by first | rfl | (simp; done) | (simp [*]; done)), H', ⟨by have := HK1.out; have := HJ2.out; omega⟩, ⟨by (with_reducible repeat (first | apply Kd.R_alloc | apply Kd.R_drewN | apply Kd.R_drew)); exact HO_3.out⟩, ⟨by repeat (first | (with_reducible first | exact HB.out | apply below_alloc | apply pw_below_drewN | apply below_drew1) | exact HB.out)⟩⟩
mutual
def emendateref34_number.j0 : Nat → ByteArray → Bool → Option (Int)
 | 0, _, _ => none
 | k + 1, x0, x12 => if x12 = true then (some (-1)) else (emendateref34_number.l0 k x0 0 0)
def emendateref34_number.l0 : Nat → ByteArray → Int → Int → Option (Int)
 | 0, _, _, _ => none
 | k + 1, x0, x3, x4 => if x4 < (x0.size : Int) then (if 0 ≤ x4 then (if (bt x0 x4) < 48 then (some (-1)) else (if (bt x0 x4) > 57 then (some (-1)) else (emendateref34_number.l0 k x0 (wrap64 ((wrap64 (10 * x3)) + (((bt x0 x4) - 48) % 256))) (wrap64 (x4 + 1))))) else (none)) else (some x3)
end
def emendateref34_number.f (k : Nat) (a0 : ByteArray) : Option (Int) := if (a0.size : Int) < 1 then (emendateref34_number.j0 k a0 true) else (emendateref34_number.j0 k a0 (decide ((a0.size : Int) > 9)))
set_option maxHeartbeats 8000000 in
set_option maxRecDepth 100000 in
theorem emendateref34_number.calls (k : Nat) (a0 : ByteArray) (r : Int) (w : World) (h : emendateref34_number.f k a0 = some r) :
  Calls Tryz.prog 49 #[.string a0] w fun e w' => e = .returned (.int .i64 r) ∧ Drawn0 w w' := by
 have H : (if (a0.size : Int) < 1 then (emendateref34_number.j0 k a0 true) else (emendateref34_number.j0 k a0 (decide ((a0.size : Int) > 9)))) = some r := h; clear h; have HC2 := Aside0.mk H; clear H
 go_enter Tryz.func49, Tryz.ntmps49
 go_upto_region 1 with (fail)
 go_cut [12] (fun v12 wc => ∃ (kq : Nat) (x12_1 : Bool), v12 = .bool x12_1 ∧ Aside0 (emendateref34_number.j0 kq a0 x12_1 = some r) ∧ Aside0 (kq ≤ k) ∧ Drawn0 w wc)
 case first =>
  have H := HC2.out; clear HC2
  by_cases c3 : (a0.size : Int) < 1
  rotate_left
  ·
   rw [if_neg c3] at H
   have c3b0 : decide ((a0.size : Int) < 1) = false := decide_eq_false c3; have c3b1 : decide (a0.size < 1) = false := decide_eq_false (by omega)
   clear c3
   (first | rw [c3b0] | (simp only [i64_w, i32_w]; rw [c3b0]) | skip)
   have H' := Aside0.mk H; clear H
   go_wp2
   go_meet
   case rel => exact ⟨_, (decide ((a0.size : Int) > 9)), (by first | rfl | (simp; done) | (simp [*]; done)), H', ⟨by first | omega | exact Nat.le_refl _⟩, by repeat (first | exact Drawn0.refl _ | apply Drawn0.step)⟩
  rw [if_pos c3] at H
  have c3b0 : decide ((a0.size : Int) < 1) = true := decide_eq_true c3; have c3b1 : decide (a0.size < 1) = true := decide_eq_true (by omega)
  clear c3
  (first | rw [c3b0] | (simp only [i64_w, i32_w]; rw [c3b0]) | skip)
  have H' := Aside0.mk H; clear H
  go_wp2
  go_meet
  case rel => exact ⟨_, (true), (by first | rfl | (simp; done) | (simp [*]; done)), H', ⟨by first | omega | exact Nat.le_refl _⟩, by repeat (first | exact Drawn0.refl _ | apply Drawn0.step)⟩
 case rest =>
  clear HC2
  try clear p2
  try clear c3
  try clear c3b0
  try clear c3b1
  obtain ⟨kq, x12_1, rfl, HA, HJ1, ⟨mc1, rfl⟩⟩ := hcut
  cases kq with
  | zero => exact absurd HA.out (by simp [emendateref34_number.j0])
  | succ kj1 =>
   have H := HA.out; clear HA
   simp only [emendateref34_number.j0] at H
   by_cases c4 : x12_1 = true
   rotate_left
   ·
    replace c4 := Bool.eq_false_iff.mpr c4; subst c4; have H1 : (emendateref34_number.l0 kj1 a0 0 0) = some r := by rw [if_neg (show ¬ (false = true) by decide)] at H; exact H
    clear H; have H := H1; clear H1; have H' := Aside0.mk H; clear H
    go_wp2
    go_loopg [3, 4] kj1 (fun kq v3 v4 w' => ∃ (x3_2 : Int) (x4_2 : Int), v3 = .int .i64 x3_2 ∧ v4 = .int .i64 x4_2 ∧ Aside0 (emendateref34_number.l0 kq a0 x3_2 x4_2 = some r) ∧ Aside0 (kq ≤ kj1) ∧ Drawn0 w w')
    case atStart => exact ⟨(0), (0), (by first | rfl | (simp; done) | (simp [*]; done)), (by first | rfl | (simp; done) | (simp [*]; done)), H', ⟨Nat.le_refl _⟩, by repeat (first | exact Drawn0.refl _ | apply Drawn0.step)⟩
    case round =>
     clear H'
     try clear c1
     try clear p2
     try clear c3
     try clear c3b0
     try clear c3b1
     try clear c4
     try clear p2
     obtain ⟨x3_2, x4_2, rfl, rfl, HA, HK2, ⟨m2, rfl⟩⟩ := hrel
     cases gk with
     | zero => exact absurd HA.out (by simp [emendateref34_number.l0])
     | succ k2 =>
      have H := HA.out; clear HA
      simp only [emendateref34_number.l0] at H
      by_cases c5 : x4_2 < (a0.size : Int)
      rotate_left
      ·
       rw [if_neg c5] at H
       have c5b0 : decide (x4_2 < (a0.size : Int)) = false := decide_eq_false c5; clear c5; obtain rfl := Option.some.inj H
       go_wp2
       go_ret
       exact ⟨by first | rfl | (simp; done) | (simp [*]; done), by repeat (first | exact Drawn0.refl _ | apply Drawn0.step)⟩
      rw [if_pos c5] at H
      have c5b0 : decide (x4_2 < (a0.size : Int)) = true := decide_eq_true c5; clear c5
      by_cases c6 : 0 ≤ x4_2
      rotate_left
      ·
       rw [if_neg c6] at H
       exact absurd H (by simp)
      rw [if_pos c6] at H
      have c6b0 : decide (0 ≤ x4_2) = true := decide_eq_true c6; clear c6
      by_cases c8 : (bt a0 x4_2) < 48
      rotate_left
      ·
       rw [if_neg c8] at H
       have c8b0 : decide ((bt a0 x4_2) < 48) = false := decide_eq_false c8; clear c8
       by_cases c10 : (bt a0 x4_2) > 57
       rotate_left
       ·
        rw [if_neg c10] at H
        have c10b0 : decide (57 < (bt a0 x4_2)) = false := decide_eq_false c10; clear c10; have H' := Aside0.mk H; clear H; have p7 : 0 ≤ (x4_2 : Int) := of_decide_eq_true (by first | (with_reducible assumption) | assumption)
        have q7 : x4_2 < (a0.size : Int) := of_decide_eq_true (by first | (with_reducible assumption) | assumption)
        have hx7 := bt_at a0 x4_2; replace p7 := eq_true p7; replace q7 := eq_true q7; have p9 : 0 ≤ (x4_2 : Int) := of_decide_eq_true (by first | (with_reducible assumption) | assumption)
        have q9 : x4_2 < (a0.size : Int) := of_decide_eq_true (by first | (with_reducible assumption) | assumption)
        have hx9 := bt_at a0 x4_2; replace p9 := eq_true p9; replace q9 := eq_true q9; have p11 : 0 ≤ (x4_2 : Int) := of_decide_eq_true (by first | (with_reducible assumption) | assumption)
        have q11 : x4_2 < (a0.size : Int) := of_decide_eq_true (by first | (with_reducible assumption) | assumption)
        have hx11 := bt_at a0 x4_2; replace p11 := eq_true p11; replace q11 := eq_true q11
        go_wp2
        go_roundg k2
        case measure => have := HJ1.out; have := HK2.out; omega
        case rel => exact ⟨(wrap64 ((wrap64 (10 * x3_2)) + (((bt a0 x4_2) - 48) % 256))), (wrap64 (x4_2 + 1)), (by first | rfl | (simp; done) | (simp [*]; done)), (by first | rfl | (simp; done) | (simp [*]; done)), H', ⟨by have := HJ1.out; have := HK2.out; omega⟩, by repeat (first | exact Drawn0.refl _ | apply Drawn0.step)⟩
       rw [if_pos c10] at H
       have c10b0 : decide (57 < (bt a0 x4_2)) = true := decide_eq_true c10; clear c10; obtain rfl := Option.some.inj H; have p7 : 0 ≤ (x4_2 : Int) := of_decide_eq_true (by first | (with_reducible assumption) | assumption)
       have q7 : x4_2 < (a0.size : Int) := of_decide_eq_true (by first | (with_reducible assumption) | assumption)
       have hx7 := bt_at a0 x4_2; replace p7 := eq_true p7; replace q7 := eq_true q7; have p9 : 0 ≤ (x4_2 : Int) := of_decide_eq_true (by first | (with_reducible assumption) | assumption)
       have q9 : x4_2 < (a0.size : Int) := of_decide_eq_true (by first | (with_reducible assumption) | assumption)
       have hx9 := bt_at a0 x4_2; replace p9 := eq_true p9; replace q9 := eq_true q9
       go_wp2
       go_ret
       exact ⟨by first | rfl | (simp; done) | (simp [*]; done), by repeat (first | exact Drawn0.refl _ | apply Drawn0.step)⟩
      rw [if_pos c8] at H
      have c8b0 : decide ((bt a0 x4_2) < 48) = true := decide_eq_true c8; clear c8; obtain rfl := Option.some.inj H; have p7 : 0 ≤ (x4_2 : Int) := of_decide_eq_true (by first | (with_reducible assumption) | assumption)
      have q7 : x4_2 < (a0.size : Int) := of_decide_eq_true (by first | (with_reducible assumption) | assumption)
      have hx7 := bt_at a0 x4_2; replace p7 := eq_true p7; replace q7 := eq_true q7
      go_wp2
      go_ret
      exact ⟨by first | rfl | (simp; done) | (simp [*]; done), by repeat (first | exact Drawn0.refl _ | apply Drawn0.step)⟩
   subst c4; have H1 : (some (-1)) = some r := by rw [if_pos rfl] at H; exact H
   clear H; have H := H1; clear H1; obtain rfl := Option.some.inj H
   go_wp2
   go_ret
   exact ⟨by first | rfl | (simp; done) | (simp [*]; done), by repeat (first | exact Drawn0.refl _ | apply Drawn0.step)⟩
def emendateref34_index.l0 : Nat → List ByteArray → ByteArray → Int → Option (Int)
 | 0, _, _, _ => none
 | k + 1, x0, x1, x5 => if x5 < (x0.length : Int) then (if 0 ≤ x5 then (if (rdOf ByteArray.empty x0 x5).toList = x1.toList then (some x5) else (emendateref34_index.l0 k x0 x1 (wrap64 (x5 + 1)))) else (none)) else (some (-1))
def emendateref34_index.f (k : Nat) (l0 : List ByteArray) (a1 : ByteArray) : Option (Int) := emendateref34_index.l0 k l0 a1 0
set_option maxHeartbeats 8000000 in
set_option maxRecDepth 100000 in
theorem emendateref34_index.calls (k : Nat) (A0 : Option Addr) (c0 : Nat) (l0 : List ByteArray) (a1 : ByteArray) (r : Int) (w : World) (hr0 : Kd.C Kd.string w A0 l0.length l0) (hc0 : l0.length ≤ c0) (h : emendateref34_index.f k l0 a1 = some r) :
  Calls Tryz.prog 50 #[.slice A0 l0.length c0, .string a1] w fun e w' => e = .returned (.int .i64 r) ∧ Drawn0 w w' := by
 have HR0 := Aside0.mk hr0; have HC0 := Aside0.mk hc0; clear hr0 hc0; have H : (emendateref34_index.l0 k l0 a1 0) = some r := h; clear h; have H' := Aside0.mk H; clear H
 go_enter Tryz.func50, Tryz.ntmps50
 go_wp2
 go_loopg [5] k (fun kq v5 w' => ∃ (x5_1 : Int), v5 = .int .i64 x5_1 ∧ Aside0 (emendateref34_index.l0 kq l0 a1 x5_1 = some r) ∧ Aside0 (kq ≤ k) ∧ Drawn0 w w')
 case atStart => exact ⟨(0), (by first | rfl | (simp; done) | (simp [*]; done)), H', ⟨Nat.le_refl _⟩, by repeat (first | exact Drawn0.refl _ | apply Drawn0.step)⟩
 case round =>
  clear H'
  try clear p2
  obtain ⟨x5_1, rfl, HA, HK1, ⟨m1, rfl⟩⟩ := hrel
  cases gk with
  | zero => exact absurd HA.out (by simp [emendateref34_index.l0])
  | succ k1 =>
   have H := HA.out; clear HA
   simp only [emendateref34_index.l0] at H
   by_cases c3 : x5_1 < (l0.length : Int)
   rotate_left
   ·
    rw [if_neg c3] at H
    have c3b0 : decide (x5_1 < (l0.length : Int)) = false := decide_eq_false c3; clear c3; obtain rfl := Option.some.inj H
    go_wp2
    go_ret
    exact ⟨by first | rfl | (simp; done) | (simp [*]; done), by repeat (first | exact Drawn0.refl _ | apply Drawn0.step)⟩
   rw [if_pos c3] at H
   have c3b0 : decide (x5_1 < (l0.length : Int)) = true := decide_eq_true c3; clear c3
   by_cases c4 : 0 ≤ x5_1
   rotate_left
   ·
    rw [if_neg c4] at H
    exact absurd H (by simp)
   rw [if_pos c4] at H
   have c4b0 : decide (0 ≤ x5_1) = true := decide_eq_true c4; clear c4
   by_cases c5 : (rdOf ByteArray.empty l0 x5_1).toList = a1.toList
   rotate_left
   ·
    rw [if_neg c5] at H
    have c5b0 : ((rdOf ByteArray.empty l0 x5_1).toList == a1.toList) = false := beq_eq_false_iff_ne.mpr c5; have c5b1 : ((rdOf ByteArray.empty l0 x5_1).toList != a1.toList) = true := bne_iff_ne.mpr c5; have H' := Aside0.mk H; clear H; have p256 : 0 ≤ (x5_1 : Int) := of_decide_eq_true (by first | (with_reducible assumption) | assumption)
    have q256 : x5_1 < (l0.length : Int) := of_decide_eq_true (by first | (with_reducible assumption) | assumption)
    obtain ⟨ad256, e256, hx256_0⟩ := Kd.at_string HR0.out x5_1 p256 q256
    cases e256
    replace p256 := eq_true p256; replace q256 := eq_true q256
    go_wp2
    go_roundg k1
    case measure => have := HK1.out; omega
    case rel => exact ⟨(wrap64 (x5_1 + 1)), (by first | rfl | (simp; done) | (simp [*]; done)), H', ⟨by have := HK1.out; omega⟩, by repeat (first | exact Drawn0.refl _ | apply Drawn0.step)⟩
   rw [if_pos c5] at H
   have c5b0 : ((rdOf ByteArray.empty l0 x5_1).toList == a1.toList) = true := beq_iff_eq.mpr c5; have c5b1 : ((rdOf ByteArray.empty l0 x5_1).toList != a1.toList) = false := bne_eq_false_iff_eq.mpr c5; clear c5; obtain rfl := Option.some.inj H; have p256 : 0 ≤ (x5_1 : Int) := of_decide_eq_true (by first | (with_reducible assumption) | assumption)
   have q256 : x5_1 < (l0.length : Int) := of_decide_eq_true (by first | (with_reducible assumption) | assumption)
   obtain ⟨ad256, e256, hx256_0⟩ := Kd.at_string HR0.out x5_1 p256 q256
   cases e256
   replace p256 := eq_true p256; replace q256 := eq_true q256
   go_wp2
   go_ret
   exact ⟨by first | rfl | (simp; done) | (simp [*]; done), by repeat (first | exact Drawn0.refl _ | apply Drawn0.step)⟩
end Go.Proofs.YtdcfcpgpbbgceaaGreatDoor.PAll
-- dedented
