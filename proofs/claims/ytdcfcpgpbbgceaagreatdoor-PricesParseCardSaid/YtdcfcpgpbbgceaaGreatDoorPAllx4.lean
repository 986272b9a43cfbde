-- printed by a variant of the print (wip/mkprint.py)
import Derived.Test.YtdcfcpgpbbgceaaGreatDoorPAllx0
namespace Go.Proofs.YtdcfcpgpbbgceaaGreatDoor.PAll
open Go.RowKit Go.Proofs.YtdcfcpgpbbgceaaGreatDoorW.PrintWords Go.Proofs.YtdcfcpgpbbgceaaGreatDoorW.PrintLast Go.Proofs.YtdcfcpgpbbgceaaGreatDoorW.PrintMore
attribute [local go_sem] max2_int min2_int max_two min_two max_three min_three max_four min_four   -- for this text's walks alone
set_option linter.unusedVariables false
set_option linter.unusedSimpArgs false
def slices_Index_string_string.l0 : Nat → List ByteArray → ByteArray → Int → Int → Option (Int)
 | 0, _, _, _, _ => none
 | k + 1, x0, x1, x7, x8 => if x8 < x7 then (if 0 ≤ x8 then (if x8 < (x0.length : Int) then (if x1.toList = (rdOf ByteArray.empty x0 x8).toList then (some x8) else (slices_Index_string_string.l0 k x0 x1 x7 (wrap64 (x8 + 1)))) else (none)) else (none)) else (some (-1))
def slices_Index_string_string.f (k : Nat) (l0 : List ByteArray) (a1 : ByteArray) : Option (Int) := slices_Index_string_string.l0 k l0 a1 (l0.length : Int) 0
theorem slices_Index_string_string.mono_l : ∀ k, (∀ y0 y1 y2 y3, LeO (slices_Index_string_string.l0 k y0 y1 y2 y3) (slices_Index_string_string.l0 (k + 1) y0 y1 y2 y3))
 | 0 => fun _ _ _ _ r h => by simp [slices_Index_string_string.l0] at h
 | k + 1 => by
  have ih0 := slices_Index_string_string.mono_l k
  ·
   intro y0 y1 y2 y3
   unfold slices_Index_string_string.l0
   repeat' first
   | (with_reducible exact ih0 _ _ _ _)
   | (with_reducible exact LeO.refl _)
   | (with_reducible exact LeO.none _)
   | (with_reducible refine LeO.ite ?_ ?_)
   | (with_reducible refine LeO.bind ?_ (fun _ => ?_))
   | exact ih0 _ _ _ _
   | exact LeO.none _
   | refine LeO.ite ?_ ?_
   | refine LeO.bind ?_ (fun _ => ?_)
theorem slices_Index_string_string.mono : ∀ a0 a1 k, LeO (slices_Index_string_string.f k a0 a1) (slices_Index_string_string.f (k + 1) a0 a1) := by
 intro a0 a1 k; have ih0 := slices_Index_string_string.mono_l k
 unfold slices_Index_string_string.f
 repeat' first
   | (with_reducible exact ih0 _ _ _ _)
   | (with_reducible exact LeO.refl _)
   | (with_reducible exact LeO.none _)
   | (with_reducible refine LeO.ite ?_ ?_)
   | (with_reducible refine LeO.bind ?_ (fun _ => ?_))
   | exact ih0 _ _ _ _
   | exact LeO.none _
   | refine LeO.ite ?_ ?_
   | refine LeO.bind ?_ (fun _ => ?_)
set_option maxHeartbeats 8000000 in
set_option maxRecDepth 100000 in
theorem slices_Index_string_string.calls (k : Nat) (A0 : Option Addr) (c0 : Nat) (l0 : List ByteArray) (a1 : ByteArray) (r : Int) (w : World) (hr0 : Kd.C Kd.string w A0 l0.length l0) (hc0 : l0.length ≤ c0) (h : slices_Index_string_string.f k l0 a1 = some r) :
  Calls Tryz.prog 47 #[.slice A0 l0.length c0, .string a1] w fun e w' => e = .returned (.int .i64 r) ∧ Drawn0 w w' := by
 have HR0 := Aside0.mk hr0; have HC0 := Aside0.mk hc0; clear hr0 hc0; have H : (slices_Index_string_string.l0 k l0 a1 (l0.length : Int) 0) = some r := h; clear h; have H' := Aside0.mk H; clear H
 go_enter Tryz.func47, Tryz.ntmps47
 go_wp2
 go_loopg [8] k (fun kq v8 w' => ∃ (x8_1 : Int), v8 = .int .i64 x8_1 ∧ Aside0 (slices_Index_string_string.l0 kq l0 a1 (l0.length : Int) x8_1 = some r) ∧ Aside0 (kq ≤ k) ∧ Drawn0 w w')
 case atStart => exact ⟨(0), (by first | rfl | (simp; done) | (simp [*]; done)), H', ⟨Nat.le_refl _⟩, by repeat (first | exact Drawn0.refl _ | apply Drawn0.step)⟩
 case round =>
  clear H'
  try clear p2
  obtain ⟨x8_1, rfl, HA, HK1, ⟨m1, rfl⟩⟩ := hrel
  cases gk with
  | zero => exact absurd HA.out (by simp [slices_Index_string_string.l0])
  | succ k1 =>
   have H := HA.out; clear HA
   simp only [slices_Index_string_string.l0] at H
   by_cases c3 : x8_1 < (l0.length : Int)
   rotate_left
   ·
    rw [if_neg c3] at H
    have c3b0 : decide (x8_1 < (l0.length : Int)) = false := decide_eq_false c3; clear c3; obtain rfl := Option.some.inj H
    go_wp2
    go_ret
    exact ⟨by first | rfl | (simp; done) | (simp [*]; done), by repeat (first | exact Drawn0.refl _ | apply Drawn0.step)⟩
   rw [if_pos c3] at H
   have c3b0 : decide (x8_1 < (l0.length : Int)) = true := decide_eq_true c3; clear c3
   by_cases c4 : 0 ≤ x8_1
   rotate_left
   ·
    rw [if_neg c4] at H
    exact absurd H (by simp)
   rw [if_pos c4] at H
   have c4b0 : decide (0 ≤ x8_1) = true := decide_eq_true c4; clear c4
   by_cases c5 : x8_1 < (l0.length : Int)
   rotate_left
   ·
    rw [if_neg c5] at H
    exact absurd H (by simp)
   rw [if_pos c5] at H
   have c5b0 : decide (x8_1 < (l0.length : Int)) = true := decide_eq_true c5; clear c5
   by_cases c6 : a1.toList = (rdOf ByteArray.empty l0 x8_1).toList
   rotate_left
   ·
    rw [if_neg c6] at H
    have c6b0 : (a1.toList == (rdOf ByteArray.empty l0 x8_1).toList) = false := beq_eq_false_iff_ne.mpr c6; have c6b1 : (a1.toList != (rdOf ByteArray.empty l0 x8_1).toList) = true := bne_iff_ne.mpr c6; have H' := Aside0.mk H; clear H; have p147 : 0 ≤ (x8_1 : Int) := of_decide_eq_true (by first | (with_reducible assumption) | assumption)
    have q147 : x8_1 < (l0.length : Int) := of_decide_eq_true (by first | (with_reducible assumption) | assumption)
    obtain ⟨ad147, e147, hx147_0⟩ := Kd.at_string HR0.out x8_1 p147 q147
    cases e147
    replace p147 := eq_true p147; replace q147 := eq_true q147
    go_wp2
    go_roundg k1
    case measure => have := HK1.out; omega
    case rel => exact ⟨(wrap64 (x8_1 + 1)), (by first | rfl | (simp; done) | (simp [*]; done)), H', ⟨by have := HK1.out; omega⟩, by repeat (first | exact Drawn0.refl _ | apply Drawn0.step)⟩
   rw [if_pos c6] at H
   have c6b0 : (a1.toList == (rdOf ByteArray.empty l0 x8_1).toList) = true := beq_iff_eq.mpr c6; have c6b1 : (a1.toList != (rdOf ByteArray.empty l0 x8_1).toList) = false := bne_eq_false_iff_eq.mpr c6; clear c6; obtain rfl := Option.some.inj H; have p147 : 0 ≤ (x8_1 : Int) := of_decide_eq_true (by first | (with_reducible assumption) | assumption)
   have q147 : x8_1 < (l0.length : Int) := of_decide_eq_true (by first | (with_reducible assumption) | assumption)
   obtain ⟨ad147, e147, hx147_0⟩ := Kd.at_string HR0.out x8_1 p147 q147
   cases e147
   replace p147 := eq_true p147; replace q147 := eq_true q147
   go_wp2
   go_ret
   exact ⟨by first | rfl | (simp; done) | (simp [*]; done), by repeat (first | exact Drawn0.refl _ | apply Drawn0.step)⟩
def slices_Contains_string_string.f (k : Nat) (l0 : List ByteArray) (a1 : ByteArray) : Option (Bool) := (slices_Index_string_string.f k l0 a1).bind fun t148 => (some (decide (t148 ≥ 0)))
set_option maxHeartbeats 8000000 in
set_option maxRecDepth 100000 in
theorem slices_Contains_string_string.calls (k : Nat) (A0 : Option Addr) (c0 : Nat) (l0 : List ByteArray) (a1 : ByteArray) (r : Bool) (w : World) (hr0 : Kd.C Kd.string w A0 l0.length l0) (hc0 : l0.length ≤ c0) (h : slices_Contains_string_string.f k l0 a1 = some r) :
  Calls Tryz.prog 41 #[.slice A0 l0.length c0, .string a1] w fun e w' => e = .returned (.bool r) ∧ Drawn0 w w' := by
 have HR0 := Aside0.mk hr0; have HC0 := Aside0.mk hc0; clear hr0 hc0; have H : ((slices_Index_string_string.f k l0 a1).bind fun t148 => (some (decide (t148 ≥ 0)))) = some r := h
 clear h; replace H := Option.bind_eq_some_iff.mp H; obtain ⟨t148, A30, H⟩ := H; replace H : (some (decide (t148 ≥ 0))) = some r := H; have A3 := Aside0.mk A30; clear A30; obtain rfl := Option.some.inj H
 go_enter Tryz.func41, Tryz.ntmps41
 go_wp2_with (first | ((with_reducible refine gate_callee (f := 47) rfl ?_); refine goesL_ (some 7) rfl rfl Tryz.func47 (by kernel_rfl) rfl #[.slice A0 l0.length c0, .string a1] rfl (by (try simp only [List.map_toArray, List.map_cons, List.map_nil]); first | done | rfl | (simp only [List.length_drop, List.length_take]; rfl)) ?_; (with_reducible refine (slices_Index_string_string.calls k _ _ l0 a1 t148 _ ?side1 ?side2 A3.out).mono ?_); (case side1 => repeat (first | exact HR0.out | (with_reducible refine Kd.C_alloc ?_ _) | (with_reducible refine Kd.C_drewN ?_ _) | (with_reducible refine Kd.C_drew ?_))); (case side2 => exact HC0.out); rintro e w' ⟨rfl, ⟨nd, rfl⟩⟩; refine ⟨_, rfl, ?_⟩))
 go_ret
 exact ⟨by first | rfl | (simp; done) | (simp [*]; done), by repeat (first | exact Drawn0.refl _ | apply Drawn0.step)⟩
set_option maxHeartbeats 1000000 in
theorem grammarfile_rule.idx0 (A : Option Addr) (c : Nat) (fv : Value) (w : World) : Calls Tryz.prog 114 #[.slice A 0 c, fv] w fun e w' => e = .returned (.int .i64 (-1)) ∧ w = w' := by
 go_enter Tryz.func114, Tryz.ntmps114
 go_wp2
 go_loop [8, 9] (fun v8 v9 => v8 = .int .i64 0) (fun v8 v9 => 0)
 case atStart => rfl
 case round =>
  subst hrel
  go_wp2
  go_ret
  exact ⟨rfl, rfl⟩
theorem grammarfile_rule.con0 (A : Option Addr) (c : Nat) (fv : Value) (w : World) : Calls Tryz.prog 93 #[.slice A 0 c, fv] w fun e w' => e = .returned (.bool false) ∧ w = w' := by
 go_enter Tryz.func93, Tryz.ntmps93
 go_wp2_with fail
 refine (grammarfile_rule.idx0 A c fv w).mono ?_
 rintro e w' ⟨rfl, rfl⟩
 go_wp2
 go_ret
 exact ⟨rfl, rfl⟩
set_option maxHeartbeats 1000000 in
theorem grammarfile_rule.expr0 (s : ByteArray) (hs : s.size = 0) (A : Option Addr) (c : Nat) (w : World) : Calls Tryz.prog 72 #[.agg #[.int .i64 2, .string s, .slice A 0 c], .int .i64 30] w fun e w' => e = .returned (.bool true) ∧ Below w.heap.size w w' := by
 obtain rfl : s = ⟨#[]⟩ := ByteArray.ext (by apply Array.eq_empty_of_size_eq_zero; exact hs)
 go_enter Tryz.func72, Tryz.ntmps72
 go_wp2_with fail
 refine (grammarfile_rule.con0 A c _ _).mono ?_
 rintro e w' ⟨rfl, rfl⟩
 go_wp2
 go_ret
 exact ⟨rfl, by repeat (first | exact Below.refl _ _ | apply below_alloc)⟩
set_option maxHeartbeats 1000000 in
theorem grammarfile_rule.lit0 (s : ByteArray) (hs : s.size = 0) (A : Option Addr) (c : Nat) (w : World) : Calls Tryz.prog 71 #[.agg #[.int .i64 2, .string s, .slice A 0 c, .int .i64 0]] w fun e w' => e = .returned (.bool false) ∧ Below w.heap.size w w' := by
 go_enter Tryz.func71, Tryz.ntmps71
 go_wp2_with fail
 refine (grammarfile_rule.expr0 s hs A c _).mono ?_
 rintro e w' ⟨rfl, hb⟩
 go_wp2
 go_ret
 exact ⟨rfl, below_step (by repeat (first | exact Below.refl _ _ | apply below_alloc)) hb⟩
def grammarfile_rule.idx1R (w : World) (v : Value) (wr : World) : Prop := ∃ k : Int, v = .int .i64 k ∧ ((k = 0 ∧ wr = w) ∨ (k = 1 ∧ Below w.heap.size w wr))
theorem grammarfile_rule.cell_later {w : World} {a : Addr} {v : Value} (h : w.cell? a = some v) (o : Obj) : (w.alloc o).cell? a = some v := pw_cell_below (below_alloc (Below.refl _ _) o) h
set_option maxHeartbeats 1000000 in
theorem grammarfile_rule.idx1 (ad : Addr) (s : ByteArray) (hs : s.size = 0) (A : Option Addr) (c c0 : Nat) (w : World) (h0 : w.cell? ad = some (.int .i64 2)) (h1 : w.cell? ⟨ad.block, ad.off + 1, none⟩ = some (.string s)) (h2 : w.cell? ⟨ad.block, ad.off + 2, none⟩ = some (.slice A 0 c)) (h3 : w.cell? ⟨ad.block, ad.off + 3, none⟩ = some (.int .i64 0)) :
  Calls Tryz.prog 92 #[.slice (some ad) 1 c0, .func (.func 71) #[] #[]] w fun e w' => e = .returned (.int .i64 (-1)) ∧ Below w.heap.size w w' := by
 have hs' := Aside0.mk hs; clear hs
 go_enter Tryz.func92, Tryz.ntmps92
 go_wp2
 go_loopw [4, 5, 8, 9, 10, 11, 12, 13, 14, 15, 16, 18] (fun v4 v5 v8 v9 v10 v11 v12 v13 v14 v15 v16 v18 wr => grammarfile_rule.idx1R w v8 wr) (fun v4 v5 v8 v9 v10 v11 v12 v13 v14 v15 v16 v18 wr => 2 - (intOf v8).toNat)
 case atStart => exact ⟨0, rfl, .inl ⟨rfl, rfl⟩⟩
 case round =>
  obtain ⟨k, rfl, ⟨rfl, rfl⟩ | ⟨rfl, hb⟩⟩ := hrel
  ·
   go_wp2_with fail
   refine (grammarfile_rule.lit0 s hs'.out A c wr).mono ?_
   rintro e w' ⟨rfl, hb⟩; have HB := Aside0.mk hb; clear hb
   go_wp2
   go_roundw
   case rel => exact ⟨1, rfl, .inr ⟨rfl, HB.out⟩⟩
   case measure => simp [intOf]
  ·
   go_wp2
   go_ret
   exact ⟨rfl, hb⟩
theorem grammarfile_rule.con1 (ad : Addr) (s : ByteArray) (hs : s.size = 0) (A : Option Addr) (c c0 : Nat) (w : World) (h0 : w.cell? ad = some (.int .i64 2)) (h1 : w.cell? ⟨ad.block, ad.off + 1, none⟩ = some (.string s)) (h2 : w.cell? ⟨ad.block, ad.off + 2, none⟩ = some (.slice A 0 c)) (h3 : w.cell? ⟨ad.block, ad.off + 3, none⟩ = some (.int .i64 0)) :
  Calls Tryz.prog 70 #[.slice (some ad) 1 c0, .func (.func 71) #[] #[]] w fun e w' => e = .returned (.bool false) ∧ Below w.heap.size w w' := by
 go_enter Tryz.func70, Tryz.ntmps70
 go_wp2_with fail
 refine (grammarfile_rule.idx1 ad s hs A c c0 w h0 h1 h2 h3).mono ?_
 rintro e w' ⟨rfl, hb⟩
 go_wp2
 go_ret
 exact ⟨rfl, hb⟩
theorem grammarfile_rule.rule1 (nm : ByteArray) (ad : Addr) (s : ByteArray) (hs : s.size = 0) (A : Option Addr) (c c0 : Nat) (w : World) (h0 : w.cell? ad = some (.int .i64 2)) (h1 : w.cell? ⟨ad.block, ad.off + 1, none⟩ = some (.string s)) (h2 : w.cell? ⟨ad.block, ad.off + 2, none⟩ = some (.slice A 0 c)) (h3 : w.cell? ⟨ad.block, ad.off + 3, none⟩ = some (.int .i64 0)) :
  Calls Tryz.prog 57 #[.agg #[.string nm, .slice (some ad) 1 c0]] w fun e w' => e = .returned (.bool true) ∧ Below w.heap.size w w' := by
 have hlt : ad.block < w.heap.size := World.block_lt_of_cell? w ad h0
 go_enter Tryz.func57, Tryz.ntmps57
 go_wp2_with fail
 refine (grammarfile_rule.con1 ad s hs A c c0 _ (grammarfile_rule.cell_later h0 _) (grammarfile_rule.cell_later h1 _) (grammarfile_rule.cell_later h2 _) (grammarfile_rule.cell_later h3 _)).mono ?_
 rintro e w' ⟨rfl, hb⟩
 go_wp2
 go_ret
 exact ⟨rfl, below_step (by repeat (first | exact Below.refl _ _ | apply below_alloc)) hb⟩
def grammarfile_rule.f (a0_0 : ByteArray) (l0_1 : List S73) : Option Bool := if l0_1.length = 1 ∧ (rd_T73 l0_1 0).f0.f0 = 2 ∧ (rd_T73 l0_1 0).f0.f1.size = 0 ∧ (rd_T73 l0_1 0).f0.f2.length = 0 ∧ (rd_T73 l0_1 0).f1 = 0 then some true else none
theorem grammarfile_rule.calls (a0_0 : ByteArray) (A0_1 : Option Addr) (c0_1 : Nat) (l0_1 : List S73) (r : Bool) (w : World) (hr0_1 : Kd.C k73 w A0_1 l0_1.length l0_1) (hc0_1 : l0_1.length ≤ c0_1) (h : grammarfile_rule.f a0_0 l0_1 = some r) :
  Calls Tryz.prog 57 #[.agg #[.string a0_0, .slice A0_1 l0_1.length c0_1]] w fun e w' => e = .returned (.bool r) ∧ Below w.heap.size w w' := by
 unfold grammarfile_rule.f at h
 split at h
 ·
  rename_i hc
  obtain ⟨h1, h2, h3, h4, h5⟩ := hc; obtain rfl := Option.some.inj h; obtain ⟨ad, A2, c2, rfl, x0, x1, x2, x3, _⟩ := at_T73 hr0_1 0 (by omega) (by omega)
  have ha : ad.add ((0 : Int).toNat * 4) = ad := by simp [Addr.add]
  rw [ha] at x0 x1 x2 x3
  rw [h2] at x0
  rw [h4] at x2
  rw [h5] at x3
  rw [h1]
  exact grammarfile_rule.rule1 a0_0 ad _ h3 A2 c2 c0_1 w x0 x1 x2 x3
 ·
  cases h
def grammarfile_letter.f (a0 : Int) : Option (Bool) := if a0 ≥ 97 then (if a0 ≤ 122 then (some true) else (if a0 ≥ 65 then (some (decide (a0 ≤ 90))) else (some false))) else (if a0 ≥ 65 then (some (decide (a0 ≤ 90))) else (some false))
set_option maxHeartbeats 8000000 in
set_option maxRecDepth 100000 in
theorem grammarfile_letter.calls (a0 : Int) (r : Bool) (w : World) (h : grammarfile_letter.f a0 = some r) :
  Calls Tryz.prog 95 #[.int .u8 a0] w fun e w' => e = .returned (.bool r) ∧ Drawn0 w w' := by
 have H : (if a0 ≥ 97 then (if a0 ≤ 122 then (some true) else (if a0 ≥ 65 then (some (decide (a0 ≤ 90))) else (some false))) else (if a0 ≥ 65 then (some (decide (a0 ≤ 90))) else (some false))) = some r := h; clear h
 by_cases c2 : a0 ≥ 97
 rotate_left
 ·
  rw [if_neg c2] at H
  have c2b0 : decide (97 ≤ a0) = false := decide_eq_false c2; clear c2
  by_cases c5 : a0 ≥ 65
  rotate_left
  ·
   rw [if_neg c5] at H
   have c5b0 : decide (65 ≤ a0) = false := decide_eq_false c5; clear c5; obtain rfl := Option.some.inj H
   go_enter Tryz.func95, Tryz.ntmps95
   go_wp2
   go_ret
   exact ⟨by first | rfl | (simp; done) | (simp [*]; done), by repeat (first | exact Drawn0.refl _ | apply Drawn0.step)⟩
  rw [if_pos c5] at H
  have c5b0 : decide (65 ≤ a0) = true := decide_eq_true c5; clear c5; obtain rfl := Option.some.inj H
  go_enter Tryz.func95, Tryz.ntmps95
  go_wp2
  go_ret
  exact ⟨by first | rfl | (simp; done) | (simp [*]; done), by repeat (first | exact Drawn0.refl _ | apply Drawn0.step)⟩
 rw [if_pos c2] at H
 have c2b0 : decide (97 ≤ a0) = true := decide_eq_true c2; clear c2
 by_cases c3 : a0 ≤ 122
 rotate_left
 ·
  rw [if_neg c3] at H
  have c3b0 : decide (a0 ≤ 122) = false := decide_eq_false c3; clear c3
  by_cases c4 : a0 ≥ 65
  rotate_left
  ·
   rw [if_neg c4] at H
   have c4b0 : decide (65 ≤ a0) = false := decide_eq_false c4; clear c4; obtain rfl := Option.some.inj H
   go_enter Tryz.func95, Tryz.ntmps95
   go_wp2
   go_ret
   exact ⟨by first | rfl | (simp; done) | (simp [*]; done), by repeat (first | exact Drawn0.refl _ | apply Drawn0.step)⟩
  rw [if_pos c4] at H
  have c4b0 : decide (65 ≤ a0) = true := decide_eq_true c4; clear c4; obtain rfl := Option.some.inj H
  go_enter Tryz.func95, Tryz.ntmps95
  go_wp2
  go_ret
  exact ⟨by first | rfl | (simp; done) | (simp [*]; done), by repeat (first | exact Drawn0.refl _ | apply Drawn0.step)⟩
 rw [if_pos c3] at H
 have c3b0 : decide (a0 ≤ 122) = true := decide_eq_true c3; clear c3; obtain rfl := Option.some.inj H
 go_enter Tryz.func95, Tryz.ntmps95
 go_wp2
 go_ret
 exact ⟨by first | rfl | (simp; done) | (simp [*]; done), by repeat (first | exact Drawn0.refl _ | apply Drawn0.step)⟩
mutual
def grammarfile_name.j0 : Nat → ByteArray → Bool → Option (Bool)
 | 0, _, _ => none
 | k + 1, x0, x21 => if x21 = true then (some false) else (grammarfile_name.l0 k x0 (x0.size : Int) 0)
def grammarfile_name.l0 : Nat → ByteArray → Int → Int → Option (Bool)
 | 0, _, _, _ => none
 | k + 1, x0, x23, x24 => if x24 < x23 then (if 0 ≤ x24 then (if x24 < (x0.size : Int) then ((grammarfile_letter.f (bt x0 x24)).bind fun t154 => (if t154 = true then (grammarfile_name.l0 k x0 x23 (wrap64 (x24 + 1))) else (if (bt x0 x24) ≥ 48 then (if ((bt x0 x24) ≤ 57) then (grammarfile_name.l0 k x0 x23 (wrap64 (x24 + 1))) else (if (bt x0 x24) = 95 then (grammarfile_name.l0 k x0 x23 (wrap64 (x24 + 1))) else (some false))) else (if (bt x0 x24) = 95 then (grammarfile_name.l0 k x0 x23 (wrap64 (x24 + 1))) else (some false))))) else (none)) else (none)) else (some true)
end
def grammarfile_name.f (k : Nat) (a0 : ByteArray) : Option (Bool) := if a0.toList = ([] : List UInt8) then (grammarfile_name.j0 k a0 true) else (if (a0.size : Int) > 24 then (grammarfile_name.j0 k a0 true) else (if 0 < (a0.size : Int) then ((grammarfile_letter.f (bt a0 0)).bind fun t149 => (if t149 = true then ((slices_Contains_string_string.f k (([(⟨#[115, 116, 97, 114, 116]⟩ : ByteArray), (⟨#[108, 101, 102, 116]⟩ : ByteArray), (⟨#[114, 105, 103, 104, 116]⟩ : ByteArray), (⟨#[110, 111, 110, 101]⟩ : ByteArray), (⟨#[112, 114, 105, 99, 101]⟩ : ByteArray)] : List ByteArray)) a0).bind fun t153 => (grammarfile_name.j0 k a0 t153)) else (grammarfile_name.j0 k a0 true))) else (none)))
set_option maxHeartbeats 8000000 in
set_option maxRecDepth 100000 in
theorem grammarfile_name.calls (k : Nat) (a0 : ByteArray) (r : Bool) (w : World) (h : grammarfile_name.f k a0 = some r) :
  Calls Tryz.prog 73 #[.string a0] w fun e w' => e = .returned (.bool r) ∧ Below w.heap.size w w' := by
 have HB := Aside0.mk (Below.refl w.heap.size w); have H : (if a0.toList = ([] : List UInt8) then (grammarfile_name.j0 k a0 true) else (if (a0.size : Int) > 24 then (grammarfile_name.j0 k a0 true) else (if 0 < (a0.size : Int) then ((grammarfile_letter.f (bt a0 0)).bind fun t149 => (if t149 = true then ((slices_Contains_string_string.f k (([(⟨#[115, 116, 97, 114, 116]⟩ : ByteArray), (⟨#[108, 101, 102, 116]⟩ : ByteArray), (⟨#[114, 105, 103, 104, 116]⟩ : ByteArray), (⟨#[110, 111, 110, 101]⟩ : ByteArray), (⟨#[112, 114, 105, 99, 101]⟩ : ByteArray)] : List ByteArray)) a0).bind fun t153 => (grammarfile_name.j0 k a0 t153)) else (grammarfile_name.j0 k a0 true))) else (none)))) = some r := h
 clear h; have HC2 := Aside0.mk H; clear H
 go_enter Tryz.func73, Tryz.ntmps73
 go_upto_region 1 with (fail)
 go_cut [21] (fun v21 wc => ∃ (kq : Nat) (x21_1 : Bool), v21 = .bool x21_1 ∧ Aside0 (grammarfile_name.j0 kq a0 x21_1 = some r) ∧ Aside0 (kq ≤ k) ∧ Aside0 (Below w.heap.size w wc))
 case first =>
  have H := HC2.out; clear HC2
  by_cases c3 : a0.toList = ([] : List UInt8)
  rotate_left
  ·
   rw [if_neg c3] at H
   have c3b0 : (a0.toList == ([] : List UInt8)) = false := beq_eq_false_iff_ne.mpr c3; have c3b1 : (a0.toList != ([] : List UInt8)) = true := bne_iff_ne.mpr c3
   (first | rw [c3b0] | (simp only [i64_w, i32_w]; rw [c3b0]) | skip)
   by_cases c4 : (a0.size : Int) > 24
   rotate_left
   ·
    rw [if_neg c4] at H
    have c4b0 : decide (24 < (a0.size : Int)) = false := decide_eq_false c4; have c4b1 : decide (24 < a0.size) = false := decide_eq_false (by omega)
    clear c4
    by_cases c5 : 0 < (a0.size : Int)
    rotate_left
    ·
     rw [if_neg c5] at H
     exact absurd H (by simp)
    rw [if_pos c5] at H
    have c5b0 : decide (0 < (a0.size : Int)) = true := decide_eq_true c5; have c5b1 : decide (0 < a0.size) = true := decide_eq_true (by omega)
    clear c5; replace H := Option.bind_eq_some_iff.mp H; obtain ⟨t149, A70, H⟩ := H; replace H : (if t149 = true then ((slices_Contains_string_string.f k (([(⟨#[115, 116, 97, 114, 116]⟩ : ByteArray), (⟨#[108, 101, 102, 116]⟩ : ByteArray), (⟨#[114, 105, 103, 104, 116]⟩ : ByteArray), (⟨#[110, 111, 110, 101]⟩ : ByteArray), (⟨#[112, 114, 105, 99, 101]⟩ : ByteArray)] : List ByteArray)) a0).bind fun t153 => (grammarfile_name.j0 k a0 t153)) else (grammarfile_name.j0 k a0 true)) = some r := H
    have A7 := Aside0.mk A70; clear A70
    by_cases c8 : t149 = true
    rotate_left
    ·
     replace c8 := Bool.eq_false_iff.mpr c8; subst c8; have H1 : (grammarfile_name.j0 k a0 true) = some r := by rw [if_neg (show ¬ (false = true) by decide)] at H; exact H
     clear H; have H := H1; clear H1; have H' := Aside0.mk H; clear H; have p6 : 0 ≤ (0 : Int) := (by omega)
     have q6 : 0 < a0.size := (by have : (0 : Int) < (a0.size : Int) := of_decide_eq_true (by first | (with_reducible assumption) | assumption); omega)
     have hx6 : ∀ h : 0 < a0.size, ((a0[0]'h).toNat : Int) = bt a0 0 := bt_at a0 0
     clear p6; have qi6 : (0 < (a0.size : Int)) = True := eq_true (of_decide_eq_true (by first | (with_reducible assumption) | assumption))
     replace q6 := eq_true q6
     go_wp2_with (first | (go_at_call 95; (with_reducible refine (grammarfile_letter.calls (bt a0 0) false _ A7.out).mono ?_); rintro e w' ⟨rfl, ⟨nd, rfl⟩⟩))
     go_meet
     case rel => exact ⟨_, (true), (by first | rfl | (simp; done) | (simp [*]; done)), H', ⟨by first | omega | exact Nat.le_refl _⟩, ⟨by repeat (first | (with_reducible first | exact HB.out | apply below_alloc | apply pw_below_drewN | apply below_drew1) | exact HB.out)⟩⟩
    subst c8; have H1 : ((slices_Contains_string_string.f k (([(⟨#[115, 116, 97, 114, 116]⟩ : ByteArray), (⟨#[108, 101, 102, 116]⟩ : ByteArray), (⟨#[114, 105, 103, 104, 116]⟩ : ByteArray), (⟨#[110, 111, 110, 101]⟩ : ByteArray), (⟨#[112, 114, 105, 99, 101]⟩ : ByteArray)] : List ByteArray)) a0).bind fun t153 => (grammarfile_name.j0 k a0 t153)) = some r := by rw [if_pos rfl] at H; exact H
    clear H; have H := H1; clear H1; obtain ⟨y150, hy150⟩ : ∃ y_ : List ByteArray, y_ = (([(⟨#[115, 116, 97, 114, 116]⟩ : ByteArray), (⟨#[108, 101, 102, 116]⟩ : ByteArray), (⟨#[114, 105, 103, 104, 116]⟩ : ByteArray), (⟨#[110, 111, 110, 101]⟩ : ByteArray), (⟨#[112, 114, 105, 99, 101]⟩ : ByteArray)] : List ByteArray)) := ⟨_, rfl⟩
    replace H : ((slices_Contains_string_string.f k y150 a0).bind fun t153 => (grammarfile_name.j0 k a0 t153)) = some r := by first | (rw [hy150]; with_reducible exact H) | (have H2_ := (Option.bind_some _ _).symm.trans H; rw [hy150]; with_reducible exact H2_) | (have H2_ := (Option.bind_some _ _).symm.trans H; with_reducible exact H2_) | with_reducible exact H | (rw [hy150]; exact H) | exact H
    have Ny150 := Aside0.mk hy150; clear hy150; replace H := Option.bind_eq_some_iff.mp H; obtain ⟨t153, A90, H⟩ := H; replace H : (grammarfile_name.j0 k a0 t153) = some r := H; have A9 := Aside0.mk A90; clear A90; have H' := Aside0.mk H; clear H; have p6 : 0 ≤ (0 : Int) := (by omega)
    have q6 : 0 < a0.size := (by have : (0 : Int) < (a0.size : Int) := of_decide_eq_true (by first | (with_reducible assumption) | assumption); omega)
    have hx6 : ∀ h : 0 < a0.size, ((a0[0]'h).toNat : Int) = bt a0 0 := bt_at a0 0
    clear p6; have qi6 : (0 < (a0.size : Int)) = True := eq_true (of_decide_eq_true (by first | (with_reducible assumption) | assumption))
    replace q6 := eq_true q6
    go_wp2_with (first | (go_at_call 95; (with_reducible refine (grammarfile_letter.calls (bt a0 0) true _ A7.out).mono ?_); rintro e w' ⟨rfl, ⟨nd, rfl⟩⟩) | ((with_reducible refine gate_dst (N := 18) rfl ?_); (try (refine gate_guard (by rfl) ?_; dsimp only)); refine Kd.R_lit Kd.string _ 9 ?hg (N := 18) ?hd (xs := ([(⟨#[115, 116, 97, 114, 116]⟩ : ByteArray), (⟨#[108, 101, 102, 116]⟩ : ByteArray), (⟨#[114, 105, 103, 104, 116]⟩ : ByteArray), (⟨#[110, 111, 110, 101]⟩ : ByteArray), (⟨#[112, 114, 105, 99, 101]⟩ : ByteArray)] : List ByteArray)) (inner := [.string (⟨#[115, 116, 97, 114, 116]⟩ : ByteArray), .string (⟨#[108, 101, 102, 116]⟩ : ByteArray), .string (⟨#[114, 105, 103, 104, 116]⟩ : ByteArray), .string (⟨#[110, 111, 110, 101]⟩ : ByteArray), .string (⟨#[112, 114, 105, 99, 101]⟩ : ByteArray)]) (ok := fun _ => True) (okp := fun _ => True) ?hr ?hp (fun _ hk => hk) trivial (Below.refl _ _) (Nat.le_refl _) (by simp) ?_; (case hd => rfl); (case hg => rfl); (case hr => first | (go_simp; done) | (go_simp; rfl)); (case hp => exact (Reps.one (show Kd.M Kd.string _ _ _ (⟨#[115, 116, 97, 114, 116]⟩ : ByteArray) [.string (⟨#[115, 116, 97, 114, 116]⟩ : ByteArray)] from rfl) (Reps.one (show Kd.M Kd.string _ _ _ (⟨#[108, 101, 102, 116]⟩ : ByteArray) [.string (⟨#[108, 101, 102, 116]⟩ : ByteArray)] from rfl) (Reps.one (show Kd.M Kd.string _ _ _ (⟨#[114, 105, 103, 104, 116]⟩ : ByteArray) [.string (⟨#[114, 105, 103, 104, 116]⟩ : ByteArray)] from rfl) (Reps.one (show Kd.M Kd.string _ _ _ (⟨#[110, 111, 110, 101]⟩ : ByteArray) [.string (⟨#[110, 111, 110, 101]⟩ : ByteArray)] from rfl) (Reps.one (show Kd.M Kd.string _ _ _ (⟨#[112, 114, 105, 99, 101]⟩ : ByteArray) [.string (⟨#[112, 114, 105, 99, 101]⟩ : ByteArray)] from rfl) (Reps.none _ _))))))); intro v151 w10 ho11 hb hg_ hnew_; clear hg_ hnew_; (first | rw [← Ny150.out] at ho11 | (simp only [Int.reduceToNat] at ho11; rw [← Ny150.out] at ho11)); have n0_ := Aside0.mk (Kd.R_lower ho11 (below_size (by repeat (first | (with_reducible first | exact HB.out | apply below_alloc | apply pw_below_drewN | apply below_drew1) | exact HB.out)))); have n1_ := Aside0.mk (below_step (by repeat (first | (with_reducible first | exact HB.out | apply below_alloc | apply pw_below_drewN | apply below_drew1) | exact HB.out)) hb); clear HB; have HO152 := n0_; have HB := n1_; clear n0_ n1_; clear hb ho11; obtain ⟨Ao12, co12, eo12⟩ := Kd.R_slice HO152.out; subst eo12) | (go_at_call 41; (with_reducible refine (slices_Contains_string_string.calls k _ _ y150 a0 t153 _ ?side1 ?side2 A9.out).mono ?_); (case side1 => repeat (first | exact (Kd.R_reads' HO152.out).2.2 | (with_reducible refine Kd.C_alloc ?_ _) | (with_reducible refine Kd.C_drewN ?_ _) | (with_reducible refine Kd.C_drew ?_))); (case side2 => exact (Kd.R_reads' HO152.out).2.1); rintro e w' ⟨rfl, ⟨nd, rfl⟩⟩))
    go_meet
    case rel => exact ⟨_, (t153), (by first | rfl | (simp; done) | (simp [*]; done)), H', ⟨by first | omega | exact Nat.le_refl _⟩, ⟨by repeat (first | (with_reducible first | exact HB.out | apply below_alloc | apply pw_below_drewN | apply below_drew1) | exact HB.out)⟩⟩
   rw [if_pos c4] at H
   have c4b0 : decide (24 < (a0.size : Int)) = true := decide_eq_true c4; have c4b1 : decide (24 < a0.size) = true := decide_eq_true (by omega)
   clear c4; have H' := Aside0.mk H; clear H
   go_wp2
   go_meet
   case rel => exact ⟨_, (true), (by first | rfl | (simp; done) | (simp [*]; done)), H', ⟨by first | omega | exact Nat.le_refl _⟩, ⟨by repeat (first | (with_reducible first | exact HB.out | apply below_alloc | apply pw_below_drewN | apply below_drew1) | exact HB.out)⟩⟩
  rw [if_pos c3] at H
  have c3b0 : (a0.toList == ([] : List UInt8)) = true := beq_iff_eq.mpr c3; have c3b1 : (a0.toList != ([] : List UInt8)) = false := bne_eq_false_iff_eq.mpr c3; clear c3
  (first | rw [c3b0] | (simp only [i64_w, i32_w]; rw [c3b0]) | skip)
  have H' := Aside0.mk H; clear H
  go_wp2
  go_meet
  case rel => exact ⟨_, (true), (by first | rfl | (simp; done) | (simp [*]; done)), H', ⟨by first | omega | exact Nat.le_refl _⟩, ⟨by repeat (first | (with_reducible first | exact HB.out | apply below_alloc | apply pw_below_drewN | apply below_drew1) | exact HB.out)⟩⟩
 case rest =>
  clear HC2
  try clear p2
  try clear c3
  try clear c3b0
  try clear c3b1
  try clear c4
  try clear c4b0
  try clear c4b1
  try clear c5
  try clear c5b0
  try clear c5b1
  try clear p6
  try clear q6
  try clear hx6
  try clear qi6
  try clear c7
  try clear c8
  try clear p6
  try clear q6
  obtain ⟨kq, x21_1, rfl, HA, HJ1, HB⟩ := hcut
  cases kq with
  | zero => exact absurd HA.out (by simp [grammarfile_name.j0])
  | succ kj1 =>
   have H := HA.out; clear HA
   simp only [grammarfile_name.j0] at H
   by_cases c13 : x21_1 = true
   rotate_left
   ·
    replace c13 := Bool.eq_false_iff.mpr c13; subst c13; have H1 : (grammarfile_name.l0 kj1 a0 (a0.size : Int) 0) = some r := by rw [if_neg (show ¬ (false = true) by decide)] at H; exact H
    clear H; have H := H1; clear H1; have H' := Aside0.mk H; clear H
    go_wp2
    go_loopg [24] kj1 (fun kq v24 w' => ∃ (x24_2 : Int), v24 = .int .i64 x24_2 ∧ Aside0 (grammarfile_name.l0 kq a0 (a0.size : Int) x24_2 = some r) ∧ Aside0 (kq ≤ kj1) ∧ Aside0 (Below w.heap.size w w'))
    case atStart => exact ⟨(0), (by first | rfl | (simp; done) | (simp [*]; done)), H', ⟨Nat.le_refl _⟩, ⟨by repeat (first | (with_reducible first | exact HB.out | apply below_alloc | apply pw_below_drewN | apply below_drew1) | exact HB.out)⟩⟩
    case round =>
     clear H'
     try clear c1
     try clear p2
     try clear c3
     try clear c3b0
     try clear c3b1
     try clear c4
     try clear c4b0
     try clear c4b1
     try clear c5
     try clear c5b0
     try clear c5b1
     try clear p6
     try clear q6
     try clear hx6
     try clear qi6
     try clear c7
     try clear c8
     try clear c13
     try clear p2
     try clear p6
     try clear q6
     obtain ⟨x24_2, rfl, HA, HK2, HB⟩ := hrel
     cases gk with
     | zero => exact absurd HA.out (by simp [grammarfile_name.l0])
     | succ k2 =>
      have H := HA.out; clear HA
      simp only [grammarfile_name.l0] at H
      by_cases c14 : x24_2 < (a0.size : Int)
      rotate_left
      ·
       rw [if_neg c14] at H
       have c14b0 : decide (x24_2 < (a0.size : Int)) = false := decide_eq_false c14; clear c14; obtain rfl := Option.some.inj H
       go_wp2
       go_ret
       exact ⟨by first | rfl | (simp [errW_none, errW_some] <;> rfl) | (simp [*, errW_none, errW_some] <;> rfl), by repeat (first | (with_reducible first | exact HB.out | apply below_alloc | apply pw_below_drewN | apply below_drew1) | exact HB.out)⟩
      rw [if_pos c14] at H
      have c14b0 : decide (x24_2 < (a0.size : Int)) = true := decide_eq_true c14; clear c14
      by_cases c15 : 0 ≤ x24_2
      rotate_left
      ·
       rw [if_neg c15] at H
       exact absurd H (by simp)
      rw [if_pos c15] at H
      have c15b0 : decide (0 ≤ x24_2) = true := decide_eq_true c15; clear c15
      by_cases c16 : x24_2 < (a0.size : Int)
      rotate_left
      ·
       rw [if_neg c16] at H
       exact absurd H (by simp)
      rw [if_pos c16] at H
      have c16b0 : decide (x24_2 < (a0.size : Int)) = true := decide_eq_true c16; clear c16; replace H := Option.bind_eq_some_iff.mp H; obtain ⟨t154, A180, H⟩ := H; replace H : (if t154 = true then (grammarfile_name.l0 k2 a0 (a0.size : Int) (wrap64 (x24_2 + 1))) else (if (bt a0 x24_2) ≥ 48 then (if ((bt a0 x24_2) ≤ 57) then (grammarfile_name.l0 k2 a0 (a0.size : Int) (wrap64 (x24_2 + 1))) else (if (bt a0 x24_2) = 95 then (grammarfile_name.l0 k2 a0 (a0.size : Int) (wrap64 (x24_2 + 1))) else (some false))) else (if (bt a0 x24_2) = 95 then (grammarfile_name.l0 k2 a0 (a0.size : Int) (wrap64 (x24_2 + 1))) else (some false)))) = some r := H; have A18 := Aside0.mk A180; clear A180
      by_cases c19 : t154 = true
      rotate_left
      ·
       replace c19 := Bool.eq_false_iff.mpr c19; subst c19; have H1 : (if (bt a0 x24_2) ≥ 48 then (if ((bt a0 x24_2) ≤ 57) then (grammarfile_name.l0 k2 a0 (a0.size : Int) (wrap64 (x24_2 + 1))) else (if (bt a0 x24_2) = 95 then (grammarfile_name.l0 k2 a0 (a0.size : Int) (wrap64 (x24_2 + 1))) else (some false))) else (if (bt a0 x24_2) = 95 then (grammarfile_name.l0 k2 a0 (a0.size : Int) (wrap64 (x24_2 + 1))) else (some false))) = some r := by rw [if_neg (show ¬ (false = true) by decide)] at H; exact H
       clear H; have H := H1; clear H1
       by_cases c21 : (bt a0 x24_2) ≥ 48
       rotate_left
       ·
        rw [if_neg c21] at H
        have c21b0 : decide (48 ≤ (bt a0 x24_2)) = false := decide_eq_false c21; clear c21
        by_cases c27 : (bt a0 x24_2) = 95
        rotate_left
        ·
         rw [if_neg c27] at H
         have c27b0 : ((bt a0 x24_2) == 95) = false := beq_eq_false_iff_ne.mpr c27; have c27b1 : ((bt a0 x24_2) != 95) = true := bne_iff_ne.mpr c27; obtain rfl := Option.some.inj H; have p17 : 0 ≤ (x24_2 : Int) := of_decide_eq_true (by first | (with_reducible assumption) | assumption)
         have q17 : x24_2 < (a0.size : Int) := of_decide_eq_true (by first | (with_reducible assumption) | assumption)
         have hx17 := bt_at a0 x24_2; replace p17 := eq_true p17; replace q17 := eq_true q17
         go_wp2_with (first | ((with_reducible refine gate_callee (f := 95) rfl ?_); refine goesL_ (some 30) rfl rfl Tryz.func95 (by kernel_rfl) rfl #[.int .u8 (bt a0 x24_2)] rfl (by (try simp only [List.map_toArray, List.map_cons, List.map_nil]); first | done | rfl | (simp only [List.length_drop, List.length_take]; rfl)) ?_; (with_reducible refine (grammarfile_letter.calls (bt a0 x24_2) false _ A18.out).mono ?_); rintro e w' ⟨rfl, ⟨nd, rfl⟩⟩; refine ⟨_, rfl, ?_⟩; have p20 : 0 ≤ (x24_2 : Int) := of_decide_eq_true (by first | (with_reducible assumption) | assumption); have q20 : x24_2 < (a0.size : Int) := of_decide_eq_true (by first | (with_reducible assumption) | assumption); have hx20 := bt_at a0 x24_2; replace p20 := eq_true p20; replace q20 := eq_true q20; have p26 : 0 ≤ (x24_2 : Int) := of_decide_eq_true (by first | (with_reducible assumption) | assumption); have q26 : x24_2 < (a0.size : Int) := of_decide_eq_true (by first | (with_reducible assumption) | assumption); have hx26 := bt_at a0 x24_2; replace p26 := eq_true p26; replace q26 := eq_true q26))
         go_ret
         exact ⟨by first | rfl | (simp [errW_none, errW_some] <;> rfl) | (simp [*, errW_none, errW_some] <;> rfl), by repeat (first | (with_reducible first | exact HB.out | apply below_alloc | apply pw_below_drewN | apply below_drew1) | exact HB.out)⟩
        rw [if_pos c27] at H
        have c27b0 : ((bt a0 x24_2) == 95) = true := beq_iff_eq.mpr c27; have c27b1 : ((bt a0 x24_2) != 95) = false := bne_eq_false_iff_eq.mpr c27; clear c27; have H' := Aside0.mk H; clear H; have p17 : 0 ≤ (x24_2 : Int) := of_decide_eq_true (by first | (with_reducible assumption) | assumption)
        have q17 : x24_2 < (a0.size : Int) := of_decide_eq_true (by first | (with_reducible assumption) | assumption)
        have hx17 := bt_at a0 x24_2; replace p17 := eq_true p17; replace q17 := eq_true q17
        go_wp2_with (first | ((with_reducible refine gate_callee (f := 95) rfl ?_); refine goesL_ (some 30) rfl rfl Tryz.func95 (by kernel_rfl) rfl #[.int .u8 (bt a0 x24_2)] rfl (by (try simp only [List.map_toArray, List.map_cons, List.map_nil]); first | done | rfl | (simp only [List.length_drop, List.length_take]; rfl)) ?_; (with_reducible refine (grammarfile_letter.calls (bt a0 x24_2) false _ A18.out).mono ?_); rintro e w' ⟨rfl, ⟨nd, rfl⟩⟩; refine ⟨_, rfl, ?_⟩; have p20 : 0 ≤ (x24_2 : Int) := of_decide_eq_true (by first | (with_reducible assumption) | assumption); have q20 : x24_2 < (a0.size : Int) := of_decide_eq_true (by first | (with_reducible assumption) | assumption); have hx20 := bt_at a0 x24_2; replace p20 := eq_true p20; replace q20 := eq_true q20; have p26 : 0 ≤ (x24_2 : Int) := of_decide_eq_true (by first | (with_reducible assumption) | assumption); have q26 : x24_2 < (a0.size : Int) := of_decide_eq_true (by first | (with_reducible assumption) | assumption); have hx26 := bt_at a0 x24_2; replace p26 := eq_true p26; replace q26 := eq_true q26))
        go_roundg k2
        case measure => have := HJ1.out; have := HK2.out; omega
        case rel => exact ⟨(wrap64 (x24_2 + 1)), (by first | rfl | (simp; done) | (simp [*]; done)), H', ⟨by have := HJ1.out; have := HK2.out; omega⟩, ⟨by repeat (first | (with_reducible first | exact HB.out | apply below_alloc | apply pw_below_drewN | apply below_drew1) | exact HB.out)⟩⟩
       rw [if_pos c21] at H
       have c21b0 : decide (48 ≤ (bt a0 x24_2)) = true := decide_eq_true c21; clear c21
       by_cases c23 : ((bt a0 x24_2) ≤ 57)
       rotate_left
       ·
        rw [if_neg c23] at H
        have c23b0 : decide ((bt a0 x24_2) ≤ 57) = false := decide_eq_false c23; clear c23
        by_cases c25 : (bt a0 x24_2) = 95
        rotate_left
        ·
         rw [if_neg c25] at H
         have c25b0 : ((bt a0 x24_2) == 95) = false := beq_eq_false_iff_ne.mpr c25; have c25b1 : ((bt a0 x24_2) != 95) = true := bne_iff_ne.mpr c25; obtain rfl := Option.some.inj H; have p17 : 0 ≤ (x24_2 : Int) := of_decide_eq_true (by first | (with_reducible assumption) | assumption)
         have q17 : x24_2 < (a0.size : Int) := of_decide_eq_true (by first | (with_reducible assumption) | assumption)
         have hx17 := bt_at a0 x24_2; replace p17 := eq_true p17; replace q17 := eq_true q17
         go_wp2_with (first | ((with_reducible refine gate_callee (f := 95) rfl ?_); refine goesL_ (some 30) rfl rfl Tryz.func95 (by kernel_rfl) rfl #[.int .u8 (bt a0 x24_2)] rfl (by (try simp only [List.map_toArray, List.map_cons, List.map_nil]); first | done | rfl | (simp only [List.length_drop, List.length_take]; rfl)) ?_; (with_reducible refine (grammarfile_letter.calls (bt a0 x24_2) false _ A18.out).mono ?_); rintro e w' ⟨rfl, ⟨nd, rfl⟩⟩; refine ⟨_, rfl, ?_⟩; have p20 : 0 ≤ (x24_2 : Int) := of_decide_eq_true (by first | (with_reducible assumption) | assumption); have q20 : x24_2 < (a0.size : Int) := of_decide_eq_true (by first | (with_reducible assumption) | assumption); have hx20 := bt_at a0 x24_2; replace p20 := eq_true p20; replace q20 := eq_true q20; have p22 : 0 ≤ (x24_2 : Int) := of_decide_eq_true (by first | (with_reducible assumption) | assumption); have q22 : x24_2 < (a0.size : Int) := of_decide_eq_true (by first | (with_reducible assumption) | assumption); have hx22 := bt_at a0 x24_2; replace p22 := eq_true p22; replace q22 := eq_true q22; have p24 : 0 ≤ (x24_2 : Int) := of_decide_eq_true (by first | (with_reducible assumption) | assumption); have q24 : x24_2 < (a0.size : Int) := of_decide_eq_true (by first | (with_reducible assumption) | assumption); have hx24 := bt_at a0 x24_2; replace p24 := eq_true p24; replace q24 := eq_true q24))
         go_ret
         exact ⟨by first | rfl | (simp [errW_none, errW_some] <;> rfl) | (simp [*, errW_none, errW_some] <;> rfl), by repeat (first | (with_reducible first | exact HB.out | apply below_alloc | apply pw_below_drewN | apply below_drew1) | exact HB.out)⟩
        rw [if_pos c25] at H
        have c25b0 : ((bt a0 x24_2) == 95) = true := beq_iff_eq.mpr c25; have c25b1 : ((bt a0 x24_2) != 95) = false := bne_eq_false_iff_eq.mpr c25; clear c25; have H' := Aside0.mk H; clear H; have p17 : 0 ≤ (x24_2 : Int) := of_decide_eq_true (by first | (with_reducible assumption) | assumption)
        have q17 : x24_2 < (a0.size : Int) := of_decide_eq_true (by first | (with_reducible assumption) | assumption)
        have hx17 := bt_at a0 x24_2; replace p17 := eq_true p17; replace q17 := eq_true q17
        go_wp2_with (first | ((with_reducible refine gate_callee (f := 95) rfl ?_); refine goesL_ (some 30) rfl rfl Tryz.func95 (by kernel_rfl) rfl #[.int .u8 (bt a0 x24_2)] rfl (by (try simp only [List.map_toArray, List.map_cons, List.map_nil]); first | done | rfl | (simp only [List.length_drop, List.length_take]; rfl)) ?_; (with_reducible refine (grammarfile_letter.calls (bt a0 x24_2) false _ A18.out).mono ?_); rintro e w' ⟨rfl, ⟨nd, rfl⟩⟩; refine ⟨_, rfl, ?_⟩; have p20 : 0 ≤ (x24_2 : Int) := of_decide_eq_true (by first | (with_reducible assumption) | assumption); have q20 : x24_2 < (a0.size : Int) := of_decide_eq_true (by first | (with_reducible assumption) | assumption); have hx20 := bt_at a0 x24_2; replace p20 := eq_true p20; replace q20 := eq_true q20; have p22 : 0 ≤ (x24_2 : Int) := of_decide_eq_true (by first | (with_reducible assumption) | assumption); have q22 : x24_2 < (a0.size : Int) := of_decide_eq_true (by first | (with_reducible assumption) | assumption); have hx22 := bt_at a0 x24_2; replace p22 := eq_true p22; replace q22 := eq_true q22; have p24 : 0 ≤ (x24_2 : Int) := of_decide_eq_true (by first | (with_reducible assumption) | assumption); have q24 : x24_2 < (a0.size : Int) := of_decide_eq_true (by first | (with_reducible assumption) | assumption); have hx24 := bt_at a0 x24_2; replace p24 := eq_true p24; replace q24 := eq_true q24))
        go_roundg k2
        case measure => have := HJ1.out; have := HK2.out; omega
        case rel => exact ⟨(wrap64 (x24_2 + 1)), (by first | rfl | (simp; done) | (simp [*]; done)), H', ⟨by have := HJ1.out; have := HK2.out; omega⟩, ⟨by repeat (first | (with_reducible first | exact HB.out | apply below_alloc | apply pw_below_drewN | apply below_drew1) | exact HB.out)⟩⟩
       rw [if_pos c23] at H
       have c23b0 : decide ((bt a0 x24_2) ≤ 57) = true := decide_eq_true c23; clear c23; have H' := Aside0.mk H; clear H; have p17 : 0 ≤ (x24_2 : Int) := of_decide_eq_true (by first | (with_reducible assumption) | assumption)
       have q17 : x24_2 < (a0.size : Int) := of_decide_eq_true (by first | (with_reducible assumption) | assumption)
       have hx17 := bt_at a0 x24_2; replace p17 := eq_true p17; replace q17 := eq_true q17
       go_wp2_with (first | ((with_reducible refine gate_callee (f := 95) rfl ?_); refine goesL_ (some 30) rfl rfl Tryz.func95 (by kernel_rfl) rfl #[.int .u8 (bt a0 x24_2)] rfl (by (try simp only [List.map_toArray, List.map_cons, List.map_nil]); first | done | rfl | (simp only [List.length_drop, List.length_take]; rfl)) ?_; (with_reducible refine (grammarfile_letter.calls (bt a0 x24_2) false _ A18.out).mono ?_); rintro e w' ⟨rfl, ⟨nd, rfl⟩⟩; refine ⟨_, rfl, ?_⟩; have p20 : 0 ≤ (x24_2 : Int) := of_decide_eq_true (by first | (with_reducible assumption) | assumption); have q20 : x24_2 < (a0.size : Int) := of_decide_eq_true (by first | (with_reducible assumption) | assumption); have hx20 := bt_at a0 x24_2; replace p20 := eq_true p20; replace q20 := eq_true q20; have p22 : 0 ≤ (x24_2 : Int) := of_decide_eq_true (by first | (with_reducible assumption) | assumption); have q22 : x24_2 < (a0.size : Int) := of_decide_eq_true (by first | (with_reducible assumption) | assumption); have hx22 := bt_at a0 x24_2; replace p22 := eq_true p22; replace q22 := eq_true q22))
       go_roundg k2
       case measure => have := HJ1.out; have := HK2.out; omega
       case rel => exact ⟨(wrap64 (x24_2 + 1)), (by first | rfl | (simp; done) | (simp [*]; done)), H', ⟨by have := HJ1.out; have := HK2.out; omega⟩, ⟨by repeat (first | (with_reducible first | exact HB.out | apply below_alloc | apply pw_below_drewN | apply below_drew1) | exact HB.out)⟩⟩
      subst c19; have H1 : (grammarfile_name.l0 k2 a0 (a0.size : Int) (wrap64 (x24_2 + 1))) = some r := by rw [if_pos rfl] at H; exact H
      clear H; have H := H1; clear H1; have H' := Aside0.mk H; clear H; have p17 : 0 ≤ (x24_2 : Int) := of_decide_eq_true (by first | (with_reducible assumption) | assumption)
      have q17 : x24_2 < (a0.size : Int) := of_decide_eq_true (by first | (with_reducible assumption) | assumption)
      have hx17 := bt_at a0 x24_2; replace p17 := eq_true p17; replace q17 := eq_true q17
      go_wp2_with (first | ((with_reducible refine gate_callee (f := 95) rfl ?_); refine goesL_ (some 30) rfl rfl Tryz.func95 (by kernel_rfl) rfl #[.int .u8 (bt a0 x24_2)] rfl (by (try simp only [List.map_toArray, List.map_cons, List.map_nil]); first | done | rfl | (simp only [List.length_drop, List.length_take]; rfl)) ?_; (with_reducible refine (grammarfile_letter.calls (bt a0 x24_2) true _ A18.out).mono ?_); rintro e w' ⟨rfl, ⟨nd, rfl⟩⟩; refine ⟨_, rfl, ?_⟩))
      go_roundg k2
      case measure => have := HJ1.out; have := HK2.out; omega
      case rel => exact ⟨(wrap64 (x24_2 + 1)), (by first | rfl | (simp; done) | (simp [*]; done)), H', ⟨by have := HJ1.out; have := HK2.out; omega⟩, ⟨by repeat (first | (with_reducible first | exact HB.out | apply below_alloc | apply pw_below_drewN | apply below_drew1) | exact HB.out)⟩⟩
   subst c13; have H1 : (some false) = some r := by rw [if_pos rfl] at H; exact H
   clear H; have H := H1; clear H1; obtain rfl := Option.some.inj H
   go_wp2
   go_ret
   exact ⟨by first | rfl | (simp [errW_none, errW_some] <;> rfl) | (simp [*, errW_none, errW_some] <;> rfl), by repeat (first | (with_reducible first | exact HB.out | apply below_alloc | apply pw_below_drewN | apply below_drew1) | exact HB.out)⟩
set_option maxHeartbeats 1000000 in
theorem grammarfile_distinct.dist0 (A : Option Addr) (c : Nat) (w : World) : Calls Tryz.prog 58 #[.slice A 0 c] w fun e w' => e = .returned (.bool true) ∧ Below w.heap.size w w' := by
 go_enter Tryz.func58, Tryz.ntmps58
 go_wp2
 go_loop [7, 8] (fun v7 v8 => v7 = .int .i64 0) (fun v7 v8 => 0)
 case atStart => rfl
 case round =>
  subst hrel
  go_wp2
  go_ret
  exact ⟨rfl, Below.refl _ _⟩
def grammarfile_distinct.dist1R (w : World) (v : Value) (wr : World) : Prop := ∃ k : Int, v = .int .i64 k ∧ ((k = 0 ∧ wr = w) ∨ (k = 1 ∧ Below w.heap.size w wr))
set_option maxHeartbeats 1000000 in
theorem grammarfile_distinct.dist1_yes (k : Nat) (ad : Addr) (c : Nat) (s : ByteArray) (w : World) (h0 : w.cell? ad = some (.string s)) (hc : 1 ≤ c) (h : grammarfile_name.f k s = some true) : Calls Tryz.prog 58 #[.slice (some ad) 1 c] w fun e w' => e = .returned (.bool true) ∧ Below w.heap.size w w' := by
 have H := Aside0.mk h; clear h
 go_enter Tryz.func58, Tryz.ntmps58
 go_wp2
 go_loopw [3, 4, 7, 8, 9, 10, 11, 12, 13, 14, 15, 16, 17, 18, 19, 20, 21, 22] (fun v3 v4 v7 v8 v9 v10 v11 v12 v13 v14 v15 v16 v17 v18 v19 v20 v21 v22 wr => grammarfile_distinct.dist1R w v7 wr) (fun v3 v4 v7 v8 v9 v10 v11 v12 v13 v14 v15 v16 v17 v18 v19 v20 v21 v22 wr => 2 - (intOf v7).toNat)
 case atStart => exact ⟨0, rfl, .inl ⟨rfl, rfl⟩⟩
 case round =>
  obtain ⟨j, rfl, ⟨rfl, rfl⟩ | ⟨rfl, hb⟩⟩ := hrel
  ·
   go_wp2_with fail
   refine (grammarfile_name.calls k s true _ H.out).mono ?_
   rintro e w1 ⟨rfl, hb⟩; have HB := Aside0.mk hb; clear hb
   go_wp2_with fail
   refine (Tryz.slices_Contains_string_empty _ _ s _).mono ?_
   rintro e w2 ⟨rfl, rfl⟩
   go_wp2
   go_roundw
   case rel => exact ⟨1, rfl, .inr ⟨rfl, HB.out⟩⟩
   case measure => simp [intOf]
  ·
   go_wp2
   go_ret
   exact ⟨rfl, hb⟩
set_option maxHeartbeats 1000000 in
theorem grammarfile_distinct.dist1_no (k : Nat) (ad : Addr) (c : Nat) (s : ByteArray) (w : World) (h0 : w.cell? ad = some (.string s)) (hc : 1 ≤ c) (h : grammarfile_name.f k s = some false) : Calls Tryz.prog 58 #[.slice (some ad) 1 c] w fun e w' => e = .returned (.bool false) ∧ Below w.heap.size w w' := by
 have H := Aside0.mk h; clear h
 go_enter Tryz.func58, Tryz.ntmps58
 go_wp2
 go_loopw [3, 4, 7, 8, 9, 10, 11, 12, 13, 14, 15, 16, 17, 18, 19, 20, 21, 22] (fun v3 v4 v7 v8 v9 v10 v11 v12 v13 v14 v15 v16 v17 v18 v19 v20 v21 v22 wr => v7 = .int .i64 0 ∧ wr = w) (fun v3 v4 v7 v8 v9 v10 v11 v12 v13 v14 v15 v16 v17 v18 v19 v20 v21 v22 wr => 2 - (intOf v7).toNat)
 case atStart => exact ⟨rfl, rfl⟩
 case round =>
  obtain ⟨rfl, rfl⟩ := hrel
  go_wp2_with fail
  refine (grammarfile_name.calls k s false _ H.out).mono ?_
  rintro e w1 ⟨rfl, hb⟩; have HB := Aside0.mk hb; clear hb
  go_wp2
  go_ret
  exact ⟨rfl, HB.out⟩
def grammarfile_distinct.f (k : Nat) (l0 : List ByteArray) : Option Bool := match l0 with
 | [] => some true
 | [s] => grammarfile_name.f k s
 | _ => none
theorem grammarfile_distinct.calls (k : Nat) (A0 : Option Addr) (c0 : Nat) (l0 : List ByteArray) (r : Bool) (w : World) (hr0 : Kd.C Kd.string w A0 l0.length l0) (hc0 : l0.length ≤ c0) (h : grammarfile_distinct.f k l0 = some r) :
  Calls Tryz.prog 58 #[.slice A0 l0.length c0] w fun e w' => e = .returned (.bool r) ∧ Below w.heap.size w w' := by
 rcases l0 with _ | ⟨s, _ | ⟨t, l⟩⟩
 ·
  obtain rfl := Option.some.inj h
  exact grammarfile_distinct.dist0 A0 c0 w
 ·
  obtain ⟨ad, rfl, hc⟩ := hr0.2.2 (by simp)
  obtain ⟨c, _, hk, hcell⟩ := hc 0 s rfl; have hk' : c = [.string s] := hk; have x0 := hcell 0 (.string s) (by rw [hk']; rfl)
  have e0 : ad.add (0 * Kd.string.sz + 0) = ad := by simp [Addr.add]
  rw [e0] at x0
  have h' : grammarfile_name.f k s = some r := h
  cases r with
  | true => exact grammarfile_distinct.dist1_yes k ad c0 s w x0 hc0 h'
  | false => exact grammarfile_distinct.dist1_no k ad c0 s w x0 hc0 h'
 ·
  cases h
end Go.Proofs.YtdcfcpgpbbgceaaGreatDoor.PAll
-- dedented
