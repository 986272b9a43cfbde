-- printed by a variant of the print (wip/mkprint.py)
import Derived.Test.YtdcfcpgpbbgceaaGreatDoorPAllx0
import Derived.Test.YtdcfcpgpbbgceaaGreatDoorPAllx9
import Derived.Test.YtdcfcpgpbbgceaaGreatDoorPAllx15
import Derived.Test.YtdcfcpgpbbgceaaGreatDoorPAllx16
import Derived.Test.YtdcfcpgpbbgceaaGreatDoorPAllx17d
namespace Go.Proofs.YtdcfcpgpbbgceaaGreatDoor.PAll
open Go.RowKit Go.Proofs.YtdcfcpgpbbgceaaGreatDoorW.PrintWords Go.Proofs.YtdcfcpgpbbgceaaGreatDoorW.PrintLast Go.Proofs.YtdcfcpgpbbgceaaGreatDoorW.PrintMore
attribute [local go_sem] max2_int min2_int max_two min_two max_three min_three max_four min_four   -- for this text's walks alone
set_option linter.unusedVariables false
set_option linter.unusedSimpArgs false
set_option maxHeartbeats 8000000 in
set_option maxRecDepth 100000 in
theorem emendateref34_line.calls (k : Nat) (P0_0_ : Nat → Prop) (u9000_ : Value) (l0_0 : List Int) (P0_1_ : Nat → Prop) (u9001_ : Value) (l0_1 : List Int) (P0_2_ : Nat → Prop) (A0_2 : Option Addr) (c0_2 : Nat) (l0_2 : List (List Int)) (a0_3 : Int) (a0_4 : Int) (A1 : Option Addr) (c1 : Nat) (l1 : List ByteArray) (A2 : Option Addr) (c2 : Nat) (l2 : List ByteArray) (r1 : List Int) (r2 : List Int) (r3 : List (List Int)) (r4 : Int) (r5 : Int) (r6 : Int) (w0 w : World) (hB : Below w0.heap.size w0 w) (ho0_0 : Kd.R (Kd.int .i64) 3 w w0.heap.size P0_0_ u9000_ l0_0) (hp0_0_0_1 : ∀ k_, P0_0_ k_ → ¬ P0_1_ k_) (ho0_1 : Kd.R (Kd.int .i64) 3 w w0.heap.size P0_1_ u9001_ l0_1) (hp0_1_0_0 : ∀ k_, P0_1_ k_ → ¬ P0_0_ k_) (hs0_2 : Kd.V (Kd.slice 3 (Kd.int .i64)) 22 w w0.heap.size (fun k_ => P0_2_ k_ ∧ some k_ ≠ (u9000_ : Value).ownBlock ∧ some k_ ≠ (u9001_ : Value).ownBlock) (.slice A0_2 l0_2.length c0_2) l0_2) (hr1 : ∀ W_, Kept w W_ (fun k_ => P0_0_ k_ ∨ P0_1_ k_) → Kd.C Kd.string W_ A1 l1.length l1) (hc1 : l1.length ≤ c1) (hr2 : ∀ W_, Kept w W_ (fun k_ => P0_0_ k_ ∨ P0_1_ k_) → Kd.C Kd.string W_ A2 l2.length l2) (hc2 : l2.length ≤ c2) (h : emendateref34_line.f k l0_0 l0_1 l0_2 a0_3 a0_4 l1 l2 = some (r1, r2, r3, r4, r5, r6)) :
  Calls Tryz.prog 33 #[.agg #[u9000_, u9001_, .slice A0_2 l0_2.length c0_2, .int .i64 a0_3, .int .i64 a0_4], .slice A1 l1.length c1, .slice A2 l2.length c2] w fun e w' => ∃ v0_ v1_ v2_ : Value, e = .returned (.tuple #[.agg #[v0_, v1_, v2_, .int .i64 r4, .int .i64 r5], .int .i64 r6]) ∧ Kd.R (Kd.int .i64) 3 w' w0.heap.size (fun k_ => ((P0_0_ k_ ∨ P0_1_ k_) ∨ w.heap.size ≤ k_) ∧ some k_ ≠ (v1_ : Value).ownBlock) v0_ r1 ∧ Kd.R (Kd.int .i64) 3 w' w0.heap.size (fun k_ => ((P0_0_ k_ ∨ P0_1_ k_) ∨ w.heap.size ≤ k_) ∧ some k_ ≠ (v0_ : Value).ownBlock) v1_ r2 ∧ Kd.V (Kd.slice 3 (Kd.int .i64)) 22 w' w0.heap.size (fun k_ => ((P0_0_ k_ ∨ P0_1_ k_ ∨ P0_2_ k_) ∨ w.heap.size ≤ k_) ∧ some k_ ≠ (v0_ : Value).ownBlock ∧ some k_ ≠ (v1_ : Value).ownBlock) v2_ r3 ∧ Below w0.heap.size w0 w' ∧ Kept w w' (fun k_ => P0_0_ k_ ∨ P0_1_ k_) := by
 have hu25 := Tryz.underlying25; have HO0_0 := Aside0.mk (show Kd.R (Kd.int .i64) 3 w w0.heap.size (fun k_ => ((P0_0_ k_ ∨ P0_1_ k_) ∨ w.heap.size ≤ k_) ∧ some k_ ≠ (u9001_ : Value).ownBlock) u9000_ l0_0 from Kd.R_mono ho0_0 (fun k_ hk => ⟨(.inl (.inl hk)), fun e_ => hp0_0_0_1 k_ hk (ho0_1.1 k_ e_.symm)⟩))
 have HO0_1 := Aside0.mk (show Kd.R (Kd.int .i64) 3 w w0.heap.size (fun k_ => ((P0_0_ k_ ∨ P0_1_ k_) ∨ w.heap.size ≤ k_) ∧ some k_ ≠ (u9000_ : Value).ownBlock) u9001_ l0_1 from Kd.R_mono ho0_1 (fun k_ hk => ⟨(.inl (.inr hk)), fun e_ => hp0_1_0_0 k_ hk (ho0_0.1 k_ e_.symm)⟩))
 have HO0_2 := Aside0.mk (show Kd.V (Kd.slice 3 (Kd.int .i64)) 22 w w0.heap.size (fun k_ => ((P0_0_ k_ ∨ P0_1_ k_ ∨ P0_2_ k_) ∨ w.heap.size ≤ k_) ∧ some k_ ≠ (u9000_ : Value).ownBlock ∧ some k_ ≠ (u9001_ : Value).ownBlock) (.slice A0_2 l0_2.length c0_2) l0_2 from Kd.V_mono hs0_2 (fun k_ hk => ⟨.inl (.inr (.inr hk.1)), hk.2⟩))
 have HR1 := Aside0.mk hr1; have HC1 := Aside0.mk hc1; clear hr1 hc1; have HR2 := Aside0.mk hr2; have HC2 := Aside0.mk hc2; clear hr2 hc2; have HK := Aside0.mk (Kept.refl w (fun k_ => P0_0_ k_ ∨ P0_1_ k_))
 have HW0 := Aside0.mk hB.size; have HB := Aside0.mk hB; clear hB; have H : (if 0 < (l1.length : Int) then (if (rdOf ByteArray.empty l1 0).toList = ([105, 110, 115, 101, 114, 116] : List UInt8) then (emendateref34_line.j0 k l1 l2 0 1 (rdOf ByteArray.empty l1 0) ((rdOf ByteArray.empty l1 0).toList == ([105, 110, 115, 101, 114, 116] : List UInt8)) l0_0 l0_1 l0_2 a0_3 a0_4) else (emendateref34_line.j0 k l1 l2 0 1 (rdOf ByteArray.empty l1 0) ((rdOf ByteArray.empty l1 0).toList == ([100, 101, 108, 101, 116, 101] : List UInt8)) l0_0 l0_1 l0_2 a0_3 a0_4)) else (none)) = some (r1, r2, r3, r4, r5, r6) := h; clear h
 by_cases c4 : 0 < (l1.length : Int)
 rotate_left
 ·
  rw [if_neg c4] at H
  exact absurd H (by simp)
 rw [if_pos c4] at H
 have c4b0 : decide (0 < (l1.length : Int)) = true := decide_eq_true c4; have c4b1 : decide (0 < l1.length) = true := decide_eq_true (by omega)
 clear c4; have HC5 := Aside0.mk H; clear H; obtain ⟨Ao6, co6, eo6⟩ := Kd.R_slice HO0_0.out; subst eo6; obtain ⟨Ao7, co7, eo7⟩ := Kd.R_slice HO0_1.out; subst eo7
 go_enter Tryz.func33, Tryz.ntmps33
 go_upto_block 0 with (first | ((with_reducible refine gate_dst (N := 3) rfl ?_); refine box_event ?hg (N := 3) ?hd (cs := #[.slice Ao6 l0_0.length co6, .slice Ao7 l0_1.length co7, .slice A0_2 l0_2.length c0_2, .int .i64 a0_3, .int .i64 a0_4]) (t := 25) ?hr ?_; (case hd => rfl); (case hg => rfl); (case hr => first | (go_simp; done) | (go_simp; rfl)); intro gb264 hg w8 hbox hb; have n0_ := Aside0.mk (Kd.R_below (by exact HO0_0.out) hb); have n1_ := Aside0.mk (Kd.R_below (by exact HO0_1.out) hb); have n2_ := Aside0.mk (Kd.V_below (Kd.V_elderB (by exact HO0_2.out) gb264 (Nat.le_of_eq hg.symm)) hb); have n3_ := Aside0.mk (Kept.below (S := (fun k_ => P0_0_ k_ ∨ P0_1_ k_)) (by repeat (first | (with_reducible first | exact HK.out | apply Kept.alloc | apply Kept.drewN | apply Kept.drew) | exact HK.out)) hb); have n4_ := Aside0.mk (below_step (by repeat (first | (with_reducible first | exact HB.out | apply below_alloc | apply pw_below_drewN | apply below_drew1) | exact HB.out)) hb); have n5_ := Aside0.mk (hbox); have n6_ := Aside0.mk ((by rw [hg]; exact (by first | exact HK.out.1 | exact (show Kept w _ (fun k_ => P0_0_ k_ ∨ P0_1_ k_) from by repeat (first | (with_reducible first | exact HK.out | apply Kept.alloc | apply Kept.drewN | apply Kept.drew) | exact HK.out)).1) : w.heap.size ≤ gb264)); have n7_ := Aside0.mk ((by rw [hg]; exact (below_size (by repeat (first | (with_reducible first | exact HB.out | apply below_alloc | apply pw_below_drewN | apply below_drew1) | exact HB.out))) : w0.heap.size ≤ gb264)); clear HO0_0; clear HO0_1; clear HO0_2; clear HK; clear HB; have HO0_0 := n0_; have HO0_1 := n1_; have HO0_2 := n2_; have HK := n3_; have HB := n4_; have BK264 := n5_; have GW264 := n6_; have GE264 := n7_; clear n0_ n1_ n2_ n3_ n4_ n5_ n6_ n7_; clear hb hbox hg) | ((with_reducible refine gate_dst (N := 6) rfl ?_); refine box_event ?hg (N := 6) ?hd (cs := #[.slice none 0 0, .slice none 0 0, .slice none 0 0, .int .i64 0, .int .i64 0]) (t := 25) ?hr ?_; (case hd => rfl); (case hg => rfl); (case hr => first | (go_simp; done) | (go_simp; rfl)); intro gb265 hg w9 hbox hb; have n0_ := Aside0.mk (Kd.R_below (by exact HO0_0.out) hb); have n1_ := Aside0.mk (Kd.R_below (by exact HO0_1.out) hb); have n2_ := Aside0.mk (Kd.V_below (Kd.V_elderB (by exact HO0_2.out) gb265 (Nat.le_of_eq hg.symm)) hb); have n3_ := Aside0.mk (blk_below (g := gb264) (o := .cells #[.slice Ao6 l0_0.length co6, .slice Ao7 l0_1.length co7, .slice A0_2 l0_2.length c0_2, .int .i64 a0_3, .int .i64 a0_4] 25 (0, 0)) (by exact BK264.out) hb); have n4_ := Aside0.mk (Kept.below (S := (fun k_ => P0_0_ k_ ∨ P0_1_ k_)) (by repeat (first | (with_reducible first | exact HK.out | apply Kept.alloc | apply Kept.drewN | apply Kept.drew | refine Kept.setCell ?_ (.inr GW264.out) _) | exact HK.out)) hb); have n5_ := Aside0.mk (below_step (by repeat (first | (with_reducible first | exact HB.out | apply below_alloc | apply pw_below_drewN | apply below_drew1 | refine below_set ?_ GE264.out) | exact HB.out)) hb); have n6_ := Aside0.mk (hbox); have n7_ := Aside0.mk ((by rw [hg]; exact (by first | exact HK.out.1 | exact (show Kept w _ (fun k_ => P0_0_ k_ ∨ P0_1_ k_) from by repeat (first | (with_reducible first | exact HK.out | apply Kept.alloc | apply Kept.drewN | apply Kept.drew | refine Kept.setCell ?_ (.inr GW264.out) _) | exact HK.out)).1) : w.heap.size ≤ gb265)); have n8_ := Aside0.mk ((by rw [hg]; exact (below_size (by repeat (first | (with_reducible first | exact HB.out | apply below_alloc | apply pw_below_drewN | apply below_drew1 | refine below_set ?_ GE264.out) | exact HB.out))) : w0.heap.size ≤ gb265)); have n9_ := Aside0.mk ((by rw [hg]; exact Nat.ne_of_lt (blk_lt (g := gb264) (o := .cells #[.slice Ao6 l0_0.length co6, .slice Ao7 l0_1.length co7, .slice A0_2 l0_2.length c0_2, .int .i64 a0_3, .int .i64 a0_4] 25 (0, 0)) (by exact BK264.out)) : gb264 ≠ gb265)); have n10_ := Aside0.mk ((by rw [hg]; exact Nat.ne_of_gt (blk_lt (g := gb264) (o := .cells #[.slice Ao6 l0_0.length co6, .slice Ao7 l0_1.length co7, .slice A0_2 l0_2.length c0_2, .int .i64 a0_3, .int .i64 a0_4] 25 (0, 0)) (by exact BK264.out)) : gb265 ≠ gb264)); clear HO0_0; clear HO0_1; clear HO0_2; clear BK264; clear HK; clear HB; have HO0_0 := n0_; have HO0_1 := n1_; have HO0_2 := n2_; have BK264 := n3_; have HK := n4_; have HB := n5_; have BK265 := n6_; have GW265 := n7_; have GE265 := n8_; have NB264_265 := n9_; have NB265_264 := n10_; clear n0_ n1_ n2_ n3_ n4_ n5_ n6_ n7_ n8_ n9_ n10_; clear hb hbox hg; have p266 : 0 ≤ (0 : Int) := (by omega); have q266 : 0 < (l1.length : Int) := of_decide_eq_true (by first | (with_reducible assumption) | assumption); obtain ⟨ad266, e266, hx266_0⟩ := Kd.at_string (Kd.C_kept_now HR1.out HK.out) 0 p266 q266; cases e266; have qi266 : (0 < l1.length) = True := eq_true (by omega); (try rw [show ((0 : Int)).toNat = 0 from rfl] at hx266_0); (try rw [Addr.add_zero'] at hx266_0); replace p266 := eq_true p266; replace q266 := eq_true q266))
 (try simp only [Act.put, List.setIfInBounds_toArray, List.set_cons_zero, List.set_cons_succ])
 go_cut [8, 9] (fun v8 v9 wc => ∃ (kq : Nat) (x8_4 : Int) (x9_4 : Int) (x266003_4 : Int) (x266004_4 : Int), v8 = .int .i64 x8_4 ∧ v9 = .int .i64 x9_4 ∧ Aside0 (emendateref34_line.j1 kq l1 l2 x8_4 x9_4 l0_0 l0_1 l0_2 a0_3 a0_4 = some (r1, r2, r3, r4, r5, r6)) ∧ Aside0 (kq ≤ k) ∧ Aside0 (Kd.R (Kd.int .i64) 3 wc w0.heap.size (fun k_ => ((P0_0_ k_ ∨ P0_1_ k_) ∨ w.heap.size ≤ k_) ∧ some k_ ≠ ((.slice Ao7 l0_1.length co7) : Value).ownBlock) (.slice Ao6 l0_0.length co6) l0_0) ∧ Aside0 (Kd.R (Kd.int .i64) 3 wc w0.heap.size (fun k_ => ((P0_0_ k_ ∨ P0_1_ k_) ∨ w.heap.size ≤ k_) ∧ some k_ ≠ ((.slice Ao6 l0_0.length co6) : Value).ownBlock) (.slice Ao7 l0_1.length co7) l0_1) ∧ Aside0 (Kd.V (Kd.slice 3 (Kd.int .i64)) 22 wc w0.heap.size (fun k_ => ((P0_0_ k_ ∨ P0_1_ k_ ∨ P0_2_ k_) ∨ w.heap.size ≤ k_) ∧ some k_ ≠ ((.slice Ao6 l0_0.length co6) : Value).ownBlock ∧ some k_ ≠ ((.slice Ao7 l0_1.length co7) : Value).ownBlock ∧ k_ ≠ gb264 ∧ k_ ≠ gb265) (.slice A0_2 l0_2.length c0_2) l0_2) ∧ Aside0 (wc.heap[gb264]? = some (.cells #[(.slice Ao6 l0_0.length co6), (.slice Ao7 l0_1.length co7), (.slice A0_2 l0_2.length c0_2), .int .i64 a0_3, .int .i64 a0_4] 25 (0, 0))) ∧ Aside0 (wc.heap[gb265]? = some (.cells #[(.slice none 0 0), (.slice none 0 0), (.slice none 0 0), .int .i64 x266003_4, .int .i64 x266004_4] 25 (0, 0))) ∧ Aside0 (Kept w wc (fun k_ => P0_0_ k_ ∨ P0_1_ k_)) ∧ Aside0 (Below w0.heap.size w0 wc))
 case first =>
  have H := HC5.out; clear HC5; have HC10 := Aside0.mk H; clear H
  go_upto_if 19 with (fail)
  go_cut [19] (fun v19 wc => ∃ (kq : Nat) (x19_9 : Bool), v19 = .bool x19_9 ∧ Aside0 (emendateref34_line.j0 kq l1 l2 0 1 (rdOf ByteArray.empty l1 0) x19_9 l0_0 l0_1 l0_2 a0_3 a0_4 = some (r1, r2, r3, r4, r5, r6)) ∧ Aside0 (kq ≤ k) ∧ Aside0 (Kd.R (Kd.int .i64) 3 wc w0.heap.size (fun k_ => ((P0_0_ k_ ∨ P0_1_ k_) ∨ w.heap.size ≤ k_) ∧ some k_ ≠ ((.slice Ao7 l0_1.length co7) : Value).ownBlock) (.slice Ao6 l0_0.length co6) l0_0) ∧ Aside0 (Kd.R (Kd.int .i64) 3 wc w0.heap.size (fun k_ => ((P0_0_ k_ ∨ P0_1_ k_) ∨ w.heap.size ≤ k_) ∧ some k_ ≠ ((.slice Ao6 l0_0.length co6) : Value).ownBlock) (.slice Ao7 l0_1.length co7) l0_1) ∧ Aside0 (Kd.V (Kd.slice 3 (Kd.int .i64)) 22 wc w0.heap.size (fun k_ => ((P0_0_ k_ ∨ P0_1_ k_ ∨ P0_2_ k_) ∨ w.heap.size ≤ k_) ∧ some k_ ≠ ((.slice Ao6 l0_0.length co6) : Value).ownBlock ∧ some k_ ≠ ((.slice Ao7 l0_1.length co7) : Value).ownBlock ∧ k_ ≠ gb264 ∧ k_ ≠ gb265) (.slice A0_2 l0_2.length c0_2) l0_2) ∧ Aside0 (wc.heap[gb264]? = some (.cells #[(.slice Ao6 l0_0.length co6), (.slice Ao7 l0_1.length co7), (.slice A0_2 l0_2.length c0_2), .int .i64 a0_3, .int .i64 a0_4] 25 (0, 0))) ∧ Aside0 (wc.heap[gb265]? = some (.cells #[(.slice none 0 0), (.slice none 0 0), (.slice none 0 0), .int .i64 0, .int .i64 0] 25 (0, 0))) ∧ Aside0 (Kept w wc (fun k_ => P0_0_ k_ ∨ P0_1_ k_)) ∧ Aside0 (Below w0.heap.size w0 wc))
  case first =>
   have H := HC10.out; clear HC10
   by_cases c11 : (rdOf ByteArray.empty l1 0).toList = ([105, 110, 115, 101, 114, 116] : List UInt8)
   rotate_left
   ·
    rw [if_neg c11] at H
    have c11b0 : ((rdOf ByteArray.empty l1 0).toList == ([105, 110, 115, 101, 114, 116] : List UInt8)) = false := beq_eq_false_iff_ne.mpr c11; have c11b1 : ((rdOf ByteArray.empty l1 0).toList != ([105, 110, 115, 101, 114, 116] : List UInt8)) = true := bne_iff_ne.mpr c11
    (first | rw [c11b0] | (simp only [i64_w, i32_w]; rw [c11b0]) | skip)
    have H' := Aside0.mk H; clear H
    go_wp2
    go_meet
    case rel => exact ⟨_, (((rdOf ByteArray.empty l1 0).toList == ([100, 101, 108, 101, 116, 101] : List UInt8))), (by first | rfl | (simp; done) | (simp [*]; done)), H', ⟨by first | omega | exact Nat.le_refl _⟩, ⟨by exact HO0_0.out⟩, ⟨by exact HO0_1.out⟩, ⟨by exact Kd.V_mono HO0_2.out (fun _ hk => ⟨hk.1.1.1, ⟨hk.1.1.2.1, ⟨hk.1.1.2.2, ⟨hk.1.2, hk.2⟩⟩⟩⟩)⟩, ⟨by exact BK264.out⟩, ⟨by exact BK265.out⟩, ⟨by repeat (first | (with_reducible first | exact HK.out | apply Kept.alloc | apply Kept.drewN | apply Kept.drew | refine Kept.setCell ?_ (.inr GW264.out) _ | refine Kept.setCell ?_ (.inr GW265.out) _) | exact HK.out)⟩, ⟨by repeat (first | (with_reducible first | exact HB.out | apply below_alloc | apply pw_below_drewN | apply below_drew1 | refine below_set ?_ GE264.out | refine below_set ?_ GE265.out) | exact HB.out)⟩⟩
   rw [if_pos c11] at H
   have c11b0 : ((rdOf ByteArray.empty l1 0).toList == ([105, 110, 115, 101, 114, 116] : List UInt8)) = true := beq_iff_eq.mpr c11; have c11b1 : ((rdOf ByteArray.empty l1 0).toList != ([105, 110, 115, 101, 114, 116] : List UInt8)) = false := bne_eq_false_iff_eq.mpr c11; clear c11
   (first | rw [c11b0] | (simp only [i64_w, i32_w]; rw [c11b0]) | skip)
   have H' := Aside0.mk H; clear H
   go_wp2
   go_meet
   case rel => exact ⟨_, (((rdOf ByteArray.empty l1 0).toList == ([105, 110, 115, 101, 114, 116] : List UInt8))), (by first | rfl | (simp; done) | (simp [*]; done)), H', ⟨by first | omega | exact Nat.le_refl _⟩, ⟨by exact HO0_0.out⟩, ⟨by exact HO0_1.out⟩, ⟨by exact Kd.V_mono HO0_2.out (fun _ hk => ⟨hk.1.1.1, ⟨hk.1.1.2.1, ⟨hk.1.1.2.2, ⟨hk.1.2, hk.2⟩⟩⟩⟩)⟩, ⟨by exact BK264.out⟩, ⟨by exact BK265.out⟩, ⟨by repeat (first | (with_reducible first | exact HK.out | apply Kept.alloc | apply Kept.drewN | apply Kept.drew | refine Kept.setCell ?_ (.inr GW264.out) _ | refine Kept.setCell ?_ (.inr GW265.out) _) | exact HK.out)⟩, ⟨by repeat (first | (with_reducible first | exact HB.out | apply below_alloc | apply pw_below_drewN | apply below_drew1 | refine below_set ?_ GE264.out | refine below_set ?_ GE265.out) | exact HB.out)⟩⟩
  case rest =>
   clear HC10
   try clear c1
   try clear c2
   try clear p2
   try clear q2
   try clear hx2
   try clear qi2
   try clear c3
   try clear c4
   try clear c4b0
   try clear c4b1
   try clear c11
   try clear c11b0
   try clear c11b1
   try clear hx266_0
   try clear p266
   try clear q266
   obtain ⟨kq, x19_9, rfl, HA, HJ9, HO_265000, HO_265001, HO_265002, BK264, BK265, HK, HB⟩ := hcut
   cases kq with
   | zero => exact absurd HA.out (by simp [emendateref34_line.j0])
   | succ kj9 =>
    have H := HA.out; clear HA
    simp only [emendateref34_line.j0] at H
    by_cases c12 : x19_9 = true
    rotate_left
    ·
     replace c12 := Bool.eq_false_iff.mpr c12; subst c12; have H1 : (if (rdOf ByteArray.empty l1 0).toList = ([114, 101, 112, 108, 97, 99, 101] : List UInt8) then (emendateref34_line.j1 kj9 l1 l2 2 1 l0_0 l0_1 l0_2 a0_3 a0_4) else (if (rdOf ByteArray.empty l1 0).toList = ([115, 119, 97, 112] : List UInt8) then (emendateref34_line.j1 kj9 l1 l2 0 0 l0_0 l0_1 l0_2 a0_3 a0_4) else (if (rdOf ByteArray.empty l1 0).toList = ([117, 110, 107, 110, 111, 119, 110] : List UInt8) then (emendateref34_line.j1 kj9 l1 l2 0 1 l0_0 l0_1 l0_2 a0_3 a0_4) else (some (l0_0, l0_1, l0_2, a0_3, a0_4, 3))))) = some (r1, r2, r3, r4, r5, r6) := by rw [if_neg (show ¬ (false = true) by decide)] at H; exact H
     clear H; have H := H1; clear H1
     by_cases c13 : (rdOf ByteArray.empty l1 0).toList = ([114, 101, 112, 108, 97, 99, 101] : List UInt8)
     rotate_left
     ·
      rw [if_neg c13] at H
      have c13b0 : ((rdOf ByteArray.empty l1 0).toList == ([114, 101, 112, 108, 97, 99, 101] : List UInt8)) = false := beq_eq_false_iff_ne.mpr c13; have c13b1 : ((rdOf ByteArray.empty l1 0).toList != ([114, 101, 112, 108, 97, 99, 101] : List UInt8)) = true := bne_iff_ne.mpr c13
      by_cases c14 : (rdOf ByteArray.empty l1 0).toList = ([115, 119, 97, 112] : List UInt8)
      rotate_left
      ·
       rw [if_neg c14] at H
       have c14b0 : ((rdOf ByteArray.empty l1 0).toList == ([115, 119, 97, 112] : List UInt8)) = false := beq_eq_false_iff_ne.mpr c14; have c14b1 : ((rdOf ByteArray.empty l1 0).toList != ([115, 119, 97, 112] : List UInt8)) = true := bne_iff_ne.mpr c14
       by_cases c15 : (rdOf ByteArray.empty l1 0).toList = ([117, 110, 107, 110, 111, 119, 110] : List UInt8)
       rotate_left
       ·
        rw [if_neg c15] at H
        have c15b0 : ((rdOf ByteArray.empty l1 0).toList == ([117, 110, 107, 110, 111, 119, 110] : List UInt8)) = false := beq_eq_false_iff_ne.mpr c15; have c15b1 : ((rdOf ByteArray.empty l1 0).toList != ([117, 110, 107, 110, 111, 119, 110] : List UInt8)) = true := bne_iff_ne.mpr c15
        simp only [Option.some.injEq, Prod.mk.injEq] at H
        obtain ⟨rfl, rfl, rfl, rfl, rfl, rfl⟩ := H; have hnb16 := NB264_265.out; have hnc16 := NB265_264.out; have hcz17_0 : wc.cell? ⟨gb264, 0, none⟩ = some (.slice Ao6 l0_0.length co6) := (blk_cell BK264.out 0).trans rfl; have hcz17_1 : wc.cell? ⟨gb264, 1, none⟩ = some (.slice Ao7 l0_1.length co7) := (blk_cell BK264.out 1).trans rfl; have hcz17_2 : wc.cell? ⟨gb264, 2, none⟩ = some (.slice A0_2 l0_2.length c0_2) := (blk_cell BK264.out 2).trans rfl; have hcz17_3 : wc.cell? ⟨gb264, 3, none⟩ = some (.int .i64 a0_3) := (blk_cell BK264.out 3).trans rfl; have hcz17_4 : wc.cell? ⟨gb264, 4, none⟩ = some (.int .i64 a0_4) := (blk_cell BK264.out 4).trans rfl; have hfz17_0 := blk_frozen BK264.out 0; have hfz17_1 := blk_frozen BK264.out 1; have hfz17_2 := blk_frozen BK264.out 2; have hfz17_3 := blk_frozen BK264.out 3; have hfz17_4 := blk_frozen BK264.out 4; have hcz18_0 : wc.cell? ⟨gb265, 0, none⟩ = some (.slice none 0 0) := (blk_cell BK265.out 0).trans rfl; have hcz18_1 : wc.cell? ⟨gb265, 1, none⟩ = some (.slice none 0 0) := (blk_cell BK265.out 1).trans rfl; have hcz18_2 : wc.cell? ⟨gb265, 2, none⟩ = some (.slice none 0 0) := (blk_cell BK265.out 2).trans rfl; have hcz18_3 : wc.cell? ⟨gb265, 3, none⟩ = some (.int .i64 0) := (blk_cell BK265.out 3).trans rfl; have hcz18_4 : wc.cell? ⟨gb265, 4, none⟩ = some (.int .i64 0) := (blk_cell BK265.out 4).trans rfl; have hfz18_0 := blk_frozen BK265.out 0; have hfz18_1 := blk_frozen BK265.out 1; have hfz18_2 := blk_frozen BK265.out 2; have hfz18_3 := blk_frozen BK265.out 3; have hfz18_4 := blk_frozen BK265.out 4
        go_wp2
        refine bodyPost_ret (results_ct rfl _ _ gb265 25 #[.slice Ao6 l0_0.length co6, .slice Ao7 l0_1.length co7, .slice A0_2 l0_2.length c0_2, .int .i64 a0_3, .int .i64 a0_4] (0, 0) _ rfl (by refine blk_put (cs := #[.slice Ao6 l0_0.length co6, .slice Ao7 l0_1.length co7, .slice A0_2 l0_2.length c0_2, .int .i64 a0_3, .int .i64 0]) ?_ 4 _ rfl; refine blk_put (cs := #[.slice Ao6 l0_0.length co6, .slice Ao7 l0_1.length co7, .slice A0_2 l0_2.length c0_2, .int .i64 0, .int .i64 0]) ?_ 3 _ rfl; refine blk_put (cs := #[.slice Ao6 l0_0.length co6, .slice Ao7 l0_1.length co7, .slice none 0 0, .int .i64 0, .int .i64 0]) ?_ 2 _ rfl; refine blk_put (cs := #[.slice Ao6 l0_0.length co6, .slice none 0 0, .slice none 0 0, .int .i64 0, .int .i64 0]) ?_ 1 _ rfl; refine blk_put (cs := #[.slice none 0 0, .slice none 0 0, .slice none 0 0, .int .i64 0, .int .i64 0]) ?_ 0 _ rfl; exact BK265.out) Tryz.underlying25 rfl (by kernel_rfl)) rfl ?_
        exact ⟨_, _, _, by first | rfl | (simp [errW_none, errW_some] <;> rfl) | (simp [*, errW_none, errW_some] <;> rfl), by exact Kd.R_mono (Kd.R_far (p := ⟨gb265, 4, none⟩) (Kd.R_far (p := ⟨gb265, 3, none⟩) (Kd.R_far (p := ⟨gb265, 2, none⟩) (Kd.R_far (p := ⟨gb265, 1, none⟩) (Kd.R_far (p := ⟨gb265, 0, none⟩) (Kd.R_types HO_265000.out BK265.out (by decide)) (fun _ hk => hk.2) (.slice Ao6 l0_0.length co6)) (fun _ hk => hk.2) (.slice Ao7 l0_1.length co7)) (fun _ hk => hk.2) (.slice A0_2 l0_2.length c0_2)) (fun _ hk => hk.2) (.int .i64 a0_3)) (fun _ hk => hk.2) (.int .i64 a0_4)) (fun _ hk => ⟨hk.1.1, hk.1.2⟩), by exact Kd.R_mono (Kd.R_far (p := ⟨gb265, 4, none⟩) (Kd.R_far (p := ⟨gb265, 3, none⟩) (Kd.R_far (p := ⟨gb265, 2, none⟩) (Kd.R_far (p := ⟨gb265, 1, none⟩) (Kd.R_far (p := ⟨gb265, 0, none⟩) (Kd.R_types HO_265001.out BK265.out (by decide)) (fun _ hk => hk.2) (.slice Ao6 l0_0.length co6)) (fun _ hk => hk.2) (.slice Ao7 l0_1.length co7)) (fun _ hk => hk.2) (.slice A0_2 l0_2.length c0_2)) (fun _ hk => hk.2) (.int .i64 a0_3)) (fun _ hk => hk.2) (.int .i64 a0_4)) (fun _ hk => ⟨hk.1.1, hk.1.2⟩), by exact Kd.V_mono (Kd.V_far (p := ⟨gb265, 4, none⟩) (Kd.V_far (p := ⟨gb265, 3, none⟩) (Kd.V_far (p := ⟨gb265, 2, none⟩) (Kd.V_far (p := ⟨gb265, 1, none⟩) (Kd.V_far (p := ⟨gb265, 0, none⟩) (Kd.V_mono HO_265002.out (fun k_ hk => (⟨hk, hk.2.2.2.2⟩ : _ ∧ k_ ≠ gb265))) (fun _ hk => hk.2) (.slice Ao6 l0_0.length co6)) (fun _ hk => hk.2) (.slice Ao7 l0_1.length co7)) (fun _ hk => hk.2) (.slice A0_2 l0_2.length c0_2)) (fun _ hk => hk.2) (.int .i64 a0_3)) (fun _ hk => hk.2) (.int .i64 a0_4)) (fun _ hk => ⟨hk.1.1, ⟨hk.1.2.1, hk.1.2.2.1⟩⟩), by repeat (first | (with_reducible first | exact HB.out | apply below_alloc | apply pw_below_drewN | apply below_drew1 | refine below_set ?_ GE264.out | refine below_set ?_ GE265.out) | exact HB.out), by repeat (first | (with_reducible first | exact HK.out | apply Kept.alloc | apply Kept.drewN | apply Kept.drew | refine Kept.setCell ?_ (.inr GW264.out) _ | refine Kept.setCell ?_ (.inr GW265.out) _) | exact HK.out)⟩
       rw [if_pos c15] at H
       have c15b0 : ((rdOf ByteArray.empty l1 0).toList == ([117, 110, 107, 110, 111, 119, 110] : List UInt8)) = true := beq_iff_eq.mpr c15; have c15b1 : ((rdOf ByteArray.empty l1 0).toList != ([117, 110, 107, 110, 111, 119, 110] : List UInt8)) = false := bne_eq_false_iff_eq.mpr c15; clear c15; have H' := Aside0.mk H; clear H
       go_wp2
       go_meet
       case rel => exact ⟨_, (0), (1), (0), (0), (by first | rfl | (simp; done) | (simp [*]; done)), (by first | rfl | (simp; done) | (simp [*]; done)), H', ⟨by have := HJ9.out; first | omega | exact Nat.le_refl _⟩, ⟨by exact HO_265000.out⟩, ⟨by exact HO_265001.out⟩, ⟨by exact HO_265002.out⟩, ⟨by exact BK264.out⟩, ⟨by exact BK265.out⟩, ⟨by repeat (first | (with_reducible first | exact HK.out | apply Kept.alloc | apply Kept.drewN | apply Kept.drew | refine Kept.setCell ?_ (.inr GW264.out) _ | refine Kept.setCell ?_ (.inr GW265.out) _) | exact HK.out)⟩, ⟨by repeat (first | (with_reducible first | exact HB.out | apply below_alloc | apply pw_below_drewN | apply below_drew1 | refine below_set ?_ GE264.out | refine below_set ?_ GE265.out) | exact HB.out)⟩⟩
      rw [if_pos c14] at H
      have c14b0 : ((rdOf ByteArray.empty l1 0).toList == ([115, 119, 97, 112] : List UInt8)) = true := beq_iff_eq.mpr c14; have c14b1 : ((rdOf ByteArray.empty l1 0).toList != ([115, 119, 97, 112] : List UInt8)) = false := bne_eq_false_iff_eq.mpr c14; clear c14; have H' := Aside0.mk H; clear H
      go_wp2
      go_meet
      case rel => exact ⟨_, (0), (0), (0), (0), (by first | rfl | (simp; done) | (simp [*]; done)), (by first | rfl | (simp; done) | (simp [*]; done)), H', ⟨by have := HJ9.out; first | omega | exact Nat.le_refl _⟩, ⟨by exact HO_265000.out⟩, ⟨by exact HO_265001.out⟩, ⟨by exact HO_265002.out⟩, ⟨by exact BK264.out⟩, ⟨by exact BK265.out⟩, ⟨by repeat (first | (with_reducible first | exact HK.out | apply Kept.alloc | apply Kept.drewN | apply Kept.drew | refine Kept.setCell ?_ (.inr GW264.out) _ | refine Kept.setCell ?_ (.inr GW265.out) _) | exact HK.out)⟩, ⟨by repeat (first | (with_reducible first | exact HB.out | apply below_alloc | apply pw_below_drewN | apply below_drew1 | refine below_set ?_ GE264.out | refine below_set ?_ GE265.out) | exact HB.out)⟩⟩
     rw [if_pos c13] at H
     have c13b0 : ((rdOf ByteArray.empty l1 0).toList == ([114, 101, 112, 108, 97, 99, 101] : List UInt8)) = true := beq_iff_eq.mpr c13; have c13b1 : ((rdOf ByteArray.empty l1 0).toList != ([114, 101, 112, 108, 97, 99, 101] : List UInt8)) = false := bne_eq_false_iff_eq.mpr c13; clear c13; have H' := Aside0.mk H; clear H
     go_wp2
     go_meet
     case rel => exact ⟨_, (2), (1), (0), (0), (by first | rfl | (simp; done) | (simp [*]; done)), (by first | rfl | (simp; done) | (simp [*]; done)), H', ⟨by have := HJ9.out; first | omega | exact Nat.le_refl _⟩, ⟨by exact HO_265000.out⟩, ⟨by exact HO_265001.out⟩, ⟨by exact HO_265002.out⟩, ⟨by exact BK264.out⟩, ⟨by exact BK265.out⟩, ⟨by repeat (first | (with_reducible first | exact HK.out | apply Kept.alloc | apply Kept.drewN | apply Kept.drew | refine Kept.setCell ?_ (.inr GW264.out) _ | refine Kept.setCell ?_ (.inr GW265.out) _) | exact HK.out)⟩, ⟨by repeat (first | (with_reducible first | exact HB.out | apply below_alloc | apply pw_below_drewN | apply below_drew1 | refine below_set ?_ GE264.out | refine below_set ?_ GE265.out) | exact HB.out)⟩⟩
    subst c12; have H1 : (emendateref34_line.j1 kj9 l1 l2 1 1 l0_0 l0_1 l0_2 a0_3 a0_4) = some (r1, r2, r3, r4, r5, r6) := by rw [if_pos rfl] at H; exact H
    clear H; have H := H1; clear H1; have H' := Aside0.mk H; clear H
    go_wp2
    go_meet
    case rel => exact ⟨_, (1), (1), (0), (0), (by first | rfl | (simp; done) | (simp [*]; done)), (by first | rfl | (simp; done) | (simp [*]; done)), H', ⟨by have := HJ9.out; first | omega | exact Nat.le_refl _⟩, ⟨by exact HO_265000.out⟩, ⟨by exact HO_265001.out⟩, ⟨by exact HO_265002.out⟩, ⟨by exact BK264.out⟩, ⟨by exact BK265.out⟩, ⟨by repeat (first | (with_reducible first | exact HK.out | apply Kept.alloc | apply Kept.drewN | apply Kept.drew | refine Kept.setCell ?_ (.inr GW264.out) _ | refine Kept.setCell ?_ (.inr GW265.out) _) | exact HK.out)⟩, ⟨by repeat (first | (with_reducible first | exact HB.out | apply below_alloc | apply pw_below_drewN | apply below_drew1 | refine below_set ?_ GE264.out | refine below_set ?_ GE265.out) | exact HB.out)⟩⟩
 case rest =>
  clear HC5
  try clear c1
  try clear c2
  try clear p2
  try clear q2
  try clear hx2
  try clear qi2
  try clear c3
  try clear c4
  try clear c4b0
  try clear c4b1
  try clear c11
  try clear c11b0
  try clear c11b1
  try clear c12
  try clear c13
  try clear c13b0
  try clear c13b1
  try clear c14
  try clear c14b0
  try clear c14b1
  try clear c15
  try clear c15b0
  try clear c15b1
  try clear c16
  try clear hcz17_0
  try clear hcz17_1
  try clear hcz17_2
  try clear hcz17_3
  try clear hcz17_4
  try clear hcz18_0
  try clear hcz18_1
  try clear hcz18_2
  try clear hcz18_3
  try clear hcz18_4
  try clear hfz17_0
  try clear hfz17_1
  try clear hfz17_2
  try clear hfz17_3
  try clear hfz17_4
  try clear hfz18_0
  try clear hfz18_1
  try clear hfz18_2
  try clear hfz18_3
  try clear hfz18_4
  try clear hx266_0
  try clear p2
  try clear p266
  try clear q2
  try clear q266
  obtain ⟨kq, x8_4, x9_4, x266003_4, x266004_4, rfl, rfl, HA, HJ4, HO_265000, HO_265001, HO_265002, BK264, BK265, HK, HB⟩ := hcut
  cases kq with
  | zero => exact absurd HA.out (by simp [emendateref34_line.j1])
  | succ kj4 =>
   have H := HA.out; clear HA
   simp only [emendateref34_line.j1] at H
   by_cases c19 : (l1.length : Int) = (wrap64 (x8_4 + 2))
   rotate_left
   ·
    rw [if_neg c19] at H
    have c19b0 : ((l1.length : Int) == (wrap64 (x8_4 + 2))) = false := beq_eq_false_iff_ne.mpr c19; have c19b1 : ((l1.length : Int) != (wrap64 (x8_4 + 2))) = true := bne_iff_ne.mpr c19
    simp only [Option.some.injEq, Prod.mk.injEq] at H
    obtain ⟨rfl, rfl, rfl, rfl, rfl, rfl⟩ := H; have hnb120 := NB264_265.out; have hnc120 := NB265_264.out; have hcz121_0 : wc.cell? ⟨gb264, 0, none⟩ = some (.slice Ao6 l0_0.length co6) := (blk_cell BK264.out 0).trans rfl; have hcz121_1 : wc.cell? ⟨gb264, 1, none⟩ = some (.slice Ao7 l0_1.length co7) := (blk_cell BK264.out 1).trans rfl; have hcz121_2 : wc.cell? ⟨gb264, 2, none⟩ = some (.slice A0_2 l0_2.length c0_2) := (blk_cell BK264.out 2).trans rfl; have hcz121_3 : wc.cell? ⟨gb264, 3, none⟩ = some (.int .i64 a0_3) := (blk_cell BK264.out 3).trans rfl; have hcz121_4 : wc.cell? ⟨gb264, 4, none⟩ = some (.int .i64 a0_4) := (blk_cell BK264.out 4).trans rfl; have hfz121_0 := blk_frozen BK264.out 0; have hfz121_1 := blk_frozen BK264.out 1; have hfz121_2 := blk_frozen BK264.out 2; have hfz121_3 := blk_frozen BK264.out 3; have hfz121_4 := blk_frozen BK264.out 4; have hcz122_0 : wc.cell? ⟨gb265, 0, none⟩ = some (.slice none 0 0) := (blk_cell BK265.out 0).trans rfl; have hcz122_1 : wc.cell? ⟨gb265, 1, none⟩ = some (.slice none 0 0) := (blk_cell BK265.out 1).trans rfl; have hcz122_2 : wc.cell? ⟨gb265, 2, none⟩ = some (.slice none 0 0) := (blk_cell BK265.out 2).trans rfl; have hcz122_3 : wc.cell? ⟨gb265, 3, none⟩ = some (.int .i64 x266003_4) := (blk_cell BK265.out 3).trans rfl; have hcz122_4 : wc.cell? ⟨gb265, 4, none⟩ = some (.int .i64 x266004_4) := (blk_cell BK265.out 4).trans rfl; have hfz122_0 := blk_frozen BK265.out 0; have hfz122_1 := blk_frozen BK265.out 1; have hfz122_2 := blk_frozen BK265.out 2; have hfz122_3 := blk_frozen BK265.out 3; have hfz122_4 := blk_frozen BK265.out 4
    go_wp2
    refine bodyPost_ret (results_ct rfl _ _ gb265 25 #[.slice Ao6 l0_0.length co6, .slice Ao7 l0_1.length co7, .slice A0_2 l0_2.length c0_2, .int .i64 a0_3, .int .i64 a0_4] (0, 0) _ rfl (by refine blk_put (cs := #[.slice Ao6 l0_0.length co6, .slice Ao7 l0_1.length co7, .slice A0_2 l0_2.length c0_2, .int .i64 a0_3, .int .i64 x266004_4]) ?_ 4 _ rfl; refine blk_put (cs := #[.slice Ao6 l0_0.length co6, .slice Ao7 l0_1.length co7, .slice A0_2 l0_2.length c0_2, .int .i64 x266003_4, .int .i64 x266004_4]) ?_ 3 _ rfl; refine blk_put (cs := #[.slice Ao6 l0_0.length co6, .slice Ao7 l0_1.length co7, .slice none 0 0, .int .i64 x266003_4, .int .i64 x266004_4]) ?_ 2 _ rfl; refine blk_put (cs := #[.slice Ao6 l0_0.length co6, .slice none 0 0, .slice none 0 0, .int .i64 x266003_4, .int .i64 x266004_4]) ?_ 1 _ rfl; refine blk_put (cs := #[.slice none 0 0, .slice none 0 0, .slice none 0 0, .int .i64 x266003_4, .int .i64 x266004_4]) ?_ 0 _ rfl; exact BK265.out) Tryz.underlying25 rfl (by kernel_rfl)) rfl ?_
    exact ⟨_, _, _, by first | rfl | (simp [errW_none, errW_some] <;> rfl) | (simp [*, errW_none, errW_some] <;> rfl), by exact Kd.R_mono (Kd.R_far (p := ⟨gb265, 4, none⟩) (Kd.R_far (p := ⟨gb265, 3, none⟩) (Kd.R_far (p := ⟨gb265, 2, none⟩) (Kd.R_far (p := ⟨gb265, 1, none⟩) (Kd.R_far (p := ⟨gb265, 0, none⟩) (Kd.R_types HO_265000.out BK265.out (by decide)) (fun _ hk => hk.2) (.slice Ao6 l0_0.length co6)) (fun _ hk => hk.2) (.slice Ao7 l0_1.length co7)) (fun _ hk => hk.2) (.slice A0_2 l0_2.length c0_2)) (fun _ hk => hk.2) (.int .i64 a0_3)) (fun _ hk => hk.2) (.int .i64 a0_4)) (fun _ hk => ⟨hk.1.1, hk.1.2⟩), by exact Kd.R_mono (Kd.R_far (p := ⟨gb265, 4, none⟩) (Kd.R_far (p := ⟨gb265, 3, none⟩) (Kd.R_far (p := ⟨gb265, 2, none⟩) (Kd.R_far (p := ⟨gb265, 1, none⟩) (Kd.R_far (p := ⟨gb265, 0, none⟩) (Kd.R_types HO_265001.out BK265.out (by decide)) (fun _ hk => hk.2) (.slice Ao6 l0_0.length co6)) (fun _ hk => hk.2) (.slice Ao7 l0_1.length co7)) (fun _ hk => hk.2) (.slice A0_2 l0_2.length c0_2)) (fun _ hk => hk.2) (.int .i64 a0_3)) (fun _ hk => hk.2) (.int .i64 a0_4)) (fun _ hk => ⟨hk.1.1, hk.1.2⟩), by exact Kd.V_mono (Kd.V_far (p := ⟨gb265, 4, none⟩) (Kd.V_far (p := ⟨gb265, 3, none⟩) (Kd.V_far (p := ⟨gb265, 2, none⟩) (Kd.V_far (p := ⟨gb265, 1, none⟩) (Kd.V_far (p := ⟨gb265, 0, none⟩) (Kd.V_mono HO_265002.out (fun k_ hk => (⟨hk, hk.2.2.2.2⟩ : _ ∧ k_ ≠ gb265))) (fun _ hk => hk.2) (.slice Ao6 l0_0.length co6)) (fun _ hk => hk.2) (.slice Ao7 l0_1.length co7)) (fun _ hk => hk.2) (.slice A0_2 l0_2.length c0_2)) (fun _ hk => hk.2) (.int .i64 a0_3)) (fun _ hk => hk.2) (.int .i64 a0_4)) (fun _ hk => ⟨hk.1.1, ⟨hk.1.2.1, hk.1.2.2.1⟩⟩), by repeat (first | (with_reducible first | exact HB.out | apply below_alloc | apply pw_below_drewN | apply below_drew1 | refine below_set ?_ GE264.out | refine below_set ?_ GE265.out) | exact HB.out), by repeat (first | (with_reducible first | exact HK.out | apply Kept.alloc | apply Kept.drewN | apply Kept.drew | refine Kept.setCell ?_ (.inr GW264.out) _ | refine Kept.setCell ?_ (.inr GW265.out) _) | exact HK.out)⟩
   rw [if_pos c19] at H
   have c19b0 : ((l1.length : Int) == (wrap64 (x8_4 + 2))) = true := beq_iff_eq.mpr c19; have c19b1 : ((l1.length : Int) != (wrap64 (x8_4 + 2))) = false := bne_eq_false_iff_eq.mpr c19; clear c19; obtain ⟨ji20, hji20⟩ : ∃ j_ : Int, (wrap64 (x8_4 + 1)) = j_ := ⟨_, rfl⟩
   replace H : (if 0 ≤ (ji20) then (if (ji20) < (l1.length : Int) then ((emendateref34_number.f kj4 (rdOf ByteArray.empty l1 (ji20))).bind fun t268 => (if 0 < (l1.length : Int) then (if (rdOf ByteArray.empty l1 0).toList = ([114, 101, 112, 108, 97, 99, 101] : List UInt8) then (emendateref34_line.j2 kj4 l1 l2 x8_4 x9_4 t268 ((rdOf ByteArray.empty l1 (ji20)).toList == ([110, 101, 118, 101, 114] : List UInt8)) l0_0 l0_1 l0_2 a0_3 a0_4) else (emendateref34_line.j2 kj4 l1 l2 x8_4 x9_4 t268 false l0_0 l0_1 l0_2 a0_3 a0_4)) else (none))) else (none)) else (none)) = some (r1, r2, r3, r4, r5, r6) := by first | (rw [hji20] at H; exact H) | (simp only [hji20] at H ⊢; exact H)
   have hji20w : (IntKind.i64.wrap (x8_4 + 1)) = ji20 := (i64_w _).trans hji20
   by_cases c21 : 0 ≤ (ji20)
   rotate_left
   ·
    rw [if_neg c21] at H
    exact absurd H (by simp)
   rw [if_pos c21] at H
   have c21b0 : decide (0 ≤ (ji20)) = true := decide_eq_true c21; clear c21
   by_cases c22 : (ji20) < (l1.length : Int)
   rotate_left
   ·
    rw [if_neg c22] at H
    exact absurd H (by simp)
   rw [if_pos c22] at H
   have c22b0 : decide ((ji20) < (l1.length : Int)) = true := decide_eq_true c22; clear c22; replace H := Option.bind_eq_some_iff.mp H; obtain ⟨t268, A230, H⟩ := H; replace H : (if 0 < (l1.length : Int) then (if (rdOf ByteArray.empty l1 0).toList = ([114, 101, 112, 108, 97, 99, 101] : List UInt8) then (emendateref34_line.j2 kj4 l1 l2 x8_4 x9_4 t268 ((rdOf ByteArray.empty l1 (ji20)).toList == ([110, 101, 118, 101, 114] : List UInt8)) l0_0 l0_1 l0_2 a0_3 a0_4) else (emendateref34_line.j2 kj4 l1 l2 x8_4 x9_4 t268 false l0_0 l0_1 l0_2 a0_3 a0_4)) else (none)) = some (r1, r2, r3, r4, r5, r6) := H; have A23 := Aside0.mk A230; clear A230; have HC24 := Aside0.mk H; clear H; have p267 : 0 ≤ ((ji20) : Int) := of_decide_eq_true (by first | (with_reducible assumption) | assumption)
   have q267 : (ji20) < (l1.length : Int) := of_decide_eq_true (by first | (with_reducible assumption) | assumption)
   obtain ⟨ad267, e267, hx267_0⟩ := Kd.at_string (Kd.C_kept_now HR1.out HK.out) (ji20) p267 q267; obtain rfl : ad266 = ad267 := (by injection e267)
   replace p267 := eq_true p267; replace q267 := eq_true q267
   go_upto_region 15 with (first | ((with_reducible refine gate_callee (f := 49) rfl ?_); refine goesL_ (some 39) rfl rfl Tryz.func49 (by kernel_rfl) rfl #[.string (rdOf ByteArray.empty l1 (ji20))] rfl (by (try simp only [List.map_toArray, List.map_cons, List.map_nil]); first | done | (simp only [hji20]; rfl) | rfl | (simp only [List.length_drop, List.length_take]; rfl)) ?_; (with_reducible refine (emendateref34_number.calls kj4 (rdOf ByteArray.empty l1 (ji20)) t268 _ A23.out).mono ?_); rintro e w' ⟨rfl, ⟨nd, rfl⟩⟩; refine ⟨_, rfl, ?_⟩))
   (try simp only [Act.put, List.setIfInBounds_toArray, List.set_cons_zero, List.set_cons_succ])
   go_cut [11] (fun v11 wc => ∃ (kq : Nat) (x11_23 : Bool), v11 = .bool x11_23 ∧ Aside0 (emendateref34_line.j2 kq l1 l2 x8_4 x9_4 t268 x11_23 l0_0 l0_1 l0_2 a0_3 a0_4 = some (r1, r2, r3, r4, r5, r6)) ∧ Aside0 (kq ≤ kj4) ∧ Aside0 (Kd.R (Kd.int .i64) 3 wc w0.heap.size (fun k_ => ((P0_0_ k_ ∨ P0_1_ k_) ∨ w.heap.size ≤ k_) ∧ some k_ ≠ ((.slice Ao7 l0_1.length co7) : Value).ownBlock) (.slice Ao6 l0_0.length co6) l0_0) ∧ Aside0 (Kd.R (Kd.int .i64) 3 wc w0.heap.size (fun k_ => ((P0_0_ k_ ∨ P0_1_ k_) ∨ w.heap.size ≤ k_) ∧ some k_ ≠ ((.slice Ao6 l0_0.length co6) : Value).ownBlock) (.slice Ao7 l0_1.length co7) l0_1) ∧ Aside0 (Kd.V (Kd.slice 3 (Kd.int .i64)) 22 wc w0.heap.size (fun k_ => ((P0_0_ k_ ∨ P0_1_ k_ ∨ P0_2_ k_) ∨ w.heap.size ≤ k_) ∧ some k_ ≠ ((.slice Ao6 l0_0.length co6) : Value).ownBlock ∧ some k_ ≠ ((.slice Ao7 l0_1.length co7) : Value).ownBlock ∧ k_ ≠ gb264 ∧ k_ ≠ gb265) (.slice A0_2 l0_2.length c0_2) l0_2) ∧ Aside0 (wc.heap[gb264]? = some (.cells #[(.slice Ao6 l0_0.length co6), (.slice Ao7 l0_1.length co7), (.slice A0_2 l0_2.length c0_2), .int .i64 a0_3, .int .i64 a0_4] 25 (0, 0))) ∧ Aside0 (wc.heap[gb265]? = some (.cells #[(.slice none 0 0), (.slice none 0 0), (.slice none 0 0), .int .i64 x266003_4, .int .i64 x266004_4] 25 (0, 0))) ∧ Aside0 (Kept w wc (fun k_ => P0_0_ k_ ∨ P0_1_ k_)) ∧ Aside0 (Below w0.heap.size w0 wc))
   case first =>
    have H := HC24.out; clear HC24
    by_cases c25 : 0 < (l1.length : Int)
    rotate_left
    ·
     rw [if_neg c25] at H
     exact absurd H (by simp)
    rw [if_pos c25] at H
    have c25b0 : decide (0 < (l1.length : Int)) = true := decide_eq_true c25; have c25b1 : decide (0 < l1.length) = true := decide_eq_true (by omega)
    clear c25
    (first | rw [c25b0] | (simp only [i64_w, i32_w]; rw [c25b0]) | skip)
    by_cases c26 : (rdOf ByteArray.empty l1 0).toList = ([114, 101, 112, 108, 97, 99, 101] : List UInt8)
    rotate_left
    ·
     rw [if_neg c26] at H
     have c26b0 : ((rdOf ByteArray.empty l1 0).toList == ([114, 101, 112, 108, 97, 99, 101] : List UInt8)) = false := beq_eq_false_iff_ne.mpr c26; have c26b1 : ((rdOf ByteArray.empty l1 0).toList != ([114, 101, 112, 108, 97, 99, 101] : List UInt8)) = true := bne_iff_ne.mpr c26; have H' := Aside0.mk H; clear H; have p269 : 0 ≤ (0 : Int) := (by omega)
     have q269 : 0 < (l1.length : Int) := of_decide_eq_true (by first | (with_reducible assumption) | assumption)
     obtain ⟨ad269, e269, hx269_0⟩ := Kd.at_string (Kd.C_kept_now HR1.out HK.out) 0 p269 q269; obtain rfl : ad266 = ad269 := (by injection e269)
     have qi269 : (0 < l1.length) = True := eq_true (by omega)
     (try rw [show ((0 : Int)).toNat = 0 from rfl] at hx269_0)
     (try rw [Addr.add_zero'] at hx269_0)
     replace p269 := eq_true p269; replace q269 := eq_true q269
     go_wp2
     go_meet
     case rel => exact ⟨_, (false), (by first | rfl | (simp; done) | (simp [*]; done)), H', ⟨by have := HJ4.out; first | omega | exact Nat.le_refl _⟩, ⟨by exact HO_265000.out⟩, ⟨by exact HO_265001.out⟩, ⟨by exact HO_265002.out⟩, ⟨by exact BK264.out⟩, ⟨by exact BK265.out⟩, ⟨by repeat (first | (with_reducible first | exact HK.out | apply Kept.alloc | apply Kept.drewN | apply Kept.drew | refine Kept.setCell ?_ (.inr GW264.out) _ | refine Kept.setCell ?_ (.inr GW265.out) _) | exact HK.out)⟩, ⟨by repeat (first | (with_reducible first | exact HB.out | apply below_alloc | apply pw_below_drewN | apply below_drew1 | refine below_set ?_ GE264.out | refine below_set ?_ GE265.out) | exact HB.out)⟩⟩
    rw [if_pos c26] at H
    have c26b0 : ((rdOf ByteArray.empty l1 0).toList == ([114, 101, 112, 108, 97, 99, 101] : List UInt8)) = true := beq_iff_eq.mpr c26; have c26b1 : ((rdOf ByteArray.empty l1 0).toList != ([114, 101, 112, 108, 97, 99, 101] : List UInt8)) = false := bne_eq_false_iff_eq.mpr c26; clear c26; have H' := Aside0.mk H; clear H; have p269 : 0 ≤ (0 : Int) := (by omega)
    have q269 : 0 < (l1.length : Int) := of_decide_eq_true (by first | (with_reducible assumption) | assumption)
    obtain ⟨ad269, e269, hx269_0⟩ := Kd.at_string (Kd.C_kept_now HR1.out HK.out) 0 p269 q269; obtain rfl : ad266 = ad269 := (by injection e269)
    have qi269 : (0 < l1.length) = True := eq_true (by omega)
    (try rw [show ((0 : Int)).toNat = 0 from rfl] at hx269_0)
    (try rw [Addr.add_zero'] at hx269_0)
    replace p269 := eq_true p269; replace q269 := eq_true q269; have p270 : 0 ≤ ((ji20) : Int) := of_decide_eq_true (by first | (with_reducible assumption) | assumption)
    have q270 : (ji20) < (l1.length : Int) := of_decide_eq_true (by first | (with_reducible assumption) | assumption)
    obtain ⟨ad270, e270, hx270_0⟩ := Kd.at_string (Kd.C_kept_now HR1.out HK.out) (ji20) p270 q270; obtain rfl : ad266 = ad270 := (by injection e270)
    replace p270 := eq_true p270; replace q270 := eq_true q270
    go_wp2
    go_meet
    case rel => exact ⟨_, (((rdOf ByteArray.empty l1 (ji20)).toList == ([110, 101, 118, 101, 114] : List UInt8))), (by first | rfl | (simp; done) | (simp only [← hji20] <;> (first | rfl | simp)) | (simp [*]; done)), H', ⟨by have := HJ4.out; first | omega | exact Nat.le_refl _⟩, ⟨by exact HO_265000.out⟩, ⟨by exact HO_265001.out⟩, ⟨by exact HO_265002.out⟩, ⟨by exact BK264.out⟩, ⟨by exact BK265.out⟩, ⟨by repeat (first | (with_reducible first | exact HK.out | apply Kept.alloc | apply Kept.drewN | apply Kept.drew | refine Kept.setCell ?_ (.inr GW264.out) _ | refine Kept.setCell ?_ (.inr GW265.out) _) | exact HK.out)⟩, ⟨by repeat (first | (with_reducible first | exact HB.out | apply below_alloc | apply pw_below_drewN | apply below_drew1 | refine below_set ?_ GE264.out | refine below_set ?_ GE265.out) | exact HB.out)⟩⟩
   case rest =>
    clear HC24
    try clear c1
    try clear c2
    try clear p2
    try clear q2
    try clear hx2
    try clear qi2
    try clear c3
    try clear c4
    try clear c4b0
    try clear c4b1
    try clear p6
    try clear c11
    try clear c11b0
    try clear c11b1
    try clear c12
    try clear c13
    try clear c13b0
    try clear c13b1
    try clear c14
    try clear c14b0
    try clear c14b1
    try clear c15
    try clear c15b0
    try clear c15b1
    try clear c16
    try clear c19
    try clear c19b0
    try clear c19b1
    try clear c21
    try clear c21b0
    try clear c22
    try clear c22b0
    try clear c25
    try clear c25b0
    try clear c25b1
    try clear c26
    try clear c26b0
    try clear c26b1
    try clear p26
    try clear q26
    try clear hx26
    try clear qi26
    try clear hcz17_0
    try clear hcz17_1
    try clear hcz17_2
    try clear hcz17_3
    try clear hcz17_4
    try clear hcz18_0
    try clear hcz18_1
    try clear hcz18_2
    try clear hcz18_3
    try clear hcz18_4
    try clear hfz17_0
    try clear hfz17_1
    try clear hfz17_2
    try clear hfz17_3
    try clear hfz17_4
    try clear hfz18_0
    try clear hfz18_1
    try clear hfz18_2
    try clear hfz18_3
    try clear hfz18_4
    try clear hx266_0
    try clear hx267_0
    try clear hx269_0
    try clear hx270_0
    try clear p2
    try clear p266
    try clear p267
    try clear p269
    try clear p270
    try clear q2
    try clear q266
    try clear q267
    try clear q269
    try clear q270
    obtain ⟨kq, x11_23, rfl, HA, HJ23, HO_265000, HO_265001, HO_265002, BK264, BK265, HK, HB⟩ := hcut
    cases kq with
    | zero => exact absurd HA.out (by simp [emendateref34_line.j2])
    | succ kj23 =>
     have H := HA.out; clear HA
     simp only [emendateref34_line.j2] at H
     have HC27 := Aside0.mk H; clear H
     go_upto_region 16 with (fail)
     go_cut [57] (fun v57 wc => ∃ (kq : Nat) (x57_26 : Bool), v57 = .bool x57_26 ∧ Aside0 (emendateref34_line.j3 kq l1 l2 x8_4 x9_4 t268 x11_23 x57_26 l0_0 l0_1 l0_2 a0_3 a0_4 = some (r1, r2, r3, r4, r5, r6)) ∧ Aside0 (kq ≤ kj23) ∧ Aside0 (Kd.R (Kd.int .i64) 3 wc w0.heap.size (fun k_ => ((P0_0_ k_ ∨ P0_1_ k_) ∨ w.heap.size ≤ k_) ∧ some k_ ≠ ((.slice Ao7 l0_1.length co7) : Value).ownBlock) (.slice Ao6 l0_0.length co6) l0_0) ∧ Aside0 (Kd.R (Kd.int .i64) 3 wc w0.heap.size (fun k_ => ((P0_0_ k_ ∨ P0_1_ k_) ∨ w.heap.size ≤ k_) ∧ some k_ ≠ ((.slice Ao6 l0_0.length co6) : Value).ownBlock) (.slice Ao7 l0_1.length co7) l0_1) ∧ Aside0 (Kd.V (Kd.slice 3 (Kd.int .i64)) 22 wc w0.heap.size (fun k_ => ((P0_0_ k_ ∨ P0_1_ k_ ∨ P0_2_ k_) ∨ w.heap.size ≤ k_) ∧ some k_ ≠ ((.slice Ao6 l0_0.length co6) : Value).ownBlock ∧ some k_ ≠ ((.slice Ao7 l0_1.length co7) : Value).ownBlock ∧ k_ ≠ gb264 ∧ k_ ≠ gb265) (.slice A0_2 l0_2.length c0_2) l0_2) ∧ Aside0 (wc.heap[gb264]? = some (.cells #[(.slice Ao6 l0_0.length co6), (.slice Ao7 l0_1.length co7), (.slice A0_2 l0_2.length c0_2), .int .i64 a0_3, .int .i64 a0_4] 25 (0, 0))) ∧ Aside0 (wc.heap[gb265]? = some (.cells #[(.slice none 0 0), (.slice none 0 0), (.slice none 0 0), .int .i64 x266003_4, .int .i64 x266004_4] 25 (0, 0))) ∧ Aside0 (Kept w wc (fun k_ => P0_0_ k_ ∨ P0_1_ k_)) ∧ Aside0 (Below w0.heap.size w0 wc))
     case first =>
      have H := HC27.out; clear HC27
      by_cases c28 : t268 < 0
      rotate_left
      ·
       rw [if_neg c28] at H
       have c28b0 : decide (t268 < 0) = false := decide_eq_false c28; clear c28
       (first | rw [c28b0] | (simp only [i64_w, i32_w]; rw [c28b0]) | skip)
       have H' := Aside0.mk H; clear H
       go_wp2
       go_meet
       case rel => exact ⟨_, (false), (by first | rfl | (simp; done) | (simp [*]; done)), H', ⟨by have := HJ4.out; have := HJ23.out; first | omega | exact Nat.le_refl _⟩, ⟨by exact HO_265000.out⟩, ⟨by exact HO_265001.out⟩, ⟨by exact HO_265002.out⟩, ⟨by exact BK264.out⟩, ⟨by exact BK265.out⟩, ⟨by repeat (first | (with_reducible first | exact HK.out | apply Kept.alloc | apply Kept.drewN | apply Kept.drew | refine Kept.setCell ?_ (.inr GW264.out) _ | refine Kept.setCell ?_ (.inr GW265.out) _) | exact HK.out)⟩, ⟨by repeat (first | (with_reducible first | exact HB.out | apply below_alloc | apply pw_below_drewN | apply below_drew1 | refine below_set ?_ GE264.out | refine below_set ?_ GE265.out) | exact HB.out)⟩⟩
      rw [if_pos c28] at H
      have c28b0 : decide (t268 < 0) = true := decide_eq_true c28; clear c28
      (first | rw [c28b0] | (simp only [i64_w, i32_w]; rw [c28b0]) | skip)
      have H' := Aside0.mk H; clear H
      go_wp2
      go_meet
      case rel => exact ⟨_, (!x11_23), (by first | rfl | (simp; done) | (simp [*]; done)), H', ⟨by have := HJ4.out; have := HJ23.out; first | omega | exact Nat.le_refl _⟩, ⟨by exact HO_265000.out⟩, ⟨by exact HO_265001.out⟩, ⟨by exact HO_265002.out⟩, ⟨by exact BK264.out⟩, ⟨by exact BK265.out⟩, ⟨by repeat (first | (with_reducible first | exact HK.out | apply Kept.alloc | apply Kept.drewN | apply Kept.drew | refine Kept.setCell ?_ (.inr GW264.out) _ | refine Kept.setCell ?_ (.inr GW265.out) _) | exact HK.out)⟩, ⟨by repeat (first | (with_reducible first | exact HB.out | apply below_alloc | apply pw_below_drewN | apply below_drew1 | refine below_set ?_ GE264.out | refine below_set ?_ GE265.out) | exact HB.out)⟩⟩
     case rest =>
      clear HC27
      try clear c1
      try clear c2
      try clear p2
      try clear q2
      try clear hx2
      try clear qi2
      try clear c3
      try clear c4
      try clear c4b0
      try clear c4b1
      try clear p6
      try clear c11
      try clear c11b0
      try clear c11b1
      try clear c12
      try clear c13
      try clear c13b0
      try clear c13b1
      try clear c14
      try clear c14b0
      try clear c14b1
      try clear c15
      try clear c15b0
      try clear c15b1
      try clear c16
      try clear c19
      try clear c19b0
      try clear c19b1
      try clear c21
      try clear c21b0
      try clear c22
      try clear c22b0
      try clear c25
      try clear c25b0
      try clear c25b1
      try clear c26
      try clear c26b0
      try clear c26b1
      try clear p26
      try clear q26
      try clear hx26
      try clear qi26
      try clear p27
      try clear q27
      try clear hx27
      try clear c28
      try clear c28b0
      try clear hcz17_0
      try clear hcz17_1
      try clear hcz17_2
      try clear hcz17_3
      try clear hcz17_4
      try clear hcz18_0
      try clear hcz18_1
      try clear hcz18_2
      try clear hcz18_3
      try clear hcz18_4
      try clear hfz17_0
      try clear hfz17_1
      try clear hfz17_2
      try clear hfz17_3
      try clear hfz17_4
      try clear hfz18_0
      try clear hfz18_1
      try clear hfz18_2
      try clear hfz18_3
      try clear hfz18_4
      try clear hx266_0
      try clear hx267_0
      try clear hx269_0
      try clear hx270_0
      try clear p2
      try clear p26
      try clear p266
      try clear p267
      try clear p269
      try clear p270
      try clear p6
      try clear q2
      try clear q26
      try clear q266
      try clear q267
      try clear q269
      try clear q270
      obtain ⟨kq, x57_26, rfl, HA, HJ26, HO_265000, HO_265001, HO_265002, BK264, BK265, HK, HB⟩ := hcut
      cases kq with
      | zero => exact absurd HA.out (by simp [emendateref34_line.j3])
      | succ kj26 =>
       have H := HA.out; clear HA
       simp only [emendateref34_line.j3] at H
       by_cases c29 : x57_26 = true
       rotate_left
       ·
        replace c29 := Bool.eq_false_iff.mpr c29; subst c29; have H1 : (emendateref34_line.l0 kj26 l1 l2 x8_4 x9_4 t268 x11_23 (([0, 0] : List Int)) 0 l0_0 l0_1 l0_2 a0_3 a0_4) = some (r1, r2, r3, r4, r5, r6) := by rw [if_neg (show ¬ (false = true) by decide)] at H; exact H
        clear H; have H := H1; clear H1; obtain ⟨y271, hy271⟩ : ∃ y_ : List Int, y_ = (([0, 0] : List Int)) := ⟨_, rfl⟩
        replace H : (emendateref34_line.l0 kj26 l1 l2 x8_4 x9_4 t268 x11_23 y271 0 l0_0 l0_1 l0_2 a0_3 a0_4) = some (r1, r2, r3, r4, r5, r6) := by first | (rw [hy271]; with_reducible exact H) | (have H2_ := (Option.bind_some _ _).symm.trans H; rw [hy271]; with_reducible exact H2_) | (have H2_ := (Option.bind_some _ _).symm.trans H; with_reducible exact H2_) | with_reducible exact H | (rw [hy271]; exact H) | exact H
        have Ny271 := Aside0.mk hy271; clear hy271; have H' := Aside0.mk H; clear H
        go_wp2_with (first | ((with_reducible refine gate_dst (N := 59) rfl ?_); refine Kd.R_lit (Kd.int .i64) _ 3 ?hg (N := 59) ?hd (xs := ([0, 0] : List Int)) (inner := [.int .i64 0, .int .i64 0]) (ok := fun _ => True) (okp := fun _ => True) ?hr ?hp (fun _ hk => hk) trivial (Below.refl _ _) (Nat.le_refl _) (by simp) ?_; (case hd => rfl); (case hg => rfl); (case hr => first | (go_simp; done) | (go_simp; rfl)); (case hp => exact (Reps.one (show Kd.M (Kd.int .i64) _ _ _ 0 [.int .i64 0] from rfl) (Reps.one (show Kd.M (Kd.int .i64) _ _ _ 0 [.int .i64 0] from rfl) (Reps.none _ _)))); intro v272 w33 ho34 hb hg_ hnew_; clear hg_ hnew_; (first | rw [← Ny271.out] at ho34 | (simp only [Int.reduceToNat] at ho34; rw [← Ny271.out] at ho34)); have n0_ := Aside0.mk (Kd.R_elder' (by exact HO_265000.out) (Kd.R_base ho34) hb); have n1_ := Aside0.mk (Kd.R_elder' (by exact HO_265001.out) (Kd.R_base ho34) hb); have n2_ := Aside0.mk (Kd.V_elder' (by exact HO_265002.out) (Kd.R_base ho34) hb); have n3_ := Aside0.mk (Kd.R_lower (Kd.R_new' (Kd.R_new' (Kd.R_newM (M := fun k_ => ((P0_0_ k_ ∨ P0_1_ k_) ∨ w.heap.size ≤ k_)) ho34 (by first | exact HK.out.1 | exact (show Kept w _ (fun k_ => P0_0_ k_ ∨ P0_1_ k_) from by repeat (first | (with_reducible first | exact HK.out | apply Kept.alloc | apply Kept.drewN | apply Kept.drew | refine Kept.setCell ?_ (.inr GW264.out) _ | refine Kept.setCell ?_ (.inr GW265.out) _) | exact HK.out)).1) (fun k_ h_ => .inr h_)) (Kd.R_lt (by exact HO_265000.out))) (Kd.R_lt (by exact HO_265001.out))) (below_size (by repeat (first | (with_reducible first | exact HB.out | apply below_alloc | apply pw_below_drewN | apply below_drew1 | refine below_set ?_ GE264.out | refine below_set ?_ GE265.out) | exact HB.out)))); have n4_ := Aside0.mk (blk_below (g := gb264) (o := .cells #[.slice Ao6 l0_0.length co6, .slice Ao7 l0_1.length co7, .slice A0_2 l0_2.length c0_2, .int .i64 a0_3, .int .i64 a0_4] 25 (0, 0)) (by exact BK264.out) hb); have n5_ := Aside0.mk (blk_below (g := gb265) (o := .cells #[.slice none 0 0, .slice none 0 0, .slice none 0 0, .int .i64 x266003_4, .int .i64 x266004_4] 25 (0, 0)) (by exact BK265.out) hb); have n6_ := Aside0.mk (Kept.below (S := (fun k_ => P0_0_ k_ ∨ P0_1_ k_)) (by repeat (first | (with_reducible first | exact HK.out | apply Kept.alloc | apply Kept.drewN | apply Kept.drew | refine Kept.setCell ?_ (.inr GW264.out) _ | refine Kept.setCell ?_ (.inr GW265.out) _) | exact HK.out)) hb); have n7_ := Aside0.mk (below_step (by repeat (first | (with_reducible first | exact HB.out | apply below_alloc | apply pw_below_drewN | apply below_drew1 | refine below_set ?_ GE264.out | refine below_set ?_ GE265.out) | exact HB.out)) hb); clear HO_265000; clear HO_265001; clear HO_265002; clear BK264; clear BK265; clear HK; clear HB; have HO_265000 := n0_; have HO_265001 := n1_; have HO_265002 := n2_; have HO273 := n3_; have BK264 := n4_; have BK265 := n5_; have HK := n6_; have HB := n7_; clear n0_ n1_ n2_ n3_ n4_ n5_ n6_ n7_; clear hb ho34))
        go_loopg [13] kj26 (fun kq v13 w' => ∃ (x12_4 : List Int) (x13_4 : Int) (x266003_4 : Int) (x266004_4 : Int), v13 = .int .i64 x13_4 ∧ Aside0 (emendateref34_line.l0 kq l1 l2 x8_4 x9_4 t268 x11_23 x12_4 x13_4 l0_0 l0_1 l0_2 a0_3 a0_4 = some (r1, r2, r3, r4, r5, r6)) ∧ Aside0 (kq ≤ kj26) ∧ Aside0 (Kd.R (Kd.int .i64) 3 w' w0.heap.size (fun k_ => ((P0_0_ k_ ∨ P0_1_ k_) ∨ w.heap.size ≤ k_) ∧ some k_ ≠ ((.slice Ao6 l0_0.length co6) : Value).ownBlock ∧ some k_ ≠ ((.slice Ao7 l0_1.length co7) : Value).ownBlock) v272 x12_4) ∧ Aside0 (Kd.R (Kd.int .i64) 3 w' w0.heap.size (fun k_ => ((P0_0_ k_ ∨ P0_1_ k_) ∨ w.heap.size ≤ k_) ∧ some k_ ≠ (v272 : Value).ownBlock ∧ some k_ ≠ ((.slice Ao7 l0_1.length co7) : Value).ownBlock) (.slice Ao6 l0_0.length co6) l0_0) ∧ Aside0 (Kd.R (Kd.int .i64) 3 w' w0.heap.size (fun k_ => ((P0_0_ k_ ∨ P0_1_ k_) ∨ w.heap.size ≤ k_) ∧ some k_ ≠ (v272 : Value).ownBlock ∧ some k_ ≠ ((.slice Ao6 l0_0.length co6) : Value).ownBlock) (.slice Ao7 l0_1.length co7) l0_1) ∧ Aside0 (Kd.V (Kd.slice 3 (Kd.int .i64)) 22 w' w0.heap.size (fun k_ => ((P0_0_ k_ ∨ P0_1_ k_ ∨ P0_2_ k_) ∨ w.heap.size ≤ k_) ∧ some k_ ≠ (v272 : Value).ownBlock ∧ some k_ ≠ ((.slice Ao6 l0_0.length co6) : Value).ownBlock ∧ some k_ ≠ ((.slice Ao7 l0_1.length co7) : Value).ownBlock ∧ k_ ≠ gb264 ∧ k_ ≠ gb265) (.slice A0_2 l0_2.length c0_2) l0_2) ∧ Aside0 (w'.heap[gb264]? = some (.cells #[(.slice Ao6 l0_0.length co6), (.slice Ao7 l0_1.length co7), (.slice A0_2 l0_2.length c0_2), .int .i64 a0_3, .int .i64 a0_4] 25 (0, 0))) ∧ Aside0 (w'.heap[gb265]? = some (.cells #[(.slice none 0 0), (.slice none 0 0), (.slice none 0 0), .int .i64 x266003_4, .int .i64 x266004_4] 25 (0, 0))) ∧ Aside0 (Kept w w' (fun k_ => P0_0_ k_ ∨ P0_1_ k_)) ∧ Aside0 (Below w0.heap.size w0 w'))
        case atStart => exact ⟨(y271), (0), (x266003_4), (x266004_4), (by first | rfl | (simp; done) | (simp [*]; done)), H', ⟨Nat.le_refl _⟩, ⟨by exact Kd.R_mono HO273.out (fun _ hk => ⟨hk.1.1.1, ⟨hk.1.2, hk.2⟩⟩)⟩, ⟨by exact Kd.R_mono HO_265000.out (fun _ hk => ⟨hk.1.1, ⟨hk.2, hk.1.2⟩⟩)⟩, ⟨by exact Kd.R_mono HO_265001.out (fun _ hk => ⟨hk.1.1, ⟨hk.2, hk.1.2⟩⟩)⟩, ⟨by exact Kd.V_mono HO_265002.out (fun _ hk => ⟨hk.1.1, ⟨hk.2, ⟨hk.1.2.1, ⟨hk.1.2.2.1, ⟨hk.1.2.2.2.1, hk.1.2.2.2.2⟩⟩⟩⟩⟩)⟩, ⟨by exact BK264.out⟩, ⟨by exact BK265.out⟩, ⟨by repeat (first | (with_reducible first | exact HK.out | apply Kept.alloc | apply Kept.drewN | apply Kept.drew | refine Kept.setCell ?_ (.inr GW264.out) _ | refine Kept.setCell ?_ (.inr GW265.out) _) | exact HK.out)⟩, ⟨by repeat (first | (with_reducible first | exact HB.out | apply below_alloc | apply pw_below_drewN | apply below_drew1 | refine below_set ?_ GE264.out | refine below_set ?_ GE265.out) | exact HB.out)⟩⟩
        case round =>
         clear H'
         try clear c1
         try clear c2
         try clear p2
         try clear q2
         try clear hx2
         try clear qi2
         try clear c3
         try clear c4
         try clear c4b0
         try clear c4b1
         try clear p6
         try clear c11
         try clear c11b0
         try clear c11b1
         try clear c12
         try clear c13
         try clear c13b0
         try clear c13b1
         try clear c14
         try clear c14b0
         try clear c14b1
         try clear c15
         try clear c15b0
         try clear c15b1
         try clear c16
         try clear c19
         try clear c19b0
         try clear c19b1
         try clear c21
         try clear c21b0
         try clear c22
         try clear c22b0
         try clear c25
         try clear c25b0
         try clear c25b1
         try clear c26
         try clear c26b0
         try clear c26b1
         try clear p26
         try clear q26
         try clear hx26
         try clear qi26
         try clear p27
         try clear q27
         try clear hx27
         try clear c28
         try clear c28b0
         try clear c29
         try clear c30
         try clear c33
         try clear hcz17_0
         try clear hcz17_1
         try clear hcz17_2
         try clear hcz17_3
         try clear hcz17_4
         try clear hcz18_0
         try clear hcz18_1
         try clear hcz18_2
         try clear hcz18_3
         try clear hcz18_4
         try clear hcz31_0
         try clear hcz31_1
         try clear hcz31_2
         try clear hcz31_3
         try clear hcz31_4
         try clear hcz32_0
         try clear hcz32_1
         try clear hcz32_2
         try clear hcz32_3
         try clear hcz32_4
         try clear hfz17_0
         try clear hfz17_1
         try clear hfz17_2
         try clear hfz17_3
         try clear hfz17_4
         try clear hfz18_0
         try clear hfz18_1
         try clear hfz18_2
         try clear hfz18_3
         try clear hfz18_4
         try clear hfz31_0
         try clear hfz31_1
         try clear hfz31_2
         try clear hfz31_3
         try clear hfz31_4
         try clear hfz32_0
         try clear hfz32_1
         try clear hfz32_2
         try clear hfz32_3
         try clear hfz32_4
         try clear hx266_0
         try clear hx267_0
         try clear hx269_0
         try clear hx270_0
         try clear p2
         try clear p26
         try clear p266
         try clear p267
         try clear p269
         try clear p27
         try clear p270
         try clear p6
         try clear q2
         try clear q26
         try clear q266
         try clear q267
         try clear q269
         try clear q27
         try clear q270
         obtain ⟨x12_4, x13_4, x266003_4, x266004_4, rfl, HA, HK4, HO_12, HO_265000, HO_265001, HO_265002, BK264, BK265, HK, HB⟩ := hrel
         cases gk with
         | zero => exact absurd HA.out (by simp [emendateref34_line.l0])
         | succ k4 =>
          have H := HA.out; clear HA
          simp only [emendateref34_line.l0] at H
          by_cases c35 : x13_4 < x8_4
          rotate_left
          ·
           rw [if_neg c35] at H
           have c35b0 : decide (x13_4 < x8_4) = false := decide_eq_false c35; clear c35; have HC51 := Aside0.mk H; clear H
           go_upto_region 25 with (fail)
           go_cut [91] (fun v91 wc => ∃ (kq : Nat) (x91_50 : Bool), v91 = .bool x91_50 ∧ Aside0 (emendateref34_line.j5 kq l1 x9_4 t268 x11_23 x12_4 x91_50 l0_0 l0_1 l0_2 a0_3 a0_4 = some (r1, r2, r3, r4, r5, r6)) ∧ Aside0 (kq ≤ k4) ∧ Aside0 (Kd.R (Kd.int .i64) 3 wc w0.heap.size (fun k_ => ((P0_0_ k_ ∨ P0_1_ k_) ∨ w.heap.size ≤ k_) ∧ some k_ ≠ ((.slice Ao6 l0_0.length co6) : Value).ownBlock ∧ some k_ ≠ ((.slice Ao7 l0_1.length co7) : Value).ownBlock) v272 x12_4) ∧ Aside0 (Kd.R (Kd.int .i64) 3 wc w0.heap.size (fun k_ => ((P0_0_ k_ ∨ P0_1_ k_) ∨ w.heap.size ≤ k_) ∧ some k_ ≠ (v272 : Value).ownBlock ∧ some k_ ≠ ((.slice Ao7 l0_1.length co7) : Value).ownBlock) (.slice Ao6 l0_0.length co6) l0_0) ∧ Aside0 (Kd.R (Kd.int .i64) 3 wc w0.heap.size (fun k_ => ((P0_0_ k_ ∨ P0_1_ k_) ∨ w.heap.size ≤ k_) ∧ some k_ ≠ (v272 : Value).ownBlock ∧ some k_ ≠ ((.slice Ao6 l0_0.length co6) : Value).ownBlock) (.slice Ao7 l0_1.length co7) l0_1) ∧ Aside0 (Kd.V (Kd.slice 3 (Kd.int .i64)) 22 wc w0.heap.size (fun k_ => ((P0_0_ k_ ∨ P0_1_ k_ ∨ P0_2_ k_) ∨ w.heap.size ≤ k_) ∧ some k_ ≠ (v272 : Value).ownBlock ∧ some k_ ≠ ((.slice Ao6 l0_0.length co6) : Value).ownBlock ∧ some k_ ≠ ((.slice Ao7 l0_1.length co7) : Value).ownBlock ∧ k_ ≠ gb264 ∧ k_ ≠ gb265) (.slice A0_2 l0_2.length c0_2) l0_2) ∧ Aside0 (wc.heap[gb264]? = some (.cells #[(.slice Ao6 l0_0.length co6), (.slice Ao7 l0_1.length co7), (.slice A0_2 l0_2.length c0_2), .int .i64 a0_3, .int .i64 a0_4] 25 (0, 0))) ∧ Aside0 (wc.heap[gb265]? = some (.cells #[(.slice none 0 0), (.slice none 0 0), (.slice none 0 0), .int .i64 x266003_4, .int .i64 x266004_4] 25 (0, 0))) ∧ Aside0 (Kept w wc (fun k_ => P0_0_ k_ ∨ P0_1_ k_)) ∧ Aside0 (Below w0.heap.size w0 wc))
           case first =>
            have H := HC51.out; clear HC51
            by_cases c52 : x8_4 = 2
            rotate_left
            ·
             rw [if_neg c52] at H
             have c52b0 : (x8_4 == 2) = false := beq_eq_false_iff_ne.mpr c52; have c52b1 : (x8_4 != 2) = true := bne_iff_ne.mpr c52
             (first | rw [c52b0] | (simp only [i64_w, i32_w]; rw [c52b0]) | skip)
             have H' := Aside0.mk H; clear H
             try go_wp2
             have n0_ := Aside0.mk (Kd.R_drew HO_12.out); have n1_ := Aside0.mk (Kd.R_drew HO_265000.out); have n2_ := Aside0.mk (Kd.R_drew HO_265001.out); have n3_ := Aside0.mk (Kd.V_drew HO_265002.out); have n4_ := Aside0.mk (blk_drew BK264.out); have n5_ := Aside0.mk (blk_drew BK265.out); have n6_ := Aside0.mk (Kept.drew HK.out); have n7_ := Aside0.mk (below_drew1 HB.out); clear HO_12; clear HO_265000; clear HO_265001; clear HO_265002; clear BK264; clear BK265; clear HK; clear HB; have HO_12 := n0_; have HO_265000 := n1_; have HO_265001 := n2_; have HO_265002 := n3_; have BK264 := n4_; have BK265 := n5_; have HK := n6_; have HB := n7_; clear n0_ n1_ n2_ n3_ n4_ n5_ n6_ n7_
             refine start_ (n := 11) (S := fun w' => True) (ds := []) #[false, false, false, false, false, false, false, false, false, false, false] (by kernel_rfl) rfl rfl trivial (fun hHeld => ?_); refine with_tabW emendateref34_line.tab25 emendateref34_line.bits25 (fun HT_ HW_ => ?_)
             generalize wr.drew = w57 at HO_12 HO_265000 HO_265001 HO_265002 BK264 BK265 HK HB hHeld ⊢
             refine pure_ (i := 0) (N := some 81) (v := ?_) (a' := ?_) #[true, false, false, false, false, false, false, false, false, false, false] rfl rfl (any_of HT_.out (by kernel_rfl)) (fun _ _ _ h => h) (Or.inl ⟨by rfl, ?_⟩) ?_ ?_
             rotate_left
             ·
              intro w'
              go_simp
              with_reducible rfl
             rotate_left
             ·
              simp only [Act.put, List.setIfInBounds_toArray, List.set_cons_zero, List.set_cons_succ, i64_w, i32_w]
              rfl
             refine pure_ (i := 1) (N := some 82) (v := ?_) (a' := ?_) #[true, true, false, false, false, false, false, false, false, false, false] rfl rfl (any_of HT_.out (by kernel_rfl)) (fun _ _ _ h => h) (Or.inl ⟨by rfl, ?_⟩) ?_ ?_
             rotate_left
             ·
              intro w'
              go_simp
              with_reducible rfl
             rotate_left
             ·
              simp only [Act.put, List.setIfInBounds_toArray, List.set_cons_zero, List.set_cons_succ, i64_w, i32_w]
              rfl
             refine pure_ (i := 2) (N := some 83) (v := ?_) (a' := ?_) #[true, true, true, false, false, false, false, false, false, false, false] rfl rfl (any_of HT_.out (by kernel_rfl)) (fun _ _ _ h => h) (Or.inl ⟨by rfl, ?_⟩) ?_ ?_
             rotate_left
             ·
              intro w'
              go_simp
              with_reducible rfl
             rotate_left
             ·
              simp only [Act.put, List.setIfInBounds_toArray, List.set_cons_zero, List.set_cons_succ, i64_w, i32_w]
              rfl
             refine pure_ (i := 3) (N := some 84) (v := undef) (a' := ?_) #[true, true, true, true, false, false, false, false, false, false, false] rfl rfl (any_of HT_.out (by kernel_rfl)) (fun _ _ _ h => h) (Or.inr ⟨by rfl, rfl⟩) ?_ ?_
             rotate_left
             ·
              simp only [Act.put, List.setIfInBounds_toArray, List.set_cons_zero, List.set_cons_succ, i64_w, i32_w]
              rfl
             refine pure_ (i := 4) (N := some 85) (v := undef) (a' := ?_) #[true, true, true, true, true, false, false, false, false, false, false] rfl rfl (any_of HT_.out (by kernel_rfl)) (fun _ _ _ h => h) (Or.inr ⟨by rfl, rfl⟩) ?_ ?_
             rotate_left
             ·
              simp only [Act.put, List.setIfInBounds_toArray, List.set_cons_zero, List.set_cons_succ, i64_w, i32_w]
              rfl
             refine pure_ (i := 5) (N := some 86) (v := undef) (a' := ?_) #[true, true, true, true, true, true, false, false, false, false, false] rfl rfl (any_of HT_.out (by kernel_rfl)) (fun _ _ _ h => h) (Or.inr ⟨by rfl, rfl⟩) ?_ ?_
             rotate_left
             ·
              simp only [Act.put, List.setIfInBounds_toArray, List.set_cons_zero, List.set_cons_succ, i64_w, i32_w]
              rfl
             refine pure_ (i := 6) (N := some 87) (v := undef) (a' := ?_) #[true, true, true, true, true, true, true, false, false, false, false] rfl rfl (any_of HT_.out (by kernel_rfl)) (fun _ _ _ h => h) (Or.inr ⟨by rfl, rfl⟩) ?_ ?_
             rotate_left
             ·
              simp only [Act.put, List.setIfInBounds_toArray, List.set_cons_zero, List.set_cons_succ, i64_w, i32_w]
              rfl
             refine pure_ (i := 7) (N := some 88) (v := undef) (a' := ?_) #[true, true, true, true, true, true, true, true, false, false, false] rfl rfl (any_of HT_.out (by kernel_rfl)) (fun _ _ _ h => h) (Or.inr ⟨by rfl, rfl⟩) ?_ ?_
             rotate_left
             ·
              simp only [Act.put, List.setIfInBounds_toArray, List.set_cons_zero, List.set_cons_succ, i64_w, i32_w]
              rfl
             refine pure_ (i := 8) (N := some 89) (v := undef) (a' := ?_) #[true, true, true, true, true, true, true, true, true, false, false] rfl rfl (any_of HT_.out (by kernel_rfl)) (fun _ _ _ h => h) (Or.inr ⟨by rfl, rfl⟩) ?_ ?_
             rotate_left
             ·
              simp only [Act.put, List.setIfInBounds_toArray, List.set_cons_zero, List.set_cons_succ, i64_w, i32_w]
              rfl
             refine pure_ (i := 9) (N := some 90) (v := undef) (a' := ?_) #[true, true, true, true, true, true, true, true, true, true, false] rfl rfl (any_of HT_.out (by kernel_rfl)) (fun _ _ _ h => h) (Or.inr ⟨by rfl, rfl⟩) ?_ ?_
             rotate_left
             ·
              simp only [Act.put, List.setIfInBounds_toArray, List.set_cons_zero, List.set_cons_succ, i64_w, i32_w]
              rfl
             refine pure_ (i := 10) (N := some 91) (v := ?_) (a' := ?_) #[true, true, true, true, true, true, true, true, true, true, true] rfl rfl (any_of HT_.out (by kernel_rfl)) (fun _ _ _ h => h) (Or.inl ⟨by rfl, ?_⟩) ?_ ?_
             rotate_left
             ·
              intro w'
              go_simp
              with_reducible rfl
             rotate_left
             ·
              simp only [Act.put, List.setIfInBounds_toArray, List.set_cons_zero, List.set_cons_succ, i64_w, i32_w]
              rfl
             refine done_ (done_of HT_.out (by kernel_rfl)) ?_
             try go_wp2
             go_meet
             case rel => exact ⟨_, (false), (by first | rfl | (simp; done) | (simp [*]; done)), H', ⟨by have := HJ4.out; have := HJ23.out; have := HJ26.out; have := HK4.out; first | omega | exact Nat.le_refl _⟩, ⟨by exact HO_12.out⟩, ⟨by exact HO_265000.out⟩, ⟨by exact HO_265001.out⟩, ⟨by exact HO_265002.out⟩, ⟨by exact BK264.out⟩, ⟨by exact BK265.out⟩, ⟨by repeat (first | (with_reducible first | exact HK.out | apply Kept.alloc | apply Kept.drewN | apply Kept.drew | refine Kept.setCell ?_ (.inr GW264.out) _ | refine Kept.setCell ?_ (.inr GW265.out) _) | exact HK.out)⟩, ⟨by repeat (first | (with_reducible first | exact HB.out | apply below_alloc | apply pw_below_drewN | apply below_drew1 | refine below_set ?_ GE264.out | refine below_set ?_ GE265.out) | exact HB.out)⟩⟩
            rw [if_pos c52] at H
            have c52b0 : (x8_4 == 2) = true := beq_iff_eq.mpr c52; have c52b1 : (x8_4 != 2) = false := bne_eq_false_iff_eq.mpr c52; clear c52
            (first | rw [c52b0] | (simp only [i64_w, i32_w]; rw [c52b0]) | skip)
            by_cases c53 : 0 < (x12_4.length : Int)
            rotate_left
            ·
             rw [if_neg c53] at H
             exact absurd H (by simp)
            rw [if_pos c53] at H
            have c53b0 : decide (0 < (x12_4.length : Int)) = true := decide_eq_true c53; have c53b1 : decide (0 < x12_4.length) = true := decide_eq_true (by omega)
            clear c53
            by_cases c54 : 1 < (x12_4.length : Int)
            rotate_left
            ·
             rw [if_neg c54] at H
             exact absurd H (by simp)
            rw [if_pos c54] at H
            have c54b0 : decide (1 < (x12_4.length : Int)) = true := decide_eq_true c54; have c54b1 : decide (1 < x12_4.length) = true := decide_eq_true (by omega)
            clear c54; have H' := Aside0.mk H; clear H
            try go_wp2
            have n0_ := Aside0.mk (Kd.R_drew HO_12.out); have n1_ := Aside0.mk (Kd.R_drew HO_265000.out); have n2_ := Aside0.mk (Kd.R_drew HO_265001.out); have n3_ := Aside0.mk (Kd.V_drew HO_265002.out); have n4_ := Aside0.mk (blk_drew BK264.out); have n5_ := Aside0.mk (blk_drew BK265.out); have n6_ := Aside0.mk (Kept.drew HK.out); have n7_ := Aside0.mk (below_drew1 HB.out); clear HO_12; clear HO_265000; clear HO_265001; clear HO_265002; clear BK264; clear BK265; clear HK; clear HB; have HO_12 := n0_; have HO_265000 := n1_; have HO_265001 := n2_; have HO_265002 := n3_; have BK264 := n4_; have BK265 := n5_; have HK := n6_; have HB := n7_; clear n0_ n1_ n2_ n3_ n4_ n5_ n6_ n7_; obtain ⟨Ao56, co56, eo56⟩ := Kd.R_slice HO_12.out
            (first | subst eo56 | (injection eo56 with f1_ f2_ f3_; have f4_ := f1_.symm; have f5_ := f3_.symm; clear f1_ f2_ f3_; subst f4_; subst f5_))
            have p278 : 0 ≤ (0 : Int) := (by omega)
            have q278 : 0 < (x12_4.length : Int) := of_decide_eq_true (by first | (with_reducible assumption) | assumption)
            obtain ⟨ad278, e278, hx278_0⟩ := Kd.at_int (Kd.R_reads' HO_12.out).2.2 0 p278 q278
            cases e278
            have qi278 : (0 < x12_4.length) = True := eq_true (by omega)
            (try rw [show ((0 : Int)).toNat = 0 from rfl] at hx278_0)
            (try rw [Addr.add_zero'] at hx278_0)
            replace p278 := eq_true p278; replace q278 := eq_true q278; have p279 : 0 ≤ (1 : Int) := (by omega)
            have q279 : 1 < (x12_4.length : Int) := of_decide_eq_true (by first | (with_reducible assumption) | assumption)
            obtain ⟨ad279, e279, hx279_0⟩ := Kd.at_int (Kd.R_reads' HO_12.out).2.2 1 p279 q279; obtain rfl : ad278 = ad279 := (by injection e279)
            (try simp only [show (1 : Int).toNat = 1 from rfl, Nat.reduceMul, Nat.reduceEqDiff, Go.Addr.add, ↓reduceIte] at hx279_0)
            have qi279 : (1 < x12_4.length) = True := eq_true (by omega)
            (try rw [show ((1 : Int)).toNat = 1 from rfl] at hx279_0)
            replace p279 := eq_true p279; replace q279 := eq_true q279
            refine start_ (n := 11) (S := fun w' => w'.cell? ad278 = some (.int .i64 (rd x12_4 0)) ∧ w'.cell? ⟨ad278.block, ad278.off + 1, none⟩ = some (.int .i64 (rd x12_4 1))) (ds := []) #[false, false, false, false, false, false, false, false, false, false, false] (by kernel_rfl) rfl rfl ⟨hx278_0, hx279_0⟩ (fun hHeld => ?_); refine with_tabW emendateref34_line.tab25 emendateref34_line.bits25 (fun HT_ HW_ => ?_)
            generalize wr.drew = w55 at HO_12 HO_265000 HO_265001 HO_265002 BK264 BK265 HK HB hx278_0 hx279_0 hHeld ⊢
            refine pure_ (i := 0) (N := some 81) (v := ?_) (a' := ?_) #[true, false, false, false, false, false, false, false, false, false, false] rfl rfl (any_of HT_.out (by kernel_rfl)) (fun _ _ _ h => h) (Or.inl ⟨by rfl, ?_⟩) ?_ ?_
            rotate_left
            ·
             intro w'
             go_simp
             with_reducible rfl
            rotate_left
            ·
             simp only [Act.put, List.setIfInBounds_toArray, List.set_cons_zero, List.set_cons_succ, i64_w, i32_w]
             rfl
            refine pure_ (i := 1) (N := some 82) (v := ?_) (a' := ?_) #[true, true, false, false, false, false, false, false, false, false, false] rfl rfl (any_of HT_.out (by kernel_rfl)) (fun _ _ _ h => h) (Or.inl ⟨by rfl, ?_⟩) ?_ ?_
            rotate_left
            ·
             intro w'
             go_simp
             with_reducible rfl
            rotate_left
            ·
             simp only [Act.put, List.setIfInBounds_toArray, List.set_cons_zero, List.set_cons_succ, i64_w, i32_w]
             rfl
            refine pure_ (i := 2) (N := some 83) (v := ?_) (a' := ?_) #[true, true, true, false, false, false, false, false, false, false, false] rfl rfl (any_of HT_.out (by kernel_rfl)) (fun _ _ _ h => h) (Or.inl ⟨by rfl, ?_⟩) ?_ ?_
            rotate_left
            ·
             intro w'
             go_simp
             with_reducible rfl
            rotate_left
            ·
             simp only [Act.put, List.setIfInBounds_toArray, List.set_cons_zero, List.set_cons_succ, i64_w, i32_w]
             rfl
            refine pure_ (i := 3) (N := some 84) (v := ?_) (a' := ?_) #[true, true, true, true, false, false, false, false, false, false, false] rfl rfl (any_of HT_.out (by kernel_rfl)) (fun _ _ _ h => h) (Or.inl ⟨by rfl, ?_⟩) ?_ ?_
            rotate_left
            ·
             intro w'
             go_simp
             with_reducible rfl
            rotate_left
            ·
             simp only [Act.put, List.setIfInBounds_toArray, List.set_cons_zero, List.set_cons_succ, i64_w, i32_w]
             rfl
            refine pure_ (i := 4) (N := some 85) (v := ?_) (a' := ?_) #[true, true, true, true, true, false, false, false, false, false, false] rfl rfl (any_of HT_.out (by kernel_rfl)) (fun _ _ _ h => h) (Or.inl ⟨by rfl, ?_⟩) ?_ ?_
            rotate_left
            ·
             intro w'
             go_simp
             with_reducible rfl
            rotate_left
            ·
             simp only [Act.put, List.setIfInBounds_toArray, List.set_cons_zero, List.set_cons_succ, i64_w, i32_w]
             rfl
            refine pure_ (i := 6) (N := some 87) (v := ?_) (a' := ?_) #[true, true, true, true, true, false, true, false, false, false, false] rfl rfl (any_of HT_.out (by kernel_rfl)) (fun _ _ _ h => h) (Or.inl ⟨by rfl, ?_⟩) ?_ ?_
            rotate_left
            ·
             intro w'
             go_simp
             with_reducible rfl
            rotate_left
            ·
             simp only [Act.put, List.setIfInBounds_toArray, List.set_cons_zero, List.set_cons_succ, i64_w, i32_w]
             rfl
            refine pure_ (i := 7) (N := some 88) (v := ?_) (a' := ?_) #[true, true, true, true, true, false, true, true, false, false, false] rfl rfl (any_of HT_.out (by kernel_rfl)) (fun _ _ _ h => h) (Or.inl ⟨by rfl, ?_⟩) ?_ ?_
            rotate_left
            ·
             intro w'
             go_simp
             with_reducible rfl
            rotate_left
            ·
             simp only [Act.put, List.setIfInBounds_toArray, List.set_cons_zero, List.set_cons_succ, i64_w, i32_w]
             rfl
            refine take_ (i := 5) (N := some 86) (v := ?_) (a' := ?_) #[true, true, true, true, true, true, true, true, false, false, false] rfl rfl (take_ofW HT_.out HW_.out (by kernel_rfl)) (fun _ _ _ h => h) (Or.inl ⟨by rfl, ?_⟩) hHeld ?_ ?_
            rotate_left
            ·
             rintro w' ⟨s0, s1⟩
             go_simp
             with_reducible rfl
            rotate_left
            ·
             simp only [Act.put, List.setIfInBounds_toArray, List.set_cons_zero, List.set_cons_succ, i64_w, i32_w]
             rfl
            refine take_ (i := 8) (N := some 89) (v := ?_) (a' := ?_) #[true, true, true, true, true, true, true, true, true, false, false] rfl rfl (take_ofW HT_.out HW_.out (by kernel_rfl)) (fun _ _ _ h => h) (Or.inl ⟨by rfl, ?_⟩) hHeld ?_ ?_
            rotate_left
            ·
             rintro w' ⟨s0, s1⟩
             go_simp
             with_reducible rfl
            rotate_left
            ·
             simp only [Act.put, List.setIfInBounds_toArray, List.set_cons_zero, List.set_cons_succ, i64_w, i32_w]
             rfl
            refine pure_ (i := 9) (N := some 90) (v := ?_) (a' := ?_) #[true, true, true, true, true, true, true, true, true, true, false] rfl rfl (any_of HT_.out (by kernel_rfl)) (fun _ _ _ h => h) (Or.inl ⟨by rfl, ?_⟩) ?_ ?_
            rotate_left
            ·
             intro w'
             go_simp
             with_reducible rfl
            rotate_left
            ·
             simp only [Act.put, List.setIfInBounds_toArray, List.set_cons_zero, List.set_cons_succ, i64_w, i32_w]
             rfl
            refine pure_ (i := 10) (N := some 91) (v := ?_) (a' := ?_) #[true, true, true, true, true, true, true, true, true, true, true] rfl rfl (any_of HT_.out (by kernel_rfl)) (fun _ _ _ h => h) (Or.inl ⟨by rfl, ?_⟩) ?_ ?_
            rotate_left
            ·
             intro w'
             go_simp
             with_reducible rfl
            rotate_left
            ·
             simp only [Act.put, List.setIfInBounds_toArray, List.set_cons_zero, List.set_cons_succ, i64_w, i32_w]
             rfl
            refine done_ (done_of HT_.out (by kernel_rfl)) ?_
            try go_wp2
            go_meet
            case rel => exact ⟨_, (((rd x12_4 0) == (rd x12_4 1))), (by first | rfl | (simp; done) | (simp [*]; done)), H', ⟨by have := HJ4.out; have := HJ23.out; have := HJ26.out; have := HK4.out; first | omega | exact Nat.le_refl _⟩, ⟨by exact HO_12.out⟩, ⟨by exact HO_265000.out⟩, ⟨by exact HO_265001.out⟩, ⟨by exact HO_265002.out⟩, ⟨by exact BK264.out⟩, ⟨by exact BK265.out⟩, ⟨by repeat (first | (with_reducible first | exact HK.out | apply Kept.alloc | apply Kept.drewN | apply Kept.drew | refine Kept.setCell ?_ (.inr GW264.out) _ | refine Kept.setCell ?_ (.inr GW265.out) _) | exact HK.out)⟩, ⟨by repeat (first | (with_reducible first | exact HB.out | apply below_alloc | apply pw_below_drewN | apply below_drew1 | refine below_set ?_ GE264.out | refine below_set ?_ GE265.out) | exact HB.out)⟩⟩
           case rest =>
            clear HC51
            try clear c1
            try clear c2
            try clear p2
            try clear q2
            try clear hx2
            try clear qi2
            try clear c3
            try clear c4
            try clear c4b0
            try clear c4b1
            try clear p4
            try clear q4
            try clear hx4
            try clear hf4
            try clear c5
            try clear p6
            try clear c11
            try clear c11b0
            try clear c11b1
            try clear c12
            try clear c13
            try clear c13b0
            try clear c13b1
            try clear c14
            try clear c14b0
            try clear c14b1
            try clear c15
            try clear c15b0
            try clear c15b1
            try clear c16
            try clear c19
            try clear c19b0
            try clear c19b1
            try clear c21
            try clear c21b0
            try clear c22
            try clear c22b0
            try clear c25
            try clear c25b0
            try clear c25b1
            try clear c26
            try clear c26b0
            try clear c26b1
            try clear p26
            try clear q26
            try clear hx26
            try clear qi26
            try clear p27
            try clear q27
            try clear hx27
            try clear qi27
            try clear c28
            try clear c28b0
            try clear c29
            try clear c30
            try clear c33
            try clear c35
            try clear c35b0
            try clear c37
            try clear c37b0
            try clear c38
            try clear c38b0
            try clear c40
            try clear c40b0
            try clear c41
            try clear c41b0
            try clear p42
            try clear q42
            try clear hx42
            try clear hf42
            try clear c43
            try clear c43b0
            try clear c46
            try clear c50
            try clear c52
            try clear c52b0
            try clear c52b1
            try clear c53
            try clear c53b0
            try clear c53b1
            try clear c54
            try clear c54b0
            try clear c54b1
            try clear hcz17_0
            try clear hcz17_1
            try clear hcz17_2
            try clear hcz17_3
            try clear hcz17_4
            try clear hcz18_0
            try clear hcz18_1
            try clear hcz18_2
            try clear hcz18_3
            try clear hcz18_4
            try clear hcz31_0
            try clear hcz31_1
            try clear hcz31_2
            try clear hcz31_3
            try clear hcz31_4
            try clear hcz32_0
            try clear hcz32_1
            try clear hcz32_2
            try clear hcz32_3
            try clear hcz32_4
            try clear hcz47_0
            try clear hcz47_1
            try clear hcz47_2
            try clear hcz47_3
            try clear hcz47_4
            try clear hcz48_0
            try clear hcz48_1
            try clear hcz48_2
            try clear hcz48_3
            try clear hcz48_4
            try clear hfz17_0
            try clear hfz17_1
            try clear hfz17_2
            try clear hfz17_3
            try clear hfz17_4
            try clear hfz18_0
            try clear hfz18_1
            try clear hfz18_2
            try clear hfz18_3
            try clear hfz18_4
            try clear hfz31_0
            try clear hfz31_1
            try clear hfz31_2
            try clear hfz31_3
            try clear hfz31_4
            try clear hfz32_0
            try clear hfz32_1
            try clear hfz32_2
            try clear hfz32_3
            try clear hfz32_4
            try clear hfz47_0
            try clear hfz47_1
            try clear hfz47_2
            try clear hfz47_3
            try clear hfz47_4
            try clear hfz48_0
            try clear hfz48_1
            try clear hfz48_2
            try clear hfz48_3
            try clear hfz48_4
            try clear hx266_0
            try clear hx267_0
            try clear hx269_0
            try clear hx270_0
            try clear hx274_0
            try clear hx277_0
            try clear hx278_0
            try clear hx279_0
            try clear hx42_0
            try clear p2
            try clear p26
            try clear p266
            try clear p267
            try clear p269
            try clear p27
            try clear p270
            try clear p274
            try clear p277
            try clear p278
            try clear p279
            try clear p42
            try clear p6
            try clear q2
            try clear q26
            try clear q266
            try clear q267
            try clear q269
            try clear q27
            try clear q270
            try clear q274
            try clear q277
            try clear q278
            try clear q279
            try clear q42
            obtain ⟨kq, x91_50, rfl, HA, HJ50, HO_12, HO_265000, HO_265001, HO_265002, BK264, BK265, HK, HB⟩ := hcut
            cases kq with
            | zero => exact absurd HA.out (by simp [emendateref34_line.j5])
            | succ kj50 =>
             have H := HA.out; clear HA
             simp only [emendateref34_line.j5] at H
             by_cases c58 : x91_50 = true
             rotate_left
             ·
              replace c58 := Bool.eq_false_iff.mpr c58; subst c58; have H1 : (if x11_23 = true then (emendateref34_line.j6 kj50 l1 t268 x12_4 false l0_0 l0_1 l0_2 a0_3 a0_4) else ((emendateref34_between.f t268 x9_4 1000).bind fun t280 => (emendateref34_line.j6 kj50 l1 t268 x12_4 (!t280) l0_0 l0_1 l0_2 a0_3 a0_4))) = some (r1, r2, r3, r4, r5, r6) := by rw [if_neg (show ¬ (false = true) by decide)] at H; exact H
              clear H; have H := H1; clear H1; have HC62 := Aside0.mk H; clear H
              go_upto_region 27 with (fail)
              go_cut [100] (fun v100 wc => ∃ (kq : Nat) (x100_61 : Bool), v100 = .bool x100_61 ∧ Aside0 (emendateref34_line.j6 kq l1 t268 x12_4 x100_61 l0_0 l0_1 l0_2 a0_3 a0_4 = some (r1, r2, r3, r4, r5, r6)) ∧ Aside0 (kq ≤ kj50) ∧ Aside0 (Kd.R (Kd.int .i64) 3 wc w0.heap.size (fun k_ => ((P0_0_ k_ ∨ P0_1_ k_) ∨ w.heap.size ≤ k_) ∧ some k_ ≠ ((.slice Ao6 l0_0.length co6) : Value).ownBlock ∧ some k_ ≠ ((.slice Ao7 l0_1.length co7) : Value).ownBlock) v272 x12_4) ∧ Aside0 (Kd.R (Kd.int .i64) 3 wc w0.heap.size (fun k_ => ((P0_0_ k_ ∨ P0_1_ k_) ∨ w.heap.size ≤ k_) ∧ some k_ ≠ (v272 : Value).ownBlock ∧ some k_ ≠ ((.slice Ao7 l0_1.length co7) : Value).ownBlock) (.slice Ao6 l0_0.length co6) l0_0) ∧ Aside0 (Kd.R (Kd.int .i64) 3 wc w0.heap.size (fun k_ => ((P0_0_ k_ ∨ P0_1_ k_) ∨ w.heap.size ≤ k_) ∧ some k_ ≠ (v272 : Value).ownBlock ∧ some k_ ≠ ((.slice Ao6 l0_0.length co6) : Value).ownBlock) (.slice Ao7 l0_1.length co7) l0_1) ∧ Aside0 (Kd.V (Kd.slice 3 (Kd.int .i64)) 22 wc w0.heap.size (fun k_ => ((P0_0_ k_ ∨ P0_1_ k_ ∨ P0_2_ k_) ∨ w.heap.size ≤ k_) ∧ some k_ ≠ (v272 : Value).ownBlock ∧ some k_ ≠ ((.slice Ao6 l0_0.length co6) : Value).ownBlock ∧ some k_ ≠ ((.slice Ao7 l0_1.length co7) : Value).ownBlock ∧ k_ ≠ gb264 ∧ k_ ≠ gb265) (.slice A0_2 l0_2.length c0_2) l0_2) ∧ Aside0 (wc.heap[gb264]? = some (.cells #[(.slice Ao6 l0_0.length co6), (.slice Ao7 l0_1.length co7), (.slice A0_2 l0_2.length c0_2), .int .i64 a0_3, .int .i64 a0_4] 25 (0, 0))) ∧ Aside0 (wc.heap[gb265]? = some (.cells #[(.slice none 0 0), (.slice none 0 0), (.slice none 0 0), .int .i64 x266003_4, .int .i64 x266004_4] 25 (0, 0))) ∧ Aside0 (Kept w wc (fun k_ => P0_0_ k_ ∨ P0_1_ k_)) ∧ Aside0 (Below w0.heap.size w0 wc))
              case first =>
               have H := HC62.out; clear HC62
               by_cases c63 : x11_23 = true
               rotate_left
               ·
                replace c63 := Bool.eq_false_iff.mpr c63; subst c63; have H1 : ((emendateref34_between.f t268 x9_4 1000).bind fun t280 => (emendateref34_line.j6 kj50 l1 t268 x12_4 (!t280) l0_0 l0_1 l0_2 a0_3 a0_4)) = some (r1, r2, r3, r4, r5, r6) := by rw [if_neg (show ¬ (false = true) by decide)] at H; exact H
                clear H; have H := H1; clear H1; replace H := Option.bind_eq_some_iff.mp H; obtain ⟨t280, A640, H⟩ := H; replace H : (emendateref34_line.j6 kj50 l1 t268 x12_4 (!t280) l0_0 l0_1 l0_2 a0_3 a0_4) = some (r1, r2, r3, r4, r5, r6) := H; have A64 := Aside0.mk A640; clear A640; have H' := Aside0.mk H; clear H
                go_wp2_with (first | (go_at_call 24; (with_reducible refine (emendateref34_between.calls t268 x9_4 1000 t280 _ A64.out).mono ?_); rintro e w' ⟨rfl, ⟨nd, rfl⟩⟩))
                go_meet
                case rel => exact ⟨_, (!t280), (by first | rfl | (simp; done) | (simp [*]; done)), H', ⟨by have := HJ4.out; have := HJ23.out; have := HJ26.out; have := HK4.out; have := HJ50.out; first | omega | exact Nat.le_refl _⟩, ⟨by exact HO_12.out⟩, ⟨by exact HO_265000.out⟩, ⟨by exact HO_265001.out⟩, ⟨by exact HO_265002.out⟩, ⟨by exact BK264.out⟩, ⟨by exact BK265.out⟩, ⟨by repeat (first | (with_reducible first | exact HK.out | apply Kept.alloc | apply Kept.drewN | apply Kept.drew | refine Kept.setCell ?_ (.inr GW264.out) _ | refine Kept.setCell ?_ (.inr GW265.out) _) | exact HK.out)⟩, ⟨by repeat (first | (with_reducible first | exact HB.out | apply below_alloc | apply pw_below_drewN | apply below_drew1 | refine below_set ?_ GE264.out | refine below_set ?_ GE265.out) | exact HB.out)⟩⟩
               subst c63; have H1 : (emendateref34_line.j6 kj50 l1 t268 x12_4 false l0_0 l0_1 l0_2 a0_3 a0_4) = some (r1, r2, r3, r4, r5, r6) := by rw [if_pos rfl] at H; exact H
               clear H; have H := H1; clear H1; have H' := Aside0.mk H; clear H
               go_wp2
               go_meet
               case rel => exact ⟨_, (false), (by first | rfl | (simp; done) | (simp [*]; done)), H', ⟨by have := HJ4.out; have := HJ23.out; have := HJ26.out; have := HK4.out; have := HJ50.out; first | omega | exact Nat.le_refl _⟩, ⟨by exact HO_12.out⟩, ⟨by exact HO_265000.out⟩, ⟨by exact HO_265001.out⟩, ⟨by exact HO_265002.out⟩, ⟨by exact BK264.out⟩, ⟨by exact BK265.out⟩, ⟨by repeat (first | (with_reducible first | exact HK.out | apply Kept.alloc | apply Kept.drewN | apply Kept.drew | refine Kept.setCell ?_ (.inr GW264.out) _ | refine Kept.setCell ?_ (.inr GW265.out) _) | exact HK.out)⟩, ⟨by repeat (first | (with_reducible first | exact HB.out | apply below_alloc | apply pw_below_drewN | apply below_drew1 | refine below_set ?_ GE264.out | refine below_set ?_ GE265.out) | exact HB.out)⟩⟩
              case rest =>
               clear HC62
               try clear c1
               try clear c2
               try clear p2
               try clear q2
               try clear hx2
               try clear qi2
               try clear c3
               try clear c4
               try clear c4b0
               try clear c4b1
               try clear p4
               try clear q4
               try clear hx4
               try clear hf4
               try clear c5
               try clear c6
               try clear p6
               try clear c11
               try clear c11b0
               try clear c11b1
               try clear c12
               try clear c13
               try clear c13b0
               try clear c13b1
               try clear c14
               try clear c14b0
               try clear c14b1
               try clear c15
               try clear c15b0
               try clear c15b1
               try clear c16
               try clear c19
               try clear c19b0
               try clear c19b1
               try clear c21
               try clear c21b0
               try clear c22
               try clear c22b0
               try clear c25
               try clear c25b0
               try clear c25b1
               try clear c26
               try clear c26b0
               try clear c26b1
               try clear p26
               try clear q26
               try clear hx26
               try clear qi26
               try clear p27
               try clear q27
               try clear hx27
               try clear qi27
               try clear c28
               try clear c28b0
               try clear c29
               try clear c30
               try clear c33
               try clear c35
               try clear c35b0
               try clear c37
               try clear c37b0
               try clear c38
               try clear c38b0
               try clear c40
               try clear c40b0
               try clear c41
               try clear c41b0
               try clear p42
               try clear q42
               try clear hx42
               try clear hf42
               try clear c43
               try clear c43b0
               try clear c46
               try clear c50
               try clear c52
               try clear c52b0
               try clear c52b1
               try clear c53
               try clear c53b0
               try clear c53b1
               try clear c54
               try clear c54b0
               try clear c54b1
               try clear c58
               try clear c59
               try clear c63
               try clear p64
               try clear hcz17_0
               try clear hcz17_1
               try clear hcz17_2
               try clear hcz17_3
               try clear hcz17_4
               try clear hcz18_0
               try clear hcz18_1
               try clear hcz18_2
               try clear hcz18_3
               try clear hcz18_4
               try clear hcz31_0
               try clear hcz31_1
               try clear hcz31_2
               try clear hcz31_3
               try clear hcz31_4
               try clear hcz32_0
               try clear hcz32_1
               try clear hcz32_2
               try clear hcz32_3
               try clear hcz32_4
               try clear hcz47_0
               try clear hcz47_1
               try clear hcz47_2
               try clear hcz47_3
               try clear hcz47_4
               try clear hcz48_0
               try clear hcz48_1
               try clear hcz48_2
               try clear hcz48_3
               try clear hcz48_4
               try clear hcz60_0
               try clear hcz60_1
               try clear hcz60_2
               try clear hcz60_3
               try clear hcz60_4
               try clear hcz61_0
               try clear hcz61_1
               try clear hcz61_2
               try clear hcz61_3
               try clear hcz61_4
               try clear hfz17_0
               try clear hfz17_1
               try clear hfz17_2
               try clear hfz17_3
               try clear hfz17_4
               try clear hfz18_0
               try clear hfz18_1
               try clear hfz18_2
               try clear hfz18_3
               try clear hfz18_4
               try clear hfz31_0
               try clear hfz31_1
               try clear hfz31_2
               try clear hfz31_3
               try clear hfz31_4
               try clear hfz32_0
               try clear hfz32_1
               try clear hfz32_2
               try clear hfz32_3
               try clear hfz32_4
               try clear hfz47_0
               try clear hfz47_1
               try clear hfz47_2
               try clear hfz47_3
               try clear hfz47_4
               try clear hfz48_0
               try clear hfz48_1
               try clear hfz48_2
               try clear hfz48_3
               try clear hfz48_4
               try clear hfz60_0
               try clear hfz60_1
               try clear hfz60_2
               try clear hfz60_3
               try clear hfz60_4
               try clear hfz61_0
               try clear hfz61_1
               try clear hfz61_2
               try clear hfz61_3
               try clear hfz61_4
               try clear hx266_0
               try clear hx267_0
               try clear hx269_0
               try clear hx270_0
               try clear hx274_0
               try clear hx277_0
               try clear hx278_0
               try clear hx279_0
               try clear hx42_0
               try clear p2
               try clear p26
               try clear p266
               try clear p267
               try clear p269
               try clear p27
               try clear p270
               try clear p274
               try clear p277
               try clear p278
               try clear p279
               try clear p4
               try clear p42
               try clear p6
               try clear q2
               try clear q26
               try clear q266
               try clear q267
               try clear q269
               try clear q27
               try clear q270
               try clear q274
               try clear q277
               try clear q278
               try clear q279
               try clear q4
               try clear q42
               obtain ⟨kq, x100_61, rfl, HA, HJ61, HO_12, HO_265000, HO_265001, HO_265002, BK264, BK265, HK, HB⟩ := hcut
               cases kq with
               | zero => exact absurd HA.out (by simp [emendateref34_line.j6])
               | succ kj61 =>
                have H := HA.out; clear HA
                simp only [emendateref34_line.j6] at H
                by_cases c65 : x100_61 = true
                rotate_left
                ·
                 replace c65 := Bool.eq_false_iff.mpr c65; subst c65; have H1 : (if 0 < (l1.length : Int) then (if (rdOf ByteArray.empty l1 0).toList = ([105, 110, 115, 101, 114, 116] : List UInt8) then (if 0 < (x12_4.length : Int) then ((emendateref34_with.f l0_0 (rd x12_4 0) t268).bind fun t283 => (some (t283, l0_1, l0_2, a0_3, a0_4, 0))) else (none)) else (if (rdOf ByteArray.empty l1 0).toList = ([100, 101, 108, 101, 116, 101] : List UInt8) then (if 0 < (x12_4.length : Int) then ((emendateref34_with.f l0_1 (rd x12_4 0) t268).bind fun t287 => (some (l0_0, t287, l0_2, a0_3, a0_4, 0))) else (none)) else (if (rdOf ByteArray.empty l1 0).toList = ([114, 101, 112, 108, 97, 99, 101] : List UInt8) then ((some (([] : List (List Int)) : List (List Int))).bind fun y290 => (if y290.length + l0_2.length < 5864062014805 then ((some (y290 ++ l0_2 : List (List Int))).bind fun y293 => (if 0 < (x12_4.length : Int) then (if 0 ≤ (rd x12_4 0) then (if (rd x12_4 0) < (y293.length : Int) then (if 1 < (x12_4.length : Int) then ((emendateref34_with.f (rd_L1 y293 (rd x12_4 0)) (rd x12_4 1) t268).bind fun t300 => (some (l0_0, l0_1, (y293.set ((rd x12_4 0) : Int).toNat t300), a0_3, a0_4, 0))) else (none)) else (none)) else (none)) else (none))) else (none))) else (if (rdOf ByteArray.empty l1 0).toList = ([115, 119, 97, 112] : List UInt8) then (some (l0_0, l0_1, l0_2, t268, a0_4, 0)) else (some (l0_0, l0_1, l0_2, a0_3, t268, 0)))))) else (none)) = some (r1, r2, r3, r4, r5, r6) := by rw [if_neg (show ¬ (false = true) by decide)] at H; exact H
                 clear H; have H := H1; clear H1
                 by_cases c69 : 0 < (l1.length : Int)
                 rotate_left
                 ·
                  rw [if_neg c69] at H
                  exact absurd H (by simp)
                 rw [if_pos c69] at H
                 have c69b0 : decide (0 < (l1.length : Int)) = true := decide_eq_true c69; have c69b1 : decide (0 < l1.length) = true := decide_eq_true (by omega)
                 clear c69
                 by_cases c70 : (rdOf ByteArray.empty l1 0).toList = ([105, 110, 115, 101, 114, 116] : List UInt8)
                 rotate_left
                 ·
                  rw [if_neg c70] at H
                  have c70b0 : ((rdOf ByteArray.empty l1 0).toList == ([105, 110, 115, 101, 114, 116] : List UInt8)) = false := beq_eq_false_iff_ne.mpr c70; have c70b1 : ((rdOf ByteArray.empty l1 0).toList != ([105, 110, 115, 101, 114, 116] : List UInt8)) = true := bne_iff_ne.mpr c70
                  by_cases c81 : (rdOf ByteArray.empty l1 0).toList = ([100, 101, 108, 101, 116, 101] : List UInt8)
                  rotate_left
                  ·
                   rw [if_neg c81] at H
                   have c81b0 : ((rdOf ByteArray.empty l1 0).toList == ([100, 101, 108, 101, 116, 101] : List UInt8)) = false := beq_eq_false_iff_ne.mpr c81; have c81b1 : ((rdOf ByteArray.empty l1 0).toList != ([100, 101, 108, 101, 116, 101] : List UInt8)) = true := bne_iff_ne.mpr c81
                   by_cases c92 : (rdOf ByteArray.empty l1 0).toList = ([114, 101, 112, 108, 97, 99, 101] : List UInt8)
                   rotate_left
                   ·
                    rw [if_neg c92] at H
                    have c92b0 : ((rdOf ByteArray.empty l1 0).toList == ([114, 101, 112, 108, 97, 99, 101] : List UInt8)) = false := beq_eq_false_iff_ne.mpr c92; have c92b1 : ((rdOf ByteArray.empty l1 0).toList != ([114, 101, 112, 108, 97, 99, 101] : List UInt8)) = true := bne_iff_ne.mpr c92
                    by_cases c113 : (rdOf ByteArray.empty l1 0).toList = ([115, 119, 97, 112] : List UInt8)
                    rotate_left
                    ·
                     rw [if_neg c113] at H
                     have c113b0 : ((rdOf ByteArray.empty l1 0).toList == ([115, 119, 97, 112] : List UInt8)) = false := beq_eq_false_iff_ne.mpr c113; have c113b1 : ((rdOf ByteArray.empty l1 0).toList != ([115, 119, 97, 112] : List UInt8)) = true := bne_iff_ne.mpr c113
                     simp only [Option.some.injEq, Prod.mk.injEq] at H
                     obtain ⟨rfl, rfl, rfl, rfl, rfl, rfl⟩ := H; have p281 : 0 ≤ (0 : Int) := (by omega)
                     have q281 : 0 < (l1.length : Int) := of_decide_eq_true (by first | (with_reducible assumption) | assumption)
                     obtain ⟨ad281, e281, hx281_0⟩ := Kd.at_string (Kd.C_kept_now HR1.out HK.out) 0 p281 q281; obtain rfl : ad266 = ad281 := (by injection e281)
                     have qi281 : (0 < l1.length) = True := eq_true (by omega)
                     (try rw [show ((0 : Int)).toNat = 0 from rfl] at hx281_0)
                     (try rw [Addr.add_zero'] at hx281_0)
                     replace p281 := eq_true p281; replace q281 := eq_true q281; have hnb117 := NB264_265.out; have hnc117 := NB265_264.out; have hcz118_0 : wc.cell? ⟨gb264, 0, none⟩ = some (.slice Ao6 l0_0.length co6) := (blk_cell BK264.out 0).trans rfl; have hcz118_1 : wc.cell? ⟨gb264, 1, none⟩ = some (.slice Ao7 l0_1.length co7) := (blk_cell BK264.out 1).trans rfl; have hcz118_2 : wc.cell? ⟨gb264, 2, none⟩ = some (.slice A0_2 l0_2.length c0_2) := (blk_cell BK264.out 2).trans rfl; have hcz118_3 : wc.cell? ⟨gb264, 3, none⟩ = some (.int .i64 a0_3) := (blk_cell BK264.out 3).trans rfl; have hcz118_4 : wc.cell? ⟨gb264, 4, none⟩ = some (.int .i64 a0_4) := (blk_cell BK264.out 4).trans rfl; have hfz118_0 := blk_frozen BK264.out 0; have hfz118_1 := blk_frozen BK264.out 1; have hfz118_2 := blk_frozen BK264.out 2; have hfz118_3 := blk_frozen BK264.out 3; have hfz118_4 := blk_frozen BK264.out 4; have hcz119_0 : wc.cell? ⟨gb265, 0, none⟩ = some (.slice none 0 0) := (blk_cell BK265.out 0).trans rfl; have hcz119_1 : wc.cell? ⟨gb265, 1, none⟩ = some (.slice none 0 0) := (blk_cell BK265.out 1).trans rfl; have hcz119_2 : wc.cell? ⟨gb265, 2, none⟩ = some (.slice none 0 0) := (blk_cell BK265.out 2).trans rfl; have hcz119_3 : wc.cell? ⟨gb265, 3, none⟩ = some (.int .i64 x266003_4) := (blk_cell BK265.out 3).trans rfl; have hcz119_4 : wc.cell? ⟨gb265, 4, none⟩ = some (.int .i64 x266004_4) := (blk_cell BK265.out 4).trans rfl; have hfz119_0 := blk_frozen BK265.out 0; have hfz119_1 := blk_frozen BK265.out 1; have hfz119_2 := blk_frozen BK265.out 2; have hfz119_3 := blk_frozen BK265.out 3; have hfz119_4 := blk_frozen BK265.out 4
                     go_wp2
                     refine bodyPost_ret (results_ct rfl _ _ gb265 25 #[.slice Ao6 l0_0.length co6, .slice Ao7 l0_1.length co7, .slice A0_2 l0_2.length c0_2, .int .i64 a0_3, .int .i64 t268] (0, 0) _ rfl (by refine blk_put (cs := #[.slice Ao6 l0_0.length co6, .slice Ao7 l0_1.length co7, .slice A0_2 l0_2.length c0_2, .int .i64 a0_3, .int .i64 x266004_4]) ?_ 4 _ rfl; refine blk_put (cs := #[.slice Ao6 l0_0.length co6, .slice Ao7 l0_1.length co7, .slice A0_2 l0_2.length c0_2, .int .i64 x266003_4, .int .i64 x266004_4]) ?_ 3 _ rfl; refine blk_put (cs := #[.slice Ao6 l0_0.length co6, .slice Ao7 l0_1.length co7, .slice none 0 0, .int .i64 x266003_4, .int .i64 x266004_4]) ?_ 2 _ rfl; refine blk_put (cs := #[.slice Ao6 l0_0.length co6, .slice none 0 0, .slice none 0 0, .int .i64 x266003_4, .int .i64 x266004_4]) ?_ 1 _ rfl; refine blk_put (cs := #[.slice none 0 0, .slice none 0 0, .slice none 0 0, .int .i64 x266003_4, .int .i64 x266004_4]) ?_ 0 _ rfl; refine blk_far ?_ NB265_264.out _; exact BK265.out) Tryz.underlying25 rfl (by kernel_rfl)) rfl ?_
                     exact ⟨_, _, _, by first | rfl | (simp [errW_none, errW_some] <;> rfl) | (simp only [← hji20]; first | rfl | (simp [errW_none, errW_some] <;> rfl)) | (simp [*, errW_none, errW_some] <;> rfl), by exact Kd.R_mono (Kd.R_far (p := ⟨gb265, 4, none⟩) (Kd.R_far (p := ⟨gb265, 3, none⟩) (Kd.R_far (p := ⟨gb265, 2, none⟩) (Kd.R_far (p := ⟨gb265, 1, none⟩) (Kd.R_far (p := ⟨gb265, 0, none⟩) (Kd.R_far (p := ⟨gb264, 4, none⟩) (Kd.R_types (Kd.R_types HO_265000.out BK264.out (by decide)) BK265.out (by decide)) (fun _ hk => hk.1.2) (.int .i64 t268)) (fun _ hk => hk.2) (.slice Ao6 l0_0.length co6)) (fun _ hk => hk.2) (.slice Ao7 l0_1.length co7)) (fun _ hk => hk.2) (.slice A0_2 l0_2.length c0_2)) (fun _ hk => hk.2) (.int .i64 a0_3)) (fun _ hk => hk.2) (.int .i64 t268)) (fun _ hk => ⟨hk.1.1.1, hk.1.1.2.2⟩), by exact Kd.R_mono (Kd.R_far (p := ⟨gb265, 4, none⟩) (Kd.R_far (p := ⟨gb265, 3, none⟩) (Kd.R_far (p := ⟨gb265, 2, none⟩) (Kd.R_far (p := ⟨gb265, 1, none⟩) (Kd.R_far (p := ⟨gb265, 0, none⟩) (Kd.R_far (p := ⟨gb264, 4, none⟩) (Kd.R_types (Kd.R_types HO_265001.out BK264.out (by decide)) BK265.out (by decide)) (fun _ hk => hk.1.2) (.int .i64 t268)) (fun _ hk => hk.2) (.slice Ao6 l0_0.length co6)) (fun _ hk => hk.2) (.slice Ao7 l0_1.length co7)) (fun _ hk => hk.2) (.slice A0_2 l0_2.length c0_2)) (fun _ hk => hk.2) (.int .i64 a0_3)) (fun _ hk => hk.2) (.int .i64 t268)) (fun _ hk => ⟨hk.1.1.1, hk.1.1.2.2⟩), by exact Kd.V_mono (Kd.V_far (p := ⟨gb265, 4, none⟩) (Kd.V_far (p := ⟨gb265, 3, none⟩) (Kd.V_far (p := ⟨gb265, 2, none⟩) (Kd.V_far (p := ⟨gb265, 1, none⟩) (Kd.V_far (p := ⟨gb265, 0, none⟩) (Kd.V_far (p := ⟨gb264, 4, none⟩) (Kd.V_mono (Kd.V_mono HO_265002.out (fun k_ hk => (⟨hk, hk.2.2.2.2.1⟩ : _ ∧ k_ ≠ gb264))) (fun k_ hk => (⟨hk, hk.1.2.2.2.2.2⟩ : _ ∧ k_ ≠ gb265))) (fun _ hk => hk.1.2) (.int .i64 t268)) (fun _ hk => hk.2) (.slice Ao6 l0_0.length co6)) (fun _ hk => hk.2) (.slice Ao7 l0_1.length co7)) (fun _ hk => hk.2) (.slice A0_2 l0_2.length c0_2)) (fun _ hk => hk.2) (.int .i64 a0_3)) (fun _ hk => hk.2) (.int .i64 t268)) (fun _ hk => ⟨hk.1.1.1, ⟨hk.1.1.2.2.1, hk.1.1.2.2.2.1⟩⟩), by repeat (first | (with_reducible first | exact HB.out | apply below_alloc | apply pw_below_drewN | apply below_drew1 | refine below_set ?_ GE264.out | refine below_set ?_ GE265.out) | exact HB.out), by repeat (first | (with_reducible first | exact HK.out | apply Kept.alloc | apply Kept.drewN | apply Kept.drew | refine Kept.setCell ?_ (.inr GW264.out) _ | refine Kept.setCell ?_ (.inr GW265.out) _) | exact HK.out)⟩
                    rw [if_pos c113] at H
                    have c113b0 : ((rdOf ByteArray.empty l1 0).toList == ([115, 119, 97, 112] : List UInt8)) = true := beq_iff_eq.mpr c113; have c113b1 : ((rdOf ByteArray.empty l1 0).toList != ([115, 119, 97, 112] : List UInt8)) = false := bne_eq_false_iff_eq.mpr c113; clear c113
                    simp only [Option.some.injEq, Prod.mk.injEq] at H
                    obtain ⟨rfl, rfl, rfl, rfl, rfl, rfl⟩ := H; have p281 : 0 ≤ (0 : Int) := (by omega)
                    have q281 : 0 < (l1.length : Int) := of_decide_eq_true (by first | (with_reducible assumption) | assumption)
                    obtain ⟨ad281, e281, hx281_0⟩ := Kd.at_string (Kd.C_kept_now HR1.out HK.out) 0 p281 q281; obtain rfl : ad266 = ad281 := (by injection e281)
                    have qi281 : (0 < l1.length) = True := eq_true (by omega)
                    (try rw [show ((0 : Int)).toNat = 0 from rfl] at hx281_0)
                    (try rw [Addr.add_zero'] at hx281_0)
                    replace p281 := eq_true p281; replace q281 := eq_true q281; have hnb114 := NB264_265.out; have hnc114 := NB265_264.out; have hcz115_0 : wc.cell? ⟨gb264, 0, none⟩ = some (.slice Ao6 l0_0.length co6) := (blk_cell BK264.out 0).trans rfl; have hcz115_1 : wc.cell? ⟨gb264, 1, none⟩ = some (.slice Ao7 l0_1.length co7) := (blk_cell BK264.out 1).trans rfl; have hcz115_2 : wc.cell? ⟨gb264, 2, none⟩ = some (.slice A0_2 l0_2.length c0_2) := (blk_cell BK264.out 2).trans rfl; have hcz115_3 : wc.cell? ⟨gb264, 3, none⟩ = some (.int .i64 a0_3) := (blk_cell BK264.out 3).trans rfl; have hcz115_4 : wc.cell? ⟨gb264, 4, none⟩ = some (.int .i64 a0_4) := (blk_cell BK264.out 4).trans rfl; have hfz115_0 := blk_frozen BK264.out 0; have hfz115_1 := blk_frozen BK264.out 1; have hfz115_2 := blk_frozen BK264.out 2; have hfz115_3 := blk_frozen BK264.out 3; have hfz115_4 := blk_frozen BK264.out 4; have hcz116_0 : wc.cell? ⟨gb265, 0, none⟩ = some (.slice none 0 0) := (blk_cell BK265.out 0).trans rfl; have hcz116_1 : wc.cell? ⟨gb265, 1, none⟩ = some (.slice none 0 0) := (blk_cell BK265.out 1).trans rfl; have hcz116_2 : wc.cell? ⟨gb265, 2, none⟩ = some (.slice none 0 0) := (blk_cell BK265.out 2).trans rfl; have hcz116_3 : wc.cell? ⟨gb265, 3, none⟩ = some (.int .i64 x266003_4) := (blk_cell BK265.out 3).trans rfl; have hcz116_4 : wc.cell? ⟨gb265, 4, none⟩ = some (.int .i64 x266004_4) := (blk_cell BK265.out 4).trans rfl; have hfz116_0 := blk_frozen BK265.out 0; have hfz116_1 := blk_frozen BK265.out 1; have hfz116_2 := blk_frozen BK265.out 2; have hfz116_3 := blk_frozen BK265.out 3; have hfz116_4 := blk_frozen BK265.out 4
                    go_wp2
                    refine bodyPost_ret (results_ct rfl _ _ gb265 25 #[.slice Ao6 l0_0.length co6, .slice Ao7 l0_1.length co7, .slice A0_2 l0_2.length c0_2, .int .i64 t268, .int .i64 a0_4] (0, 0) _ rfl (by refine blk_put (cs := #[.slice Ao6 l0_0.length co6, .slice Ao7 l0_1.length co7, .slice A0_2 l0_2.length c0_2, .int .i64 t268, .int .i64 x266004_4]) ?_ 4 _ rfl; refine blk_put (cs := #[.slice Ao6 l0_0.length co6, .slice Ao7 l0_1.length co7, .slice A0_2 l0_2.length c0_2, .int .i64 x266003_4, .int .i64 x266004_4]) ?_ 3 _ rfl; refine blk_put (cs := #[.slice Ao6 l0_0.length co6, .slice Ao7 l0_1.length co7, .slice none 0 0, .int .i64 x266003_4, .int .i64 x266004_4]) ?_ 2 _ rfl; refine blk_put (cs := #[.slice Ao6 l0_0.length co6, .slice none 0 0, .slice none 0 0, .int .i64 x266003_4, .int .i64 x266004_4]) ?_ 1 _ rfl; refine blk_put (cs := #[.slice none 0 0, .slice none 0 0, .slice none 0 0, .int .i64 x266003_4, .int .i64 x266004_4]) ?_ 0 _ rfl; refine blk_far ?_ NB265_264.out _; exact BK265.out) Tryz.underlying25 rfl (by kernel_rfl)) rfl ?_
                    exact ⟨_, _, _, by first | rfl | (simp [errW_none, errW_some] <;> rfl) | (simp only [← hji20]; first | rfl | (simp [errW_none, errW_some] <;> rfl)) | (simp [*, errW_none, errW_some] <;> rfl), by exact Kd.R_mono (Kd.R_far (p := ⟨gb265, 4, none⟩) (Kd.R_far (p := ⟨gb265, 3, none⟩) (Kd.R_far (p := ⟨gb265, 2, none⟩) (Kd.R_far (p := ⟨gb265, 1, none⟩) (Kd.R_far (p := ⟨gb265, 0, none⟩) (Kd.R_far (p := ⟨gb264, 3, none⟩) (Kd.R_types (Kd.R_types HO_265000.out BK264.out (by decide)) BK265.out (by decide)) (fun _ hk => hk.1.2) (.int .i64 t268)) (fun _ hk => hk.2) (.slice Ao6 l0_0.length co6)) (fun _ hk => hk.2) (.slice Ao7 l0_1.length co7)) (fun _ hk => hk.2) (.slice A0_2 l0_2.length c0_2)) (fun _ hk => hk.2) (.int .i64 t268)) (fun _ hk => hk.2) (.int .i64 a0_4)) (fun _ hk => ⟨hk.1.1.1, hk.1.1.2.2⟩), by exact Kd.R_mono (Kd.R_far (p := ⟨gb265, 4, none⟩) (Kd.R_far (p := ⟨gb265, 3, none⟩) (Kd.R_far (p := ⟨gb265, 2, none⟩) (Kd.R_far (p := ⟨gb265, 1, none⟩) (Kd.R_far (p := ⟨gb265, 0, none⟩) (Kd.R_far (p := ⟨gb264, 3, none⟩) (Kd.R_types (Kd.R_types HO_265001.out BK264.out (by decide)) BK265.out (by decide)) (fun _ hk => hk.1.2) (.int .i64 t268)) (fun _ hk => hk.2) (.slice Ao6 l0_0.length co6)) (fun _ hk => hk.2) (.slice Ao7 l0_1.length co7)) (fun _ hk => hk.2) (.slice A0_2 l0_2.length c0_2)) (fun _ hk => hk.2) (.int .i64 t268)) (fun _ hk => hk.2) (.int .i64 a0_4)) (fun _ hk => ⟨hk.1.1.1, hk.1.1.2.2⟩), by exact Kd.V_mono (Kd.V_far (p := ⟨gb265, 4, none⟩) (Kd.V_far (p := ⟨gb265, 3, none⟩) (Kd.V_far (p := ⟨gb265, 2, none⟩) (Kd.V_far (p := ⟨gb265, 1, none⟩) (Kd.V_far (p := ⟨gb265, 0, none⟩) (Kd.V_far (p := ⟨gb264, 3, none⟩) (Kd.V_mono (Kd.V_mono HO_265002.out (fun k_ hk => (⟨hk, hk.2.2.2.2.1⟩ : _ ∧ k_ ≠ gb264))) (fun k_ hk => (⟨hk, hk.1.2.2.2.2.2⟩ : _ ∧ k_ ≠ gb265))) (fun _ hk => hk.1.2) (.int .i64 t268)) (fun _ hk => hk.2) (.slice Ao6 l0_0.length co6)) (fun _ hk => hk.2) (.slice Ao7 l0_1.length co7)) (fun _ hk => hk.2) (.slice A0_2 l0_2.length c0_2)) (fun _ hk => hk.2) (.int .i64 t268)) (fun _ hk => hk.2) (.int .i64 a0_4)) (fun _ hk => ⟨hk.1.1.1, ⟨hk.1.1.2.2.1, hk.1.1.2.2.2.1⟩⟩), by repeat (first | (with_reducible first | exact HB.out | apply below_alloc | apply pw_below_drewN | apply below_drew1 | refine below_set ?_ GE264.out | refine below_set ?_ GE265.out) | exact HB.out), by repeat (first | (with_reducible first | exact HK.out | apply Kept.alloc | apply Kept.drewN | apply Kept.drew | refine Kept.setCell ?_ (.inr GW264.out) _ | refine Kept.setCell ?_ (.inr GW265.out) _) | exact HK.out)⟩
                   rw [if_pos c92] at H
                   have c92b0 : ((rdOf ByteArray.empty l1 0).toList == ([114, 101, 112, 108, 97, 99, 101] : List UInt8)) = true := beq_iff_eq.mpr c92; have c92b1 : ((rdOf ByteArray.empty l1 0).toList != ([114, 101, 112, 108, 97, 99, 101] : List UInt8)) = false := bne_eq_false_iff_eq.mpr c92; clear c92; obtain ⟨y290, hy290⟩ : ∃ y_ : List (List Int), y_ = (([] : List (List Int))) := ⟨_, rfl⟩
                   replace H : (if y290.length + l0_2.length < 5864062014805 then ((some (y290 ++ l0_2 : List (List Int))).bind fun y293 => (if 0 < (x12_4.length : Int) then (if 0 ≤ (rd x12_4 0) then (if (rd x12_4 0) < (y293.length : Int) then (if 1 < (x12_4.length : Int) then ((emendateref34_with.f (rd_L1 y293 (rd x12_4 0)) (rd x12_4 1) t268).bind fun t300 => (some (l0_0, l0_1, (y293.set ((rd x12_4 0) : Int).toNat t300), a0_3, a0_4, 0))) else (none)) else (none)) else (none)) else (none))) else (none)) = some (r1, r2, r3, r4, r5, r6) := by first | (rw [hy290]; with_reducible exact H) | (have H2_ := (Option.bind_some _ _).symm.trans H; rw [hy290]; with_reducible exact H2_) | (have H2_ := (Option.bind_some _ _).symm.trans H; with_reducible exact H2_) | with_reducible exact H | (rw [hy290]; exact H) | exact H
                   have Ny290 := Aside0.mk hy290; clear hy290
                   by_cases c93 : y290.length + l0_2.length < 5864062014805
                   rotate_left
                   ·
                    rw [if_neg c93] at H
                    exact absurd H (by simp)
                   rw [if_pos c93] at H
                   have LMc93 := Aside0.mk c93; clear c93; obtain ⟨y293, hy293⟩ : ∃ y_ : List (List Int), y_ = (y290 ++ l0_2) := ⟨_, rfl⟩
                   replace H : (if 0 < (x12_4.length : Int) then (if 0 ≤ (rd x12_4 0) then (if (rd x12_4 0) < (y293.length : Int) then (if 1 < (x12_4.length : Int) then ((emendateref34_with.f (rd_L1 y293 (rd x12_4 0)) (rd x12_4 1) t268).bind fun t300 => (some (l0_0, l0_1, (y293.set ((rd x12_4 0) : Int).toNat t300), a0_3, a0_4, 0))) else (none)) else (none)) else (none)) else (none)) = some (r1, r2, r3, r4, r5, r6) := by first | (rw [hy293]; with_reducible exact H) | (have H2_ := (Option.bind_some _ _).symm.trans H; rw [hy293]; with_reducible exact H2_) | (have H2_ := (Option.bind_some _ _).symm.trans H; with_reducible exact H2_) | with_reducible exact H | (rw [hy293]; exact H) | exact H
                   have Ny293 := Aside0.mk hy293; clear hy293
                   by_cases c94 : 0 < (x12_4.length : Int)
                   rotate_left
                   ·
                    rw [if_neg c94] at H
                    exact absurd H (by simp)
                   rw [if_pos c94] at H
                   have c94b0 : decide (0 < (x12_4.length : Int)) = true := decide_eq_true c94; have c94b1 : decide (0 < x12_4.length) = true := decide_eq_true (by omega)
                   clear c94
                   by_cases c95 : 0 ≤ (rd x12_4 0)
                   rotate_left
                   ·
                    rw [if_neg c95] at H
                    exact absurd H (by simp)
                   rw [if_pos c95] at H
                   have c95b0 : decide (0 ≤ (rd x12_4 0)) = true := decide_eq_true c95; clear c95
                   by_cases c96 : (rd x12_4 0) < (y293.length : Int)
                   rotate_left
                   ·
                    rw [if_neg c96] at H
                    exact absurd H (by simp)
                   rw [if_pos c96] at H
                   have c96b0 : decide ((rd x12_4 0) < (y293.length : Int)) = true := decide_eq_true c96; clear c96
                   by_cases c97 : 1 < (x12_4.length : Int)
                   rotate_left
                   ·
                    rw [if_neg c97] at H
                    exact absurd H (by simp)
                   rw [if_pos c97] at H
                   have c97b0 : decide (1 < (x12_4.length : Int)) = true := decide_eq_true c97; have c97b1 : decide (1 < x12_4.length) = true := decide_eq_true (by omega)
                   clear c97; replace H := Option.bind_eq_some_iff.mp H; obtain ⟨t300, A980, H⟩ := H; replace H : (some (l0_0, l0_1, (y293.set ((rd x12_4 0) : Int).toNat t300), a0_3, a0_4, 0)) = some (r1, r2, r3, r4, r5, r6) := H; have A98 := Aside0.mk A980; clear A980; obtain ⟨y303, hy303⟩ : ∃ y_ : List (List Int), y_ = (y293.set ((rd x12_4 0) : Int).toNat t300) := ⟨_, rfl⟩
                   replace H : (some (l0_0, l0_1, y303, a0_3, a0_4, 0)) = some (r1, r2, r3, r4, r5, r6) := by first | (rw [hy303]; with_reducible exact H) | (have H2_ := (Option.bind_some _ _).symm.trans H; rw [hy303]; with_reducible exact H2_) | (have H2_ := (Option.bind_some _ _).symm.trans H; with_reducible exact H2_) | with_reducible exact H | (rw [hy303]; exact H) | exact H
                   have Ny303 := Aside0.mk hy303; clear hy303
                   simp only [Option.some.injEq, Prod.mk.injEq] at H
                   obtain ⟨rfl, rfl, rfl, rfl, rfl, rfl⟩ := H; have p281 : 0 ≤ (0 : Int) := (by omega)
                   have q281 : 0 < (l1.length : Int) := of_decide_eq_true (by first | (with_reducible assumption) | assumption)
                   obtain ⟨ad281, e281, hx281_0⟩ := Kd.at_string (Kd.C_kept_now HR1.out HK.out) 0 p281 q281; obtain rfl : ad266 = ad281 := (by injection e281)
                   have qi281 : (0 < l1.length) = True := eq_true (by omega)
                   (try rw [show ((0 : Int)).toNat = 0 from rfl] at hx281_0)
                   (try rw [Addr.add_zero'] at hx281_0)
                   replace p281 := eq_true p281; replace q281 := eq_true q281
                   try go_wp2_with (first | ((with_reducible refine gate_dst (N := 129) rfl ?_); refine Kd.N_lit (Kd.slice 3 (Kd.int .i64)) _ 22 ?hg (N' := 129) ?hd (xs := ([] : List (List Int))) (inner := []) (ok := (fun k_ => ((P0_0_ k_ ∨ P0_1_ k_ ∨ P0_2_ k_) ∨ w.heap.size ≤ k_) ∧ some k_ ≠ (v272 : Value).ownBlock ∧ some k_ ≠ (.slice Ao6 l0_0.length co6 : Value).ownBlock ∧ some k_ ≠ (.slice Ao7 l0_1.length co7 : Value).ownBlock ∧ k_ ≠ gb264 ∧ k_ ≠ gb265)) (okp := (fun k_ => ((P0_0_ k_ ∨ P0_1_ k_ ∨ P0_2_ k_) ∨ w.heap.size ≤ k_) ∧ some k_ ≠ (v272 : Value).ownBlock ∧ some k_ ≠ (.slice Ao6 l0_0.length co6 : Value).ownBlock ∧ some k_ ≠ (.slice Ao7 l0_1.length co7 : Value).ownBlock ∧ k_ ≠ gb264 ∧ k_ ≠ gb265)) ?hr ?hp (fun _ hk => hk) ((show ∀ k_, wc.heap.size ≤ k_ → (fun k_ => ((P0_0_ k_ ∨ P0_1_ k_ ∨ P0_2_ k_) ∨ w.heap.size ≤ k_) ∧ some k_ ≠ (v272 : Value).ownBlock ∧ some k_ ≠ (.slice Ao6 l0_0.length co6 : Value).ownBlock ∧ some k_ ≠ (.slice Ao7 l0_1.length co7 : Value).ownBlock ∧ k_ ≠ gb264 ∧ k_ ≠ gb265) k_ from fun k_ hk => ⟨(.inr (Nat.le_trans (by first | exact HK.out.1 | exact (show Kept w _ (fun k_ => P0_0_ k_ ∨ P0_1_ k_) from by repeat (first | (with_reducible first | exact HK.out | apply Kept.alloc | apply Kept.drewN | apply Kept.drew | refine Kept.setCell ?_ (.inr GW264.out) _ | refine Kept.setCell ?_ (.inr GW265.out) _) | exact HK.out)).1) hk)), Kd.fresh' (Kd.R_lt (by exact HO_12.out)) k_ hk, Kd.fresh' (Kd.R_lt (by exact HO_265000.out)) k_ hk, Kd.fresh' (Kd.R_lt (by exact HO_265001.out)) k_ hk, Kd.freshB (g := gb264) (o := .cells #[.slice Ao6 l0_0.length co6, .slice Ao7 l0_1.length co7, .slice A0_2 l0_2.length c0_2, .int .i64 a0_3, .int .i64 a0_4] 25 (0, 0)) (by exact BK264.out) k_ hk, Kd.freshB (g := gb265) (o := .cells #[.slice none 0 0, .slice none 0 0, .slice none 0 0, .int .i64 x266003_4, .int .i64 x266004_4] 25 (0, 0)) (by exact BK265.out) k_ hk⟩) _ (Nat.le_refl _)) (Below.refl _ _) (Nat.le_refl _) (by simp) ?_; (case hd => rfl); (case hg => rfl); (case hr => first | (go_simp; done) | (go_simp; rfl)); (case hp => exact (Reps.none _ _)); intro v291 w100 ho101 hb hg_ hnew_; clear hg_ hnew_; (first | rw [← Ny290.out] at ho101 | (simp only [Int.reduceToNat] at ho101; rw [← Ny290.out] at ho101)); have n0_ := Aside0.mk (Kd.R_below (by exact HO_12.out) hb); have n1_ := Aside0.mk (Kd.R_below (by exact HO_265000.out) hb); have n2_ := Aside0.mk (Kd.R_below (by exact HO_265001.out) hb); have n3_ := Aside0.mk (Kd.V_elder' (by exact HO_265002.out) (Kd.N_base ho101) hb); have n4_ := Aside0.mk (Kd.N_lower ho101 (by first | exact HK.out.1 | exact (show Kept w _ (fun k_ => P0_0_ k_ ∨ P0_1_ k_) from by repeat (first | (with_reducible first | exact HK.out | apply Kept.alloc | apply Kept.drewN | apply Kept.drew | refine Kept.setCell ?_ (.inr GW264.out) _ | refine Kept.setCell ?_ (.inr GW265.out) _) | exact HK.out)).1)); have n5_ := Aside0.mk (blk_below (g := gb264) (o := .cells #[.slice Ao6 l0_0.length co6, .slice Ao7 l0_1.length co7, .slice A0_2 l0_2.length c0_2, .int .i64 a0_3, .int .i64 a0_4] 25 (0, 0)) (by exact BK264.out) hb); have n6_ := Aside0.mk (blk_below (g := gb265) (o := .cells #[.slice none 0 0, .slice none 0 0, .slice none 0 0, .int .i64 x266003_4, .int .i64 x266004_4] 25 (0, 0)) (by exact BK265.out) hb); have n7_ := Aside0.mk (Kept.below (S := (fun k_ => P0_0_ k_ ∨ P0_1_ k_)) (by repeat (first | (with_reducible first | exact HK.out | apply Kept.alloc | apply Kept.drewN | apply Kept.drew | refine Kept.setCell ?_ (.inr GW264.out) _ | refine Kept.setCell ?_ (.inr GW265.out) _) | exact HK.out)) hb); have n8_ := Aside0.mk (below_step (by repeat (first | (with_reducible first | exact HB.out | apply below_alloc | apply pw_below_drewN | apply below_drew1 | refine below_set ?_ GE264.out | refine below_set ?_ GE265.out) | exact HB.out)) hb); clear HO_12; clear HO_265000; clear HO_265001; clear HO_265002; clear BK264; clear BK265; clear HK; clear HB; have HO_12 := n0_; have HO_265000 := n1_; have HO_265001 := n2_; have HO_265002 := n3_; have HO292 := n4_; have BK264 := n5_; have BK265 := n6_; have HK := n7_; have HB := n8_; clear n0_ n1_ n2_ n3_ n4_ n5_ n6_ n7_ n8_; clear hb ho101; have hnb102 := NB264_265.out; have hnc102 := NB265_264.out; have hcz103_0 : w100.cell? ⟨gb264, 0, none⟩ = some (.slice Ao6 l0_0.length co6) := (blk_cell BK264.out 0).trans rfl; have hcz103_1 : w100.cell? ⟨gb264, 1, none⟩ = some (.slice Ao7 l0_1.length co7) := (blk_cell BK264.out 1).trans rfl; have hcz103_2 : w100.cell? ⟨gb264, 2, none⟩ = some (.slice A0_2 l0_2.length c0_2) := (blk_cell BK264.out 2).trans rfl; have hcz103_3 : w100.cell? ⟨gb264, 3, none⟩ = some (.int .i64 a0_3) := (blk_cell BK264.out 3).trans rfl; have hcz103_4 : w100.cell? ⟨gb264, 4, none⟩ = some (.int .i64 a0_4) := (blk_cell BK264.out 4).trans rfl; have hfz103_0 := blk_frozen BK264.out 0; have hfz103_1 := blk_frozen BK264.out 1; have hfz103_2 := blk_frozen BK264.out 2; have hfz103_3 := blk_frozen BK264.out 3; have hfz103_4 := blk_frozen BK264.out 4) | ((with_reducible refine gate_builtin (b := .append) (xs := #[.tmp 129, .tmp 131]) rfl ?_); at_builtin; refine Kd.N_append_rows (Kd.slice 3 (Kd.int .i64)) w.heap.size rfl (.tmp 129) (.tmp 131) 23 22 (.slice none 0 0) 24 rfl Tryz.underlying23 info22 rfl (by decide) (by omega) v291 y290 l0_2 _ _ _ (fun k_ => ((P0_0_ k_ ∨ P0_1_ k_ ∨ P0_2_ k_) ∨ w.heap.size ≤ k_) ∧ some k_ ≠ (v272 : Value).ownBlock ∧ some k_ ≠ (.slice Ao6 l0_0.length co6 : Value).ownBlock ∧ some k_ ≠ (.slice Ao7 l0_1.length co7 : Value).ownBlock ∧ k_ ≠ gb264 ∧ k_ ≠ gb265) (fun k_ => ((fun k_ => ((P0_0_ k_ ∨ P0_1_ k_ ∨ P0_2_ k_) ∨ w.heap.size ≤ k_) ∧ some k_ ≠ (v272 : Value).ownBlock ∧ some k_ ≠ (.slice Ao6 l0_0.length co6 : Value).ownBlock ∧ some k_ ≠ (.slice Ao7 l0_1.length co7 : Value).ownBlock ∧ k_ ≠ gb264 ∧ k_ ≠ gb265)) k_ ∧ some k_ ≠ (v291 : Value).ownBlock) rfl rfl ?aO ?aR (fun _ hk => hk) ?aF (Below.refl _ _) ?aS ?aL ?_; (case aR => exact (by skip; exact Kd.V_F (Kd.V_mono (ok' := (fun k_ => ((fun k_ => ((P0_0_ k_ ∨ P0_1_ k_ ∨ P0_2_ k_) ∨ w.heap.size ≤ k_) ∧ some k_ ≠ (v272 : Value).ownBlock ∧ some k_ ≠ (.slice Ao6 l0_0.length co6 : Value).ownBlock ∧ some k_ ≠ (.slice Ao7 l0_1.length co7 : Value).ownBlock ∧ k_ ≠ gb264 ∧ k_ ≠ gb265)) k_ ∧ some k_ ≠ (v291 : Value).ownBlock)) (HO_265002.out) (fun k_ hk => ⟨⟨hk.1.1, ⟨hk.1.2.1, ⟨hk.1.2.2.1, ⟨hk.1.2.2.2.1, ⟨hk.1.2.2.2.2.1, hk.1.2.2.2.2.2⟩⟩⟩⟩⟩, hk.2⟩)))); (case aF => exact (fun k_ hk => ⟨(.inr (Nat.le_trans (by first | exact HK.out.1 | exact (show Kept w _ (fun k_ => P0_0_ k_ ∨ P0_1_ k_) from by repeat (first | (with_reducible first | exact HK.out | apply Kept.alloc | apply Kept.drewN | apply Kept.drew | refine Kept.setCell ?_ (.inr GW264.out) _ | refine Kept.setCell ?_ (.inr GW265.out) _) | exact HK.out)).1) hk)), Kd.fresh' (Kd.R_lt (by exact HO_12.out)) k_ hk, Kd.fresh' (Kd.R_lt (by exact HO_265000.out)) k_ hk, Kd.fresh' (Kd.R_lt (by exact HO_265001.out)) k_ hk, Kd.freshB (g := gb264) (o := .cells #[.slice Ao6 l0_0.length co6, .slice Ao7 l0_1.length co7, .slice A0_2 l0_2.length c0_2, .int .i64 a0_3, .int .i64 a0_4] 25 (0, 0)) (by exact BK264.out) k_ hk, Kd.freshB (g := gb265) (o := .cells #[.slice none 0 0, .slice none 0 0, .slice none 0 0, .int .i64 x266003_4, .int .i64 x266004_4] 25 (0, 0)) (by exact BK265.out) k_ hk⟩)); (case aO => exact (by exact HO292.out)); (case aS => exact (by first | exact HK.out.1 | exact (show Kept w _ (fun k_ => P0_0_ k_ ∨ P0_1_ k_) from by repeat (first | (with_reducible first | exact HK.out | apply Kept.alloc | apply Kept.drewN | apply Kept.drew | refine Kept.setCell ?_ (.inr GW264.out) _ | refine Kept.setCell ?_ (.inr GW265.out) _) | exact HK.out)).1)); (case aL => have := LMc93.out; omega); intro v294 w104 ho hb hg hat; rw [← Ny293.out] at ho; have n0_ := Aside0.mk (Kd.R_over' (by exact HO_12.out) (Kd.N_typed (by exact HO292.out)) (by decide) hg); have n1_ := Aside0.mk (Kd.R_over' (by exact HO_265000.out) (Kd.N_typed (by exact HO292.out)) (by decide) hg); have n2_ := Aside0.mk (Kd.R_over' (by exact HO_265001.out) (Kd.N_typed (by exact HO292.out)) (by decide) hg); have n3_ := Aside0.mk (Kd.V_afterv (ok := (fun k_ => ((P0_0_ k_ ∨ P0_1_ k_ ∨ P0_2_ k_) ∨ w.heap.size ≤ k_) ∧ some k_ ≠ (v272 : Value).ownBlock ∧ some k_ ≠ (.slice Ao6 l0_0.length co6 : Value).ownBlock ∧ some k_ ≠ (.slice Ao7 l0_1.length co7 : Value).ownBlock ∧ k_ ≠ gb264 ∧ k_ ≠ gb265)) (by exact HO_265002.out) hg hat); have n4_ := Aside0.mk (blk_grown (g := gb264) (o := .cells #[.slice Ao6 l0_0.length co6, .slice Ao7 l0_1.length co7, .slice A0_2 l0_2.length c0_2, .int .i64 a0_3, .int .i64 a0_4] 25 (0, 0)) (by exact BK264.out) hg (Kd.N_ne HO292.out BK264.out (by decide))); have n5_ := Aside0.mk (blk_grown (g := gb265) (o := .cells #[.slice none 0 0, .slice none 0 0, .slice none 0 0, .int .i64 x266003_4, .int .i64 x266004_4] 25 (0, 0)) (by exact BK265.out) hg (Kd.N_ne HO292.out BK265.out (by decide))); have n6_ := Aside0.mk (below_weaken (by repeat (first | (with_reducible first | exact HB.out | apply below_alloc | apply pw_below_drewN | apply below_drew1 | refine below_set ?_ GE264.out | refine below_set ?_ GE265.out) | exact HB.out)) HW0.out hb); have n7_ := Aside0.mk (Kept.of_grown (S := (fun k_ => P0_0_ k_ ∨ P0_1_ k_)) hg (by repeat (first | (with_reducible first | exact HK.out | apply Kept.alloc | apply Kept.drewN | apply Kept.drew | refine Kept.setCell ?_ (.inr GW264.out) _ | refine Kept.setCell ?_ (.inr GW265.out) _) | exact HK.out)) (fun k_ e_ => .inr (Kd.N_base HO292.out k_ e_))); have n8_ := Aside0.mk (ho); clear HO_12; clear HO_265000; clear HO_265001; clear HO_265002; clear BK264; clear BK265; clear HB; clear HK; clear HO292; have HO_12 := n0_; have HO_265000 := n1_; have HO_265001 := n2_; have HO_265002 := n3_; have BK264 := n4_; have BK265 := n5_; have HB := n6_; have HK := n7_; have HO295 := n8_; clear n0_ n1_ n2_ n3_ n4_ n5_ n6_ n7_ n8_; clear ho hb hg hat))
                   have n0_ := Aside0.mk (Kd.R_drew HO_12.out); have n1_ := Aside0.mk (Kd.R_drew HO_265000.out); have n2_ := Aside0.mk (Kd.R_drew HO_265001.out); have n3_ := Aside0.mk (Kd.V_drew HO_265002.out); have n4_ := Aside0.mk (Kd.N_drew HO295.out); have n5_ := Aside0.mk (blk_drew BK264.out); have n6_ := Aside0.mk (blk_drew BK265.out); have n7_ := Aside0.mk (Kept.drew HK.out); have n8_ := Aside0.mk (below_drew1 HB.out); clear HO_12; clear HO_265000; clear HO_265001; clear HO_265002; clear HO295; clear BK264; clear BK265; clear HK; clear HB; have HO_12 := n0_; have HO_265000 := n1_; have HO_265001 := n2_; have HO_265002 := n3_; have HO295 := n4_; have BK264 := n5_; have BK265 := n6_; have HK := n7_; have HB := n8_; clear n0_ n1_ n2_ n3_ n4_ n5_ n6_ n7_ n8_; obtain ⟨Ao106, co106, eo106⟩ := Kd.R_slice HO_12.out
                   (first | subst eo106 | (injection eo106 with f1_ f2_ f3_; have f4_ := f1_.symm; have f5_ := f3_.symm; clear f1_ f2_ f3_; subst f4_; subst f5_))
                   have p296 : 0 ≤ (0 : Int) := (by omega)
                   have q296 : 0 < (x12_4.length : Int) := of_decide_eq_true (by first | (with_reducible assumption) | assumption)
                   obtain ⟨ad296, e296, hx296_0⟩ := Kd.at_int (Kd.R_reads' HO_12.out).2.2 0 p296 q296
                   cases e296
                   have qi296 : (0 < x12_4.length) = True := eq_true (by omega)
                   (try rw [show ((0 : Int)).toNat = 0 from rfl] at hx296_0)
                   (try rw [Addr.add_zero'] at hx296_0)
                   replace p296 := eq_true p296; replace q296 := eq_true q296; have p297 : 0 ≤ (0 : Int) := (by omega)
                   have q297 : 0 < (x12_4.length : Int) := of_decide_eq_true (by first | (with_reducible assumption) | assumption)
                   obtain ⟨ad297, e297, hx297_0⟩ := Kd.at_int (Kd.R_reads' HO_12.out).2.2 0 p297 q297; obtain rfl : ad296 = ad297 := (by injection e297)
                   have qi297 : (0 < x12_4.length) = True := eq_true (by omega)
                   (try rw [show ((0 : Int)).toNat = 0 from rfl] at hx297_0)
                   (try rw [Addr.add_zero'] at hx297_0)
                   replace p297 := eq_true p297; replace q297 := eq_true q297; obtain ⟨Ao107, co107, eo107⟩ := Kd.N_slice HO295.out
                   (first | subst eo107 | (injection eo107 with f1_ f2_ f3_; have f4_ := f1_.symm; have f5_ := f3_.symm; clear f1_ f2_ f3_; subst f4_; subst f5_))
                   have p298 : 0 ≤ ((rd x12_4 0) : Int) := of_decide_eq_true (by first | (with_reducible assumption) | assumption)
                   have q298 : (rd x12_4 0) < (y293.length : Int) := of_decide_eq_true (by first | (with_reducible assumption) | assumption)
                   obtain ⟨ad298, A298_0, c298_0, e298, hx298_0, hl298_0, hi298_0⟩ := at_L1 (Kd.N_reads' HO295.out).2.2 (rd x12_4 0) p298 q298
                   cases e298
                   obtain ⟨ce298, hce298, hMe298, hcc298⟩ := Kd.N_get HO295.out [] (rd x12_4 0) p298 (by first | exact q298 | exact of_decide_eq_true (by first | (with_reducible assumption) | assumption) | (have e_ := (Kd.N_reads' HO295.out).1; omega))
                   obtain ⟨ua298_0, uc298_0, rfl, ul298_0, ge298_0⟩ := Kd.FK_slice_open hMe298; have hv298_0 := hcc298 0 _ rfl
                   rw [Nat.add_zero, show ((Kd.slice 3 (Kd.int .i64))).sz = 1 from rfl, Nat.mul_one] at hv298_0
                   replace hv298_0 := Option.some.inj (hv298_0.symm.trans hx298_0)
                   injection hv298_0 with hva_ hvn_ hvc_
                   rw [hva_] at ge298_0
                   rw [hvc_] at ul298_0
                   have HL298_0 := Aside0.mk (show Kd.V (Kd.int .i64) 3 _ w0.heap.size _ _ (rd_L1 y293 (rd x12_4 0)) from Kd.V_mk ul298_0 ge298_0)
                   clear hva_ hvn_ hvc_ ge298_0 ul298_0; clear hcc298 hce298; have HR298_0 := Aside0.mk hi298_0; have HC298_0 := Aside0.mk hl298_0; clear hi298_0 hl298_0; replace p298 := eq_true p298; replace q298 := eq_true q298; have p299 : 0 ≤ (1 : Int) := (by omega)
                   have q299 : 1 < (x12_4.length : Int) := of_decide_eq_true (by first | (with_reducible assumption) | assumption)
                   obtain ⟨ad299, e299, hx299_0⟩ := Kd.at_int (Kd.R_reads' HO_12.out).2.2 1 p299 q299; obtain rfl : ad296 = ad299 := (by injection e299)
                   (try simp only [show (1 : Int).toNat = 1 from rfl, Nat.reduceMul, Nat.reduceEqDiff, Go.Addr.add, ↓reduceIte] at hx299_0)
                   have qi299 : (1 < x12_4.length) = True := eq_true (by omega)
                   (try rw [show ((1 : Int)).toNat = 1 from rfl] at hx299_0)
                   replace p299 := eq_true p299; replace q299 := eq_true q299
                   refine start_ (n := 17) (S := fun w' => w'.cell? ad296 = some (.int .i64 (rd x12_4 0)) ∧ w'.cell? ad296 = some (.int .i64 (rd x12_4 0)) ∧ w'.cell? (ad298.add ((rd x12_4 0)).toNat) = some (.slice A298_0 (rd_L1 y293 (rd x12_4 0)).length c298_0) ∧ w'.cell? ⟨ad296.block, ad296.off + 1, none⟩ = some (.int .i64 (rd x12_4 1))) (ds := [16]) #[false, false, false, false, false, false, false, false, false, false, false, false, false, false, false, false, false] (by kernel_rfl) rfl rfl ⟨hx296_0, hx297_0, hx298_0, hx299_0⟩ (fun hHeld => ?_); refine with_tabW emendateref34_line.tab37 emendateref34_line.bits37 (fun HT_ HW_ => ?_)
                   generalize w104.drew = w105 at HO_12 HO_265000 HO_265001 HO_265002 HO295 BK264 BK265 HK HB HL298_0 HR298_0 hx296_0 hx297_0 hx298_0 hx299_0 hHeld ⊢
                   refine pure_ (i := 0) (N := some 133) (v := ?_) (a' := ?_) #[true, false, false, false, false, false, false, false, false, false, false, false, false, false, false, false, false] rfl rfl (any_of HT_.out (by kernel_rfl)) (fun _ _ _ h => h) (Or.inl ⟨by rfl, ?_⟩) ?_ ?_
                   rotate_left
                   ·
                    intro w'
                    go_simp
                    with_reducible rfl
                   rotate_left
                   ·
                    simp only [Act.put, List.setIfInBounds_toArray, List.set_cons_zero, List.set_cons_succ, i64_w, i32_w]
                    rfl
                   refine pure_ (i := 1) (N := some 134) (v := ?_) (a' := ?_) #[true, true, false, false, false, false, false, false, false, false, false, false, false, false, false, false, false] rfl rfl (any_of HT_.out (by kernel_rfl)) (fun _ _ _ h => h) (Or.inl ⟨by rfl, ?_⟩) ?_ ?_
                   rotate_left
                   ·
                    intro w'
                    go_simp
                    with_reducible rfl
                   rotate_left
                   ·
                    simp only [Act.put, List.setIfInBounds_toArray, List.set_cons_zero, List.set_cons_succ, i64_w, i32_w]
                    rfl
                   refine pure_ (i := 2) (N := some 135) (v := ?_) (a' := ?_) #[true, true, true, false, false, false, false, false, false, false, false, false, false, false, false, false, false] rfl rfl (any_of HT_.out (by kernel_rfl)) (fun _ _ _ h => h) (Or.inl ⟨by rfl, ?_⟩) ?_ ?_
                   rotate_left
                   ·
                    intro w'
                    go_simp
                    with_reducible rfl
                   rotate_left
                   ·
                    simp only [Act.put, List.setIfInBounds_toArray, List.set_cons_zero, List.set_cons_succ, i64_w, i32_w]
                    rfl
                   refine pure_ (i := 4) (N := some 137) (v := ?_) (a' := ?_) #[true, true, true, false, true, false, false, false, false, false, false, false, false, false, false, false, false] rfl rfl (any_of HT_.out (by kernel_rfl)) (fun _ _ _ h => h) (Or.inl ⟨by rfl, ?_⟩) ?_ ?_
                   rotate_left
                   ·
                    intro w'
                    go_simp
                    with_reducible rfl
                   rotate_left
                   ·
                    simp only [Act.put, List.setIfInBounds_toArray, List.set_cons_zero, List.set_cons_succ, i64_w, i32_w]
                    rfl
                   refine pure_ (i := 5) (N := some 138) (v := ?_) (a' := ?_) #[true, true, true, false, true, true, false, false, false, false, false, false, false, false, false, false, false] rfl rfl (any_of HT_.out (by kernel_rfl)) (fun _ _ _ h => h) (Or.inl ⟨by rfl, ?_⟩) ?_ ?_
                   rotate_left
                   ·
                    intro w'
                    go_simp
                    with_reducible rfl
                   rotate_left
                   ·
                    simp only [Act.put, List.setIfInBounds_toArray, List.set_cons_zero, List.set_cons_succ, i64_w, i32_w]
                    rfl
                   refine pure_ (i := 6) (N := some 139) (v := ?_) (a' := ?_) #[true, true, true, false, true, true, true, false, false, false, false, false, false, false, false, false, false] rfl rfl (any_of HT_.out (by kernel_rfl)) (fun _ _ _ h => h) (Or.inl ⟨by rfl, ?_⟩) ?_ ?_
                   rotate_left
                   ·
                    intro w'
                    go_simp
                    with_reducible rfl
                   rotate_left
                   ·
                    simp only [Act.put, List.setIfInBounds_toArray, List.set_cons_zero, List.set_cons_succ, i64_w, i32_w]
                    rfl
                   refine pure_ (i := 10) (N := some 143) (v := ?_) (a' := ?_) #[true, true, true, false, true, true, true, false, false, false, true, false, false, false, false, false, false] rfl rfl (any_of HT_.out (by kernel_rfl)) (fun _ _ _ h => h) (Or.inl ⟨by rfl, ?_⟩) ?_ ?_
                   rotate_left
                   ·
                    intro w'
                    go_simp
                    with_reducible rfl
                   rotate_left
                   ·
                    simp only [Act.put, List.setIfInBounds_toArray, List.set_cons_zero, List.set_cons_succ, i64_w, i32_w]
                    rfl
                   refine pure_ (i := 11) (N := some 144) (v := ?_) (a' := ?_) #[true, true, true, false, true, true, true, false, false, false, true, true, false, false, false, false, false] rfl rfl (any_of HT_.out (by kernel_rfl)) (fun _ _ _ h => h) (Or.inl ⟨by rfl, ?_⟩) ?_ ?_
                   rotate_left
                   ·
                    intro w'
                    go_simp
                    with_reducible rfl
                   rotate_left
                   ·
                    simp only [Act.put, List.setIfInBounds_toArray, List.set_cons_zero, List.set_cons_succ, i64_w, i32_w]
                    rfl
                   refine pure_ (i := 13) (N := some 146) (v := ?_) (a' := ?_) #[true, true, true, false, true, true, true, false, false, false, true, true, false, true, false, false, false] rfl rfl (any_of HT_.out (by kernel_rfl)) (fun _ _ _ h => h) (Or.inl ⟨by rfl, ?_⟩) ?_ ?_
                   rotate_left
                   ·
                    intro w'
                    go_simp
                    with_reducible rfl
                   rotate_left
                   ·
                    simp only [Act.put, List.setIfInBounds_toArray, List.set_cons_zero, List.set_cons_succ, i64_w, i32_w]
                    rfl
                   refine take_ (i := 3) (N := some 136) (v := ?_) (a' := ?_) #[true, true, true, true, true, true, true, false, false, false, true, true, false, true, false, false, false] rfl rfl (take_ofW HT_.out HW_.out (by kernel_rfl)) (fun _ _ _ h => h) (Or.inl ⟨by rfl, ?_⟩) hHeld ?_ ?_
                   rotate_left
                   ·
                    rintro w' ⟨s0, s1, s2, s3⟩
                    go_simp
                    with_reducible rfl
                   rotate_left
                   ·
                    simp only [Act.put, List.setIfInBounds_toArray, List.set_cons_zero, List.set_cons_succ, i64_w, i32_w]
                    rfl
                   refine take_ (i := 7) (N := some 140) (v := ?_) (a' := ?_) #[true, true, true, true, true, true, true, true, false, false, true, true, false, true, false, false, false] rfl rfl (take_ofW HT_.out HW_.out (by kernel_rfl)) (fun _ _ _ h => h) (Or.inl ⟨by rfl, ?_⟩) hHeld ?_ ?_
                   rotate_left
                   ·
                    rintro w' ⟨s0, s1, s2, s3⟩
                    go_simp
                    with_reducible rfl
                   rotate_left
                   ·
                    simp only [Act.put, List.setIfInBounds_toArray, List.set_cons_zero, List.set_cons_succ, i64_w, i32_w]
                    rfl
                   refine pure_ (i := 8) (N := some 141) (v := ?_) (a' := ?_) #[true, true, true, true, true, true, true, true, true, false, true, true, false, true, false, false, false] rfl rfl (any_of HT_.out (by kernel_rfl)) (fun _ _ _ h => h) (Or.inl ⟨by rfl, ?_⟩) ?_ ?_
                   rotate_left
                   ·
                    intro w'
                    go_simp
                    with_reducible rfl
                   rotate_left
                   ·
                    simp only [Act.put, List.setIfInBounds_toArray, List.set_cons_zero, List.set_cons_succ, i64_w, i32_w]
                    rfl
                   refine take_ (i := 9) (N := some 142) (v := ?_) (a' := ?_) #[true, true, true, true, true, true, true, true, true, true, true, true, false, true, false, false, false] rfl rfl (take_ofW HT_.out HW_.out (by kernel_rfl)) (fun _ _ _ h => h) (Or.inl ⟨by rfl, ?_⟩) hHeld ?_ ?_
                   rotate_left
                   ·
                    rintro w' ⟨s0, s1, s2, s3⟩
                    go_simp
                    with_reducible rfl
                   rotate_left
                   ·
                    simp only [Act.put, List.setIfInBounds_toArray, List.set_cons_zero, List.set_cons_succ, i64_w, i32_w]
                    rfl
                   refine take_ (i := 12) (N := some 145) (v := ?_) (a' := ?_) #[true, true, true, true, true, true, true, true, true, true, true, true, true, true, false, false, false] rfl rfl (take_ofW HT_.out HW_.out (by kernel_rfl)) (fun _ _ _ h => h) (Or.inl ⟨by rfl, ?_⟩) hHeld ?_ ?_
                   rotate_left
                   ·
                    rintro w' ⟨s0, s1, s2, s3⟩
                    go_simp
                    with_reducible rfl
                   rotate_left
                   ·
                    simp only [Act.put, List.setIfInBounds_toArray, List.set_cons_zero, List.set_cons_succ, i64_w, i32_w]
                    rfl
                   refine one_ (i := 14) (N := some 147) #[true, true, true, true, true, true, true, true, true, true, true, true, true, true, true, false, false] rfl rfl (one_of HT_.out (by kernel_rfl)) (by decide) (fun K hK => ?_)
                   refine goes_ Tryz.func51 (by kernel_rfl) rfl #[.slice A298_0 (rd_L1 y293 (rd x12_4 0)).length c298_0, .int .i64 (rd x12_4 1), .int .i64 t268] (by rfl) rfl rfl (by (try simp only [List.map_toArray, List.map_cons, List.map_nil]); first | done | rfl | (simp only [List.length_drop, List.length_take]; rfl)) ?_
                   with_reducible refine (emendateref34_with.calls _ _ (rd_L1 y293 (rd x12_4 0)) (rd x12_4 1) t268 t300 _ ?side1 ?side2 A98.out).mono ?_
                   (case side1 => repeat (first | exact (by repeat (first | (with_reducible exact HR298_0.out) | (with_reducible refine Kd.C_alloc ?_ _) | (with_reducible refine Kd.C_drewN ?_ _) | (with_reducible refine Kd.C_drew ?_) | exact HR298_0.out)) | (with_reducible refine Kd.C_alloc ?_ _) | (with_reducible refine Kd.C_drewN ?_ _) | (with_reducible refine Kd.C_drew ?_)))
                   (case side2 => exact HC298_0.out)
                   rintro e w108 ⟨v301, rfl, ho0, hb⟩; have HS0_ := (hb.cell (World.block_lt_of_cell? _ _ (hHeld.1))).trans (hHeld.1); have HS1_ := (hb.cell (World.block_lt_of_cell? _ _ (hHeld.2.1))).trans (hHeld.2.1); have HS2_ := (hb.cell (World.block_lt_of_cell? _ _ (hHeld.2.2.1))).trans (hHeld.2.2.1); have HS3_ := (hb.cell (World.block_lt_of_cell? _ _ (hHeld.2.2.2))).trans (hHeld.2.2.2)
                   refine ⟨_, rfl, ?_⟩
                   have n0_ := Aside0.mk (Kd.R_elder' (by exact HO_12.out) (Kd.R_base ho0) hb)
                   have n1_ := Aside0.mk (Kd.R_elder' (by exact HO_265000.out) (Kd.R_base ho0) hb)
                   have n2_ := Aside0.mk (Kd.R_elder' (by exact HO_265001.out) (Kd.R_base ho0) hb)
                   have n3_ := Aside0.mk (Kd.V_elder' (by exact HO_265002.out) (Kd.R_base ho0) hb)
                   have n4_ := Aside0.mk (Kd.N_elder' (by exact HO295.out) (Kd.R_base ho0) hb)
                   have n5_ := Aside0.mk (Kd.V_elder' (by exact HL298_0.out) (Kd.R_base ho0) hb)
                   have n6_ := Aside0.mk (Kd.R_lower (Kd.R_new' (Kd.R_new' (Kd.R_new' (Kd.R_newM (M := fun k_ => ((P0_0_ k_ ∨ P0_1_ k_) ∨ w.heap.size ≤ k_)) ho0 (by first | exact HK.out.1 | exact (show Kept w _ (fun k_ => P0_0_ k_ ∨ P0_1_ k_) from by repeat (first | (with_reducible first | exact HK.out | apply Kept.alloc | apply Kept.drewN | apply Kept.drew | refine Kept.setCell ?_ (.inr GW264.out) _ | refine Kept.setCell ?_ (.inr GW265.out) _) | exact HK.out)).1) (fun k_ h_ => .inr h_)) (Kd.R_lt (by exact HO_12.out))) (Kd.R_lt (by exact HO_265000.out))) (Kd.R_lt (by exact HO_265001.out))) (below_size (by repeat (first | (with_reducible first | exact HB.out | apply below_alloc | apply pw_below_drewN | apply below_drew1 | refine below_set ?_ GE264.out | refine below_set ?_ GE265.out) | exact HB.out))))
                   have n7_ := Aside0.mk (blk_below (g := gb264) (o := .cells #[.slice Ao6 l0_0.length co6, .slice Ao7 l0_1.length co7, .slice A0_2 l0_2.length c0_2, .int .i64 a0_3, .int .i64 a0_4] 25 (0, 0)) (by exact BK264.out) hb)
                   have n8_ := Aside0.mk (blk_below (g := gb265) (o := .cells #[.slice none 0 0, .slice none 0 0, .slice none 0 0, .int .i64 x266003_4, .int .i64 x266004_4] 25 (0, 0)) (by exact BK265.out) hb)
                   have n9_ := Aside0.mk (Kd.C_below (by repeat (first | (with_reducible exact HR298_0.out) | (with_reducible refine Kd.C_alloc ?_ _) | (with_reducible refine Kd.C_drewN ?_ _) | (with_reducible refine Kd.C_drew ?_) | exact HR298_0.out)) hb)
                   have n10_ := Aside0.mk (Kept.below (S := (fun k_ => P0_0_ k_ ∨ P0_1_ k_)) (by repeat (first | (with_reducible first | exact HK.out | apply Kept.alloc | apply Kept.drewN | apply Kept.drew | refine Kept.setCell ?_ (.inr GW264.out) _ | refine Kept.setCell ?_ (.inr GW265.out) _) | exact HK.out)) hb)
                   have n11_ := Aside0.mk (below_step (by repeat (first | (with_reducible first | exact HB.out | apply below_alloc | apply pw_below_drewN | apply below_drew1 | refine below_set ?_ GE264.out | refine below_set ?_ GE265.out) | exact HB.out)) hb)
                   clear HO_12; clear HO_265000; clear HO_265001; clear HO_265002; clear HO295; clear HL298_0; clear BK264; clear BK265; clear HR298_0; clear HK; clear HB; have HO_12 := n0_; have HO_265000 := n1_; have HO_265001 := n2_; have HO_265002 := n3_; have HO295 := n4_; have HL298_0 := n5_; have HO302 := n6_; have BK264 := n7_; have BK265 := n8_; have HR298_0 := n9_; have HK := n10_; have HB := n11_; clear n0_ n1_ n2_ n3_ n4_ n5_ n6_ n7_ n8_ n9_ n10_ n11_; (try clear hb); (try clear hb2); (try clear hk); (try clear hi); (try clear ho0); have p99 : 0 ≤ ((rd x12_4 0) : Int) := of_decide_eq_true (by first | (with_reducible assumption) | assumption)
                   have q99 : ((rd x12_4 0) : Int) < ((y293.length : Int) : Int) := of_decide_eq_true (by first | (with_reducible assumption) | assumption)
                   obtain ⟨go99, co99, eo99, gb99, gl99, cl99, HG99⟩ := Kd.N_form HO295.out (by omega)
                   (first | cases eo99 | (injection eo99 with ea_ en_ ec_; (first | subst ea_ | (injection ea_ with ea_; subst ea_)); subst ec_; clear en_))
                   have GB99 := Aside0.mk gb99; have GG99 := Aside0.mk HG99; clear gb99 gl99 HG99; have HMgo99 := Aside0.mk (show ((P0_0_ go99 ∨ P0_1_ go99) ∨ w.heap.size ≤ go99) from .inr (Kd.N_base HO295.out _ rfl))
                   (first | simp only [add_plain] at hx298_0 | skip)
                   obtain ⟨ce99, hcl99, hM99, hcc99, hfr99⟩ := Kd.N_elem HO295.out [] ((rd x12_4 0) : Int) p99 q99; obtain ⟨ua99_0, uc99_0, rfl, ul99_0, ge99_0⟩ := Kd.FK_slice_open hM99; have hx99_0 := hcc99 0 _ rfl; have hf99_0 := hfr99 0
                   (try simp only [show ((Kd.slice 3 (Kd.int .i64))).sz = 1 from rfl, Nat.mul_one, Nat.add_zero] at hx99_0)
                   (try simp only [show ((Kd.slice 3 (Kd.int .i64))).sz = 1 from rfl, Nat.mul_one, Nat.add_zero] at hf99_0)
                   clear hcl99 hcc99 hfr99 hM99; replace p99 := eq_true p99; replace q99 := eq_true q99; have HX109 := Aside0.mk (show Kd.N (Kd.slice 3 (Kd.int .i64)) 22 _ w.heap.size (fun k_ => ((P0_0_ k_ ∨ P0_1_ k_ ∨ P0_2_ k_) ∨ w.heap.size ≤ k_) ∧ some k_ ≠ (.slice (some ad296) x12_4.length co106 : Value).ownBlock ∧ some k_ ≠ (.slice Ao6 l0_0.length co6 : Value).ownBlock ∧ some k_ ≠ (.slice Ao7 l0_1.length co7 : Value).ownBlock ∧ some k_ ≠ (v301 : Value).ownBlock ∧ k_ ≠ gb264 ∧ k_ ≠ gb265) (.slice (some ⟨go99, 0, none⟩) y293.length co107) y293 from (Kd.N_mono (HO295.out) (fun k_ hk => ⟨hk.1.1, ⟨hk.1.2.1, ⟨hk.1.2.2.1, ⟨hk.1.2.2.2.1, ⟨hk.2, ⟨hk.1.2.2.2.2.1, hk.1.2.2.2.2.2⟩⟩⟩⟩⟩⟩)))
                   replace HX109 := Aside0.mk (show Kd.N (Kd.slice 3 (Kd.int .i64)) 22 _ w.heap.size (fun k_ => ((P0_0_ k_ ∨ P0_1_ k_ ∨ P0_2_ k_) ∨ w.heap.size ≤ k_) ∧ some k_ ≠ (.slice (some ad296) x12_4.length co106 : Value).ownBlock ∧ some k_ ≠ (.slice Ao6 l0_0.length co6 : Value).ownBlock ∧ some k_ ≠ (.slice Ao7 l0_1.length co7 : Value).ownBlock ∧ k_ ≠ gb264 ∧ k_ ≠ gb265) (.slice (some ⟨go99, 0, none⟩) y293.length co107) y293 from Kd.N_mono HX109.out (fun k_ hk => ⟨hk.1, ⟨hk.2.1, ⟨hk.2.2.1, ⟨hk.2.2.2.1, ⟨hk.2.2.2.2.2.1, hk.2.2.2.2.2.2⟩⟩⟩⟩⟩))
                   obtain ⟨ce109, hcl109, hM109, hcc109, hfr109⟩ := Kd.N_elem HX109.out [] ((rd x12_4 0) : Int) (of_decide_eq_true (by first | (with_reducible assumption) | assumption)) (by have h_ : ((rd x12_4 0) : Int) < ((y293.length : Int) : Int) := of_decide_eq_true (by first | (with_reducible assumption) | assumption); first | exact h_ | (have e_ := (Kd.N_reads' HO295.out).1; omega) | simpa using h_)
                   obtain ⟨ua109_0, uc109_0, rfl, ul109_0, ge109_0⟩ := Kd.FK_slice_open hM109; obtain ⟨Az_, cz_, ez_⟩ := Kd.R_slice HO302.out; have HZ_ := (Kd.R_types (Kd.R_types (Kd.R_apart' (HO302.out) (Kd.N_typed HO295.out) (by decide)) BK264.out (by decide)) BK265.out (by decide))
                   rw [ez_] at HZ_
                   have HP109 := (Kd.N_seg HX109.out ((rd x12_4 0) : Int) (of_decide_eq_true (by first | (with_reducible assumption) | assumption)) (by have h_ : ((rd x12_4 0) : Int) < ((y293.length : Int) : Int) := of_decide_eq_true (by first | (with_reducible assumption) | assumption); first | exact h_ | (have e_ := (Kd.N_reads' HO295.out).1; omega) | simpa using h_) (seg := [v301]) (j := 0) hcl109 hcc109 (show 1 ≤ 1 from by decide) (x' := t300) (by rw [ez_]; exact (Kd.FK_slice_mk (Kd.R_reads' (Kd.R_mono (ok' := (fun k_ => ((fun k_ => ((P0_0_ k_ ∨ P0_1_ k_ ∨ P0_2_ k_) ∨ w.heap.size ≤ k_) ∧ some k_ ≠ (.slice (some ad296) x12_4.length co106 : Value).ownBlock ∧ some k_ ≠ (.slice Ao6 l0_0.length co6 : Value).ownBlock ∧ some k_ ≠ (.slice Ao7 l0_1.length co7 : Value).ownBlock ∧ k_ ≠ gb264 ∧ k_ ≠ gb265)) k_ ∧ k_ ≠ go99)) HZ_ (fun k_ hk => ⟨⟨(Or.imp_left (fun h_ => (Or.elim h_ (fun z_ => .inl z_) (fun z_ => .inr (.inl z_)))) (hk.1.1.1.1.1.1.1)), ⟨hk.1.1.1.1.1.2, ⟨hk.1.1.1.1.2, ⟨hk.1.1.1.2, ⟨hk.1.2, hk.2⟩⟩⟩⟩⟩, fun e_ => (hk.1.1.2) (by rw [e_]; rfl)⟩))).2.1 (Kd.R_F (Kd.R_mono (ok' := (fun k_ => ((fun k_ => ((P0_0_ k_ ∨ P0_1_ k_ ∨ P0_2_ k_) ∨ w.heap.size ≤ k_) ∧ some k_ ≠ (.slice (some ad296) x12_4.length co106 : Value).ownBlock ∧ some k_ ≠ (.slice Ao6 l0_0.length co6 : Value).ownBlock ∧ some k_ ≠ (.slice Ao7 l0_1.length co7 : Value).ownBlock ∧ k_ ≠ gb264 ∧ k_ ≠ gb265)) k_ ∧ k_ ≠ go99)) HZ_ (fun k_ hk => ⟨⟨(Or.imp_left (fun h_ => (Or.elim h_ (fun z_ => .inl z_) (fun z_ => .inr (.inl z_)))) (hk.1.1.1.1.1.1.1)), ⟨hk.1.1.1.1.1.2, ⟨hk.1.1.1.1.2, ⟨hk.1.1.1.2, ⟨hk.1.2, hk.2⟩⟩⟩⟩⟩, fun e_ => (hk.1.1.2) (by rw [e_]; rfl)⟩))))) (fun _ hk => hk)).1
                   subst ez_
                   (try simp only [show ((Kd.slice 3 (Kd.int .i64))).sz = 1 from rfl, Nat.mul_one, Nat.add_zero] at HP109)
                   rw [← Ny303.out] at HP109
                   have HQ109 := Aside0.mk HP109; clear hcl109 hcc109 hfr109 hM109 HP109
                   refine hK.out _ _ ⟨HS0_, HS1_, HS2_, HS3_⟩ (fun hHeld => ?_)
                   clear hK K
                   refine norm_ (a' := ?_) ?_ ?_
                   rotate_left
                   ·
                    show Act.put _ (some 147) _ = _
                    simp only [Act.put, List.setIfInBounds_toArray, List.set_cons_zero, List.set_cons_succ, i64_w, i32_w]
                    rfl
                   refine pure_ (i := 15) (N := some 148) (v := ?_) (a' := ?_) #[true, true, true, true, true, true, true, true, true, true, true, true, true, true, true, true, false] rfl rfl (any_of HT_.out (by kernel_rfl)) (fun _ _ _ h => h) (Or.inl ⟨by rfl, ?_⟩) ?_ ?_
                   rotate_left
                   ·
                    intro w'
                    go_simp
                    with_reducible rfl
                   rotate_left
                   ·
                    simp only [Act.put, List.setIfInBounds_toArray, List.set_cons_zero, List.set_cons_succ, i64_w, i32_w]
                    rfl
                   refine last_ (i := 16) (N := none) #[true, true, true, true, true, true, true, true, true, true, true, true, true, true, true, true, true] rfl rfl (one_of HT_.out (by kernel_rfl)) (by decide) (fun K hK => ?_)
                   refine skip_ (w1 := ?_) (by rfl) rfl ?_ ?_
                   rotate_left
                   ·
                    go_simp
                    rfl
                   refine hK.out _ _ ?_
                   clear hK K
                   refine done_ (done_of HT_.out (by kernel_rfl)) ?_
                   have n0_ : Aside0 (Kd.R (Kd.int .i64) 3 (w108.setCell ⟨go99, ((rd x12_4 0) : Int).toNat, none⟩ ((.slice Az_ t300.length cz_ : Value))) w0.heap.size (fun k_ => ((P0_0_ k_ ∨ P0_1_ k_) ∨ w.heap.size ≤ k_) ∧ some k_ ≠ (.slice Ao6 l0_0.length co6 : Value).ownBlock ∧ some k_ ≠ (.slice Ao7 l0_1.length co7 : Value).ownBlock) (.slice (some ad296) x12_4.length co106) x12_4) := ⟨by exact Kd.R_mono (Kd.R_far (p := ⟨go99, ((rd x12_4 0) : Int).toNat, none⟩) (Kd.R_types HO_12.out GG99.out (by decide)) (fun _ hk => hk.2) ((.slice Az_ t300.length cz_ : Value))) (fun _ hk => ⟨hk.1.1.1, ⟨hk.1.1.2.1, hk.1.1.2.2⟩⟩)⟩
                   have n1_ : Aside0 (Kd.R (Kd.int .i64) 3 (w108.setCell ⟨go99, ((rd x12_4 0) : Int).toNat, none⟩ ((.slice Az_ t300.length cz_ : Value))) w0.heap.size (fun k_ => ((P0_0_ k_ ∨ P0_1_ k_) ∨ w.heap.size ≤ k_) ∧ some k_ ≠ (.slice (some ad296) x12_4.length co106 : Value).ownBlock ∧ some k_ ≠ (.slice Ao7 l0_1.length co7 : Value).ownBlock) (.slice Ao6 l0_0.length co6) l0_0) := ⟨by exact Kd.R_mono (Kd.R_far (p := ⟨go99, ((rd x12_4 0) : Int).toNat, none⟩) (Kd.R_types HO_265000.out GG99.out (by decide)) (fun _ hk => hk.2) ((.slice Az_ t300.length cz_ : Value))) (fun _ hk => ⟨hk.1.1.1, ⟨hk.1.1.2.1, hk.1.1.2.2⟩⟩)⟩
                   have n2_ : Aside0 (Kd.R (Kd.int .i64) 3 (w108.setCell ⟨go99, ((rd x12_4 0) : Int).toNat, none⟩ ((.slice Az_ t300.length cz_ : Value))) w0.heap.size (fun k_ => ((P0_0_ k_ ∨ P0_1_ k_) ∨ w.heap.size ≤ k_) ∧ some k_ ≠ (.slice (some ad296) x12_4.length co106 : Value).ownBlock ∧ some k_ ≠ (.slice Ao6 l0_0.length co6 : Value).ownBlock) (.slice Ao7 l0_1.length co7) l0_1) := ⟨by exact Kd.R_mono (Kd.R_far (p := ⟨go99, ((rd x12_4 0) : Int).toNat, none⟩) (Kd.R_types HO_265001.out GG99.out (by decide)) (fun _ hk => hk.2) ((.slice Az_ t300.length cz_ : Value))) (fun _ hk => ⟨hk.1.1.1, ⟨hk.1.1.2.1, hk.1.1.2.2⟩⟩)⟩
                   have n3_ : Aside0 (Kd.V (Kd.slice 3 (Kd.int .i64)) 22 (w108.setCell ⟨go99, ((rd x12_4 0) : Int).toNat, none⟩ ((.slice Az_ t300.length cz_ : Value))) w0.heap.size (fun k_ => ((P0_0_ k_ ∨ P0_1_ k_ ∨ P0_2_ k_) ∨ w.heap.size ≤ k_) ∧ some k_ ≠ (.slice (some ad296) x12_4.length co106 : Value).ownBlock ∧ some k_ ≠ (.slice Ao6 l0_0.length co6 : Value).ownBlock ∧ some k_ ≠ (.slice Ao7 l0_1.length co7 : Value).ownBlock ∧ some k_ ≠ (.slice (some ⟨go99, 0, none⟩) y293.length co107 : Value).ownBlock ∧ k_ ≠ gb264 ∧ k_ ≠ gb265) (.slice A0_2 l0_2.length c0_2) l0_2) := ⟨by exact Kd.V_mono (Kd.V_far (p := ⟨go99, ((rd x12_4 0) : Int).toNat, none⟩) (Kd.V_mono HO_265002.out (fun k_ hk => (⟨hk, fun e_ => hk.1.2 (by rw [e_]; rfl)⟩ : _ ∧ k_ ≠ go99))) (fun _ hk => hk.2) ((.slice Az_ t300.length cz_ : Value))) (fun _ hk => ⟨hk.1.1.1.1, ⟨hk.1.1.1.2.1, ⟨hk.1.1.1.2.2.1, ⟨hk.1.1.1.2.2.2.1, ⟨hk.1.1.2, ⟨hk.1.1.1.2.2.2.2.1, hk.1.1.1.2.2.2.2.2⟩⟩⟩⟩⟩⟩)⟩
                   have n4_ : Aside0 (Kd.N (Kd.slice 3 (Kd.int .i64)) 22 (w108.setCell ⟨go99, ((rd x12_4 0) : Int).toNat, none⟩ ((.slice Az_ t300.length cz_ : Value))) w.heap.size (fun k_ => ((P0_0_ k_ ∨ P0_1_ k_ ∨ P0_2_ k_) ∨ w.heap.size ≤ k_) ∧ some k_ ≠ (.slice (some ad296) x12_4.length co106 : Value).ownBlock ∧ some k_ ≠ (.slice Ao6 l0_0.length co6 : Value).ownBlock ∧ some k_ ≠ (.slice Ao7 l0_1.length co7 : Value).ownBlock ∧ k_ ≠ gb264 ∧ k_ ≠ gb265) (.slice (some ⟨go99, 0, none⟩) y293.length co107) y303) := ⟨by exact HQ109.out⟩
                   have n5_ : Aside0 (Kd.V (Kd.int .i64) 3 (w108.setCell ⟨go99, ((rd x12_4 0) : Int).toNat, none⟩ ((.slice Az_ t300.length cz_ : Value))) w0.heap.size (fun k_ => ((P0_0_ k_ ∨ P0_1_ k_ ∨ P0_2_ k_) ∨ w.heap.size ≤ k_) ∧ some k_ ≠ (.slice (some ad296) x12_4.length co106 : Value).ownBlock ∧ some k_ ≠ (.slice Ao6 l0_0.length co6 : Value).ownBlock ∧ some k_ ≠ (.slice Ao7 l0_1.length co7 : Value).ownBlock ∧ some k_ ≠ (.slice (some ⟨go99, 0, none⟩) y293.length co107 : Value).ownBlock ∧ k_ ≠ gb264 ∧ k_ ≠ gb265) (.slice A298_0 (rd_L1 y293 (rd x12_4 0)).length c298_0) (rd_L1 y293 (rd x12_4 0))) := ⟨by exact Kd.V_mono (Kd.V_far (p := ⟨go99, ((rd x12_4 0) : Int).toNat, none⟩) (Kd.V_mono HL298_0.out (fun k_ hk => (⟨hk, fun e_ => hk.1.2 (by rw [e_]; rfl)⟩ : _ ∧ k_ ≠ go99))) (fun _ hk => hk.2) ((.slice Az_ t300.length cz_ : Value))) (fun _ hk => ⟨hk.1.1.1.1, ⟨hk.1.1.1.2.1, ⟨hk.1.1.1.2.2.1, ⟨hk.1.1.1.2.2.2.1, ⟨hk.1.1.2, ⟨hk.1.1.1.2.2.2.2.1, hk.1.1.1.2.2.2.2.2⟩⟩⟩⟩⟩⟩)⟩
                   have n6_ : Aside0 ((w108.setCell ⟨go99, ((rd x12_4 0) : Int).toNat, none⟩ ((.slice Az_ t300.length cz_ : Value))).heap[gb264]? = some (.cells #[.slice Ao6 l0_0.length co6, .slice Ao7 l0_1.length co7, .slice A0_2 l0_2.length c0_2, .int .i64 a0_3, .int .i64 a0_4] 25 (0, 0))) := ⟨by refine blk_far ?_ (by have h_ := Kd.N_away (g := gb264) HO295.out (fun _ hk => by first | exact hk.2.2.2.2.1 | exact hk.1.2.2.2.2.1); intro e_; exact h_ (by rw [e_]; rfl)) _; exact BK264.out⟩
                   have n7_ : Aside0 ((w108.setCell ⟨go99, ((rd x12_4 0) : Int).toNat, none⟩ ((.slice Az_ t300.length cz_ : Value))).heap[gb265]? = some (.cells #[.slice none 0 0, .slice none 0 0, .slice none 0 0, .int .i64 x266003_4, .int .i64 x266004_4] 25 (0, 0))) := ⟨by refine blk_far ?_ (by have h_ := Kd.N_away (g := gb265) HO295.out (fun _ hk => by first | exact hk.2.2.2.2.2 | exact hk.1.2.2.2.2.2); intro e_; exact h_ (by rw [e_]; rfl)) _; exact BK265.out⟩
                   have n8_ : Aside0 (Kept w (w108.setCell ⟨go99, ((rd x12_4 0) : Int).toNat, none⟩ ((.slice Az_ t300.length cz_ : Value))) (fun k_ => P0_0_ k_ ∨ P0_1_ k_)) := ⟨by repeat (first | (with_reducible first | exact HK.out | apply Kept.alloc | apply Kept.drewN | apply Kept.drew | refine Kept.setCell ?_ HMgo99.out _ | refine Kept.setCell ?_ (.inr GW264.out) _ | refine Kept.setCell ?_ (.inr GW265.out) _) | exact HK.out)⟩
                   have n9_ : Aside0 (Below w0.heap.size w0 (w108.setCell ⟨go99, ((rd x12_4 0) : Int).toNat, none⟩ ((.slice Az_ t300.length cz_ : Value)))) := ⟨by repeat (first | (with_reducible first | exact HB.out | apply below_alloc | apply pw_below_drewN | apply below_drew1 | refine below_set ?_ (Nat.le_trans HW0.out GB99.out) | refine below_set ?_ GE264.out | refine below_set ?_ GE265.out) | exact HB.out)⟩
                   (try clear HO_12); (try clear HO_265000); (try clear HO_265001); (try clear HO_265002); (try clear HO295); (try clear HL298_0); (try clear BK264); (try clear BK265); (try clear HK); (try clear HB)
                   generalize (w108.setCell ⟨go99, ((rd x12_4 0) : Int).toNat, none⟩ ((.slice Az_ t300.length cz_ : Value))) = w110 at n0_ n1_ n2_ n3_ n4_ n5_ n6_ n7_ n8_ n9_ ⊢
                   have HO_12 := n0_; have HO_265000 := n1_; have HO_265001 := n2_; have HO_265002 := n3_; have HO295 := n4_; have HL298_0 := n5_; have BK264 := n6_; have BK265 := n7_; have HK := n8_; have HB := n9_; clear n0_ n1_ n2_ n3_ n4_ n5_ n6_ n7_ n8_ n9_; have hcz111_0 : w110.cell? ⟨gb264, 0, none⟩ = some (.slice Ao6 l0_0.length co6) := (blk_cell BK264.out 0).trans rfl; have hcz111_1 : w110.cell? ⟨gb264, 1, none⟩ = some (.slice Ao7 l0_1.length co7) := (blk_cell BK264.out 1).trans rfl; have hcz111_2 : w110.cell? ⟨gb264, 2, none⟩ = some (.slice A0_2 l0_2.length c0_2) := (blk_cell BK264.out 2).trans rfl; have hcz111_3 : w110.cell? ⟨gb264, 3, none⟩ = some (.int .i64 a0_3) := (blk_cell BK264.out 3).trans rfl; have hcz111_4 : w110.cell? ⟨gb264, 4, none⟩ = some (.int .i64 a0_4) := (blk_cell BK264.out 4).trans rfl; have hfz111_0 := blk_frozen BK264.out 0; have hfz111_1 := blk_frozen BK264.out 1; have hfz111_2 := blk_frozen BK264.out 2; have hfz111_3 := blk_frozen BK264.out 3; have hfz111_4 := blk_frozen BK264.out 4; have hcz112_0 : w110.cell? ⟨gb265, 0, none⟩ = some (.slice none 0 0) := (blk_cell BK265.out 0).trans rfl; have hcz112_1 : w110.cell? ⟨gb265, 1, none⟩ = some (.slice none 0 0) := (blk_cell BK265.out 1).trans rfl; have hcz112_2 : w110.cell? ⟨gb265, 2, none⟩ = some (.slice none 0 0) := (blk_cell BK265.out 2).trans rfl; have hcz112_3 : w110.cell? ⟨gb265, 3, none⟩ = some (.int .i64 x266003_4) := (blk_cell BK265.out 3).trans rfl; have hcz112_4 : w110.cell? ⟨gb265, 4, none⟩ = some (.int .i64 x266004_4) := (blk_cell BK265.out 4).trans rfl; have hfz112_0 := blk_frozen BK265.out 0; have hfz112_1 := blk_frozen BK265.out 1; have hfz112_2 := blk_frozen BK265.out 2; have hfz112_3 := blk_frozen BK265.out 3; have hfz112_4 := blk_frozen BK265.out 4
                   try go_wp2
                   refine bodyPost_ret (results_ct rfl _ _ gb265 25 #[.slice Ao6 l0_0.length co6, .slice Ao7 l0_1.length co7, .slice (some ⟨go99, 0, none⟩) y293.length co107, .int .i64 a0_3, .int .i64 a0_4] (0, 0) _ rfl (by refine blk_put (cs := #[.slice Ao6 l0_0.length co6, .slice Ao7 l0_1.length co7, .slice (some ⟨go99, 0, none⟩) y293.length co107, .int .i64 a0_3, .int .i64 x266004_4]) ?_ 4 _ rfl; refine blk_put (cs := #[.slice Ao6 l0_0.length co6, .slice Ao7 l0_1.length co7, .slice (some ⟨go99, 0, none⟩) y293.length co107, .int .i64 x266003_4, .int .i64 x266004_4]) ?_ 3 _ rfl; refine blk_put (cs := #[.slice Ao6 l0_0.length co6, .slice Ao7 l0_1.length co7, .slice none 0 0, .int .i64 x266003_4, .int .i64 x266004_4]) ?_ 2 _ rfl; refine blk_put (cs := #[.slice Ao6 l0_0.length co6, .slice none 0 0, .slice none 0 0, .int .i64 x266003_4, .int .i64 x266004_4]) ?_ 1 _ rfl; refine blk_put (cs := #[.slice none 0 0, .slice none 0 0, .slice none 0 0, .int .i64 x266003_4, .int .i64 x266004_4]) ?_ 0 _ rfl; refine blk_far ?_ NB265_264.out _; exact BK265.out) Tryz.underlying25 rfl (by kernel_rfl)) rfl ?_
                   exact ⟨_, _, _, by first | rfl | (simp [errW_none, errW_some] <;> rfl) | (simp only [← hji20]; first | rfl | (simp [errW_none, errW_some] <;> rfl)) | (simp [*, errW_none, errW_some] <;> rfl), by exact Kd.R_mono (Kd.R_far (p := ⟨gb265, 4, none⟩) (Kd.R_far (p := ⟨gb265, 3, none⟩) (Kd.R_far (p := ⟨gb265, 2, none⟩) (Kd.R_far (p := ⟨gb265, 1, none⟩) (Kd.R_far (p := ⟨gb265, 0, none⟩) (Kd.R_far (p := ⟨gb264, 2, none⟩) (Kd.R_types (Kd.R_types HO_265000.out BK264.out (by decide)) BK265.out (by decide)) (fun _ hk => hk.1.2) (.slice (some ⟨go99, 0, none⟩) y293.length co107)) (fun _ hk => hk.2) (.slice Ao6 l0_0.length co6)) (fun _ hk => hk.2) (.slice Ao7 l0_1.length co7)) (fun _ hk => hk.2) (.slice (some ⟨go99, 0, none⟩) y293.length co107)) (fun _ hk => hk.2) (.int .i64 a0_3)) (fun _ hk => hk.2) (.int .i64 a0_4)) (fun _ hk => ⟨hk.1.1.1, hk.1.1.2.2⟩), by exact Kd.R_mono (Kd.R_far (p := ⟨gb265, 4, none⟩) (Kd.R_far (p := ⟨gb265, 3, none⟩) (Kd.R_far (p := ⟨gb265, 2, none⟩) (Kd.R_far (p := ⟨gb265, 1, none⟩) (Kd.R_far (p := ⟨gb265, 0, none⟩) (Kd.R_far (p := ⟨gb264, 2, none⟩) (Kd.R_types (Kd.R_types HO_265001.out BK264.out (by decide)) BK265.out (by decide)) (fun _ hk => hk.1.2) (.slice (some ⟨go99, 0, none⟩) y293.length co107)) (fun _ hk => hk.2) (.slice Ao6 l0_0.length co6)) (fun _ hk => hk.2) (.slice Ao7 l0_1.length co7)) (fun _ hk => hk.2) (.slice (some ⟨go99, 0, none⟩) y293.length co107)) (fun _ hk => hk.2) (.int .i64 a0_3)) (fun _ hk => hk.2) (.int .i64 a0_4)) (fun _ hk => ⟨hk.1.1.1, hk.1.1.2.2⟩), Kd.N_V (by exact Kd.N_mono (Kd.N_far (p := ⟨gb265, 4, none⟩) (Kd.N_far (p := ⟨gb265, 3, none⟩) (Kd.N_far (p := ⟨gb265, 2, none⟩) (Kd.N_far (p := ⟨gb265, 1, none⟩) (Kd.N_far (p := ⟨gb265, 0, none⟩) (Kd.N_far (p := ⟨gb264, 2, none⟩) (Kd.N_mono (Kd.N_mono HO295.out (fun k_ hk => (⟨hk, hk.2.2.2.2.1⟩ : _ ∧ k_ ≠ gb264))) (fun k_ hk => (⟨hk, hk.1.2.2.2.2.2⟩ : _ ∧ k_ ≠ gb265))) (fun _ hk => hk.1.2) (.slice (some ⟨go99, 0, none⟩) y293.length co107)) (fun _ hk => hk.2) (.slice Ao6 l0_0.length co6)) (fun _ hk => hk.2) (.slice Ao7 l0_1.length co7)) (fun _ hk => hk.2) (.slice (some ⟨go99, 0, none⟩) y293.length co107)) (fun _ hk => hk.2) (.int .i64 a0_3)) (fun _ hk => hk.2) (.int .i64 a0_4)) (fun _ hk => ⟨hk.1.1.1, ⟨hk.1.1.2.2.1, hk.1.1.2.2.2.1⟩⟩)), by repeat (first | (with_reducible first | exact HB.out | apply below_alloc | apply pw_below_drewN | apply below_drew1 | refine below_set ?_ GE264.out | refine below_set ?_ GE265.out) | exact HB.out), by repeat (first | (with_reducible first | exact HK.out | apply Kept.alloc | apply Kept.drewN | apply Kept.drew | refine Kept.setCell ?_ (.inr GW264.out) _ | refine Kept.setCell ?_ (.inr GW265.out) _) | exact HK.out)⟩
                  rw [if_pos c81] at H
                  have c81b0 : ((rdOf ByteArray.empty l1 0).toList == ([100, 101, 108, 101, 116, 101] : List UInt8)) = true := beq_iff_eq.mpr c81; have c81b1 : ((rdOf ByteArray.empty l1 0).toList != ([100, 101, 108, 101, 116, 101] : List UInt8)) = false := bne_eq_false_iff_eq.mpr c81; clear c81
                  by_cases c82 : 0 < (x12_4.length : Int)
                  rotate_left
                  ·
                   rw [if_neg c82] at H
                   exact absurd H (by simp)
                  rw [if_pos c82] at H
                  have c82b0 : decide (0 < (x12_4.length : Int)) = true := decide_eq_true c82; have c82b1 : decide (0 < x12_4.length) = true := decide_eq_true (by omega)
                  clear c82; replace H := Option.bind_eq_some_iff.mp H; obtain ⟨t287, A830, H⟩ := H; replace H : (some (l0_0, t287, l0_2, a0_3, a0_4, 0)) = some (r1, r2, r3, r4, r5, r6) := H; have A83 := Aside0.mk A830; clear A830
                  simp only [Option.some.injEq, Prod.mk.injEq] at H
                  obtain ⟨rfl, rfl, rfl, rfl, rfl, rfl⟩ := H; have p281 : 0 ≤ (0 : Int) := (by omega)
                  have q281 : 0 < (l1.length : Int) := of_decide_eq_true (by first | (with_reducible assumption) | assumption)
                  obtain ⟨ad281, e281, hx281_0⟩ := Kd.at_string (Kd.C_kept_now HR1.out HK.out) 0 p281 q281; obtain rfl : ad266 = ad281 := (by injection e281)
                  have qi281 : (0 < l1.length) = True := eq_true (by omega)
                  (try rw [show ((0 : Int)).toNat = 0 from rfl] at hx281_0)
                  (try rw [Addr.add_zero'] at hx281_0)
                  replace p281 := eq_true p281; replace q281 := eq_true q281
                  try go_wp2
                  have n0_ := Aside0.mk (Kd.R_drew HO_12.out); have n1_ := Aside0.mk (Kd.R_drew HO_265000.out); have n2_ := Aside0.mk (Kd.R_drew HO_265001.out); have n3_ := Aside0.mk (Kd.V_drew HO_265002.out); have n4_ := Aside0.mk (blk_drew BK264.out); have n5_ := Aside0.mk (blk_drew BK265.out); have n6_ := Aside0.mk (Kept.drew HK.out); have n7_ := Aside0.mk (below_drew1 HB.out); clear HO_12; clear HO_265000; clear HO_265001; clear HO_265002; clear BK264; clear BK265; clear HK; clear HB; have HO_12 := n0_; have HO_265000 := n1_; have HO_265001 := n2_; have HO_265002 := n3_; have BK264 := n4_; have BK265 := n5_; have HK := n6_; have HB := n7_; clear n0_ n1_ n2_ n3_ n4_ n5_ n6_ n7_; obtain ⟨Ao85, co85, eo85⟩ := Kd.R_slice HO_12.out
                  (first | subst eo85 | (injection eo85 with f1_ f2_ f3_; have f4_ := f1_.symm; have f5_ := f3_.symm; clear f1_ f2_ f3_; subst f4_; subst f5_))
                  have p286 : 0 ≤ (0 : Int) := (by omega)
                  have q286 : 0 < (x12_4.length : Int) := of_decide_eq_true (by first | (with_reducible assumption) | assumption)
                  obtain ⟨ad286, e286, hx286_0⟩ := Kd.at_int (Kd.R_reads' HO_12.out).2.2 0 p286 q286
                  cases e286
                  have qi286 : (0 < x12_4.length) = True := eq_true (by omega)
                  (try rw [show ((0 : Int)).toNat = 0 from rfl] at hx286_0)
                  (try rw [Addr.add_zero'] at hx286_0)
                  replace p286 := eq_true p286; replace q286 := eq_true q286
                  refine start_ (n := 9) (S := fun w' => w'.cell? ⟨gb264, 0, none⟩ = some (.slice Ao6 l0_0.length co6) ∧ w'.cell? ⟨gb264, 1, none⟩ = some (.slice Ao7 l0_1.length co7) ∧ w'.cell? ⟨gb264, 2, none⟩ = some (.slice A0_2 l0_2.length c0_2) ∧ w'.cell? ⟨gb264, 3, none⟩ = some (.int .i64 a0_3) ∧ w'.cell? ⟨gb264, 4, none⟩ = some (.int .i64 a0_4) ∧ w'.cell? ad286 = some (.int .i64 (rd x12_4 0))) (ds := [8]) #[false, false, false, false, false, false, false, false, false] (by kernel_rfl) rfl rfl ⟨(blk_cell BK264.out 0).trans rfl, (blk_cell BK264.out 1).trans rfl, (blk_cell BK264.out 2).trans rfl, (blk_cell BK264.out 3).trans rfl, (blk_cell BK264.out 4).trans rfl, hx286_0⟩ (fun hHeld => ?_); refine with_tabW emendateref34_line.tab34 emendateref34_line.bits34 (fun HT_ HW_ => ?_)
                  generalize wc.drew = w84 at HO_12 HO_265000 HO_265001 HO_265002 BK264 BK265 HK HB hx286_0 hHeld ⊢
                  refine pure_ (i := 0) (N := some 119) (v := ?_) (a' := ?_) #[true, false, false, false, false, false, false, false, false] rfl rfl (any_of HT_.out (by kernel_rfl)) (fun _ _ _ h => h) (Or.inl ⟨by rfl, ?_⟩) ?_ ?_
                  rotate_left
                  ·
                   intro w'
                   go_simp
                   with_reducible rfl
                  rotate_left
                  ·
                   simp only [Act.put, List.setIfInBounds_toArray, List.set_cons_zero, List.set_cons_succ, i64_w, i32_w]
                   rfl
                  refine pure_ (i := 2) (N := some 121) (v := ?_) (a' := ?_) #[true, false, true, false, false, false, false, false, false] rfl rfl (any_of HT_.out (by kernel_rfl)) (fun _ _ _ h => h) (Or.inl ⟨by rfl, ?_⟩) ?_ ?_
                  rotate_left
                  ·
                   intro w'
                   go_simp
                   with_reducible rfl
                  rotate_left
                  ·
                   simp only [Act.put, List.setIfInBounds_toArray, List.set_cons_zero, List.set_cons_succ, i64_w, i32_w]
                   rfl
                  refine pure_ (i := 3) (N := some 122) (v := ?_) (a' := ?_) #[true, false, true, true, false, false, false, false, false] rfl rfl (any_of HT_.out (by kernel_rfl)) (fun _ _ _ h => h) (Or.inl ⟨by rfl, ?_⟩) ?_ ?_
                  rotate_left
                  ·
                   intro w'
                   go_simp
                   with_reducible rfl
                  rotate_left
                  ·
                   simp only [Act.put, List.setIfInBounds_toArray, List.set_cons_zero, List.set_cons_succ, i64_w, i32_w]
                   rfl
                  refine pure_ (i := 5) (N := some 124) (v := ?_) (a' := ?_) #[true, false, true, true, false, true, false, false, false] rfl rfl (any_of HT_.out (by kernel_rfl)) (fun _ _ _ h => h) (Or.inl ⟨by rfl, ?_⟩) ?_ ?_
                  rotate_left
                  ·
                   intro w'
                   go_simp
                   with_reducible rfl
                  rotate_left
                  ·
                   simp only [Act.put, List.setIfInBounds_toArray, List.set_cons_zero, List.set_cons_succ, i64_w, i32_w]
                   rfl
                  refine take_ (i := 1) (N := some 120) (v := ?_) (a' := ?_) #[true, true, true, true, false, true, false, false, false] rfl rfl (take_ofW HT_.out HW_.out (by kernel_rfl)) (fun _ _ _ h => h) (Or.inl ⟨by rfl, ?_⟩) hHeld ?_ ?_
                  rotate_left
                  ·
                   rintro w' ⟨s0, s1, s2, s3, s4, s5⟩
                   go_simp
                   with_reducible rfl
                  rotate_left
                  ·
                   simp only [Act.put, List.setIfInBounds_toArray, List.set_cons_zero, List.set_cons_succ, i64_w, i32_w]
                   rfl
                  refine take_ (i := 4) (N := some 123) (v := ?_) (a' := ?_) #[true, true, true, true, true, true, false, false, false] rfl rfl (take_ofW HT_.out HW_.out (by kernel_rfl)) (fun _ _ _ h => h) (Or.inl ⟨by rfl, ?_⟩) hHeld ?_ ?_
                  rotate_left
                  ·
                   rintro w' ⟨s0, s1, s2, s3, s4, s5⟩
                   go_simp
                   with_reducible rfl
                  rotate_left
                  ·
                   simp only [Act.put, List.setIfInBounds_toArray, List.set_cons_zero, List.set_cons_succ, i64_w, i32_w]
                   rfl
                  refine one_ (i := 6) (N := some 125) #[true, true, true, true, true, true, true, false, false] rfl rfl (one_of HT_.out (by kernel_rfl)) (by decide) (fun K hK => ?_)
                  refine goes_ Tryz.func51 (by kernel_rfl) rfl #[.slice Ao7 l0_1.length co7, .int .i64 (rd x12_4 0), .int .i64 t268] (by rfl) rfl rfl (by (try simp only [List.map_toArray, List.map_cons, List.map_nil]); first | done | rfl | (simp only [List.length_drop, List.length_take]; rfl)) ?_
                  with_reducible refine (emendateref34_with.calls _ _ l0_1 (rd x12_4 0) t268 t287 _ ?side1 ?side2 A83.out).mono ?_
                  (case side1 => repeat (first | exact (Kd.R_reads' HO_265001.out).2.2 | (with_reducible refine Kd.C_alloc ?_ _) | (with_reducible refine Kd.C_drewN ?_ _) | (with_reducible refine Kd.C_drew ?_)))
                  (case side2 => exact (Kd.R_reads' HO_265001.out).2.1)
                  rintro e w86 ⟨v288, rfl, ho0, hb⟩; have HS5_ := (hb.cell (World.block_lt_of_cell? _ _ (hHeld.2.2.2.2.2))).trans (hHeld.2.2.2.2.2)
                  refine ⟨_, rfl, ?_⟩
                  have n0_ := Aside0.mk (Kd.R_elder' (by exact HO_12.out) (Kd.R_base ho0) hb)
                  have n1_ := Aside0.mk (Kd.R_elder' (by exact HO_265000.out) (Kd.R_base ho0) hb)
                  have n2_ := Aside0.mk (Kd.R_elder' (by exact HO_265001.out) (Kd.R_base ho0) hb)
                  have n3_ := Aside0.mk (Kd.V_elder' (by exact HO_265002.out) (Kd.R_base ho0) hb)
                  have n4_ := Aside0.mk (Kd.R_lower (Kd.R_new' (Kd.R_new' (Kd.R_new' (Kd.R_newM (M := fun k_ => ((P0_0_ k_ ∨ P0_1_ k_) ∨ w.heap.size ≤ k_)) ho0 (by first | exact HK.out.1 | exact (show Kept w _ (fun k_ => P0_0_ k_ ∨ P0_1_ k_) from by repeat (first | (with_reducible first | exact HK.out | apply Kept.alloc | apply Kept.drewN | apply Kept.drew | refine Kept.setCell ?_ (.inr GW264.out) _ | refine Kept.setCell ?_ (.inr GW265.out) _) | exact HK.out)).1) (fun k_ h_ => .inr h_)) (Kd.R_lt (by exact HO_12.out))) (Kd.R_lt (by exact HO_265000.out))) (Kd.R_lt (by exact HO_265001.out))) (below_size (by repeat (first | (with_reducible first | exact HB.out | apply below_alloc | apply pw_below_drewN | apply below_drew1 | refine below_set ?_ GE264.out | refine below_set ?_ GE265.out) | exact HB.out))))
                  have n5_ := Aside0.mk (blk_below (g := gb264) (o := .cells #[.slice Ao6 l0_0.length co6, .slice Ao7 l0_1.length co7, .slice A0_2 l0_2.length c0_2, .int .i64 a0_3, .int .i64 a0_4] 25 (0, 0)) (by exact BK264.out) hb)
                  have n6_ := Aside0.mk (blk_below (g := gb265) (o := .cells #[.slice none 0 0, .slice none 0 0, .slice none 0 0, .int .i64 x266003_4, .int .i64 x266004_4] 25 (0, 0)) (by exact BK265.out) hb)
                  have n7_ := Aside0.mk (Kept.below (S := (fun k_ => P0_0_ k_ ∨ P0_1_ k_)) (by repeat (first | (with_reducible first | exact HK.out | apply Kept.alloc | apply Kept.drewN | apply Kept.drew | refine Kept.setCell ?_ (.inr GW264.out) _ | refine Kept.setCell ?_ (.inr GW265.out) _) | exact HK.out)) hb)
                  have n8_ := Aside0.mk (below_step (by repeat (first | (with_reducible first | exact HB.out | apply below_alloc | apply pw_below_drewN | apply below_drew1 | refine below_set ?_ GE264.out | refine below_set ?_ GE265.out) | exact HB.out)) hb)
                  clear HO_12; clear HO_265000; clear HO_265001; clear HO_265002; clear BK264; clear BK265; clear HK; clear HB; have HO_12 := n0_; have HO_265000 := n1_; have HO_265001 := n2_; have HO_265002 := n3_; have HO289 := n4_; have BK264 := n5_; have BK265 := n6_; have HK := n7_; have HB := n8_; clear n0_ n1_ n2_ n3_ n4_ n5_ n6_ n7_ n8_; (try clear hb); (try clear hb2); (try clear hk); (try clear hi); (try clear ho0); obtain ⟨Ao87, co87, eo87⟩ := Kd.R_slice HO289.out
                  (first | subst eo87 | (injection eo87 with f1_ f2_ f3_; have f4_ := f1_.symm; have f5_ := f3_.symm; clear f1_ f2_ f3_; subst f4_; subst f5_))
                  refine hK.out _ _ ⟨(blk_cell BK264.out 0).trans rfl, (blk_cell BK264.out 1).trans rfl, (blk_cell BK264.out 2).trans rfl, (blk_cell BK264.out 3).trans rfl, (blk_cell BK264.out 4).trans rfl, HS5_⟩ (fun hHeld => ?_)
                  clear hK K
                  refine norm_ (a' := ?_) ?_ ?_
                  rotate_left
                  ·
                   show Act.put _ (some 125) _ = _
                   simp only [Act.put, List.setIfInBounds_toArray, List.set_cons_zero, List.set_cons_succ, i64_w, i32_w]
                   rfl
                  refine pure_ (i := 7) (N := some 126) (v := ?_) (a' := ?_) #[true, true, true, true, true, true, true, true, false] rfl rfl (any_of HT_.out (by kernel_rfl)) (fun _ _ _ h => h) (Or.inl ⟨by rfl, ?_⟩) ?_ ?_
                  rotate_left
                  ·
                   intro w'
                   go_simp
                   with_reducible rfl
                  rotate_left
                  ·
                   simp only [Act.put, List.setIfInBounds_toArray, List.set_cons_zero, List.set_cons_succ, i64_w, i32_w]
                   rfl
                  refine last_ (i := 8) (N := none) #[true, true, true, true, true, true, true, true, true] rfl rfl (one_of HT_.out (by kernel_rfl)) (by decide) (fun K hK => ?_)
                  have hs88 : w86.cell? ⟨gb264, 1, none⟩ = some (.slice Ao7 l0_1.length co7) := (blk_cell BK264.out 1).trans rfl; have hfs88 := blk_frozen BK264.out 1; have hns88_1 := NB265_264.out; have hms88_1 := NB264_265.out
                  refine skip_ (w1 := ?_) (by rfl) rfl ?_ ?_
                  rotate_left
                  ·
                   go_simp
                   rfl
                  refine hK.out _ _ ?_
                  clear hK K
                  refine done_ (done_of HT_.out (by kernel_rfl)) ?_
                  have hnb89 := NB264_265.out; have hnc89 := NB265_264.out; have hcz90_0 : w86.cell? ⟨gb264, 0, none⟩ = some (.slice Ao6 l0_0.length co6) := (blk_cell BK264.out 0).trans rfl; have hcz90_1 : w86.cell? ⟨gb264, 1, none⟩ = some (.slice Ao7 l0_1.length co7) := (blk_cell BK264.out 1).trans rfl; have hcz90_2 : w86.cell? ⟨gb264, 2, none⟩ = some (.slice A0_2 l0_2.length c0_2) := (blk_cell BK264.out 2).trans rfl; have hcz90_3 : w86.cell? ⟨gb264, 3, none⟩ = some (.int .i64 a0_3) := (blk_cell BK264.out 3).trans rfl; have hcz90_4 : w86.cell? ⟨gb264, 4, none⟩ = some (.int .i64 a0_4) := (blk_cell BK264.out 4).trans rfl; have hfz90_0 := blk_frozen BK264.out 0; have hfz90_1 := blk_frozen BK264.out 1; have hfz90_2 := blk_frozen BK264.out 2; have hfz90_3 := blk_frozen BK264.out 3; have hfz90_4 := blk_frozen BK264.out 4; have hcz91_0 : w86.cell? ⟨gb265, 0, none⟩ = some (.slice none 0 0) := (blk_cell BK265.out 0).trans rfl; have hcz91_1 : w86.cell? ⟨gb265, 1, none⟩ = some (.slice none 0 0) := (blk_cell BK265.out 1).trans rfl; have hcz91_2 : w86.cell? ⟨gb265, 2, none⟩ = some (.slice none 0 0) := (blk_cell BK265.out 2).trans rfl; have hcz91_3 : w86.cell? ⟨gb265, 3, none⟩ = some (.int .i64 x266003_4) := (blk_cell BK265.out 3).trans rfl; have hcz91_4 : w86.cell? ⟨gb265, 4, none⟩ = some (.int .i64 x266004_4) := (blk_cell BK265.out 4).trans rfl; have hfz91_0 := blk_frozen BK265.out 0; have hfz91_1 := blk_frozen BK265.out 1; have hfz91_2 := blk_frozen BK265.out 2; have hfz91_3 := blk_frozen BK265.out 3; have hfz91_4 := blk_frozen BK265.out 4
                  try go_wp2
                  refine bodyPost_ret (results_ct rfl _ _ gb265 25 #[.slice Ao6 l0_0.length co6, .slice Ao87 t287.length co87, .slice A0_2 l0_2.length c0_2, .int .i64 a0_3, .int .i64 a0_4] (0, 0) _ rfl (by refine blk_put (cs := #[.slice Ao6 l0_0.length co6, .slice Ao87 t287.length co87, .slice A0_2 l0_2.length c0_2, .int .i64 a0_3, .int .i64 x266004_4]) ?_ 4 _ rfl; refine blk_put (cs := #[.slice Ao6 l0_0.length co6, .slice Ao87 t287.length co87, .slice A0_2 l0_2.length c0_2, .int .i64 x266003_4, .int .i64 x266004_4]) ?_ 3 _ rfl; refine blk_put (cs := #[.slice Ao6 l0_0.length co6, .slice Ao87 t287.length co87, .slice none 0 0, .int .i64 x266003_4, .int .i64 x266004_4]) ?_ 2 _ rfl; refine blk_put (cs := #[.slice Ao6 l0_0.length co6, .slice none 0 0, .slice none 0 0, .int .i64 x266003_4, .int .i64 x266004_4]) ?_ 1 _ rfl; refine blk_put (cs := #[.slice none 0 0, .slice none 0 0, .slice none 0 0, .int .i64 x266003_4, .int .i64 x266004_4]) ?_ 0 _ rfl; refine blk_far ?_ NB265_264.out _; exact BK265.out) Tryz.underlying25 rfl (by kernel_rfl)) rfl ?_
                  exact ⟨_, _, _, by first | rfl | (simp [errW_none, errW_some] <;> rfl) | (simp only [← hji20]; first | rfl | (simp [errW_none, errW_some] <;> rfl)) | (simp [*, errW_none, errW_some] <;> rfl), by exact Kd.R_mono (Kd.R_far (p := ⟨gb265, 4, none⟩) (Kd.R_far (p := ⟨gb265, 3, none⟩) (Kd.R_far (p := ⟨gb265, 2, none⟩) (Kd.R_far (p := ⟨gb265, 1, none⟩) (Kd.R_far (p := ⟨gb265, 0, none⟩) (Kd.R_far (p := ⟨gb264, 1, none⟩) (Kd.R_types (Kd.R_types HO_265000.out BK264.out (by decide)) BK265.out (by decide)) (fun _ hk => hk.1.2) (.slice Ao87 t287.length co87)) (fun _ hk => hk.2) (.slice Ao6 l0_0.length co6)) (fun _ hk => hk.2) (.slice Ao87 t287.length co87)) (fun _ hk => hk.2) (.slice A0_2 l0_2.length c0_2)) (fun _ hk => hk.2) (.int .i64 a0_3)) (fun _ hk => hk.2) (.int .i64 a0_4)) (fun _ hk => ⟨hk.1.1.1.1, hk.1.1.2⟩), by exact Kd.R_mono (Kd.R_far (p := ⟨gb265, 4, none⟩) (Kd.R_far (p := ⟨gb265, 3, none⟩) (Kd.R_far (p := ⟨gb265, 2, none⟩) (Kd.R_far (p := ⟨gb265, 1, none⟩) (Kd.R_far (p := ⟨gb265, 0, none⟩) (Kd.R_far (p := ⟨gb264, 1, none⟩) (Kd.R_types (Kd.R_types HO289.out BK264.out (by decide)) BK265.out (by decide)) (fun _ hk => hk.1.2) (.slice Ao87 t287.length co87)) (fun _ hk => hk.2) (.slice Ao6 l0_0.length co6)) (fun _ hk => hk.2) (.slice Ao87 t287.length co87)) (fun _ hk => hk.2) (.slice A0_2 l0_2.length c0_2)) (fun _ hk => hk.2) (.int .i64 a0_3)) (fun _ hk => hk.2) (.int .i64 a0_4)) (fun _ hk => ⟨hk.1.1.1.1.1.1, hk.1.1.1.2⟩), by exact Kd.V_mono (Kd.V_far (p := ⟨gb265, 4, none⟩) (Kd.V_far (p := ⟨gb265, 3, none⟩) (Kd.V_far (p := ⟨gb265, 2, none⟩) (Kd.V_far (p := ⟨gb265, 1, none⟩) (Kd.V_far (p := ⟨gb265, 0, none⟩) (Kd.V_far (p := ⟨gb264, 1, none⟩) (Kd.V_mono (Kd.V_mono HO_265002.out (fun k_ hk => (⟨hk, hk.1.2.2.2.2.1⟩ : _ ∧ k_ ≠ gb264))) (fun k_ hk => (⟨hk, hk.1.1.2.2.2.2.2⟩ : _ ∧ k_ ≠ gb265))) (fun _ hk => hk.1.2) (.slice Ao87 t287.length co87)) (fun _ hk => hk.2) (.slice Ao6 l0_0.length co6)) (fun _ hk => hk.2) (.slice Ao87 t287.length co87)) (fun _ hk => hk.2) (.slice A0_2 l0_2.length c0_2)) (fun _ hk => hk.2) (.int .i64 a0_3)) (fun _ hk => hk.2) (.int .i64 a0_4)) (fun _ hk => ⟨hk.1.1.1.1, ⟨hk.1.1.1.2.2.1, hk.1.1.2⟩⟩), by repeat (first | (with_reducible first | exact HB.out | apply below_alloc | apply pw_below_drewN | apply below_drew1 | refine below_set ?_ GE264.out | refine below_set ?_ GE265.out) | exact HB.out), by repeat (first | (with_reducible first | exact HK.out | apply Kept.alloc | apply Kept.drewN | apply Kept.drew | refine Kept.setCell ?_ (.inr GW264.out) _ | refine Kept.setCell ?_ (.inr GW265.out) _) | exact HK.out)⟩
                 rw [if_pos c70] at H
                 have c70b0 : ((rdOf ByteArray.empty l1 0).toList == ([105, 110, 115, 101, 114, 116] : List UInt8)) = true := beq_iff_eq.mpr c70; have c70b1 : ((rdOf ByteArray.empty l1 0).toList != ([105, 110, 115, 101, 114, 116] : List UInt8)) = false := bne_eq_false_iff_eq.mpr c70; clear c70
                 by_cases c71 : 0 < (x12_4.length : Int)
                 rotate_left
                 ·
                  rw [if_neg c71] at H
                  exact absurd H (by simp)
                 rw [if_pos c71] at H
                 have c71b0 : decide (0 < (x12_4.length : Int)) = true := decide_eq_true c71; have c71b1 : decide (0 < x12_4.length) = true := decide_eq_true (by omega)
                 clear c71; replace H := Option.bind_eq_some_iff.mp H; obtain ⟨t283, A720, H⟩ := H; replace H : (some (t283, l0_1, l0_2, a0_3, a0_4, 0)) = some (r1, r2, r3, r4, r5, r6) := H; have A72 := Aside0.mk A720; clear A720
                 simp only [Option.some.injEq, Prod.mk.injEq] at H
                 obtain ⟨rfl, rfl, rfl, rfl, rfl, rfl⟩ := H; have p281 : 0 ≤ (0 : Int) := (by omega)
                 have q281 : 0 < (l1.length : Int) := of_decide_eq_true (by first | (with_reducible assumption) | assumption)
                 obtain ⟨ad281, e281, hx281_0⟩ := Kd.at_string (Kd.C_kept_now HR1.out HK.out) 0 p281 q281; obtain rfl : ad266 = ad281 := (by injection e281)
                 have qi281 : (0 < l1.length) = True := eq_true (by omega)
                 (try rw [show ((0 : Int)).toNat = 0 from rfl] at hx281_0)
                 (try rw [Addr.add_zero'] at hx281_0)
                 replace p281 := eq_true p281; replace q281 := eq_true q281
                 try go_wp2
                 have n0_ := Aside0.mk (Kd.R_drew HO_12.out); have n1_ := Aside0.mk (Kd.R_drew HO_265000.out); have n2_ := Aside0.mk (Kd.R_drew HO_265001.out); have n3_ := Aside0.mk (Kd.V_drew HO_265002.out); have n4_ := Aside0.mk (blk_drew BK264.out); have n5_ := Aside0.mk (blk_drew BK265.out); have n6_ := Aside0.mk (Kept.drew HK.out); have n7_ := Aside0.mk (below_drew1 HB.out); clear HO_12; clear HO_265000; clear HO_265001; clear HO_265002; clear BK264; clear BK265; clear HK; clear HB; have HO_12 := n0_; have HO_265000 := n1_; have HO_265001 := n2_; have HO_265002 := n3_; have BK264 := n4_; have BK265 := n5_; have HK := n6_; have HB := n7_; clear n0_ n1_ n2_ n3_ n4_ n5_ n6_ n7_; obtain ⟨Ao74, co74, eo74⟩ := Kd.R_slice HO_12.out
                 (first | subst eo74 | (injection eo74 with f1_ f2_ f3_; have f4_ := f1_.symm; have f5_ := f3_.symm; clear f1_ f2_ f3_; subst f4_; subst f5_))
                 have p282 : 0 ≤ (0 : Int) := (by omega)
                 have q282 : 0 < (x12_4.length : Int) := of_decide_eq_true (by first | (with_reducible assumption) | assumption)
                 obtain ⟨ad282, e282, hx282_0⟩ := Kd.at_int (Kd.R_reads' HO_12.out).2.2 0 p282 q282
                 cases e282
                 have qi282 : (0 < x12_4.length) = True := eq_true (by omega)
                 (try rw [show ((0 : Int)).toNat = 0 from rfl] at hx282_0)
                 (try rw [Addr.add_zero'] at hx282_0)
                 replace p282 := eq_true p282; replace q282 := eq_true q282
                 refine start_ (n := 9) (S := fun w' => w'.cell? ⟨gb264, 0, none⟩ = some (.slice Ao6 l0_0.length co6) ∧ w'.cell? ⟨gb264, 1, none⟩ = some (.slice Ao7 l0_1.length co7) ∧ w'.cell? ⟨gb264, 2, none⟩ = some (.slice A0_2 l0_2.length c0_2) ∧ w'.cell? ⟨gb264, 3, none⟩ = some (.int .i64 a0_3) ∧ w'.cell? ⟨gb264, 4, none⟩ = some (.int .i64 a0_4) ∧ w'.cell? ad282 = some (.int .i64 (rd x12_4 0))) (ds := [8]) #[false, false, false, false, false, false, false, false, false] (by kernel_rfl) rfl rfl ⟨(blk_cell BK264.out 0).trans rfl, (blk_cell BK264.out 1).trans rfl, (blk_cell BK264.out 2).trans rfl, (blk_cell BK264.out 3).trans rfl, (blk_cell BK264.out 4).trans rfl, hx282_0⟩ (fun hHeld => ?_); refine with_tabW emendateref34_line.tab32 emendateref34_line.bits32 (fun HT_ HW_ => ?_)
                 generalize wc.drew = w73 at HO_12 HO_265000 HO_265001 HO_265002 BK264 BK265 HK HB hx282_0 hHeld ⊢
                 refine pure_ (i := 0) (N := some 109) (v := ?_) (a' := ?_) #[true, false, false, false, false, false, false, false, false] rfl rfl (any_of HT_.out (by kernel_rfl)) (fun _ _ _ h => h) (Or.inl ⟨by rfl, ?_⟩) ?_ ?_
                 rotate_left
                 ·
                  intro w'
                  go_simp
                  with_reducible rfl
                 rotate_left
                 ·
                  simp only [Act.put, List.setIfInBounds_toArray, List.set_cons_zero, List.set_cons_succ, i64_w, i32_w]
                  rfl
                 refine pure_ (i := 2) (N := some 111) (v := ?_) (a' := ?_) #[true, false, true, false, false, false, false, false, false] rfl rfl (any_of HT_.out (by kernel_rfl)) (fun _ _ _ h => h) (Or.inl ⟨by rfl, ?_⟩) ?_ ?_
                 rotate_left
                 ·
                  intro w'
                  go_simp
                  with_reducible rfl
                 rotate_left
                 ·
                  simp only [Act.put, List.setIfInBounds_toArray, List.set_cons_zero, List.set_cons_succ, i64_w, i32_w]
                  rfl
                 refine pure_ (i := 3) (N := some 112) (v := ?_) (a' := ?_) #[true, false, true, true, false, false, false, false, false] rfl rfl (any_of HT_.out (by kernel_rfl)) (fun _ _ _ h => h) (Or.inl ⟨by rfl, ?_⟩) ?_ ?_
                 rotate_left
                 ·
                  intro w'
                  go_simp
                  with_reducible rfl
                 rotate_left
                 ·
                  simp only [Act.put, List.setIfInBounds_toArray, List.set_cons_zero, List.set_cons_succ, i64_w, i32_w]
                  rfl
                 refine pure_ (i := 5) (N := some 114) (v := ?_) (a' := ?_) #[true, false, true, true, false, true, false, false, false] rfl rfl (any_of HT_.out (by kernel_rfl)) (fun _ _ _ h => h) (Or.inl ⟨by rfl, ?_⟩) ?_ ?_
                 rotate_left
                 ·
                  intro w'
                  go_simp
                  with_reducible rfl
                 rotate_left
                 ·
                  simp only [Act.put, List.setIfInBounds_toArray, List.set_cons_zero, List.set_cons_succ, i64_w, i32_w]
                  rfl
                 refine take_ (i := 1) (N := some 110) (v := ?_) (a' := ?_) #[true, true, true, true, false, true, false, false, false] rfl rfl (take_ofW HT_.out HW_.out (by kernel_rfl)) (fun _ _ _ h => h) (Or.inl ⟨by rfl, ?_⟩) hHeld ?_ ?_
                 rotate_left
                 ·
                  rintro w' ⟨s0, s1, s2, s3, s4, s5⟩
                  go_simp
                  with_reducible rfl
                 rotate_left
                 ·
                  simp only [Act.put, List.setIfInBounds_toArray, List.set_cons_zero, List.set_cons_succ, i64_w, i32_w]
                  rfl
                 refine take_ (i := 4) (N := some 113) (v := ?_) (a' := ?_) #[true, true, true, true, true, true, false, false, false] rfl rfl (take_ofW HT_.out HW_.out (by kernel_rfl)) (fun _ _ _ h => h) (Or.inl ⟨by rfl, ?_⟩) hHeld ?_ ?_
                 rotate_left
                 ·
                  rintro w' ⟨s0, s1, s2, s3, s4, s5⟩
                  go_simp
                  with_reducible rfl
                 rotate_left
                 ·
                  simp only [Act.put, List.setIfInBounds_toArray, List.set_cons_zero, List.set_cons_succ, i64_w, i32_w]
                  rfl
                 refine one_ (i := 6) (N := some 115) #[true, true, true, true, true, true, true, false, false] rfl rfl (one_of HT_.out (by kernel_rfl)) (by decide) (fun K hK => ?_)
                 refine goes_ Tryz.func51 (by kernel_rfl) rfl #[.slice Ao6 l0_0.length co6, .int .i64 (rd x12_4 0), .int .i64 t268] (by rfl) rfl rfl (by (try simp only [List.map_toArray, List.map_cons, List.map_nil]); first | done | rfl | (simp only [List.length_drop, List.length_take]; rfl)) ?_
                 with_reducible refine (emendateref34_with.calls _ _ l0_0 (rd x12_4 0) t268 t283 _ ?side1 ?side2 A72.out).mono ?_
                 (case side1 => repeat (first | exact (Kd.R_reads' HO_265000.out).2.2 | (with_reducible refine Kd.C_alloc ?_ _) | (with_reducible refine Kd.C_drewN ?_ _) | (with_reducible refine Kd.C_drew ?_)))
                 (case side2 => exact (Kd.R_reads' HO_265000.out).2.1)
                 rintro e w75 ⟨v284, rfl, ho0, hb⟩; have HS5_ := (hb.cell (World.block_lt_of_cell? _ _ (hHeld.2.2.2.2.2))).trans (hHeld.2.2.2.2.2)
                 refine ⟨_, rfl, ?_⟩
                 have n0_ := Aside0.mk (Kd.R_elder' (by exact HO_12.out) (Kd.R_base ho0) hb)
                 have n1_ := Aside0.mk (Kd.R_elder' (by exact HO_265000.out) (Kd.R_base ho0) hb)
                 have n2_ := Aside0.mk (Kd.R_elder' (by exact HO_265001.out) (Kd.R_base ho0) hb)
                 have n3_ := Aside0.mk (Kd.V_elder' (by exact HO_265002.out) (Kd.R_base ho0) hb)
                 have n4_ := Aside0.mk (Kd.R_lower (Kd.R_new' (Kd.R_new' (Kd.R_new' (Kd.R_newM (M := fun k_ => ((P0_0_ k_ ∨ P0_1_ k_) ∨ w.heap.size ≤ k_)) ho0 (by first | exact HK.out.1 | exact (show Kept w _ (fun k_ => P0_0_ k_ ∨ P0_1_ k_) from by repeat (first | (with_reducible first | exact HK.out | apply Kept.alloc | apply Kept.drewN | apply Kept.drew | refine Kept.setCell ?_ (.inr GW264.out) _ | refine Kept.setCell ?_ (.inr GW265.out) _) | exact HK.out)).1) (fun k_ h_ => .inr h_)) (Kd.R_lt (by exact HO_12.out))) (Kd.R_lt (by exact HO_265000.out))) (Kd.R_lt (by exact HO_265001.out))) (below_size (by repeat (first | (with_reducible first | exact HB.out | apply below_alloc | apply pw_below_drewN | apply below_drew1 | refine below_set ?_ GE264.out | refine below_set ?_ GE265.out) | exact HB.out))))
                 have n5_ := Aside0.mk (blk_below (g := gb264) (o := .cells #[.slice Ao6 l0_0.length co6, .slice Ao7 l0_1.length co7, .slice A0_2 l0_2.length c0_2, .int .i64 a0_3, .int .i64 a0_4] 25 (0, 0)) (by exact BK264.out) hb)
                 have n6_ := Aside0.mk (blk_below (g := gb265) (o := .cells #[.slice none 0 0, .slice none 0 0, .slice none 0 0, .int .i64 x266003_4, .int .i64 x266004_4] 25 (0, 0)) (by exact BK265.out) hb)
                 have n7_ := Aside0.mk (Kept.below (S := (fun k_ => P0_0_ k_ ∨ P0_1_ k_)) (by repeat (first | (with_reducible first | exact HK.out | apply Kept.alloc | apply Kept.drewN | apply Kept.drew | refine Kept.setCell ?_ (.inr GW264.out) _ | refine Kept.setCell ?_ (.inr GW265.out) _) | exact HK.out)) hb)
                 have n8_ := Aside0.mk (below_step (by repeat (first | (with_reducible first | exact HB.out | apply below_alloc | apply pw_below_drewN | apply below_drew1 | refine below_set ?_ GE264.out | refine below_set ?_ GE265.out) | exact HB.out)) hb)
                 clear HO_12; clear HO_265000; clear HO_265001; clear HO_265002; clear BK264; clear BK265; clear HK; clear HB; have HO_12 := n0_; have HO_265000 := n1_; have HO_265001 := n2_; have HO_265002 := n3_; have HO285 := n4_; have BK264 := n5_; have BK265 := n6_; have HK := n7_; have HB := n8_; clear n0_ n1_ n2_ n3_ n4_ n5_ n6_ n7_ n8_; (try clear hb); (try clear hb2); (try clear hk); (try clear hi); (try clear ho0); obtain ⟨Ao76, co76, eo76⟩ := Kd.R_slice HO285.out
                 (first | subst eo76 | (injection eo76 with f1_ f2_ f3_; have f4_ := f1_.symm; have f5_ := f3_.symm; clear f1_ f2_ f3_; subst f4_; subst f5_))
                 refine hK.out _ _ ⟨(blk_cell BK264.out 0).trans rfl, (blk_cell BK264.out 1).trans rfl, (blk_cell BK264.out 2).trans rfl, (blk_cell BK264.out 3).trans rfl, (blk_cell BK264.out 4).trans rfl, HS5_⟩ (fun hHeld => ?_)
                 clear hK K
                 refine norm_ (a' := ?_) ?_ ?_
                 rotate_left
                 ·
                  show Act.put _ (some 115) _ = _
                  simp only [Act.put, List.setIfInBounds_toArray, List.set_cons_zero, List.set_cons_succ, i64_w, i32_w]
                  rfl
                 refine pure_ (i := 7) (N := some 116) (v := ?_) (a' := ?_) #[true, true, true, true, true, true, true, true, false] rfl rfl (any_of HT_.out (by kernel_rfl)) (fun _ _ _ h => h) (Or.inl ⟨by rfl, ?_⟩) ?_ ?_
                 rotate_left
                 ·
                  intro w'
                  go_simp
                  with_reducible rfl
                 rotate_left
                 ·
                  simp only [Act.put, List.setIfInBounds_toArray, List.set_cons_zero, List.set_cons_succ, i64_w, i32_w]
                  rfl
                 refine last_ (i := 8) (N := none) #[true, true, true, true, true, true, true, true, true] rfl rfl (one_of HT_.out (by kernel_rfl)) (by decide) (fun K hK => ?_)
                 have hs77 : w75.cell? ⟨gb264, 0, none⟩ = some (.slice Ao6 l0_0.length co6) := (blk_cell BK264.out 0).trans rfl; have hfs77 := blk_frozen BK264.out 0; have hns77_1 := NB265_264.out; have hms77_1 := NB264_265.out
                 refine skip_ (w1 := ?_) (by rfl) rfl ?_ ?_
                 rotate_left
                 ·
                  go_simp
                  rfl
                 refine hK.out _ _ ?_
                 clear hK K
                 refine done_ (done_of HT_.out (by kernel_rfl)) ?_
                 have hnb78 := NB264_265.out; have hnc78 := NB265_264.out; have hcz79_0 : w75.cell? ⟨gb264, 0, none⟩ = some (.slice Ao6 l0_0.length co6) := (blk_cell BK264.out 0).trans rfl; have hcz79_1 : w75.cell? ⟨gb264, 1, none⟩ = some (.slice Ao7 l0_1.length co7) := (blk_cell BK264.out 1).trans rfl; have hcz79_2 : w75.cell? ⟨gb264, 2, none⟩ = some (.slice A0_2 l0_2.length c0_2) := (blk_cell BK264.out 2).trans rfl; have hcz79_3 : w75.cell? ⟨gb264, 3, none⟩ = some (.int .i64 a0_3) := (blk_cell BK264.out 3).trans rfl; have hcz79_4 : w75.cell? ⟨gb264, 4, none⟩ = some (.int .i64 a0_4) := (blk_cell BK264.out 4).trans rfl; have hfz79_0 := blk_frozen BK264.out 0; have hfz79_1 := blk_frozen BK264.out 1; have hfz79_2 := blk_frozen BK264.out 2; have hfz79_3 := blk_frozen BK264.out 3; have hfz79_4 := blk_frozen BK264.out 4; have hcz80_0 : w75.cell? ⟨gb265, 0, none⟩ = some (.slice none 0 0) := (blk_cell BK265.out 0).trans rfl; have hcz80_1 : w75.cell? ⟨gb265, 1, none⟩ = some (.slice none 0 0) := (blk_cell BK265.out 1).trans rfl; have hcz80_2 : w75.cell? ⟨gb265, 2, none⟩ = some (.slice none 0 0) := (blk_cell BK265.out 2).trans rfl; have hcz80_3 : w75.cell? ⟨gb265, 3, none⟩ = some (.int .i64 x266003_4) := (blk_cell BK265.out 3).trans rfl; have hcz80_4 : w75.cell? ⟨gb265, 4, none⟩ = some (.int .i64 x266004_4) := (blk_cell BK265.out 4).trans rfl; have hfz80_0 := blk_frozen BK265.out 0; have hfz80_1 := blk_frozen BK265.out 1; have hfz80_2 := blk_frozen BK265.out 2; have hfz80_3 := blk_frozen BK265.out 3; have hfz80_4 := blk_frozen BK265.out 4
                 try go_wp2
                 refine bodyPost_ret (results_ct rfl _ _ gb265 25 #[.slice Ao76 t283.length co76, .slice Ao7 l0_1.length co7, .slice A0_2 l0_2.length c0_2, .int .i64 a0_3, .int .i64 a0_4] (0, 0) _ rfl (by refine blk_put (cs := #[.slice Ao76 t283.length co76, .slice Ao7 l0_1.length co7, .slice A0_2 l0_2.length c0_2, .int .i64 a0_3, .int .i64 x266004_4]) ?_ 4 _ rfl; refine blk_put (cs := #[.slice Ao76 t283.length co76, .slice Ao7 l0_1.length co7, .slice A0_2 l0_2.length c0_2, .int .i64 x266003_4, .int .i64 x266004_4]) ?_ 3 _ rfl; refine blk_put (cs := #[.slice Ao76 t283.length co76, .slice Ao7 l0_1.length co7, .slice none 0 0, .int .i64 x266003_4, .int .i64 x266004_4]) ?_ 2 _ rfl; refine blk_put (cs := #[.slice Ao76 t283.length co76, .slice none 0 0, .slice none 0 0, .int .i64 x266003_4, .int .i64 x266004_4]) ?_ 1 _ rfl; refine blk_put (cs := #[.slice none 0 0, .slice none 0 0, .slice none 0 0, .int .i64 x266003_4, .int .i64 x266004_4]) ?_ 0 _ rfl; refine blk_far ?_ NB265_264.out _; exact BK265.out) Tryz.underlying25 rfl (by kernel_rfl)) rfl ?_
                 exact ⟨_, _, _, by first | rfl | (simp [errW_none, errW_some] <;> rfl) | (simp only [← hji20]; first | rfl | (simp [errW_none, errW_some] <;> rfl)) | (simp [*, errW_none, errW_some] <;> rfl), by exact Kd.R_mono (Kd.R_far (p := ⟨gb265, 4, none⟩) (Kd.R_far (p := ⟨gb265, 3, none⟩) (Kd.R_far (p := ⟨gb265, 2, none⟩) (Kd.R_far (p := ⟨gb265, 1, none⟩) (Kd.R_far (p := ⟨gb265, 0, none⟩) (Kd.R_far (p := ⟨gb264, 0, none⟩) (Kd.R_types (Kd.R_types HO285.out BK264.out (by decide)) BK265.out (by decide)) (fun _ hk => hk.1.2) (.slice Ao76 t283.length co76)) (fun _ hk => hk.2) (.slice Ao76 t283.length co76)) (fun _ hk => hk.2) (.slice Ao7 l0_1.length co7)) (fun _ hk => hk.2) (.slice A0_2 l0_2.length c0_2)) (fun _ hk => hk.2) (.int .i64 a0_3)) (fun _ hk => hk.2) (.int .i64 a0_4)) (fun _ hk => ⟨hk.1.1.1.1.1.1, hk.1.1.2⟩), by exact Kd.R_mono (Kd.R_far (p := ⟨gb265, 4, none⟩) (Kd.R_far (p := ⟨gb265, 3, none⟩) (Kd.R_far (p := ⟨gb265, 2, none⟩) (Kd.R_far (p := ⟨gb265, 1, none⟩) (Kd.R_far (p := ⟨gb265, 0, none⟩) (Kd.R_far (p := ⟨gb264, 0, none⟩) (Kd.R_types (Kd.R_types HO_265001.out BK264.out (by decide)) BK265.out (by decide)) (fun _ hk => hk.1.2) (.slice Ao76 t283.length co76)) (fun _ hk => hk.2) (.slice Ao76 t283.length co76)) (fun _ hk => hk.2) (.slice Ao7 l0_1.length co7)) (fun _ hk => hk.2) (.slice A0_2 l0_2.length c0_2)) (fun _ hk => hk.2) (.int .i64 a0_3)) (fun _ hk => hk.2) (.int .i64 a0_4)) (fun _ hk => ⟨hk.1.1.1.1, hk.1.1.2⟩), by exact Kd.V_mono (Kd.V_far (p := ⟨gb265, 4, none⟩) (Kd.V_far (p := ⟨gb265, 3, none⟩) (Kd.V_far (p := ⟨gb265, 2, none⟩) (Kd.V_far (p := ⟨gb265, 1, none⟩) (Kd.V_far (p := ⟨gb265, 0, none⟩) (Kd.V_far (p := ⟨gb264, 0, none⟩) (Kd.V_mono (Kd.V_mono HO_265002.out (fun k_ hk => (⟨hk, hk.1.2.2.2.2.1⟩ : _ ∧ k_ ≠ gb264))) (fun k_ hk => (⟨hk, hk.1.1.2.2.2.2.2⟩ : _ ∧ k_ ≠ gb265))) (fun _ hk => hk.1.2) (.slice Ao76 t283.length co76)) (fun _ hk => hk.2) (.slice Ao76 t283.length co76)) (fun _ hk => hk.2) (.slice Ao7 l0_1.length co7)) (fun _ hk => hk.2) (.slice A0_2 l0_2.length c0_2)) (fun _ hk => hk.2) (.int .i64 a0_3)) (fun _ hk => hk.2) (.int .i64 a0_4)) (fun _ hk => ⟨hk.1.1.1.1, ⟨hk.1.1.2, hk.1.1.1.2.2.2.1⟩⟩), by repeat (first | (with_reducible first | exact HB.out | apply below_alloc | apply pw_below_drewN | apply below_drew1 | refine below_set ?_ GE264.out | refine below_set ?_ GE265.out) | exact HB.out), by repeat (first | (with_reducible first | exact HK.out | apply Kept.alloc | apply Kept.drewN | apply Kept.drew | refine Kept.setCell ?_ (.inr GW264.out) _ | refine Kept.setCell ?_ (.inr GW265.out) _) | exact HK.out)⟩
                subst c65; have H1 : (some (l0_0, l0_1, l0_2, a0_3, a0_4, 2)) = some (r1, r2, r3, r4, r5, r6) := by rw [if_pos rfl] at H; exact H
                clear H; have H := H1; clear H1
                simp only [Option.some.injEq, Prod.mk.injEq] at H
                obtain ⟨rfl, rfl, rfl, rfl, rfl, rfl⟩ := H; have hnb66 := NB264_265.out; have hnc66 := NB265_264.out; have hcz67_0 : wc.cell? ⟨gb264, 0, none⟩ = some (.slice Ao6 l0_0.length co6) := (blk_cell BK264.out 0).trans rfl; have hcz67_1 : wc.cell? ⟨gb264, 1, none⟩ = some (.slice Ao7 l0_1.length co7) := (blk_cell BK264.out 1).trans rfl; have hcz67_2 : wc.cell? ⟨gb264, 2, none⟩ = some (.slice A0_2 l0_2.length c0_2) := (blk_cell BK264.out 2).trans rfl; have hcz67_3 : wc.cell? ⟨gb264, 3, none⟩ = some (.int .i64 a0_3) := (blk_cell BK264.out 3).trans rfl; have hcz67_4 : wc.cell? ⟨gb264, 4, none⟩ = some (.int .i64 a0_4) := (blk_cell BK264.out 4).trans rfl; have hfz67_0 := blk_frozen BK264.out 0; have hfz67_1 := blk_frozen BK264.out 1; have hfz67_2 := blk_frozen BK264.out 2; have hfz67_3 := blk_frozen BK264.out 3; have hfz67_4 := blk_frozen BK264.out 4; have hcz68_0 : wc.cell? ⟨gb265, 0, none⟩ = some (.slice none 0 0) := (blk_cell BK265.out 0).trans rfl; have hcz68_1 : wc.cell? ⟨gb265, 1, none⟩ = some (.slice none 0 0) := (blk_cell BK265.out 1).trans rfl; have hcz68_2 : wc.cell? ⟨gb265, 2, none⟩ = some (.slice none 0 0) := (blk_cell BK265.out 2).trans rfl; have hcz68_3 : wc.cell? ⟨gb265, 3, none⟩ = some (.int .i64 x266003_4) := (blk_cell BK265.out 3).trans rfl; have hcz68_4 : wc.cell? ⟨gb265, 4, none⟩ = some (.int .i64 x266004_4) := (blk_cell BK265.out 4).trans rfl; have hfz68_0 := blk_frozen BK265.out 0; have hfz68_1 := blk_frozen BK265.out 1; have hfz68_2 := blk_frozen BK265.out 2; have hfz68_3 := blk_frozen BK265.out 3; have hfz68_4 := blk_frozen BK265.out 4
                go_wp2
                refine bodyPost_ret (results_ct rfl _ _ gb265 25 #[.slice Ao6 l0_0.length co6, .slice Ao7 l0_1.length co7, .slice A0_2 l0_2.length c0_2, .int .i64 a0_3, .int .i64 a0_4] (0, 0) _ rfl (by refine blk_put (cs := #[.slice Ao6 l0_0.length co6, .slice Ao7 l0_1.length co7, .slice A0_2 l0_2.length c0_2, .int .i64 a0_3, .int .i64 x266004_4]) ?_ 4 _ rfl; refine blk_put (cs := #[.slice Ao6 l0_0.length co6, .slice Ao7 l0_1.length co7, .slice A0_2 l0_2.length c0_2, .int .i64 x266003_4, .int .i64 x266004_4]) ?_ 3 _ rfl; refine blk_put (cs := #[.slice Ao6 l0_0.length co6, .slice Ao7 l0_1.length co7, .slice none 0 0, .int .i64 x266003_4, .int .i64 x266004_4]) ?_ 2 _ rfl; refine blk_put (cs := #[.slice Ao6 l0_0.length co6, .slice none 0 0, .slice none 0 0, .int .i64 x266003_4, .int .i64 x266004_4]) ?_ 1 _ rfl; refine blk_put (cs := #[.slice none 0 0, .slice none 0 0, .slice none 0 0, .int .i64 x266003_4, .int .i64 x266004_4]) ?_ 0 _ rfl; exact BK265.out) Tryz.underlying25 rfl (by kernel_rfl)) rfl ?_
                exact ⟨_, _, _, by first | rfl | (simp [errW_none, errW_some] <;> rfl) | (simp only [← hji20]; first | rfl | (simp [errW_none, errW_some] <;> rfl)) | (simp [*, errW_none, errW_some] <;> rfl), by exact Kd.R_mono (Kd.R_far (p := ⟨gb265, 4, none⟩) (Kd.R_far (p := ⟨gb265, 3, none⟩) (Kd.R_far (p := ⟨gb265, 2, none⟩) (Kd.R_far (p := ⟨gb265, 1, none⟩) (Kd.R_far (p := ⟨gb265, 0, none⟩) (Kd.R_types HO_265000.out BK265.out (by decide)) (fun _ hk => hk.2) (.slice Ao6 l0_0.length co6)) (fun _ hk => hk.2) (.slice Ao7 l0_1.length co7)) (fun _ hk => hk.2) (.slice A0_2 l0_2.length c0_2)) (fun _ hk => hk.2) (.int .i64 a0_3)) (fun _ hk => hk.2) (.int .i64 a0_4)) (fun _ hk => ⟨hk.1.1, hk.1.2.2⟩), by exact Kd.R_mono (Kd.R_far (p := ⟨gb265, 4, none⟩) (Kd.R_far (p := ⟨gb265, 3, none⟩) (Kd.R_far (p := ⟨gb265, 2, none⟩) (Kd.R_far (p := ⟨gb265, 1, none⟩) (Kd.R_far (p := ⟨gb265, 0, none⟩) (Kd.R_types HO_265001.out BK265.out (by decide)) (fun _ hk => hk.2) (.slice Ao6 l0_0.length co6)) (fun _ hk => hk.2) (.slice Ao7 l0_1.length co7)) (fun _ hk => hk.2) (.slice A0_2 l0_2.length c0_2)) (fun _ hk => hk.2) (.int .i64 a0_3)) (fun _ hk => hk.2) (.int .i64 a0_4)) (fun _ hk => ⟨hk.1.1, hk.1.2.2⟩), by exact Kd.V_mono (Kd.V_far (p := ⟨gb265, 4, none⟩) (Kd.V_far (p := ⟨gb265, 3, none⟩) (Kd.V_far (p := ⟨gb265, 2, none⟩) (Kd.V_far (p := ⟨gb265, 1, none⟩) (Kd.V_far (p := ⟨gb265, 0, none⟩) (Kd.V_mono HO_265002.out (fun k_ hk => (⟨hk, hk.2.2.2.2.2⟩ : _ ∧ k_ ≠ gb265))) (fun _ hk => hk.2) (.slice Ao6 l0_0.length co6)) (fun _ hk => hk.2) (.slice Ao7 l0_1.length co7)) (fun _ hk => hk.2) (.slice A0_2 l0_2.length c0_2)) (fun _ hk => hk.2) (.int .i64 a0_3)) (fun _ hk => hk.2) (.int .i64 a0_4)) (fun _ hk => ⟨hk.1.1, ⟨hk.1.2.2.1, hk.1.2.2.2.1⟩⟩), by repeat (first | (with_reducible first | exact HB.out | apply below_alloc | apply pw_below_drewN | apply below_drew1 | refine below_set ?_ GE264.out | refine below_set ?_ GE265.out) | exact HB.out), by repeat (first | (with_reducible first | exact HK.out | apply Kept.alloc | apply Kept.drewN | apply Kept.drew | refine Kept.setCell ?_ (.inr GW264.out) _ | refine Kept.setCell ?_ (.inr GW265.out) _) | exact HK.out)⟩
             subst c58; have H1 : (some (l0_0, l0_1, l0_2, a0_3, a0_4, 1)) = some (r1, r2, r3, r4, r5, r6) := by rw [if_pos rfl] at H; exact H
             clear H; have H := H1; clear H1
             simp only [Option.some.injEq, Prod.mk.injEq] at H
             obtain ⟨rfl, rfl, rfl, rfl, rfl, rfl⟩ := H; have hnb59 := NB264_265.out; have hnc59 := NB265_264.out; have hcz60_0 : wc.cell? ⟨gb264, 0, none⟩ = some (.slice Ao6 l0_0.length co6) := (blk_cell BK264.out 0).trans rfl; have hcz60_1 : wc.cell? ⟨gb264, 1, none⟩ = some (.slice Ao7 l0_1.length co7) := (blk_cell BK264.out 1).trans rfl; have hcz60_2 : wc.cell? ⟨gb264, 2, none⟩ = some (.slice A0_2 l0_2.length c0_2) := (blk_cell BK264.out 2).trans rfl; have hcz60_3 : wc.cell? ⟨gb264, 3, none⟩ = some (.int .i64 a0_3) := (blk_cell BK264.out 3).trans rfl; have hcz60_4 : wc.cell? ⟨gb264, 4, none⟩ = some (.int .i64 a0_4) := (blk_cell BK264.out 4).trans rfl; have hfz60_0 := blk_frozen BK264.out 0; have hfz60_1 := blk_frozen BK264.out 1; have hfz60_2 := blk_frozen BK264.out 2; have hfz60_3 := blk_frozen BK264.out 3; have hfz60_4 := blk_frozen BK264.out 4; have hcz61_0 : wc.cell? ⟨gb265, 0, none⟩ = some (.slice none 0 0) := (blk_cell BK265.out 0).trans rfl; have hcz61_1 : wc.cell? ⟨gb265, 1, none⟩ = some (.slice none 0 0) := (blk_cell BK265.out 1).trans rfl; have hcz61_2 : wc.cell? ⟨gb265, 2, none⟩ = some (.slice none 0 0) := (blk_cell BK265.out 2).trans rfl; have hcz61_3 : wc.cell? ⟨gb265, 3, none⟩ = some (.int .i64 x266003_4) := (blk_cell BK265.out 3).trans rfl; have hcz61_4 : wc.cell? ⟨gb265, 4, none⟩ = some (.int .i64 x266004_4) := (blk_cell BK265.out 4).trans rfl; have hfz61_0 := blk_frozen BK265.out 0; have hfz61_1 := blk_frozen BK265.out 1; have hfz61_2 := blk_frozen BK265.out 2; have hfz61_3 := blk_frozen BK265.out 3; have hfz61_4 := blk_frozen BK265.out 4
             go_wp2
             refine bodyPost_ret (results_ct rfl _ _ gb265 25 #[.slice Ao6 l0_0.length co6, .slice Ao7 l0_1.length co7, .slice A0_2 l0_2.length c0_2, .int .i64 a0_3, .int .i64 a0_4] (0, 0) _ rfl (by refine blk_put (cs := #[.slice Ao6 l0_0.length co6, .slice Ao7 l0_1.length co7, .slice A0_2 l0_2.length c0_2, .int .i64 a0_3, .int .i64 x266004_4]) ?_ 4 _ rfl; refine blk_put (cs := #[.slice Ao6 l0_0.length co6, .slice Ao7 l0_1.length co7, .slice A0_2 l0_2.length c0_2, .int .i64 x266003_4, .int .i64 x266004_4]) ?_ 3 _ rfl; refine blk_put (cs := #[.slice Ao6 l0_0.length co6, .slice Ao7 l0_1.length co7, .slice none 0 0, .int .i64 x266003_4, .int .i64 x266004_4]) ?_ 2 _ rfl; refine blk_put (cs := #[.slice Ao6 l0_0.length co6, .slice none 0 0, .slice none 0 0, .int .i64 x266003_4, .int .i64 x266004_4]) ?_ 1 _ rfl; refine blk_put (cs := #[.slice none 0 0, .slice none 0 0, .slice none 0 0, .int .i64 x266003_4, .int .i64 x266004_4]) ?_ 0 _ rfl; exact BK265.out) Tryz.underlying25 rfl (by kernel_rfl)) rfl ?_
             exact ⟨_, _, _, by first | rfl | (simp [errW_none, errW_some] <;> rfl) | (simp only [← hji20]; first | rfl | (simp [errW_none, errW_some] <;> rfl)) | (simp [*, errW_none, errW_some] <;> rfl), by exact Kd.R_mono (Kd.R_far (p := ⟨gb265, 4, none⟩) (Kd.R_far (p := ⟨gb265, 3, none⟩) (Kd.R_far (p := ⟨gb265, 2, none⟩) (Kd.R_far (p := ⟨gb265, 1, none⟩) (Kd.R_far (p := ⟨gb265, 0, none⟩) (Kd.R_types HO_265000.out BK265.out (by decide)) (fun _ hk => hk.2) (.slice Ao6 l0_0.length co6)) (fun _ hk => hk.2) (.slice Ao7 l0_1.length co7)) (fun _ hk => hk.2) (.slice A0_2 l0_2.length c0_2)) (fun _ hk => hk.2) (.int .i64 a0_3)) (fun _ hk => hk.2) (.int .i64 a0_4)) (fun _ hk => ⟨hk.1.1, hk.1.2.2⟩), by exact Kd.R_mono (Kd.R_far (p := ⟨gb265, 4, none⟩) (Kd.R_far (p := ⟨gb265, 3, none⟩) (Kd.R_far (p := ⟨gb265, 2, none⟩) (Kd.R_far (p := ⟨gb265, 1, none⟩) (Kd.R_far (p := ⟨gb265, 0, none⟩) (Kd.R_types HO_265001.out BK265.out (by decide)) (fun _ hk => hk.2) (.slice Ao6 l0_0.length co6)) (fun _ hk => hk.2) (.slice Ao7 l0_1.length co7)) (fun _ hk => hk.2) (.slice A0_2 l0_2.length c0_2)) (fun _ hk => hk.2) (.int .i64 a0_3)) (fun _ hk => hk.2) (.int .i64 a0_4)) (fun _ hk => ⟨hk.1.1, hk.1.2.2⟩), by exact Kd.V_mono (Kd.V_far (p := ⟨gb265, 4, none⟩) (Kd.V_far (p := ⟨gb265, 3, none⟩) (Kd.V_far (p := ⟨gb265, 2, none⟩) (Kd.V_far (p := ⟨gb265, 1, none⟩) (Kd.V_far (p := ⟨gb265, 0, none⟩) (Kd.V_mono HO_265002.out (fun k_ hk => (⟨hk, hk.2.2.2.2.2⟩ : _ ∧ k_ ≠ gb265))) (fun _ hk => hk.2) (.slice Ao6 l0_0.length co6)) (fun _ hk => hk.2) (.slice Ao7 l0_1.length co7)) (fun _ hk => hk.2) (.slice A0_2 l0_2.length c0_2)) (fun _ hk => hk.2) (.int .i64 a0_3)) (fun _ hk => hk.2) (.int .i64 a0_4)) (fun _ hk => ⟨hk.1.1, ⟨hk.1.2.2.1, hk.1.2.2.2.1⟩⟩), by repeat (first | (with_reducible first | exact HB.out | apply below_alloc | apply pw_below_drewN | apply below_drew1 | refine below_set ?_ GE264.out | refine below_set ?_ GE265.out) | exact HB.out), by repeat (first | (with_reducible first | exact HK.out | apply Kept.alloc | apply Kept.drewN | apply Kept.drew | refine Kept.setCell ?_ (.inr GW264.out) _ | refine Kept.setCell ?_ (.inr GW265.out) _) | exact HK.out)⟩
          rw [if_pos c35] at H
          have c35b0 : decide (x13_4 < x8_4) = true := decide_eq_true c35; clear c35; obtain ⟨ji36, hji36⟩ : ∃ j_ : Int, (wrap64 (1 + x13_4)) = j_ := ⟨_, rfl⟩
          replace H : (if 0 ≤ (ji36) then (if (ji36) < (l1.length : Int) then ((emendateref34_index.f k4 l2 (rdOf ByteArray.empty l1 (ji36))).bind fun t275 => (if 0 ≤ x13_4 then (if x13_4 < (x12_4.length : Int) then ((some (x12_4.set (x13_4 : Int).toNat t275 : List Int)).bind fun y276 => (if (rd y276 x13_4) < 0 then (some (l0_0, l0_1, l0_2, a0_3, a0_4, 4)) else (emendateref34_line.l0 k4 l1 l2 x8_4 x9_4 t268 x11_23 y276 (wrap64 (x13_4 + 1)) l0_0 l0_1 l0_2 a0_3 a0_4))) else (none)) else (none))) else (none)) else (none)) = some (r1, r2, r3, r4, r5, r6) := by first | (rw [hji36] at H; exact H) | (simp only [hji36] at H ⊢; exact H)
          have hji36w : (IntKind.i64.wrap (1 + x13_4)) = ji36 := (i64_w _).trans hji36
          by_cases c37 : 0 ≤ (ji36)
          rotate_left
          ·
           rw [if_neg c37] at H
           exact absurd H (by simp)
          rw [if_pos c37] at H
          have c37b0 : decide (0 ≤ (ji36)) = true := decide_eq_true c37; clear c37
          by_cases c38 : (ji36) < (l1.length : Int)
          rotate_left
          ·
           rw [if_neg c38] at H
           exact absurd H (by simp)
          rw [if_pos c38] at H
          have c38b0 : decide ((ji36) < (l1.length : Int)) = true := decide_eq_true c38; clear c38; replace H := Option.bind_eq_some_iff.mp H; obtain ⟨t275, A390, H⟩ := H; replace H : (if 0 ≤ x13_4 then (if x13_4 < (x12_4.length : Int) then ((some (x12_4.set (x13_4 : Int).toNat t275 : List Int)).bind fun y276 => (if (rd y276 x13_4) < 0 then (some (l0_0, l0_1, l0_2, a0_3, a0_4, 4)) else (emendateref34_line.l0 k4 l1 l2 x8_4 x9_4 t268 x11_23 y276 (wrap64 (x13_4 + 1)) l0_0 l0_1 l0_2 a0_3 a0_4))) else (none)) else (none)) = some (r1, r2, r3, r4, r5, r6) := H
          have A39 := Aside0.mk A390; clear A390
          by_cases c40 : 0 ≤ x13_4
          rotate_left
          ·
           rw [if_neg c40] at H
           exact absurd H (by simp)
          rw [if_pos c40] at H
          have c40b0 : decide (0 ≤ x13_4) = true := decide_eq_true c40; clear c40
          by_cases c41 : x13_4 < (x12_4.length : Int)
          rotate_left
          ·
           rw [if_neg c41] at H
           exact absurd H (by simp)
          rw [if_pos c41] at H
          have c41b0 : decide (x13_4 < (x12_4.length : Int)) = true := decide_eq_true c41; clear c41; obtain ⟨y276, hy276⟩ : ∃ y_ : List Int, y_ = (x12_4.set (x13_4 : Int).toNat t275) := ⟨_, rfl⟩
          replace H : (if (rd y276 x13_4) < 0 then (some (l0_0, l0_1, l0_2, a0_3, a0_4, 4)) else (emendateref34_line.l0 k4 l1 l2 x8_4 x9_4 t268 x11_23 y276 (wrap64 (x13_4 + 1)) l0_0 l0_1 l0_2 a0_3 a0_4)) = some (r1, r2, r3, r4, r5, r6) := by first | (rw [hy276]; with_reducible exact H) | (have H2_ := (Option.bind_some _ _).symm.trans H; rw [hy276]; with_reducible exact H2_) | (have H2_ := (Option.bind_some _ _).symm.trans H; with_reducible exact H2_) | with_reducible exact H | (rw [hy276]; exact H) | exact H
          have Ny276 := Aside0.mk hy276; clear hy276
          by_cases c43 : (rd y276 x13_4) < 0
          rotate_left
          ·
           rw [if_neg c43] at H
           have c43b0 : decide ((rd y276 x13_4) < 0) = false := decide_eq_false c43; clear c43; have H' := Aside0.mk H; clear H; have p274 : 0 ≤ ((ji36) : Int) := of_decide_eq_true (by first | (with_reducible assumption) | assumption)
           have q274 : (ji36) < (l1.length : Int) := of_decide_eq_true (by first | (with_reducible assumption) | assumption)
           obtain ⟨ad274, e274, hx274_0⟩ := Kd.at_string (Kd.C_kept_now HR1.out HK.out) (ji36) p274 q274; obtain rfl : ad266 = ad274 := (by injection e274)
           replace p274 := eq_true p274; replace q274 := eq_true q274
           go_wp2_with (first | ((with_reducible refine gate_callee (f := 50) rfl ?_); refine goesL_ (some 73) rfl rfl Tryz.func50 (by kernel_rfl) rfl #[.slice A2 l2.length c2, .string (rdOf ByteArray.empty l1 (ji36))] rfl (by (try simp only [List.map_toArray, List.map_cons, List.map_nil]); first | done | (simp only [hji36]; rfl) | rfl | (simp only [List.length_drop, List.length_take]; rfl)) ?_; (with_reducible refine (emendateref34_index.calls k4 _ _ l2 (rdOf ByteArray.empty l1 (ji36)) t275 _ ?side1 ?side2 A39.out).mono ?_); (case side1 => exact Kd.C_kept_now HR2.out (by repeat (first | (with_reducible first | exact HK.out | apply Kept.alloc | apply Kept.drewN | apply Kept.drew | refine Kept.setCell ?_ (.inr GW264.out) _ | refine Kept.setCell ?_ (.inr GW265.out) _) | exact HK.out))); (case side2 => exact HC2.out); rintro e w' ⟨rfl, ⟨nd, rfl⟩⟩; refine ⟨_, rfl, ?_⟩; (try (rw [drewN_self wr]; generalize hq_ : World.drewN wr _ = wr; have n0_ : Aside0 (Kd.R (Kd.int .i64) 3 wr w0.heap.size (fun k_ => ((P0_0_ k_ ∨ P0_1_ k_) ∨ w.heap.size ≤ k_) ∧ some k_ ≠ (.slice Ao6 l0_0.length co6 : Value).ownBlock ∧ some k_ ≠ (.slice Ao7 l0_1.length co7 : Value).ownBlock) v272 x12_4) := ⟨by rw [← hq_]; exact (by exact HO_12.out)⟩; have n1_ : Aside0 (Kd.R (Kd.int .i64) 3 wr w0.heap.size (fun k_ => ((P0_0_ k_ ∨ P0_1_ k_) ∨ w.heap.size ≤ k_) ∧ some k_ ≠ (v272 : Value).ownBlock ∧ some k_ ≠ (.slice Ao7 l0_1.length co7 : Value).ownBlock) (.slice Ao6 l0_0.length co6) l0_0) := ⟨by rw [← hq_]; exact (by exact HO_265000.out)⟩; have n2_ : Aside0 (Kd.R (Kd.int .i64) 3 wr w0.heap.size (fun k_ => ((P0_0_ k_ ∨ P0_1_ k_) ∨ w.heap.size ≤ k_) ∧ some k_ ≠ (v272 : Value).ownBlock ∧ some k_ ≠ (.slice Ao6 l0_0.length co6 : Value).ownBlock) (.slice Ao7 l0_1.length co7) l0_1) := ⟨by rw [← hq_]; exact (by exact HO_265001.out)⟩; have n3_ : Aside0 (Kd.V (Kd.slice 3 (Kd.int .i64)) 22 wr w0.heap.size (fun k_ => ((P0_0_ k_ ∨ P0_1_ k_ ∨ P0_2_ k_) ∨ w.heap.size ≤ k_) ∧ some k_ ≠ (v272 : Value).ownBlock ∧ some k_ ≠ (.slice Ao6 l0_0.length co6 : Value).ownBlock ∧ some k_ ≠ (.slice Ao7 l0_1.length co7 : Value).ownBlock ∧ k_ ≠ gb264 ∧ k_ ≠ gb265) (.slice A0_2 l0_2.length c0_2) l0_2) := ⟨by rw [← hq_]; exact (by exact HO_265002.out)⟩; have n4_ : Aside0 (wr.heap[gb264]? = some (.cells #[.slice Ao6 l0_0.length co6, .slice Ao7 l0_1.length co7, .slice A0_2 l0_2.length c0_2, .int .i64 a0_3, .int .i64 a0_4] 25 (0, 0))) := ⟨by rw [← hq_]; exact (by exact BK264.out)⟩; have n5_ : Aside0 (wr.heap[gb265]? = some (.cells #[.slice none 0 0, .slice none 0 0, .slice none 0 0, .int .i64 x266003_4, .int .i64 x266004_4] 25 (0, 0))) := ⟨by rw [← hq_]; exact (by exact BK265.out)⟩; have n6_ : Aside0 (Kept w wr (fun k_ => P0_0_ k_ ∨ P0_1_ k_)) := ⟨by rw [← hq_]; exact (by repeat (first | (with_reducible first | exact HK.out | apply Kept.alloc | apply Kept.drewN | apply Kept.drew | refine Kept.setCell ?_ (.inr GW264.out) _ | refine Kept.setCell ?_ (.inr GW265.out) _) | exact HK.out))⟩; have n7_ : Aside0 (Below w0.heap.size w0 wr) := ⟨by rw [← hq_]; exact (by repeat (first | (with_reducible first | exact HB.out | apply below_alloc | apply pw_below_drewN | apply below_drew1 | refine below_set ?_ GE264.out | refine below_set ?_ GE265.out) | exact HB.out))⟩; clear HO_12 HO_265000 HO_265001 HO_265002 BK264 BK265 HK HB hq_; have HO_12 := n0_; have HO_265000 := n1_; have HO_265001 := n2_; have HO_265002 := n3_; have BK264 := n4_; have BK265 := n5_; have HK := n6_; have HB := n7_; clear n0_ n1_ n2_ n3_ n4_ n5_ n6_ n7_)); have p42 : 0 ≤ (x13_4 : Int) := of_decide_eq_true (by first | (with_reducible assumption) | assumption); have q42 : (x13_4 : Int) < ((x12_4.length : Int) : Int) := of_decide_eq_true (by first | (with_reducible assumption) | assumption); obtain ⟨go42, co42, eo42, gb42, gl42, cl42, HG42⟩ := Kd.R_form HO_12.out (by omega); (first | cases eo42 | (injection eo42 with ea_ en_ ec_; (first | subst ea_ | (injection ea_ with ea_; subst ea_)); subst ec_; clear en_)); have GB42 := Aside0.mk gb42; have GG42 := Aside0.mk HG42; clear gb42 gl42 HG42; have HMgo42 := Aside0.mk (show ((P0_0_ go42 ∨ P0_1_ go42) ∨ w.heap.size ≤ go42) from (HO_12.out.1 _ rfl).1); obtain ⟨hx42_0, hf42_0⟩ := Kd.R_celln 0 HO_12.out (x13_4 : Int) p42 q42; replace p42 := eq_true p42; replace q42 := eq_true q42; obtain ⟨hy49_, hz49_⟩ := Kd.R_celln 0 HO_12.out (x13_4 : Int) (of_decide_eq_true (by first | (with_reducible assumption) | assumption)) (of_decide_eq_true (by first | (with_reducible assumption) | assumption)); have HP49 := Kd.R_putg HO_12.out (x13_4 : Int) t275) | ((with_reducible refine gate_store (t := 3) (p := 74) rfl ?_); refine store_event (t := 3) (p := 74) (v := ?vo_w50) (w1 := (wr.setCell ⟨go42, (x13_4 : Int).toNat, none⟩ (.int .i64 t275))) ?hg ?ho ?hn ?hr ?_; (case ho => rfl); (case hg => rfl); (case hn => rfl); (case hr => first | (go_simp; done) | (go_simp; rfl)); intro w50 hw; have hg : wr.grownBy w50 (some go42) := (by rw [hw]; exact HP49.2); have hp_ : Kd.R (Kd.int .i64) 3 w50 w0.heap.size (fun k_ => ((P0_0_ k_ ∨ P0_1_ k_) ∨ w.heap.size ≤ k_) ∧ some k_ ≠ (.slice Ao6 l0_0.length co6 : Value).ownBlock ∧ some k_ ≠ (.slice Ao7 l0_1.length co7 : Value).ownBlock) (.slice (some ⟨go42, 0, none⟩) x12_4.length co42) y276 := (by rw [hw, Ny276.out]; exact HP49.1); clear HP49; have n0_ := Aside0.mk (hp_); have n1_ := Aside0.mk (Kd.R_after (v := (.slice (some ⟨go42, 0, none⟩) x12_4.length co42)) (v1 := (.slice (some ⟨go42, 0, none⟩) x12_4.length co42)) (ok := (fun k_ => ((P0_0_ k_ ∨ P0_1_ k_) ∨ w.heap.size ≤ k_) ∧ some k_ ≠ (.slice Ao7 l0_1.length co7 : Value).ownBlock)) (by exact Kd.R_mono HO_265000.out (fun _ hk => ⟨⟨hk.1, hk.2.2⟩, hk.2.1⟩)) hg (.inl rfl)); have n2_ := Aside0.mk (Kd.R_after (v := (.slice (some ⟨go42, 0, none⟩) x12_4.length co42)) (v1 := (.slice (some ⟨go42, 0, none⟩) x12_4.length co42)) (ok := (fun k_ => ((P0_0_ k_ ∨ P0_1_ k_) ∨ w.heap.size ≤ k_) ∧ some k_ ≠ (.slice Ao6 l0_0.length co6 : Value).ownBlock)) (by exact Kd.R_mono HO_265001.out (fun _ hk => ⟨⟨hk.1, hk.2.2⟩, hk.2.1⟩)) hg (.inl rfl)); have n3_ := Aside0.mk (Kd.V_afterv (v := (.slice (some ⟨go42, 0, none⟩) x12_4.length co42)) (v1 := (.slice (some ⟨go42, 0, none⟩) x12_4.length co42)) (ok := (fun k_ => ((P0_0_ k_ ∨ P0_1_ k_ ∨ P0_2_ k_) ∨ w.heap.size ≤ k_) ∧ some k_ ≠ (.slice Ao6 l0_0.length co6 : Value).ownBlock ∧ some k_ ≠ (.slice Ao7 l0_1.length co7 : Value).ownBlock ∧ k_ ≠ gb264 ∧ k_ ≠ gb265)) (by exact Kd.V_mono HO_265002.out (fun _ hk => ⟨⟨hk.1, ⟨hk.2.2.1, ⟨hk.2.2.2.1, ⟨hk.2.2.2.2.1, hk.2.2.2.2.2⟩⟩⟩⟩, hk.2.1⟩)) hg (.inl rfl)); have n4_ := Aside0.mk (blk_grown (g := gb264) (o := .cells #[.slice Ao6 l0_0.length co6, .slice Ao7 l0_1.length co7, .slice A0_2 l0_2.length c0_2, .int .i64 a0_3, .int .i64 a0_4] 25 (0, 0)) (by exact BK264.out) hg (Kd.R_ne HO_12.out BK264.out (by decide))); have n5_ := Aside0.mk (blk_grown (g := gb265) (o := .cells #[.slice none 0 0, .slice none 0 0, .slice none 0 0, .int .i64 x266003_4, .int .i64 x266004_4] 25 (0, 0)) (by exact BK265.out) hg (Kd.R_ne HO_12.out BK265.out (by decide))); have n6_ := Aside0.mk ((by rw [hw]; exact below_set (HB.out) GB42.out : Below w0.heap.size w0 w50)); have n7_ := Aside0.mk (Kept.of_grown (S := (fun k_ => P0_0_ k_ ∨ P0_1_ k_)) hg (by repeat (first | (with_reducible first | exact HK.out | apply Kept.alloc | apply Kept.drewN | apply Kept.drew | refine Kept.setCell ?_ (.inr GW264.out) _ | refine Kept.setCell ?_ (.inr GW265.out) _) | exact HK.out)) (fun k_ e_ => (HO_12.out.1 k_ e_).1)); clear HO_12; clear HO_265000; clear HO_265001; clear HO_265002; clear BK264; clear BK265; clear HB; clear HK; have HO_12 := n0_; have HO_265000 := n1_; have HO_265001 := n2_; have HO_265002 := n3_; have BK264 := n4_; have BK265 := n5_; have HB := n6_; have HK := n7_; clear n0_ n1_ n2_ n3_ n4_ n5_ n6_ n7_; clear hg hw hp_; have p277 : 0 ≤ (x13_4 : Int) := of_decide_eq_true (by first | (with_reducible assumption) | assumption); have q277 : x13_4 < (y276.length : Int) := (by have h_ : (x13_4 : Int) < ((x12_4.length : Int) : Int) := of_decide_eq_true (by first | (with_reducible assumption) | assumption); first | (have e_ := (Kd.R_reads' HO_12.out).1; omega) | simpa only [Ny276.out, List.length_set] using h_); have ql277 : ((x13_4 : Int) < ((x12_4.length : Int) : Int)) = True := eq_true (of_decide_eq_true (by first | (with_reducible assumption) | assumption)); obtain ⟨ad277, e277, hx277_0⟩ := Kd.at_int (Kd.R_reads' HO_12.out).2.2 x13_4 p277 q277; obtain rfl : (⟨go42, 0, none⟩ : Addr) = ad277 := (by injection e277); (first | simp only [add_plain] at hx277_0 | simp only [add_at] at hx277_0 | simp only [Addr.add, Nat.zero_add] at hx277_0 | skip); replace p277 := eq_true p277; replace q277 := eq_true q277))
           go_roundg k4
           case measure => have := HJ4.out; have := HJ23.out; have := HJ26.out; have := HK4.out; omega
           case rel => exact ⟨(y276), (wrap64 (x13_4 + 1)), (x266003_4), (x266004_4), (by first | rfl | (simp; done) | (simp [*]; done)), H', ⟨by have := HJ4.out; have := HJ23.out; have := HJ26.out; have := HK4.out; omega⟩, ⟨by exact HO_12.out⟩, ⟨by exact Kd.R_mono HO_265000.out (fun _ hk => ⟨hk.1.1, ⟨hk.2, hk.1.2⟩⟩)⟩, ⟨by exact Kd.R_mono HO_265001.out (fun _ hk => ⟨hk.1.1, ⟨hk.2, hk.1.2⟩⟩)⟩, ⟨by exact Kd.V_mono HO_265002.out (fun _ hk => ⟨hk.1.1, ⟨hk.2, ⟨hk.1.2.1, ⟨hk.1.2.2.1, ⟨hk.1.2.2.2.1, hk.1.2.2.2.2⟩⟩⟩⟩⟩)⟩, ⟨by exact BK264.out⟩, ⟨by exact BK265.out⟩, ⟨by repeat (first | (with_reducible first | exact HK.out | apply Kept.alloc | apply Kept.drewN | apply Kept.drew | refine Kept.setCell ?_ (.inr GW264.out) _ | refine Kept.setCell ?_ (.inr GW265.out) _) | exact HK.out)⟩, ⟨by repeat (first | (with_reducible first | exact HB.out | apply below_alloc | apply pw_below_drewN | apply below_drew1 | refine below_set ?_ GE264.out | refine below_set ?_ GE265.out) | exact HB.out)⟩⟩
          rw [if_pos c43] at H
          have c43b0 : decide ((rd y276 x13_4) < 0) = true := decide_eq_true c43; clear c43
          simp only [Option.some.injEq, Prod.mk.injEq] at H
          obtain ⟨rfl, rfl, rfl, rfl, rfl, rfl⟩ := H; have p274 : 0 ≤ ((ji36) : Int) := of_decide_eq_true (by first | (with_reducible assumption) | assumption)
          have q274 : (ji36) < (l1.length : Int) := of_decide_eq_true (by first | (with_reducible assumption) | assumption)
          obtain ⟨ad274, e274, hx274_0⟩ := Kd.at_string (Kd.C_kept_now HR1.out HK.out) (ji36) p274 q274; obtain rfl : ad266 = ad274 := (by injection e274)
          replace p274 := eq_true p274; replace q274 := eq_true q274
          go_wp2_with (first | ((with_reducible refine gate_callee (f := 50) rfl ?_); refine goesL_ (some 73) rfl rfl Tryz.func50 (by kernel_rfl) rfl #[.slice A2 l2.length c2, .string (rdOf ByteArray.empty l1 (ji36))] rfl (by (try simp only [List.map_toArray, List.map_cons, List.map_nil]); first | done | (simp only [hji36]; rfl) | rfl | (simp only [List.length_drop, List.length_take]; rfl)) ?_; (with_reducible refine (emendateref34_index.calls k4 _ _ l2 (rdOf ByteArray.empty l1 (ji36)) t275 _ ?side1 ?side2 A39.out).mono ?_); (case side1 => exact Kd.C_kept_now HR2.out (by repeat (first | (with_reducible first | exact HK.out | apply Kept.alloc | apply Kept.drewN | apply Kept.drew | refine Kept.setCell ?_ (.inr GW264.out) _ | refine Kept.setCell ?_ (.inr GW265.out) _) | exact HK.out))); (case side2 => exact HC2.out); rintro e w' ⟨rfl, ⟨nd, rfl⟩⟩; refine ⟨_, rfl, ?_⟩; (try (rw [drewN_self wr]; generalize hq_ : World.drewN wr _ = wr; have n0_ : Aside0 (Kd.R (Kd.int .i64) 3 wr w0.heap.size (fun k_ => ((P0_0_ k_ ∨ P0_1_ k_) ∨ w.heap.size ≤ k_) ∧ some k_ ≠ (.slice Ao6 l0_0.length co6 : Value).ownBlock ∧ some k_ ≠ (.slice Ao7 l0_1.length co7 : Value).ownBlock) v272 x12_4) := ⟨by rw [← hq_]; exact (by exact HO_12.out)⟩; have n1_ : Aside0 (Kd.R (Kd.int .i64) 3 wr w0.heap.size (fun k_ => ((P0_0_ k_ ∨ P0_1_ k_) ∨ w.heap.size ≤ k_) ∧ some k_ ≠ (v272 : Value).ownBlock ∧ some k_ ≠ (.slice Ao7 l0_1.length co7 : Value).ownBlock) (.slice Ao6 l0_0.length co6) l0_0) := ⟨by rw [← hq_]; exact (by exact HO_265000.out)⟩; have n2_ : Aside0 (Kd.R (Kd.int .i64) 3 wr w0.heap.size (fun k_ => ((P0_0_ k_ ∨ P0_1_ k_) ∨ w.heap.size ≤ k_) ∧ some k_ ≠ (v272 : Value).ownBlock ∧ some k_ ≠ (.slice Ao6 l0_0.length co6 : Value).ownBlock) (.slice Ao7 l0_1.length co7) l0_1) := ⟨by rw [← hq_]; exact (by exact HO_265001.out)⟩; have n3_ : Aside0 (Kd.V (Kd.slice 3 (Kd.int .i64)) 22 wr w0.heap.size (fun k_ => ((P0_0_ k_ ∨ P0_1_ k_ ∨ P0_2_ k_) ∨ w.heap.size ≤ k_) ∧ some k_ ≠ (v272 : Value).ownBlock ∧ some k_ ≠ (.slice Ao6 l0_0.length co6 : Value).ownBlock ∧ some k_ ≠ (.slice Ao7 l0_1.length co7 : Value).ownBlock ∧ k_ ≠ gb264 ∧ k_ ≠ gb265) (.slice A0_2 l0_2.length c0_2) l0_2) := ⟨by rw [← hq_]; exact (by exact HO_265002.out)⟩; have n4_ : Aside0 (wr.heap[gb264]? = some (.cells #[.slice Ao6 l0_0.length co6, .slice Ao7 l0_1.length co7, .slice A0_2 l0_2.length c0_2, .int .i64 a0_3, .int .i64 a0_4] 25 (0, 0))) := ⟨by rw [← hq_]; exact (by exact BK264.out)⟩; have n5_ : Aside0 (wr.heap[gb265]? = some (.cells #[.slice none 0 0, .slice none 0 0, .slice none 0 0, .int .i64 x266003_4, .int .i64 x266004_4] 25 (0, 0))) := ⟨by rw [← hq_]; exact (by exact BK265.out)⟩; have n6_ : Aside0 (Kept w wr (fun k_ => P0_0_ k_ ∨ P0_1_ k_)) := ⟨by rw [← hq_]; exact (by repeat (first | (with_reducible first | exact HK.out | apply Kept.alloc | apply Kept.drewN | apply Kept.drew | refine Kept.setCell ?_ (.inr GW264.out) _ | refine Kept.setCell ?_ (.inr GW265.out) _) | exact HK.out))⟩; have n7_ : Aside0 (Below w0.heap.size w0 wr) := ⟨by rw [← hq_]; exact (by repeat (first | (with_reducible first | exact HB.out | apply below_alloc | apply pw_below_drewN | apply below_drew1 | refine below_set ?_ GE264.out | refine below_set ?_ GE265.out) | exact HB.out))⟩; clear HO_12 HO_265000 HO_265001 HO_265002 BK264 BK265 HK HB hq_; have HO_12 := n0_; have HO_265000 := n1_; have HO_265001 := n2_; have HO_265002 := n3_; have BK264 := n4_; have BK265 := n5_; have HK := n6_; have HB := n7_; clear n0_ n1_ n2_ n3_ n4_ n5_ n6_ n7_)); have p42 : 0 ≤ (x13_4 : Int) := of_decide_eq_true (by first | (with_reducible assumption) | assumption); have q42 : (x13_4 : Int) < ((x12_4.length : Int) : Int) := of_decide_eq_true (by first | (with_reducible assumption) | assumption); obtain ⟨go42, co42, eo42, gb42, gl42, cl42, HG42⟩ := Kd.R_form HO_12.out (by omega); (first | cases eo42 | (injection eo42 with ea_ en_ ec_; (first | subst ea_ | (injection ea_ with ea_; subst ea_)); subst ec_; clear en_)); have GB42 := Aside0.mk gb42; have GG42 := Aside0.mk HG42; clear gb42 gl42 HG42; have HMgo42 := Aside0.mk (show ((P0_0_ go42 ∨ P0_1_ go42) ∨ w.heap.size ≤ go42) from (HO_12.out.1 _ rfl).1); obtain ⟨hx42_0, hf42_0⟩ := Kd.R_celln 0 HO_12.out (x13_4 : Int) p42 q42; replace p42 := eq_true p42; replace q42 := eq_true q42; obtain ⟨hy44_, hz44_⟩ := Kd.R_celln 0 HO_12.out (x13_4 : Int) (of_decide_eq_true (by first | (with_reducible assumption) | assumption)) (of_decide_eq_true (by first | (with_reducible assumption) | assumption)); have HP44 := Kd.R_putg HO_12.out (x13_4 : Int) t275) | ((with_reducible refine gate_store (t := 3) (p := 74) rfl ?_); refine store_event (t := 3) (p := 74) (v := ?vo_w45) (w1 := (wr.setCell ⟨go42, (x13_4 : Int).toNat, none⟩ (.int .i64 t275))) ?hg ?ho ?hn ?hr ?_; (case ho => rfl); (case hg => rfl); (case hn => rfl); (case hr => first | (go_simp; done) | (go_simp; rfl)); intro w45 hw; have hg : wr.grownBy w45 (some go42) := (by rw [hw]; exact HP44.2); have hp_ : Kd.R (Kd.int .i64) 3 w45 w0.heap.size (fun k_ => ((P0_0_ k_ ∨ P0_1_ k_) ∨ w.heap.size ≤ k_) ∧ some k_ ≠ (.slice Ao6 l0_0.length co6 : Value).ownBlock ∧ some k_ ≠ (.slice Ao7 l0_1.length co7 : Value).ownBlock) (.slice (some ⟨go42, 0, none⟩) x12_4.length co42) y276 := (by rw [hw, Ny276.out]; exact HP44.1); clear HP44; have n0_ := Aside0.mk (hp_); have n1_ := Aside0.mk (Kd.R_after (v := (.slice (some ⟨go42, 0, none⟩) x12_4.length co42)) (v1 := (.slice (some ⟨go42, 0, none⟩) x12_4.length co42)) (ok := (fun k_ => ((P0_0_ k_ ∨ P0_1_ k_) ∨ w.heap.size ≤ k_) ∧ some k_ ≠ (.slice Ao7 l0_1.length co7 : Value).ownBlock)) (by exact Kd.R_mono HO_265000.out (fun _ hk => ⟨⟨hk.1, hk.2.2⟩, hk.2.1⟩)) hg (.inl rfl)); have n2_ := Aside0.mk (Kd.R_after (v := (.slice (some ⟨go42, 0, none⟩) x12_4.length co42)) (v1 := (.slice (some ⟨go42, 0, none⟩) x12_4.length co42)) (ok := (fun k_ => ((P0_0_ k_ ∨ P0_1_ k_) ∨ w.heap.size ≤ k_) ∧ some k_ ≠ (.slice Ao6 l0_0.length co6 : Value).ownBlock)) (by exact Kd.R_mono HO_265001.out (fun _ hk => ⟨⟨hk.1, hk.2.2⟩, hk.2.1⟩)) hg (.inl rfl)); have n3_ := Aside0.mk (Kd.V_afterv (v := (.slice (some ⟨go42, 0, none⟩) x12_4.length co42)) (v1 := (.slice (some ⟨go42, 0, none⟩) x12_4.length co42)) (ok := (fun k_ => ((P0_0_ k_ ∨ P0_1_ k_ ∨ P0_2_ k_) ∨ w.heap.size ≤ k_) ∧ some k_ ≠ (.slice Ao6 l0_0.length co6 : Value).ownBlock ∧ some k_ ≠ (.slice Ao7 l0_1.length co7 : Value).ownBlock ∧ k_ ≠ gb264 ∧ k_ ≠ gb265)) (by exact Kd.V_mono HO_265002.out (fun _ hk => ⟨⟨hk.1, ⟨hk.2.2.1, ⟨hk.2.2.2.1, ⟨hk.2.2.2.2.1, hk.2.2.2.2.2⟩⟩⟩⟩, hk.2.1⟩)) hg (.inl rfl)); have n4_ := Aside0.mk (blk_grown (g := gb264) (o := .cells #[.slice Ao6 l0_0.length co6, .slice Ao7 l0_1.length co7, .slice A0_2 l0_2.length c0_2, .int .i64 a0_3, .int .i64 a0_4] 25 (0, 0)) (by exact BK264.out) hg (Kd.R_ne HO_12.out BK264.out (by decide))); have n5_ := Aside0.mk (blk_grown (g := gb265) (o := .cells #[.slice none 0 0, .slice none 0 0, .slice none 0 0, .int .i64 x266003_4, .int .i64 x266004_4] 25 (0, 0)) (by exact BK265.out) hg (Kd.R_ne HO_12.out BK265.out (by decide))); have n6_ := Aside0.mk ((by rw [hw]; exact below_set (HB.out) GB42.out : Below w0.heap.size w0 w45)); have n7_ := Aside0.mk (Kept.of_grown (S := (fun k_ => P0_0_ k_ ∨ P0_1_ k_)) hg (by repeat (first | (with_reducible first | exact HK.out | apply Kept.alloc | apply Kept.drewN | apply Kept.drew | refine Kept.setCell ?_ (.inr GW264.out) _ | refine Kept.setCell ?_ (.inr GW265.out) _) | exact HK.out)) (fun k_ e_ => (HO_12.out.1 k_ e_).1)); clear HO_12; clear HO_265000; clear HO_265001; clear HO_265002; clear BK264; clear BK265; clear HB; clear HK; have HO_12 := n0_; have HO_265000 := n1_; have HO_265001 := n2_; have HO_265002 := n3_; have BK264 := n4_; have BK265 := n5_; have HB := n6_; have HK := n7_; clear n0_ n1_ n2_ n3_ n4_ n5_ n6_ n7_; clear hg hw hp_; have p277 : 0 ≤ (x13_4 : Int) := of_decide_eq_true (by first | (with_reducible assumption) | assumption); have q277 : x13_4 < (y276.length : Int) := (by have h_ : (x13_4 : Int) < ((x12_4.length : Int) : Int) := of_decide_eq_true (by first | (with_reducible assumption) | assumption); first | (have e_ := (Kd.R_reads' HO_12.out).1; omega) | simpa only [Ny276.out, List.length_set] using h_); have ql277 : ((x13_4 : Int) < ((x12_4.length : Int) : Int)) = True := eq_true (of_decide_eq_true (by first | (with_reducible assumption) | assumption)); obtain ⟨ad277, e277, hx277_0⟩ := Kd.at_int (Kd.R_reads' HO_12.out).2.2 x13_4 p277 q277; obtain rfl : (⟨go42, 0, none⟩ : Addr) = ad277 := (by injection e277); (first | simp only [add_plain] at hx277_0 | simp only [add_at] at hx277_0 | simp only [Addr.add, Nat.zero_add] at hx277_0 | skip); replace p277 := eq_true p277; replace q277 := eq_true q277; have hnb46 := NB264_265.out; have hnc46 := NB265_264.out; have hcz47_0 : w45.cell? ⟨gb264, 0, none⟩ = some (.slice Ao6 l0_0.length co6) := (blk_cell BK264.out 0).trans rfl; have hcz47_1 : w45.cell? ⟨gb264, 1, none⟩ = some (.slice Ao7 l0_1.length co7) := (blk_cell BK264.out 1).trans rfl; have hcz47_2 : w45.cell? ⟨gb264, 2, none⟩ = some (.slice A0_2 l0_2.length c0_2) := (blk_cell BK264.out 2).trans rfl; have hcz47_3 : w45.cell? ⟨gb264, 3, none⟩ = some (.int .i64 a0_3) := (blk_cell BK264.out 3).trans rfl; have hcz47_4 : w45.cell? ⟨gb264, 4, none⟩ = some (.int .i64 a0_4) := (blk_cell BK264.out 4).trans rfl; have hfz47_0 := blk_frozen BK264.out 0; have hfz47_1 := blk_frozen BK264.out 1; have hfz47_2 := blk_frozen BK264.out 2; have hfz47_3 := blk_frozen BK264.out 3; have hfz47_4 := blk_frozen BK264.out 4; have hcz48_0 : w45.cell? ⟨gb265, 0, none⟩ = some (.slice none 0 0) := (blk_cell BK265.out 0).trans rfl; have hcz48_1 : w45.cell? ⟨gb265, 1, none⟩ = some (.slice none 0 0) := (blk_cell BK265.out 1).trans rfl; have hcz48_2 : w45.cell? ⟨gb265, 2, none⟩ = some (.slice none 0 0) := (blk_cell BK265.out 2).trans rfl; have hcz48_3 : w45.cell? ⟨gb265, 3, none⟩ = some (.int .i64 x266003_4) := (blk_cell BK265.out 3).trans rfl; have hcz48_4 : w45.cell? ⟨gb265, 4, none⟩ = some (.int .i64 x266004_4) := (blk_cell BK265.out 4).trans rfl; have hfz48_0 := blk_frozen BK265.out 0; have hfz48_1 := blk_frozen BK265.out 1; have hfz48_2 := blk_frozen BK265.out 2; have hfz48_3 := blk_frozen BK265.out 3; have hfz48_4 := blk_frozen BK265.out 4))
          refine bodyPost_ret (results_ct rfl _ _ gb265 25 #[.slice Ao6 l0_0.length co6, .slice Ao7 l0_1.length co7, .slice A0_2 l0_2.length c0_2, .int .i64 a0_3, .int .i64 a0_4] (0, 0) _ rfl (by refine blk_put (cs := #[.slice Ao6 l0_0.length co6, .slice Ao7 l0_1.length co7, .slice A0_2 l0_2.length c0_2, .int .i64 a0_3, .int .i64 x266004_4]) ?_ 4 _ rfl; refine blk_put (cs := #[.slice Ao6 l0_0.length co6, .slice Ao7 l0_1.length co7, .slice A0_2 l0_2.length c0_2, .int .i64 x266003_4, .int .i64 x266004_4]) ?_ 3 _ rfl; refine blk_put (cs := #[.slice Ao6 l0_0.length co6, .slice Ao7 l0_1.length co7, .slice none 0 0, .int .i64 x266003_4, .int .i64 x266004_4]) ?_ 2 _ rfl; refine blk_put (cs := #[.slice Ao6 l0_0.length co6, .slice none 0 0, .slice none 0 0, .int .i64 x266003_4, .int .i64 x266004_4]) ?_ 1 _ rfl; refine blk_put (cs := #[.slice none 0 0, .slice none 0 0, .slice none 0 0, .int .i64 x266003_4, .int .i64 x266004_4]) ?_ 0 _ rfl; exact BK265.out) Tryz.underlying25 rfl (by kernel_rfl)) rfl ?_
          exact ⟨_, _, _, by first | rfl | (simp [errW_none, errW_some] <;> rfl) | (simp only [← hji20, ← hji36]; first | rfl | (simp [errW_none, errW_some] <;> rfl)) | (simp [*, errW_none, errW_some] <;> rfl), by exact Kd.R_mono (Kd.R_far (p := ⟨gb265, 4, none⟩) (Kd.R_far (p := ⟨gb265, 3, none⟩) (Kd.R_far (p := ⟨gb265, 2, none⟩) (Kd.R_far (p := ⟨gb265, 1, none⟩) (Kd.R_far (p := ⟨gb265, 0, none⟩) (Kd.R_types HO_265000.out BK265.out (by decide)) (fun _ hk => hk.2) (.slice Ao6 l0_0.length co6)) (fun _ hk => hk.2) (.slice Ao7 l0_1.length co7)) (fun _ hk => hk.2) (.slice A0_2 l0_2.length c0_2)) (fun _ hk => hk.2) (.int .i64 a0_3)) (fun _ hk => hk.2) (.int .i64 a0_4)) (fun _ hk => ⟨hk.1.1.1, hk.1.1.2⟩), by exact Kd.R_mono (Kd.R_far (p := ⟨gb265, 4, none⟩) (Kd.R_far (p := ⟨gb265, 3, none⟩) (Kd.R_far (p := ⟨gb265, 2, none⟩) (Kd.R_far (p := ⟨gb265, 1, none⟩) (Kd.R_far (p := ⟨gb265, 0, none⟩) (Kd.R_types HO_265001.out BK265.out (by decide)) (fun _ hk => hk.2) (.slice Ao6 l0_0.length co6)) (fun _ hk => hk.2) (.slice Ao7 l0_1.length co7)) (fun _ hk => hk.2) (.slice A0_2 l0_2.length c0_2)) (fun _ hk => hk.2) (.int .i64 a0_3)) (fun _ hk => hk.2) (.int .i64 a0_4)) (fun _ hk => ⟨hk.1.1.1, hk.1.1.2⟩), by exact Kd.V_mono (Kd.V_far (p := ⟨gb265, 4, none⟩) (Kd.V_far (p := ⟨gb265, 3, none⟩) (Kd.V_far (p := ⟨gb265, 2, none⟩) (Kd.V_far (p := ⟨gb265, 1, none⟩) (Kd.V_far (p := ⟨gb265, 0, none⟩) (Kd.V_mono HO_265002.out (fun k_ hk => (⟨hk, hk.1.2.2.2.2⟩ : _ ∧ k_ ≠ gb265))) (fun _ hk => hk.2) (.slice Ao6 l0_0.length co6)) (fun _ hk => hk.2) (.slice Ao7 l0_1.length co7)) (fun _ hk => hk.2) (.slice A0_2 l0_2.length c0_2)) (fun _ hk => hk.2) (.int .i64 a0_3)) (fun _ hk => hk.2) (.int .i64 a0_4)) (fun _ hk => ⟨hk.1.1.1, ⟨hk.1.1.2.1, hk.1.1.2.2.1⟩⟩), by repeat (first | (with_reducible first | exact HB.out | apply below_alloc | apply pw_below_drewN | apply below_drew1 | refine below_set ?_ GE264.out | refine below_set ?_ GE265.out) | exact HB.out), by repeat (first | (with_reducible first | exact HK.out | apply Kept.alloc | apply Kept.drewN | apply Kept.drew | refine Kept.setCell ?_ (.inr GW264.out) _ | refine Kept.setCell ?_ (.inr GW265.out) _) | exact HK.out)⟩
       subst c29; have H1 : (some (l0_0, l0_1, l0_2, a0_3, a0_4, 3)) = some (r1, r2, r3, r4, r5, r6) := by rw [if_pos rfl] at H; exact H
       clear H; have H := H1; clear H1
       simp only [Option.some.injEq, Prod.mk.injEq] at H
       obtain ⟨rfl, rfl, rfl, rfl, rfl, rfl⟩ := H; have hnb30 := NB264_265.out; have hnc30 := NB265_264.out; have hcz31_0 : wc.cell? ⟨gb264, 0, none⟩ = some (.slice Ao6 l0_0.length co6) := (blk_cell BK264.out 0).trans rfl; have hcz31_1 : wc.cell? ⟨gb264, 1, none⟩ = some (.slice Ao7 l0_1.length co7) := (blk_cell BK264.out 1).trans rfl; have hcz31_2 : wc.cell? ⟨gb264, 2, none⟩ = some (.slice A0_2 l0_2.length c0_2) := (blk_cell BK264.out 2).trans rfl; have hcz31_3 : wc.cell? ⟨gb264, 3, none⟩ = some (.int .i64 a0_3) := (blk_cell BK264.out 3).trans rfl; have hcz31_4 : wc.cell? ⟨gb264, 4, none⟩ = some (.int .i64 a0_4) := (blk_cell BK264.out 4).trans rfl; have hfz31_0 := blk_frozen BK264.out 0; have hfz31_1 := blk_frozen BK264.out 1; have hfz31_2 := blk_frozen BK264.out 2; have hfz31_3 := blk_frozen BK264.out 3; have hfz31_4 := blk_frozen BK264.out 4; have hcz32_0 : wc.cell? ⟨gb265, 0, none⟩ = some (.slice none 0 0) := (blk_cell BK265.out 0).trans rfl; have hcz32_1 : wc.cell? ⟨gb265, 1, none⟩ = some (.slice none 0 0) := (blk_cell BK265.out 1).trans rfl; have hcz32_2 : wc.cell? ⟨gb265, 2, none⟩ = some (.slice none 0 0) := (blk_cell BK265.out 2).trans rfl; have hcz32_3 : wc.cell? ⟨gb265, 3, none⟩ = some (.int .i64 x266003_4) := (blk_cell BK265.out 3).trans rfl; have hcz32_4 : wc.cell? ⟨gb265, 4, none⟩ = some (.int .i64 x266004_4) := (blk_cell BK265.out 4).trans rfl; have hfz32_0 := blk_frozen BK265.out 0; have hfz32_1 := blk_frozen BK265.out 1; have hfz32_2 := blk_frozen BK265.out 2; have hfz32_3 := blk_frozen BK265.out 3; have hfz32_4 := blk_frozen BK265.out 4
       go_wp2
       refine bodyPost_ret (results_ct rfl _ _ gb265 25 #[.slice Ao6 l0_0.length co6, .slice Ao7 l0_1.length co7, .slice A0_2 l0_2.length c0_2, .int .i64 a0_3, .int .i64 a0_4] (0, 0) _ rfl (by refine blk_put (cs := #[.slice Ao6 l0_0.length co6, .slice Ao7 l0_1.length co7, .slice A0_2 l0_2.length c0_2, .int .i64 a0_3, .int .i64 x266004_4]) ?_ 4 _ rfl; refine blk_put (cs := #[.slice Ao6 l0_0.length co6, .slice Ao7 l0_1.length co7, .slice A0_2 l0_2.length c0_2, .int .i64 x266003_4, .int .i64 x266004_4]) ?_ 3 _ rfl; refine blk_put (cs := #[.slice Ao6 l0_0.length co6, .slice Ao7 l0_1.length co7, .slice none 0 0, .int .i64 x266003_4, .int .i64 x266004_4]) ?_ 2 _ rfl; refine blk_put (cs := #[.slice Ao6 l0_0.length co6, .slice none 0 0, .slice none 0 0, .int .i64 x266003_4, .int .i64 x266004_4]) ?_ 1 _ rfl; refine blk_put (cs := #[.slice none 0 0, .slice none 0 0, .slice none 0 0, .int .i64 x266003_4, .int .i64 x266004_4]) ?_ 0 _ rfl; exact BK265.out) Tryz.underlying25 rfl (by kernel_rfl)) rfl ?_
       exact ⟨_, _, _, by first | rfl | (simp [errW_none, errW_some] <;> rfl) | (simp only [← hji20]; first | rfl | (simp [errW_none, errW_some] <;> rfl)) | (simp [*, errW_none, errW_some] <;> rfl), by exact Kd.R_mono (Kd.R_far (p := ⟨gb265, 4, none⟩) (Kd.R_far (p := ⟨gb265, 3, none⟩) (Kd.R_far (p := ⟨gb265, 2, none⟩) (Kd.R_far (p := ⟨gb265, 1, none⟩) (Kd.R_far (p := ⟨gb265, 0, none⟩) (Kd.R_types HO_265000.out BK265.out (by decide)) (fun _ hk => hk.2) (.slice Ao6 l0_0.length co6)) (fun _ hk => hk.2) (.slice Ao7 l0_1.length co7)) (fun _ hk => hk.2) (.slice A0_2 l0_2.length c0_2)) (fun _ hk => hk.2) (.int .i64 a0_3)) (fun _ hk => hk.2) (.int .i64 a0_4)) (fun _ hk => ⟨hk.1.1, hk.1.2⟩), by exact Kd.R_mono (Kd.R_far (p := ⟨gb265, 4, none⟩) (Kd.R_far (p := ⟨gb265, 3, none⟩) (Kd.R_far (p := ⟨gb265, 2, none⟩) (Kd.R_far (p := ⟨gb265, 1, none⟩) (Kd.R_far (p := ⟨gb265, 0, none⟩) (Kd.R_types HO_265001.out BK265.out (by decide)) (fun _ hk => hk.2) (.slice Ao6 l0_0.length co6)) (fun _ hk => hk.2) (.slice Ao7 l0_1.length co7)) (fun _ hk => hk.2) (.slice A0_2 l0_2.length c0_2)) (fun _ hk => hk.2) (.int .i64 a0_3)) (fun _ hk => hk.2) (.int .i64 a0_4)) (fun _ hk => ⟨hk.1.1, hk.1.2⟩), by exact Kd.V_mono (Kd.V_far (p := ⟨gb265, 4, none⟩) (Kd.V_far (p := ⟨gb265, 3, none⟩) (Kd.V_far (p := ⟨gb265, 2, none⟩) (Kd.V_far (p := ⟨gb265, 1, none⟩) (Kd.V_far (p := ⟨gb265, 0, none⟩) (Kd.V_mono HO_265002.out (fun k_ hk => (⟨hk, hk.2.2.2.2⟩ : _ ∧ k_ ≠ gb265))) (fun _ hk => hk.2) (.slice Ao6 l0_0.length co6)) (fun _ hk => hk.2) (.slice Ao7 l0_1.length co7)) (fun _ hk => hk.2) (.slice A0_2 l0_2.length c0_2)) (fun _ hk => hk.2) (.int .i64 a0_3)) (fun _ hk => hk.2) (.int .i64 a0_4)) (fun _ hk => ⟨hk.1.1, ⟨hk.1.2.1, hk.1.2.2.1⟩⟩), by repeat (first | (with_reducible first | exact HB.out | apply below_alloc | apply pw_below_drewN | apply below_drew1 | refine below_set ?_ GE264.out | refine below_set ?_ GE265.out) | exact HB.out), by repeat (first | (with_reducible first | exact HK.out | apply Kept.alloc | apply Kept.drewN | apply Kept.drew | refine Kept.setCell ?_ (.inr GW264.out) _ | refine Kept.setCell ?_ (.inr GW265.out) _) | exact HK.out)⟩
end Go.Proofs.YtdcfcpgpbbgceaaGreatDoor.PAll
-- dedented
