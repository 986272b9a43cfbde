-- printed by a variant of the print (wip/mkprint.py)
import Derived.Test.YtdcfcpgpbbgceaaGreatDoorPAllx0
import Derived.Test.YtdcfcpgpbbgceaaGreatDoorPAllx1
import Derived.Test.YtdcfcpgpbbgceaaGreatDoorPAllx2
import Derived.Test.YtdcfcpgpbbgceaaGreatDoorPAllx7
import Derived.Test.YtdcfcpgpbbgceaaGreatDoorPAllx8
import Derived.Test.YtdcfcpgpbbgceaaGreatDoorPAllx18d
import Derived.Test.YtdcfcpgpbbgceaaGreatDoorPAllx22d
namespace Go.Proofs.YtdcfcpgpbbgceaaGreatDoor.PAll
open Go.RowKit Go.Proofs.YtdcfcpgpbbgceaaGreatDoorW.PrintWords Go.Proofs.YtdcfcpgpbbgceaaGreatDoorW.PrintLast Go.Proofs.YtdcfcpgpbbgceaaGreatDoorW.PrintMore
attribute [local go_sem] max2_int min2_int max_two min_two max_three min_three max_four min_four   -- for this text's walks alone
set_option linter.unusedVariables false
set_option linter.unusedSimpArgs false
set_option maxHeartbeats 8000000 in
set_option maxRecDepth 100000 in
theorem emendatelaw34_PricesOverride.calls (k : Nat) (a0 : ByteArray) (a1 : Int) (a2 : Int) (r : Bool) (w : World) (hG : Glob w) (hr_ : r = true) (h : emendatelaw34_PricesOverride.f k a0 a1 a2 = some r) :
  Calls Tryz.prog 7 #[.string a0, .int .u16 a1, .int .u16 a2] w fun e w' => e = .returned (.bool r) ∧ Below w.heap.size w w' := by
 have HRt := Aside0.mk hr_; clear hr_; have hu25 := Tryz.underlying25; have HB := Aside0.mk (Below.refl w.heap.size w); have HG := Aside0.mk hG; clear hG; have H : ((some (([(⟨#[97]⟩ : ByteArray), (⟨#[98]⟩ : ByteArray), (⟨#[99]⟩ : ByteArray)] : List ByteArray) : List ByteArray)).bind fun y195 => ((prices_Parse.f k a0 y195).bind fun bt198 => (if (a0.size : Int) > 500 then (emendatelaw34_PricesOverride.j0 k a0 a1 a2 y195 true bt198.1 bt198.2.1 bt198.2.2.1 bt198.2.2.2.1 bt198.2.2.2.2.1) else (if bt198.2.2.2.2.2.2 = 0 then ((prices_Valid.f k bt198.1 bt198.2.1 bt198.2.2.1 bt198.2.2.2.1 bt198.2.2.2.2.1 3).bind fun t212 => (emendatelaw34_PricesOverride.j0 k a0 a1 a2 y195 (!t212) bt198.1 bt198.2.1 bt198.2.2.1 bt198.2.2.2.1 bt198.2.2.2.2.1)) else (emendatelaw34_PricesOverride.j0 k a0 a1 a2 y195 true bt198.1 bt198.2.1 bt198.2.2.1 bt198.2.2.2.1 bt198.2.2.2.2.1))))) = some r := h
 clear h; obtain ⟨y195, hy195⟩ : ∃ y_ : List ByteArray, y_ = (([(⟨#[97]⟩ : ByteArray), (⟨#[98]⟩ : ByteArray), (⟨#[99]⟩ : ByteArray)] : List ByteArray)) := ⟨_, rfl⟩
 replace H : ((prices_Parse.f k a0 y195).bind fun bt198 => (if (a0.size : Int) > 500 then (emendatelaw34_PricesOverride.j0 k a0 a1 a2 y195 true bt198.1 bt198.2.1 bt198.2.2.1 bt198.2.2.2.1 bt198.2.2.2.2.1) else (if bt198.2.2.2.2.2.2 = 0 then ((prices_Valid.f k bt198.1 bt198.2.1 bt198.2.2.1 bt198.2.2.2.1 bt198.2.2.2.2.1 3).bind fun t212 => (emendatelaw34_PricesOverride.j0 k a0 a1 a2 y195 (!t212) bt198.1 bt198.2.1 bt198.2.2.1 bt198.2.2.2.1 bt198.2.2.2.2.1)) else (emendatelaw34_PricesOverride.j0 k a0 a1 a2 y195 true bt198.1 bt198.2.1 bt198.2.2.1 bt198.2.2.2.1 bt198.2.2.2.2.1)))) = some r := by first | (rw [hy195]; with_reducible exact H) | (have H2_ := (Option.bind_some _ _).symm.trans H; rw [hy195]; with_reducible exact H2_) | (have H2_ := (Option.bind_some _ _).symm.trans H; with_reducible exact H2_) | with_reducible exact H | (rw [hy195]; exact H) | exact H
 have Ny195 := Aside0.mk hy195; clear hy195; replace H := Option.bind_eq_some_iff.mp H; obtain ⟨⟨t198, t201, t204, t207, t208, t209, t210⟩, A40, H⟩ := H; replace H : (if (a0.size : Int) > 500 then (emendatelaw34_PricesOverride.j0 k a0 a1 a2 y195 true t198 t201 t204 t207 t208) else (if t210 = 0 then ((prices_Valid.f k t198 t201 t204 t207 t208 3).bind fun t212 => (emendatelaw34_PricesOverride.j0 k a0 a1 a2 y195 (!t212) t198 t201 t204 t207 t208)) else (emendatelaw34_PricesOverride.j0 k a0 a1 a2 y195 true t198 t201 t204 t207 t208))) = some r := H
 have A4 := Aside0.mk A40; clear A40; have HC5 := Aside0.mk H; clear H
 go_enter Tryz.func7, Tryz.ntmps7
 go_upto_region 3 with (first | ((with_reducible refine gate_dst (N := 19) rfl ?_); refine Kd.R_lit Kd.string _ 9 ?hg (N := 19) ?hd (xs := ([(⟨#[97]⟩ : ByteArray), (⟨#[98]⟩ : ByteArray), (⟨#[99]⟩ : ByteArray)] : List ByteArray)) (inner := [.string (⟨#[97]⟩ : ByteArray), .string (⟨#[98]⟩ : ByteArray), .string (⟨#[99]⟩ : ByteArray)]) (ok := fun _ => True) (okp := fun _ => True) ?hr ?hp (fun _ hk => hk) trivial (Below.refl _ _) (Nat.le_refl _) (by simp) ?_; (case hd => rfl); (case hg => rfl); (case hr => first | (go_simp; done) | (go_simp; rfl)); (case hp => exact (Reps.one (show Kd.M Kd.string _ _ _ (⟨#[97]⟩ : ByteArray) [.string (⟨#[97]⟩ : ByteArray)] from rfl) (Reps.one (show Kd.M Kd.string _ _ _ (⟨#[98]⟩ : ByteArray) [.string (⟨#[98]⟩ : ByteArray)] from rfl) (Reps.one (show Kd.M Kd.string _ _ _ (⟨#[99]⟩ : ByteArray) [.string (⟨#[99]⟩ : ByteArray)] from rfl) (Reps.none _ _))))); intro v196 w6 ho7 hb hg_ hnew_; clear hg_ hnew_; (first | rw [← Ny195.out] at ho7 | (simp only [Int.reduceToNat] at ho7; rw [← Ny195.out] at ho7)); have n0_ := Aside0.mk (Kd.R_lower ho7 (below_size (by repeat (first | (with_reducible first | exact HB.out | apply below_alloc | apply pw_below_drewN | apply below_drew1) | exact HB.out)))); have n1_ := Aside0.mk (below_step (by repeat (first | (with_reducible first | exact HB.out | apply below_alloc | apply pw_below_drewN | apply below_drew1) | exact HB.out)) hb); clear HB; have HO197 := n0_; have HB := n1_; clear n0_ n1_; clear hb ho7; obtain ⟨Ao8, co8, eo8⟩ := Kd.R_slice HO197.out; subst eo8) | ((with_reducible refine gate_callee (f := 17) rfl ?_); refine goesL_ (some 23) rfl rfl Tryz.func17 (by kernel_rfl) rfl #[.string a0, .slice Ao8 y195.length co8] rfl (by (try simp only [List.map_toArray, List.map_cons, List.map_nil]); first | done | rfl | (simp only [List.length_drop, List.length_take]; rfl)) ?_; (with_reducible refine (prices_Parse.calls k a0 _ _ y195 t198 t201 t204 t207 t208 t209 t210 _ ?side1 ?side2 ?side3 A4.out).mono ?_); (case side1 => repeat (first | exact (Kd.R_reads' HO197.out).2.2 | (with_reducible refine Kd.C_alloc ?_ _) | (with_reducible refine Kd.C_drewN ?_ _) | (with_reducible refine Kd.C_drew ?_))); (case side2 => exact (Kd.R_reads' HO197.out).2.1); (case side3 => exact Glob.below HG.out (by repeat (first | (with_reducible first | exact HB.out | apply below_alloc | apply pw_below_drewN | apply below_drew1) | exact HB.out))); rintro e w9 ⟨v199, v202, v205, rfl, ho0, ho1, ho2, hb⟩; refine ⟨_, rfl, ?_⟩; have n0_ := Aside0.mk (Kd.R_below (by (with_reducible repeat (first | apply Kd.R_alloc | apply Kd.R_drewN | apply Kd.R_drew)); exact HO197.out) hb); have n1_ := Aside0.mk (Kd.R_lower ho0 (below_size (by repeat (first | (with_reducible first | exact HB.out | apply below_alloc | apply pw_below_drewN | apply below_drew1) | exact HB.out)))); have n2_ := Aside0.mk (Kd.R_lower ho1 (below_size (by repeat (first | (with_reducible first | exact HB.out | apply below_alloc | apply pw_below_drewN | apply below_drew1) | exact HB.out)))); have n3_ := Aside0.mk (Kd.S_lower ho2 (below_size (by repeat (first | (with_reducible first | exact HB.out | apply below_alloc | apply pw_below_drewN | apply below_drew1) | exact HB.out)))); have n4_ := Aside0.mk (below_step (by repeat (first | (with_reducible first | exact HB.out | apply below_alloc | apply pw_below_drewN | apply below_drew1) | exact HB.out)) hb); clear HO197; clear HB; have HO197 := n0_; have HO200 := n1_; have HO203 := n2_; have HO206 := n3_; have HB := n4_; clear n0_ n1_ n2_ n3_ n4_; (try clear hb); (try clear hb2); (try clear hk); (try clear hi); (try clear ho0); (try clear ho1); (try clear ho2)) | ((with_reducible refine gate_dst (N := 8) rfl ?_); refine box_event ?hg (N := 8) ?hd (cs := #[.slice none 0 0, .slice none 0 0, .slice none 0 0, .int .i64 0, .int .i64 0]) (t := 25) ?hr ?_; (case hd => rfl); (case hg => rfl); (case hr => first | (go_simp; done) | (go_simp; rfl)); intro gb211 hg w10 hbox hb; have n0_ := Aside0.mk (Kd.R_below (by (with_reducible repeat (first | apply Kd.R_alloc | apply Kd.R_drewN | apply Kd.R_drew)); exact HO197.out) hb); have n1_ := Aside0.mk (Kd.R_below (by (with_reducible repeat (first | apply Kd.R_alloc | apply Kd.R_drewN | apply Kd.R_drew)); exact HO200.out) hb); have n2_ := Aside0.mk (Kd.R_below (by (with_reducible repeat (first | apply Kd.R_alloc | apply Kd.R_drewN | apply Kd.R_drew)); exact HO203.out) hb); have n3_ := Aside0.mk (Kd.S_below (by (with_reducible repeat (first | apply Kd.S_alloc | apply Kd.S_drewN | apply Kd.S_drew)); exact HO206.out) hb); have n4_ := Aside0.mk (below_step (by repeat (first | (with_reducible first | exact HB.out | apply below_alloc | apply pw_below_drewN | apply below_drew1) | exact HB.out)) hb); have n5_ := Aside0.mk (hbox); have n6_ := Aside0.mk ((by rw [hg]; exact (below_size (by repeat (first | (with_reducible first | exact HB.out | apply below_alloc | apply pw_below_drewN | apply below_drew1) | exact HB.out))) : w.heap.size ≤ gb211)); have n7_ := Aside0.mk ((by rw [hg]; exact (below_size (by repeat (first | (with_reducible first | exact HB.out | apply below_alloc | apply pw_below_drewN | apply below_drew1) | exact HB.out))) : w.heap.size ≤ gb211)); clear HO197; clear HO200; clear HO203; clear HO206; clear HB; have HO197 := n0_; have HO200 := n1_; have HO203 := n2_; have HO206 := n3_; have HB := n4_; have BK211 := n5_; have GW211 := n6_; have GE211 := n7_; clear n0_ n1_ n2_ n3_ n4_ n5_ n6_ n7_; clear hb hbox hg; obtain ⟨Ao11, co11, eo11⟩ := Kd.R_slice HO200.out; subst eo11; have hcz12_0 : w10.cell? ⟨gb211, 0, none⟩ = some (.slice none 0 0) := (blk_cell BK211.out 0).trans rfl; have hcz12_1 : w10.cell? ⟨gb211, 1, none⟩ = some (.slice none 0 0) := (blk_cell BK211.out 1).trans rfl; have hcz12_2 : w10.cell? ⟨gb211, 2, none⟩ = some (.slice none 0 0) := (blk_cell BK211.out 2).trans rfl; have hcz12_3 : w10.cell? ⟨gb211, 3, none⟩ = some (.int .i64 0) := (blk_cell BK211.out 3).trans rfl; have hcz12_4 : w10.cell? ⟨gb211, 4, none⟩ = some (.int .i64 0) := (blk_cell BK211.out 4).trans rfl; have hfz12_0 := blk_frozen BK211.out 0; have hfz12_1 := blk_frozen BK211.out 1; have hfz12_2 := blk_frozen BK211.out 2; have hfz12_3 := blk_frozen BK211.out 3; have hfz12_4 := blk_frozen BK211.out 4; obtain ⟨Ao13, co13, eo13⟩ := Kd.R_slice HO203.out; subst eo13; obtain ⟨Ao14, co14, eo14⟩ := Kd.S_slice HO206.out; subst eo14))
 (try simp only [Act.put, List.setIfInBounds_toArray, List.set_cons_zero, List.set_cons_succ])
 go_cut [38] (fun v38 wc => ∃ (kq : Nat) (x38_4 : Bool), v38 = .bool x38_4 ∧ Aside0 (emendatelaw34_PricesOverride.j0 kq a0 a1 a2 y195 x38_4 t198 t201 t204 t207 t208 = some r) ∧ Aside0 (kq ≤ k) ∧ Aside0 (Kd.R Kd.string 9 wc w.heap.size (fun _ => True) (.slice Ao8 y195.length co8) y195) ∧ Aside0 (Kd.R (Kd.int .i64) 3 wc w.heap.size (fun k_ => some k_ ≠ ((.slice Ao13 t201.length co13) : Value).ownBlock) (.slice Ao11 t198.length co11) t198) ∧ Aside0 (Kd.R (Kd.int .i64) 3 wc w.heap.size (fun k_ => some k_ ≠ ((.slice Ao11 t198.length co11) : Value).ownBlock) (.slice Ao13 t201.length co13) t201) ∧ Aside0 (Kd.S (Kd.slice 3 (Kd.int .i64)) 22 wc w.heap.size (fun k_ => some k_ ≠ ((.slice Ao11 t198.length co11) : Value).ownBlock ∧ some k_ ≠ ((.slice Ao13 t201.length co13) : Value).ownBlock) (.slice Ao14 t204.length co14) t204) ∧ Aside0 (wc.heap[gb211]? = some (.cells #[(.slice Ao11 t198.length co11), (.slice Ao13 t201.length co13), (.slice Ao14 t204.length co14), .int .i64 t207, .int .i64 t208] 25 (0, 0))) ∧ Aside0 (Below w.heap.size w wc))
 case first =>
  have H := HC5.out; clear HC5
  by_cases c15 : (a0.size : Int) > 500
  rotate_left
  ·
   rw [if_neg c15] at H
   have c15b0 : decide (500 < (a0.size : Int)) = false := decide_eq_false c15; have c15b1 : decide (500 < a0.size) = false := decide_eq_false (by omega)
   clear c15
   (first | rw [c15b0] | (simp only [i64_w, i32_w]; rw [c15b0]) | skip)
   by_cases c16 : t210 = 0
   rotate_left
   ·
    rw [if_neg c16] at H
    have c16b0 : (t210 == 0) = false := beq_eq_false_iff_ne.mpr c16; have c16b1 : (t210 != 0) = true := bne_iff_ne.mpr c16; have H' := Aside0.mk H; clear H
    go_wp2
    go_meet
    case rel => exact ⟨_, (true), (by first | rfl | (simp; done) | (simp [*]; done)), H', ⟨by first | omega | exact Nat.le_refl _⟩, ⟨by (with_reducible repeat (first | apply Kd.R_alloc | apply Kd.R_drewN | apply Kd.R_drew)); exact Kd.R_mono (Kd.R_far (p := ⟨gb211, 4, none⟩) (Kd.R_far (p := ⟨gb211, 3, none⟩) (Kd.R_far (p := ⟨gb211, 2, none⟩) (Kd.R_far (p := ⟨gb211, 1, none⟩) (Kd.R_far (p := ⟨gb211, 0, none⟩) (Kd.R_types HO197.out BK211.out (by decide)) (fun _ hk => hk.2) (.slice Ao11 t198.length co11)) (fun _ hk => hk.2) (.slice Ao13 t201.length co13)) (fun _ hk => hk.2) (.slice Ao14 t204.length co14)) (fun _ hk => hk.2) (.int .i64 t207)) (fun _ hk => hk.2) (.int .i64 t208)) (fun _ hk => trivial)⟩, ⟨by (with_reducible repeat (first | apply Kd.R_alloc | apply Kd.R_drewN | apply Kd.R_drew)); exact Kd.R_mono (Kd.R_far (p := ⟨gb211, 4, none⟩) (Kd.R_far (p := ⟨gb211, 3, none⟩) (Kd.R_far (p := ⟨gb211, 2, none⟩) (Kd.R_far (p := ⟨gb211, 1, none⟩) (Kd.R_far (p := ⟨gb211, 0, none⟩) (Kd.R_types HO200.out BK211.out (by decide)) (fun _ hk => hk.2) (.slice Ao11 t198.length co11)) (fun _ hk => hk.2) (.slice Ao13 t201.length co13)) (fun _ hk => hk.2) (.slice Ao14 t204.length co14)) (fun _ hk => hk.2) (.int .i64 t207)) (fun _ hk => hk.2) (.int .i64 t208)) (fun _ hk => hk.1)⟩, ⟨by (with_reducible repeat (first | apply Kd.R_alloc | apply Kd.R_drewN | apply Kd.R_drew)); exact Kd.R_mono (Kd.R_far (p := ⟨gb211, 4, none⟩) (Kd.R_far (p := ⟨gb211, 3, none⟩) (Kd.R_far (p := ⟨gb211, 2, none⟩) (Kd.R_far (p := ⟨gb211, 1, none⟩) (Kd.R_far (p := ⟨gb211, 0, none⟩) (Kd.R_types HO203.out BK211.out (by decide)) (fun _ hk => hk.2) (.slice Ao11 t198.length co11)) (fun _ hk => hk.2) (.slice Ao13 t201.length co13)) (fun _ hk => hk.2) (.slice Ao14 t204.length co14)) (fun _ hk => hk.2) (.int .i64 t207)) (fun _ hk => hk.2) (.int .i64 t208)) (fun _ hk => hk.1)⟩, ⟨by (with_reducible repeat (first | apply Kd.S_alloc | apply Kd.S_drewN | apply Kd.S_drew)); exact Kd.S_mono (Kd.S_far (p := ⟨gb211, 4, none⟩) (Kd.S_far (p := ⟨gb211, 3, none⟩) (Kd.S_far (p := ⟨gb211, 2, none⟩) (Kd.S_far (p := ⟨gb211, 1, none⟩) (Kd.S_far (p := ⟨gb211, 0, none⟩) (Kd.S_types HO206.out BK211.out (by decide)) (fun _ hk => hk.2) (.slice Ao11 t198.length co11)) (fun _ hk => hk.2) (.slice Ao13 t201.length co13)) (fun _ hk => hk.2) (.slice Ao14 t204.length co14)) (fun _ hk => hk.2) (.int .i64 t207)) (fun _ hk => hk.2) (.int .i64 t208)) (fun _ hk => ⟨hk.1.1, hk.1.2⟩)⟩, ⟨by (with_reducible repeat (first | refine blk_drewN ?_ _ | refine blk_drew ?_ | refine blk_alloc ?_ _)); refine blk_put (cs := #[.slice Ao11 t198.length co11, .slice Ao13 t201.length co13, .slice Ao14 t204.length co14, .int .i64 t207, .int .i64 0]) ?_ 4 _ rfl; (with_reducible repeat (first | refine blk_drewN ?_ _ | refine blk_drew ?_ | refine blk_alloc ?_ _)); refine blk_put (cs := #[.slice Ao11 t198.length co11, .slice Ao13 t201.length co13, .slice Ao14 t204.length co14, .int .i64 0, .int .i64 0]) ?_ 3 _ rfl; (with_reducible repeat (first | refine blk_drewN ?_ _ | refine blk_drew ?_ | refine blk_alloc ?_ _)); refine blk_put (cs := #[.slice Ao11 t198.length co11, .slice Ao13 t201.length co13, .slice none 0 0, .int .i64 0, .int .i64 0]) ?_ 2 _ rfl; (with_reducible repeat (first | refine blk_drewN ?_ _ | refine blk_drew ?_ | refine blk_alloc ?_ _)); refine blk_put (cs := #[.slice Ao11 t198.length co11, .slice none 0 0, .slice none 0 0, .int .i64 0, .int .i64 0]) ?_ 1 _ rfl; (with_reducible repeat (first | refine blk_drewN ?_ _ | refine blk_drew ?_ | refine blk_alloc ?_ _)); refine blk_put (cs := #[.slice none 0 0, .slice none 0 0, .slice none 0 0, .int .i64 0, .int .i64 0]) ?_ 0 _ rfl; (with_reducible repeat (first | refine blk_drewN ?_ _ | refine blk_drew ?_ | refine blk_alloc ?_ _)); exact BK211.out⟩, ⟨by repeat (first | (with_reducible first | exact HB.out | apply below_alloc | apply pw_below_drewN | apply below_drew1 | refine below_set ?_ GE211.out) | exact HB.out)⟩⟩
   rw [if_pos c16] at H
   have c16b0 : (t210 == 0) = true := beq_iff_eq.mpr c16; have c16b1 : (t210 != 0) = false := bne_eq_false_iff_eq.mpr c16; clear c16; replace H := Option.bind_eq_some_iff.mp H; obtain ⟨t212, A170, H⟩ := H; replace H : (emendatelaw34_PricesOverride.j0 k a0 a1 a2 y195 (!t212) t198 t201 t204 t207 t208) = some r := H; have A17 := Aside0.mk A170; clear A170; have H' := Aside0.mk H; clear H; have hcz18_0 : w10.cell? ⟨gb211, 0, none⟩ = some (.slice none 0 0) := (blk_cell BK211.out 0).trans rfl; have hcz18_1 : w10.cell? ⟨gb211, 1, none⟩ = some (.slice none 0 0) := (blk_cell BK211.out 1).trans rfl; have hcz18_2 : w10.cell? ⟨gb211, 2, none⟩ = some (.slice none 0 0) := (blk_cell BK211.out 2).trans rfl; have hcz18_3 : w10.cell? ⟨gb211, 3, none⟩ = some (.int .i64 0) := (blk_cell BK211.out 3).trans rfl; have hcz18_4 : w10.cell? ⟨gb211, 4, none⟩ = some (.int .i64 0) := (blk_cell BK211.out 4).trans rfl; have hfz18_0 := blk_frozen BK211.out 0; have hfz18_1 := blk_frozen BK211.out 1; have hfz18_2 := blk_frozen BK211.out 2; have hfz18_3 := blk_frozen BK211.out 3; have hfz18_4 := blk_frozen BK211.out 4
   go_wp2_with (first | (go_at_call 12; (with_reducible refine (prices_Valid.calls k _ _ t198 _ _ t201 _ _ t204 t207 t208 3 t212 _ ?side1 ?side2 ?side3 ?side4 ?side5 ?side6 A17.out).mono ?_); (case side1 => refine (Kd.R_reads' (e := 3) (base := w.heap.size) (ok := fun k_ => some k_ ≠ (.slice Ao13 t201.length co13 : Value).ownBlock) (n := t198.length) (c := co11) ?_).2.2; exact (by (with_reducible repeat (first | apply Kd.R_alloc | apply Kd.R_drewN | apply Kd.R_drew)); exact (Kd.R_mono (Kd.R_far (p := ⟨gb211, 4, none⟩) (Kd.R_far (p := ⟨gb211, 3, none⟩) (Kd.R_far (p := ⟨gb211, 2, none⟩) (Kd.R_far (p := ⟨gb211, 1, none⟩) (Kd.R_far (p := ⟨gb211, 0, none⟩) (Kd.R_types HO200.out BK211.out (by decide)) (fun _ hk => hk.2) (.slice Ao11 t198.length co11)) (fun _ hk => hk.2) (.slice Ao13 t201.length co13)) (fun _ hk => hk.2) (.slice Ao14 t204.length co14)) (fun _ hk => hk.2) (.int .i64 t207)) (fun _ hk => hk.2) (.int .i64 t208)) (fun _ h_ => h_.1)))); (case side2 => exact (Kd.R_reads' HO200.out).2.1); (case side3 => refine (Kd.R_reads' (e := 3) (base := w.heap.size) (ok := fun k_ => some k_ ≠ (.slice Ao11 t198.length co11 : Value).ownBlock) (n := t201.length) (c := co13) ?_).2.2; exact (by (with_reducible repeat (first | apply Kd.R_alloc | apply Kd.R_drewN | apply Kd.R_drew)); exact (Kd.R_mono (Kd.R_far (p := ⟨gb211, 4, none⟩) (Kd.R_far (p := ⟨gb211, 3, none⟩) (Kd.R_far (p := ⟨gb211, 2, none⟩) (Kd.R_far (p := ⟨gb211, 1, none⟩) (Kd.R_far (p := ⟨gb211, 0, none⟩) (Kd.R_types HO203.out BK211.out (by decide)) (fun _ hk => hk.2) (.slice Ao11 t198.length co11)) (fun _ hk => hk.2) (.slice Ao13 t201.length co13)) (fun _ hk => hk.2) (.slice Ao14 t204.length co14)) (fun _ hk => hk.2) (.int .i64 t207)) (fun _ hk => hk.2) (.int .i64 t208)) (fun _ h_ => h_.1)))); (case side4 => exact (Kd.R_reads' HO203.out).2.1); (case side5 => refine (Kd.S_reads' (e := 22) (base := w.heap.size) (ok := fun k_ => (some k_ ≠ (.slice Ao11 t198.length co11 : Value).ownBlock ∧ some k_ ≠ (.slice Ao13 t201.length co13 : Value).ownBlock)) (n := t204.length) (c := co14) ?_).2.2; exact (by (with_reducible repeat (first | apply Kd.S_alloc | apply Kd.S_drewN | apply Kd.S_drew)); exact (Kd.S_mono (Kd.S_far (p := ⟨gb211, 4, none⟩) (Kd.S_far (p := ⟨gb211, 3, none⟩) (Kd.S_far (p := ⟨gb211, 2, none⟩) (Kd.S_far (p := ⟨gb211, 1, none⟩) (Kd.S_far (p := ⟨gb211, 0, none⟩) (Kd.S_types HO206.out BK211.out (by decide)) (fun _ hk => hk.2) (.slice Ao11 t198.length co11)) (fun _ hk => hk.2) (.slice Ao13 t201.length co13)) (fun _ hk => hk.2) (.slice Ao14 t204.length co14)) (fun _ hk => hk.2) (.int .i64 t207)) (fun _ hk => hk.2) (.int .i64 t208)) (fun _ h_ => h_.1)))); (case side6 => exact (Kd.S_reads' HO206.out).2.1); rintro e w19 ⟨rfl, hb⟩; have n0_ := Aside0.mk (Kd.R_below (by (with_reducible repeat (first | apply Kd.R_alloc | apply Kd.R_drewN | apply Kd.R_drew)); exact (Kd.R_mono (Kd.R_far (p := ⟨gb211, 4, none⟩) (Kd.R_far (p := ⟨gb211, 3, none⟩) (Kd.R_far (p := ⟨gb211, 2, none⟩) (Kd.R_far (p := ⟨gb211, 1, none⟩) (Kd.R_far (p := ⟨gb211, 0, none⟩) (Kd.R_types HO197.out BK211.out (by decide)) (fun _ hk => hk.2) (.slice Ao11 t198.length co11)) (fun _ hk => hk.2) (.slice Ao13 t201.length co13)) (fun _ hk => hk.2) (.slice Ao14 t204.length co14)) (fun _ hk => hk.2) (.int .i64 t207)) (fun _ hk => hk.2) (.int .i64 t208)) (fun _ h_ => h_.1))) hb); have n1_ := Aside0.mk (Kd.R_below (by (with_reducible repeat (first | apply Kd.R_alloc | apply Kd.R_drewN | apply Kd.R_drew)); exact (Kd.R_mono (Kd.R_far (p := ⟨gb211, 4, none⟩) (Kd.R_far (p := ⟨gb211, 3, none⟩) (Kd.R_far (p := ⟨gb211, 2, none⟩) (Kd.R_far (p := ⟨gb211, 1, none⟩) (Kd.R_far (p := ⟨gb211, 0, none⟩) (Kd.R_types HO200.out BK211.out (by decide)) (fun _ hk => hk.2) (.slice Ao11 t198.length co11)) (fun _ hk => hk.2) (.slice Ao13 t201.length co13)) (fun _ hk => hk.2) (.slice Ao14 t204.length co14)) (fun _ hk => hk.2) (.int .i64 t207)) (fun _ hk => hk.2) (.int .i64 t208)) (fun _ h_ => h_.1))) hb); have n2_ := Aside0.mk (Kd.R_below (by (with_reducible repeat (first | apply Kd.R_alloc | apply Kd.R_drewN | apply Kd.R_drew)); exact (Kd.R_mono (Kd.R_far (p := ⟨gb211, 4, none⟩) (Kd.R_far (p := ⟨gb211, 3, none⟩) (Kd.R_far (p := ⟨gb211, 2, none⟩) (Kd.R_far (p := ⟨gb211, 1, none⟩) (Kd.R_far (p := ⟨gb211, 0, none⟩) (Kd.R_types HO203.out BK211.out (by decide)) (fun _ hk => hk.2) (.slice Ao11 t198.length co11)) (fun _ hk => hk.2) (.slice Ao13 t201.length co13)) (fun _ hk => hk.2) (.slice Ao14 t204.length co14)) (fun _ hk => hk.2) (.int .i64 t207)) (fun _ hk => hk.2) (.int .i64 t208)) (fun _ h_ => h_.1))) hb); have n3_ := Aside0.mk (Kd.S_below (by (with_reducible repeat (first | apply Kd.S_alloc | apply Kd.S_drewN | apply Kd.S_drew)); exact (Kd.S_mono (Kd.S_far (p := ⟨gb211, 4, none⟩) (Kd.S_far (p := ⟨gb211, 3, none⟩) (Kd.S_far (p := ⟨gb211, 2, none⟩) (Kd.S_far (p := ⟨gb211, 1, none⟩) (Kd.S_far (p := ⟨gb211, 0, none⟩) (Kd.S_types HO206.out BK211.out (by decide)) (fun _ hk => hk.2) (.slice Ao11 t198.length co11)) (fun _ hk => hk.2) (.slice Ao13 t201.length co13)) (fun _ hk => hk.2) (.slice Ao14 t204.length co14)) (fun _ hk => hk.2) (.int .i64 t207)) (fun _ hk => hk.2) (.int .i64 t208)) (fun _ h_ => h_.1))) hb); have n4_ := Aside0.mk (blk_below (g := gb211) (o := .cells #[.slice Ao11 t198.length co11, .slice Ao13 t201.length co13, .slice Ao14 t204.length co14, .int .i64 t207, .int .i64 t208] 25 (0, 0)) (by (with_reducible repeat (first | refine blk_drewN ?_ _ | refine blk_drew ?_ | refine blk_alloc ?_ _)); refine blk_put (cs := #[.slice Ao11 t198.length co11, .slice Ao13 t201.length co13, .slice Ao14 t204.length co14, .int .i64 t207, .int .i64 0]) ?_ 4 _ rfl; (with_reducible repeat (first | refine blk_drewN ?_ _ | refine blk_drew ?_ | refine blk_alloc ?_ _)); refine blk_put (cs := #[.slice Ao11 t198.length co11, .slice Ao13 t201.length co13, .slice Ao14 t204.length co14, .int .i64 0, .int .i64 0]) ?_ 3 _ rfl; (with_reducible repeat (first | refine blk_drewN ?_ _ | refine blk_drew ?_ | refine blk_alloc ?_ _)); refine blk_put (cs := #[.slice Ao11 t198.length co11, .slice Ao13 t201.length co13, .slice none 0 0, .int .i64 0, .int .i64 0]) ?_ 2 _ rfl; (with_reducible repeat (first | refine blk_drewN ?_ _ | refine blk_drew ?_ | refine blk_alloc ?_ _)); refine blk_put (cs := #[.slice Ao11 t198.length co11, .slice none 0 0, .slice none 0 0, .int .i64 0, .int .i64 0]) ?_ 1 _ rfl; (with_reducible repeat (first | refine blk_drewN ?_ _ | refine blk_drew ?_ | refine blk_alloc ?_ _)); refine blk_put (cs := #[.slice none 0 0, .slice none 0 0, .slice none 0 0, .int .i64 0, .int .i64 0]) ?_ 0 _ rfl; (with_reducible repeat (first | refine blk_drewN ?_ _ | refine blk_drew ?_ | refine blk_alloc ?_ _)); exact BK211.out) hb); have n5_ := Aside0.mk (below_step (by repeat (first | (with_reducible first | exact HB.out | apply below_alloc | apply pw_below_drewN | apply below_drew1 | refine below_set ?_ GE211.out) | exact HB.out)) hb); clear HO197; clear HO200; clear HO203; clear HO206; clear BK211; clear HB; have HO197 := n0_; have HO200 := n1_; have HO203 := n2_; have HO206 := n3_; have BK211 := n4_; have HB := n5_; clear n0_ n1_ n2_ n3_ n4_ n5_; (try clear hb); (try clear hb2); (try clear hk); (try clear hi)))
   go_meet
   case rel => exact ⟨_, (!t212), (by first | rfl | (simp; done) | (simp [*]; done)), H', ⟨by first | omega | exact Nat.le_refl _⟩, ⟨by (with_reducible repeat (first | apply Kd.R_alloc | apply Kd.R_drewN | apply Kd.R_drew)); exact HO197.out⟩, ⟨by (with_reducible repeat (first | apply Kd.R_alloc | apply Kd.R_drewN | apply Kd.R_drew)); exact HO200.out⟩, ⟨by (with_reducible repeat (first | apply Kd.R_alloc | apply Kd.R_drewN | apply Kd.R_drew)); exact HO203.out⟩, ⟨by (with_reducible repeat (first | apply Kd.S_alloc | apply Kd.S_drewN | apply Kd.S_drew)); exact HO206.out⟩, ⟨by (with_reducible repeat (first | refine blk_drewN ?_ _ | refine blk_drew ?_ | refine blk_alloc ?_ _)); exact BK211.out⟩, ⟨by repeat (first | (with_reducible first | exact HB.out | apply below_alloc | apply pw_below_drewN | apply below_drew1 | refine below_set ?_ GE211.out) | exact HB.out)⟩⟩
  rw [if_pos c15] at H
  have c15b0 : decide (500 < (a0.size : Int)) = true := decide_eq_true c15; have c15b1 : decide (500 < a0.size) = true := decide_eq_true (by omega)
  clear c15
  (first | rw [c15b0] | (simp only [i64_w, i32_w]; rw [c15b0]) | skip)
  have H' := Aside0.mk H; clear H
  go_wp2
  go_meet
  case rel => exact ⟨_, (true), (by first | rfl | (simp; done) | (simp [*]; done)), H', ⟨by first | omega | exact Nat.le_refl _⟩, ⟨by (with_reducible repeat (first | apply Kd.R_alloc | apply Kd.R_drewN | apply Kd.R_drew)); exact Kd.R_mono (Kd.R_far (p := ⟨gb211, 4, none⟩) (Kd.R_far (p := ⟨gb211, 3, none⟩) (Kd.R_far (p := ⟨gb211, 2, none⟩) (Kd.R_far (p := ⟨gb211, 1, none⟩) (Kd.R_far (p := ⟨gb211, 0, none⟩) (Kd.R_types HO197.out BK211.out (by decide)) (fun _ hk => hk.2) (.slice Ao11 t198.length co11)) (fun _ hk => hk.2) (.slice Ao13 t201.length co13)) (fun _ hk => hk.2) (.slice Ao14 t204.length co14)) (fun _ hk => hk.2) (.int .i64 t207)) (fun _ hk => hk.2) (.int .i64 t208)) (fun _ hk => trivial)⟩, ⟨by (with_reducible repeat (first | apply Kd.R_alloc | apply Kd.R_drewN | apply Kd.R_drew)); exact Kd.R_mono (Kd.R_far (p := ⟨gb211, 4, none⟩) (Kd.R_far (p := ⟨gb211, 3, none⟩) (Kd.R_far (p := ⟨gb211, 2, none⟩) (Kd.R_far (p := ⟨gb211, 1, none⟩) (Kd.R_far (p := ⟨gb211, 0, none⟩) (Kd.R_types HO200.out BK211.out (by decide)) (fun _ hk => hk.2) (.slice Ao11 t198.length co11)) (fun _ hk => hk.2) (.slice Ao13 t201.length co13)) (fun _ hk => hk.2) (.slice Ao14 t204.length co14)) (fun _ hk => hk.2) (.int .i64 t207)) (fun _ hk => hk.2) (.int .i64 t208)) (fun _ hk => hk.1)⟩, ⟨by (with_reducible repeat (first | apply Kd.R_alloc | apply Kd.R_drewN | apply Kd.R_drew)); exact Kd.R_mono (Kd.R_far (p := ⟨gb211, 4, none⟩) (Kd.R_far (p := ⟨gb211, 3, none⟩) (Kd.R_far (p := ⟨gb211, 2, none⟩) (Kd.R_far (p := ⟨gb211, 1, none⟩) (Kd.R_far (p := ⟨gb211, 0, none⟩) (Kd.R_types HO203.out BK211.out (by decide)) (fun _ hk => hk.2) (.slice Ao11 t198.length co11)) (fun _ hk => hk.2) (.slice Ao13 t201.length co13)) (fun _ hk => hk.2) (.slice Ao14 t204.length co14)) (fun _ hk => hk.2) (.int .i64 t207)) (fun _ hk => hk.2) (.int .i64 t208)) (fun _ hk => hk.1)⟩, ⟨by (with_reducible repeat (first | apply Kd.S_alloc | apply Kd.S_drewN | apply Kd.S_drew)); exact Kd.S_mono (Kd.S_far (p := ⟨gb211, 4, none⟩) (Kd.S_far (p := ⟨gb211, 3, none⟩) (Kd.S_far (p := ⟨gb211, 2, none⟩) (Kd.S_far (p := ⟨gb211, 1, none⟩) (Kd.S_far (p := ⟨gb211, 0, none⟩) (Kd.S_types HO206.out BK211.out (by decide)) (fun _ hk => hk.2) (.slice Ao11 t198.length co11)) (fun _ hk => hk.2) (.slice Ao13 t201.length co13)) (fun _ hk => hk.2) (.slice Ao14 t204.length co14)) (fun _ hk => hk.2) (.int .i64 t207)) (fun _ hk => hk.2) (.int .i64 t208)) (fun _ hk => ⟨hk.1.1, hk.1.2⟩)⟩, ⟨by (with_reducible repeat (first | refine blk_drewN ?_ _ | refine blk_drew ?_ | refine blk_alloc ?_ _)); refine blk_put (cs := #[.slice Ao11 t198.length co11, .slice Ao13 t201.length co13, .slice Ao14 t204.length co14, .int .i64 t207, .int .i64 0]) ?_ 4 _ rfl; (with_reducible repeat (first | refine blk_drewN ?_ _ | refine blk_drew ?_ | refine blk_alloc ?_ _)); refine blk_put (cs := #[.slice Ao11 t198.length co11, .slice Ao13 t201.length co13, .slice Ao14 t204.length co14, .int .i64 0, .int .i64 0]) ?_ 3 _ rfl; (with_reducible repeat (first | refine blk_drewN ?_ _ | refine blk_drew ?_ | refine blk_alloc ?_ _)); refine blk_put (cs := #[.slice Ao11 t198.length co11, .slice Ao13 t201.length co13, .slice none 0 0, .int .i64 0, .int .i64 0]) ?_ 2 _ rfl; (with_reducible repeat (first | refine blk_drewN ?_ _ | refine blk_drew ?_ | refine blk_alloc ?_ _)); refine blk_put (cs := #[.slice Ao11 t198.length co11, .slice none 0 0, .slice none 0 0, .int .i64 0, .int .i64 0]) ?_ 1 _ rfl; (with_reducible repeat (first | refine blk_drewN ?_ _ | refine blk_drew ?_ | refine blk_alloc ?_ _)); refine blk_put (cs := #[.slice none 0 0, .slice none 0 0, .slice none 0 0, .int .i64 0, .int .i64 0]) ?_ 0 _ rfl; (with_reducible repeat (first | refine blk_drewN ?_ _ | refine blk_drew ?_ | refine blk_alloc ?_ _)); exact BK211.out⟩, ⟨by repeat (first | (with_reducible first | exact HB.out | apply below_alloc | apply pw_below_drewN | apply below_drew1 | refine below_set ?_ GE211.out) | exact HB.out)⟩⟩
 case rest =>
  clear HC5
  try clear c1
  try clear p2
  try clear c7
  try clear c15
  try clear c15b0
  try clear c15b1
  try clear c16
  try clear c16b0
  try clear c16b1
  try clear c17
  try clear hcz12_0
  try clear hcz12_1
  try clear hcz12_2
  try clear hcz12_3
  try clear hcz12_4
  try clear hcz18_0
  try clear hcz18_1
  try clear hcz18_2
  try clear hcz18_3
  try clear hcz18_4
  try clear hfz12_0
  try clear hfz12_1
  try clear hfz12_2
  try clear hfz12_3
  try clear hfz12_4
  try clear hfz18_0
  try clear hfz18_1
  try clear hfz18_2
  try clear hfz18_3
  try clear hfz18_4
  obtain ⟨kq, x38_4, rfl, HA, HJ4, HO_7, HO_212000, HO_212001, HO_212002, BK211, HB⟩ := hcut
  cases kq with
  | zero => exact absurd HA.out (by simp [emendatelaw34_PricesOverride.j0])
  | succ kj4 =>
   have H := HA.out; clear HA
   simp only [emendatelaw34_PricesOverride.j0] at H
   by_cases c20 : x38_4 = true
   ·
    subst c20; have H1 : ((emendatelaw34_awake.f).bind fun t213 => (some t213)) = some r := by rw [if_pos rfl] at H; exact H
    clear H; have H := H1; clear H1; replace H := Option.bind_eq_some_iff.mp H; obtain ⟨t213, A210, H⟩ := H; replace H : (some t213) = some r := H; have A21 := Aside0.mk A210; clear A210; obtain rfl := Option.some.inj H
    go_wp2_with (first | ((with_reducible refine gate_callee (f := 10) rfl ?_); refine goesL_ (some 39) rfl rfl Tryz.func10 (by kernel_rfl) rfl #[] rfl (by (try simp only [List.map_toArray, List.map_cons, List.map_nil]); first | done | rfl | (simp only [List.length_drop, List.length_take]; rfl)) ?_; (with_reducible refine (emendatelaw34_awake.calls  t213 _ ?side1 A21.out).mono ?_); (case side1 => exact Glob.below HG.out (by repeat (first | (with_reducible first | exact HB.out | apply below_alloc | apply pw_below_drewN | apply below_drew1 | refine below_set ?_ GE211.out) | exact HB.out))); rintro e w22 ⟨rfl, hb⟩; refine ⟨_, rfl, ?_⟩; have n0_ := Aside0.mk (Kd.R_below (by (with_reducible repeat (first | apply Kd.R_alloc | apply Kd.R_drewN | apply Kd.R_drew)); exact HO_7.out) hb); have n1_ := Aside0.mk (Kd.R_below (by (with_reducible repeat (first | apply Kd.R_alloc | apply Kd.R_drewN | apply Kd.R_drew)); exact HO_212000.out) hb); have n2_ := Aside0.mk (Kd.R_below (by (with_reducible repeat (first | apply Kd.R_alloc | apply Kd.R_drewN | apply Kd.R_drew)); exact HO_212001.out) hb); have n3_ := Aside0.mk (Kd.S_below (by (with_reducible repeat (first | apply Kd.S_alloc | apply Kd.S_drewN | apply Kd.S_drew)); exact HO_212002.out) hb); have n4_ := Aside0.mk (blk_below (g := gb211) (o := .cells #[.slice Ao11 t198.length co11, .slice Ao13 t201.length co13, .slice Ao14 t204.length co14, .int .i64 t207, .int .i64 t208] 25 (0, 0)) (by (with_reducible repeat (first | refine blk_drewN ?_ _ | refine blk_drew ?_ | refine blk_alloc ?_ _)); exact BK211.out) hb); have n5_ := Aside0.mk (below_step (by repeat (first | (with_reducible first | exact HB.out | apply below_alloc | apply pw_below_drewN | apply below_drew1 | refine below_set ?_ GE211.out) | exact HB.out)) hb); clear HO_7; clear HO_212000; clear HO_212001; clear HO_212002; clear BK211; clear HB; have HO_7 := n0_; have HO_212000 := n1_; have HO_212001 := n2_; have HO_212002 := n3_; have BK211 := n4_; have HB := n5_; clear n0_ n1_ n2_ n3_ n4_ n5_; (try clear hb); (try clear hb2); (try clear hk); (try clear hi)))
    go_ret
    exact ⟨by first | rfl | (simp [errW_none, errW_some] <;> rfl) | (simp [*, errW_none, errW_some] <;> rfl), by repeat (first | (with_reducible first | exact HB.out | apply below_alloc | apply pw_below_drewN | apply below_drew1 | refine below_set ?_ GE211.out) | exact HB.out)⟩
   ·
    replace c20 := Bool.eq_false_iff.mpr c20; subst c20
    have H1 : (if 0 ≤ (Int.tmod (wrap64 (a1)) 3) then (if (Int.tmod (wrap64 (a1)) 3) < (y195.length : Int) then (if 8 + (rdOf ByteArray.empty y195 (Int.tmod (wrap64 (a1)) 3)).size ≤ 9223372036854775807 then (if ((⟨#[10, 105, 110, 115, 101, 114, 116, 32]⟩ : ByteArray) ++ (rdOf ByteArray.empty y195 (Int.tmod (wrap64 (a1)) 3))).size + 1 ≤ 9223372036854775807 then ((emendateref16_Decimal.f kj4 (wrap64 (1 + (Int.tmod (wrap64 (a2)) 1000)))).bind fun t215 => (if (((⟨#[10, 105, 110, 115, 101, 114, 116, 32]⟩ : ByteArray) ++ (rdOf ByteArray.empty y195 (Int.tmod (wrap64 (a1)) 3))) ++ (⟨#[32]⟩ : ByteArray)).size + t215.size ≤ 9223372036854775807 then (if ((((⟨#[10, 105, 110, 115, 101, 114, 116, 32]⟩ : ByteArray) ++ (rdOf ByteArray.empty y195 (Int.tmod (wrap64 (a1)) 3))) ++ (⟨#[32]⟩ : ByteArray)) ++ t215).size + 8 ≤ 9223372036854775807 then (if (((((⟨#[10, 105, 110, 115, 101, 114, 116, 32]⟩ : ByteArray) ++ (rdOf ByteArray.empty y195 (Int.tmod (wrap64 (a1)) 3))) ++ (⟨#[32]⟩ : ByteArray)) ++ t215) ++ (⟨#[10, 100, 101, 108, 101, 116, 101, 32]⟩ : ByteArray)).size + (rdOf ByteArray.empty y195 (Int.tmod (wrap64 (a1)) 3)).size ≤ 9223372036854775807 then (if ((((((⟨#[10, 105, 110, 115, 101, 114, 116, 32]⟩ : ByteArray) ++ (rdOf ByteArray.empty y195 (Int.tmod (wrap64 (a1)) 3))) ++ (⟨#[32]⟩ : ByteArray)) ++ t215) ++ (⟨#[10, 100, 101, 108, 101, 116, 101, 32]⟩ : ByteArray)) ++ (rdOf ByteArray.empty y195 (Int.tmod (wrap64 (a1)) 3))).size + 11 ≤ 9223372036854775807 then (if (((((((⟨#[10, 105, 110, 115, 101, 114, 116, 32]⟩ : ByteArray) ++ (rdOf ByteArray.empty y195 (Int.tmod (wrap64 (a1)) 3))) ++ (⟨#[32]⟩ : ByteArray)) ++ t215) ++ (⟨#[10, 100, 101, 108, 101, 116, 101, 32]⟩ : ByteArray)) ++ (rdOf ByteArray.empty y195 (Int.tmod (wrap64 (a1)) 3))) ++ (⟨#[32, 57, 10, 114, 101, 112, 108, 97, 99, 101, 32]⟩ : ByteArray)).size + (rdOf ByteArray.empty y195 (Int.tmod (wrap64 (a1)) 3)).size ≤ 9223372036854775807 then (if ((((((((⟨#[10, 105, 110, 115, 101, 114, 116, 32]⟩ : ByteArray) ++ (rdOf ByteArray.empty y195 (Int.tmod (wrap64 (a1)) 3))) ++ (⟨#[32]⟩ : ByteArray)) ++ t215) ++ (⟨#[10, 100, 101, 108, 101, 116, 101, 32]⟩ : ByteArray)) ++ (rdOf ByteArray.empty y195 (Int.tmod (wrap64 (a1)) 3))) ++ (⟨#[32, 57, 10, 114, 101, 112, 108, 97, 99, 101, 32]⟩ : ByteArray)) ++ (rdOf ByteArray.empty y195 (Int.tmod (wrap64 (a1)) 3))).size + 1 ≤ 9223372036854775807 then (if 0 ≤ (Int.tmod (wrap64 ((Int.tmod (wrap64 (a1)) 3) + 1)) 3) then (if (Int.tmod (wrap64 ((Int.tmod (wrap64 (a1)) 3) + 1)) 3) < (y195.length : Int) then (if (((((((((⟨#[10, 105, 110, 115, 101, 114, 116, 32]⟩ : ByteArray) ++ (rdOf ByteArray.empty y195 (Int.tmod (wrap64 (a1)) 3))) ++ (⟨#[32]⟩ : ByteArray)) ++ t215) ++ (⟨#[10, 100, 101, 108, 101, 116, 101, 32]⟩ : ByteArray)) ++ (rdOf ByteArray.empty y195 (Int.tmod (wrap64 (a1)) 3))) ++ (⟨#[32, 57, 10, 114, 101, 112, 108, 97, 99, 101, 32]⟩ : ByteArray)) ++ (rdOf ByteArray.empty y195 (Int.tmod (wrap64 (a1)) 3))) ++ (⟨#[32]⟩ : ByteArray)).size + (rdOf ByteArray.empty y195 (Int.tmod (wrap64 ((Int.tmod (wrap64 (a1)) 3) + 1)) 3)).size ≤ 9223372036854775807 then (if ((((((((((⟨#[10, 105, 110, 115, 101, 114, 116, 32]⟩ : ByteArray) ++ (rdOf ByteArray.empty y195 (Int.tmod (wrap64 (a1)) 3))) ++ (⟨#[32]⟩ : ByteArray)) ++ t215) ++ (⟨#[10, 100, 101, 108, 101, 116, 101, 32]⟩ : ByteArray)) ++ (rdOf ByteArray.empty y195 (Int.tmod (wrap64 (a1)) 3))) ++ (⟨#[32, 57, 10, 114, 101, 112, 108, 97, 99, 101, 32]⟩ : ByteArray)) ++ (rdOf ByteArray.empty y195 (Int.tmod (wrap64 (a1)) 3))) ++ (⟨#[32]⟩ : ByteArray)) ++ (rdOf ByteArray.empty y195 (Int.tmod (wrap64 ((Int.tmod (wrap64 (a1)) 3) + 1)) 3))).size + 16 ≤ 9223372036854775807 then (if a0.size + (((((((((((⟨#[10, 105, 110, 115, 101, 114, 116, 32]⟩ : ByteArray) ++ (rdOf ByteArray.empty y195 (Int.tmod (wrap64 (a1)) 3))) ++ (⟨#[32]⟩ : ByteArray)) ++ t215) ++ (⟨#[10, 100, 101, 108, 101, 116, 101, 32]⟩ : ByteArray)) ++ (rdOf ByteArray.empty y195 (Int.tmod (wrap64 (a1)) 3))) ++ (⟨#[32, 57, 10, 114, 101, 112, 108, 97, 99, 101, 32]⟩ : ByteArray)) ++ (rdOf ByteArray.empty y195 (Int.tmod (wrap64 (a1)) 3))) ++ (⟨#[32]⟩ : ByteArray)) ++ (rdOf ByteArray.empty y195 (Int.tmod (wrap64 ((Int.tmod (wrap64 (a1)) 3) + 1)) 3))) ++ (⟨#[32, 110, 101, 118, 101, 114, 10, 117, 110, 107, 110, 111, 119, 110, 32, 53]⟩ : ByteArray)).size ≤ 9223372036854775807 then ((prices_Parse.f kj4 (a0 ++ (((((((((((⟨#[10, 105, 110, 115, 101, 114, 116, 32]⟩ : ByteArray) ++ (rdOf ByteArray.empty y195 (Int.tmod (wrap64 (a1)) 3))) ++ (⟨#[32]⟩ : ByteArray)) ++ t215) ++ (⟨#[10, 100, 101, 108, 101, 116, 101, 32]⟩ : ByteArray)) ++ (rdOf ByteArray.empty y195 (Int.tmod (wrap64 (a1)) 3))) ++ (⟨#[32, 57, 10, 114, 101, 112, 108, 97, 99, 101, 32]⟩ : ByteArray)) ++ (rdOf ByteArray.empty y195 (Int.tmod (wrap64 (a1)) 3))) ++ (⟨#[32]⟩ : ByteArray)) ++ (rdOf ByteArray.empty y195 (Int.tmod (wrap64 ((Int.tmod (wrap64 (a1)) 3) + 1)) 3))) ++ (⟨#[32, 110, 101, 118, 101, 114, 10, 117, 110, 107, 110, 111, 119, 110, 32, 53]⟩ : ByteArray))) y195).bind fun bt219 => (if bt219.2.2.2.2.2.2 = 0 then ((prices_Valid.f kj4 bt219.1 bt219.2.1 bt219.2.2.1 bt219.2.2.2.1 bt219.2.2.2.2.1 3).bind fun t233 => (emendatelaw34_PricesOverride.j1 kj4 (Int.tmod (wrap64 (a1)) 3) (wrap64 (1 + (Int.tmod (wrap64 (a2)) 1000))) (!t233) t198 t201 t204 t207 t208 bt219.1 bt219.2.1 bt219.2.2.1 bt219.2.2.2.1 bt219.2.2.2.2.1)) else (emendatelaw34_PricesOverride.j1 kj4 (Int.tmod (wrap64 (a1)) 3) (wrap64 (1 + (Int.tmod (wrap64 (a2)) 1000))) true t198 t201 t204 t207 t208 bt219.1 bt219.2.1 bt219.2.2.1 bt219.2.2.2.1 bt219.2.2.2.2.1))) else (none)) else (none)) else (none)) else (none)) else (none)) else (none)) else (none)) else (none)) else (none)) else (none)) else (none))) else (none)) else (none)) else (none)) else (none)) = some r := by rw [if_neg (show ¬ (false = true) by decide)] at H; exact H
    clear H; have H := H1; clear H1; obtain ⟨ji23, hji23⟩ : ∃ j_ : Int, (Int.tmod (wrap64 (a1)) 3) = j_ := ⟨_, rfl⟩
    replace H : (if 0 ≤ (ji23) then (if (ji23) < (y195.length : Int) then (if 8 + (rdOf ByteArray.empty y195 (ji23)).size ≤ 9223372036854775807 then (if ((⟨#[10, 105, 110, 115, 101, 114, 116, 32]⟩ : ByteArray) ++ (rdOf ByteArray.empty y195 (ji23))).size + 1 ≤ 9223372036854775807 then ((emendateref16_Decimal.f kj4 (wrap64 (1 + (Int.tmod (wrap64 (a2)) 1000)))).bind fun t215 => (if (((⟨#[10, 105, 110, 115, 101, 114, 116, 32]⟩ : ByteArray) ++ (rdOf ByteArray.empty y195 (ji23))) ++ (⟨#[32]⟩ : ByteArray)).size + t215.size ≤ 9223372036854775807 then (if ((((⟨#[10, 105, 110, 115, 101, 114, 116, 32]⟩ : ByteArray) ++ (rdOf ByteArray.empty y195 (ji23))) ++ (⟨#[32]⟩ : ByteArray)) ++ t215).size + 8 ≤ 9223372036854775807 then (if (((((⟨#[10, 105, 110, 115, 101, 114, 116, 32]⟩ : ByteArray) ++ (rdOf ByteArray.empty y195 (ji23))) ++ (⟨#[32]⟩ : ByteArray)) ++ t215) ++ (⟨#[10, 100, 101, 108, 101, 116, 101, 32]⟩ : ByteArray)).size + (rdOf ByteArray.empty y195 (ji23)).size ≤ 9223372036854775807 then (if ((((((⟨#[10, 105, 110, 115, 101, 114, 116, 32]⟩ : ByteArray) ++ (rdOf ByteArray.empty y195 (ji23))) ++ (⟨#[32]⟩ : ByteArray)) ++ t215) ++ (⟨#[10, 100, 101, 108, 101, 116, 101, 32]⟩ : ByteArray)) ++ (rdOf ByteArray.empty y195 (ji23))).size + 11 ≤ 9223372036854775807 then (if (((((((⟨#[10, 105, 110, 115, 101, 114, 116, 32]⟩ : ByteArray) ++ (rdOf ByteArray.empty y195 (ji23))) ++ (⟨#[32]⟩ : ByteArray)) ++ t215) ++ (⟨#[10, 100, 101, 108, 101, 116, 101, 32]⟩ : ByteArray)) ++ (rdOf ByteArray.empty y195 (ji23))) ++ (⟨#[32, 57, 10, 114, 101, 112, 108, 97, 99, 101, 32]⟩ : ByteArray)).size + (rdOf ByteArray.empty y195 (ji23)).size ≤ 9223372036854775807 then (if ((((((((⟨#[10, 105, 110, 115, 101, 114, 116, 32]⟩ : ByteArray) ++ (rdOf ByteArray.empty y195 (ji23))) ++ (⟨#[32]⟩ : ByteArray)) ++ t215) ++ (⟨#[10, 100, 101, 108, 101, 116, 101, 32]⟩ : ByteArray)) ++ (rdOf ByteArray.empty y195 (ji23))) ++ (⟨#[32, 57, 10, 114, 101, 112, 108, 97, 99, 101, 32]⟩ : ByteArray)) ++ (rdOf ByteArray.empty y195 (ji23))).size + 1 ≤ 9223372036854775807 then (if 0 ≤ (Int.tmod (wrap64 ((ji23) + 1)) 3) then (if (Int.tmod (wrap64 ((ji23) + 1)) 3) < (y195.length : Int) then (if (((((((((⟨#[10, 105, 110, 115, 101, 114, 116, 32]⟩ : ByteArray) ++ (rdOf ByteArray.empty y195 (ji23))) ++ (⟨#[32]⟩ : ByteArray)) ++ t215) ++ (⟨#[10, 100, 101, 108, 101, 116, 101, 32]⟩ : ByteArray)) ++ (rdOf ByteArray.empty y195 (ji23))) ++ (⟨#[32, 57, 10, 114, 101, 112, 108, 97, 99, 101, 32]⟩ : ByteArray)) ++ (rdOf ByteArray.empty y195 (ji23))) ++ (⟨#[32]⟩ : ByteArray)).size + (rdOf ByteArray.empty y195 (Int.tmod (wrap64 ((ji23) + 1)) 3)).size ≤ 9223372036854775807 then (if ((((((((((⟨#[10, 105, 110, 115, 101, 114, 116, 32]⟩ : ByteArray) ++ (rdOf ByteArray.empty y195 (ji23))) ++ (⟨#[32]⟩ : ByteArray)) ++ t215) ++ (⟨#[10, 100, 101, 108, 101, 116, 101, 32]⟩ : ByteArray)) ++ (rdOf ByteArray.empty y195 (ji23))) ++ (⟨#[32, 57, 10, 114, 101, 112, 108, 97, 99, 101, 32]⟩ : ByteArray)) ++ (rdOf ByteArray.empty y195 (ji23))) ++ (⟨#[32]⟩ : ByteArray)) ++ (rdOf ByteArray.empty y195 (Int.tmod (wrap64 ((ji23) + 1)) 3))).size + 16 ≤ 9223372036854775807 then (if a0.size + (((((((((((⟨#[10, 105, 110, 115, 101, 114, 116, 32]⟩ : ByteArray) ++ (rdOf ByteArray.empty y195 (ji23))) ++ (⟨#[32]⟩ : ByteArray)) ++ t215) ++ (⟨#[10, 100, 101, 108, 101, 116, 101, 32]⟩ : ByteArray)) ++ (rdOf ByteArray.empty y195 (ji23))) ++ (⟨#[32, 57, 10, 114, 101, 112, 108, 97, 99, 101, 32]⟩ : ByteArray)) ++ (rdOf ByteArray.empty y195 (ji23))) ++ (⟨#[32]⟩ : ByteArray)) ++ (rdOf ByteArray.empty y195 (Int.tmod (wrap64 ((ji23) + 1)) 3))) ++ (⟨#[32, 110, 101, 118, 101, 114, 10, 117, 110, 107, 110, 111, 119, 110, 32, 53]⟩ : ByteArray)).size ≤ 9223372036854775807 then ((prices_Parse.f kj4 (a0 ++ (((((((((((⟨#[10, 105, 110, 115, 101, 114, 116, 32]⟩ : ByteArray) ++ (rdOf ByteArray.empty y195 (ji23))) ++ (⟨#[32]⟩ : ByteArray)) ++ t215) ++ (⟨#[10, 100, 101, 108, 101, 116, 101, 32]⟩ : ByteArray)) ++ (rdOf ByteArray.empty y195 (ji23))) ++ (⟨#[32, 57, 10, 114, 101, 112, 108, 97, 99, 101, 32]⟩ : ByteArray)) ++ (rdOf ByteArray.empty y195 (ji23))) ++ (⟨#[32]⟩ : ByteArray)) ++ (rdOf ByteArray.empty y195 (Int.tmod (wrap64 ((ji23) + 1)) 3))) ++ (⟨#[32, 110, 101, 118, 101, 114, 10, 117, 110, 107, 110, 111, 119, 110, 32, 53]⟩ : ByteArray))) y195).bind fun bt219 => (if bt219.2.2.2.2.2.2 = 0 then ((prices_Valid.f kj4 bt219.1 bt219.2.1 bt219.2.2.1 bt219.2.2.2.1 bt219.2.2.2.2.1 3).bind fun t233 => (emendatelaw34_PricesOverride.j1 kj4 ji23 (wrap64 (1 + (Int.tmod (wrap64 (a2)) 1000))) (!t233) t198 t201 t204 t207 t208 bt219.1 bt219.2.1 bt219.2.2.1 bt219.2.2.2.1 bt219.2.2.2.2.1)) else (emendatelaw34_PricesOverride.j1 kj4 ji23 (wrap64 (1 + (Int.tmod (wrap64 (a2)) 1000))) true t198 t201 t204 t207 t208 bt219.1 bt219.2.1 bt219.2.2.1 bt219.2.2.2.1 bt219.2.2.2.2.1))) else (none)) else (none)) else (none)) else (none)) else (none)) else (none)) else (none)) else (none)) else (none)) else (none)) else (none))) else (none)) else (none)) else (none)) else (none)) = some r := by first | (rw [hji23] at H; exact H) | (simp only [hji23] at H ⊢; exact H)
    by_cases c24 : 0 ≤ (ji23)
    ·
     rw [if_pos c24] at H
     have c24b0 : decide (0 ≤ (ji23)) = true := decide_eq_true c24; clear c24
     by_cases c25 : (ji23) < (y195.length : Int)
     rotate_left
     ·
      rw [if_neg c25] at H
      exact absurd H (by simp)
     rw [if_pos c25] at H
     have c25b0 : decide ((ji23) < (y195.length : Int)) = true := decide_eq_true c25; clear c25
     by_cases c26 : 8 + (rdOf ByteArray.empty y195 (ji23)).size ≤ 9223372036854775807
     rotate_left
     ·
      rw [if_neg c26] at H
      exact absurd H (by simp)
     rw [if_pos c26] at H
     have c26b0 := eq_true c26; have c26b1 : decide (8 + (rdOf ByteArray.empty y195 (ji23)).size ≤ 9223372036854775807) = true := decide_eq_true c26
     try have c26b2 : (9223372036854775807 < 8 + (rdOf ByteArray.empty y195 (ji23)).size) = False := eq_false (Nat.not_lt.2 c26)
     by_cases c27 : ((⟨#[10, 105, 110, 115, 101, 114, 116, 32]⟩ : ByteArray) ++ (rdOf ByteArray.empty y195 (ji23))).size + 1 ≤ 9223372036854775807
     rotate_left
     ·
      rw [if_neg c27] at H
      exact absurd H (by simp)
     rw [if_pos c27] at H
     have c27b0 := eq_true c27; have c27b1 : decide (((⟨#[10, 105, 110, 115, 101, 114, 116, 32]⟩ : ByteArray) ++ (rdOf ByteArray.empty y195 (ji23))).size + 1 ≤ 9223372036854775807) = true := decide_eq_true c27
     try have c27b2 : (9223372036854775807 < ((⟨#[10, 105, 110, 115, 101, 114, 116, 32]⟩ : ByteArray) ++ (rdOf ByteArray.empty y195 (ji23))).size + 1) = False := eq_false (Nat.not_lt.2 c27)
     try have c27b3 : (9223372036854775807 < 8 + (rdOf ByteArray.empty y195 (ji23)).size + 1) = False := eq_false (by have h_ := c27; simp only [ByteArray.size_append] at h_; have e0_ : (⟨#[10, 105, 110, 115, 101, 114, 116, 32]⟩ : ByteArray).size = 8 := rfl; omega)
     replace H := Option.bind_eq_some_iff.mp H; obtain ⟨t215, A280, H⟩ := H
     replace H : (if (((⟨#[10, 105, 110, 115, 101, 114, 116, 32]⟩ : ByteArray) ++ (rdOf ByteArray.empty y195 (ji23))) ++ (⟨#[32]⟩ : ByteArray)).size + t215.size ≤ 9223372036854775807 then (if ((((⟨#[10, 105, 110, 115, 101, 114, 116, 32]⟩ : ByteArray) ++ (rdOf ByteArray.empty y195 (ji23))) ++ (⟨#[32]⟩ : ByteArray)) ++ t215).size + 8 ≤ 9223372036854775807 then (if (((((⟨#[10, 105, 110, 115, 101, 114, 116, 32]⟩ : ByteArray) ++ (rdOf ByteArray.empty y195 (ji23))) ++ (⟨#[32]⟩ : ByteArray)) ++ t215) ++ (⟨#[10, 100, 101, 108, 101, 116, 101, 32]⟩ : ByteArray)).size + (rdOf ByteArray.empty y195 (ji23)).size ≤ 9223372036854775807 then (if ((((((⟨#[10, 105, 110, 115, 101, 114, 116, 32]⟩ : ByteArray) ++ (rdOf ByteArray.empty y195 (ji23))) ++ (⟨#[32]⟩ : ByteArray)) ++ t215) ++ (⟨#[10, 100, 101, 108, 101, 116, 101, 32]⟩ : ByteArray)) ++ (rdOf ByteArray.empty y195 (ji23))).size + 11 ≤ 9223372036854775807 then (if (((((((⟨#[10, 105, 110, 115, 101, 114, 116, 32]⟩ : ByteArray) ++ (rdOf ByteArray.empty y195 (ji23))) ++ (⟨#[32]⟩ : ByteArray)) ++ t215) ++ (⟨#[10, 100, 101, 108, 101, 116, 101, 32]⟩ : ByteArray)) ++ (rdOf ByteArray.empty y195 (ji23))) ++ (⟨#[32, 57, 10, 114, 101, 112, 108, 97, 99, 101, 32]⟩ : ByteArray)).size + (rdOf ByteArray.empty y195 (ji23)).size ≤ 9223372036854775807 then (if ((((((((⟨#[10, 105, 110, 115, 101, 114, 116, 32]⟩ : ByteArray) ++ (rdOf ByteArray.empty y195 (ji23))) ++ (⟨#[32]⟩ : ByteArray)) ++ t215) ++ (⟨#[10, 100, 101, 108, 101, 116, 101, 32]⟩ : ByteArray)) ++ (rdOf ByteArray.empty y195 (ji23))) ++ (⟨#[32, 57, 10, 114, 101, 112, 108, 97, 99, 101, 32]⟩ : ByteArray)) ++ (rdOf ByteArray.empty y195 (ji23))).size + 1 ≤ 9223372036854775807 then (if 0 ≤ (Int.tmod (wrap64 ((ji23) + 1)) 3) then (if (Int.tmod (wrap64 ((ji23) + 1)) 3) < (y195.length : Int) then (if (((((((((⟨#[10, 105, 110, 115, 101, 114, 116, 32]⟩ : ByteArray) ++ (rdOf ByteArray.empty y195 (ji23))) ++ (⟨#[32]⟩ : ByteArray)) ++ t215) ++ (⟨#[10, 100, 101, 108, 101, 116, 101, 32]⟩ : ByteArray)) ++ (rdOf ByteArray.empty y195 (ji23))) ++ (⟨#[32, 57, 10, 114, 101, 112, 108, 97, 99, 101, 32]⟩ : ByteArray)) ++ (rdOf ByteArray.empty y195 (ji23))) ++ (⟨#[32]⟩ : ByteArray)).size + (rdOf ByteArray.empty y195 (Int.tmod (wrap64 ((ji23) + 1)) 3)).size ≤ 9223372036854775807 then (if ((((((((((⟨#[10, 105, 110, 115, 101, 114, 116, 32]⟩ : ByteArray) ++ (rdOf ByteArray.empty y195 (ji23))) ++ (⟨#[32]⟩ : ByteArray)) ++ t215) ++ (⟨#[10, 100, 101, 108, 101, 116, 101, 32]⟩ : ByteArray)) ++ (rdOf ByteArray.empty y195 (ji23))) ++ (⟨#[32, 57, 10, 114, 101, 112, 108, 97, 99, 101, 32]⟩ : ByteArray)) ++ (rdOf ByteArray.empty y195 (ji23))) ++ (⟨#[32]⟩ : ByteArray)) ++ (rdOf ByteArray.empty y195 (Int.tmod (wrap64 ((ji23) + 1)) 3))).size + 16 ≤ 9223372036854775807 then (if a0.size + (((((((((((⟨#[10, 105, 110, 115, 101, 114, 116, 32]⟩ : ByteArray) ++ (rdOf ByteArray.empty y195 (ji23))) ++ (⟨#[32]⟩ : ByteArray)) ++ t215) ++ (⟨#[10, 100, 101, 108, 101, 116, 101, 32]⟩ : ByteArray)) ++ (rdOf ByteArray.empty y195 (ji23))) ++ (⟨#[32, 57, 10, 114, 101, 112, 108, 97, 99, 101, 32]⟩ : ByteArray)) ++ (rdOf ByteArray.empty y195 (ji23))) ++ (⟨#[32]⟩ : ByteArray)) ++ (rdOf ByteArray.empty y195 (Int.tmod (wrap64 ((ji23) + 1)) 3))) ++ (⟨#[32, 110, 101, 118, 101, 114, 10, 117, 110, 107, 110, 111, 119, 110, 32, 53]⟩ : ByteArray)).size ≤ 9223372036854775807 then ((prices_Parse.f kj4 (a0 ++ (((((((((((⟨#[10, 105, 110, 115, 101, 114, 116, 32]⟩ : ByteArray) ++ (rdOf ByteArray.empty y195 (ji23))) ++ (⟨#[32]⟩ : ByteArray)) ++ t215) ++ (⟨#[10, 100, 101, 108, 101, 116, 101, 32]⟩ : ByteArray)) ++ (rdOf ByteArray.empty y195 (ji23))) ++ (⟨#[32, 57, 10, 114, 101, 112, 108, 97, 99, 101, 32]⟩ : ByteArray)) ++ (rdOf ByteArray.empty y195 (ji23))) ++ (⟨#[32]⟩ : ByteArray)) ++ (rdOf ByteArray.empty y195 (Int.tmod (wrap64 ((ji23) + 1)) 3))) ++ (⟨#[32, 110, 101, 118, 101, 114, 10, 117, 110, 107, 110, 111, 119, 110, 32, 53]⟩ : ByteArray))) y195).bind fun bt219 => (if bt219.2.2.2.2.2.2 = 0 then ((prices_Valid.f kj4 bt219.1 bt219.2.1 bt219.2.2.1 bt219.2.2.2.1 bt219.2.2.2.2.1 3).bind fun t233 => (emendatelaw34_PricesOverride.j1 kj4 ji23 (wrap64 (1 + (Int.tmod (wrap64 (a2)) 1000))) (!t233) t198 t201 t204 t207 t208 bt219.1 bt219.2.1 bt219.2.2.1 bt219.2.2.2.1 bt219.2.2.2.2.1)) else (emendatelaw34_PricesOverride.j1 kj4 ji23 (wrap64 (1 + (Int.tmod (wrap64 (a2)) 1000))) true t198 t201 t204 t207 t208 bt219.1 bt219.2.1 bt219.2.2.1 bt219.2.2.2.1 bt219.2.2.2.2.1))) else (none)) else (none)) else (none)) else (none)) else (none)) else (none)) else (none)) else (none)) else (none)) else (none)) else (none)) = some r := H
     have A28 := Aside0.mk A280; clear A280
     by_cases c29 : (((⟨#[10, 105, 110, 115, 101, 114, 116, 32]⟩ : ByteArray) ++ (rdOf ByteArray.empty y195 (ji23))) ++ (⟨#[32]⟩ : ByteArray)).size + t215.size ≤ 9223372036854775807
     rotate_left
     ·
      rw [if_neg c29] at H
      exact absurd H (by simp)
     rw [if_pos c29] at H
     have c29b0 := eq_true c29; have c29b1 : decide ((((⟨#[10, 105, 110, 115, 101, 114, 116, 32]⟩ : ByteArray) ++ (rdOf ByteArray.empty y195 (ji23))) ++ (⟨#[32]⟩ : ByteArray)).size + t215.size ≤ 9223372036854775807) = true := decide_eq_true c29
     try have c29b2 : (9223372036854775807 < (((⟨#[10, 105, 110, 115, 101, 114, 116, 32]⟩ : ByteArray) ++ (rdOf ByteArray.empty y195 (ji23))) ++ (⟨#[32]⟩ : ByteArray)).size + t215.size) = False := eq_false (Nat.not_lt.2 c29)
     try have c29b3 : (9223372036854775807 < 8 + (rdOf ByteArray.empty y195 (ji23)).size + 1 + t215.size) = False := eq_false (by have h_ := c29; simp only [ByteArray.size_append] at h_; have e0_ : (⟨#[10, 105, 110, 115, 101, 114, 116, 32]⟩ : ByteArray).size = 8 := rfl; have e1_ : (⟨#[32]⟩ : ByteArray).size = 1 := rfl; omega)
     by_cases c30 : ((((⟨#[10, 105, 110, 115, 101, 114, 116, 32]⟩ : ByteArray) ++ (rdOf ByteArray.empty y195 (ji23))) ++ (⟨#[32]⟩ : ByteArray)) ++ t215).size + 8 ≤ 9223372036854775807
     rotate_left
     ·
      rw [if_neg c30] at H
      exact absurd H (by simp)
     rw [if_pos c30] at H
     have c30b0 := eq_true c30; have c30b1 : decide (((((⟨#[10, 105, 110, 115, 101, 114, 116, 32]⟩ : ByteArray) ++ (rdOf ByteArray.empty y195 (ji23))) ++ (⟨#[32]⟩ : ByteArray)) ++ t215).size + 8 ≤ 9223372036854775807) = true := decide_eq_true c30
     try have c30b2 : (9223372036854775807 < ((((⟨#[10, 105, 110, 115, 101, 114, 116, 32]⟩ : ByteArray) ++ (rdOf ByteArray.empty y195 (ji23))) ++ (⟨#[32]⟩ : ByteArray)) ++ t215).size + 8) = False := eq_false (Nat.not_lt.2 c30)
     try have c30b3 : (9223372036854775807 < 8 + (rdOf ByteArray.empty y195 (ji23)).size + 1 + t215.size + 8) = False := eq_false (by have h_ := c30; simp only [ByteArray.size_append] at h_; have e0_ : (⟨#[10, 105, 110, 115, 101, 114, 116, 32]⟩ : ByteArray).size = 8 := rfl; have e1_ : (⟨#[32]⟩ : ByteArray).size = 1 := rfl; omega)
     by_cases c31 : (((((⟨#[10, 105, 110, 115, 101, 114, 116, 32]⟩ : ByteArray) ++ (rdOf ByteArray.empty y195 (ji23))) ++ (⟨#[32]⟩ : ByteArray)) ++ t215) ++ (⟨#[10, 100, 101, 108, 101, 116, 101, 32]⟩ : ByteArray)).size + (rdOf ByteArray.empty y195 (ji23)).size ≤ 9223372036854775807
     rotate_left
     ·
      rw [if_neg c31] at H
      exact absurd H (by simp)
     rw [if_pos c31] at H
     have c31b0 := eq_true c31; have c31b1 : decide ((((((⟨#[10, 105, 110, 115, 101, 114, 116, 32]⟩ : ByteArray) ++ (rdOf ByteArray.empty y195 (ji23))) ++ (⟨#[32]⟩ : ByteArray)) ++ t215) ++ (⟨#[10, 100, 101, 108, 101, 116, 101, 32]⟩ : ByteArray)).size + (rdOf ByteArray.empty y195 (ji23)).size ≤ 9223372036854775807) = true := decide_eq_true c31
     try have c31b2 : (9223372036854775807 < (((((⟨#[10, 105, 110, 115, 101, 114, 116, 32]⟩ : ByteArray) ++ (rdOf ByteArray.empty y195 (ji23))) ++ (⟨#[32]⟩ : ByteArray)) ++ t215) ++ (⟨#[10, 100, 101, 108, 101, 116, 101, 32]⟩ : ByteArray)).size + (rdOf ByteArray.empty y195 (ji23)).size) = False := eq_false (Nat.not_lt.2 c31)
     try have c31b3 : (9223372036854775807 < 8 + (rdOf ByteArray.empty y195 (ji23)).size + 1 + t215.size + 8 + (rdOf ByteArray.empty y195 (ji23)).size) = False := eq_false (by have h_ := c31; simp only [ByteArray.size_append] at h_; have e0_ : (⟨#[10, 105, 110, 115, 101, 114, 116, 32]⟩ : ByteArray).size = 8 := rfl; have e1_ : (⟨#[32]⟩ : ByteArray).size = 1 := rfl; have e2_ : (⟨#[10, 100, 101, 108, 101, 116, 101, 32]⟩ : ByteArray).size = 8 := rfl; omega)
     by_cases c32 : ((((((⟨#[10, 105, 110, 115, 101, 114, 116, 32]⟩ : ByteArray) ++ (rdOf ByteArray.empty y195 (ji23))) ++ (⟨#[32]⟩ : ByteArray)) ++ t215) ++ (⟨#[10, 100, 101, 108, 101, 116, 101, 32]⟩ : ByteArray)) ++ (rdOf ByteArray.empty y195 (ji23))).size + 11 ≤ 9223372036854775807
     rotate_left
     ·
      rw [if_neg c32] at H
      exact absurd H (by simp)
     rw [if_pos c32] at H
     have c32b0 := eq_true c32; have c32b1 : decide (((((((⟨#[10, 105, 110, 115, 101, 114, 116, 32]⟩ : ByteArray) ++ (rdOf ByteArray.empty y195 (ji23))) ++ (⟨#[32]⟩ : ByteArray)) ++ t215) ++ (⟨#[10, 100, 101, 108, 101, 116, 101, 32]⟩ : ByteArray)) ++ (rdOf ByteArray.empty y195 (ji23))).size + 11 ≤ 9223372036854775807) = true := decide_eq_true c32
     try have c32b2 : (9223372036854775807 < ((((((⟨#[10, 105, 110, 115, 101, 114, 116, 32]⟩ : ByteArray) ++ (rdOf ByteArray.empty y195 (ji23))) ++ (⟨#[32]⟩ : ByteArray)) ++ t215) ++ (⟨#[10, 100, 101, 108, 101, 116, 101, 32]⟩ : ByteArray)) ++ (rdOf ByteArray.empty y195 (ji23))).size + 11) = False := eq_false (Nat.not_lt.2 c32)
     try have c32b3 : (9223372036854775807 < 8 + (rdOf ByteArray.empty y195 (ji23)).size + 1 + t215.size + 8 + (rdOf ByteArray.empty y195 (ji23)).size + 11) = False := eq_false (by have h_ := c32; simp only [ByteArray.size_append] at h_; have e0_ : (⟨#[10, 105, 110, 115, 101, 114, 116, 32]⟩ : ByteArray).size = 8 := rfl; have e1_ : (⟨#[32]⟩ : ByteArray).size = 1 := rfl; have e2_ : (⟨#[10, 100, 101, 108, 101, 116, 101, 32]⟩ : ByteArray).size = 8 := rfl; omega)
     by_cases c33 : (((((((⟨#[10, 105, 110, 115, 101, 114, 116, 32]⟩ : ByteArray) ++ (rdOf ByteArray.empty y195 (ji23))) ++ (⟨#[32]⟩ : ByteArray)) ++ t215) ++ (⟨#[10, 100, 101, 108, 101, 116, 101, 32]⟩ : ByteArray)) ++ (rdOf ByteArray.empty y195 (ji23))) ++ (⟨#[32, 57, 10, 114, 101, 112, 108, 97, 99, 101, 32]⟩ : ByteArray)).size + (rdOf ByteArray.empty y195 (ji23)).size ≤ 9223372036854775807
     rotate_left
     ·
      rw [if_neg c33] at H
      exact absurd H (by simp)
     rw [if_pos c33] at H
     have c33b0 := eq_true c33; have c33b1 : decide ((((((((⟨#[10, 105, 110, 115, 101, 114, 116, 32]⟩ : ByteArray) ++ (rdOf ByteArray.empty y195 (ji23))) ++ (⟨#[32]⟩ : ByteArray)) ++ t215) ++ (⟨#[10, 100, 101, 108, 101, 116, 101, 32]⟩ : ByteArray)) ++ (rdOf ByteArray.empty y195 (ji23))) ++ (⟨#[32, 57, 10, 114, 101, 112, 108, 97, 99, 101, 32]⟩ : ByteArray)).size + (rdOf ByteArray.empty y195 (ji23)).size ≤ 9223372036854775807) = true := decide_eq_true c33
     try have c33b2 : (9223372036854775807 < (((((((⟨#[10, 105, 110, 115, 101, 114, 116, 32]⟩ : ByteArray) ++ (rdOf ByteArray.empty y195 (ji23))) ++ (⟨#[32]⟩ : ByteArray)) ++ t215) ++ (⟨#[10, 100, 101, 108, 101, 116, 101, 32]⟩ : ByteArray)) ++ (rdOf ByteArray.empty y195 (ji23))) ++ (⟨#[32, 57, 10, 114, 101, 112, 108, 97, 99, 101, 32]⟩ : ByteArray)).size + (rdOf ByteArray.empty y195 (ji23)).size) = False := eq_false (Nat.not_lt.2 c33)
     try have c33b3 : (9223372036854775807 < 8 + (rdOf ByteArray.empty y195 (ji23)).size + 1 + t215.size + 8 + (rdOf ByteArray.empty y195 (ji23)).size + 11 + (rdOf ByteArray.empty y195 (ji23)).size) = False := eq_false (by have h_ := c33; simp only [ByteArray.size_append] at h_; have e0_ : (⟨#[10, 105, 110, 115, 101, 114, 116, 32]⟩ : ByteArray).size = 8 := rfl; have e1_ : (⟨#[32]⟩ : ByteArray).size = 1 := rfl; have e2_ : (⟨#[10, 100, 101, 108, 101, 116, 101, 32]⟩ : ByteArray).size = 8 := rfl; have e3_ : (⟨#[32, 57, 10, 114, 101, 112, 108, 97, 99, 101, 32]⟩ : ByteArray).size = 11 := rfl; omega)
     by_cases c34 : ((((((((⟨#[10, 105, 110, 115, 101, 114, 116, 32]⟩ : ByteArray) ++ (rdOf ByteArray.empty y195 (ji23))) ++ (⟨#[32]⟩ : ByteArray)) ++ t215) ++ (⟨#[10, 100, 101, 108, 101, 116, 101, 32]⟩ : ByteArray)) ++ (rdOf ByteArray.empty y195 (ji23))) ++ (⟨#[32, 57, 10, 114, 101, 112, 108, 97, 99, 101, 32]⟩ : ByteArray)) ++ (rdOf ByteArray.empty y195 (ji23))).size + 1 ≤ 9223372036854775807
     rotate_left
     ·
      rw [if_neg c34] at H
      exact absurd H (by simp)
     rw [if_pos c34] at H
     have c34b0 := eq_true c34; have c34b1 : decide (((((((((⟨#[10, 105, 110, 115, 101, 114, 116, 32]⟩ : ByteArray) ++ (rdOf ByteArray.empty y195 (ji23))) ++ (⟨#[32]⟩ : ByteArray)) ++ t215) ++ (⟨#[10, 100, 101, 108, 101, 116, 101, 32]⟩ : ByteArray)) ++ (rdOf ByteArray.empty y195 (ji23))) ++ (⟨#[32, 57, 10, 114, 101, 112, 108, 97, 99, 101, 32]⟩ : ByteArray)) ++ (rdOf ByteArray.empty y195 (ji23))).size + 1 ≤ 9223372036854775807) = true := decide_eq_true c34
     try have c34b2 : (9223372036854775807 < ((((((((⟨#[10, 105, 110, 115, 101, 114, 116, 32]⟩ : ByteArray) ++ (rdOf ByteArray.empty y195 (ji23))) ++ (⟨#[32]⟩ : ByteArray)) ++ t215) ++ (⟨#[10, 100, 101, 108, 101, 116, 101, 32]⟩ : ByteArray)) ++ (rdOf ByteArray.empty y195 (ji23))) ++ (⟨#[32, 57, 10, 114, 101, 112, 108, 97, 99, 101, 32]⟩ : ByteArray)) ++ (rdOf ByteArray.empty y195 (ji23))).size + 1) = False := eq_false (Nat.not_lt.2 c34)
     try have c34b3 : (9223372036854775807 < 8 + (rdOf ByteArray.empty y195 (ji23)).size + 1 + t215.size + 8 + (rdOf ByteArray.empty y195 (ji23)).size + 11 + (rdOf ByteArray.empty y195 (ji23)).size + 1) = False := eq_false (by have h_ := c34; simp only [ByteArray.size_append] at h_; have e0_ : (⟨#[10, 105, 110, 115, 101, 114, 116, 32]⟩ : ByteArray).size = 8 := rfl; have e1_ : (⟨#[32]⟩ : ByteArray).size = 1 := rfl; have e2_ : (⟨#[10, 100, 101, 108, 101, 116, 101, 32]⟩ : ByteArray).size = 8 := rfl; have e3_ : (⟨#[32, 57, 10, 114, 101, 112, 108, 97, 99, 101, 32]⟩ : ByteArray).size = 11 := rfl; omega)
     obtain ⟨ji35, hji35⟩ : ∃ j_ : Int, (Int.tmod (wrap64 ((ji23) + 1)) 3) = j_ := ⟨_, rfl⟩
     replace H : (if 0 ≤ (ji35) then (if (ji35) < (y195.length : Int) then (if (((((((((⟨#[10, 105, 110, 115, 101, 114, 116, 32]⟩ : ByteArray) ++ (rdOf ByteArray.empty y195 (ji23))) ++ (⟨#[32]⟩ : ByteArray)) ++ t215) ++ (⟨#[10, 100, 101, 108, 101, 116, 101, 32]⟩ : ByteArray)) ++ (rdOf ByteArray.empty y195 (ji23))) ++ (⟨#[32, 57, 10, 114, 101, 112, 108, 97, 99, 101, 32]⟩ : ByteArray)) ++ (rdOf ByteArray.empty y195 (ji23))) ++ (⟨#[32]⟩ : ByteArray)).size + (rdOf ByteArray.empty y195 (ji35)).size ≤ 9223372036854775807 then (if ((((((((((⟨#[10, 105, 110, 115, 101, 114, 116, 32]⟩ : ByteArray) ++ (rdOf ByteArray.empty y195 (ji23))) ++ (⟨#[32]⟩ : ByteArray)) ++ t215) ++ (⟨#[10, 100, 101, 108, 101, 116, 101, 32]⟩ : ByteArray)) ++ (rdOf ByteArray.empty y195 (ji23))) ++ (⟨#[32, 57, 10, 114, 101, 112, 108, 97, 99, 101, 32]⟩ : ByteArray)) ++ (rdOf ByteArray.empty y195 (ji23))) ++ (⟨#[32]⟩ : ByteArray)) ++ (rdOf ByteArray.empty y195 (ji35))).size + 16 ≤ 9223372036854775807 then (if a0.size + (((((((((((⟨#[10, 105, 110, 115, 101, 114, 116, 32]⟩ : ByteArray) ++ (rdOf ByteArray.empty y195 (ji23))) ++ (⟨#[32]⟩ : ByteArray)) ++ t215) ++ (⟨#[10, 100, 101, 108, 101, 116, 101, 32]⟩ : ByteArray)) ++ (rdOf ByteArray.empty y195 (ji23))) ++ (⟨#[32, 57, 10, 114, 101, 112, 108, 97, 99, 101, 32]⟩ : ByteArray)) ++ (rdOf ByteArray.empty y195 (ji23))) ++ (⟨#[32]⟩ : ByteArray)) ++ (rdOf ByteArray.empty y195 (ji35))) ++ (⟨#[32, 110, 101, 118, 101, 114, 10, 117, 110, 107, 110, 111, 119, 110, 32, 53]⟩ : ByteArray)).size ≤ 9223372036854775807 then ((prices_Parse.f kj4 (a0 ++ (((((((((((⟨#[10, 105, 110, 115, 101, 114, 116, 32]⟩ : ByteArray) ++ (rdOf ByteArray.empty y195 (ji23))) ++ (⟨#[32]⟩ : ByteArray)) ++ t215) ++ (⟨#[10, 100, 101, 108, 101, 116, 101, 32]⟩ : ByteArray)) ++ (rdOf ByteArray.empty y195 (ji23))) ++ (⟨#[32, 57, 10, 114, 101, 112, 108, 97, 99, 101, 32]⟩ : ByteArray)) ++ (rdOf ByteArray.empty y195 (ji23))) ++ (⟨#[32]⟩ : ByteArray)) ++ (rdOf ByteArray.empty y195 (ji35))) ++ (⟨#[32, 110, 101, 118, 101, 114, 10, 117, 110, 107, 110, 111, 119, 110, 32, 53]⟩ : ByteArray))) y195).bind fun bt219 => (if bt219.2.2.2.2.2.2 = 0 then ((prices_Valid.f kj4 bt219.1 bt219.2.1 bt219.2.2.1 bt219.2.2.2.1 bt219.2.2.2.2.1 3).bind fun t233 => (emendatelaw34_PricesOverride.j1 kj4 ji23 (wrap64 (1 + (Int.tmod (wrap64 (a2)) 1000))) (!t233) t198 t201 t204 t207 t208 bt219.1 bt219.2.1 bt219.2.2.1 bt219.2.2.2.1 bt219.2.2.2.2.1)) else (emendatelaw34_PricesOverride.j1 kj4 ji23 (wrap64 (1 + (Int.tmod (wrap64 (a2)) 1000))) true t198 t201 t204 t207 t208 bt219.1 bt219.2.1 bt219.2.2.1 bt219.2.2.2.1 bt219.2.2.2.2.1))) else (none)) else (none)) else (none)) else (none)) else (none)) = some r := by first | (rw [hji35] at H; exact H) | (simp only [hji35] at H ⊢; exact H)
     (try rw [hji35] at A28)
     by_cases c36 : 0 ≤ (ji35)
     rotate_left
     ·
      rw [if_neg c36] at H
      exact absurd H (by simp)
     rw [if_pos c36] at H
     have c36b0 : decide (0 ≤ (ji35)) = true := decide_eq_true c36; clear c36
     by_cases c37 : (ji35) < (y195.length : Int)
     rotate_left
     ·
      rw [if_neg c37] at H
      exact absurd H (by simp)
     rw [if_pos c37] at H
     have c37b0 : decide ((ji35) < (y195.length : Int)) = true := decide_eq_true c37; clear c37
     by_cases c38 : (((((((((⟨#[10, 105, 110, 115, 101, 114, 116, 32]⟩ : ByteArray) ++ (rdOf ByteArray.empty y195 (ji23))) ++ (⟨#[32]⟩ : ByteArray)) ++ t215) ++ (⟨#[10, 100, 101, 108, 101, 116, 101, 32]⟩ : ByteArray)) ++ (rdOf ByteArray.empty y195 (ji23))) ++ (⟨#[32, 57, 10, 114, 101, 112, 108, 97, 99, 101, 32]⟩ : ByteArray)) ++ (rdOf ByteArray.empty y195 (ji23))) ++ (⟨#[32]⟩ : ByteArray)).size + (rdOf ByteArray.empty y195 (ji35)).size ≤ 9223372036854775807
     rotate_left
     ·
      rw [if_neg c38] at H
      exact absurd H (by simp)
     rw [if_pos c38] at H
     have c38b0 := eq_true c38; have c38b1 : decide ((((((((((⟨#[10, 105, 110, 115, 101, 114, 116, 32]⟩ : ByteArray) ++ (rdOf ByteArray.empty y195 (ji23))) ++ (⟨#[32]⟩ : ByteArray)) ++ t215) ++ (⟨#[10, 100, 101, 108, 101, 116, 101, 32]⟩ : ByteArray)) ++ (rdOf ByteArray.empty y195 (ji23))) ++ (⟨#[32, 57, 10, 114, 101, 112, 108, 97, 99, 101, 32]⟩ : ByteArray)) ++ (rdOf ByteArray.empty y195 (ji23))) ++ (⟨#[32]⟩ : ByteArray)).size + (rdOf ByteArray.empty y195 (ji35)).size ≤ 9223372036854775807) = true := decide_eq_true c38
     try have c38b2 : (9223372036854775807 < (((((((((⟨#[10, 105, 110, 115, 101, 114, 116, 32]⟩ : ByteArray) ++ (rdOf ByteArray.empty y195 (ji23))) ++ (⟨#[32]⟩ : ByteArray)) ++ t215) ++ (⟨#[10, 100, 101, 108, 101, 116, 101, 32]⟩ : ByteArray)) ++ (rdOf ByteArray.empty y195 (ji23))) ++ (⟨#[32, 57, 10, 114, 101, 112, 108, 97, 99, 101, 32]⟩ : ByteArray)) ++ (rdOf ByteArray.empty y195 (ji23))) ++ (⟨#[32]⟩ : ByteArray)).size + (rdOf ByteArray.empty y195 (ji35)).size) = False := eq_false (Nat.not_lt.2 c38)
     try have c38b3 : (9223372036854775807 < 8 + (rdOf ByteArray.empty y195 (ji23)).size + 1 + t215.size + 8 + (rdOf ByteArray.empty y195 (ji23)).size + 11 + (rdOf ByteArray.empty y195 (ji23)).size + 1 + (rdOf ByteArray.empty y195 (ji35)).size) = False := eq_false (by have h_ := c38; simp only [ByteArray.size_append] at h_; have e0_ : (⟨#[10, 105, 110, 115, 101, 114, 116, 32]⟩ : ByteArray).size = 8 := rfl; have e1_ : (⟨#[32]⟩ : ByteArray).size = 1 := rfl; have e2_ : (⟨#[10, 100, 101, 108, 101, 116, 101, 32]⟩ : ByteArray).size = 8 := rfl; have e3_ : (⟨#[32, 57, 10, 114, 101, 112, 108, 97, 99, 101, 32]⟩ : ByteArray).size = 11 := rfl; omega)
     by_cases c39 : ((((((((((⟨#[10, 105, 110, 115, 101, 114, 116, 32]⟩ : ByteArray) ++ (rdOf ByteArray.empty y195 (ji23))) ++ (⟨#[32]⟩ : ByteArray)) ++ t215) ++ (⟨#[10, 100, 101, 108, 101, 116, 101, 32]⟩ : ByteArray)) ++ (rdOf ByteArray.empty y195 (ji23))) ++ (⟨#[32, 57, 10, 114, 101, 112, 108, 97, 99, 101, 32]⟩ : ByteArray)) ++ (rdOf ByteArray.empty y195 (ji23))) ++ (⟨#[32]⟩ : ByteArray)) ++ (rdOf ByteArray.empty y195 (ji35))).size + 16 ≤ 9223372036854775807
     rotate_left
     ·
      rw [if_neg c39] at H
      exact absurd H (by simp)
     rw [if_pos c39] at H
     have c39b0 := eq_true c39; have c39b1 : decide (((((((((((⟨#[10, 105, 110, 115, 101, 114, 116, 32]⟩ : ByteArray) ++ (rdOf ByteArray.empty y195 (ji23))) ++ (⟨#[32]⟩ : ByteArray)) ++ t215) ++ (⟨#[10, 100, 101, 108, 101, 116, 101, 32]⟩ : ByteArray)) ++ (rdOf ByteArray.empty y195 (ji23))) ++ (⟨#[32, 57, 10, 114, 101, 112, 108, 97, 99, 101, 32]⟩ : ByteArray)) ++ (rdOf ByteArray.empty y195 (ji23))) ++ (⟨#[32]⟩ : ByteArray)) ++ (rdOf ByteArray.empty y195 (ji35))).size + 16 ≤ 9223372036854775807) = true := decide_eq_true c39
     try have c39b2 : (9223372036854775807 < ((((((((((⟨#[10, 105, 110, 115, 101, 114, 116, 32]⟩ : ByteArray) ++ (rdOf ByteArray.empty y195 (ji23))) ++ (⟨#[32]⟩ : ByteArray)) ++ t215) ++ (⟨#[10, 100, 101, 108, 101, 116, 101, 32]⟩ : ByteArray)) ++ (rdOf ByteArray.empty y195 (ji23))) ++ (⟨#[32, 57, 10, 114, 101, 112, 108, 97, 99, 101, 32]⟩ : ByteArray)) ++ (rdOf ByteArray.empty y195 (ji23))) ++ (⟨#[32]⟩ : ByteArray)) ++ (rdOf ByteArray.empty y195 (ji35))).size + 16) = False := eq_false (Nat.not_lt.2 c39)
     try have c39b3 : (9223372036854775807 < 8 + (rdOf ByteArray.empty y195 (ji23)).size + 1 + t215.size + 8 + (rdOf ByteArray.empty y195 (ji23)).size + 11 + (rdOf ByteArray.empty y195 (ji23)).size + 1 + (rdOf ByteArray.empty y195 (ji35)).size + 16) = False := eq_false (by have h_ := c39; simp only [ByteArray.size_append] at h_; have e0_ : (⟨#[10, 105, 110, 115, 101, 114, 116, 32]⟩ : ByteArray).size = 8 := rfl; have e1_ : (⟨#[32]⟩ : ByteArray).size = 1 := rfl; have e2_ : (⟨#[10, 100, 101, 108, 101, 116, 101, 32]⟩ : ByteArray).size = 8 := rfl; have e3_ : (⟨#[32, 57, 10, 114, 101, 112, 108, 97, 99, 101, 32]⟩ : ByteArray).size = 11 := rfl; omega)
     by_cases c40 : a0.size + (((((((((((⟨#[10, 105, 110, 115, 101, 114, 116, 32]⟩ : ByteArray) ++ (rdOf ByteArray.empty y195 (ji23))) ++ (⟨#[32]⟩ : ByteArray)) ++ t215) ++ (⟨#[10, 100, 101, 108, 101, 116, 101, 32]⟩ : ByteArray)) ++ (rdOf ByteArray.empty y195 (ji23))) ++ (⟨#[32, 57, 10, 114, 101, 112, 108, 97, 99, 101, 32]⟩ : ByteArray)) ++ (rdOf ByteArray.empty y195 (ji23))) ++ (⟨#[32]⟩ : ByteArray)) ++ (rdOf ByteArray.empty y195 (ji35))) ++ (⟨#[32, 110, 101, 118, 101, 114, 10, 117, 110, 107, 110, 111, 119, 110, 32, 53]⟩ : ByteArray)).size ≤ 9223372036854775807
     rotate_left
     ·
      rw [if_neg c40] at H
      exact absurd H (by simp)
     rw [if_pos c40] at H
     have c40b0 := eq_true c40; have c40b1 : decide (a0.size + (((((((((((⟨#[10, 105, 110, 115, 101, 114, 116, 32]⟩ : ByteArray) ++ (rdOf ByteArray.empty y195 (ji23))) ++ (⟨#[32]⟩ : ByteArray)) ++ t215) ++ (⟨#[10, 100, 101, 108, 101, 116, 101, 32]⟩ : ByteArray)) ++ (rdOf ByteArray.empty y195 (ji23))) ++ (⟨#[32, 57, 10, 114, 101, 112, 108, 97, 99, 101, 32]⟩ : ByteArray)) ++ (rdOf ByteArray.empty y195 (ji23))) ++ (⟨#[32]⟩ : ByteArray)) ++ (rdOf ByteArray.empty y195 (ji35))) ++ (⟨#[32, 110, 101, 118, 101, 114, 10, 117, 110, 107, 110, 111, 119, 110, 32, 53]⟩ : ByteArray)).size ≤ 9223372036854775807) = true := decide_eq_true c40
     try have c40b2 : (9223372036854775807 < a0.size + (((((((((((⟨#[10, 105, 110, 115, 101, 114, 116, 32]⟩ : ByteArray) ++ (rdOf ByteArray.empty y195 (ji23))) ++ (⟨#[32]⟩ : ByteArray)) ++ t215) ++ (⟨#[10, 100, 101, 108, 101, 116, 101, 32]⟩ : ByteArray)) ++ (rdOf ByteArray.empty y195 (ji23))) ++ (⟨#[32, 57, 10, 114, 101, 112, 108, 97, 99, 101, 32]⟩ : ByteArray)) ++ (rdOf ByteArray.empty y195 (ji23))) ++ (⟨#[32]⟩ : ByteArray)) ++ (rdOf ByteArray.empty y195 (ji35))) ++ (⟨#[32, 110, 101, 118, 101, 114, 10, 117, 110, 107, 110, 111, 119, 110, 32, 53]⟩ : ByteArray)).size) = False := eq_false (Nat.not_lt.2 c40)
     replace H := Option.bind_eq_some_iff.mp H; obtain ⟨⟨t219, t222, t225, t228, t229, t230, t231⟩, A410, H⟩ := H; replace H : (if t231 = 0 then ((prices_Valid.f kj4 t219 t222 t225 t228 t229 3).bind fun t233 => (emendatelaw34_PricesOverride.j1 kj4 ji23 (wrap64 (1 + (Int.tmod (wrap64 (a2)) 1000))) (!t233) t198 t201 t204 t207 t208 t219 t222 t225 t228 t229)) else (emendatelaw34_PricesOverride.j1 kj4 ji23 (wrap64 (1 + (Int.tmod (wrap64 (a2)) 1000))) true t198 t201 t204 t207 t208 t219 t222 t225 t228 t229)) = some r := H
     have A41 := Aside0.mk A410; clear A410; have HC42 := Aside0.mk H; clear H
     try go_wp2
     have n0_ := Aside0.mk (Kd.R_drew HO_7.out); have n1_ := Aside0.mk (Kd.R_drew HO_212000.out); have n2_ := Aside0.mk (Kd.R_drew HO_212001.out); have n3_ := Aside0.mk (Kd.S_drew HO_212002.out); have n4_ := Aside0.mk (blk_drew BK211.out); have n5_ := Aside0.mk (below_drew1 HB.out); clear HO_7; clear HO_212000; clear HO_212001; clear HO_212002; clear BK211; clear HB; have HO_7 := n0_; have HO_212000 := n1_; have HO_212001 := n2_; have HO_212002 := n3_; have BK211 := n4_; have HB := n5_; clear n0_ n1_ n2_ n3_ n4_ n5_; have p214 : 0 ≤ ((ji23) : Int) := of_decide_eq_true (by first | (with_reducible assumption) | assumption)
     have q214 : (ji23) < (y195.length : Int) := of_decide_eq_true (by first | (with_reducible assumption) | assumption)
     obtain ⟨ad214, e214, hx214_0⟩ := Kd.at_string (Kd.R_reads' HO_7.out).2.2 (ji23) p214 q214
     cases e214
     replace p214 := eq_true p214; replace q214 := eq_true q214; have p216 : 0 ≤ ((ji23) : Int) := of_decide_eq_true (by first | (with_reducible assumption) | assumption)
     have q216 : (ji23) < (y195.length : Int) := of_decide_eq_true (by first | (with_reducible assumption) | assumption)
     obtain ⟨ad216, e216, hx216_0⟩ := Kd.at_string (Kd.R_reads' HO_7.out).2.2 (ji23) p216 q216; obtain rfl : ad214 = ad216 := (by injection e216)
     replace p216 := eq_true p216; replace q216 := eq_true q216; have p217 : 0 ≤ ((ji23) : Int) := of_decide_eq_true (by first | (with_reducible assumption) | assumption)
     have q217 : (ji23) < (y195.length : Int) := of_decide_eq_true (by first | (with_reducible assumption) | assumption)
     obtain ⟨ad217, e217, hx217_0⟩ := Kd.at_string (Kd.R_reads' HO_7.out).2.2 (ji23) p217 q217; obtain rfl : ad214 = ad217 := (by injection e217)
     replace p217 := eq_true p217; replace q217 := eq_true q217; have p218 : 0 ≤ ((ji35) : Int) := of_decide_eq_true (by first | (with_reducible assumption) | assumption)
     have q218 : (ji35) < (y195.length : Int) := of_decide_eq_true (by first | (with_reducible assumption) | assumption)
     obtain ⟨ad218, e218, hx218_0⟩ := Kd.at_string (Kd.R_reads' HO_7.out).2.2 (ji35) p218 q218; obtain rfl : ad214 = ad218 := (by injection e218)
     replace p218 := eq_true p218; replace q218 := eq_true q218
     refine start_ (n := 31) (S := fun w' => w'.cell? (ad214.add ((ji23)).toNat) = some (.string (rdOf ByteArray.empty y195 (ji23))) ∧ w'.cell? (ad214.add ((ji23)).toNat) = some (.string (rdOf ByteArray.empty y195 (ji23))) ∧ w'.cell? (ad214.add ((ji23)).toNat) = some (.string (rdOf ByteArray.empty y195 (ji23))) ∧ w'.cell? (ad214.add ((ji35)).toNat) = some (.string (rdOf ByteArray.empty y195 (ji35)))) (ds := []) #[false, false, false, false, false, false, false, false, false, false, false, false, false, false, false, false, false, false, false, false, false, false, false, false, false, false, false, false, false, false, false] (by kernel_rfl) rfl rfl ⟨hx214_0, hx216_0, hx217_0, hx218_0⟩ (fun hHeld => ?_); refine with_tabW emendatelaw34_PricesOverride.tab6 emendatelaw34_PricesOverride.bits6 (fun HT_ HW_ => ?_)
     generalize wc.drew = w43 at HO_7 HO_212000 HO_212001 HO_212002 BK211 HB hx214_0 hx216_0 hx217_0 hx218_0 hHeld ⊢
     refine pure_ (i := 0) (N := some 47) (v := ?_) (a' := ?_) #[true, false, false, false, false, false, false, false, false, false, false, false, false, false, false, false, false, false, false, false, false, false, false, false, false, false, false, false, false, false, false] rfl rfl (any_of HT_.out (by kernel_rfl)) (fun _ _ _ h => h) (Or.inl ⟨by rfl, ?_⟩) ?_ ?_
     rotate_left
     ·
      intro w'
      go_simp
      with_reducible rfl
     rotate_left
     ·
      simp only [Act.put, List.setIfInBounds_toArray, List.set_cons_zero, List.set_cons_succ, i64_w, i32_w]
      rfl
     refine pure_ (i := 1) (N := some 48) (v := ?_) (a' := ?_) #[true, true, false, false, false, false, false, false, false, false, false, false, false, false, false, false, false, false, false, false, false, false, false, false, false, false, false, false, false, false, false] rfl rfl (any_of HT_.out (by kernel_rfl)) (fun _ _ _ h => h) (Or.inl ⟨by rfl, ?_⟩) ?_ ?_
     rotate_left
     ·
      intro w'
      go_simp
      with_reducible rfl
     rotate_left
     ·
      simp only [Act.put, List.setIfInBounds_toArray, List.set_cons_zero, List.set_cons_succ, i64_w, i32_w]
      rfl
     refine pure_ (i := 2) (N := some 49) (v := ?_) (a' := ?_) #[true, true, true, false, false, false, false, false, false, false, false, false, false, false, false, false, false, false, false, false, false, false, false, false, false, false, false, false, false, false, false] rfl rfl (any_of HT_.out (by kernel_rfl)) (fun _ _ _ h => h) (Or.inl ⟨by rfl, ?_⟩) ?_ ?_
     rotate_left
     ·
      intro w'
      go_simp
      with_reducible rfl
     rotate_left
     ·
      simp only [Act.put, List.setIfInBounds_toArray, List.set_cons_zero, List.set_cons_succ, i64_w, i32_w]
      rfl
     refine pure_ (i := 6) (N := some 53) (v := ?_) (a' := ?_) #[true, true, true, false, false, false, true, false, false, false, false, false, false, false, false, false, false, false, false, false, false, false, false, false, false, false, false, false, false, false, false] rfl rfl (any_of HT_.out (by kernel_rfl)) (fun _ _ _ h => h) (Or.inl ⟨by rfl, ?_⟩) ?_ ?_
     rotate_left
     ·
      intro w'
      go_simp
      with_reducible rfl
     rotate_left
     ·
      simp only [Act.put, List.setIfInBounds_toArray, List.set_cons_zero, List.set_cons_succ, i64_w, i32_w]
      rfl
     refine pure_ (i := 10) (N := some 57) (v := ?_) (a' := ?_) #[true, true, true, false, false, false, true, false, false, false, true, false, false, false, false, false, false, false, false, false, false, false, false, false, false, false, false, false, false, false, false] rfl rfl (any_of HT_.out (by kernel_rfl)) (fun _ _ _ h => h) (Or.inl ⟨by rfl, ?_⟩) ?_ ?_
     rotate_left
     ·
      intro w'
      go_simp
      with_reducible rfl
     rotate_left
     ·
      simp only [Act.put, List.setIfInBounds_toArray, List.set_cons_zero, List.set_cons_succ, i64_w, i32_w]
      rfl
     refine pure_ (i := 11) (N := some 58) (v := ?_) (a' := ?_) #[true, true, true, false, false, false, true, false, false, false, true, true, false, false, false, false, false, false, false, false, false, false, false, false, false, false, false, false, false, false, false] rfl rfl (any_of HT_.out (by kernel_rfl)) (fun _ _ _ h => h) (Or.inl ⟨by rfl, ?_⟩) ?_ ?_
     rotate_left
     ·
      intro w'
      go_simp
      with_reducible rfl
     rotate_left
     ·
      simp only [Act.put, List.setIfInBounds_toArray, List.set_cons_zero, List.set_cons_succ, i64_w, i32_w]
      rfl
     refine pure_ (i := 12) (N := some 59) (v := ?_) (a' := ?_) #[true, true, true, false, false, false, true, false, false, false, true, true, true, false, false, false, false, false, false, false, false, false, false, false, false, false, false, false, false, false, false] rfl rfl (any_of HT_.out (by kernel_rfl)) (fun _ _ _ h => h) (Or.inl ⟨by rfl, ?_⟩) ?_ ?_
     rotate_left
     ·
      intro w'
      go_simp
      with_reducible rfl
     rotate_left
     ·
      simp only [Act.put, List.setIfInBounds_toArray, List.set_cons_zero, List.set_cons_succ, i64_w, i32_w]
      rfl
     refine pure_ (i := 16) (N := some 63) (v := ?_) (a' := ?_) #[true, true, true, false, false, false, true, false, false, false, true, true, true, false, false, false, true, false, false, false, false, false, false, false, false, false, false, false, false, false, false] rfl rfl (any_of HT_.out (by kernel_rfl)) (fun _ _ _ h => h) (Or.inl ⟨by rfl, ?_⟩) ?_ ?_
     rotate_left
     ·
      intro w'
      go_simp
      with_reducible rfl
     rotate_left
     ·
      simp only [Act.put, List.setIfInBounds_toArray, List.set_cons_zero, List.set_cons_succ, i64_w, i32_w]
      rfl
     refine pure_ (i := 17) (N := some 64) (v := ?_) (a' := ?_) #[true, true, true, false, false, false, true, false, false, false, true, true, true, false, false, false, true, true, false, false, false, false, false, false, false, false, false, false, false, false, false] rfl rfl (any_of HT_.out (by kernel_rfl)) (fun _ _ _ h => h) (Or.inl ⟨by rfl, ?_⟩) ?_ ?_
     rotate_left
     ·
      intro w'
      go_simp
      with_reducible rfl
     rotate_left
     ·
      simp only [Act.put, List.setIfInBounds_toArray, List.set_cons_zero, List.set_cons_succ, i64_w, i32_w]
      rfl
     refine pure_ (i := 18) (N := some 65) (v := ?_) (a' := ?_) #[true, true, true, false, false, false, true, false, false, false, true, true, true, false, false, false, true, true, true, false, false, false, false, false, false, false, false, false, false, false, false] rfl rfl (any_of HT_.out (by kernel_rfl)) (fun _ _ _ h => h) (Or.inl ⟨by rfl, ?_⟩) ?_ ?_
     rotate_left
     ·
      intro w'
      go_simp
      with_reducible rfl
     rotate_left
     ·
      simp only [Act.put, List.setIfInBounds_toArray, List.set_cons_zero, List.set_cons_succ, i64_w, i32_w]
      rfl
     refine pure_ (i := 22) (N := some 69) (v := ?_) (a' := ?_) #[true, true, true, false, false, false, true, false, false, false, true, true, true, false, false, false, true, true, true, false, false, false, true, false, false, false, false, false, false, false, false] rfl rfl (any_of HT_.out (by kernel_rfl)) (fun _ _ _ h => h) (Or.inl ⟨by rfl, ?_⟩) ?_ ?_
     rotate_left
     ·
      intro w'
      go_simp
      with_reducible rfl
     rotate_left
     ·
      simp only [Act.put, List.setIfInBounds_toArray, List.set_cons_zero, List.set_cons_succ, i64_w, i32_w]
      rfl
     refine pure_ (i := 23) (N := some 70) (v := ?_) (a' := ?_) #[true, true, true, false, false, false, true, false, false, false, true, true, true, false, false, false, true, true, true, false, false, false, true, true, false, false, false, false, false, false, false] rfl rfl (any_of HT_.out (by kernel_rfl)) (fun _ _ _ h => h) (Or.inl ⟨by rfl, ?_⟩) ?_ ?_
     rotate_left
     ·
      intro w'
      go_simp
      with_reducible rfl
     rotate_left
     ·
      simp only [Act.put, List.setIfInBounds_toArray, List.set_cons_zero, List.set_cons_succ, i64_w, i32_w]
      rfl
     refine pure_ (i := 24) (N := some 71) (v := ?_) (a' := ?_) #[true, true, true, false, false, false, true, false, false, false, true, true, true, false, false, false, true, true, true, false, false, false, true, true, true, false, false, false, false, false, false] rfl rfl (any_of HT_.out (by kernel_rfl)) (fun _ _ _ h => h) (Or.inl ⟨by rfl, ?_⟩) ?_ ?_
     rotate_left
     ·
      intro w'
      go_simp
      with_reducible rfl
     rotate_left
     ·
      simp only [Act.put, List.setIfInBounds_toArray, List.set_cons_zero, List.set_cons_succ, i64_w, i32_w]
      rfl
     refine pure_ (i := 25) (N := some 72) (v := ?_) (a' := ?_) #[true, true, true, false, false, false, true, false, false, false, true, true, true, false, false, false, true, true, true, false, false, false, true, true, true, true, false, false, false, false, false] rfl rfl (any_of HT_.out (by kernel_rfl)) (fun _ _ _ h => h) (Or.inl ⟨by rfl, ?_⟩) ?_ ?_
     rotate_left
     ·
      intro w'
      go_simp
      with_reducible rfl
     rotate_left
     ·
      simp only [Act.put, List.setIfInBounds_toArray, List.set_cons_zero, List.set_cons_succ, i64_w, i32_w]
      rfl
     refine pure_ (i := 26) (N := some 73) (v := ?_) (a' := ?_) #[true, true, true, false, false, false, true, false, false, false, true, true, true, false, false, false, true, true, true, false, false, false, true, true, true, true, true, false, false, false, false] rfl rfl (any_of HT_.out (by kernel_rfl)) (fun _ _ _ h => h) (Or.inl ⟨by rfl, ?_⟩) ?_ ?_
     rotate_left
     ·
      intro w'
      go_simp
      with_reducible rfl
     rotate_left
     ·
      simp only [Act.put, List.setIfInBounds_toArray, List.set_cons_zero, List.set_cons_succ, i64_w, i32_w]
      rfl
     refine take_ (i := 3) (N := some 50) (v := ?_) (a' := ?_) #[true, true, true, true, false, false, true, false, false, false, true, true, true, false, false, false, true, true, true, false, false, false, true, true, true, true, true, false, false, false, false] rfl rfl (take_ofW HT_.out HW_.out (by kernel_rfl)) (fun _ _ _ h => h) (Or.inl ⟨by rfl, ?_⟩) hHeld ?_ ?_
     rotate_left
     ·
      rintro w' ⟨s0, s1, s2, s3⟩
      go_simp
      with_reducible rfl
     rotate_left
     ·
      simp only [Act.put, List.setIfInBounds_toArray, List.set_cons_zero, List.set_cons_succ, i64_w, i32_w]
      rfl
     refine pure_ (i := 4) (N := some 51) (v := ?_) (a' := ?_) #[true, true, true, true, true, false, true, false, false, false, true, true, true, false, false, false, true, true, true, false, false, false, true, true, true, true, true, false, false, false, false] rfl rfl (any_of HT_.out (by kernel_rfl)) (fun _ _ _ h => h) (Or.inl ⟨by rfl, ?_⟩) ?_ ?_
     rotate_left
     ·
      intro w'
      go_simp
      with_reducible rfl
     rotate_left
     ·
      simp only [Act.put, List.setIfInBounds_toArray, List.set_cons_zero, List.set_cons_succ, i64_w, i32_w]
      rfl
     refine pure_ (i := 5) (N := some 52) (v := ?_) (a' := ?_) #[true, true, true, true, true, true, true, false, false, false, true, true, true, false, false, false, true, true, true, false, false, false, true, true, true, true, true, false, false, false, false] rfl rfl (any_of HT_.out (by kernel_rfl)) (fun _ _ _ h => h) (Or.inl ⟨by rfl, ?_⟩) ?_ ?_
     rotate_left
     ·
      intro w'
      go_simp
      with_reducible rfl
     rotate_left
     ·
      simp only [Act.put, List.setIfInBounds_toArray, List.set_cons_zero, List.set_cons_succ, i64_w, i32_w]
      rfl
     refine take_ (i := 13) (N := some 60) (v := ?_) (a' := ?_) #[true, true, true, true, true, true, true, false, false, false, true, true, true, true, false, false, true, true, true, false, false, false, true, true, true, true, true, false, false, false, false] rfl rfl (take_ofW HT_.out HW_.out (by kernel_rfl)) (fun _ _ _ h => h) (Or.inl ⟨by rfl, ?_⟩) hHeld ?_ ?_
     rotate_left
     ·
      rintro w' ⟨s0, s1, s2, s3⟩
      go_simp
      with_reducible rfl
     rotate_left
     ·
      simp only [Act.put, List.setIfInBounds_toArray, List.set_cons_zero, List.set_cons_succ, i64_w, i32_w]
      rfl
     refine take_ (i := 19) (N := some 66) (v := ?_) (a' := ?_) #[true, true, true, true, true, true, true, false, false, false, true, true, true, true, false, false, true, true, true, true, false, false, true, true, true, true, true, false, false, false, false] rfl rfl (take_ofW HT_.out HW_.out (by kernel_rfl)) (fun _ _ _ h => h) (Or.inl ⟨by rfl, ?_⟩) hHeld ?_ ?_
     rotate_left
     ·
      rintro w' ⟨s0, s1, s2, s3⟩
      go_simp
      with_reducible rfl
     rotate_left
     ·
      simp only [Act.put, List.setIfInBounds_toArray, List.set_cons_zero, List.set_cons_succ, i64_w, i32_w]
      rfl
     refine take_ (i := 27) (N := some 74) (v := ?_) (a' := ?_) #[true, true, true, true, true, true, true, false, false, false, true, true, true, true, false, false, true, true, true, true, false, false, true, true, true, true, true, true, false, false, false] rfl rfl (take_ofW HT_.out HW_.out (by kernel_rfl)) (fun _ _ _ h => h) (Or.inl ⟨by rfl, ?_⟩) hHeld ?_ ?_
     rotate_left
     ·
      rintro w' ⟨s0, s1, s2, s3⟩
      go_simp
      with_reducible rfl
     rotate_left
     ·
      simp only [Act.put, List.setIfInBounds_toArray, List.set_cons_zero, List.set_cons_succ, i64_w, i32_w]
      rfl
     refine one_ (i := 7) (N := some 54) #[true, true, true, true, true, true, true, true, false, false, true, true, true, true, false, false, true, true, true, true, false, false, true, true, true, true, true, true, false, false, false] rfl rfl (one_of HT_.out (by kernel_rfl)) (by decide) (fun K hK => ?_)
     refine goes_ Tryz.func21 (by kernel_rfl) rfl #[.int .i64 (wrap64 (1 + (Int.tmod (wrap64 (a2)) 1000)))] (by rfl) rfl rfl (by (try simp only [List.map_toArray, List.map_cons, List.map_nil]); first | done | rfl | (simp only [List.length_drop, List.length_take]; rfl)) ?_
     with_reducible refine (emendateref16_Decimal.calls kj4 (wrap64 (1 + (Int.tmod (wrap64 (a2)) 1000))) t215 _ A28.out).mono ?_
     rintro e w44 ⟨rfl, hb⟩; have HS0_ := (hb.cell (World.block_lt_of_cell? _ _ (hHeld.1))).trans (hHeld.1); have HS1_ := (hb.cell (World.block_lt_of_cell? _ _ (hHeld.2.1))).trans (hHeld.2.1); have HS2_ := (hb.cell (World.block_lt_of_cell? _ _ (hHeld.2.2.1))).trans (hHeld.2.2.1); have HS3_ := (hb.cell (World.block_lt_of_cell? _ _ (hHeld.2.2.2))).trans (hHeld.2.2.2)
     refine ⟨_, rfl, ?_⟩
     have n0_ := Aside0.mk (Kd.R_below (by (with_reducible repeat (first | apply Kd.R_alloc | apply Kd.R_drewN | apply Kd.R_drew)); exact HO_7.out) hb)
     have n1_ := Aside0.mk (Kd.R_below (by (with_reducible repeat (first | apply Kd.R_alloc | apply Kd.R_drewN | apply Kd.R_drew)); exact HO_212000.out) hb)
     have n2_ := Aside0.mk (Kd.R_below (by (with_reducible repeat (first | apply Kd.R_alloc | apply Kd.R_drewN | apply Kd.R_drew)); exact HO_212001.out) hb)
     have n3_ := Aside0.mk (Kd.S_below (by (with_reducible repeat (first | apply Kd.S_alloc | apply Kd.S_drewN | apply Kd.S_drew)); exact HO_212002.out) hb)
     have n4_ := Aside0.mk (blk_below (g := gb211) (o := .cells #[.slice Ao11 t198.length co11, .slice Ao13 t201.length co13, .slice Ao14 t204.length co14, .int .i64 t207, .int .i64 t208] 25 (0, 0)) (by (with_reducible repeat (first | refine blk_drewN ?_ _ | refine blk_drew ?_ | refine blk_alloc ?_ _)); exact BK211.out) hb)
     have n5_ := Aside0.mk (below_step (by repeat (first | (with_reducible first | exact HB.out | apply below_alloc | apply pw_below_drewN | apply below_drew1 | refine below_set ?_ GE211.out) | exact HB.out)) hb)
     clear HO_7; clear HO_212000; clear HO_212001; clear HO_212002; clear BK211; clear HB; have HO_7 := n0_; have HO_212000 := n1_; have HO_212001 := n2_; have HO_212002 := n3_; have BK211 := n4_; have HB := n5_; clear n0_ n1_ n2_ n3_ n4_ n5_; (try clear hb); (try clear hb2); (try clear hk); (try clear hi)
     refine hK.out _ _ ⟨HS0_, HS1_, HS2_, HS3_⟩ (fun hHeld => ?_)
     clear hK K
     refine norm_ (a' := ?_) ?_ ?_
     rotate_left
     ·
      show Act.put _ (some 54) _ = _
      simp only [Act.put, List.setIfInBounds_toArray, List.set_cons_zero, List.set_cons_succ, i64_w, i32_w]
      rfl
     refine pure_ (i := 8) (N := some 55) (v := ?_) (a' := ?_) #[true, true, true, true, true, true, true, true, true, false, true, true, true, true, false, false, true, true, true, true, false, false, true, true, true, true, true, true, false, false, false] rfl rfl (any_of HT_.out (by kernel_rfl)) (fun _ _ _ h => h) (Or.inl ⟨by rfl, ?_⟩) ?_ ?_
     rotate_left
     ·
      intro w'
      go_simp
      with_reducible rfl
     rotate_left
     ·
      simp only [Act.put, List.setIfInBounds_toArray, List.set_cons_zero, List.set_cons_succ, i64_w, i32_w]
      rfl
     refine pure_ (i := 9) (N := some 56) (v := ?_) (a' := ?_) #[true, true, true, true, true, true, true, true, true, true, true, true, true, true, false, false, true, true, true, true, false, false, true, true, true, true, true, true, false, false, false] rfl rfl (any_of HT_.out (by kernel_rfl)) (fun _ _ _ h => h) (Or.inl ⟨by rfl, ?_⟩) ?_ ?_
     rotate_left
     ·
      intro w'
      go_simp
      with_reducible rfl
     rotate_left
     ·
      simp only [Act.put, List.setIfInBounds_toArray, List.set_cons_zero, List.set_cons_succ, i64_w, i32_w]
      rfl
     refine pure_ (i := 14) (N := some 61) (v := ?_) (a' := ?_) #[true, true, true, true, true, true, true, true, true, true, true, true, true, true, true, false, true, true, true, true, false, false, true, true, true, true, true, true, false, false, false] rfl rfl (any_of HT_.out (by kernel_rfl)) (fun _ _ _ h => h) (Or.inl ⟨by rfl, ?_⟩) ?_ ?_
     rotate_left
     ·
      intro w'
      go_simp
      with_reducible rfl
     rotate_left
     ·
      simp only [Act.put, List.setIfInBounds_toArray, List.set_cons_zero, List.set_cons_succ, i64_w, i32_w]
      rfl
     refine pure_ (i := 15) (N := some 62) (v := ?_) (a' := ?_) #[true, true, true, true, true, true, true, true, true, true, true, true, true, true, true, true, true, true, true, true, false, false, true, true, true, true, true, true, false, false, false] rfl rfl (any_of HT_.out (by kernel_rfl)) (fun _ _ _ h => h) (Or.inl ⟨by rfl, ?_⟩) ?_ ?_
     rotate_left
     ·
      intro w'
      go_simp
      with_reducible rfl
     rotate_left
     ·
      simp only [Act.put, List.setIfInBounds_toArray, List.set_cons_zero, List.set_cons_succ, i64_w, i32_w]
      rfl
     refine pure_ (i := 20) (N := some 67) (v := ?_) (a' := ?_) #[true, true, true, true, true, true, true, true, true, true, true, true, true, true, true, true, true, true, true, true, true, false, true, true, true, true, true, true, false, false, false] rfl rfl (any_of HT_.out (by kernel_rfl)) (fun _ _ _ h => h) (Or.inl ⟨by rfl, ?_⟩) ?_ ?_
     rotate_left
     ·
      intro w'
      go_simp
      with_reducible rfl
     rotate_left
     ·
      simp only [Act.put, List.setIfInBounds_toArray, List.set_cons_zero, List.set_cons_succ, i64_w, i32_w]
      rfl
     refine pure_ (i := 21) (N := some 68) (v := ?_) (a' := ?_) #[true, true, true, true, true, true, true, true, true, true, true, true, true, true, true, true, true, true, true, true, true, true, true, true, true, true, true, true, false, false, false] rfl rfl (any_of HT_.out (by kernel_rfl)) (fun _ _ _ h => h) (Or.inl ⟨by rfl, ?_⟩) ?_ ?_
     rotate_left
     ·
      intro w'
      go_simp
      with_reducible rfl
     rotate_left
     ·
      simp only [Act.put, List.setIfInBounds_toArray, List.set_cons_zero, List.set_cons_succ, i64_w, i32_w]
      rfl
     refine pure_ (i := 28) (N := some 75) (v := ?_) (a' := ?_) #[true, true, true, true, true, true, true, true, true, true, true, true, true, true, true, true, true, true, true, true, true, true, true, true, true, true, true, true, true, false, false] rfl rfl (any_of HT_.out (by kernel_rfl)) (fun _ _ _ h => h) (Or.inl ⟨by rfl, ?_⟩) ?_ ?_
     rotate_left
     ·
      intro w'
      go_simp
      with_reducible rfl
     rotate_left
     ·
      simp only [Act.put, List.setIfInBounds_toArray, List.set_cons_zero, List.set_cons_succ, i64_w, i32_w]
      rfl
     refine pure_ (i := 29) (N := some 76) (v := ?_) (a' := ?_) #[true, true, true, true, true, true, true, true, true, true, true, true, true, true, true, true, true, true, true, true, true, true, true, true, true, true, true, true, true, true, false] rfl rfl (any_of HT_.out (by kernel_rfl)) (fun _ _ _ h => h) (Or.inl ⟨by rfl, ?_⟩) ?_ ?_
     rotate_left
     ·
      intro w'
      go_simp
      with_reducible rfl
     rotate_left
     ·
      simp only [Act.put, List.setIfInBounds_toArray, List.set_cons_zero, List.set_cons_succ, i64_w, i32_w]
      rfl
     refine pure_ (i := 30) (N := some 13) (v := ?_) (a' := ?_) #[true, true, true, true, true, true, true, true, true, true, true, true, true, true, true, true, true, true, true, true, true, true, true, true, true, true, true, true, true, true, true] rfl rfl (any_of HT_.out (by kernel_rfl)) (fun _ _ _ h => h) (Or.inl ⟨by rfl, ?_⟩) ?_ ?_
     rotate_left
     ·
      intro w'
      go_simp
      with_reducible rfl
     rotate_left
     ·
      simp only [Act.put, List.setIfInBounds_toArray, List.set_cons_zero, List.set_cons_succ, i64_w, i32_w]
      rfl
     refine done_ (done_of HT_.out (by kernel_rfl)) ?_
     go_upto_region 8 with (first | ((with_reducible refine gate_callee (f := 17) rfl ?_); refine goesL_ (some 82) rfl rfl Tryz.func17 (by kernel_rfl) rfl #[.string (a0 ++ (((((((((((⟨#[10, 105, 110, 115, 101, 114, 116, 32]⟩ : ByteArray) ++ (rdOf ByteArray.empty y195 (ji23))) ++ (⟨#[32]⟩ : ByteArray)) ++ t215) ++ (⟨#[10, 100, 101, 108, 101, 116, 101, 32]⟩ : ByteArray)) ++ (rdOf ByteArray.empty y195 (ji23))) ++ (⟨#[32, 57, 10, 114, 101, 112, 108, 97, 99, 101, 32]⟩ : ByteArray)) ++ (rdOf ByteArray.empty y195 (ji23))) ++ (⟨#[32]⟩ : ByteArray)) ++ (rdOf ByteArray.empty y195 (ji35))) ++ (⟨#[32, 110, 101, 118, 101, 114, 10, 117, 110, 107, 110, 111, 119, 110, 32, 53]⟩ : ByteArray))), .slice (some ad214) y195.length co8] rfl (by (try simp only [List.map_toArray, List.map_cons, List.map_nil]); first | done | (simp only [hji23, hji35]; rfl) | rfl | (simp only [List.length_drop, List.length_take]; rfl)) ?_; (with_reducible refine (prices_Parse.calls kj4 (a0 ++ (((((((((((⟨#[10, 105, 110, 115, 101, 114, 116, 32]⟩ : ByteArray) ++ (rdOf ByteArray.empty y195 (ji23))) ++ (⟨#[32]⟩ : ByteArray)) ++ t215) ++ (⟨#[10, 100, 101, 108, 101, 116, 101, 32]⟩ : ByteArray)) ++ (rdOf ByteArray.empty y195 (ji23))) ++ (⟨#[32, 57, 10, 114, 101, 112, 108, 97, 99, 101, 32]⟩ : ByteArray)) ++ (rdOf ByteArray.empty y195 (ji23))) ++ (⟨#[32]⟩ : ByteArray)) ++ (rdOf ByteArray.empty y195 (ji35))) ++ (⟨#[32, 110, 101, 118, 101, 114, 10, 117, 110, 107, 110, 111, 119, 110, 32, 53]⟩ : ByteArray))) _ _ y195 t219 t222 t225 t228 t229 t230 t231 _ ?side1 ?side2 ?side3 A41.out).mono ?_); (case side1 => repeat (first | exact (Kd.R_reads' HO_7.out).2.2 | (with_reducible refine Kd.C_alloc ?_ _) | (with_reducible refine Kd.C_drewN ?_ _) | (with_reducible refine Kd.C_drew ?_))); (case side2 => exact (Kd.R_reads' HO_7.out).2.1); (case side3 => exact Glob.below HG.out (by repeat (first | (with_reducible first | exact HB.out | apply below_alloc | apply pw_below_drewN | apply below_drew1 | refine below_set ?_ GE211.out) | exact HB.out))); rintro e w45 ⟨v220, v223, v226, rfl, ho0, ho1, ho2, hb⟩; refine ⟨_, rfl, ?_⟩; have n0_ := Aside0.mk (Kd.R_below (by (with_reducible repeat (first | apply Kd.R_alloc | apply Kd.R_drewN | apply Kd.R_drew)); exact HO_7.out) hb); have n1_ := Aside0.mk (Kd.R_mono (Kd.R_told (Kd.R_told (Kd.R_old (by (with_reducible repeat (first | apply Kd.R_alloc | apply Kd.R_drewN | apply Kd.R_drew)); exact HO_212000.out) hb) (Kd.R_base ho0)) (Kd.R_base ho1)) (fun _ h_ => h_.1)); have n2_ := Aside0.mk (Kd.R_mono (Kd.R_told (Kd.R_told (Kd.R_old (by (with_reducible repeat (first | apply Kd.R_alloc | apply Kd.R_drewN | apply Kd.R_drew)); exact HO_212001.out) hb) (Kd.R_base ho0)) (Kd.R_base ho1)) (fun _ h_ => h_.1)); have n3_ := Aside0.mk (Kd.S_mono (Kd.S_told (Kd.S_told (Kd.S_told (Kd.S_old (by (with_reducible repeat (first | apply Kd.S_alloc | apply Kd.S_drewN | apply Kd.S_drew)); exact HO_212002.out) hb) (Kd.R_base ho0)) (Kd.R_base ho1)) (Kd.S_base ho2)) (fun _ h_ => h_.1)); have n4_ := Aside0.mk (Kd.R_lower (Kd.R_new' (Kd.R_new' ho0 (Kd.R_lt (by (with_reducible repeat (first | apply Kd.R_alloc | apply Kd.R_drewN | apply Kd.R_drew)); exact HO_212000.out))) (Kd.R_lt (by (with_reducible repeat (first | apply Kd.R_alloc | apply Kd.R_drewN | apply Kd.R_drew)); exact HO_212001.out))) (below_size (by repeat (first | (with_reducible first | exact HB.out | apply below_alloc | apply pw_below_drewN | apply below_drew1 | refine below_set ?_ GE211.out) | exact HB.out)))); have n5_ := Aside0.mk (Kd.R_lower (Kd.R_new' (Kd.R_new' ho1 (Kd.R_lt (by (with_reducible repeat (first | apply Kd.R_alloc | apply Kd.R_drewN | apply Kd.R_drew)); exact HO_212000.out))) (Kd.R_lt (by (with_reducible repeat (first | apply Kd.R_alloc | apply Kd.R_drewN | apply Kd.R_drew)); exact HO_212001.out))) (below_size (by repeat (first | (with_reducible first | exact HB.out | apply below_alloc | apply pw_below_drewN | apply below_drew1 | refine below_set ?_ GE211.out) | exact HB.out)))); have n6_ := Aside0.mk (Kd.S_lower (Kd.S_new' (Kd.S_new' (Kd.S_new' ho2 (Kd.R_lt (by (with_reducible repeat (first | apply Kd.R_alloc | apply Kd.R_drewN | apply Kd.R_drew)); exact HO_212000.out))) (Kd.R_lt (by (with_reducible repeat (first | apply Kd.R_alloc | apply Kd.R_drewN | apply Kd.R_drew)); exact HO_212001.out))) (Kd.S_lt (by (with_reducible repeat (first | apply Kd.S_alloc | apply Kd.S_drewN | apply Kd.S_drew)); exact HO_212002.out))) (below_size (by repeat (first | (with_reducible first | exact HB.out | apply below_alloc | apply pw_below_drewN | apply below_drew1 | refine below_set ?_ GE211.out) | exact HB.out)))); have n7_ := Aside0.mk (blk_below (g := gb211) (o := .cells #[.slice Ao11 t198.length co11, .slice Ao13 t201.length co13, .slice Ao14 t204.length co14, .int .i64 t207, .int .i64 t208] 25 (0, 0)) (by (with_reducible repeat (first | refine blk_drewN ?_ _ | refine blk_drew ?_ | refine blk_alloc ?_ _)); exact BK211.out) hb); have n8_ := Aside0.mk (below_step (by repeat (first | (with_reducible first | exact HB.out | apply below_alloc | apply pw_below_drewN | apply below_drew1 | refine below_set ?_ GE211.out) | exact HB.out)) hb); clear HO_7; clear HO_212000; clear HO_212001; clear HO_212002; clear BK211; clear HB; have HO_7 := n0_; have HO_212000 := n1_; have HO_212001 := n2_; have HO_212002 := n3_; have HO221 := n4_; have HO224 := n5_; have HO227 := n6_; have BK211 := n7_; have HB := n8_; clear n0_ n1_ n2_ n3_ n4_ n5_ n6_ n7_ n8_; (try clear hb); (try clear hb2); (try clear hk); (try clear hi); (try clear ho0); (try clear ho1); (try clear ho2)) | ((with_reducible refine gate_dst (N := 14) rfl ?_); refine box_event ?hg (N := 14) ?hd (cs := #[.slice none 0 0, .slice none 0 0, .slice none 0 0, .int .i64 0, .int .i64 0]) (t := 25) ?hr ?_; (case hd => rfl); (case hg => rfl); (case hr => first | (go_simp; done) | (go_simp; rfl)); intro gb232 hg w46 hbox hb; have n0_ := Aside0.mk (Kd.R_below (by (with_reducible repeat (first | apply Kd.R_alloc | apply Kd.R_drewN | apply Kd.R_drew)); exact HO_7.out) hb); have n1_ := Aside0.mk (Kd.R_below (by (with_reducible repeat (first | apply Kd.R_alloc | apply Kd.R_drewN | apply Kd.R_drew)); exact HO_212000.out) hb); have n2_ := Aside0.mk (Kd.R_below (by (with_reducible repeat (first | apply Kd.R_alloc | apply Kd.R_drewN | apply Kd.R_drew)); exact HO_212001.out) hb); have n3_ := Aside0.mk (Kd.S_below (by (with_reducible repeat (first | apply Kd.S_alloc | apply Kd.S_drewN | apply Kd.S_drew)); exact HO_212002.out) hb); have n4_ := Aside0.mk (Kd.R_below (by (with_reducible repeat (first | apply Kd.R_alloc | apply Kd.R_drewN | apply Kd.R_drew)); exact HO221.out) hb); have n5_ := Aside0.mk (Kd.R_below (by (with_reducible repeat (first | apply Kd.R_alloc | apply Kd.R_drewN | apply Kd.R_drew)); exact HO224.out) hb); have n6_ := Aside0.mk (Kd.S_below (by (with_reducible repeat (first | apply Kd.S_alloc | apply Kd.S_drewN | apply Kd.S_drew)); exact HO227.out) hb); have n7_ := Aside0.mk (blk_below (g := gb211) (o := .cells #[.slice Ao11 t198.length co11, .slice Ao13 t201.length co13, .slice Ao14 t204.length co14, .int .i64 t207, .int .i64 t208] 25 (0, 0)) (by (with_reducible repeat (first | refine blk_drewN ?_ _ | refine blk_drew ?_ | refine blk_alloc ?_ _)); exact BK211.out) hb); have n8_ := Aside0.mk (below_step (by repeat (first | (with_reducible first | exact HB.out | apply below_alloc | apply pw_below_drewN | apply below_drew1 | refine below_set ?_ GE211.out) | exact HB.out)) hb); have n9_ := Aside0.mk (hbox); have n10_ := Aside0.mk ((by rw [hg]; exact (below_size (by repeat (first | (with_reducible first | exact HB.out | apply below_alloc | apply pw_below_drewN | apply below_drew1 | refine below_set ?_ GE211.out) | exact HB.out))) : w.heap.size ≤ gb232)); have n11_ := Aside0.mk ((by rw [hg]; exact (below_size (by repeat (first | (with_reducible first | exact HB.out | apply below_alloc | apply pw_below_drewN | apply below_drew1 | refine below_set ?_ GE211.out) | exact HB.out))) : w.heap.size ≤ gb232)); have n12_ := Aside0.mk ((by rw [hg]; exact Nat.ne_of_lt (blk_lt (g := gb211) (o := .cells #[.slice Ao11 t198.length co11, .slice Ao13 t201.length co13, .slice Ao14 t204.length co14, .int .i64 t207, .int .i64 t208] 25 (0, 0)) (by (with_reducible repeat (first | refine blk_drewN ?_ _ | refine blk_drew ?_ | refine blk_alloc ?_ _)); exact BK211.out)) : gb211 ≠ gb232)); have n13_ := Aside0.mk ((by rw [hg]; exact Nat.ne_of_gt (blk_lt (g := gb211) (o := .cells #[.slice Ao11 t198.length co11, .slice Ao13 t201.length co13, .slice Ao14 t204.length co14, .int .i64 t207, .int .i64 t208] 25 (0, 0)) (by (with_reducible repeat (first | refine blk_drewN ?_ _ | refine blk_drew ?_ | refine blk_alloc ?_ _)); exact BK211.out)) : gb232 ≠ gb211)); clear HO_7; clear HO_212000; clear HO_212001; clear HO_212002; clear HO221; clear HO224; clear HO227; clear BK211; clear HB; have HO_7 := n0_; have HO_212000 := n1_; have HO_212001 := n2_; have HO_212002 := n3_; have HO221 := n4_; have HO224 := n5_; have HO227 := n6_; have BK211 := n7_; have HB := n8_; have BK232 := n9_; have GW232 := n10_; have GE232 := n11_; have NB211_232 := n12_; have NB232_211 := n13_; clear n0_ n1_ n2_ n3_ n4_ n5_ n6_ n7_ n8_ n9_ n10_ n11_ n12_ n13_; clear hb hbox hg; obtain ⟨Ao47, co47, eo47⟩ := Kd.R_slice HO221.out; subst eo47; have hnb48 := NB232_211.out; have hnc48 := NB211_232.out; have hcz49_0 : w46.cell? ⟨gb232, 0, none⟩ = some (.slice none 0 0) := (blk_cell BK232.out 0).trans rfl; have hcz49_1 : w46.cell? ⟨gb232, 1, none⟩ = some (.slice none 0 0) := (blk_cell BK232.out 1).trans rfl; have hcz49_2 : w46.cell? ⟨gb232, 2, none⟩ = some (.slice none 0 0) := (blk_cell BK232.out 2).trans rfl; have hcz49_3 : w46.cell? ⟨gb232, 3, none⟩ = some (.int .i64 0) := (blk_cell BK232.out 3).trans rfl; have hcz49_4 : w46.cell? ⟨gb232, 4, none⟩ = some (.int .i64 0) := (blk_cell BK232.out 4).trans rfl; have hfz49_0 := blk_frozen BK232.out 0; have hfz49_1 := blk_frozen BK232.out 1; have hfz49_2 := blk_frozen BK232.out 2; have hfz49_3 := blk_frozen BK232.out 3; have hfz49_4 := blk_frozen BK232.out 4; obtain ⟨Ao50, co50, eo50⟩ := Kd.R_slice HO224.out; subst eo50; obtain ⟨Ao51, co51, eo51⟩ := Kd.S_slice HO227.out; subst eo51))
     (try simp only [Act.put, List.setIfInBounds_toArray, List.set_cons_zero, List.set_cons_succ])
     go_cut [92] (fun v92 wc => ∃ (kq : Nat) (x92_41 : Bool), v92 = .bool x92_41 ∧ Aside0 (emendatelaw34_PricesOverride.j1 kq ji23 (wrap64 (1 + (Int.tmod (wrap64 (a2)) 1000))) x92_41 t198 t201 t204 t207 t208 t219 t222 t225 t228 t229 = some r) ∧ Aside0 (kq ≤ kj4) ∧ Aside0 (Kd.R (Kd.int .i64) 3 wc w.heap.size (fun k_ => some k_ ≠ ((.slice Ao13 t201.length co13) : Value).ownBlock ∧ some k_ ≠ ((.slice Ao47 t219.length co47) : Value).ownBlock ∧ some k_ ≠ ((.slice Ao50 t222.length co50) : Value).ownBlock) (.slice Ao11 t198.length co11) t198) ∧ Aside0 (Kd.R (Kd.int .i64) 3 wc w.heap.size (fun k_ => some k_ ≠ ((.slice Ao11 t198.length co11) : Value).ownBlock ∧ some k_ ≠ ((.slice Ao47 t219.length co47) : Value).ownBlock ∧ some k_ ≠ ((.slice Ao50 t222.length co50) : Value).ownBlock) (.slice Ao13 t201.length co13) t201) ∧ Aside0 (Kd.S (Kd.slice 3 (Kd.int .i64)) 22 wc w.heap.size (fun k_ => some k_ ≠ ((.slice Ao11 t198.length co11) : Value).ownBlock ∧ some k_ ≠ ((.slice Ao13 t201.length co13) : Value).ownBlock ∧ some k_ ≠ ((.slice Ao47 t219.length co47) : Value).ownBlock ∧ some k_ ≠ ((.slice Ao50 t222.length co50) : Value).ownBlock ∧ some k_ ≠ ((.slice Ao51 t225.length co51) : Value).ownBlock) (.slice Ao14 t204.length co14) t204) ∧ Aside0 (Kd.R (Kd.int .i64) 3 wc w.heap.size (fun k_ => some k_ ≠ ((.slice Ao11 t198.length co11) : Value).ownBlock ∧ some k_ ≠ ((.slice Ao13 t201.length co13) : Value).ownBlock ∧ some k_ ≠ ((.slice Ao50 t222.length co50) : Value).ownBlock) (.slice Ao47 t219.length co47) t219) ∧ Aside0 (Kd.R (Kd.int .i64) 3 wc w.heap.size (fun k_ => some k_ ≠ ((.slice Ao11 t198.length co11) : Value).ownBlock ∧ some k_ ≠ ((.slice Ao13 t201.length co13) : Value).ownBlock ∧ some k_ ≠ ((.slice Ao47 t219.length co47) : Value).ownBlock) (.slice Ao50 t222.length co50) t222) ∧ Aside0 (Kd.S (Kd.slice 3 (Kd.int .i64)) 22 wc w.heap.size (fun k_ => some k_ ≠ ((.slice Ao11 t198.length co11) : Value).ownBlock ∧ some k_ ≠ ((.slice Ao13 t201.length co13) : Value).ownBlock ∧ some k_ ≠ ((.slice Ao14 t204.length co14) : Value).ownBlock ∧ some k_ ≠ ((.slice Ao47 t219.length co47) : Value).ownBlock ∧ some k_ ≠ ((.slice Ao50 t222.length co50) : Value).ownBlock) (.slice Ao51 t225.length co51) t225) ∧ Aside0 (wc.heap[gb211]? = some (.cells #[(.slice Ao11 t198.length co11), (.slice Ao13 t201.length co13), (.slice Ao14 t204.length co14), .int .i64 t207, .int .i64 t208] 25 (0, 0))) ∧ Aside0 (wc.heap[gb232]? = some (.cells #[(.slice Ao47 t219.length co47), (.slice Ao50 t222.length co50), (.slice Ao51 t225.length co51), .int .i64 t228, .int .i64 t229] 25 (0, 0))) ∧ Aside0 (Below w.heap.size w wc))
     case first =>
      have H := HC42.out; clear HC42
      by_cases c52 : t231 = 0
      rotate_left
      ·
       rw [if_neg c52] at H
       have c52b0 : (t231 == 0) = false := beq_eq_false_iff_ne.mpr c52; have c52b1 : (t231 != 0) = true := bne_iff_ne.mpr c52
       (first | rw [c52b0] | (simp only [i64_w, i32_w]; rw [c52b0]) | skip)
       have H' := Aside0.mk H; clear H
       go_wp2
       go_meet
       case rel => exact ⟨_, (true), (by first | rfl | (simp; done) | (simp [*]; done)), H', ⟨by have := HJ4.out; first | omega | exact Nat.le_refl _⟩, ⟨by (with_reducible repeat (first | apply Kd.R_alloc | apply Kd.R_drewN | apply Kd.R_drew)); exact Kd.R_mono (Kd.R_far (p := ⟨gb232, 4, none⟩) (Kd.R_far (p := ⟨gb232, 3, none⟩) (Kd.R_far (p := ⟨gb232, 2, none⟩) (Kd.R_far (p := ⟨gb232, 1, none⟩) (Kd.R_far (p := ⟨gb232, 0, none⟩) (Kd.R_types HO_212000.out BK232.out (by decide)) (fun _ hk => hk.2) (.slice Ao47 t219.length co47)) (fun _ hk => hk.2) (.slice Ao50 t222.length co50)) (fun _ hk => hk.2) (.slice Ao51 t225.length co51)) (fun _ hk => hk.2) (.int .i64 t228)) (fun _ hk => hk.2) (.int .i64 t229)) (fun _ hk => ⟨hk.1.1.1, ⟨hk.1.1.2, hk.1.2⟩⟩)⟩, ⟨by (with_reducible repeat (first | apply Kd.R_alloc | apply Kd.R_drewN | apply Kd.R_drew)); exact Kd.R_mono (Kd.R_far (p := ⟨gb232, 4, none⟩) (Kd.R_far (p := ⟨gb232, 3, none⟩) (Kd.R_far (p := ⟨gb232, 2, none⟩) (Kd.R_far (p := ⟨gb232, 1, none⟩) (Kd.R_far (p := ⟨gb232, 0, none⟩) (Kd.R_types HO_212001.out BK232.out (by decide)) (fun _ hk => hk.2) (.slice Ao47 t219.length co47)) (fun _ hk => hk.2) (.slice Ao50 t222.length co50)) (fun _ hk => hk.2) (.slice Ao51 t225.length co51)) (fun _ hk => hk.2) (.int .i64 t228)) (fun _ hk => hk.2) (.int .i64 t229)) (fun _ hk => ⟨hk.1.1.1, ⟨hk.1.1.2, hk.1.2⟩⟩)⟩, ⟨by (with_reducible repeat (first | apply Kd.S_alloc | apply Kd.S_drewN | apply Kd.S_drew)); exact Kd.S_mono (Kd.S_far (p := ⟨gb232, 4, none⟩) (Kd.S_far (p := ⟨gb232, 3, none⟩) (Kd.S_far (p := ⟨gb232, 2, none⟩) (Kd.S_far (p := ⟨gb232, 1, none⟩) (Kd.S_far (p := ⟨gb232, 0, none⟩) (Kd.S_types HO_212002.out BK232.out (by decide)) (fun _ hk => hk.2) (.slice Ao47 t219.length co47)) (fun _ hk => hk.2) (.slice Ao50 t222.length co50)) (fun _ hk => hk.2) (.slice Ao51 t225.length co51)) (fun _ hk => hk.2) (.int .i64 t228)) (fun _ hk => hk.2) (.int .i64 t229)) (fun _ hk => ⟨hk.1.1.1.1.1, ⟨hk.1.1.1.1.2, ⟨hk.1.1.1.2, ⟨hk.1.1.2, hk.1.2⟩⟩⟩⟩)⟩, ⟨by (with_reducible repeat (first | apply Kd.R_alloc | apply Kd.R_drewN | apply Kd.R_drew)); exact Kd.R_mono (Kd.R_far (p := ⟨gb232, 4, none⟩) (Kd.R_far (p := ⟨gb232, 3, none⟩) (Kd.R_far (p := ⟨gb232, 2, none⟩) (Kd.R_far (p := ⟨gb232, 1, none⟩) (Kd.R_far (p := ⟨gb232, 0, none⟩) (Kd.R_types HO221.out BK232.out (by decide)) (fun _ hk => hk.2) (.slice Ao47 t219.length co47)) (fun _ hk => hk.2) (.slice Ao50 t222.length co50)) (fun _ hk => hk.2) (.slice Ao51 t225.length co51)) (fun _ hk => hk.2) (.int .i64 t228)) (fun _ hk => hk.2) (.int .i64 t229)) (fun _ hk => ⟨hk.1.1.2, ⟨hk.1.2, hk.1.1.1⟩⟩)⟩, ⟨by (with_reducible repeat (first | apply Kd.R_alloc | apply Kd.R_drewN | apply Kd.R_drew)); exact Kd.R_mono (Kd.R_far (p := ⟨gb232, 4, none⟩) (Kd.R_far (p := ⟨gb232, 3, none⟩) (Kd.R_far (p := ⟨gb232, 2, none⟩) (Kd.R_far (p := ⟨gb232, 1, none⟩) (Kd.R_far (p := ⟨gb232, 0, none⟩) (Kd.R_types HO224.out BK232.out (by decide)) (fun _ hk => hk.2) (.slice Ao47 t219.length co47)) (fun _ hk => hk.2) (.slice Ao50 t222.length co50)) (fun _ hk => hk.2) (.slice Ao51 t225.length co51)) (fun _ hk => hk.2) (.int .i64 t228)) (fun _ hk => hk.2) (.int .i64 t229)) (fun _ hk => ⟨hk.1.1.2, ⟨hk.1.2, hk.1.1.1⟩⟩)⟩, ⟨by (with_reducible repeat (first | apply Kd.S_alloc | apply Kd.S_drewN | apply Kd.S_drew)); exact Kd.S_mono (Kd.S_far (p := ⟨gb232, 4, none⟩) (Kd.S_far (p := ⟨gb232, 3, none⟩) (Kd.S_far (p := ⟨gb232, 2, none⟩) (Kd.S_far (p := ⟨gb232, 1, none⟩) (Kd.S_far (p := ⟨gb232, 0, none⟩) (Kd.S_types HO227.out BK232.out (by decide)) (fun _ hk => hk.2) (.slice Ao47 t219.length co47)) (fun _ hk => hk.2) (.slice Ao50 t222.length co50)) (fun _ hk => hk.2) (.slice Ao51 t225.length co51)) (fun _ hk => hk.2) (.int .i64 t228)) (fun _ hk => hk.2) (.int .i64 t229)) (fun _ hk => ⟨hk.1.1.1.2, ⟨hk.1.1.2, ⟨hk.1.2, ⟨hk.1.1.1.1.1, hk.1.1.1.1.2⟩⟩⟩⟩)⟩, ⟨by (with_reducible repeat (first | refine blk_drewN ?_ _ | refine blk_drew ?_ | refine blk_alloc ?_ _)); refine blk_far ?_ NB211_232.out _; (with_reducible repeat (first | refine blk_drewN ?_ _ | refine blk_drew ?_ | refine blk_alloc ?_ _)); refine blk_far ?_ NB211_232.out _; (with_reducible repeat (first | refine blk_drewN ?_ _ | refine blk_drew ?_ | refine blk_alloc ?_ _)); refine blk_far ?_ NB211_232.out _; (with_reducible repeat (first | refine blk_drewN ?_ _ | refine blk_drew ?_ | refine blk_alloc ?_ _)); refine blk_far ?_ NB211_232.out _; (with_reducible repeat (first | refine blk_drewN ?_ _ | refine blk_drew ?_ | refine blk_alloc ?_ _)); refine blk_far ?_ NB211_232.out _; (with_reducible repeat (first | refine blk_drewN ?_ _ | refine blk_drew ?_ | refine blk_alloc ?_ _)); exact BK211.out⟩, ⟨by (with_reducible repeat (first | refine blk_drewN ?_ _ | refine blk_drew ?_ | refine blk_alloc ?_ _)); refine blk_put (cs := #[.slice Ao47 t219.length co47, .slice Ao50 t222.length co50, .slice Ao51 t225.length co51, .int .i64 t228, .int .i64 0]) ?_ 4 _ rfl; (with_reducible repeat (first | refine blk_drewN ?_ _ | refine blk_drew ?_ | refine blk_alloc ?_ _)); refine blk_put (cs := #[.slice Ao47 t219.length co47, .slice Ao50 t222.length co50, .slice Ao51 t225.length co51, .int .i64 0, .int .i64 0]) ?_ 3 _ rfl; (with_reducible repeat (first | refine blk_drewN ?_ _ | refine blk_drew ?_ | refine blk_alloc ?_ _)); refine blk_put (cs := #[.slice Ao47 t219.length co47, .slice Ao50 t222.length co50, .slice none 0 0, .int .i64 0, .int .i64 0]) ?_ 2 _ rfl; (with_reducible repeat (first | refine blk_drewN ?_ _ | refine blk_drew ?_ | refine blk_alloc ?_ _)); refine blk_put (cs := #[.slice Ao47 t219.length co47, .slice none 0 0, .slice none 0 0, .int .i64 0, .int .i64 0]) ?_ 1 _ rfl; (with_reducible repeat (first | refine blk_drewN ?_ _ | refine blk_drew ?_ | refine blk_alloc ?_ _)); refine blk_put (cs := #[.slice none 0 0, .slice none 0 0, .slice none 0 0, .int .i64 0, .int .i64 0]) ?_ 0 _ rfl; (with_reducible repeat (first | refine blk_drewN ?_ _ | refine blk_drew ?_ | refine blk_alloc ?_ _)); exact BK232.out⟩, ⟨by repeat (first | (with_reducible first | exact HB.out | apply below_alloc | apply pw_below_drewN | apply below_drew1 | refine below_set ?_ GE211.out | refine below_set ?_ GE232.out) | exact HB.out)⟩⟩
      rw [if_pos c52] at H
      have c52b0 : (t231 == 0) = true := beq_iff_eq.mpr c52; have c52b1 : (t231 != 0) = false := bne_eq_false_iff_eq.mpr c52; clear c52
      (first | rw [c52b0] | (simp only [i64_w, i32_w]; rw [c52b0]) | skip)
      replace H := Option.bind_eq_some_iff.mp H; obtain ⟨t233, A530, H⟩ := H; replace H : (emendatelaw34_PricesOverride.j1 kj4 ji23 (wrap64 (1 + (Int.tmod (wrap64 (a2)) 1000))) (!t233) t198 t201 t204 t207 t208 t219 t222 t225 t228 t229) = some r := H; have A53 := Aside0.mk A530; clear A530; have H' := Aside0.mk H; clear H; have hnb54 := NB232_211.out; have hnc54 := NB211_232.out; have hcz55_0 : w46.cell? ⟨gb232, 0, none⟩ = some (.slice none 0 0) := (blk_cell BK232.out 0).trans rfl; have hcz55_1 : w46.cell? ⟨gb232, 1, none⟩ = some (.slice none 0 0) := (blk_cell BK232.out 1).trans rfl; have hcz55_2 : w46.cell? ⟨gb232, 2, none⟩ = some (.slice none 0 0) := (blk_cell BK232.out 2).trans rfl; have hcz55_3 : w46.cell? ⟨gb232, 3, none⟩ = some (.int .i64 0) := (blk_cell BK232.out 3).trans rfl; have hcz55_4 : w46.cell? ⟨gb232, 4, none⟩ = some (.int .i64 0) := (blk_cell BK232.out 4).trans rfl; have hfz55_0 := blk_frozen BK232.out 0; have hfz55_1 := blk_frozen BK232.out 1; have hfz55_2 := blk_frozen BK232.out 2; have hfz55_3 := blk_frozen BK232.out 3; have hfz55_4 := blk_frozen BK232.out 4
      go_wp2_with (first | (go_at_call 12; (with_reducible refine (prices_Valid.calls kj4 _ _ t219 _ _ t222 _ _ t225 t228 t229 3 t233 _ ?side1 ?side2 ?side3 ?side4 ?side5 ?side6 A53.out).mono ?_); (case side1 => refine (Kd.R_reads' (e := 3) (base := w.heap.size) (ok := fun k_ => ((some k_ ≠ (.slice Ao50 t222.length co50 : Value).ownBlock ∧ some k_ ≠ (.slice Ao11 t198.length co11 : Value).ownBlock) ∧ some k_ ≠ (.slice Ao13 t201.length co13 : Value).ownBlock)) (n := t219.length) (c := co47) ?_).2.2; exact (by (with_reducible repeat (first | apply Kd.R_alloc | apply Kd.R_drewN | apply Kd.R_drew)); exact (Kd.R_mono (Kd.R_far (p := ⟨gb232, 4, none⟩) (Kd.R_far (p := ⟨gb232, 3, none⟩) (Kd.R_far (p := ⟨gb232, 2, none⟩) (Kd.R_far (p := ⟨gb232, 1, none⟩) (Kd.R_far (p := ⟨gb232, 0, none⟩) (Kd.R_types HO221.out BK232.out (by decide)) (fun _ hk => hk.2) (.slice Ao47 t219.length co47)) (fun _ hk => hk.2) (.slice Ao50 t222.length co50)) (fun _ hk => hk.2) (.slice Ao51 t225.length co51)) (fun _ hk => hk.2) (.int .i64 t228)) (fun _ hk => hk.2) (.int .i64 t229)) (fun _ h_ => h_.1)))); (case side2 => exact (Kd.R_reads' HO221.out).2.1); (case side3 => refine (Kd.R_reads' (e := 3) (base := w.heap.size) (ok := fun k_ => ((some k_ ≠ (.slice Ao47 t219.length co47 : Value).ownBlock ∧ some k_ ≠ (.slice Ao11 t198.length co11 : Value).ownBlock) ∧ some k_ ≠ (.slice Ao13 t201.length co13 : Value).ownBlock)) (n := t222.length) (c := co50) ?_).2.2; exact (by (with_reducible repeat (first | apply Kd.R_alloc | apply Kd.R_drewN | apply Kd.R_drew)); exact (Kd.R_mono (Kd.R_far (p := ⟨gb232, 4, none⟩) (Kd.R_far (p := ⟨gb232, 3, none⟩) (Kd.R_far (p := ⟨gb232, 2, none⟩) (Kd.R_far (p := ⟨gb232, 1, none⟩) (Kd.R_far (p := ⟨gb232, 0, none⟩) (Kd.R_types HO224.out BK232.out (by decide)) (fun _ hk => hk.2) (.slice Ao47 t219.length co47)) (fun _ hk => hk.2) (.slice Ao50 t222.length co50)) (fun _ hk => hk.2) (.slice Ao51 t225.length co51)) (fun _ hk => hk.2) (.int .i64 t228)) (fun _ hk => hk.2) (.int .i64 t229)) (fun _ h_ => h_.1)))); (case side4 => exact (Kd.R_reads' HO224.out).2.1); (case side5 => refine (Kd.S_reads' (e := 22) (base := w.heap.size) (ok := fun k_ => ((((some k_ ≠ (.slice Ao47 t219.length co47 : Value).ownBlock ∧ some k_ ≠ (.slice Ao50 t222.length co50 : Value).ownBlock) ∧ some k_ ≠ (.slice Ao11 t198.length co11 : Value).ownBlock) ∧ some k_ ≠ (.slice Ao13 t201.length co13 : Value).ownBlock) ∧ some k_ ≠ (.slice Ao14 t204.length co14 : Value).ownBlock)) (n := t225.length) (c := co51) ?_).2.2; exact (by (with_reducible repeat (first | apply Kd.S_alloc | apply Kd.S_drewN | apply Kd.S_drew)); exact (Kd.S_mono (Kd.S_far (p := ⟨gb232, 4, none⟩) (Kd.S_far (p := ⟨gb232, 3, none⟩) (Kd.S_far (p := ⟨gb232, 2, none⟩) (Kd.S_far (p := ⟨gb232, 1, none⟩) (Kd.S_far (p := ⟨gb232, 0, none⟩) (Kd.S_types HO227.out BK232.out (by decide)) (fun _ hk => hk.2) (.slice Ao47 t219.length co47)) (fun _ hk => hk.2) (.slice Ao50 t222.length co50)) (fun _ hk => hk.2) (.slice Ao51 t225.length co51)) (fun _ hk => hk.2) (.int .i64 t228)) (fun _ hk => hk.2) (.int .i64 t229)) (fun _ h_ => h_.1)))); (case side6 => exact (Kd.S_reads' HO227.out).2.1); rintro e w56 ⟨rfl, hb⟩; have n0_ := Aside0.mk (Kd.R_below (by (with_reducible repeat (first | apply Kd.R_alloc | apply Kd.R_drewN | apply Kd.R_drew)); exact (Kd.R_mono (Kd.R_far (p := ⟨gb232, 4, none⟩) (Kd.R_far (p := ⟨gb232, 3, none⟩) (Kd.R_far (p := ⟨gb232, 2, none⟩) (Kd.R_far (p := ⟨gb232, 1, none⟩) (Kd.R_far (p := ⟨gb232, 0, none⟩) (Kd.R_types HO_7.out BK232.out (by decide)) (fun _ hk => hk.2) (.slice Ao47 t219.length co47)) (fun _ hk => hk.2) (.slice Ao50 t222.length co50)) (fun _ hk => hk.2) (.slice Ao51 t225.length co51)) (fun _ hk => hk.2) (.int .i64 t228)) (fun _ hk => hk.2) (.int .i64 t229)) (fun _ h_ => h_.1))) hb); have n1_ := Aside0.mk (Kd.R_below (by (with_reducible repeat (first | apply Kd.R_alloc | apply Kd.R_drewN | apply Kd.R_drew)); exact (Kd.R_mono (Kd.R_far (p := ⟨gb232, 4, none⟩) (Kd.R_far (p := ⟨gb232, 3, none⟩) (Kd.R_far (p := ⟨gb232, 2, none⟩) (Kd.R_far (p := ⟨gb232, 1, none⟩) (Kd.R_far (p := ⟨gb232, 0, none⟩) (Kd.R_types HO_212000.out BK232.out (by decide)) (fun _ hk => hk.2) (.slice Ao47 t219.length co47)) (fun _ hk => hk.2) (.slice Ao50 t222.length co50)) (fun _ hk => hk.2) (.slice Ao51 t225.length co51)) (fun _ hk => hk.2) (.int .i64 t228)) (fun _ hk => hk.2) (.int .i64 t229)) (fun _ h_ => h_.1))) hb); have n2_ := Aside0.mk (Kd.R_below (by (with_reducible repeat (first | apply Kd.R_alloc | apply Kd.R_drewN | apply Kd.R_drew)); exact (Kd.R_mono (Kd.R_far (p := ⟨gb232, 4, none⟩) (Kd.R_far (p := ⟨gb232, 3, none⟩) (Kd.R_far (p := ⟨gb232, 2, none⟩) (Kd.R_far (p := ⟨gb232, 1, none⟩) (Kd.R_far (p := ⟨gb232, 0, none⟩) (Kd.R_types HO_212001.out BK232.out (by decide)) (fun _ hk => hk.2) (.slice Ao47 t219.length co47)) (fun _ hk => hk.2) (.slice Ao50 t222.length co50)) (fun _ hk => hk.2) (.slice Ao51 t225.length co51)) (fun _ hk => hk.2) (.int .i64 t228)) (fun _ hk => hk.2) (.int .i64 t229)) (fun _ h_ => h_.1))) hb); have n3_ := Aside0.mk (Kd.S_below (by (with_reducible repeat (first | apply Kd.S_alloc | apply Kd.S_drewN | apply Kd.S_drew)); exact (Kd.S_mono (Kd.S_far (p := ⟨gb232, 4, none⟩) (Kd.S_far (p := ⟨gb232, 3, none⟩) (Kd.S_far (p := ⟨gb232, 2, none⟩) (Kd.S_far (p := ⟨gb232, 1, none⟩) (Kd.S_far (p := ⟨gb232, 0, none⟩) (Kd.S_types HO_212002.out BK232.out (by decide)) (fun _ hk => hk.2) (.slice Ao47 t219.length co47)) (fun _ hk => hk.2) (.slice Ao50 t222.length co50)) (fun _ hk => hk.2) (.slice Ao51 t225.length co51)) (fun _ hk => hk.2) (.int .i64 t228)) (fun _ hk => hk.2) (.int .i64 t229)) (fun _ h_ => h_.1))) hb); have n4_ := Aside0.mk (Kd.R_below (by (with_reducible repeat (first | apply Kd.R_alloc | apply Kd.R_drewN | apply Kd.R_drew)); exact (Kd.R_mono (Kd.R_far (p := ⟨gb232, 4, none⟩) (Kd.R_far (p := ⟨gb232, 3, none⟩) (Kd.R_far (p := ⟨gb232, 2, none⟩) (Kd.R_far (p := ⟨gb232, 1, none⟩) (Kd.R_far (p := ⟨gb232, 0, none⟩) (Kd.R_types HO221.out BK232.out (by decide)) (fun _ hk => hk.2) (.slice Ao47 t219.length co47)) (fun _ hk => hk.2) (.slice Ao50 t222.length co50)) (fun _ hk => hk.2) (.slice Ao51 t225.length co51)) (fun _ hk => hk.2) (.int .i64 t228)) (fun _ hk => hk.2) (.int .i64 t229)) (fun _ h_ => h_.1))) hb); have n5_ := Aside0.mk (Kd.R_below (by (with_reducible repeat (first | apply Kd.R_alloc | apply Kd.R_drewN | apply Kd.R_drew)); exact (Kd.R_mono (Kd.R_far (p := ⟨gb232, 4, none⟩) (Kd.R_far (p := ⟨gb232, 3, none⟩) (Kd.R_far (p := ⟨gb232, 2, none⟩) (Kd.R_far (p := ⟨gb232, 1, none⟩) (Kd.R_far (p := ⟨gb232, 0, none⟩) (Kd.R_types HO224.out BK232.out (by decide)) (fun _ hk => hk.2) (.slice Ao47 t219.length co47)) (fun _ hk => hk.2) (.slice Ao50 t222.length co50)) (fun _ hk => hk.2) (.slice Ao51 t225.length co51)) (fun _ hk => hk.2) (.int .i64 t228)) (fun _ hk => hk.2) (.int .i64 t229)) (fun _ h_ => h_.1))) hb); have n6_ := Aside0.mk (Kd.S_below (by (with_reducible repeat (first | apply Kd.S_alloc | apply Kd.S_drewN | apply Kd.S_drew)); exact (Kd.S_mono (Kd.S_far (p := ⟨gb232, 4, none⟩) (Kd.S_far (p := ⟨gb232, 3, none⟩) (Kd.S_far (p := ⟨gb232, 2, none⟩) (Kd.S_far (p := ⟨gb232, 1, none⟩) (Kd.S_far (p := ⟨gb232, 0, none⟩) (Kd.S_types HO227.out BK232.out (by decide)) (fun _ hk => hk.2) (.slice Ao47 t219.length co47)) (fun _ hk => hk.2) (.slice Ao50 t222.length co50)) (fun _ hk => hk.2) (.slice Ao51 t225.length co51)) (fun _ hk => hk.2) (.int .i64 t228)) (fun _ hk => hk.2) (.int .i64 t229)) (fun _ h_ => h_.1))) hb); have n7_ := Aside0.mk (blk_below (g := gb211) (o := .cells #[.slice Ao11 t198.length co11, .slice Ao13 t201.length co13, .slice Ao14 t204.length co14, .int .i64 t207, .int .i64 t208] 25 (0, 0)) (by (with_reducible repeat (first | refine blk_drewN ?_ _ | refine blk_drew ?_ | refine blk_alloc ?_ _)); refine blk_far ?_ NB211_232.out _; (with_reducible repeat (first | refine blk_drewN ?_ _ | refine blk_drew ?_ | refine blk_alloc ?_ _)); refine blk_far ?_ NB211_232.out _; (with_reducible repeat (first | refine blk_drewN ?_ _ | refine blk_drew ?_ | refine blk_alloc ?_ _)); refine blk_far ?_ NB211_232.out _; (with_reducible repeat (first | refine blk_drewN ?_ _ | refine blk_drew ?_ | refine blk_alloc ?_ _)); refine blk_far ?_ NB211_232.out _; (with_reducible repeat (first | refine blk_drewN ?_ _ | refine blk_drew ?_ | refine blk_alloc ?_ _)); refine blk_far ?_ NB211_232.out _; (with_reducible repeat (first | refine blk_drewN ?_ _ | refine blk_drew ?_ | refine blk_alloc ?_ _)); exact BK211.out) hb); have n8_ := Aside0.mk (blk_below (g := gb232) (o := .cells #[.slice Ao47 t219.length co47, .slice Ao50 t222.length co50, .slice Ao51 t225.length co51, .int .i64 t228, .int .i64 t229] 25 (0, 0)) (by (with_reducible repeat (first | refine blk_drewN ?_ _ | refine blk_drew ?_ | refine blk_alloc ?_ _)); refine blk_put (cs := #[.slice Ao47 t219.length co47, .slice Ao50 t222.length co50, .slice Ao51 t225.length co51, .int .i64 t228, .int .i64 0]) ?_ 4 _ rfl; (with_reducible repeat (first | refine blk_drewN ?_ _ | refine blk_drew ?_ | refine blk_alloc ?_ _)); refine blk_put (cs := #[.slice Ao47 t219.length co47, .slice Ao50 t222.length co50, .slice Ao51 t225.length co51, .int .i64 0, .int .i64 0]) ?_ 3 _ rfl; (with_reducible repeat (first | refine blk_drewN ?_ _ | refine blk_drew ?_ | refine blk_alloc ?_ _)); refine blk_put (cs := #[.slice Ao47 t219.length co47, .slice Ao50 t222.length co50, .slice none 0 0, .int .i64 0, .int .i64 0]) ?_ 2 _ rfl; (with_reducible repeat (first | refine blk_drewN ?_ _ | refine blk_drew ?_ | refine blk_alloc ?_ _)); refine blk_put (cs := #[.slice Ao47 t219.length co47, .slice none 0 0, .slice none 0 0, .int .i64 0, .int .i64 0]) ?_ 1 _ rfl; (with_reducible repeat (first | refine blk_drewN ?_ _ | refine blk_drew ?_ | refine blk_alloc ?_ _)); refine blk_put (cs := #[.slice none 0 0, .slice none 0 0, .slice none 0 0, .int .i64 0, .int .i64 0]) ?_ 0 _ rfl; (with_reducible repeat (first | refine blk_drewN ?_ _ | refine blk_drew ?_ | refine blk_alloc ?_ _)); exact BK232.out) hb); have n9_ := Aside0.mk (below_step (by repeat (first | (with_reducible first | exact HB.out | apply below_alloc | apply pw_below_drewN | apply below_drew1 | refine below_set ?_ GE211.out | refine below_set ?_ GE232.out) | exact HB.out)) hb); clear HO_7; clear HO_212000; clear HO_212001; clear HO_212002; clear HO221; clear HO224; clear HO227; clear BK211; clear BK232; clear HB; have HO_7 := n0_; have HO_212000 := n1_; have HO_212001 := n2_; have HO_212002 := n3_; have HO221 := n4_; have HO224 := n5_; have HO227 := n6_; have BK211 := n7_; have BK232 := n8_; have HB := n9_; clear n0_ n1_ n2_ n3_ n4_ n5_ n6_ n7_ n8_ n9_; (try clear hb); (try clear hb2); (try clear hk); (try clear hi)))
      go_meet
      case rel => exact ⟨_, (!t233), (by first | rfl | (simp; done) | (simp [*]; done)), H', ⟨by have := HJ4.out; first | omega | exact Nat.le_refl _⟩, ⟨by (with_reducible repeat (first | apply Kd.R_alloc | apply Kd.R_drewN | apply Kd.R_drew)); exact Kd.R_mono HO_212000.out (fun _ hk => ⟨hk.1.1, ⟨hk.1.2, hk.2⟩⟩)⟩, ⟨by (with_reducible repeat (first | apply Kd.R_alloc | apply Kd.R_drewN | apply Kd.R_drew)); exact Kd.R_mono HO_212001.out (fun _ hk => ⟨hk.1.1, ⟨hk.1.2, hk.2⟩⟩)⟩, ⟨by (with_reducible repeat (first | apply Kd.S_alloc | apply Kd.S_drewN | apply Kd.S_drew)); exact Kd.S_mono HO_212002.out (fun _ hk => ⟨hk.1.1.1.1, ⟨hk.1.1.1.2, ⟨hk.1.1.2, ⟨hk.1.2, hk.2⟩⟩⟩⟩)⟩, ⟨by (with_reducible repeat (first | apply Kd.R_alloc | apply Kd.R_drewN | apply Kd.R_drew)); exact Kd.R_mono HO221.out (fun _ hk => ⟨hk.1.2, ⟨hk.2, hk.1.1⟩⟩)⟩, ⟨by (with_reducible repeat (first | apply Kd.R_alloc | apply Kd.R_drewN | apply Kd.R_drew)); exact Kd.R_mono HO224.out (fun _ hk => ⟨hk.1.2, ⟨hk.2, hk.1.1⟩⟩)⟩, ⟨by (with_reducible repeat (first | apply Kd.S_alloc | apply Kd.S_drewN | apply Kd.S_drew)); exact Kd.S_mono HO227.out (fun _ hk => ⟨hk.1.1.2, ⟨hk.1.2, ⟨hk.2, ⟨hk.1.1.1.1, hk.1.1.1.2⟩⟩⟩⟩)⟩, ⟨by (with_reducible repeat (first | refine blk_drewN ?_ _ | refine blk_drew ?_ | refine blk_alloc ?_ _)); exact BK211.out⟩, ⟨by (with_reducible repeat (first | refine blk_drewN ?_ _ | refine blk_drew ?_ | refine blk_alloc ?_ _)); exact BK232.out⟩, ⟨by repeat (first | (with_reducible first | exact HB.out | apply below_alloc | apply pw_below_drewN | apply below_drew1 | refine below_set ?_ GE211.out | refine below_set ?_ GE232.out) | exact HB.out)⟩⟩
     case rest =>
      clear HC42
      try clear c1
      try clear c2
      try clear p2
      try clear q2
      try clear hx2
      try clear c3
      try clear c4
      try clear c5
      try clear p6
      try clear c7
      try clear c10
      try clear c15
      try clear c15b0
      try clear c15b1
      try clear c16
      try clear c16b0
      try clear c16b1
      try clear c17
      try clear c20
      try clear c21
      try clear p21
      try clear q21
      try clear hx21
      try clear c24
      try clear c24b0
      try clear c25
      try clear c25b0
      try clear c26
      try clear c26b0
      try clear c26b1
      try clear c26b2
      try clear c27
      try clear c27b0
      try clear c27b1
      try clear c27b2
      try clear c29
      try clear c29b0
      try clear c29b1
      try clear c29b2
      try clear c30
      try clear c30b0
      try clear c30b1
      try clear c30b2
      try clear c31
      try clear c31b0
      try clear c31b1
      try clear c31b2
      try clear c32
      try clear c32b0
      try clear c32b1
      try clear c32b2
      try clear c33
      try clear c33b0
      try clear c33b1
      try clear c33b2
      try clear c34
      try clear c34b0
      try clear c34b1
      try clear c34b2
      try clear c36
      try clear c36b0
      try clear c37
      try clear c37b0
      try clear c38
      try clear c38b0
      try clear c38b1
      try clear c38b2
      try clear c39
      try clear c39b0
      try clear c39b1
      try clear c39b2
      try clear c40
      try clear c40b0
      try clear c40b1
      try clear c40b2
      try clear c48
      try clear c52
      try clear c52b0
      try clear c52b1
      try clear c54
      try clear hcz12_0
      try clear hcz12_1
      try clear hcz12_2
      try clear hcz12_3
      try clear hcz12_4
      try clear hcz18_0
      try clear hcz18_1
      try clear hcz18_2
      try clear hcz18_3
      try clear hcz18_4
      try clear hcz49_0
      try clear hcz49_1
      try clear hcz49_2
      try clear hcz49_3
      try clear hcz49_4
      try clear hcz55_0
      try clear hcz55_1
      try clear hcz55_2
      try clear hcz55_3
      try clear hcz55_4
      try clear hfz12_0
      try clear hfz12_1
      try clear hfz12_2
      try clear hfz12_3
      try clear hfz12_4
      try clear hfz18_0
      try clear hfz18_1
      try clear hfz18_2
      try clear hfz18_3
      try clear hfz18_4
      try clear hfz49_0
      try clear hfz49_1
      try clear hfz49_2
      try clear hfz49_3
      try clear hfz49_4
      try clear hfz55_0
      try clear hfz55_1
      try clear hfz55_2
      try clear hfz55_3
      try clear hfz55_4
      try clear hx214_0
      try clear hx216_0
      try clear hx217_0
      try clear hx218_0
      try clear p2
      try clear p214
      try clear p216
      try clear p217
      try clear p218
      try clear q214
      try clear q216
      try clear q217
      try clear q218
      obtain ⟨kq, x92_41, rfl, HA, HJ41, HO_212000, HO_212001, HO_212002, HO_233000, HO_233001, HO_233002, BK211, BK232, HB⟩ := hcut
      cases kq with
      | zero => exact absurd HA.out (by simp [emendatelaw34_PricesOverride.j1])
      | succ kj41 =>
       have H := HA.out; clear HA
       simp only [emendatelaw34_PricesOverride.j1] at H
       by_cases c57 : x92_41 = true
       rotate_left
       ·
        replace c57 := Bool.eq_false_iff.mpr c57; subst c57; have H1 : (emendatelaw34_PricesOverride.l0 kj41 ji23 (wrap64 (1 + (Int.tmod (wrap64 (a2)) 1000))) 0 t198 t201 t204 t207 t208 t219 t222 t225 t228 t229) = some r := by rw [if_neg (show ¬ (false = true) by decide)] at H; exact H
        clear H; have H := H1; clear H1; have H' := Aside0.mk H; clear H
        go_wp2
        go_loopg [17] kj41 (fun kq v17 w' => ∃ (x17_3 : Int), v17 = .int .i64 x17_3 ∧ Aside0 (emendatelaw34_PricesOverride.l0 kq ji23 (wrap64 (1 + (Int.tmod (wrap64 (a2)) 1000))) x17_3 t198 t201 t204 t207 t208 t219 t222 t225 t228 t229 = some r) ∧ Aside0 (kq ≤ kj41) ∧ Aside0 (Kd.R (Kd.int .i64) 3 w' w.heap.size (fun k_ => some k_ ≠ ((.slice Ao13 t201.length co13) : Value).ownBlock ∧ some k_ ≠ ((.slice Ao47 t219.length co47) : Value).ownBlock ∧ some k_ ≠ ((.slice Ao50 t222.length co50) : Value).ownBlock) (.slice Ao11 t198.length co11) t198) ∧ Aside0 (Kd.R (Kd.int .i64) 3 w' w.heap.size (fun k_ => some k_ ≠ ((.slice Ao11 t198.length co11) : Value).ownBlock ∧ some k_ ≠ ((.slice Ao47 t219.length co47) : Value).ownBlock ∧ some k_ ≠ ((.slice Ao50 t222.length co50) : Value).ownBlock) (.slice Ao13 t201.length co13) t201) ∧ Aside0 (Kd.S (Kd.slice 3 (Kd.int .i64)) 22 w' w.heap.size (fun k_ => some k_ ≠ ((.slice Ao11 t198.length co11) : Value).ownBlock ∧ some k_ ≠ ((.slice Ao13 t201.length co13) : Value).ownBlock ∧ some k_ ≠ ((.slice Ao47 t219.length co47) : Value).ownBlock ∧ some k_ ≠ ((.slice Ao50 t222.length co50) : Value).ownBlock ∧ some k_ ≠ ((.slice Ao51 t225.length co51) : Value).ownBlock) (.slice Ao14 t204.length co14) t204) ∧ Aside0 (Kd.R (Kd.int .i64) 3 w' w.heap.size (fun k_ => some k_ ≠ ((.slice Ao11 t198.length co11) : Value).ownBlock ∧ some k_ ≠ ((.slice Ao13 t201.length co13) : Value).ownBlock ∧ some k_ ≠ ((.slice Ao50 t222.length co50) : Value).ownBlock) (.slice Ao47 t219.length co47) t219) ∧ Aside0 (Kd.R (Kd.int .i64) 3 w' w.heap.size (fun k_ => some k_ ≠ ((.slice Ao11 t198.length co11) : Value).ownBlock ∧ some k_ ≠ ((.slice Ao13 t201.length co13) : Value).ownBlock ∧ some k_ ≠ ((.slice Ao47 t219.length co47) : Value).ownBlock) (.slice Ao50 t222.length co50) t222) ∧ Aside0 (Kd.S (Kd.slice 3 (Kd.int .i64)) 22 w' w.heap.size (fun k_ => some k_ ≠ ((.slice Ao11 t198.length co11) : Value).ownBlock ∧ some k_ ≠ ((.slice Ao13 t201.length co13) : Value).ownBlock ∧ some k_ ≠ ((.slice Ao14 t204.length co14) : Value).ownBlock ∧ some k_ ≠ ((.slice Ao47 t219.length co47) : Value).ownBlock ∧ some k_ ≠ ((.slice Ao50 t222.length co50) : Value).ownBlock) (.slice Ao51 t225.length co51) t225) ∧ Aside0 (w'.heap[gb211]? = some (.cells #[(.slice Ao11 t198.length co11), (.slice Ao13 t201.length co13), (.slice Ao14 t204.length co14), .int .i64 t207, .int .i64 t208] 25 (0, 0))) ∧ Aside0 (w'.heap[gb232]? = some (.cells #[(.slice Ao47 t219.length co47), (.slice Ao50 t222.length co50), (.slice Ao51 t225.length co51), .int .i64 t228, .int .i64 t229] 25 (0, 0))) ∧ Aside0 (Below w.heap.size w w'))
        case atStart => exact ⟨(0), (by first | rfl | (simp; done) | (simp [*]; done)), H', ⟨Nat.le_refl _⟩, ⟨by (with_reducible repeat (first | apply Kd.R_alloc | apply Kd.R_drewN | apply Kd.R_drew)); exact HO_212000.out⟩, ⟨by (with_reducible repeat (first | apply Kd.R_alloc | apply Kd.R_drewN | apply Kd.R_drew)); exact HO_212001.out⟩, ⟨by (with_reducible repeat (first | apply Kd.S_alloc | apply Kd.S_drewN | apply Kd.S_drew)); exact HO_212002.out⟩, ⟨by (with_reducible repeat (first | apply Kd.R_alloc | apply Kd.R_drewN | apply Kd.R_drew)); exact HO_233000.out⟩, ⟨by (with_reducible repeat (first | apply Kd.R_alloc | apply Kd.R_drewN | apply Kd.R_drew)); exact HO_233001.out⟩, ⟨by (with_reducible repeat (first | apply Kd.S_alloc | apply Kd.S_drewN | apply Kd.S_drew)); exact HO_233002.out⟩, ⟨by (with_reducible repeat (first | refine blk_drewN ?_ _ | refine blk_drew ?_ | refine blk_alloc ?_ _)); exact BK211.out⟩, ⟨by (with_reducible repeat (first | refine blk_drewN ?_ _ | refine blk_drew ?_ | refine blk_alloc ?_ _)); exact BK232.out⟩, ⟨by repeat (first | (with_reducible first | exact HB.out | apply below_alloc | apply pw_below_drewN | apply below_drew1 | refine below_set ?_ GE211.out | refine below_set ?_ GE232.out) | exact HB.out)⟩⟩
        case round =>
         clear H'
         try clear c1
         try clear c2
         try clear p2
         try clear q2
         try clear hx2
         try clear c3
         try clear c4
         try clear c5
         try clear p6
         try clear c7
         try clear c10
         try clear c15
         try clear c15b0
         try clear c15b1
         try clear c16
         try clear c16b0
         try clear c16b1
         try clear c17
         try clear c20
         try clear c21
         try clear p21
         try clear q21
         try clear hx21
         try clear c24
         try clear c24b0
         try clear c25
         try clear c25b0
         try clear c26
         try clear c26b0
         try clear c26b1
         try clear c26b2
         try clear c27
         try clear c27b0
         try clear c27b1
         try clear c27b2
         try clear c29
         try clear c29b0
         try clear c29b1
         try clear c29b2
         try clear c30
         try clear c30b0
         try clear c30b1
         try clear c30b2
         try clear c31
         try clear c31b0
         try clear c31b1
         try clear c31b2
         try clear c32
         try clear c32b0
         try clear c32b1
         try clear c32b2
         try clear c33
         try clear c33b0
         try clear c33b1
         try clear c33b2
         try clear c34
         try clear c34b0
         try clear c34b1
         try clear c34b2
         try clear c36
         try clear c36b0
         try clear c37
         try clear c37b0
         try clear c38
         try clear c38b0
         try clear c38b1
         try clear c38b2
         try clear c39
         try clear c39b0
         try clear c39b1
         try clear c39b2
         try clear c40
         try clear c40b0
         try clear c40b1
         try clear c40b2
         try clear c48
         try clear c52
         try clear c52b0
         try clear c52b1
         try clear c54
         try clear c57
         try clear hcz12_0
         try clear hcz12_1
         try clear hcz12_2
         try clear hcz12_3
         try clear hcz12_4
         try clear hcz18_0
         try clear hcz18_1
         try clear hcz18_2
         try clear hcz18_3
         try clear hcz18_4
         try clear hcz49_0
         try clear hcz49_1
         try clear hcz49_2
         try clear hcz49_3
         try clear hcz49_4
         try clear hcz55_0
         try clear hcz55_1
         try clear hcz55_2
         try clear hcz55_3
         try clear hcz55_4
         try clear hfz12_0
         try clear hfz12_1
         try clear hfz12_2
         try clear hfz12_3
         try clear hfz12_4
         try clear hfz18_0
         try clear hfz18_1
         try clear hfz18_2
         try clear hfz18_3
         try clear hfz18_4
         try clear hfz49_0
         try clear hfz49_1
         try clear hfz49_2
         try clear hfz49_3
         try clear hfz49_4
         try clear hfz55_0
         try clear hfz55_1
         try clear hfz55_2
         try clear hfz55_3
         try clear hfz55_4
         try clear hx214_0
         try clear hx216_0
         try clear hx217_0
         try clear hx218_0
         try clear p2
         try clear p21
         try clear p214
         try clear p216
         try clear p217
         try clear p218
         try clear p6
         try clear q2
         try clear q21
         try clear q214
         try clear q216
         try clear q217
         try clear q218
         obtain ⟨x17_3, rfl, HA, HK3, HO_212000, HO_212001, HO_212002, HO_233000, HO_233001, HO_233002, BK211, BK232, HB⟩ := hrel
         cases gk with
         | zero => exact absurd HA.out (by simp [emendatelaw34_PricesOverride.l0])
         | succ k3 =>
          have H := HA.out; clear HA
          simp only [emendatelaw34_PricesOverride.l0] at H
          by_cases c58 : x17_3 < 3
          rotate_left
          ·
           rw [if_neg c58] at H
           have c58b0 : decide (x17_3 < 3) = false := decide_eq_false c58; clear c58; replace H := Option.bind_eq_some_iff.mp H; obtain ⟨t234, A930, H⟩ := H; replace H : (if t234 = true then (if 0 ≤ ji23 then (if ji23 < (t219.length : Int) then (if (rd t219 ji23) = (wrap64 (1 + (Int.tmod (wrap64 (a2)) 1000))) then (if ji23 < (t222.length : Int) then (if (rd t222 ji23) = 9 then (if ji23 < (t225.length : Int) then (if 0 ≤ (Int.tmod (wrap64 (ji23 + 1)) 3) then (if (Int.tmod (wrap64 (ji23 + 1)) 3) < ((rd_L1 t225 ji23).length : Int) then (if (rd (rd_L1 t225 ji23) (Int.tmod (wrap64 (ji23 + 1)) 3)) = (-1) then (if t229 = 5 then (some (t228 == t207)) else (some false)) else (some false)) else (none)) else (none)) else (none)) else (some false)) else (none)) else (some false)) else (none)) else (none)) else (some false)) = some r := H; have A93 := Aside0.mk A930; clear A930
           by_cases c94 : t234 = true
           rotate_left
           ·
            replace c94 := Bool.eq_false_iff.mpr c94; subst c94; have H1 : (some false) = some r := by rw [if_neg (show ¬ (false = true) by decide)] at H; exact H
            clear H; have H := H1; clear H1
            first | exact absurd (Option.some.inj H) (by rw [HRt.out]; decide) | fail "KEEP 3942"
           subst c94; have H1 : (if 0 ≤ ji23 then (if ji23 < (t219.length : Int) then (if (rd t219 ji23) = (wrap64 (1 + (Int.tmod (wrap64 (a2)) 1000))) then (if ji23 < (t222.length : Int) then (if (rd t222 ji23) = 9 then (if ji23 < (t225.length : Int) then (if 0 ≤ (Int.tmod (wrap64 (ji23 + 1)) 3) then (if (Int.tmod (wrap64 (ji23 + 1)) 3) < ((rd_L1 t225 ji23).length : Int) then (if (rd (rd_L1 t225 ji23) (Int.tmod (wrap64 (ji23 + 1)) 3)) = (-1) then (if t229 = 5 then (some (t228 == t207)) else (some false)) else (some false)) else (none)) else (none)) else (none)) else (some false)) else (none)) else (some false)) else (none)) else (none)) = some r := by rw [if_pos rfl] at H; exact H
           clear H; have H := H1; clear H1
           by_cases c95 : 0 ≤ ji23
           rotate_left
           ·
            rw [if_neg c95] at H
            exact absurd H (by simp)
           rw [if_pos c95] at H
           have c95b0 : decide (0 ≤ ji23) = true := decide_eq_true c95; clear c95
           by_cases c96 : ji23 < (t219.length : Int)
           rotate_left
           ·
            rw [if_neg c96] at H
            exact absurd H (by simp)
           rw [if_pos c96] at H
           have c96b0 : decide (ji23 < (t219.length : Int)) = true := decide_eq_true c96; clear c96
           by_cases c97 : (rd t219 ji23) = (wrap64 (1 + (Int.tmod (wrap64 (a2)) 1000)))
           rotate_left
           ·
            rw [if_neg c97] at H
            have c97b0 : ((rd t219 ji23) == (wrap64 (1 + (Int.tmod (wrap64 (a2)) 1000)))) = false := beq_eq_false_iff_ne.mpr c97; have c97b1 : ((rd t219 ji23) != (wrap64 (1 + (Int.tmod (wrap64 (a2)) 1000)))) = true := bne_iff_ne.mpr c97
            first | exact absurd (Option.some.inj H) (by rw [HRt.out]; decide) | fail "KEEP 3928"
           rw [if_pos c97] at H
           have c97b0 : ((rd t219 ji23) == (wrap64 (1 + (Int.tmod (wrap64 (a2)) 1000)))) = true := beq_iff_eq.mpr c97; have c97b1 : ((rd t219 ji23) != (wrap64 (1 + (Int.tmod (wrap64 (a2)) 1000)))) = false := bne_eq_false_iff_eq.mpr c97; clear c97
           by_cases c98 : ji23 < (t222.length : Int)
           rotate_left
           ·
            rw [if_neg c98] at H
            exact absurd H (by simp)
           rw [if_pos c98] at H
           have c98b0 : decide (ji23 < (t222.length : Int)) = true := decide_eq_true c98; clear c98
           by_cases c99 : (rd t222 ji23) = 9
           rotate_left
           ·
            rw [if_neg c99] at H
            have c99b0 : ((rd t222 ji23) == 9) = false := beq_eq_false_iff_ne.mpr c99; have c99b1 : ((rd t222 ji23) != 9) = true := bne_iff_ne.mpr c99
            first | exact absurd (Option.some.inj H) (by rw [HRt.out]; decide) | fail "KEEP 3919"
           rw [if_pos c99] at H
           have c99b0 : ((rd t222 ji23) == 9) = true := beq_iff_eq.mpr c99; have c99b1 : ((rd t222 ji23) != 9) = false := bne_eq_false_iff_eq.mpr c99; clear c99
           by_cases c100 : ji23 < (t225.length : Int)
           rotate_left
           ·
            rw [if_neg c100] at H
            exact absurd H (by simp)
           rw [if_pos c100] at H
           have c100b0 : decide (ji23 < (t225.length : Int)) = true := decide_eq_true c100; clear c100; obtain ⟨ji101, hji101⟩ : ∃ j_ : Int, (Int.tmod (wrap64 (ji23 + 1)) 3) = j_ := ⟨_, rfl⟩
           replace H : (if 0 ≤ (ji101) then (if (ji101) < ((rd_L1 t225 ji23).length : Int) then (if (rd (rd_L1 t225 ji23) (ji101)) = (-1) then (if t229 = 5 then (some (t228 == t207)) else (some false)) else (some false)) else (none)) else (none)) = some r := by first | (rw [hji101] at H; exact H) | (simp only [hji101] at H ⊢; exact H)
           obtain rfl : ji101 = ji35 := hji101.symm.trans hji35
           (try rw [hji101] at A93)
           by_cases c102 : 0 ≤ (ji101)
           rotate_left
           ·
            rw [if_neg c102] at H
            exact absurd H (by simp)
           rw [if_pos c102] at H
           have c102b0 : decide (0 ≤ (ji101)) = true := decide_eq_true c102; clear c102
           by_cases c103 : (ji101) < ((rd_L1 t225 ji23).length : Int)
           rotate_left
           ·
            rw [if_neg c103] at H
            exact absurd H (by simp)
           rw [if_pos c103] at H
           have c103b0 : decide ((ji101) < ((rd_L1 t225 ji23).length : Int)) = true := decide_eq_true c103; clear c103
           by_cases c104 : (rd (rd_L1 t225 ji23) (ji101)) = (-1)
           rotate_left
           ·
            rw [if_neg c104] at H
            have c104b0 : ((rd (rd_L1 t225 ji23) (ji101)) == (-1)) = false := beq_eq_false_iff_ne.mpr c104; have c104b1 : ((rd (rd_L1 t225 ji23) (ji101)) != (-1)) = true := bne_iff_ne.mpr c104
            first | exact absurd (Option.some.inj H) (by rw [HRt.out]; decide) | fail "KEEP 3906"
           rw [if_pos c104] at H
           have c104b0 : ((rd (rd_L1 t225 ji23) (ji101)) == (-1)) = true := beq_iff_eq.mpr c104; have c104b1 : ((rd (rd_L1 t225 ji23) (ji101)) != (-1)) = false := bne_eq_false_iff_eq.mpr c104; clear c104
           by_cases c105 : t229 = 5
           rotate_left
           ·
            rw [if_neg c105] at H
            have c105b0 : (t229 == 5) = false := beq_eq_false_iff_ne.mpr c105; have c105b1 : (t229 != 5) = true := bne_iff_ne.mpr c105
            first | exact absurd (Option.some.inj H) (by rw [HRt.out]; decide) | fail "KEEP 3899"
           rw [if_pos c105] at H
           have c105b0 : (t229 == 5) = true := beq_iff_eq.mpr c105; have c105b1 : (t229 != 5) = false := bne_eq_false_iff_eq.mpr c105; clear c105; obtain rfl := Option.some.inj H
           go_wp2_with (first | ((with_reducible refine gate_callee (f := 10) rfl ?_); refine goesL_ (some 159) rfl rfl Tryz.func10 (by kernel_rfl) rfl #[] rfl (by (try simp only [List.map_toArray, List.map_cons, List.map_nil]); first | done | rfl | (simp only [List.length_drop, List.length_take]; rfl)) ?_; (with_reducible refine (emendatelaw34_awake.calls  true _ ?side1 A93.out).mono ?_); (case side1 => exact Glob.below HG.out (by repeat (first | (with_reducible first | exact HB.out | apply below_alloc | apply pw_below_drewN | apply below_drew1 | refine below_set ?_ GE211.out | refine below_set ?_ GE232.out) | exact HB.out))); rintro e w106 ⟨rfl, hb⟩; refine ⟨_, rfl, ?_⟩; have n0_ := Aside0.mk (Kd.R_below (by (with_reducible repeat (first | apply Kd.R_alloc | apply Kd.R_drewN | apply Kd.R_drew)); exact HO_212000.out) hb); have n1_ := Aside0.mk (Kd.R_below (by (with_reducible repeat (first | apply Kd.R_alloc | apply Kd.R_drewN | apply Kd.R_drew)); exact HO_212001.out) hb); have n2_ := Aside0.mk (Kd.S_below (by (with_reducible repeat (first | apply Kd.S_alloc | apply Kd.S_drewN | apply Kd.S_drew)); exact HO_212002.out) hb); have n3_ := Aside0.mk (Kd.R_below (by (with_reducible repeat (first | apply Kd.R_alloc | apply Kd.R_drewN | apply Kd.R_drew)); exact HO_233000.out) hb); have n4_ := Aside0.mk (Kd.R_below (by (with_reducible repeat (first | apply Kd.R_alloc | apply Kd.R_drewN | apply Kd.R_drew)); exact HO_233001.out) hb); have n5_ := Aside0.mk (Kd.S_below (by (with_reducible repeat (first | apply Kd.S_alloc | apply Kd.S_drewN | apply Kd.S_drew)); exact HO_233002.out) hb); have n6_ := Aside0.mk (blk_below (g := gb211) (o := .cells #[.slice Ao11 t198.length co11, .slice Ao13 t201.length co13, .slice Ao14 t204.length co14, .int .i64 t207, .int .i64 t208] 25 (0, 0)) (by (with_reducible repeat (first | refine blk_drewN ?_ _ | refine blk_drew ?_ | refine blk_alloc ?_ _)); exact BK211.out) hb); have n7_ := Aside0.mk (blk_below (g := gb232) (o := .cells #[.slice Ao47 t219.length co47, .slice Ao50 t222.length co50, .slice Ao51 t225.length co51, .int .i64 t228, .int .i64 t229] 25 (0, 0)) (by (with_reducible repeat (first | refine blk_drewN ?_ _ | refine blk_drew ?_ | refine blk_alloc ?_ _)); exact BK232.out) hb); have n8_ := Aside0.mk (below_step (by repeat (first | (with_reducible first | exact HB.out | apply below_alloc | apply pw_below_drewN | apply below_drew1 | refine below_set ?_ GE211.out | refine below_set ?_ GE232.out) | exact HB.out)) hb); clear HO_212000; clear HO_212001; clear HO_212002; clear HO_233000; clear HO_233001; clear HO_233002; clear BK211; clear BK232; clear HB; have HO_212000 := n0_; have HO_212001 := n1_; have HO_212002 := n2_; have HO_233000 := n3_; have HO_233001 := n4_; have HO_233002 := n5_; have BK211 := n6_; have BK232 := n7_; have HB := n8_; clear n0_ n1_ n2_ n3_ n4_ n5_ n6_ n7_ n8_; (try clear hb); (try clear hb2); (try clear hk); (try clear hi); have hnb107 := NB232_211.out; have hnc107 := NB211_232.out; have hcz108_0 : w106.cell? ⟨gb232, 0, none⟩ = some (.slice Ao47 t219.length co47) := (blk_cell BK232.out 0).trans rfl; have hcz108_1 : w106.cell? ⟨gb232, 1, none⟩ = some (.slice Ao50 t222.length co50) := (blk_cell BK232.out 1).trans rfl; have hcz108_2 : w106.cell? ⟨gb232, 2, none⟩ = some (.slice Ao51 t225.length co51) := (blk_cell BK232.out 2).trans rfl; have hcz108_3 : w106.cell? ⟨gb232, 3, none⟩ = some (.int .i64 t228) := (blk_cell BK232.out 3).trans rfl; have hcz108_4 : w106.cell? ⟨gb232, 4, none⟩ = some (.int .i64 t229) := (blk_cell BK232.out 4).trans rfl; have hfz108_0 := blk_frozen BK232.out 0; have hfz108_1 := blk_frozen BK232.out 1; have hfz108_2 := blk_frozen BK232.out 2; have hfz108_3 := blk_frozen BK232.out 3; have hfz108_4 := blk_frozen BK232.out 4; have p235 : 0 ≤ (ji23 : Int) := of_decide_eq_true (by first | (with_reducible assumption) | assumption); have q235 : ji23 < (t219.length : Int) := of_decide_eq_true (by first | (with_reducible assumption) | assumption); obtain ⟨ad235, e235, hx235_0⟩ := Kd.at_int (Kd.R_reads' HO_233000.out).2.2 ji23 p235 q235; cases e235; replace p235 := eq_true p235; replace q235 := eq_true q235; have p236 : 0 ≤ (ji23 : Int) := of_decide_eq_true (by first | (with_reducible assumption) | assumption); have q236 : ji23 < (t222.length : Int) := of_decide_eq_true (by first | (with_reducible assumption) | assumption); obtain ⟨ad236, e236, hx236_0⟩ := Kd.at_int (Kd.R_reads' HO_233001.out).2.2 ji23 p236 q236; cases e236; replace p236 := eq_true p236; replace q236 := eq_true q236; have p237 : 0 ≤ (ji23 : Int) := of_decide_eq_true (by first | (with_reducible assumption) | assumption); have q237 : ji23 < (t225.length : Int) := of_decide_eq_true (by first | (with_reducible assumption) | assumption); obtain ⟨ad237, A237_0, c237_0, e237, hx237_0, hl237_0, hi237_0⟩ := at_L1 (Kd.S_reads' HO_233002.out).2.2 ji23 p237 q237; cases e237; obtain ⟨ce237, hce237, hMe237, hcc237⟩ := Kd.S_get HO_233002.out [] ji23 p237 (by first | exact q237 | exact of_decide_eq_true (by first | (with_reducible assumption) | assumption) | (have e_ := (Kd.S_reads' HO_233002.out).1; omega)); obtain ⟨ve237_0, rfl, ge237_0⟩ := hMe237; have hv237_0 := hcc237 0 _ rfl; rw [Nat.add_zero, show ((Kd.slice 3 (Kd.int .i64))).sz = 1 from rfl, Nat.mul_one] at hv237_0; replace hv237_0 := Option.some.inj (hv237_0.symm.trans hx237_0); rw [hv237_0] at ge237_0; have HL237_0 := Aside0.mk (show Kd.R (Kd.int .i64) 3 _ _ _ _ (rd_L1 t225 ji23) from ge237_0); clear hv237_0 ge237_0; clear hcc237 hce237; have HR237_0 := Aside0.mk hi237_0; have HC237_0 := Aside0.mk hl237_0; clear hi237_0 hl237_0; replace p237 := eq_true p237; replace q237 := eq_true q237; have p238 : 0 ≤ ((ji101) : Int) := of_decide_eq_true (by first | (with_reducible assumption) | assumption); have q238 : (ji101) < ((rd_L1 t225 ji23).length : Int) := of_decide_eq_true (by first | (with_reducible assumption) | assumption); obtain ⟨ad238, e238, hx238_0⟩ := Kd.at_int (by repeat (first | (with_reducible exact HR237_0.out) | (with_reducible refine Kd.C_alloc ?_ _) | (with_reducible refine Kd.C_drewN ?_ _) | (with_reducible refine Kd.C_drew ?_) | exact HR237_0.out)) (ji101) p238 q238; cases e238; replace p238 := eq_true p238; replace q238 := eq_true q238; have hcz109_0 : w106.cell? ⟨gb211, 0, none⟩ = some (.slice Ao11 t198.length co11) := (blk_cell BK211.out 0).trans rfl; have hcz109_1 : w106.cell? ⟨gb211, 1, none⟩ = some (.slice Ao13 t201.length co13) := (blk_cell BK211.out 1).trans rfl; have hcz109_2 : w106.cell? ⟨gb211, 2, none⟩ = some (.slice Ao14 t204.length co14) := (blk_cell BK211.out 2).trans rfl; have hcz109_3 : w106.cell? ⟨gb211, 3, none⟩ = some (.int .i64 t207) := (blk_cell BK211.out 3).trans rfl; have hcz109_4 : w106.cell? ⟨gb211, 4, none⟩ = some (.int .i64 t208) := (blk_cell BK211.out 4).trans rfl; have hfz109_0 := blk_frozen BK211.out 0; have hfz109_1 := blk_frozen BK211.out 1; have hfz109_2 := blk_frozen BK211.out 2; have hfz109_3 := blk_frozen BK211.out 3; have hfz109_4 := blk_frozen BK211.out 4))
           go_ret
           exact ⟨by first | rfl | (simp [errW_none, errW_some] <;> rfl) | (simp only [← hji23, ← hji35, ← hji101]; first | rfl | (simp [errW_none, errW_some] <;> rfl)) | (simp [*, errW_none, errW_some] <;> rfl), by repeat (first | (with_reducible first | exact HB.out | apply below_alloc | apply pw_below_drewN | apply below_drew1 | refine below_set ?_ GE211.out | refine below_set ?_ GE232.out) | exact HB.out)⟩
          rw [if_pos c58] at H
          have c58b0 : decide (x17_3 < 3) = true := decide_eq_true c58; clear c58; have H' := Aside0.mk H; clear H
          go_wp2
          go_loopg [18] k3 (fun kq v18 w' => ∃ (x18_4 : Int), v18 = .int .i64 x18_4 ∧ Aside0 (emendatelaw34_PricesOverride.l1 kq ji23 (wrap64 (1 + (Int.tmod (wrap64 (a2)) 1000))) x17_3 x18_4 t198 t201 t204 t207 t208 t219 t222 t225 t228 t229 = some r) ∧ Aside0 (kq ≤ k3) ∧ Aside0 (Kd.R (Kd.int .i64) 3 w' w.heap.size (fun k_ => some k_ ≠ ((.slice Ao13 t201.length co13) : Value).ownBlock ∧ some k_ ≠ ((.slice Ao47 t219.length co47) : Value).ownBlock ∧ some k_ ≠ ((.slice Ao50 t222.length co50) : Value).ownBlock) (.slice Ao11 t198.length co11) t198) ∧ Aside0 (Kd.R (Kd.int .i64) 3 w' w.heap.size (fun k_ => some k_ ≠ ((.slice Ao11 t198.length co11) : Value).ownBlock ∧ some k_ ≠ ((.slice Ao47 t219.length co47) : Value).ownBlock ∧ some k_ ≠ ((.slice Ao50 t222.length co50) : Value).ownBlock) (.slice Ao13 t201.length co13) t201) ∧ Aside0 (Kd.S (Kd.slice 3 (Kd.int .i64)) 22 w' w.heap.size (fun k_ => some k_ ≠ ((.slice Ao11 t198.length co11) : Value).ownBlock ∧ some k_ ≠ ((.slice Ao13 t201.length co13) : Value).ownBlock ∧ some k_ ≠ ((.slice Ao47 t219.length co47) : Value).ownBlock ∧ some k_ ≠ ((.slice Ao50 t222.length co50) : Value).ownBlock ∧ some k_ ≠ ((.slice Ao51 t225.length co51) : Value).ownBlock) (.slice Ao14 t204.length co14) t204) ∧ Aside0 (Kd.R (Kd.int .i64) 3 w' w.heap.size (fun k_ => some k_ ≠ ((.slice Ao11 t198.length co11) : Value).ownBlock ∧ some k_ ≠ ((.slice Ao13 t201.length co13) : Value).ownBlock ∧ some k_ ≠ ((.slice Ao50 t222.length co50) : Value).ownBlock) (.slice Ao47 t219.length co47) t219) ∧ Aside0 (Kd.R (Kd.int .i64) 3 w' w.heap.size (fun k_ => some k_ ≠ ((.slice Ao11 t198.length co11) : Value).ownBlock ∧ some k_ ≠ ((.slice Ao13 t201.length co13) : Value).ownBlock ∧ some k_ ≠ ((.slice Ao47 t219.length co47) : Value).ownBlock) (.slice Ao50 t222.length co50) t222) ∧ Aside0 (Kd.S (Kd.slice 3 (Kd.int .i64)) 22 w' w.heap.size (fun k_ => some k_ ≠ ((.slice Ao11 t198.length co11) : Value).ownBlock ∧ some k_ ≠ ((.slice Ao13 t201.length co13) : Value).ownBlock ∧ some k_ ≠ ((.slice Ao14 t204.length co14) : Value).ownBlock ∧ some k_ ≠ ((.slice Ao47 t219.length co47) : Value).ownBlock ∧ some k_ ≠ ((.slice Ao50 t222.length co50) : Value).ownBlock) (.slice Ao51 t225.length co51) t225) ∧ Aside0 (w'.heap[gb211]? = some (.cells #[(.slice Ao11 t198.length co11), (.slice Ao13 t201.length co13), (.slice Ao14 t204.length co14), .int .i64 t207, .int .i64 t208] 25 (0, 0))) ∧ Aside0 (w'.heap[gb232]? = some (.cells #[(.slice Ao47 t219.length co47), (.slice Ao50 t222.length co50), (.slice Ao51 t225.length co51), .int .i64 t228, .int .i64 t229] 25 (0, 0))) ∧ Aside0 (Below w.heap.size w w'))
          case atStart => exact ⟨(0), (by first | rfl | (simp; done) | (simp [*]; done)), H', ⟨Nat.le_refl _⟩, ⟨by (with_reducible repeat (first | apply Kd.R_alloc | apply Kd.R_drewN | apply Kd.R_drew)); exact HO_212000.out⟩, ⟨by (with_reducible repeat (first | apply Kd.R_alloc | apply Kd.R_drewN | apply Kd.R_drew)); exact HO_212001.out⟩, ⟨by (with_reducible repeat (first | apply Kd.S_alloc | apply Kd.S_drewN | apply Kd.S_drew)); exact HO_212002.out⟩, ⟨by (with_reducible repeat (first | apply Kd.R_alloc | apply Kd.R_drewN | apply Kd.R_drew)); exact HO_233000.out⟩, ⟨by (with_reducible repeat (first | apply Kd.R_alloc | apply Kd.R_drewN | apply Kd.R_drew)); exact HO_233001.out⟩, ⟨by (with_reducible repeat (first | apply Kd.S_alloc | apply Kd.S_drewN | apply Kd.S_drew)); exact HO_233002.out⟩, ⟨by (with_reducible repeat (first | refine blk_drewN ?_ _ | refine blk_drew ?_ | refine blk_alloc ?_ _)); exact BK211.out⟩, ⟨by (with_reducible repeat (first | refine blk_drewN ?_ _ | refine blk_drew ?_ | refine blk_alloc ?_ _)); exact BK232.out⟩, ⟨by repeat (first | (with_reducible first | exact HB.out | apply below_alloc | apply pw_below_drewN | apply below_drew1 | refine below_set ?_ GE211.out | refine below_set ?_ GE232.out) | exact HB.out)⟩⟩
          case round =>
           clear H'
           try clear c1
           try clear c2
           try clear p2
           try clear q2
           try clear hx2
           try clear c3
           try clear c4
           try clear c5
           try clear p6
           try clear c7
           try clear c10
           try clear c15
           try clear c15b0
           try clear c15b1
           try clear c16
           try clear c16b0
           try clear c16b1
           try clear c17
           try clear c20
           try clear c21
           try clear p21
           try clear q21
           try clear hx21
           try clear c24
           try clear c24b0
           try clear c25
           try clear c25b0
           try clear c26
           try clear c26b0
           try clear c26b1
           try clear c26b2
           try clear c27
           try clear c27b0
           try clear c27b1
           try clear c27b2
           try clear c29
           try clear c29b0
           try clear c29b1
           try clear c29b2
           try clear c30
           try clear c30b0
           try clear c30b1
           try clear c30b2
           try clear c31
           try clear c31b0
           try clear c31b1
           try clear c31b2
           try clear c32
           try clear c32b0
           try clear c32b1
           try clear c32b2
           try clear c33
           try clear c33b0
           try clear c33b1
           try clear c33b2
           try clear c34
           try clear c34b0
           try clear c34b1
           try clear c34b2
           try clear c36
           try clear c36b0
           try clear c37
           try clear c37b0
           try clear c38
           try clear c38b0
           try clear c38b1
           try clear c38b2
           try clear c39
           try clear c39b0
           try clear c39b1
           try clear c39b2
           try clear c40
           try clear c40b0
           try clear c40b1
           try clear c40b2
           try clear c48
           try clear c52
           try clear c52b0
           try clear c52b1
           try clear c54
           try clear c57
           try clear c58
           try clear c58b0
           try clear hcz12_0
           try clear hcz12_1
           try clear hcz12_2
           try clear hcz12_3
           try clear hcz12_4
           try clear hcz18_0
           try clear hcz18_1
           try clear hcz18_2
           try clear hcz18_3
           try clear hcz18_4
           try clear hcz49_0
           try clear hcz49_1
           try clear hcz49_2
           try clear hcz49_3
           try clear hcz49_4
           try clear hcz55_0
           try clear hcz55_1
           try clear hcz55_2
           try clear hcz55_3
           try clear hcz55_4
           try clear hfz12_0
           try clear hfz12_1
           try clear hfz12_2
           try clear hfz12_3
           try clear hfz12_4
           try clear hfz18_0
           try clear hfz18_1
           try clear hfz18_2
           try clear hfz18_3
           try clear hfz18_4
           try clear hfz49_0
           try clear hfz49_1
           try clear hfz49_2
           try clear hfz49_3
           try clear hfz49_4
           try clear hfz55_0
           try clear hfz55_1
           try clear hfz55_2
           try clear hfz55_3
           try clear hfz55_4
           try clear hx214_0
           try clear hx216_0
           try clear hx217_0
           try clear hx218_0
           try clear p2
           try clear p21
           try clear p214
           try clear p216
           try clear p217
           try clear p218
           try clear p6
           try clear q2
           try clear q21
           try clear q214
           try clear q216
           try clear q217
           try clear q218
           obtain ⟨x18_4, rfl, HA, HK4, HO_212000, HO_212001, HO_212002, HO_233000, HO_233001, HO_233002, BK211, BK232, HB⟩ := hrel
           cases gk with
           | zero => exact absurd HA.out (by simp [emendatelaw34_PricesOverride.l1])
           | succ k4 =>
            have H := HA.out; clear HA
            simp only [emendatelaw34_PricesOverride.l1] at H
            by_cases c59 : x18_4 < 3
            rotate_left
            ·
             rw [if_neg c59] at H
             have c59b0 : decide (x18_4 < 3) = false := decide_eq_false c59; clear c59
             by_cases c81 : x17_3 = ji23
             rotate_left
             ·
              rw [if_neg c81] at H
              have c81b0 : (x17_3 == ji23) = false := beq_eq_false_iff_ne.mpr c81; have c81b1 : (x17_3 != ji23) = true := bne_iff_ne.mpr c81
              by_cases c83 : 0 ≤ x17_3
              rotate_left
              ·
               rw [if_neg c83] at H
               exact absurd H (by simp)
              rw [if_pos c83] at H
              have c83b0 : decide (0 ≤ x17_3) = true := decide_eq_true c83; clear c83
              by_cases c84 : x17_3 < (t219.length : Int)
              rotate_left
              ·
               rw [if_neg c84] at H
               exact absurd H (by simp)
              rw [if_pos c84] at H
              have c84b0 : decide (x17_3 < (t219.length : Int)) = true := decide_eq_true c84; clear c84
              by_cases c85 : x17_3 < (t198.length : Int)
              rotate_left
              ·
               rw [if_neg c85] at H
               exact absurd H (by simp)
              rw [if_pos c85] at H
              have c85b0 : decide (x17_3 < (t198.length : Int)) = true := decide_eq_true c85; clear c85
              by_cases c86 : (rd t219 x17_3) = (rd t198 x17_3)
              rotate_left
              ·
               rw [if_neg c86] at H
               have c86b0 : ((rd t219 x17_3) == (rd t198 x17_3)) = false := beq_eq_false_iff_ne.mpr c86; have c86b1 : ((rd t219 x17_3) != (rd t198 x17_3)) = true := bne_iff_ne.mpr c86
               first | exact absurd (Option.some.inj H) (by rw [HRt.out]; decide) | fail "KEEP 3589"
              rw [if_pos c86] at H
              have c86b0 : ((rd t219 x17_3) == (rd t198 x17_3)) = true := beq_iff_eq.mpr c86; have c86b1 : ((rd t219 x17_3) != (rd t198 x17_3)) = false := bne_eq_false_iff_eq.mpr c86; clear c86
              by_cases c87 : x17_3 < (t222.length : Int)
              rotate_left
              ·
               rw [if_neg c87] at H
               exact absurd H (by simp)
              rw [if_pos c87] at H
              have c87b0 : decide (x17_3 < (t222.length : Int)) = true := decide_eq_true c87; clear c87
              by_cases c88 : x17_3 < (t201.length : Int)
              rotate_left
              ·
               rw [if_neg c88] at H
               exact absurd H (by simp)
              rw [if_pos c88] at H
              have c88b0 : decide (x17_3 < (t201.length : Int)) = true := decide_eq_true c88; clear c88
              by_cases c89 : (rd t222 x17_3) = (rd t201 x17_3)
              rotate_left
              ·
               rw [if_neg c89] at H
               have c89b0 : ((rd t222 x17_3) == (rd t201 x17_3)) = false := beq_eq_false_iff_ne.mpr c89; have c89b1 : ((rd t222 x17_3) != (rd t201 x17_3)) = true := bne_iff_ne.mpr c89
               first | exact absurd (Option.some.inj H) (by rw [HRt.out]; decide) | fail "KEEP 3290"
              rw [if_pos c89] at H
              have c89b0 : ((rd t222 x17_3) == (rd t201 x17_3)) = true := beq_iff_eq.mpr c89; have c89b1 : ((rd t222 x17_3) != (rd t201 x17_3)) = false := bne_eq_false_iff_eq.mpr c89; clear c89; have H' := Aside0.mk H; clear H
              try go_wp2
              have n0_ := Aside0.mk (Kd.R_drew HO_212000.out); have n1_ := Aside0.mk (Kd.R_drew HO_212001.out); have n2_ := Aside0.mk (Kd.S_drew HO_212002.out); have n3_ := Aside0.mk (Kd.R_drew HO_233000.out); have n4_ := Aside0.mk (Kd.R_drew HO_233001.out); have n5_ := Aside0.mk (Kd.S_drew HO_233002.out); have n6_ := Aside0.mk (blk_drew BK211.out); have n7_ := Aside0.mk (blk_drew BK232.out); have n8_ := Aside0.mk (below_drew1 HB.out); clear HO_212000; clear HO_212001; clear HO_212002; clear HO_233000; clear HO_233001; clear HO_233002; clear BK211; clear BK232; clear HB; have HO_212000 := n0_; have HO_212001 := n1_; have HO_212002 := n2_; have HO_233000 := n3_; have HO_233001 := n4_; have HO_233002 := n5_; have BK211 := n6_; have BK232 := n7_; have HB := n8_; clear n0_ n1_ n2_ n3_ n4_ n5_ n6_ n7_ n8_; have p247 : 0 ≤ (x17_3 : Int) := of_decide_eq_true (by first | (with_reducible assumption) | assumption)
              have q247 : x17_3 < (t219.length : Int) := of_decide_eq_true (by first | (with_reducible assumption) | assumption)
              obtain ⟨ad247, e247, hx247_0⟩ := Kd.at_int (Kd.R_reads' HO_233000.out).2.2 x17_3 p247 q247
              cases e247
              replace p247 := eq_true p247; replace q247 := eq_true q247; have p248 : 0 ≤ (x17_3 : Int) := of_decide_eq_true (by first | (with_reducible assumption) | assumption)
              have q248 : x17_3 < (t198.length : Int) := of_decide_eq_true (by first | (with_reducible assumption) | assumption)
              obtain ⟨ad248, e248, hx248_0⟩ := Kd.at_int (Kd.R_reads' HO_212000.out).2.2 x17_3 p248 q248
              cases e248
              replace p248 := eq_true p248; replace q248 := eq_true q248; have p249 : 0 ≤ (x17_3 : Int) := of_decide_eq_true (by first | (with_reducible assumption) | assumption)
              have q249 : x17_3 < (t222.length : Int) := of_decide_eq_true (by first | (with_reducible assumption) | assumption)
              obtain ⟨ad249, e249, hx249_0⟩ := Kd.at_int (Kd.R_reads' HO_233001.out).2.2 x17_3 p249 q249
              cases e249
              replace p249 := eq_true p249; replace q249 := eq_true q249; have p250 : 0 ≤ (x17_3 : Int) := of_decide_eq_true (by first | (with_reducible assumption) | assumption)
              have q250 : x17_3 < (t201.length : Int) := of_decide_eq_true (by first | (with_reducible assumption) | assumption)
              obtain ⟨ad250, e250, hx250_0⟩ := Kd.at_int (Kd.R_reads' HO_212001.out).2.2 x17_3 p250 q250
              cases e250
              replace p250 := eq_true p250; replace q250 := eq_true q250
              refine start_ (n := 29) (S := fun w' => w'.cell? ⟨gb232, 0, none⟩ = some (.slice (some ad247) t219.length co47) ∧ w'.cell? ⟨gb232, 1, none⟩ = some (.slice (some ad249) t222.length co50) ∧ w'.cell? ⟨gb232, 2, none⟩ = some (.slice Ao51 t225.length co51) ∧ w'.cell? ⟨gb232, 3, none⟩ = some (.int .i64 t228) ∧ w'.cell? ⟨gb232, 4, none⟩ = some (.int .i64 t229) ∧ w'.cell? ⟨gb211, 0, none⟩ = some (.slice (some ad248) t198.length co11) ∧ w'.cell? ⟨gb211, 1, none⟩ = some (.slice (some ad250) t201.length co13) ∧ w'.cell? ⟨gb211, 2, none⟩ = some (.slice Ao14 t204.length co14) ∧ w'.cell? ⟨gb211, 3, none⟩ = some (.int .i64 t207) ∧ w'.cell? ⟨gb211, 4, none⟩ = some (.int .i64 t208) ∧ w'.cell? (ad247.add (x17_3).toNat) = some (.int .i64 (rd t219 x17_3)) ∧ w'.cell? (ad248.add (x17_3).toNat) = some (.int .i64 (rd t198 x17_3)) ∧ w'.cell? (ad249.add (x17_3).toNat) = some (.int .i64 (rd t222 x17_3)) ∧ w'.cell? (ad250.add (x17_3).toNat) = some (.int .i64 (rd t201 x17_3))) (ds := []) #[false, false, false, false, false, false, false, false, false, false, false, false, false, false, false, false, false, false, false, false, false, false, false, false, false, false, false, false, false] (by kernel_rfl) rfl rfl ⟨(blk_cell BK232.out 0).trans rfl, (blk_cell BK232.out 1).trans rfl, (blk_cell BK232.out 2).trans rfl, (blk_cell BK232.out 3).trans rfl, (blk_cell BK232.out 4).trans rfl, (blk_cell BK211.out 0).trans rfl, (blk_cell BK211.out 1).trans rfl, (blk_cell BK211.out 2).trans rfl, (blk_cell BK211.out 3).trans rfl, (blk_cell BK211.out 4).trans rfl, hx247_0, hx248_0, hx249_0, hx250_0⟩ (fun hHeld => ?_); refine with_tabW emendatelaw34_PricesOverride.tab18 emendatelaw34_PricesOverride.bits18 (fun HT_ HW_ => ?_)
              generalize wr.drew = w90 at HO_212000 HO_212001 HO_212002 HO_233000 HO_233001 HO_233002 BK211 BK232 HB hx247_0 hx248_0 hx249_0 hx250_0 hHeld ⊢
              refine pure_ (i := 0) (N := some 130) (v := ?_) (a' := ?_) #[true, false, false, false, false, false, false, false, false, false, false, false, false, false, false, false, false, false, false, false, false, false, false, false, false, false, false, false, false] rfl rfl (any_of HT_.out (by kernel_rfl)) (fun _ _ _ h => h) (Or.inl ⟨by rfl, ?_⟩) ?_ ?_
              rotate_left
              ·
               intro w'
               go_simp
               with_reducible rfl
              rotate_left
              ·
               simp only [Act.put, List.setIfInBounds_toArray, List.set_cons_zero, List.set_cons_succ, i64_w, i32_w]
               rfl
              refine pure_ (i := 1) (N := some 131) (v := ?_) (a' := ?_) #[true, true, false, false, false, false, false, false, false, false, false, false, false, false, false, false, false, false, false, false, false, false, false, false, false, false, false, false, false] rfl rfl (any_of HT_.out (by kernel_rfl)) (fun _ _ _ h => h) (Or.inl ⟨by rfl, ?_⟩) ?_ ?_
              rotate_left
              ·
               intro w'
               go_simp
               with_reducible rfl
              rotate_left
              ·
               simp only [Act.put, List.setIfInBounds_toArray, List.set_cons_zero, List.set_cons_succ, i64_w, i32_w]
               rfl
              refine pure_ (i := 2) (N := some 132) (v := ?_) (a' := ?_) #[true, true, true, false, false, false, false, false, false, false, false, false, false, false, false, false, false, false, false, false, false, false, false, false, false, false, false, false, false] rfl rfl (any_of HT_.out (by kernel_rfl)) (fun _ _ _ h => h) (Or.inl ⟨by rfl, ?_⟩) ?_ ?_
              rotate_left
              ·
               intro w'
               go_simp
               with_reducible rfl
              rotate_left
              ·
               simp only [Act.put, List.setIfInBounds_toArray, List.set_cons_zero, List.set_cons_succ, i64_w, i32_w]
               rfl
              refine pure_ (i := 3) (N := some 133) (v := ?_) (a' := ?_) #[true, true, true, true, false, false, false, false, false, false, false, false, false, false, false, false, false, false, false, false, false, false, false, false, false, false, false, false, false] rfl rfl (any_of HT_.out (by kernel_rfl)) (fun _ _ _ h => h) (Or.inl ⟨by rfl, ?_⟩) ?_ ?_
              rotate_left
              ·
               intro w'
               go_simp
               with_reducible rfl
              rotate_left
              ·
               simp only [Act.put, List.setIfInBounds_toArray, List.set_cons_zero, List.set_cons_succ, i64_w, i32_w]
               rfl
              refine pure_ (i := 4) (N := some 134) (v := ?_) (a' := ?_) #[true, true, true, true, true, false, false, false, false, false, false, false, false, false, false, false, false, false, false, false, false, false, false, false, false, false, false, false, false] rfl rfl (any_of HT_.out (by kernel_rfl)) (fun _ _ _ h => h) (Or.inl ⟨by rfl, ?_⟩) ?_ ?_
              rotate_left
              ·
               intro w'
               go_simp
               with_reducible rfl
              rotate_left
              ·
               simp only [Act.put, List.setIfInBounds_toArray, List.set_cons_zero, List.set_cons_succ, i64_w, i32_w]
               rfl
              refine pure_ (i := 6) (N := some 136) (v := ?_) (a' := ?_) #[true, true, true, true, true, false, true, false, false, false, false, false, false, false, false, false, false, false, false, false, false, false, false, false, false, false, false, false, false] rfl rfl (any_of HT_.out (by kernel_rfl)) (fun _ _ _ h => h) (Or.inl ⟨by rfl, ?_⟩) ?_ ?_
              rotate_left
              ·
               intro w'
               go_simp
               with_reducible rfl
              rotate_left
              ·
               simp only [Act.put, List.setIfInBounds_toArray, List.set_cons_zero, List.set_cons_succ, i64_w, i32_w]
               rfl
              refine pure_ (i := 9) (N := some 139) (v := ?_) (a' := ?_) #[true, true, true, true, true, false, true, false, false, true, false, false, false, false, false, false, false, false, false, false, false, false, false, false, false, false, false, false, false] rfl rfl (any_of HT_.out (by kernel_rfl)) (fun _ _ _ h => h) (Or.inl ⟨by rfl, ?_⟩) ?_ ?_
              rotate_left
              ·
               intro w'
               go_simp
               with_reducible rfl
              rotate_left
              ·
               simp only [Act.put, List.setIfInBounds_toArray, List.set_cons_zero, List.set_cons_succ, i64_w, i32_w]
               rfl
              refine pure_ (i := 11) (N := some 141) (v := ?_) (a' := ?_) #[true, true, true, true, true, false, true, false, false, true, false, true, false, false, false, false, false, false, false, false, false, false, false, false, false, false, false, false, false] rfl rfl (any_of HT_.out (by kernel_rfl)) (fun _ _ _ h => h) (Or.inl ⟨by rfl, ?_⟩) ?_ ?_
              rotate_left
              ·
               intro w'
               go_simp
               with_reducible rfl
              rotate_left
              ·
               simp only [Act.put, List.setIfInBounds_toArray, List.set_cons_zero, List.set_cons_succ, i64_w, i32_w]
               rfl
              refine take_ (i := 5) (N := some 135) (v := ?_) (a' := ?_) #[true, true, true, true, true, true, true, false, false, true, false, true, false, false, false, false, false, false, false, false, false, false, false, false, false, false, false, false, false] rfl rfl (take_ofW HT_.out HW_.out (by kernel_rfl)) (fun _ _ _ h => h) (Or.inl ⟨by rfl, ?_⟩) hHeld ?_ ?_
              rotate_left
              ·
               rintro w' ⟨s0, s1, s2, s3, s4, s5, s6, s7, s8, s9, s10, s11, s12, s13⟩
               go_simp
               with_reducible rfl
              rotate_left
              ·
               simp only [Act.put, List.setIfInBounds_toArray, List.set_cons_zero, List.set_cons_succ, i64_w, i32_w]
               rfl
              refine pure_ (i := 7) (N := some 137) (v := ?_) (a' := ?_) #[true, true, true, true, true, true, true, true, false, true, false, true, false, false, false, false, false, false, false, false, false, false, false, false, false, false, false, false, false] rfl rfl (any_of HT_.out (by kernel_rfl)) (fun _ _ _ h => h) (Or.inl ⟨by rfl, ?_⟩) ?_ ?_
              rotate_left
              ·
               intro w'
               go_simp
               with_reducible rfl
              rotate_left
              ·
               simp only [Act.put, List.setIfInBounds_toArray, List.set_cons_zero, List.set_cons_succ, i64_w, i32_w]
               rfl
              refine take_ (i := 8) (N := some 138) (v := ?_) (a' := ?_) #[true, true, true, true, true, true, true, true, true, true, false, true, false, false, false, false, false, false, false, false, false, false, false, false, false, false, false, false, false] rfl rfl (take_ofW HT_.out HW_.out (by kernel_rfl)) (fun _ _ _ h => h) (Or.inl ⟨by rfl, ?_⟩) hHeld ?_ ?_
              rotate_left
              ·
               rintro w' ⟨s0, s1, s2, s3, s4, s5, s6, s7, s8, s9, s10, s11, s12, s13⟩
               go_simp
               with_reducible rfl
              rotate_left
              ·
               simp only [Act.put, List.setIfInBounds_toArray, List.set_cons_zero, List.set_cons_succ, i64_w, i32_w]
               rfl
              refine take_ (i := 10) (N := some 140) (v := ?_) (a' := ?_) #[true, true, true, true, true, true, true, true, true, true, true, true, false, false, false, false, false, false, false, false, false, false, false, false, false, false, false, false, false] rfl rfl (take_ofW HT_.out HW_.out (by kernel_rfl)) (fun _ _ _ h => h) (Or.inl ⟨by rfl, ?_⟩) hHeld ?_ ?_
              rotate_left
              ·
               rintro w' ⟨s0, s1, s2, s3, s4, s5, s6, s7, s8, s9, s10, s11, s12, s13⟩
               go_simp
               with_reducible rfl
              rotate_left
              ·
               simp only [Act.put, List.setIfInBounds_toArray, List.set_cons_zero, List.set_cons_succ, i64_w, i32_w]
               rfl
              refine pure_ (i := 12) (N := some 142) (v := ?_) (a' := ?_) #[true, true, true, true, true, true, true, true, true, true, true, true, true, false, false, false, false, false, false, false, false, false, false, false, false, false, false, false, false] rfl rfl (any_of HT_.out (by kernel_rfl)) (fun _ _ _ h => h) (Or.inl ⟨by rfl, ?_⟩) ?_ ?_
              rotate_left
              ·
               intro w'
               go_simp
               with_reducible rfl
              rotate_left
              ·
               simp only [Act.put, List.setIfInBounds_toArray, List.set_cons_zero, List.set_cons_succ, i64_w, i32_w]
               rfl
              refine take_ (i := 13) (N := some 143) (v := ?_) (a' := ?_) #[true, true, true, true, true, true, true, true, true, true, true, true, true, true, false, false, false, false, false, false, false, false, false, false, false, false, false, false, false] rfl rfl (take_ofW HT_.out HW_.out (by kernel_rfl)) (fun _ _ _ h => h) (Or.inl ⟨by rfl, ?_⟩) hHeld ?_ ?_
              rotate_left
              ·
               rintro w' ⟨s0, s1, s2, s3, s4, s5, s6, s7, s8, s9, s10, s11, s12, s13⟩
               go_simp
               with_reducible rfl
              rotate_left
              ·
               simp only [Act.put, List.setIfInBounds_toArray, List.set_cons_zero, List.set_cons_succ, i64_w, i32_w]
               rfl
              refine pure_ (i := 14) (N := some 144) (v := ?_) (a' := ?_) #[true, true, true, true, true, true, true, true, true, true, true, true, true, true, true, false, false, false, false, false, false, false, false, false, false, false, false, false, false] rfl rfl (any_of HT_.out (by kernel_rfl)) (fun _ _ _ h => h) (Or.inl ⟨by rfl, ?_⟩) ?_ ?_
              rotate_left
              ·
               intro w'
               go_simp
               with_reducible rfl
              rotate_left
              ·
               simp only [Act.put, List.setIfInBounds_toArray, List.set_cons_zero, List.set_cons_succ, i64_w, i32_w]
               rfl
              refine pure_ (i := 15) (N := some 145) (v := ?_) (a' := ?_) #[true, true, true, true, true, true, true, true, true, true, true, true, true, true, true, true, false, false, false, false, false, false, false, false, false, false, false, false, false] rfl rfl (any_of HT_.out (by kernel_rfl)) (fun _ _ _ h => h) (Or.inl ⟨by rfl, ?_⟩) ?_ ?_
              rotate_left
              ·
               intro w'
               go_simp
               with_reducible rfl
              rotate_left
              ·
               simp only [Act.put, List.setIfInBounds_toArray, List.set_cons_zero, List.set_cons_succ, i64_w, i32_w]
               rfl
              refine pure_ (i := 16) (N := some 146) (v := ?_) (a' := ?_) #[true, true, true, true, true, true, true, true, true, true, true, true, true, true, true, true, true, false, false, false, false, false, false, false, false, false, false, false, false] rfl rfl (any_of HT_.out (by kernel_rfl)) (fun _ _ _ h => h) (Or.inl ⟨by rfl, ?_⟩) ?_ ?_
              rotate_left
              ·
               intro w'
               go_simp
               with_reducible rfl
              rotate_left
              ·
               simp only [Act.put, List.setIfInBounds_toArray, List.set_cons_zero, List.set_cons_succ, i64_w, i32_w]
               rfl
              refine pure_ (i := 18) (N := some 148) (v := ?_) (a' := ?_) #[true, true, true, true, true, true, true, true, true, true, true, true, true, true, true, true, true, false, true, false, false, false, false, false, false, false, false, false, false] rfl rfl (any_of HT_.out (by kernel_rfl)) (fun _ _ _ h => h) (Or.inl ⟨by rfl, ?_⟩) ?_ ?_
              rotate_left
              ·
               intro w'
               go_simp
               with_reducible rfl
              rotate_left
              ·
               simp only [Act.put, List.setIfInBounds_toArray, List.set_cons_zero, List.set_cons_succ, i64_w, i32_w]
               rfl
              refine pure_ (i := 21) (N := some 151) (v := ?_) (a' := ?_) #[true, true, true, true, true, true, true, true, true, true, true, true, true, true, true, true, true, false, true, false, false, true, false, false, false, false, false, false, false] rfl rfl (any_of HT_.out (by kernel_rfl)) (fun _ _ _ h => h) (Or.inl ⟨by rfl, ?_⟩) ?_ ?_
              rotate_left
              ·
               intro w'
               go_simp
               with_reducible rfl
              rotate_left
              ·
               simp only [Act.put, List.setIfInBounds_toArray, List.set_cons_zero, List.set_cons_succ, i64_w, i32_w]
               rfl
              refine pure_ (i := 23) (N := some 153) (v := ?_) (a' := ?_) #[true, true, true, true, true, true, true, true, true, true, true, true, true, true, true, true, true, false, true, false, false, true, false, true, false, false, false, false, false] rfl rfl (any_of HT_.out (by kernel_rfl)) (fun _ _ _ h => h) (Or.inl ⟨by rfl, ?_⟩) ?_ ?_
              rotate_left
              ·
               intro w'
               go_simp
               with_reducible rfl
              rotate_left
              ·
               simp only [Act.put, List.setIfInBounds_toArray, List.set_cons_zero, List.set_cons_succ, i64_w, i32_w]
               rfl
              refine take_ (i := 17) (N := some 147) (v := ?_) (a' := ?_) #[true, true, true, true, true, true, true, true, true, true, true, true, true, true, true, true, true, true, true, false, false, true, false, true, false, false, false, false, false] rfl rfl (take_ofW HT_.out HW_.out (by kernel_rfl)) (fun _ _ _ h => h) (Or.inl ⟨by rfl, ?_⟩) hHeld ?_ ?_
              rotate_left
              ·
               rintro w' ⟨s0, s1, s2, s3, s4, s5, s6, s7, s8, s9, s10, s11, s12, s13⟩
               go_simp
               with_reducible rfl
              rotate_left
              ·
               simp only [Act.put, List.setIfInBounds_toArray, List.set_cons_zero, List.set_cons_succ, i64_w, i32_w]
               rfl
              refine pure_ (i := 19) (N := some 149) (v := ?_) (a' := ?_) #[true, true, true, true, true, true, true, true, true, true, true, true, true, true, true, true, true, true, true, true, false, true, false, true, false, false, false, false, false] rfl rfl (any_of HT_.out (by kernel_rfl)) (fun _ _ _ h => h) (Or.inl ⟨by rfl, ?_⟩) ?_ ?_
              rotate_left
              ·
               intro w'
               go_simp
               with_reducible rfl
              rotate_left
              ·
               simp only [Act.put, List.setIfInBounds_toArray, List.set_cons_zero, List.set_cons_succ, i64_w, i32_w]
               rfl
              refine take_ (i := 20) (N := some 150) (v := ?_) (a' := ?_) #[true, true, true, true, true, true, true, true, true, true, true, true, true, true, true, true, true, true, true, true, true, true, false, true, false, false, false, false, false] rfl rfl (take_ofW HT_.out HW_.out (by kernel_rfl)) (fun _ _ _ h => h) (Or.inl ⟨by rfl, ?_⟩) hHeld ?_ ?_
              rotate_left
              ·
               rintro w' ⟨s0, s1, s2, s3, s4, s5, s6, s7, s8, s9, s10, s11, s12, s13⟩
               go_simp
               with_reducible rfl
              rotate_left
              ·
               simp only [Act.put, List.setIfInBounds_toArray, List.set_cons_zero, List.set_cons_succ, i64_w, i32_w]
               rfl
              refine take_ (i := 22) (N := some 152) (v := ?_) (a' := ?_) #[true, true, true, true, true, true, true, true, true, true, true, true, true, true, true, true, true, true, true, true, true, true, true, true, false, false, false, false, false] rfl rfl (take_ofW HT_.out HW_.out (by kernel_rfl)) (fun _ _ _ h => h) (Or.inl ⟨by rfl, ?_⟩) hHeld ?_ ?_
              rotate_left
              ·
               rintro w' ⟨s0, s1, s2, s3, s4, s5, s6, s7, s8, s9, s10, s11, s12, s13⟩
               go_simp
               with_reducible rfl
              rotate_left
              ·
               simp only [Act.put, List.setIfInBounds_toArray, List.set_cons_zero, List.set_cons_succ, i64_w, i32_w]
               rfl
              refine pure_ (i := 24) (N := some 154) (v := ?_) (a' := ?_) #[true, true, true, true, true, true, true, true, true, true, true, true, true, true, true, true, true, true, true, true, true, true, true, true, true, false, false, false, false] rfl rfl (any_of HT_.out (by kernel_rfl)) (fun _ _ _ h => h) (Or.inl ⟨by rfl, ?_⟩) ?_ ?_
              rotate_left
              ·
               intro w'
               go_simp
               with_reducible rfl
              rotate_left
              ·
               simp only [Act.put, List.setIfInBounds_toArray, List.set_cons_zero, List.set_cons_succ, i64_w, i32_w]
               rfl
              refine take_ (i := 25) (N := some 155) (v := ?_) (a' := ?_) #[true, true, true, true, true, true, true, true, true, true, true, true, true, true, true, true, true, true, true, true, true, true, true, true, true, true, false, false, false] rfl rfl (take_ofW HT_.out HW_.out (by kernel_rfl)) (fun _ _ _ h => h) (Or.inl ⟨by rfl, ?_⟩) hHeld ?_ ?_
              rotate_left
              ·
               rintro w' ⟨s0, s1, s2, s3, s4, s5, s6, s7, s8, s9, s10, s11, s12, s13⟩
               go_simp
               with_reducible rfl
              rotate_left
              ·
               simp only [Act.put, List.setIfInBounds_toArray, List.set_cons_zero, List.set_cons_succ, i64_w, i32_w]
               rfl
              refine pure_ (i := 26) (N := some 156) (v := ?_) (a' := ?_) #[true, true, true, true, true, true, true, true, true, true, true, true, true, true, true, true, true, true, true, true, true, true, true, true, true, true, true, false, false] rfl rfl (any_of HT_.out (by kernel_rfl)) (fun _ _ _ h => h) (Or.inl ⟨by rfl, ?_⟩) ?_ ?_
              rotate_left
              ·
               intro w'
               go_simp
               with_reducible rfl
              rotate_left
              ·
               simp only [Act.put, List.setIfInBounds_toArray, List.set_cons_zero, List.set_cons_succ, i64_w, i32_w]
               rfl
              refine pure_ (i := 27) (N := some 157) (v := ?_) (a' := ?_) #[true, true, true, true, true, true, true, true, true, true, true, true, true, true, true, true, true, true, true, true, true, true, true, true, true, true, true, true, false] rfl rfl (any_of HT_.out (by kernel_rfl)) (fun _ _ _ h => h) (Or.inl ⟨by rfl, ?_⟩) ?_ ?_
              rotate_left
              ·
               intro w'
               go_simp
               with_reducible rfl
              rotate_left
              ·
               simp only [Act.put, List.setIfInBounds_toArray, List.set_cons_zero, List.set_cons_succ, i64_w, i32_w]
               rfl
              refine pure_ (i := 28) (N := some 158) (v := ?_) (a' := ?_) #[true, true, true, true, true, true, true, true, true, true, true, true, true, true, true, true, true, true, true, true, true, true, true, true, true, true, true, true, true] rfl rfl (any_of HT_.out (by kernel_rfl)) (fun _ _ _ h => h) (Or.inl ⟨by rfl, ?_⟩) ?_ ?_
              rotate_left
              ·
               intro w'
               go_simp
               with_reducible rfl
              rotate_left
              ·
               simp only [Act.put, List.setIfInBounds_toArray, List.set_cons_zero, List.set_cons_succ, i64_w, i32_w]
               rfl
              refine done_ (done_of HT_.out (by kernel_rfl)) ?_
              try go_wp2
              go_roundg k4
              case measure => have := HJ4.out; have := HJ41.out; have := HK3.out; have := HK4.out; omega
              case rel => exact ⟨(wrap64 (x17_3 + 1)), (by first | rfl | (simp; done) | (simp [*]; done)), H', ⟨by have := HJ4.out; have := HJ41.out; have := HK3.out; have := HK4.out; omega⟩, ⟨by (with_reducible repeat (first | apply Kd.R_alloc | apply Kd.R_drewN | apply Kd.R_drew)); exact HO_212000.out⟩, ⟨by (with_reducible repeat (first | apply Kd.R_alloc | apply Kd.R_drewN | apply Kd.R_drew)); exact HO_212001.out⟩, ⟨by (with_reducible repeat (first | apply Kd.S_alloc | apply Kd.S_drewN | apply Kd.S_drew)); exact HO_212002.out⟩, ⟨by (with_reducible repeat (first | apply Kd.R_alloc | apply Kd.R_drewN | apply Kd.R_drew)); exact HO_233000.out⟩, ⟨by (with_reducible repeat (first | apply Kd.R_alloc | apply Kd.R_drewN | apply Kd.R_drew)); exact HO_233001.out⟩, ⟨by (with_reducible repeat (first | apply Kd.S_alloc | apply Kd.S_drewN | apply Kd.S_drew)); exact HO_233002.out⟩, ⟨by (with_reducible repeat (first | refine blk_drewN ?_ _ | refine blk_drew ?_ | refine blk_alloc ?_ _)); exact BK211.out⟩, ⟨by (with_reducible repeat (first | refine blk_drewN ?_ _ | refine blk_drew ?_ | refine blk_alloc ?_ _)); exact BK232.out⟩, ⟨by repeat (first | (with_reducible first | exact HB.out | apply below_alloc | apply pw_below_drewN | apply below_drew1 | refine below_set ?_ GE211.out | refine below_set ?_ GE232.out) | exact HB.out)⟩⟩
             rw [if_pos c81] at H
             have c81b0 : (x17_3 == ji23) = true := beq_iff_eq.mpr c81; have c81b1 : (x17_3 != ji23) = false := bne_eq_false_iff_eq.mpr c81; clear c81; have H' := Aside0.mk H; clear H
             try go_wp2
             have n0_ := Aside0.mk (Kd.R_drew HO_212000.out); have n1_ := Aside0.mk (Kd.R_drew HO_212001.out); have n2_ := Aside0.mk (Kd.S_drew HO_212002.out); have n3_ := Aside0.mk (Kd.R_drew HO_233000.out); have n4_ := Aside0.mk (Kd.R_drew HO_233001.out); have n5_ := Aside0.mk (Kd.S_drew HO_233002.out); have n6_ := Aside0.mk (blk_drew BK211.out); have n7_ := Aside0.mk (blk_drew BK232.out); have n8_ := Aside0.mk (below_drew1 HB.out); clear HO_212000; clear HO_212001; clear HO_212002; clear HO_233000; clear HO_233001; clear HO_233002; clear BK211; clear BK232; clear HB; have HO_212000 := n0_; have HO_212001 := n1_; have HO_212002 := n2_; have HO_233000 := n3_; have HO_233001 := n4_; have HO_233002 := n5_; have BK211 := n6_; have BK232 := n7_; have HB := n8_; clear n0_ n1_ n2_ n3_ n4_ n5_ n6_ n7_ n8_
             refine start_ (n := 29) (S := fun w' => True) (ds := []) #[false, false, false, false, false, false, false, false, false, false, false, false, false, false, false, false, false, false, false, false, false, false, false, false, false, false, false, false, false] (by kernel_rfl) rfl rfl trivial (fun hHeld => ?_); refine with_tabW emendatelaw34_PricesOverride.tab18 emendatelaw34_PricesOverride.bits18 (fun HT_ HW_ => ?_)
             generalize wr.drew = w82 at HO_212000 HO_212001 HO_212002 HO_233000 HO_233001 HO_233002 BK211 BK232 HB hHeld ⊢
             refine pure_ (i := 0) (N := some 130) (v := ?_) (a' := ?_) #[true, false, false, false, false, false, false, false, false, false, false, false, false, false, false, false, false, false, false, false, false, false, false, false, false, false, false, false, false] rfl rfl (any_of HT_.out (by kernel_rfl)) (fun _ _ _ h => h) (Or.inl ⟨by rfl, ?_⟩) ?_ ?_
             rotate_left
             ·
              intro w'
              go_simp
              with_reducible rfl
             rotate_left
             ·
              simp only [Act.put, List.setIfInBounds_toArray, List.set_cons_zero, List.set_cons_succ, i64_w, i32_w]
              rfl
             refine pure_ (i := 1) (N := some 131) (v := ?_) (a' := ?_) #[true, true, false, false, false, false, false, false, false, false, false, false, false, false, false, false, false, false, false, false, false, false, false, false, false, false, false, false, false] rfl rfl (any_of HT_.out (by kernel_rfl)) (fun _ _ _ h => h) (Or.inl ⟨by rfl, ?_⟩) ?_ ?_
             rotate_left
             ·
              intro w'
              go_simp
              with_reducible rfl
             rotate_left
             ·
              simp only [Act.put, List.setIfInBounds_toArray, List.set_cons_zero, List.set_cons_succ, i64_w, i32_w]
              rfl
             refine pure_ (i := 2) (N := some 132) (v := ?_) (a' := ?_) #[true, true, true, false, false, false, false, false, false, false, false, false, false, false, false, false, false, false, false, false, false, false, false, false, false, false, false, false, false] rfl rfl (any_of HT_.out (by kernel_rfl)) (fun _ _ _ h => h) (Or.inl ⟨by rfl, ?_⟩) ?_ ?_
             rotate_left
             ·
              intro w'
              go_simp
              with_reducible rfl
             rotate_left
             ·
              simp only [Act.put, List.setIfInBounds_toArray, List.set_cons_zero, List.set_cons_succ, i64_w, i32_w]
              rfl
             refine pure_ (i := 3) (N := some 133) (v := ?_) (a' := ?_) #[true, true, true, true, false, false, false, false, false, false, false, false, false, false, false, false, false, false, false, false, false, false, false, false, false, false, false, false, false] rfl rfl (any_of HT_.out (by kernel_rfl)) (fun _ _ _ h => h) (Or.inl ⟨by rfl, ?_⟩) ?_ ?_
             rotate_left
             ·
              intro w'
              go_simp
              with_reducible rfl
             rotate_left
             ·
              simp only [Act.put, List.setIfInBounds_toArray, List.set_cons_zero, List.set_cons_succ, i64_w, i32_w]
              rfl
             refine pure_ (i := 4) (N := some 134) (v := undef) (a' := ?_) #[true, true, true, true, true, false, false, false, false, false, false, false, false, false, false, false, false, false, false, false, false, false, false, false, false, false, false, false, false] rfl rfl (any_of HT_.out (by kernel_rfl)) (fun _ _ _ h => h) (Or.inr ⟨by rfl, rfl⟩) ?_ ?_
             rotate_left
             ·
              simp only [Act.put, List.setIfInBounds_toArray, List.set_cons_zero, List.set_cons_succ, i64_w, i32_w]
              rfl
             refine pure_ (i := 5) (N := some 135) (v := undef) (a' := ?_) #[true, true, true, true, true, true, false, false, false, false, false, false, false, false, false, false, false, false, false, false, false, false, false, false, false, false, false, false, false] rfl rfl (any_of HT_.out (by kernel_rfl)) (fun _ _ _ h => h) (Or.inr ⟨by rfl, rfl⟩) ?_ ?_
             rotate_left
             ·
              simp only [Act.put, List.setIfInBounds_toArray, List.set_cons_zero, List.set_cons_succ, i64_w, i32_w]
              rfl
             refine pure_ (i := 6) (N := some 136) (v := undef) (a' := ?_) #[true, true, true, true, true, true, true, false, false, false, false, false, false, false, false, false, false, false, false, false, false, false, false, false, false, false, false, false, false] rfl rfl (any_of HT_.out (by kernel_rfl)) (fun _ _ _ h => h) (Or.inr ⟨by rfl, rfl⟩) ?_ ?_
             rotate_left
             ·
              simp only [Act.put, List.setIfInBounds_toArray, List.set_cons_zero, List.set_cons_succ, i64_w, i32_w]
              rfl
             refine pure_ (i := 7) (N := some 137) (v := undef) (a' := ?_) #[true, true, true, true, true, true, true, true, false, false, false, false, false, false, false, false, false, false, false, false, false, false, false, false, false, false, false, false, false] rfl rfl (any_of HT_.out (by kernel_rfl)) (fun _ _ _ h => h) (Or.inr ⟨by rfl, rfl⟩) ?_ ?_
             rotate_left
             ·
              simp only [Act.put, List.setIfInBounds_toArray, List.set_cons_zero, List.set_cons_succ, i64_w, i32_w]
              rfl
             refine pure_ (i := 8) (N := some 138) (v := undef) (a' := ?_) #[true, true, true, true, true, true, true, true, true, false, false, false, false, false, false, false, false, false, false, false, false, false, false, false, false, false, false, false, false] rfl rfl (any_of HT_.out (by kernel_rfl)) (fun _ _ _ h => h) (Or.inr ⟨by rfl, rfl⟩) ?_ ?_
             rotate_left
             ·
              simp only [Act.put, List.setIfInBounds_toArray, List.set_cons_zero, List.set_cons_succ, i64_w, i32_w]
              rfl
             refine pure_ (i := 9) (N := some 139) (v := undef) (a' := ?_) #[true, true, true, true, true, true, true, true, true, true, false, false, false, false, false, false, false, false, false, false, false, false, false, false, false, false, false, false, false] rfl rfl (any_of HT_.out (by kernel_rfl)) (fun _ _ _ h => h) (Or.inr ⟨by rfl, rfl⟩) ?_ ?_
             rotate_left
             ·
              simp only [Act.put, List.setIfInBounds_toArray, List.set_cons_zero, List.set_cons_succ, i64_w, i32_w]
              rfl
             refine pure_ (i := 10) (N := some 140) (v := undef) (a' := ?_) #[true, true, true, true, true, true, true, true, true, true, true, false, false, false, false, false, false, false, false, false, false, false, false, false, false, false, false, false, false] rfl rfl (any_of HT_.out (by kernel_rfl)) (fun _ _ _ h => h) (Or.inr ⟨by rfl, rfl⟩) ?_ ?_
             rotate_left
             ·
              simp only [Act.put, List.setIfInBounds_toArray, List.set_cons_zero, List.set_cons_succ, i64_w, i32_w]
              rfl
             refine pure_ (i := 11) (N := some 141) (v := undef) (a' := ?_) #[true, true, true, true, true, true, true, true, true, true, true, true, false, false, false, false, false, false, false, false, false, false, false, false, false, false, false, false, false] rfl rfl (any_of HT_.out (by kernel_rfl)) (fun _ _ _ h => h) (Or.inr ⟨by rfl, rfl⟩) ?_ ?_
             rotate_left
             ·
              simp only [Act.put, List.setIfInBounds_toArray, List.set_cons_zero, List.set_cons_succ, i64_w, i32_w]
              rfl
             refine pure_ (i := 12) (N := some 142) (v := undef) (a' := ?_) #[true, true, true, true, true, true, true, true, true, true, true, true, true, false, false, false, false, false, false, false, false, false, false, false, false, false, false, false, false] rfl rfl (any_of HT_.out (by kernel_rfl)) (fun _ _ _ h => h) (Or.inr ⟨by rfl, rfl⟩) ?_ ?_
             rotate_left
             ·
              simp only [Act.put, List.setIfInBounds_toArray, List.set_cons_zero, List.set_cons_succ, i64_w, i32_w]
              rfl
             refine pure_ (i := 13) (N := some 143) (v := undef) (a' := ?_) #[true, true, true, true, true, true, true, true, true, true, true, true, true, true, false, false, false, false, false, false, false, false, false, false, false, false, false, false, false] rfl rfl (any_of HT_.out (by kernel_rfl)) (fun _ _ _ h => h) (Or.inr ⟨by rfl, rfl⟩) ?_ ?_
             rotate_left
             ·
              simp only [Act.put, List.setIfInBounds_toArray, List.set_cons_zero, List.set_cons_succ, i64_w, i32_w]
              rfl
             refine pure_ (i := 14) (N := some 144) (v := undef) (a' := ?_) #[true, true, true, true, true, true, true, true, true, true, true, true, true, true, true, false, false, false, false, false, false, false, false, false, false, false, false, false, false] rfl rfl (any_of HT_.out (by kernel_rfl)) (fun _ _ _ h => h) (Or.inr ⟨by rfl, rfl⟩) ?_ ?_
             rotate_left
             ·
              simp only [Act.put, List.setIfInBounds_toArray, List.set_cons_zero, List.set_cons_succ, i64_w, i32_w]
              rfl
             refine pure_ (i := 15) (N := some 145) (v := undef) (a' := ?_) #[true, true, true, true, true, true, true, true, true, true, true, true, true, true, true, true, false, false, false, false, false, false, false, false, false, false, false, false, false] rfl rfl (any_of HT_.out (by kernel_rfl)) (fun _ _ _ h => h) (Or.inr ⟨by rfl, rfl⟩) ?_ ?_
             rotate_left
             ·
              simp only [Act.put, List.setIfInBounds_toArray, List.set_cons_zero, List.set_cons_succ, i64_w, i32_w]
              rfl
             refine pure_ (i := 16) (N := some 146) (v := undef) (a' := ?_) #[true, true, true, true, true, true, true, true, true, true, true, true, true, true, true, true, true, false, false, false, false, false, false, false, false, false, false, false, false] rfl rfl (any_of HT_.out (by kernel_rfl)) (fun _ _ _ h => h) (Or.inr ⟨by rfl, rfl⟩) ?_ ?_
             rotate_left
             ·
              simp only [Act.put, List.setIfInBounds_toArray, List.set_cons_zero, List.set_cons_succ, i64_w, i32_w]
              rfl
             refine pure_ (i := 17) (N := some 147) (v := undef) (a' := ?_) #[true, true, true, true, true, true, true, true, true, true, true, true, true, true, true, true, true, true, false, false, false, false, false, false, false, false, false, false, false] rfl rfl (any_of HT_.out (by kernel_rfl)) (fun _ _ _ h => h) (Or.inr ⟨by rfl, rfl⟩) ?_ ?_
             rotate_left
             ·
              simp only [Act.put, List.setIfInBounds_toArray, List.set_cons_zero, List.set_cons_succ, i64_w, i32_w]
              rfl
             refine pure_ (i := 18) (N := some 148) (v := undef) (a' := ?_) #[true, true, true, true, true, true, true, true, true, true, true, true, true, true, true, true, true, true, true, false, false, false, false, false, false, false, false, false, false] rfl rfl (any_of HT_.out (by kernel_rfl)) (fun _ _ _ h => h) (Or.inr ⟨by rfl, rfl⟩) ?_ ?_
             rotate_left
             ·
              simp only [Act.put, List.setIfInBounds_toArray, List.set_cons_zero, List.set_cons_succ, i64_w, i32_w]
              rfl
             refine pure_ (i := 19) (N := some 149) (v := undef) (a' := ?_) #[true, true, true, true, true, true, true, true, true, true, true, true, true, true, true, true, true, true, true, true, false, false, false, false, false, false, false, false, false] rfl rfl (any_of HT_.out (by kernel_rfl)) (fun _ _ _ h => h) (Or.inr ⟨by rfl, rfl⟩) ?_ ?_
             rotate_left
             ·
              simp only [Act.put, List.setIfInBounds_toArray, List.set_cons_zero, List.set_cons_succ, i64_w, i32_w]
              rfl
             refine pure_ (i := 20) (N := some 150) (v := undef) (a' := ?_) #[true, true, true, true, true, true, true, true, true, true, true, true, true, true, true, true, true, true, true, true, true, false, false, false, false, false, false, false, false] rfl rfl (any_of HT_.out (by kernel_rfl)) (fun _ _ _ h => h) (Or.inr ⟨by rfl, rfl⟩) ?_ ?_
             rotate_left
             ·
              simp only [Act.put, List.setIfInBounds_toArray, List.set_cons_zero, List.set_cons_succ, i64_w, i32_w]
              rfl
             refine pure_ (i := 21) (N := some 151) (v := undef) (a' := ?_) #[true, true, true, true, true, true, true, true, true, true, true, true, true, true, true, true, true, true, true, true, true, true, false, false, false, false, false, false, false] rfl rfl (any_of HT_.out (by kernel_rfl)) (fun _ _ _ h => h) (Or.inr ⟨by rfl, rfl⟩) ?_ ?_
             rotate_left
             ·
              simp only [Act.put, List.setIfInBounds_toArray, List.set_cons_zero, List.set_cons_succ, i64_w, i32_w]
              rfl
             refine pure_ (i := 22) (N := some 152) (v := undef) (a' := ?_) #[true, true, true, true, true, true, true, true, true, true, true, true, true, true, true, true, true, true, true, true, true, true, true, false, false, false, false, false, false] rfl rfl (any_of HT_.out (by kernel_rfl)) (fun _ _ _ h => h) (Or.inr ⟨by rfl, rfl⟩) ?_ ?_
             rotate_left
             ·
              simp only [Act.put, List.setIfInBounds_toArray, List.set_cons_zero, List.set_cons_succ, i64_w, i32_w]
              rfl
             refine pure_ (i := 23) (N := some 153) (v := undef) (a' := ?_) #[true, true, true, true, true, true, true, true, true, true, true, true, true, true, true, true, true, true, true, true, true, true, true, true, false, false, false, false, false] rfl rfl (any_of HT_.out (by kernel_rfl)) (fun _ _ _ h => h) (Or.inr ⟨by rfl, rfl⟩) ?_ ?_
             rotate_left
             ·
              simp only [Act.put, List.setIfInBounds_toArray, List.set_cons_zero, List.set_cons_succ, i64_w, i32_w]
              rfl
             refine pure_ (i := 24) (N := some 154) (v := undef) (a' := ?_) #[true, true, true, true, true, true, true, true, true, true, true, true, true, true, true, true, true, true, true, true, true, true, true, true, true, false, false, false, false] rfl rfl (any_of HT_.out (by kernel_rfl)) (fun _ _ _ h => h) (Or.inr ⟨by rfl, rfl⟩) ?_ ?_
             rotate_left
             ·
              simp only [Act.put, List.setIfInBounds_toArray, List.set_cons_zero, List.set_cons_succ, i64_w, i32_w]
              rfl
             refine pure_ (i := 25) (N := some 155) (v := undef) (a' := ?_) #[true, true, true, true, true, true, true, true, true, true, true, true, true, true, true, true, true, true, true, true, true, true, true, true, true, true, false, false, false] rfl rfl (any_of HT_.out (by kernel_rfl)) (fun _ _ _ h => h) (Or.inr ⟨by rfl, rfl⟩) ?_ ?_
             rotate_left
             ·
              simp only [Act.put, List.setIfInBounds_toArray, List.set_cons_zero, List.set_cons_succ, i64_w, i32_w]
              rfl
             refine pure_ (i := 26) (N := some 156) (v := undef) (a' := ?_) #[true, true, true, true, true, true, true, true, true, true, true, true, true, true, true, true, true, true, true, true, true, true, true, true, true, true, true, false, false] rfl rfl (any_of HT_.out (by kernel_rfl)) (fun _ _ _ h => h) (Or.inr ⟨by rfl, rfl⟩) ?_ ?_
             rotate_left
             ·
              simp only [Act.put, List.setIfInBounds_toArray, List.set_cons_zero, List.set_cons_succ, i64_w, i32_w]
              rfl
             refine pure_ (i := 27) (N := some 157) (v := undef) (a' := ?_) #[true, true, true, true, true, true, true, true, true, true, true, true, true, true, true, true, true, true, true, true, true, true, true, true, true, true, true, true, false] rfl rfl (any_of HT_.out (by kernel_rfl)) (fun _ _ _ h => h) (Or.inr ⟨by rfl, rfl⟩) ?_ ?_
             rotate_left
             ·
              simp only [Act.put, List.setIfInBounds_toArray, List.set_cons_zero, List.set_cons_succ, i64_w, i32_w]
              rfl
             refine pure_ (i := 28) (N := some 158) (v := ?_) (a' := ?_) #[true, true, true, true, true, true, true, true, true, true, true, true, true, true, true, true, true, true, true, true, true, true, true, true, true, true, true, true, true] rfl rfl (any_of HT_.out (by kernel_rfl)) (fun _ _ _ h => h) (Or.inl ⟨by rfl, ?_⟩) ?_ ?_
             rotate_left
             ·
              intro w'
              go_simp
              with_reducible rfl
             rotate_left
             ·
              simp only [Act.put, List.setIfInBounds_toArray, List.set_cons_zero, List.set_cons_succ, i64_w, i32_w]
              rfl
             refine done_ (done_of HT_.out (by kernel_rfl)) ?_
             try go_wp2
             go_roundg k4
             case measure => have := HJ4.out; have := HJ41.out; have := HK3.out; have := HK4.out; omega
             case rel => exact ⟨(wrap64 (x17_3 + 1)), (by first | rfl | (simp; done) | (simp [*]; done)), H', ⟨by have := HJ4.out; have := HJ41.out; have := HK3.out; have := HK4.out; omega⟩, ⟨by (with_reducible repeat (first | apply Kd.R_alloc | apply Kd.R_drewN | apply Kd.R_drew)); exact HO_212000.out⟩, ⟨by (with_reducible repeat (first | apply Kd.R_alloc | apply Kd.R_drewN | apply Kd.R_drew)); exact HO_212001.out⟩, ⟨by (with_reducible repeat (first | apply Kd.S_alloc | apply Kd.S_drewN | apply Kd.S_drew)); exact HO_212002.out⟩, ⟨by (with_reducible repeat (first | apply Kd.R_alloc | apply Kd.R_drewN | apply Kd.R_drew)); exact HO_233000.out⟩, ⟨by (with_reducible repeat (first | apply Kd.R_alloc | apply Kd.R_drewN | apply Kd.R_drew)); exact HO_233001.out⟩, ⟨by (with_reducible repeat (first | apply Kd.S_alloc | apply Kd.S_drewN | apply Kd.S_drew)); exact HO_233002.out⟩, ⟨by (with_reducible repeat (first | refine blk_drewN ?_ _ | refine blk_drew ?_ | refine blk_alloc ?_ _)); exact BK211.out⟩, ⟨by (with_reducible repeat (first | refine blk_drewN ?_ _ | refine blk_drew ?_ | refine blk_alloc ?_ _)); exact BK232.out⟩, ⟨by repeat (first | (with_reducible first | exact HB.out | apply below_alloc | apply pw_below_drewN | apply below_drew1 | refine below_set ?_ GE211.out | refine below_set ?_ GE232.out) | exact HB.out)⟩⟩
            rw [if_pos c59] at H
            have c59b0 : decide (x18_4 < 3) = true := decide_eq_true c59; clear c59
            by_cases c60 : x17_3 = ji23
            rotate_left
            ·
             rw [if_neg c60] at H
             have c60b0 : (x17_3 == ji23) = false := beq_eq_false_iff_ne.mpr c60; have c60b1 : (x17_3 != ji23) = true := bne_iff_ne.mpr c60
             by_cases c72 : 0 ≤ x17_3
             rotate_left
             ·
              rw [if_neg c72] at H
              exact absurd H (by simp)
             rw [if_pos c72] at H
             have c72b0 : decide (0 ≤ x17_3) = true := decide_eq_true c72; clear c72
             by_cases c73 : x17_3 < (t225.length : Int)
             rotate_left
             ·
              rw [if_neg c73] at H
              exact absurd H (by simp)
             rw [if_pos c73] at H
             have c73b0 : decide (x17_3 < (t225.length : Int)) = true := decide_eq_true c73; clear c73
             by_cases c74 : 0 ≤ x18_4
             rotate_left
             ·
              rw [if_neg c74] at H
              exact absurd H (by simp)
             rw [if_pos c74] at H
             have c74b0 : decide (0 ≤ x18_4) = true := decide_eq_true c74; clear c74
             by_cases c75 : x18_4 < ((rd_L1 t225 x17_3).length : Int)
             rotate_left
             ·
              rw [if_neg c75] at H
              exact absurd H (by simp)
             rw [if_pos c75] at H
             have c75b0 : decide (x18_4 < ((rd_L1 t225 x17_3).length : Int)) = true := decide_eq_true c75; clear c75
             by_cases c76 : x17_3 < (t204.length : Int)
             rotate_left
             ·
              rw [if_neg c76] at H
              exact absurd H (by simp)
             rw [if_pos c76] at H
             have c76b0 : decide (x17_3 < (t204.length : Int)) = true := decide_eq_true c76; clear c76
             by_cases c77 : x18_4 < ((rd_L1 t204 x17_3).length : Int)
             rotate_left
             ·
              rw [if_neg c77] at H
              exact absurd H (by simp)
             rw [if_pos c77] at H
             have c77b0 : decide (x18_4 < ((rd_L1 t204 x17_3).length : Int)) = true := decide_eq_true c77; clear c77
             by_cases c78 : (rd (rd_L1 t225 x17_3) x18_4) = (rd (rd_L1 t204 x17_3) x18_4)
             rotate_left
             ·
              rw [if_neg c78] at H
              have c78b0 : ((rd (rd_L1 t225 x17_3) x18_4) == (rd (rd_L1 t204 x17_3) x18_4)) = false := beq_eq_false_iff_ne.mpr c78; have c78b1 : ((rd (rd_L1 t225 x17_3) x18_4) != (rd (rd_L1 t204 x17_3) x18_4)) = true := bne_iff_ne.mpr c78
              first | exact absurd (Option.some.inj H) (by rw [HRt.out]; decide) | fail "KEEP 2470"
             rw [if_pos c78] at H
             have c78b0 : ((rd (rd_L1 t225 x17_3) x18_4) == (rd (rd_L1 t204 x17_3) x18_4)) = true := beq_iff_eq.mpr c78; have c78b1 : ((rd (rd_L1 t225 x17_3) x18_4) != (rd (rd_L1 t204 x17_3) x18_4)) = false := bne_eq_false_iff_eq.mpr c78; clear c78; have H' := Aside0.mk H; clear H
             try go_wp2
             have n0_ := Aside0.mk (Kd.R_drew HO_212000.out); have n1_ := Aside0.mk (Kd.R_drew HO_212001.out); have n2_ := Aside0.mk (Kd.S_drew HO_212002.out); have n3_ := Aside0.mk (Kd.R_drew HO_233000.out); have n4_ := Aside0.mk (Kd.R_drew HO_233001.out); have n5_ := Aside0.mk (Kd.S_drew HO_233002.out); have n6_ := Aside0.mk (blk_drew BK211.out); have n7_ := Aside0.mk (blk_drew BK232.out); have n8_ := Aside0.mk (below_drew1 HB.out); clear HO_212000; clear HO_212001; clear HO_212002; clear HO_233000; clear HO_233001; clear HO_233002; clear BK211; clear BK232; clear HB; have HO_212000 := n0_; have HO_212001 := n1_; have HO_212002 := n2_; have HO_233000 := n3_; have HO_233001 := n4_; have HO_233002 := n5_; have BK211 := n6_; have BK232 := n7_; have HB := n8_; clear n0_ n1_ n2_ n3_ n4_ n5_ n6_ n7_ n8_; have p243 : 0 ≤ (x17_3 : Int) := of_decide_eq_true (by first | (with_reducible assumption) | assumption)
             have q243 : x17_3 < (t225.length : Int) := of_decide_eq_true (by first | (with_reducible assumption) | assumption)
             obtain ⟨ad243, A243_0, c243_0, e243, hx243_0, hl243_0, hi243_0⟩ := at_L1 (Kd.S_reads' HO_233002.out).2.2 x17_3 p243 q243
             cases e243
             obtain ⟨ce243, hce243, hMe243, hcc243⟩ := Kd.S_get HO_233002.out [] x17_3 p243 (by first | exact q243 | exact of_decide_eq_true (by first | (with_reducible assumption) | assumption) | (have e_ := (Kd.S_reads' HO_233002.out).1; omega))
             obtain ⟨ve243_0, rfl, ge243_0⟩ := hMe243; have hv243_0 := hcc243 0 _ rfl
             rw [Nat.add_zero, show ((Kd.slice 3 (Kd.int .i64))).sz = 1 from rfl, Nat.mul_one] at hv243_0
             replace hv243_0 := Option.some.inj (hv243_0.symm.trans hx243_0)
             rw [hv243_0] at ge243_0
             have HL243_0 := Aside0.mk (show Kd.R (Kd.int .i64) 3 _ _ _ _ (rd_L1 t225 x17_3) from ge243_0)
             clear hv243_0 ge243_0; clear hcc243 hce243; have HR243_0 := Aside0.mk hi243_0; have HC243_0 := Aside0.mk hl243_0; clear hi243_0 hl243_0; replace p243 := eq_true p243; replace q243 := eq_true q243; have p244 : 0 ≤ (x18_4 : Int) := of_decide_eq_true (by first | (with_reducible assumption) | assumption)
             have q244 : x18_4 < ((rd_L1 t225 x17_3).length : Int) := of_decide_eq_true (by first | (with_reducible assumption) | assumption)
             obtain ⟨ad244, e244, hx244_0⟩ := Kd.at_int (by repeat (first | (with_reducible exact HR243_0.out) | (with_reducible refine Kd.C_alloc ?_ _) | (with_reducible refine Kd.C_drewN ?_ _) | (with_reducible refine Kd.C_drew ?_) | exact HR243_0.out)) x18_4 p244 q244
             cases e244
             replace p244 := eq_true p244; replace q244 := eq_true q244; have p245 : 0 ≤ (x17_3 : Int) := of_decide_eq_true (by first | (with_reducible assumption) | assumption)
             have q245 : x17_3 < (t204.length : Int) := of_decide_eq_true (by first | (with_reducible assumption) | assumption)
             obtain ⟨ad245, A245_0, c245_0, e245, hx245_0, hl245_0, hi245_0⟩ := at_L1 (Kd.S_reads' HO_212002.out).2.2 x17_3 p245 q245
             cases e245
             obtain ⟨ce245, hce245, hMe245, hcc245⟩ := Kd.S_get HO_212002.out [] x17_3 p245 (by first | exact q245 | exact of_decide_eq_true (by first | (with_reducible assumption) | assumption) | (have e_ := (Kd.S_reads' HO_212002.out).1; omega))
             obtain ⟨ve245_0, rfl, ge245_0⟩ := hMe245; have hv245_0 := hcc245 0 _ rfl
             rw [Nat.add_zero, show ((Kd.slice 3 (Kd.int .i64))).sz = 1 from rfl, Nat.mul_one] at hv245_0
             replace hv245_0 := Option.some.inj (hv245_0.symm.trans hx245_0)
             rw [hv245_0] at ge245_0
             have HL245_0 := Aside0.mk (show Kd.R (Kd.int .i64) 3 _ _ _ _ (rd_L1 t204 x17_3) from ge245_0)
             clear hv245_0 ge245_0; clear hcc245 hce245; have HR245_0 := Aside0.mk hi245_0; have HC245_0 := Aside0.mk hl245_0; clear hi245_0 hl245_0; replace p245 := eq_true p245; replace q245 := eq_true q245; have p246 : 0 ≤ (x18_4 : Int) := of_decide_eq_true (by first | (with_reducible assumption) | assumption)
             have q246 : x18_4 < ((rd_L1 t204 x17_3).length : Int) := of_decide_eq_true (by first | (with_reducible assumption) | assumption)
             obtain ⟨ad246, e246, hx246_0⟩ := Kd.at_int (by repeat (first | (with_reducible exact HR245_0.out) | (with_reducible refine Kd.C_alloc ?_ _) | (with_reducible refine Kd.C_drewN ?_ _) | (with_reducible refine Kd.C_drew ?_) | exact HR245_0.out)) x18_4 p246 q246
             cases e246
             replace p246 := eq_true p246; replace q246 := eq_true q246
             refine start_ (n := 29) (S := fun w' => w'.cell? ⟨gb232, 0, none⟩ = some (.slice Ao47 t219.length co47) ∧ w'.cell? ⟨gb232, 1, none⟩ = some (.slice Ao50 t222.length co50) ∧ w'.cell? ⟨gb232, 2, none⟩ = some (.slice (some ad243) t225.length co51) ∧ w'.cell? ⟨gb232, 3, none⟩ = some (.int .i64 t228) ∧ w'.cell? ⟨gb232, 4, none⟩ = some (.int .i64 t229) ∧ w'.cell? ⟨gb211, 0, none⟩ = some (.slice Ao11 t198.length co11) ∧ w'.cell? ⟨gb211, 1, none⟩ = some (.slice Ao13 t201.length co13) ∧ w'.cell? ⟨gb211, 2, none⟩ = some (.slice (some ad245) t204.length co14) ∧ w'.cell? ⟨gb211, 3, none⟩ = some (.int .i64 t207) ∧ w'.cell? ⟨gb211, 4, none⟩ = some (.int .i64 t208) ∧ w'.cell? (ad243.add (x17_3).toNat) = some (.slice (some ad244) (rd_L1 t225 x17_3).length c243_0) ∧ w'.cell? (ad244.add (x18_4).toNat) = some (.int .i64 (rd (rd_L1 t225 x17_3) x18_4)) ∧ w'.cell? (ad245.add (x17_3).toNat) = some (.slice (some ad246) (rd_L1 t204 x17_3).length c245_0) ∧ w'.cell? (ad246.add (x18_4).toNat) = some (.int .i64 (rd (rd_L1 t204 x17_3) x18_4))) (ds := []) #[false, false, false, false, false, false, false, false, false, false, false, false, false, false, false, false, false, false, false, false, false, false, false, false, false, false, false, false, false] (by kernel_rfl) rfl rfl ⟨(blk_cell BK232.out 0).trans rfl, (blk_cell BK232.out 1).trans rfl, (blk_cell BK232.out 2).trans rfl, (blk_cell BK232.out 3).trans rfl, (blk_cell BK232.out 4).trans rfl, (blk_cell BK211.out 0).trans rfl, (blk_cell BK211.out 1).trans rfl, (blk_cell BK211.out 2).trans rfl, (blk_cell BK211.out 3).trans rfl, (blk_cell BK211.out 4).trans rfl, hx243_0, hx244_0, hx245_0, hx246_0⟩ (fun hHeld => ?_); refine with_tabW emendatelaw34_PricesOverride.tab16 emendatelaw34_PricesOverride.bits16 (fun HT_ HW_ => ?_)
             generalize wr.drew = w79 at HO_212000 HO_212001 HO_212002 HO_233000 HO_233001 HO_233002 BK211 BK232 HB HL243_0 HL245_0 HR243_0 HR245_0 hx243_0 hx244_0 hx245_0 hx246_0 hHeld ⊢
             refine pure_ (i := 0) (N := some 101) (v := ?_) (a' := ?_) #[true, false, false, false, false, false, false, false, false, false, false, false, false, false, false, false, false, false, false, false, false, false, false, false, false, false, false, false, false] rfl rfl (any_of HT_.out (by kernel_rfl)) (fun _ _ _ h => h) (Or.inl ⟨by rfl, ?_⟩) ?_ ?_
             rotate_left
             ·
              intro w'
              go_simp
              with_reducible rfl
             rotate_left
             ·
              simp only [Act.put, List.setIfInBounds_toArray, List.set_cons_zero, List.set_cons_succ, i64_w, i32_w]
              rfl
             refine pure_ (i := 1) (N := some 102) (v := ?_) (a' := ?_) #[true, true, false, false, false, false, false, false, false, false, false, false, false, false, false, false, false, false, false, false, false, false, false, false, false, false, false, false, false] rfl rfl (any_of HT_.out (by kernel_rfl)) (fun _ _ _ h => h) (Or.inl ⟨by rfl, ?_⟩) ?_ ?_
             rotate_left
             ·
              intro w'
              go_simp
              with_reducible rfl
             rotate_left
             ·
              simp only [Act.put, List.setIfInBounds_toArray, List.set_cons_zero, List.set_cons_succ, i64_w, i32_w]
              rfl
             refine pure_ (i := 2) (N := some 103) (v := ?_) (a' := ?_) #[true, true, true, false, false, false, false, false, false, false, false, false, false, false, false, false, false, false, false, false, false, false, false, false, false, false, false, false, false] rfl rfl (any_of HT_.out (by kernel_rfl)) (fun _ _ _ h => h) (Or.inl ⟨by rfl, ?_⟩) ?_ ?_
             rotate_left
             ·
              intro w'
              go_simp
              with_reducible rfl
             rotate_left
             ·
              simp only [Act.put, List.setIfInBounds_toArray, List.set_cons_zero, List.set_cons_succ, i64_w, i32_w]
              rfl
             refine pure_ (i := 3) (N := some 104) (v := ?_) (a' := ?_) #[true, true, true, true, false, false, false, false, false, false, false, false, false, false, false, false, false, false, false, false, false, false, false, false, false, false, false, false, false] rfl rfl (any_of HT_.out (by kernel_rfl)) (fun _ _ _ h => h) (Or.inl ⟨by rfl, ?_⟩) ?_ ?_
             rotate_left
             ·
              intro w'
              go_simp
              with_reducible rfl
             rotate_left
             ·
              simp only [Act.put, List.setIfInBounds_toArray, List.set_cons_zero, List.set_cons_succ, i64_w, i32_w]
              rfl
             refine pure_ (i := 4) (N := some 105) (v := undef) (a' := ?_) #[true, true, true, true, true, false, false, false, false, false, false, false, false, false, false, false, false, false, false, false, false, false, false, false, false, false, false, false, false] rfl rfl (any_of HT_.out (by kernel_rfl)) (fun _ _ _ h => h) (Or.inr ⟨by rfl, rfl⟩) ?_ ?_
             rotate_left
             ·
              simp only [Act.put, List.setIfInBounds_toArray, List.set_cons_zero, List.set_cons_succ, i64_w, i32_w]
              rfl
             refine pure_ (i := 5) (N := some 106) (v := undef) (a' := ?_) #[true, true, true, true, true, true, false, false, false, false, false, false, false, false, false, false, false, false, false, false, false, false, false, false, false, false, false, false, false] rfl rfl (any_of HT_.out (by kernel_rfl)) (fun _ _ _ h => h) (Or.inr ⟨by rfl, rfl⟩) ?_ ?_
             rotate_left
             ·
              simp only [Act.put, List.setIfInBounds_toArray, List.set_cons_zero, List.set_cons_succ, i64_w, i32_w]
              rfl
             refine pure_ (i := 6) (N := some 107) (v := undef) (a' := ?_) #[true, true, true, true, true, true, true, false, false, false, false, false, false, false, false, false, false, false, false, false, false, false, false, false, false, false, false, false, false] rfl rfl (any_of HT_.out (by kernel_rfl)) (fun _ _ _ h => h) (Or.inr ⟨by rfl, rfl⟩) ?_ ?_
             rotate_left
             ·
              simp only [Act.put, List.setIfInBounds_toArray, List.set_cons_zero, List.set_cons_succ, i64_w, i32_w]
              rfl
             refine pure_ (i := 7) (N := some 108) (v := undef) (a' := ?_) #[true, true, true, true, true, true, true, true, false, false, false, false, false, false, false, false, false, false, false, false, false, false, false, false, false, false, false, false, false] rfl rfl (any_of HT_.out (by kernel_rfl)) (fun _ _ _ h => h) (Or.inr ⟨by rfl, rfl⟩) ?_ ?_
             rotate_left
             ·
              simp only [Act.put, List.setIfInBounds_toArray, List.set_cons_zero, List.set_cons_succ, i64_w, i32_w]
              rfl
             refine pure_ (i := 8) (N := some 109) (v := undef) (a' := ?_) #[true, true, true, true, true, true, true, true, true, false, false, false, false, false, false, false, false, false, false, false, false, false, false, false, false, false, false, false, false] rfl rfl (any_of HT_.out (by kernel_rfl)) (fun _ _ _ h => h) (Or.inr ⟨by rfl, rfl⟩) ?_ ?_
             rotate_left
             ·
              simp only [Act.put, List.setIfInBounds_toArray, List.set_cons_zero, List.set_cons_succ, i64_w, i32_w]
              rfl
             refine pure_ (i := 9) (N := some 110) (v := ?_) (a' := ?_) #[true, true, true, true, true, true, true, true, true, true, false, false, false, false, false, false, false, false, false, false, false, false, false, false, false, false, false, false, false] rfl rfl (any_of HT_.out (by kernel_rfl)) (fun _ _ _ h => h) (Or.inl ⟨by rfl, ?_⟩) ?_ ?_
             rotate_left
             ·
              intro w'
              go_simp
              with_reducible rfl
             rotate_left
             ·
              simp only [Act.put, List.setIfInBounds_toArray, List.set_cons_zero, List.set_cons_succ, i64_w, i32_w]
              rfl
             refine pure_ (i := 10) (N := some 111) (v := ?_) (a' := ?_) #[true, true, true, true, true, true, true, true, true, true, true, false, false, false, false, false, false, false, false, false, false, false, false, false, false, false, false, false, false] rfl rfl (any_of HT_.out (by kernel_rfl)) (fun _ _ _ h => h) (Or.inl ⟨by rfl, ?_⟩) ?_ ?_
             rotate_left
             ·
              intro w'
              go_simp
              with_reducible rfl
             rotate_left
             ·
              simp only [Act.put, List.setIfInBounds_toArray, List.set_cons_zero, List.set_cons_succ, i64_w, i32_w]
              rfl
             refine pure_ (i := 11) (N := some 112) (v := ?_) (a' := ?_) #[true, true, true, true, true, true, true, true, true, true, true, true, false, false, false, false, false, false, false, false, false, false, false, false, false, false, false, false, false] rfl rfl (any_of HT_.out (by kernel_rfl)) (fun _ _ _ h => h) (Or.inl ⟨by rfl, ?_⟩) ?_ ?_
             rotate_left
             ·
              intro w'
              go_simp
              with_reducible rfl
             rotate_left
             ·
              simp only [Act.put, List.setIfInBounds_toArray, List.set_cons_zero, List.set_cons_succ, i64_w, i32_w]
              rfl
             refine pure_ (i := 13) (N := some 114) (v := ?_) (a' := ?_) #[true, true, true, true, true, true, true, true, true, true, true, true, false, true, false, false, false, false, false, false, false, false, false, false, false, false, false, false, false] rfl rfl (any_of HT_.out (by kernel_rfl)) (fun _ _ _ h => h) (Or.inl ⟨by rfl, ?_⟩) ?_ ?_
             rotate_left
             ·
              intro w'
              go_simp
              with_reducible rfl
             rotate_left
             ·
              simp only [Act.put, List.setIfInBounds_toArray, List.set_cons_zero, List.set_cons_succ, i64_w, i32_w]
              rfl
             refine pure_ (i := 16) (N := some 117) (v := ?_) (a' := ?_) #[true, true, true, true, true, true, true, true, true, true, true, true, false, true, false, false, true, false, false, false, false, false, false, false, false, false, false, false, false] rfl rfl (any_of HT_.out (by kernel_rfl)) (fun _ _ _ h => h) (Or.inl ⟨by rfl, ?_⟩) ?_ ?_
             rotate_left
             ·
              intro w'
              go_simp
              with_reducible rfl
             rotate_left
             ·
              simp only [Act.put, List.setIfInBounds_toArray, List.set_cons_zero, List.set_cons_succ, i64_w, i32_w]
              rfl
             refine pure_ (i := 19) (N := some 120) (v := ?_) (a' := ?_) #[true, true, true, true, true, true, true, true, true, true, true, true, false, true, false, false, true, false, false, true, false, false, false, false, false, false, false, false, false] rfl rfl (any_of HT_.out (by kernel_rfl)) (fun _ _ _ h => h) (Or.inl ⟨by rfl, ?_⟩) ?_ ?_
             rotate_left
             ·
              intro w'
              go_simp
              with_reducible rfl
             rotate_left
             ·
              simp only [Act.put, List.setIfInBounds_toArray, List.set_cons_zero, List.set_cons_succ, i64_w, i32_w]
              rfl
             refine pure_ (i := 21) (N := some 122) (v := ?_) (a' := ?_) #[true, true, true, true, true, true, true, true, true, true, true, true, false, true, false, false, true, false, false, true, false, true, false, false, false, false, false, false, false] rfl rfl (any_of HT_.out (by kernel_rfl)) (fun _ _ _ h => h) (Or.inl ⟨by rfl, ?_⟩) ?_ ?_
             rotate_left
             ·
              intro w'
              go_simp
              with_reducible rfl
             rotate_left
             ·
              simp only [Act.put, List.setIfInBounds_toArray, List.set_cons_zero, List.set_cons_succ, i64_w, i32_w]
              rfl
             refine pure_ (i := 24) (N := some 125) (v := ?_) (a' := ?_) #[true, true, true, true, true, true, true, true, true, true, true, true, false, true, false, false, true, false, false, true, false, true, false, false, true, false, false, false, false] rfl rfl (any_of HT_.out (by kernel_rfl)) (fun _ _ _ h => h) (Or.inl ⟨by rfl, ?_⟩) ?_ ?_
             rotate_left
             ·
              intro w'
              go_simp
              with_reducible rfl
             rotate_left
             ·
              simp only [Act.put, List.setIfInBounds_toArray, List.set_cons_zero, List.set_cons_succ, i64_w, i32_w]
              rfl
             refine take_ (i := 12) (N := some 113) (v := ?_) (a' := ?_) #[true, true, true, true, true, true, true, true, true, true, true, true, true, true, false, false, true, false, false, true, false, true, false, false, true, false, false, false, false] rfl rfl (take_ofW HT_.out HW_.out (by kernel_rfl)) (fun _ _ _ h => h) (Or.inl ⟨by rfl, ?_⟩) hHeld ?_ ?_
             rotate_left
             ·
              rintro w' ⟨s0, s1, s2, s3, s4, s5, s6, s7, s8, s9, s10, s11, s12, s13⟩
              go_simp
              with_reducible rfl
             rotate_left
             ·
              simp only [Act.put, List.setIfInBounds_toArray, List.set_cons_zero, List.set_cons_succ, i64_w, i32_w]
              rfl
             refine pure_ (i := 14) (N := some 115) (v := ?_) (a' := ?_) #[true, true, true, true, true, true, true, true, true, true, true, true, true, true, true, false, true, false, false, true, false, true, false, false, true, false, false, false, false] rfl rfl (any_of HT_.out (by kernel_rfl)) (fun _ _ _ h => h) (Or.inl ⟨by rfl, ?_⟩) ?_ ?_
             rotate_left
             ·
              intro w'
              go_simp
              with_reducible rfl
             rotate_left
             ·
              simp only [Act.put, List.setIfInBounds_toArray, List.set_cons_zero, List.set_cons_succ, i64_w, i32_w]
              rfl
             refine take_ (i := 15) (N := some 116) (v := ?_) (a' := ?_) #[true, true, true, true, true, true, true, true, true, true, true, true, true, true, true, true, true, false, false, true, false, true, false, false, true, false, false, false, false] rfl rfl (take_ofW HT_.out HW_.out (by kernel_rfl)) (fun _ _ _ h => h) (Or.inl ⟨by rfl, ?_⟩) hHeld ?_ ?_
             rotate_left
             ·
              rintro w' ⟨s0, s1, s2, s3, s4, s5, s6, s7, s8, s9, s10, s11, s12, s13⟩
              go_simp
              with_reducible rfl
             rotate_left
             ·
              simp only [Act.put, List.setIfInBounds_toArray, List.set_cons_zero, List.set_cons_succ, i64_w, i32_w]
              rfl
             refine pure_ (i := 17) (N := some 118) (v := ?_) (a' := ?_) #[true, true, true, true, true, true, true, true, true, true, true, true, true, true, true, true, true, true, false, true, false, true, false, false, true, false, false, false, false] rfl rfl (any_of HT_.out (by kernel_rfl)) (fun _ _ _ h => h) (Or.inl ⟨by rfl, ?_⟩) ?_ ?_
             rotate_left
             ·
              intro w'
              go_simp
              with_reducible rfl
             rotate_left
             ·
              simp only [Act.put, List.setIfInBounds_toArray, List.set_cons_zero, List.set_cons_succ, i64_w, i32_w]
              rfl
             refine take_ (i := 18) (N := some 119) (v := ?_) (a' := ?_) #[true, true, true, true, true, true, true, true, true, true, true, true, true, true, true, true, true, true, true, true, false, true, false, false, true, false, false, false, false] rfl rfl (take_ofW HT_.out HW_.out (by kernel_rfl)) (fun _ _ _ h => h) (Or.inl ⟨by rfl, ?_⟩) hHeld ?_ ?_
             rotate_left
             ·
              rintro w' ⟨s0, s1, s2, s3, s4, s5, s6, s7, s8, s9, s10, s11, s12, s13⟩
              go_simp
              with_reducible rfl
             rotate_left
             ·
              simp only [Act.put, List.setIfInBounds_toArray, List.set_cons_zero, List.set_cons_succ, i64_w, i32_w]
              rfl
             refine take_ (i := 20) (N := some 121) (v := ?_) (a' := ?_) #[true, true, true, true, true, true, true, true, true, true, true, true, true, true, true, true, true, true, true, true, true, true, false, false, true, false, false, false, false] rfl rfl (take_ofW HT_.out HW_.out (by kernel_rfl)) (fun _ _ _ h => h) (Or.inl ⟨by rfl, ?_⟩) hHeld ?_ ?_
             rotate_left
             ·
              rintro w' ⟨s0, s1, s2, s3, s4, s5, s6, s7, s8, s9, s10, s11, s12, s13⟩
              go_simp
              with_reducible rfl
             rotate_left
             ·
              simp only [Act.put, List.setIfInBounds_toArray, List.set_cons_zero, List.set_cons_succ, i64_w, i32_w]
              rfl
             refine pure_ (i := 22) (N := some 123) (v := ?_) (a' := ?_) #[true, true, true, true, true, true, true, true, true, true, true, true, true, true, true, true, true, true, true, true, true, true, true, false, true, false, false, false, false] rfl rfl (any_of HT_.out (by kernel_rfl)) (fun _ _ _ h => h) (Or.inl ⟨by rfl, ?_⟩) ?_ ?_
             rotate_left
             ·
              intro w'
              go_simp
              with_reducible rfl
             rotate_left
             ·
              simp only [Act.put, List.setIfInBounds_toArray, List.set_cons_zero, List.set_cons_succ, i64_w, i32_w]
              rfl
             refine take_ (i := 23) (N := some 124) (v := ?_) (a' := ?_) #[true, true, true, true, true, true, true, true, true, true, true, true, true, true, true, true, true, true, true, true, true, true, true, true, true, false, false, false, false] rfl rfl (take_ofW HT_.out HW_.out (by kernel_rfl)) (fun _ _ _ h => h) (Or.inl ⟨by rfl, ?_⟩) hHeld ?_ ?_
             rotate_left
             ·
              rintro w' ⟨s0, s1, s2, s3, s4, s5, s6, s7, s8, s9, s10, s11, s12, s13⟩
              go_simp
              with_reducible rfl
             rotate_left
             ·
              simp only [Act.put, List.setIfInBounds_toArray, List.set_cons_zero, List.set_cons_succ, i64_w, i32_w]
              rfl
             refine pure_ (i := 25) (N := some 126) (v := ?_) (a' := ?_) #[true, true, true, true, true, true, true, true, true, true, true, true, true, true, true, true, true, true, true, true, true, true, true, true, true, true, false, false, false] rfl rfl (any_of HT_.out (by kernel_rfl)) (fun _ _ _ h => h) (Or.inl ⟨by rfl, ?_⟩) ?_ ?_
             rotate_left
             ·
              intro w'
              go_simp
              with_reducible rfl
             rotate_left
             ·
              simp only [Act.put, List.setIfInBounds_toArray, List.set_cons_zero, List.set_cons_succ, i64_w, i32_w]
              rfl
             refine take_ (i := 26) (N := some 127) (v := ?_) (a' := ?_) #[true, true, true, true, true, true, true, true, true, true, true, true, true, true, true, true, true, true, true, true, true, true, true, true, true, true, true, false, false] rfl rfl (take_ofW HT_.out HW_.out (by kernel_rfl)) (fun _ _ _ h => h) (Or.inl ⟨by rfl, ?_⟩) hHeld ?_ ?_
             rotate_left
             ·
              rintro w' ⟨s0, s1, s2, s3, s4, s5, s6, s7, s8, s9, s10, s11, s12, s13⟩
              go_simp
              with_reducible rfl
             rotate_left
             ·
              simp only [Act.put, List.setIfInBounds_toArray, List.set_cons_zero, List.set_cons_succ, i64_w, i32_w]
              rfl
             refine pure_ (i := 27) (N := some 128) (v := ?_) (a' := ?_) #[true, true, true, true, true, true, true, true, true, true, true, true, true, true, true, true, true, true, true, true, true, true, true, true, true, true, true, true, false] rfl rfl (any_of HT_.out (by kernel_rfl)) (fun _ _ _ h => h) (Or.inl ⟨by rfl, ?_⟩) ?_ ?_
             rotate_left
             ·
              intro w'
              go_simp
              with_reducible rfl
             rotate_left
             ·
              simp only [Act.put, List.setIfInBounds_toArray, List.set_cons_zero, List.set_cons_succ, i64_w, i32_w]
              rfl
             refine pure_ (i := 28) (N := some 129) (v := ?_) (a' := ?_) #[true, true, true, true, true, true, true, true, true, true, true, true, true, true, true, true, true, true, true, true, true, true, true, true, true, true, true, true, true] rfl rfl (any_of HT_.out (by kernel_rfl)) (fun _ _ _ h => h) (Or.inl ⟨by rfl, ?_⟩) ?_ ?_
             rotate_left
             ·
              intro w'
              go_simp
              with_reducible rfl
             rotate_left
             ·
              simp only [Act.put, List.setIfInBounds_toArray, List.set_cons_zero, List.set_cons_succ, i64_w, i32_w]
              rfl
             refine done_ (done_of HT_.out (by kernel_rfl)) ?_
             try go_wp2
             go_roundg k4
             case measure => have := HJ4.out; have := HJ41.out; have := HK3.out; have := HK4.out; omega
             case rel => exact ⟨(wrap64 (x18_4 + 1)), (by first | rfl | (simp; done) | (simp [*]; done)), H', ⟨by have := HJ4.out; have := HJ41.out; have := HK3.out; have := HK4.out; omega⟩, ⟨by (with_reducible repeat (first | apply Kd.R_alloc | apply Kd.R_drewN | apply Kd.R_drew)); exact HO_212000.out⟩, ⟨by (with_reducible repeat (first | apply Kd.R_alloc | apply Kd.R_drewN | apply Kd.R_drew)); exact HO_212001.out⟩, ⟨by (with_reducible repeat (first | apply Kd.S_alloc | apply Kd.S_drewN | apply Kd.S_drew)); exact HO_212002.out⟩, ⟨by (with_reducible repeat (first | apply Kd.R_alloc | apply Kd.R_drewN | apply Kd.R_drew)); exact HO_233000.out⟩, ⟨by (with_reducible repeat (first | apply Kd.R_alloc | apply Kd.R_drewN | apply Kd.R_drew)); exact HO_233001.out⟩, ⟨by (with_reducible repeat (first | apply Kd.S_alloc | apply Kd.S_drewN | apply Kd.S_drew)); exact HO_233002.out⟩, ⟨by (with_reducible repeat (first | refine blk_drewN ?_ _ | refine blk_drew ?_ | refine blk_alloc ?_ _)); exact BK211.out⟩, ⟨by (with_reducible repeat (first | refine blk_drewN ?_ _ | refine blk_drew ?_ | refine blk_alloc ?_ _)); exact BK232.out⟩, ⟨by repeat (first | (with_reducible first | exact HB.out | apply below_alloc | apply pw_below_drewN | apply below_drew1 | refine below_set ?_ GE211.out | refine below_set ?_ GE232.out) | exact HB.out)⟩⟩
            rw [if_pos c60] at H
            have c60b0 : (x17_3 == ji23) = true := beq_iff_eq.mpr c60; have c60b1 : (x17_3 != ji23) = false := bne_eq_false_iff_eq.mpr c60; clear c60
            by_cases c61 : x18_4 = (Int.tmod (wrap64 (ji23 + 1)) 3)
            rotate_left
            ·
             rw [if_neg c61] at H
             have c61b0 : (x18_4 == (Int.tmod (wrap64 (ji23 + 1)) 3)) = false := beq_eq_false_iff_ne.mpr c61
             (try rw [hji35] at c61b0)
             have c61b1 : (x18_4 != (Int.tmod (wrap64 (ji23 + 1)) 3)) = true := bne_iff_ne.mpr c61
             (try rw [hji35] at c61b1)
             by_cases c63 : 0 ≤ x17_3
             rotate_left
             ·
              rw [if_neg c63] at H
              exact absurd H (by simp)
             rw [if_pos c63] at H
             have c63b0 : decide (0 ≤ x17_3) = true := decide_eq_true c63; clear c63
             by_cases c64 : x17_3 < (t225.length : Int)
             rotate_left
             ·
              rw [if_neg c64] at H
              exact absurd H (by simp)
             rw [if_pos c64] at H
             have c64b0 : decide (x17_3 < (t225.length : Int)) = true := decide_eq_true c64; clear c64
             by_cases c65 : 0 ≤ x18_4
             rotate_left
             ·
              rw [if_neg c65] at H
              exact absurd H (by simp)
             rw [if_pos c65] at H
             have c65b0 : decide (0 ≤ x18_4) = true := decide_eq_true c65; clear c65
             by_cases c66 : x18_4 < ((rd_L1 t225 x17_3).length : Int)
             rotate_left
             ·
              rw [if_neg c66] at H
              exact absurd H (by simp)
             rw [if_pos c66] at H
             have c66b0 : decide (x18_4 < ((rd_L1 t225 x17_3).length : Int)) = true := decide_eq_true c66; clear c66
             by_cases c67 : x17_3 < (t204.length : Int)
             rotate_left
             ·
              rw [if_neg c67] at H
              exact absurd H (by simp)
             rw [if_pos c67] at H
             have c67b0 : decide (x17_3 < (t204.length : Int)) = true := decide_eq_true c67; clear c67
             by_cases c68 : x18_4 < ((rd_L1 t204 x17_3).length : Int)
             rotate_left
             ·
              rw [if_neg c68] at H
              exact absurd H (by simp)
             rw [if_pos c68] at H
             have c68b0 : decide (x18_4 < ((rd_L1 t204 x17_3).length : Int)) = true := decide_eq_true c68; clear c68
             by_cases c69 : (rd (rd_L1 t225 x17_3) x18_4) = (rd (rd_L1 t204 x17_3) x18_4)
             rotate_left
             ·
              rw [if_neg c69] at H
              have c69b0 : ((rd (rd_L1 t225 x17_3) x18_4) == (rd (rd_L1 t204 x17_3) x18_4)) = false := beq_eq_false_iff_ne.mpr c69; have c69b1 : ((rd (rd_L1 t225 x17_3) x18_4) != (rd (rd_L1 t204 x17_3) x18_4)) = true := bne_iff_ne.mpr c69
              first | exact absurd (Option.some.inj H) (by rw [HRt.out]; decide) | fail "KEEP 1809"
             rw [if_pos c69] at H
             have c69b0 : ((rd (rd_L1 t225 x17_3) x18_4) == (rd (rd_L1 t204 x17_3) x18_4)) = true := beq_iff_eq.mpr c69; have c69b1 : ((rd (rd_L1 t225 x17_3) x18_4) != (rd (rd_L1 t204 x17_3) x18_4)) = false := bne_eq_false_iff_eq.mpr c69; clear c69; have H' := Aside0.mk H; clear H
             try go_wp2
             have n0_ := Aside0.mk (Kd.R_drew HO_212000.out); have n1_ := Aside0.mk (Kd.R_drew HO_212001.out); have n2_ := Aside0.mk (Kd.S_drew HO_212002.out); have n3_ := Aside0.mk (Kd.R_drew HO_233000.out); have n4_ := Aside0.mk (Kd.R_drew HO_233001.out); have n5_ := Aside0.mk (Kd.S_drew HO_233002.out); have n6_ := Aside0.mk (blk_drew BK211.out); have n7_ := Aside0.mk (blk_drew BK232.out); have n8_ := Aside0.mk (below_drew1 HB.out); clear HO_212000; clear HO_212001; clear HO_212002; clear HO_233000; clear HO_233001; clear HO_233002; clear BK211; clear BK232; clear HB; have HO_212000 := n0_; have HO_212001 := n1_; have HO_212002 := n2_; have HO_233000 := n3_; have HO_233001 := n4_; have HO_233002 := n5_; have BK211 := n6_; have BK232 := n7_; have HB := n8_; clear n0_ n1_ n2_ n3_ n4_ n5_ n6_ n7_ n8_; have p239 : 0 ≤ (x17_3 : Int) := of_decide_eq_true (by first | (with_reducible assumption) | assumption)
             have q239 : x17_3 < (t225.length : Int) := of_decide_eq_true (by first | (with_reducible assumption) | assumption)
             obtain ⟨ad239, A239_0, c239_0, e239, hx239_0, hl239_0, hi239_0⟩ := at_L1 (Kd.S_reads' HO_233002.out).2.2 x17_3 p239 q239
             cases e239
             obtain ⟨ce239, hce239, hMe239, hcc239⟩ := Kd.S_get HO_233002.out [] x17_3 p239 (by first | exact q239 | exact of_decide_eq_true (by first | (with_reducible assumption) | assumption) | (have e_ := (Kd.S_reads' HO_233002.out).1; omega))
             obtain ⟨ve239_0, rfl, ge239_0⟩ := hMe239; have hv239_0 := hcc239 0 _ rfl
             rw [Nat.add_zero, show ((Kd.slice 3 (Kd.int .i64))).sz = 1 from rfl, Nat.mul_one] at hv239_0
             replace hv239_0 := Option.some.inj (hv239_0.symm.trans hx239_0)
             rw [hv239_0] at ge239_0
             have HL239_0 := Aside0.mk (show Kd.R (Kd.int .i64) 3 _ _ _ _ (rd_L1 t225 x17_3) from ge239_0)
             clear hv239_0 ge239_0; clear hcc239 hce239; have HR239_0 := Aside0.mk hi239_0; have HC239_0 := Aside0.mk hl239_0; clear hi239_0 hl239_0; replace p239 := eq_true p239; replace q239 := eq_true q239; have p240 : 0 ≤ (x18_4 : Int) := of_decide_eq_true (by first | (with_reducible assumption) | assumption)
             have q240 : x18_4 < ((rd_L1 t225 x17_3).length : Int) := of_decide_eq_true (by first | (with_reducible assumption) | assumption)
             obtain ⟨ad240, e240, hx240_0⟩ := Kd.at_int (by repeat (first | (with_reducible exact HR239_0.out) | (with_reducible refine Kd.C_alloc ?_ _) | (with_reducible refine Kd.C_drewN ?_ _) | (with_reducible refine Kd.C_drew ?_) | exact HR239_0.out)) x18_4 p240 q240
             cases e240
             replace p240 := eq_true p240; replace q240 := eq_true q240; have p241 : 0 ≤ (x17_3 : Int) := of_decide_eq_true (by first | (with_reducible assumption) | assumption)
             have q241 : x17_3 < (t204.length : Int) := of_decide_eq_true (by first | (with_reducible assumption) | assumption)
             obtain ⟨ad241, A241_0, c241_0, e241, hx241_0, hl241_0, hi241_0⟩ := at_L1 (Kd.S_reads' HO_212002.out).2.2 x17_3 p241 q241
             cases e241
             obtain ⟨ce241, hce241, hMe241, hcc241⟩ := Kd.S_get HO_212002.out [] x17_3 p241 (by first | exact q241 | exact of_decide_eq_true (by first | (with_reducible assumption) | assumption) | (have e_ := (Kd.S_reads' HO_212002.out).1; omega))
             obtain ⟨ve241_0, rfl, ge241_0⟩ := hMe241; have hv241_0 := hcc241 0 _ rfl
             rw [Nat.add_zero, show ((Kd.slice 3 (Kd.int .i64))).sz = 1 from rfl, Nat.mul_one] at hv241_0
             replace hv241_0 := Option.some.inj (hv241_0.symm.trans hx241_0)
             rw [hv241_0] at ge241_0
             have HL241_0 := Aside0.mk (show Kd.R (Kd.int .i64) 3 _ _ _ _ (rd_L1 t204 x17_3) from ge241_0)
             clear hv241_0 ge241_0; clear hcc241 hce241; have HR241_0 := Aside0.mk hi241_0; have HC241_0 := Aside0.mk hl241_0; clear hi241_0 hl241_0; replace p241 := eq_true p241; replace q241 := eq_true q241; have p242 : 0 ≤ (x18_4 : Int) := of_decide_eq_true (by first | (with_reducible assumption) | assumption)
             have q242 : x18_4 < ((rd_L1 t204 x17_3).length : Int) := of_decide_eq_true (by first | (with_reducible assumption) | assumption)
             obtain ⟨ad242, e242, hx242_0⟩ := Kd.at_int (by repeat (first | (with_reducible exact HR241_0.out) | (with_reducible refine Kd.C_alloc ?_ _) | (with_reducible refine Kd.C_drewN ?_ _) | (with_reducible refine Kd.C_drew ?_) | exact HR241_0.out)) x18_4 p242 q242
             cases e242
             replace p242 := eq_true p242; replace q242 := eq_true q242
             refine start_ (n := 29) (S := fun w' => w'.cell? ⟨gb232, 0, none⟩ = some (.slice Ao47 t219.length co47) ∧ w'.cell? ⟨gb232, 1, none⟩ = some (.slice Ao50 t222.length co50) ∧ w'.cell? ⟨gb232, 2, none⟩ = some (.slice (some ad239) t225.length co51) ∧ w'.cell? ⟨gb232, 3, none⟩ = some (.int .i64 t228) ∧ w'.cell? ⟨gb232, 4, none⟩ = some (.int .i64 t229) ∧ w'.cell? ⟨gb211, 0, none⟩ = some (.slice Ao11 t198.length co11) ∧ w'.cell? ⟨gb211, 1, none⟩ = some (.slice Ao13 t201.length co13) ∧ w'.cell? ⟨gb211, 2, none⟩ = some (.slice (some ad241) t204.length co14) ∧ w'.cell? ⟨gb211, 3, none⟩ = some (.int .i64 t207) ∧ w'.cell? ⟨gb211, 4, none⟩ = some (.int .i64 t208) ∧ w'.cell? (ad239.add (x17_3).toNat) = some (.slice (some ad240) (rd_L1 t225 x17_3).length c239_0) ∧ w'.cell? (ad240.add (x18_4).toNat) = some (.int .i64 (rd (rd_L1 t225 x17_3) x18_4)) ∧ w'.cell? (ad241.add (x17_3).toNat) = some (.slice (some ad242) (rd_L1 t204 x17_3).length c241_0) ∧ w'.cell? (ad242.add (x18_4).toNat) = some (.int .i64 (rd (rd_L1 t204 x17_3) x18_4))) (ds := []) #[false, false, false, false, false, false, false, false, false, false, false, false, false, false, false, false, false, false, false, false, false, false, false, false, false, false, false, false, false] (by kernel_rfl) rfl rfl ⟨(blk_cell BK232.out 0).trans rfl, (blk_cell BK232.out 1).trans rfl, (blk_cell BK232.out 2).trans rfl, (blk_cell BK232.out 3).trans rfl, (blk_cell BK232.out 4).trans rfl, (blk_cell BK211.out 0).trans rfl, (blk_cell BK211.out 1).trans rfl, (blk_cell BK211.out 2).trans rfl, (blk_cell BK211.out 3).trans rfl, (blk_cell BK211.out 4).trans rfl, hx239_0, hx240_0, hx241_0, hx242_0⟩ (fun hHeld => ?_); refine with_tabW emendatelaw34_PricesOverride.tab16 emendatelaw34_PricesOverride.bits16 (fun HT_ HW_ => ?_)
             generalize wr.drew = w70 at HO_212000 HO_212001 HO_212002 HO_233000 HO_233001 HO_233002 BK211 BK232 HB HL239_0 HL241_0 HR239_0 HR241_0 hx239_0 hx240_0 hx241_0 hx242_0 hHeld ⊢
             refine pure_ (i := 0) (N := some 101) (v := ?_) (a' := ?_) #[true, false, false, false, false, false, false, false, false, false, false, false, false, false, false, false, false, false, false, false, false, false, false, false, false, false, false, false, false] rfl rfl (any_of HT_.out (by kernel_rfl)) (fun _ _ _ h => h) (Or.inl ⟨by rfl, ?_⟩) ?_ ?_
             rotate_left
             ·
              intro w'
              go_simp
              with_reducible rfl
             rotate_left
             ·
              simp only [Act.put, List.setIfInBounds_toArray, List.set_cons_zero, List.set_cons_succ, i64_w, i32_w]
              rfl
             refine pure_ (i := 1) (N := some 102) (v := ?_) (a' := ?_) #[true, true, false, false, false, false, false, false, false, false, false, false, false, false, false, false, false, false, false, false, false, false, false, false, false, false, false, false, false] rfl rfl (any_of HT_.out (by kernel_rfl)) (fun _ _ _ h => h) (Or.inl ⟨by rfl, ?_⟩) ?_ ?_
             rotate_left
             ·
              intro w'
              go_simp
              with_reducible rfl
             rotate_left
             ·
              simp only [Act.put, List.setIfInBounds_toArray, List.set_cons_zero, List.set_cons_succ, i64_w, i32_w]
              rfl
             refine pure_ (i := 2) (N := some 103) (v := ?_) (a' := ?_) #[true, true, true, false, false, false, false, false, false, false, false, false, false, false, false, false, false, false, false, false, false, false, false, false, false, false, false, false, false] rfl rfl (any_of HT_.out (by kernel_rfl)) (fun _ _ _ h => h) (Or.inl ⟨by rfl, ?_⟩) ?_ ?_
             rotate_left
             ·
              intro w'
              go_simp
              with_reducible rfl
             rotate_left
             ·
              simp only [Act.put, List.setIfInBounds_toArray, List.set_cons_zero, List.set_cons_succ, i64_w, i32_w]
              rfl
             refine pure_ (i := 3) (N := some 104) (v := ?_) (a' := ?_) #[true, true, true, true, false, false, false, false, false, false, false, false, false, false, false, false, false, false, false, false, false, false, false, false, false, false, false, false, false] rfl rfl (any_of HT_.out (by kernel_rfl)) (fun _ _ _ h => h) (Or.inl ⟨by rfl, ?_⟩) ?_ ?_
             rotate_left
             ·
              intro w'
              go_simp
              with_reducible rfl
             rotate_left
             ·
              simp only [Act.put, List.setIfInBounds_toArray, List.set_cons_zero, List.set_cons_succ, i64_w, i32_w]
              rfl
             refine pure_ (i := 4) (N := some 105) (v := ?_) (a' := ?_) #[true, true, true, true, true, false, false, false, false, false, false, false, false, false, false, false, false, false, false, false, false, false, false, false, false, false, false, false, false] rfl rfl (any_of HT_.out (by kernel_rfl)) (fun _ _ _ h => h) (Or.inl ⟨by rfl, ?_⟩) ?_ ?_
             rotate_left
             ·
              intro w'
              go_simp
              with_reducible rfl
             rotate_left
             ·
              simp only [Act.put, List.setIfInBounds_toArray, List.set_cons_zero, List.set_cons_succ, i64_w, i32_w]
              rfl
             refine pure_ (i := 5) (N := some 106) (v := ?_) (a' := ?_) #[true, true, true, true, true, true, false, false, false, false, false, false, false, false, false, false, false, false, false, false, false, false, false, false, false, false, false, false, false] rfl rfl (any_of HT_.out (by kernel_rfl)) (fun _ _ _ h => h) (Or.inl ⟨by rfl, ?_⟩) ?_ ?_
             rotate_left
             ·
              intro w'
              go_simp
              with_reducible rfl
             rotate_left
             ·
              simp only [Act.put, List.setIfInBounds_toArray, List.set_cons_zero, List.set_cons_succ, i64_w, i32_w]
              rfl
             refine pure_ (i := 6) (N := some 107) (v := ?_) (a' := ?_) #[true, true, true, true, true, true, true, false, false, false, false, false, false, false, false, false, false, false, false, false, false, false, false, false, false, false, false, false, false] rfl rfl (any_of HT_.out (by kernel_rfl)) (fun _ _ _ h => h) (Or.inl ⟨by rfl, ?_⟩) ?_ ?_
             rotate_left
             ·
              intro w'
              go_simp
              with_reducible rfl
             rotate_left
             ·
              simp only [Act.put, List.setIfInBounds_toArray, List.set_cons_zero, List.set_cons_succ, i64_w, i32_w]
              rfl
             refine pure_ (i := 7) (N := some 108) (v := ?_) (a' := ?_) #[true, true, true, true, true, true, true, true, false, false, false, false, false, false, false, false, false, false, false, false, false, false, false, false, false, false, false, false, false] rfl rfl (any_of HT_.out (by kernel_rfl)) (fun _ _ _ h => h) (Or.inl ⟨by rfl, ?_⟩) ?_ ?_
             rotate_left
             ·
              intro w'
              go_simp
              with_reducible rfl
             rotate_left
             ·
              simp only [Act.put, List.setIfInBounds_toArray, List.set_cons_zero, List.set_cons_succ, i64_w, i32_w]
              rfl
             refine pure_ (i := 8) (N := some 109) (v := ?_) (a' := ?_) #[true, true, true, true, true, true, true, true, true, false, false, false, false, false, false, false, false, false, false, false, false, false, false, false, false, false, false, false, false] rfl rfl (any_of HT_.out (by kernel_rfl)) (fun _ _ _ h => h) (Or.inl ⟨by rfl, ?_⟩) ?_ ?_
             rotate_left
             ·
              intro w'
              go_simp
              with_reducible rfl
             rotate_left
             ·
              simp only [Act.put, List.setIfInBounds_toArray, List.set_cons_zero, List.set_cons_succ, i64_w, i32_w]
              rfl
             refine pure_ (i := 9) (N := some 110) (v := ?_) (a' := ?_) #[true, true, true, true, true, true, true, true, true, true, false, false, false, false, false, false, false, false, false, false, false, false, false, false, false, false, false, false, false] rfl rfl (any_of HT_.out (by kernel_rfl)) (fun _ _ _ h => h) (Or.inl ⟨by rfl, ?_⟩) ?_ ?_
             rotate_left
             ·
              intro w'
              go_simp
              with_reducible rfl
             rotate_left
             ·
              simp only [Act.put, List.setIfInBounds_toArray, List.set_cons_zero, List.set_cons_succ, i64_w, i32_w]
              rfl
             refine pure_ (i := 10) (N := some 111) (v := ?_) (a' := ?_) #[true, true, true, true, true, true, true, true, true, true, true, false, false, false, false, false, false, false, false, false, false, false, false, false, false, false, false, false, false] rfl rfl (any_of HT_.out (by kernel_rfl)) (fun _ _ _ h => h) (Or.inl ⟨by rfl, ?_⟩) ?_ ?_
             rotate_left
             ·
              intro w'
              go_simp
              with_reducible rfl
             rotate_left
             ·
              simp only [Act.put, List.setIfInBounds_toArray, List.set_cons_zero, List.set_cons_succ, i64_w, i32_w]
              rfl
             refine pure_ (i := 11) (N := some 112) (v := ?_) (a' := ?_) #[true, true, true, true, true, true, true, true, true, true, true, true, false, false, false, false, false, false, false, false, false, false, false, false, false, false, false, false, false] rfl rfl (any_of HT_.out (by kernel_rfl)) (fun _ _ _ h => h) (Or.inl ⟨by rfl, ?_⟩) ?_ ?_
             rotate_left
             ·
              intro w'
              go_simp
              with_reducible rfl
             rotate_left
             ·
              simp only [Act.put, List.setIfInBounds_toArray, List.set_cons_zero, List.set_cons_succ, i64_w, i32_w]
              rfl
             refine pure_ (i := 13) (N := some 114) (v := ?_) (a' := ?_) #[true, true, true, true, true, true, true, true, true, true, true, true, false, true, false, false, false, false, false, false, false, false, false, false, false, false, false, false, false] rfl rfl (any_of HT_.out (by kernel_rfl)) (fun _ _ _ h => h) (Or.inl ⟨by rfl, ?_⟩) ?_ ?_
             rotate_left
             ·
              intro w'
              go_simp
              with_reducible rfl
             rotate_left
             ·
              simp only [Act.put, List.setIfInBounds_toArray, List.set_cons_zero, List.set_cons_succ, i64_w, i32_w]
              rfl
             refine pure_ (i := 16) (N := some 117) (v := ?_) (a' := ?_) #[true, true, true, true, true, true, true, true, true, true, true, true, false, true, false, false, true, false, false, false, false, false, false, false, false, false, false, false, false] rfl rfl (any_of HT_.out (by kernel_rfl)) (fun _ _ _ h => h) (Or.inl ⟨by rfl, ?_⟩) ?_ ?_
             rotate_left
             ·
              intro w'
              go_simp
              with_reducible rfl
             rotate_left
             ·
              simp only [Act.put, List.setIfInBounds_toArray, List.set_cons_zero, List.set_cons_succ, i64_w, i32_w]
              rfl
             refine pure_ (i := 19) (N := some 120) (v := ?_) (a' := ?_) #[true, true, true, true, true, true, true, true, true, true, true, true, false, true, false, false, true, false, false, true, false, false, false, false, false, false, false, false, false] rfl rfl (any_of HT_.out (by kernel_rfl)) (fun _ _ _ h => h) (Or.inl ⟨by rfl, ?_⟩) ?_ ?_
             rotate_left
             ·
              intro w'
              go_simp
              with_reducible rfl
             rotate_left
             ·
              simp only [Act.put, List.setIfInBounds_toArray, List.set_cons_zero, List.set_cons_succ, i64_w, i32_w]
              rfl
             refine pure_ (i := 21) (N := some 122) (v := ?_) (a' := ?_) #[true, true, true, true, true, true, true, true, true, true, true, true, false, true, false, false, true, false, false, true, false, true, false, false, false, false, false, false, false] rfl rfl (any_of HT_.out (by kernel_rfl)) (fun _ _ _ h => h) (Or.inl ⟨by rfl, ?_⟩) ?_ ?_
             rotate_left
             ·
              intro w'
              go_simp
              with_reducible rfl
             rotate_left
             ·
              simp only [Act.put, List.setIfInBounds_toArray, List.set_cons_zero, List.set_cons_succ, i64_w, i32_w]
              rfl
             refine pure_ (i := 24) (N := some 125) (v := ?_) (a' := ?_) #[true, true, true, true, true, true, true, true, true, true, true, true, false, true, false, false, true, false, false, true, false, true, false, false, true, false, false, false, false] rfl rfl (any_of HT_.out (by kernel_rfl)) (fun _ _ _ h => h) (Or.inl ⟨by rfl, ?_⟩) ?_ ?_
             rotate_left
             ·
              intro w'
              go_simp
              with_reducible rfl
             rotate_left
             ·
              simp only [Act.put, List.setIfInBounds_toArray, List.set_cons_zero, List.set_cons_succ, i64_w, i32_w]
              rfl
             refine take_ (i := 12) (N := some 113) (v := ?_) (a' := ?_) #[true, true, true, true, true, true, true, true, true, true, true, true, true, true, false, false, true, false, false, true, false, true, false, false, true, false, false, false, false] rfl rfl (take_ofW HT_.out HW_.out (by kernel_rfl)) (fun _ _ _ h => h) (Or.inl ⟨by rfl, ?_⟩) hHeld ?_ ?_
             rotate_left
             ·
              rintro w' ⟨s0, s1, s2, s3, s4, s5, s6, s7, s8, s9, s10, s11, s12, s13⟩
              go_simp
              with_reducible rfl
             rotate_left
             ·
              simp only [Act.put, List.setIfInBounds_toArray, List.set_cons_zero, List.set_cons_succ, i64_w, i32_w]
              rfl
             refine pure_ (i := 14) (N := some 115) (v := ?_) (a' := ?_) #[true, true, true, true, true, true, true, true, true, true, true, true, true, true, true, false, true, false, false, true, false, true, false, false, true, false, false, false, false] rfl rfl (any_of HT_.out (by kernel_rfl)) (fun _ _ _ h => h) (Or.inl ⟨by rfl, ?_⟩) ?_ ?_
             rotate_left
             ·
              intro w'
              go_simp
              with_reducible rfl
             rotate_left
             ·
              simp only [Act.put, List.setIfInBounds_toArray, List.set_cons_zero, List.set_cons_succ, i64_w, i32_w]
              rfl
             refine take_ (i := 15) (N := some 116) (v := ?_) (a' := ?_) #[true, true, true, true, true, true, true, true, true, true, true, true, true, true, true, true, true, false, false, true, false, true, false, false, true, false, false, false, false] rfl rfl (take_ofW HT_.out HW_.out (by kernel_rfl)) (fun _ _ _ h => h) (Or.inl ⟨by rfl, ?_⟩) hHeld ?_ ?_
             rotate_left
             ·
              rintro w' ⟨s0, s1, s2, s3, s4, s5, s6, s7, s8, s9, s10, s11, s12, s13⟩
              go_simp
              with_reducible rfl
             rotate_left
             ·
              simp only [Act.put, List.setIfInBounds_toArray, List.set_cons_zero, List.set_cons_succ, i64_w, i32_w]
              rfl
             refine pure_ (i := 17) (N := some 118) (v := ?_) (a' := ?_) #[true, true, true, true, true, true, true, true, true, true, true, true, true, true, true, true, true, true, false, true, false, true, false, false, true, false, false, false, false] rfl rfl (any_of HT_.out (by kernel_rfl)) (fun _ _ _ h => h) (Or.inl ⟨by rfl, ?_⟩) ?_ ?_
             rotate_left
             ·
              intro w'
              go_simp
              with_reducible rfl
             rotate_left
             ·
              simp only [Act.put, List.setIfInBounds_toArray, List.set_cons_zero, List.set_cons_succ, i64_w, i32_w]
              rfl
             refine take_ (i := 18) (N := some 119) (v := ?_) (a' := ?_) #[true, true, true, true, true, true, true, true, true, true, true, true, true, true, true, true, true, true, true, true, false, true, false, false, true, false, false, false, false] rfl rfl (take_ofW HT_.out HW_.out (by kernel_rfl)) (fun _ _ _ h => h) (Or.inl ⟨by rfl, ?_⟩) hHeld ?_ ?_
             rotate_left
             ·
              rintro w' ⟨s0, s1, s2, s3, s4, s5, s6, s7, s8, s9, s10, s11, s12, s13⟩
              go_simp
              with_reducible rfl
             rotate_left
             ·
              simp only [Act.put, List.setIfInBounds_toArray, List.set_cons_zero, List.set_cons_succ, i64_w, i32_w]
              rfl
             refine take_ (i := 20) (N := some 121) (v := ?_) (a' := ?_) #[true, true, true, true, true, true, true, true, true, true, true, true, true, true, true, true, true, true, true, true, true, true, false, false, true, false, false, false, false] rfl rfl (take_ofW HT_.out HW_.out (by kernel_rfl)) (fun _ _ _ h => h) (Or.inl ⟨by rfl, ?_⟩) hHeld ?_ ?_
             rotate_left
             ·
              rintro w' ⟨s0, s1, s2, s3, s4, s5, s6, s7, s8, s9, s10, s11, s12, s13⟩
              go_simp
              with_reducible rfl
             rotate_left
             ·
              simp only [Act.put, List.setIfInBounds_toArray, List.set_cons_zero, List.set_cons_succ, i64_w, i32_w]
              rfl
             refine pure_ (i := 22) (N := some 123) (v := ?_) (a' := ?_) #[true, true, true, true, true, true, true, true, true, true, true, true, true, true, true, true, true, true, true, true, true, true, true, false, true, false, false, false, false] rfl rfl (any_of HT_.out (by kernel_rfl)) (fun _ _ _ h => h) (Or.inl ⟨by rfl, ?_⟩) ?_ ?_
             rotate_left
             ·
              intro w'
              go_simp
              with_reducible rfl
             rotate_left
             ·
              simp only [Act.put, List.setIfInBounds_toArray, List.set_cons_zero, List.set_cons_succ, i64_w, i32_w]
              rfl
             refine take_ (i := 23) (N := some 124) (v := ?_) (a' := ?_) #[true, true, true, true, true, true, true, true, true, true, true, true, true, true, true, true, true, true, true, true, true, true, true, true, true, false, false, false, false] rfl rfl (take_ofW HT_.out HW_.out (by kernel_rfl)) (fun _ _ _ h => h) (Or.inl ⟨by rfl, ?_⟩) hHeld ?_ ?_
             rotate_left
             ·
              rintro w' ⟨s0, s1, s2, s3, s4, s5, s6, s7, s8, s9, s10, s11, s12, s13⟩
              go_simp
              with_reducible rfl
             rotate_left
             ·
              simp only [Act.put, List.setIfInBounds_toArray, List.set_cons_zero, List.set_cons_succ, i64_w, i32_w]
              rfl
             refine pure_ (i := 25) (N := some 126) (v := ?_) (a' := ?_) #[true, true, true, true, true, true, true, true, true, true, true, true, true, true, true, true, true, true, true, true, true, true, true, true, true, true, false, false, false] rfl rfl (any_of HT_.out (by kernel_rfl)) (fun _ _ _ h => h) (Or.inl ⟨by rfl, ?_⟩) ?_ ?_
             rotate_left
             ·
              intro w'
              go_simp
              with_reducible rfl
             rotate_left
             ·
              simp only [Act.put, List.setIfInBounds_toArray, List.set_cons_zero, List.set_cons_succ, i64_w, i32_w]
              rfl
             refine take_ (i := 26) (N := some 127) (v := ?_) (a' := ?_) #[true, true, true, true, true, true, true, true, true, true, true, true, true, true, true, true, true, true, true, true, true, true, true, true, true, true, true, false, false] rfl rfl (take_ofW HT_.out HW_.out (by kernel_rfl)) (fun _ _ _ h => h) (Or.inl ⟨by rfl, ?_⟩) hHeld ?_ ?_
             rotate_left
             ·
              rintro w' ⟨s0, s1, s2, s3, s4, s5, s6, s7, s8, s9, s10, s11, s12, s13⟩
              go_simp
              with_reducible rfl
             rotate_left
             ·
              simp only [Act.put, List.setIfInBounds_toArray, List.set_cons_zero, List.set_cons_succ, i64_w, i32_w]
              rfl
             refine pure_ (i := 27) (N := some 128) (v := ?_) (a' := ?_) #[true, true, true, true, true, true, true, true, true, true, true, true, true, true, true, true, true, true, true, true, true, true, true, true, true, true, true, true, false] rfl rfl (any_of HT_.out (by kernel_rfl)) (fun _ _ _ h => h) (Or.inl ⟨by rfl, ?_⟩) ?_ ?_
             rotate_left
             ·
              intro w'
              go_simp
              with_reducible rfl
             rotate_left
             ·
              simp only [Act.put, List.setIfInBounds_toArray, List.set_cons_zero, List.set_cons_succ, i64_w, i32_w]
              rfl
             refine pure_ (i := 28) (N := some 129) (v := ?_) (a' := ?_) #[true, true, true, true, true, true, true, true, true, true, true, true, true, true, true, true, true, true, true, true, true, true, true, true, true, true, true, true, true] rfl rfl (any_of HT_.out (by kernel_rfl)) (fun _ _ _ h => h) (Or.inl ⟨by rfl, ?_⟩) ?_ ?_
             rotate_left
             ·
              intro w'
              go_simp
              with_reducible rfl
             rotate_left
             ·
              simp only [Act.put, List.setIfInBounds_toArray, List.set_cons_zero, List.set_cons_succ, i64_w, i32_w]
              rfl
             refine done_ (done_of HT_.out (by kernel_rfl)) ?_
             try go_wp2
             go_roundg k4
             case measure => have := HJ4.out; have := HJ41.out; have := HK3.out; have := HK4.out; omega
             case rel => exact ⟨(wrap64 (x18_4 + 1)), (by first | rfl | (simp; done) | (simp [*]; done)), H', ⟨by have := HJ4.out; have := HJ41.out; have := HK3.out; have := HK4.out; omega⟩, ⟨by (with_reducible repeat (first | apply Kd.R_alloc | apply Kd.R_drewN | apply Kd.R_drew)); exact HO_212000.out⟩, ⟨by (with_reducible repeat (first | apply Kd.R_alloc | apply Kd.R_drewN | apply Kd.R_drew)); exact HO_212001.out⟩, ⟨by (with_reducible repeat (first | apply Kd.S_alloc | apply Kd.S_drewN | apply Kd.S_drew)); exact HO_212002.out⟩, ⟨by (with_reducible repeat (first | apply Kd.R_alloc | apply Kd.R_drewN | apply Kd.R_drew)); exact HO_233000.out⟩, ⟨by (with_reducible repeat (first | apply Kd.R_alloc | apply Kd.R_drewN | apply Kd.R_drew)); exact HO_233001.out⟩, ⟨by (with_reducible repeat (first | apply Kd.S_alloc | apply Kd.S_drewN | apply Kd.S_drew)); exact HO_233002.out⟩, ⟨by (with_reducible repeat (first | refine blk_drewN ?_ _ | refine blk_drew ?_ | refine blk_alloc ?_ _)); exact BK211.out⟩, ⟨by (with_reducible repeat (first | refine blk_drewN ?_ _ | refine blk_drew ?_ | refine blk_alloc ?_ _)); exact BK232.out⟩, ⟨by repeat (first | (with_reducible first | exact HB.out | apply below_alloc | apply pw_below_drewN | apply below_drew1 | refine below_set ?_ GE211.out | refine below_set ?_ GE232.out) | exact HB.out)⟩⟩
            rw [if_pos c61] at H
            have c61b0 : (x18_4 == (Int.tmod (wrap64 (ji23 + 1)) 3)) = true := beq_iff_eq.mpr c61
            (try rw [hji35] at c61b0)
            have c61b1 : (x18_4 != (Int.tmod (wrap64 (ji23 + 1)) 3)) = false := bne_eq_false_iff_eq.mpr c61
            (try rw [hji35] at c61b1)
            clear c61; have H' := Aside0.mk H; clear H
            try go_wp2
            have n0_ := Aside0.mk (Kd.R_drew HO_212000.out); have n1_ := Aside0.mk (Kd.R_drew HO_212001.out); have n2_ := Aside0.mk (Kd.S_drew HO_212002.out); have n3_ := Aside0.mk (Kd.R_drew HO_233000.out); have n4_ := Aside0.mk (Kd.R_drew HO_233001.out); have n5_ := Aside0.mk (Kd.S_drew HO_233002.out); have n6_ := Aside0.mk (blk_drew BK211.out); have n7_ := Aside0.mk (blk_drew BK232.out); have n8_ := Aside0.mk (below_drew1 HB.out); clear HO_212000; clear HO_212001; clear HO_212002; clear HO_233000; clear HO_233001; clear HO_233002; clear BK211; clear BK232; clear HB; have HO_212000 := n0_; have HO_212001 := n1_; have HO_212002 := n2_; have HO_233000 := n3_; have HO_233001 := n4_; have HO_233002 := n5_; have BK211 := n6_; have BK232 := n7_; have HB := n8_; clear n0_ n1_ n2_ n3_ n4_ n5_ n6_ n7_ n8_
            refine start_ (n := 29) (S := fun w' => True) (ds := []) #[false, false, false, false, false, false, false, false, false, false, false, false, false, false, false, false, false, false, false, false, false, false, false, false, false, false, false, false, false] (by kernel_rfl) rfl rfl trivial (fun hHeld => ?_); refine with_tabW emendatelaw34_PricesOverride.tab16 emendatelaw34_PricesOverride.bits16 (fun HT_ HW_ => ?_)
            generalize wr.drew = w62 at HO_212000 HO_212001 HO_212002 HO_233000 HO_233001 HO_233002 BK211 BK232 HB hHeld ⊢
            refine pure_ (i := 0) (N := some 101) (v := ?_) (a' := ?_) #[true, false, false, false, false, false, false, false, false, false, false, false, false, false, false, false, false, false, false, false, false, false, false, false, false, false, false, false, false] rfl rfl (any_of HT_.out (by kernel_rfl)) (fun _ _ _ h => h) (Or.inl ⟨by rfl, ?_⟩) ?_ ?_
            rotate_left
            ·
             intro w'
             go_simp
             with_reducible rfl
            rotate_left
            ·
             simp only [Act.put, List.setIfInBounds_toArray, List.set_cons_zero, List.set_cons_succ, i64_w, i32_w]
             rfl
            refine pure_ (i := 1) (N := some 102) (v := ?_) (a' := ?_) #[true, true, false, false, false, false, false, false, false, false, false, false, false, false, false, false, false, false, false, false, false, false, false, false, false, false, false, false, false] rfl rfl (any_of HT_.out (by kernel_rfl)) (fun _ _ _ h => h) (Or.inl ⟨by rfl, ?_⟩) ?_ ?_
            rotate_left
            ·
             intro w'
             go_simp
             with_reducible rfl
            rotate_left
            ·
             simp only [Act.put, List.setIfInBounds_toArray, List.set_cons_zero, List.set_cons_succ, i64_w, i32_w]
             rfl
            refine pure_ (i := 2) (N := some 103) (v := ?_) (a' := ?_) #[true, true, true, false, false, false, false, false, false, false, false, false, false, false, false, false, false, false, false, false, false, false, false, false, false, false, false, false, false] rfl rfl (any_of HT_.out (by kernel_rfl)) (fun _ _ _ h => h) (Or.inl ⟨by rfl, ?_⟩) ?_ ?_
            rotate_left
            ·
             intro w'
             go_simp
             with_reducible rfl
            rotate_left
            ·
             simp only [Act.put, List.setIfInBounds_toArray, List.set_cons_zero, List.set_cons_succ, i64_w, i32_w]
             rfl
            refine pure_ (i := 3) (N := some 104) (v := ?_) (a' := ?_) #[true, true, true, true, false, false, false, false, false, false, false, false, false, false, false, false, false, false, false, false, false, false, false, false, false, false, false, false, false] rfl rfl (any_of HT_.out (by kernel_rfl)) (fun _ _ _ h => h) (Or.inl ⟨by rfl, ?_⟩) ?_ ?_
            rotate_left
            ·
             intro w'
             go_simp
             with_reducible rfl
            rotate_left
            ·
             simp only [Act.put, List.setIfInBounds_toArray, List.set_cons_zero, List.set_cons_succ, i64_w, i32_w]
             rfl
            refine pure_ (i := 4) (N := some 105) (v := ?_) (a' := ?_) #[true, true, true, true, true, false, false, false, false, false, false, false, false, false, false, false, false, false, false, false, false, false, false, false, false, false, false, false, false] rfl rfl (any_of HT_.out (by kernel_rfl)) (fun _ _ _ h => h) (Or.inl ⟨by rfl, ?_⟩) ?_ ?_
            rotate_left
            ·
             intro w'
             go_simp
             with_reducible rfl
            rotate_left
            ·
             simp only [Act.put, List.setIfInBounds_toArray, List.set_cons_zero, List.set_cons_succ, i64_w, i32_w]
             rfl
            refine pure_ (i := 5) (N := some 106) (v := ?_) (a' := ?_) #[true, true, true, true, true, true, false, false, false, false, false, false, false, false, false, false, false, false, false, false, false, false, false, false, false, false, false, false, false] rfl rfl (any_of HT_.out (by kernel_rfl)) (fun _ _ _ h => h) (Or.inl ⟨by rfl, ?_⟩) ?_ ?_
            rotate_left
            ·
             intro w'
             go_simp
             with_reducible rfl
            rotate_left
            ·
             simp only [Act.put, List.setIfInBounds_toArray, List.set_cons_zero, List.set_cons_succ, i64_w, i32_w]
             rfl
            refine pure_ (i := 6) (N := some 107) (v := ?_) (a' := ?_) #[true, true, true, true, true, true, true, false, false, false, false, false, false, false, false, false, false, false, false, false, false, false, false, false, false, false, false, false, false] rfl rfl (any_of HT_.out (by kernel_rfl)) (fun _ _ _ h => h) (Or.inl ⟨by rfl, ?_⟩) ?_ ?_
            rotate_left
            ·
             intro w'
             go_simp
             with_reducible rfl
            rotate_left
            ·
             simp only [Act.put, List.setIfInBounds_toArray, List.set_cons_zero, List.set_cons_succ, i64_w, i32_w]
             rfl
            refine pure_ (i := 7) (N := some 108) (v := ?_) (a' := ?_) #[true, true, true, true, true, true, true, true, false, false, false, false, false, false, false, false, false, false, false, false, false, false, false, false, false, false, false, false, false] rfl rfl (any_of HT_.out (by kernel_rfl)) (fun _ _ _ h => h) (Or.inl ⟨by rfl, ?_⟩) ?_ ?_
            rotate_left
            ·
             intro w'
             go_simp
             with_reducible rfl
            rotate_left
            ·
             simp only [Act.put, List.setIfInBounds_toArray, List.set_cons_zero, List.set_cons_succ, i64_w, i32_w]
             rfl
            refine pure_ (i := 8) (N := some 109) (v := ?_) (a' := ?_) #[true, true, true, true, true, true, true, true, true, false, false, false, false, false, false, false, false, false, false, false, false, false, false, false, false, false, false, false, false] rfl rfl (any_of HT_.out (by kernel_rfl)) (fun _ _ _ h => h) (Or.inl ⟨by rfl, ?_⟩) ?_ ?_
            rotate_left
            ·
             intro w'
             go_simp
             with_reducible rfl
            rotate_left
            ·
             simp only [Act.put, List.setIfInBounds_toArray, List.set_cons_zero, List.set_cons_succ, i64_w, i32_w]
             rfl
            refine pure_ (i := 9) (N := some 110) (v := ?_) (a' := ?_) #[true, true, true, true, true, true, true, true, true, true, false, false, false, false, false, false, false, false, false, false, false, false, false, false, false, false, false, false, false] rfl rfl (any_of HT_.out (by kernel_rfl)) (fun _ _ _ h => h) (Or.inl ⟨by rfl, ?_⟩) ?_ ?_
            rotate_left
            ·
             intro w'
             go_simp
             with_reducible rfl
            rotate_left
            ·
             simp only [Act.put, List.setIfInBounds_toArray, List.set_cons_zero, List.set_cons_succ, i64_w, i32_w]
             rfl
            refine pure_ (i := 10) (N := some 111) (v := ?_) (a' := ?_) #[true, true, true, true, true, true, true, true, true, true, true, false, false, false, false, false, false, false, false, false, false, false, false, false, false, false, false, false, false] rfl rfl (any_of HT_.out (by kernel_rfl)) (fun _ _ _ h => h) (Or.inl ⟨by rfl, ?_⟩) ?_ ?_
            rotate_left
            ·
             intro w'
             go_simp
             with_reducible rfl
            rotate_left
            ·
             simp only [Act.put, List.setIfInBounds_toArray, List.set_cons_zero, List.set_cons_succ, i64_w, i32_w]
             rfl
            refine pure_ (i := 11) (N := some 112) (v := undef) (a' := ?_) #[true, true, true, true, true, true, true, true, true, true, true, true, false, false, false, false, false, false, false, false, false, false, false, false, false, false, false, false, false] rfl rfl (any_of HT_.out (by kernel_rfl)) (fun _ _ _ h => h) (Or.inr ⟨by rfl, rfl⟩) ?_ ?_
            rotate_left
            ·
             simp only [Act.put, List.setIfInBounds_toArray, List.set_cons_zero, List.set_cons_succ, i64_w, i32_w]
             rfl
            refine pure_ (i := 12) (N := some 113) (v := undef) (a' := ?_) #[true, true, true, true, true, true, true, true, true, true, true, true, true, false, false, false, false, false, false, false, false, false, false, false, false, false, false, false, false] rfl rfl (any_of HT_.out (by kernel_rfl)) (fun _ _ _ h => h) (Or.inr ⟨by rfl, rfl⟩) ?_ ?_
            rotate_left
            ·
             simp only [Act.put, List.setIfInBounds_toArray, List.set_cons_zero, List.set_cons_succ, i64_w, i32_w]
             rfl
            refine pure_ (i := 13) (N := some 114) (v := undef) (a' := ?_) #[true, true, true, true, true, true, true, true, true, true, true, true, true, true, false, false, false, false, false, false, false, false, false, false, false, false, false, false, false] rfl rfl (any_of HT_.out (by kernel_rfl)) (fun _ _ _ h => h) (Or.inr ⟨by rfl, rfl⟩) ?_ ?_
            rotate_left
            ·
             simp only [Act.put, List.setIfInBounds_toArray, List.set_cons_zero, List.set_cons_succ, i64_w, i32_w]
             rfl
            refine pure_ (i := 14) (N := some 115) (v := undef) (a' := ?_) #[true, true, true, true, true, true, true, true, true, true, true, true, true, true, true, false, false, false, false, false, false, false, false, false, false, false, false, false, false] rfl rfl (any_of HT_.out (by kernel_rfl)) (fun _ _ _ h => h) (Or.inr ⟨by rfl, rfl⟩) ?_ ?_
            rotate_left
            ·
             simp only [Act.put, List.setIfInBounds_toArray, List.set_cons_zero, List.set_cons_succ, i64_w, i32_w]
             rfl
            refine pure_ (i := 15) (N := some 116) (v := undef) (a' := ?_) #[true, true, true, true, true, true, true, true, true, true, true, true, true, true, true, true, false, false, false, false, false, false, false, false, false, false, false, false, false] rfl rfl (any_of HT_.out (by kernel_rfl)) (fun _ _ _ h => h) (Or.inr ⟨by rfl, rfl⟩) ?_ ?_
            rotate_left
            ·
             simp only [Act.put, List.setIfInBounds_toArray, List.set_cons_zero, List.set_cons_succ, i64_w, i32_w]
             rfl
            refine pure_ (i := 16) (N := some 117) (v := undef) (a' := ?_) #[true, true, true, true, true, true, true, true, true, true, true, true, true, true, true, true, true, false, false, false, false, false, false, false, false, false, false, false, false] rfl rfl (any_of HT_.out (by kernel_rfl)) (fun _ _ _ h => h) (Or.inr ⟨by rfl, rfl⟩) ?_ ?_
            rotate_left
            ·
             simp only [Act.put, List.setIfInBounds_toArray, List.set_cons_zero, List.set_cons_succ, i64_w, i32_w]
             rfl
            refine pure_ (i := 17) (N := some 118) (v := undef) (a' := ?_) #[true, true, true, true, true, true, true, true, true, true, true, true, true, true, true, true, true, true, false, false, false, false, false, false, false, false, false, false, false] rfl rfl (any_of HT_.out (by kernel_rfl)) (fun _ _ _ h => h) (Or.inr ⟨by rfl, rfl⟩) ?_ ?_
            rotate_left
            ·
             simp only [Act.put, List.setIfInBounds_toArray, List.set_cons_zero, List.set_cons_succ, i64_w, i32_w]
             rfl
            refine pure_ (i := 18) (N := some 119) (v := undef) (a' := ?_) #[true, true, true, true, true, true, true, true, true, true, true, true, true, true, true, true, true, true, true, false, false, false, false, false, false, false, false, false, false] rfl rfl (any_of HT_.out (by kernel_rfl)) (fun _ _ _ h => h) (Or.inr ⟨by rfl, rfl⟩) ?_ ?_
            rotate_left
            ·
             simp only [Act.put, List.setIfInBounds_toArray, List.set_cons_zero, List.set_cons_succ, i64_w, i32_w]
             rfl
            refine pure_ (i := 19) (N := some 120) (v := undef) (a' := ?_) #[true, true, true, true, true, true, true, true, true, true, true, true, true, true, true, true, true, true, true, true, false, false, false, false, false, false, false, false, false] rfl rfl (any_of HT_.out (by kernel_rfl)) (fun _ _ _ h => h) (Or.inr ⟨by rfl, rfl⟩) ?_ ?_
            rotate_left
            ·
             simp only [Act.put, List.setIfInBounds_toArray, List.set_cons_zero, List.set_cons_succ, i64_w, i32_w]
             rfl
            refine pure_ (i := 20) (N := some 121) (v := undef) (a' := ?_) #[true, true, true, true, true, true, true, true, true, true, true, true, true, true, true, true, true, true, true, true, true, false, false, false, false, false, false, false, false] rfl rfl (any_of HT_.out (by kernel_rfl)) (fun _ _ _ h => h) (Or.inr ⟨by rfl, rfl⟩) ?_ ?_
            rotate_left
            ·
             simp only [Act.put, List.setIfInBounds_toArray, List.set_cons_zero, List.set_cons_succ, i64_w, i32_w]
             rfl
            refine pure_ (i := 21) (N := some 122) (v := undef) (a' := ?_) #[true, true, true, true, true, true, true, true, true, true, true, true, true, true, true, true, true, true, true, true, true, true, false, false, false, false, false, false, false] rfl rfl (any_of HT_.out (by kernel_rfl)) (fun _ _ _ h => h) (Or.inr ⟨by rfl, rfl⟩) ?_ ?_
            rotate_left
            ·
             simp only [Act.put, List.setIfInBounds_toArray, List.set_cons_zero, List.set_cons_succ, i64_w, i32_w]
             rfl
            refine pure_ (i := 22) (N := some 123) (v := undef) (a' := ?_) #[true, true, true, true, true, true, true, true, true, true, true, true, true, true, true, true, true, true, true, true, true, true, true, false, false, false, false, false, false] rfl rfl (any_of HT_.out (by kernel_rfl)) (fun _ _ _ h => h) (Or.inr ⟨by rfl, rfl⟩) ?_ ?_
            rotate_left
            ·
             simp only [Act.put, List.setIfInBounds_toArray, List.set_cons_zero, List.set_cons_succ, i64_w, i32_w]
             rfl
            refine pure_ (i := 23) (N := some 124) (v := undef) (a' := ?_) #[true, true, true, true, true, true, true, true, true, true, true, true, true, true, true, true, true, true, true, true, true, true, true, true, false, false, false, false, false] rfl rfl (any_of HT_.out (by kernel_rfl)) (fun _ _ _ h => h) (Or.inr ⟨by rfl, rfl⟩) ?_ ?_
            rotate_left
            ·
             simp only [Act.put, List.setIfInBounds_toArray, List.set_cons_zero, List.set_cons_succ, i64_w, i32_w]
             rfl
            refine pure_ (i := 24) (N := some 125) (v := undef) (a' := ?_) #[true, true, true, true, true, true, true, true, true, true, true, true, true, true, true, true, true, true, true, true, true, true, true, true, true, false, false, false, false] rfl rfl (any_of HT_.out (by kernel_rfl)) (fun _ _ _ h => h) (Or.inr ⟨by rfl, rfl⟩) ?_ ?_
            rotate_left
            ·
             simp only [Act.put, List.setIfInBounds_toArray, List.set_cons_zero, List.set_cons_succ, i64_w, i32_w]
             rfl
            refine pure_ (i := 25) (N := some 126) (v := undef) (a' := ?_) #[true, true, true, true, true, true, true, true, true, true, true, true, true, true, true, true, true, true, true, true, true, true, true, true, true, true, false, false, false] rfl rfl (any_of HT_.out (by kernel_rfl)) (fun _ _ _ h => h) (Or.inr ⟨by rfl, rfl⟩) ?_ ?_
            rotate_left
            ·
             simp only [Act.put, List.setIfInBounds_toArray, List.set_cons_zero, List.set_cons_succ, i64_w, i32_w]
             rfl
            refine pure_ (i := 26) (N := some 127) (v := undef) (a' := ?_) #[true, true, true, true, true, true, true, true, true, true, true, true, true, true, true, true, true, true, true, true, true, true, true, true, true, true, true, false, false] rfl rfl (any_of HT_.out (by kernel_rfl)) (fun _ _ _ h => h) (Or.inr ⟨by rfl, rfl⟩) ?_ ?_
            rotate_left
            ·
             simp only [Act.put, List.setIfInBounds_toArray, List.set_cons_zero, List.set_cons_succ, i64_w, i32_w]
             rfl
            refine pure_ (i := 27) (N := some 128) (v := undef) (a' := ?_) #[true, true, true, true, true, true, true, true, true, true, true, true, true, true, true, true, true, true, true, true, true, true, true, true, true, true, true, true, false] rfl rfl (any_of HT_.out (by kernel_rfl)) (fun _ _ _ h => h) (Or.inr ⟨by rfl, rfl⟩) ?_ ?_
            rotate_left
            ·
             simp only [Act.put, List.setIfInBounds_toArray, List.set_cons_zero, List.set_cons_succ, i64_w, i32_w]
             rfl
            refine pure_ (i := 28) (N := some 129) (v := ?_) (a' := ?_) #[true, true, true, true, true, true, true, true, true, true, true, true, true, true, true, true, true, true, true, true, true, true, true, true, true, true, true, true, true] rfl rfl (any_of HT_.out (by kernel_rfl)) (fun _ _ _ h => h) (Or.inl ⟨by rfl, ?_⟩) ?_ ?_
            rotate_left
            ·
             intro w'
             go_simp
             with_reducible rfl
            rotate_left
            ·
             simp only [Act.put, List.setIfInBounds_toArray, List.set_cons_zero, List.set_cons_succ, i64_w, i32_w]
             rfl
            refine done_ (done_of HT_.out (by kernel_rfl)) ?_
            try go_wp2
            go_roundg k4
            case measure => have := HJ4.out; have := HJ41.out; have := HK3.out; have := HK4.out; omega
            case rel => exact ⟨(wrap64 (x18_4 + 1)), (by first | rfl | (simp; done) | (simp [*]; done)), H', ⟨by have := HJ4.out; have := HJ41.out; have := HK3.out; have := HK4.out; omega⟩, ⟨by (with_reducible repeat (first | apply Kd.R_alloc | apply Kd.R_drewN | apply Kd.R_drew)); exact HO_212000.out⟩, ⟨by (with_reducible repeat (first | apply Kd.R_alloc | apply Kd.R_drewN | apply Kd.R_drew)); exact HO_212001.out⟩, ⟨by (with_reducible repeat (first | apply Kd.S_alloc | apply Kd.S_drewN | apply Kd.S_drew)); exact HO_212002.out⟩, ⟨by (with_reducible repeat (first | apply Kd.R_alloc | apply Kd.R_drewN | apply Kd.R_drew)); exact HO_233000.out⟩, ⟨by (with_reducible repeat (first | apply Kd.R_alloc | apply Kd.R_drewN | apply Kd.R_drew)); exact HO_233001.out⟩, ⟨by (with_reducible repeat (first | apply Kd.S_alloc | apply Kd.S_drewN | apply Kd.S_drew)); exact HO_233002.out⟩, ⟨by (with_reducible repeat (first | refine blk_drewN ?_ _ | refine blk_drew ?_ | refine blk_alloc ?_ _)); exact BK211.out⟩, ⟨by (with_reducible repeat (first | refine blk_drewN ?_ _ | refine blk_drew ?_ | refine blk_alloc ?_ _)); exact BK232.out⟩, ⟨by repeat (first | (with_reducible first | exact HB.out | apply below_alloc | apply pw_below_drewN | apply below_drew1 | refine below_set ?_ GE211.out | refine below_set ?_ GE232.out) | exact HB.out)⟩⟩
       subst c57; have H1 : (some false) = some r := by rw [if_pos rfl] at H; exact H
       clear H; have H := H1; clear H1
       first | exact absurd (Option.some.inj H) (by rw [HRt.out]; decide) | fail "KEEP 920"
    ·
     rw [if_neg c24] at H
     exact absurd H (by simp)
end Go.Proofs.YtdcfcpgpbbgceaaGreatDoor.PAll
-- dedented
