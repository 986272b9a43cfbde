-- printed by a variant of the print (wip/mkprint.py)
import Derived.Test.YtdcfcpgpbbgceaaGreatDoorPAllx0
namespace Go.Proofs.YtdcfcpgpbbgceaaGreatDoor.PAll
open Go.RowKit Go.Proofs.YtdcfcpgpbbgceaaGreatDoorW.PrintWords Go.Proofs.YtdcfcpgpbbgceaaGreatDoorW.PrintLast Go.Proofs.YtdcfcpgpbbgceaaGreatDoorW.PrintMore
attribute [local go_sem] max2_int min2_int max_two min_two max_three min_three max_four min_four   -- for this text's walks alone
set_option linter.unusedVariables false
set_option linter.unusedSimpArgs false
mutual
def emendateref34_Default.l0 : Nat → Int → List Int → List Int → List (List Int) → Int → Int → Int → Option (List Int × List Int × (List (List Int)) × Int × Int)
 | 0, _, _, _, _, _, _, _ => none
 | k + 1, x0, x4, x5, x6, x7, x204003, x204004 => if x7 < x0 then (if x4.length < 17592186044416 then (if x5.length < 17592186044416 then (emendateref34_Default.l1 k x0 (x4 ++ [10]) (x5 ++ [10]) x6 x7 ([] : List Int) 0 x204003 x204004) else (none)) else (none)) else (some (x4, x5, x6, x204003, x204004))
def emendateref34_Default.l1 : Nat → Int → List Int → List Int → List (List Int) → Int → List Int → Int → Int → Int → Option (List Int × List Int × (List (List Int)) × Int × Int)
 | 0, _, _, _, _, _, _, _, _, _ => none
 | k + 1, x0, x4, x5, x6, x7, x8, x9, x204003, x204004 => if x9 < x0 then (if x7 = x9 then (if x8.length < 17592186044416 then (emendateref34_Default.l1 k x0 x4 x5 x6 x7 (x8 ++ [0]) (wrap64 (x9 + 1)) x204003 x204004) else (none)) else (if x8.length < 17592186044416 then (emendateref34_Default.l1 k x0 x4 x5 x6 x7 (x8 ++ [15]) (wrap64 (x9 + 1)) x204003 x204004) else (none))) else (if x6.length < 5864062014805 then (emendateref34_Default.l0 k x0 x4 x5 (x6 ++ [x8]) (wrap64 (x7 + 1)) x204003 x204004) else (none))
end
def emendateref34_Default.f (k : Nat) (a0 : Int) : Option (List Int × List Int × (List (List Int)) × Int × Int) := emendateref34_Default.l0 k a0 ([] : List Int) ([] : List Int) ([] : List (List Int)) 0 12 8
theorem emendateref34_Default.mono_l : ∀ k, (∀ y0 y1 y2 y3 y4 y5 y6, LeO (emendateref34_Default.l0 k y0 y1 y2 y3 y4 y5 y6) (emendateref34_Default.l0 (k + 1) y0 y1 y2 y3 y4 y5 y6)) ∧ (∀ y0 y1 y2 y3 y4 y5 y6 y7 y8, LeO (emendateref34_Default.l1 k y0 y1 y2 y3 y4 y5 y6 y7 y8) (emendateref34_Default.l1 (k + 1) y0 y1 y2 y3 y4 y5 y6 y7 y8))
 | 0 => ⟨fun _ _ _ _ _ _ _ r h => by simp [emendateref34_Default.l0] at h, fun _ _ _ _ _ _ _ _ _ r h => by simp [emendateref34_Default.l1] at h⟩
 | k + 1 => by
  obtain ⟨ih0, ih1⟩ := emendateref34_Default.mono_l k
  refine ⟨?_, ?_⟩
  ·
   intro y0 y1 y2 y3 y4 y5 y6
   unfold emendateref34_Default.l0
   repeat' first
   | (with_reducible exact ih0 _ _ _ _ _ _ _)
   | (with_reducible exact ih1 _ _ _ _ _ _ _ _ _)
   | (with_reducible exact LeO.refl _)
   | (with_reducible exact LeO.none _)
   | (with_reducible refine LeO.ite ?_ ?_)
   | (with_reducible refine LeO.bind ?_ (fun _ => ?_))
   | exact ih0 _ _ _ _ _ _ _
   | exact ih1 _ _ _ _ _ _ _ _ _
   | exact LeO.none _
   | refine LeO.ite ?_ ?_
   | refine LeO.bind ?_ (fun _ => ?_)
  ·
   intro y0 y1 y2 y3 y4 y5 y6 y7 y8
   unfold emendateref34_Default.l1
   repeat' first
   | (with_reducible exact ih0 _ _ _ _ _ _ _)
   | (with_reducible exact ih1 _ _ _ _ _ _ _ _ _)
   | (with_reducible exact LeO.refl _)
   | (with_reducible exact LeO.none _)
   | (with_reducible refine LeO.ite ?_ ?_)
   | (with_reducible refine LeO.bind ?_ (fun _ => ?_))
   | exact ih0 _ _ _ _ _ _ _
   | exact ih1 _ _ _ _ _ _ _ _ _
   | exact LeO.none _
   | refine LeO.ite ?_ ?_
   | refine LeO.bind ?_ (fun _ => ?_)
theorem emendateref34_Default.mono : ∀ a0 k, LeO (emendateref34_Default.f k a0) (emendateref34_Default.f (k + 1) a0) := by
 intro a0 k; obtain ⟨ih0, ih1⟩ := emendateref34_Default.mono_l k
 unfold emendateref34_Default.f
 repeat' first
   | (with_reducible exact ih0 _ _ _ _ _ _ _)
   | (with_reducible exact ih1 _ _ _ _ _ _ _ _ _)
   | (with_reducible exact LeO.refl _)
   | (with_reducible exact LeO.none _)
   | (with_reducible refine LeO.ite ?_ ?_)
   | (with_reducible refine LeO.bind ?_ (fun _ => ?_))
   | exact ih0 _ _ _ _ _ _ _
   | exact ih1 _ _ _ _ _ _ _ _ _
   | exact LeO.none _
   | refine LeO.ite ?_ ?_
   | refine LeO.bind ?_ (fun _ => ?_)
set_option maxHeartbeats 8000000 in
set_option maxRecDepth 100000 in
theorem emendateref34_Default.calls (k : Nat) (a0 : Int) (r1 : List Int) (r2 : List Int) (r3 : List (List Int)) (r4 : Int) (r5 : Int) (w : World) (h : emendateref34_Default.f k a0 = some (r1, r2, r3, r4, r5)) :
  Calls Tryz.prog 15 #[.int .i64 a0] w fun e w' => ∃ v0_ v1_ v2_ : Value, e = .returned (.agg #[v0_, v1_, v2_, .int .i64 r4, .int .i64 r5]) ∧ Kd.R (Kd.int .i64) 3 w' w.heap.size (fun k_ => some k_ ≠ (v1_ : Value).ownBlock) v0_ r1 ∧ Kd.R (Kd.int .i64) 3 w' w.heap.size (fun k_ => some k_ ≠ (v0_ : Value).ownBlock) v1_ r2 ∧ Kd.S (Kd.slice 3 (Kd.int .i64)) 22 w' w.heap.size (fun k_ => some k_ ≠ (v0_ : Value).ownBlock ∧ some k_ ≠ (v1_ : Value).ownBlock) v2_ r3 ∧ Below w.heap.size w w' := by
 have hu25 := Tryz.underlying25; have HB := Aside0.mk (Below.refl w.heap.size w); have H : (emendateref34_Default.l0 k a0 ([] : List Int) ([] : List Int) ([] : List (List Int)) 0 12 8) = some (r1, r2, r3, r4, r5) := h; clear h; have H' := Aside0.mk H; clear H
 go_enter Tryz.func15, Tryz.ntmps15
 go_wp2_with (first | ((with_reducible refine gate_dst (N := 2) rfl ?_); refine box_event ?hg (N := 2) ?hd (cs := #[.slice none 0 0, .slice none 0 0, .slice none 0 0, .int .i64 0, .int .i64 0]) (t := 25) ?hr ?_; (case hd => rfl); (case hg => rfl); (case hr => first | (go_simp; done) | (go_simp; rfl)); intro gb202 hg w2 hbox hb; have n0_ := Aside0.mk (below_step (by repeat (first | (with_reducible first | exact HB.out | apply below_alloc | apply pw_below_drewN | apply below_drew1) | exact HB.out)) hb); have n1_ := Aside0.mk (hbox); have n2_ := Aside0.mk ((by rw [hg]; exact (below_size (by repeat (first | (with_reducible first | exact HB.out | apply below_alloc | apply pw_below_drewN | apply below_drew1) | exact HB.out))) : w.heap.size ≤ gb202)); have n3_ := Aside0.mk ((by rw [hg]; exact (below_size (by repeat (first | (with_reducible first | exact HB.out | apply below_alloc | apply pw_below_drewN | apply below_drew1) | exact HB.out))) : w.heap.size ≤ gb202)); clear HB; have HB := n0_; have BK202 := n1_; have GW202 := n2_; have GE202 := n3_; clear n0_ n1_ n2_ n3_; clear hb hbox hg) | ((with_reducible refine gate_dst (N := 3) rfl ?_); refine box_event ?hg (N := 3) ?hd (cs := #[.slice none 0 0, .slice none 0 0, .slice none 0 0, .int .i64 0, .int .i64 0]) (t := 25) ?hr ?_; (case hd => rfl); (case hg => rfl); (case hr => first | (go_simp; done) | (go_simp; rfl)); intro gb203 hg w3 hbox hb; have n0_ := Aside0.mk (blk_below (g := gb202) (o := .cells #[.slice none 0 0, .slice none 0 0, .slice none 0 0, .int .i64 0, .int .i64 0] 25 (0, 0)) (by exact BK202.out) hb); have n1_ := Aside0.mk (below_step (by repeat (first | (with_reducible first | exact HB.out | apply below_alloc | apply pw_below_drewN | apply below_drew1 | refine below_set ?_ GE202.out) | exact HB.out)) hb); have n2_ := Aside0.mk (hbox); have n3_ := Aside0.mk ((by rw [hg]; exact (below_size (by repeat (first | (with_reducible first | exact HB.out | apply below_alloc | apply pw_below_drewN | apply below_drew1 | refine below_set ?_ GE202.out) | exact HB.out))) : w.heap.size ≤ gb203)); have n4_ := Aside0.mk ((by rw [hg]; exact (below_size (by repeat (first | (with_reducible first | exact HB.out | apply below_alloc | apply pw_below_drewN | apply below_drew1 | refine below_set ?_ GE202.out) | exact HB.out))) : w.heap.size ≤ gb203)); have n5_ := Aside0.mk ((by rw [hg]; exact Nat.ne_of_lt (blk_lt (g := gb202) (o := .cells #[.slice none 0 0, .slice none 0 0, .slice none 0 0, .int .i64 0, .int .i64 0] 25 (0, 0)) (by exact BK202.out)) : gb202 ≠ gb203)); have n6_ := Aside0.mk ((by rw [hg]; exact Nat.ne_of_gt (blk_lt (g := gb202) (o := .cells #[.slice none 0 0, .slice none 0 0, .slice none 0 0, .int .i64 0, .int .i64 0] 25 (0, 0)) (by exact BK202.out)) : gb203 ≠ gb202)); clear BK202; clear HB; have BK202 := n0_; have HB := n1_; have BK203 := n2_; have GW203 := n3_; have GE203 := n4_; have NB202_203 := n5_; have NB203_202 := n6_; clear n0_ n1_ n2_ n3_ n4_ n5_ n6_; clear hb hbox hg; have hnb4 := NB203_202.out; have hnc4 := NB202_203.out; have hcz5_0 : w3.cell? ⟨gb203, 0, none⟩ = some (.slice none 0 0) := (blk_cell BK203.out 0).trans rfl; have hcz5_1 : w3.cell? ⟨gb203, 1, none⟩ = some (.slice none 0 0) := (blk_cell BK203.out 1).trans rfl; have hcz5_2 : w3.cell? ⟨gb203, 2, none⟩ = some (.slice none 0 0) := (blk_cell BK203.out 2).trans rfl; have hcz5_3 : w3.cell? ⟨gb203, 3, none⟩ = some (.int .i64 0) := (blk_cell BK203.out 3).trans rfl; have hcz5_4 : w3.cell? ⟨gb203, 4, none⟩ = some (.int .i64 0) := (blk_cell BK203.out 4).trans rfl; have hfz5_0 := blk_frozen BK203.out 0; have hfz5_1 := blk_frozen BK203.out 1; have hfz5_2 := blk_frozen BK203.out 2; have hfz5_3 := blk_frozen BK203.out 3; have hfz5_4 := blk_frozen BK203.out 4))
 go_loopg [4, 5, 6, 7] k (fun kq v4 v5 v6 v7 w' => ∃ (x4_1 : List Int) (x5_1 : List Int) (x6_1 : List (List Int)) (x7_1 : Int), v7 = .int .i64 x7_1 ∧ Aside0 (emendateref34_Default.l0 kq a0 x4_1 x5_1 x6_1 x7_1 12 8 = some (r1, r2, r3, r4, r5)) ∧ Aside0 (kq ≤ k) ∧ Aside0 (Kd.R (Kd.int .i64) 3 w' w.heap.size (fun k_ => some k_ ≠ (v5 : Value).ownBlock) v4 x4_1) ∧ Aside0 (Kd.R (Kd.int .i64) 3 w' w.heap.size (fun k_ => some k_ ≠ (v4 : Value).ownBlock) v5 x5_1) ∧ Aside0 (Kd.S (Kd.slice 3 (Kd.int .i64)) 22 w' w.heap.size (fun k_ => some k_ ≠ (v4 : Value).ownBlock ∧ some k_ ≠ (v5 : Value).ownBlock) v6 x6_1) ∧ Aside0 (w'.heap[gb202]? = some (.cells #[(.slice none 0 0), (.slice none 0 0), (.slice none 0 0), .int .i64 0, .int .i64 0] 25 (0, 0))) ∧ Aside0 (w'.heap[gb203]? = some (.cells #[(.slice none 0 0), (.slice none 0 0), (.slice none 0 0), .int .i64 12, .int .i64 8] 25 (0, 0))) ∧ Aside0 (Below w.heap.size w w'))
 case atStart => exact ⟨(([] : List Int)), (([] : List Int)), (([] : List (List Int))), (0), (by first | rfl | (simp; done) | (simp [*]; done)), H', ⟨Nat.le_refl _⟩, ⟨by first | exact Kd.R_nil _ _ _ _ _ | exact Kd.N_nil _ _ _ _ _ | exact Kd.V_nil _ _ _ _ _ | exact Kd.Q_nil _ _ _ _ _ | exact Kd.S_nil _ _ _ _ _⟩, ⟨by first | exact Kd.R_nil _ _ _ _ _ | exact Kd.N_nil _ _ _ _ _ | exact Kd.V_nil _ _ _ _ _ | exact Kd.Q_nil _ _ _ _ _ | exact Kd.S_nil _ _ _ _ _⟩, ⟨by first | exact Kd.S_nil _ _ _ _ _ | exact Kd.N_nil _ _ _ _ _ | exact Kd.V_nil _ _ _ _ _ | exact Kd.Q_nil _ _ _ _ _ | exact Kd.R_nil _ _ _ _ _⟩, ⟨by refine blk_far ?_ NB202_203.out _; refine blk_far ?_ NB202_203.out _; refine blk_far ?_ NB202_203.out _; refine blk_far ?_ NB202_203.out _; refine blk_far ?_ NB202_203.out _; exact BK202.out⟩, ⟨by refine blk_put (cs := #[.slice none 0 0, .slice none 0 0, .slice none 0 0, .int .i64 12, .int .i64 0]) ?_ 4 _ rfl; refine blk_put (cs := #[.slice none 0 0, .slice none 0 0, .slice none 0 0, .int .i64 0, .int .i64 0]) ?_ 3 _ rfl; refine blk_put (cs := #[.slice none 0 0, .slice none 0 0, .slice none 0 0, .int .i64 0, .int .i64 0]) ?_ 2 _ rfl; refine blk_put (cs := #[.slice none 0 0, .slice none 0 0, .slice none 0 0, .int .i64 0, .int .i64 0]) ?_ 1 _ rfl; refine blk_put (cs := #[.slice none 0 0, .slice none 0 0, .slice none 0 0, .int .i64 0, .int .i64 0]) ?_ 0 _ rfl; exact BK203.out⟩, ⟨by repeat (first | (with_reducible first | exact HB.out | apply below_alloc | apply pw_below_drewN | apply below_drew1 | refine below_set ?_ GE202.out | refine below_set ?_ GE203.out) | exact HB.out)⟩⟩
 case round =>
  clear H'
  try clear c1
  try clear p2
  try clear c4
  try clear hcz5_0
  try clear hcz5_1
  try clear hcz5_2
  try clear hcz5_3
  try clear hcz5_4
  try clear hfz5_0
  try clear hfz5_1
  try clear hfz5_2
  try clear hfz5_3
  try clear hfz5_4
  obtain ⟨x4_1, x5_1, x6_1, x7_1, rfl, HA, HK1, HO_4, HO_5, HO_6, BK202, BK203, HB⟩ := hrel
  cases gk with
  | zero => exact absurd HA.out (by simp [emendateref34_Default.l0])
  | succ k1 =>
   have H := HA.out; clear HA
   simp only [emendateref34_Default.l0] at H
   by_cases c6 : x7_1 < a0
   rotate_left
   ·
    rw [if_neg c6] at H
    have c6b0 : decide (x7_1 < a0) = false := decide_eq_false c6; clear c6
    simp only [Option.some.injEq, Prod.mk.injEq] at H
    obtain ⟨rfl, rfl, rfl, rfl, rfl⟩ := H; obtain ⟨Ao20, co20, eo20⟩ := Kd.R_slice HO_4.out; subst eo20; have hnb21 := NB203_202.out; have hnc21 := NB202_203.out; have hcz22_0 : wr.cell? ⟨gb203, 0, none⟩ = some (.slice none 0 0) := (blk_cell BK203.out 0).trans rfl; have hcz22_1 : wr.cell? ⟨gb203, 1, none⟩ = some (.slice none 0 0) := (blk_cell BK203.out 1).trans rfl; have hcz22_2 : wr.cell? ⟨gb203, 2, none⟩ = some (.slice none 0 0) := (blk_cell BK203.out 2).trans rfl; have hcz22_3 : wr.cell? ⟨gb203, 3, none⟩ = some (.int .i64 12) := (blk_cell BK203.out 3).trans rfl; have hcz22_4 : wr.cell? ⟨gb203, 4, none⟩ = some (.int .i64 8) := (blk_cell BK203.out 4).trans rfl; have hfz22_0 := blk_frozen BK203.out 0; have hfz22_1 := blk_frozen BK203.out 1; have hfz22_2 := blk_frozen BK203.out 2; have hfz22_3 := blk_frozen BK203.out 3; have hfz22_4 := blk_frozen BK203.out 4; obtain ⟨Ao23, co23, eo23⟩ := Kd.R_slice HO_5.out; subst eo23; obtain ⟨Ao24, co24, eo24⟩ := Kd.S_slice HO_6.out; subst eo24; have hcz25_0 : wr.cell? ⟨gb202, 0, none⟩ = some (.slice none 0 0) := (blk_cell BK202.out 0).trans rfl; have hcz25_1 : wr.cell? ⟨gb202, 1, none⟩ = some (.slice none 0 0) := (blk_cell BK202.out 1).trans rfl; have hcz25_2 : wr.cell? ⟨gb202, 2, none⟩ = some (.slice none 0 0) := (blk_cell BK202.out 2).trans rfl; have hcz25_3 : wr.cell? ⟨gb202, 3, none⟩ = some (.int .i64 0) := (blk_cell BK202.out 3).trans rfl; have hcz25_4 : wr.cell? ⟨gb202, 4, none⟩ = some (.int .i64 0) := (blk_cell BK202.out 4).trans rfl; have hfz25_0 := blk_frozen BK202.out 0; have hfz25_1 := blk_frozen BK202.out 1; have hfz25_2 := blk_frozen BK202.out 2; have hfz25_3 := blk_frozen BK202.out 3; have hfz25_4 := blk_frozen BK202.out 4
    go_wp2
    refine bodyPost_ret (results_cell_row rfl _ _ gb202 25 #[.slice Ao20 x4_1.length co20, .slice Ao23 x5_1.length co23, .slice Ao24 x6_1.length co24, .int .i64 12, .int .i64 8] (0, 0) _ rfl (by refine blk_put (cs := #[.slice Ao20 x4_1.length co20, .slice Ao23 x5_1.length co23, .slice Ao24 x6_1.length co24, .int .i64 12, .int .i64 0]) ?_ 4 _ rfl; refine blk_put (cs := #[.slice Ao20 x4_1.length co20, .slice Ao23 x5_1.length co23, .slice Ao24 x6_1.length co24, .int .i64 0, .int .i64 0]) ?_ 3 _ rfl; refine blk_put (cs := #[.slice Ao20 x4_1.length co20, .slice Ao23 x5_1.length co23, .slice none 0 0, .int .i64 0, .int .i64 0]) ?_ 2 _ rfl; refine blk_put (cs := #[.slice Ao20 x4_1.length co20, .slice none 0 0, .slice none 0 0, .int .i64 0, .int .i64 0]) ?_ 1 _ rfl; refine blk_put (cs := #[.slice none 0 0, .slice none 0 0, .slice none 0 0, .int .i64 0, .int .i64 0]) ?_ 0 _ rfl; refine blk_far ?_ NB202_203.out _; refine blk_far ?_ NB202_203.out _; refine blk_far ?_ NB202_203.out _; exact BK202.out) Tryz.underlying25 rfl (by kernel_rfl)) rfl ?_
    exact ⟨_, _, _, by first | rfl | (simp [errW_none, errW_some] <;> rfl) | (simp [*, errW_none, errW_some] <;> rfl), by exact Kd.R_mono (Kd.R_far (p := ⟨gb202, 4, none⟩) (Kd.R_far (p := ⟨gb202, 3, none⟩) (Kd.R_far (p := ⟨gb202, 2, none⟩) (Kd.R_far (p := ⟨gb202, 1, none⟩) (Kd.R_far (p := ⟨gb202, 0, none⟩) (Kd.R_far (p := ⟨gb203, 2, none⟩) (Kd.R_far (p := ⟨gb203, 1, none⟩) (Kd.R_far (p := ⟨gb203, 0, none⟩) (Kd.R_types (Kd.R_types HO_4.out BK203.out (by decide)) BK202.out (by decide)) (fun _ hk => hk.1.2) (.slice Ao20 x4_1.length co20)) (fun _ hk => hk.1.2) (.slice Ao23 x5_1.length co23)) (fun _ hk => hk.1.2) (.slice Ao24 x6_1.length co24)) (fun _ hk => hk.2) (.slice Ao20 x4_1.length co20)) (fun _ hk => hk.2) (.slice Ao23 x5_1.length co23)) (fun _ hk => hk.2) (.slice Ao24 x6_1.length co24)) (fun _ hk => hk.2) (.int .i64 12)) (fun _ hk => hk.2) (.int .i64 8)) (fun _ hk => hk.1.1), by exact Kd.R_mono (Kd.R_far (p := ⟨gb202, 4, none⟩) (Kd.R_far (p := ⟨gb202, 3, none⟩) (Kd.R_far (p := ⟨gb202, 2, none⟩) (Kd.R_far (p := ⟨gb202, 1, none⟩) (Kd.R_far (p := ⟨gb202, 0, none⟩) (Kd.R_far (p := ⟨gb203, 2, none⟩) (Kd.R_far (p := ⟨gb203, 1, none⟩) (Kd.R_far (p := ⟨gb203, 0, none⟩) (Kd.R_types (Kd.R_types HO_5.out BK203.out (by decide)) BK202.out (by decide)) (fun _ hk => hk.1.2) (.slice Ao20 x4_1.length co20)) (fun _ hk => hk.1.2) (.slice Ao23 x5_1.length co23)) (fun _ hk => hk.1.2) (.slice Ao24 x6_1.length co24)) (fun _ hk => hk.2) (.slice Ao20 x4_1.length co20)) (fun _ hk => hk.2) (.slice Ao23 x5_1.length co23)) (fun _ hk => hk.2) (.slice Ao24 x6_1.length co24)) (fun _ hk => hk.2) (.int .i64 12)) (fun _ hk => hk.2) (.int .i64 8)) (fun _ hk => hk.1.1), by exact Kd.S_mono (Kd.S_far (p := ⟨gb202, 4, none⟩) (Kd.S_far (p := ⟨gb202, 3, none⟩) (Kd.S_far (p := ⟨gb202, 2, none⟩) (Kd.S_far (p := ⟨gb202, 1, none⟩) (Kd.S_far (p := ⟨gb202, 0, none⟩) (Kd.S_far (p := ⟨gb203, 2, none⟩) (Kd.S_far (p := ⟨gb203, 1, none⟩) (Kd.S_far (p := ⟨gb203, 0, none⟩) (Kd.S_types (Kd.S_types HO_6.out BK203.out (by decide)) BK202.out (by decide)) (fun _ hk => hk.1.2) (.slice Ao20 x4_1.length co20)) (fun _ hk => hk.1.2) (.slice Ao23 x5_1.length co23)) (fun _ hk => hk.1.2) (.slice Ao24 x6_1.length co24)) (fun _ hk => hk.2) (.slice Ao20 x4_1.length co20)) (fun _ hk => hk.2) (.slice Ao23 x5_1.length co23)) (fun _ hk => hk.2) (.slice Ao24 x6_1.length co24)) (fun _ hk => hk.2) (.int .i64 12)) (fun _ hk => hk.2) (.int .i64 8)) (fun _ hk => ⟨hk.1.1.1, hk.1.1.2⟩), by repeat (first | (with_reducible first | exact HB.out | apply below_alloc | apply pw_below_drewN | apply below_drew1 | refine below_set ?_ GE202.out | refine below_set ?_ GE203.out) | exact HB.out)⟩
   rw [if_pos c6] at H
   have c6b0 : decide (x7_1 < a0) = true := decide_eq_true c6; clear c6
   by_cases c7 : x4_1.length < 17592186044416
   rotate_left
   ·
    rw [if_neg c7] at H
    exact absurd H (by simp)
   rw [if_pos c7] at H
   have LMc7 := Aside0.mk c7; clear c7; obtain ⟨y204, hy204⟩ : ∃ y_ : List Int, y_ = (x4_1 ++ [10]) := ⟨_, rfl⟩
   replace H : (if x5_1.length < 17592186044416 then (emendateref34_Default.l1 k1 a0 y204 (x5_1 ++ [10]) x6_1 x7_1 ([] : List Int) 0 12 8) else (none)) = some (r1, r2, r3, r4, r5) := by first | (rw [hy204]; with_reducible exact H) | (have H2_ := (Option.bind_some _ _).symm.trans H; rw [hy204]; with_reducible exact H2_) | (have H2_ := (Option.bind_some _ _).symm.trans H; with_reducible exact H2_) | with_reducible exact H | (rw [hy204]; exact H) | exact H
   have Ny204 := Aside0.mk hy204; clear hy204
   by_cases c8 : x5_1.length < 17592186044416
   rotate_left
   ·
    rw [if_neg c8] at H
    exact absurd H (by simp)
   rw [if_pos c8] at H
   have LMc8 := Aside0.mk c8; clear c8; obtain ⟨y207, hy207⟩ : ∃ y_ : List Int, y_ = (x5_1 ++ [10]) := ⟨_, rfl⟩
   replace H : (emendateref34_Default.l1 k1 a0 y204 y207 x6_1 x7_1 ([] : List Int) 0 12 8) = some (r1, r2, r3, r4, r5) := by first | (rw [hy207]; with_reducible exact H) | (have H2_ := (Option.bind_some _ _).symm.trans H; rw [hy207]; with_reducible exact H2_) | (have H2_ := (Option.bind_some _ _).symm.trans H; with_reducible exact H2_) | with_reducible exact H | (rw [hy207]; exact H) | exact H
   have Ny207 := Aside0.mk hy207; clear hy207; have H' := Aside0.mk H; clear H
   go_wp2_with (first | ((with_reducible refine gate_builtin (b := .append) (xs := #[.tmp 16, .tmp 17]) rfl ?_); at_builtin; refine Kd.R_append (Kd.int .i64) (w0 := w) w.heap.size rfl (.tmp 16) (.tmp 17) 22 3 (.int .i64 0) 8 rfl Tryz.underlying22 info3 rfl (by decide) (by omega) u4 x4_1 10 [.int .i64 10] (fun k_ => some k_ ≠ (u5 : Value).ownBlock) (fun _ => False) rfl rfl ?aP (fun _ hk => hk.elim) ?aF ?aO ?aB ?aS ?aL ?_; (case aP => exact rfl); (case aB => exact (by repeat (first | (with_reducible first | exact HB.out | apply below_alloc | apply pw_below_drewN | apply below_drew1 | refine below_set ?_ GE202.out | refine below_set ?_ GE203.out) | exact HB.out))); (case aF => exact (fun k_ hk => Kd.fresh' (Kd.R_lt (by exact HO_5.out)) k_ hk)); (case aO => exact (by exact HO_4.out)); (case aS => exact (below_size (by repeat (first | (with_reducible first | exact HB.out | apply below_alloc | apply pw_below_drewN | apply below_drew1 | refine below_set ?_ GE202.out | refine below_set ?_ GE203.out) | exact HB.out)))); (case aL => have := LMc7.out; omega); intro v205 w9 ho hb hg hat; rw [← Ny204.out] at ho; have n0_ := Aside0.mk (Kd.R_after (ok := (fun _ => True)) (by exact Kd.R_mono HO_5.out (fun _ hk => ⟨trivial, hk⟩)) hg hat); have n1_ := Aside0.mk (Kd.S_after (ok := (fun k_ => some k_ ≠ (u5 : Value).ownBlock)) (by exact Kd.S_mono HO_6.out (fun _ hk => ⟨hk.2, hk.1⟩)) hg hat); have n2_ := Aside0.mk (blk_grown (g := gb202) (o := .cells #[.slice none 0 0, .slice none 0 0, .slice none 0 0, .int .i64 0, .int .i64 0] 25 (0, 0)) (by exact BK202.out) hg (Kd.R_ne HO_4.out BK202.out (by decide))); have n3_ := Aside0.mk (blk_grown (g := gb203) (o := .cells #[.slice none 0 0, .slice none 0 0, .slice none 0 0, .int .i64 12, .int .i64 8] 25 (0, 0)) (by exact BK203.out) hg (Kd.R_ne HO_4.out BK203.out (by decide))); have n4_ := Aside0.mk (hb); have n5_ := Aside0.mk (ho); clear HO_5; clear HO_6; clear BK202; clear BK203; clear HB; clear HO_4; have HO_5 := n0_; have HO_6 := n1_; have BK202 := n2_; have BK203 := n3_; have HB := n4_; have HO206 := n5_; clear n0_ n1_ n2_ n3_ n4_ n5_; clear ho hb hg hat) | ((with_reducible refine gate_builtin (b := .append) (xs := #[.tmp 19, .tmp 20]) rfl ?_); at_builtin; refine Kd.R_append (Kd.int .i64) (w0 := w) w.heap.size rfl (.tmp 19) (.tmp 20) 22 3 (.int .i64 0) 8 rfl Tryz.underlying22 info3 rfl (by decide) (by omega) u5 x5_1 10 [.int .i64 10] (fun k_ => some k_ ≠ (v205 : Value).ownBlock) (fun _ => False) rfl rfl ?aP (fun _ hk => hk.elim) ?aF ?aO ?aB ?aS ?aL ?_; (case aP => exact rfl); (case aB => exact (by repeat (first | (with_reducible first | exact HB.out | apply below_alloc | apply pw_below_drewN | apply below_drew1 | refine below_set ?_ GE202.out | refine below_set ?_ GE203.out) | exact HB.out))); (case aF => exact (fun k_ hk => Kd.fresh' (Kd.R_lt (by exact HO206.out)) k_ hk)); (case aO => exact (by exact Kd.R_mono HO_5.out (fun _ hk => hk.2))); (case aS => exact (below_size (by repeat (first | (with_reducible first | exact HB.out | apply below_alloc | apply pw_below_drewN | apply below_drew1 | refine below_set ?_ GE202.out | refine below_set ?_ GE203.out) | exact HB.out)))); (case aL => have := LMc8.out; omega); intro v208 w10 ho hb hg hat; rw [← Ny207.out] at ho; have n0_ := Aside0.mk (Kd.S_after (ok := (fun k_ => some k_ ≠ (v205 : Value).ownBlock)) (by exact Kd.S_mono HO_6.out (fun _ hk => ⟨hk.2, hk.1⟩)) hg hat); have n1_ := Aside0.mk (blk_grown (g := gb202) (o := .cells #[.slice none 0 0, .slice none 0 0, .slice none 0 0, .int .i64 0, .int .i64 0] 25 (0, 0)) (by exact BK202.out) hg (Kd.R_ne HO_5.out BK202.out (by decide))); have n2_ := Aside0.mk (blk_grown (g := gb203) (o := .cells #[.slice none 0 0, .slice none 0 0, .slice none 0 0, .int .i64 12, .int .i64 8] 25 (0, 0)) (by exact BK203.out) hg (Kd.R_ne HO_5.out BK203.out (by decide))); have n3_ := Aside0.mk (Kd.R_after (ok := (fun _ => True)) (by exact Kd.R_mono HO206.out (fun _ hk => ⟨trivial, hk⟩)) hg hat); have n4_ := Aside0.mk (hb); have n5_ := Aside0.mk (ho); clear HO_6; clear BK202; clear BK203; clear HO206; clear HB; clear HO_5; have HO_6 := n0_; have BK202 := n1_; have BK203 := n2_; have HO206 := n3_; have HB := n4_; have HO209 := n5_; clear n0_ n1_ n2_ n3_ n4_ n5_; clear ho hb hg hat))
   go_loopg [8, 9] k1 (fun kq v8 v9 w' => ∃ (x8_2 : List Int) (x9_2 : Int), v9 = .int .i64 x9_2 ∧ Aside0 (emendateref34_Default.l1 kq a0 y204 y207 x6_1 x7_1 x8_2 x9_2 12 8 = some (r1, r2, r3, r4, r5)) ∧ Aside0 (kq ≤ k1) ∧ Aside0 (Kd.R (Kd.int .i64) 3 w' w.heap.size (fun k_ => some k_ ≠ (v208 : Value).ownBlock ∧ some k_ ≠ (v8 : Value).ownBlock) v205 y204) ∧ Aside0 (Kd.R (Kd.int .i64) 3 w' w.heap.size (fun k_ => some k_ ≠ (v205 : Value).ownBlock ∧ some k_ ≠ (v8 : Value).ownBlock) v208 y207) ∧ Aside0 (Kd.S (Kd.slice 3 (Kd.int .i64)) 22 w' w.heap.size (fun k_ => some k_ ≠ (v205 : Value).ownBlock ∧ some k_ ≠ (v208 : Value).ownBlock ∧ some k_ ≠ (v8 : Value).ownBlock) u6 x6_1) ∧ Aside0 (Kd.R (Kd.int .i64) 3 w' w.heap.size (fun k_ => some k_ ≠ (v205 : Value).ownBlock ∧ some k_ ≠ (v208 : Value).ownBlock) v8 x8_2) ∧ Aside0 (w'.heap[gb202]? = some (.cells #[(.slice none 0 0), (.slice none 0 0), (.slice none 0 0), .int .i64 0, .int .i64 0] 25 (0, 0))) ∧ Aside0 (w'.heap[gb203]? = some (.cells #[(.slice none 0 0), (.slice none 0 0), (.slice none 0 0), .int .i64 12, .int .i64 8] 25 (0, 0))) ∧ Aside0 (Below w.heap.size w w'))
   case atStart => exact ⟨(([] : List Int)), (0), (by first | rfl | (simp; done) | (simp [*]; done)), H', ⟨Nat.le_refl _⟩, ⟨by exact Kd.R_mono HO206.out (fun _ hk => ⟨hk.2, (by simp [Value.ownBlock])⟩)⟩, ⟨by exact Kd.R_mono HO209.out (fun _ hk => ⟨hk, (by simp [Value.ownBlock])⟩)⟩, ⟨by exact Kd.S_mono HO_6.out (fun _ hk => ⟨hk.1, ⟨hk.2, (by simp [Value.ownBlock])⟩⟩)⟩, ⟨by first | exact Kd.R_nil _ _ _ _ _ | exact Kd.N_nil _ _ _ _ _ | exact Kd.V_nil _ _ _ _ _ | exact Kd.Q_nil _ _ _ _ _ | exact Kd.S_nil _ _ _ _ _⟩, ⟨by exact BK202.out⟩, ⟨by exact BK203.out⟩, ⟨by repeat (first | (with_reducible first | exact HB.out | apply below_alloc | apply pw_below_drewN | apply below_drew1 | refine below_set ?_ GE202.out | refine below_set ?_ GE203.out) | exact HB.out)⟩⟩
   case round =>
    clear H'
    try clear c1
    try clear p2
    try clear c4
    try clear c6
    try clear c6b0
    try clear c7
    try clear c8
    try clear hcz5_0
    try clear hcz5_1
    try clear hcz5_2
    try clear hcz5_3
    try clear hcz5_4
    try clear hfz5_0
    try clear hfz5_1
    try clear hfz5_2
    try clear hfz5_3
    try clear hfz5_4
    try clear p2
    obtain ⟨x8_2, x9_2, rfl, HA, HK2, HO_4, HO_5, HO_6, HO_8, BK202, BK203, HB⟩ := hrel
    cases gk with
    | zero => exact absurd HA.out (by simp [emendateref34_Default.l1])
    | succ k2 =>
     have H := HA.out; clear HA
     simp only [emendateref34_Default.l1] at H
     by_cases c11 : x9_2 < a0
     rotate_left
     ·
      rw [if_neg c11] at H
      have c11b0 : decide (x9_2 < a0) = false := decide_eq_false c11; clear c11
      by_cases c17 : x6_1.length < 5864062014805
      rotate_left
      ·
       rw [if_neg c17] at H
       exact absurd H (by simp)
      rw [if_pos c17] at H
      have LMc17 := Aside0.mk c17; clear c17; obtain ⟨y216, hy216⟩ : ∃ y_ : List (List Int), y_ = (x6_1 ++ [x8_2]) := ⟨_, rfl⟩
      replace H : (emendateref34_Default.l0 k2 a0 y204 y207 y216 (wrap64 (x7_1 + 1)) 12 8) = some (r1, r2, r3, r4, r5) := by first | (rw [hy216]; with_reducible exact H) | (have H2_ := (Option.bind_some _ _).symm.trans H; rw [hy216]; with_reducible exact H2_) | (have H2_ := (Option.bind_some _ _).symm.trans H; with_reducible exact H2_) | with_reducible exact H | (rw [hy216]; exact H) | exact H
      have Ny216 := Aside0.mk hy216; clear hy216; have H' := Aside0.mk H; clear H; obtain ⟨Ao19, co19, eo19⟩ := Kd.R_slice HO_8.out; subst eo19
      go_wp2_with (first | ((with_reducible refine gate_builtin (b := .append) (xs := #[.tmp 36, .tmp 38]) rfl ?_); at_builtin; refine Kd.S_append (Kd.slice 3 (Kd.int .i64)) (w0 := w) w.heap.size rfl (.tmp 36) (.tmp 38) 23 22 (.slice none 0 0) 24 rfl Tryz.underlying23 info22 rfl (by decide) (by omega) u6 x6_1 x8_2 [.slice Ao19 x8_2.length co19] (fun k_ => some k_ ≠ (v205 : Value).ownBlock ∧ some k_ ≠ (v208 : Value).ownBlock) (fun k_ => some k_ = (.slice Ao19 x8_2.length co19 : Value).ownBlock) rfl rfl ?aP (fun k_ hk_ => ((Kd.R_mono (ok' := fun k_ => ((fun k_ => some k_ ≠ (v205 : Value).ownBlock ∧ some k_ ≠ (v208 : Value).ownBlock)) k_ ∧ some k_ ≠ (u6 : Value).ownBlock) (Kd.R_apart' (HO_8.out) (Kd.S_typed HO_6.out) (by decide)) (fun k_ hk => ⟨⟨hk.1.1, hk.1.2⟩, hk.2⟩))).1 k_ hk_.symm) ?aF ?aO ?aB ?aS ?aL ?_; (case aP => exact Kd.M_row (Kd.R_mono (Kd.R_tight rfl (Kd.R_mono (ok' := fun k_ => ((fun k_ => some k_ ≠ (v205 : Value).ownBlock ∧ some k_ ≠ (v208 : Value).ownBlock)) k_ ∧ some k_ ≠ (u6 : Value).ownBlock) (Kd.R_apart' (HO_8.out) (Kd.S_typed HO_6.out) (by decide)) (fun k_ hk => ⟨⟨hk.1.1, hk.1.2⟩, hk.2⟩))) (fun _ h_ => h_))); (case aB => exact (by repeat (first | (with_reducible first | exact HB.out | apply below_alloc | apply pw_below_drewN | apply below_drew1 | refine below_set ?_ GE202.out | refine below_set ?_ GE203.out) | exact HB.out))); (case aF => exact (fun k_ hk => ⟨Kd.fresh' (Kd.R_lt (by exact HO_4.out)) k_ hk, Kd.fresh' (Kd.R_lt (by exact HO_5.out)) k_ hk⟩)); (case aO => exact (by exact Kd.S_mono HO_6.out (fun k_ hk => ⟨⟨hk.1, hk.2.1⟩, fun e_ => hk.2.2 e_⟩))); (case aS => exact (below_size (by repeat (first | (with_reducible first | exact HB.out | apply below_alloc | apply pw_below_drewN | apply below_drew1 | refine below_set ?_ GE202.out | refine below_set ?_ GE203.out) | exact HB.out)))); (case aL => have := LMc17.out; omega); intro v217 w18 ho hb hg hat; rw [← Ny216.out] at ho; have n0_ := Aside0.mk (Kd.R_over' (by exact HO_4.out) (Kd.S_typed (by exact HO_6.out)) (by decide) hg); have n1_ := Aside0.mk (Kd.R_over' (by exact HO_5.out) (Kd.S_typed (by exact HO_6.out)) (by decide) hg); have n2_ := Aside0.mk (blk_grown (g := gb202) (o := .cells #[.slice none 0 0, .slice none 0 0, .slice none 0 0, .int .i64 0, .int .i64 0] 25 (0, 0)) (by exact BK202.out) hg (Kd.S_ne HO_6.out BK202.out (by decide))); have n3_ := Aside0.mk (blk_grown (g := gb203) (o := .cells #[.slice none 0 0, .slice none 0 0, .slice none 0 0, .int .i64 12, .int .i64 8] 25 (0, 0)) (by exact BK203.out) hg (Kd.S_ne HO_6.out BK203.out (by decide))); have n4_ := Aside0.mk (hb); have n5_ := Aside0.mk (ho); clear HO_4; clear HO_5; clear BK202; clear BK203; clear HB; clear HO_6; clear HO_8; have HO_4 := n0_; have HO_5 := n1_; have BK202 := n2_; have BK203 := n3_; have HB := n4_; have HO218 := n5_; clear n0_ n1_ n2_ n3_ n4_ n5_; clear ho hb hg hat))
      go_roundg k2
      case measure => have := HK1.out; have := HK2.out; omega
      case rel => exact ⟨(y204), (y207), (y216), (wrap64 (x7_1 + 1)), (by first | rfl | (simp; done) | (simp [*]; done)), H', ⟨by have := HK1.out; have := HK2.out; omega⟩, ⟨by exact Kd.R_mono HO_4.out (fun _ hk => hk.1)⟩, ⟨by exact Kd.R_mono HO_5.out (fun _ hk => hk.1)⟩, ⟨by exact HO218.out⟩, ⟨by exact BK202.out⟩, ⟨by exact BK203.out⟩, ⟨by repeat (first | (with_reducible first | exact HB.out | apply below_alloc | apply pw_below_drewN | apply below_drew1 | refine below_set ?_ GE202.out | refine below_set ?_ GE203.out) | exact HB.out)⟩⟩
     rw [if_pos c11] at H
     have c11b0 : decide (x9_2 < a0) = true := decide_eq_true c11; clear c11
     by_cases c12 : x7_1 = x9_2
     rotate_left
     ·
      rw [if_neg c12] at H
      have c12b0 : (x7_1 == x9_2) = false := beq_eq_false_iff_ne.mpr c12; have c12b1 : (x7_1 != x9_2) = true := bne_iff_ne.mpr c12
      by_cases c15 : x8_2.length < 17592186044416
      rotate_left
      ·
       rw [if_neg c15] at H
       exact absurd H (by simp)
      rw [if_pos c15] at H
      have LMc15 := Aside0.mk c15; clear c15; obtain ⟨y213, hy213⟩ : ∃ y_ : List Int, y_ = (x8_2 ++ [15]) := ⟨_, rfl⟩
      replace H : (emendateref34_Default.l1 k2 a0 y204 y207 x6_1 x7_1 y213 (wrap64 (x9_2 + 1)) 12 8) = some (r1, r2, r3, r4, r5) := by first | (rw [hy213]; with_reducible exact H) | (have H2_ := (Option.bind_some _ _).symm.trans H; rw [hy213]; with_reducible exact H2_) | (have H2_ := (Option.bind_some _ _).symm.trans H; with_reducible exact H2_) | with_reducible exact H | (rw [hy213]; exact H) | exact H
      have Ny213 := Aside0.mk hy213; clear hy213; have H' := Aside0.mk H; clear H
      go_wp2_with (first | ((with_reducible refine gate_builtin (b := .append) (xs := #[.tmp 33, .tmp 34]) rfl ?_); at_builtin; refine Kd.R_append (Kd.int .i64) (w0 := w) w.heap.size rfl (.tmp 33) (.tmp 34) 22 3 (.int .i64 0) 8 rfl Tryz.underlying22 info3 rfl (by decide) (by omega) u8 x8_2 15 [.int .i64 15] (fun k_ => some k_ ≠ (v205 : Value).ownBlock ∧ some k_ ≠ (v208 : Value).ownBlock) (fun _ => False) rfl rfl ?aP (fun _ hk => hk.elim) ?aF ?aO ?aB ?aS ?aL ?_; (case aP => exact rfl); (case aB => exact (by repeat (first | (with_reducible first | exact HB.out | apply below_alloc | apply pw_below_drewN | apply below_drew1 | refine below_set ?_ GE202.out | refine below_set ?_ GE203.out) | exact HB.out))); (case aF => exact (fun k_ hk => ⟨Kd.fresh' (Kd.R_lt (by exact HO_4.out)) k_ hk, Kd.fresh' (Kd.R_lt (by exact HO_5.out)) k_ hk⟩)); (case aO => exact (by exact HO_8.out)); (case aS => exact (below_size (by repeat (first | (with_reducible first | exact HB.out | apply below_alloc | apply pw_below_drewN | apply below_drew1 | refine below_set ?_ GE202.out | refine below_set ?_ GE203.out) | exact HB.out)))); (case aL => have := LMc15.out; omega); intro v214 w16 ho hb hg hat; rw [← Ny213.out] at ho; have n0_ := Aside0.mk (Kd.R_after (ok := (fun k_ => some k_ ≠ (v208 : Value).ownBlock)) (by exact HO_4.out) hg hat); have n1_ := Aside0.mk (Kd.R_after (ok := (fun k_ => some k_ ≠ (v205 : Value).ownBlock)) (by exact HO_5.out) hg hat); have n2_ := Aside0.mk (Kd.S_after (ok := (fun k_ => some k_ ≠ (v205 : Value).ownBlock ∧ some k_ ≠ (v208 : Value).ownBlock)) (by exact Kd.S_mono HO_6.out (fun _ hk => ⟨⟨hk.1, hk.2.1⟩, hk.2.2⟩)) hg hat); have n3_ := Aside0.mk (blk_grown (g := gb202) (o := .cells #[.slice none 0 0, .slice none 0 0, .slice none 0 0, .int .i64 0, .int .i64 0] 25 (0, 0)) (by exact BK202.out) hg (Kd.R_ne HO_8.out BK202.out (by decide))); have n4_ := Aside0.mk (blk_grown (g := gb203) (o := .cells #[.slice none 0 0, .slice none 0 0, .slice none 0 0, .int .i64 12, .int .i64 8] 25 (0, 0)) (by exact BK203.out) hg (Kd.R_ne HO_8.out BK203.out (by decide))); have n5_ := Aside0.mk (hb); have n6_ := Aside0.mk (ho); clear HO_4; clear HO_5; clear HO_6; clear BK202; clear BK203; clear HB; clear HO_8; have HO_4 := n0_; have HO_5 := n1_; have HO_6 := n2_; have BK202 := n3_; have BK203 := n4_; have HB := n5_; have HO215 := n6_; clear n0_ n1_ n2_ n3_ n4_ n5_ n6_; clear ho hb hg hat))
      go_roundg k2
      case measure => have := HK1.out; have := HK2.out; omega
      case rel => exact ⟨(y213), (wrap64 (x9_2 + 1)), (by first | rfl | (simp; done) | (simp [*]; done)), H', ⟨by have := HK1.out; have := HK2.out; omega⟩, ⟨by exact HO_4.out⟩, ⟨by exact HO_5.out⟩, ⟨by exact Kd.S_mono HO_6.out (fun _ hk => ⟨hk.1.1, ⟨hk.1.2, hk.2⟩⟩)⟩, ⟨by exact HO215.out⟩, ⟨by exact BK202.out⟩, ⟨by exact BK203.out⟩, ⟨by repeat (first | (with_reducible first | exact HB.out | apply below_alloc | apply pw_below_drewN | apply below_drew1 | refine below_set ?_ GE202.out | refine below_set ?_ GE203.out) | exact HB.out)⟩⟩
     rw [if_pos c12] at H
     have c12b0 : (x7_1 == x9_2) = true := beq_iff_eq.mpr c12; have c12b1 : (x7_1 != x9_2) = false := bne_eq_false_iff_eq.mpr c12; clear c12
     by_cases c13 : x8_2.length < 17592186044416
     rotate_left
     ·
      rw [if_neg c13] at H
      exact absurd H (by simp)
     rw [if_pos c13] at H
     have LMc13 := Aside0.mk c13; clear c13; obtain ⟨y210, hy210⟩ : ∃ y_ : List Int, y_ = (x8_2 ++ [0]) := ⟨_, rfl⟩
     replace H : (emendateref34_Default.l1 k2 a0 y204 y207 x6_1 x7_1 y210 (wrap64 (x9_2 + 1)) 12 8) = some (r1, r2, r3, r4, r5) := by first | (rw [hy210]; with_reducible exact H) | (have H2_ := (Option.bind_some _ _).symm.trans H; rw [hy210]; with_reducible exact H2_) | (have H2_ := (Option.bind_some _ _).symm.trans H; with_reducible exact H2_) | with_reducible exact H | (rw [hy210]; exact H) | exact H
     have Ny210 := Aside0.mk hy210; clear hy210; have H' := Aside0.mk H; clear H
     go_wp2_with (first | ((with_reducible refine gate_builtin (b := .append) (xs := #[.tmp 30, .tmp 31]) rfl ?_); at_builtin; refine Kd.R_append (Kd.int .i64) (w0 := w) w.heap.size rfl (.tmp 30) (.tmp 31) 22 3 (.int .i64 0) 8 rfl Tryz.underlying22 info3 rfl (by decide) (by omega) u8 x8_2 0 [.int .i64 0] (fun k_ => some k_ ≠ (v205 : Value).ownBlock ∧ some k_ ≠ (v208 : Value).ownBlock) (fun _ => False) rfl rfl ?aP (fun _ hk => hk.elim) ?aF ?aO ?aB ?aS ?aL ?_; (case aP => exact rfl); (case aB => exact (by repeat (first | (with_reducible first | exact HB.out | apply below_alloc | apply pw_below_drewN | apply below_drew1 | refine below_set ?_ GE202.out | refine below_set ?_ GE203.out) | exact HB.out))); (case aF => exact (fun k_ hk => ⟨Kd.fresh' (Kd.R_lt (by exact HO_4.out)) k_ hk, Kd.fresh' (Kd.R_lt (by exact HO_5.out)) k_ hk⟩)); (case aO => exact (by exact HO_8.out)); (case aS => exact (below_size (by repeat (first | (with_reducible first | exact HB.out | apply below_alloc | apply pw_below_drewN | apply below_drew1 | refine below_set ?_ GE202.out | refine below_set ?_ GE203.out) | exact HB.out)))); (case aL => have := LMc13.out; omega); intro v211 w14 ho hb hg hat; rw [← Ny210.out] at ho; have n0_ := Aside0.mk (Kd.R_after (ok := (fun k_ => some k_ ≠ (v208 : Value).ownBlock)) (by exact HO_4.out) hg hat); have n1_ := Aside0.mk (Kd.R_after (ok := (fun k_ => some k_ ≠ (v205 : Value).ownBlock)) (by exact HO_5.out) hg hat); have n2_ := Aside0.mk (Kd.S_after (ok := (fun k_ => some k_ ≠ (v205 : Value).ownBlock ∧ some k_ ≠ (v208 : Value).ownBlock)) (by exact Kd.S_mono HO_6.out (fun _ hk => ⟨⟨hk.1, hk.2.1⟩, hk.2.2⟩)) hg hat); have n3_ := Aside0.mk (blk_grown (g := gb202) (o := .cells #[.slice none 0 0, .slice none 0 0, .slice none 0 0, .int .i64 0, .int .i64 0] 25 (0, 0)) (by exact BK202.out) hg (Kd.R_ne HO_8.out BK202.out (by decide))); have n4_ := Aside0.mk (blk_grown (g := gb203) (o := .cells #[.slice none 0 0, .slice none 0 0, .slice none 0 0, .int .i64 12, .int .i64 8] 25 (0, 0)) (by exact BK203.out) hg (Kd.R_ne HO_8.out BK203.out (by decide))); have n5_ := Aside0.mk (hb); have n6_ := Aside0.mk (ho); clear HO_4; clear HO_5; clear HO_6; clear BK202; clear BK203; clear HB; clear HO_8; have HO_4 := n0_; have HO_5 := n1_; have HO_6 := n2_; have BK202 := n3_; have BK203 := n4_; have HB := n5_; have HO212 := n6_; clear n0_ n1_ n2_ n3_ n4_ n5_ n6_; clear ho hb hg hat))
     go_roundg k2
     case measure => have := HK1.out; have := HK2.out; omega
     case rel => exact ⟨(y210), (wrap64 (x9_2 + 1)), (by first | rfl | (simp; done) | (simp [*]; done)), H', ⟨by have := HK1.out; have := HK2.out; omega⟩, ⟨by exact HO_4.out⟩, ⟨by exact HO_5.out⟩, ⟨by exact Kd.S_mono HO_6.out (fun _ hk => ⟨hk.1.1, ⟨hk.1.2, hk.2⟩⟩)⟩, ⟨by exact HO212.out⟩, ⟨by exact BK202.out⟩, ⟨by exact BK203.out⟩, ⟨by repeat (first | (with_reducible first | exact HB.out | apply below_alloc | apply pw_below_drewN | apply below_drew1 | refine below_set ?_ GE202.out | refine below_set ?_ GE203.out) | exact HB.out)⟩⟩
end Go.Proofs.YtdcfcpgpbbgceaaGreatDoor.PAll
-- dedented
