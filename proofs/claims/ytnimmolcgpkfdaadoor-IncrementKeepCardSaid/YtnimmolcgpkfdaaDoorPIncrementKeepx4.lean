-- printed by a variant of the print (wip/mkprint.py)
import Derived.Test.YtnimmolcgpkfdaaDoorPIncrementKeepx0
import Derived.Test.YtnimmolcgpkfdaaDoorPIncrementKeepx2
import Derived.Test.YtnimmolcgpkfdaaDoorPIncrementKeepx3
namespace Go.Proofs.YtnimmolcgpkfdaaDoor.PIncrementKeep
open Go.RowKit Go.Proofs.YtnimmolcgpkfdaaDoorW.PrintWords Go.Proofs.YtnimmolcgpkfdaaDoorW.PrintLast Go.Proofs.YtnimmolcgpkfdaaDoorW.PrintMore
attribute [local go_sem] max2_int min2_int max_two min_two max_three min_three max_four min_four   -- for this text's walks alone
set_option linter.unusedVariables false
set_option linter.unusedSimpArgs false

/-! ### emendatelaw43_awake: function 4 -/
theorem kq1 : increment_Keep.f 1 2 0 2 1 1 1 7 = some (2,0,2,true) := by decide +kernel
theorem kq2 : increment_Keep.f 1 1 4 6 1 1 1 7 = some (1,4,6,true) := by decide +kernel
theorem kq3 : increment_Keep.f 1 0 2 4 1 1 1 7 = some (0,0,0,false) := by decide +kernel
theorem kq4 : increment_Keep.f 1 0 0 1 1 1 1 7 = some (0,0,0,false) := by decide +kernel
theorem kq5 : increment_Keep.f 1 0 4 6 1 0 2 7 = some (0,8,10,true) := by decide +kernel
theorem uq1 : increment_Update.f 3 1 1 0 [] 0 0 [] [] [1] 0 0 0 0 = some (0,0,[],0,13) := by 
  simp [increment_Update.f, increment_Update.j0, wrap64]
  simp [increment_Update.j1]
theorem emendatelaw43_awake.bcell {W w1 : World} (hb : Below W.heap.size W w1) : (∀ b o, b < W.heap.size → w1.cell? ⟨b, o, none⟩ = W.cell? ⟨b, o, none⟩) ∧ (∀ b o, b < W.heap.size → w1.frozen? ⟨b, o, none⟩ = W.frozen? ⟨b, o, none⟩) :=
  ⟨fun b o h => hb.cell (p := ⟨b, o, none⟩) h, fun b o h => hb.frozen (p := ⟨b, o, none⟩) h⟩
theorem kc (h f t cf co cn st a b c : Int) (d : Bool) (w : World) (hk : increment_Keep.f 1 h f t cf co cn st = some (a,b,c,d)) :
  Calls Tryd.prog 5 #[.agg #[.int .i64 h, .int .i64 f, .int .i64 t], .agg #[.int .i64 cf, .int .i64 co, .int .i64 cn], .int .i64 st] w fun e w' => e = .returned (.tuple #[.agg #[.int .i64 a, .int .i64 b, .int .i64 c], .bool d]) ∧ Below w.heap.size w w' :=
  increment_Keep.calls 1 _ _ _ _ _ _ _ _ _ _ _ w hk
theorem C_one (w : World) (t : TypeId) (x : Int) : (Kd.int .i64).C (w.alloc (.cells #[.int .i64 x] t)) (some ⟨w.heap.size, 0, none⟩) 1 [x] := by
  refine ⟨rfl, by decide, fun _ => ⟨_, rfl, fun j p hj => ⟨[.int .i64 p], rfl, rfl, fun i u hu => ?_⟩⟩⟩
  obtain rfl : j = 0 := by
    rcases j with _ | j
    · rfl
    · simp at hj
  obtain rfl : i = 0 := by
    rcases i with _ | i
    · rfl
    · simp at hu
  simp at hj hu
  subst hj hu
  exact (blk_cell (blk_new w _) 0).trans rfl
theorem blkA (w : World) (t : TypeId) (cs : Array Value) : (w.alloc (.cells cs t)).heap[w.heap.size]? = some (.cells cs t (0,0)) := heap_alloc_new w _
set_option maxHeartbeats 1000000 in
theorem emendatelaw43_awake.calls0 (w : World) : Calls Tryd.prog 4 #[] w fun e w' => e = .returned (.bool true) ∧ Below w.heap.size w w' := by
  go_enter Tryd.func4, Tryd.ntmps4
  go_wp2_with fail
  refine (kc _ _ _ _ _ _ _ _ _ _ _ _ kq1).mono ?_
  rintro e w1 ⟨rfl, hb1⟩
  have K1_1 := blk_below (blkA w 25 #[.int .i64 1, .int .i64 1, .int .i64 1]) hb1
  have x10 : w1.cell? ⟨w.heap.size, 0, none⟩ = some (.int .i64 1) := (blk_cell K1_1 0).trans rfl
  have x11 : w1.cell? ⟨w.heap.size, 1, none⟩ = some (.int .i64 1) := (blk_cell K1_1 1).trans rfl
  have x12 : w1.cell? ⟨w.heap.size, 2, none⟩ = some (.int .i64 1) := (blk_cell K1_1 2).trans rfl
  have l1 : w.heap.size < w1.heap.size := blk_lt K1_1
  have := Aside0.mk K1_1; clear K1_1; have K1_1 := this; clear this
  go_wp2_with fail
  clear x10 x11 x12 l1
  refine (kc _ _ _ _ _ _ _ _ _ _ _ _ kq2).mono ?_
  rintro e w2 ⟨rfl, hb2⟩
  have K1_2 := blk_below (blk_alloc K1_1.out _) hb2
  have K2_2 := blk_below (blkA w1 23 #[.int .i64 2, .int .i64 0, .int .i64 2]) hb2
  have x20 : w2.cell? ⟨w.heap.size, 0, none⟩ = some (.int .i64 1) := (blk_cell K1_2 0).trans rfl
  have x21 : w2.cell? ⟨w.heap.size, 1, none⟩ = some (.int .i64 1) := (blk_cell K1_2 1).trans rfl
  have x22 : w2.cell? ⟨w.heap.size, 2, none⟩ = some (.int .i64 1) := (blk_cell K1_2 2).trans rfl
  have l2 : w.heap.size < w2.heap.size := blk_lt K1_2
  have := Aside0.mk K1_2; clear K1_2; have K1_2 := this; clear this
  have := Aside0.mk K2_2; clear K2_2; have K2_2 := this; clear this
  go_wp2_with fail
  clear x20 x21 x22 l2
  refine (kc _ _ _ _ _ _ _ _ _ _ _ _ kq3).mono ?_
  rintro e w3 ⟨rfl, hb3⟩
  have K1_3 := blk_below (blk_alloc K1_2.out _) hb3
  have K2_3 := blk_below (blk_alloc K2_2.out _) hb3
  have K3_3 := blk_below (blkA w2 23 #[.int .i64 1, .int .i64 4, .int .i64 6]) hb3
  have x30 : w3.cell? ⟨w.heap.size, 0, none⟩ = some (.int .i64 1) := (blk_cell K1_3 0).trans rfl
  have x31 : w3.cell? ⟨w.heap.size, 1, none⟩ = some (.int .i64 1) := (blk_cell K1_3 1).trans rfl
  have x32 : w3.cell? ⟨w.heap.size, 2, none⟩ = some (.int .i64 1) := (blk_cell K1_3 2).trans rfl
  have l3 : w.heap.size < w3.heap.size := blk_lt K1_3
  have := Aside0.mk K1_3; clear K1_3; have K1_3 := this; clear this
  have := Aside0.mk K2_3; clear K2_3; have K2_3 := this; clear this
  have := Aside0.mk K3_3; clear K3_3; have K3_3 := this; clear this
  go_wp2_with fail
  clear x30 x31 x32 l3
  refine (kc _ _ _ _ _ _ _ _ _ _ _ _ kq4).mono ?_
  rintro e w4 ⟨rfl, hb4⟩
  have K1_4 := blk_below (blk_alloc K1_3.out _) hb4
  have K2_4 := blk_below (blk_alloc K2_3.out _) hb4
  have K3_4 := blk_below (blk_alloc K3_3.out _) hb4
  have K4_4 := blk_below (blkA w3 23 #[.int .i64 0, .int .i64 0, .int .i64 0]) hb4
  have x40 : w4.cell? ⟨w.heap.size, 0, none⟩ = some (.int .i64 1) := (blk_cell K1_4 0).trans rfl
  have x41 : w4.cell? ⟨w.heap.size, 1, none⟩ = some (.int .i64 1) := (blk_cell K1_4 1).trans rfl
  have x42 : w4.cell? ⟨w.heap.size, 2, none⟩ = some (.int .i64 1) := (blk_cell K1_4 2).trans rfl
  have l4 : w.heap.size < w4.heap.size := blk_lt K1_4
  have := Aside0.mk K1_4; clear K1_4; have K1_4 := this; clear this
  have := Aside0.mk K2_4; clear K2_4; have K2_4 := this; clear this
  have := Aside0.mk K3_4; clear K3_4; have K3_4 := this; clear this
  have := Aside0.mk K4_4; clear K4_4; have K4_4 := this; clear this
  go_wp2_with fail
  clear x40 x41 x42 l4
  refine (kc _ _ _ _ _ _ _ _ _ _ _ _ kq5).mono ?_
  rintro e w5 ⟨rfl, hb5⟩
  have K1_5 := blk_below (blk_alloc K1_4.out _) hb5
  have K2_5 := blk_below (blk_alloc K2_4.out _) hb5
  have K3_5 := blk_below (blk_alloc K3_4.out _) hb5
  have K4_5 := blk_below (blk_alloc K4_4.out _) hb5
  have K5_5 := blk_below (blkA w4 23 #[.int .i64 0, .int .i64 0, .int .i64 0]) hb5
  have x50 : w5.cell? ⟨w.heap.size, 0, none⟩ = some (.int .i64 1) := (blk_cell K1_5 0).trans rfl
  have x51 : w5.cell? ⟨w.heap.size, 1, none⟩ = some (.int .i64 1) := (blk_cell K1_5 1).trans rfl
  have x52 : w5.cell? ⟨w.heap.size, 2, none⟩ = some (.int .i64 1) := (blk_cell K1_5 2).trans rfl
  have l5 : w.heap.size < w5.heap.size := blk_lt K1_5
  have := Aside0.mk K1_5; clear K1_5; have K1_5 := this; clear this
  have := Aside0.mk K2_5; clear K2_5; have K2_5 := this; clear this
  have := Aside0.mk K3_5; clear K3_5; have K3_5 := this; clear this
  have := Aside0.mk K4_5; clear K4_5; have K4_5 := this; clear this
  have := Aside0.mk K5_5; clear K5_5; have K5_5 := this; clear this
  go_wp2_with fail
  clear x50 x51 x52 l5
  refine (increment_Update.calls 3 _ _ _ none _ [] _ _ none _ [] none _ [] _ _ [1] _ _ _ _ _ _ _ _ _ _ (Kd.C_nil _ _) (Nat.le_refl _) (Kd.C_nil _ _) (Nat.le_refl _) (Kd.C_nil _ _) (Nat.le_refl _) ?h1 (Nat.le_refl _) uq1).mono ?_
  case h1 =>
    have hx := C_one (w5.alloc (.cells #[.int .i64 0, .int .i64 8, .int .i64 10] 23)) 3 1
    rw [World.size_alloc] at hx
    exact hx
  rintro e w6 ⟨v2, rfl, hR, hb6⟩
  obtain ⟨A2, c2, rfl, _⟩ := OwnRow.reads hR.2
  have K2_6 := blk_below (blk_alloc (blk_alloc K2_5.out _) _) hb6
  have K3_6 := blk_below (blk_alloc (blk_alloc K3_5.out _) _) hb6
  have K4_6 := blk_below (blk_alloc (blk_alloc K4_5.out _) _) hb6
  have K5_6 := blk_below (blk_alloc (blk_alloc K5_5.out _) _) hb6
  have K6_6 := blk_below (blk_alloc (blkA w5 23 #[.int .i64 0, .int .i64 8, .int .i64 10]) _) hb6
  have x20 : w6.cell? ⟨w1.heap.size, 0, none⟩ = some (.int .i64 2) := (blk_cell K2_6 0).trans rfl
  have x21 : w6.cell? ⟨w1.heap.size, 1, none⟩ = some (.int .i64 0) := (blk_cell K2_6 1).trans rfl
  have x22 : w6.cell? ⟨w1.heap.size, 2, none⟩ = some (.int .i64 2) := (blk_cell K2_6 2).trans rfl
  have l2 : w1.heap.size < w6.heap.size := blk_lt K2_6
  clear K2_6
  have x30 : w6.cell? ⟨w2.heap.size, 0, none⟩ = some (.int .i64 1) := (blk_cell K3_6 0).trans rfl
  have x31 : w6.cell? ⟨w2.heap.size, 1, none⟩ = some (.int .i64 4) := (blk_cell K3_6 1).trans rfl
  have x32 : w6.cell? ⟨w2.heap.size, 2, none⟩ = some (.int .i64 6) := (blk_cell K3_6 2).trans rfl
  have l3 : w2.heap.size < w6.heap.size := blk_lt K3_6
  clear K3_6
  clear K4_6
  clear K5_6
  have x60 : w6.cell? ⟨w5.heap.size, 0, none⟩ = some (.int .i64 0) := (blk_cell K6_6 0).trans rfl
  have x61 : w6.cell? ⟨w5.heap.size, 1, none⟩ = some (.int .i64 8) := (blk_cell K6_6 1).trans rfl
  have x62 : w6.cell? ⟨w5.heap.size, 2, none⟩ = some (.int .i64 10) := (blk_cell K6_6 2).trans rfl
  have l6 : w5.heap.size < w6.heap.size := blk_lt K6_6
  clear K6_6
  go_wp2_with fail
  go_ret
  have B1 := below_step (below_alloc (Below.refl _ w) _) hb1
  have B2 := below_step (below_alloc B1 _) hb2
  have B3 := below_step (below_alloc B2 _) hb3
  have B4 := below_step (below_alloc B3 _) hb4
  have B5 := below_step (below_alloc B4 _) hb5
  have B6 := below_step (below_alloc (below_alloc B5 _) _) hb6
  exact ⟨rfl, below_alloc B6 _⟩
def emendatelaw43_awake.f : Option Bool := some true
theorem emendatelaw43_awake.calls (r : Bool) (w : World) (h : emendatelaw43_awake.f = some r) : Calls Tryd.prog 4 #[] w fun e w' => e = .returned (.bool r) ∧ Below w.heap.size w w' := by
  obtain rfl := Option.some.inj h
  exact emendatelaw43_awake.calls0 w

end Go.Proofs.YtnimmolcgpkfdaaDoor.PIncrementKeep
