-- printed by a variant of the print (wip/mkprint.py)
import Derived.Test.YtdcfcpgpbbgceaaGreatDoorPAllx0
import Derived.Test.YtdcfcpgpbbgceaaGreatDoorPAllx4
namespace Go.Proofs.YtdcfcpgpbbgceaaGreatDoor.PAll
open Go.RowKit Go.Proofs.YtdcfcpgpbbgceaaGreatDoorW.PrintWords Go.Proofs.YtdcfcpgpbbgceaaGreatDoorW.PrintLast Go.Proofs.YtdcfcpgpbbgceaaGreatDoorW.PrintMore
attribute [local go_sem] max2_int min2_int max_two min_two max_three min_three max_four min_four   -- for this text's walks alone
set_option linter.unusedVariables false
set_option linter.unusedSimpArgs false
mutual
def grammarfile_Valid.j0 : Nat → Bool → ByteArray → List (S105) → List (S76) → Option (Bool)
 | 0, _, _, _, _ => none
 | k + 1, x18, x156000, x156001, x156002 => if x18 = true then (some false) else (grammarfile_Valid.l0 k ([] : List ByteArray) x156002 (x156002.length : Int) 0 x156000 x156001 x156002)
def grammarfile_Valid.l0 : Nat → List ByteArray → List (S76) → Int → Int → ByteArray → List (S105) → List (S76) → Option (Bool)
 | 0, _, _, _, _, _, _, _ => none
 | k + 1, x3, x20, x21, x22, x156000, x156001, x156002 => if x22 < x21 then (if 0 ≤ x22 then (if x22 < (x20.length : Int) then ((grammarfile_rule.f ((rd_T76 x20 x22).f0) ((rd_T76 x20 x22).f1)).bind fun t158 => (if t158 = true then (if x3.length < 8796093022208 then (grammarfile_Valid.l0 k (x3 ++ [(rd_T76 x20 x22).f0]) x20 x21 (wrap64 (x22 + 1)) x156000 x156001 x156002) else (none)) else (some false))) else (none)) else (none)) else (grammarfile_Valid.l1 k x3 ([] : List ByteArray) x156001 (x156001.length : Int) 0 x156000 x156001 x156002)
def grammarfile_Valid.l1 : Nat → List ByteArray → List ByteArray → List (S105) → Int → Int → ByteArray → List (S105) → List (S76) → Option (Bool)
 | 0, _, _, _, _, _, _, _, _ => none
 | k + 1, x3, x4, x36, x37, x38, x156000, x156001, x156002 => if x38 < x37 then (if 0 ≤ x38 then (if x38 < (x36.length : Int) then (if ((rd_T105 x36 x38).f0) < 1 then (some false) else (if ((rd_T105 x36 x38).f0) > 3 then (some false) else (if (((rd_T105 x36 x38).f1).length : Int) = 0 then (some false) else (if x4.length + ((rd_T105 x36 x38).f1).length < 8796093022208 then (grammarfile_Valid.l1 k x3 (x4 ++ ((rd_T105 x36 x38).f1)) x36 x37 (wrap64 (x38 + 1)) x156000 x156001 x156002) else (none))))) else (none)) else (none)) else ((grammarfile_distinct.f k x3).bind fun t167 => (if t167 = true then ((grammarfile_distinct.f k x4).bind fun t168 => (if t168 = true then ((slices_Contains_string_string.f k x3 x156000).bind fun t169 => (some t169)) else (some false))) else (some false)))
end
def grammarfile_Valid.f (k : Nat) (a0_0 : ByteArray) (l0_1 : List (S105)) (l0_2 : List (S76)) : Option (Bool) := if (l0_2.length : Int) < 1 then (grammarfile_Valid.j0 k true a0_0 l0_1 l0_2) else (grammarfile_Valid.j0 k (decide ((l0_2.length : Int) > 120)) a0_0 l0_1 l0_2)
set_option maxHeartbeats 8000000 in
set_option maxRecDepth 100000 in
theorem grammarfile_Valid.calls (k : Nat) (a0_0 : ByteArray) (A0_1 : Option Addr) (c0_1 : Nat) (l0_1 : List (S105)) (A0_2 : Option Addr) (c0_2 : Nat) (l0_2 : List (S76)) (r : Bool) (w : World) (hr0_1 : Kd.C k105 w A0_1 l0_1.length l0_1) (hc0_1 : l0_1.length ≤ c0_1) (hr0_2 : Kd.C k76 w A0_2 l0_2.length l0_2) (hc0_2 : l0_2.length ≤ c0_2) (h : grammarfile_Valid.f k a0_0 l0_1 l0_2 = some r) :
  Calls Tryz.prog 40 #[.agg #[.string a0_0, .slice A0_1 l0_1.length c0_1, .slice A0_2 l0_2.length c0_2]] w fun e w' => e = .returned (.bool r) ∧ Below w.heap.size w w' := by
 have hu80 := Tryz.underlying80; have hu76 := Tryz.underlying76; have hu105 := Tryz.underlying105; have HR0_1 := Aside0.mk hr0_1; have HC0_1 := Aside0.mk hc0_1; clear hr0_1 hc0_1; have HR0_2 := Aside0.mk hr0_2; have HC0_2 := Aside0.mk hc0_2; clear hr0_2 hc0_2; have HB := Aside0.mk (Below.refl w.heap.size w); have H : (if (l0_2.length : Int) < 1 then (grammarfile_Valid.j0 k true a0_0 l0_1 l0_2) else (grammarfile_Valid.j0 k (decide ((l0_2.length : Int) > 120)) a0_0 l0_1 l0_2)) = some r := h; clear h; have HC2 := Aside0.mk H; clear H
 go_enter Tryz.func40, Tryz.ntmps40
 go_upto_region 1 with (first | ((with_reducible refine gate_dst (N := 1) rfl ?_); (try (refine gate_guard (by rfl) ?_; dsimp only)); refine box_event ?hg (N := 1) ?hd (cs := #[.string a0_0, .slice A0_1 l0_1.length c0_1, .slice A0_2 l0_2.length c0_2]) (t := 80) ?hr ?_; (case hd => rfl); (case hg => rfl); (case hr => first | (go_simp; done) | (go_simp; rfl)); intro gb155 hg w3 hbox hb; have n0_ := Aside0.mk (below_step (by repeat (first | (with_reducible first | exact HB.out | apply below_alloc | apply pw_below_drewN | apply below_drew1) | exact HB.out)) hb); have n1_ := Aside0.mk (hbox); have n2_ := Aside0.mk ((by rw [hg]; exact (below_size (by repeat (first | (with_reducible first | exact HB.out | apply below_alloc | apply pw_below_drewN | apply below_drew1) | exact HB.out))) : w.heap.size ≤ gb155)); have n3_ := Aside0.mk ((by rw [hg]; exact (below_size (by repeat (first | (with_reducible first | exact HB.out | apply below_alloc | apply pw_below_drewN | apply below_drew1) | exact HB.out))) : w.heap.size ≤ gb155)); clear HB; have HB := n0_; have BK155 := n1_; have GW155 := n2_; have GE155 := n3_; clear n0_ n1_ n2_ n3_; clear hb hbox hg))
 (try simp only [Act.put, List.setIfInBounds_toArray, List.set_cons_zero, List.set_cons_succ])
 go_cut [18] (fun v18 wc => ∃ (kq : Nat) (x18_1 : Bool), v18 = .bool x18_1 ∧ Aside0 (grammarfile_Valid.j0 kq x18_1 a0_0 l0_1 l0_2 = some r) ∧ Aside0 (kq ≤ k) ∧ Aside0 (wc.heap[gb155]? = some (.cells #[.string a0_0, (.slice A0_1 l0_1.length c0_1), (.slice A0_2 l0_2.length c0_2)] 80 (0, 0))) ∧ Aside0 (Below w.heap.size w wc))
 case first =>
  have H := HC2.out; clear HC2
  by_cases c4 : (l0_2.length : Int) < 1
  rotate_left
  ·
   rw [if_neg c4] at H
   have c4b0 : decide ((l0_2.length : Int) < 1) = false := decide_eq_false c4; have c4b1 : decide (l0_2.length < 1) = false := decide_eq_false (by omega)
   clear c4
   (first | rw [c4b0] | (simp only [i64_w, i32_w]; rw [c4b0]) | skip)
   have H' := Aside0.mk H; clear H; have hcz6_0 : w3.cell? ⟨gb155, 0, none⟩ = some (.string a0_0) := (blk_cell BK155.out 0).trans rfl; have hcz6_1 : w3.cell? ⟨gb155, 1, none⟩ = some (.slice A0_1 l0_1.length c0_1) := (blk_cell BK155.out 1).trans rfl; have hcz6_2 : w3.cell? ⟨gb155, 2, none⟩ = some (.slice A0_2 l0_2.length c0_2) := (blk_cell BK155.out 2).trans rfl; have hfz6_0 := blk_frozen BK155.out 0; have hfz6_1 := blk_frozen BK155.out 1; have hfz6_2 := blk_frozen BK155.out 2
   go_wp2
   go_meet
   case rel => exact ⟨_, (decide ((l0_2.length : Int) > 120)), (by first | rfl | (simp; done) | (simp [*]; done)), H', ⟨by first | omega | exact Nat.le_refl _⟩, ⟨by exact BK155.out⟩, ⟨by repeat (first | (with_reducible first | exact HB.out | apply below_alloc | apply pw_below_drewN | apply below_drew1 | refine below_set ?_ GE155.out) | exact HB.out)⟩⟩
  rw [if_pos c4] at H
  have c4b0 : decide ((l0_2.length : Int) < 1) = true := decide_eq_true c4; have c4b1 : decide (l0_2.length < 1) = true := decide_eq_true (by omega)
  clear c4
  (first | rw [c4b0] | (simp only [i64_w, i32_w]; rw [c4b0]) | skip)
  have H' := Aside0.mk H; clear H; have hcz5_0 : w3.cell? ⟨gb155, 0, none⟩ = some (.string a0_0) := (blk_cell BK155.out 0).trans rfl; have hcz5_1 : w3.cell? ⟨gb155, 1, none⟩ = some (.slice A0_1 l0_1.length c0_1) := (blk_cell BK155.out 1).trans rfl; have hcz5_2 : w3.cell? ⟨gb155, 2, none⟩ = some (.slice A0_2 l0_2.length c0_2) := (blk_cell BK155.out 2).trans rfl; have hfz5_0 := blk_frozen BK155.out 0; have hfz5_1 := blk_frozen BK155.out 1; have hfz5_2 := blk_frozen BK155.out 2
  go_wp2
  go_meet
  case rel => exact ⟨_, (true), (by first | rfl | (simp; done) | (simp [*]; done)), H', ⟨by first | omega | exact Nat.le_refl _⟩, ⟨by exact BK155.out⟩, ⟨by repeat (first | (with_reducible first | exact HB.out | apply below_alloc | apply pw_below_drewN | apply below_drew1 | refine below_set ?_ GE155.out) | exact HB.out)⟩⟩
 case rest =>
  clear HC2
  try clear p2
  try clear c4
  try clear c4b0
  try clear c4b1
  try clear hcz5_0
  try clear hcz5_1
  try clear hcz5_2
  try clear hcz6_0
  try clear hcz6_1
  try clear hcz6_2
  try clear hfz5_0
  try clear hfz5_1
  try clear hfz5_2
  try clear hfz6_0
  try clear hfz6_1
  try clear hfz6_2
  obtain ⟨kq, x18_1, rfl, HA, HJ1, BK155, HB⟩ := hcut
  cases kq with
  | zero => exact absurd HA.out (by simp [grammarfile_Valid.j0])
  | succ kj1 =>
   have H := HA.out; clear HA
   simp only [grammarfile_Valid.j0] at H
   by_cases c7 : x18_1 = true
   rotate_left
   ·
    replace c7 := Bool.eq_false_iff.mpr c7; subst c7; have H1 : (grammarfile_Valid.l0 kj1 ([] : List ByteArray) l0_2 (l0_2.length : Int) 0 a0_0 l0_1 l0_2) = some r := by rw [if_neg (show ¬ (false = true) by decide)] at H; exact H
    clear H; have H := H1; clear H1; have H' := Aside0.mk H; clear H; have hcz8_0 : wc.cell? ⟨gb155, 0, none⟩ = some (.string a0_0) := (blk_cell BK155.out 0).trans rfl; have hcz8_1 : wc.cell? ⟨gb155, 1, none⟩ = some (.slice A0_1 l0_1.length c0_1) := (blk_cell BK155.out 1).trans rfl; have hcz8_2 : wc.cell? ⟨gb155, 2, none⟩ = some (.slice A0_2 l0_2.length c0_2) := (blk_cell BK155.out 2).trans rfl; have hfz8_0 := blk_frozen BK155.out 0; have hfz8_1 := blk_frozen BK155.out 1; have hfz8_2 := blk_frozen BK155.out 2
    go_wp2
    go_loopg [3, 22] kj1 (fun kq v3 v22 w' => ∃ (x3_2 : List ByteArray) (x22_2 : Int), v22 = .int .i64 x22_2 ∧ Aside0 (grammarfile_Valid.l0 kq x3_2 l0_2 (l0_2.length : Int) x22_2 a0_0 l0_1 l0_2 = some r) ∧ Aside0 (kq ≤ kj1) ∧ Aside0 (Kd.R Kd.string 9 w' w.heap.size (fun _ => True) v3 x3_2) ∧ Aside0 (w'.heap[gb155]? = some (.cells #[.string a0_0, (.slice A0_1 l0_1.length c0_1), (.slice A0_2 l0_2.length c0_2)] 80 (0, 0))) ∧ Aside0 (Below w.heap.size w w'))
    case atStart => exact ⟨(([] : List ByteArray)), (0), (by first | rfl | (simp; done) | (simp [*]; done)), H', ⟨Nat.le_refl _⟩, ⟨by first | exact Kd.R_nil _ _ _ _ _ | exact Kd.N_nil _ _ _ _ _ | exact Kd.V_nil _ _ _ _ _ | exact Kd.Q_nil _ _ _ _ _ | exact Kd.S_nil _ _ _ _ _⟩, ⟨by exact BK155.out⟩, ⟨by repeat (first | (with_reducible first | exact HB.out | apply below_alloc | apply pw_below_drewN | apply below_drew1 | refine below_set ?_ GE155.out) | exact HB.out)⟩⟩
    case round =>
     clear H'
     try clear p2
     try clear c4
     try clear c4b0
     try clear c4b1
     try clear c7
     try clear hcz5_0
     try clear hcz5_1
     try clear hcz5_2
     try clear hcz6_0
     try clear hcz6_1
     try clear hcz6_2
     try clear hcz8_0
     try clear hcz8_1
     try clear hcz8_2
     try clear hfz5_0
     try clear hfz5_1
     try clear hfz5_2
     try clear hfz6_0
     try clear hfz6_1
     try clear hfz6_2
     try clear hfz8_0
     try clear hfz8_1
     try clear hfz8_2
     try clear p2
     obtain ⟨x3_2, x22_2, rfl, HA, HK2, HO_3, BK155, HB⟩ := hrel
     cases gk with
     | zero => exact absurd HA.out (by simp [grammarfile_Valid.l0])
     | succ k2 =>
      have H := HA.out; clear HA
      simp only [grammarfile_Valid.l0] at H
      by_cases c9 : x22_2 < (l0_2.length : Int)
      rotate_left
      ·
       rw [if_neg c9] at H
       have c9b0 : decide (x22_2 < (l0_2.length : Int)) = false := decide_eq_false c9; clear c9; have H' := Aside0.mk H; clear H; have hcz25_0 : wr.cell? ⟨gb155, 0, none⟩ = some (.string a0_0) := (blk_cell BK155.out 0).trans rfl; have hcz25_1 : wr.cell? ⟨gb155, 1, none⟩ = some (.slice A0_1 l0_1.length c0_1) := (blk_cell BK155.out 1).trans rfl; have hcz25_2 : wr.cell? ⟨gb155, 2, none⟩ = some (.slice A0_2 l0_2.length c0_2) := (blk_cell BK155.out 2).trans rfl; have hfz25_0 := blk_frozen BK155.out 0; have hfz25_1 := blk_frozen BK155.out 1; have hfz25_2 := blk_frozen BK155.out 2
       go_wp2
       go_loopg [4, 38] k2 (fun kq v4 v38 w' => ∃ (x4_3 : List ByteArray) (x38_3 : Int), v38 = .int .i64 x38_3 ∧ Aside0 (grammarfile_Valid.l1 kq x3_2 x4_3 l0_1 (l0_1.length : Int) x38_3 a0_0 l0_1 l0_2 = some r) ∧ Aside0 (kq ≤ k2) ∧ Aside0 (Kd.R Kd.string 9 w' w.heap.size (fun k_ => some k_ ≠ (v4 : Value).ownBlock) u3 x3_2) ∧ Aside0 (Kd.R Kd.string 9 w' w.heap.size (fun k_ => some k_ ≠ (u3 : Value).ownBlock) v4 x4_3) ∧ Aside0 (w'.heap[gb155]? = some (.cells #[.string a0_0, (.slice A0_1 l0_1.length c0_1), (.slice A0_2 l0_2.length c0_2)] 80 (0, 0))) ∧ Aside0 (Below w.heap.size w w'))
       case atStart => exact ⟨(([] : List ByteArray)), (0), (by first | rfl | (simp; done) | (simp [*]; done)), H', ⟨Nat.le_refl _⟩, ⟨by exact Kd.R_mono HO_3.out (fun _ hk => (by simp [Value.ownBlock]))⟩, ⟨by first | exact Kd.R_nil _ _ _ _ _ | exact Kd.N_nil _ _ _ _ _ | exact Kd.V_nil _ _ _ _ _ | exact Kd.Q_nil _ _ _ _ _ | exact Kd.S_nil _ _ _ _ _⟩, ⟨by exact BK155.out⟩, ⟨by repeat (first | (with_reducible first | exact HB.out | apply below_alloc | apply pw_below_drewN | apply below_drew1 | refine below_set ?_ GE155.out) | exact HB.out)⟩⟩
       case round =>
        clear H'
        try clear c1
        try clear p1
        try clear q1
        try clear hx1
        try clear c2
        try clear p2
        try clear c4
        try clear c4b0
        try clear c4b1
        try clear c5
        try clear p6
        try clear c7
        try clear c9
        try clear c9b0
        try clear c10
        try clear c10b0
        try clear c11
        try clear c11b0
        try clear c13
        try clear c14
        try clear c15
        try clear p15
        try clear q15
        try clear hx15
        try clear c16
        try clear c22
        try clear hcz17_0
        try clear hcz17_1
        try clear hcz19_0
        try clear hcz19_1
        try clear hcz23_0
        try clear hcz23_1
        try clear hcz25_0
        try clear hcz25_1
        try clear hcz25_2
        try clear hcz5_0
        try clear hcz5_1
        try clear hcz5_2
        try clear hcz6_0
        try clear hcz6_1
        try clear hcz6_2
        try clear hcz8_0
        try clear hcz8_1
        try clear hcz8_2
        try clear hfz17_0
        try clear hfz17_1
        try clear hfz19_0
        try clear hfz19_1
        try clear hfz23_0
        try clear hfz23_1
        try clear hfz25_0
        try clear hfz25_1
        try clear hfz25_2
        try clear hfz5_0
        try clear hfz5_1
        try clear hfz5_2
        try clear hfz6_0
        try clear hfz6_1
        try clear hfz6_2
        try clear hfz8_0
        try clear hfz8_1
        try clear hfz8_2
        try clear hx156_0
        try clear hx156_1
        try clear p156
        try clear p2
        try clear q156
        obtain ⟨x4_3, x38_3, rfl, HA, HK3, HO_3, HO_4, BK155, HB⟩ := hrel
        cases gk with
        | zero => exact absurd HA.out (by simp [grammarfile_Valid.l1])
        | succ k3 =>
         have H := HA.out; clear HA
         simp only [grammarfile_Valid.l1] at H
         by_cases c26 : x38_3 < (l0_1.length : Int)
         rotate_left
         ·
          rw [if_neg c26] at H
          have c26b0 : decide (x38_3 < (l0_1.length : Int)) = false := decide_eq_false c26; clear c26; replace H := Option.bind_eq_some_iff.mp H; obtain ⟨t167, A460, H⟩ := H; replace H : (if t167 = true then ((grammarfile_distinct.f k3 x4_3).bind fun t168 => (if t168 = true then ((slices_Contains_string_string.f k3 x3_2 a0_0).bind fun t169 => (some t169)) else (some false))) else (some false)) = some r := H
          have A46 := Aside0.mk A460; clear A460
          by_cases c47 : t167 = true
          rotate_left
          ·
           replace c47 := Bool.eq_false_iff.mpr c47; subst c47; have H1 : (some false) = some r := by rw [if_neg (show ¬ (false = true) by decide)] at H; exact H
           clear H; have H := H1; clear H1; obtain rfl := Option.some.inj H; obtain ⟨Ao60, co60, eo60⟩ := Kd.R_slice HO_3.out; subst eo60
           go_wp2_with (first | ((with_reducible refine gate_callee (f := 58) rfl ?_); refine goesL_ (some 62) rfl rfl Tryz.func58 (by kernel_rfl) rfl #[.slice Ao60 x3_2.length co60] rfl (by (try simp only [List.map_toArray, List.map_cons, List.map_nil]); first | done | rfl | (simp only [List.length_drop, List.length_take]; rfl)) ?_; (with_reducible refine (grammarfile_distinct.calls k3 _ _ x3_2 false _ ?side1 ?side2 A46.out).mono ?_); (case side1 => repeat (first | exact (Kd.R_reads' HO_3.out).2.2 | (with_reducible refine Kd.C_alloc ?_ _) | (with_reducible refine Kd.C_drewN ?_ _) | (with_reducible refine Kd.C_drew ?_))); (case side2 => exact (Kd.R_reads' HO_3.out).2.1); rintro e w61 ⟨rfl, hb⟩; refine ⟨_, rfl, ?_⟩; have n0_ := Aside0.mk (Kd.R_below (by exact HO_3.out) hb); have n1_ := Aside0.mk (Kd.R_below (by exact HO_4.out) hb); have n2_ := Aside0.mk (blk_below (g := gb155) (o := .cells #[.string a0_0, .slice A0_1 l0_1.length c0_1, .slice A0_2 l0_2.length c0_2] 80 (0, 0)) (by exact BK155.out) hb); have n3_ := Aside0.mk (below_step (by repeat (first | (with_reducible first | exact HB.out | apply below_alloc | apply pw_below_drewN | apply below_drew1 | refine below_set ?_ GE155.out) | exact HB.out)) hb); clear HO_3; clear HO_4; clear BK155; clear HB; have HO_3 := n0_; have HO_4 := n1_; have BK155 := n2_; have HB := n3_; clear n0_ n1_ n2_ n3_; (try clear hb); (try clear hb2); (try clear hk); (try clear hi)))
           go_ret
           exact ⟨by first | rfl | (simp [errW_none, errW_some] <;> rfl) | (simp [*, errW_none, errW_some] <;> rfl), by repeat (first | (with_reducible first | exact HB.out | apply below_alloc | apply pw_below_drewN | apply below_drew1 | refine below_set ?_ GE155.out) | exact HB.out)⟩
          subst c47; have H1 : ((grammarfile_distinct.f k3 x4_3).bind fun t168 => (if t168 = true then ((slices_Contains_string_string.f k3 x3_2 a0_0).bind fun t169 => (some t169)) else (some false))) = some r := by rw [if_pos rfl] at H; exact H
          clear H; have H := H1; clear H1; replace H := Option.bind_eq_some_iff.mp H; obtain ⟨t168, A480, H⟩ := H; replace H : (if t168 = true then ((slices_Contains_string_string.f k3 x3_2 a0_0).bind fun t169 => (some t169)) else (some false)) = some r := H
          have A48 := Aside0.mk A480; clear A480
          by_cases c49 : t168 = true
          rotate_left
          ·
           replace c49 := Bool.eq_false_iff.mpr c49; subst c49; have H1 : (some false) = some r := by rw [if_neg (show ¬ (false = true) by decide)] at H; exact H
           clear H; have H := H1; clear H1; obtain rfl := Option.some.inj H; obtain ⟨Ao56, co56, eo56⟩ := Kd.R_slice HO_3.out; subst eo56
           go_wp2_with (first | ((with_reducible refine gate_callee (f := 58) rfl ?_); refine goesL_ (some 62) rfl rfl Tryz.func58 (by kernel_rfl) rfl #[.slice Ao56 x3_2.length co56] rfl (by (try simp only [List.map_toArray, List.map_cons, List.map_nil]); first | done | rfl | (simp only [List.length_drop, List.length_take]; rfl)) ?_; (with_reducible refine (grammarfile_distinct.calls k3 _ _ x3_2 true _ ?side1 ?side2 A46.out).mono ?_); (case side1 => repeat (first | exact (Kd.R_reads' HO_3.out).2.2 | (with_reducible refine Kd.C_alloc ?_ _) | (with_reducible refine Kd.C_drewN ?_ _) | (with_reducible refine Kd.C_drew ?_))); (case side2 => exact (Kd.R_reads' HO_3.out).2.1); rintro e w57 ⟨rfl, hb⟩; refine ⟨_, rfl, ?_⟩; have n0_ := Aside0.mk (Kd.R_below (by exact HO_3.out) hb); have n1_ := Aside0.mk (Kd.R_below (by exact HO_4.out) hb); have n2_ := Aside0.mk (blk_below (g := gb155) (o := .cells #[.string a0_0, .slice A0_1 l0_1.length c0_1, .slice A0_2 l0_2.length c0_2] 80 (0, 0)) (by exact BK155.out) hb); have n3_ := Aside0.mk (below_step (by repeat (first | (with_reducible first | exact HB.out | apply below_alloc | apply pw_below_drewN | apply below_drew1 | refine below_set ?_ GE155.out) | exact HB.out)) hb); clear HO_3; clear HO_4; clear BK155; clear HB; have HO_3 := n0_; have HO_4 := n1_; have BK155 := n2_; have HB := n3_; clear n0_ n1_ n2_ n3_; (try clear hb); (try clear hb2); (try clear hk); (try clear hi); obtain ⟨Ao58, co58, eo58⟩ := Kd.R_slice HO_4.out; subst eo58) | (go_at_call 58; (with_reducible refine (grammarfile_distinct.calls k3 _ _ x4_3 false _ ?side1 ?side2 A48.out).mono ?_); (case side1 => repeat (first | exact (Kd.R_reads' HO_4.out).2.2 | (with_reducible refine Kd.C_alloc ?_ _) | (with_reducible refine Kd.C_drewN ?_ _) | (with_reducible refine Kd.C_drew ?_))); (case side2 => exact (Kd.R_reads' HO_4.out).2.1); rintro e w59 ⟨rfl, hb⟩; have n0_ := Aside0.mk (Kd.R_below (by exact HO_3.out) hb); have n1_ := Aside0.mk (Kd.R_below (by exact HO_4.out) hb); have n2_ := Aside0.mk (blk_below (g := gb155) (o := .cells #[.string a0_0, .slice A0_1 l0_1.length c0_1, .slice A0_2 l0_2.length c0_2] 80 (0, 0)) (by exact BK155.out) hb); have n3_ := Aside0.mk (below_step (by repeat (first | (with_reducible first | exact HB.out | apply below_alloc | apply pw_below_drewN | apply below_drew1 | refine below_set ?_ GE155.out) | exact HB.out)) hb); clear HO_3; clear HO_4; clear BK155; clear HB; have HO_3 := n0_; have HO_4 := n1_; have BK155 := n2_; have HB := n3_; clear n0_ n1_ n2_ n3_; (try clear hb); (try clear hb2); (try clear hk); (try clear hi)))
           go_ret
           exact ⟨by first | rfl | (simp [errW_none, errW_some] <;> rfl) | (simp [*, errW_none, errW_some] <;> rfl), by repeat (first | (with_reducible first | exact HB.out | apply below_alloc | apply pw_below_drewN | apply below_drew1 | refine below_set ?_ GE155.out) | exact HB.out)⟩
          subst c49; have H1 : ((slices_Contains_string_string.f k3 x3_2 a0_0).bind fun t169 => (some t169)) = some r := by rw [if_pos rfl] at H; exact H
          clear H; have H := H1; clear H1; replace H := Option.bind_eq_some_iff.mp H; obtain ⟨t169, A500, H⟩ := H; replace H : (some t169) = some r := H; have A50 := Aside0.mk A500; clear A500; obtain rfl := Option.some.inj H; obtain ⟨Ao51, co51, eo51⟩ := Kd.R_slice HO_3.out; subst eo51
          go_wp2_with (first | ((with_reducible refine gate_callee (f := 58) rfl ?_); refine goesL_ (some 62) rfl rfl Tryz.func58 (by kernel_rfl) rfl #[.slice Ao51 x3_2.length co51] rfl (by (try simp only [List.map_toArray, List.map_cons, List.map_nil]); first | done | rfl | (simp only [List.length_drop, List.length_take]; rfl)) ?_; (with_reducible refine (grammarfile_distinct.calls k3 _ _ x3_2 true _ ?side1 ?side2 A46.out).mono ?_); (case side1 => repeat (first | exact (Kd.R_reads' HO_3.out).2.2 | (with_reducible refine Kd.C_alloc ?_ _) | (with_reducible refine Kd.C_drewN ?_ _) | (with_reducible refine Kd.C_drew ?_))); (case side2 => exact (Kd.R_reads' HO_3.out).2.1); rintro e w52 ⟨rfl, hb⟩; refine ⟨_, rfl, ?_⟩; have n0_ := Aside0.mk (Kd.R_below (by exact HO_3.out) hb); have n1_ := Aside0.mk (Kd.R_below (by exact HO_4.out) hb); have n2_ := Aside0.mk (blk_below (g := gb155) (o := .cells #[.string a0_0, .slice A0_1 l0_1.length c0_1, .slice A0_2 l0_2.length c0_2] 80 (0, 0)) (by exact BK155.out) hb); have n3_ := Aside0.mk (below_step (by repeat (first | (with_reducible first | exact HB.out | apply below_alloc | apply pw_below_drewN | apply below_drew1 | refine below_set ?_ GE155.out) | exact HB.out)) hb); clear HO_3; clear HO_4; clear BK155; clear HB; have HO_3 := n0_; have HO_4 := n1_; have BK155 := n2_; have HB := n3_; clear n0_ n1_ n2_ n3_; (try clear hb); (try clear hb2); (try clear hk); (try clear hi); obtain ⟨Ao53, co53, eo53⟩ := Kd.R_slice HO_4.out; subst eo53) | (go_at_call 58; (with_reducible refine (grammarfile_distinct.calls k3 _ _ x4_3 true _ ?side1 ?side2 A48.out).mono ?_); (case side1 => repeat (first | exact (Kd.R_reads' HO_4.out).2.2 | (with_reducible refine Kd.C_alloc ?_ _) | (with_reducible refine Kd.C_drewN ?_ _) | (with_reducible refine Kd.C_drew ?_))); (case side2 => exact (Kd.R_reads' HO_4.out).2.1); rintro e w54 ⟨rfl, hb⟩; have n0_ := Aside0.mk (Kd.R_below (by exact HO_3.out) hb); have n1_ := Aside0.mk (Kd.R_below (by exact HO_4.out) hb); have n2_ := Aside0.mk (blk_below (g := gb155) (o := .cells #[.string a0_0, .slice A0_1 l0_1.length c0_1, .slice A0_2 l0_2.length c0_2] 80 (0, 0)) (by exact BK155.out) hb); have n3_ := Aside0.mk (below_step (by repeat (first | (with_reducible first | exact HB.out | apply below_alloc | apply pw_below_drewN | apply below_drew1 | refine below_set ?_ GE155.out) | exact HB.out)) hb); clear HO_3; clear HO_4; clear BK155; clear HB; have HO_3 := n0_; have HO_4 := n1_; have BK155 := n2_; have HB := n3_; clear n0_ n1_ n2_ n3_; (try clear hb); (try clear hb2); (try clear hk); (try clear hi); have hcz55_0 : w54.cell? ⟨gb155, 0, none⟩ = some (.string a0_0) := (blk_cell BK155.out 0).trans rfl; have hcz55_1 : w54.cell? ⟨gb155, 1, none⟩ = some (.slice A0_1 l0_1.length c0_1) := (blk_cell BK155.out 1).trans rfl; have hcz55_2 : w54.cell? ⟨gb155, 2, none⟩ = some (.slice A0_2 l0_2.length c0_2) := (blk_cell BK155.out 2).trans rfl; have hfz55_0 := blk_frozen BK155.out 0; have hfz55_1 := blk_frozen BK155.out 1; have hfz55_2 := blk_frozen BK155.out 2) | (go_at_call 41; (with_reducible refine (slices_Contains_string_string.calls k3 _ _ x3_2 a0_0 t169 _ ?side1 ?side2 A50.out).mono ?_); (case side1 => repeat (first | exact (Kd.R_reads' HO_3.out).2.2 | (with_reducible refine Kd.C_alloc ?_ _) | (with_reducible refine Kd.C_drewN ?_ _) | (with_reducible refine Kd.C_drew ?_))); (case side2 => exact (Kd.R_reads' HO_3.out).2.1); rintro e w' ⟨rfl, ⟨nd, rfl⟩⟩))
          go_ret
          exact ⟨by first | rfl | (simp [errW_none, errW_some] <;> rfl) | (simp [*, errW_none, errW_some] <;> rfl), by repeat (first | (with_reducible first | exact HB.out | apply below_alloc | apply pw_below_drewN | apply below_drew1 | refine below_set ?_ GE155.out) | exact HB.out)⟩
         rw [if_pos c26] at H
         have c26b0 : decide (x38_3 < (l0_1.length : Int)) = true := decide_eq_true c26; clear c26
         by_cases c27 : 0 ≤ x38_3
         rotate_left
         ·
          rw [if_neg c27] at H
          exact absurd H (by simp)
         rw [if_pos c27] at H
         have c27b0 : decide (0 ≤ x38_3) = true := decide_eq_true c27; clear c27
         by_cases c28 : x38_3 < (l0_1.length : Int)
         rotate_left
         ·
          rw [if_neg c28] at H
          exact absurd H (by simp)
         rw [if_pos c28] at H
         have c28b0 : decide (x38_3 < (l0_1.length : Int)) = true := decide_eq_true c28; clear c28
         by_cases c29 : ((rd_T105 l0_1 x38_3).f0) < 1
         rotate_left
         ·
          rw [if_neg c29] at H
          have c29b0 : decide (((rd_T105 l0_1 x38_3).f0) < 1) = false := decide_eq_false c29; clear c29
          by_cases c33 : ((rd_T105 l0_1 x38_3).f0) > 3
          rotate_left
          ·
           rw [if_neg c33] at H
           have c33b0 : decide (3 < ((rd_T105 l0_1 x38_3).f0)) = false := decide_eq_false c33; clear c33
           by_cases c37 : (((rd_T105 l0_1 x38_3).f1).length : Int) = 0
           rotate_left
           ·
            rw [if_neg c37] at H
            have c37b0 : ((((rd_T105 l0_1 x38_3).f1).length : Int) == 0) = false := beq_eq_false_iff_ne.mpr c37; have c37b1 : ((((rd_T105 l0_1 x38_3).f1).length : Int) != 0) = true := bne_iff_ne.mpr c37; have c37b2 : ¬ (((rd_T105 l0_1 x38_3).f1) = []) := fun h_ => c37 (by rw [h_]; rfl)
            by_cases c41 : x4_3.length + ((rd_T105 l0_1 x38_3).f1).length < 8796093022208
            rotate_left
            ·
             rw [if_neg c41] at H
             exact absurd H (by simp)
            rw [if_pos c41] at H
            have LMc41 := Aside0.mk c41; clear c41; obtain ⟨y164, hy164⟩ : ∃ y_ : List ByteArray, y_ = (x4_3 ++ ((rd_T105 l0_1 x38_3).f1)) := ⟨_, rfl⟩
            replace H : (grammarfile_Valid.l1 k3 x3_2 y164 l0_1 (l0_1.length : Int) (wrap64 (x38_3 + 1)) a0_0 l0_1 l0_2) = some r := by first | (rw [hy164]; with_reducible exact H) | (have H2_ := (Option.bind_some _ _).symm.trans H; rw [hy164]; with_reducible exact H2_) | (have H2_ := (Option.bind_some _ _).symm.trans H; with_reducible exact H2_) | with_reducible exact H | (rw [hy164]; exact H) | exact H
            have Ny164 := Aside0.mk hy164; clear hy164; have H' := Aside0.mk H; clear H; have p162 : 0 ≤ (x38_3 : Int) := of_decide_eq_true (by first | (with_reducible assumption) | assumption)
            have q162 : x38_3 < (l0_1.length : Int) := of_decide_eq_true (by first | (with_reducible assumption) | assumption)
            obtain ⟨ad162, A162_1, c162_1, e162, hx162_0, hx162_1, hl162_1, hi162_1⟩ := at_T105 HR0_1.out x38_3 p162 q162
            cases e162
            replace hx162_0 := (HB.out.cell (World.block_lt_of_cell? w _ hx162_0)).trans hx162_0; replace hx162_1 := (HB.out.cell (World.block_lt_of_cell? w _ hx162_1)).trans hx162_1; have HR162_1 := Aside0.mk hi162_1; have HC162_1 := Aside0.mk hl162_1; clear hi162_1 hl162_1; replace p162 := eq_true p162; replace q162 := eq_true q162
            go_wp2_with (first | ((with_reducible refine gate_dst (N := 8) rfl ?_); (try (refine gate_guard (by rfl) ?_; dsimp only)); refine box_event ?hg (N := 8) ?hd (cs := #[.int .i64 0, .slice none 0 0]) (t := 105) ?hr ?_; (case hd => rfl); (case hg => rfl); (case hr => first | (go_simp; done) | (go_simp; rfl)); intro gb163 hg w42 hbox hb; have n0_ := Aside0.mk (Kd.R_below (by exact HO_3.out) hb); have n1_ := Aside0.mk (Kd.R_below (by exact HO_4.out) hb); have n2_ := Aside0.mk (blk_below (g := gb155) (o := .cells #[.string a0_0, .slice (some ad162) l0_1.length c0_1, .slice A0_2 l0_2.length c0_2] 80 (0, 0)) (by exact BK155.out) hb); have n3_ := Aside0.mk (below_step (by repeat (first | (with_reducible first | exact HB.out | apply below_alloc | apply pw_below_drewN | apply below_drew1 | refine below_set ?_ GE155.out) | exact HB.out)) hb); have n4_ := Aside0.mk (hbox); have n5_ := Aside0.mk ((by rw [hg]; exact (below_size (by repeat (first | (with_reducible first | exact HB.out | apply below_alloc | apply pw_below_drewN | apply below_drew1 | refine below_set ?_ GE155.out) | exact HB.out))) : w.heap.size ≤ gb163)); have n6_ := Aside0.mk ((by rw [hg]; exact (below_size (by repeat (first | (with_reducible first | exact HB.out | apply below_alloc | apply pw_below_drewN | apply below_drew1 | refine below_set ?_ GE155.out) | exact HB.out))) : w.heap.size ≤ gb163)); have n7_ := Aside0.mk ((by rw [hg]; exact Nat.ne_of_lt (blk_lt (g := gb155) (o := .cells #[.string a0_0, .slice (some ad162) l0_1.length c0_1, .slice A0_2 l0_2.length c0_2] 80 (0, 0)) (by exact BK155.out)) : gb155 ≠ gb163)); have n8_ := Aside0.mk ((by rw [hg]; exact Nat.ne_of_gt (blk_lt (g := gb155) (o := .cells #[.string a0_0, .slice (some ad162) l0_1.length c0_1, .slice A0_2 l0_2.length c0_2] 80 (0, 0)) (by exact BK155.out)) : gb163 ≠ gb155)); clear HO_3; clear HO_4; clear BK155; clear HB; have HO_3 := n0_; have HO_4 := n1_; have BK155 := n2_; have HB := n3_; have BK163 := n4_; have GW163 := n5_; have GE163 := n6_; have NB155_163 := n7_; have NB163_155 := n8_; clear n0_ n1_ n2_ n3_ n4_ n5_ n6_ n7_ n8_; clear hb hbox hg; have hnb43 := NB163_155.out; have hnc43 := NB155_163.out; have hcz44_0 : w42.cell? ⟨gb163, 0, none⟩ = some (.int .i64 0) := (blk_cell BK163.out 0).trans rfl; have hcz44_1 : w42.cell? ⟨gb163, 1, none⟩ = some (.slice none 0 0) := (blk_cell BK163.out 1).trans rfl; have hfz44_0 := blk_frozen BK163.out 0; have hfz44_1 := blk_frozen BK163.out 1) | ((with_reducible refine gate_builtin (b := .append) (xs := #[.tmp 56, .tmp 58]) rfl ?_); (try (refine gate_guard (by rfl) ?_; dsimp only)); at_builtin; refine Kd.R_append_rows Kd.string (w0 := w) w.heap.size rfl (.tmp 56) (.tmp 58) 31 9 (.string ⟨#[]⟩) 16 rfl Tryz.underlying31 info9 rfl (by decide) (by omega) u4 x4_3 ((rd_T105 l0_1 x38_3).f1) _ _ _ (fun k_ => some k_ ≠ (u3 : Value).ownBlock) (fun _ => False) rfl rfl ?aO ?aR (fun _ _ h => h) (fun _ h => h.elim) ?aF ?aB ?aS ?aL ?_; (case aR => exact Kd.C_below HR162_1.out (by repeat (first | (with_reducible first | exact HB.out | apply below_alloc | apply pw_below_drewN | apply below_drew1 | refine below_set ?_ GE155.out | refine below_set ?_ GE163.out) | exact HB.out))); (case aB => exact (by repeat (first | (with_reducible first | exact HB.out | apply below_alloc | apply pw_below_drewN | apply below_drew1 | refine below_set ?_ GE155.out | refine below_set ?_ GE163.out) | exact HB.out))); (case aF => exact (fun k_ hk => Kd.fresh' (Kd.R_lt (by exact (Kd.R_mono (Kd.R_far (p := ⟨gb163, 1, none⟩) (Kd.R_far (p := ⟨gb163, 0, none⟩) (Kd.R_types HO_3.out BK163.out (by decide)) (fun _ hk => hk.2) (.int .i64 ((rd_T105 l0_1 x38_3).f0))) (fun _ hk => hk.2) (.slice A162_1 ((rd_T105 l0_1 x38_3).f1).length c162_1)) (fun _ h_ => h_.1)))) k_ hk)); (case aO => exact (by exact Kd.R_mono (Kd.R_far (p := ⟨gb163, 1, none⟩) (Kd.R_far (p := ⟨gb163, 0, none⟩) (Kd.R_types HO_4.out BK163.out (by decide)) (fun _ hk => hk.2) (.int .i64 ((rd_T105 l0_1 x38_3).f0))) (fun _ hk => hk.2) (.slice A162_1 ((rd_T105 l0_1 x38_3).f1).length c162_1)) (fun _ hk => hk.1))); (case aS => exact (below_size (by repeat (first | (with_reducible first | exact HB.out | apply below_alloc | apply pw_below_drewN | apply below_drew1 | refine below_set ?_ GE155.out | refine below_set ?_ GE163.out) | exact HB.out)))); (case aL => have := LMc41.out; omega); intro v165 w45 ho hb hg hat; rw [← Ny164.out] at ho; have n0_ := Aside0.mk (Kd.R_after (ok := (fun _ => True)) (by exact Kd.R_mono (Kd.R_far (p := ⟨gb163, 1, none⟩) (Kd.R_far (p := ⟨gb163, 0, none⟩) (Kd.R_types HO_3.out BK163.out (by decide)) (fun _ hk => hk.2) (.int .i64 ((rd_T105 l0_1 x38_3).f0))) (fun _ hk => hk.2) (.slice A162_1 ((rd_T105 l0_1 x38_3).f1).length c162_1)) (fun _ hk => ⟨trivial, hk.1⟩)) hg hat); have n1_ := Aside0.mk (blk_grown (g := gb155) (o := .cells #[.string a0_0, .slice (some ad162) l0_1.length c0_1, .slice A0_2 l0_2.length c0_2] 80 (0, 0)) (by refine blk_far ?_ NB155_163.out _; refine blk_far ?_ NB155_163.out _; exact BK155.out) hg (Kd.R_ne HO_4.out BK155.out (by decide))); have n2_ := Aside0.mk (blk_grown (g := gb163) (o := .cells #[.int .i64 ((rd_T105 l0_1 x38_3).f0), .slice A162_1 ((rd_T105 l0_1 x38_3).f1).length c162_1] 105 (0, 0)) (by refine blk_put (cs := #[.int .i64 ((rd_T105 l0_1 x38_3).f0), .slice none 0 0]) ?_ 1 _ rfl; refine blk_put (cs := #[.int .i64 0, .slice none 0 0]) ?_ 0 _ rfl; exact BK163.out) hg (Kd.R_ne HO_4.out BK163.out (by decide))); have n3_ := Aside0.mk (hb); have n4_ := Aside0.mk (ho); clear HO_3; clear BK155; clear BK163; clear HB; clear HO_4; have HO_3 := n0_; have BK155 := n1_; have BK163 := n2_; have HB := n3_; have HO166 := n4_; clear n0_ n1_ n2_ n3_ n4_; clear ho hb hg hat))
            go_roundg k3
            case measure => have := HJ1.out; have := HK2.out; have := HK3.out; omega
            case rel => exact ⟨(y164), (wrap64 (x38_3 + 1)), (by first | rfl | (simp; done) | (simp [*]; done)), H', ⟨by have := HJ1.out; have := HK2.out; have := HK3.out; omega⟩, ⟨by exact Kd.R_mono HO_3.out (fun _ hk => hk.2)⟩, ⟨by exact HO166.out⟩, ⟨by exact BK155.out⟩, ⟨by repeat (first | (with_reducible first | exact HB.out | apply below_alloc | apply pw_below_drewN | apply below_drew1 | refine below_set ?_ GE155.out | refine below_set ?_ GE163.out) | exact HB.out)⟩⟩
           rw [if_pos c37] at H
           have c37b0 : ((((rd_T105 l0_1 x38_3).f1).length : Int) == 0) = true := beq_iff_eq.mpr c37; have c37b1 : ((((rd_T105 l0_1 x38_3).f1).length : Int) != 0) = false := bne_eq_false_iff_eq.mpr c37; clear c37; obtain rfl := Option.some.inj H; have p162 : 0 ≤ (x38_3 : Int) := of_decide_eq_true (by first | (with_reducible assumption) | assumption)
           have q162 : x38_3 < (l0_1.length : Int) := of_decide_eq_true (by first | (with_reducible assumption) | assumption)
           obtain ⟨ad162, A162_1, c162_1, e162, hx162_0, hx162_1, hl162_1, hi162_1⟩ := at_T105 HR0_1.out x38_3 p162 q162
           cases e162
           replace hx162_0 := (HB.out.cell (World.block_lt_of_cell? w _ hx162_0)).trans hx162_0; replace hx162_1 := (HB.out.cell (World.block_lt_of_cell? w _ hx162_1)).trans hx162_1; have HR162_1 := Aside0.mk hi162_1; have HC162_1 := Aside0.mk hl162_1; clear hi162_1 hl162_1; replace p162 := eq_true p162; replace q162 := eq_true q162
           go_wp2_with (first | ((with_reducible refine gate_dst (N := 8) rfl ?_); (try (refine gate_guard (by rfl) ?_; dsimp only)); refine box_event ?hg (N := 8) ?hd (cs := #[.int .i64 0, .slice none 0 0]) (t := 105) ?hr ?_; (case hd => rfl); (case hg => rfl); (case hr => first | (go_simp; done) | (go_simp; rfl)); intro gb163 hg w38 hbox hb; have n0_ := Aside0.mk (Kd.R_below (by exact HO_3.out) hb); have n1_ := Aside0.mk (Kd.R_below (by exact HO_4.out) hb); have n2_ := Aside0.mk (blk_below (g := gb155) (o := .cells #[.string a0_0, .slice (some ad162) l0_1.length c0_1, .slice A0_2 l0_2.length c0_2] 80 (0, 0)) (by exact BK155.out) hb); have n3_ := Aside0.mk (below_step (by repeat (first | (with_reducible first | exact HB.out | apply below_alloc | apply pw_below_drewN | apply below_drew1 | refine below_set ?_ GE155.out) | exact HB.out)) hb); have n4_ := Aside0.mk (hbox); have n5_ := Aside0.mk ((by rw [hg]; exact (below_size (by repeat (first | (with_reducible first | exact HB.out | apply below_alloc | apply pw_below_drewN | apply below_drew1 | refine below_set ?_ GE155.out) | exact HB.out))) : w.heap.size ≤ gb163)); have n6_ := Aside0.mk ((by rw [hg]; exact (below_size (by repeat (first | (with_reducible first | exact HB.out | apply below_alloc | apply pw_below_drewN | apply below_drew1 | refine below_set ?_ GE155.out) | exact HB.out))) : w.heap.size ≤ gb163)); have n7_ := Aside0.mk ((by rw [hg]; exact Nat.ne_of_lt (blk_lt (g := gb155) (o := .cells #[.string a0_0, .slice (some ad162) l0_1.length c0_1, .slice A0_2 l0_2.length c0_2] 80 (0, 0)) (by exact BK155.out)) : gb155 ≠ gb163)); have n8_ := Aside0.mk ((by rw [hg]; exact Nat.ne_of_gt (blk_lt (g := gb155) (o := .cells #[.string a0_0, .slice (some ad162) l0_1.length c0_1, .slice A0_2 l0_2.length c0_2] 80 (0, 0)) (by exact BK155.out)) : gb163 ≠ gb155)); clear HO_3; clear HO_4; clear BK155; clear HB; have HO_3 := n0_; have HO_4 := n1_; have BK155 := n2_; have HB := n3_; have BK163 := n4_; have GW163 := n5_; have GE163 := n6_; have NB155_163 := n7_; have NB163_155 := n8_; clear n0_ n1_ n2_ n3_ n4_ n5_ n6_ n7_ n8_; clear hb hbox hg; have hnb39 := NB163_155.out; have hnc39 := NB155_163.out; have hcz40_0 : w38.cell? ⟨gb163, 0, none⟩ = some (.int .i64 0) := (blk_cell BK163.out 0).trans rfl; have hcz40_1 : w38.cell? ⟨gb163, 1, none⟩ = some (.slice none 0 0) := (blk_cell BK163.out 1).trans rfl; have hfz40_0 := blk_frozen BK163.out 0; have hfz40_1 := blk_frozen BK163.out 1))
           go_ret
           exact ⟨by first | rfl | (simp [errW_none, errW_some] <;> rfl) | (simp [*, errW_none, errW_some] <;> rfl), by repeat (first | (with_reducible first | exact HB.out | apply below_alloc | apply pw_below_drewN | apply below_drew1 | refine below_set ?_ GE155.out | refine below_set ?_ GE163.out) | exact HB.out)⟩
          rw [if_pos c33] at H
          have c33b0 : decide (3 < ((rd_T105 l0_1 x38_3).f0)) = true := decide_eq_true c33; clear c33; obtain rfl := Option.some.inj H; have p162 : 0 ≤ (x38_3 : Int) := of_decide_eq_true (by first | (with_reducible assumption) | assumption)
          have q162 : x38_3 < (l0_1.length : Int) := of_decide_eq_true (by first | (with_reducible assumption) | assumption)
          obtain ⟨ad162, A162_1, c162_1, e162, hx162_0, hx162_1, hl162_1, hi162_1⟩ := at_T105 HR0_1.out x38_3 p162 q162
          cases e162
          replace hx162_0 := (HB.out.cell (World.block_lt_of_cell? w _ hx162_0)).trans hx162_0; replace hx162_1 := (HB.out.cell (World.block_lt_of_cell? w _ hx162_1)).trans hx162_1; have HR162_1 := Aside0.mk hi162_1; have HC162_1 := Aside0.mk hl162_1; clear hi162_1 hl162_1; replace p162 := eq_true p162; replace q162 := eq_true q162
          go_wp2_with (first | ((with_reducible refine gate_dst (N := 8) rfl ?_); (try (refine gate_guard (by rfl) ?_; dsimp only)); refine box_event ?hg (N := 8) ?hd (cs := #[.int .i64 0, .slice none 0 0]) (t := 105) ?hr ?_; (case hd => rfl); (case hg => rfl); (case hr => first | (go_simp; done) | (go_simp; rfl)); intro gb163 hg w34 hbox hb; have n0_ := Aside0.mk (Kd.R_below (by exact HO_3.out) hb); have n1_ := Aside0.mk (Kd.R_below (by exact HO_4.out) hb); have n2_ := Aside0.mk (blk_below (g := gb155) (o := .cells #[.string a0_0, .slice (some ad162) l0_1.length c0_1, .slice A0_2 l0_2.length c0_2] 80 (0, 0)) (by exact BK155.out) hb); have n3_ := Aside0.mk (below_step (by repeat (first | (with_reducible first | exact HB.out | apply below_alloc | apply pw_below_drewN | apply below_drew1 | refine below_set ?_ GE155.out) | exact HB.out)) hb); have n4_ := Aside0.mk (hbox); have n5_ := Aside0.mk ((by rw [hg]; exact (below_size (by repeat (first | (with_reducible first | exact HB.out | apply below_alloc | apply pw_below_drewN | apply below_drew1 | refine below_set ?_ GE155.out) | exact HB.out))) : w.heap.size ≤ gb163)); have n6_ := Aside0.mk ((by rw [hg]; exact (below_size (by repeat (first | (with_reducible first | exact HB.out | apply below_alloc | apply pw_below_drewN | apply below_drew1 | refine below_set ?_ GE155.out) | exact HB.out))) : w.heap.size ≤ gb163)); have n7_ := Aside0.mk ((by rw [hg]; exact Nat.ne_of_lt (blk_lt (g := gb155) (o := .cells #[.string a0_0, .slice (some ad162) l0_1.length c0_1, .slice A0_2 l0_2.length c0_2] 80 (0, 0)) (by exact BK155.out)) : gb155 ≠ gb163)); have n8_ := Aside0.mk ((by rw [hg]; exact Nat.ne_of_gt (blk_lt (g := gb155) (o := .cells #[.string a0_0, .slice (some ad162) l0_1.length c0_1, .slice A0_2 l0_2.length c0_2] 80 (0, 0)) (by exact BK155.out)) : gb163 ≠ gb155)); clear HO_3; clear HO_4; clear BK155; clear HB; have HO_3 := n0_; have HO_4 := n1_; have BK155 := n2_; have HB := n3_; have BK163 := n4_; have GW163 := n5_; have GE163 := n6_; have NB155_163 := n7_; have NB163_155 := n8_; clear n0_ n1_ n2_ n3_ n4_ n5_ n6_ n7_ n8_; clear hb hbox hg; have hnb35 := NB163_155.out; have hnc35 := NB155_163.out; have hcz36_0 : w34.cell? ⟨gb163, 0, none⟩ = some (.int .i64 0) := (blk_cell BK163.out 0).trans rfl; have hcz36_1 : w34.cell? ⟨gb163, 1, none⟩ = some (.slice none 0 0) := (blk_cell BK163.out 1).trans rfl; have hfz36_0 := blk_frozen BK163.out 0; have hfz36_1 := blk_frozen BK163.out 1))
          go_ret
          exact ⟨by first | rfl | (simp [errW_none, errW_some] <;> rfl) | (simp [*, errW_none, errW_some] <;> rfl), by repeat (first | (with_reducible first | exact HB.out | apply below_alloc | apply pw_below_drewN | apply below_drew1 | refine below_set ?_ GE155.out | refine below_set ?_ GE163.out) | exact HB.out)⟩
         rw [if_pos c29] at H
         have c29b0 : decide (((rd_T105 l0_1 x38_3).f0) < 1) = true := decide_eq_true c29; clear c29; obtain rfl := Option.some.inj H; have p162 : 0 ≤ (x38_3 : Int) := of_decide_eq_true (by first | (with_reducible assumption) | assumption)
         have q162 : x38_3 < (l0_1.length : Int) := of_decide_eq_true (by first | (with_reducible assumption) | assumption)
         obtain ⟨ad162, A162_1, c162_1, e162, hx162_0, hx162_1, hl162_1, hi162_1⟩ := at_T105 HR0_1.out x38_3 p162 q162
         cases e162
         replace hx162_0 := (HB.out.cell (World.block_lt_of_cell? w _ hx162_0)).trans hx162_0; replace hx162_1 := (HB.out.cell (World.block_lt_of_cell? w _ hx162_1)).trans hx162_1; have HR162_1 := Aside0.mk hi162_1; have HC162_1 := Aside0.mk hl162_1; clear hi162_1 hl162_1; replace p162 := eq_true p162; replace q162 := eq_true q162
         go_wp2_with (first | ((with_reducible refine gate_dst (N := 8) rfl ?_); (try (refine gate_guard (by rfl) ?_; dsimp only)); refine box_event ?hg (N := 8) ?hd (cs := #[.int .i64 0, .slice none 0 0]) (t := 105) ?hr ?_; (case hd => rfl); (case hg => rfl); (case hr => first | (go_simp; done) | (go_simp; rfl)); intro gb163 hg w30 hbox hb; have n0_ := Aside0.mk (Kd.R_below (by exact HO_3.out) hb); have n1_ := Aside0.mk (Kd.R_below (by exact HO_4.out) hb); have n2_ := Aside0.mk (blk_below (g := gb155) (o := .cells #[.string a0_0, .slice (some ad162) l0_1.length c0_1, .slice A0_2 l0_2.length c0_2] 80 (0, 0)) (by exact BK155.out) hb); have n3_ := Aside0.mk (below_step (by repeat (first | (with_reducible first | exact HB.out | apply below_alloc | apply pw_below_drewN | apply below_drew1 | refine below_set ?_ GE155.out) | exact HB.out)) hb); have n4_ := Aside0.mk (hbox); have n5_ := Aside0.mk ((by rw [hg]; exact (below_size (by repeat (first | (with_reducible first | exact HB.out | apply below_alloc | apply pw_below_drewN | apply below_drew1 | refine below_set ?_ GE155.out) | exact HB.out))) : w.heap.size ≤ gb163)); have n6_ := Aside0.mk ((by rw [hg]; exact (below_size (by repeat (first | (with_reducible first | exact HB.out | apply below_alloc | apply pw_below_drewN | apply below_drew1 | refine below_set ?_ GE155.out) | exact HB.out))) : w.heap.size ≤ gb163)); have n7_ := Aside0.mk ((by rw [hg]; exact Nat.ne_of_lt (blk_lt (g := gb155) (o := .cells #[.string a0_0, .slice (some ad162) l0_1.length c0_1, .slice A0_2 l0_2.length c0_2] 80 (0, 0)) (by exact BK155.out)) : gb155 ≠ gb163)); have n8_ := Aside0.mk ((by rw [hg]; exact Nat.ne_of_gt (blk_lt (g := gb155) (o := .cells #[.string a0_0, .slice (some ad162) l0_1.length c0_1, .slice A0_2 l0_2.length c0_2] 80 (0, 0)) (by exact BK155.out)) : gb163 ≠ gb155)); clear HO_3; clear HO_4; clear BK155; clear HB; have HO_3 := n0_; have HO_4 := n1_; have BK155 := n2_; have HB := n3_; have BK163 := n4_; have GW163 := n5_; have GE163 := n6_; have NB155_163 := n7_; have NB163_155 := n8_; clear n0_ n1_ n2_ n3_ n4_ n5_ n6_ n7_ n8_; clear hb hbox hg; have hnb31 := NB163_155.out; have hnc31 := NB155_163.out; have hcz32_0 : w30.cell? ⟨gb163, 0, none⟩ = some (.int .i64 0) := (blk_cell BK163.out 0).trans rfl; have hcz32_1 : w30.cell? ⟨gb163, 1, none⟩ = some (.slice none 0 0) := (blk_cell BK163.out 1).trans rfl; have hfz32_0 := blk_frozen BK163.out 0; have hfz32_1 := blk_frozen BK163.out 1))
         go_ret
         exact ⟨by first | rfl | (simp [errW_none, errW_some] <;> rfl) | (simp [*, errW_none, errW_some] <;> rfl), by repeat (first | (with_reducible first | exact HB.out | apply below_alloc | apply pw_below_drewN | apply below_drew1 | refine below_set ?_ GE155.out | refine below_set ?_ GE163.out) | exact HB.out)⟩
      rw [if_pos c9] at H
      have c9b0 : decide (x22_2 < (l0_2.length : Int)) = true := decide_eq_true c9; clear c9
      by_cases c10 : 0 ≤ x22_2
      rotate_left
      ·
       rw [if_neg c10] at H
       exact absurd H (by simp)
      rw [if_pos c10] at H
      have c10b0 : decide (0 ≤ x22_2) = true := decide_eq_true c10; clear c10
      by_cases c11 : x22_2 < (l0_2.length : Int)
      rotate_left
      ·
       rw [if_neg c11] at H
       exact absurd H (by simp)
      rw [if_pos c11] at H
      have c11b0 : decide (x22_2 < (l0_2.length : Int)) = true := decide_eq_true c11; clear c11; replace H := Option.bind_eq_some_iff.mp H; obtain ⟨t158, A120, H⟩ := H; replace H : (if t158 = true then (if x3_2.length < 8796093022208 then (grammarfile_Valid.l0 k2 (x3_2 ++ [(rd_T76 l0_2 x22_2).f0]) l0_2 (l0_2.length : Int) (wrap64 (x22_2 + 1)) a0_0 l0_1 l0_2) else (none)) else (some false)) = some r := H; have A12 := Aside0.mk A120; clear A120
      by_cases c13 : t158 = true
      rotate_left
      ·
       replace c13 := Bool.eq_false_iff.mpr c13; subst c13; have H1 : (some false) = some r := by rw [if_neg (show ¬ (false = true) by decide)] at H; exact H
       clear H; have H := H1; clear H1; obtain rfl := Option.some.inj H; have p156 : 0 ≤ (x22_2 : Int) := of_decide_eq_true (by first | (with_reducible assumption) | assumption)
       have q156 : x22_2 < (l0_2.length : Int) := of_decide_eq_true (by first | (with_reducible assumption) | assumption)
       obtain ⟨ad156, A156_1, c156_1, e156, hx156_0, hx156_1, hl156_1, hi156_1⟩ := at_T76 HR0_2.out x22_2 p156 q156
       cases e156
       replace hx156_0 := (HB.out.cell (World.block_lt_of_cell? w _ hx156_0)).trans hx156_0; replace hx156_1 := (HB.out.cell (World.block_lt_of_cell? w _ hx156_1)).trans hx156_1; have HR156_1 := Aside0.mk hi156_1; have HC156_1 := Aside0.mk hl156_1; clear hi156_1 hl156_1; replace p156 := eq_true p156; replace q156 := eq_true q156
       go_wp2_with (first | ((with_reducible refine gate_dst (N := 6) rfl ?_); (try (refine gate_guard (by rfl) ?_; dsimp only)); refine box_event ?hg (N := 6) ?hd (cs := #[.string (⟨#[]⟩ : ByteArray), .slice none 0 0]) (t := 76) ?hr ?_; (case hd => rfl); (case hg => rfl); (case hr => first | (go_simp; done) | (go_simp; rfl)); intro gb157 hg w21 hbox hb; have n0_ := Aside0.mk (Kd.R_below (by exact HO_3.out) hb); have n1_ := Aside0.mk (blk_below (g := gb155) (o := .cells #[.string a0_0, .slice A0_1 l0_1.length c0_1, .slice (some ad156) l0_2.length c0_2] 80 (0, 0)) (by exact BK155.out) hb); have n2_ := Aside0.mk (below_step (by repeat (first | (with_reducible first | exact HB.out | apply below_alloc | apply pw_below_drewN | apply below_drew1 | refine below_set ?_ GE155.out) | exact HB.out)) hb); have n3_ := Aside0.mk (hbox); have n4_ := Aside0.mk ((by rw [hg]; exact (below_size (by repeat (first | (with_reducible first | exact HB.out | apply below_alloc | apply pw_below_drewN | apply below_drew1 | refine below_set ?_ GE155.out) | exact HB.out))) : w.heap.size ≤ gb157)); have n5_ := Aside0.mk ((by rw [hg]; exact (below_size (by repeat (first | (with_reducible first | exact HB.out | apply below_alloc | apply pw_below_drewN | apply below_drew1 | refine below_set ?_ GE155.out) | exact HB.out))) : w.heap.size ≤ gb157)); have n6_ := Aside0.mk ((by rw [hg]; exact Nat.ne_of_lt (blk_lt (g := gb155) (o := .cells #[.string a0_0, .slice A0_1 l0_1.length c0_1, .slice (some ad156) l0_2.length c0_2] 80 (0, 0)) (by exact BK155.out)) : gb155 ≠ gb157)); have n7_ := Aside0.mk ((by rw [hg]; exact Nat.ne_of_gt (blk_lt (g := gb155) (o := .cells #[.string a0_0, .slice A0_1 l0_1.length c0_1, .slice (some ad156) l0_2.length c0_2] 80 (0, 0)) (by exact BK155.out)) : gb157 ≠ gb155)); clear HO_3; clear BK155; clear HB; have HO_3 := n0_; have BK155 := n1_; have HB := n2_; have BK157 := n3_; have GW157 := n4_; have GE157 := n5_; have NB155_157 := n6_; have NB157_155 := n7_; clear n0_ n1_ n2_ n3_ n4_ n5_ n6_ n7_; clear hb hbox hg; have hnb22 := NB157_155.out; have hnc22 := NB155_157.out; have hcz23_0 : w21.cell? ⟨gb157, 0, none⟩ = some (.string (⟨#[]⟩ : ByteArray)) := (blk_cell BK157.out 0).trans rfl; have hcz23_1 : w21.cell? ⟨gb157, 1, none⟩ = some (.slice none 0 0) := (blk_cell BK157.out 1).trans rfl; have hfz23_0 := blk_frozen BK157.out 0; have hfz23_1 := blk_frozen BK157.out 1) | ((with_reducible refine gate_callee (f := 57) rfl ?_); refine goesL_ (some 27) rfl rfl Tryz.func57 (by kernel_rfl) rfl #[.agg #[.string ((rd_T76 l0_2 x22_2).f0), .slice A156_1 ((rd_T76 l0_2 x22_2).f1).length c156_1]] rfl (by (try simp only [List.map_toArray, List.map_cons, List.map_nil]); first | done | rfl | (simp only [List.length_drop, List.length_take]; rfl)) ?_; (with_reducible refine (grammarfile_rule.calls ((rd_T76 l0_2 x22_2).f0) _ _ ((rd_T76 l0_2 x22_2).f1) false _ ?side1 ?side2 A12.out).mono ?_); (case side1 => exact Kd.C_below HR156_1.out (by repeat (first | (with_reducible first | exact HB.out | apply below_alloc | apply pw_below_drewN | apply below_drew1 | refine below_set ?_ GE155.out | refine below_set ?_ GE157.out) | exact HB.out))); (case side2 => exact HC156_1.out); rintro e w24 ⟨rfl, hb⟩; refine ⟨_, rfl, ?_⟩; have n0_ := Aside0.mk (Kd.R_below (by exact (Kd.R_mono (Kd.R_far (p := ⟨gb157, 1, none⟩) (Kd.R_far (p := ⟨gb157, 0, none⟩) (Kd.R_types HO_3.out BK157.out (by decide)) (fun _ hk => hk.2) (.string ((rd_T76 l0_2 x22_2).f0))) (fun _ hk => hk.2) (.slice A156_1 ((rd_T76 l0_2 x22_2).f1).length c156_1)) (fun _ h_ => h_.1))) hb); have n1_ := Aside0.mk (blk_below (g := gb155) (o := .cells #[.string a0_0, .slice A0_1 l0_1.length c0_1, .slice (some ad156) l0_2.length c0_2] 80 (0, 0)) (by refine blk_far ?_ NB155_157.out _; refine blk_far ?_ NB155_157.out _; exact BK155.out) hb); have n2_ := Aside0.mk (blk_below (g := gb157) (o := .cells #[.string ((rd_T76 l0_2 x22_2).f0), .slice A156_1 ((rd_T76 l0_2 x22_2).f1).length c156_1] 76 (0, 0)) (by refine blk_put (cs := #[.string ((rd_T76 l0_2 x22_2).f0), .slice none 0 0]) ?_ 1 _ rfl; refine blk_put (cs := #[.string (⟨#[]⟩ : ByteArray), .slice none 0 0]) ?_ 0 _ rfl; exact BK157.out) hb); have n3_ := Aside0.mk (below_step (by repeat (first | (with_reducible first | exact HB.out | apply below_alloc | apply pw_below_drewN | apply below_drew1 | refine below_set ?_ GE155.out | refine below_set ?_ GE157.out) | exact HB.out)) hb); clear HO_3; clear BK155; clear BK157; clear HB; have HO_3 := n0_; have BK155 := n1_; have BK157 := n2_; have HB := n3_; clear n0_ n1_ n2_ n3_; (try clear hb); (try clear hb2); (try clear hk); (try clear hi)))
       go_ret
       exact ⟨by first | rfl | (simp [errW_none, errW_some] <;> rfl) | (simp [*, errW_none, errW_some] <;> rfl), by repeat (first | (with_reducible first | exact HB.out | apply below_alloc | apply pw_below_drewN | apply below_drew1 | refine below_set ?_ GE155.out | refine below_set ?_ GE157.out) | exact HB.out)⟩
      subst c13; have H1 : (if x3_2.length < 8796093022208 then (grammarfile_Valid.l0 k2 (x3_2 ++ [(rd_T76 l0_2 x22_2).f0]) l0_2 (l0_2.length : Int) (wrap64 (x22_2 + 1)) a0_0 l0_1 l0_2) else (none)) = some r := by rw [if_pos rfl] at H; exact H
      clear H; have H := H1; clear H1
      by_cases c14 : x3_2.length < 8796093022208
      rotate_left
      ·
       rw [if_neg c14] at H
       exact absurd H (by simp)
      rw [if_pos c14] at H
      have LMc14 := Aside0.mk c14; clear c14; obtain ⟨y159, hy159⟩ : ∃ y_ : List ByteArray, y_ = (x3_2 ++ [(rd_T76 l0_2 x22_2).f0]) := ⟨_, rfl⟩
      replace H : (grammarfile_Valid.l0 k2 y159 l0_2 (l0_2.length : Int) (wrap64 (x22_2 + 1)) a0_0 l0_1 l0_2) = some r := by first | (rw [hy159]; with_reducible exact H) | (have H2_ := (Option.bind_some _ _).symm.trans H; rw [hy159]; with_reducible exact H2_) | (have H2_ := (Option.bind_some _ _).symm.trans H; with_reducible exact H2_) | with_reducible exact H | (rw [hy159]; exact H) | exact H
      have Ny159 := Aside0.mk hy159; clear hy159; have H' := Aside0.mk H; clear H; have p156 : 0 ≤ (x22_2 : Int) := of_decide_eq_true (by first | (with_reducible assumption) | assumption)
      have q156 : x22_2 < (l0_2.length : Int) := of_decide_eq_true (by first | (with_reducible assumption) | assumption)
      obtain ⟨ad156, A156_1, c156_1, e156, hx156_0, hx156_1, hl156_1, hi156_1⟩ := at_T76 HR0_2.out x22_2 p156 q156
      cases e156
      replace hx156_0 := (HB.out.cell (World.block_lt_of_cell? w _ hx156_0)).trans hx156_0; replace hx156_1 := (HB.out.cell (World.block_lt_of_cell? w _ hx156_1)).trans hx156_1; have HR156_1 := Aside0.mk hi156_1; have HC156_1 := Aside0.mk hl156_1; clear hi156_1 hl156_1; replace p156 := eq_true p156; replace q156 := eq_true q156
      go_wp2_with (first | ((with_reducible refine gate_dst (N := 6) rfl ?_); (try (refine gate_guard (by rfl) ?_; dsimp only)); refine box_event ?hg (N := 6) ?hd (cs := #[.string (⟨#[]⟩ : ByteArray), .slice none 0 0]) (t := 76) ?hr ?_; (case hd => rfl); (case hg => rfl); (case hr => first | (go_simp; done) | (go_simp; rfl)); intro gb157 hg w15 hbox hb; have n0_ := Aside0.mk (Kd.R_below (by exact HO_3.out) hb); have n1_ := Aside0.mk (blk_below (g := gb155) (o := .cells #[.string a0_0, .slice A0_1 l0_1.length c0_1, .slice (some ad156) l0_2.length c0_2] 80 (0, 0)) (by exact BK155.out) hb); have n2_ := Aside0.mk (below_step (by repeat (first | (with_reducible first | exact HB.out | apply below_alloc | apply pw_below_drewN | apply below_drew1 | refine below_set ?_ GE155.out) | exact HB.out)) hb); have n3_ := Aside0.mk (hbox); have n4_ := Aside0.mk ((by rw [hg]; exact (below_size (by repeat (first | (with_reducible first | exact HB.out | apply below_alloc | apply pw_below_drewN | apply below_drew1 | refine below_set ?_ GE155.out) | exact HB.out))) : w.heap.size ≤ gb157)); have n5_ := Aside0.mk ((by rw [hg]; exact (below_size (by repeat (first | (with_reducible first | exact HB.out | apply below_alloc | apply pw_below_drewN | apply below_drew1 | refine below_set ?_ GE155.out) | exact HB.out))) : w.heap.size ≤ gb157)); have n6_ := Aside0.mk ((by rw [hg]; exact Nat.ne_of_lt (blk_lt (g := gb155) (o := .cells #[.string a0_0, .slice A0_1 l0_1.length c0_1, .slice (some ad156) l0_2.length c0_2] 80 (0, 0)) (by exact BK155.out)) : gb155 ≠ gb157)); have n7_ := Aside0.mk ((by rw [hg]; exact Nat.ne_of_gt (blk_lt (g := gb155) (o := .cells #[.string a0_0, .slice A0_1 l0_1.length c0_1, .slice (some ad156) l0_2.length c0_2] 80 (0, 0)) (by exact BK155.out)) : gb157 ≠ gb155)); clear HO_3; clear BK155; clear HB; have HO_3 := n0_; have BK155 := n1_; have HB := n2_; have BK157 := n3_; have GW157 := n4_; have GE157 := n5_; have NB155_157 := n6_; have NB157_155 := n7_; clear n0_ n1_ n2_ n3_ n4_ n5_ n6_ n7_; clear hb hbox hg; have hnb16 := NB157_155.out; have hnc16 := NB155_157.out; have hcz17_0 : w15.cell? ⟨gb157, 0, none⟩ = some (.string (⟨#[]⟩ : ByteArray)) := (blk_cell BK157.out 0).trans rfl; have hcz17_1 : w15.cell? ⟨gb157, 1, none⟩ = some (.slice none 0 0) := (blk_cell BK157.out 1).trans rfl; have hfz17_0 := blk_frozen BK157.out 0; have hfz17_1 := blk_frozen BK157.out 1) | ((with_reducible refine gate_callee (f := 57) rfl ?_); refine goesL_ (some 27) rfl rfl Tryz.func57 (by kernel_rfl) rfl #[.agg #[.string ((rd_T76 l0_2 x22_2).f0), .slice A156_1 ((rd_T76 l0_2 x22_2).f1).length c156_1]] rfl (by (try simp only [List.map_toArray, List.map_cons, List.map_nil]); first | done | rfl | (simp only [List.length_drop, List.length_take]; rfl)) ?_; (with_reducible refine (grammarfile_rule.calls ((rd_T76 l0_2 x22_2).f0) _ _ ((rd_T76 l0_2 x22_2).f1) true _ ?side1 ?side2 A12.out).mono ?_); (case side1 => exact Kd.C_below HR156_1.out (by repeat (first | (with_reducible first | exact HB.out | apply below_alloc | apply pw_below_drewN | apply below_drew1 | refine below_set ?_ GE155.out | refine below_set ?_ GE157.out) | exact HB.out))); (case side2 => exact HC156_1.out); rintro e w18 ⟨rfl, hb⟩; refine ⟨_, rfl, ?_⟩; have n0_ := Aside0.mk (Kd.R_below (by exact (Kd.R_mono (Kd.R_far (p := ⟨gb157, 1, none⟩) (Kd.R_far (p := ⟨gb157, 0, none⟩) (Kd.R_types HO_3.out BK157.out (by decide)) (fun _ hk => hk.2) (.string ((rd_T76 l0_2 x22_2).f0))) (fun _ hk => hk.2) (.slice A156_1 ((rd_T76 l0_2 x22_2).f1).length c156_1)) (fun _ h_ => h_.1))) hb); have n1_ := Aside0.mk (blk_below (g := gb155) (o := .cells #[.string a0_0, .slice A0_1 l0_1.length c0_1, .slice (some ad156) l0_2.length c0_2] 80 (0, 0)) (by refine blk_far ?_ NB155_157.out _; refine blk_far ?_ NB155_157.out _; exact BK155.out) hb); have n2_ := Aside0.mk (blk_below (g := gb157) (o := .cells #[.string ((rd_T76 l0_2 x22_2).f0), .slice A156_1 ((rd_T76 l0_2 x22_2).f1).length c156_1] 76 (0, 0)) (by refine blk_put (cs := #[.string ((rd_T76 l0_2 x22_2).f0), .slice none 0 0]) ?_ 1 _ rfl; refine blk_put (cs := #[.string (⟨#[]⟩ : ByteArray), .slice none 0 0]) ?_ 0 _ rfl; exact BK157.out) hb); have n3_ := Aside0.mk (below_step (by repeat (first | (with_reducible first | exact HB.out | apply below_alloc | apply pw_below_drewN | apply below_drew1 | refine below_set ?_ GE155.out | refine below_set ?_ GE157.out) | exact HB.out)) hb); clear HO_3; clear BK155; clear BK157; clear HB; have HO_3 := n0_; have BK155 := n1_; have BK157 := n2_; have HB := n3_; clear n0_ n1_ n2_ n3_; (try clear hb); (try clear hb2); (try clear hk); (try clear hi); have hcz19_0 : w18.cell? ⟨gb157, 0, none⟩ = some (.string ((rd_T76 l0_2 x22_2).f0)) := (blk_cell BK157.out 0).trans rfl; have hcz19_1 : w18.cell? ⟨gb157, 1, none⟩ = some (.slice A156_1 ((rd_T76 l0_2 x22_2).f1).length c156_1) := (blk_cell BK157.out 1).trans rfl; have hfz19_0 := blk_frozen BK157.out 0; have hfz19_1 := blk_frozen BK157.out 1) | ((with_reducible refine gate_builtin (b := .append) (xs := #[.tmp 29, .tmp 32]) rfl ?_); (try (refine gate_guard (by rfl) ?_; dsimp only)); at_builtin; refine Kd.R_append Kd.string (w0 := w) w.heap.size rfl (.tmp 29) (.tmp 32) 31 9 (.string ⟨#[]⟩) 16 rfl Tryz.underlying31 info9 rfl (by decide) (by omega) u3 x3_2 ((rd_T76 l0_2 x22_2).f0) [.string ((rd_T76 l0_2 x22_2).f0)] (fun _ => True) (fun _ => False) rfl rfl ?aP (fun _ hk => hk.elim) ?aF ?aO ?aB ?aS ?aL ?_; (case aP => exact rfl); (case aB => exact (by repeat (first | (with_reducible first | exact HB.out | apply below_alloc | apply pw_below_drewN | apply below_drew1 | refine below_set ?_ GE155.out | refine below_set ?_ GE157.out) | exact HB.out))); (case aF => exact (fun _ _ => trivial)); (case aO => exact (by exact HO_3.out)); (case aS => exact (below_size (by repeat (first | (with_reducible first | exact HB.out | apply below_alloc | apply pw_below_drewN | apply below_drew1 | refine below_set ?_ GE155.out | refine below_set ?_ GE157.out) | exact HB.out)))); (case aL => have := LMc14.out; omega); intro v160 w20 ho hb hg hat; rw [← Ny159.out] at ho; have n0_ := Aside0.mk (blk_grown (g := gb155) (o := .cells #[.string a0_0, .slice A0_1 l0_1.length c0_1, .slice (some ad156) l0_2.length c0_2] 80 (0, 0)) (by exact BK155.out) hg (Kd.R_ne HO_3.out BK155.out (by decide))); have n1_ := Aside0.mk (blk_grown (g := gb157) (o := .cells #[.string ((rd_T76 l0_2 x22_2).f0), .slice A156_1 ((rd_T76 l0_2 x22_2).f1).length c156_1] 76 (0, 0)) (by exact BK157.out) hg (Kd.R_ne HO_3.out BK157.out (by decide))); have n2_ := Aside0.mk (hb); have n3_ := Aside0.mk (ho); clear BK155; clear BK157; clear HB; clear HO_3; have BK155 := n0_; have BK157 := n1_; have HB := n2_; have HO161 := n3_; clear n0_ n1_ n2_ n3_; clear ho hb hg hat))
      go_roundg k2
      case measure => have := HJ1.out; have := HK2.out; omega
      case rel => exact ⟨(y159), (wrap64 (x22_2 + 1)), (by first | rfl | (simp; done) | (simp [*]; done)), H', ⟨by have := HJ1.out; have := HK2.out; omega⟩, ⟨by exact HO161.out⟩, ⟨by exact BK155.out⟩, ⟨by repeat (first | (with_reducible first | exact HB.out | apply below_alloc | apply pw_below_drewN | apply below_drew1 | refine below_set ?_ GE155.out | refine below_set ?_ GE157.out) | exact HB.out)⟩⟩
   subst c7; have H1 : (some false) = some r := by rw [if_pos rfl] at H; exact H
   clear H; have H := H1; clear H1; obtain rfl := Option.some.inj H
   go_wp2
   go_ret
   exact ⟨by first | rfl | (simp [errW_none, errW_some] <;> rfl) | (simp [*, errW_none, errW_some] <;> rfl), by repeat (first | (with_reducible first | exact HB.out | apply below_alloc | apply pw_below_drewN | apply below_drew1 | refine below_set ?_ GE155.out) | exact HB.out)⟩
def prices_names.ruleOf (s : ByteArray) : S76 := ⟨s, [⟨⟨2, ⟨#[]⟩, []⟩, 0⟩]⟩
def prices_names.go (k : Nat) (l : List ByteArray) : Nat → Nat → Option Bool
 | 0, _ => some true
 | n + 1, i => (grammarfile_Valid.f k (l.getD i ByteArray.empty) [] [prices_names.ruleOf (l.getD i ByteArray.empty)]).bind fun t => if t = true then (slices_Contains_string_string.f k (l.take i) (l.getD i ByteArray.empty)).bind fun c => if c = true then some false else prices_names.go k l n (i + 1) else some false
theorem prices_names.C_one_of {α : Type} (d : Kd α) (w : World) (ad : Addr) (x : α) (cs : List Value) (hk : d.K w x cs) (hc : ∀ j u, cs[j]? = some u → w.cell? (ad.add j) = some u) : d.C w (some ad) 1 [x] := by
 refine ⟨rfl, by decide, fun _ => ⟨ad, rfl, fun j p hj => ?_⟩⟩
 obtain rfl : j = 0 := by
  rcases j with _ | j
  ·
   rfl
  ·
   simp at hj
 simp at hj
 subst hj
 refine ⟨cs, d.K_len hk, hk, fun i u hu => ?_⟩
 have := hc i u hu
 simpa using this
theorem prices_names.blk_cells {w : World} {g : Nat} {t : TypeId} {cs : List Value} (h : w.heap[g]? = some (.cells cs.toArray t (0, 0))) (j : Nat) (u : Value) (hu : cs[j]? = some u) : w.cell? ((⟨g, 0, none⟩ : Addr).add j) = some u := by
 have h1 : w.cell? ⟨g, j, none⟩ = some u := by
  rw [blk_cell h j, ← hu]
  simp
 unfold Addr.add
 split
 ·
  rename_i h0; subst h0; exact h1
 ·
  simpa using h1
theorem prices_names.ruleC (w : World) (g1 g2 : Nat) (s : ByteArray) (h1 : w.heap[g1]? = some (.cells #[.int .i64 2, .string ⟨#[]⟩, .slice none 0 0, .int .i64 0] 73 (0, 0))) (h2 : w.heap[g2]? = some (.cells #[.string s, .slice (some ⟨g1, 0, none⟩) 1 1] 76 (0, 0))) :
  Kd.C k76 w (some ⟨g2, 0, none⟩) 1 [prices_names.ruleOf s] := by
 refine prices_names.C_one_of k76 w ⟨g2, 0, none⟩ (prices_names.ruleOf s) [.string s, .slice (some ⟨g1, 0, none⟩) 1 1] ?_ (fun j u hu => prices_names.blk_cells (cs := [.string s, .slice (some ⟨g1, 0, none⟩) 1 1]) h2 j u hu)
 refine k76_mk w (prices_names.ruleOf s) (A1 := some ⟨g1, 0, none⟩) (c1 := 1) (Nat.le_refl _) ?_
 refine prices_names.C_one_of k73 w ⟨g1, 0, none⟩ ⟨⟨2, ⟨#[]⟩, []⟩, 0⟩ [.int .i64 2, .string ⟨#[]⟩, .slice none 0 0, .int .i64 0] ?_ (fun j u hu => prices_names.blk_cells (cs := [.int .i64 2, .string ⟨#[]⟩, .slice none 0 0, .int .i64 0]) h1 j u hu)
 exact k73_mk w ⟨⟨2, ⟨#[]⟩, []⟩, 0⟩ (A2 := none) (c2 := 0) (Nat.le_refl _) (Kd.C_nil _ _)
theorem prices_names.takeC {w : World} {A : Addr} {l : List ByteArray} (hc : ∀ j, j < l.length → w.cell? (A.add j) = some (.string (l.getD j ByteArray.empty))) {i : Nat} (hi : i ≤ l.length) (hl : l.length ≤ 120 := by omega) : Kd.C Kd.string w (some A) i (l.take i) := by
 have hlen : (l.take i).length = i := by rw [List.length_take]; omega
 refine ⟨hlen, by omega, fun _ => ⟨A, rfl, fun j p hj => ⟨[.string p], rfl, rfl, fun q u hu => ?_⟩⟩⟩
 obtain rfl : q = 0 := by
  rcases q with _ | q
  ·
   rfl
  ·
   simp at hu
 simp at hu
 subst hu; have hji : j < i := by
  rcases Nat.lt_or_ge j i with h | h
  ·
   exact h
  ·
   rw [List.getElem?_eq_none (by omega)] at hj; cases hj
 rw [List.getElem?_take, if_pos hji] at hj
 have e1 : Kd.string.sz = 1 := rfl; have h1 := hc j (by omega)
 rw [List.getD_eq_getElem?_getD, hj] at h1
 rw [e1, Nat.mul_one, Nat.add_zero]
 exact h1
theorem prices_names.ruleC3 (wr : World) (s : ByteArray) (o : Obj) : Kd.C k76 (((wr.alloc (.cells #[.int .i64 2, .string ⟨#[]⟩, .slice none 0 0, .int .i64 0] 73)).alloc (.cells #[.string s, .slice (some ⟨wr.heap.size, 0, none⟩) 1 1] 76)).alloc o) (some ⟨wr.heap.size + 1, 0, none⟩) 1 [prices_names.ruleOf s] := by
 have h2 := blk_new (wr.alloc (.cells #[.int .i64 2, .string ⟨#[]⟩, .slice none 0 0, .int .i64 0] 73)) (.cells #[.string s, .slice (some ⟨wr.heap.size, 0, none⟩) 1 1] 76)
 rw [World.size_alloc] at h2
 exact prices_names.ruleC _ wr.heap.size (wr.heap.size + 1) s (blk_alloc (blk_alloc (blk_new wr _) _) _) (blk_alloc h2 _)
def prices_names.nR (k : Nat) (l : List ByteArray) (r : Bool) (w : World) (v : Value) (wr : World) : Prop := ∃ i : Nat, i ≤ l.length ∧ v = .int .i64 i ∧ prices_names.go k l (l.length - i) i = some r ∧ Below w.heap.size w wr
set_option maxRecDepth 100000 in
set_option maxHeartbeats 2000000 in
theorem prices_names.names_calls (k : Nat) (A : Addr) (c : Nat) (l : List ByteArray) (r : Bool) (w : World) (hl : l.length ≤ 120) (hl0 : 0 < l.length) (hc : l.length ≤ c) (hcell : ∀ j, j < l.length → w.cell? (A.add j) = some (.string (l.getD j ByteArray.empty))) (h : prices_names.go k l l.length 0 = some r) :
  Calls Tryz.prog 26 #[.slice (some A) l.length c] w fun e w' => e = .returned (.bool r) ∧ Below w.heap.size w w' := by
 have H := Aside0.mk h; have HC := Aside0.mk hcell; clear h hcell; obtain ⟨n, hn⟩ : ∃ n, n = l.length := ⟨_, rfl⟩
 have HN := Aside0.mk hn
 rw [← hn] at hl hl0 hc ⊢
 clear hn
 go_enter Tryz.func26, Tryz.ntmps26
 go_wp2
 go_loopw [3, 4, 5, 11, 12, 13, 14, 15, 16, 17, 18, 19, 20, 21, 22, 23, 24, 25, 26, 27, 28, 29, 30, 31, 32, 33, 34] (fun v3 v4 v5 v11 v12 v13 v14 v15 v16 v17 v18 v19 v20 v21 v22 v23 v24 v25 v26 v27 v28 v29 v30 v31 v32 v33 v34 wr => prices_names.nR k l r w v11 wr) (fun v3 v4 v5 v11 v12 v13 v14 v15 v16 v17 v18 v19 v20 v21 v22 v23 v24 v25 v26 v27 v28 v29 v30 v31 v32 v33 v34 wr => n - (intOf v11).toNat)
 case atStart => exact ⟨0, Nat.zero_le _, rfl, H.out, Below.refl _ _⟩
 case round =>
  obtain ⟨i, hi, rfl, hg, hb⟩ := hrel; have hN := HN.out
  by_cases hlt : i < n
  rotate_left
  ·
   obtain rfl : i = n := by omega
   obtain rfl : r = true := by
    rw [← hN, Nat.sub_self] at hg
    exact (Option.some.inj hg).symm
   clear hN HN
   go_wp2
   go_ret
   exact ⟨rfl, hb⟩
  have hx : w.cell? (A.add i) = some (.string (l.getD i ByteArray.empty)) := HC.out i (by omega)
  have hxr : wr.cell? (A.add i) = some (.string (l.getD i ByteArray.empty)) := pw_cell_below hb hx; obtain ⟨m, hm⟩ : ∃ m, l.length - i = m + 1 := ⟨l.length - i - 1, by omega⟩
  rw [hm] at hg
  have hm2 : l.length - (i + 1) = m := by omega
  unfold prices_names.go at hg
  have HCt := Aside0.mk (prices_names.takeC (w := w) HC.out (i := i) (by omega))
  generalize l.getD i ByteArray.empty = s at *
  have HB := Aside0.mk hb; have HM2 := Aside0.mk hm2; have HLEN := Aside0.mk (show (l.take i).length = i by rw [List.length_take]; omega)
  clear hx hm hb hm2
  cases hv : grammarfile_Valid.f k s [] [prices_names.ruleOf s] with
  | none => rw [hv] at hg; cases hg
  | some t =>
   rw [hv] at hg
   have HV := Aside0.mk hv; clear hv hN
   simp only [Option.bind_some] at hg
   cases t with
   | false =>
    simp only [Bool.false_eq_true, if_false, Option.some.injEq] at hg
    subst hg; clear HN HM2
    go_wp2_with fail
    refine (grammarfile_Valid.calls k s none 0 [] (some ⟨wr.heap.size + 1, 0, none⟩) 1 [prices_names.ruleOf s] false _ (Kd.C_nil _ _) (Nat.le_refl _) ?h1 (Nat.le_refl _) HV.out).mono ?_
    case h1 => exact prices_names.ruleC3 wr s _
    rintro e w1 ⟨rfl, hb1⟩; have HB1 := Aside0.mk (below_step (below_alloc (below_alloc (below_alloc HB.out _) _) _) hb1); clear hb1
    go_wp2
    go_ret
    exact ⟨rfl, HB1.out⟩
   | true =>
    simp only [if_true] at hg
    cases hc2 : slices_Contains_string_string.f k (l.take i) s with
    | none => rw [hc2] at hg; cases hg
    | some t2 =>
     rw [hc2] at hg
     have HK := Aside0.mk hc2; clear hc2
     simp only [Option.bind_some] at hg
     have HG := Aside0.mk hg; clear hg
     go_wp2_with fail
     refine (grammarfile_Valid.calls k s none 0 [] (some ⟨wr.heap.size + 1, 0, none⟩) 1 [prices_names.ruleOf s] true _ (Kd.C_nil _ _) (Nat.le_refl _) ?h1 (Nat.le_refl _) HV.out).mono ?_
     case h1 => exact prices_names.ruleC3 wr s _
     rintro e w1 ⟨rfl, hb1⟩; have HB1 := Aside0.mk (below_step (below_alloc (below_alloc (below_alloc HB.out _) _) _) hb1); clear hb1
     go_wp2_with fail
     have key := slices_Contains_string_string.calls k (some A) c (l.take i) s t2 w1 (by rw [HLEN.out]; exact Kd.C_below HCt.out HB1.out) (by rw [HLEN.out]; omega) HK.out
     rw [HLEN.out] at key
     refine key.mono ?_
     clear key; rintro e w2 ⟨rfl, hd⟩; have HB2 := Aside0.mk (below_step HB1.out hd.below); clear hd
     cases t2 with
     | true =>
      have hr : r = false := by have := HG.out; simp at this; exact this
      subst hr; clear HG
      go_wp2
      go_ret
      exact ⟨rfl, HB2.out⟩
     | false =>
      have HG' := Aside0.mk (show prices_names.go k l m (i + 1) = some r by have := HG.out; simpa using this)
      clear HG
      go_wp2
      go_roundw
      case rel => exact ⟨i + 1, by have := HN.out; omega, by go_num, by rw [HM2.out]; exact HG'.out, HB2.out⟩
      case measure => simp [intOf]; omega
set_option maxHeartbeats 1000000 in
theorem prices_names.names_long (A : Option Addr) (c n : Nat) (w : World) (hn : 120 < n) (hm : n ≤ 9223372036854775807) : Calls Tryz.prog 26 #[.slice A n c] w fun e w' => e = .returned (.bool false) ∧ Below w.heap.size w w' := by
 go_enter Tryz.func26, Tryz.ntmps26
 go_wp2
 go_ret
 exact ⟨rfl, Below.refl _ _⟩
set_option maxHeartbeats 1000000 in
theorem prices_names.names_nil (A : Option Addr) (c : Nat) (w : World) : Calls Tryz.prog 26 #[.slice A 0 c] w fun e w' => e = .returned (.bool true) ∧ Below w.heap.size w w' := by
 go_enter Tryz.func26, Tryz.ntmps26
 go_wp2
 go_loop [11, 12] (fun v11 v12 => v11 = .int .i64 0) (fun v11 v12 => 0)
 case atStart => rfl
 case round =>
  subst hrel
  go_wp2
  go_ret
  exact ⟨rfl, Below.refl _ _⟩
def prices_names.f (k : Nat) (l0 : List ByteArray) : Option Bool := if 120 < l0.length then some false else prices_names.go k l0 l0.length 0
theorem prices_names.calls (k : Nat) (A0 : Option Addr) (c0 : Nat) (l0 : List ByteArray) (r : Bool) (w : World) (hr0 : Kd.C Kd.string w A0 l0.length l0) (hc0 : l0.length ≤ c0) (h : prices_names.f k l0 = some r) :
  Calls Tryz.prog 26 #[.slice A0 l0.length c0] w fun e w' => e = .returned (.bool r) ∧ Below w.heap.size w w' := by
 unfold prices_names.f at h
 by_cases h1 : 120 < l0.length
 rotate_left
 ·
  rw [if_neg h1] at h
  by_cases h0 : l0.length = 0
  rotate_left
  ·
   obtain ⟨ad, rfl, hc⟩ := hr0.2.2 (by omega)
   refine prices_names.names_calls k ad c0 l0 r w (by omega) (by omega) hc0 (fun j hj => ?_) h
   obtain ⟨c, _, hk, hcell⟩ := hc j (l0.getD j ByteArray.empty) (by rw [List.getD_eq_getElem?_getD, List.getElem?_eq_getElem hj]; rfl)
   have hk' : c = [.string (l0.getD j ByteArray.empty)] := hk; have h1 := hcell 0 (.string (l0.getD j ByteArray.empty)) (by rw [hk']; rfl)
   have e1 : Kd.string.sz = 1 := rfl
   rw [e1, Nat.mul_one, Nat.add_zero] at h1
   exact h1
  rw [h0] at h ⊢
  obtain rfl := Option.some.inj h
  exact prices_names.names_nil A0 c0 w
 rw [if_pos h1] at h
 obtain rfl := Option.some.inj h
 exact prices_names.names_long A0 c0 l0.length w h1 hr0.2.1
def strings_Split.splitP (s sep : ByteArray) : List ByteArray := Lib.splitB sep 0 (Lib.countB s sep) s
def strings_Split.f (a0 a1 : ByteArray) : Option (List ByteArray) := if a0.size < 4294967281 ∧ 1 ≤ a1.size ∧ Lib.countB a0 a1 < 4294967281 then some (strings_Split.splitP a0 a1) else none
theorem strings_Split.split_own (w : World) (l : List ByteArray) (n : Nat) (hl : l.length = n) (hn : n ≤ 9223372036854775807) :
  Kd.R Kd.string 9 (w.alloc (.cells (l.map Value.string).toArray 9)) w.heap.size (fun _ => True) (.slice (some ⟨w.heap.size, 0, none⟩) n n) l := by
 subst hl
 refine Kd.R_of_own (h1 := fun _ => rfl) ⟨by simp [encs], .inr ⟨w.heap.size, l.length, (l.map Value.string).toArray, rfl, Nat.le_refl _, blk_new w _, Nat.le_refl _, by unfold maxLen; omega, by simp, ?_⟩⟩ (fun _ _ => trivial)
 simp [encs, List.take_of_length_le]
theorem strings_Split.calls (a0 a1 : ByteArray) (r : List ByteArray) (w : World) (hG : Glob w) (h : strings_Split.f a0 a1 = some r) :
  Calls Tryz.prog 27 #[.string a0, .string a1] w fun e w' => ∃ v0_ : Value, e = .returned (v0_) ∧ Kd.R Kd.string 9 w' w.heap.size (fun _ => True) v0_ r ∧ Below w.heap.size w w' := by
 unfold strings_Split.f at h
 split at h
 ·
  rename_i hc
  obtain ⟨h1, h2, h3⟩ := hc; obtain rfl := Option.some.inj h; obtain ⟨⟨m, hm⟩, _⟩ := hG
  refine (Tryz.strings_Split a0 a1 m w h1 hm h2).mono ?_
  rintro e w' ⟨rfl, rfl⟩
  exact ⟨_, rfl, strings_Split.split_own w _ _ (Lib.splitB_all a1 h2 0 _ a0 rfl) (by omega), below_alloc (Below.refl _ _) _⟩
 ·
  cases h
def prices_fields.blankP (x : Nat) : Bool := x == 32 || x == 9
theorem prices_fields.blank_calls (x : Nat) (hx : x ≤ 1114111) (W : World) : Calls Tryz.prog 45 #[.int .i32 x] W fun e w' => e = .returned (.bool (prices_fields.blankP x)) ∧ Below W.heap.size W w' := by
 have hB : prices_fields.blankP x = (decide ((x : Int) = 32) || decide ((x : Int) = 9)) := by
  unfold prices_fields.blankP
  rw [Bool.eq_iff_iff]
  simp
  omega
 have HB := Aside0.mk hB; clear hB
 by_cases h1 : (x : Int) = 32
 rotate_left
 ·
  have e1 : ((x : Int) == 32) = false := beq_eq_false_iff_ne.2 h1; have H1 := Aside0.mk h1; clear h1
  go_enter Tryz.func45, Tryz.ntmps45
  go_wp2
  go_ret
  refine ⟨?_, Below.refl _ _⟩
  rw [HB.out]
  simp [H1.out]
  try rw [Bool.eq_iff_iff]; simp
 have e1 : ((x : Int) == 32) = true := beq_iff_eq.2 h1; have H1 := Aside0.mk h1; clear h1
 go_enter Tryz.func45, Tryz.ntmps45
 go_wp2
 go_ret
 refine ⟨?_, Below.refl _ _⟩
 rw [HB.out]
 simp [H1.out]
theorem prices_fields.blank_grows (w : World) : PredGrows Tryz.prog 45 #[] prices_fields.blankP w := fun W x hx _ => prices_fields.blank_calls x hx W
theorem prices_fields.blank_enters : ∀ args w, (callFunc 45 args).run Tryz.prog w = .ok (.enter 45 args) w := enters_of Tryz.func45 (by kernel_rfl) rfl
def prices_fields.fieldsP (s : ByteArray) : List ByteArray := Lib.goFieldsP prices_fields.blankP ⟨(Lib.cut s.data.toList [35]).1.toArray⟩
theorem prices_fields.cut_le (l : List UInt8) : (Lib.cut l [35]).1.length ≤ l.length := by
 unfold Lib.cut
 split
 ·
  simp; omega
 ·
  exact Nat.le_refl _
set_option maxHeartbeats 1000000 in
theorem prices_fields.fields_calls (s : ByteArray) (w : World) (hG : Glob w) (hs : s.size < 4294967281) :
  Calls Tryz.prog 28 #[.string s] w fun e w' => ∃ v0_ : Value, e = .returned (v0_) ∧ Kd.R Kd.string 9 w' w.heap.size (fun _ => True) v0_ (prices_fields.fieldsP s) ∧ Below w.heap.size w w' := by
 obtain ⟨⟨m, hm⟩, _⟩ := hG; have hcl := prices_fields.cut_le s.data.toList; have hsz := Lib.size_eq s; have hF : prices_fields.fieldsP s = Lib.goFieldsP prices_fields.blankP ⟨(Lib.cut s.data.toList [35]).1.toArray⟩ := rfl; have HC := Tryz.strings_Cut s ⟨#[35]⟩ m w hs hm; have e35 : (⟨#[35]⟩ : ByteArray).data.toList = [35] := rfl
 rw [e35] at HC
 have hcs : (⟨(Lib.cut s.data.toList [35]).1.toArray⟩ : ByteArray).size ≤ 4294967296 := by
  show (Lib.cut s.data.toList [35]).1.toArray.size ≤ _
  rw [List.size_toArray]; omega
 generalize Lib.cut s.data.toList [35] = q at *
 obtain ⟨q1, q2, q3⟩ := q
 simp only at hF hcs hcl HC
 have HF := Aside0.mk hF; clear hF hcl hsz e35 hm
 go_enter Tryz.func28, Tryz.ntmps28
 go_wp2_with fail
 refine HC.mono ?_
 rintro e w1 ⟨rfl, nq, rfl⟩
 go_wp2_with fail
 refine (Tryz.strings_FieldsFunc_grows 45 #[] prices_fields.blank_enters prices_fields.blankP ⟨q1.toArray⟩ _ hcs (prices_fields.blank_grows _)).mono ?_
 rintro e w2 ⟨A, rfl, hA, hown, hb⟩
 go_wp2
 go_ret
 refine ⟨_, rfl, ?_, ?_⟩
 ·
  rw [HF.out]
  exact Kd.R_of_own (h1 := fun _ => rfl) hown (fun _ _ => trivial)
 ·
  exact below_step (pw_below_drewN (Below.refl _ _) _) hb
def prices_fields.f (a0 : ByteArray) : Option (List ByteArray) := if a0.size < 4294967281 then some (prices_fields.fieldsP a0) else none
theorem prices_fields.calls (a0 : ByteArray) (r : List ByteArray) (w : World) (hG : Glob w) (h : prices_fields.f a0 = some r) :
  Calls Tryz.prog 28 #[.string a0] w fun e w' => ∃ v0_ : Value, e = .returned (v0_) ∧ Kd.R Kd.string 9 w' w.heap.size (fun _ => True) v0_ r ∧ Below w.heap.size w w' := by
 unfold prices_fields.f at h
 split at h
 ·
  rename_i hc
  obtain rfl := Option.some.inj h
  exact prices_fields.fields_calls a0 w hG hc
 ·
  cases h
end Go.Proofs.YtdcfcpgpbbgceaaGreatDoor.PAll
-- dedented
