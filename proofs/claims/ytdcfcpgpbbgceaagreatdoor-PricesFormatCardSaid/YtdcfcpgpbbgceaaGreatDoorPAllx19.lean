-- printed by a variant of the print (wip/mkprint.py)
import Derived.Test.YtdcfcpgpbbgceaaGreatDoorPAllx0
import Derived.Test.YtdcfcpgpbbgceaaGreatDoorPAllx10
import Derived.Test.YtdcfcpgpbbgceaaGreatDoorPAllx15
import Derived.Test.YtdcfcpgpbbgceaaGreatDoorPAllx18d
namespace Go.Proofs.YtdcfcpgpbbgceaaGreatDoor.PAll
open Go.RowKit Go.Proofs.YtdcfcpgpbbgceaaGreatDoorW.PrintWords Go.Proofs.YtdcfcpgpbbgceaaGreatDoorW.PrintLast Go.Proofs.YtdcfcpgpbbgceaaGreatDoorW.PrintMore
attribute [local go_sem] max2_int min2_int max_two min_two max_three min_three max_four min_four   -- for this text's walks alone
set_option linter.unusedVariables false
set_option linter.unusedSimpArgs false
mutual
def emendateref34_Format.j0 : Nat → List ByteArray → Bool → List Int → List Int → List (List Int) → Int → Int → Option (ByteArray × Int)
 | 0, _, _, _, _, _, _, _ => none
 | k + 1, x1, x20, x373000, x373001, x373002, x373003, x373004 => if x20 = true then (some ((⟨#[]⟩ : ByteArray), 1)) else (emendateref34_Format.l0 k x1 (⟨#[]⟩ : ByteArray) 0 x373000 x373001 x373002 x373003 x373004)
def emendateref34_Format.l0 : Nat → List ByteArray → ByteArray → Int → List Int → List Int → List (List Int) → Int → Int → Option (ByteArray × Int)
 | 0, _, _, _, _, _, _, _, _ => none
 | k + 1, x1, x6, x7, x373000, x373001, x373002, x373003, x373004 => if x7 < (x1.length : Int) then (if 0 ≤ x7 then (if x7 < (x373000.length : Int) then (if (rd x373000 x7) = 10 then (emendateref34_Format.l0 k x1 x6 (wrap64 (x7 + 1)) x373000 x373001 x373002 x373003 x373004) else (if x6.size + 7 ≤ 9223372036854775807 then (if (x6 ++ (⟨#[105, 110, 115, 101, 114, 116, 32]⟩ : ByteArray)).size + (rdOf ByteArray.empty x1 x7).size ≤ 9223372036854775807 then (if ((x6 ++ (⟨#[105, 110, 115, 101, 114, 116, 32]⟩ : ByteArray)) ++ (rdOf ByteArray.empty x1 x7)).size + 1 ≤ 9223372036854775807 then ((emendateref16_Decimal.f k (rd x373000 x7)).bind fun t378 => (if (((x6 ++ (⟨#[105, 110, 115, 101, 114, 116, 32]⟩ : ByteArray)) ++ (rdOf ByteArray.empty x1 x7)) ++ (⟨#[32]⟩ : ByteArray)).size + t378.size ≤ 9223372036854775807 then (if ((((x6 ++ (⟨#[105, 110, 115, 101, 114, 116, 32]⟩ : ByteArray)) ++ (rdOf ByteArray.empty x1 x7)) ++ (⟨#[32]⟩ : ByteArray)) ++ t378).size + 1 ≤ 9223372036854775807 then (emendateref34_Format.l0 k x1 (((((x6 ++ (⟨#[105, 110, 115, 101, 114, 116, 32]⟩ : ByteArray)) ++ (rdOf ByteArray.empty x1 x7)) ++ (⟨#[32]⟩ : ByteArray)) ++ t378) ++ (⟨#[10]⟩ : ByteArray)) (wrap64 (x7 + 1)) x373000 x373001 x373002 x373003 x373004) else (none)) else (none))) else (none)) else (none)) else (none))) else (none)) else (none)) else (emendateref34_Format.l1 k x1 x6 0 x373000 x373001 x373002 x373003 x373004)
def emendateref34_Format.l1 : Nat → List ByteArray → ByteArray → Int → List Int → List Int → List (List Int) → Int → Int → Option (ByteArray × Int)
 | 0, _, _, _, _, _, _, _, _ => none
 | k + 1, x1, x6, x8, x373000, x373001, x373002, x373003, x373004 => if x8 < (x1.length : Int) then (if 0 ≤ x8 then (if x8 < (x373001.length : Int) then (if (rd x373001 x8) = 10 then (emendateref34_Format.l1 k x1 x6 (wrap64 (x8 + 1)) x373000 x373001 x373002 x373003 x373004) else (if x6.size + 7 ≤ 9223372036854775807 then (if (x6 ++ (⟨#[100, 101, 108, 101, 116, 101, 32]⟩ : ByteArray)).size + (rdOf ByteArray.empty x1 x8).size ≤ 9223372036854775807 then (if ((x6 ++ (⟨#[100, 101, 108, 101, 116, 101, 32]⟩ : ByteArray)) ++ (rdOf ByteArray.empty x1 x8)).size + 1 ≤ 9223372036854775807 then ((emendateref16_Decimal.f k (rd x373001 x8)).bind fun t382 => (if (((x6 ++ (⟨#[100, 101, 108, 101, 116, 101, 32]⟩ : ByteArray)) ++ (rdOf ByteArray.empty x1 x8)) ++ (⟨#[32]⟩ : ByteArray)).size + t382.size ≤ 9223372036854775807 then (if ((((x6 ++ (⟨#[100, 101, 108, 101, 116, 101, 32]⟩ : ByteArray)) ++ (rdOf ByteArray.empty x1 x8)) ++ (⟨#[32]⟩ : ByteArray)) ++ t382).size + 1 ≤ 9223372036854775807 then (emendateref34_Format.l1 k x1 (((((x6 ++ (⟨#[100, 101, 108, 101, 116, 101, 32]⟩ : ByteArray)) ++ (rdOf ByteArray.empty x1 x8)) ++ (⟨#[32]⟩ : ByteArray)) ++ t382) ++ (⟨#[10]⟩ : ByteArray)) (wrap64 (x8 + 1)) x373000 x373001 x373002 x373003 x373004) else (none)) else (none))) else (none)) else (none)) else (none))) else (none)) else (none)) else (emendateref34_Format.l2 k x1 x6 0 x373000 x373001 x373002 x373003 x373004)
def emendateref34_Format.l2 : Nat → List ByteArray → ByteArray → Int → List Int → List Int → List (List Int) → Int → Int → Option (ByteArray × Int)
 | 0, _, _, _, _, _, _, _, _ => none
 | k + 1, x1, x6, x9, x373000, x373001, x373002, x373003, x373004 => if x9 < (x1.length : Int) then (emendateref34_Format.l3 k x1 x6 x9 0 x373000 x373001 x373002 x373003 x373004) else (if x373003 = 12 then (if x373004 = 8 then (some (x6, 0)) else (if x6.size + 8 ≤ 9223372036854775807 then ((emendateref16_Decimal.f k x373004).bind fun t392 => (if (x6 ++ (⟨#[117, 110, 107, 110, 111, 119, 110, 32]⟩ : ByteArray)).size + t392.size ≤ 9223372036854775807 then (if ((x6 ++ (⟨#[117, 110, 107, 110, 111, 119, 110, 32]⟩ : ByteArray)) ++ t392).size + 1 ≤ 9223372036854775807 then (some (((x6 ++ (⟨#[117, 110, 107, 110, 111, 119, 110, 32]⟩ : ByteArray)) ++ t392) ++ (⟨#[10]⟩ : ByteArray), 0)) else (none)) else (none))) else (none))) else (if x6.size + 5 ≤ 9223372036854775807 then ((emendateref16_Decimal.f k x373003).bind fun t393 => (if (x6 ++ (⟨#[115, 119, 97, 112, 32]⟩ : ByteArray)).size + t393.size ≤ 9223372036854775807 then (if ((x6 ++ (⟨#[115, 119, 97, 112, 32]⟩ : ByteArray)) ++ t393).size + 1 ≤ 9223372036854775807 then (if x373004 = 8 then (some (((x6 ++ (⟨#[115, 119, 97, 112, 32]⟩ : ByteArray)) ++ t393) ++ (⟨#[10]⟩ : ByteArray), 0)) else (if (((x6 ++ (⟨#[115, 119, 97, 112, 32]⟩ : ByteArray)) ++ t393) ++ (⟨#[10]⟩ : ByteArray)).size + 8 ≤ 9223372036854775807 then ((emendateref16_Decimal.f k x373004).bind fun t394 => (if ((((x6 ++ (⟨#[115, 119, 97, 112, 32]⟩ : ByteArray)) ++ t393) ++ (⟨#[10]⟩ : ByteArray)) ++ (⟨#[117, 110, 107, 110, 111, 119, 110, 32]⟩ : ByteArray)).size + t394.size ≤ 9223372036854775807 then (if (((((x6 ++ (⟨#[115, 119, 97, 112, 32]⟩ : ByteArray)) ++ t393) ++ (⟨#[10]⟩ : ByteArray)) ++ (⟨#[117, 110, 107, 110, 111, 119, 110, 32]⟩ : ByteArray)) ++ t394).size + 1 ≤ 9223372036854775807 then (some ((((((x6 ++ (⟨#[115, 119, 97, 112, 32]⟩ : ByteArray)) ++ t393) ++ (⟨#[10]⟩ : ByteArray)) ++ (⟨#[117, 110, 107, 110, 111, 119, 110, 32]⟩ : ByteArray)) ++ t394) ++ (⟨#[10]⟩ : ByteArray), 0)) else (none)) else (none))) else (none))) else (none)) else (none))) else (none)))
def emendateref34_Format.l3 : Nat → List ByteArray → ByteArray → Int → Int → List Int → List Int → List (List Int) → Int → Int → Option (ByteArray × Int)
 | 0, _, _, _, _, _, _, _, _, _ => none
 | k + 1, x1, x6, x9, x10, x373000, x373001, x373002, x373003, x373004 => if x10 < (x1.length : Int) then (if x9 = x10 then (emendateref34_Format.j5 k x1 x6 x9 x10 true x373000 x373001 x373002 x373003 x373004) else (if 0 ≤ x9 then (if x9 < (x373002.length : Int) then (if 0 ≤ x10 then (if x10 < ((rd_L1 x373002 x9).length : Int) then (emendateref34_Format.j5 k x1 x6 x9 x10 ((rd (rd_L1 x373002 x9) x10) == 15) x373000 x373001 x373002 x373003 x373004) else (none)) else (none)) else (none)) else (none))) else (emendateref34_Format.l2 k x1 x6 (wrap64 (x9 + 1)) x373000 x373001 x373002 x373003 x373004)
def emendateref34_Format.j5 : Nat → List ByteArray → ByteArray → Int → Int → Bool → List Int → List Int → List (List Int) → Int → Int → Option (ByteArray × Int)
 | 0, _, _, _, _, _, _, _, _, _, _ => none
 | k + 1, x1, x6, x9, x10, x102, x373000, x373001, x373002, x373003, x373004 => if x102 = true then (emendateref34_Format.l3 k x1 x6 x9 (wrap64 (x10 + 1)) x373000 x373001 x373002 x373003 x373004) else (if x6.size + 8 ≤ 9223372036854775807 then (if 0 ≤ x9 then (if x9 < (x1.length : Int) then (if (x6 ++ (⟨#[114, 101, 112, 108, 97, 99, 101, 32]⟩ : ByteArray)).size + (rdOf ByteArray.empty x1 x9).size ≤ 9223372036854775807 then (if ((x6 ++ (⟨#[114, 101, 112, 108, 97, 99, 101, 32]⟩ : ByteArray)) ++ (rdOf ByteArray.empty x1 x9)).size + 1 ≤ 9223372036854775807 then (if 0 ≤ x10 then (if x10 < (x1.length : Int) then (if (((x6 ++ (⟨#[114, 101, 112, 108, 97, 99, 101, 32]⟩ : ByteArray)) ++ (rdOf ByteArray.empty x1 x9)) ++ (⟨#[32]⟩ : ByteArray)).size + (rdOf ByteArray.empty x1 x10).size ≤ 9223372036854775807 then (if ((((x6 ++ (⟨#[114, 101, 112, 108, 97, 99, 101, 32]⟩ : ByteArray)) ++ (rdOf ByteArray.empty x1 x9)) ++ (⟨#[32]⟩ : ByteArray)) ++ (rdOf ByteArray.empty x1 x10)).size + 1 ≤ 9223372036854775807 then (if x9 < (x373002.length : Int) then (if x10 < ((rd_L1 x373002 x9).length : Int) then (if (rd (rd_L1 x373002 x9) x10) < 0 then (if (((((x6 ++ (⟨#[114, 101, 112, 108, 97, 99, 101, 32]⟩ : ByteArray)) ++ (rdOf ByteArray.empty x1 x9)) ++ (⟨#[32]⟩ : ByteArray)) ++ (rdOf ByteArray.empty x1 x10)) ++ (⟨#[32]⟩ : ByteArray)).size + 6 ≤ 9223372036854775807 then (emendateref34_Format.l3 k x1 ((((((x6 ++ (⟨#[114, 101, 112, 108, 97, 99, 101, 32]⟩ : ByteArray)) ++ (rdOf ByteArray.empty x1 x9)) ++ (⟨#[32]⟩ : ByteArray)) ++ (rdOf ByteArray.empty x1 x10)) ++ (⟨#[32]⟩ : ByteArray)) ++ (⟨#[110, 101, 118, 101, 114, 10]⟩ : ByteArray)) x9 (wrap64 (x10 + 1)) x373000 x373001 x373002 x373003 x373004) else (none)) else ((emendateref16_Decimal.f k (rd (rd_L1 x373002 x9) x10)).bind fun t391 => (if (((((x6 ++ (⟨#[114, 101, 112, 108, 97, 99, 101, 32]⟩ : ByteArray)) ++ (rdOf ByteArray.empty x1 x9)) ++ (⟨#[32]⟩ : ByteArray)) ++ (rdOf ByteArray.empty x1 x10)) ++ (⟨#[32]⟩ : ByteArray)).size + t391.size ≤ 9223372036854775807 then (if ((((((x6 ++ (⟨#[114, 101, 112, 108, 97, 99, 101, 32]⟩ : ByteArray)) ++ (rdOf ByteArray.empty x1 x9)) ++ (⟨#[32]⟩ : ByteArray)) ++ (rdOf ByteArray.empty x1 x10)) ++ (⟨#[32]⟩ : ByteArray)) ++ t391).size + 1 ≤ 9223372036854775807 then (emendateref34_Format.l3 k x1 (((((((x6 ++ (⟨#[114, 101, 112, 108, 97, 99, 101, 32]⟩ : ByteArray)) ++ (rdOf ByteArray.empty x1 x9)) ++ (⟨#[32]⟩ : ByteArray)) ++ (rdOf ByteArray.empty x1 x10)) ++ (⟨#[32]⟩ : ByteArray)) ++ t391) ++ (⟨#[10]⟩ : ByteArray)) x9 (wrap64 (x10 + 1)) x373000 x373001 x373002 x373003 x373004) else (none)) else (none)))) else (none)) else (none)) else (none)) else (none)) else (none)) else (none)) else (none)) else (none)) else (none)) else (none)) else (none))
end
def emendateref34_Format.f (k : Nat) (l0_0 : List Int) (l0_1 : List Int) (l0_2 : List (List Int)) (a0_3 : Int) (a0_4 : Int) (l1 : List ByteArray) : Option (ByteArray × Int) := (emendateref34_names.f k l1).bind fun t373 => (if t373 = true then ((emendateref34_Valid.f k l0_0 l0_1 l0_2 a0_3 a0_4 (l1.length : Int)).bind fun t374 => (emendateref34_Format.j0 k l1 (!t374) l0_0 l0_1 l0_2 a0_3 a0_4)) else (emendateref34_Format.j0 k l1 true l0_0 l0_1 l0_2 a0_3 a0_4))
def emendateref34_Format.T8 : Bool × List (List Nat × List Nat) := (true, [([], []), ([0], [0]), ([], []), ([], []), ([2, 3], [2, 3]), ([4], [4]), ([1, 5], [1, 5]), ([6], [6]), ([], []), ([8], [8]), ([], []), ([9, 10], [9, 10]), ([11], [11]), ([12], [12]), ([7, 13], [7, 13]), ([14], [14]), ([15, 13, 0, 1, 2, 3, 4, 5, 6, 7, 8, 9, 10, 11, 12, 13, 14, 15], [0, 15])])
def emendateref34_Format.B8 : List Nat := [0, 1, 0, 0, 12, 28, 63, 127, 0, 256, 0, 1792, 3840, 7936, 16383, 32767, 65535]
theorem emendateref34_Format.tab8 : rtab .any (opsOf Tryz.f20 8) = emendateref34_Format.T8 := by kernel_rfl
theorem emendateref34_Format.bits8 : waitsOk emendateref34_Format.T8.2 emendateref34_Format.B8 = true := by kernel_rfl
def emendateref34_Format.T13 : Bool × List (List Nat × List Nat) := (true, [([], []), ([0], [0]), ([], []), ([], []), ([2, 3], [2, 3]), ([4], [4]), ([1, 5], [1, 5]), ([6], [6]), ([], []), ([8], [8]), ([], []), ([9, 10], [9, 10]), ([11], [11]), ([12], [12]), ([7, 13], [7, 13]), ([14], [14]), ([15, 13, 0, 1, 2, 3, 4, 5, 6, 7, 8, 9, 10, 11, 12, 13, 14, 15], [0, 15])])
def emendateref34_Format.B13 : List Nat := [0, 1, 0, 0, 12, 28, 63, 127, 0, 256, 0, 1792, 3840, 7936, 16383, 32767, 65535]
theorem emendateref34_Format.tab13 : rtab .any (opsOf Tryz.f20 13) = emendateref34_Format.T13 := by kernel_rfl
theorem emendateref34_Format.bits13 : waitsOk emendateref34_Format.T13.2 emendateref34_Format.B13 = true := by kernel_rfl
def emendateref34_Format.T21 : Bool × List (List Nat × List Nat) := (true, [([], []), ([0], [0]), ([], []), ([], []), ([2, 3], [2, 3]), ([4], [4]), ([1, 5], [1, 5]), ([6], [6]), ([], []), ([], []), ([8, 9], [8, 9]), ([10], [10]), ([7, 11], [7, 11]), ([12], [12]), ([13, 0, 1, 2, 3, 4, 5, 6, 7, 8, 9, 10, 11, 12, 13], [0, 13])])
def emendateref34_Format.B21 : List Nat := [0, 1, 0, 0, 12, 28, 63, 127, 0, 0, 768, 1792, 4095, 8191, 16383]
theorem emendateref34_Format.tab21 : rtab .any (opsOf Tryz.f20 21) = emendateref34_Format.T21 := by kernel_rfl
theorem emendateref34_Format.bits21 : waitsOk emendateref34_Format.T21.2 emendateref34_Format.B21 = true := by kernel_rfl
set_option maxHeartbeats 8000000 in
set_option maxRecDepth 100000 in
theorem emendateref34_Format.calls (k : Nat) (A0_0 : Option Addr) (c0_0 : Nat) (l0_0 : List Int) (A0_1 : Option Addr) (c0_1 : Nat) (l0_1 : List Int) (A0_2 : Option Addr) (c0_2 : Nat) (l0_2 : List (List Int)) (a0_3 : Int) (a0_4 : Int) (A1 : Option Addr) (c1 : Nat) (l1 : List ByteArray) (r1 : ByteArray) (r2 : Int) (w : World) (hr0_0 : Kd.C (Kd.int .i64) w A0_0 l0_0.length l0_0) (hc0_0 : l0_0.length ≤ c0_0) (hr0_1 : Kd.C (Kd.int .i64) w A0_1 l0_1.length l0_1) (hc0_1 : l0_1.length ≤ c0_1) (hr0_2 : Kd.C (Kd.slice 3 (Kd.int .i64)) w A0_2 l0_2.length l0_2) (hc0_2 : l0_2.length ≤ c0_2) (hr1 : Kd.C Kd.string w A1 l1.length l1) (hc1 : l1.length ≤ c1) (h : emendateref34_Format.f k l0_0 l0_1 l0_2 a0_3 a0_4 l1 = some (r1, r2)) :
  Calls Tryz.prog 20 #[.agg #[.slice A0_0 l0_0.length c0_0, .slice A0_1 l0_1.length c0_1, .slice A0_2 l0_2.length c0_2, .int .i64 a0_3, .int .i64 a0_4], .slice A1 l1.length c1] w fun e w' => e = .returned (.tuple #[.string r1, .int .i64 r2]) ∧ Below w.heap.size w w' := by
 have hu25 := Tryz.underlying25; have HR0_0 := Aside0.mk hr0_0; have HC0_0 := Aside0.mk hc0_0; clear hr0_0 hc0_0; have HR0_1 := Aside0.mk hr0_1; have HC0_1 := Aside0.mk hc0_1; clear hr0_1 hc0_1; have HR0_2 := Aside0.mk hr0_2; have HC0_2 := Aside0.mk hc0_2; clear hr0_2 hc0_2; have HR1 := Aside0.mk hr1; have HC1 := Aside0.mk hc1; clear hr1 hc1; have HB := Aside0.mk (Below.refl w.heap.size w); have H : ((emendateref34_names.f k l1).bind fun t373 => (if t373 = true then ((emendateref34_Valid.f k l0_0 l0_1 l0_2 a0_3 a0_4 (l1.length : Int)).bind fun t374 => (emendateref34_Format.j0 k l1 (!t374) l0_0 l0_1 l0_2 a0_3 a0_4)) else (emendateref34_Format.j0 k l1 true l0_0 l0_1 l0_2 a0_3 a0_4))) = some (r1, r2) := h
 clear h; have HC3 := Aside0.mk H; clear H
 go_enter Tryz.func20, Tryz.ntmps20
 go_upto_region 1 with (first | ((with_reducible refine gate_dst (N := 2) rfl ?_); (try (refine gate_guard (by rfl) ?_; dsimp only)); refine box_event ?hg (N := 2) ?hd (cs := #[.slice A0_0 l0_0.length c0_0, .slice A0_1 l0_1.length c0_1, .slice A0_2 l0_2.length c0_2, .int .i64 a0_3, .int .i64 a0_4]) (t := 25) ?hr ?_; (case hd => rfl); (case hg => rfl); (case hr => first | (go_simp; done) | (go_simp; rfl)); intro gb372 hg w4 hbox hb; have n0_ := Aside0.mk (below_step (by repeat (first | (with_reducible first | exact HB.out | apply below_alloc | apply pw_below_drewN | apply below_drew1) | exact HB.out)) hb); have n1_ := Aside0.mk (hbox); have n2_ := Aside0.mk ((by rw [hg]; exact (below_size (by repeat (first | (with_reducible first | exact HB.out | apply below_alloc | apply pw_below_drewN | apply below_drew1) | exact HB.out))) : w.heap.size ≤ gb372)); have n3_ := Aside0.mk ((by rw [hg]; exact (below_size (by repeat (first | (with_reducible first | exact HB.out | apply below_alloc | apply pw_below_drewN | apply below_drew1) | exact HB.out))) : w.heap.size ≤ gb372)); clear HB; have HB := n0_; have BK372 := n1_; have GW372 := n2_; have GE372 := n3_; clear n0_ n1_ n2_ n3_; clear hb hbox hg))
 (try simp only [Act.put, List.setIfInBounds_toArray, List.set_cons_zero, List.set_cons_succ])
 go_cut [20] (fun v20 wc => ∃ (kq : Nat) (x20_2 : Bool), v20 = .bool x20_2 ∧ Aside0 (emendateref34_Format.j0 kq l1 x20_2 l0_0 l0_1 l0_2 a0_3 a0_4 = some (r1, r2)) ∧ Aside0 (kq ≤ k) ∧ Aside0 (wc.heap[gb372]? = some (.cells #[(.slice A0_0 l0_0.length c0_0), (.slice A0_1 l0_1.length c0_1), (.slice A0_2 l0_2.length c0_2), .int .i64 a0_3, .int .i64 a0_4] 25 (0, 0))) ∧ Aside0 (Below w.heap.size w wc))
 case first =>
  have H := HC3.out; clear HC3; replace H := Option.bind_eq_some_iff.mp H; obtain ⟨t373, A50, H⟩ := H; replace H : (if t373 = true then ((emendateref34_Valid.f k l0_0 l0_1 l0_2 a0_3 a0_4 (l1.length : Int)).bind fun t374 => (emendateref34_Format.j0 k l1 (!t374) l0_0 l0_1 l0_2 a0_3 a0_4)) else (emendateref34_Format.j0 k l1 true l0_0 l0_1 l0_2 a0_3 a0_4)) = some (r1, r2) := H
  have A5 := Aside0.mk A50; clear A50
  by_cases c6 : t373 = true
  ·
   subst c6; have H1 : ((emendateref34_Valid.f k l0_0 l0_1 l0_2 a0_3 a0_4 (l1.length : Int)).bind fun t374 => (emendateref34_Format.j0 k l1 (!t374) l0_0 l0_1 l0_2 a0_3 a0_4)) = some (r1, r2) := by rw [if_pos rfl] at H; exact H
   clear H; have H := H1; clear H1; replace H := Option.bind_eq_some_iff.mp H; obtain ⟨t374, A70, H⟩ := H; replace H : (emendateref34_Format.j0 k l1 (!t374) l0_0 l0_1 l0_2 a0_3 a0_4) = some (r1, r2) := H; have A7 := Aside0.mk A70; clear A70; have H' := Aside0.mk H; clear H
   go_wp2_with (first | ((with_reducible refine gate_callee (f := 31) rfl ?_); refine goesL_ (some 12) rfl rfl Tryz.func31 (by kernel_rfl) rfl #[.slice A1 l1.length c1] rfl (by (try simp only [List.map_toArray, List.map_cons, List.map_nil]); first | done | rfl | (simp only [List.length_drop, List.length_take]; rfl)) ?_; (with_reducible refine (emendateref34_names.calls k _ _ l1 true _ ?side1 ?side2 A5.out).mono ?_); (case side1 => repeat (first | exact (Kd.C_below HR1.out HB.out) | (with_reducible refine Kd.C_alloc ?_ _) | (with_reducible refine Kd.C_drewN ?_ _) | (with_reducible refine Kd.C_drew ?_))); (case side2 => exact HC1.out); rintro e w' ⟨rfl, ⟨nd, rfl⟩⟩; refine ⟨_, rfl, ?_⟩; have hcz8_0 : w4.cell? ⟨gb372, 0, none⟩ = some (.slice A0_0 l0_0.length c0_0) := (blk_cell BK372.out 0).trans rfl; have hcz8_1 : w4.cell? ⟨gb372, 1, none⟩ = some (.slice A0_1 l0_1.length c0_1) := (blk_cell BK372.out 1).trans rfl; have hcz8_2 : w4.cell? ⟨gb372, 2, none⟩ = some (.slice A0_2 l0_2.length c0_2) := (blk_cell BK372.out 2).trans rfl; have hcz8_3 : w4.cell? ⟨gb372, 3, none⟩ = some (.int .i64 a0_3) := (blk_cell BK372.out 3).trans rfl; have hcz8_4 : w4.cell? ⟨gb372, 4, none⟩ = some (.int .i64 a0_4) := (blk_cell BK372.out 4).trans rfl; have hfz8_0 := blk_frozen BK372.out 0; have hfz8_1 := blk_frozen BK372.out 1; have hfz8_2 := blk_frozen BK372.out 2; have hfz8_3 := blk_frozen BK372.out 3; have hfz8_4 := blk_frozen BK372.out 4) | (go_at_call 13; (with_reducible refine (emendateref34_Valid.calls k _ _ l0_0 _ _ l0_1 _ _ l0_2 a0_3 a0_4 (l1.length : Int) t374 _ ?side1 ?side2 ?side3 ?side4 ?side5 ?side6 A7.out).mono ?_); (case side1 => repeat (first | exact (Kd.C_below HR0_0.out (by repeat (first | (with_reducible first | exact HB.out | apply below_alloc | apply pw_below_drewN | apply below_drew1 | refine below_set ?_ GE372.out) | exact HB.out))) | (with_reducible refine Kd.C_alloc ?_ _) | (with_reducible refine Kd.C_drewN ?_ _) | (with_reducible refine Kd.C_drew ?_))); (case side2 => exact HC0_0.out); (case side3 => repeat (first | exact (Kd.C_below HR0_1.out (by repeat (first | (with_reducible first | exact HB.out | apply below_alloc | apply pw_below_drewN | apply below_drew1 | refine below_set ?_ GE372.out) | exact HB.out))) | (with_reducible refine Kd.C_alloc ?_ _) | (with_reducible refine Kd.C_drewN ?_ _) | (with_reducible refine Kd.C_drew ?_))); (case side4 => exact HC0_1.out); (case side5 => repeat (first | exact (Kd.C_below HR0_2.out (by repeat (first | (with_reducible first | exact HB.out | apply below_alloc | apply pw_below_drewN | apply below_drew1 | refine below_set ?_ GE372.out) | exact HB.out))) | (with_reducible refine Kd.C_alloc ?_ _) | (with_reducible refine Kd.C_drewN ?_ _) | (with_reducible refine Kd.C_drew ?_))); (case side6 => exact HC0_2.out); rintro e w9 ⟨rfl, hb⟩; have n0_ := Aside0.mk (blk_below (g := gb372) (o := .cells #[.slice A0_0 l0_0.length c0_0, .slice A0_1 l0_1.length c0_1, .slice A0_2 l0_2.length c0_2, .int .i64 a0_3, .int .i64 a0_4] 25 (0, 0)) (by (with_reducible repeat (first | refine blk_drewN ?_ _ | refine blk_drew ?_ | refine blk_alloc ?_ _)); exact BK372.out) hb); have n1_ := Aside0.mk (below_step (by repeat (first | (with_reducible first | exact HB.out | apply below_alloc | apply pw_below_drewN | apply below_drew1 | refine below_set ?_ GE372.out) | exact HB.out)) hb); clear BK372; clear HB; have BK372 := n0_; have HB := n1_; clear n0_ n1_; (try clear hb); (try clear hb2); (try clear hk); (try clear hi)))
   go_meet
   case rel => exact ⟨_, (!t374), (by first | rfl | (simp; done) | (simp [*]; done)), H', ⟨by first | omega | exact Nat.le_refl _⟩, ⟨by (with_reducible repeat (first | refine blk_drewN ?_ _ | refine blk_drew ?_ | refine blk_alloc ?_ _)); exact BK372.out⟩, ⟨by repeat (first | (with_reducible first | exact HB.out | apply below_alloc | apply pw_below_drewN | apply below_drew1 | refine below_set ?_ GE372.out) | exact HB.out)⟩⟩
  ·
   replace c6 := Bool.eq_false_iff.mpr c6; subst c6; have H1 : (emendateref34_Format.j0 k l1 true l0_0 l0_1 l0_2 a0_3 a0_4) = some (r1, r2) := by rw [if_neg (show ¬ (false = true) by decide)] at H; exact H
   clear H; have H := H1; clear H1; have H' := Aside0.mk H; clear H
   go_wp2_with (first | ((with_reducible refine gate_callee (f := 31) rfl ?_); refine goesL_ (some 12) rfl rfl Tryz.func31 (by kernel_rfl) rfl #[.slice A1 l1.length c1] rfl (by (try simp only [List.map_toArray, List.map_cons, List.map_nil]); first | done | rfl | (simp only [List.length_drop, List.length_take]; rfl)) ?_; (with_reducible refine (emendateref34_names.calls k _ _ l1 false _ ?side1 ?side2 A5.out).mono ?_); (case side1 => repeat (first | exact (Kd.C_below HR1.out HB.out) | (with_reducible refine Kd.C_alloc ?_ _) | (with_reducible refine Kd.C_drewN ?_ _) | (with_reducible refine Kd.C_drew ?_))); (case side2 => exact HC1.out); rintro e w' ⟨rfl, ⟨nd, rfl⟩⟩; refine ⟨_, rfl, ?_⟩))
   go_meet
   case rel => exact ⟨_, (true), (by first | rfl | (simp; done) | (simp [*]; done)), H', ⟨by first | omega | exact Nat.le_refl _⟩, ⟨by (with_reducible repeat (first | refine blk_drewN ?_ _ | refine blk_drew ?_ | refine blk_alloc ?_ _)); exact BK372.out⟩, ⟨by repeat (first | (with_reducible first | exact HB.out | apply below_alloc | apply pw_below_drewN | apply below_drew1 | refine below_set ?_ GE372.out) | exact HB.out)⟩⟩
 case rest =>
  clear HC3
  try clear c1
  try clear c2
  try clear p2
  try clear c3
  try clear c6
  try clear hcz8_0
  try clear hcz8_1
  try clear hcz8_2
  try clear hcz8_3
  try clear hcz8_4
  try clear hfz8_0
  try clear hfz8_1
  try clear hfz8_2
  try clear hfz8_3
  try clear hfz8_4
  obtain ⟨kq, x20_2, rfl, HA, HJ2, BK372, HB⟩ := hcut
  cases kq with
  | zero => exact absurd HA.out (by simp [emendateref34_Format.j0])
  | succ kj2 =>
   have H := HA.out; clear HA
   simp only [emendateref34_Format.j0] at H
   by_cases c10 : x20_2 = true
   ·
    subst c10; have H1 : (some ((⟨#[]⟩ : ByteArray), 1)) = some (r1, r2) := by rw [if_pos rfl] at H; exact H
    clear H; have H := H1; clear H1
    simp only [Option.some.injEq, Prod.mk.injEq] at H
    obtain ⟨rfl, rfl⟩ := H
    go_wp2
    go_ret2
    exact ⟨by first | rfl | (simp [errW_none, errW_some] <;> rfl) | (simp [*, errW_none, errW_some] <;> rfl), by repeat (first | (with_reducible first | exact HB.out | apply below_alloc | apply pw_below_drewN | apply below_drew1 | refine below_set ?_ GE372.out) | exact HB.out)⟩
   ·
    replace c10 := Bool.eq_false_iff.mpr c10; subst c10; have H1 : (emendateref34_Format.l0 kj2 l1 (⟨#[]⟩ : ByteArray) 0 l0_0 l0_1 l0_2 a0_3 a0_4) = some (r1, r2) := by rw [if_neg (show ¬ (false = true) by decide)] at H; exact H
    clear H; have H := H1; clear H1; have H' := Aside0.mk H; clear H
    go_wp2
    go_loopg [6, 7] kj2 (fun kq v6 v7 w' => ∃ (x6_2 : ByteArray) (x7_2 : Int), v6 = .string x6_2 ∧ v7 = .int .i64 x7_2 ∧ Aside0 (emendateref34_Format.l0 kq l1 x6_2 x7_2 l0_0 l0_1 l0_2 a0_3 a0_4 = some (r1, r2)) ∧ Aside0 (kq ≤ kj2) ∧ Aside0 (w'.heap[gb372]? = some (.cells #[(.slice A0_0 l0_0.length c0_0), (.slice A0_1 l0_1.length c0_1), (.slice A0_2 l0_2.length c0_2), .int .i64 a0_3, .int .i64 a0_4] 25 (0, 0))) ∧ Aside0 (Below w.heap.size w w'))
    case atStart => exact ⟨((⟨#[]⟩ : ByteArray)), (0), (by first | rfl | (simp; done) | (simp [*]; done)), (by first | rfl | (simp; done) | (simp [*]; done)), H', ⟨Nat.le_refl _⟩, ⟨by (with_reducible repeat (first | refine blk_drewN ?_ _ | refine blk_drew ?_ | refine blk_alloc ?_ _)); exact BK372.out⟩, ⟨by repeat (first | (with_reducible first | exact HB.out | apply below_alloc | apply pw_below_drewN | apply below_drew1 | refine below_set ?_ GE372.out) | exact HB.out)⟩⟩
    case round =>
     clear H'
     try clear c1
     try clear c2
     try clear p2
     try clear c3
     try clear c6
     try clear c10
     try clear hcz8_0
     try clear hcz8_1
     try clear hcz8_2
     try clear hcz8_3
     try clear hcz8_4
     try clear hfz8_0
     try clear hfz8_1
     try clear hfz8_2
     try clear hfz8_3
     try clear hfz8_4
     try clear p2
     obtain ⟨x6_2, x7_2, rfl, rfl, HA, HK2, BK372, HB⟩ := hrel
     cases gk with
     | zero => exact absurd HA.out (by simp [emendateref34_Format.l0])
     | succ k2 =>
      have H := HA.out; clear HA
      simp only [emendateref34_Format.l0] at H
      by_cases c11 : x7_2 < (l1.length : Int)
      ·
       rw [if_pos c11] at H
       have c11b0 : decide (x7_2 < (l1.length : Int)) = true := decide_eq_true c11; clear c11
       by_cases c12 : 0 ≤ x7_2
       ·
        rw [if_pos c12] at H
        have c12b0 : decide (0 ≤ x7_2) = true := decide_eq_true c12; clear c12
        by_cases c13 : x7_2 < (l0_0.length : Int)
        ·
         rw [if_pos c13] at H
         have c13b0 : decide (x7_2 < (l0_0.length : Int)) = true := decide_eq_true c13; clear c13
         by_cases c14 : (rd l0_0 x7_2) = 10
         ·
          rw [if_pos c14] at H
          have c14b0 : ((rd l0_0 x7_2) == 10) = true := beq_iff_eq.mpr c14; have c14b1 : ((rd l0_0 x7_2) != 10) = false := bne_eq_false_iff_eq.mpr c14; clear c14; have H' := Aside0.mk H; clear H; have hcz15_0 : wr.cell? ⟨gb372, 0, none⟩ = some (.slice A0_0 l0_0.length c0_0) := (blk_cell BK372.out 0).trans rfl; have hcz15_1 : wr.cell? ⟨gb372, 1, none⟩ = some (.slice A0_1 l0_1.length c0_1) := (blk_cell BK372.out 1).trans rfl; have hcz15_2 : wr.cell? ⟨gb372, 2, none⟩ = some (.slice A0_2 l0_2.length c0_2) := (blk_cell BK372.out 2).trans rfl; have hcz15_3 : wr.cell? ⟨gb372, 3, none⟩ = some (.int .i64 a0_3) := (blk_cell BK372.out 3).trans rfl; have hcz15_4 : wr.cell? ⟨gb372, 4, none⟩ = some (.int .i64 a0_4) := (blk_cell BK372.out 4).trans rfl; have hfz15_0 := blk_frozen BK372.out 0; have hfz15_1 := blk_frozen BK372.out 1; have hfz15_2 := blk_frozen BK372.out 2; have hfz15_3 := blk_frozen BK372.out 3; have hfz15_4 := blk_frozen BK372.out 4; have p375 : 0 ≤ (x7_2 : Int) := of_decide_eq_true (by first | (with_reducible assumption) | assumption)
          have q375 : x7_2 < (l0_0.length : Int) := of_decide_eq_true (by first | (with_reducible assumption) | assumption)
          obtain ⟨ad375, e375, hx375_0⟩ := Kd.at_int HR0_0.out x7_2 p375 q375
          cases e375
          replace hx375_0 := (HB.out.cell (World.block_lt_of_cell? w _ hx375_0)).trans hx375_0; replace p375 := eq_true p375; replace q375 := eq_true q375
          go_wp2
          go_roundg k2
          case measure => have := HJ2.out; have := HK2.out; omega
          case rel => exact ⟨(x6_2), (wrap64 (x7_2 + 1)), (by first | rfl | (simp; done) | (simp [*]; done)), (by first | rfl | (simp; done) | (simp [*]; done)), H', ⟨by have := HJ2.out; have := HK2.out; omega⟩, ⟨by (with_reducible repeat (first | refine blk_drewN ?_ _ | refine blk_drew ?_ | refine blk_alloc ?_ _)); exact BK372.out⟩, ⟨by repeat (first | (with_reducible first | exact HB.out | apply below_alloc | apply pw_below_drewN | apply below_drew1 | refine below_set ?_ GE372.out) | exact HB.out)⟩⟩
         ·
          rw [if_neg c14] at H
          have c14b0 : ((rd l0_0 x7_2) == 10) = false := beq_eq_false_iff_ne.mpr c14; have c14b1 : ((rd l0_0 x7_2) != 10) = true := bne_iff_ne.mpr c14
          by_cases c16 : x6_2.size + 7 ≤ 9223372036854775807
          ·
           rw [if_pos c16] at H
           have c16b0 := eq_true c16; have c16b1 : decide (x6_2.size + 7 ≤ 9223372036854775807) = true := decide_eq_true c16
           try have c16b2 : (9223372036854775807 < x6_2.size + 7) = False := eq_false (Nat.not_lt.2 c16)
           by_cases c17 : (x6_2 ++ (⟨#[105, 110, 115, 101, 114, 116, 32]⟩ : ByteArray)).size + (rdOf ByteArray.empty l1 x7_2).size ≤ 9223372036854775807
           ·
            rw [if_pos c17] at H
            have c17b0 := eq_true c17; have c17b1 : decide ((x6_2 ++ (⟨#[105, 110, 115, 101, 114, 116, 32]⟩ : ByteArray)).size + (rdOf ByteArray.empty l1 x7_2).size ≤ 9223372036854775807) = true := decide_eq_true c17
            try have c17b2 : (9223372036854775807 < (x6_2 ++ (⟨#[105, 110, 115, 101, 114, 116, 32]⟩ : ByteArray)).size + (rdOf ByteArray.empty l1 x7_2).size) = False := eq_false (Nat.not_lt.2 c17)
            try have c17b3 : (9223372036854775807 < x6_2.size + 7 + (rdOf ByteArray.empty l1 x7_2).size) = False := eq_false (by have h_ := c17; simp only [ByteArray.size_append] at h_; have e0_ : (⟨#[105, 110, 115, 101, 114, 116, 32]⟩ : ByteArray).size = 7 := rfl; omega)
            by_cases c18 : ((x6_2 ++ (⟨#[105, 110, 115, 101, 114, 116, 32]⟩ : ByteArray)) ++ (rdOf ByteArray.empty l1 x7_2)).size + 1 ≤ 9223372036854775807
            ·
             rw [if_pos c18] at H
             have c18b0 := eq_true c18; have c18b1 : decide (((x6_2 ++ (⟨#[105, 110, 115, 101, 114, 116, 32]⟩ : ByteArray)) ++ (rdOf ByteArray.empty l1 x7_2)).size + 1 ≤ 9223372036854775807) = true := decide_eq_true c18
             try have c18b2 : (9223372036854775807 < ((x6_2 ++ (⟨#[105, 110, 115, 101, 114, 116, 32]⟩ : ByteArray)) ++ (rdOf ByteArray.empty l1 x7_2)).size + 1) = False := eq_false (Nat.not_lt.2 c18)
             try have c18b3 : (9223372036854775807 < x6_2.size + 7 + (rdOf ByteArray.empty l1 x7_2).size + 1) = False := eq_false (by have h_ := c18; simp only [ByteArray.size_append] at h_; have e0_ : (⟨#[105, 110, 115, 101, 114, 116, 32]⟩ : ByteArray).size = 7 := rfl; omega)
             replace H := Option.bind_eq_some_iff.mp H; obtain ⟨t378, A190, H⟩ := H; replace H : (if (((x6_2 ++ (⟨#[105, 110, 115, 101, 114, 116, 32]⟩ : ByteArray)) ++ (rdOf ByteArray.empty l1 x7_2)) ++ (⟨#[32]⟩ : ByteArray)).size + t378.size ≤ 9223372036854775807 then (if ((((x6_2 ++ (⟨#[105, 110, 115, 101, 114, 116, 32]⟩ : ByteArray)) ++ (rdOf ByteArray.empty l1 x7_2)) ++ (⟨#[32]⟩ : ByteArray)) ++ t378).size + 1 ≤ 9223372036854775807 then (emendateref34_Format.l0 k2 l1 (((((x6_2 ++ (⟨#[105, 110, 115, 101, 114, 116, 32]⟩ : ByteArray)) ++ (rdOf ByteArray.empty l1 x7_2)) ++ (⟨#[32]⟩ : ByteArray)) ++ t378) ++ (⟨#[10]⟩ : ByteArray)) (wrap64 (x7_2 + 1)) l0_0 l0_1 l0_2 a0_3 a0_4) else (none)) else (none)) = some (r1, r2) := H; have A19 := Aside0.mk A190; clear A190
             by_cases c20 : (((x6_2 ++ (⟨#[105, 110, 115, 101, 114, 116, 32]⟩ : ByteArray)) ++ (rdOf ByteArray.empty l1 x7_2)) ++ (⟨#[32]⟩ : ByteArray)).size + t378.size ≤ 9223372036854775807
             ·
              rw [if_pos c20] at H
              have c20b0 := eq_true c20; have c20b1 : decide ((((x6_2 ++ (⟨#[105, 110, 115, 101, 114, 116, 32]⟩ : ByteArray)) ++ (rdOf ByteArray.empty l1 x7_2)) ++ (⟨#[32]⟩ : ByteArray)).size + t378.size ≤ 9223372036854775807) = true := decide_eq_true c20
              try have c20b2 : (9223372036854775807 < (((x6_2 ++ (⟨#[105, 110, 115, 101, 114, 116, 32]⟩ : ByteArray)) ++ (rdOf ByteArray.empty l1 x7_2)) ++ (⟨#[32]⟩ : ByteArray)).size + t378.size) = False := eq_false (Nat.not_lt.2 c20)
              try have c20b3 : (9223372036854775807 < x6_2.size + 7 + (rdOf ByteArray.empty l1 x7_2).size + 1 + t378.size) = False := eq_false (by have h_ := c20; simp only [ByteArray.size_append] at h_; have e0_ : (⟨#[105, 110, 115, 101, 114, 116, 32]⟩ : ByteArray).size = 7 := rfl; have e1_ : (⟨#[32]⟩ : ByteArray).size = 1 := rfl; omega)
              by_cases c21 : ((((x6_2 ++ (⟨#[105, 110, 115, 101, 114, 116, 32]⟩ : ByteArray)) ++ (rdOf ByteArray.empty l1 x7_2)) ++ (⟨#[32]⟩ : ByteArray)) ++ t378).size + 1 ≤ 9223372036854775807
              ·
               rw [if_pos c21] at H
               have c21b0 := eq_true c21; have c21b1 : decide (((((x6_2 ++ (⟨#[105, 110, 115, 101, 114, 116, 32]⟩ : ByteArray)) ++ (rdOf ByteArray.empty l1 x7_2)) ++ (⟨#[32]⟩ : ByteArray)) ++ t378).size + 1 ≤ 9223372036854775807) = true := decide_eq_true c21
               try have c21b2 : (9223372036854775807 < ((((x6_2 ++ (⟨#[105, 110, 115, 101, 114, 116, 32]⟩ : ByteArray)) ++ (rdOf ByteArray.empty l1 x7_2)) ++ (⟨#[32]⟩ : ByteArray)) ++ t378).size + 1) = False := eq_false (Nat.not_lt.2 c21)
               try have c21b3 : (9223372036854775807 < x6_2.size + 7 + (rdOf ByteArray.empty l1 x7_2).size + 1 + t378.size + 1) = False := eq_false (by have h_ := c21; simp only [ByteArray.size_append] at h_; have e0_ : (⟨#[105, 110, 115, 101, 114, 116, 32]⟩ : ByteArray).size = 7 := rfl; have e1_ : (⟨#[32]⟩ : ByteArray).size = 1 := rfl; omega)
               have H' := Aside0.mk H; clear H; have hcz22_0 : wr.cell? ⟨gb372, 0, none⟩ = some (.slice A0_0 l0_0.length c0_0) := (blk_cell BK372.out 0).trans rfl; have hcz22_1 : wr.cell? ⟨gb372, 1, none⟩ = some (.slice A0_1 l0_1.length c0_1) := (blk_cell BK372.out 1).trans rfl; have hcz22_2 : wr.cell? ⟨gb372, 2, none⟩ = some (.slice A0_2 l0_2.length c0_2) := (blk_cell BK372.out 2).trans rfl; have hcz22_3 : wr.cell? ⟨gb372, 3, none⟩ = some (.int .i64 a0_3) := (blk_cell BK372.out 3).trans rfl; have hcz22_4 : wr.cell? ⟨gb372, 4, none⟩ = some (.int .i64 a0_4) := (blk_cell BK372.out 4).trans rfl; have hfz22_0 := blk_frozen BK372.out 0; have hfz22_1 := blk_frozen BK372.out 1; have hfz22_2 := blk_frozen BK372.out 2; have hfz22_3 := blk_frozen BK372.out 3; have hfz22_4 := blk_frozen BK372.out 4; have p375 : 0 ≤ (x7_2 : Int) := of_decide_eq_true (by first | (with_reducible assumption) | assumption)
               have q375 : x7_2 < (l0_0.length : Int) := of_decide_eq_true (by first | (with_reducible assumption) | assumption)
               obtain ⟨ad375, e375, hx375_0⟩ := Kd.at_int HR0_0.out x7_2 p375 q375
               cases e375
               replace hx375_0 := (HB.out.cell (World.block_lt_of_cell? w _ hx375_0)).trans hx375_0; replace p375 := eq_true p375; replace q375 := eq_true q375
               try go_wp2
               have n0_ := Aside0.mk (blk_drew BK372.out); have n1_ := Aside0.mk (below_drew1 HB.out); clear BK372; clear HB; have BK372 := n0_; have HB := n1_; clear n0_ n1_; have p376 : 0 ≤ (x7_2 : Int) := of_decide_eq_true (by first | (with_reducible assumption) | assumption)
               have q376 : x7_2 < (l1.length : Int) := of_decide_eq_true (by first | (with_reducible assumption) | assumption)
               obtain ⟨ad376, e376, hx376_0⟩ := Kd.at_string HR1.out x7_2 p376 q376; have hw376_0 := hx376_0
               cases e376
               replace hx376_0 := (HB.out.cell (World.block_lt_of_cell? w _ hx376_0)).trans hx376_0; replace p376 := eq_true p376; replace q376 := eq_true q376; have p377 : 0 ≤ (x7_2 : Int) := of_decide_eq_true (by first | (with_reducible assumption) | assumption)
               have q377 : x7_2 < (l0_0.length : Int) := of_decide_eq_true (by first | (with_reducible assumption) | assumption)
               obtain ⟨ad377, e377, hx377_0⟩ := Kd.at_int HR0_0.out x7_2 p377 q377; have hw377_0 := hx377_0; obtain rfl : ad375 = ad377 := (by injection e377)
               replace hx377_0 := (HB.out.cell (World.block_lt_of_cell? w _ hx377_0)).trans hx377_0; replace p377 := eq_true p377; replace q377 := eq_true q377
               refine start_ (n := 17) (S := fun w' => w'.cell? ⟨gb372, 0, none⟩ = some (.slice (some ad375) l0_0.length c0_0) ∧ w'.cell? ⟨gb372, 1, none⟩ = some (.slice A0_1 l0_1.length c0_1) ∧ w'.cell? ⟨gb372, 2, none⟩ = some (.slice A0_2 l0_2.length c0_2) ∧ w'.cell? ⟨gb372, 3, none⟩ = some (.int .i64 a0_3) ∧ w'.cell? ⟨gb372, 4, none⟩ = some (.int .i64 a0_4) ∧ w'.cell? (ad376.add (x7_2).toNat) = some (.string (rdOf ByteArray.empty l1 x7_2)) ∧ w'.cell? (ad375.add (x7_2).toNat) = some (.int .i64 (rd l0_0 x7_2))) (ds := []) #[false, false, false, false, false, false, false, false, false, false, false, false, false, false, false, false, false] (by kernel_rfl) rfl rfl ⟨(blk_cell BK372.out 0).trans rfl, (blk_cell BK372.out 1).trans rfl, (blk_cell BK372.out 2).trans rfl, (blk_cell BK372.out 3).trans rfl, (blk_cell BK372.out 4).trans rfl, ((HB.out.cell (World.block_lt_of_cell? w _ hw376_0)).trans hw376_0), ((HB.out.cell (World.block_lt_of_cell? w _ hw377_0)).trans hw377_0)⟩ (fun hHeld => ?_); refine with_tabW emendateref34_Format.tab8 emendateref34_Format.bits8 (fun HT_ HW_ => ?_)
               generalize wr.drew = w23 at BK372 HB hx376_0 hx377_0 hHeld ⊢
               refine pure_ (i := 0) (N := some 33) (v := ?_) (a' := ?_) #[true, false, false, false, false, false, false, false, false, false, false, false, false, false, false, false, false] rfl rfl (any_of HT_.out (by kernel_rfl)) (fun _ _ _ h => h) (Or.inl ⟨by rfl, ?_⟩) ?_ ?_
               rotate_left
               ·
                intro w'
                go_simp
                with_reducible rfl
               rotate_left
               ·
                simp only [Act.put, List.setIfInBounds_toArray, List.set_cons_zero, List.set_cons_succ, i64_w, i32_w]
                rfl
               refine pure_ (i := 1) (N := some 34) (v := ?_) (a' := ?_) #[true, true, false, false, false, false, false, false, false, false, false, false, false, false, false, false, false] rfl rfl (any_of HT_.out (by kernel_rfl)) (fun _ _ _ h => h) (Or.inl ⟨by rfl, ?_⟩) ?_ ?_
               rotate_left
               ·
                intro w'
                go_simp
                with_reducible rfl
               rotate_left
               ·
                simp only [Act.put, List.setIfInBounds_toArray, List.set_cons_zero, List.set_cons_succ, i64_w, i32_w]
                rfl
               refine pure_ (i := 2) (N := some 35) (v := ?_) (a' := ?_) #[true, true, true, false, false, false, false, false, false, false, false, false, false, false, false, false, false] rfl rfl (any_of HT_.out (by kernel_rfl)) (fun _ _ _ h => h) (Or.inl ⟨by rfl, ?_⟩) ?_ ?_
               rotate_left
               ·
                intro w'
                go_simp
                with_reducible rfl
               rotate_left
               ·
                simp only [Act.put, List.setIfInBounds_toArray, List.set_cons_zero, List.set_cons_succ, i64_w, i32_w]
                rfl
               refine pure_ (i := 3) (N := some 36) (v := ?_) (a' := ?_) #[true, true, true, true, false, false, false, false, false, false, false, false, false, false, false, false, false] rfl rfl (any_of HT_.out (by kernel_rfl)) (fun _ _ _ h => h) (Or.inl ⟨by rfl, ?_⟩) ?_ ?_
               rotate_left
               ·
                intro w'
                go_simp
                with_reducible rfl
               rotate_left
               ·
                simp only [Act.put, List.setIfInBounds_toArray, List.set_cons_zero, List.set_cons_succ, i64_w, i32_w]
                rfl
               refine pure_ (i := 4) (N := some 37) (v := ?_) (a' := ?_) #[true, true, true, true, true, false, false, false, false, false, false, false, false, false, false, false, false] rfl rfl (any_of HT_.out (by kernel_rfl)) (fun _ _ _ h => h) (Or.inl ⟨by rfl, ?_⟩) ?_ ?_
               rotate_left
               ·
                intro w'
                go_simp
                with_reducible rfl
               rotate_left
               ·
                simp only [Act.put, List.setIfInBounds_toArray, List.set_cons_zero, List.set_cons_succ, i64_w, i32_w]
                rfl
               refine pure_ (i := 8) (N := some 41) (v := ?_) (a' := ?_) #[true, true, true, true, true, false, false, false, true, false, false, false, false, false, false, false, false] rfl rfl (any_of HT_.out (by kernel_rfl)) (fun _ _ _ h => h) (Or.inl ⟨by rfl, ?_⟩) ?_ ?_
               rotate_left
               ·
                intro w'
                go_simp
                with_reducible rfl
               rotate_left
               ·
                simp only [Act.put, List.setIfInBounds_toArray, List.set_cons_zero, List.set_cons_succ, i64_w, i32_w]
                rfl
               refine pure_ (i := 10) (N := some 43) (v := ?_) (a' := ?_) #[true, true, true, true, true, false, false, false, true, false, true, false, false, false, false, false, false] rfl rfl (any_of HT_.out (by kernel_rfl)) (fun _ _ _ h => h) (Or.inl ⟨by rfl, ?_⟩) ?_ ?_
               rotate_left
               ·
                intro w'
                go_simp
                with_reducible rfl
               rotate_left
               ·
                simp only [Act.put, List.setIfInBounds_toArray, List.set_cons_zero, List.set_cons_succ, i64_w, i32_w]
                rfl
               refine take_ (i := 5) (N := some 38) (v := ?_) (a' := ?_) #[true, true, true, true, true, true, false, false, true, false, true, false, false, false, false, false, false] rfl rfl (take_ofW HT_.out HW_.out (by kernel_rfl)) (fun _ _ _ h => h) (Or.inl ⟨by rfl, ?_⟩) hHeld ?_ ?_
               rotate_left
               ·
                rintro w' ⟨s0, s1, s2, s3, s4, s5, s6⟩
                go_simp
                with_reducible rfl
               rotate_left
               ·
                simp only [Act.put, List.setIfInBounds_toArray, List.set_cons_zero, List.set_cons_succ, i64_w, i32_w]
                rfl
               refine pure_ (i := 6) (N := some 39) (v := ?_) (a' := ?_) #[true, true, true, true, true, true, true, false, true, false, true, false, false, false, false, false, false] rfl rfl (any_of HT_.out (by kernel_rfl)) (fun _ _ _ h => h) (Or.inl ⟨by rfl, ?_⟩) ?_ ?_
               rotate_left
               ·
                intro w'
                go_simp
                with_reducible rfl
               rotate_left
               ·
                simp only [Act.put, List.setIfInBounds_toArray, List.set_cons_zero, List.set_cons_succ, i64_w, i32_w]
                rfl
               refine pure_ (i := 7) (N := some 40) (v := ?_) (a' := ?_) #[true, true, true, true, true, true, true, true, true, false, true, false, false, false, false, false, false] rfl rfl (any_of HT_.out (by kernel_rfl)) (fun _ _ _ h => h) (Or.inl ⟨by rfl, ?_⟩) ?_ ?_
               rotate_left
               ·
                intro w'
                go_simp
                with_reducible rfl
               rotate_left
               ·
                simp only [Act.put, List.setIfInBounds_toArray, List.set_cons_zero, List.set_cons_succ, i64_w, i32_w]
                rfl
               refine take_ (i := 9) (N := some 42) (v := ?_) (a' := ?_) #[true, true, true, true, true, true, true, true, true, true, true, false, false, false, false, false, false] rfl rfl (take_ofW HT_.out HW_.out (by kernel_rfl)) (fun _ _ _ h => h) (Or.inl ⟨by rfl, ?_⟩) hHeld ?_ ?_
               rotate_left
               ·
                rintro w' ⟨s0, s1, s2, s3, s4, s5, s6⟩
                go_simp
                with_reducible rfl
               rotate_left
               ·
                simp only [Act.put, List.setIfInBounds_toArray, List.set_cons_zero, List.set_cons_succ, i64_w, i32_w]
                rfl
               refine pure_ (i := 11) (N := some 44) (v := ?_) (a' := ?_) #[true, true, true, true, true, true, true, true, true, true, true, true, false, false, false, false, false] rfl rfl (any_of HT_.out (by kernel_rfl)) (fun _ _ _ h => h) (Or.inl ⟨by rfl, ?_⟩) ?_ ?_
               rotate_left
               ·
                intro w'
                go_simp
                with_reducible rfl
               rotate_left
               ·
                simp only [Act.put, List.setIfInBounds_toArray, List.set_cons_zero, List.set_cons_succ, i64_w, i32_w]
                rfl
               refine take_ (i := 12) (N := some 45) (v := ?_) (a' := ?_) #[true, true, true, true, true, true, true, true, true, true, true, true, true, false, false, false, false] rfl rfl (take_ofW HT_.out HW_.out (by kernel_rfl)) (fun _ _ _ h => h) (Or.inl ⟨by rfl, ?_⟩) hHeld ?_ ?_
               rotate_left
               ·
                rintro w' ⟨s0, s1, s2, s3, s4, s5, s6⟩
                go_simp
                with_reducible rfl
               rotate_left
               ·
                simp only [Act.put, List.setIfInBounds_toArray, List.set_cons_zero, List.set_cons_succ, i64_w, i32_w]
                rfl
               refine one_ (i := 13) (N := some 46) #[true, true, true, true, true, true, true, true, true, true, true, true, true, true, false, false, false] rfl rfl (one_of HT_.out (by kernel_rfl)) (by decide) (fun K hK => ?_)
               refine goes_ Tryz.func21 (by kernel_rfl) rfl #[.int .i64 (rd l0_0 x7_2)] (by rfl) rfl rfl (by (try simp only [List.map_toArray, List.map_cons, List.map_nil]); first | done | rfl | (simp only [List.length_drop, List.length_take]; rfl)) ?_
               with_reducible refine (emendateref16_Decimal.calls k2 (rd l0_0 x7_2) t378 _ A19.out).mono ?_
               rintro e w24 ⟨rfl, hb⟩
               refine ⟨_, rfl, ?_⟩
               have n0_ := Aside0.mk (blk_below (g := gb372) (o := .cells #[.slice (some ad375) l0_0.length c0_0, .slice A0_1 l0_1.length c0_1, .slice A0_2 l0_2.length c0_2, .int .i64 a0_3, .int .i64 a0_4] 25 (0, 0)) (by (with_reducible repeat (first | refine blk_drewN ?_ _ | refine blk_drew ?_ | refine blk_alloc ?_ _)); exact BK372.out) hb)
               have n1_ := Aside0.mk (below_step (by repeat (first | (with_reducible first | exact HB.out | apply below_alloc | apply pw_below_drewN | apply below_drew1 | refine below_set ?_ GE372.out) | exact HB.out)) hb)
               clear BK372; clear HB; have BK372 := n0_; have HB := n1_; clear n0_ n1_; (try clear hb); (try clear hb2); (try clear hk); (try clear hi)
               refine hK.out _ _ ⟨(blk_cell BK372.out 0).trans rfl, (blk_cell BK372.out 1).trans rfl, (blk_cell BK372.out 2).trans rfl, (blk_cell BK372.out 3).trans rfl, (blk_cell BK372.out 4).trans rfl, ((HB.out.cell (World.block_lt_of_cell? w _ hw376_0)).trans hw376_0), ((HB.out.cell (World.block_lt_of_cell? w _ hw377_0)).trans hw377_0)⟩ (fun hHeld => ?_)
               clear hK K
               refine norm_ (a' := ?_) ?_ ?_
               rotate_left
               ·
                show Act.put _ (some 46) _ = _
                simp only [Act.put, List.setIfInBounds_toArray, List.set_cons_zero, List.set_cons_succ, i64_w, i32_w]
                rfl
               refine pure_ (i := 14) (N := some 47) (v := ?_) (a' := ?_) #[true, true, true, true, true, true, true, true, true, true, true, true, true, true, true, false, false] rfl rfl (any_of HT_.out (by kernel_rfl)) (fun _ _ _ h => h) (Or.inl ⟨by rfl, ?_⟩) ?_ ?_
               rotate_left
               ·
                intro w'
                go_simp
                with_reducible rfl
               rotate_left
               ·
                simp only [Act.put, List.setIfInBounds_toArray, List.set_cons_zero, List.set_cons_succ, i64_w, i32_w]
                rfl
               refine pure_ (i := 15) (N := some 48) (v := ?_) (a' := ?_) #[true, true, true, true, true, true, true, true, true, true, true, true, true, true, true, true, false] rfl rfl (any_of HT_.out (by kernel_rfl)) (fun _ _ _ h => h) (Or.inl ⟨by rfl, ?_⟩) ?_ ?_
               rotate_left
               ·
                intro w'
                go_simp
                with_reducible rfl
               rotate_left
               ·
                simp only [Act.put, List.setIfInBounds_toArray, List.set_cons_zero, List.set_cons_succ, i64_w, i32_w]
                rfl
               refine pure_ (i := 16) (N := some 6) (v := ?_) (a' := ?_) #[true, true, true, true, true, true, true, true, true, true, true, true, true, true, true, true, true] rfl rfl (any_of HT_.out (by kernel_rfl)) (fun _ _ _ h => h) (Or.inl ⟨by rfl, ?_⟩) ?_ ?_
               rotate_left
               ·
                intro w'
                go_simp
                with_reducible rfl
               rotate_left
               ·
                simp only [Act.put, List.setIfInBounds_toArray, List.set_cons_zero, List.set_cons_succ, i64_w, i32_w]
                rfl
               refine done_ (done_of HT_.out (by kernel_rfl)) ?_
               try go_wp2
               go_roundg k2
               case measure => have := HJ2.out; have := HK2.out; omega
               case rel => exact ⟨(((((x6_2 ++ (⟨#[105, 110, 115, 101, 114, 116, 32]⟩ : ByteArray)) ++ (rdOf ByteArray.empty l1 x7_2)) ++ (⟨#[32]⟩ : ByteArray)) ++ t378) ++ (⟨#[10]⟩ : ByteArray)), (wrap64 (x7_2 + 1)), (by first | rfl | (simp; done) | (simp [*]; done)), (by first | rfl | (simp; done) | (simp [*]; done)), H', ⟨by have := HJ2.out; have := HK2.out; omega⟩, ⟨by (with_reducible repeat (first | refine blk_drewN ?_ _ | refine blk_drew ?_ | refine blk_alloc ?_ _)); exact BK372.out⟩, ⟨by repeat (first | (with_reducible first | exact HB.out | apply below_alloc | apply pw_below_drewN | apply below_drew1 | refine below_set ?_ GE372.out) | exact HB.out)⟩⟩
              ·
               rw [if_neg c21] at H
               exact absurd H (by simp)
             ·
              rw [if_neg c20] at H
              exact absurd H (by simp)
            ·
             rw [if_neg c18] at H
             exact absurd H (by simp)
           ·
            rw [if_neg c17] at H
            exact absurd H (by simp)
          ·
           rw [if_neg c16] at H
           exact absurd H (by simp)
        ·
         rw [if_neg c13] at H
         exact absurd H (by simp)
       ·
        rw [if_neg c12] at H
        exact absurd H (by simp)
      ·
       rw [if_neg c11] at H
       have c11b0 : decide (x7_2 < (l1.length : Int)) = false := decide_eq_false c11; clear c11; have H' := Aside0.mk H; clear H
       go_wp2
       go_loopg [6, 8] k2 (fun kq v6 v8 w' => ∃ (x6_3 : ByteArray) (x8_3 : Int), v6 = .string x6_3 ∧ v8 = .int .i64 x8_3 ∧ Aside0 (emendateref34_Format.l1 kq l1 x6_3 x8_3 l0_0 l0_1 l0_2 a0_3 a0_4 = some (r1, r2)) ∧ Aside0 (kq ≤ k2) ∧ Aside0 (w'.heap[gb372]? = some (.cells #[(.slice A0_0 l0_0.length c0_0), (.slice A0_1 l0_1.length c0_1), (.slice A0_2 l0_2.length c0_2), .int .i64 a0_3, .int .i64 a0_4] 25 (0, 0))) ∧ Aside0 (Below w.heap.size w w'))
       case atStart => exact ⟨(x6_2), (0), (by first | rfl | (simp; done) | (simp [*]; done)), (by first | rfl | (simp; done) | (simp [*]; done)), H', ⟨Nat.le_refl _⟩, ⟨by (with_reducible repeat (first | refine blk_drewN ?_ _ | refine blk_drew ?_ | refine blk_alloc ?_ _)); exact BK372.out⟩, ⟨by repeat (first | (with_reducible first | exact HB.out | apply below_alloc | apply pw_below_drewN | apply below_drew1 | refine below_set ?_ GE372.out) | exact HB.out)⟩⟩
       case round =>
        clear H'
        try clear c1
        try clear c2
        try clear p2
        try clear c3
        try clear p3
        try clear q3
        try clear hx3
        try clear c6
        try clear p6
        try clear c10
        try clear c11
        try clear c11b0
        try clear c12
        try clear c12b0
        try clear c13
        try clear c13b0
        try clear c14
        try clear c14b0
        try clear c14b1
        try clear c16
        try clear c16b0
        try clear c16b1
        try clear c16b2
        try clear c17
        try clear c17b0
        try clear c17b1
        try clear c17b2
        try clear c18
        try clear c18b0
        try clear c18b1
        try clear c18b2
        try clear c20
        try clear c20b0
        try clear c20b1
        try clear c20b2
        try clear c21
        try clear c21b0
        try clear c21b1
        try clear c21b2
        try clear hcz15_0
        try clear hcz15_1
        try clear hcz15_2
        try clear hcz15_3
        try clear hcz15_4
        try clear hcz22_0
        try clear hcz22_1
        try clear hcz22_2
        try clear hcz22_3
        try clear hcz22_4
        try clear hcz8_0
        try clear hcz8_1
        try clear hcz8_2
        try clear hcz8_3
        try clear hcz8_4
        try clear hfz15_0
        try clear hfz15_1
        try clear hfz15_2
        try clear hfz15_3
        try clear hfz15_4
        try clear hfz22_0
        try clear hfz22_1
        try clear hfz22_2
        try clear hfz22_3
        try clear hfz22_4
        try clear hfz8_0
        try clear hfz8_1
        try clear hfz8_2
        try clear hfz8_3
        try clear hfz8_4
        try clear hx375_0
        try clear hx376_0
        try clear hx377_0
        try clear p2
        try clear p375
        try clear p376
        try clear p377
        try clear q375
        try clear q376
        try clear q377
        obtain ⟨x6_3, x8_3, rfl, rfl, HA, HK3, BK372, HB⟩ := hrel
        cases gk with
        | zero => exact absurd HA.out (by simp [emendateref34_Format.l1])
        | succ k3 =>
         have H := HA.out; clear HA
         simp only [emendateref34_Format.l1] at H
         by_cases c25 : x8_3 < (l1.length : Int)
         ·
          rw [if_pos c25] at H
          have c25b0 : decide (x8_3 < (l1.length : Int)) = true := decide_eq_true c25; clear c25
          by_cases c26 : 0 ≤ x8_3
          ·
           rw [if_pos c26] at H
           have c26b0 : decide (0 ≤ x8_3) = true := decide_eq_true c26; clear c26
           by_cases c27 : x8_3 < (l0_1.length : Int)
           ·
            rw [if_pos c27] at H
            have c27b0 : decide (x8_3 < (l0_1.length : Int)) = true := decide_eq_true c27; clear c27
            by_cases c28 : (rd l0_1 x8_3) = 10
            ·
             rw [if_pos c28] at H
             have c28b0 : ((rd l0_1 x8_3) == 10) = true := beq_iff_eq.mpr c28; have c28b1 : ((rd l0_1 x8_3) != 10) = false := bne_eq_false_iff_eq.mpr c28; clear c28; have H' := Aside0.mk H; clear H; have hcz29_0 : wr.cell? ⟨gb372, 0, none⟩ = some (.slice A0_0 l0_0.length c0_0) := (blk_cell BK372.out 0).trans rfl; have hcz29_1 : wr.cell? ⟨gb372, 1, none⟩ = some (.slice A0_1 l0_1.length c0_1) := (blk_cell BK372.out 1).trans rfl; have hcz29_2 : wr.cell? ⟨gb372, 2, none⟩ = some (.slice A0_2 l0_2.length c0_2) := (blk_cell BK372.out 2).trans rfl; have hcz29_3 : wr.cell? ⟨gb372, 3, none⟩ = some (.int .i64 a0_3) := (blk_cell BK372.out 3).trans rfl; have hcz29_4 : wr.cell? ⟨gb372, 4, none⟩ = some (.int .i64 a0_4) := (blk_cell BK372.out 4).trans rfl; have hfz29_0 := blk_frozen BK372.out 0; have hfz29_1 := blk_frozen BK372.out 1; have hfz29_2 := blk_frozen BK372.out 2; have hfz29_3 := blk_frozen BK372.out 3; have hfz29_4 := blk_frozen BK372.out 4; have p379 : 0 ≤ (x8_3 : Int) := of_decide_eq_true (by first | (with_reducible assumption) | assumption)
             have q379 : x8_3 < (l0_1.length : Int) := of_decide_eq_true (by first | (with_reducible assumption) | assumption)
             obtain ⟨ad379, e379, hx379_0⟩ := Kd.at_int HR0_1.out x8_3 p379 q379
             cases e379
             replace hx379_0 := (HB.out.cell (World.block_lt_of_cell? w _ hx379_0)).trans hx379_0; replace p379 := eq_true p379; replace q379 := eq_true q379
             go_wp2
             go_roundg k3
             case measure => have := HJ2.out; have := HK2.out; have := HK3.out; omega
             case rel => exact ⟨(x6_3), (wrap64 (x8_3 + 1)), (by first | rfl | (simp; done) | (simp [*]; done)), (by first | rfl | (simp; done) | (simp [*]; done)), H', ⟨by have := HJ2.out; have := HK2.out; have := HK3.out; omega⟩, ⟨by (with_reducible repeat (first | refine blk_drewN ?_ _ | refine blk_drew ?_ | refine blk_alloc ?_ _)); exact BK372.out⟩, ⟨by repeat (first | (with_reducible first | exact HB.out | apply below_alloc | apply pw_below_drewN | apply below_drew1 | refine below_set ?_ GE372.out) | exact HB.out)⟩⟩
            ·
             rw [if_neg c28] at H
             have c28b0 : ((rd l0_1 x8_3) == 10) = false := beq_eq_false_iff_ne.mpr c28; have c28b1 : ((rd l0_1 x8_3) != 10) = true := bne_iff_ne.mpr c28
             by_cases c30 : x6_3.size + 7 ≤ 9223372036854775807
             ·
              rw [if_pos c30] at H
              have c30b0 := eq_true c30; have c30b1 : decide (x6_3.size + 7 ≤ 9223372036854775807) = true := decide_eq_true c30
              try have c30b2 : (9223372036854775807 < x6_3.size + 7) = False := eq_false (Nat.not_lt.2 c30)
              by_cases c31 : (x6_3 ++ (⟨#[100, 101, 108, 101, 116, 101, 32]⟩ : ByteArray)).size + (rdOf ByteArray.empty l1 x8_3).size ≤ 9223372036854775807
              ·
               rw [if_pos c31] at H
               have c31b0 := eq_true c31; have c31b1 : decide ((x6_3 ++ (⟨#[100, 101, 108, 101, 116, 101, 32]⟩ : ByteArray)).size + (rdOf ByteArray.empty l1 x8_3).size ≤ 9223372036854775807) = true := decide_eq_true c31
               try have c31b2 : (9223372036854775807 < (x6_3 ++ (⟨#[100, 101, 108, 101, 116, 101, 32]⟩ : ByteArray)).size + (rdOf ByteArray.empty l1 x8_3).size) = False := eq_false (Nat.not_lt.2 c31)
               try have c31b3 : (9223372036854775807 < x6_3.size + 7 + (rdOf ByteArray.empty l1 x8_3).size) = False := eq_false (by have h_ := c31; simp only [ByteArray.size_append] at h_; have e0_ : (⟨#[100, 101, 108, 101, 116, 101, 32]⟩ : ByteArray).size = 7 := rfl; omega)
               by_cases c32 : ((x6_3 ++ (⟨#[100, 101, 108, 101, 116, 101, 32]⟩ : ByteArray)) ++ (rdOf ByteArray.empty l1 x8_3)).size + 1 ≤ 9223372036854775807
               ·
                rw [if_pos c32] at H
                have c32b0 := eq_true c32; have c32b1 : decide (((x6_3 ++ (⟨#[100, 101, 108, 101, 116, 101, 32]⟩ : ByteArray)) ++ (rdOf ByteArray.empty l1 x8_3)).size + 1 ≤ 9223372036854775807) = true := decide_eq_true c32
                try have c32b2 : (9223372036854775807 < ((x6_3 ++ (⟨#[100, 101, 108, 101, 116, 101, 32]⟩ : ByteArray)) ++ (rdOf ByteArray.empty l1 x8_3)).size + 1) = False := eq_false (Nat.not_lt.2 c32)
                try have c32b3 : (9223372036854775807 < x6_3.size + 7 + (rdOf ByteArray.empty l1 x8_3).size + 1) = False := eq_false (by have h_ := c32; simp only [ByteArray.size_append] at h_; have e0_ : (⟨#[100, 101, 108, 101, 116, 101, 32]⟩ : ByteArray).size = 7 := rfl; omega)
                replace H := Option.bind_eq_some_iff.mp H; obtain ⟨t382, A330, H⟩ := H; replace H : (if (((x6_3 ++ (⟨#[100, 101, 108, 101, 116, 101, 32]⟩ : ByteArray)) ++ (rdOf ByteArray.empty l1 x8_3)) ++ (⟨#[32]⟩ : ByteArray)).size + t382.size ≤ 9223372036854775807 then (if ((((x6_3 ++ (⟨#[100, 101, 108, 101, 116, 101, 32]⟩ : ByteArray)) ++ (rdOf ByteArray.empty l1 x8_3)) ++ (⟨#[32]⟩ : ByteArray)) ++ t382).size + 1 ≤ 9223372036854775807 then (emendateref34_Format.l1 k3 l1 (((((x6_3 ++ (⟨#[100, 101, 108, 101, 116, 101, 32]⟩ : ByteArray)) ++ (rdOf ByteArray.empty l1 x8_3)) ++ (⟨#[32]⟩ : ByteArray)) ++ t382) ++ (⟨#[10]⟩ : ByteArray)) (wrap64 (x8_3 + 1)) l0_0 l0_1 l0_2 a0_3 a0_4) else (none)) else (none)) = some (r1, r2) := H; have A33 := Aside0.mk A330; clear A330
                by_cases c34 : (((x6_3 ++ (⟨#[100, 101, 108, 101, 116, 101, 32]⟩ : ByteArray)) ++ (rdOf ByteArray.empty l1 x8_3)) ++ (⟨#[32]⟩ : ByteArray)).size + t382.size ≤ 9223372036854775807
                ·
                 rw [if_pos c34] at H
                 have c34b0 := eq_true c34; have c34b1 : decide ((((x6_3 ++ (⟨#[100, 101, 108, 101, 116, 101, 32]⟩ : ByteArray)) ++ (rdOf ByteArray.empty l1 x8_3)) ++ (⟨#[32]⟩ : ByteArray)).size + t382.size ≤ 9223372036854775807) = true := decide_eq_true c34
                 try have c34b2 : (9223372036854775807 < (((x6_3 ++ (⟨#[100, 101, 108, 101, 116, 101, 32]⟩ : ByteArray)) ++ (rdOf ByteArray.empty l1 x8_3)) ++ (⟨#[32]⟩ : ByteArray)).size + t382.size) = False := eq_false (Nat.not_lt.2 c34)
                 try have c34b3 : (9223372036854775807 < x6_3.size + 7 + (rdOf ByteArray.empty l1 x8_3).size + 1 + t382.size) = False := eq_false (by have h_ := c34; simp only [ByteArray.size_append] at h_; have e0_ : (⟨#[100, 101, 108, 101, 116, 101, 32]⟩ : ByteArray).size = 7 := rfl; have e1_ : (⟨#[32]⟩ : ByteArray).size = 1 := rfl; omega)
                 by_cases c35 : ((((x6_3 ++ (⟨#[100, 101, 108, 101, 116, 101, 32]⟩ : ByteArray)) ++ (rdOf ByteArray.empty l1 x8_3)) ++ (⟨#[32]⟩ : ByteArray)) ++ t382).size + 1 ≤ 9223372036854775807
                 ·
                  rw [if_pos c35] at H
                  have c35b0 := eq_true c35; have c35b1 : decide (((((x6_3 ++ (⟨#[100, 101, 108, 101, 116, 101, 32]⟩ : ByteArray)) ++ (rdOf ByteArray.empty l1 x8_3)) ++ (⟨#[32]⟩ : ByteArray)) ++ t382).size + 1 ≤ 9223372036854775807) = true := decide_eq_true c35
                  try have c35b2 : (9223372036854775807 < ((((x6_3 ++ (⟨#[100, 101, 108, 101, 116, 101, 32]⟩ : ByteArray)) ++ (rdOf ByteArray.empty l1 x8_3)) ++ (⟨#[32]⟩ : ByteArray)) ++ t382).size + 1) = False := eq_false (Nat.not_lt.2 c35)
                  try have c35b3 : (9223372036854775807 < x6_3.size + 7 + (rdOf ByteArray.empty l1 x8_3).size + 1 + t382.size + 1) = False := eq_false (by have h_ := c35; simp only [ByteArray.size_append] at h_; have e0_ : (⟨#[100, 101, 108, 101, 116, 101, 32]⟩ : ByteArray).size = 7 := rfl; have e1_ : (⟨#[32]⟩ : ByteArray).size = 1 := rfl; omega)
                  have H' := Aside0.mk H; clear H; have hcz36_0 : wr.cell? ⟨gb372, 0, none⟩ = some (.slice A0_0 l0_0.length c0_0) := (blk_cell BK372.out 0).trans rfl; have hcz36_1 : wr.cell? ⟨gb372, 1, none⟩ = some (.slice A0_1 l0_1.length c0_1) := (blk_cell BK372.out 1).trans rfl; have hcz36_2 : wr.cell? ⟨gb372, 2, none⟩ = some (.slice A0_2 l0_2.length c0_2) := (blk_cell BK372.out 2).trans rfl; have hcz36_3 : wr.cell? ⟨gb372, 3, none⟩ = some (.int .i64 a0_3) := (blk_cell BK372.out 3).trans rfl; have hcz36_4 : wr.cell? ⟨gb372, 4, none⟩ = some (.int .i64 a0_4) := (blk_cell BK372.out 4).trans rfl; have hfz36_0 := blk_frozen BK372.out 0; have hfz36_1 := blk_frozen BK372.out 1; have hfz36_2 := blk_frozen BK372.out 2; have hfz36_3 := blk_frozen BK372.out 3; have hfz36_4 := blk_frozen BK372.out 4; have p379 : 0 ≤ (x8_3 : Int) := of_decide_eq_true (by first | (with_reducible assumption) | assumption)
                  have q379 : x8_3 < (l0_1.length : Int) := of_decide_eq_true (by first | (with_reducible assumption) | assumption)
                  obtain ⟨ad379, e379, hx379_0⟩ := Kd.at_int HR0_1.out x8_3 p379 q379
                  cases e379
                  replace hx379_0 := (HB.out.cell (World.block_lt_of_cell? w _ hx379_0)).trans hx379_0; replace p379 := eq_true p379; replace q379 := eq_true q379
                  try go_wp2
                  have n0_ := Aside0.mk (blk_drew BK372.out); have n1_ := Aside0.mk (below_drew1 HB.out); clear BK372; clear HB; have BK372 := n0_; have HB := n1_; clear n0_ n1_; have p380 : 0 ≤ (x8_3 : Int) := of_decide_eq_true (by first | (with_reducible assumption) | assumption)
                  have q380 : x8_3 < (l1.length : Int) := of_decide_eq_true (by first | (with_reducible assumption) | assumption)
                  obtain ⟨ad380, e380, hx380_0⟩ := Kd.at_string HR1.out x8_3 p380 q380; have hw380_0 := hx380_0
                  cases e380
                  replace hx380_0 := (HB.out.cell (World.block_lt_of_cell? w _ hx380_0)).trans hx380_0; replace p380 := eq_true p380; replace q380 := eq_true q380; have p381 : 0 ≤ (x8_3 : Int) := of_decide_eq_true (by first | (with_reducible assumption) | assumption)
                  have q381 : x8_3 < (l0_1.length : Int) := of_decide_eq_true (by first | (with_reducible assumption) | assumption)
                  obtain ⟨ad381, e381, hx381_0⟩ := Kd.at_int HR0_1.out x8_3 p381 q381; have hw381_0 := hx381_0; obtain rfl : ad379 = ad381 := (by injection e381)
                  replace hx381_0 := (HB.out.cell (World.block_lt_of_cell? w _ hx381_0)).trans hx381_0; replace p381 := eq_true p381; replace q381 := eq_true q381
                  refine start_ (n := 17) (S := fun w' => w'.cell? ⟨gb372, 0, none⟩ = some (.slice A0_0 l0_0.length c0_0) ∧ w'.cell? ⟨gb372, 1, none⟩ = some (.slice (some ad379) l0_1.length c0_1) ∧ w'.cell? ⟨gb372, 2, none⟩ = some (.slice A0_2 l0_2.length c0_2) ∧ w'.cell? ⟨gb372, 3, none⟩ = some (.int .i64 a0_3) ∧ w'.cell? ⟨gb372, 4, none⟩ = some (.int .i64 a0_4) ∧ w'.cell? (ad380.add (x8_3).toNat) = some (.string (rdOf ByteArray.empty l1 x8_3)) ∧ w'.cell? (ad379.add (x8_3).toNat) = some (.int .i64 (rd l0_1 x8_3))) (ds := []) #[false, false, false, false, false, false, false, false, false, false, false, false, false, false, false, false, false] (by kernel_rfl) rfl rfl ⟨(blk_cell BK372.out 0).trans rfl, (blk_cell BK372.out 1).trans rfl, (blk_cell BK372.out 2).trans rfl, (blk_cell BK372.out 3).trans rfl, (blk_cell BK372.out 4).trans rfl, ((HB.out.cell (World.block_lt_of_cell? w _ hw380_0)).trans hw380_0), ((HB.out.cell (World.block_lt_of_cell? w _ hw381_0)).trans hw381_0)⟩ (fun hHeld => ?_); refine with_tabW emendateref34_Format.tab13 emendateref34_Format.bits13 (fun HT_ HW_ => ?_)
                  generalize wr.drew = w37 at BK372 HB hx380_0 hx381_0 hHeld ⊢
                  refine pure_ (i := 0) (N := some 61) (v := ?_) (a' := ?_) #[true, false, false, false, false, false, false, false, false, false, false, false, false, false, false, false, false] rfl rfl (any_of HT_.out (by kernel_rfl)) (fun _ _ _ h => h) (Or.inl ⟨by rfl, ?_⟩) ?_ ?_
                  rotate_left
                  ·
                   intro w'
                   go_simp
                   with_reducible rfl
                  rotate_left
                  ·
                   simp only [Act.put, List.setIfInBounds_toArray, List.set_cons_zero, List.set_cons_succ, i64_w, i32_w]
                   rfl
                  refine pure_ (i := 1) (N := some 62) (v := ?_) (a' := ?_) #[true, true, false, false, false, false, false, false, false, false, false, false, false, false, false, false, false] rfl rfl (any_of HT_.out (by kernel_rfl)) (fun _ _ _ h => h) (Or.inl ⟨by rfl, ?_⟩) ?_ ?_
                  rotate_left
                  ·
                   intro w'
                   go_simp
                   with_reducible rfl
                  rotate_left
                  ·
                   simp only [Act.put, List.setIfInBounds_toArray, List.set_cons_zero, List.set_cons_succ, i64_w, i32_w]
                   rfl
                  refine pure_ (i := 2) (N := some 63) (v := ?_) (a' := ?_) #[true, true, true, false, false, false, false, false, false, false, false, false, false, false, false, false, false] rfl rfl (any_of HT_.out (by kernel_rfl)) (fun _ _ _ h => h) (Or.inl ⟨by rfl, ?_⟩) ?_ ?_
                  rotate_left
                  ·
                   intro w'
                   go_simp
                   with_reducible rfl
                  rotate_left
                  ·
                   simp only [Act.put, List.setIfInBounds_toArray, List.set_cons_zero, List.set_cons_succ, i64_w, i32_w]
                   rfl
                  refine pure_ (i := 3) (N := some 64) (v := ?_) (a' := ?_) #[true, true, true, true, false, false, false, false, false, false, false, false, false, false, false, false, false] rfl rfl (any_of HT_.out (by kernel_rfl)) (fun _ _ _ h => h) (Or.inl ⟨by rfl, ?_⟩) ?_ ?_
                  rotate_left
                  ·
                   intro w'
                   go_simp
                   with_reducible rfl
                  rotate_left
                  ·
                   simp only [Act.put, List.setIfInBounds_toArray, List.set_cons_zero, List.set_cons_succ, i64_w, i32_w]
                   rfl
                  refine pure_ (i := 4) (N := some 65) (v := ?_) (a' := ?_) #[true, true, true, true, true, false, false, false, false, false, false, false, false, false, false, false, false] rfl rfl (any_of HT_.out (by kernel_rfl)) (fun _ _ _ h => h) (Or.inl ⟨by rfl, ?_⟩) ?_ ?_
                  rotate_left
                  ·
                   intro w'
                   go_simp
                   with_reducible rfl
                  rotate_left
                  ·
                   simp only [Act.put, List.setIfInBounds_toArray, List.set_cons_zero, List.set_cons_succ, i64_w, i32_w]
                   rfl
                  refine pure_ (i := 8) (N := some 69) (v := ?_) (a' := ?_) #[true, true, true, true, true, false, false, false, true, false, false, false, false, false, false, false, false] rfl rfl (any_of HT_.out (by kernel_rfl)) (fun _ _ _ h => h) (Or.inl ⟨by rfl, ?_⟩) ?_ ?_
                  rotate_left
                  ·
                   intro w'
                   go_simp
                   with_reducible rfl
                  rotate_left
                  ·
                   simp only [Act.put, List.setIfInBounds_toArray, List.set_cons_zero, List.set_cons_succ, i64_w, i32_w]
                   rfl
                  refine pure_ (i := 10) (N := some 71) (v := ?_) (a' := ?_) #[true, true, true, true, true, false, false, false, true, false, true, false, false, false, false, false, false] rfl rfl (any_of HT_.out (by kernel_rfl)) (fun _ _ _ h => h) (Or.inl ⟨by rfl, ?_⟩) ?_ ?_
                  rotate_left
                  ·
                   intro w'
                   go_simp
                   with_reducible rfl
                  rotate_left
                  ·
                   simp only [Act.put, List.setIfInBounds_toArray, List.set_cons_zero, List.set_cons_succ, i64_w, i32_w]
                   rfl
                  refine take_ (i := 5) (N := some 66) (v := ?_) (a' := ?_) #[true, true, true, true, true, true, false, false, true, false, true, false, false, false, false, false, false] rfl rfl (take_ofW HT_.out HW_.out (by kernel_rfl)) (fun _ _ _ h => h) (Or.inl ⟨by rfl, ?_⟩) hHeld ?_ ?_
                  rotate_left
                  ·
                   rintro w' ⟨s0, s1, s2, s3, s4, s5, s6⟩
                   go_simp
                   with_reducible rfl
                  rotate_left
                  ·
                   simp only [Act.put, List.setIfInBounds_toArray, List.set_cons_zero, List.set_cons_succ, i64_w, i32_w]
                   rfl
                  refine pure_ (i := 6) (N := some 67) (v := ?_) (a' := ?_) #[true, true, true, true, true, true, true, false, true, false, true, false, false, false, false, false, false] rfl rfl (any_of HT_.out (by kernel_rfl)) (fun _ _ _ h => h) (Or.inl ⟨by rfl, ?_⟩) ?_ ?_
                  rotate_left
                  ·
                   intro w'
                   go_simp
                   with_reducible rfl
                  rotate_left
                  ·
                   simp only [Act.put, List.setIfInBounds_toArray, List.set_cons_zero, List.set_cons_succ, i64_w, i32_w]
                   rfl
                  refine pure_ (i := 7) (N := some 68) (v := ?_) (a' := ?_) #[true, true, true, true, true, true, true, true, true, false, true, false, false, false, false, false, false] rfl rfl (any_of HT_.out (by kernel_rfl)) (fun _ _ _ h => h) (Or.inl ⟨by rfl, ?_⟩) ?_ ?_
                  rotate_left
                  ·
                   intro w'
                   go_simp
                   with_reducible rfl
                  rotate_left
                  ·
                   simp only [Act.put, List.setIfInBounds_toArray, List.set_cons_zero, List.set_cons_succ, i64_w, i32_w]
                   rfl
                  refine take_ (i := 9) (N := some 70) (v := ?_) (a' := ?_) #[true, true, true, true, true, true, true, true, true, true, true, false, false, false, false, false, false] rfl rfl (take_ofW HT_.out HW_.out (by kernel_rfl)) (fun _ _ _ h => h) (Or.inl ⟨by rfl, ?_⟩) hHeld ?_ ?_
                  rotate_left
                  ·
                   rintro w' ⟨s0, s1, s2, s3, s4, s5, s6⟩
                   go_simp
                   with_reducible rfl
                  rotate_left
                  ·
                   simp only [Act.put, List.setIfInBounds_toArray, List.set_cons_zero, List.set_cons_succ, i64_w, i32_w]
                   rfl
                  refine pure_ (i := 11) (N := some 72) (v := ?_) (a' := ?_) #[true, true, true, true, true, true, true, true, true, true, true, true, false, false, false, false, false] rfl rfl (any_of HT_.out (by kernel_rfl)) (fun _ _ _ h => h) (Or.inl ⟨by rfl, ?_⟩) ?_ ?_
                  rotate_left
                  ·
                   intro w'
                   go_simp
                   with_reducible rfl
                  rotate_left
                  ·
                   simp only [Act.put, List.setIfInBounds_toArray, List.set_cons_zero, List.set_cons_succ, i64_w, i32_w]
                   rfl
                  refine take_ (i := 12) (N := some 73) (v := ?_) (a' := ?_) #[true, true, true, true, true, true, true, true, true, true, true, true, true, false, false, false, false] rfl rfl (take_ofW HT_.out HW_.out (by kernel_rfl)) (fun _ _ _ h => h) (Or.inl ⟨by rfl, ?_⟩) hHeld ?_ ?_
                  rotate_left
                  ·
                   rintro w' ⟨s0, s1, s2, s3, s4, s5, s6⟩
                   go_simp
                   with_reducible rfl
                  rotate_left
                  ·
                   simp only [Act.put, List.setIfInBounds_toArray, List.set_cons_zero, List.set_cons_succ, i64_w, i32_w]
                   rfl
                  refine one_ (i := 13) (N := some 74) #[true, true, true, true, true, true, true, true, true, true, true, true, true, true, false, false, false] rfl rfl (one_of HT_.out (by kernel_rfl)) (by decide) (fun K hK => ?_)
                  refine goes_ Tryz.func21 (by kernel_rfl) rfl #[.int .i64 (rd l0_1 x8_3)] (by rfl) rfl rfl (by (try simp only [List.map_toArray, List.map_cons, List.map_nil]); first | done | rfl | (simp only [List.length_drop, List.length_take]; rfl)) ?_
                  with_reducible refine (emendateref16_Decimal.calls k3 (rd l0_1 x8_3) t382 _ A33.out).mono ?_
                  rintro e w38 ⟨rfl, hb⟩
                  refine ⟨_, rfl, ?_⟩
                  have n0_ := Aside0.mk (blk_below (g := gb372) (o := .cells #[.slice A0_0 l0_0.length c0_0, .slice (some ad379) l0_1.length c0_1, .slice A0_2 l0_2.length c0_2, .int .i64 a0_3, .int .i64 a0_4] 25 (0, 0)) (by (with_reducible repeat (first | refine blk_drewN ?_ _ | refine blk_drew ?_ | refine blk_alloc ?_ _)); exact BK372.out) hb)
                  have n1_ := Aside0.mk (below_step (by repeat (first | (with_reducible first | exact HB.out | apply below_alloc | apply pw_below_drewN | apply below_drew1 | refine below_set ?_ GE372.out) | exact HB.out)) hb)
                  clear BK372; clear HB; have BK372 := n0_; have HB := n1_; clear n0_ n1_; (try clear hb); (try clear hb2); (try clear hk); (try clear hi)
                  refine hK.out _ _ ⟨(blk_cell BK372.out 0).trans rfl, (blk_cell BK372.out 1).trans rfl, (blk_cell BK372.out 2).trans rfl, (blk_cell BK372.out 3).trans rfl, (blk_cell BK372.out 4).trans rfl, ((HB.out.cell (World.block_lt_of_cell? w _ hw380_0)).trans hw380_0), ((HB.out.cell (World.block_lt_of_cell? w _ hw381_0)).trans hw381_0)⟩ (fun hHeld => ?_)
                  clear hK K
                  refine norm_ (a' := ?_) ?_ ?_
                  rotate_left
                  ·
                   show Act.put _ (some 74) _ = _
                   simp only [Act.put, List.setIfInBounds_toArray, List.set_cons_zero, List.set_cons_succ, i64_w, i32_w]
                   rfl
                  refine pure_ (i := 14) (N := some 75) (v := ?_) (a' := ?_) #[true, true, true, true, true, true, true, true, true, true, true, true, true, true, true, false, false] rfl rfl (any_of HT_.out (by kernel_rfl)) (fun _ _ _ h => h) (Or.inl ⟨by rfl, ?_⟩) ?_ ?_
                  rotate_left
                  ·
                   intro w'
                   go_simp
                   with_reducible rfl
                  rotate_left
                  ·
                   simp only [Act.put, List.setIfInBounds_toArray, List.set_cons_zero, List.set_cons_succ, i64_w, i32_w]
                   rfl
                  refine pure_ (i := 15) (N := some 76) (v := ?_) (a' := ?_) #[true, true, true, true, true, true, true, true, true, true, true, true, true, true, true, true, false] rfl rfl (any_of HT_.out (by kernel_rfl)) (fun _ _ _ h => h) (Or.inl ⟨by rfl, ?_⟩) ?_ ?_
                  rotate_left
                  ·
                   intro w'
                   go_simp
                   with_reducible rfl
                  rotate_left
                  ·
                   simp only [Act.put, List.setIfInBounds_toArray, List.set_cons_zero, List.set_cons_succ, i64_w, i32_w]
                   rfl
                  refine pure_ (i := 16) (N := some 6) (v := ?_) (a' := ?_) #[true, true, true, true, true, true, true, true, true, true, true, true, true, true, true, true, true] rfl rfl (any_of HT_.out (by kernel_rfl)) (fun _ _ _ h => h) (Or.inl ⟨by rfl, ?_⟩) ?_ ?_
                  rotate_left
                  ·
                   intro w'
                   go_simp
                   with_reducible rfl
                  rotate_left
                  ·
                   simp only [Act.put, List.setIfInBounds_toArray, List.set_cons_zero, List.set_cons_succ, i64_w, i32_w]
                   rfl
                  refine done_ (done_of HT_.out (by kernel_rfl)) ?_
                  try go_wp2
                  go_roundg k3
                  case measure => have := HJ2.out; have := HK2.out; have := HK3.out; omega
                  case rel => exact ⟨(((((x6_3 ++ (⟨#[100, 101, 108, 101, 116, 101, 32]⟩ : ByteArray)) ++ (rdOf ByteArray.empty l1 x8_3)) ++ (⟨#[32]⟩ : ByteArray)) ++ t382) ++ (⟨#[10]⟩ : ByteArray)), (wrap64 (x8_3 + 1)), (by first | rfl | (simp; done) | (simp [*]; done)), (by first | rfl | (simp; done) | (simp [*]; done)), H', ⟨by have := HJ2.out; have := HK2.out; have := HK3.out; omega⟩, ⟨by (with_reducible repeat (first | refine blk_drewN ?_ _ | refine blk_drew ?_ | refine blk_alloc ?_ _)); exact BK372.out⟩, ⟨by repeat (first | (with_reducible first | exact HB.out | apply below_alloc | apply pw_below_drewN | apply below_drew1 | refine below_set ?_ GE372.out) | exact HB.out)⟩⟩
                 ·
                  rw [if_neg c35] at H
                  exact absurd H (by simp)
                ·
                 rw [if_neg c34] at H
                 exact absurd H (by simp)
               ·
                rw [if_neg c32] at H
                exact absurd H (by simp)
              ·
               rw [if_neg c31] at H
               exact absurd H (by simp)
             ·
              rw [if_neg c30] at H
              exact absurd H (by simp)
           ·
            rw [if_neg c27] at H
            exact absurd H (by simp)
          ·
           rw [if_neg c26] at H
           exact absurd H (by simp)
         ·
          rw [if_neg c25] at H
          have c25b0 : decide (x8_3 < (l1.length : Int)) = false := decide_eq_false c25; clear c25; have H' := Aside0.mk H; clear H
          go_wp2
          go_loopg [6, 9] k3 (fun kq v6 v9 w' => ∃ (x6_4 : ByteArray) (x9_4 : Int), v6 = .string x6_4 ∧ v9 = .int .i64 x9_4 ∧ Aside0 (emendateref34_Format.l2 kq l1 x6_4 x9_4 l0_0 l0_1 l0_2 a0_3 a0_4 = some (r1, r2)) ∧ Aside0 (kq ≤ k3) ∧ Aside0 (w'.heap[gb372]? = some (.cells #[(.slice A0_0 l0_0.length c0_0), (.slice A0_1 l0_1.length c0_1), (.slice A0_2 l0_2.length c0_2), .int .i64 a0_3, .int .i64 a0_4] 25 (0, 0))) ∧ Aside0 (Below w.heap.size w w'))
          case atStart => exact ⟨(x6_3), (0), (by first | rfl | (simp; done) | (simp [*]; done)), (by first | rfl | (simp; done) | (simp [*]; done)), H', ⟨Nat.le_refl _⟩, ⟨by (with_reducible repeat (first | refine blk_drewN ?_ _ | refine blk_drew ?_ | refine blk_alloc ?_ _)); exact BK372.out⟩, ⟨by repeat (first | (with_reducible first | exact HB.out | apply below_alloc | apply pw_below_drewN | apply below_drew1 | refine below_set ?_ GE372.out) | exact HB.out)⟩⟩
          case round =>
           clear H'
           try clear c1
           try clear c2
           try clear p2
           try clear c3
           try clear p3
           try clear q3
           try clear hx3
           try clear c6
           try clear p6
           try clear c10
           try clear c11
           try clear c11b0
           try clear c12
           try clear c12b0
           try clear c13
           try clear c13b0
           try clear c14
           try clear c14b0
           try clear c14b1
           try clear c16
           try clear c16b0
           try clear c16b1
           try clear c16b2
           try clear c17
           try clear c17b0
           try clear c17b1
           try clear c17b2
           try clear c18
           try clear c18b0
           try clear c18b1
           try clear c18b2
           try clear c20
           try clear c20b0
           try clear c20b1
           try clear c20b2
           try clear c21
           try clear c21b0
           try clear c21b1
           try clear c21b2
           try clear c25
           try clear c25b0
           try clear c26
           try clear c26b0
           try clear c27
           try clear c27b0
           try clear c28
           try clear c28b0
           try clear c28b1
           try clear c30
           try clear c30b0
           try clear c30b1
           try clear c30b2
           try clear c31
           try clear c31b0
           try clear c31b1
           try clear c31b2
           try clear c32
           try clear c32b0
           try clear c32b1
           try clear c32b2
           try clear c34
           try clear c34b0
           try clear c34b1
           try clear c34b2
           try clear c35
           try clear c35b0
           try clear c35b1
           try clear c35b2
           try clear p37
           try clear q37
           try clear hx37
           try clear p38
           try clear q38
           try clear hx38
           try clear hcz15_0
           try clear hcz15_1
           try clear hcz15_2
           try clear hcz15_3
           try clear hcz15_4
           try clear hcz22_0
           try clear hcz22_1
           try clear hcz22_2
           try clear hcz22_3
           try clear hcz22_4
           try clear hcz29_0
           try clear hcz29_1
           try clear hcz29_2
           try clear hcz29_3
           try clear hcz29_4
           try clear hcz36_0
           try clear hcz36_1
           try clear hcz36_2
           try clear hcz36_3
           try clear hcz36_4
           try clear hcz8_0
           try clear hcz8_1
           try clear hcz8_2
           try clear hcz8_3
           try clear hcz8_4
           try clear hfz15_0
           try clear hfz15_1
           try clear hfz15_2
           try clear hfz15_3
           try clear hfz15_4
           try clear hfz22_0
           try clear hfz22_1
           try clear hfz22_2
           try clear hfz22_3
           try clear hfz22_4
           try clear hfz29_0
           try clear hfz29_1
           try clear hfz29_2
           try clear hfz29_3
           try clear hfz29_4
           try clear hfz36_0
           try clear hfz36_1
           try clear hfz36_2
           try clear hfz36_3
           try clear hfz36_4
           try clear hfz8_0
           try clear hfz8_1
           try clear hfz8_2
           try clear hfz8_3
           try clear hfz8_4
           try clear hx375_0
           try clear hx376_0
           try clear hx377_0
           try clear hx379_0
           try clear hx380_0
           try clear hx381_0
           try clear p2
           try clear p3
           try clear p375
           try clear p376
           try clear p377
           try clear p379
           try clear p380
           try clear p381
           try clear p6
           try clear q3
           try clear q375
           try clear q376
           try clear q377
           try clear q379
           try clear q380
           try clear q381
           obtain ⟨x6_4, x9_4, rfl, rfl, HA, HK4, BK372, HB⟩ := hrel
           cases gk with
           | zero => exact absurd HA.out (by simp [emendateref34_Format.l2])
           | succ k4 =>
            have H := HA.out; clear HA
            simp only [emendateref34_Format.l2] at H
            by_cases c39 : x9_4 < (l1.length : Int)
            ·
             rw [if_pos c39] at H
             have c39b0 : decide (x9_4 < (l1.length : Int)) = true := decide_eq_true c39; clear c39; have H' := Aside0.mk H; clear H
             go_wp2
             go_loopg [6, 10] k4 (fun kq v6 v10 w' => ∃ (x6_5 : ByteArray) (x10_5 : Int), v6 = .string x6_5 ∧ v10 = .int .i64 x10_5 ∧ Aside0 (emendateref34_Format.l3 kq l1 x6_5 x9_4 x10_5 l0_0 l0_1 l0_2 a0_3 a0_4 = some (r1, r2)) ∧ Aside0 (kq ≤ k4) ∧ Aside0 (w'.heap[gb372]? = some (.cells #[(.slice A0_0 l0_0.length c0_0), (.slice A0_1 l0_1.length c0_1), (.slice A0_2 l0_2.length c0_2), .int .i64 a0_3, .int .i64 a0_4] 25 (0, 0))) ∧ Aside0 (Below w.heap.size w w'))
             case atStart => exact ⟨(x6_4), (0), (by first | rfl | (simp; done) | (simp [*]; done)), (by first | rfl | (simp; done) | (simp [*]; done)), H', ⟨Nat.le_refl _⟩, ⟨by (with_reducible repeat (first | refine blk_drewN ?_ _ | refine blk_drew ?_ | refine blk_alloc ?_ _)); exact BK372.out⟩, ⟨by repeat (first | (with_reducible first | exact HB.out | apply below_alloc | apply pw_below_drewN | apply below_drew1 | refine below_set ?_ GE372.out) | exact HB.out)⟩⟩
             case round =>
              clear H'
              try clear c1
              try clear c2
              try clear p2
              try clear c3
              try clear p3
              try clear q3
              try clear hx3
              try clear c6
              try clear p6
              try clear c10
              try clear c11
              try clear c11b0
              try clear c12
              try clear c12b0
              try clear c13
              try clear c13b0
              try clear c14
              try clear c14b0
              try clear c14b1
              try clear c16
              try clear c16b0
              try clear c16b1
              try clear c16b2
              try clear c17
              try clear c17b0
              try clear c17b1
              try clear c17b2
              try clear c18
              try clear c18b0
              try clear c18b1
              try clear c18b2
              try clear c20
              try clear c20b0
              try clear c20b1
              try clear c20b2
              try clear c21
              try clear c21b0
              try clear c21b1
              try clear c21b2
              try clear c25
              try clear c25b0
              try clear c26
              try clear c26b0
              try clear c27
              try clear c27b0
              try clear c28
              try clear c28b0
              try clear c28b1
              try clear c30
              try clear c30b0
              try clear c30b1
              try clear c30b2
              try clear c31
              try clear c31b0
              try clear c31b1
              try clear c31b2
              try clear c32
              try clear c32b0
              try clear c32b1
              try clear c32b2
              try clear c34
              try clear c34b0
              try clear c34b1
              try clear c34b2
              try clear c35
              try clear c35b0
              try clear c35b1
              try clear c35b2
              try clear p37
              try clear q37
              try clear hx37
              try clear p38
              try clear q38
              try clear hx38
              try clear c39
              try clear c39b0
              try clear hcz15_0
              try clear hcz15_1
              try clear hcz15_2
              try clear hcz15_3
              try clear hcz15_4
              try clear hcz22_0
              try clear hcz22_1
              try clear hcz22_2
              try clear hcz22_3
              try clear hcz22_4
              try clear hcz29_0
              try clear hcz29_1
              try clear hcz29_2
              try clear hcz29_3
              try clear hcz29_4
              try clear hcz36_0
              try clear hcz36_1
              try clear hcz36_2
              try clear hcz36_3
              try clear hcz36_4
              try clear hcz8_0
              try clear hcz8_1
              try clear hcz8_2
              try clear hcz8_3
              try clear hcz8_4
              try clear hfz15_0
              try clear hfz15_1
              try clear hfz15_2
              try clear hfz15_3
              try clear hfz15_4
              try clear hfz22_0
              try clear hfz22_1
              try clear hfz22_2
              try clear hfz22_3
              try clear hfz22_4
              try clear hfz29_0
              try clear hfz29_1
              try clear hfz29_2
              try clear hfz29_3
              try clear hfz29_4
              try clear hfz36_0
              try clear hfz36_1
              try clear hfz36_2
              try clear hfz36_3
              try clear hfz36_4
              try clear hfz8_0
              try clear hfz8_1
              try clear hfz8_2
              try clear hfz8_3
              try clear hfz8_4
              try clear hx375_0
              try clear hx376_0
              try clear hx377_0
              try clear hx379_0
              try clear hx380_0
              try clear hx381_0
              try clear p2
              try clear p3
              try clear p37
              try clear p375
              try clear p376
              try clear p377
              try clear p379
              try clear p38
              try clear p380
              try clear p381
              try clear p6
              try clear q3
              try clear q37
              try clear q375
              try clear q376
              try clear q377
              try clear q379
              try clear q38
              try clear q380
              try clear q381
              obtain ⟨x6_5, x10_5, rfl, rfl, HA, HK5, BK372, HB⟩ := hrel
              cases gk with
              | zero => exact absurd HA.out (by simp [emendateref34_Format.l3])
              | succ k5 =>
               have H := HA.out; clear HA
               simp only [emendateref34_Format.l3] at H
               by_cases c40 : x10_5 < (l1.length : Int)
               ·
                rw [if_pos c40] at H
                have c40b0 : decide (x10_5 < (l1.length : Int)) = true := decide_eq_true c40; clear c40; have HC41 := Aside0.mk H; clear H
                go_upto_region 20 with (fail)
                go_cut [102] (fun v102 wc => ∃ (kq : Nat) (x102_40 : Bool), v102 = .bool x102_40 ∧ Aside0 (emendateref34_Format.j5 kq l1 x6_5 x9_4 x10_5 x102_40 l0_0 l0_1 l0_2 a0_3 a0_4 = some (r1, r2)) ∧ Aside0 (kq ≤ k5) ∧ Aside0 (wc.heap[gb372]? = some (.cells #[(.slice A0_0 l0_0.length c0_0), (.slice A0_1 l0_1.length c0_1), (.slice A0_2 l0_2.length c0_2), .int .i64 a0_3, .int .i64 a0_4] 25 (0, 0))) ∧ Aside0 (Below w.heap.size w wc))
                case first =>
                 have H := HC41.out; clear HC41
                 by_cases c42 : x9_4 = x10_5
                 ·
                  rw [if_pos c42] at H
                  have c42b0 : (x9_4 == x10_5) = true := beq_iff_eq.mpr c42; have c42b1 : (x9_4 != x10_5) = false := bne_eq_false_iff_eq.mpr c42; clear c42
                  (first | rw [c42b0] | (simp only [i64_w, i32_w]; rw [c42b0]) | skip)
                  have H' := Aside0.mk H; clear H
                  go_wp2
                  go_meet
                  case rel => exact ⟨_, (true), (by first | rfl | (simp; done) | (simp [*]; done)), H', ⟨by have := HJ2.out; have := HK2.out; have := HK3.out; have := HK4.out; have := HK5.out; first | omega | exact Nat.le_refl _⟩, ⟨by (with_reducible repeat (first | refine blk_drewN ?_ _ | refine blk_drew ?_ | refine blk_alloc ?_ _)); exact BK372.out⟩, ⟨by repeat (first | (with_reducible first | exact HB.out | apply below_alloc | apply pw_below_drewN | apply below_drew1 | refine below_set ?_ GE372.out) | exact HB.out)⟩⟩
                 ·
                  rw [if_neg c42] at H
                  have c42b0 : (x9_4 == x10_5) = false := beq_eq_false_iff_ne.mpr c42; have c42b1 : (x9_4 != x10_5) = true := bne_iff_ne.mpr c42
                  (first | rw [c42b0] | (simp only [i64_w, i32_w]; rw [c42b0]) | skip)
                  by_cases c43 : 0 ≤ x9_4
                  ·
                   rw [if_pos c43] at H
                   have c43b0 : decide (0 ≤ x9_4) = true := decide_eq_true c43; clear c43
                   by_cases c44 : x9_4 < (l0_2.length : Int)
                   ·
                    rw [if_pos c44] at H
                    have c44b0 : decide (x9_4 < (l0_2.length : Int)) = true := decide_eq_true c44; clear c44
                    by_cases c45 : 0 ≤ x10_5
                    ·
                     rw [if_pos c45] at H
                     have c45b0 : decide (0 ≤ x10_5) = true := decide_eq_true c45; clear c45
                     by_cases c46 : x10_5 < ((rd_L1 l0_2 x9_4).length : Int)
                     ·
                      rw [if_pos c46] at H
                      have c46b0 : decide (x10_5 < ((rd_L1 l0_2 x9_4).length : Int)) = true := decide_eq_true c46; clear c46; have H' := Aside0.mk H; clear H; have hcz47_0 : wr.cell? ⟨gb372, 0, none⟩ = some (.slice A0_0 l0_0.length c0_0) := (blk_cell BK372.out 0).trans rfl; have hcz47_1 : wr.cell? ⟨gb372, 1, none⟩ = some (.slice A0_1 l0_1.length c0_1) := (blk_cell BK372.out 1).trans rfl; have hcz47_2 : wr.cell? ⟨gb372, 2, none⟩ = some (.slice A0_2 l0_2.length c0_2) := (blk_cell BK372.out 2).trans rfl; have hcz47_3 : wr.cell? ⟨gb372, 3, none⟩ = some (.int .i64 a0_3) := (blk_cell BK372.out 3).trans rfl; have hcz47_4 : wr.cell? ⟨gb372, 4, none⟩ = some (.int .i64 a0_4) := (blk_cell BK372.out 4).trans rfl; have hfz47_0 := blk_frozen BK372.out 0; have hfz47_1 := blk_frozen BK372.out 1; have hfz47_2 := blk_frozen BK372.out 2; have hfz47_3 := blk_frozen BK372.out 3; have hfz47_4 := blk_frozen BK372.out 4; have p383 : 0 ≤ (x9_4 : Int) := of_decide_eq_true (by first | (with_reducible assumption) | assumption)
                      have q383 : x9_4 < (l0_2.length : Int) := of_decide_eq_true (by first | (with_reducible assumption) | assumption)
                      obtain ⟨ad383, A383_0, c383_0, e383, hx383_0, hl383_0, hi383_0⟩ := at_L1 HR0_2.out x9_4 p383 q383
                      cases e383
                      replace hx383_0 := (HB.out.cell (World.block_lt_of_cell? w _ hx383_0)).trans hx383_0; have HR383_0 := Aside0.mk hi383_0; have HC383_0 := Aside0.mk hl383_0; clear hi383_0 hl383_0; replace p383 := eq_true p383; replace q383 := eq_true q383; have p384 : 0 ≤ (x10_5 : Int) := of_decide_eq_true (by first | (with_reducible assumption) | assumption)
                      have q384 : x10_5 < ((rd_L1 l0_2 x9_4).length : Int) := of_decide_eq_true (by first | (with_reducible assumption) | assumption)
                      obtain ⟨ad384, e384, hx384_0⟩ := Kd.at_int HR383_0.out x10_5 p384 q384
                      cases e384
                      replace hx384_0 := (HB.out.cell (World.block_lt_of_cell? w _ hx384_0)).trans hx384_0; replace p384 := eq_true p384; replace q384 := eq_true q384
                      go_wp2
                      go_meet
                      case rel => exact ⟨_, (((rd (rd_L1 l0_2 x9_4) x10_5) == 15)), (by first | rfl | (simp; done) | (simp [*]; done)), H', ⟨by have := HJ2.out; have := HK2.out; have := HK3.out; have := HK4.out; have := HK5.out; first | omega | exact Nat.le_refl _⟩, ⟨by (with_reducible repeat (first | refine blk_drewN ?_ _ | refine blk_drew ?_ | refine blk_alloc ?_ _)); exact BK372.out⟩, ⟨by repeat (first | (with_reducible first | exact HB.out | apply below_alloc | apply pw_below_drewN | apply below_drew1 | refine below_set ?_ GE372.out) | exact HB.out)⟩⟩
                     ·
                      rw [if_neg c46] at H
                      exact absurd H (by simp)
                    ·
                     rw [if_neg c45] at H
                     exact absurd H (by simp)
                   ·
                    rw [if_neg c44] at H
                    exact absurd H (by simp)
                  ·
                   rw [if_neg c43] at H
                   exact absurd H (by simp)
                case rest =>
                 clear HC41
                 try clear c1
                 try clear c2
                 try clear p2
                 try clear c3
                 try clear p3
                 try clear q3
                 try clear hx3
                 try clear c4
                 try clear c6
                 try clear p6
                 try clear c10
                 try clear c11
                 try clear c11b0
                 try clear c12
                 try clear c12b0
                 try clear c13
                 try clear c13b0
                 try clear c14
                 try clear c14b0
                 try clear c14b1
                 try clear c16
                 try clear c16b0
                 try clear c16b1
                 try clear c16b2
                 try clear c17
                 try clear c17b0
                 try clear c17b1
                 try clear c17b2
                 try clear c18
                 try clear c18b0
                 try clear c18b1
                 try clear c18b2
                 try clear c20
                 try clear c20b0
                 try clear c20b1
                 try clear c20b2
                 try clear c21
                 try clear c21b0
                 try clear c21b1
                 try clear c21b2
                 try clear c25
                 try clear c25b0
                 try clear c26
                 try clear c26b0
                 try clear c27
                 try clear c27b0
                 try clear c28
                 try clear c28b0
                 try clear c28b1
                 try clear c30
                 try clear c30b0
                 try clear c30b1
                 try clear c30b2
                 try clear c31
                 try clear c31b0
                 try clear c31b1
                 try clear c31b2
                 try clear c32
                 try clear c32b0
                 try clear c32b1
                 try clear c32b2
                 try clear c34
                 try clear c34b0
                 try clear c34b1
                 try clear c34b2
                 try clear c35
                 try clear c35b0
                 try clear c35b1
                 try clear c35b2
                 try clear p37
                 try clear q37
                 try clear hx37
                 try clear c38
                 try clear p38
                 try clear q38
                 try clear hx38
                 try clear c39
                 try clear c39b0
                 try clear c40
                 try clear c40b0
                 try clear c42
                 try clear c42b0
                 try clear c42b1
                 try clear c43
                 try clear c43b0
                 try clear c44
                 try clear c44b0
                 try clear c45
                 try clear c45b0
                 try clear c46
                 try clear c46b0
                 try clear hcz15_0
                 try clear hcz15_1
                 try clear hcz15_2
                 try clear hcz15_3
                 try clear hcz15_4
                 try clear hcz22_0
                 try clear hcz22_1
                 try clear hcz22_2
                 try clear hcz22_3
                 try clear hcz22_4
                 try clear hcz29_0
                 try clear hcz29_1
                 try clear hcz29_2
                 try clear hcz29_3
                 try clear hcz29_4
                 try clear hcz36_0
                 try clear hcz36_1
                 try clear hcz36_2
                 try clear hcz36_3
                 try clear hcz36_4
                 try clear hcz47_0
                 try clear hcz47_1
                 try clear hcz47_2
                 try clear hcz47_3
                 try clear hcz47_4
                 try clear hcz8_0
                 try clear hcz8_1
                 try clear hcz8_2
                 try clear hcz8_3
                 try clear hcz8_4
                 try clear hfz15_0
                 try clear hfz15_1
                 try clear hfz15_2
                 try clear hfz15_3
                 try clear hfz15_4
                 try clear hfz22_0
                 try clear hfz22_1
                 try clear hfz22_2
                 try clear hfz22_3
                 try clear hfz22_4
                 try clear hfz29_0
                 try clear hfz29_1
                 try clear hfz29_2
                 try clear hfz29_3
                 try clear hfz29_4
                 try clear hfz36_0
                 try clear hfz36_1
                 try clear hfz36_2
                 try clear hfz36_3
                 try clear hfz36_4
                 try clear hfz47_0
                 try clear hfz47_1
                 try clear hfz47_2
                 try clear hfz47_3
                 try clear hfz47_4
                 try clear hfz8_0
                 try clear hfz8_1
                 try clear hfz8_2
                 try clear hfz8_3
                 try clear hfz8_4
                 try clear hx375_0
                 try clear hx376_0
                 try clear hx377_0
                 try clear hx379_0
                 try clear hx380_0
                 try clear hx381_0
                 try clear hx383_0
                 try clear hx384_0
                 try clear p2
                 try clear p3
                 try clear p37
                 try clear p375
                 try clear p376
                 try clear p377
                 try clear p379
                 try clear p38
                 try clear p380
                 try clear p381
                 try clear p383
                 try clear p384
                 try clear p6
                 try clear q3
                 try clear q37
                 try clear q375
                 try clear q376
                 try clear q377
                 try clear q379
                 try clear q38
                 try clear q380
                 try clear q381
                 try clear q383
                 try clear q384
                 obtain ⟨kq, x102_40, rfl, HA, HJ40, BK372, HB⟩ := hcut
                 cases kq with
                 | zero => exact absurd HA.out (by simp [emendateref34_Format.j5])
                 | succ kj40 =>
                  have H := HA.out; clear HA
                  simp only [emendateref34_Format.j5] at H
                  by_cases c48 : x102_40 = true
                  ·
                   subst c48; have H1 : (emendateref34_Format.l3 kj40 l1 x6_5 x9_4 (wrap64 (x10_5 + 1)) l0_0 l0_1 l0_2 a0_3 a0_4) = some (r1, r2) := by rw [if_pos rfl] at H; exact H
                   clear H; have H := H1; clear H1; have H' := Aside0.mk H; clear H
                   go_wp2
                   go_roundg kj40
                   case measure => have := HJ2.out; have := HK2.out; have := HK3.out; have := HK4.out; have := HK5.out; have := HJ40.out; omega
                   case rel => exact ⟨(x6_5), (wrap64 (x10_5 + 1)), (by first | rfl | (simp; done) | (simp [*]; done)), (by first | rfl | (simp; done) | (simp [*]; done)), H', ⟨by have := HJ2.out; have := HK2.out; have := HK3.out; have := HK4.out; have := HK5.out; have := HJ40.out; omega⟩, ⟨by (with_reducible repeat (first | refine blk_drewN ?_ _ | refine blk_drew ?_ | refine blk_alloc ?_ _)); exact BK372.out⟩, ⟨by repeat (first | (with_reducible first | exact HB.out | apply below_alloc | apply pw_below_drewN | apply below_drew1 | refine below_set ?_ GE372.out) | exact HB.out)⟩⟩
                  ·
                   replace c48 := Bool.eq_false_iff.mpr c48; subst c48
                   have H1 : (if x6_5.size + 8 ≤ 9223372036854775807 then (if 0 ≤ x9_4 then (if x9_4 < (l1.length : Int) then (if (x6_5 ++ (⟨#[114, 101, 112, 108, 97, 99, 101, 32]⟩ : ByteArray)).size + (rdOf ByteArray.empty l1 x9_4).size ≤ 9223372036854775807 then (if ((x6_5 ++ (⟨#[114, 101, 112, 108, 97, 99, 101, 32]⟩ : ByteArray)) ++ (rdOf ByteArray.empty l1 x9_4)).size + 1 ≤ 9223372036854775807 then (if 0 ≤ x10_5 then (if x10_5 < (l1.length : Int) then (if (((x6_5 ++ (⟨#[114, 101, 112, 108, 97, 99, 101, 32]⟩ : ByteArray)) ++ (rdOf ByteArray.empty l1 x9_4)) ++ (⟨#[32]⟩ : ByteArray)).size + (rdOf ByteArray.empty l1 x10_5).size ≤ 9223372036854775807 then (if ((((x6_5 ++ (⟨#[114, 101, 112, 108, 97, 99, 101, 32]⟩ : ByteArray)) ++ (rdOf ByteArray.empty l1 x9_4)) ++ (⟨#[32]⟩ : ByteArray)) ++ (rdOf ByteArray.empty l1 x10_5)).size + 1 ≤ 9223372036854775807 then (if x9_4 < (l0_2.length : Int) then (if x10_5 < ((rd_L1 l0_2 x9_4).length : Int) then (if (rd (rd_L1 l0_2 x9_4) x10_5) < 0 then (if (((((x6_5 ++ (⟨#[114, 101, 112, 108, 97, 99, 101, 32]⟩ : ByteArray)) ++ (rdOf ByteArray.empty l1 x9_4)) ++ (⟨#[32]⟩ : ByteArray)) ++ (rdOf ByteArray.empty l1 x10_5)) ++ (⟨#[32]⟩ : ByteArray)).size + 6 ≤ 9223372036854775807 then (emendateref34_Format.l3 kj40 l1 ((((((x6_5 ++ (⟨#[114, 101, 112, 108, 97, 99, 101, 32]⟩ : ByteArray)) ++ (rdOf ByteArray.empty l1 x9_4)) ++ (⟨#[32]⟩ : ByteArray)) ++ (rdOf ByteArray.empty l1 x10_5)) ++ (⟨#[32]⟩ : ByteArray)) ++ (⟨#[110, 101, 118, 101, 114, 10]⟩ : ByteArray)) x9_4 (wrap64 (x10_5 + 1)) l0_0 l0_1 l0_2 a0_3 a0_4) else (none)) else ((emendateref16_Decimal.f kj40 (rd (rd_L1 l0_2 x9_4) x10_5)).bind fun t391 => (if (((((x6_5 ++ (⟨#[114, 101, 112, 108, 97, 99, 101, 32]⟩ : ByteArray)) ++ (rdOf ByteArray.empty l1 x9_4)) ++ (⟨#[32]⟩ : ByteArray)) ++ (rdOf ByteArray.empty l1 x10_5)) ++ (⟨#[32]⟩ : ByteArray)).size + t391.size ≤ 9223372036854775807 then (if ((((((x6_5 ++ (⟨#[114, 101, 112, 108, 97, 99, 101, 32]⟩ : ByteArray)) ++ (rdOf ByteArray.empty l1 x9_4)) ++ (⟨#[32]⟩ : ByteArray)) ++ (rdOf ByteArray.empty l1 x10_5)) ++ (⟨#[32]⟩ : ByteArray)) ++ t391).size + 1 ≤ 9223372036854775807 then (emendateref34_Format.l3 kj40 l1 (((((((x6_5 ++ (⟨#[114, 101, 112, 108, 97, 99, 101, 32]⟩ : ByteArray)) ++ (rdOf ByteArray.empty l1 x9_4)) ++ (⟨#[32]⟩ : ByteArray)) ++ (rdOf ByteArray.empty l1 x10_5)) ++ (⟨#[32]⟩ : ByteArray)) ++ t391) ++ (⟨#[10]⟩ : ByteArray)) x9_4 (wrap64 (x10_5 + 1)) l0_0 l0_1 l0_2 a0_3 a0_4) else (none)) else (none)))) else (none)) else (none)) else (none)) else (none)) else (none)) else (none)) else (none)) else (none)) else (none)) else (none)) else (none)) = some (r1, r2) := by rw [if_neg (show ¬ (false = true) by decide)] at H; exact H
                   clear H; have H := H1; clear H1
                   by_cases c49 : x6_5.size + 8 ≤ 9223372036854775807
                   ·
                    rw [if_pos c49] at H
                    have c49b0 := eq_true c49; have c49b1 : decide (x6_5.size + 8 ≤ 9223372036854775807) = true := decide_eq_true c49
                    try have c49b2 : (9223372036854775807 < x6_5.size + 8) = False := eq_false (Nat.not_lt.2 c49)
                    by_cases c50 : 0 ≤ x9_4
                    ·
                     rw [if_pos c50] at H
                     have c50b0 : decide (0 ≤ x9_4) = true := decide_eq_true c50; clear c50
                     by_cases c51 : x9_4 < (l1.length : Int)
                     ·
                      rw [if_pos c51] at H
                      have c51b0 : decide (x9_4 < (l1.length : Int)) = true := decide_eq_true c51; clear c51
                      by_cases c52 : (x6_5 ++ (⟨#[114, 101, 112, 108, 97, 99, 101, 32]⟩ : ByteArray)).size + (rdOf ByteArray.empty l1 x9_4).size ≤ 9223372036854775807
                      ·
                       rw [if_pos c52] at H
                       have c52b0 := eq_true c52; have c52b1 : decide ((x6_5 ++ (⟨#[114, 101, 112, 108, 97, 99, 101, 32]⟩ : ByteArray)).size + (rdOf ByteArray.empty l1 x9_4).size ≤ 9223372036854775807) = true := decide_eq_true c52
                       try have c52b2 : (9223372036854775807 < (x6_5 ++ (⟨#[114, 101, 112, 108, 97, 99, 101, 32]⟩ : ByteArray)).size + (rdOf ByteArray.empty l1 x9_4).size) = False := eq_false (Nat.not_lt.2 c52)
                       try have c52b3 : (9223372036854775807 < x6_5.size + 8 + (rdOf ByteArray.empty l1 x9_4).size) = False := eq_false (by have h_ := c52; simp only [ByteArray.size_append] at h_; have e0_ : (⟨#[114, 101, 112, 108, 97, 99, 101, 32]⟩ : ByteArray).size = 8 := rfl; omega)
                       by_cases c53 : ((x6_5 ++ (⟨#[114, 101, 112, 108, 97, 99, 101, 32]⟩ : ByteArray)) ++ (rdOf ByteArray.empty l1 x9_4)).size + 1 ≤ 9223372036854775807
                       ·
                        rw [if_pos c53] at H
                        have c53b0 := eq_true c53; have c53b1 : decide (((x6_5 ++ (⟨#[114, 101, 112, 108, 97, 99, 101, 32]⟩ : ByteArray)) ++ (rdOf ByteArray.empty l1 x9_4)).size + 1 ≤ 9223372036854775807) = true := decide_eq_true c53
                        try have c53b2 : (9223372036854775807 < ((x6_5 ++ (⟨#[114, 101, 112, 108, 97, 99, 101, 32]⟩ : ByteArray)) ++ (rdOf ByteArray.empty l1 x9_4)).size + 1) = False := eq_false (Nat.not_lt.2 c53)
                        try have c53b3 : (9223372036854775807 < x6_5.size + 8 + (rdOf ByteArray.empty l1 x9_4).size + 1) = False := eq_false (by have h_ := c53; simp only [ByteArray.size_append] at h_; have e0_ : (⟨#[114, 101, 112, 108, 97, 99, 101, 32]⟩ : ByteArray).size = 8 := rfl; omega)
                        by_cases c54 : 0 ≤ x10_5
                        ·
                         rw [if_pos c54] at H
                         have c54b0 : decide (0 ≤ x10_5) = true := decide_eq_true c54; clear c54
                         by_cases c55 : x10_5 < (l1.length : Int)
                         ·
                          rw [if_pos c55] at H
                          have c55b0 : decide (x10_5 < (l1.length : Int)) = true := decide_eq_true c55; clear c55
                          by_cases c56 : (((x6_5 ++ (⟨#[114, 101, 112, 108, 97, 99, 101, 32]⟩ : ByteArray)) ++ (rdOf ByteArray.empty l1 x9_4)) ++ (⟨#[32]⟩ : ByteArray)).size + (rdOf ByteArray.empty l1 x10_5).size ≤ 9223372036854775807
                          ·
                           rw [if_pos c56] at H
                           have c56b0 := eq_true c56; have c56b1 : decide ((((x6_5 ++ (⟨#[114, 101, 112, 108, 97, 99, 101, 32]⟩ : ByteArray)) ++ (rdOf ByteArray.empty l1 x9_4)) ++ (⟨#[32]⟩ : ByteArray)).size + (rdOf ByteArray.empty l1 x10_5).size ≤ 9223372036854775807) = true := decide_eq_true c56
                           try have c56b2 : (9223372036854775807 < (((x6_5 ++ (⟨#[114, 101, 112, 108, 97, 99, 101, 32]⟩ : ByteArray)) ++ (rdOf ByteArray.empty l1 x9_4)) ++ (⟨#[32]⟩ : ByteArray)).size + (rdOf ByteArray.empty l1 x10_5).size) = False := eq_false (Nat.not_lt.2 c56)
                           try have c56b3 : (9223372036854775807 < x6_5.size + 8 + (rdOf ByteArray.empty l1 x9_4).size + 1 + (rdOf ByteArray.empty l1 x10_5).size) = False := eq_false (by have h_ := c56; simp only [ByteArray.size_append] at h_; have e0_ : (⟨#[114, 101, 112, 108, 97, 99, 101, 32]⟩ : ByteArray).size = 8 := rfl; have e1_ : (⟨#[32]⟩ : ByteArray).size = 1 := rfl; omega)
                           by_cases c57 : ((((x6_5 ++ (⟨#[114, 101, 112, 108, 97, 99, 101, 32]⟩ : ByteArray)) ++ (rdOf ByteArray.empty l1 x9_4)) ++ (⟨#[32]⟩ : ByteArray)) ++ (rdOf ByteArray.empty l1 x10_5)).size + 1 ≤ 9223372036854775807
                           ·
                            rw [if_pos c57] at H
                            have c57b0 := eq_true c57; have c57b1 : decide (((((x6_5 ++ (⟨#[114, 101, 112, 108, 97, 99, 101, 32]⟩ : ByteArray)) ++ (rdOf ByteArray.empty l1 x9_4)) ++ (⟨#[32]⟩ : ByteArray)) ++ (rdOf ByteArray.empty l1 x10_5)).size + 1 ≤ 9223372036854775807) = true := decide_eq_true c57
                            try have c57b2 : (9223372036854775807 < ((((x6_5 ++ (⟨#[114, 101, 112, 108, 97, 99, 101, 32]⟩ : ByteArray)) ++ (rdOf ByteArray.empty l1 x9_4)) ++ (⟨#[32]⟩ : ByteArray)) ++ (rdOf ByteArray.empty l1 x10_5)).size + 1) = False := eq_false (Nat.not_lt.2 c57)
                            try have c57b3 : (9223372036854775807 < x6_5.size + 8 + (rdOf ByteArray.empty l1 x9_4).size + 1 + (rdOf ByteArray.empty l1 x10_5).size + 1) = False := eq_false (by have h_ := c57; simp only [ByteArray.size_append] at h_; have e0_ : (⟨#[114, 101, 112, 108, 97, 99, 101, 32]⟩ : ByteArray).size = 8 := rfl; have e1_ : (⟨#[32]⟩ : ByteArray).size = 1 := rfl; omega)
                            by_cases c58 : x9_4 < (l0_2.length : Int)
                            ·
                             rw [if_pos c58] at H
                             have c58b0 : decide (x9_4 < (l0_2.length : Int)) = true := decide_eq_true c58; clear c58
                             by_cases c59 : x10_5 < ((rd_L1 l0_2 x9_4).length : Int)
                             ·
                              rw [if_pos c59] at H
                              have c59b0 : decide (x10_5 < ((rd_L1 l0_2 x9_4).length : Int)) = true := decide_eq_true c59; clear c59
                              by_cases c60 : (rd (rd_L1 l0_2 x9_4) x10_5) < 0
                              ·
                               rw [if_pos c60] at H
                               have c60b0 : decide ((rd (rd_L1 l0_2 x9_4) x10_5) < 0) = true := decide_eq_true c60; clear c60
                               by_cases c61 : (((((x6_5 ++ (⟨#[114, 101, 112, 108, 97, 99, 101, 32]⟩ : ByteArray)) ++ (rdOf ByteArray.empty l1 x9_4)) ++ (⟨#[32]⟩ : ByteArray)) ++ (rdOf ByteArray.empty l1 x10_5)) ++ (⟨#[32]⟩ : ByteArray)).size + 6 ≤ 9223372036854775807
                               ·
                                rw [if_pos c61] at H
                                have c61b0 := eq_true c61; have c61b1 : decide ((((((x6_5 ++ (⟨#[114, 101, 112, 108, 97, 99, 101, 32]⟩ : ByteArray)) ++ (rdOf ByteArray.empty l1 x9_4)) ++ (⟨#[32]⟩ : ByteArray)) ++ (rdOf ByteArray.empty l1 x10_5)) ++ (⟨#[32]⟩ : ByteArray)).size + 6 ≤ 9223372036854775807) = true := decide_eq_true c61
                                try have c61b2 : (9223372036854775807 < (((((x6_5 ++ (⟨#[114, 101, 112, 108, 97, 99, 101, 32]⟩ : ByteArray)) ++ (rdOf ByteArray.empty l1 x9_4)) ++ (⟨#[32]⟩ : ByteArray)) ++ (rdOf ByteArray.empty l1 x10_5)) ++ (⟨#[32]⟩ : ByteArray)).size + 6) = False := eq_false (Nat.not_lt.2 c61)
                                try have c61b3 : (9223372036854775807 < x6_5.size + 8 + (rdOf ByteArray.empty l1 x9_4).size + 1 + (rdOf ByteArray.empty l1 x10_5).size + 1 + 6) = False := eq_false (by have h_ := c61; simp only [ByteArray.size_append] at h_; have e0_ : (⟨#[114, 101, 112, 108, 97, 99, 101, 32]⟩ : ByteArray).size = 8 := rfl; have e1_ : (⟨#[32]⟩ : ByteArray).size = 1 := rfl; omega)
                                have H' := Aside0.mk H; clear H
                                try go_wp2
                                have n0_ := Aside0.mk (blk_drew BK372.out); have n1_ := Aside0.mk (below_drew1 HB.out); clear BK372; clear HB; have BK372 := n0_; have HB := n1_; clear n0_ n1_; have p385 : 0 ≤ (x9_4 : Int) := of_decide_eq_true (by first | (with_reducible assumption) | assumption)
                                have q385 : x9_4 < (l1.length : Int) := of_decide_eq_true (by first | (with_reducible assumption) | assumption)
                                obtain ⟨ad385, e385, hx385_0⟩ := Kd.at_string HR1.out x9_4 p385 q385; have hw385_0 := hx385_0
                                cases e385
                                replace hx385_0 := (HB.out.cell (World.block_lt_of_cell? w _ hx385_0)).trans hx385_0; replace p385 := eq_true p385; replace q385 := eq_true q385; have p386 : 0 ≤ (x10_5 : Int) := of_decide_eq_true (by first | (with_reducible assumption) | assumption)
                                have q386 : x10_5 < (l1.length : Int) := of_decide_eq_true (by first | (with_reducible assumption) | assumption)
                                obtain ⟨ad386, e386, hx386_0⟩ := Kd.at_string HR1.out x10_5 p386 q386; have hw386_0 := hx386_0; obtain rfl : ad385 = ad386 := (by injection e386)
                                replace hx386_0 := (HB.out.cell (World.block_lt_of_cell? w _ hx386_0)).trans hx386_0; replace p386 := eq_true p386; replace q386 := eq_true q386
                                refine start_ (n := 15) (S := fun w' => w'.cell? (ad385.add (x9_4).toNat) = some (.string (rdOf ByteArray.empty l1 x9_4)) ∧ w'.cell? (ad385.add (x10_5).toNat) = some (.string (rdOf ByteArray.empty l1 x10_5))) (ds := []) #[false, false, false, false, false, false, false, false, false, false, false, false, false, false, false] (by kernel_rfl) rfl rfl ⟨((HB.out.cell (World.block_lt_of_cell? w _ hw385_0)).trans hw385_0), ((HB.out.cell (World.block_lt_of_cell? w _ hw386_0)).trans hw386_0)⟩ (fun hHeld => ?_); refine with_tabW emendateref34_Format.tab21 emendateref34_Format.bits21 (fun HT_ HW_ => ?_)
                                generalize wc.drew = w62 at BK372 HB hx385_0 hx386_0 hHeld ⊢
                                refine pure_ (i := 0) (N := some 103) (v := ?_) (a' := ?_) #[true, false, false, false, false, false, false, false, false, false, false, false, false, false, false] rfl rfl (any_of HT_.out (by kernel_rfl)) (fun _ _ _ h => h) (Or.inl ⟨by rfl, ?_⟩) ?_ ?_
                                rotate_left
                                ·
                                 intro w'
                                 go_simp
                                 with_reducible rfl
                                rotate_left
                                ·
                                 simp only [Act.put, List.setIfInBounds_toArray, List.set_cons_zero, List.set_cons_succ, i64_w, i32_w]
                                 rfl
                                refine pure_ (i := 1) (N := some 104) (v := ?_) (a' := ?_) #[true, true, false, false, false, false, false, false, false, false, false, false, false, false, false] rfl rfl (any_of HT_.out (by kernel_rfl)) (fun _ _ _ h => h) (Or.inl ⟨by rfl, ?_⟩) ?_ ?_
                                rotate_left
                                ·
                                 intro w'
                                 go_simp
                                 with_reducible rfl
                                rotate_left
                                ·
                                 simp only [Act.put, List.setIfInBounds_toArray, List.set_cons_zero, List.set_cons_succ, i64_w, i32_w]
                                 rfl
                                refine pure_ (i := 2) (N := some 105) (v := ?_) (a' := ?_) #[true, true, true, false, false, false, false, false, false, false, false, false, false, false, false] rfl rfl (any_of HT_.out (by kernel_rfl)) (fun _ _ _ h => h) (Or.inl ⟨by rfl, ?_⟩) ?_ ?_
                                rotate_left
                                ·
                                 intro w'
                                 go_simp
                                 with_reducible rfl
                                rotate_left
                                ·
                                 simp only [Act.put, List.setIfInBounds_toArray, List.set_cons_zero, List.set_cons_succ, i64_w, i32_w]
                                 rfl
                                refine pure_ (i := 3) (N := some 106) (v := ?_) (a' := ?_) #[true, true, true, true, false, false, false, false, false, false, false, false, false, false, false] rfl rfl (any_of HT_.out (by kernel_rfl)) (fun _ _ _ h => h) (Or.inl ⟨by rfl, ?_⟩) ?_ ?_
                                rotate_left
                                ·
                                 intro w'
                                 go_simp
                                 with_reducible rfl
                                rotate_left
                                ·
                                 simp only [Act.put, List.setIfInBounds_toArray, List.set_cons_zero, List.set_cons_succ, i64_w, i32_w]
                                 rfl
                                refine pure_ (i := 4) (N := some 107) (v := ?_) (a' := ?_) #[true, true, true, true, true, false, false, false, false, false, false, false, false, false, false] rfl rfl (any_of HT_.out (by kernel_rfl)) (fun _ _ _ h => h) (Or.inl ⟨by rfl, ?_⟩) ?_ ?_
                                rotate_left
                                ·
                                 intro w'
                                 go_simp
                                 with_reducible rfl
                                rotate_left
                                ·
                                 simp only [Act.put, List.setIfInBounds_toArray, List.set_cons_zero, List.set_cons_succ, i64_w, i32_w]
                                 rfl
                                refine pure_ (i := 8) (N := some 111) (v := ?_) (a' := ?_) #[true, true, true, true, true, false, false, false, true, false, false, false, false, false, false] rfl rfl (any_of HT_.out (by kernel_rfl)) (fun _ _ _ h => h) (Or.inl ⟨by rfl, ?_⟩) ?_ ?_
                                rotate_left
                                ·
                                 intro w'
                                 go_simp
                                 with_reducible rfl
                                rotate_left
                                ·
                                 simp only [Act.put, List.setIfInBounds_toArray, List.set_cons_zero, List.set_cons_succ, i64_w, i32_w]
                                 rfl
                                refine pure_ (i := 9) (N := some 112) (v := ?_) (a' := ?_) #[true, true, true, true, true, false, false, false, true, true, false, false, false, false, false] rfl rfl (any_of HT_.out (by kernel_rfl)) (fun _ _ _ h => h) (Or.inl ⟨by rfl, ?_⟩) ?_ ?_
                                rotate_left
                                ·
                                 intro w'
                                 go_simp
                                 with_reducible rfl
                                rotate_left
                                ·
                                 simp only [Act.put, List.setIfInBounds_toArray, List.set_cons_zero, List.set_cons_succ, i64_w, i32_w]
                                 rfl
                                refine pure_ (i := 10) (N := some 113) (v := ?_) (a' := ?_) #[true, true, true, true, true, false, false, false, true, true, true, false, false, false, false] rfl rfl (any_of HT_.out (by kernel_rfl)) (fun _ _ _ h => h) (Or.inl ⟨by rfl, ?_⟩) ?_ ?_
                                rotate_left
                                ·
                                 intro w'
                                 go_simp
                                 with_reducible rfl
                                rotate_left
                                ·
                                 simp only [Act.put, List.setIfInBounds_toArray, List.set_cons_zero, List.set_cons_succ, i64_w, i32_w]
                                 rfl
                                refine take_ (i := 5) (N := some 108) (v := ?_) (a' := ?_) #[true, true, true, true, true, true, false, false, true, true, true, false, false, false, false] rfl rfl (take_ofW HT_.out HW_.out (by kernel_rfl)) (fun _ _ _ h => h) (Or.inl ⟨by rfl, ?_⟩) hHeld ?_ ?_
                                rotate_left
                                ·
                                 rintro w' ⟨s0, s1⟩
                                 go_simp
                                 with_reducible rfl
                                rotate_left
                                ·
                                 simp only [Act.put, List.setIfInBounds_toArray, List.set_cons_zero, List.set_cons_succ, i64_w, i32_w]
                                 rfl
                                refine pure_ (i := 6) (N := some 109) (v := ?_) (a' := ?_) #[true, true, true, true, true, true, true, false, true, true, true, false, false, false, false] rfl rfl (any_of HT_.out (by kernel_rfl)) (fun _ _ _ h => h) (Or.inl ⟨by rfl, ?_⟩) ?_ ?_
                                rotate_left
                                ·
                                 intro w'
                                 go_simp
                                 with_reducible rfl
                                rotate_left
                                ·
                                 simp only [Act.put, List.setIfInBounds_toArray, List.set_cons_zero, List.set_cons_succ, i64_w, i32_w]
                                 rfl
                                refine pure_ (i := 7) (N := some 110) (v := ?_) (a' := ?_) #[true, true, true, true, true, true, true, true, true, true, true, false, false, false, false] rfl rfl (any_of HT_.out (by kernel_rfl)) (fun _ _ _ h => h) (Or.inl ⟨by rfl, ?_⟩) ?_ ?_
                                rotate_left
                                ·
                                 intro w'
                                 go_simp
                                 with_reducible rfl
                                rotate_left
                                ·
                                 simp only [Act.put, List.setIfInBounds_toArray, List.set_cons_zero, List.set_cons_succ, i64_w, i32_w]
                                 rfl
                                refine take_ (i := 11) (N := some 114) (v := ?_) (a' := ?_) #[true, true, true, true, true, true, true, true, true, true, true, true, false, false, false] rfl rfl (take_ofW HT_.out HW_.out (by kernel_rfl)) (fun _ _ _ h => h) (Or.inl ⟨by rfl, ?_⟩) hHeld ?_ ?_
                                rotate_left
                                ·
                                 rintro w' ⟨s0, s1⟩
                                 go_simp
                                 with_reducible rfl
                                rotate_left
                                ·
                                 simp only [Act.put, List.setIfInBounds_toArray, List.set_cons_zero, List.set_cons_succ, i64_w, i32_w]
                                 rfl
                                refine pure_ (i := 12) (N := some 115) (v := ?_) (a' := ?_) #[true, true, true, true, true, true, true, true, true, true, true, true, true, false, false] rfl rfl (any_of HT_.out (by kernel_rfl)) (fun _ _ _ h => h) (Or.inl ⟨by rfl, ?_⟩) ?_ ?_
                                rotate_left
                                ·
                                 intro w'
                                 go_simp
                                 with_reducible rfl
                                rotate_left
                                ·
                                 simp only [Act.put, List.setIfInBounds_toArray, List.set_cons_zero, List.set_cons_succ, i64_w, i32_w]
                                 rfl
                                refine pure_ (i := 13) (N := some 116) (v := ?_) (a' := ?_) #[true, true, true, true, true, true, true, true, true, true, true, true, true, true, false] rfl rfl (any_of HT_.out (by kernel_rfl)) (fun _ _ _ h => h) (Or.inl ⟨by rfl, ?_⟩) ?_ ?_
                                rotate_left
                                ·
                                 intro w'
                                 go_simp
                                 with_reducible rfl
                                rotate_left
                                ·
                                 simp only [Act.put, List.setIfInBounds_toArray, List.set_cons_zero, List.set_cons_succ, i64_w, i32_w]
                                 rfl
                                refine pure_ (i := 14) (N := some 6) (v := ?_) (a' := ?_) #[true, true, true, true, true, true, true, true, true, true, true, true, true, true, true] rfl rfl (any_of HT_.out (by kernel_rfl)) (fun _ _ _ h => h) (Or.inl ⟨by rfl, ?_⟩) ?_ ?_
                                rotate_left
                                ·
                                 intro w'
                                 go_simp
                                 with_reducible rfl
                                rotate_left
                                ·
                                 simp only [Act.put, List.setIfInBounds_toArray, List.set_cons_zero, List.set_cons_succ, i64_w, i32_w]
                                 rfl
                                refine done_ (done_of HT_.out (by kernel_rfl)) ?_
                                have hcz63_0 : w62.cell? ⟨gb372, 0, none⟩ = some (.slice A0_0 l0_0.length c0_0) := (blk_cell BK372.out 0).trans rfl; have hcz63_1 : w62.cell? ⟨gb372, 1, none⟩ = some (.slice A0_1 l0_1.length c0_1) := (blk_cell BK372.out 1).trans rfl; have hcz63_2 : w62.cell? ⟨gb372, 2, none⟩ = some (.slice A0_2 l0_2.length c0_2) := (blk_cell BK372.out 2).trans rfl; have hcz63_3 : w62.cell? ⟨gb372, 3, none⟩ = some (.int .i64 a0_3) := (blk_cell BK372.out 3).trans rfl; have hcz63_4 : w62.cell? ⟨gb372, 4, none⟩ = some (.int .i64 a0_4) := (blk_cell BK372.out 4).trans rfl; have hfz63_0 := blk_frozen BK372.out 0; have hfz63_1 := blk_frozen BK372.out 1; have hfz63_2 := blk_frozen BK372.out 2; have hfz63_3 := blk_frozen BK372.out 3; have hfz63_4 := blk_frozen BK372.out 4; have p387 : 0 ≤ (x9_4 : Int) := of_decide_eq_true (by first | (with_reducible assumption) | assumption)
                                have q387 : x9_4 < (l0_2.length : Int) := of_decide_eq_true (by first | (with_reducible assumption) | assumption)
                                obtain ⟨ad387, A387_0, c387_0, e387, hx387_0, hl387_0, hi387_0⟩ := at_L1 HR0_2.out x9_4 p387 q387
                                cases e387
                                replace hx387_0 := (HB.out.cell (World.block_lt_of_cell? w _ hx387_0)).trans hx387_0; have HR387_0 := Aside0.mk hi387_0; have HC387_0 := Aside0.mk hl387_0; clear hi387_0 hl387_0; replace p387 := eq_true p387; replace q387 := eq_true q387; have p388 : 0 ≤ (x10_5 : Int) := of_decide_eq_true (by first | (with_reducible assumption) | assumption)
                                have q388 : x10_5 < ((rd_L1 l0_2 x9_4).length : Int) := of_decide_eq_true (by first | (with_reducible assumption) | assumption)
                                obtain ⟨ad388, e388, hx388_0⟩ := Kd.at_int HR387_0.out x10_5 p388 q388
                                cases e388
                                replace hx388_0 := (HB.out.cell (World.block_lt_of_cell? w _ hx388_0)).trans hx388_0; replace p388 := eq_true p388; replace q388 := eq_true q388
                                try go_wp2
                                go_roundg kj40
                                case measure => have := HJ2.out; have := HK2.out; have := HK3.out; have := HK4.out; have := HK5.out; have := HJ40.out; omega
                                case rel => exact ⟨((((((x6_5 ++ (⟨#[114, 101, 112, 108, 97, 99, 101, 32]⟩ : ByteArray)) ++ (rdOf ByteArray.empty l1 x9_4)) ++ (⟨#[32]⟩ : ByteArray)) ++ (rdOf ByteArray.empty l1 x10_5)) ++ (⟨#[32]⟩ : ByteArray)) ++ (⟨#[110, 101, 118, 101, 114, 10]⟩ : ByteArray)), (wrap64 (x10_5 + 1)), (by first | rfl | (simp; done) | (simp [*]; done)), (by first | rfl | (simp; done) | (simp [*]; done)), H', ⟨by have := HJ2.out; have := HK2.out; have := HK3.out; have := HK4.out; have := HK5.out; have := HJ40.out; omega⟩, ⟨by (with_reducible repeat (first | refine blk_drewN ?_ _ | refine blk_drew ?_ | refine blk_alloc ?_ _)); exact BK372.out⟩, ⟨by repeat (first | (with_reducible first | exact HB.out | apply below_alloc | apply pw_below_drewN | apply below_drew1 | refine below_set ?_ GE372.out) | exact HB.out)⟩⟩
                               ·
                                rw [if_neg c61] at H
                                exact absurd H (by simp)
                              ·
                               rw [if_neg c60] at H
                               have c60b0 : decide ((rd (rd_L1 l0_2 x9_4) x10_5) < 0) = false := decide_eq_false c60; clear c60; replace H := Option.bind_eq_some_iff.mp H; obtain ⟨t391, A640, H⟩ := H; replace H : (if (((((x6_5 ++ (⟨#[114, 101, 112, 108, 97, 99, 101, 32]⟩ : ByteArray)) ++ (rdOf ByteArray.empty l1 x9_4)) ++ (⟨#[32]⟩ : ByteArray)) ++ (rdOf ByteArray.empty l1 x10_5)) ++ (⟨#[32]⟩ : ByteArray)).size + t391.size ≤ 9223372036854775807 then (if ((((((x6_5 ++ (⟨#[114, 101, 112, 108, 97, 99, 101, 32]⟩ : ByteArray)) ++ (rdOf ByteArray.empty l1 x9_4)) ++ (⟨#[32]⟩ : ByteArray)) ++ (rdOf ByteArray.empty l1 x10_5)) ++ (⟨#[32]⟩ : ByteArray)) ++ t391).size + 1 ≤ 9223372036854775807 then (emendateref34_Format.l3 kj40 l1 (((((((x6_5 ++ (⟨#[114, 101, 112, 108, 97, 99, 101, 32]⟩ : ByteArray)) ++ (rdOf ByteArray.empty l1 x9_4)) ++ (⟨#[32]⟩ : ByteArray)) ++ (rdOf ByteArray.empty l1 x10_5)) ++ (⟨#[32]⟩ : ByteArray)) ++ t391) ++ (⟨#[10]⟩ : ByteArray)) x9_4 (wrap64 (x10_5 + 1)) l0_0 l0_1 l0_2 a0_3 a0_4) else (none)) else (none)) = some (r1, r2) := H; have A64 := Aside0.mk A640; clear A640
                               by_cases c65 : (((((x6_5 ++ (⟨#[114, 101, 112, 108, 97, 99, 101, 32]⟩ : ByteArray)) ++ (rdOf ByteArray.empty l1 x9_4)) ++ (⟨#[32]⟩ : ByteArray)) ++ (rdOf ByteArray.empty l1 x10_5)) ++ (⟨#[32]⟩ : ByteArray)).size + t391.size ≤ 9223372036854775807
                               ·
                                rw [if_pos c65] at H
                                have c65b0 := eq_true c65; have c65b1 : decide ((((((x6_5 ++ (⟨#[114, 101, 112, 108, 97, 99, 101, 32]⟩ : ByteArray)) ++ (rdOf ByteArray.empty l1 x9_4)) ++ (⟨#[32]⟩ : ByteArray)) ++ (rdOf ByteArray.empty l1 x10_5)) ++ (⟨#[32]⟩ : ByteArray)).size + t391.size ≤ 9223372036854775807) = true := decide_eq_true c65
                                try have c65b2 : (9223372036854775807 < (((((x6_5 ++ (⟨#[114, 101, 112, 108, 97, 99, 101, 32]⟩ : ByteArray)) ++ (rdOf ByteArray.empty l1 x9_4)) ++ (⟨#[32]⟩ : ByteArray)) ++ (rdOf ByteArray.empty l1 x10_5)) ++ (⟨#[32]⟩ : ByteArray)).size + t391.size) = False := eq_false (Nat.not_lt.2 c65)
                                try have c65b3 : (9223372036854775807 < x6_5.size + 8 + (rdOf ByteArray.empty l1 x9_4).size + 1 + (rdOf ByteArray.empty l1 x10_5).size + 1 + t391.size) = False := eq_false (by have h_ := c65; simp only [ByteArray.size_append] at h_; have e0_ : (⟨#[114, 101, 112, 108, 97, 99, 101, 32]⟩ : ByteArray).size = 8 := rfl; have e1_ : (⟨#[32]⟩ : ByteArray).size = 1 := rfl; omega)
                                by_cases c66 : ((((((x6_5 ++ (⟨#[114, 101, 112, 108, 97, 99, 101, 32]⟩ : ByteArray)) ++ (rdOf ByteArray.empty l1 x9_4)) ++ (⟨#[32]⟩ : ByteArray)) ++ (rdOf ByteArray.empty l1 x10_5)) ++ (⟨#[32]⟩ : ByteArray)) ++ t391).size + 1 ≤ 9223372036854775807
                                ·
                                 rw [if_pos c66] at H
                                 have c66b0 := eq_true c66; have c66b1 : decide (((((((x6_5 ++ (⟨#[114, 101, 112, 108, 97, 99, 101, 32]⟩ : ByteArray)) ++ (rdOf ByteArray.empty l1 x9_4)) ++ (⟨#[32]⟩ : ByteArray)) ++ (rdOf ByteArray.empty l1 x10_5)) ++ (⟨#[32]⟩ : ByteArray)) ++ t391).size + 1 ≤ 9223372036854775807) = true := decide_eq_true c66
                                 try have c66b2 : (9223372036854775807 < ((((((x6_5 ++ (⟨#[114, 101, 112, 108, 97, 99, 101, 32]⟩ : ByteArray)) ++ (rdOf ByteArray.empty l1 x9_4)) ++ (⟨#[32]⟩ : ByteArray)) ++ (rdOf ByteArray.empty l1 x10_5)) ++ (⟨#[32]⟩ : ByteArray)) ++ t391).size + 1) = False := eq_false (Nat.not_lt.2 c66)
                                 try have c66b3 : (9223372036854775807 < x6_5.size + 8 + (rdOf ByteArray.empty l1 x9_4).size + 1 + (rdOf ByteArray.empty l1 x10_5).size + 1 + t391.size + 1) = False := eq_false (by have h_ := c66; simp only [ByteArray.size_append] at h_; have e0_ : (⟨#[114, 101, 112, 108, 97, 99, 101, 32]⟩ : ByteArray).size = 8 := rfl; have e1_ : (⟨#[32]⟩ : ByteArray).size = 1 := rfl; omega)
                                 have H' := Aside0.mk H; clear H
                                 try go_wp2
                                 have n0_ := Aside0.mk (blk_drew BK372.out); have n1_ := Aside0.mk (below_drew1 HB.out); clear BK372; clear HB; have BK372 := n0_; have HB := n1_; clear n0_ n1_; have p385 : 0 ≤ (x9_4 : Int) := of_decide_eq_true (by first | (with_reducible assumption) | assumption)
                                 have q385 : x9_4 < (l1.length : Int) := of_decide_eq_true (by first | (with_reducible assumption) | assumption)
                                 obtain ⟨ad385, e385, hx385_0⟩ := Kd.at_string HR1.out x9_4 p385 q385; have hw385_0 := hx385_0
                                 cases e385
                                 replace hx385_0 := (HB.out.cell (World.block_lt_of_cell? w _ hx385_0)).trans hx385_0; replace p385 := eq_true p385; replace q385 := eq_true q385; have p386 : 0 ≤ (x10_5 : Int) := of_decide_eq_true (by first | (with_reducible assumption) | assumption)
                                 have q386 : x10_5 < (l1.length : Int) := of_decide_eq_true (by first | (with_reducible assumption) | assumption)
                                 obtain ⟨ad386, e386, hx386_0⟩ := Kd.at_string HR1.out x10_5 p386 q386; have hw386_0 := hx386_0; obtain rfl : ad385 = ad386 := (by injection e386)
                                 replace hx386_0 := (HB.out.cell (World.block_lt_of_cell? w _ hx386_0)).trans hx386_0; replace p386 := eq_true p386; replace q386 := eq_true q386
                                 refine start_ (n := 15) (S := fun w' => w'.cell? (ad385.add (x9_4).toNat) = some (.string (rdOf ByteArray.empty l1 x9_4)) ∧ w'.cell? (ad385.add (x10_5).toNat) = some (.string (rdOf ByteArray.empty l1 x10_5))) (ds := []) #[false, false, false, false, false, false, false, false, false, false, false, false, false, false, false] (by kernel_rfl) rfl rfl ⟨((HB.out.cell (World.block_lt_of_cell? w _ hw385_0)).trans hw385_0), ((HB.out.cell (World.block_lt_of_cell? w _ hw386_0)).trans hw386_0)⟩ (fun hHeld => ?_); refine with_tabW emendateref34_Format.tab21 emendateref34_Format.bits21 (fun HT_ HW_ => ?_)
                                 generalize wc.drew = w67 at BK372 HB hx385_0 hx386_0 hHeld ⊢
                                 refine pure_ (i := 0) (N := some 103) (v := ?_) (a' := ?_) #[true, false, false, false, false, false, false, false, false, false, false, false, false, false, false] rfl rfl (any_of HT_.out (by kernel_rfl)) (fun _ _ _ h => h) (Or.inl ⟨by rfl, ?_⟩) ?_ ?_
                                 rotate_left
                                 ·
                                  intro w'
                                  go_simp
                                  with_reducible rfl
                                 rotate_left
                                 ·
                                  simp only [Act.put, List.setIfInBounds_toArray, List.set_cons_zero, List.set_cons_succ, i64_w, i32_w]
                                  rfl
                                 refine pure_ (i := 1) (N := some 104) (v := ?_) (a' := ?_) #[true, true, false, false, false, false, false, false, false, false, false, false, false, false, false] rfl rfl (any_of HT_.out (by kernel_rfl)) (fun _ _ _ h => h) (Or.inl ⟨by rfl, ?_⟩) ?_ ?_
                                 rotate_left
                                 ·
                                  intro w'
                                  go_simp
                                  with_reducible rfl
                                 rotate_left
                                 ·
                                  simp only [Act.put, List.setIfInBounds_toArray, List.set_cons_zero, List.set_cons_succ, i64_w, i32_w]
                                  rfl
                                 refine pure_ (i := 2) (N := some 105) (v := ?_) (a' := ?_) #[true, true, true, false, false, false, false, false, false, false, false, false, false, false, false] rfl rfl (any_of HT_.out (by kernel_rfl)) (fun _ _ _ h => h) (Or.inl ⟨by rfl, ?_⟩) ?_ ?_
                                 rotate_left
                                 ·
                                  intro w'
                                  go_simp
                                  with_reducible rfl
                                 rotate_left
                                 ·
                                  simp only [Act.put, List.setIfInBounds_toArray, List.set_cons_zero, List.set_cons_succ, i64_w, i32_w]
                                  rfl
                                 refine pure_ (i := 3) (N := some 106) (v := ?_) (a' := ?_) #[true, true, true, true, false, false, false, false, false, false, false, false, false, false, false] rfl rfl (any_of HT_.out (by kernel_rfl)) (fun _ _ _ h => h) (Or.inl ⟨by rfl, ?_⟩) ?_ ?_
                                 rotate_left
                                 ·
                                  intro w'
                                  go_simp
                                  with_reducible rfl
                                 rotate_left
                                 ·
                                  simp only [Act.put, List.setIfInBounds_toArray, List.set_cons_zero, List.set_cons_succ, i64_w, i32_w]
                                  rfl
                                 refine pure_ (i := 4) (N := some 107) (v := ?_) (a' := ?_) #[true, true, true, true, true, false, false, false, false, false, false, false, false, false, false] rfl rfl (any_of HT_.out (by kernel_rfl)) (fun _ _ _ h => h) (Or.inl ⟨by rfl, ?_⟩) ?_ ?_
                                 rotate_left
                                 ·
                                  intro w'
                                  go_simp
                                  with_reducible rfl
                                 rotate_left
                                 ·
                                  simp only [Act.put, List.setIfInBounds_toArray, List.set_cons_zero, List.set_cons_succ, i64_w, i32_w]
                                  rfl
                                 refine pure_ (i := 8) (N := some 111) (v := ?_) (a' := ?_) #[true, true, true, true, true, false, false, false, true, false, false, false, false, false, false] rfl rfl (any_of HT_.out (by kernel_rfl)) (fun _ _ _ h => h) (Or.inl ⟨by rfl, ?_⟩) ?_ ?_
                                 rotate_left
                                 ·
                                  intro w'
                                  go_simp
                                  with_reducible rfl
                                 rotate_left
                                 ·
                                  simp only [Act.put, List.setIfInBounds_toArray, List.set_cons_zero, List.set_cons_succ, i64_w, i32_w]
                                  rfl
                                 refine pure_ (i := 9) (N := some 112) (v := ?_) (a' := ?_) #[true, true, true, true, true, false, false, false, true, true, false, false, false, false, false] rfl rfl (any_of HT_.out (by kernel_rfl)) (fun _ _ _ h => h) (Or.inl ⟨by rfl, ?_⟩) ?_ ?_
                                 rotate_left
                                 ·
                                  intro w'
                                  go_simp
                                  with_reducible rfl
                                 rotate_left
                                 ·
                                  simp only [Act.put, List.setIfInBounds_toArray, List.set_cons_zero, List.set_cons_succ, i64_w, i32_w]
                                  rfl
                                 refine pure_ (i := 10) (N := some 113) (v := ?_) (a' := ?_) #[true, true, true, true, true, false, false, false, true, true, true, false, false, false, false] rfl rfl (any_of HT_.out (by kernel_rfl)) (fun _ _ _ h => h) (Or.inl ⟨by rfl, ?_⟩) ?_ ?_
                                 rotate_left
                                 ·
                                  intro w'
                                  go_simp
                                  with_reducible rfl
                                 rotate_left
                                 ·
                                  simp only [Act.put, List.setIfInBounds_toArray, List.set_cons_zero, List.set_cons_succ, i64_w, i32_w]
                                  rfl
                                 refine take_ (i := 5) (N := some 108) (v := ?_) (a' := ?_) #[true, true, true, true, true, true, false, false, true, true, true, false, false, false, false] rfl rfl (take_ofW HT_.out HW_.out (by kernel_rfl)) (fun _ _ _ h => h) (Or.inl ⟨by rfl, ?_⟩) hHeld ?_ ?_
                                 rotate_left
                                 ·
                                  rintro w' ⟨s0, s1⟩
                                  go_simp
                                  with_reducible rfl
                                 rotate_left
                                 ·
                                  simp only [Act.put, List.setIfInBounds_toArray, List.set_cons_zero, List.set_cons_succ, i64_w, i32_w]
                                  rfl
                                 refine pure_ (i := 6) (N := some 109) (v := ?_) (a' := ?_) #[true, true, true, true, true, true, true, false, true, true, true, false, false, false, false] rfl rfl (any_of HT_.out (by kernel_rfl)) (fun _ _ _ h => h) (Or.inl ⟨by rfl, ?_⟩) ?_ ?_
                                 rotate_left
                                 ·
                                  intro w'
                                  go_simp
                                  with_reducible rfl
                                 rotate_left
                                 ·
                                  simp only [Act.put, List.setIfInBounds_toArray, List.set_cons_zero, List.set_cons_succ, i64_w, i32_w]
                                  rfl
                                 refine pure_ (i := 7) (N := some 110) (v := ?_) (a' := ?_) #[true, true, true, true, true, true, true, true, true, true, true, false, false, false, false] rfl rfl (any_of HT_.out (by kernel_rfl)) (fun _ _ _ h => h) (Or.inl ⟨by rfl, ?_⟩) ?_ ?_
                                 rotate_left
                                 ·
                                  intro w'
                                  go_simp
                                  with_reducible rfl
                                 rotate_left
                                 ·
                                  simp only [Act.put, List.setIfInBounds_toArray, List.set_cons_zero, List.set_cons_succ, i64_w, i32_w]
                                  rfl
                                 refine take_ (i := 11) (N := some 114) (v := ?_) (a' := ?_) #[true, true, true, true, true, true, true, true, true, true, true, true, false, false, false] rfl rfl (take_ofW HT_.out HW_.out (by kernel_rfl)) (fun _ _ _ h => h) (Or.inl ⟨by rfl, ?_⟩) hHeld ?_ ?_
                                 rotate_left
                                 ·
                                  rintro w' ⟨s0, s1⟩
                                  go_simp
                                  with_reducible rfl
                                 rotate_left
                                 ·
                                  simp only [Act.put, List.setIfInBounds_toArray, List.set_cons_zero, List.set_cons_succ, i64_w, i32_w]
                                  rfl
                                 refine pure_ (i := 12) (N := some 115) (v := ?_) (a' := ?_) #[true, true, true, true, true, true, true, true, true, true, true, true, true, false, false] rfl rfl (any_of HT_.out (by kernel_rfl)) (fun _ _ _ h => h) (Or.inl ⟨by rfl, ?_⟩) ?_ ?_
                                 rotate_left
                                 ·
                                  intro w'
                                  go_simp
                                  with_reducible rfl
                                 rotate_left
                                 ·
                                  simp only [Act.put, List.setIfInBounds_toArray, List.set_cons_zero, List.set_cons_succ, i64_w, i32_w]
                                  rfl
                                 refine pure_ (i := 13) (N := some 116) (v := ?_) (a' := ?_) #[true, true, true, true, true, true, true, true, true, true, true, true, true, true, false] rfl rfl (any_of HT_.out (by kernel_rfl)) (fun _ _ _ h => h) (Or.inl ⟨by rfl, ?_⟩) ?_ ?_
                                 rotate_left
                                 ·
                                  intro w'
                                  go_simp
                                  with_reducible rfl
                                 rotate_left
                                 ·
                                  simp only [Act.put, List.setIfInBounds_toArray, List.set_cons_zero, List.set_cons_succ, i64_w, i32_w]
                                  rfl
                                 refine pure_ (i := 14) (N := some 6) (v := ?_) (a' := ?_) #[true, true, true, true, true, true, true, true, true, true, true, true, true, true, true] rfl rfl (any_of HT_.out (by kernel_rfl)) (fun _ _ _ h => h) (Or.inl ⟨by rfl, ?_⟩) ?_ ?_
                                 rotate_left
                                 ·
                                  intro w'
                                  go_simp
                                  with_reducible rfl
                                 rotate_left
                                 ·
                                  simp only [Act.put, List.setIfInBounds_toArray, List.set_cons_zero, List.set_cons_succ, i64_w, i32_w]
                                  rfl
                                 refine done_ (done_of HT_.out (by kernel_rfl)) ?_
                                 have hcz68_0 : w67.cell? ⟨gb372, 0, none⟩ = some (.slice A0_0 l0_0.length c0_0) := (blk_cell BK372.out 0).trans rfl; have hcz68_1 : w67.cell? ⟨gb372, 1, none⟩ = some (.slice A0_1 l0_1.length c0_1) := (blk_cell BK372.out 1).trans rfl; have hcz68_2 : w67.cell? ⟨gb372, 2, none⟩ = some (.slice A0_2 l0_2.length c0_2) := (blk_cell BK372.out 2).trans rfl; have hcz68_3 : w67.cell? ⟨gb372, 3, none⟩ = some (.int .i64 a0_3) := (blk_cell BK372.out 3).trans rfl; have hcz68_4 : w67.cell? ⟨gb372, 4, none⟩ = some (.int .i64 a0_4) := (blk_cell BK372.out 4).trans rfl; have hfz68_0 := blk_frozen BK372.out 0; have hfz68_1 := blk_frozen BK372.out 1; have hfz68_2 := blk_frozen BK372.out 2; have hfz68_3 := blk_frozen BK372.out 3; have hfz68_4 := blk_frozen BK372.out 4; have p387 : 0 ≤ (x9_4 : Int) := of_decide_eq_true (by first | (with_reducible assumption) | assumption)
                                 have q387 : x9_4 < (l0_2.length : Int) := of_decide_eq_true (by first | (with_reducible assumption) | assumption)
                                 obtain ⟨ad387, A387_0, c387_0, e387, hx387_0, hl387_0, hi387_0⟩ := at_L1 HR0_2.out x9_4 p387 q387
                                 cases e387
                                 replace hx387_0 := (HB.out.cell (World.block_lt_of_cell? w _ hx387_0)).trans hx387_0; have HR387_0 := Aside0.mk hi387_0; have HC387_0 := Aside0.mk hl387_0; clear hi387_0 hl387_0; replace p387 := eq_true p387; replace q387 := eq_true q387; have p388 : 0 ≤ (x10_5 : Int) := of_decide_eq_true (by first | (with_reducible assumption) | assumption)
                                 have q388 : x10_5 < ((rd_L1 l0_2 x9_4).length : Int) := of_decide_eq_true (by first | (with_reducible assumption) | assumption)
                                 obtain ⟨ad388, e388, hx388_0⟩ := Kd.at_int HR387_0.out x10_5 p388 q388
                                 cases e388
                                 replace hx388_0 := (HB.out.cell (World.block_lt_of_cell? w _ hx388_0)).trans hx388_0; replace p388 := eq_true p388; replace q388 := eq_true q388; have p389 : 0 ≤ (x9_4 : Int) := of_decide_eq_true (by first | (with_reducible assumption) | assumption)
                                 have q389 : x9_4 < (l0_2.length : Int) := of_decide_eq_true (by first | (with_reducible assumption) | assumption)
                                 obtain ⟨ad389, A389_0, c389_0, e389, hx389_0, hl389_0, hi389_0⟩ := at_L1 HR0_2.out x9_4 p389 q389; obtain rfl : ad387 = ad389 := (by injection e389)
                                 replace hx389_0 := (HB.out.cell (World.block_lt_of_cell? w _ hx389_0)).trans hx389_0; have HR389_0 := Aside0.mk hi389_0; have HC389_0 := Aside0.mk hl389_0; clear hi389_0 hl389_0; replace p389 := eq_true p389; replace q389 := eq_true q389; have ea_ := Option.some.inj (hx387_0.symm.trans hx389_0)
                                 injection ea_ with ea_ en_ ec_
                                 subst ea_; subst ec_; clear en_; have p390 : 0 ≤ (x10_5 : Int) := of_decide_eq_true (by first | (with_reducible assumption) | assumption)
                                 have q390 : x10_5 < ((rd_L1 l0_2 x9_4).length : Int) := of_decide_eq_true (by first | (with_reducible assumption) | assumption)
                                 obtain ⟨ad390, e390, hx390_0⟩ := Kd.at_int HR389_0.out x10_5 p390 q390
                                 cases e390
                                 replace hx390_0 := (HB.out.cell (World.block_lt_of_cell? w _ hx390_0)).trans hx390_0; replace p390 := eq_true p390; replace q390 := eq_true q390
                                 try go_wp2_with (first | ((with_reducible refine gate_callee (f := 21) rfl ?_); refine goesL_ (some 137) rfl rfl Tryz.func21 (by kernel_rfl) rfl #[.int .i64 (rd (rd_L1 l0_2 x9_4) x10_5)] rfl (by (try simp only [List.map_toArray, List.map_cons, List.map_nil]); first | done | rfl | (simp only [List.length_drop, List.length_take]; rfl)) ?_; (with_reducible refine (emendateref16_Decimal.calls kj40 (rd (rd_L1 l0_2 x9_4) x10_5) t391 _ A64.out).mono ?_); rintro e w69 ⟨rfl, hb⟩; refine ⟨_, rfl, ?_⟩; have n0_ := Aside0.mk (blk_below (g := gb372) (o := .cells #[.slice A0_0 l0_0.length c0_0, .slice A0_1 l0_1.length c0_1, .slice (some ad387) l0_2.length c0_2, .int .i64 a0_3, .int .i64 a0_4] 25 (0, 0)) (by (with_reducible repeat (first | refine blk_drewN ?_ _ | refine blk_drew ?_ | refine blk_alloc ?_ _)); exact BK372.out) hb); have n1_ := Aside0.mk (below_step (by repeat (first | (with_reducible first | exact HB.out | apply below_alloc | apply pw_below_drewN | apply below_drew1 | refine below_set ?_ GE372.out) | exact HB.out)) hb); clear BK372; clear HB; have BK372 := n0_; have HB := n1_; clear n0_ n1_; (try clear hb); (try clear hb2); (try clear hk); (try clear hi)))
                                 go_roundg kj40
                                 case measure => have := HJ2.out; have := HK2.out; have := HK3.out; have := HK4.out; have := HK5.out; have := HJ40.out; omega
                                 case rel => exact ⟨(((((((x6_5 ++ (⟨#[114, 101, 112, 108, 97, 99, 101, 32]⟩ : ByteArray)) ++ (rdOf ByteArray.empty l1 x9_4)) ++ (⟨#[32]⟩ : ByteArray)) ++ (rdOf ByteArray.empty l1 x10_5)) ++ (⟨#[32]⟩ : ByteArray)) ++ t391) ++ (⟨#[10]⟩ : ByteArray)), (wrap64 (x10_5 + 1)), (by first | rfl | (simp; done) | (simp [*]; done)), (by first | rfl | (simp; done) | (simp [*]; done)), H', ⟨by have := HJ2.out; have := HK2.out; have := HK3.out; have := HK4.out; have := HK5.out; have := HJ40.out; omega⟩, ⟨by (with_reducible repeat (first | refine blk_drewN ?_ _ | refine blk_drew ?_ | refine blk_alloc ?_ _)); exact BK372.out⟩, ⟨by repeat (first | (with_reducible first | exact HB.out | apply below_alloc | apply pw_below_drewN | apply below_drew1 | refine below_set ?_ GE372.out) | exact HB.out)⟩⟩
                                ·
                                 rw [if_neg c66] at H
                                 exact absurd H (by simp)
                               ·
                                rw [if_neg c65] at H
                                exact absurd H (by simp)
                             ·
                              rw [if_neg c59] at H
                              exact absurd H (by simp)
                            ·
                             rw [if_neg c58] at H
                             exact absurd H (by simp)
                           ·
                            rw [if_neg c57] at H
                            exact absurd H (by simp)
                          ·
                           rw [if_neg c56] at H
                           exact absurd H (by simp)
                         ·
                          rw [if_neg c55] at H
                          exact absurd H (by simp)
                        ·
                         rw [if_neg c54] at H
                         exact absurd H (by simp)
                       ·
                        rw [if_neg c53] at H
                        exact absurd H (by simp)
                      ·
                       rw [if_neg c52] at H
                       exact absurd H (by simp)
                     ·
                      rw [if_neg c51] at H
                      exact absurd H (by simp)
                    ·
                     rw [if_neg c50] at H
                     exact absurd H (by simp)
                   ·
                    rw [if_neg c49] at H
                    exact absurd H (by simp)
               ·
                rw [if_neg c40] at H
                have c40b0 : decide (x10_5 < (l1.length : Int)) = false := decide_eq_false c40; clear c40; have H' := Aside0.mk H; clear H
                go_wp2
                go_roundg k5
                case measure => have := HJ2.out; have := HK2.out; have := HK3.out; have := HK4.out; have := HK5.out; omega
                case rel => exact ⟨(x6_5), (wrap64 (x9_4 + 1)), (by first | rfl | (simp; done) | (simp [*]; done)), (by first | rfl | (simp; done) | (simp [*]; done)), H', ⟨by have := HJ2.out; have := HK2.out; have := HK3.out; have := HK4.out; have := HK5.out; omega⟩, ⟨by (with_reducible repeat (first | refine blk_drewN ?_ _ | refine blk_drew ?_ | refine blk_alloc ?_ _)); exact BK372.out⟩, ⟨by repeat (first | (with_reducible first | exact HB.out | apply below_alloc | apply pw_below_drewN | apply below_drew1 | refine below_set ?_ GE372.out) | exact HB.out)⟩⟩
            ·
             rw [if_neg c39] at H
             have c39b0 : decide (x9_4 < (l1.length : Int)) = false := decide_eq_false c39; clear c39
             by_cases c70 : a0_3 = 12
             ·
              rw [if_pos c70] at H
              have c70b0 : (a0_3 == 12) = true := beq_iff_eq.mpr c70; have c70b1 : (a0_3 != 12) = false := bne_eq_false_iff_eq.mpr c70; clear c70
              by_cases c71 : a0_4 = 8
              ·
               rw [if_pos c71] at H
               have c71b0 : (a0_4 == 8) = true := beq_iff_eq.mpr c71; have c71b1 : (a0_4 != 8) = false := bne_eq_false_iff_eq.mpr c71; clear c71
               simp only [Option.some.injEq, Prod.mk.injEq] at H
               obtain ⟨rfl, rfl⟩ := H; have hcz72_0 : wr.cell? ⟨gb372, 0, none⟩ = some (.slice A0_0 l0_0.length c0_0) := (blk_cell BK372.out 0).trans rfl; have hcz72_1 : wr.cell? ⟨gb372, 1, none⟩ = some (.slice A0_1 l0_1.length c0_1) := (blk_cell BK372.out 1).trans rfl; have hcz72_2 : wr.cell? ⟨gb372, 2, none⟩ = some (.slice A0_2 l0_2.length c0_2) := (blk_cell BK372.out 2).trans rfl; have hcz72_3 : wr.cell? ⟨gb372, 3, none⟩ = some (.int .i64 a0_3) := (blk_cell BK372.out 3).trans rfl; have hcz72_4 : wr.cell? ⟨gb372, 4, none⟩ = some (.int .i64 a0_4) := (blk_cell BK372.out 4).trans rfl; have hfz72_0 := blk_frozen BK372.out 0; have hfz72_1 := blk_frozen BK372.out 1; have hfz72_2 := blk_frozen BK372.out 2; have hfz72_3 := blk_frozen BK372.out 3; have hfz72_4 := blk_frozen BK372.out 4
               go_wp2
               go_ret2
               exact ⟨by first | rfl | (simp [errW_none, errW_some] <;> rfl) | (simp [*, errW_none, errW_some] <;> rfl), by repeat (first | (with_reducible first | exact HB.out | apply below_alloc | apply pw_below_drewN | apply below_drew1 | refine below_set ?_ GE372.out) | exact HB.out)⟩
              ·
               rw [if_neg c71] at H
               have c71b0 : (a0_4 == 8) = false := beq_eq_false_iff_ne.mpr c71; have c71b1 : (a0_4 != 8) = true := bne_iff_ne.mpr c71
               by_cases c73 : x6_4.size + 8 ≤ 9223372036854775807
               ·
                rw [if_pos c73] at H
                have c73b0 := eq_true c73; have c73b1 : decide (x6_4.size + 8 ≤ 9223372036854775807) = true := decide_eq_true c73
                try have c73b2 : (9223372036854775807 < x6_4.size + 8) = False := eq_false (Nat.not_lt.2 c73)
                replace H := Option.bind_eq_some_iff.mp H; obtain ⟨t392, A740, H⟩ := H; replace H : (if (x6_4 ++ (⟨#[117, 110, 107, 110, 111, 119, 110, 32]⟩ : ByteArray)).size + t392.size ≤ 9223372036854775807 then (if ((x6_4 ++ (⟨#[117, 110, 107, 110, 111, 119, 110, 32]⟩ : ByteArray)) ++ t392).size + 1 ≤ 9223372036854775807 then (some (((x6_4 ++ (⟨#[117, 110, 107, 110, 111, 119, 110, 32]⟩ : ByteArray)) ++ t392) ++ (⟨#[10]⟩ : ByteArray), 0)) else (none)) else (none)) = some (r1, r2) := H; have A74 := Aside0.mk A740; clear A740
                by_cases c75 : (x6_4 ++ (⟨#[117, 110, 107, 110, 111, 119, 110, 32]⟩ : ByteArray)).size + t392.size ≤ 9223372036854775807
                ·
                 rw [if_pos c75] at H
                 have c75b0 := eq_true c75; have c75b1 : decide ((x6_4 ++ (⟨#[117, 110, 107, 110, 111, 119, 110, 32]⟩ : ByteArray)).size + t392.size ≤ 9223372036854775807) = true := decide_eq_true c75
                 try have c75b2 : (9223372036854775807 < (x6_4 ++ (⟨#[117, 110, 107, 110, 111, 119, 110, 32]⟩ : ByteArray)).size + t392.size) = False := eq_false (Nat.not_lt.2 c75)
                 try have c75b3 : (9223372036854775807 < x6_4.size + 8 + t392.size) = False := eq_false (by have h_ := c75; simp only [ByteArray.size_append] at h_; have e0_ : (⟨#[117, 110, 107, 110, 111, 119, 110, 32]⟩ : ByteArray).size = 8 := rfl; omega)
                 by_cases c76 : ((x6_4 ++ (⟨#[117, 110, 107, 110, 111, 119, 110, 32]⟩ : ByteArray)) ++ t392).size + 1 ≤ 9223372036854775807
                 ·
                  rw [if_pos c76] at H
                  have c76b0 := eq_true c76; have c76b1 : decide (((x6_4 ++ (⟨#[117, 110, 107, 110, 111, 119, 110, 32]⟩ : ByteArray)) ++ t392).size + 1 ≤ 9223372036854775807) = true := decide_eq_true c76
                  try have c76b2 : (9223372036854775807 < ((x6_4 ++ (⟨#[117, 110, 107, 110, 111, 119, 110, 32]⟩ : ByteArray)) ++ t392).size + 1) = False := eq_false (Nat.not_lt.2 c76)
                  try have c76b3 : (9223372036854775807 < x6_4.size + 8 + t392.size + 1) = False := eq_false (by have h_ := c76; simp only [ByteArray.size_append] at h_; have e0_ : (⟨#[117, 110, 107, 110, 111, 119, 110, 32]⟩ : ByteArray).size = 8 := rfl; omega)
                  simp only [Option.some.injEq, Prod.mk.injEq] at H
                  obtain ⟨rfl, rfl⟩ := H; have hcz77_0 : wr.cell? ⟨gb372, 0, none⟩ = some (.slice A0_0 l0_0.length c0_0) := (blk_cell BK372.out 0).trans rfl; have hcz77_1 : wr.cell? ⟨gb372, 1, none⟩ = some (.slice A0_1 l0_1.length c0_1) := (blk_cell BK372.out 1).trans rfl; have hcz77_2 : wr.cell? ⟨gb372, 2, none⟩ = some (.slice A0_2 l0_2.length c0_2) := (blk_cell BK372.out 2).trans rfl; have hcz77_3 : wr.cell? ⟨gb372, 3, none⟩ = some (.int .i64 a0_3) := (blk_cell BK372.out 3).trans rfl; have hcz77_4 : wr.cell? ⟨gb372, 4, none⟩ = some (.int .i64 a0_4) := (blk_cell BK372.out 4).trans rfl; have hfz77_0 := blk_frozen BK372.out 0; have hfz77_1 := blk_frozen BK372.out 1; have hfz77_2 := blk_frozen BK372.out 2; have hfz77_3 := blk_frozen BK372.out 3; have hfz77_4 := blk_frozen BK372.out 4
                  go_wp2_with (first | ((with_reducible refine gate_callee (f := 21) rfl ?_); refine goesL_ (some 157) rfl rfl Tryz.func21 (by kernel_rfl) rfl #[.int .i64 a0_4] rfl (by (try simp only [List.map_toArray, List.map_cons, List.map_nil]); first | done | rfl | (simp only [List.length_drop, List.length_take]; rfl)) ?_; (with_reducible refine (emendateref16_Decimal.calls k4 a0_4 t392 _ A74.out).mono ?_); rintro e w78 ⟨rfl, hb⟩; refine ⟨_, rfl, ?_⟩; have n0_ := Aside0.mk (blk_below (g := gb372) (o := .cells #[.slice A0_0 l0_0.length c0_0, .slice A0_1 l0_1.length c0_1, .slice A0_2 l0_2.length c0_2, .int .i64 a0_3, .int .i64 a0_4] 25 (0, 0)) (by (with_reducible repeat (first | refine blk_drewN ?_ _ | refine blk_drew ?_ | refine blk_alloc ?_ _)); exact BK372.out) hb); have n1_ := Aside0.mk (below_step (by repeat (first | (with_reducible first | exact HB.out | apply below_alloc | apply pw_below_drewN | apply below_drew1 | refine below_set ?_ GE372.out) | exact HB.out)) hb); clear BK372; clear HB; have BK372 := n0_; have HB := n1_; clear n0_ n1_; (try clear hb); (try clear hb2); (try clear hk); (try clear hi)))
                  go_ret2
                  exact ⟨by first | rfl | (simp [errW_none, errW_some] <;> rfl) | (simp [*, errW_none, errW_some] <;> rfl), by repeat (first | (with_reducible first | exact HB.out | apply below_alloc | apply pw_below_drewN | apply below_drew1 | refine below_set ?_ GE372.out) | exact HB.out)⟩
                 ·
                  rw [if_neg c76] at H
                  exact absurd H (by simp)
                ·
                 rw [if_neg c75] at H
                 exact absurd H (by simp)
               ·
                rw [if_neg c73] at H
                exact absurd H (by simp)
             ·
              rw [if_neg c70] at H
              have c70b0 : (a0_3 == 12) = false := beq_eq_false_iff_ne.mpr c70; have c70b1 : (a0_3 != 12) = true := bne_iff_ne.mpr c70
              by_cases c79 : x6_4.size + 5 ≤ 9223372036854775807
              ·
               rw [if_pos c79] at H
               have c79b0 := eq_true c79; have c79b1 : decide (x6_4.size + 5 ≤ 9223372036854775807) = true := decide_eq_true c79
               try have c79b2 : (9223372036854775807 < x6_4.size + 5) = False := eq_false (Nat.not_lt.2 c79)
               replace H := Option.bind_eq_some_iff.mp H; obtain ⟨t393, A800, H⟩ := H; replace H : (if (x6_4 ++ (⟨#[115, 119, 97, 112, 32]⟩ : ByteArray)).size + t393.size ≤ 9223372036854775807 then (if ((x6_4 ++ (⟨#[115, 119, 97, 112, 32]⟩ : ByteArray)) ++ t393).size + 1 ≤ 9223372036854775807 then (if a0_4 = 8 then (some (((x6_4 ++ (⟨#[115, 119, 97, 112, 32]⟩ : ByteArray)) ++ t393) ++ (⟨#[10]⟩ : ByteArray), 0)) else (if (((x6_4 ++ (⟨#[115, 119, 97, 112, 32]⟩ : ByteArray)) ++ t393) ++ (⟨#[10]⟩ : ByteArray)).size + 8 ≤ 9223372036854775807 then ((emendateref16_Decimal.f k4 a0_4).bind fun t394 => (if ((((x6_4 ++ (⟨#[115, 119, 97, 112, 32]⟩ : ByteArray)) ++ t393) ++ (⟨#[10]⟩ : ByteArray)) ++ (⟨#[117, 110, 107, 110, 111, 119, 110, 32]⟩ : ByteArray)).size + t394.size ≤ 9223372036854775807 then (if (((((x6_4 ++ (⟨#[115, 119, 97, 112, 32]⟩ : ByteArray)) ++ t393) ++ (⟨#[10]⟩ : ByteArray)) ++ (⟨#[117, 110, 107, 110, 111, 119, 110, 32]⟩ : ByteArray)) ++ t394).size + 1 ≤ 9223372036854775807 then (some ((((((x6_4 ++ (⟨#[115, 119, 97, 112, 32]⟩ : ByteArray)) ++ t393) ++ (⟨#[10]⟩ : ByteArray)) ++ (⟨#[117, 110, 107, 110, 111, 119, 110, 32]⟩ : ByteArray)) ++ t394) ++ (⟨#[10]⟩ : ByteArray), 0)) else (none)) else (none))) else (none))) else (none)) else (none)) = some (r1, r2) := H
               have A80 := Aside0.mk A800; clear A800
               by_cases c81 : (x6_4 ++ (⟨#[115, 119, 97, 112, 32]⟩ : ByteArray)).size + t393.size ≤ 9223372036854775807
               ·
                rw [if_pos c81] at H
                have c81b0 := eq_true c81; have c81b1 : decide ((x6_4 ++ (⟨#[115, 119, 97, 112, 32]⟩ : ByteArray)).size + t393.size ≤ 9223372036854775807) = true := decide_eq_true c81
                try have c81b2 : (9223372036854775807 < (x6_4 ++ (⟨#[115, 119, 97, 112, 32]⟩ : ByteArray)).size + t393.size) = False := eq_false (Nat.not_lt.2 c81)
                try have c81b3 : (9223372036854775807 < x6_4.size + 5 + t393.size) = False := eq_false (by have h_ := c81; simp only [ByteArray.size_append] at h_; have e0_ : (⟨#[115, 119, 97, 112, 32]⟩ : ByteArray).size = 5 := rfl; omega)
                by_cases c82 : ((x6_4 ++ (⟨#[115, 119, 97, 112, 32]⟩ : ByteArray)) ++ t393).size + 1 ≤ 9223372036854775807
                ·
                 rw [if_pos c82] at H
                 have c82b0 := eq_true c82; have c82b1 : decide (((x6_4 ++ (⟨#[115, 119, 97, 112, 32]⟩ : ByteArray)) ++ t393).size + 1 ≤ 9223372036854775807) = true := decide_eq_true c82
                 try have c82b2 : (9223372036854775807 < ((x6_4 ++ (⟨#[115, 119, 97, 112, 32]⟩ : ByteArray)) ++ t393).size + 1) = False := eq_false (Nat.not_lt.2 c82)
                 try have c82b3 : (9223372036854775807 < x6_4.size + 5 + t393.size + 1) = False := eq_false (by have h_ := c82; simp only [ByteArray.size_append] at h_; have e0_ : (⟨#[115, 119, 97, 112, 32]⟩ : ByteArray).size = 5 := rfl; omega)
                 by_cases c83 : a0_4 = 8
                 ·
                  rw [if_pos c83] at H
                  have c83b0 : (a0_4 == 8) = true := beq_iff_eq.mpr c83; have c83b1 : (a0_4 != 8) = false := bne_eq_false_iff_eq.mpr c83; clear c83
                  simp only [Option.some.injEq, Prod.mk.injEq] at H
                  obtain ⟨rfl, rfl⟩ := H; have hcz84_0 : wr.cell? ⟨gb372, 0, none⟩ = some (.slice A0_0 l0_0.length c0_0) := (blk_cell BK372.out 0).trans rfl; have hcz84_1 : wr.cell? ⟨gb372, 1, none⟩ = some (.slice A0_1 l0_1.length c0_1) := (blk_cell BK372.out 1).trans rfl; have hcz84_2 : wr.cell? ⟨gb372, 2, none⟩ = some (.slice A0_2 l0_2.length c0_2) := (blk_cell BK372.out 2).trans rfl; have hcz84_3 : wr.cell? ⟨gb372, 3, none⟩ = some (.int .i64 a0_3) := (blk_cell BK372.out 3).trans rfl; have hcz84_4 : wr.cell? ⟨gb372, 4, none⟩ = some (.int .i64 a0_4) := (blk_cell BK372.out 4).trans rfl; have hfz84_0 := blk_frozen BK372.out 0; have hfz84_1 := blk_frozen BK372.out 1; have hfz84_2 := blk_frozen BK372.out 2; have hfz84_3 := blk_frozen BK372.out 3; have hfz84_4 := blk_frozen BK372.out 4
                  go_wp2_with (first | ((with_reducible refine gate_callee (f := 21) rfl ?_); refine goesL_ (some 147) rfl rfl Tryz.func21 (by kernel_rfl) rfl #[.int .i64 a0_3] rfl (by (try simp only [List.map_toArray, List.map_cons, List.map_nil]); first | done | rfl | (simp only [List.length_drop, List.length_take]; rfl)) ?_; (with_reducible refine (emendateref16_Decimal.calls k4 a0_3 t393 _ A80.out).mono ?_); rintro e w85 ⟨rfl, hb⟩; refine ⟨_, rfl, ?_⟩; have n0_ := Aside0.mk (blk_below (g := gb372) (o := .cells #[.slice A0_0 l0_0.length c0_0, .slice A0_1 l0_1.length c0_1, .slice A0_2 l0_2.length c0_2, .int .i64 a0_3, .int .i64 a0_4] 25 (0, 0)) (by (with_reducible repeat (first | refine blk_drewN ?_ _ | refine blk_drew ?_ | refine blk_alloc ?_ _)); exact BK372.out) hb); have n1_ := Aside0.mk (below_step (by repeat (first | (with_reducible first | exact HB.out | apply below_alloc | apply pw_below_drewN | apply below_drew1 | refine below_set ?_ GE372.out) | exact HB.out)) hb); clear BK372; clear HB; have BK372 := n0_; have HB := n1_; clear n0_ n1_; (try clear hb); (try clear hb2); (try clear hk); (try clear hi); have hcz86_0 : w85.cell? ⟨gb372, 0, none⟩ = some (.slice A0_0 l0_0.length c0_0) := (blk_cell BK372.out 0).trans rfl; have hcz86_1 : w85.cell? ⟨gb372, 1, none⟩ = some (.slice A0_1 l0_1.length c0_1) := (blk_cell BK372.out 1).trans rfl; have hcz86_2 : w85.cell? ⟨gb372, 2, none⟩ = some (.slice A0_2 l0_2.length c0_2) := (blk_cell BK372.out 2).trans rfl; have hcz86_3 : w85.cell? ⟨gb372, 3, none⟩ = some (.int .i64 a0_3) := (blk_cell BK372.out 3).trans rfl; have hcz86_4 : w85.cell? ⟨gb372, 4, none⟩ = some (.int .i64 a0_4) := (blk_cell BK372.out 4).trans rfl; have hfz86_0 := blk_frozen BK372.out 0; have hfz86_1 := blk_frozen BK372.out 1; have hfz86_2 := blk_frozen BK372.out 2; have hfz86_3 := blk_frozen BK372.out 3; have hfz86_4 := blk_frozen BK372.out 4))
                  go_ret2
                  exact ⟨by first | rfl | (simp [errW_none, errW_some] <;> rfl) | (simp [*, errW_none, errW_some] <;> rfl), by repeat (first | (with_reducible first | exact HB.out | apply below_alloc | apply pw_below_drewN | apply below_drew1 | refine below_set ?_ GE372.out) | exact HB.out)⟩
                 ·
                  rw [if_neg c83] at H
                  have c83b0 : (a0_4 == 8) = false := beq_eq_false_iff_ne.mpr c83; have c83b1 : (a0_4 != 8) = true := bne_iff_ne.mpr c83
                  by_cases c87 : (((x6_4 ++ (⟨#[115, 119, 97, 112, 32]⟩ : ByteArray)) ++ t393) ++ (⟨#[10]⟩ : ByteArray)).size + 8 ≤ 9223372036854775807
                  ·
                   rw [if_pos c87] at H
                   have c87b0 := eq_true c87; have c87b1 : decide ((((x6_4 ++ (⟨#[115, 119, 97, 112, 32]⟩ : ByteArray)) ++ t393) ++ (⟨#[10]⟩ : ByteArray)).size + 8 ≤ 9223372036854775807) = true := decide_eq_true c87
                   try have c87b2 : (9223372036854775807 < (((x6_4 ++ (⟨#[115, 119, 97, 112, 32]⟩ : ByteArray)) ++ t393) ++ (⟨#[10]⟩ : ByteArray)).size + 8) = False := eq_false (Nat.not_lt.2 c87)
                   try have c87b3 : (9223372036854775807 < x6_4.size + 5 + t393.size + 1 + 8) = False := eq_false (by have h_ := c87; simp only [ByteArray.size_append] at h_; have e0_ : (⟨#[115, 119, 97, 112, 32]⟩ : ByteArray).size = 5 := rfl; have e1_ : (⟨#[10]⟩ : ByteArray).size = 1 := rfl; omega)
                   replace H := Option.bind_eq_some_iff.mp H; obtain ⟨t394, A880, H⟩ := H; replace H : (if ((((x6_4 ++ (⟨#[115, 119, 97, 112, 32]⟩ : ByteArray)) ++ t393) ++ (⟨#[10]⟩ : ByteArray)) ++ (⟨#[117, 110, 107, 110, 111, 119, 110, 32]⟩ : ByteArray)).size + t394.size ≤ 9223372036854775807 then (if (((((x6_4 ++ (⟨#[115, 119, 97, 112, 32]⟩ : ByteArray)) ++ t393) ++ (⟨#[10]⟩ : ByteArray)) ++ (⟨#[117, 110, 107, 110, 111, 119, 110, 32]⟩ : ByteArray)) ++ t394).size + 1 ≤ 9223372036854775807 then (some ((((((x6_4 ++ (⟨#[115, 119, 97, 112, 32]⟩ : ByteArray)) ++ t393) ++ (⟨#[10]⟩ : ByteArray)) ++ (⟨#[117, 110, 107, 110, 111, 119, 110, 32]⟩ : ByteArray)) ++ t394) ++ (⟨#[10]⟩ : ByteArray), 0)) else (none)) else (none)) = some (r1, r2) := H; have A88 := Aside0.mk A880; clear A880
                   by_cases c89 : ((((x6_4 ++ (⟨#[115, 119, 97, 112, 32]⟩ : ByteArray)) ++ t393) ++ (⟨#[10]⟩ : ByteArray)) ++ (⟨#[117, 110, 107, 110, 111, 119, 110, 32]⟩ : ByteArray)).size + t394.size ≤ 9223372036854775807
                   ·
                    rw [if_pos c89] at H
                    have c89b0 := eq_true c89; have c89b1 : decide (((((x6_4 ++ (⟨#[115, 119, 97, 112, 32]⟩ : ByteArray)) ++ t393) ++ (⟨#[10]⟩ : ByteArray)) ++ (⟨#[117, 110, 107, 110, 111, 119, 110, 32]⟩ : ByteArray)).size + t394.size ≤ 9223372036854775807) = true := decide_eq_true c89
                    try have c89b2 : (9223372036854775807 < ((((x6_4 ++ (⟨#[115, 119, 97, 112, 32]⟩ : ByteArray)) ++ t393) ++ (⟨#[10]⟩ : ByteArray)) ++ (⟨#[117, 110, 107, 110, 111, 119, 110, 32]⟩ : ByteArray)).size + t394.size) = False := eq_false (Nat.not_lt.2 c89)
                    try have c89b3 : (9223372036854775807 < x6_4.size + 5 + t393.size + 1 + 8 + t394.size) = False := eq_false (by have h_ := c89; simp only [ByteArray.size_append] at h_; have e0_ : (⟨#[115, 119, 97, 112, 32]⟩ : ByteArray).size = 5 := rfl; have e1_ : (⟨#[10]⟩ : ByteArray).size = 1 := rfl; have e2_ : (⟨#[117, 110, 107, 110, 111, 119, 110, 32]⟩ : ByteArray).size = 8 := rfl; omega)
                    by_cases c90 : (((((x6_4 ++ (⟨#[115, 119, 97, 112, 32]⟩ : ByteArray)) ++ t393) ++ (⟨#[10]⟩ : ByteArray)) ++ (⟨#[117, 110, 107, 110, 111, 119, 110, 32]⟩ : ByteArray)) ++ t394).size + 1 ≤ 9223372036854775807
                    ·
                     rw [if_pos c90] at H
                     have c90b0 := eq_true c90; have c90b1 : decide ((((((x6_4 ++ (⟨#[115, 119, 97, 112, 32]⟩ : ByteArray)) ++ t393) ++ (⟨#[10]⟩ : ByteArray)) ++ (⟨#[117, 110, 107, 110, 111, 119, 110, 32]⟩ : ByteArray)) ++ t394).size + 1 ≤ 9223372036854775807) = true := decide_eq_true c90
                     try have c90b2 : (9223372036854775807 < (((((x6_4 ++ (⟨#[115, 119, 97, 112, 32]⟩ : ByteArray)) ++ t393) ++ (⟨#[10]⟩ : ByteArray)) ++ (⟨#[117, 110, 107, 110, 111, 119, 110, 32]⟩ : ByteArray)) ++ t394).size + 1) = False := eq_false (Nat.not_lt.2 c90)
                     try have c90b3 : (9223372036854775807 < x6_4.size + 5 + t393.size + 1 + 8 + t394.size + 1) = False := eq_false (by have h_ := c90; simp only [ByteArray.size_append] at h_; have e0_ : (⟨#[115, 119, 97, 112, 32]⟩ : ByteArray).size = 5 := rfl; have e1_ : (⟨#[10]⟩ : ByteArray).size = 1 := rfl; have e2_ : (⟨#[117, 110, 107, 110, 111, 119, 110, 32]⟩ : ByteArray).size = 8 := rfl; omega)
                     simp only [Option.some.injEq, Prod.mk.injEq] at H
                     obtain ⟨rfl, rfl⟩ := H; have hcz91_0 : wr.cell? ⟨gb372, 0, none⟩ = some (.slice A0_0 l0_0.length c0_0) := (blk_cell BK372.out 0).trans rfl; have hcz91_1 : wr.cell? ⟨gb372, 1, none⟩ = some (.slice A0_1 l0_1.length c0_1) := (blk_cell BK372.out 1).trans rfl; have hcz91_2 : wr.cell? ⟨gb372, 2, none⟩ = some (.slice A0_2 l0_2.length c0_2) := (blk_cell BK372.out 2).trans rfl; have hcz91_3 : wr.cell? ⟨gb372, 3, none⟩ = some (.int .i64 a0_3) := (blk_cell BK372.out 3).trans rfl; have hcz91_4 : wr.cell? ⟨gb372, 4, none⟩ = some (.int .i64 a0_4) := (blk_cell BK372.out 4).trans rfl; have hfz91_0 := blk_frozen BK372.out 0; have hfz91_1 := blk_frozen BK372.out 1; have hfz91_2 := blk_frozen BK372.out 2; have hfz91_3 := blk_frozen BK372.out 3; have hfz91_4 := blk_frozen BK372.out 4
                     go_wp2_with (first | ((with_reducible refine gate_callee (f := 21) rfl ?_); refine goesL_ (some 147) rfl rfl Tryz.func21 (by kernel_rfl) rfl #[.int .i64 a0_3] rfl (by (try simp only [List.map_toArray, List.map_cons, List.map_nil]); first | done | rfl | (simp only [List.length_drop, List.length_take]; rfl)) ?_; (with_reducible refine (emendateref16_Decimal.calls k4 a0_3 t393 _ A80.out).mono ?_); rintro e w92 ⟨rfl, hb⟩; refine ⟨_, rfl, ?_⟩; have n0_ := Aside0.mk (blk_below (g := gb372) (o := .cells #[.slice A0_0 l0_0.length c0_0, .slice A0_1 l0_1.length c0_1, .slice A0_2 l0_2.length c0_2, .int .i64 a0_3, .int .i64 a0_4] 25 (0, 0)) (by (with_reducible repeat (first | refine blk_drewN ?_ _ | refine blk_drew ?_ | refine blk_alloc ?_ _)); exact BK372.out) hb); have n1_ := Aside0.mk (below_step (by repeat (first | (with_reducible first | exact HB.out | apply below_alloc | apply pw_below_drewN | apply below_drew1 | refine below_set ?_ GE372.out) | exact HB.out)) hb); clear BK372; clear HB; have BK372 := n0_; have HB := n1_; clear n0_ n1_; (try clear hb); (try clear hb2); (try clear hk); (try clear hi); have hcz93_0 : w92.cell? ⟨gb372, 0, none⟩ = some (.slice A0_0 l0_0.length c0_0) := (blk_cell BK372.out 0).trans rfl; have hcz93_1 : w92.cell? ⟨gb372, 1, none⟩ = some (.slice A0_1 l0_1.length c0_1) := (blk_cell BK372.out 1).trans rfl; have hcz93_2 : w92.cell? ⟨gb372, 2, none⟩ = some (.slice A0_2 l0_2.length c0_2) := (blk_cell BK372.out 2).trans rfl; have hcz93_3 : w92.cell? ⟨gb372, 3, none⟩ = some (.int .i64 a0_3) := (blk_cell BK372.out 3).trans rfl; have hcz93_4 : w92.cell? ⟨gb372, 4, none⟩ = some (.int .i64 a0_4) := (blk_cell BK372.out 4).trans rfl; have hfz93_0 := blk_frozen BK372.out 0; have hfz93_1 := blk_frozen BK372.out 1; have hfz93_2 := blk_frozen BK372.out 2; have hfz93_3 := blk_frozen BK372.out 3; have hfz93_4 := blk_frozen BK372.out 4) | ((with_reducible refine gate_callee (f := 21) rfl ?_); refine goesL_ (some 157) rfl rfl Tryz.func21 (by kernel_rfl) rfl #[.int .i64 a0_4] rfl (by (try simp only [List.map_toArray, List.map_cons, List.map_nil]); first | done | rfl | (simp only [List.length_drop, List.length_take]; rfl)) ?_; (with_reducible refine (emendateref16_Decimal.calls k4 a0_4 t394 _ A88.out).mono ?_); rintro e w94 ⟨rfl, hb⟩; refine ⟨_, rfl, ?_⟩; have n0_ := Aside0.mk (blk_below (g := gb372) (o := .cells #[.slice A0_0 l0_0.length c0_0, .slice A0_1 l0_1.length c0_1, .slice A0_2 l0_2.length c0_2, .int .i64 a0_3, .int .i64 a0_4] 25 (0, 0)) (by (with_reducible repeat (first | refine blk_drewN ?_ _ | refine blk_drew ?_ | refine blk_alloc ?_ _)); exact BK372.out) hb); have n1_ := Aside0.mk (below_step (by repeat (first | (with_reducible first | exact HB.out | apply below_alloc | apply pw_below_drewN | apply below_drew1 | refine below_set ?_ GE372.out) | exact HB.out)) hb); clear BK372; clear HB; have BK372 := n0_; have HB := n1_; clear n0_ n1_; (try clear hb); (try clear hb2); (try clear hk); (try clear hi)))
                     go_ret2
                     exact ⟨by first | rfl | (simp [errW_none, errW_some] <;> rfl) | (simp [*, errW_none, errW_some] <;> rfl), by repeat (first | (with_reducible first | exact HB.out | apply below_alloc | apply pw_below_drewN | apply below_drew1 | refine below_set ?_ GE372.out) | exact HB.out)⟩
                    ·
                     rw [if_neg c90] at H
                     exact absurd H (by simp)
                   ·
                    rw [if_neg c89] at H
                    exact absurd H (by simp)
                  ·
                   rw [if_neg c87] at H
                   exact absurd H (by simp)
                ·
                 rw [if_neg c82] at H
                 exact absurd H (by simp)
               ·
                rw [if_neg c81] at H
                exact absurd H (by simp)
              ·
               rw [if_neg c79] at H
               exact absurd H (by simp)
end Go.Proofs.YtdcfcpgpbbgceaaGreatDoor.PAll
-- dedented
