-- printed by a variant of the print (wip/mkprint.py)
import Derived.Test.YtdcfcpgpbbgceaaGreatDoorPAllx0
namespace Go.Proofs.YtdcfcpgpbbgceaaGreatDoor.PAll
open Go.RowKit Go.Proofs.YtdcfcpgpbbgceaaGreatDoorW.PrintWords Go.Proofs.YtdcfcpgpbbgceaaGreatDoorW.PrintLast Go.Proofs.YtdcfcpgpbbgceaaGreatDoorW.PrintMore
attribute [local go_sem] max2_int min2_int max_two min_two max_three min_three max_four min_four   -- for this text's walks alone
set_option linter.unusedVariables false
set_option linter.unusedSimpArgs false
def prices_number.isDig (b : UInt8) : Bool := 48 ≤ b && b ≤ 57
def prices_number.numVal (l : List UInt8) : Int := l.foldl (fun (a : Int) b => a * 10 + ((b.toNat : Int) - 48)) 0
def prices_number.numP (s : ByteArray) : Int × Bool := if 1 ≤ s.size ∧ s.size ≤ 9 ∧ s.data.toList.all prices_number.isDig = true then (prices_number.numVal s.data.toList, true) else (0, false)
theorem prices_number.info124 : (Tryz.prog.info? 124).map (fun i => (i.zero, i.size)) = some (some (.agg (Array.replicate 256 (.bool false))), 256) := by kernel_rfl
theorem prices_number.trim_digs (s : ByteArray) (w : World) (hs : s.size ≤ 9) : Calls Tryz.prog 63 #[.string s, .string ⟨#[48, 49, 50, 51, 52, 53, 54, 55, 56, 57]⟩] w fun e w' => e = .returned (.string ⟨(Lib.trimS s.data.toList [48, 49, 50, 51, 52, 53, 54, 55, 56, 57]).toArray⟩) ∧ Below w.heap.size w w' :=
 Any.strings_Trim_laid Tryz.lays160 prices_number.info124 s ⟨#[48, 49, 50, 51, 52, 53, 54, 55, 56, 57]⟩ w (by omega) (by decide) (ascii_of_all (by decide))
theorem prices_number.u8_forall {p : UInt8 → Bool} (h : (List.range 256).all (fun n => p (UInt8.ofNat n)) = true) (b : UInt8) : p b = true := by
 rw [List.all_eq_true] at h
 have := h b.toNat (List.mem_range.2 b.toNat_lt)
 simpa using this
theorem prices_number.mem_tw {p : UInt8 → Bool} : ∀ {l : List UInt8} {b : UInt8}, b ∈ l.takeWhile p → p b = true
 | [], b, h => by cases h
 | a :: l, b, h => by
  rw [List.takeWhile_cons] at h
  split at h
  ·
   rename_i ha
   rcases List.mem_cons.1 h with rfl | h
   ·
    exact ha
   ·
    exact prices_number.mem_tw h
  ·
   cases h
theorem prices_number.dw_nil {p : UInt8 → Bool} : ∀ {l : List UInt8}, (∀ b ∈ l, p b = true) → l.dropWhile p = []
 | [], _ => rfl
 | a :: l, h => by
  rw [List.dropWhile_cons, if_pos (h a (List.mem_cons_self ..))]
  exact prices_number.dw_nil (fun b hb => h b (List.mem_cons_of_mem _ hb))
theorem prices_number.trim_nil (l cs : List UInt8) : Lib.trimS l cs = [] ↔ l.all (cs.contains ·) = true := by
 unfold Lib.trimS Lib.trimLeftS Lib.trimRightS
 constructor
 ·
  intro h
  rw [List.all_eq_true]
  have h1 : ∀ b ∈ (l.reverse.dropWhile (cs.contains ·)).reverse, cs.contains b = true := by
   intro b hb; have := List.takeWhile_append_dropWhile (p := (cs.contains ·)) (l := (l.reverse.dropWhile (cs.contains ·)).reverse)
   rw [h, List.append_nil] at this
   rw [← this] at hb
   exact prices_number.mem_tw hb
  intro b hb; have h2 := List.takeWhile_append_dropWhile (p := (cs.contains ·)) (l := l.reverse); have h3 : b ∈ l.reverse := List.mem_reverse.2 hb
  rw [← h2] at h3
  rcases List.mem_append.1 h3 with h3 | h3
  ·
   exact prices_number.mem_tw h3
  ·
   exact h1 b (List.mem_reverse.2 h3)
 ·
  intro h
  rw [List.all_eq_true] at h
  have h1 : l.reverse.dropWhile (cs.contains ·) = [] := prices_number.dw_nil (fun b hb => h b (List.mem_reverse.1 hb))
  rw [h1]
  rfl
theorem prices_number.dig_mem (b : UInt8) : ([48, 49, 50, 51, 52, 53, 54, 55, 56, 57] : List UInt8).contains b = prices_number.isDig b := by
 exact eq_of_beq (prices_number.u8_forall (p := fun b => ([48, 49, 50, 51, 52, 53, 54, 55, 56, 57] : List UInt8).contains b == prices_number.isDig b) (by decide +kernel) b)
theorem prices_number.trim_dig (l : List UInt8) : Lib.trimS l [48, 49, 50, 51, 52, 53, 54, 55, 56, 57] = [] ↔ l.all prices_number.isDig = true := by
 rw [prices_number.trim_nil]
 have : (fun b => ([48, 49, 50, 51, 52, 53, 54, 55, 56, 57] : List UInt8).contains b) = prices_number.isDig := funext prices_number.dig_mem
 rw [this]
theorem prices_number.dec_val : ∀ (l : List UInt8) (m : Nat), l.all prices_number.isDig = true → ∃ k : Nat, Lib.decFrom m l = some k ∧ (k : Int) = l.foldl (fun (a : Int) b => a * 10 + ((b.toNat : Int) - 48)) m
 | [], m, _ => ⟨m, rfl, rfl⟩
 | b :: r, m, h => by
  simp only [List.all_cons, Bool.and_eq_true] at h
  obtain ⟨hb, hr⟩ := h
  simp only [prices_number.isDig, Bool.and_eq_true, decide_eq_true_eq, UInt8.le_iff_toNat_le] at hb
  have h1 : (48 : UInt8).toNat = 48 := rfl; have h2 : (57 : UInt8).toNat = 57 := rfl
  rw [h1, h2] at hb
  obtain ⟨k, hk, hv⟩ := prices_number.dec_val r (m * 10 + (b.toNat - 48)) hr
  refine ⟨k, ?_, ?_⟩
  ·
   rw [← hk]
   simp only [Lib.decFrom, Lib.digitVal]
   rw [if_pos hb]
  ·
   rw [hv]
   simp only [List.foldl_cons]
   have e : ((m * 10 + (b.toNat - 48) : Nat) : Int) = (m : Int) * 10 + ((b.toNat : Int) - 48) := by omega
   rw [e]
theorem prices_number.atoi_val (l : List UInt8) (h0 : 1 ≤ l.length) (h : l.all prices_number.isDig = true) : Lib.atoi l = some (prices_number.numVal l) := by
 cases l with
 | nil => simp at h0
 | cons b r =>
  obtain ⟨k, hk, hv⟩ := prices_number.dec_val (b :: r) 0 h; have hb : prices_number.isDig b = true := by simp only [List.all_cons, Bool.and_eq_true] at h; exact h.1
  have h45 : (b == 45) = false := by
   have := prices_number.u8_forall (p := fun b => !(prices_number.isDig b) || !(b == 45)) (by decide +kernel) b
   simpa [hb] using this
  have h43 : (b == 43) = false := by
   have := prices_number.u8_forall (p := fun b => !(prices_number.isDig b) || !(b == 43)) (by decide +kernel) b
   simpa [hb] using this
  unfold Lib.atoi
  simp only [h45, h43, Bool.false_eq_true, if_false, Lib.decNat, List.isEmpty_cons]
  rw [hk]
  simp only [Option.map_some, Option.some.injEq]
  rw [hv]
  rfl
set_option maxRecDepth 100000 in
set_option maxHeartbeats 1000000 in
theorem prices_number.number_len (s : ByteArray) (w : World) (hs : s.size < 1 ∨ 9 < s.size) (hm : s.size ≤ 9223372036854775807) : Calls Tryz.prog 46 #[.string s] w fun e w' => e = .returned (.tuple #[.int .i64 0, .bool false]) ∧ Below w.heap.size w w' := by
 rcases hs with hs | hs
 ·
  obtain h0 : s.size = 0 := by omega
  obtain rfl : s = ⟨#[]⟩ := ByteArray.ext (by apply Array.eq_empty_of_size_eq_zero; exact h0)
  clear h0
  go_enter Tryz.func46, Tryz.ntmps46
  go_wp2
  go_ret2
  exact ⟨rfl, Below.refl _ _⟩
 ·
  have h1 : ¬ s.size < 1 := by omega
  go_enter Tryz.func46, Tryz.ntmps46
  go_wp2
  go_ret2
  exact ⟨rfl, Below.refl _ _⟩
set_option maxRecDepth 100000 in
set_option maxHeartbeats 1000000 in
theorem prices_number.number_bad (s : ByteArray) (w : World) (h1 : 1 ≤ s.size) (h9 : s.size ≤ 9) (hd : Lib.trimS s.data.toList [48, 49, 50, 51, 52, 53, 54, 55, 56, 57] ≠ []) : Calls Tryz.prog 46 #[.string s] w fun e w' => e = .returned (.tuple #[.int .i64 0, .bool false]) ∧ Below w.heap.size w w' := by
 have HT := prices_number.trim_digs s w h9
 generalize Lib.trimS s.data.toList [48, 49, 50, 51, 52, 53, 54, 55, 56, 57] = t at hd HT
 have e2 : t.isEmpty = false := by cases t <;> simp_all
 go_enter Tryz.func46, Tryz.ntmps46
 go_wp2_with fail
 refine HT.mono ?_
 rintro e w' ⟨rfl, hb⟩
 go_wp2
 all_goals go_ret2
 all_goals exact ⟨rfl, hb⟩
set_option maxRecDepth 100000 in
set_option maxHeartbeats 1000000 in
theorem prices_number.number_good (s : ByteArray) (v : Int) (w : World) (h1 : 1 ≤ s.size) (h9 : s.size ≤ 9) (hd : Lib.trimS s.data.toList [48, 49, 50, 51, 52, 53, 54, 55, 56, 57] = []) (hv : Lib.atoi s.data.toList = some v) : Calls Tryz.prog 46 #[.string s] w fun e w' => e = .returned (.tuple #[.int .i64 v, .bool true]) ∧ Below w.heap.size w w' := by
 have HT := prices_number.trim_digs s w h9
 rw [hd] at HT
 have HA := Lib.hid hv; clear hd hv
 go_enter Tryz.func46, Tryz.ntmps46
 go_wp2_with fail
 refine HT.mono ?_
 rintro e w' ⟨rfl, hb⟩; have HB := Aside0.mk hb; clear hb
 go_wp2_with fail
 refine (Tryz.strconv_Atoi s v (by omega) HA.out _).mono ?_
 rintro e w2 ⟨rfl, t, rfl⟩
 go_wp2
 go_ret2
 exact ⟨rfl, below_step HB.out (Lib.bytesWorld_below _ _ _)⟩
def prices_number.f (a0 : ByteArray) : Option (Int × Bool) := if a0.size ≤ 4294967280 then some (prices_number.numP a0) else none
theorem prices_number.calls (a0 : ByteArray) (r1 : Int) (r2 : Bool) (w : World) (h : prices_number.f a0 = some (r1, r2)) :
  Calls Tryz.prog 46 #[.string a0] w fun e w' => e = .returned (.tuple #[.int .i64 r1, .bool r2]) ∧ Below w.heap.size w w' := by
 unfold prices_number.f at h
 split at h
 ·
  rename_i hc
  have h := Option.some.inj h
  unfold prices_number.numP at h
  have hsz : a0.size = a0.data.toList.length := Lib.size_eq a0
  by_cases h1 : a0.size < 1 ∨ 9 < a0.size
  rotate_left
  ·
   by_cases hd : a0.data.toList.all prices_number.isDig = true
   rotate_left
   ·
    rw [if_neg (by rintro ⟨_, _, h3⟩; exact hd h3)] at h
    obtain ⟨rfl, rfl⟩ := Prod.mk.inj h
    exact prices_number.number_bad a0 w (by omega) (by omega) (fun h3 => hd ((prices_number.trim_dig _).1 h3))
   rw [if_pos ⟨by omega, by omega, hd⟩] at h
   obtain ⟨rfl, rfl⟩ := Prod.mk.inj h
   exact prices_number.number_good a0 _ w (by omega) (by omega) ((prices_number.trim_dig _).2 hd) (prices_number.atoi_val _ (by omega) hd)
  rw [if_neg (by omega)] at h
  obtain ⟨rfl, rfl⟩ := Prod.mk.inj h
  exact prices_number.number_len a0 w h1 (by omega)
 ·
  cases h
theorem prices_form.ins_new {P : Program} {mty kt et : TypeId} (hm : P.underlying mty = some (.map kt et)) (hk : P.underlying kt = some .string) {W : World} {r clock : Nat} {es : Array MapEntry} (s : ByteArray) (val : Value)
  (hb : W.heap[r]? = some (.map es clock)) (hf : Instr.findNow .string (.string s) es.toList 0 = some none) {w : World} {B : Nat} (hB : B ≤ r) (hw : Below B w W) :
  ∃ W', (Instr.mapUpdate mty (.map (some r)) (.string s) val).run P W = .ok () W' ∧ W'.heap[r]? = some (.map (es.push { key := .string s, val := val, born := clock }) (clock + 1)) ∧ Below B w W' := by
 have hc : (Instr.checkKey false 10000 kt (.string s)).run P W = .ok () W := MapKept.run_checkKey (k := .string s) hk (by simp [MapKept.IsKey]) false 9999
 have hs := MapKept.heap_set (o' := .map (es.push { key := .string s, val := val, born := clock }) (clock + 1)) hb
 refine ⟨{ W with heap := W.heap.setIfInBounds r (.map (es.push { key := .string s, val := val, born := clock }) (clock + 1)) }, ?_, hs.1, ⟨hw.os, hw.tape, hw.output, by simpa using hw.size, fun i hi => ?_⟩⟩
 ·
  simp [Instr.mapUpdate, run_underlying hm, MapKept.run_getObj_map hb, hc, MapKept.run_findKey hk hf, MapKept.run_setObj_map _ hb, Result.andThen]
 ·
  exact (hs.2 i (by omega)).trans (hw.block i hi)
theorem prices_form.look_at {P : Program} {mty kt et : TypeId} (hm : P.underlying mty = some (.map kt et)) (hk : P.underlying kt = some .string) {W : World} {r clock : Nat} {es : Array MapEntry} (s : ByteArray)
  (hz : ∀ w, (zeroValue et).run P w = .ok (.int .i64 0) w) (hb : W.heap[r]? = some (.map es clock)) (z : Int)
  (hf : Instr.findNow .string (.string s) es.toList 0 = some none ∧ z = 0 ∨ ∃ i, Instr.findNow .string (.string s) es.toList 0 = some (some (i, .int .i64 z))) :
  (Instr.lookup mty (.map (some r)) (.string s) false).run P W = .ok (.int .i64 z) W := by
 have hc : (Instr.checkKey es.isEmpty 10000 kt (.string s)).run P W = .ok () W := MapKept.run_checkKey (k := .string s) hk (by simp [MapKept.IsKey]) _ 9999
 rcases hf with ⟨hf, rfl⟩ | ⟨i, hf⟩
 ·
  simp [Instr.lookup, run_underlying hm, MapKept.run_getObj_map hb, hc, MapKept.run_findKey hk hf, hz, Result.andThen]
 ·
  simp [Instr.lookup, run_underlying hm, MapKept.run_getObj_map hb, hc, MapKept.run_findKey hk hf, Result.andThen]
theorem prices_form.zero3 (w : World) : (zeroValue 3).run Tryz.prog w = .ok (.int .i64 0) w := by kernel_rfl
def prices_form.kIns : ByteArray := ⟨#[105, 110, 115, 101, 114, 116]⟩
def prices_form.kDel : ByteArray := ⟨#[100, 101, 108, 101, 116, 101]⟩
def prices_form.kRep : ByteArray := ⟨#[114, 101, 112, 108, 97, 99, 101]⟩
def prices_form.kSwap : ByteArray := ⟨#[115, 119, 97, 112]⟩
def prices_form.kUnk : ByteArray := ⟨#[117, 110, 107, 110, 111, 119, 110]⟩
def prices_form.kNever : ByteArray := ⟨#[110, 101, 118, 101, 114]⟩
def prices_form.sizeK (s : ByteArray) : Int := if s = prices_form.kIns then 3 else if s = prices_form.kDel then 3 else if s = prices_form.kRep then 4 else if s = prices_form.kSwap then 2 else if s = prices_form.kUnk then 2 else 0
theorem prices_form.ba_eq {a b : ByteArray} (h : (a == b) = true) : a = b := by
 obtain ⟨a⟩ := a; obtain ⟨b⟩ := b; have : (a == b) = true := h
 rw [eq_of_beq this]
theorem prices_form.ba_refl (a : ByteArray) : (a == a) = true := by
 obtain ⟨a⟩ := a
 show (a == a) = true
 simp
theorem prices_form.beq_false {a b : ByteArray} (h : a ≠ b) : (a == b) = false := by
 cases h' : (a == b) with
 | false => rfl
 | true => exact absurd (prices_form.ba_eq h') h
theorem prices_form.map5 (w : World) (s : ByteArray) : ∃ W1 W2 W3 W4 W5, (Instr.mapUpdate 88 (.map (some w.heap.size)) (.string ⟨#[105, 110, 115, 101, 114, 116]⟩) (.int .i64 3)).run Tryz.prog (w.alloc (.map #[] 0)) = .ok () W1 ∧
  (Instr.mapUpdate 88 (.map (some w.heap.size)) (.string ⟨#[100, 101, 108, 101, 116, 101]⟩) (.int .i64 3)).run Tryz.prog W1 = .ok () W2 ∧
  (Instr.mapUpdate 88 (.map (some w.heap.size)) (.string ⟨#[114, 101, 112, 108, 97, 99, 101]⟩) (.int .i64 4)).run Tryz.prog W2 = .ok () W3 ∧
  (Instr.mapUpdate 88 (.map (some w.heap.size)) (.string ⟨#[115, 119, 97, 112]⟩) (.int .i64 2)).run Tryz.prog W3 = .ok () W4 ∧
  (Instr.mapUpdate 88 (.map (some w.heap.size)) (.string ⟨#[117, 110, 107, 110, 111, 119, 110]⟩) (.int .i64 2)).run Tryz.prog W4 = .ok () W5 ∧
  (Instr.lookup 88 (.map (some w.heap.size)) (.string s) false).run Tryz.prog W5 = .ok (.int .i64 (prices_form.sizeK s)) W5 ∧ Below w.heap.size w W5 := by
 have h0 : (w.alloc (.map #[] 0)).heap[w.heap.size]? = some (.map #[] 0) := blk_new w _; have b0 : Below w.heap.size w (w.alloc (.map #[] 0)) := below_alloc (Below.refl _ _) _; obtain ⟨W1, e1, h1, b1⟩ := prices_form.ins_new Tryz.underlying88 Tryz.underlying9 prices_form.kIns (.int .i64 3) h0 rfl (Nat.le_refl _) b0; obtain ⟨W2, e2, h2, b2⟩ := prices_form.ins_new Tryz.underlying88 Tryz.underlying9 prices_form.kDel (.int .i64 3) h1 (by kernel_rfl) (Nat.le_refl _) b1
 obtain ⟨W3, e3, h3, b3⟩ := prices_form.ins_new Tryz.underlying88 Tryz.underlying9 prices_form.kRep (.int .i64 4) h2 (by kernel_rfl) (Nat.le_refl _) b2
 obtain ⟨W4, e4, h4, b4⟩ := prices_form.ins_new Tryz.underlying88 Tryz.underlying9 prices_form.kSwap (.int .i64 2) h3 (by kernel_rfl) (Nat.le_refl _) b3
 obtain ⟨W5, e5, h5, b5⟩ := prices_form.ins_new Tryz.underlying88 Tryz.underlying9 prices_form.kUnk (.int .i64 2) h4 (by kernel_rfl) (Nat.le_refl _) b4
 refine ⟨W1, W2, W3, W4, W5, e1, e2, e3, e4, e5, prices_form.look_at Tryz.underlying88 Tryz.underlying9 s prices_form.zero3 h5 _ ?_, b5⟩
 unfold prices_form.sizeK
 by_cases c1 : s = prices_form.kIns
 ·
  subst c1; exact .inr ⟨0, by simp [Instr.findNow, Instr.sameNow, prices_form.ba_refl]⟩
 by_cases c2 : s = prices_form.kDel
 ·
  subst c2; rw [if_neg c1, if_pos rfl]; exact .inr ⟨1, by simp [Instr.findNow, Instr.sameNow, prices_form.ba_refl, prices_form.beq_false c1]⟩
 by_cases c3 : s = prices_form.kRep
 ·
  subst c3; rw [if_neg c1, if_neg c2, if_pos rfl]; exact .inr ⟨2, by simp [Instr.findNow, Instr.sameNow, prices_form.ba_refl, prices_form.beq_false c1, prices_form.beq_false c2]⟩
 by_cases c4 : s = prices_form.kSwap
 ·
  subst c4; rw [if_neg c1, if_neg c2, if_neg c3, if_pos rfl]; exact .inr ⟨3, by simp [Instr.findNow, Instr.sameNow, prices_form.ba_refl, prices_form.beq_false c1, prices_form.beq_false c2, prices_form.beq_false c3]⟩
 by_cases c5 : s = prices_form.kUnk
 ·
  subst c5; rw [if_neg c1, if_neg c2, if_neg c3, if_neg c4, if_pos rfl]; exact .inr ⟨4, by simp [Instr.findNow, Instr.sameNow, prices_form.ba_refl, prices_form.beq_false c1, prices_form.beq_false c2, prices_form.beq_false c3, prices_form.beq_false c4]⟩
 rw [if_neg c1, if_neg c2, if_neg c3, if_neg c4, if_neg c5]
 exact .inl ⟨by simp [Instr.findNow, Instr.sameNow, prices_form.ba_refl, prices_form.beq_false c1, prices_form.beq_false c2, prices_form.beq_false c3, prices_form.beq_false c4, prices_form.beq_false c5], rfl⟩
def prices_form.formP (s0 sl : ByteArray) (n : Int) : Bool := decide (prices_form.sizeK s0 = n) && ((prices_number.numP sl).2 || (decide (s0 = prices_form.kRep) && decide (sl = prices_form.kNever)))
theorem prices_form.num_calls (s : ByteArray) (w : World) (hs : s.size ≤ 4294967280) : Calls Tryz.prog 46 #[.string s] w fun e w' => e = .returned (.tuple #[.int .i64 (prices_number.numP s).1, .bool (prices_number.numP s).2]) ∧ Below w.heap.size w w' :=
 prices_number.calls s _ _ w (by unfold prices_number.f; rw [if_pos hs])
set_option maxRecDepth 100000 in
set_option maxHeartbeats 1000000 in
theorem prices_form.form_no (A : Addr) (c n : Nat) (s0 : ByteArray) (w : World) (hn : 1 ≤ n) (hm : n ≤ 9223372036854775807) (h0 : w.cell? A = some (.string s0)) (hk : prices_form.sizeK s0 ≠ n) : Calls Tryz.prog 29 #[.slice (some A) n c] w fun e w' => e = .returned (.bool false) ∧ Below w.heap.size w w' := by
 obtain ⟨W1, W2, W3, W4, W5, e1, e2, e3, e4, e5, eL, hB⟩ := prices_form.map5 w s0; have hmm := @run_makeMap Tryz.prog; have h05 : W5.cell? A = some (.string s0) := pw_cell_below hB h0; have HB := Aside0.mk hB; have hne : (prices_form.sizeK s0 == (n : Int)) = false := beq_eq_false_iff_ne.2 hk; have hne2 : (prices_form.sizeK s0 != (n : Int)) = true := bne_iff_ne.2 hk; clear hB h0 hk
 generalize prices_form.sizeK s0 = z at *
 go_enter Tryz.func29, Tryz.ntmps29
 go_wp2
 go_ret
 exact ⟨rfl, HB.out⟩
theorem prices_form.ba_iff (s : ByteArray) (l : List UInt8) : s = ⟨l.toArray⟩ ↔ s.toList = l := by
 rw [Lib.toList_data]
 constructor
 ·
  intro h; rw [h]
 ·
  intro h; exact ByteArray.ext (by rw [← h])
theorem prices_form.add_pos (A : Addr) (j : Nat) (h : 0 < j) : A.add j = ⟨A.block, A.off + j, none⟩ := by
 unfold Addr.add
 rw [if_neg (by omega)]
set_option maxRecDepth 100000 in
set_option maxHeartbeats 1000000 in
theorem prices_form.form_yes (A : Addr) (c n : Nat) (s0 sl : ByteArray) (w : World) (hn : n = 2 ∨ n = 3 ∨ n = 4) (h0 : w.cell? A = some (.string s0)) (hl : w.cell? ⟨A.block, A.off + (n - 1), none⟩ = some (.string sl)) (hs : sl.size ≤ 4294967280) (hk : prices_form.sizeK s0 = n) :
  Calls Tryz.prog 29 #[.slice (some A) n c] w fun e w' => e = .returned (.bool (prices_form.formP s0 sl n)) ∧ Below w.heap.size w w' := by
 obtain ⟨W1, W2, W3, W4, W5, e1, e2, e3, e4, e5, eL, hB⟩ := prices_form.map5 w s0; have hmm := @run_makeMap Tryz.prog; have h05 : W5.cell? A = some (.string s0) := pw_cell_below hB h0; have hl5 : W5.cell? ⟨A.block, A.off + (n - 1), none⟩ = some (.string sl) := pw_cell_below hB hl; have HB := Aside0.mk hB
 rw [hk] at eL
 have HF := Aside0.mk (show prices_form.formP s0 sl n = ((prices_number.numP sl).2 || (decide (s0 = prices_form.kRep) && decide (sl = prices_form.kNever))) by unfold prices_form.formP; rw [hk]; simp)
 have HN := Aside0.mk (fun W => prices_form.num_calls sl W hs)
 clear hB h0 hk hl
 generalize hq : prices_number.numP sl = q at *
 obtain ⟨v, ok⟩ := q; clear hq; rcases hn with rfl | rfl | rfl
 all_goals
  have h05' := Aside0.mk h05
  go_enter Tryz.func29, Tryz.ntmps29
  go_wp2_with fail
  refine (HN.out _).mono ?_
  rintro e w2 ⟨rfl, hb2⟩; have h06 : w2.cell? A = some (.string s0) := pw_cell_below hb2 h05'.out; have HB2 := Aside0.mk (below_step HB.out hb2); clear hb2 h05
  go_wp2
  all_goals go_ret
  ·
   refine ⟨?_, HB2.out⟩
   rw [HF.out]
   simp_all
  ·
   refine ⟨?_, HB2.out⟩
   rw [HF.out]
   have h9 : s0 = prices_form.kRep := (prices_form.ba_iff s0 [114, 101, 112, 108, 97, 99, 101]).2 (by assumption)
   have h8 : ok = false := by simp_all
   have h7 : (sl.toList == [110, 101, 118, 101, 114]) = decide (sl = prices_form.kNever) := by
    rw [Bool.eq_iff_iff, beq_iff_eq, decide_eq_true_eq]
    exact (prices_form.ba_iff sl [110, 101, 118, 101, 114]).symm
   rw [h7]
   simp [h8, h9]
  ·
   refine ⟨?_, HB2.out⟩
   rw [HF.out]
   have h9 : ¬ s0 = prices_form.kRep := fun h => (by assumption : ¬ s0.toList = [114, 101, 112, 108, 97, 99, 101]) ((prices_form.ba_iff s0 [114, 101, 112, 108, 97, 99, 101]).1 h)
   have h8 : ok = false := by simp_all
   simp [h8, h9]
theorem prices_form.cells {w : World} {A : Option Addr} {l : List ByteArray} (h : Kd.C Kd.string w A l.length l) (hl : 1 ≤ l.length) :
  ∃ ad, A = some ad ∧ ∀ j, j < l.length → w.cell? (ad.add j) = some (.string (l.getD j ByteArray.empty)) := by
 obtain ⟨ad, e, hc⟩ := h.2.2 (by omega)
 refine ⟨ad, e, fun j hj => ?_⟩
 obtain ⟨c, _, hk, hcell⟩ := hc j (l.getD j ByteArray.empty) (by rw [List.getD_eq_getElem?_getD, List.getElem?_eq_getElem hj]; rfl)
 have hk' : c = [.string (l.getD j ByteArray.empty)] := hk; have h1 := hcell 0 (.string (l.getD j ByteArray.empty)) (by rw [hk']; rfl)
 have e1 : Kd.string.sz = 1 := rfl
 rw [e1, Nat.mul_one, Nat.add_zero] at h1
 exact h1
def prices_form.f (l0 : List ByteArray) : Option Bool := if 1 ≤ l0.length ∧ l0.length ≤ 1099511627776 ∧ l0.all (fun s => decide (s.size ≤ 4294967280)) = true then some (prices_form.formP (l0.getD 0 ByteArray.empty) (l0.getD (l0.length - 1) ByteArray.empty) l0.length) else none
theorem prices_form.calls (A0 : Option Addr) (c0 : Nat) (l0 : List ByteArray) (r : Bool) (w : World) (hr0 : Kd.C Kd.string w A0 l0.length l0) (hc0 : l0.length ≤ c0) (h : prices_form.f l0 = some r) :
  Calls Tryz.prog 29 #[.slice A0 l0.length c0] w fun e w' => e = .returned (.bool r) ∧ Below w.heap.size w w' := by
 unfold prices_form.f at h
 split at h
 ·
  rename_i hc
  obtain ⟨h1, h2, h3⟩ := hc; obtain rfl := Option.some.inj h; obtain ⟨ad, rfl, hcell⟩ := prices_form.cells hr0 h1; have x0 := hcell 0 (by omega)
  have e0 : ad.add 0 = ad := by simp [Addr.add]
  rw [e0] at x0
  by_cases hk : prices_form.sizeK (l0.getD 0 ByteArray.empty) = l0.length
  rotate_left
  ·
   have e1 : prices_form.formP (l0.getD 0 ByteArray.empty) (l0.getD (l0.length - 1) ByteArray.empty) l0.length = false := by
    unfold prices_form.formP
    rw [decide_eq_false hk]
    rfl
   rw [e1]
   exact prices_form.form_no ad c0 l0.length _ w h1 (by omega) x0 hk
  have hn : l0.length = 2 ∨ l0.length = 3 ∨ l0.length = 4 := by
   unfold prices_form.sizeK at hk
   repeat' split at hk
   all_goals omega
  have x1 := hcell (l0.length - 1) (by omega)
  rw [prices_form.add_pos _ _ (by omega)] at x1
  have hs : (l0.getD (l0.length - 1) ByteArray.empty).size ≤ 4294967280 := by
   rw [List.all_eq_true] at h3
   have hj : l0.length - 1 < l0.length := by omega
   rw [List.getD_eq_getElem?_getD, List.getElem?_eq_getElem hj]
   exact of_decide_eq_true (h3 _ (List.getElem_mem hj))
  exact prices_form.form_yes ad c0 l0.length _ _ w hn x0 x1 hs hk
 ·
  cases h
end Go.Proofs.YtdcfcpgpbbgceaaGreatDoor.PAll
-- dedented
