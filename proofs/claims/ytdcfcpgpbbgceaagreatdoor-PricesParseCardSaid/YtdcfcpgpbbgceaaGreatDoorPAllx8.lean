-- printed by a variant of the print (wip/mkprint.py)
import Derived.Test.YtdcfcpgpbbgceaaGreatDoorPAllx0
import Derived.Test.YtdcfcpgpbbgceaaGreatDoorPAllx1
import Derived.Test.YtdcfcpgpbbgceaaGreatDoorPAllx2
import Derived.Test.YtdcfcpgpbbgceaaGreatDoorPAllx3
import Derived.Test.YtdcfcpgpbbgceaaGreatDoorPAllx5
import Derived.Test.YtdcfcpgpbbgceaaGreatDoorPAllx7
namespace Go.Proofs.YtdcfcpgpbbgceaaGreatDoor.PAll
open Go.RowKit Go.Proofs.YtdcfcpgpbbgceaaGreatDoorW.PrintWords Go.Proofs.YtdcfcpgpbbgceaaGreatDoorW.PrintLast Go.Proofs.YtdcfcpgpbbgceaaGreatDoorW.PrintMore
attribute [local go_sem] max2_int min2_int max_two min_two max_three min_three max_four min_four   -- for this text's walks alone
set_option linter.unusedVariables false
set_option linter.unusedSimpArgs false
section
open Kd
theorem prices_Format.lays166 : Go.Proofs.Lays.n166 Tryz.prog Tryz.lays156_ren := {
 mixed := Tryz.lays156.mixed
 f166 := Tryz.lays156.f166
 f240 := Tryz.lays156.f240
 f276 := Tryz.lays156.f276
 t0 := Tryz.lays156.t0
 a0 := Tryz.lays156.a0
 z0 := Tryz.lays156.z0
 v0 := Tryz.lays156.v0
 t3 := Tryz.lays156.t3
 a3 := Tryz.lays156.a3
 z3 := Tryz.lays156.z3
 v3 := Tryz.lays156.v3
 t4 := Tryz.lays156.t4
 a4 := Tryz.lays156.a4
 z4 := Tryz.lays156.z4
 v4 := Tryz.lays156.v4
 t9 := Tryz.lays156.t9
 a9 := Tryz.lays156.a9
 z9 := Tryz.lays156.z9
 v9 := Tryz.lays156.v9
 t20 := Tryz.lays156.t20
 a20 := Tryz.lays156.a20
 z20 := Tryz.lays156.z20
 v20 := Tryz.lays156.v20
 t37 := Tryz.lays156.t37
 a37 := Tryz.lays156.a37
 z37 := Tryz.lays156.z37
 v37 := Tryz.lays156.v37
 t70 := Tryz.lays156.t70
 a70 := Tryz.lays156.a70
 z70 := Tryz.lays156.z70
 v70 := Tryz.lays156.v70
 t72 := Tryz.lays156.t72
 a72 := Tryz.lays156.a72
 z72 := Tryz.lays156.z72
 v72 := Tryz.lays156.v72
 t75 := Tryz.lays156.t75
 a75 := Tryz.lays156.a75
 z75 := Tryz.lays156.z75
 v75 := Tryz.lays156.v75
 t164 := Tryz.lays156.t164
 a164 := Tryz.lays156.a164
 z164 := Tryz.lays156.z164
 v164 := Tryz.lays156.v164 }
open Go.RowKit in
theorem prices_Format.wstr (B b : Nat) (bs : List Value) (s : ByteArray) (w : World) (h : Lib.IsBuilder 58 5 B b bs w) (hlen : bs.length + s.size ≤ 140737488355328) (hBw : B ≤ w.heap.size) :
  Calls Tryz.prog 36 #[.pointer (some ⟨b, 0, none⟩), .string s] w fun e w' => e = .returned (.tuple #[.int .i64 s.size, .nilIface]) ∧ (Lib.BuilderAt 58 5 B b (.pointer (some ⟨b, 0, none⟩)) (bs ++ Lib.strCells s) w' ∧ Below B w w') := Any.Builder_WriteString prices_Format.lays166 Tryz.Builder_Extra_156 B b bs s w h hlen hBw
def prices_Format.lastB (n : Int) : ByteArray := if n < 0 then ⟨#[110, 101, 118, 101, 114]⟩ else ⟨(Lib.itoa n).toArray⟩
def prices_Format.lineB (ws : List ByteArray) (n : Int) : List UInt8 := Lib.join ((ws ++ [prices_Format.lastB n]).map (·.data.toList)) [32] ++ [10]
def prices_Format.lineL (n usual : Int) (ws : List ByteArray) : List UInt8 := if n = usual then [] else prices_Format.lineB ws n
theorem prices_Format.bytes_app (l : List UInt8) (s : ByteArray) : Lib.byteCells l ++ Lib.strCells s = Lib.byteCells (l ++ s.data.toList) := by simp [Lib.byteCells, Lib.strCells]
theorem prices_Format.isB_below {B b : Nat} {bs : List Value} {w w1 : World} (h : Lib.IsBuilder 58 5 B b bs w) (hb : Below w.heap.size w w1) : Lib.IsBuilder 58 5 B b bs w1 := by
 rcases h with h | h
 all_goals
  obtain ⟨h1, v, h2, h3, h4⟩ := h
 ·
  exact Or.inl ⟨h1, v, (hb.block b (blk_lt h2)).trans h2, own_move h3 (fun k hk => hb.block k (own_lt h3 k hk)), h4⟩
 ·
  exact Or.inr ⟨h1, v, (hb.block b (blk_lt h2)).trans h2, own_move h3 (fun k hk => hb.block k (own_lt h3 k hk)), h4⟩
theorem prices_Format.drawnB_own {w w1 : World} {base : Nat} {e : TypeId} {size n : Nat} {v : Value} {xs : List Value} (h : w.ownsRow base e size v n xs) (hd : Below w.heap.size w w1) : w1.ownsRow base e size v n xs := own_move h (fun k hk => hd.block k (own_lt h k hk))
theorem prices_Format.isB_grown {B b : Nat} {bs : List Value} {w w1 : World} {base n : Nat} {v : Value} {xs : List Value} (h : Lib.IsBuilder 58 5 B b bs w) (ho : w.ownsRow base 9 1 v n xs) (hg : w.grownBy w1 v.ownBlock) : Lib.IsBuilder 58 5 B b bs w1 := by
 have hty : ∀ (k : Nat) (cs : Array Value) (t : Nat), w.heap[k]? = some (.cells cs t (0, 0)) → t ≠ 9 → some k ≠ v.ownBlock := by
  intro k cs t hk ht he; obtain ⟨cells, hc⟩ := own_typed ho k he.symm
  rw [hk] at hc
  injection hc with hc
  injection hc with _ hc
  exact ht hc
 have main : ∀ p, Lib.BuilderAt 58 5 B b p bs w → Lib.BuilderAt 58 5 B b p bs w1 := by
  rintro p ⟨h1, v2, h2, h3, h4⟩
  refine ⟨h1, v2, (hg.block b (blk_lt h2) (hty b _ _ h2 (by decide))).trans h2, own_move h3 (fun k hk => ?_), h4⟩
  obtain ⟨cells, hc⟩ := own_typed h3 k hk
  exact hg.block k (own_lt h3 k hk) (hty k _ _ hc (by decide))
 rcases h with h | h
 ·
  exact Or.inl (main _ h)
 ·
  exact Or.inr (main _ h)
theorem prices_Format.join_cells {w : World} {b m : Nat} {v : Value} {ws : List ByteArray} {s : ByteArray} (h : w.ownsRow b 9 1 v (m + 1) (ws.map Value.string ++ [.string s])) (hm : ws.length = m) :
  ∃ jg jc, v = .slice (some ⟨jg, 0, none⟩) (m + 1) jc ∧ m + 1 ≤ jc ∧ jg < w.heap.size ∧ ∀ (j : Nat) x, (ws ++ [s])[j]? = some x → w.cell? ⟨jg, 0 + j, none⟩ = some (.string x) := by
 rcases h.2 with ⟨hv, h0⟩ | ⟨g, cap, cur, rfl, hb, hh, hnc, _⟩
 ·
  omega
 ·
  refine ⟨g, cap, rfl, hnc, blk_lt hh, fun j x hx => ?_⟩
  have := h.cells (g := g) rfl j (.string x) (by rw [show ws.map Value.string ++ [.string s] = (ws ++ [s]).map Value.string by simp, List.getElem?_map, hx]; rfl)
  rw [add_plain] at this
  rw [Nat.zero_add]
  exact this
theorem prices_Format.info9a : (Tryz.prog.info? 9).map (fun i => (i.zero, i.size, i.bytes)) = some (some (.string ⟨#[]⟩), 1, 16) := by kernel_rfl
set_option maxRecDepth 100000 in
set_option maxHeartbeats 2000000 in
theorem prices_Format.line_calls (n usual : Int) (ad : Addr) (m c b : Nat) (ws : List ByteArray) (l : List UInt8) (w : World) (hG : Glob w) (hm : ws.length = m) (hm3 : m ≤ 3) (hmc : m ≤ c)
  (hown : w.ownsRow b 9 1 (.slice (some ad) m c) m (ws.map Value.string)) (hB : Lib.IsBuilder 58 5 b b (Lib.byteCells l) w) (hbw : b ≤ w.heap.size)
  (hn0 : -1 ≤ n) (hn1 : n ≤ 1000) (hlen : l.length + (prices_Format.lineB ws n).length ≤ 140737488355328) :
  Calls Tryz.prog 34 #[.int .i64 n, .int .i64 usual, .slice (some ad) m c, .pointer (some ⟨b, 0, none⟩)] w fun e w' => e = .returned (.tuple #[]) ∧ Lib.IsBuilder 58 5 b b (Lib.byteCells (l ++ prices_Format.lineL n usual ws)) w' ∧ Below b w w' := by
 have HG := Aside0.mk hG; have HO := Aside0.mk hown; have HBD := Aside0.mk hB; have HLEN := Aside0.mk hlen; have HM := Aside0.mk hm; have HBW := Aside0.mk hbw; clear hG hown hB hlen hm hbw
 by_cases hu : n = usual
 rotate_left
 ·
  have HL := Aside0.mk (show prices_Format.lineL n usual ws = prices_Format.lineB ws n by unfold prices_Format.lineL; rw [if_neg hu])
  obtain ⟨i9, hi9, hz1, hz2, hz3⟩ := info_parts prices_Format.info9a
  go_enter Tryz.func34, Tryz.ntmps34
  go_wp2_with fail
  refine (Tryz.strconv_Itoa n (by omega) (by omega) w HG.out.2).mono ?_
  rintro e w1 ⟨rfl, k, os, rfl⟩; have HB1 := Aside0.mk (Lib.below_grow w.heap.size w (Nat.le_refl _) k os)
  generalize hw1 : Go.Sort.grow (w.drewN k) os = w1 at HB1 ⊢
  have HO1 := Aside0.mk (prices_Format.drawnB_own HO.out HB1.out); have HD1 := Aside0.mk (prices_Format.isB_below HBD.out HB1.out); have HBW1 := Aside0.mk (show b ≤ w1.heap.size by have := HB1.out.size; have := HBW.out; omega)
  clear hw1; have fin : ∀ lst : ByteArray, lst = prices_Format.lastB n → True := fun _ _ => trivial
  obtain ⟨lst, hlst⟩ : ∃ lst, lst = prices_Format.lastB n := ⟨_, rfl⟩
  have HLST := Aside0.mk hlst; have HJL := Aside0.mk (show (Lib.join ((ws ++ [lst]).map (·.data.toList)) (⟨#[32]⟩ : ByteArray).data.toList).length ≤ 140737488355328 by
   have := HLEN.out
   unfold prices_Format.lineB at this
   rw [← hlst, List.length_append] at this
   exact Nat.le_trans (Nat.le_add_left _ l.length) (Nat.le_trans (by rw [← Nat.add_assoc]; exact Nat.le_add_right _ _) this))
  obtain ⟨js, hjs⟩ : ∃ js : ByteArray, (⟨(Lib.join ((ws ++ [lst]).map (·.data.toList)) (⟨#[32]⟩ : ByteArray).data.toList).toArray⟩ : ByteArray) = js := ⟨_, rfl⟩
  have HJS := Aside0.mk hjs; have HLD := Aside0.mk (show (js ++ (⟨#[10]⟩ : ByteArray)).data.toList = prices_Format.lineB ws n by
   rw [ByteArray.data_append, ← hjs]
   unfold prices_Format.lineB
   rw [← hlst, Array.toList_append])
  have HLN := Aside0.mk (show (js ++ (⟨#[10]⟩ : ByteArray)).size = (prices_Format.lineB ws n).length by
   rw [← HLD.out]; rfl)
  have HLB := Aside0.mk (show (Lib.byteCells l).length + (js ++ (⟨#[10]⟩ : ByteArray)).size ≤ 140737488355328 by
   rw [HLN.out]
   have := HLEN.out
   unfold Lib.byteCells
   rw [List.length_map]
   exact this)
  have hjz : js.size ≤ 140737488355328 := by
   have := HJL.out
   rw [← hjs]
   exact this
  clear hjs
  by_cases hneg : n < 0
  rotate_left
  ·
   have hl2 : lst = ⟨(Lib.itoa n).toArray⟩ := by rw [hlst]; unfold prices_Format.lastB; rw [if_neg hneg]
   clear hlst fin
   go_wp2_with (at_builtin; refine wpList_append_own _ rfl (.tmp 15) (.tmp 17) 31 rfl b 9 i9 (.string ⟨#[]⟩) 1 16 Tryz.underlying31 hi9 hz1 hz2 hz3 rfl (by decide) _ _ _ rfl (HO1.out.alloc _) ⟨w1.heap.size, 0, none⟩ 1 1 [.string lst] rfl rfl ?c1 ?c2 ?c3 ?c4 ?c5 ?_; (case c1 => (rw [hl2]; exact cell_one_new _ _ _)); (case c2 => simp [Value.oneCell']); (case c3 => (unfold maxLen; omega)); (case c4 => omega); (case c5 => exact Nat.le_trans HBW1.out (below_size (below_alloc (Below.refl w1.heap.size w1) _))); intro v' w2 hown2 hgrow _; have HO2 := Aside0.mk hown2; have HB2 := Aside0.mk (((HB1.out.mono HBW.out).alloc HBW1.out _).grown hgrow (Nat.le_trans HBW1.out (below_size (below_alloc (Below.refl w1.heap.size w1) _))) (own_base HO1.out)); have HD2 := Aside0.mk (prices_Format.isB_grown (prices_Format.isB_below HD1.out (below_alloc (Below.refl w1.heap.size w1) _)) (HO1.out.alloc _) hgrow); clear hown2 hgrow; obtain ⟨jg, jc, rfl, hjc, hjb, hjcells⟩ := prices_Format.join_cells HO2.out HM.out)
   have key := Tryz.strings_Join jg 0 jc (ws ++ [lst]) ⟨#[32]⟩ w2 hjcells hjb (by simp [HM.out]; omega) (by simp [HM.out]; exact hjc) HJL.out
   rw [show (ws ++ [lst]).length = m + 1 by simp [HM.out], HJS.out] at key
   refine key.mono ?_
   clear key; rintro e w3 ⟨rfl, hb3⟩; have HB3 := Aside0.mk (HB2.out.trans (hb3.mono (Nat.le_trans HBW.out HB2.out.size))); have HD3 := Aside0.mk (prices_Format.isB_below HD2.out hb3); have HBW3 := Aside0.mk (show b ≤ w3.heap.size from Nat.le_trans HBW.out HB3.out.size)
   clear hb3 hjcells
   go_wp2_with fail
   refine (prices_Format.wstr b b (Lib.byteCells l) (js ++ (⟨#[10]⟩ : ByteArray)) w3 HD3.out HLB.out HBW3.out).mono ?_
   rintro e w4 ⟨rfl, hd4, hb4⟩; have HB4 := Aside0.mk (HB3.out.trans hb4); have HD4 := Aside0.mk hd4; clear hd4 hb4
   go_wp2
   refine bodyPost_end (results_none rfl _ _ _) rfl ?_
   refine ⟨rfl, ?_, HB4.out⟩
   have h5 := HD4.out
   rw [prices_Format.bytes_app, HLD.out] at h5
   rw [HL.out]
   exact Or.inr h5
  have hl2 : lst = ⟨#[110, 101, 118, 101, 114]⟩ := by rw [hlst]; unfold prices_Format.lastB; rw [if_pos hneg]
  clear hlst fin
  go_wp2_with (at_builtin; refine wpList_append_own _ rfl (.tmp 15) (.tmp 17) 31 rfl b 9 i9 (.string ⟨#[]⟩) 1 16 Tryz.underlying31 hi9 hz1 hz2 hz3 rfl (by decide) _ _ _ rfl (HO1.out.alloc _) ⟨w1.heap.size, 0, none⟩ 1 1 [.string lst] rfl rfl ?c1 ?c2 ?c3 ?c4 ?c5 ?_; (case c1 => (rw [hl2]; exact cell_one_new _ _ _)); (case c2 => simp [Value.oneCell']); (case c3 => (unfold maxLen; omega)); (case c4 => omega); (case c5 => exact Nat.le_trans HBW1.out (below_size (below_alloc (Below.refl w1.heap.size w1) _))); intro v' w2 hown2 hgrow _; have HO2 := Aside0.mk hown2; have HB2 := Aside0.mk (((HB1.out.mono HBW.out).alloc HBW1.out _).grown hgrow (Nat.le_trans HBW1.out (below_size (below_alloc (Below.refl w1.heap.size w1) _))) (own_base HO1.out)); have HD2 := Aside0.mk (prices_Format.isB_grown (prices_Format.isB_below HD1.out (below_alloc (Below.refl w1.heap.size w1) _)) (HO1.out.alloc _) hgrow); clear hown2 hgrow; obtain ⟨jg, jc, rfl, hjc, hjb, hjcells⟩ := prices_Format.join_cells HO2.out HM.out)
  have key := Tryz.strings_Join jg 0 jc (ws ++ [lst]) ⟨#[32]⟩ w2 hjcells hjb (by simp [HM.out]; omega) (by simp [HM.out]; exact hjc) HJL.out
  rw [show (ws ++ [lst]).length = m + 1 by simp [HM.out], HJS.out] at key
  refine key.mono ?_
  clear key; rintro e w3 ⟨rfl, hb3⟩; have HB3 := Aside0.mk (HB2.out.trans (hb3.mono (Nat.le_trans HBW.out HB2.out.size))); have HD3 := Aside0.mk (prices_Format.isB_below HD2.out hb3); have HBW3 := Aside0.mk (show b ≤ w3.heap.size from Nat.le_trans HBW.out HB3.out.size)
  clear hb3 hjcells
  go_wp2_with fail
  refine (prices_Format.wstr b b (Lib.byteCells l) (js ++ (⟨#[10]⟩ : ByteArray)) w3 HD3.out HLB.out HBW3.out).mono ?_
  rintro e w4 ⟨rfl, hd4, hb4⟩; have HB4 := Aside0.mk (HB3.out.trans hb4); have HD4 := Aside0.mk hd4; clear hd4 hb4
  go_wp2
  refine bodyPost_end (results_none rfl _ _ _) rfl ?_
  refine ⟨rfl, ?_, HB4.out⟩
  have h5 := HD4.out
  rw [prices_Format.bytes_app, HLD.out] at h5
  rw [HL.out]
  exact Or.inr h5
 have HL := Aside0.mk (show prices_Format.lineL n usual ws = [] by unfold prices_Format.lineL; rw [if_pos hu])
 subst hu
 go_enter Tryz.func34, Tryz.ntmps34
 go_wp2
 refine bodyPost_ret (results_none rfl _ _ _) rfl ?_
 exact ⟨rfl, by rw [HL.out, List.append_nil]; exact HBD.out, Below.refl _ _⟩
def prices_Format.accL (g : Nat → List UInt8) : Nat → List UInt8
 | 0 => []
 | i + 1 => prices_Format.accL g i ++ g i
theorem prices_Format.accL_len {g : Nat → List UInt8} {M : Nat} : ∀ (i : Nat), (∀ j, j < i → (g j).length ≤ M) → (prices_Format.accL g i).length ≤ i * M
 | 0, _ => by simp [prices_Format.accL]
 | i + 1, h => by
  have h1 := prices_Format.accL_len i (fun j hj => h j (by omega))
  have h2 := h i (by omega)
  rw [prices_Format.accL, List.length_append, Nat.succ_mul]
  omega
def prices_Format.kwI : ByteArray := ⟨#[105, 110, 115, 101, 114, 116]⟩
def prices_Format.kwD : ByteArray := ⟨#[100, 101, 108, 101, 116, 101]⟩
def prices_Format.kwR : ByteArray := ⟨#[114, 101, 112, 108, 97, 99, 101]⟩
def prices_Format.kwS : ByteArray := ⟨#[115, 119, 97, 112]⟩
def prices_Format.kwU : ByteArray := ⟨#[117, 110, 107, 110, 111, 119, 110]⟩
def prices_Format.gI (l0 : List Int) (terms : List ByteArray) (a : Nat) : List UInt8 := prices_Format.lineL (l0.getD a 0) 10 [prices_Format.kwI, terms.getD a ByteArray.empty]
def prices_Format.gD (l0 : List Int) (terms : List ByteArray) (a : Nat) : List UInt8 := prices_Format.lineL (l0.getD a 0) 10 [prices_Format.kwD, terms.getD a ByteArray.empty]
def prices_Format.gR (l2 : List (List Int)) (terms : List ByteArray) (a b : Nat) : List UInt8 := if a = b then [] else prices_Format.lineL ((l2.getD a []).getD b 0) 15 [prices_Format.kwR, terms.getD a ByteArray.empty, terms.getD b ByteArray.empty]
def prices_Format.gRow (l2 : List (List Int)) (terms : List ByteArray) (a : Nat) : List UInt8 := prices_Format.accL (prices_Format.gR l2 terms a) terms.length
def prices_Format.small (n : Int) : Bool := decide (-1 ≤ n) && decide (n ≤ 1000)
theorem prices_Format.small_iff {n : Int} (h : prices_Format.small n = true) : -1 ≤ n ∧ n ≤ 1000 := by
 unfold prices_Format.small at h
 simpa using h
def prices_Format.fmtB (l0 l1 : List Int) (l2 : List (List Int)) (s u : Int) (terms : List ByteArray) : List UInt8 :=
 prices_Format.accL (prices_Format.gI l0 terms) terms.length ++ prices_Format.accL (prices_Format.gD l1 terms) terms.length ++ prices_Format.accL (prices_Format.gRow l2 terms) terms.length ++ prices_Format.lineL s 12 [prices_Format.kwS] ++ prices_Format.lineL u 8 [prices_Format.kwU]
def prices_Format.fmtOk (l0 l1 : List Int) (l2 : List (List Int)) (s u : Int) (terms : List ByteArray) : Bool :=
 decide (terms.length ≤ 120) && terms.all (fun t => decide (t.size ≤ 1048576)) && decide (l0.length = terms.length) && decide (l1.length = terms.length) && decide (l2.length = terms.length) && l2.all (fun r => decide (r.length = terms.length)) && l0.all prices_Format.small && l1.all prices_Format.small && l2.all (fun r => r.all prices_Format.small) && prices_Format.small s && prices_Format.small u
theorem prices_Format.itoa_len {n : Int} (h0 : 0 ≤ n) (h1 : n ≤ 1000) : (Lib.itoa n).length ≤ 4 := by
 have key : (List.range 1001).all (fun m => decide ((Lib.itoa (m : Int)).length ≤ 4)) = true := by kernel_rfl
 rw [List.all_eq_true] at key
 have h2 := key n.toNat (List.mem_range.2 (by omega))
 have h3 := of_decide_eq_true h2
 rwa [Int.toNat_of_nonneg h0] at h3
theorem prices_Format.lastB_len {n : Int} (h : prices_Format.small n = true) : (prices_Format.lastB n).size ≤ 5 := by
 obtain ⟨h0, h1⟩ := prices_Format.small_iff h
 unfold prices_Format.lastB
 split
 ·
  decide
 ·
  have := prices_Format.itoa_len (n := n) (by omega) h1
  show (Lib.itoa n).toArray.size ≤ 5
  rw [List.size_toArray]
  omega
theorem prices_Format.join_len (M : Nat) : ∀ (l : List (List UInt8)), (∀ x ∈ l, x.length ≤ M) → (Lib.join l [32]).length ≤ l.length * (M + 1)
 | [], _ => by simp [Lib.join]
 | [a], h => by have := h a (by simp); simp [Lib.join]; omega
 | a :: b :: r, h => by
  have h1 := h a (by simp)
  have h2 := prices_Format.join_len M (b :: r) (fun x hx => h x (List.mem_cons_of_mem _ hx))
  have e : (Lib.join (a :: b :: r) [32]).length = a.length + 1 + (Lib.join (b :: r) [32]).length := by simp [Lib.join, List.intercalate]; try omega
  rw [e, List.length_cons, Nat.succ_mul]
  omega
theorem prices_Format.lineB_len {n : Int} {ws : List ByteArray} (h : prices_Format.small n = true) (hw : ∀ x ∈ ws, x.size ≤ 1048576) (hl : ws.length ≤ 3) : (prices_Format.lineB ws n).length ≤ 4194400 := by
 unfold prices_Format.lineB
 rw [List.length_append]
 have h1 := prices_Format.join_len 1048576 ((ws ++ [prices_Format.lastB n]).map (·.data.toList)) (by
  intro x hx; obtain ⟨s, hs, rfl⟩ := List.mem_map.1 hx; rcases List.mem_append.1 hs with hs | hs
  ·
   exact hw s hs
  ·
   rw [List.mem_singleton.1 hs]
   have := prices_Format.lastB_len h
   show (prices_Format.lastB n).size ≤ _
   omega)
 have h2 : ((ws ++ [prices_Format.lastB n]).map (·.data.toList)).length ≤ 4 := by simp; omega
 have h3 := Nat.mul_le_mul_right (1048576 + 1) h2
 simp only [List.length_singleton]
 omega
theorem prices_Format.lineL_le {n usual : Int} {ws : List ByteArray} : (prices_Format.lineL n usual ws).length ≤ (prices_Format.lineB ws n).length := by
 unfold prices_Format.lineL
 split <;> simp
theorem prices_Format.lit_own (W : World) (b : Nat) (ws : List ByteArray) (h : b ≤ W.heap.size) (hl : ws.length ≤ 3) : (W.alloc (.cells (ws.map Value.string).toArray 9)).ownsRow b 9 1 (.slice (some ⟨W.heap.size, 0, none⟩) ws.length ws.length) ws.length (ws.map Value.string) := by
 have h := World.ownsRow_lit (base := b) (e := 9) (size := 1) W (ws.map Value.string).toArray ws.length h (by unfold maxLen; omega) (by simp)
 simpa using h
theorem prices_Format.say_calls (n usual : Int) (b k : Nat) (ws : List ByteArray) (l : List UInt8) (W0 w : World) (hG : Glob w) (hk : ws.length = k) (hk3 : k ≤ 3) (hB : Lib.IsBuilder 58 5 b b (Lib.byteCells l) w) (hbw : b ≤ w.heap.size) (hn : prices_Format.small n = true) (hw : ∀ x ∈ ws, x.size ≤ 1048576) (hlen : l.length ≤ 140737480000000) (hb : Below b W0 w) :
  Calls Tryz.prog 34 #[.int .i64 n, .int .i64 usual, .slice (some ⟨w.heap.size, 0, none⟩) k k, .pointer (some ⟨b, 0, none⟩)] (w.alloc (.cells (ws.map Value.string).toArray 9)) fun e w' => e = .returned (.tuple #[]) ∧ Lib.IsBuilder 58 5 b b (Lib.byteCells (l ++ prices_Format.lineL n usual ws)) w' ∧ Below b W0 w' := by
 subst hk; obtain ⟨h0, h1⟩ := prices_Format.small_iff hn; have hba := below_alloc (Below.refl w.heap.size w) (.cells (ws.map Value.string).toArray 9)
 refine (prices_Format.line_calls n usual ⟨w.heap.size, 0, none⟩ ws.length ws.length b ws l _ (Glob.below hG hba) rfl hk3 (Nat.le_refl _) (prices_Format.lit_own w b ws hbw hk3) (prices_Format.isB_below hB hba) (Nat.le_trans hbw hba.size) h0 h1 ?_).mono ?_
 ·
  have := prices_Format.lineB_len hn hw hk3
  omega
 ·
  rintro e w' ⟨rfl, h2, h3⟩
  exact ⟨rfl, h2, (hb.trans (hba.mono hbw)).trans h3⟩
theorem prices_Format.alloc_sz (w : World) (o : Obj) : (w.alloc o).heap.size = w.heap.size + 1 := by
 show (w.heap.push o).size = _
 exact Array.size_push _
theorem prices_Format.cell25 {w : World} {g : Nat} {v0 v1 v2 v3 v4 : Value} (h : w.heap[g]? = some (.cells #[v0, v1, v2, v3, v4] 25 (0, 0))) : w.cell? ⟨g, 0, none⟩ = some v0 ∧ w.cell? ⟨g, 1, none⟩ = some v1 ∧ w.cell? ⟨g, 2, none⟩ = some v2 ∧ w.cell? ⟨g, 3, none⟩ = some v3 ∧ w.cell? ⟨g, 4, none⟩ = some v4 := by
 simp [World.cell?, h]
theorem prices_Format.c_int {w : World} {A : Option Addr} {xs : List Int} {n : Nat} (h : Kd.C (Kd.int .i64) w A n xs) (i : Nat) (hi : i < n) : ∃ ad, A = some ad ∧ w.cell? (ad.add i) = some (.int .i64 (xs.getD i 0)) := by
 obtain ⟨ad, c, e, hl, hk, hc⟩ := C_get h 0 (i : Int) (by omega) (by omega)
 refine ⟨ad, e, ?_⟩
 have hk' : c = [Value.int .i64 (xs.getD i 0)] := hk; have h1 := hc 0 (.int .i64 (xs.getD i 0)) (by rw [hk']; rfl)
 have e1 : (Kd.int .i64).sz = 1 := rfl
 rw [e1, Nat.mul_one, Nat.add_zero] at h1
 exact h1
theorem prices_Format.c_str {w : World} {A : Option Addr} {xs : List ByteArray} {n : Nat} (h : Kd.C Kd.string w A n xs) (i : Nat) (hi : i < n) : ∃ ad, A = some ad ∧ w.cell? (ad.add i) = some (.string (xs.getD i ByteArray.empty)) := by
 obtain ⟨ad, c, e, hl, hk, hc⟩ := C_get h ByteArray.empty (i : Int) (by omega) (by omega)
 refine ⟨ad, e, ?_⟩
 have hk' : c = [Value.string (xs.getD i ByteArray.empty)] := hk; have h1 := hc 0 (.string (xs.getD i ByteArray.empty)) (by rw [hk']; rfl)
 have e1 : Kd.string.sz = 1 := rfl
 rw [e1, Nat.mul_one, Nat.add_zero] at h1
 exact h1
theorem prices_Format.c_row {w : World} {A : Option Addr} {xs : List (List Int)} {n : Nat} (h : Kd.C (Kd.slice 3 (Kd.int .i64)) w A n xs) (i : Nat) (hi : i < n) : ∃ ad A' c', A = some ad ∧ w.cell? (ad.add i) = some (.slice A' (xs.getD i []).length c') ∧ (xs.getD i []).length ≤ c' ∧ Kd.C (Kd.int .i64) w A' (xs.getD i []).length (xs.getD i []) := by
 obtain ⟨ad, c, e, hl, hk, hc⟩ := C_get h [] (i : Int) (by omega) (by omega)
 obtain ⟨A', c', hce, hlc, hC⟩ := hk
 refine ⟨ad, A', c', e, ?_, hlc, hC⟩
 have h1 := hc 0 (.slice A' (xs.getD i []).length c') (by rw [hce]; rfl)
 have e1 : (Kd.slice 3 (Kd.int .i64)).sz = 1 := rfl
 rw [e1, Nat.mul_one, Nat.add_zero] at h1
 exact h1
def prices_Format.foR (b : Nat) (W0 : World) (L : List UInt8) (wr : World) : Prop := Lib.IsBuilder 58 5 b b (Lib.byteCells L) wr ∧ Below b W0 wr ∧ b ≤ wr.heap.size ∧ L.length ≤ 140737480000000
def prices_Format.foI (b : Nat) (W0 : World) (n : Nat) (L : Nat → List UInt8) (v : Value) (wr : World) : Prop := ∃ i : Nat, i ≤ n ∧ v = .int .i64 i ∧ prices_Format.foR b W0 (L i) wr
theorem prices_Format.small_getD {l : List Int} (h : ∀ x ∈ l, prices_Format.small x = true) (i : Nat) : prices_Format.small (l.getD i 0) = true := by
 rw [List.getD_eq_getElem?_getD]
 cases hi : l[i]? with
 | none => rfl
 | some x => exact h x (List.mem_of_getElem? hi)
theorem prices_Format.size_getD {l : List ByteArray} (h : ∀ x ∈ l, x.size ≤ 1048576) (i : Nat) : (l.getD i ByteArray.empty).size ≤ 1048576 := by
 rw [List.getD_eq_getElem?_getD]
 cases hi : l[i]? with
 | none => exact Nat.zero_le _
 | some x => exact h x (List.mem_of_getElem? hi)
theorem prices_Format.small_row {l : List (List Int)} (h : ∀ r ∈ l, ∀ x ∈ r, prices_Format.small x = true) (i j : Nat) : prices_Format.small ((l.getD i []).getD j 0) = true := by
 refine prices_Format.small_getD ?_ j
 rw [List.getD_eq_getElem?_getD]
 cases hi : l[i]? with
 | none => intro x hx; cases hx
 | some r => exact h r (List.mem_of_getElem? hi)
theorem prices_Format.words2 {kw t : ByteArray} (hk : kw.size ≤ 1048576) (ht : t.size ≤ 1048576) : ∀ x ∈ [kw, t], x.size ≤ 1048576 := by
 intro x hx
 simp only [List.mem_cons, List.mem_nil_iff, or_false] at hx
 rcases hx with rfl | rfl <;> assumption
theorem prices_Format.words3 {kw t t2 : ByteArray} (hk : kw.size ≤ 1048576) (ht : t.size ≤ 1048576) (ht2 : t2.size ≤ 1048576) : ∀ x ∈ [kw, t, t2], x.size ≤ 1048576 := by
 intro x hx
 simp only [List.mem_cons, List.mem_nil_iff, or_false] at hx
 rcases hx with rfl | rfl | rfl <;> assumption
theorem prices_Format.gI_len {l0 : List Int} {terms : List ByteArray} (h : ∀ x ∈ l0, prices_Format.small x = true) (ht : ∀ x ∈ terms, x.size ≤ 1048576) (i : Nat) : (prices_Format.gI l0 terms i).length ≤ 4194400 :=
 Nat.le_trans prices_Format.lineL_le (prices_Format.lineB_len (prices_Format.small_getD h i) (prices_Format.words2 (by decide) (prices_Format.size_getD ht i)) (by simp))
theorem prices_Format.gD_len {l0 : List Int} {terms : List ByteArray} (h : ∀ x ∈ l0, prices_Format.small x = true) (ht : ∀ x ∈ terms, x.size ≤ 1048576) (i : Nat) : (prices_Format.gD l0 terms i).length ≤ 4194400 :=
 Nat.le_trans prices_Format.lineL_le (prices_Format.lineB_len (prices_Format.small_getD h i) (prices_Format.words2 (by decide) (prices_Format.size_getD ht i)) (by simp))
theorem prices_Format.gR_len {l2 : List (List Int)} {terms : List ByteArray} (h : ∀ r ∈ l2, ∀ x ∈ r, prices_Format.small x = true) (ht : ∀ x ∈ terms, x.size ≤ 1048576) (i j : Nat) : (prices_Format.gR l2 terms i j).length ≤ 4194400 := by
 unfold prices_Format.gR
 split
 ·
  simp
 ·
  exact Nat.le_trans prices_Format.lineL_le (prices_Format.lineB_len (prices_Format.small_row h i j) (prices_Format.words3 (by decide) (prices_Format.size_getD ht i) (prices_Format.size_getD ht j)) (by simp))
theorem prices_Format.acc120 {g : Nat → List UInt8} {M i : Nat} (hi : i ≤ 120) (h : ∀ j, (g j).length ≤ M) : (prices_Format.accL g i).length ≤ 120 * M :=
 Nat.le_trans (prices_Format.accL_len i (fun j _ => h j)) (Nat.mul_le_mul_right _ hi)
theorem prices_Format.gRow_len {l2 : List (List Int)} {terms : List ByteArray} (h : ∀ r ∈ l2, ∀ x ∈ r, prices_Format.small x = true) (ht : ∀ x ∈ terms, x.size ≤ 1048576) (hT : terms.length ≤ 120) (i : Nat) : (prices_Format.gRow l2 terms i).length ≤ 503328000 := by
 have := prices_Format.acc120 hT (prices_Format.gR_len h ht i)
 unfold prices_Format.gRow
 omega
theorem prices_Format.foR_step {b : Nat} {W0 w' : World} {L g : List UInt8} (h1 : Lib.IsBuilder 58 5 b b (Lib.byteCells (L ++ g)) w') (h2 : Below b W0 w') (hb : b ≤ W0.heap.size) (h3 : (L ++ g).length ≤ 140737480000000) : prices_Format.foR b W0 (L ++ g) w' := ⟨h1, h2, Nat.le_trans hb h2.size, h3⟩
theorem prices_Format.say_drew (n usual : Int) (b k : Nat) (ws : List ByteArray) (l : List UInt8) (W0 w W : World) (hW : W = (w.alloc (.cells (ws.map Value.string).toArray 9)).drew) (hG : Glob w) (hk : ws.length = k) (hk3 : k ≤ 3) (hn : prices_Format.small n = true) (hw : ∀ x ∈ ws, x.size ≤ 1048576) (hF : prices_Format.foR b W0 l w) :
  Calls Tryz.prog 34 #[.int .i64 n, .int .i64 usual, .slice (some ⟨w.heap.size, 0, none⟩) k k, .pointer (some ⟨b, 0, none⟩)] W fun e w' => e = .returned (.tuple #[]) ∧ Lib.IsBuilder 58 5 b b (Lib.byteCells (l ++ prices_Format.lineL n usual ws)) w' ∧ Below b W0 w' := by
 have e : W = w.drew.alloc (.cells (ws.map Value.string).toArray 9) := hW.trans rfl; obtain ⟨h1, h2, h3, h4⟩ := hF
 rw [e]
 exact prices_Format.say_calls n usual b k ws l W0 w.drew (Glob.below hG (below_drew (Below.refl _ _))) hk hk3 (prices_Format.isB_below h1 (below_drew (Below.refl _ _))) h3 hn hw h4 h2.drew
set_option maxRecDepth 100000 in
set_option maxHeartbeats 4000000 in
theorem prices_Format.fo_yes (k : Nat) (A0 : Option Addr) (c0 : Nat) (l0 : List Int) (A1 : Option Addr) (c1 : Nat) (l1 : List Int) (A2 : Option Addr) (c2 : Nat) (l2 : List (List Int)) (s u : Int) (A : Option Addr) (c : Nat) (terms : List ByteArray) (w : World) (hG : Glob w)
  (hr0 : Kd.C (Kd.int .i64) w A0 l0.length l0) (hc0 : l0.length ≤ c0) (hr1 : Kd.C (Kd.int .i64) w A1 l1.length l1) (hc1 : l1.length ≤ c1) (hr2 : Kd.C (Kd.slice 3 (Kd.int .i64)) w A2 l2.length l2) (hc2 : l2.length ≤ c2) (hT : Kd.C Kd.string w A terms.length terms) (hc : terms.length ≤ c)
  (hn : prices_names.f k terms = some true) (hv : prices_Valid.f k l0 l1 l2 s u terms.length = some true) (hok : prices_Format.fmtOk l0 l1 l2 s u terms = true) :
  Calls Tryz.prog 19 #[.agg #[.slice A0 l0.length c0, .slice A1 l1.length c1, .slice A2 l2.length c2, .int .i64 s, .int .i64 u], .slice A terms.length c] w fun e w' => e = .returned (.tuple #[.string ⟨(prices_Format.fmtB l0 l1 l2 s u terms).toArray⟩, .int .i64 0]) ∧ Below w.heap.size w w' := by
 have hu25 := Tryz.underlying25
 unfold prices_Format.fmtOk at hok
 simp only [Bool.and_eq_true, decide_eq_true_eq, List.all_eq_true] at hok
 obtain ⟨⟨⟨⟨⟨⟨⟨⟨⟨⟨hT120, hts⟩, hl0⟩, hl1⟩, hl2⟩, hl2r⟩, hs0⟩, hs1⟩, hs2⟩, hss⟩, hsu⟩ := hok; obtain ⟨T, hTe⟩ : ∃ T, T = terms.length := ⟨_, rfl⟩
 have HN := Aside0.mk hn; have HV := Aside0.mk hv; have HG := Aside0.mk hG; have HR0 := Aside0.mk hr0; have HR1 := Aside0.mk hr1; have HR2 := Aside0.mk hr2; have HT := Aside0.mk hT; have HTS := Aside0.mk hts; have HL2R := Aside0.mk hl2r; have HS0 := Aside0.mk hs0; have HS1 := Aside0.mk hs1; have HS2 := Aside0.mk hs2; have HSS := Aside0.mk hss; have HSU := Aside0.mk hsu; have HTE := Aside0.mk hTe; have HL0 := Aside0.mk hl0; have HL1 := Aside0.mk hl1; have HL2 := Aside0.mk hl2; have hg0 : l0.length = T := by omega
 have hg1 : l1.length = T := by omega
 have hg2 : l2.length = T := by omega
 rw [hg0, hg1, hg2, ← hTe]
 rw [hg0] at hc0
 rw [hg1] at hc1
 rw [hg2] at hc2
 rw [← hTe] at hc hT120
 clear hn hv hG hr0 hr1 hr2 hT hts hl2r hs0 hs1 hs2 hss hsu hTe hl0 hl1 hl2 hg0 hg1 hg2
 go_enter Tryz.func19, Tryz.ntmps19
 go_wp2_with fail
 have hba := below_alloc (Below.refl w.heap.size w) (.cells #[.slice A0 T c0, .slice A1 T c1, .slice A2 T c2, .int .i64 s, .int .i64 u] 25); have key := prices_names.calls k A c terms true _ (Kd.C_below HT.out hba) (by have := HTE.out; omega) HN.out
 rw [← HTE.out] at key
 refine key.mono ?_
 clear key; rintro e w1 ⟨rfl, hb1⟩; have HB1 := Aside0.mk (below_step hba hb1); have HX1 := Aside0.mk ((hb1.block w.heap.size (blk_lt (blk_new w _))).trans (blk_new w _)); obtain ⟨hx0, hx1, hx2, hx3, hx4⟩ := prices_Format.cell25 HX1.out; clear hb1 hba
 go_wp2_with fail
 have key := prices_Valid.calls k A0 c0 l0 A1 c1 l1 A2 c2 l2 s u terms.length true w1 (Kd.C_below HR0.out HB1.out) (by have := HL0.out; have := HTE.out; omega) (Kd.C_below HR1.out HB1.out) (by have := HL1.out; have := HTE.out; omega) (Kd.C_below HR2.out HB1.out) (by have := HL2.out; have := HTE.out; omega) HV.out
 rw [HL0.out, HL1.out, HL2.out, ← HTE.out] at key
 refine key.mono ?_
 clear key; rintro e w2 ⟨rfl, hb2⟩; have HB2 := Aside0.mk (below_step HB1.out hb2); have HX2 := Aside0.mk ((hb2.block w.heap.size (blk_lt HX1.out)).trans HX1.out); clear hb2 hx0 hx1 hx2 hx3 hx4 HX1 HB1 HN HV; obtain ⟨b, hbe⟩ : ∃ b, b = w2.heap.size := ⟨_, rfl⟩
 have HFR := Aside0.mk (show prices_Format.foR b w2 [] (w2.alloc (.cells #[.pointer none, .slice none 0 0] 58)) from ⟨by rw [hbe]; exact Lib.fresh_isBuilder 58 5 w2, by rw [hbe]; exact below_alloc (Below.refl _ _) _, by rw [hbe, prices_Format.alloc_sz]; omega, by simp⟩)
 have HBE := Aside0.mk hbe; have HWB := Aside0.mk (show w.heap.size ≤ b by have := HB2.out.size; omega)
 have HBW0 := Aside0.mk (show b ≤ w2.heap.size by omega)
 have HLI : Aside0 (∀ i, i ≤ T → (prices_Format.accL (prices_Format.gI l0 terms) i).length ≤ 503328000) := ⟨fun i hi => prices_Format.acc120 (M := 4194400) (by omega) (prices_Format.gI_len HS0.out HTS.out)⟩
 have HLD : Aside0 (∀ i, i ≤ T → (prices_Format.accL (prices_Format.gD l1 terms) i).length ≤ 503328000) := ⟨fun i hi => prices_Format.acc120 (M := 4194400) (by omega) (prices_Format.gD_len HS1.out HTS.out)⟩
 have HLR : Aside0 (∀ a i, i ≤ T → (prices_Format.accL (prices_Format.gR l2 terms a) i).length ≤ 503328000) := ⟨fun a i hi => prices_Format.acc120 (M := 4194400) (by omega) (prices_Format.gR_len HS2.out HTS.out a)⟩
 have HLW : Aside0 (∀ i, i ≤ T → (prices_Format.accL (prices_Format.gRow l2 terms) i).length ≤ 60399360000) := ⟨fun i hi => prices_Format.acc120 (M := 503328000) (by omega) (prices_Format.gRow_len HS2.out HTS.out (by have := HTE.out; omega))⟩
 obtain ⟨hx0, hx1, hx2, hx3, hx4⟩ := prices_Format.cell25 (blk_alloc HX2.out (.cells #[.pointer none, .slice none 0 0] 58))
 go_wp2
 rw [← HBE.out]
 clear hx0 hx1 hx2 hx3 hx4 hbe
 go_loopw [8, 9, 30, 31, 32, 33, 34, 35, 36, 37, 38, 39, 40, 41, 42, 43] (fun v8 v9 v30 v31 v32 v33 v34 v35 v36 v37 v38 v39 v40 v41 v42 v43 wr => prices_Format.foI b w2 T (prices_Format.accL (prices_Format.gI l0 terms)) v30 wr) (fun v8 v9 v30 v31 v32 v33 v34 v35 v36 v37 v38 v39 v40 v41 v42 v43 wr => T - (intOf v30).toNat)
 case atStart => exact ⟨0, Nat.zero_le _, rfl, HFR.out⟩
 case round =>
  obtain ⟨i, hi, rfl, hfr⟩ := hrel
  by_cases hlt : i < T
  rotate_left
  ·
   obtain rfl : T = i := by omega
   have HF := Aside0.mk hfr; have HX := Aside0.mk ((hfr.2.1.block _ (by have := blk_lt HX2.out; have := HBE.out; omega)).trans HX2.out)
   obtain ⟨hx0, hx1, hx2, hx3, hx4⟩ := prices_Format.cell25 HX.out; clear hfr hlt hi
   go_wp2
   clear hx0 hx1 hx2 hx3 hx4
   go_loopw [10, 11, 47, 48, 49, 50, 51, 52, 53, 54, 55, 56, 57, 58, 59, 60] (fun v10 v11 v47 v48 v49 v50 v51 v52 v53 v54 v55 v56 v57 v58 v59 v60 wr => prices_Format.foI b w2 T (fun i => prices_Format.accL (prices_Format.gI l0 terms) T ++ prices_Format.accL (prices_Format.gD l1 terms) i) v47 wr) (fun v10 v11 v47 v48 v49 v50 v51 v52 v53 v54 v55 v56 v57 v58 v59 v60 wr => T - (intOf v47).toNat)
   case atStart => exact ⟨0, Nat.zero_le _, rfl, by simp only [prices_Format.accL, List.append_nil]; exact HF.out⟩
   case round =>
    obtain ⟨i, hi, rfl, hfr⟩ := hrel
    by_cases hlt : i < T
    rotate_left
    ·
     obtain rfl : T = i := by omega
     have HF := Aside0.mk hfr; have HX := Aside0.mk ((hfr.2.1.block _ (by have := blk_lt HX2.out; have := HBE.out; omega)).trans HX2.out)
     obtain ⟨hx0, hx1, hx2, hx3, hx4⟩ := prices_Format.cell25 HX.out; clear hfr hlt hi
     go_wp2
     clear hx0 hx1 hx2 hx3 hx4
     go_loopw [12, 13, 14, 15, 64, 65, 66, 67, 68, 69, 70, 71, 72, 73, 74, 75, 76, 77, 78, 79, 80, 81, 82, 83, 84, 85, 86, 87, 88, 89, 90, 91, 92] (fun v12 v13 v14 v15 v64 v65 v66 v67 v68 v69 v70 v71 v72 v73 v74 v75 v76 v77 v78 v79 v80 v81 v82 v83 v84 v85 v86 v87 v88 v89 v90 v91 v92 wr => prices_Format.foI b w2 T (fun i => prices_Format.accL (prices_Format.gI l0 terms) T ++ prices_Format.accL (prices_Format.gD l1 terms) T ++ prices_Format.accL (prices_Format.gRow l2 terms) i) v64 wr) (fun v12 v13 v14 v15 v64 v65 v66 v67 v68 v69 v70 v71 v72 v73 v74 v75 v76 v77 v78 v79 v80 v81 v82 v83 v84 v85 v86 v87 v88 v89 v90 v91 v92 wr => T - (intOf v64).toNat)
     case atStart => exact ⟨0, Nat.zero_le _, rfl, by simp only [prices_Format.accL, List.append_nil]; exact HF.out⟩
     case round =>
      obtain ⟨i, hi, rfl, hfr⟩ := hrel
      by_cases hlt : i < T
      rotate_left
      ·
       obtain rfl : T = i := by omega
       have HF := Aside0.mk hfr; have HX := Aside0.mk ((hfr.2.1.block _ (by have := blk_lt HX2.out; have := HBE.out; omega)).trans HX2.out)
       obtain ⟨hx0, hx1, hx2, hx3, hx4⟩ := prices_Format.cell25 HX.out; clear hfr hlt hi
       go_wp2_with fail
       refine (prices_Format.say_calls s 12 b 1 [prices_Format.kwS] (prices_Format.accL (prices_Format.gI l0 terms) T ++ prices_Format.accL (prices_Format.gD l1 terms) T ++ prices_Format.accL (prices_Format.gRow l2 terms) T) w2 wr (Glob.below HG.out (HB2.out.trans (HF.out.2.1.mono HWB.out))) rfl (by decide) HF.out.1 HF.out.2.2.1 HSS.out (by decide) HF.out.2.2.2 HF.out.2.1).mono ?_
       rintro e w3 ⟨rfl, hI3, hB3⟩; have hl12 := prices_Format.lineL_le (n := s) (usual := 12) (ws := [prices_Format.kwS]); have hlB := prices_Format.lineB_len HSS.out (ws := [prices_Format.kwS]) (by decide) (by decide)
       have HF3 := Aside0.mk (prices_Format.foR_step hI3 hB3 HBW0.out (by have h5 := HLI.out T (Nat.le_refl _); have h6 := HLD.out T (Nat.le_refl _); have h7 := HLW.out T (Nat.le_refl _); simp only [List.length_append]; omega))
       have HX3 := Aside0.mk ((hB3.block _ (by have := blk_lt HX2.out; have := HBE.out; omega)).trans HX2.out)
       obtain ⟨hy0, hy1, hy2, hy3, hy4⟩ := prices_Format.cell25 HX3.out; clear hI3 hB3 hx0 hx1 hx2 hx3 hx4 hl12 hlB
       go_wp2_with fail
       refine (prices_Format.say_calls u 8 b 1 [prices_Format.kwU] (prices_Format.accL (prices_Format.gI l0 terms) T ++ prices_Format.accL (prices_Format.gD l1 terms) T ++ prices_Format.accL (prices_Format.gRow l2 terms) T ++ prices_Format.lineL s 12 [prices_Format.kwS]) w2 w3 (Glob.below HG.out (HB2.out.trans (HF3.out.2.1.mono HWB.out))) rfl (by decide) HF3.out.1 HF3.out.2.2.1 HSU.out (by decide) HF3.out.2.2.2 HF3.out.2.1).mono ?_
       rintro e w4 ⟨rfl, hI4, hB4⟩; have HI4 := Aside0.mk hI4; have HB4 := Aside0.mk hB4; clear hI4 hB4 hy0 hy1 hy2 hy3 hy4
       go_wp2_with fail
       refine (Tryz.Builder_String_any b b _ w4 HI4.out (Nat.le_trans HBW0.out HB4.out.size)).mono ?_
       rintro e w5 ⟨rfl, hb5⟩; have HB5 := Aside0.mk (HB2.out.trans ((HB4.out.trans hb5).mono HWB.out)); clear hb5
       go_wp2
       go_ret2
       refine ⟨?_, HB5.out⟩
       unfold prices_Format.fmtB
       rw [← HTE.out]
       simp only [List.append_assoc]
       rfl
      have HBr := Aside0.mk (HB2.out.trans (hfr.2.1.mono HWB.out)); obtain ⟨ad2, A', c', hA2, hcw, hcl, hCr⟩ := prices_Format.c_row HR2.out i (by have := HL2.out; have := HTE.out; omega)
      subst hA2; have hcell := pw_cell_below HBr.out hcw; have hrl : (l2.getD i []).length = T := by
       rw [HTE.out]
       refine HL2R.out _ ?_
       rw [List.getD_eq_getElem?_getD, List.getElem?_eq_getElem (by have := HL2.out; have := HTE.out; omega)]
       exact List.getElem_mem _
      have HSR := Aside0.mk (prices_Format.small_row HS2.out i); have HGR := Aside0.mk (show ∀ j, prices_Format.gR l2 terms i j = if i = j then [] else prices_Format.lineL ((l2.getD i []).getD j 0) 15 [prices_Format.kwR, terms.getD i ByteArray.empty, terms.getD j ByteArray.empty] from fun j => rfl)
      have HNX := Aside0.mk (show prices_Format.accL (prices_Format.gRow l2 terms) (i + 1) = prices_Format.accL (prices_Format.gRow l2 terms) i ++ prices_Format.accL (prices_Format.gR l2 terms i) T by rw [HTE.out]; rfl)
      have HF3 := Aside0.mk hfr
      generalize l2.getD i [] = row at *
      have HCR := Aside0.mk hCr; have HRL := Aside0.mk hrl
      rw [hrl] at hcell hcl
      clear hCr hrl hfr hcw
      go_wp2
      go_loopw [14, 15, 71, 72, 73, 74, 75, 76, 77, 78, 79, 80, 81, 82, 83, 84, 85, 86, 87, 88, 89, 90, 91] (fun v14 v15 v71 v72 v73 v74 v75 v76 v77 v78 v79 v80 v81 v82 v83 v84 v85 v86 v87 v88 v89 v90 v91 wr => prices_Format.foI b w2 T (fun j => prices_Format.accL (prices_Format.gI l0 terms) T ++ prices_Format.accL (prices_Format.gD l1 terms) T ++ prices_Format.accL (prices_Format.gRow l2 terms) i ++ prices_Format.accL (prices_Format.gR l2 terms i) j) v71 wr) (fun v14 v15 v71 v72 v73 v74 v75 v76 v77 v78 v79 v80 v81 v82 v83 v84 v85 v86 v87 v88 v89 v90 v91 wr => T - (intOf v71).toNat)
      case atStart => exact ⟨0, Nat.zero_le _, rfl, by simp only [prices_Format.accL, List.append_nil]; exact HF3.out⟩
      case round =>
       obtain ⟨j, hj, rfl, hfr⟩ := hrel
       by_cases hltj : j < T
       rotate_left
       ·
        obtain rfl : T = j := by omega
        have h8 := hfr; have HF5 := Aside0.mk (show prices_Format.foR b w2 (prices_Format.accL (prices_Format.gI l0 terms) T ++ prices_Format.accL (prices_Format.gD l1 terms) T ++ prices_Format.accL (prices_Format.gRow l2 terms) (i + 1)) wr by rw [HNX.out, ← List.append_assoc]; exact hfr)
        clear hfr h8 hcell
        go_wp2
        go_roundw
        case rel => exact ⟨i + 1, by omega, by go_num, HF5.out⟩
        case measure => simp [intOf]; omega
       have HBr2 := Aside0.mk (HB2.out.trans (hfr.2.1.mono HWB.out)); obtain ⟨ad3, hA3, hcell3⟩ := prices_Format.c_int (Kd.C_below HCR.out HBr2.out) j (by have := HRL.out; omega)
       subst hA3; have HFJ := Aside0.mk hfr; clear hfr hcell
       by_cases hij : i = j
       rotate_left
       ·
        have hij' : ¬ ((i : Int) = (j : Int)) := by omega
        obtain ⟨adT, hAT, hcellT⟩ := prices_Format.c_str (Kd.C_below HT.out HBr2.out) i (by have := HTE.out; omega)
        subst hAT; obtain ⟨adT2, hAT2, hcellT2⟩ := prices_Format.c_str (Kd.C_below HT.out HBr2.out) j (by have := HTE.out; omega)
        injection hAT2 with hAT2
        subst hAT2; have HSM := Aside0.mk (HSR.out j); have HSZ := Aside0.mk (prices_Format.size_getD HTS.out i); have HSZ2 := Aside0.mk (prices_Format.size_getD HTS.out j); have HGE := Aside0.mk (show prices_Format.gR l2 terms i j = prices_Format.lineL (row.getD j 0) 15 [prices_Format.kwR, terms.getD i ByteArray.empty, terms.getD j ByteArray.empty] by rw [HGR.out j, if_neg hij])
        obtain ⟨t1, ht1⟩ : ∃ t1, t1 = terms.getD i ByteArray.empty := ⟨_, rfl⟩
        obtain ⟨t2, ht2⟩ : ∃ t2, t2 = terms.getD j ByteArray.empty := ⟨_, rfl⟩
        obtain ⟨n, hne⟩ : ∃ n, n = row.getD j 0 := ⟨_, rfl⟩
        rw [← ht1] at hcellT HSZ HGE
        rw [← ht2] at hcellT2 HSZ2 HGE
        rw [← hne] at hcell3 HSM HGE
        clear ht1 ht2 hne
        go_wp2
        go_region_law (refine call_ 34 #[.int .i64 n, .int .i64 15, .slice (some ⟨wr.heap.size, 0, none⟩) 3 3, .pointer (some ⟨b, 0, none⟩)] rfl rfl (by have he := enters_ Tryz.func34 (by kernel_rfl) rfl; unfold execOp; simp [resolve, Deferred.ofValue, invoke, Act.eval, he]) ?_; (refine (prices_Format.say_drew n 15 b 3 [prices_Format.kwR, t1, t2] (prices_Format.accL (prices_Format.gI l0 terms) T ++ prices_Format.accL (prices_Format.gD l1 terms) T ++ prices_Format.accL (prices_Format.gRow l2 terms) i ++ prices_Format.accL (prices_Format.gR l2 terms i) j) w2 wr _ rfl (Glob.below HG.out HBr2.out) rfl (by decide) HSM.out (prices_Format.words3 (by decide) HSZ.out HSZ2.out) HFJ.out).mono ?_; rintro e w3 ⟨rfl, hI3, hB3⟩); (refine ⟨_, rfl, ?_⟩); have HI3 := Aside0.mk hI3; have HB3 := Aside0.mk hB3; clear hI3 hB3)
        all_goals
         go_wp2
         go_roundw
         case rel => exact ⟨j + 1, by omega, by go_num, by have h9 := prices_Format.foR_step HI3.out HB3.out HBW0.out (by rw [← HGE.out]; have h5 := HLI.out T (Nat.le_refl _); have h6 := HLD.out T (Nat.le_refl _); have h7 := HLW.out i (by omega); have h8 := HLR.out i (j + 1) (by omega); rw [prices_Format.accL] at h8; simp only [List.length_append] at h8 ⊢; omega); rw [← HGE.out, List.append_assoc] at h9; exact h9⟩
         case measure => simp [intOf]; omega
       have HE := Aside0.mk (show prices_Format.accL (prices_Format.gR l2 terms i) (j + 1) = prices_Format.accL (prices_Format.gR l2 terms i) j by rw [prices_Format.accL, HGR.out j, if_pos hij, List.append_nil])
       subst hij
       go_wp2
       go_roundw
       case rel => exact ⟨i + 1, by omega, by go_num, by have h9 := HFJ.out; show prices_Format.foR b w2 (prices_Format.accL (prices_Format.gI l0 terms) T ++ prices_Format.accL (prices_Format.gD l1 terms) T ++ prices_Format.accL (prices_Format.gRow l2 terms) i ++ prices_Format.accL (prices_Format.gR l2 terms i) (i + 1)) _; rw [HE.out]; exact h9⟩
       case measure => simp [intOf]; omega
    obtain ⟨hIB, hBel, hbw, hlen⟩ := hfr; have HBr := Aside0.mk (HB2.out.trans (hBel.mono HWB.out)); obtain ⟨ad0, hA1, hcell⟩ := prices_Format.c_int (Kd.C_below HR1.out HBr.out) i (by have := HL1.out; have := HTE.out; omega)
    subst hA1; obtain ⟨adT, hAT, hcellT⟩ := prices_Format.c_str (Kd.C_below HT.out HBr.out) i (by have := HTE.out; omega)
    subst hAT; have HIB := Aside0.mk hIB; have HBel := Aside0.mk hBel; have HBWr := Aside0.mk hbw; have HLEN := Aside0.mk hlen; have hsm := prices_Format.small_getD HS1.out i; have hsz := prices_Format.size_getD HTS.out i; clear hIB hBel hbw hlen; have HNX := Aside0.mk (show prices_Format.accL (prices_Format.gI l0 terms) T ++ prices_Format.accL (prices_Format.gD l1 terms) (i + 1) = prices_Format.accL (prices_Format.gI l0 terms) T ++ prices_Format.accL (prices_Format.gD l1 terms) (i) ++ prices_Format.gD l1 terms i by simp only [prices_Format.accL, List.append_assoc])
    have HGE := Aside0.mk (show prices_Format.gD l1 terms i = prices_Format.lineL (l1.getD i 0) 10 [prices_Format.kwD, terms.getD i ByteArray.empty] from rfl)
    generalize terms.getD i ByteArray.empty = t at *
    generalize l1.getD i 0 = n at *
    have HSM := Aside0.mk hsm; have HSZ := Aside0.mk hsz; clear hsm hsz
    go_wp2_with fail
    refine (prices_Format.say_calls n 10 b 2 [prices_Format.kwD, t] _ w2 wr (Glob.below HG.out HBr.out) rfl (by decide) HIB.out HBWr.out HSM.out (prices_Format.words2 (by decide) HSZ.out) HLEN.out HBel.out).mono ?_
    rintro e w3 ⟨rfl, hI3, hB3⟩; have HI3 := Aside0.mk (show Lib.IsBuilder 58 5 b b (Lib.byteCells ((prices_Format.accL (prices_Format.gI l0 terms) T ++ prices_Format.accL (prices_Format.gD l1 terms) (i)) ++ prices_Format.lineL n 10 [prices_Format.kwD, t])) w3 from hI3)
    have HB3 := Aside0.mk hB3; clear hI3 hB3
    go_wp2
    go_roundw
    case rel => exact ⟨i + 1, by omega, by go_num, by have h9 := prices_Format.foR_step HI3.out HB3.out HBW0.out (by rw [← HGE.out, ← HNX.out]; have h8 := HLI.out T (Nat.le_refl _); have h9 := HLD.out (i + 1) (by omega); simp only [List.length_append]; omega); rw [← HGE.out, ← HNX.out] at h9; exact h9⟩
    case measure => simp [intOf]; omega
  obtain ⟨hIB, hBel, hbw, hlen⟩ := hfr; have HBr := Aside0.mk (HB2.out.trans (hBel.mono HWB.out)); obtain ⟨ad0, hA0, hcell⟩ := prices_Format.c_int (Kd.C_below HR0.out HBr.out) i (by have := HL0.out; have := HTE.out; omega)
  subst hA0; obtain ⟨adT, hAT, hcellT⟩ := prices_Format.c_str (Kd.C_below HT.out HBr.out) i (by have := HTE.out; omega)
  subst hAT; have HIB := Aside0.mk hIB; have HBel := Aside0.mk hBel; have HBWr := Aside0.mk hbw; have HLEN := Aside0.mk hlen; have hsm := prices_Format.small_getD HS0.out i; have hsz := prices_Format.size_getD HTS.out i; clear hIB hBel hbw hlen; have HNX := Aside0.mk (show prices_Format.accL (prices_Format.gI l0 terms) (i + 1) = prices_Format.accL (prices_Format.gI l0 terms) (i) ++ prices_Format.gI l0 terms i by rfl)
  have HGE := Aside0.mk (show prices_Format.gI l0 terms i = prices_Format.lineL (l0.getD i 0) 10 [prices_Format.kwI, terms.getD i ByteArray.empty] from rfl)
  generalize terms.getD i ByteArray.empty = t at *
  generalize l0.getD i 0 = n at *
  have HSM := Aside0.mk hsm; have HSZ := Aside0.mk hsz; clear hsm hsz
  go_wp2_with fail
  refine (prices_Format.say_calls n 10 b 2 [prices_Format.kwI, t] _ w2 wr (Glob.below HG.out HBr.out) rfl (by decide) HIB.out HBWr.out HSM.out (prices_Format.words2 (by decide) HSZ.out) HLEN.out HBel.out).mono ?_
  rintro e w3 ⟨rfl, hI3, hB3⟩; have HI3 := Aside0.mk (show Lib.IsBuilder 58 5 b b (Lib.byteCells ((prices_Format.accL (prices_Format.gI l0 terms) (i)) ++ prices_Format.lineL n 10 [prices_Format.kwI, t])) w3 from hI3)
  have HB3 := Aside0.mk hB3; clear hI3 hB3
  go_wp2
  go_roundw
  case rel => exact ⟨i + 1, by omega, by go_num, by have h9 := prices_Format.foR_step HI3.out HB3.out HBW0.out (by rw [← HGE.out, ← HNX.out]; have := HLI.out (i + 1) (by omega); omega); rw [← HGE.out, ← HNX.out] at h9; exact h9⟩
  case measure => simp [intOf]; omega
set_option maxRecDepth 100000 in
set_option maxHeartbeats 4000000 in
theorem prices_Format.fo_no1 (k : Nat) (A0 : Option Addr) (c0 n0 : Nat) (A1 : Option Addr) (c1 n1 : Nat) (A2 : Option Addr) (c2 n2 : Nat) (s u : Int) (A : Option Addr) (c : Nat) (terms : List ByteArray) (w : World)
  (hT : Kd.C Kd.string w A terms.length terms) (hc : terms.length ≤ c) (hn : prices_names.f k terms = some false) :
  Calls Tryz.prog 19 #[.agg #[.slice A0 n0 c0, .slice A1 n1 c1, .slice A2 n2 c2, .int .i64 s, .int .i64 u], .slice A terms.length c] w fun e w' => e = .returned (.tuple #[.string ⟨#[]⟩, .int .i64 1]) ∧ Below w.heap.size w w' := by
 have hu25 := Tryz.underlying25; have HN := Aside0.mk hn; have HT := Aside0.mk hT; clear hn hT
 go_enter Tryz.func19, Tryz.ntmps19
 go_wp2_with fail
 have hba := below_alloc (Below.refl w.heap.size w) (.cells #[.slice A0 n0 c0, .slice A1 n1 c1, .slice A2 n2 c2, .int .i64 s, .int .i64 u] 25)
 refine (prices_names.calls k A c terms false _ (Kd.C_below HT.out hba) hc HN.out).mono ?_
 rintro e w1 ⟨rfl, hb1⟩; have HB1 := Aside0.mk (below_step hba hb1); clear hba hb1
 go_wp2
 go_ret2
 exact ⟨rfl, HB1.out⟩
set_option maxRecDepth 100000 in
set_option maxHeartbeats 4000000 in
theorem prices_Format.fo_no2 (k : Nat) (A0 : Option Addr) (c0 : Nat) (l0 : List Int) (A1 : Option Addr) (c1 : Nat) (l1 : List Int) (A2 : Option Addr) (c2 : Nat) (l2 : List (List Int)) (s u : Int) (A : Option Addr) (c : Nat) (terms : List ByteArray) (w : World)
  (hr0 : Kd.C (Kd.int .i64) w A0 l0.length l0) (hc0 : l0.length ≤ c0) (hr1 : Kd.C (Kd.int .i64) w A1 l1.length l1) (hc1 : l1.length ≤ c1) (hr2 : Kd.C (Kd.slice 3 (Kd.int .i64)) w A2 l2.length l2) (hc2 : l2.length ≤ c2) (hT : Kd.C Kd.string w A terms.length terms) (hc : terms.length ≤ c)
  (hn : prices_names.f k terms = some true) (hv : prices_Valid.f k l0 l1 l2 s u terms.length = some false) :
  Calls Tryz.prog 19 #[.agg #[.slice A0 l0.length c0, .slice A1 l1.length c1, .slice A2 l2.length c2, .int .i64 s, .int .i64 u], .slice A terms.length c] w fun e w' => e = .returned (.tuple #[.string ⟨#[]⟩, .int .i64 1]) ∧ Below w.heap.size w w' := by
 have hu25 := Tryz.underlying25; have HN := Aside0.mk hn; have HV := Aside0.mk hv; have HR0 := Aside0.mk hr0; have HR1 := Aside0.mk hr1; have HR2 := Aside0.mk hr2; have HT := Aside0.mk hT; have hTm := hT.2.1; obtain ⟨n0, h0⟩ : ∃ n0, n0 = l0.length := ⟨_, rfl⟩
 obtain ⟨n1, h1⟩ : ∃ n1, n1 = l1.length := ⟨_, rfl⟩
 obtain ⟨n2, h2⟩ : ∃ n2, n2 = l2.length := ⟨_, rfl⟩
 obtain ⟨T, h3⟩ : ∃ T, T = terms.length := ⟨_, rfl⟩
 have H0 := Aside0.mk h0; have H1 := Aside0.mk h1; have H2 := Aside0.mk h2; have H3 := Aside0.mk h3
 rw [← h0, ← h1, ← h2, ← h3]
 rw [← h0] at hc0
 rw [← h1] at hc1
 rw [← h2] at hc2
 rw [← h3] at hc hTm
 clear hn hv hr0 hr1 hr2 hT h0 h1 h2 h3
 go_enter Tryz.func19, Tryz.ntmps19
 go_wp2_with fail
 have hba := below_alloc (Below.refl w.heap.size w) (.cells #[.slice A0 n0 c0, .slice A1 n1 c1, .slice A2 n2 c2, .int .i64 s, .int .i64 u] 25); have key := prices_names.calls k A c terms true _ (Kd.C_below HT.out hba) (by have := H3.out; omega) HN.out
 rw [← H3.out] at key
 refine key.mono ?_
 clear key; rintro e w1 ⟨rfl, hb1⟩; have HB1 := Aside0.mk (below_step hba hb1); have HX1 := Aside0.mk ((hb1.block w.heap.size (blk_lt (blk_new w _))).trans (blk_new w _)); obtain ⟨hx0, hx1, hx2, hx3, hx4⟩ := prices_Format.cell25 HX1.out; clear hb1 hba
 go_wp2_with fail
 have key := prices_Valid.calls k A0 c0 l0 A1 c1 l1 A2 c2 l2 s u terms.length false w1 (Kd.C_below HR0.out HB1.out) (by have := H0.out; omega) (Kd.C_below HR1.out HB1.out) (by have := H1.out; omega) (Kd.C_below HR2.out HB1.out) (by have := H2.out; omega) HV.out
 rw [← H0.out, ← H1.out, ← H2.out, ← H3.out] at key
 refine key.mono ?_
 clear key; rintro e w2 ⟨rfl, hb2⟩; have HB2 := Aside0.mk (below_step HB1.out hb2); clear hb2
 go_wp2
 go_ret2
 exact ⟨rfl, HB2.out⟩
def prices_Format.f (k : Nat) (l0_0 : List Int) (l0_1 : List Int) (l0_2 : List (List Int)) (a0_3 : Int) (a0_4 : Int) (l1 : List ByteArray) : Option (ByteArray × Int) := (prices_names.f k l1).bind fun b => if b = true then ((prices_Valid.f k l0_0 l0_1 l0_2 a0_3 a0_4 l1.length).bind fun v => if v = true then (if prices_Format.fmtOk l0_0 l0_1 l0_2 a0_3 a0_4 l1 = true then some (⟨(prices_Format.fmtB l0_0 l0_1 l0_2 a0_3 a0_4 l1).toArray⟩, 0) else none) else some (⟨#[]⟩, 1)) else some (⟨#[]⟩, 1)
theorem prices_Format.calls (k : Nat) (A0_0 : Option Addr) (c0_0 : Nat) (l0_0 : List Int) (A0_1 : Option Addr) (c0_1 : Nat) (l0_1 : List Int) (A0_2 : Option Addr) (c0_2 : Nat) (l0_2 : List (List Int)) (a0_3 : Int) (a0_4 : Int) (A1 : Option Addr) (c1 : Nat) (l1 : List ByteArray) (r1 : ByteArray) (r2 : Int) (w : World) (hr0_0 : Kd.C (Kd.int .i64) w A0_0 l0_0.length l0_0) (hc0_0 : l0_0.length ≤ c0_0) (hr0_1 : Kd.C (Kd.int .i64) w A0_1 l0_1.length l0_1) (hc0_1 : l0_1.length ≤ c0_1) (hr0_2 : Kd.C (Kd.slice 3 (Kd.int .i64)) w A0_2 l0_2.length l0_2) (hc0_2 : l0_2.length ≤ c0_2) (hr1 : Kd.C Kd.string w A1 l1.length l1) (hc1 : l1.length ≤ c1) (hG : Glob w) (h : prices_Format.f k l0_0 l0_1 l0_2 a0_3 a0_4 l1 = some (r1, r2)) :
  Calls Tryz.prog 19 #[.agg #[.slice A0_0 l0_0.length c0_0, .slice A0_1 l0_1.length c0_1, .slice A0_2 l0_2.length c0_2, .int .i64 a0_3, .int .i64 a0_4], .slice A1 l1.length c1] w fun e w' => e = .returned (.tuple #[.string r1, .int .i64 r2]) ∧ Below w.heap.size w w' := by
 unfold prices_Format.f at h
 obtain ⟨b, hb, h⟩ := Option.bind_eq_some_iff.mp h
 cases b with
 | false =>
  simp only [Bool.false_eq_true, if_false, Option.some.injEq, Prod.mk.injEq] at h
  obtain ⟨rfl, rfl⟩ := h
  exact prices_Format.fo_no1 k A0_0 c0_0 _ A0_1 c0_1 _ A0_2 c0_2 _ a0_3 a0_4 A1 c1 l1 w hr1 hc1 hb
 | true =>
  rw [if_pos rfl] at h
  obtain ⟨v, hv, h⟩ := Option.bind_eq_some_iff.mp h
  cases v with
  | false =>
   simp only [Bool.false_eq_true, if_false, Option.some.injEq, Prod.mk.injEq] at h
   obtain ⟨rfl, rfl⟩ := h
   exact prices_Format.fo_no2 k A0_0 c0_0 l0_0 A0_1 c0_1 l0_1 A0_2 c0_2 l0_2 a0_3 a0_4 A1 c1 l1 w hr0_0 hc0_0 hr0_1 hc0_1 hr0_2 hc0_2 hr1 hc1 hb hv
  | true =>
   rw [if_pos rfl] at h
   split at h
   ·
    rename_i hok
    simp only [Option.some.injEq, Prod.mk.injEq] at h
    obtain ⟨rfl, rfl⟩ := h
    exact prices_Format.fo_yes k A0_0 c0_0 l0_0 A0_1 c0_1 l0_1 A0_2 c0_2 l0_2 a0_3 a0_4 A1 c1 l1 w hG hr0_0 hc0_0 hr0_1 hc0_1 hr0_2 hc0_2 hr1 hc1 hb hv hok
   ·
    cases h
end
section
def emendatelaw34_awake.sA : ByteArray := ⟨#[97]⟩
def emendatelaw34_awake.sB : ByteArray := ⟨#[98]⟩
def emendatelaw34_awake.tx1 : ByteArray := ⟨#[105, 110, 115, 101, 114, 116, 32, 97, 32, 51, 32, 35, 32, 99, 104, 101, 97, 112, 10, 10, 114, 101, 112, 108, 97, 99, 101, 32, 97, 32, 98, 32, 110, 101, 118, 101, 114, 10]⟩
def emendatelaw34_awake.tx2 : ByteArray := ⟨#[115, 119, 97, 112, 32, 49, 10, 115, 119, 97, 112, 32, 120]⟩
def emendatelaw34_awake.tx3 : ByteArray := ⟨#[105, 110, 115, 101, 114, 116, 32, 99, 32, 50]⟩
theorem emendatelaw34_awake.q1 : prices_Parse.f 100 emendatelaw34_awake.tx1 [emendatelaw34_awake.sA, emendatelaw34_awake.sB] = some ([3, 10], [10, 10], [[0, -1], [15, 0]], 12, 8, 0, 0) := by kernel_rfl
theorem emendatelaw34_awake.q2 : prices_Format.f 100 [3, 10] [10, 10] [[0, -1], [15, 0]] 12 8 [emendatelaw34_awake.sA, emendatelaw34_awake.sB] = some ((⟨#[105, 110, 115, 101, 114, 116, 32, 97, 32, 51, 10, 114, 101, 112, 108, 97, 99, 101, 32, 97, 32, 98, 32, 110, 101, 118, 101, 114, 10]⟩ : ByteArray), 0) := by kernel_rfl
theorem emendatelaw34_awake.q3 : prices_Parse.f 100 emendatelaw34_awake.tx2 [emendatelaw34_awake.sA, emendatelaw34_awake.sB] = some ([], [], [], 0, 0, 2, 3) := by kernel_rfl
theorem emendatelaw34_awake.q4 : prices_Parse.f 100 emendatelaw34_awake.tx3 [emendatelaw34_awake.sA, emendatelaw34_awake.sB] = some ([], [], [], 0, 0, 1, 4) := by kernel_rfl
theorem emendatelaw34_awake.q5 : prices_Valid.f 100 [3, 10] [10, 10] [[0, -1], [15, 0]] 12 8 2 = some true := by kernel_rfl
theorem emendatelaw34_awake.q6 : prices_Valid.f 100 [3, 10] [10, 10] [[0, -1], [15, 0]] 12 8 1 = some false := by kernel_rfl
theorem emendatelaw34_awake.q7 : prices_Default.f 100 0 = some ([], [], [], 12, 8) := by kernel_rfl
theorem emendatelaw34_awake.q8 : emendateref34_Same.f 100 [3, 10] [10, 10] [[0, -1], [15, 0]] 12 8 [3, 10] [10, 10] [[0, -1], [15, 0]] 12 8 = some true := by kernel_rfl
theorem emendatelaw34_awake.q9 : emendateref34_Same.f 100 [] [] [] 12 8 [] [] [] 12 8 = some true := by kernel_rfl
theorem emendatelaw34_awake.litC2 (W : World) (a b : ByteArray) : Kd.C Kd.string (W.alloc (.cells #[.string a, .string b] 9)) (some ⟨W.heap.size, 0, none⟩) 2 [a, b] := by
 have h := World.ownsRow_lit (base := 0) (e := 9) (size := 1) W #[.string a, .string b] 2 (Nat.zero_le _) (by unfold maxLen; omega) (by simp)
 exact (Kd.R_reads' (Kd.R_of_own (h1 := fun _ => rfl) (ok := fun _ => True) h (fun _ _ => trivial))).2.2
theorem emendatelaw34_awake.litI2 (W : World) (a b : Int) : Kd.C (Kd.int .i64) (W.alloc (.cells #[.int .i64 a, .int .i64 b] 3)) (some ⟨W.heap.size, 0, none⟩) 2 [a, b] := by
 have h := World.ownsRow_lit (base := 0) (e := 3) (size := 1) W #[.int .i64 a, .int .i64 b] 2 (Nat.zero_le _) (by unfold maxLen; omega) (by simp)
 exact (Kd.R_reads' (Kd.R_of_own (h1 := fun _ => rfl) (ok := fun _ => True) h (fun _ _ => trivial))).2.2
theorem emendatelaw34_awake.litS2 (W : World) (a b : List Int) (Aa Ab : Option Addr) (ca cb : Nat) (la : a.length ≤ ca) (lb : b.length ≤ cb) (ha : Kd.C (Kd.int .i64) W Aa a.length a) (hb : Kd.C (Kd.int .i64) W Ab b.length b) : Kd.C (Kd.slice 3 (Kd.int .i64)) (W.alloc (.cells #[.slice Aa a.length ca, .slice Ab b.length cb] 22)) (some ⟨W.heap.size, 0, none⟩) 2 [a, b] := by
 have hw := below_alloc (Below.refl W.heap.size W) (.cells #[.slice Aa a.length ca, .slice Ab b.length cb] 22); have hn := blk_new W (.cells #[.slice Aa a.length ca, .slice Ab b.length cb] 22)
 refine ⟨rfl, by decide, fun _ => ⟨_, rfl, fun j p hj => ?_⟩⟩
 rcases j with _ | _ | j
 ·
  obtain rfl : a = p := Option.some.inj hj
  refine ⟨[.slice Aa a.length ca], rfl, ⟨Aa, ca, rfl, la, Kd.C_below ha hw⟩, fun i u hu => ?_⟩
  rcases i with _ | i
  ·
   obtain rfl := Option.some.inj hu
   exact (blk_cell hn 0).trans rfl
  ·
   simp at hu
 ·
  obtain rfl : b = p := Option.some.inj hj
  refine ⟨[.slice Ab b.length cb], rfl, ⟨Ab, cb, rfl, lb, Kd.C_below hb hw⟩, fun i u hu => ?_⟩
  rcases i with _ | i
  ·
   obtain rfl := Option.some.inj hu
   exact (blk_cell hn 1).trans rfl
  ·
   simp at hu
 ·
  simp at hj
abbrev emendatelaw34_awake.wantC (S : Nat) : Array Value := #[.slice (some ⟨S, 0, none⟩) 2 2, .slice (some ⟨S + 1, 0, none⟩) 2 2, .slice (some ⟨S + 1 + 1 + 1 + 1, 0, none⟩) 2 2, .int .i64 12, .int .i64 8]
abbrev emendatelaw34_awake.wW1 (w2 : World) : World := w2.alloc (.cells #[.int .i64 3, .int .i64 10] 3)
abbrev emendatelaw34_awake.wW2 (w2 : World) : World := (emendatelaw34_awake.wW1 w2).alloc (.cells #[.int .i64 10, .int .i64 10] 3)
abbrev emendatelaw34_awake.wW3 (w2 : World) : World := (emendatelaw34_awake.wW2 w2).alloc (.cells #[.int .i64 0, .int .i64 (-1)] 3)
abbrev emendatelaw34_awake.wW4 (w2 : World) : World := (emendatelaw34_awake.wW3 w2).alloc (.cells #[.int .i64 15, .int .i64 0] 3)
abbrev emendatelaw34_awake.wW5 (w2 : World) : World := (emendatelaw34_awake.wW4 w2).alloc (.cells #[.slice (some ⟨w2.heap.size + 1 + 1, 0, none⟩) 2 2, .slice (some ⟨w2.heap.size + 1 + 1 + 1, 0, none⟩) 2 2] 22)
abbrev emendatelaw34_awake.wW6 (w2 : World) : World := (emendatelaw34_awake.wW5 w2).alloc (.cells (emendatelaw34_awake.wantC w2.heap.size) 25)
theorem emendatelaw34_awake.al_sz (w : World) (o : Obj) : (w.alloc o).heap.size = w.heap.size + 1 := by
 show (w.heap.push o).size = _
 exact Array.size_push _
theorem emendatelaw34_awake.want_ok (w2 : World) : Kd.C (Kd.int .i64) (emendatelaw34_awake.wW6 w2) (some ⟨w2.heap.size, 0, none⟩) 2 [3, 10] ∧ Kd.C (Kd.int .i64) (emendatelaw34_awake.wW6 w2) (some ⟨w2.heap.size + 1, 0, none⟩) 2 [10, 10] ∧ Kd.C (Kd.slice 3 (Kd.int .i64)) (emendatelaw34_awake.wW6 w2) (some ⟨w2.heap.size + 1 + 1 + 1 + 1, 0, none⟩) 2 [[0, -1], [15, 0]] ∧ (emendatelaw34_awake.wW6 w2).heap[w2.heap.size + 1 + 1 + 1 + 1 + 1]? = some (.cells (emendatelaw34_awake.wantC w2.heap.size) 25 (0, 0)) ∧ Below w2.heap.size w2 (emendatelaw34_awake.wW6 w2) := by
 have e1 : (emendatelaw34_awake.wW1 w2).heap.size = w2.heap.size + 1 := emendatelaw34_awake.al_sz _ _; have e2 : (emendatelaw34_awake.wW2 w2).heap.size = w2.heap.size + 1 + 1 := (emendatelaw34_awake.al_sz _ _).trans (by rw [e1])
 have e3 : (emendatelaw34_awake.wW3 w2).heap.size = w2.heap.size + 1 + 1 + 1 := (emendatelaw34_awake.al_sz _ _).trans (by rw [e2])
 have e4 : (emendatelaw34_awake.wW4 w2).heap.size = w2.heap.size + 1 + 1 + 1 + 1 := (emendatelaw34_awake.al_sz _ _).trans (by rw [e3])
 have e5 : (emendatelaw34_awake.wW5 w2).heap.size = w2.heap.size + 1 + 1 + 1 + 1 + 1 := (emendatelaw34_awake.al_sz _ _).trans (by rw [e4])
 have c1 := emendatelaw34_awake.litI2 w2 3 10; have c2 := emendatelaw34_awake.litI2 (emendatelaw34_awake.wW1 w2) 10 10; have c3 := emendatelaw34_awake.litI2 (emendatelaw34_awake.wW2 w2) 0 (-1); have c4 := emendatelaw34_awake.litI2 (emendatelaw34_awake.wW3 w2) 15 0
 rw [e1] at c2
 rw [e2] at c3
 rw [e3] at c4
 have c3' := Kd.C_alloc c3 (.cells #[.int .i64 15, .int .i64 0] 3); have c5 := emendatelaw34_awake.litS2 (emendatelaw34_awake.wW4 w2) [0, -1] [15, 0] (some ⟨w2.heap.size + 1 + 1, 0, none⟩) (some ⟨w2.heap.size + 1 + 1 + 1, 0, none⟩) 2 2 (Nat.le_refl _) (Nat.le_refl _) c3' c4
 rw [e4] at c5
 have c6 := blk_new (emendatelaw34_awake.wW5 w2) (.cells (emendatelaw34_awake.wantC w2.heap.size) 25)
 rw [e5] at c6
 exact ⟨Kd.C_alloc (Kd.C_alloc (Kd.C_alloc (Kd.C_alloc (Kd.C_alloc c1 _) _) _) _) _, Kd.C_alloc (Kd.C_alloc (Kd.C_alloc (Kd.C_alloc c2 _) _) _) _, Kd.C_alloc c5 _, c6, below_alloc (below_alloc (below_alloc (below_alloc (below_alloc (below_alloc (Below.refl _ _) _) _) _) _) _) _⟩
set_option maxRecDepth 100000 in
set_option maxHeartbeats 4000000 in
theorem emendatelaw34_awake.awake_true (w : World) (hG : Glob w) : Calls Tryz.prog 10 #[] w fun e w' => e = .returned (.bool true) ∧ Below w.heap.size w w' := by
 have hu25 := Tryz.underlying25; have HG := Aside0.mk hG; clear hG
 go_enter Tryz.func10, Tryz.ntmps10
 go_wp2_with fail
 have hb0 := below_alloc (Below.refl w.heap.size w) (.cells #[.string emendatelaw34_awake.sA, .string emendatelaw34_awake.sB] 9)
 refine (prices_Parse.calls 100 emendatelaw34_awake.tx1 (some ⟨w.heap.size, 0, none⟩) 2 [emendatelaw34_awake.sA, emendatelaw34_awake.sB] _ _ _ _ _ _ _ _ (emendatelaw34_awake.litC2 w emendatelaw34_awake.sA emendatelaw34_awake.sB) (Nat.le_refl _) (Glob.below HG.out hb0) emendatelaw34_awake.q1).mono ?_
 rintro e w1 ⟨v0, v1, v2, rfl, hr0, hr1, hr2, hb1⟩; have HT1 := Aside0.mk (Kd.C_below (emendatelaw34_awake.litC2 w emendatelaw34_awake.sA emendatelaw34_awake.sB) hb1); have HB1 := Aside0.mk (below_step hb0 hb1); have ho0 := (Kd.R_val hr0).2; have ho1 := (Kd.R_val hr1).2; have ho2 := (Kd.R_val (Kd.S_R hr2)).2; obtain ⟨A0, c0, rfl, hc0, hC0⟩ := Kd.R_reads hr0; obtain ⟨A1, c1, rfl, hc1, hC1⟩ := Kd.R_reads hr1; obtain ⟨A2, c2, rfl, hc2, hC2⟩ := Kd.S_reads hr2; have HC0 := Aside0.mk hC0; have HC1 := Aside0.mk hC1; have HC2 := Aside0.mk hC2; clear hr0 hr1 hr2 hb1 hb0 hC0 hC1 hC2
 go_wp2_with (refine prices_Parse.ev25 rfl rfl rfl rfl rfl (blk_new w1 _) rfl ho0 ho1 ho2 rfl rfl ?_; intro w2 hb2 hk2 hc2' hs2; have HB12 := Aside0.mk ((below_alloc (Below.refl w1.heap.size w1) _).trans hb2); have HP := Aside0.mk hc2'; clear hb2 hk2 hc2' hs2)
 have HW := Aside0.mk (emendatelaw34_awake.want_ok w2); have HB6 := Aside0.mk (below_step (below_step HB1.out HB12.out) HW.out.2.2.2.2); have HB26 := Aside0.mk (below_step HB12.out HW.out.2.2.2.2)
 refine (prices_Format.calls 100 (some ⟨w2.heap.size, 0, none⟩) 2 [3, 10] (some ⟨w2.heap.size + 1, 0, none⟩) 2 [10, 10] (some ⟨w2.heap.size + 1 + 1 + 1 + 1, 0, none⟩) 2 [[0, -1], [15, 0]] 12 8 (some ⟨w.heap.size, 0, none⟩) 2 [emendatelaw34_awake.sA, emendatelaw34_awake.sB] _ _ (emendatelaw34_awake.wW6 w2) HW.out.1 (Nat.le_refl _) HW.out.2.1 (Nat.le_refl _) HW.out.2.2.1 (Nat.le_refl _) (Kd.C_below HT1.out HB26.out) (Nat.le_refl _) (Glob.below HG.out HB6.out) emendatelaw34_awake.q2).mono ?_
 rintro e w7 ⟨rfl, hb7⟩; have HB17 := Aside0.mk (below_step HB26.out hb7); have HB67 := Aside0.mk hb7; clear hb7
 go_wp2_with fail
 refine (prices_Parse.calls 100 emendatelaw34_awake.tx2 (some ⟨w.heap.size, 0, none⟩) 2 [emendatelaw34_awake.sA, emendatelaw34_awake.sB] _ _ _ _ _ _ _ _ (Kd.C_below HT1.out HB17.out) (Nat.le_refl _) (Glob.below HG.out (below_step HB1.out HB17.out)) emendatelaw34_awake.q3).mono ?_
 rintro e w8 ⟨y0, y1, y2, rfl, hr0, hr1, hr2, hb8⟩; have ho0' := (Kd.R_val hr0).2; have ho1' := (Kd.R_val hr1).2; have ho2' := (Kd.R_val (Kd.S_R hr2)).2; have HB68 := Aside0.mk (below_step HB67.out hb8); clear hr0 hr1 hr2 hb8 ho0 ho1 ho2
 go_wp2_with (refine prices_Parse.ev25 rfl rfl rfl rfl rfl (blk_new w8 _) rfl ho0' ho1' ho2' rfl rfl ?_; intro w9 hb9 hk9 hc9 hs9; have HB69 := Aside0.mk (below_step HB68.out ((below_alloc (Below.refl w8.heap.size w8) _).trans hb9)); clear hb9 hk9 hc9 hs9)
 have HB19 := Aside0.mk (below_step HB26.out HB69.out)
 refine (prices_Parse.calls 100 emendatelaw34_awake.tx3 (some ⟨w.heap.size, 0, none⟩) 2 [emendatelaw34_awake.sA, emendatelaw34_awake.sB] _ _ _ _ _ _ _ _ (Kd.C_below HT1.out HB19.out) (Nat.le_refl _) (Glob.below HG.out (below_step HB1.out HB19.out)) emendatelaw34_awake.q4).mono ?_
 rintro e w10 ⟨z0, z1, z2, rfl, hr0, hr1, hr2, hb10⟩; have ho0'' := (Kd.R_val hr0).2; have ho1'' := (Kd.R_val hr1).2; have ho2'' := (Kd.R_val (Kd.S_R hr2)).2; have HB610 := Aside0.mk (below_step HB69.out hb10); clear hr0 hr1 hr2 hb10 ho0' ho1' ho2'
 go_wp2_with (refine prices_Parse.ev25 rfl rfl rfl rfl rfl (blk_new w10 _) rfl ho0'' ho1'' ho2'' rfl rfl ?_; intro w11 hb11 hk11 hc11 hs11; have HB611 := Aside0.mk (below_step HB610.out ((below_alloc (Below.refl w10.heap.size w10) _).trans hb11)); clear hb11 hk11 hc11 hs11; have HB111 := Aside0.mk (below_step HB26.out HB611.out); obtain ⟨hp0, hp1, hp2, hp3, hp4⟩ := prices_Parse.cell25 (((below_step HW.out.2.2.2.2 HB611.out).block _ (blk_lt HP.out)).trans HP.out); obtain ⟨hw0, hw1, hw2, hw3, hw4⟩ := prices_Parse.cell25 ((HB611.out.block _ (blk_lt HW.out.2.2.2.1)).trans HW.out.2.2.2.1))
 have HB212 := Aside0.mk (below_step HB12.out (below_step HW.out.2.2.2.2 HB611.out))
 refine (emendateref34_Same.calls 100 A0 c0 [3, 10] A1 c1 [10, 10] A2 c2 [[0, -1], [15, 0]] 12 8 (some ⟨w2.heap.size, 0, none⟩) 2 [3, 10] (some ⟨w2.heap.size + 1, 0, none⟩) 2 [10, 10] (some ⟨w2.heap.size + 1 + 1 + 1 + 1, 0, none⟩) 2 [[0, -1], [15, 0]] 12 8 true w11 (Kd.C_below HC0.out HB212.out) hc0 (Kd.C_below HC1.out HB212.out) hc1 (Kd.C_below HC2.out HB212.out) hc2 (Kd.C_below HW.out.1 HB611.out) (Nat.le_refl _) (Kd.C_below HW.out.2.1 HB611.out) (Nat.le_refl _) (Kd.C_below HW.out.2.2.1 HB611.out) (Nat.le_refl _) emendatelaw34_awake.q8).mono ?_
 rintro e w12 ⟨rfl, hb12⟩; have HB612 := Aside0.mk (below_step HB611.out hb12); clear hp0 hp1 hp2 hp3 hp4 hw0 hw1 hw2 hw3 hw4 hb12 ho0'' ho1'' ho2''; obtain ⟨hw0, hw1, hw2, hw3, hw4⟩ := prices_Parse.cell25 ((HB612.out.block _ (blk_lt HW.out.2.2.2.1)).trans HW.out.2.2.2.1)
 go_wp2_with fail
 refine (prices_Valid.calls 100 (some ⟨w2.heap.size, 0, none⟩) 2 [3, 10] (some ⟨w2.heap.size + 1, 0, none⟩) 2 [10, 10] (some ⟨w2.heap.size + 1 + 1 + 1 + 1, 0, none⟩) 2 [[0, -1], [15, 0]] 12 8 2 true w12 (Kd.C_below HW.out.1 HB612.out) (Nat.le_refl _) (Kd.C_below HW.out.2.1 HB612.out) (Nat.le_refl _) (Kd.C_below HW.out.2.2.1 HB612.out) (Nat.le_refl _) emendatelaw34_awake.q5).mono ?_
 rintro e w13 ⟨rfl, hb13⟩; have HB613 := Aside0.mk (below_step HB612.out hb13); clear hw0 hw1 hw2 hw3 hw4 hb13; obtain ⟨hw0, hw1, hw2, hw3, hw4⟩ := prices_Parse.cell25 ((HB613.out.block _ (blk_lt HW.out.2.2.2.1)).trans HW.out.2.2.2.1)
 go_wp2_with fail
 refine (prices_Valid.calls 100 (some ⟨w2.heap.size, 0, none⟩) 2 [3, 10] (some ⟨w2.heap.size + 1, 0, none⟩) 2 [10, 10] (some ⟨w2.heap.size + 1 + 1 + 1 + 1, 0, none⟩) 2 [[0, -1], [15, 0]] 12 8 1 false w13 (Kd.C_below HW.out.1 HB613.out) (Nat.le_refl _) (Kd.C_below HW.out.2.1 HB613.out) (Nat.le_refl _) (Kd.C_below HW.out.2.2.1 HB613.out) (Nat.le_refl _) emendatelaw34_awake.q6).mono ?_
 rintro e w14 ⟨rfl, hb14⟩; have HB614 := Aside0.mk (below_step HB613.out hb14); clear hw0 hw1 hw2 hw3 hw4 hb14
 go_wp2_with fail
 refine (prices_Default.calls 100 0 [] [] [] 12 8 w14 emendatelaw34_awake.q7).mono ?_
 rintro e w15 ⟨d0, d1, d2, rfl, hr0, hr1, hr2, hb15⟩; obtain ⟨D0, e0, rfl, he0, hD0⟩ := Kd.R_reads hr0; obtain ⟨D1, e1, rfl, he1, hD1⟩ := Kd.R_reads hr1; obtain ⟨D2, e2, rfl, he2, hD2⟩ := Kd.S_reads hr2; have HD0 := Aside0.mk hD0; have HD1 := Aside0.mk hD1; have HD2 := Aside0.mk hD2; have HB615 := Aside0.mk (below_step HB614.out hb15); clear hr0 hr1 hr2 hb15 hD0 hD1 hD2
 go_wp2_with fail
 refine (emendateref34_Same.calls 100 D0 e0 [] D1 e1 [] D2 e2 [] 12 8 none 0 [] none 0 [] none 0 [] 12 8 true w15 HD0.out he0 HD1.out he1 HD2.out he2 (Kd.C_nil _ _) (Nat.le_refl _) (Kd.C_nil _ _) (Nat.le_refl _) (Kd.C_nil _ _) (Nat.le_refl _) emendatelaw34_awake.q9).mono ?_
 rintro e w16 ⟨rfl, hb16⟩; have HBF := Aside0.mk (below_step (below_step (below_step HB1.out HB12.out) HW.out.2.2.2.2) (below_step HB615.out hb16)); clear hb16
 go_wp2
 go_ret
 exact ⟨rfl, HBF.out⟩
end
def emendatelaw34_awake.f : Option Bool := some true
theorem emendatelaw34_awake.calls (r : Bool) (w : World) (hG : Glob w) (h : emendatelaw34_awake.f = some r) :
  Calls Tryz.prog 10 #[] w fun e w' => e = .returned (.bool r) ∧ Below w.heap.size w w' := by
 obtain rfl := Option.some.inj h
 exact emendatelaw34_awake.awake_true w hG
end Go.Proofs.YtdcfcpgpbbgceaaGreatDoor.PAll
-- dedented
