-- printed by a variant of the print (wip/mkprint.py)
import Derived.Test.YtdcfcpgpbbgceaaGreatDoorPAllx0
import Derived.Test.YtdcfcpgpbbgceaaGreatDoorPAllx1
import Derived.Test.YtdcfcpgpbbgceaaGreatDoorPAllx4
import Derived.Test.YtdcfcpgpbbgceaaGreatDoorPAllx5
import Derived.Test.YtdcfcpgpbbgceaaGreatDoorPAllx6
namespace Go.Proofs.YtdcfcpgpbbgceaaGreatDoor.PAll
open Go.RowKit Go.Proofs.YtdcfcpgpbbgceaaGreatDoorW.PrintWords Go.Proofs.YtdcfcpgpbbgceaaGreatDoorW.PrintLast Go.Proofs.YtdcfcpgpbbgceaaGreatDoorW.PrintMore
attribute [local go_sem] max2_int min2_int max_two min_two max_three min_three max_four min_four   -- for this text's walks alone
set_option linter.unusedVariables false
set_option linter.unusedSimpArgs false
section
open Kd
abbrev prices_Parse.PT := List Int × List Int × List (List Int) × Int × Int
def prices_Parse.PM (w : World) (B g : Nat) (P : prices_Parse.PT) : Prop := B ≤ g ∧ ∃ v0 v1 v2 : Value, w.heap[g]? = some (.cells #[v0, v1, v2, .int .i64 P.2.2.2.1, .int .i64 P.2.2.2.2] 25 (0, 0)) ∧ Kd.R (Kd.int .i64) 3 w B (fun k_ => some k_ ≠ (v1 : Value).ownBlock) v0 P.1 ∧ Kd.R (Kd.int .i64) 3 w B (fun k_ => some k_ ≠ (v0 : Value).ownBlock) v1 P.2.1 ∧ Kd.S (Kd.slice 3 (Kd.int .i64)) 22 w B (fun k_ => some k_ ≠ (v0 : Value).ownBlock ∧ some k_ ≠ (v1 : Value).ownBlock) v2 P.2.2.1
theorem prices_Parse.pm_below {w w1 : World} {B g : Nat} {P : prices_Parse.PT} (h : prices_Parse.PM w B g P) (hb : Below w.heap.size w w1) : prices_Parse.PM w1 B g P := by
 obtain ⟨h0, v0, v1, v2, hc, h1, h2, h3⟩ := h
 exact ⟨h0, v0, v1, v2, (hb.block g (blk_lt hc)).trans hc, R_below h1 hb, R_below h2 hb, S_below h3 hb⟩
def prices_Parse.K9 (w w1 : World) : Prop := ∀ (k : Nat) (cells : Array Value), w.heap[k]? = some (.cells cells 9 (0, 0)) → w1.heap[k]? = w.heap[k]?
theorem prices_Parse.k9_set {w : World} {tb i : Nat} {cells : Array Value} {t : Nat} (hc : w.heap[tb]? = some (.cells cells t (0, 0))) (ht : t ≠ 9) (v : Value) : prices_Parse.K9 w (w.setCell ⟨tb, i, none⟩ v) := by
 intro k cs hk
 refine Below.heap_setCell w ⟨tb, i, none⟩ v k (fun e => ?_)
 subst e
 rw [hk] at hc
 injection hc with hc
 injection hc with _ hc
 exact ht hc.symm
theorem prices_Parse.ne_typed {w : World} {a b : Nat} {c1 c2 : Array Value} {t1 t2 : Nat} (h1 : w.heap[a]? = some (.cells c1 t1 (0, 0))) (h2 : w.heap[b]? = some (.cells c2 t2 (0, 0))) (h : t1 ≠ t2) : a ≠ b := by
 rintro rfl
 rw [h1] at h2
 injection h2 with h2
 injection h2 with _ h2
 exact h h2
theorem prices_Parse.tgt_ins {w : World} {B g : Nat} {P : prices_Parse.PT} {a : Int} (h : prices_Parse.PM w B g P) (h0 : 0 ≤ a) (h1 : a < P.1.length) : ∃ tb cap x cells, w.cell? ⟨g, 0, none⟩ = some (.slice (some ⟨tb, 0, none⟩) P.1.length cap) ∧ w.cell? ⟨tb, a.toNat, none⟩ = some (.int .i64 x) ∧ w.frozen? ⟨tb, a.toNat, none⟩ = false ∧ B ≤ tb ∧ w.heap[tb]? = some (.cells cells 3 (0, 0)) ∧ ∀ v, prices_Parse.PM (w.setCell ⟨tb, a.toNat, none⟩ (.int .i64 v)) B g (P.1.set a.toNat v, P.2) := by
 obtain ⟨hg, v0, v1, v2, hc, hr0, hr1, hr2⟩ := h; obtain ⟨tb, cap, rfl, hB, hlt, cells, hcells⟩ := R_form hr0 (by omega)
 have hs := R_cell (0 : Int) hr0 a h0 h1
 refine ⟨tb, cap, _, cells, ?_, hs.1, hs.2, hB, hcells, fun v => ⟨hg, .slice (some ⟨tb, 0, none⟩) P.1.length cap, v1, v2, ?_, ?_, ?_, ?_⟩⟩
 ·
  simp [World.cell?, hc]
 ·
  rw [Below.heap_setCell w ⟨tb, a.toNat, none⟩ _ g (prices_Parse.ne_typed hc hcells (by decide))]
  exact hc
 ·
  exact R_putn hr0 a v
 ·
  exact R_grown hr1 (R_putg hr0 a v).2 (fun k hk => hk)
 ·
  exact S_grown hr2 (R_putg hr0 a v).2 (fun k hk => hk.1)
theorem prices_Parse.tgt_del {w : World} {B g : Nat} {P : prices_Parse.PT} {a : Int} (h : prices_Parse.PM w B g P) (h0 : 0 ≤ a) (h1 : a < P.2.1.length) : ∃ tb cap x cells, w.cell? ⟨g, 1, none⟩ = some (.slice (some ⟨tb, 0, none⟩) P.2.1.length cap) ∧ w.cell? ⟨tb, a.toNat, none⟩ = some (.int .i64 x) ∧ w.frozen? ⟨tb, a.toNat, none⟩ = false ∧ B ≤ tb ∧ w.heap[tb]? = some (.cells cells 3 (0, 0)) ∧ ∀ v, prices_Parse.PM (w.setCell ⟨tb, a.toNat, none⟩ (.int .i64 v)) B g (P.1, P.2.1.set a.toNat v, P.2.2) := by
 obtain ⟨hg, v0, v1, v2, hc, hr0, hr1, hr2⟩ := h; obtain ⟨tb, cap, rfl, hB, hlt, cells, hcells⟩ := R_form hr1 (by omega)
 have hs := R_cell (0 : Int) hr1 a h0 h1
 refine ⟨tb, cap, _, cells, ?_, hs.1, hs.2, hB, hcells, fun v => ⟨hg, v0, .slice (some ⟨tb, 0, none⟩) P.2.1.length cap, v2, ?_, ?_, ?_, ?_⟩⟩
 ·
  simp [World.cell?, hc]
 ·
  rw [Below.heap_setCell w ⟨tb, a.toNat, none⟩ _ g (prices_Parse.ne_typed hc hcells (by decide))]
  exact hc
 ·
  exact R_grown hr0 (R_putg hr1 a v).2 (fun k hk => hk)
 ·
  exact R_putn hr1 a v
 ·
  exact S_grown hr2 (R_putg hr1 a v).2 (fun k hk => hk.2)
theorem prices_Parse.tgt_rep {w : World} {B g : Nat} {P : prices_Parse.PT} {a b : Int} (h : prices_Parse.PM w B g P) (h0 : 0 ≤ a) (h1 : a < P.2.2.1.length) (h2 : 0 ≤ b) (h3 : b < (P.2.2.1.getD a.toNat []).length) :
  ∃ rb rcap tb cap x cells, w.cell? ⟨g, 2, none⟩ = some (.slice (some ⟨rb, 0, none⟩) P.2.2.1.length rcap) ∧ w.cell? ⟨rb, a.toNat, none⟩ = some (.slice (some ⟨tb, 0, none⟩) (P.2.2.1.getD a.toNat []).length cap) ∧ w.cell? ⟨tb, b.toNat, none⟩ = some (.int .i64 x) ∧ w.frozen? ⟨tb, b.toNat, none⟩ = false ∧ B ≤ tb ∧ w.heap[tb]? = some (.cells cells 3 (0, 0)) ∧ ∀ v, prices_Parse.PM (w.setCell ⟨tb, b.toNat, none⟩ (.int .i64 v)) B g (P.1, P.2.1, P.2.2.1.set a.toNat ((P.2.2.1.getD a.toNat []).set b.toNat v), P.2.2.2) := by
 obtain ⟨hg, v0, v1, v2, hc, hr0, hr1, hr2⟩ := h; obtain ⟨rb, rcap, rfl, _, _, _⟩ := S_form hr2 (by omega)
 obtain ⟨oki, c, hcl, hM, hcc, hoki, hH⟩ := S_borrow hr2 ([] : List Int) a h0 h1; obtain ⟨v, rfl, hR⟩ := hM; obtain ⟨tb, cap, rfl, hB, hlt, cells, hcells⟩ := R_form hR (by omega)
 have hs := R_cell (0 : Int) hR b h2 h3; have hcv := hcc 0 _ rfl; have hsz : (Kd.slice 3 (Kd.int .i64)).sz = 1 := rfl
 rw [hsz, Nat.mul_one, Nat.add_zero, add_plain] at hcv
 have hoktb : oki tb := hR.1 tb (by simp [Value.ownBlock])
 have hok2 := (hoki tb hoktb).1
 refine ⟨rb, rcap, tb, cap, _, cells, ?_, hcv, hs.1, hs.2, hB, hcells, fun v => ⟨hg, v0, v1, .slice (some ⟨rb, 0, none⟩) P.2.2.1.length rcap, ?_, ?_, ?_, ?_⟩⟩
 ·
  simp [World.cell?, hc]
 ·
  rw [Below.heap_setCell w ⟨tb, b.toNat, none⟩ _ g (prices_Parse.ne_typed hc hcells (by decide))]
  exact hc
 ·
  exact R_mono (R_grown (R_tight rfl hr0) (R_putg hR b v).2 (fun k hk => by rw [hk]; exact fun e => hok2.1 e.symm)) (fun k hk => by have := hr0.1 k hk.symm; exact this)
 ·
  exact R_mono (R_grown (R_tight rfl hr1) (R_putg hR b v).2 (fun k hk => by rw [hk]; exact fun e => hok2.2 e.symm)) (fun k hk => by have := hr1.1 k hk.symm; exact this)
 ·
  exact hH (R_putg hR b v).2 (fun k hk => by injection hk with hk; rw [← hk]; exact hoktb) ⟨_, rfl, R_putn hR b v⟩
theorem prices_Parse.pm_set {w : World} {B g : Nat} {P P' : prices_Parse.PT} {v0 v1 v2 : Value} {i : Nat} {u : Value} (hg : B ≤ g) (hc : w.heap[g]? = some (.cells #[v0, v1, v2, .int .i64 P.2.2.2.1, .int .i64 P.2.2.2.2] 25 (0, 0))) (hr0 : Kd.R (Kd.int .i64) 3 w B (fun k_ => some k_ ≠ (v1 : Value).ownBlock) v0 P.1) (hr1 : Kd.R (Kd.int .i64) 3 w B (fun k_ => some k_ ≠ (v0 : Value).ownBlock) v1 P.2.1) (hr2 : Kd.S (Kd.slice 3 (Kd.int .i64)) 22 w B (fun k_ => some k_ ≠ (v0 : Value).ownBlock ∧ some k_ ≠ (v1 : Value).ownBlock) v2 P.2.2.1)
  (h0 : P'.1 = P.1) (h1 : P'.2.1 = P.2.1) (h2 : P'.2.2.1 = P.2.2.1) (hcs : (#[v0, v1, v2, .int .i64 P.2.2.2.1, .int .i64 P.2.2.2.2] : Array Value).setIfInBounds i u = #[v0, v1, v2, .int .i64 P'.2.2.2.1, .int .i64 P'.2.2.2.2]) : prices_Parse.PM (w.setCell ⟨g, i, none⟩ u) B g P' := by
 refine ⟨hg, v0, v1, v2, ?_, ?_, ?_, ?_⟩
 ·
  rw [blk_set hc, hcs]
 ·
  rw [h0]; exact R_set hr0 hc (by decide) _ _
 ·
  rw [h1]; exact R_set hr1 hc (by decide) _ _
 ·
  rw [h2]; exact S_set hr2 hc (by decide) _ _
theorem prices_Parse.tgt_swap {w : World} {B g : Nat} {P : prices_Parse.PT} (h : prices_Parse.PM w B g P) : ∃ cells x, w.cell? ⟨g, 3, none⟩ = some (.int .i64 x) ∧ w.frozen? ⟨g, 3, none⟩ = false ∧ B ≤ g ∧ w.heap[g]? = some (.cells cells 25 (0, 0)) ∧ ∀ v, prices_Parse.PM (w.setCell ⟨g, 3, none⟩ (.int .i64 v)) B g (P.1, P.2.1, P.2.2.1, v, P.2.2.2.2) := by
 obtain ⟨hg, v0, v1, v2, hc, hr0, hr1, hr2⟩ := h
 exact ⟨_, P.2.2.2.1, by simp [World.cell?, hc], by simp [World.frozen?, hc], hg, hc, fun v => prices_Parse.pm_set hg hc hr0 hr1 hr2 rfl rfl rfl rfl⟩
theorem prices_Parse.tgt_unk {w : World} {B g : Nat} {P : prices_Parse.PT} (h : prices_Parse.PM w B g P) : ∃ cells x, w.cell? ⟨g, 4, none⟩ = some (.int .i64 x) ∧ w.frozen? ⟨g, 4, none⟩ = false ∧ B ≤ g ∧ w.heap[g]? = some (.cells cells 25 (0, 0)) ∧ ∀ v, prices_Parse.PM (w.setCell ⟨g, 4, none⟩ (.int .i64 v)) B g (P.1, P.2.1, P.2.2.1, P.2.2.2.1, v) := by
 obtain ⟨hg, v0, v1, v2, hc, hr0, hr1, hr2⟩ := h
 exact ⟨_, P.2.2.2.2, by simp [World.cell?, hc], by simp [World.frozen?, hc], hg, hc, fun v => prices_Parse.pm_set hg hc hr0 hr1 hr2 rfl rfl rfl rfl⟩
def prices_Parse.idxFrom (s : ByteArray) : List ByteArray → Int → Int
 | [], _ => -1
 | z :: l, i => if z = s then i else prices_Parse.idxFrom s l (i + 1)
def prices_Parse.idxP (l : List ByteArray) (s : ByteArray) : Int := prices_Parse.idxFrom s l 0
theorem prices_Parse.idxFrom_rg (s : ByteArray) : ∀ (l : List ByteArray) (i : Int), 0 ≤ i → -1 ≤ prices_Parse.idxFrom s l i ∧ prices_Parse.idxFrom s l i < i + l.length
 | [], i, h => by simp [prices_Parse.idxFrom]; omega
 | z :: l, i, h => by
  unfold prices_Parse.idxFrom
  split
  ·
   simp; omega
  ·
   have := prices_Parse.idxFrom_rg s l (i + 1) (by omega)
   simp only [List.length_cons]
   omega
theorem prices_Parse.idxP_rg (l : List ByteArray) (s : ByteArray) : -1 ≤ prices_Parse.idxP l s ∧ prices_Parse.idxP l s < l.length := by
 have := prices_Parse.idxFrom_rg s l 0 (by omega)
 unfold prices_Parse.idxP
 omega
theorem prices_Parse.tl_eq (a b : ByteArray) : a.toList = b.toList ↔ a = b := by
 rw [Lib.toList_data, Lib.toList_data]
 constructor
 ·
  intro h; exact ByteArray.ext (Array.toList_inj.1 h)
 ·
  intro h; rw [h]
theorem prices_Parse.index_l0 (l : List ByteArray) (s : ByteArray) (hl : l.length ≤ 9223372036854775807) : ∀ (d i : Nat), l.length - i = d → i ≤ l.length → slices_Index_string_string.l0 (d + 1) l s l.length i = some (prices_Parse.idxFrom s (l.drop i) i)
 | 0, i, hd, hi => by
  have : i = l.length := by omega
  subst this
  simp [slices_Index_string_string.l0, prices_Parse.idxFrom]
 | d + 1, i, hd, hi => by
  have hlt : i < l.length := by omega
  have ih := prices_Parse.index_l0 l s hl d (i + 1) (by omega) (by omega)
  rw [List.drop_eq_getElem_cons hlt]
  unfold slices_Index_string_string.l0 prices_Parse.idxFrom
  rw [if_pos (by omega), if_pos (by omega), if_pos (by omega)]
  have e1 : rdOf ByteArray.empty l (i : Int) = l[i] := by
   simp [rdOf, List.getD_eq_getElem?_getD, hlt]
  rw [e1]
  by_cases h : l[i] = s
  rotate_left
  ·
   rw [if_neg (fun h2 => h ((prices_Parse.tl_eq _ _).1 h2).symm), if_neg h]
   have e2 : wrap64 ((i : Int) + 1) = ((i + 1 : Nat) : Int) := by unfold wrap64; omega
   rw [e2, ih]
   simp
  rw [if_pos ((prices_Parse.tl_eq _ _).2 h.symm), if_pos h]
theorem prices_Parse.index_f (l : List ByteArray) (s : ByteArray) (hl : l.length ≤ 9223372036854775807) : slices_Index_string_string.f (l.length + 1) l s = some (prices_Parse.idxP l s) := by
 have := prices_Parse.index_l0 l s hl l.length 0 (by omega) (by omega)
 unfold slices_Index_string_string.f prices_Parse.idxP
 simpa using this
theorem prices_Parse.index_calls (A : Option Addr) (c : Nat) (l : List ByteArray) (s : ByteArray) (w : World) (h : Kd.C Kd.string w A l.length l) (hc : l.length ≤ c) :
  Calls Tryz.prog 47 #[.slice A l.length c, .string s] w fun e w' => e = .returned (.int .i64 (prices_Parse.idxP l s)) ∧ Drawn0 w w' :=
 slices_Index_string_string.calls _ A c l s _ w h hc (prices_Parse.index_f l s h.2.1)
theorem prices_Parse.drawn_own {w w1 : World} {base : Nat} {e : TypeId} {size n : Nat} {v : Value} {xs : List Value} (h : w.ownsRow base e size v n xs) (hd : Drawn0 w w1) : w1.ownsRow base e size v n xs := by
 obtain ⟨m, rfl⟩ := hd
 exact own_move h (fun _ _ => rfl)
theorem prices_Parse.take_snoc {ns : List ByteArray} {i m : Nat} (hl : ns.length = m) (hi : i < m) : ns.take (i + 1) = ns.take i ++ [ns.getD i ByteArray.empty] := by
 rw [List.take_succ_eq_append_getElem (by omega)]
 simp [List.getD_eq_getElem?_getD, List.getElem?_eq_getElem (show i < ns.length by omega)]
theorem prices_Parse.ap_step {terms ns : List ByteArray} {w2 : World} {v' : Value} {i m : Nat} {s : ByteArray} {q : Int} (hl : ns.length = m) (hi : i < m) (hs : s = ns.getD i ByteArray.empty) (hq : q = prices_Parse.idxP terms s) {base : Nat}
  (h : w2.ownsRow base 3 1 v' (i + 1) (((ns.take i).map fun s => Value.int .i64 (prices_Parse.idxP terms s)) ++ [.int .i64 q])) : w2.ownsRow base 3 1 v' (i + 1) ((ns.take (i + 1)).map fun s => Value.int .i64 (prices_Parse.idxP terms s)) := by
 rw [prices_Parse.take_snoc hl hi, List.map_append, List.map_singleton, ← hs, ← hq]
 exact h
theorem prices_Parse.ap_pos {terms ns : List ByteArray} {i m : Nat} {s : ByteArray} {q : Int} (hl : ns.length = m) (hi : i < m) (hs : s = ns.getD i ByteArray.empty) (hq : q = prices_Parse.idxP terms s) (hge : 0 ≤ q) (h : ∀ s ∈ ns.take i, 0 ≤ prices_Parse.idxP terms s) : ∀ s ∈ ns.take (i + 1), 0 ≤ prices_Parse.idxP terms s := by
 rw [prices_Parse.take_snoc hl hi, ← hs]
 intro s' hs'; rcases List.mem_append.1 hs' with h' | h'
 ·
  exact h s' h'
 ·
  rw [List.mem_singleton.1 h', ← hq]; exact hge
theorem prices_Parse.info3a : (Tryz.prog.info? 3).map (fun i => (i.zero, i.size, i.bytes)) = some (some (.int .i64 0), 1, 8) := by kernel_rfl
def prices_Parse.apR (terms ns : List ByteArray) (w : World) (v7 v21 : Value) (wr : World) : Prop := ∃ i : Nat, i ≤ ns.length ∧ v21 = .int .i64 i ∧ wr.ownsRow w.heap.size 3 1 v7 i ((ns.take i).map fun s => .int .i64 (prices_Parse.idxP terms s)) ∧ (∀ s ∈ ns.take i, 0 ≤ prices_Parse.idxP terms s) ∧ Below w.heap.size w wr
def prices_Parse.apFin (v : Int) (ok : Bool) (mn : Int) (set : Int → prices_Parse.PT) (P : prices_Parse.PT) : Int × prices_Parse.PT := if ok = true then (if mn ≤ v ∧ v ≤ 1000 then (0, set v) else (2, P)) else (0, set (-1))
def prices_Parse.apQ (P : prices_Parse.PT) (q : ByteArray) (a b : Int) (v : Int) (ok : Bool) : Int × prices_Parse.PT :=
 if q = prices_form.kIns then prices_Parse.apFin v ok 1 (fun x => (P.1.set a.toNat x, P.2)) P
 else if q = prices_form.kDel then prices_Parse.apFin v ok 1 (fun x => (P.1, P.2.1.set a.toNat x, P.2.2)) P
 else if q = prices_form.kRep then (if a = b then (1, P) else prices_Parse.apFin v ok 1 (fun x => (P.1, P.2.1, P.2.2.1.set a.toNat ((P.2.2.1.getD a.toNat []).set b.toNat x), P.2.2.2)) P)
 else if q = prices_form.kSwap then prices_Parse.apFin v ok 0 (fun x => (P.1, P.2.1, P.2.2.1, x, P.2.2.2.2)) P
 else prices_Parse.apFin v ok 1 (fun x => (P.1, P.2.1, P.2.2.1, P.2.2.2.1, x)) P
def prices_Parse.apRes (r : Int × prices_Parse.PT) (B g : Nat) (w : World) (e : Ending) (w' : World) : Prop := e = .returned (.int .i64 r.1) ∧ Below B w w' ∧ prices_Parse.K9 w w' ∧ prices_Parse.PM w' B g r.2
theorem prices_Parse.apRes_plain {r : Int × prices_Parse.PT} {B g : Nat} {w w' : World} {c : Int} {P : prices_Parse.PT} (hb : Below w.heap.size w w') (hB : B ≤ w.heap.size) (hp : prices_Parse.PM w' B g P) (hr : r = (c, P)) : prices_Parse.apRes r B g w (.returned (.int .i64 c)) w' := by
 subst hr
 exact ⟨rfl, hb.mono hB, fun k cs hk => hb.block k (blk_lt hk), hp⟩
theorem prices_Parse.apRes_set {r : Int × prices_Parse.PT} {B g tb i : Nat} {w w' : World} {P : prices_Parse.PT} {v : Int} {cs : Array Value} {t : Nat} (hb : Below w.heap.size w w') (hB : B ≤ w.heap.size) (hc : w'.heap[tb]? = some (.cells cs t (0, 0))) (ht : t ≠ 9) (hBt : B ≤ tb) (hp : prices_Parse.PM (w'.setCell ⟨tb, i, none⟩ (.int .i64 v)) B g P) (hr : r = (0, P)) : prices_Parse.apRes r B g w (.returned (.int .i64 0)) (w'.setCell ⟨tb, i, none⟩ (.int .i64 v)) := by
 subst hr
 refine ⟨rfl, (hb.mono hB).setCell hBt _, fun k cs' hk => ?_, hp⟩
 have h1 := hb.block k (blk_lt hk)
 rw [prices_Parse.k9_set hc ht _ k cs' (h1.trans hk), h1]
theorem prices_Parse.ap_encs (ns terms : List ByteArray) (m : Nat) (h : ns.length ≤ m) : ((ns.take m).map fun s => Value.int .i64 (prices_Parse.idxP terms s)) = nums .i64 (ns.map (prices_Parse.idxP terms)) := by
 rw [List.take_of_length_le h]; simp [nums]
theorem prices_Parse.in_calls (v mn : Int) (w : World) : Calls Tryz.prog 23 #[.int .i64 v, .int .i64 mn] w fun e w' => e = .returned (.bool (decide (mn ≤ v ∧ v ≤ 1000))) ∧ Drawn0 w w' := by
 refine prices_in.calls v mn _ w ?_
 unfold prices_in.f
 by_cases h : mn ≤ v
 rotate_left
 ·
  simp [h]
 simp [h]
def prices_Parse.apPre (P : prices_Parse.PT) (T : Nat) : Prop := P.1.length = T ∧ P.2.1.length = T ∧ P.2.2.1.length = T ∧ ∀ r ∈ P.2.2.1, r.length = T
theorem prices_Parse.pm_drewN {w : World} {B g : Nat} {P : prices_Parse.PT} {p : Addr} {u : Value} (n : Nat) (h : prices_Parse.PM (w.setCell p u) B g P) : prices_Parse.PM ((w.drewN n).setCell p u) B g P := by
 have e : (w.drewN n).setCell p u = (w.setCell p u).drewN n := by
  unfold World.setCell
  rw [show (w.drewN n).heap = w.heap from rfl]
  split <;> rfl
 rw [e]
 exact prices_Parse.pm_below h (pw_below_drewN (Below.refl _ _) n)
theorem prices_Parse.drawnB_own {w w1 : World} {base : Nat} {e : TypeId} {size n : Nat} {v : Value} {xs : List Value} (h : w.ownsRow base e size v n xs) (hd : Below w.heap.size w w1) : w1.ownsRow base e size v n xs := own_move h (fun k hk => hd.block k (own_lt h k hk))
set_option maxRecDepth 100000 in
set_option maxHeartbeats 4000000 in
theorem prices_Parse.ap_ok (ad : Addr) (c n : Nat) (A2 : Option Addr) (c2 : Nat) (B g : Nat) (P : prices_Parse.PT) (l terms : List ByteArray) (w : World) (hn : n = l.length) (h2 : 2 ≤ n) (h4 : n ≤ 4) (hc : n ≤ c)
  (hcell : ∀ j, j < n → w.cell? (ad.add j) = some (.string (l.getD j ByteArray.empty))) (hT : Kd.C Kd.string w A2 terms.length terms) (hc2 : terms.length ≤ c2)
  (hP : prices_Parse.PM w B g P) (hBw : B ≤ w.heap.size) (hpre : prices_Parse.apPre P terms.length) (hsl : (l.getD (n - 1) ByteArray.empty).size ≤ 4294967280)
  (hkw : (l.getD 0 ByteArray.empty = prices_form.kIns ∧ n = 3) ∨ (l.getD 0 ByteArray.empty = prices_form.kDel ∧ n = 3) ∨ (l.getD 0 ByteArray.empty = prices_form.kRep ∧ n = 4) ∨ (l.getD 0 ByteArray.empty = prices_form.kSwap ∧ n = 2) ∨ (l.getD 0 ByteArray.empty = prices_form.kUnk ∧ n = 2))
  (hgood : ∀ s ∈ (l.drop 1).take (n - 2), 0 ≤ prices_Parse.idxP terms s) :
  Calls Tryz.prog 30 #[.pointer (some ⟨g, 0, none⟩), .slice (some ad) n c, .slice A2 terms.length c2] w (prices_Parse.apRes (prices_Parse.apQ P (l.getD 0 ByteArray.empty) (prices_Parse.idxP terms (l.getD 1 ByteArray.empty)) (prices_Parse.idxP terms (l.getD 2 ByteArray.empty)) (prices_number.numP (l.getD (n - 1) ByteArray.empty)).1 (prices_number.numP (l.getD (n - 1) ByteArray.empty)).2) B g w) := by
 obtain ⟨ns, hns⟩ : ∃ ns, ns = (l.drop 1).take (n - 2) := ⟨_, rfl⟩
 have hnl : ns.length = n - 2 := by rw [hns]; simp; omega
 have hng : ∀ i, i < n - 2 → ns.getD i ByteArray.empty = l.getD (1 + i) ByteArray.empty := by
  intro i hi
  rw [hns]
  simp [List.getD_eq_getElem?_getD, hi, Nat.add_comm]
 have hnc : ∀ i, i < n - 2 → w.cell? (ad.add (1 + i)) = some (.string (ns.getD i ByteArray.empty)) := by
  intro i hi
  rw [hcell (1 + i) (by omega), hng i hi]
 rw [← hns] at hgood
 have hx0 := hcell 0 (by omega)
 have e0 : ad.add 0 = ad := by simp [Addr.add]
 rw [e0] at hx0
 have hxl := hcell (n - 1) (by omega)
 obtain ⟨sl, hsle⟩ : ∃ sl, sl = l.getD (n - 1) ByteArray.empty := ⟨_, rfl⟩
 obtain ⟨s0, hs0e⟩ : ∃ s0, s0 = l.getD 0 ByteArray.empty := ⟨_, rfl⟩
 rw [← hsle] at hxl hsl ⊢
 rw [← hs0e] at hx0 hkw ⊢
 have HX0 := Aside0.mk hx0; have HXL := Aside0.mk hxl; have HNUM := Aside0.mk (fun W => prices_form.num_calls sl W hsl)
 obtain ⟨res, hres⟩ : ∃ res, res = prices_Parse.apQ P s0 (prices_Parse.idxP terms (l.getD 1 ByteArray.empty)) (prices_Parse.idxP terms (l.getD 2 ByteArray.empty)) (prices_number.numP sl).1 (prices_number.numP sl).2 := ⟨_, rfl⟩
 rw [← hres]
 obtain ⟨num, hnum⟩ : ∃ num, num = prices_number.numP sl := ⟨_, rfl⟩
 rw [← hnum] at HNUM hres
 obtain ⟨nv, nok⟩ := num; have HRES := Aside0.mk hres; have HKW := Aside0.mk hkw; have HGOOD := Aside0.mk hgood; have HNC := Aside0.mk hnc; have HNL := Aside0.mk hnl; have HNG := Aside0.mk hng; have HT := Aside0.mk hT; have HP := Aside0.mk hP; have HPRE := Aside0.mk hpre; have HBW := Aside0.mk hBw; obtain ⟨nt, hnt⟩ : ∃ nt, nt = terms.length := ⟨_, rfl⟩
 have HNT := Aside0.mk hnt
 rw [← hnt] at hc2 ⊢
 clear hgood hnc hng hnl hT hnt hns hn hcell hP hpre hBw hx0 hxl hsle hs0e hkw hres hnum hsl e0
 go_enter Tryz.func30, Tryz.ntmps30
 go_wp2
 go_loopw [6, 7, 9, 10, 21, 22, 23, 24, 25, 26, 27, 28, 29, 30, 31, 32, 33, 34] (fun v6 v7 v9 v10 v21 v22 v23 v24 v25 v26 v27 v28 v29 v30 v31 v32 v33 v34 wr => v6 = .int .i64 0 ∧ prices_Parse.apR terms ns w v7 v21 wr) (fun v6 v7 v9 v10 v21 v22 v23 v24 v25 v26 v27 v28 v29 v30 v31 v32 v33 v34 wr => n - (intOf v21).toNat)
 case atStart => exact ⟨rfl, 0, Nat.zero_le _, rfl, World.ownsRow_nil _ _ _ _, fun s hs => (by simp at hs), Below.refl _ _⟩
 case round =>
  obtain ⟨rfl, i, hi, rfl, hown, hpos, hb⟩ := hrel; have hnl := HNL.out; have HB := Aside0.mk hb; have HO := Aside0.mk hown; have HP0 := Aside0.mk hpos; clear hb hown hpos
  by_cases hlt : i < n - 2
  rotate_left
  ·
   obtain rfl : i = n - 2 := by omega
   have HN2 := Aside0.mk (show (n - 2 : Nat) = n - 1 - 1 by omega)
   have hxl2 := pw_cell_below HB.out HXL.out; have HO3 := Aside0.mk HO.out
   go_wp2_with fail
   refine (HNUM.out wr).mono ?_
   rintro e w1 ⟨rfl, hb1⟩; have HB1 := Aside0.mk (below_step HB.out hb1); have hown1 := prices_Parse.drawnB_own HO3.out hb1; have hx0 := pw_cell_below HB1.out HX0.out; have HP1 := Aside0.mk (prices_Parse.pm_below HP.out HB1.out)
   rw [prices_Parse.ap_encs ns terms _ (by omega)] at hown1
   have HO1 := Aside0.mk hown1; clear hb1 hown1 hxl2 hnl; have HIDX : Aside0 (∀ (i : Nat) (j : Int), j = i → i < n - 2 → rd (ns.map (prices_Parse.idxP terms)) j = prices_Parse.idxP terms (l.getD (1 + i) ByteArray.empty) ∧ 0 ≤ rd (ns.map (prices_Parse.idxP terms)) j ∧ rd (ns.map (prices_Parse.idxP terms)) j < nt) := ⟨by
    intro i j hj hi; subst hj; have hl := HNL.out; have e1 : rd (ns.map (prices_Parse.idxP terms)) i = prices_Parse.idxP terms (ns.getD i ByteArray.empty) := by
     simp [rd, List.getD_eq_getElem?_getD, List.getElem?_eq_getElem (show i < ns.length by omega)]
    have hm : ns.getD i ByteArray.empty ∈ ns := by
     rw [List.getD_eq_getElem?_getD, List.getElem?_eq_getElem (by omega)]
     exact List.getElem_mem _
    have h1 := HGOOD.out _ hm; have h2 := (prices_Parse.idxP_rg terms (ns.getD i ByteArray.empty)).2; have h3 := HNT.out
    rw [e1]
    exact ⟨by rw [HNG.out i hi], h1, by omega⟩⟩
   rcases HKW.out with ⟨rfl, rfl⟩ | ⟨rfl, rfl⟩ | ⟨rfl, rfl⟩ | ⟨rfl, rfl⟩ | ⟨rfl, rfl⟩
   ·
    -- insert
    obtain ⟨ab, acap, rfl, _, _⟩ := HO1.out.form (by omega)
    obtain ⟨hi10, hi20, hi30⟩ := HIDX.out 0 0 rfl (by omega)
    obtain ⟨hc0, _⟩ := own_at HO1.out 0 (by omega) (by omega)
    obtain ⟨a0, ha0⟩ : ∃ a0, a0 = rd (ns.map (prices_Parse.idxP terms)) 0 := ⟨_, rfl⟩
    replace hc0 : w1.cell? ⟨ab, 0, none⟩ = some (.int .i64 a0) := by rw [ha0]; exact hc0
    rw [← ha0] at hi10 hi20 hi30
    have hd := HPRE.out.1
    rw [← HNT.out] at hd
    obtain ⟨tb, tcap, x, cells, hf, hcx, hfr, hBt, htb, hset⟩ := prices_Parse.tgt_ins HP1.out hi20 (by rw [hd]; exact hi30)
    rw [hd] at hf
    have HSET := Aside0.mk hset; have HTB := Aside0.mk htb; have HR := HRES.out
    unfold prices_Parse.apQ at HR
    rw [if_pos rfl, show (1 : Nat) = 1 + 0 from rfl, ← hi10] at HR
    have HR2 := Aside0.mk HR; replace hx0 : w1.cell? ad = some (.string ⟨#[105, 110, 115, 101, 114, 116]⟩) := hx0; clear hset htb hi10 ha0 hd HR
    cases nok with
    | false =>
     go_wp2_with (first | go_quiet (fail) | fail)
     all_goals go_ret
     exact prices_Parse.apRes_set (pw_below_drewN HB1.out _) HBW.out HTB.out (by decide) hBt (prices_Parse.pm_drewN _ (HSET.out _)) HR2.out
    | true =>
     by_cases hin : 1 ≤ nv ∧ nv ≤ 1000
     rotate_left
     ·
      have HIN := Aside0.mk (fun W => prices_Parse.in_calls nv 1 W)
      rw [decide_eq_false hin] at HIN
      go_wp2_with (first | go_quiet (fail) | fail)
      refine (HIN.out _).mono ?_
      rintro e w2 ⟨rfl, ⟨nd, rfl⟩⟩
      go_wp2
      go_ret
      exact prices_Parse.apRes_plain (pw_below_drewN HB1.out _) HBW.out (prices_Parse.pm_below HP1.out (pw_below_drewN (Below.refl _ _) _)) (by rw [HR2.out]; simp [prices_Parse.apFin, hin])
     have HIN := Aside0.mk (fun W => prices_Parse.in_calls nv 1 W)
     rw [decide_eq_true hin] at HIN
     go_wp2_with (first | go_quiet (fail) | fail)
     refine (HIN.out _).mono ?_
     rintro e w2 ⟨rfl, ⟨nd, rfl⟩⟩
     go_wp2
     go_ret
     exact prices_Parse.apRes_set (pw_below_drewN HB1.out _) HBW.out HTB.out (by decide) hBt (prices_Parse.pm_drewN _ (HSET.out _)) (by rw [HR2.out]; simp [prices_Parse.apFin, hin])
   ·
    -- delete
    obtain ⟨ab, acap, rfl, _, _⟩ := HO1.out.form (by omega)
    obtain ⟨hi10, hi20, hi30⟩ := HIDX.out 0 0 rfl (by omega)
    obtain ⟨hc0, _⟩ := own_at HO1.out 0 (by omega) (by omega)
    obtain ⟨a0, ha0⟩ : ∃ a0, a0 = rd (ns.map (prices_Parse.idxP terms)) 0 := ⟨_, rfl⟩
    replace hc0 : w1.cell? ⟨ab, 0, none⟩ = some (.int .i64 a0) := by rw [ha0]; exact hc0
    rw [← ha0] at hi10 hi20 hi30
    have hd := HPRE.out.2.1
    rw [← HNT.out] at hd
    obtain ⟨tb, tcap, x, cells, hf, hcx, hfr, hBt, htb, hset⟩ := prices_Parse.tgt_del HP1.out hi20 (by rw [hd]; exact hi30)
    rw [hd] at hf
    have HSET := Aside0.mk hset; have HTB := Aside0.mk htb; have HR := HRES.out
    unfold prices_Parse.apQ at HR
    rw [if_neg (by decide), if_pos rfl, show (1 : Nat) = 1 + 0 from rfl, ← hi10] at HR
    have HR2 := Aside0.mk HR; replace hx0 : w1.cell? ad = some (.string ⟨#[100, 101, 108, 101, 116, 101]⟩) := hx0; clear hset htb hi10 ha0 hd HR
    cases nok with
    | false =>
     go_wp2_with (first | go_quiet (fail) | fail)
     all_goals go_ret
     exact prices_Parse.apRes_set (pw_below_drewN HB1.out _) HBW.out HTB.out (by decide) hBt (prices_Parse.pm_drewN _ (HSET.out _)) HR2.out
    | true =>
     by_cases hin : 1 ≤ nv ∧ nv ≤ 1000
     rotate_left
     ·
      have HIN := Aside0.mk (fun W => prices_Parse.in_calls nv 1 W)
      rw [decide_eq_false hin] at HIN
      go_wp2_with (first | go_quiet (fail) | fail)
      refine (HIN.out _).mono ?_
      rintro e w2 ⟨rfl, ⟨nd, rfl⟩⟩
      go_wp2
      go_ret
      exact prices_Parse.apRes_plain (pw_below_drewN HB1.out _) HBW.out (prices_Parse.pm_below HP1.out (pw_below_drewN (Below.refl _ _) _)) (by rw [HR2.out]; simp [prices_Parse.apFin, hin])
     have HIN := Aside0.mk (fun W => prices_Parse.in_calls nv 1 W)
     rw [decide_eq_true hin] at HIN
     go_wp2_with (first | go_quiet (fail) | fail)
     refine (HIN.out _).mono ?_
     rintro e w2 ⟨rfl, ⟨nd, rfl⟩⟩
     go_wp2
     go_ret
     exact prices_Parse.apRes_set (pw_below_drewN HB1.out _) HBW.out HTB.out (by decide) hBt (prices_Parse.pm_drewN _ (HSET.out _)) (by rw [HR2.out]; simp [prices_Parse.apFin, hin])
   ·
    -- replace
    obtain ⟨ab, acap, rfl, _, _⟩ := HO1.out.form (by omega)
    obtain ⟨hi10, hi20, hi30⟩ := HIDX.out 0 0 rfl (by omega)
    obtain ⟨hc0, _⟩ := own_at HO1.out 0 (by omega) (by omega)
    obtain ⟨a0, ha0⟩ : ∃ a0, a0 = rd (ns.map (prices_Parse.idxP terms)) 0 := ⟨_, rfl⟩
    replace hc0 : w1.cell? ⟨ab, 0, none⟩ = some (.int .i64 a0) := by rw [ha0]; exact hc0
    rw [← ha0] at hi10 hi20 hi30
    obtain ⟨hi11, hi21, hi31⟩ := HIDX.out 1 1 rfl (by omega)
    obtain ⟨hc1, _⟩ := own_at HO1.out 1 (by omega) (by omega)
    obtain ⟨b0, hb0⟩ : ∃ b0, b0 = rd (ns.map (prices_Parse.idxP terms)) 1 := ⟨_, rfl⟩
    replace hc1 : w1.cell? ⟨ab, 1, none⟩ = some (.int .i64 b0) := by rw [hb0]; exact hc1
    rw [← hb0] at hi11 hi21 hi31
    have hd := HPRE.out.2.2.1
    rw [← HNT.out] at hd
    have hrow : (P.2.2.1.getD a0.toNat []).length = nt := by
     have hm : P.2.2.1.getD a0.toNat [] ∈ P.2.2.1 := by
      rw [List.getD_eq_getElem?_getD, List.getElem?_eq_getElem (by omega)]
      exact List.getElem_mem _
     rw [HPRE.out.2.2.2 _ hm, HNT.out]
    obtain ⟨rb, rcap, tb, tcap, x, cells, hf, hfb, hcx, hfr, hBt, htb, hset⟩ := prices_Parse.tgt_rep HP1.out hi20 (by rw [hd]; exact hi30) hi21 (by rw [hrow]; exact hi31)
    rw [hd] at hf
    rw [hrow] at hfb
    have HSET := Aside0.mk hset; have HTB := Aside0.mk htb; have HR := HRES.out
    unfold prices_Parse.apQ at HR
    rw [if_neg (by decide), if_neg (by decide), if_pos rfl, show (2 : Nat) = 1 + 1 from rfl, ← hi11, show prices_Parse.idxP terms (l.getD 1 ByteArray.empty) = a0 from hi10.symm] at HR
    replace hx0 : w1.cell? ad = some (.string ⟨#[114, 101, 112, 108, 97, 99, 101]⟩) := hx0; clear hset htb hi10 hi11 ha0 hb0 hd hrow
    by_cases hab : a0 = b0
    rotate_left
    ·
     rw [if_neg hab] at HR
     have HR2 := Aside0.mk HR; clear HR
     cases nok with
     | false =>
      go_wp2_with (first | go_quiet (fail) | fail)
      all_goals go_ret
      exact prices_Parse.apRes_set (pw_below_drewN HB1.out _) HBW.out HTB.out (by decide) hBt (prices_Parse.pm_drewN _ (HSET.out _)) HR2.out
     | true =>
      by_cases hin : 1 ≤ nv ∧ nv ≤ 1000
      rotate_left
      ·
       have HIN := Aside0.mk (fun W => prices_Parse.in_calls nv 1 W)
       rw [decide_eq_false hin] at HIN
       go_wp2_with (first | go_quiet (fail) | fail)
       refine (HIN.out _).mono ?_
       rintro e w2 ⟨rfl, ⟨nd, rfl⟩⟩
       go_wp2
       go_ret
       exact prices_Parse.apRes_plain (pw_below_drewN HB1.out _) HBW.out (prices_Parse.pm_below HP1.out (pw_below_drewN (Below.refl _ _) _)) (by rw [HR2.out]; simp [prices_Parse.apFin, hin])
      have HIN := Aside0.mk (fun W => prices_Parse.in_calls nv 1 W)
      rw [decide_eq_true hin] at HIN
      go_wp2_with (first | go_quiet (fail) | fail)
      refine (HIN.out _).mono ?_
      rintro e w2 ⟨rfl, ⟨nd, rfl⟩⟩
      go_wp2
      go_ret
      exact prices_Parse.apRes_set (pw_below_drewN HB1.out _) HBW.out HTB.out (by decide) hBt (prices_Parse.pm_drewN _ (HSET.out _)) (by rw [HR2.out]; simp [prices_Parse.apFin, hin])
    rw [if_pos hab] at HR
    subst hab
    go_wp2_with (first | go_quiet (fail) | fail)
    go_ret
    exact prices_Parse.apRes_plain (pw_below_drewN HB1.out _) HBW.out (prices_Parse.pm_below HP1.out (pw_below_drewN (Below.refl _ _) _)) HR
   ·
    -- swap
    obtain ⟨cells, x, hcx, hfr, hBt, htb, hset⟩ := prices_Parse.tgt_swap HP1.out; have HSET := Aside0.mk hset; have HTB := Aside0.mk htb; have HR := HRES.out
    unfold prices_Parse.apQ at HR
    rw [if_neg (by decide), if_neg (by decide), if_neg (by decide), if_pos rfl] at HR
    have HR2 := Aside0.mk HR; replace hx0 : w1.cell? ad = some (.string ⟨#[115, 119, 97, 112]⟩) := hx0; clear hset htb HR
    cases nok with
    | false =>
     go_wp2_with (first | fail | fail)
     all_goals go_ret
     exact prices_Parse.apRes_set HB1.out HBW.out HTB.out (by decide) hBt (HSET.out _) HR2.out
    | true =>
     by_cases hin : 0 ≤ nv ∧ nv ≤ 1000
     rotate_left
     ·
      have HIN := Aside0.mk (fun W => prices_Parse.in_calls nv 0 W)
      rw [decide_eq_false hin] at HIN
      go_wp2_with (first | fail | fail)
      refine (HIN.out _).mono ?_
      rintro e w2 ⟨rfl, ⟨nd, rfl⟩⟩
      go_wp2
      go_ret
      exact prices_Parse.apRes_plain (pw_below_drewN HB1.out _) HBW.out (prices_Parse.pm_below HP1.out (pw_below_drewN (Below.refl _ _) _)) (by rw [HR2.out]; simp [prices_Parse.apFin, hin])
     have HIN := Aside0.mk (fun W => prices_Parse.in_calls nv 0 W)
     rw [decide_eq_true hin] at HIN
     go_wp2_with (first | fail | fail)
     refine (HIN.out _).mono ?_
     rintro e w2 ⟨rfl, ⟨nd, rfl⟩⟩
     go_wp2
     go_ret
     exact prices_Parse.apRes_set (pw_below_drewN HB1.out _) HBW.out HTB.out (by decide) hBt (prices_Parse.pm_drewN _ (HSET.out _)) (by rw [HR2.out]; simp [prices_Parse.apFin, hin])
   ·
    -- unknown
    obtain ⟨cells, x, hcx, hfr, hBt, htb, hset⟩ := prices_Parse.tgt_unk HP1.out; have HSET := Aside0.mk hset; have HTB := Aside0.mk htb; have HR := HRES.out
    unfold prices_Parse.apQ at HR
    rw [if_neg (by decide), if_neg (by decide), if_neg (by decide), if_neg (by decide)] at HR
    have HR2 := Aside0.mk HR; replace hx0 : w1.cell? ad = some (.string ⟨#[117, 110, 107, 110, 111, 119, 110]⟩) := hx0; clear hset htb HR
    cases nok with
    | false =>
     go_wp2_with (first | fail | fail)
     all_goals go_ret
     exact prices_Parse.apRes_set HB1.out HBW.out HTB.out (by decide) hBt (HSET.out _) HR2.out
    | true =>
     by_cases hin : 1 ≤ nv ∧ nv ≤ 1000
     rotate_left
     ·
      have HIN := Aside0.mk (fun W => prices_Parse.in_calls nv 1 W)
      rw [decide_eq_false hin] at HIN
      go_wp2_with (first | fail | fail)
      refine (HIN.out _).mono ?_
      rintro e w2 ⟨rfl, ⟨nd, rfl⟩⟩
      go_wp2
      go_ret
      exact prices_Parse.apRes_plain (pw_below_drewN HB1.out _) HBW.out (prices_Parse.pm_below HP1.out (pw_below_drewN (Below.refl _ _) _)) (by rw [HR2.out]; simp [prices_Parse.apFin, hin])
     have HIN := Aside0.mk (fun W => prices_Parse.in_calls nv 1 W)
     rw [decide_eq_true hin] at HIN
     go_wp2_with (first | fail | fail)
     refine (HIN.out _).mono ?_
     rintro e w2 ⟨rfl, ⟨nd, rfl⟩⟩
     go_wp2
     go_ret
     exact prices_Parse.apRes_set (pw_below_drewN HB1.out _) HBW.out HTB.out (by decide) hBt (prices_Parse.pm_drewN _ (HSET.out _)) (by rw [HR2.out]; simp [prices_Parse.apFin, hin])
  have hlt' : i < n - 1 - 1 := by omega
  have hx : wr.cell? ⟨ad.block, ad.off + 1 + i, none⟩ = some (.string (ns.getD i ByteArray.empty)) := by
   have h0 := HNC.out i hlt; have e : ad.add (1 + i) = ⟨ad.block, ad.off + 1 + i, none⟩ := by
    rw [prices_form.add_pos _ _ (by omega), Nat.add_assoc]
   rw [e] at h0
   exact pw_cell_below HB.out h0
  have hge : 0 ≤ prices_Parse.idxP terms (ns.getD i ByteArray.empty) := HGOOD.out _ (by
   rw [List.getD_eq_getElem?_getD, List.getElem?_eq_getElem (by omega)]
   exact List.getElem_mem _)
  obtain ⟨s, hs⟩ : ∃ s, s = ns.getD i ByteArray.empty := ⟨_, rfl⟩
  have HS := Aside0.mk hs
  rw [← hs] at hx hge
  clear hs hnl; have hrg := prices_Parse.idxP_rg terms s; obtain ⟨q, hq⟩ : ∃ q, q = prices_Parse.idxP terms s := ⟨_, rfl⟩
  have HQ := Aside0.mk hq
  rw [← hq] at hge hrg
  clear hq; obtain ⟨i3, hi3, hz1, hz2, hz3⟩ := info_parts prices_Parse.info3a
  go_wp2_with fail
  have key := prices_Parse.index_calls A2 c2 terms s wr (Kd.C_below HT.out HB.out) (by have := HNT.out; omega)
  rw [← HNT.out, ← HQ.out] at key
  refine key.mono ?_
  clear key; rintro e w1 ⟨rfl, hd⟩; have HB1 := Aside0.mk (below_step HB.out hd.below); have HO1 := Aside0.mk (prices_Parse.drawn_own HO.out hd); clear hd
  go_wp2_with (at_builtin; refine wpList_append_own _ rfl (.tmp 30) (.tmp 32) 22 rfl w.heap.size 3 i3 (.int .i64 0) 1 8 Tryz.underlying22 hi3 hz1 hz2 hz3 rfl (by decide) _ _ _ rfl (HO1.out.alloc _) ⟨w1.heap.size, 0, none⟩ 1 1 [.int .i64 q] rfl rfl ?c1 ?c2 ?c3 ?c4 ?c5 ?_; (case c1 => exact cell_one_new _ _ _); (case c2 => simp [Value.oneCell']); (case c3 => (unfold maxLen; omega)); (case c4 => omega); (case c5 => exact below_size (below_alloc HB1.out _)); intro v' w2 hown2 hgrow _; have HO2 := Aside0.mk hown2; have HB2 := Aside0.mk (pw_below_grown (below_alloc HB1.out _) _ (below_size (below_alloc HB1.out _)) hgrow (own_base HO1.out)); clear hown2 hgrow)
  go_roundw
  case rel => exact ⟨rfl, i + 1, by have := HNL.out; omega, by go_num, prices_Parse.ap_step HNL.out hlt HS.out HQ.out HO2.out, prices_Parse.ap_pos HNL.out hlt HS.out HQ.out hge HP0.out, HB2.out⟩
  case measure => simp [intOf]; omega
set_option maxRecDepth 100000 in
set_option maxHeartbeats 2000000 in
theorem prices_Parse.ap_err (ad : Addr) (c n : Nat) (A2 : Option Addr) (c2 : Nat) (g : Nat) (l terms : List ByteArray) (w : World) (hn : n = l.length) (h2 : 2 ≤ n) (h4 : n ≤ 4) (hc : n ≤ c)
  (hcell : ∀ j, j < n → w.cell? (ad.add j) = some (.string (l.getD j ByteArray.empty))) (hT : Kd.C Kd.string w A2 terms.length terms) (hc2 : terms.length ≤ c2)
  (hbad : ∃ s ∈ (l.drop 1).take (n - 2), prices_Parse.idxP terms s < 0) :
  Calls Tryz.prog 30 #[.pointer (some ⟨g, 0, none⟩), .slice (some ad) n c, .slice A2 terms.length c2] w fun e w' => e = .returned (.int .i64 4) ∧ Below w.heap.size w w' := by
 obtain ⟨ns, hns⟩ : ∃ ns, ns = (l.drop 1).take (n - 2) := ⟨_, rfl⟩
 have hnl : ns.length = n - 2 := by rw [hns]; simp; omega
 have hnc : ∀ i, i < n - 2 → w.cell? (ad.add (1 + i)) = some (.string (ns.getD i ByteArray.empty)) := by
  intro i hi
  rw [hcell (1 + i) (by omega), hns]
  simp [List.getD_eq_getElem?_getD, hi, Nat.add_comm]
 rw [← hns] at hbad
 have HBAD := Aside0.mk hbad; have HNC := Aside0.mk hnc; have HNL := Aside0.mk hnl; have HT := Aside0.mk hT; obtain ⟨nt, hnt⟩ : ∃ nt, nt = terms.length := ⟨_, rfl⟩
 have HNT := Aside0.mk hnt
 rw [← hnt] at hc2 ⊢
 clear hbad hnc hnl hT hnt hns hn hcell
 go_enter Tryz.func30, Tryz.ntmps30
 go_wp2
 go_loopw [6, 7, 9, 10, 21, 22, 23, 24, 25, 26, 27, 28, 29, 30, 31, 32, 33, 34] (fun v6 v7 v9 v10 v21 v22 v23 v24 v25 v26 v27 v28 v29 v30 v31 v32 v33 v34 wr => prices_Parse.apR terms ns w v7 v21 wr) (fun v6 v7 v9 v10 v21 v22 v23 v24 v25 v26 v27 v28 v29 v30 v31 v32 v33 v34 wr => n - (intOf v21).toNat)
 case atStart => exact ⟨0, Nat.zero_le _, rfl, World.ownsRow_nil _ _ _ _, fun s hs => (by simp at hs), Below.refl _ _⟩
 case round =>
  obtain ⟨i, hi, rfl, hown, hpos, hb⟩ := hrel; have hnl := HNL.out; have HB := Aside0.mk hb; have HO := Aside0.mk hown; have HP := Aside0.mk hpos; clear hb hown hpos; have hlt : i < n - 2 := by
   rcases Nat.lt_or_ge i (n - 2) with h | h
   ·
    exact h
   ·
    obtain ⟨s, hs, hneg⟩ := HBAD.out; have := HP.out s (by rw [List.take_of_length_le (by omega)]; exact hs)
    omega
  have hlt' : i < n - 1 - 1 := by omega
  have hx : wr.cell? ⟨ad.block, ad.off + 1 + i, none⟩ = some (.string (ns.getD i ByteArray.empty)) := by
   have h0 := HNC.out i hlt; have e : ad.add (1 + i) = ⟨ad.block, ad.off + 1 + i, none⟩ := by
    rw [prices_form.add_pos _ _ (by omega), Nat.add_assoc]
   rw [e] at h0
   exact pw_cell_below HB.out h0
  obtain ⟨s, hs⟩ : ∃ s, s = ns.getD i ByteArray.empty := ⟨_, rfl⟩
  have HS := Aside0.mk hs
  rw [← hs] at hx
  clear hs hnl; have hrg := prices_Parse.idxP_rg terms s
  by_cases hneg : prices_Parse.idxP terms s < 0
  rotate_left
  ·
   have hge : 0 ≤ prices_Parse.idxP terms s := by omega
   obtain ⟨q, hq⟩ : ∃ q, q = prices_Parse.idxP terms s := ⟨_, rfl⟩
   have HQ := Aside0.mk hq
   rw [← hq] at hge hrg
   clear hq hneg; obtain ⟨i3, hi3, hz1, hz2, hz3⟩ := info_parts prices_Parse.info3a
   go_wp2_with fail
   have key := prices_Parse.index_calls A2 c2 terms s wr (Kd.C_below HT.out HB.out) (by have := HNT.out; omega)
   rw [← HNT.out, ← HQ.out] at key
   refine key.mono ?_
   clear key; rintro e w1 ⟨rfl, hd⟩; have HB1 := Aside0.mk (below_step HB.out hd.below); have HO1 := Aside0.mk (prices_Parse.drawn_own HO.out hd); clear hd
   go_wp2_with (at_builtin; refine wpList_append_own _ rfl (.tmp 30) (.tmp 32) 22 rfl w.heap.size 3 i3 (.int .i64 0) 1 8 Tryz.underlying22 hi3 hz1 hz2 hz3 rfl (by decide) _ _ _ rfl (HO1.out.alloc _) ⟨w1.heap.size, 0, none⟩ 1 1 [.int .i64 q] rfl rfl ?c1 ?c2 ?c3 ?c4 ?c5 ?_; (case c1 => exact cell_one_new _ _ _); (case c2 => simp [Value.oneCell']); (case c3 => (unfold maxLen; omega)); (case c4 => omega); (case c5 => exact below_size (below_alloc HB1.out _)); intro v' w2 hown2 hgrow _; have HO2 := Aside0.mk hown2; have HB2 := Aside0.mk (pw_below_grown (below_alloc HB1.out _) _ (below_size (below_alloc HB1.out _)) hgrow (own_base HO1.out)); clear hown2 hgrow)
   go_roundw
   case rel => exact ⟨i + 1, by have := HNL.out; omega, by go_num, prices_Parse.ap_step HNL.out hlt HS.out HQ.out HO2.out, prices_Parse.ap_pos HNL.out hlt HS.out HQ.out hge HP.out, HB2.out⟩
   case measure => simp [intOf]; omega
  obtain ⟨q, hq⟩ : ∃ q, q = prices_Parse.idxP terms s := ⟨_, rfl⟩
  have HQ := Aside0.mk hq
  rw [← hq] at hneg hrg
  clear hq
  go_wp2_with fail
  have key := prices_Parse.index_calls A2 c2 terms s wr (Kd.C_below HT.out HB.out) (by have := HNT.out; omega)
  rw [← HNT.out, ← HQ.out] at key
  refine key.mono ?_
  clear key; rintro e w1 ⟨rfl, hd⟩; have HB1 := Aside0.mk (below_step HB.out hd.below); clear hd
  go_wp2
  go_ret
  exact ⟨rfl, HB1.out⟩
theorem prices_Parse.info25 : (Tryz.prog.info? 25).map (·.size) = some 5 := by kernel_rfl
section
variable {ops : Array Oper} {rest : List Oper} {o : Oper} {a : Act} {Q : Exit → Act → World → Prop}
theorem prices_Parse.ev25 {W : World} {g : Nat} {x : Operand} {p : Tmp} {v0 v1 v2 v3 v4 : Value} {cur : Array Value} (ho : o.op = .store 25 (.tmp p) x) (hgd : o.guard = none) (hN : o.dst = none) (hp : a.eval (.tmp p) = .pointer (some ⟨g, 0, none⟩)) (hx : a.eval x = .agg #[v0, v1, v2, v3, v4])
  (hc : W.heap[g]? = some (.cells cur 25 (0, 0))) (hsz : cur.size = 5) (h0 : v0.oneCell' = true) (h1 : v1.oneCell' = true) (h2 : v2.oneCell' = true) (h3 : v3.oneCell' = true) (h4 : v4.oneCell' = true)
  (h : ∀ w', Below g W w' → (∀ k, k ≠ g → w'.heap[k]? = W.heap[k]?) → w'.heap[g]? = some (.cells #[v0, v1, v2, v3, v4] 25 (0, 0)) → w'.heap.size = W.heap.size → wpList Tryz.prog ops Q rest a w') : wpList Tryz.prog ops Q (o :: rest) a W := by
 have hrun : (Instr.storeAt 25 (.pointer (some ⟨g, 0, none⟩)) (.agg #[v0, v1, v2, v3, v4])).run Tryz.prog W = .ok () (W.setCells g 0 [v0, v1, v2, v3, v4]) :=
  run_store_run 25 _ _ hc rfl prices_Parse.info25 (by simp [hsz]) (by
   intro q hq
   simp only [List.mem_cons, List.mem_nil_iff, or_false] at hq
   rcases hq with rfl | rfl | rfl | rfl | rfl <;> assumption)
 have hsame := setCells_same g [v0, v1, v2, v3, v4] 0 W; have hrow := setCells_row [v0, v1, v2, v3, v4] 0 W cur hc (by simp [hsz])
 refine wpList_plain hgd fun K hK => ?_
 unfold Oper.wp execOp
 simp only [ho, hp, hx, Sem.run_bind, Sem.run_pure, Result.andThen_ok, hrun]
 show K (a.put o.dst undef) _
 rw [hN]
 refine hK a _ (h _ ?_ (fun k hk => setCells_far _ 0 k hk) ?_ ?_)
 ·
  exact ⟨hsame.1, hsame.2.1, hsame.2.2.1, Nat.le_of_eq hsame.2.2.2.symm, fun k hk => setCells_far _ 0 k (by omega)⟩
 ·
  obtain ⟨cur', h5, h6, h7⟩ := hrow
  rw [h5]
  have : cur'.toList = [v0, v1, v2, v3, v4] := by rw [h7]; simp [hsz, List.drop_eq_nil_of_le]
  rw [show cur' = #[v0, v1, v2, v3, v4] from Array.toList_inj.1 this]
 ·
  exact hsame.2.2.2
end
theorem prices_Parse.cell25 {w : World} {g : Nat} {v0 v1 v2 v3 v4 : Value} (h : w.heap[g]? = some (.cells #[v0, v1, v2, v3, v4] 25 (0, 0))) : w.cell? ⟨g, 0, none⟩ = some v0 ∧ w.cell? ⟨g, 1, none⟩ = some v1 ∧ w.cell? ⟨g, 2, none⟩ = some v2 ∧ w.cell? ⟨g, 3, none⟩ = some v3 ∧ w.cell? ⟨g, 4, none⟩ = some v4 := by
 simp [World.cell?, h]
theorem prices_Parse.res17 (tmps : Array Value) (w : World) (g : Nat) (cs : Array Value) (hp : tmps.getD 4 undef = .pointer (some ⟨g, 0, none⟩)) (hg : w.heap[g]? = some (.cells cs 25 (0, 0))) (hi : cs.size = 5) :
  (results Tryz.f17 tmps).run Tryz.prog w = .ok (.tuple #[.agg cs, tmps.getD 5 undef, tmps.getD 6 undef]) w := by
 have hp' : tmps[4]?.getD undef = .pointer (some ⟨g, 0, none⟩) := by simpa using hp
 have hr : Tryz.f17.results = #[.cell 4 25, .tmp 5, .tmp 6] := by kernel_rfl
 have hl := run_loadVar_row (P := Tryz.prog) w g 25 25 cs (0, 0) _ hg Tryz.underlying25 rfl (by rw [prices_Parse.info25, hi])
 simp [results, hr, hp', asAddr, hl]
def prices_Parse.applyP (P : prices_Parse.PT) (f terms : List ByteArray) : Int × prices_Parse.PT :=
 if ((f.drop 1).take (f.length - 2)).all (fun s => decide (0 ≤ prices_Parse.idxP terms s)) = true then prices_Parse.apQ P (f.getD 0 ByteArray.empty) (prices_Parse.idxP terms (f.getD 1 ByteArray.empty)) (prices_Parse.idxP terms (f.getD 2 ByteArray.empty)) (prices_number.numP (f.getD (f.length - 1) ByteArray.empty)).1 (prices_number.numP (f.getD (f.length - 1) ByteArray.empty)).2 else (4, P)
theorem prices_Parse.form_true {f : List ByteArray} (h : prices_form.f f = some true) : 1 ≤ f.length ∧ f.length ≤ 4 ∧ (f.getD (f.length - 1) ByteArray.empty).size ≤ 4294967280 ∧ ((f.getD 0 ByteArray.empty = prices_form.kIns ∧ f.length = 3) ∨ (f.getD 0 ByteArray.empty = prices_form.kDel ∧ f.length = 3) ∨ (f.getD 0 ByteArray.empty = prices_form.kRep ∧ f.length = 4) ∨ (f.getD 0 ByteArray.empty = prices_form.kSwap ∧ f.length = 2) ∨ (f.getD 0 ByteArray.empty = prices_form.kUnk ∧ f.length = 2)) := by
 unfold prices_form.f at h
 split at h
 ·
  rename_i hc
  obtain ⟨h1, h2, h3⟩ := hc; have h4 := Option.some.inj h
  unfold prices_form.formP at h4
  rw [Bool.and_eq_true] at h4
  have h5 := of_decide_eq_true h4.1; have hs : (f.getD (f.length - 1) ByteArray.empty).size ≤ 4294967280 := by
   rw [List.all_eq_true] at h3
   rw [List.getD_eq_getElem?_getD, List.getElem?_eq_getElem (by omega)]
   exact of_decide_eq_true (h3 _ (List.getElem_mem _))
  unfold prices_form.sizeK at h5
  refine ⟨h1, ?_, hs, ?_⟩
  ·
   repeat' split at h5
   all_goals omega
  ·
   repeat' split at h5
   all_goals simp_all
   all_goals omega
 ·
  cases h
theorem prices_Parse.ap_calls (A : Option Addr) (c : Nat) (A2 : Option Addr) (c2 : Nat) (B g : Nat) (P : prices_Parse.PT) (l terms : List ByteArray) (w : World) (hf : prices_form.f l = some true) (hc : l.length ≤ c) (hC : Kd.C Kd.string w A l.length l) (hT : Kd.C Kd.string w A2 terms.length terms) (hc2 : terms.length ≤ c2)
  (hP : prices_Parse.PM w B g P) (hBw : B ≤ w.heap.size) (hpre : prices_Parse.apPre P terms.length) : Calls Tryz.prog 30 #[.pointer (some ⟨g, 0, none⟩), .slice A l.length c, .slice A2 terms.length c2] w (prices_Parse.apRes (prices_Parse.applyP P l terms) B g w) := by
 obtain ⟨h1, h4, hs, hkw⟩ := prices_Parse.form_true hf; obtain ⟨ad, rfl, hcell⟩ := prices_form.cells hC h1; have h2 : 2 ≤ l.length := by rcases hkw with h | h | h | h | h <;> omega
 unfold prices_Parse.applyP
 split
 ·
  rename_i hall
  rw [List.all_eq_true] at hall
  exact prices_Parse.ap_ok ad c l.length A2 c2 B g P l terms w rfl h2 h4 hc hcell hT hc2 hP hBw hpre hs hkw (fun s hs => of_decide_eq_true (hall s hs))
 ·
  rename_i hall
  refine (prices_Parse.ap_err ad c l.length A2 c2 g l terms w rfl h2 h4 hc hcell hT hc2 ?_).mono ?_
  ·
   apply Classical.byContradiction
   intro hno
   apply hall
   rw [List.all_eq_true]
   intro s hs
   refine decide_eq_true ?_
   apply Classical.byContradiction
   intro hlt
   exact hno ⟨s, hs, by omega⟩
  ·
   rintro e w' ⟨rfl, hb⟩
   exact prices_Parse.apRes_plain hb hBw (prices_Parse.pm_below hP hb) rfl
theorem prices_Parse.apPre_ap {P : prices_Parse.PT} {f terms : List ByteArray} (h : prices_Parse.apPre P terms.length) : prices_Parse.apPre (prices_Parse.applyP P f terms).2 terms.length := by
 obtain ⟨h1, h2, h3, h4⟩ := h; have hset : ∀ (a b : Nat) (x : Int) (r : List Int), r ∈ P.2.2.1.set a ((P.2.2.1.getD a []).set b x) → r.length = terms.length := by
  intro a b x r hr; rcases List.mem_or_eq_of_mem_set hr with hr | rfl
  ·
   exact h4 r hr
  ·
   rw [List.length_set]
   by_cases ha : a < P.2.2.1.length
   rotate_left
   ·
    rw [List.set_eq_of_length_le (by omega)] at hr
    have := h4 _ hr
    rwa [List.length_set] at this
   rw [List.getD_eq_getElem?_getD, List.getElem?_eq_getElem ha]
   exact h4 _ (List.getElem_mem _)
 unfold prices_Parse.applyP prices_Parse.apQ prices_Parse.apFin
 repeat' split
 all_goals first
  | exact ⟨h1, h2, h3, h4⟩
  | exact ⟨by simp [h1], h2, h3, h4⟩
  | exact ⟨h1, by simp [h2], h3, h4⟩
  | exact ⟨h1, h2, by simp [h3], hset _ _ _⟩
def prices_Parse.zeroP : prices_Parse.PT := ([], [], [], 0, 0)
def prices_Parse.goL (terms : List ByteArray) : List ByteArray → Nat → prices_Parse.PT → Option (prices_Parse.PT × Int × Int)
 | [], _, P => some (P, 0, 0)
 | s :: r, i, P => (prices_fields.f s).bind fun f => if f.length = 0 then prices_Parse.goL terms r (i + 1) P else (prices_form.f f).bind fun b => if b = true then (if (prices_Parse.applyP P f terms).1 = 0 then prices_Parse.goL terms r (i + 1) (prices_Parse.applyP P f terms).2 else some (prices_Parse.zeroP, i + 1, (prices_Parse.applyP P f terms).1)) else some (prices_Parse.zeroP, i + 1, 3)
theorem prices_Parse.R9_keep {w w1 : World} {B : Nat} {ok : Nat → Prop} {v : Value} {l : List ByteArray} (h : Kd.R Kd.string 9 w B ok v l) (hk : prices_Parse.K9 w w1) : Kd.R Kd.string 9 w1 B ok v l := by
 refine R_mono (R_move (R_bound h) ?_) (fun k hk => hk.1)
 rintro k ⟨_, _, _, q, hq, cells, hc⟩; have : q = 9 := by simpa [Kd.string, scalar] using hq
 subst this
 exact hk k cells hc
def prices_Parse.zeroV : Array Value := #[.slice none 0 0, .slice none 0 0, .slice none 0 0, .int .i64 0, .int .i64 0]
def prices_Parse.paPost (w : World) (res : prices_Parse.PT × Int × Int) (e : Ending) (w' : World) : Prop := ∃ v0_ v1_ v2_ : Value, e = .returned (.tuple #[.agg #[v0_, v1_, v2_, .int .i64 res.1.2.2.2.1, .int .i64 res.1.2.2.2.2], .int .i64 res.2.1, .int .i64 res.2.2]) ∧ Kd.R (Kd.int .i64) 3 w' w.heap.size (fun k_ => some k_ ≠ (v1_ : Value).ownBlock) v0_ res.1.1 ∧ Kd.R (Kd.int .i64) 3 w' w.heap.size (fun k_ => some k_ ≠ (v0_ : Value).ownBlock) v1_ res.1.2.1 ∧ Kd.S (Kd.slice 3 (Kd.int .i64)) 22 w' w.heap.size (fun k_ => some k_ ≠ (v0_ : Value).ownBlock ∧ some k_ ≠ (v1_ : Value).ownBlock) v2_ res.1.2.2.1 ∧ Below w.heap.size w w'
theorem prices_Parse.paPost_zero {w w' : World} {i c : Int} (hb : Below w.heap.size w w') : prices_Parse.paPost w (prices_Parse.zeroP, i, c) (.returned (.tuple #[.agg prices_Parse.zeroV, .int .i64 i, .int .i64 c])) w' :=
 ⟨_, _, _, rfl, R_nil _ _ _ _ _, R_nil _ _ _ _ _, S_nil _ _ _ _ _, hb⟩
set_option maxRecDepth 100000 in
set_option maxHeartbeats 4000000 in
theorem prices_Parse.pa_no (a0 : ByteArray) (A : Option Addr) (c k : Nat) (terms : List ByteArray) (w : World) (hT : Kd.C Kd.string w A terms.length terms) (hc : terms.length ≤ c) (hn : prices_names.f k terms = some false) :
  Calls Tryz.prog 17 #[.string a0, .slice A terms.length c] w (prices_Parse.paPost w (prices_Parse.zeroP, 0, 1)) := by
 have hu25 := Tryz.underlying25; have HN := Aside0.mk hn; have HT := Aside0.mk hT
 go_enter Tryz.func17, Tryz.ntmps17
 go_wp2_with fail
 refine (prices_names.calls k A c terms false _ (Kd.C_below HT.out (below_alloc (Below.refl _ _) _)) hc HN.out).mono ?_
 rintro e w1 ⟨rfl, hb1⟩; have HB1 := Aside0.mk (below_step (below_alloc (Below.refl w.heap.size w) _) hb1); have hcell := (hb1.block w.heap.size (blk_lt (blk_new w _))).trans (blk_new w _); clear hb1
 go_wp2_with (refine prices_Parse.ev25 rfl rfl rfl rfl rfl hcell rfl rfl rfl rfl rfl rfl ?_; intro w2 hb2 hk2 hc2 hs2; obtain ⟨ha, hb, hc', hd, he⟩ := prices_Parse.cell25 hc2; have HB2 := Aside0.mk (HB1.out.trans (hb2.mono (Nat.le_refl _))); have HC2 := Aside0.mk hc2; clear hb2 hk2 hcell hc2)
 refine bodyPost_ret (prices_Parse.res17 _ _ _ _ rfl HC2.out rfl) rfl ?_
 exact prices_Parse.paPost_zero HB2.out
theorem prices_Parse.alloc_sz (w : World) (o : Obj) : (w.alloc o).heap.size = w.heap.size + 1 := by
 show (w.heap.push o).size = _
 exact Array.size_push _
def prices_Parse.paR (terms lines : List ByteArray) (res : prices_Parse.PT × Int × Int) (w : World) (g : Nat) (A : Option Addr) (n c : Nat) (v22 : Value) (wr : World) : Prop := ∃ (i : Nat) (P : prices_Parse.PT), i ≤ lines.length ∧ v22 = .int .i64 i ∧ prices_Parse.goL terms (lines.drop i) i P = some res ∧ prices_Parse.PM wr (w.heap.size + 1) g P ∧ prices_Parse.apPre P terms.length ∧ Below w.heap.size w wr ∧ wr.heap[w.heap.size]? = some (.cells prices_Parse.zeroV 25 (0, 0)) ∧ Kd.R Kd.string 9 wr (w.heap.size + 1) (fun _ => True) (.slice A n c) lines ∧ w.heap.size + 1 ≤ wr.heap.size
set_option maxRecDepth 100000 in
set_option maxHeartbeats 4000000 in
theorem prices_Parse.pa_yes (a0 : ByteArray) (A : Option Addr) (c k : Nat) (terms lines : List ByteArray) (P0 : prices_Parse.PT) (res : prices_Parse.PT × Int × Int) (w : World) (hG : Glob w) (hT : Kd.C Kd.string w A terms.length terms) (hc : terms.length ≤ c) (hn : prices_names.f k terms = some true)
  (hd : prices_Default.f k terms.length = some P0) (hpre : prices_Parse.apPre P0 terms.length) (hs : strings_Split.f a0 ⟨#[10]⟩ = some lines) (hgo : prices_Parse.goL terms lines 0 P0 = some res) :
  Calls Tryz.prog 17 #[.string a0, .slice A terms.length c] w (prices_Parse.paPost w res) := by
 have hu25 := Tryz.underlying25; have HN := Aside0.mk hn; have HT := Aside0.mk hT; have HD := Aside0.mk hd; have HGO := Aside0.mk hgo; have HS := Aside0.mk hs; have HG := Aside0.mk hG; have HPRE := Aside0.mk hpre; obtain ⟨r1, r2, r3, r4, r5⟩ := P0; obtain ⟨nt, hnt⟩ : ∃ nt, nt = terms.length := ⟨_, rfl⟩
 have HNT := Aside0.mk hnt; have HNT63 := Aside0.mk hT.2.1
 rw [← hnt] at hc HNT63 ⊢
 clear hn hT hd hgo hs hG hpre hnt
 go_enter Tryz.func17, Tryz.ntmps17
 go_wp2_with fail
 have key := prices_names.calls k A c terms true _ (Kd.C_below HT.out (below_alloc (Below.refl w.heap.size w) (.cells #[.slice none 0 0, .slice none 0 0, .slice none 0 0, .int .i64 0, .int .i64 0] 25))) (by have := HNT.out; omega) HN.out
 rw [← HNT.out] at key
 refine key.mono ?_
 clear key; rintro e w1 ⟨rfl, hb1⟩; have HB1 := Aside0.mk (below_step (below_alloc (Below.refl w.heap.size w) _) hb1); have HC1 := Aside0.mk ((hb1.block w.heap.size (blk_lt (blk_new w _))).trans (blk_new w _)); have HS1 := Aside0.mk (show w.heap.size + 1 ≤ w1.heap.size by have := hb1.size; rw [prices_Parse.alloc_sz] at this; exact this)
 clear hb1
 go_wp2_with fail
 have key := prices_Default.calls k terms.length r1 r2 r3 r4 r5 w1 HD.out
 rw [← HNT.out] at key
 refine key.mono ?_
 clear key; rintro e w2 ⟨v0, v1, v2, rfl, hr0, hr1, hr2, hb2⟩; have ho0 := (R_val hr0).2; have ho1 := (R_val hr1).2; have ho2 := (R_val (S_R hr2)).2; have HR0 := Aside0.mk hr0; have HR1 := Aside0.mk hr1; have HR2 := Aside0.mk hr2; have HB2 := Aside0.mk hb2; clear hr0 hr1 hr2 hb2
 go_wp2_with (refine prices_Parse.ev25 rfl rfl rfl rfl rfl (blk_new w2 _) rfl ho0 ho1 ho2 rfl rfl ?_; intro w3 hb3 hk3 hc3 hs3; have HB3 := Aside0.mk ((below_alloc (Below.refl w2.heap.size w2) _).trans hb3); have HC3 := Aside0.mk hc3; clear hb3 hk3 hc3 hs3)
 have HB13 := Aside0.mk (below_step HB2.out HB3.out); have HB03 := Aside0.mk (below_step HB1.out HB13.out); have HC03 := Aside0.mk (show w3.heap[w.heap.size]? = some (.cells prices_Parse.zeroV 25 (0, 0)) from (HB13.out.block _ (by have := HS1.out; omega)).trans HC1.out)
 have HPM3 := Aside0.mk (show prices_Parse.PM w3 (w.heap.size + 1) w2.heap.size (r1, r2, r3, r4, r5) from ⟨by have := HB2.out.size; have := HS1.out; omega, v0, v1, v2, HC3.out, R_below (R_lower HR0.out HS1.out) HB3.out, R_below (R_lower HR1.out HS1.out) HB3.out, S_below (S_lower HR2.out HS1.out) HB3.out⟩)
 refine (strings_Split.calls a0 ⟨#[10]⟩ lines w3 (Glob.below HG.out HB03.out) HS.out).mono ?_
 rintro e w4 ⟨vl, rfl, hrl, hb4⟩; obtain ⟨Al, cl, rfl, hlc, hCl⟩ := R_reads hrl; obtain ⟨nl, hnl⟩ : ∃ nl, nl = lines.length := ⟨_, rfl⟩
 have HNL := Aside0.mk hnl; have hnl63 := hCl.2.1
 rw [← hnl] at hlc hrl hnl63 ⊢
 have HRL := Aside0.mk hrl; have HB04 := Aside0.mk (below_step HB03.out hb4); have HC04 := Aside0.mk ((hb4.block _ (blk_lt HC03.out)).trans HC03.out); have HPM4 := Aside0.mk (prices_Parse.pm_below HPM3.out hb4); have HS3 := Aside0.mk (show w.heap.size + 1 ≤ w3.heap.size by have := HB13.out.size; have := HS1.out; omega)
 have HS4 := Aside0.mk (show w.heap.size + 1 ≤ w4.heap.size by have := hb4.size; have := HS3.out; omega)
 obtain ⟨g, hg⟩ : ∃ g, g = w2.heap.size := ⟨_, rfl⟩
 rw [← hg] at HPM4 ⊢
 clear hCl hnl hrl hb4 hg HC3 HPM3 HC03 HB03 HB13 HB3 HR0 HR1 HR2 HB2 HB1 HC1
 go_wp2
 go_loopw [5, 6, 8, 9, 10, 11, 22, 23, 24, 25, 26, 27, 28, 29, 30, 31, 32, 33, 34, 35, 36, 37, 38, 39, 40, 41, 42, 43, 44, 45, 46, 47] (fun v5 v6 v8 v9 v10 v11 v22 v23 v24 v25 v26 v27 v28 v29 v30 v31 v32 v33 v34 v35 v36 v37 v38 v39 v40 v41 v42 v43 v44 v45 v46 v47 wr => prices_Parse.paR terms lines res w g Al nl cl v22 wr) (fun v5 v6 v8 v9 v10 v11 v22 v23 v24 v25 v26 v27 v28 v29 v30 v31 v32 v33 v34 v35 v36 v37 v38 v39 v40 v41 v42 v43 v44 v45 v46 v47 wr => nl - (intOf v22).toNat)
 case atStart => exact ⟨0, _, Nat.zero_le _, rfl, HGO.out, HPM4.out, HPRE.out, HB04.out, HC04.out, R_lower HRL.out HS3.out, HS4.out⟩
 case round =>
  obtain ⟨i, P, hi, rfl, hgl, hpm, hpp, hb, hz, hr, hsz⟩ := hrel; have HPM := Aside0.mk hpm; have HPP := Aside0.mk hpp; have HB := Aside0.mk hb; have HZ := Aside0.mk hz; have HR := Aside0.mk hr; have HSZ := Aside0.mk hsz; have hN := HNL.out; clear hpm hpp hb hz hr hsz HPM4 HB04 HC04 HRL HS4 HPRE HGO
  by_cases hlt : i < nl
  rotate_left
  ·
   obtain rfl : i = nl := by omega
   rw [hN, List.drop_length] at hgl
   obtain rfl := Option.some.inj hgl; clear hgl hN; obtain ⟨hgB, u0, u1, u2, hcu, hru0, hru1, hru2⟩ := HPM.out; obtain ⟨hl0, hl1, hl2, hl3, hl4⟩ := prices_Parse.cell25 hcu; have hou0 := (R_val hru0).2; have hou1 := (R_val hru1).2; have hou2 := (R_val (S_R hru2)).2; have HRU0 := Aside0.mk hru0; have HRU1 := Aside0.mk hru1; have HRU2 := Aside0.mk hru2; have hz := HZ.out; clear hru0 hru1 hru2 hcu
   go_wp2_with (refine prices_Parse.ev25 rfl rfl rfl rfl rfl hz rfl hou0 hou1 hou2 rfl rfl ?_; intro w8 hb8 hk8 hc8 hs8; have HC8 := Aside0.mk hc8; have HB8 := Aside0.mk (HB.out.trans hb8); have HK8 := Aside0.mk hk8; clear hb8 hk8 hz hc8 hs8)
   refine bodyPost_ret (prices_Parse.res17 _ _ _ _ rfl HC8.out rfl) rfl ?_
   refine ⟨u0, u1, u2, rfl, ?_, ?_, ?_, HB8.out⟩
   ·
    exact R_lower (R_mono (R_move (R_bound HRU0.out) (fun k hk => HK8.out k (by have := hk.2.1; omega))) (fun k hk => hk.1)) (Nat.le_succ _)
   ·
    exact R_lower (R_mono (R_move (R_bound HRU1.out) (fun k hk => HK8.out k (by have := hk.2.1; omega))) (fun k hk => hk.1)) (Nat.le_succ _)
   ·
    exact S_lower (S_mono (S_move (S_bound HRU2.out) (fun k hk => HK8.out k (by have := hk.2.1; omega))) (fun k hk => hk.1)) (Nat.le_succ _)
  obtain ⟨s, hs⟩ : ∃ s, s = lines.getD i ByteArray.empty := ⟨_, rfl⟩
  rw [List.drop_eq_getElem_cons (show i < lines.length by omega)] at hgl
  have hs' : lines[i]'(by omega) = s := by rw [hs, List.getD_eq_getElem?_getD, List.getElem?_eq_getElem (by omega)]; rfl
  rw [hs'] at hgl
  unfold prices_Parse.goL at hgl
  obtain ⟨lg, lcap, hle, _, _, _, _⟩ := R_form HR.out (by omega)
  rw [← hN] at hle
  injection hle with h1 h2 h3
  subst h1; subst h3; have hx : wr.cell? ⟨lg, i, none⟩ = some (.string s) := by
   have HR' := HR.out
   rw [hN] at HR'
   have := (R_cell ByteArray.empty HR' i (by omega) (by omega)).1
   rw [hs]
   simpa [rdOf] using this
  clear hs hs' h2; obtain ⟨f, hf, hgl⟩ := Option.bind_eq_some_iff.mp hgl; have HF := Aside0.mk hf; have HGL := Aside0.mk hgl; clear hf hgl hN
  go_wp2_with fail
  refine (prices_fields.calls s f wr (Glob.below HG.out HB.out) HF.out).mono ?_
  rintro e w5 ⟨vf, rfl, hrf, hb5⟩; obtain ⟨Af, cf, rfl, hfc, hCf⟩ := R_reads hrf; have HCF := Aside0.mk hCf; have HB5 := Aside0.mk (below_step HB.out hb5); have HZ5 := Aside0.mk ((hb5.block _ (blk_lt HZ.out)).trans HZ.out); have HPM5 := Aside0.mk (prices_Parse.pm_below HPM.out hb5); have HR5 := Aside0.mk (R_below HR.out hb5); have HSZ5 := Aside0.mk (show w.heap.size + 1 ≤ w5.heap.size by have := hb5.size; have := HSZ.out; omega)
  have hgl := HGL.out; have hf63 := hCf.2.1; obtain ⟨nf, hnf⟩ : ∃ nf, nf = f.length := ⟨_, rfl⟩
  have HNF := Aside0.mk hnf
  rw [← hnf] at hgl hfc hf63 ⊢
  clear hrf hb5 hCf hnf HB HZ HPM HR HSZ HGL HF
  by_cases hf0 : nf = 0
  rotate_left
  ·
   rw [if_neg hf0] at hgl
   obtain ⟨b, hfb, hgl⟩ := Option.bind_eq_some_iff.mp hgl; have HFB := Aside0.mk hfb
   cases b with
   | false =>
    simp only [Bool.false_eq_true, if_false, Option.some.injEq] at hgl
    subst hgl; clear hfb
    go_wp2_with fail
    have key := prices_form.calls Af cf f false w5 HCF.out (by have := HNF.out; omega) HFB.out
    rw [← HNF.out] at key
    refine key.mono ?_
    clear key; rintro e w6 ⟨rfl, hb6⟩; have HB6 := Aside0.mk (below_step HB5.out hb6); have hz6 := (hb6.block _ (blk_lt HZ5.out)).trans HZ5.out; clear hb6
    go_wp2_with (refine prices_Parse.ev25 rfl rfl rfl rfl rfl hz6 rfl rfl rfl rfl rfl rfl ?_; intro w7 hb7 hk7 hc7 hs7; have HC7 := Aside0.mk hc7; have HB7 := Aside0.mk (HB6.out.trans hb7); clear hb7 hk7 hz6 hc7 hs7)
    refine bodyPost_ret (prices_Parse.res17 _ _ _ _ rfl HC7.out rfl) rfl ?_
    exact prices_Parse.paPost_zero HB7.out
   | true =>
    rw [if_pos rfl] at hgl
    have HGL := Aside0.mk hgl; clear hgl hfb
    go_wp2_with fail
    have key := prices_form.calls Af cf f true w5 HCF.out (by have := HNF.out; omega) HFB.out
    rw [← HNF.out] at key
    refine key.mono ?_
    clear key; rintro e w6 ⟨rfl, hb6⟩; have HB6 := Aside0.mk (below_step HB5.out hb6); have HZ6 := Aside0.mk ((hb6.block _ (blk_lt HZ5.out)).trans HZ5.out); have HPM6 := Aside0.mk (prices_Parse.pm_below HPM5.out hb6); have HR6 := Aside0.mk (R_below HR5.out hb6); have HCF6 := Aside0.mk (Kd.C_below HCF.out hb6); have HSZ6 := Aside0.mk (show w.heap.size + 1 ≤ w6.heap.size by have := hb6.size; have := HSZ5.out; omega)
    clear hb6; have HAP := Aside0.mk (prices_Parse.apPre_ap (f := f) HPP.out)
    go_wp2_with fail
    have key := prices_Parse.ap_calls Af cf A c (w.heap.size + 1) g P f terms w6 HFB.out (by have := HNF.out; omega) HCF6.out (Kd.C_below HT.out HB6.out) (by have := HNT.out; omega) HPM6.out HSZ6.out HPP.out
    rw [← HNF.out, ← HNT.out] at key
    refine key.mono ?_
    clear key; rintro e w7 ⟨rfl, hb7, hk7, hpm7⟩; have HB7 := Aside0.mk (HB6.out.trans (hb7.mono (Nat.le_succ _))); have HZ7 := Aside0.mk ((hb7.block _ (Nat.lt_succ_self _)).trans HZ6.out); have HR7 := Aside0.mk (prices_Parse.R9_keep HR6.out hk7); have HSZ7 := Aside0.mk (show w.heap.size + 1 ≤ w7.heap.size by have := hb7.size; have := HSZ6.out; omega)
    have hgl := HGL.out; obtain ⟨ar, har⟩ : ∃ ar, ar = prices_Parse.applyP P f terms := ⟨_, rfl⟩
    rw [← har] at hgl HAP hpm7 ⊢
    obtain ⟨ac, aP⟩ := ar; have HPM7 := Aside0.mk hpm7; clear hb7 hk7 hpm7 har HGL
    by_cases hac : ac = 0
    rotate_left
    ·
     rw [if_neg hac] at hgl
     obtain rfl := Option.some.inj hgl; have hz7 := HZ7.out; clear hgl
     go_wp2_with (refine prices_Parse.ev25 rfl rfl rfl rfl rfl hz7 rfl rfl rfl rfl rfl rfl ?_; intro w8 hb8 hk8 hc8 hs8; have HC8 := Aside0.mk hc8; have HB8 := Aside0.mk (HB7.out.trans hb8); clear hb8 hk8 hz7 hc8 hs8)
     refine bodyPost_ret (prices_Parse.res17 _ _ _ _ rfl HC8.out rfl) rfl ?_
     exact prices_Parse.paPost_zero HB8.out
    rw [if_pos hac] at hgl
    have HGL := Aside0.mk hgl; clear hgl; subst hac
    go_wp2
    go_roundw
    case rel => exact ⟨i + 1, aP, by have := HNL.out; omega, by go_num, HGL.out, HPM7.out, HAP.out, HB7.out, HZ7.out, HR7.out, HSZ7.out⟩
    case measure => simp [intOf]; omega
  rw [if_pos hf0] at hgl
  have HGL := Aside0.mk hgl; clear hgl; subst hf0
  go_wp2
  go_roundw
  case rel => exact ⟨i + 1, P, by have := HNL.out; omega, by go_num, HGL.out, HPM5.out, HPP.out, HB5.out, HZ5.out, HR5.out, HSZ5.out⟩
  case measure => simp [intOf]; omega
def prices_Parse.preB (P : prices_Parse.PT) (T : Nat) : Bool := decide (P.1.length = T) && decide (P.2.1.length = T) && decide (P.2.2.1.length = T) && P.2.2.1.all (fun r => decide (r.length = T))
theorem prices_Parse.preB_pre {P : prices_Parse.PT} {T : Nat} (h : prices_Parse.preB P T = true) : prices_Parse.apPre P T := by
 unfold prices_Parse.preB at h
 simp only [Bool.and_eq_true, decide_eq_true_eq, List.all_eq_true] at h
 exact ⟨h.1.1.1, h.1.1.2, h.1.2, h.2⟩
def prices_Parse.f (k : Nat) (a0 : ByteArray) (l1 : List ByteArray) : Option (List Int × List Int × (List (List Int)) × Int × Int × Int × Int) := (prices_names.f k l1).bind fun b => if b = true then ((prices_Default.f k l1.length).bind fun P0 => if prices_Parse.preB P0 l1.length = true then ((strings_Split.f a0 ⟨#[10]⟩).bind fun lines => (prices_Parse.goL l1 lines 0 P0).map fun r => (r.1.1, r.1.2.1, r.1.2.2.1, r.1.2.2.2.1, r.1.2.2.2.2, r.2.1, r.2.2)) else none) else some ([], [], [], 0, 0, 0, 1)
theorem prices_Parse.calls (k : Nat) (a0 : ByteArray) (A1 : Option Addr) (c1 : Nat) (l1 : List ByteArray) (r1 : List Int) (r2 : List Int) (r3 : List (List Int)) (r4 : Int) (r5 : Int) (r6 : Int) (r7 : Int) (w : World) (hr1 : Kd.C Kd.string w A1 l1.length l1) (hc1 : l1.length ≤ c1) (hG : Glob w) (h : prices_Parse.f k a0 l1 = some (r1, r2, r3, r4, r5, r6, r7)) :
  Calls Tryz.prog 17 #[.string a0, .slice A1 l1.length c1] w fun e w' => ∃ v0_ v1_ v2_ : Value, e = .returned (.tuple #[.agg #[v0_, v1_, v2_, .int .i64 r4, .int .i64 r5], .int .i64 r6, .int .i64 r7]) ∧ Kd.R (Kd.int .i64) 3 w' w.heap.size (fun k_ => some k_ ≠ (v1_ : Value).ownBlock) v0_ r1 ∧ Kd.R (Kd.int .i64) 3 w' w.heap.size (fun k_ => some k_ ≠ (v0_ : Value).ownBlock) v1_ r2 ∧ Kd.S (Kd.slice 3 (Kd.int .i64)) 22 w' w.heap.size (fun k_ => some k_ ≠ (v0_ : Value).ownBlock ∧ some k_ ≠ (v1_ : Value).ownBlock) v2_ r3 ∧ Below w.heap.size w w' := by
 unfold prices_Parse.f at h
 obtain ⟨b, hb, h⟩ := Option.bind_eq_some_iff.mp h
 cases b with
 | false =>
  simp only [Bool.false_eq_true, if_false, Option.some.injEq, Prod.mk.injEq] at h
  obtain ⟨rfl, rfl, rfl, rfl, rfl, rfl, rfl⟩ := h
  exact prices_Parse.pa_no a0 A1 c1 k l1 w hr1 hc1 hb
 | true =>
  rw [if_pos rfl] at h
  obtain ⟨P0, hP, h⟩ := Option.bind_eq_some_iff.mp h
  split at h
  ·
   rename_i hpre
   obtain ⟨lines, hs, h⟩ := Option.bind_eq_some_iff.mp h; obtain ⟨r, hg, h⟩ := Option.map_eq_some_iff.mp h
   simp only [Prod.mk.injEq] at h
   obtain ⟨rfl, rfl, rfl, rfl, rfl, rfl, rfl⟩ := h
   exact prices_Parse.pa_yes a0 A1 c1 k l1 lines P0 r w hG hr1 hc1 hb hP (prices_Parse.preB_pre hpre) hs hg
  ·
   cases h
end
end Go.Proofs.YtdcfcpgpbbgceaaGreatDoor.PAll
-- dedented
