/- The law emendate/emendatelaw34.PricesRoundTrip: for every input it returns true, and each argument reads afterwards as before. By rowgen.py out of the printed walk and the pure statement. -/
import Derived.Test.YtdcfcpgpbbgceaaGreatDoorCards
import Derived.Test.YtdcfcpgpbbgceaaGreatDoorTie
import Derived.Test.YtdcfcpgpbbgceaaGreatDoorLaid
import Derived.Test.YtdcfcpgpbbgceaaGreatDoorOpen
import Derived.Test.YtdcfcpgpbbgceaaGreatDoorPAllx20r
import Derived.Test.YtdcfcpgpbbgceaaGreatDoorPurePricesRoundTrip
import Derived.WalkKit
import Derived.ProofKit
import Derived.OpenShut
import Derived.Below
import Derived.Deep.DeepHandedRow
import Derived.Lib.LaidTab
namespace Go.Proofs.YtdcfcpgpbbgceaaGreatDoor.RPricesRoundTrip
open Go.ChangeShapes Go.WideShapes Go.ChangeAt Go.RowKit Go.Proofs.YtdcfcpgpbbgceaaGreatDoorW.PrintWords Go.Proofs.YtdcfcpgpbbgceaaGreatDoor.Open Go.Proofs.YtdcfcpgpbbgceaaGreatDoor.PAll
set_option linter.unusedVariables false
set_option linter.unusedSimpArgs false
theorem own : ownKnob Tryz.prog.godebug = none := by kernel_rfl
theorem laidOut : laidOutB Tryz.prog = true := by kernel_rfl
theorem cells25 : Tryz.prog.cellsOf 25 = k25.sz := by kernel_rfl
theorem cells22 : Tryz.prog.cellsOf 22 = (Kd.slice 3 (Kd.int .i64)).sz := by kernel_rfl
theorem cells3 : Tryz.prog.cellsOf 3 = (Kd.int .i64).sz := by kernel_rfl
theorem o3 : Opens Tryz.prog 3 (Kd.int .i64) g3 := opens_int Tryz.underlying3 cells3
theorem o22 : Opens Tryz.prog 22 (Kd.slice 3 (Kd.int .i64)) g22 := opens_slice Tryz.underlying22 cells22 o3
theorem cells23 : Tryz.prog.cellsOf 23 = (Kd.slice 22 (Kd.slice 3 (Kd.int .i64))).sz := by kernel_rfl
theorem o23 : Opens Tryz.prog 23 (Kd.slice 22 (Kd.slice 3 (Kd.int .i64))) g23 := opens_slice Tryz.underlying23 cells23 o22
set_option maxRecDepth 20000 in
theorem o25 : Opens Tryz.prog 25 k25 g25 := opens_iso (good := fun y : (List Int) × (List Int) × (List (List Int)) × Int × Int => g22 y.1 ∧ g22 y.2.1 ∧ g23 y.2.2.1 ∧ g3 y.2.2.2.1 ∧ g3 y.2.2.2.2) (opens_struct Tryz.underlying25 cells25 (opensF_cons (ga := g22) (gb := fun y : (List Int) × (List (List Int)) × Int × Int => g22 y.1 ∧ g23 y.2.1 ∧ g3 y.2.2.1 ∧ g3 y.2.2.2) o22 rfl (opensF_cons (ga := g22) (gb := fun y : (List (List Int)) × Int × Int => g23 y.1 ∧ g3 y.2.1 ∧ g3 y.2.2) o22 rfl (opensF_cons (ga := g23) (gb := fun y : Int × Int => g3 y.1 ∧ g3 y.2) o23 rfl (opensF_cons (ga := g3) (gb := fun y : Int => g3 y) o3 rfl (opensF_one (good := g3) o3 rfl)))))) _ (fun y => (⟨y.1, y.2.1, y.2.2.1, y.2.2.2.1, y.2.2.2.2⟩ : S25)) (fun _ => rfl)
theorem cells31 : Tryz.prog.cellsOf 31 = (Kd.slice 9 Kd.string).sz := by kernel_rfl
theorem cells9 : Tryz.prog.cellsOf 9 = Kd.string.sz := by kernel_rfl
theorem o9 : Opens Tryz.prog 9 Kd.string g9 := opens_string Tryz.underlying9 cells9
theorem o31 : Opens Tryz.prog 31 (Kd.slice 9 Kd.string) g31 := opens_slice Tryz.underlying31 cells31 o9
set_option maxRecDepth 100000 in
theorem contract (H : Type) (enc : TypeId × Value → H) (W : World) (base : Nat) (args : Array Value) (ds gs : List (DataW H)) (before : List MemPlace)
    (hval : ∀ (j : Nat) t v, Tryz.f6.params[j]? = some t → args[j]? = some v → Value.okWide Tryz.prog W .any base t v)
    (hW : DataW.Whole enc Tryz.prog Tryz.f6.params.toList Rows.pricesRoundTripSpec.vars false W args.toList ds gs before) (hG : Glob W) :
    Calls Tryz.prog 6 args W fun e W' => ∃ v, e = .returned v ∧ Rows.pricesRoundTripSpec.post enc Tryz.prog Tryz.f6 false true false false W args v W' := by
  have hW' := hW
  obtain ⟨p, q, hA0, hV, rfl, hfz, hnd⟩ := hW
  have hA : DataW.TrodAll enc Tryz.prog W 0 (fun _ => true) true Tryz.f6.params.toList args.toList ds p := hA0
  rw [Tryz.params6] at hA hval
  obtain ⟨v0, vs0, d0, ds0, p0, q0, hargs, rfl, rfl, h0, r0⟩ := trodAll_cons hA
  obtain ⟨v1, vs1, d1, ds1, p1, q1, rfl, rfl, rfl, h1, r1⟩ := trodAll_cons r0
  obtain ⟨v2, vs2, d2, ds2, p2, q2, rfl, rfl, rfl, h2, r2⟩ := trodAll_cons r1
  obtain ⟨rfl, rfl, rfl⟩ := trodAll_nil r2
  obtain rfl : args = #[v0, v1, v2] := by cases args; simp_all
  obtain ⟨rfl, rfl⟩ := trodVars_none hV
  have b0 := h0
  have lt0 : ∀ x ∈ p0, x.block < W.heap.size := by obtain ⟨m, hm⟩ := b0; exact DataW.trod_lt m _ _ _ hm
  obtain ⟨fu0, hf0⟩ := h0
  obtain ⟨x0, K0, G0⟩ := o25.2 H enc W 0 _ _ fu0 _ _ hf0
  obtain ⟨cs0, rfl, _⟩ := okWide_struct Tryz.underlying25 (hval 0 25 v0 rfl rfl)
  obtain ⟨A0_0, c0_0, A0_1, c0_1, A0_2, c0_2, e0, l0_0, C0_0, l0_1, C0_1, l0_2, C0_2⟩ := k25_open K0
  have e0' : cs0.toList = _ := e0
  obtain rfl : cs0 = #[Value.slice A0_0 x0.f0.length c0_0, Value.slice A0_1 x0.f1.length c0_1, Value.slice A0_2 x0.f2.length c0_2, Value.int .i64 x0.f3, Value.int .i64 x0.f4] := by apply Array.toList_inj.1; rw [e0']
  clear e0 e0' K0
  have b1 := h1
  have lt1 : ∀ x ∈ p1, x.block < W.heap.size := by obtain ⟨m, hm⟩ := b1; exact DataW.trod_lt m _ _ _ hm
  obtain ⟨fu1, hf1⟩ := h1
  obtain ⟨x1, K1, G1⟩ := o31.2 H enc W 0 _ _ fu1 _ _ hf1
  obtain ⟨a1, len1, cap1, rfl⟩ := okWide_slice Tryz.underlying31 (hval 1 31 v1 rfl rfl)
  obtain ⟨A1, c1, e1, l1, C1⟩ := K1
  have e1' : [Value.slice a1 len1 cap1] = [Value.slice A1 x1.length c1] := e1
  simp only [List.cons.injEq, Value.slice.injEq, and_true] at e1'
  obtain ⟨rfl, rfl, rfl⟩ := e1'
  clear e1
  have b2 := h2
  have lt2 : ∀ x ∈ p2, x.block < W.heap.size := by obtain ⟨m, hm⟩ := b2; exact DataW.trod_lt m _ _ _ hm
  obtain ⟨fu2, hf2⟩ := h2
  obtain ⟨x2, K2, G2⟩ := o9.2 H enc W 0 _ _ fu2 _ _ hf2
  obtain ⟨a2, rfl, rfl, rfl, wq2⟩ := Go.ChangeMaps.open_string Tryz.underlying9 (hval 2 9 v2 rfl rfl) b2
  have e2 : [Value.string a2] = [Value.string x2] := K2
  simp only [List.cons.injEq, Value.string.injEq, and_true, true_and] at e2
  subst e2
  have hp := PricesRoundTrip x0 x1 a2 G0 G1 G2
  obtain ⟨k, hp⟩ := hp
  refine (emendatelaw34_PricesRoundTrip.calls k _ _ x0.f0 _ _ x0.f1 _ _ x0.f2 x0.f3 x0.f4 _ _ x1 a2 true W C0_0 l0_0 C0_1 l0_1 C0_2 l0_2 C1 l1 hG hp).mono fun e W' ⟨he, bel0⟩ => ?_
  have bel : Below W.heap.size W W' := bel0
  subst he
  exact ⟨_, rfl, _, _, _, [], _, [], hW', trodAll_mk1 (shut_bool Tryz.underlying4 _), (trodAll_cons_mk (Below.trod laidOut (by kernel_rfl) (of_decide_eq_true (by kernel_rfl)) b0 bel lt0) (trodAll_cons_mk (Below.trod laidOut (by kernel_rfl) (of_decide_eq_true (by kernel_rfl)) b1 bel lt1) (trodAll_cons_mk (Below.trod laidOut (by kernel_rfl) (of_decide_eq_true (by kernel_rfl)) b2 bel lt2) trodAll_mk0))), rfl, bel.frame _, fun h => by cases h⟩
theorem witness_row (os : Os) {H : Type} (enc : TypeId × Value → H) : (OpenSpec.ofChange Rows.pricesRoundTripSpec).preRow enc Tryz.prog Tryz.f6 Rows.pricesRoundTripRow.domain false Rows.pricesRoundTripRow.laid ((laidWorld os).forCall (fun _ _ => 0) ⟨#[], #[.agg #[.slice none 0 0, .slice none 0 0, .slice none 0 0, .int .i64 0, .int .i64 0], .slice none 0 0, .string ByteArray.empty], []⟩).memory #[.agg #[.slice none 0 0, .slice none 0 0, .slice none 0 0, .int .i64 0, .int .i64 0], .slice none 0 0, .string ByteArray.empty] := by
  have hw : (DataW.whole enc Tryz.prog ((laidWorld os).forCall (fun _ _ => 0) ⟨#[], #[.agg #[.slice none 0 0, .slice none 0 0, .slice none 0 0, .int .i64 0, .int .i64 0], .slice none 0 0, .string ByteArray.empty], []⟩).memory Tryz.f6.params.toList Rows.pricesRoundTripSpec.vars false #[(.agg #[.slice none 0 0, .slice none 0 0, .slice none 0 0, .int .i64 0, .int .i64 0] : Value), (.slice none 0 0 : Value), (.string ByteArray.empty : Value)].toList 8).map (fun x => (x.1, x.2.1)) = some ([.agg [.nil, .nil, .nil, .lit (.int .i64 0), .lit (.int .i64 0)], .nil, .lit (.string [])], []) := by kernel_rfl
  obtain ⟨⟨x1, x2, x3⟩, hx, hx1⟩ := Option.map_eq_some_iff.1 hw
  simp only [Prod.mk.injEq] at hx1
  obtain ⟨rfl, rfl⟩ := hx1
  exact OpenSpec.preRow_of_cond 8 hx (by kernel_rfl) (fun k hk => by cases hk) (by kernel_rfl) (laid_met os _)
set_option maxRecDepth 100000 in
theorem lifted (os : Os) (started : os.Started) (H : Type) (enc : TypeId × Value → H) (F : Stop.Interp) :
    ReturnsInHanded {} Tryz.checked os 6 .any ((OpenSpec.ofChange Rows.pricesRoundTripSpec).preRow enc Tryz.prog Tryz.f6 Rows.pricesRoundTripRow.domain false Rows.pricesRoundTripRow.laid) (((OpenSpec.ofChange Rows.pricesRoundTripSpec).at F).post enc Tryz.prog Tryz.f6 false true false false) := by
  refine returnsInHanded_of_row (C := Tryz.checked) (s := OpenSpec.ofChange Rows.pricesRoundTripSpec) own started (by kernel_rfl) Tryz.func6
    (witness_row_atRef (enc := enc) (C := Tryz.checked) false (laidWorld os) #[.agg #[.slice none 0 0, .slice none 0 0, .slice none 0 0, .int .i64 0, .int .i64 0], .slice none 0 0, .string ByteArray.empty] rfl (by kernel_rfl) (by kernel_rfl) (by kernel_rfl) (witness_row os enc)) ?_
  intro W base args ds gs before hval hW _ _ _ hL hsh _
  exact contract H enc W base args ds gs before hval hW (glob_of hL hsh)
theorem said : Rows.PricesRoundTripSaid :=
  OpenClaim.holds_of_cond 6 Tryz.f6 rfl rfl rfl rfl rfl rfl rfl ⟨rfl, rfl, rfl, rfl, rfl⟩ rfl rfl rfl rfl rfl (by kernel_rfl) Tryz.func6 (by kernel_rfl)
    (of_decide_eq_true (by kernel_rfl)) (by unfold Func.isWrapper; first | (rw [if_pos (by decide +kernel)]; kernel_rfl) | (rw [if_neg (by decide +kernel)]; exact ⟨rfl, rfl⟩))
    (fun os started H enc _ F => by rw [OpenClaim.pre_eq_preRow]; exact lifted os started H enc F)
theorem plain (f : FuncId) (fn : Func) (hf : Tryz.pinned.checked.prog.funcNamed "emendate/emendatelaw34.PricesRoundTrip" = some f) (hfn : Tryz.pinned.checked.prog.funcs[f]? = some fn) :
    Tryz.pinned.checked.prog.looks [] = Tryz.pinned.checked.prog.looks [] ∧ ∀ (j : Nat) t, fn.params[j]? = some t → Tryz.pinned.checked.prog.wantsStandIn t = false := by
  obtain rfl : f = 6 := Option.some.inj ((show Tryz.prog.funcNamed "emendate/emendatelaw34.PricesRoundTrip" = some 6 by kernel_rfl).symm.trans hf) |>.symm
  obtain rfl : fn = Tryz.f6 := (Option.some.inj (Tryz.func6.symm.trans hfn)).symm
  refine ⟨rfl, fun j t ht => ?_⟩
  rw [Tryz.params6] at ht
  have hm := Array.mem_of_getElem? ht
  simp only [List.mem_toArray, List.mem_cons, List.mem_nil_iff, or_false] at hm
  rcases hm with rfl | rfl | rfl
  · exact (show Tryz.prog.wantsStandIn 25 = false by kernel_rfl)
  · exact (show Tryz.prog.wantsStandIn 31 = false by kernel_rfl)
  · exact (show Tryz.prog.wantsStandIn 9 = false by kernel_rfl)
theorem card : Rows.PricesRoundTripCardSaid :=
  Claim7.holds_tied_plain_at .later [] _ _ _ _ said (fun _ h => by cases h) (by kernel_rfl) (fun _ h => by cases h) pricesRoundTrip_row_tie rfl ⟨rfl, rfl⟩ (by kernel_rfl) rfl (fun f fn hf hfn => ⟨by kernel_rfl, (plain f fn hf hfn).2⟩) (by kernel_rfl)
#print axioms card
end Go.Proofs.YtdcfcpgpbbgceaaGreatDoor.RPricesRoundTrip
namespace Go.Proofs.YtdcfcpgpbbgceaaGreatDoor
theorem pricesRoundTrip_holds : Rows.PricesRoundTripCardSaid := RPricesRoundTrip.card
end Go.Proofs.YtdcfcpgpbbgceaaGreatDoor
