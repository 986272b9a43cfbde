/- The law emendate/emendatelaw34.PricesOverride: for every input of bulk at most 1048576 it returns true, and each argument reads afterwards as before. By rowgen.py out of the printed walk and the pure statement. -/
import Derived.Test.YtdcfcpgpbbgceaaGreatDoorCards
import Derived.Test.YtdcfcpgpbbgceaaGreatDoorTie
import Derived.Test.YtdcfcpgpbbgceaaGreatDoorLaid
import Derived.Test.YtdcfcpgpbbgceaaGreatDoorOpen
import Derived.Test.YtdcfcpgpbbgceaaGreatDoorPAllx22
import Derived.Test.YtdcfcpgpbbgceaaGreatDoorPurePricesOverride
import Derived.WalkKit
import Derived.ProofKit
import Derived.OpenShut
import Derived.Below
import Derived.Deep.DeepHandedRow
import Derived.Lib.LaidTab
namespace Go.Proofs.YtdcfcpgpbbgceaaGreatDoor.RPricesOverride
open Go.ChangeShapes Go.WideShapes Go.ChangeAt Go.RowKit Go.Proofs.YtdcfcpgpbbgceaaGreatDoorW.PrintWords Go.Proofs.YtdcfcpgpbbgceaaGreatDoor.Open Go.Proofs.YtdcfcpgpbbgceaaGreatDoor.PAll
set_option linter.unusedVariables false
set_option linter.unusedSimpArgs false
theorem own : ownKnob Tryz.prog.godebug = none := by kernel_rfl
theorem laidOut : laidOutB Tryz.prog = true := by kernel_rfl
theorem cells9 : Tryz.prog.cellsOf 9 = Kd.string.sz := by kernel_rfl
theorem o9 : Opens Tryz.prog 9 Kd.string g9 := opens_string Tryz.underlying9 cells9
theorem cells41 : Tryz.prog.cellsOf 41 = (Kd.int .u16).sz := by kernel_rfl
theorem o41 : Opens Tryz.prog 41 (Kd.int .u16) g41 := opens_int Tryz.underlying41 cells41
set_option maxRecDepth 100000 in
theorem contract (H : Type) (enc : TypeId × Value → H) (W : World) (base : Nat) (args : Array Value) (ds gs : List (DataW H)) (before : List MemPlace)
    (hval : ∀ (j : Nat) t v, Tryz.f7.params[j]? = some t → args[j]? = some v → Value.okWide Tryz.prog W .any base t v)
    (hW : DataW.Whole enc Tryz.prog Tryz.f7.params.toList Rows.pricesOverrideSpec.vars false W args.toList ds gs before) (hG : Glob W) (hbulk : Rows.uptoSmall H (ds ++ gs) = true) :
    Calls Tryz.prog 7 args W fun e W' => ∃ v, e = .returned v ∧ Rows.pricesOverrideSpec.post enc Tryz.prog Tryz.f7 false true false false W args v W' := by
  have hW' := hW
  obtain ⟨p, q, hA0, hV, rfl, hfz, hnd⟩ := hW
  have hA : DataW.TrodAll enc Tryz.prog W 0 (fun _ => true) true Tryz.f7.params.toList args.toList ds p := hA0
  rw [Tryz.params7] at hA hval
  obtain ⟨v0, vs0, d0, ds0, p0, q0, hargs, rfl, rfl, h0, r0⟩ := trodAll_cons hA
  obtain ⟨v1, vs1, d1, ds1, p1, q1, rfl, rfl, rfl, h1, r1⟩ := trodAll_cons r0
  obtain ⟨v2, vs2, d2, ds2, p2, q2, rfl, rfl, rfl, h2, r2⟩ := trodAll_cons r1
  obtain ⟨rfl, rfl, rfl⟩ := trodAll_nil r2
  obtain rfl : args = #[v0, v1, v2] := by cases args; simp_all
  obtain ⟨rfl, rfl⟩ := trodVars_none hV
  have b0 := h0
  have lt0 : ∀ x ∈ p0, x.block < W.heap.size := by obtain ⟨m, hm⟩ := b0; exact DataW.trod_lt m _ _ _ hm
  obtain ⟨fu0, hf0⟩ := h0
  obtain ⟨x0, K0, G0⟩ := o9.2 H enc W 0 _ _ fu0 _ _ hf0
  obtain ⟨a0, rfl, rfl, rfl, wq0⟩ := Go.ChangeMaps.open_string Tryz.underlying9 (hval 0 9 v0 rfl rfl) b0
  have e0 : [Value.string a0] = [Value.string x0] := K0
  simp only [List.cons.injEq, Value.string.injEq, and_true, true_and] at e0
  subst e0
  have b1 := h1
  have lt1 : ∀ x ∈ p1, x.block < W.heap.size := by obtain ⟨m, hm⟩ := b1; exact DataW.trod_lt m _ _ _ hm
  obtain ⟨fu1, hf1⟩ := h1
  obtain ⟨x1, K1, G1⟩ := o41.2 H enc W 0 _ _ fu1 _ _ hf1
  obtain ⟨a1, rfl, rfl, rfl, wq1⟩ := open_int Tryz.underlying41 (hval 1 41 v1 rfl rfl) b1
  have e1 : [Value.int .u16 a1] = [Value.int .u16 x1] := K1
  simp only [List.cons.injEq, Value.int.injEq, and_true, true_and] at e1
  subst e1
  have b2 := h2
  have lt2 : ∀ x ∈ p2, x.block < W.heap.size := by obtain ⟨m, hm⟩ := b2; exact DataW.trod_lt m _ _ _ hm
  obtain ⟨fu2, hf2⟩ := h2
  obtain ⟨x2, K2, G2⟩ := o41.2 H enc W 0 _ _ fu2 _ _ hf2
  obtain ⟨a2, rfl, rfl, rfl, wq2⟩ := open_int Tryz.underlying41 (hval 2 41 v2 rfl rfl) b2
  have e2 : [Value.int .u16 a2] = [Value.int .u16 x2] := K2
  simp only [List.cons.injEq, Value.int.injEq, and_true, true_and] at e2
  subst e2
  have hz : a0.size ≤ 1048576 := by
    have h := of_decide_eq_true hbulk
    simp [Rows.uptoBulkAll, Rows.uptoBulk] at h
    have e : a0.data.size = a0.size := rfl
    omega
  have hp := PricesOverride a0 a1 a2 hz G1 G2
  obtain ⟨k, hp⟩ := hp
  refine (emendatelaw34_PricesOverride.calls k a0 a1 a2 true W hG rfl hp).mono fun e W' ⟨he, bel0⟩ => ?_
  have bel : Below W.heap.size W W' := bel0
  subst he
  exact ⟨_, rfl, _, _, _, [], _, [], hW', trodAll_mk1 (shut_bool Tryz.underlying4 _), (trodAll_cons_mk (Below.trod laidOut (by kernel_rfl) (of_decide_eq_true (by kernel_rfl)) b0 bel lt0) (trodAll_cons_mk (Below.trod laidOut (by kernel_rfl) (of_decide_eq_true (by kernel_rfl)) b1 bel lt1) (trodAll_cons_mk (Below.trod laidOut (by kernel_rfl) (of_decide_eq_true (by kernel_rfl)) b2 bel lt2) trodAll_mk0))), rfl, bel.frame _, fun h => by cases h⟩
theorem witness_row (os : Os) {H : Type} (enc : TypeId × Value → H) : (Rows.OpenSpec.upto Rows.pricesOverrideSpec).preRow enc Tryz.prog Tryz.f7 Rows.pricesOverrideUptoRow.domain false Rows.pricesOverrideUptoRow.laid ((laidWorld os).forCall (fun _ _ => 0) ⟨#[], #[.string ByteArray.empty, .int .u16 0, .int .u16 0], []⟩).memory #[.string ByteArray.empty, .int .u16 0, .int .u16 0] := by
  have hw : (DataW.whole enc Tryz.prog ((laidWorld os).forCall (fun _ _ => 0) ⟨#[], #[.string ByteArray.empty, .int .u16 0, .int .u16 0], []⟩).memory Tryz.f7.params.toList Rows.pricesOverrideSpec.vars false #[(.string ByteArray.empty : Value), (.int .u16 0 : Value), (.int .u16 0 : Value)].toList 8).map (fun x => (x.1, x.2.1)) = some ([.lit (.string []), .lit (.int .u16 0), .lit (.int .u16 0)], []) := by kernel_rfl
  obtain ⟨⟨x1, x2, x3⟩, hx, hx1⟩ := Option.map_eq_some_iff.1 hw
  simp only [Prod.mk.injEq] at hx1
  obtain ⟨rfl, rfl⟩ := hx1
  exact OpenSpec.preRow_of_cond 8 hx (by kernel_rfl) (fun k hk => by cases hk; kernel_rfl) (by kernel_rfl) (laid_met os _)
set_option maxRecDepth 100000 in
theorem lifted (os : Os) (started : os.Started) (H : Type) (enc : TypeId × Value → H) (F : Stop.Interp) :
    ReturnsInHanded {} Tryz.checked os 7 .any ((Rows.OpenSpec.upto Rows.pricesOverrideSpec).preRow enc Tryz.prog Tryz.f7 Rows.pricesOverrideUptoRow.domain false Rows.pricesOverrideUptoRow.laid) (((Rows.OpenSpec.upto Rows.pricesOverrideSpec).at F).post enc Tryz.prog Tryz.f7 false true false false) := by
  refine returnsInHanded_of_row (C := Tryz.checked) (s := Rows.OpenSpec.upto Rows.pricesOverrideSpec) own started (by kernel_rfl) Tryz.func7
    (witness_row_atRef (enc := enc) (C := Tryz.checked) false (laidWorld os) #[.string ByteArray.empty, .int .u16 0, .int .u16 0] rfl (by kernel_rfl) (by kernel_rfl) (by kernel_rfl) (witness_row os enc)) ?_
  intro W base args ds gs before hval hW _ hcond _ hL hsh _
  exact contract H enc W base args ds gs before hval hW (glob_of hL hsh) (hcond _ rfl)
theorem said : Rows.PricesOverrideUptoSaid :=
  OpenClaim.holds_of_cond 7 Tryz.f7 rfl rfl rfl rfl rfl rfl rfl ⟨rfl, rfl, rfl, rfl, rfl⟩ rfl rfl rfl rfl rfl (by kernel_rfl) Tryz.func7 (by kernel_rfl)
    (of_decide_eq_true (by kernel_rfl)) (by unfold Func.isWrapper; first | (rw [if_pos (by decide +kernel)]; kernel_rfl) | (rw [if_neg (by decide +kernel)]; exact ⟨rfl, rfl⟩))
    (fun os started H enc _ F => by rw [OpenClaim.pre_eq_preRow]; exact lifted os started H enc F)
theorem plain (f : FuncId) (fn : Func) (hf : Tryz.pinned.checked.prog.funcNamed "emendate/emendatelaw34.PricesOverride" = some f) (hfn : Tryz.pinned.checked.prog.funcs[f]? = some fn) :
    Tryz.pinned.checked.prog.looks [] = Tryz.pinned.checked.prog.looks [] ∧ ∀ (j : Nat) t, fn.params[j]? = some t → Tryz.pinned.checked.prog.wantsStandIn t = false := by
  obtain rfl : f = 7 := Option.some.inj ((show Tryz.prog.funcNamed "emendate/emendatelaw34.PricesOverride" = some 7 by kernel_rfl).symm.trans hf) |>.symm
  obtain rfl : fn = Tryz.f7 := (Option.some.inj (Tryz.func7.symm.trans hfn)).symm
  refine ⟨rfl, fun j t ht => ?_⟩
  rw [Tryz.params7] at ht
  have hm := Array.mem_of_getElem? ht
  simp only [List.mem_toArray, List.mem_cons, List.mem_nil_iff, or_false] at hm
  rcases hm with rfl | rfl | rfl
  · exact (show Tryz.prog.wantsStandIn 9 = false by kernel_rfl)
  · exact (show Tryz.prog.wantsStandIn 41 = false by kernel_rfl)
  · exact (show Tryz.prog.wantsStandIn 41 = false by kernel_rfl)
theorem card : Rows.PricesOverrideUptoCardSaid :=
  Claim7.holds_tied_plain_at .later [] _ _ _ _ said (fun _ h => by cases h) (by kernel_rfl) (fun _ h => by cases h) pricesOverrideUpto_row_tie rfl ⟨rfl, rfl⟩ (by kernel_rfl) rfl (fun f fn hf hfn => ⟨by kernel_rfl, (plain f fn hf hfn).2⟩) (by kernel_rfl)
#print axioms card
end Go.Proofs.YtdcfcpgpbbgceaaGreatDoor.RPricesOverride
namespace Go.Proofs.YtdcfcpgpbbgceaaGreatDoor
theorem pricesOverrideUpto_holds : Rows.PricesOverrideUptoCardSaid := RPricesOverride.card
end Go.Proofs.YtdcfcpgpbbgceaaGreatDoor
