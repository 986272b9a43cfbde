/- The law emendate/emendatelaw43.IncrementKeep: for every input it returns true, and each argument reads afterwards as before. By rowgen.py out of the printed walk and the pure statement. -/
import Derived.Test.YtnimmolcgpkfdaaDoorCards
import Derived.Test.YtnimmolcgpkfdaaDoorTie
import Derived.Test.YtnimmolcgpkfdaaDoorOpen
import Derived.Test.YtnimmolcgpkfdaaDoorPIncrementKeepx6
import Derived.Test.YtnimmolcgpkfdaaDoorPureIncrementKeep
import Derived.WalkKit
import Derived.ProofKit
import Derived.OpenShut
import Derived.Below
import Derived.Deep.DeepHandedRow
import Derived.Lib.LaidTab
namespace Go.Proofs.YtnimmolcgpkfdaaDoor.PIncrementKeep
open Go.ChangeShapes Go.WideShapes Go.ChangeAt Go.RowKit Go.Proofs.YtnimmolcgpkfdaaDoorW.PrintWords Go.Proofs.YtnimmolcgpkfdaaDoor.Open
set_option linter.unusedVariables false
set_option linter.unusedSimpArgs false
theorem own : ownKnob Tryd.prog.godebug = none := by kernel_rfl
theorem laidOut : laidOutB Tryd.prog = true := by kernel_rfl
theorem cells23 : Tryd.prog.cellsOf 23 = k23.sz := by kernel_rfl
theorem cells3 : Tryd.prog.cellsOf 3 = (Kd.int .i64).sz := by kernel_rfl
theorem o3 : Opens Tryd.prog 3 (Kd.int .i64) g3 := opens_int Tryd.underlying3 cells3
set_option maxRecDepth 20000 in
theorem o23 : Opens Tryd.prog 23 k23 g23 := opens_iso (good := fun y : Int × Int × Int => g3 y.1 ∧ g3 y.2.1 ∧ g3 y.2.2) (opens_struct Tryd.underlying23 cells23 (opensF_cons (ga := g3) (gb := fun y : Int × Int => g3 y.1 ∧ g3 y.2) o3 rfl (opensF_cons (ga := g3) (gb := fun y : Int => g3 y) o3 rfl (opensF_one (good := g3) o3 rfl)))) _ (fun y => (⟨y.1, y.2.1, y.2.2⟩ : S23)) (fun _ => rfl)
theorem cells25 : Tryd.prog.cellsOf 25 = k25.sz := by kernel_rfl
set_option maxRecDepth 20000 in
theorem o25 : Opens Tryd.prog 25 k25 g25 := opens_iso (good := fun y : Int × Int × Int => g3 y.1 ∧ g3 y.2.1 ∧ g3 y.2.2) (opens_struct Tryd.underlying25 cells25 (opensF_cons (ga := g3) (gb := fun y : Int × Int => g3 y.1 ∧ g3 y.2) o3 rfl (opensF_cons (ga := g3) (gb := fun y : Int => g3 y) o3 rfl (opensF_one (good := g3) o3 rfl)))) _ (fun y => (⟨y.1, y.2.1, y.2.2⟩ : S25)) (fun _ => rfl)
set_option maxRecDepth 100000 in
/-- What the walk gives, for every argument. -/
theorem contract (H : Type) (enc : TypeId × Value → H) (W : World) (base : Nat) (args : Array Value) (ds gs : List (DataW H)) (before : List MemPlace)
    (hval : ∀ (j : Nat) t v, Tryd.f3.params[j]? = some t → args[j]? = some v → Value.okWide Tryd.prog W .any base t v)
    (hW : DataW.Whole enc Tryd.prog Tryd.f3.params.toList Rows.incrementKeepSpec.vars false W args.toList ds gs before) :
    Calls Tryd.prog 3 args W fun e W' => ∃ v, e = .returned v ∧ Rows.incrementKeepSpec.post enc Tryd.prog Tryd.f3 false true false false W args v W' := by
  have hW' := hW
  obtain ⟨p, q, hA0, hV, rfl, hfz, hnd⟩ := hW
  have hA : DataW.TrodAll enc Tryd.prog W 0 (fun _ => true) true Tryd.f3.params.toList args.toList ds p := hA0
  rw [Tryd.params3] at hA hval
  obtain ⟨v0, vs0, d0, ds0, p0, q0, hargs, rfl, rfl, h0, r0⟩ := trodAll_cons hA
  obtain ⟨v1, vs1, d1, ds1, p1, q1, rfl, rfl, rfl, h1, r1⟩ := trodAll_cons r0
  obtain ⟨v2, vs2, d2, ds2, p2, q2, rfl, rfl, rfl, h2, r2⟩ := trodAll_cons r1
  obtain ⟨rfl, rfl, rfl⟩ := trodAll_nil r2
  obtain rfl : args = #[v0, v1, v2] := by cases args; simp_all
  obtain ⟨rfl, rfl⟩ := trodVars_none hV
  have b0 := h0
  have lt0 : ∀ x ∈ p0, x.block < W.heap.size := by obtain ⟨m, hm⟩ := b0; exact DataW.trod_lt m _ _ _ hm
  obtain ⟨fu0, hf0⟩ := h0
  obtain ⟨x0, K0, G0⟩ := o23.2 H enc W 0 _ _ fu0 _ _ hf0
  obtain ⟨cs0, rfl, _⟩ := okWide_struct Tryd.underlying23 (hval 0 23 v0 rfl rfl)
  have e0 := k23_open K0
  have e0' : cs0.toList = _ := e0
  obtain rfl : cs0 = #[Value.int .i64 x0.f0, Value.int .i64 x0.f1, Value.int .i64 x0.f2] := by apply Array.toList_inj.1; rw [e0']
  clear e0 e0' K0
  have b1 := h1
  have lt1 : ∀ x ∈ p1, x.block < W.heap.size := by obtain ⟨m, hm⟩ := b1; exact DataW.trod_lt m _ _ _ hm
  obtain ⟨fu1, hf1⟩ := h1
  obtain ⟨x1, K1, G1⟩ := o25.2 H enc W 0 _ _ fu1 _ _ hf1
  obtain ⟨cs1, rfl, _⟩ := okWide_struct Tryd.underlying25 (hval 1 25 v1 rfl rfl)
  have e1 := k25_open K1
  have e1' : cs1.toList = _ := e1
  obtain rfl : cs1 = #[Value.int .i64 x1.f0, Value.int .i64 x1.f1, Value.int .i64 x1.f2] := by apply Array.toList_inj.1; rw [e1']
  clear e1 e1' K1
  have b2 := h2
  have lt2 : ∀ x ∈ p2, x.block < W.heap.size := by obtain ⟨m, hm⟩ := b2; exact DataW.trod_lt m _ _ _ hm
  obtain ⟨fu2, hf2⟩ := h2
  obtain ⟨x2, K2, G2⟩ := o3.2 H enc W 0 _ _ fu2 _ _ hf2
  obtain ⟨a2, rfl, rfl, rfl, wq2⟩ := open_int Tryd.underlying3 (hval 2 3 v2 rfl rfl) b2
  have e2 : [Value.int .i64 a2] = [Value.int .i64 x2] := K2
  simp only [List.cons.injEq, Value.int.injEq, and_true, true_and] at e2
  subst e2
  have hp := IncrementKeep x0 x1 a2 G0 G1 G2
  obtain ⟨k, hp⟩ := hp
  refine (emendatelaw43_IncrementKeep.calls k x0.f0 x0.f1 x0.f2 x1.f0 x1.f1 x1.f2 a2 true W  hp).mono fun e W' ⟨he, bel0⟩ => ?_
  have bel : Below W.heap.size W W' := bel0
  subst he
  exact ⟨_, rfl, _, _, _, [], _, [], hW', trodAll_mk1 (shut_bool Tryd.underlying4 _), (trodAll_cons_mk (Below.trod laidOut (by kernel_rfl) (of_decide_eq_true (by kernel_rfl)) b0 bel lt0) (trodAll_cons_mk (Below.trod laidOut (by kernel_rfl) (of_decide_eq_true (by kernel_rfl)) b1 bel lt1) (trodAll_cons_mk (Below.trod laidOut (by kernel_rfl) (of_decide_eq_true (by kernel_rfl)) b2 bel lt2) trodAll_mk0))), rfl, bel.frame _, fun h => by cases h⟩
/-- A world for the witness: the listed variables hold what they are laid as. -/
noncomputable def laidWorld (os : Os) : World :=
  { World.holding Tryd.prog os ⟨#[], #[], []⟩ with heap := ((World.holding Tryd.prog os ⟨#[], #[], []⟩).heap).modify 0 fun
      | .cells _ t frozen => .cells #[.int .i64 1099511627776, .int .i64 0, .int .i64 (-1), .int .i64 0] t frozen
      | o => o }
theorem laid_met (os : Os) : laidMet Tryd.prog Rows.incrementKeepRow.laid ((laidWorld os).forCall (fun _ _ => 0) ⟨#[], #[.agg #[.int .i64 0, .int .i64 0, .int .i64 0], .agg #[.int .i64 0, .int .i64 0, .int .i64 0], .int .i64 0], []⟩).memory :=
  laidMet_of_run' 8 (by kernel_rfl) (by kernel_rfl)
theorem reads (os : Os) {H : Type} (enc : TypeId × Value → H) : ∃ places, DataW.whole enc Tryd.prog ((laidWorld os).forCall (fun _ _ => 0) ⟨#[], #[.agg #[.int .i64 0, .int .i64 0, .int .i64 0], .agg #[.int .i64 0, .int .i64 0, .int .i64 0], .int .i64 0], []⟩).memory Tryd.f3.params.toList Rows.incrementKeepSpec.vars false #[(.agg #[.int .i64 0, .int .i64 0, .int .i64 0] : Value), (.agg #[.int .i64 0, .int .i64 0, .int .i64 0] : Value), (.int .i64 0 : Value)].toList 8 = some ([.agg [.lit (.int .i64 0), .lit (.int .i64 0), .lit (.int .i64 0)], .agg [.lit (.int .i64 0), .lit (.int .i64 0), .lit (.int .i64 0)], .lit (.int .i64 0)], [], places) :=
  ⟨[], by kernel_rfl⟩
set_option maxRecDepth 100000 in
theorem lifted (os : Os) (started : os.Started) (H : Type) (enc : TypeId × Value → H) (F : Stop.Interp) :
    ReturnsInHanded {} Tryd.checked os 3 .any ((OpenSpec.ofChange Rows.incrementKeepSpec).preRow enc Tryd.prog Tryd.f3 Rows.incrementKeepRow.domain false Rows.incrementKeepRow.laid) (((OpenSpec.ofChange Rows.incrementKeepSpec).at F).post enc Tryd.prog Tryd.f3 false true false false) := by
  obtain ⟨places, hx⟩ := reads os enc
  refine returnsInHanded_of_row (C := Tryd.checked) (s := OpenSpec.ofChange Rows.incrementKeepSpec) own started (by kernel_rfl) Tryd.func3
    (witness_row_at (enc := enc) (C := Tryd.checked) false (laidWorld os) #[.agg #[.int .i64 0, .int .i64 0, .int .i64 0], .agg #[.int .i64 0, .int .i64 0, .int .i64 0], .int .i64 0] rfl (by kernel_rfl) (by kernel_rfl) (by kernel_rfl)
      (OpenSpec.preRow_of_cond 8 hx (by kernel_rfl) (fun k hk => by cases hk) (by kernel_rfl) (laid_met os))) ?_
  intro W base args ds gs before hval hW _ _ _ hL _ _
  exact contract H enc W base args ds gs before hval hW
theorem said : Rows.IncrementKeepSaid :=
  OpenClaim.holds_of_cond 3 Tryd.f3 rfl rfl rfl rfl rfl rfl rfl ⟨rfl, rfl, rfl, rfl, rfl⟩ rfl rfl rfl rfl rfl (by kernel_rfl) Tryd.func3 (by kernel_rfl)
    (of_decide_eq_true (by kernel_rfl)) (by unfold Func.isWrapper; first | (rw [if_pos (by decide +kernel)]; kernel_rfl) | (rw [if_neg (by decide +kernel)]; exact ⟨rfl, rfl⟩))
    (fun os started H enc _ F => by rw [OpenClaim.pre_eq_preRow]; exact lifted os started H enc F)
/-- No parameter wants a stand-in; the program's own looks are off: what the card asks. -/
theorem plain (f : FuncId) (fn : Func) (hf : Tryd.pinned.checked.prog.funcNamed "emendate/emendatelaw43.IncrementKeep" = some f) (hfn : Tryd.pinned.checked.prog.funcs[f]? = some fn) :
    Tryd.pinned.checked.prog.looks [] = Tryd.pinned.checked.prog.looks [] ∧ ∀ (j : Nat) t, fn.params[j]? = some t → Tryd.pinned.checked.prog.wantsStandIn t = false := by
  obtain rfl : f = 3 := Option.some.inj ((show Tryd.prog.funcNamed "emendate/emendatelaw43.IncrementKeep" = some 3 by kernel_rfl).symm.trans hf) |>.symm
  obtain rfl : fn = Tryd.f3 := (Option.some.inj (Tryd.func3.symm.trans hfn)).symm
  refine ⟨rfl, fun j t ht => ?_⟩
  rw [Tryd.params3] at ht
  have hm := Array.mem_of_getElem? ht
  simp only [List.mem_toArray, List.mem_cons, List.mem_nil_iff, or_false] at hm
  rcases hm with rfl | rfl | rfl
  · exact (show Tryd.prog.wantsStandIn 23 = false by kernel_rfl)
  · exact (show Tryd.prog.wantsStandIn 25 = false by kernel_rfl)
  · exact (show Tryd.prog.wantsStandIn 3 = false by kernel_rfl)
theorem card : Rows.IncrementKeepCardSaid :=
  Claim7.holds_tied_plain_at .later [] _ _ _ _ said (fun _ h => by cases h) (by kernel_rfl) (fun _ h => by cases h) incrementKeep_row_tie rfl ⟨rfl, rfl⟩ (by kernel_rfl) rfl (fun f fn hf hfn => ⟨by kernel_rfl, (plain f fn hf hfn).2⟩) (by kernel_rfl)
#print axioms card
end Go.Proofs.YtnimmolcgpkfdaaDoor.PIncrementKeep
namespace Go.Proofs.YtnimmolcgpkfdaaDoor
theorem incrementKeep_holds : Rows.IncrementKeepCardSaid := PIncrementKeep.card
end Go.Proofs.YtnimmolcgpkfdaaDoor
