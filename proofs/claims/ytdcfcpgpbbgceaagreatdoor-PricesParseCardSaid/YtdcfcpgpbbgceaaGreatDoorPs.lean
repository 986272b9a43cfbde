import Derived.Test.YtdcfcpgpbbgceaaGreatDoorPr
namespace Go.Proofs.YtdcfcpgpbbgceaaGreatDoor.Pl
open Go.RowKit Go.Proofs.YtdcfcpgpbbgceaaGreatDoorW.PrintWords Go.Proofs.YtdcfcpgpbbgceaaGreatDoorW.PrintLast Go.Proofs.YtdcfcpgpbbgceaaGreatDoor.PAll
open PAll.prices_Parse (idxP idxFrom idxP_rg applyP zeroP PT apQ apFin preB)
open PAll.prices_form (kIns kDel kRep kSwap kUnk kNever sizeK formP)
open PAll.prices_number (numP numVal isDig)
set_option linter.unusedVariables false
set_option linter.unusedSimpArgs false
def pk (P : PT) (c : Int) : List Int × List Int × (List (List Int)) × Int × Int × Int := (P.1, P.2.1, P.2.2.1, P.2.2.2.1, P.2.2.2.2, c)
theorem tl_iff (s : ByteArray) (a : Array UInt8) : s.toList = a.toList ↔ s = ⟨a⟩ := by
  rw [Lib.toList_data]
  constructor
  · intro h; cases s; simp only at h; rw [← Array.toList_inj.1 h]
  · intro h; subst h; rfl
theorem k1 (s : ByteArray) : s.toList = ([105, 110, 115, 101, 114, 116] : List UInt8) ↔ s = kIns := tl_iff s _
theorem k2 (s : ByteArray) : s.toList = ([100, 101, 108, 101, 116, 101] : List UInt8) ↔ s = kDel := tl_iff s _
theorem k3 (s : ByteArray) : s.toList = ([114, 101, 112, 108, 97, 99, 101] : List UInt8) ↔ s = kRep := tl_iff s _
theorem k4 (s : ByteArray) : s.toList = ([115, 119, 97, 112] : List UInt8) ↔ s = kSwap := tl_iff s _
theorem k5 (s : ByteArray) : s.toList = ([117, 110, 107, 110, 111, 119, 110] : List UInt8) ↔ s = kUnk := tl_iff s _
theorem k6 (s : ByteArray) : s.toList = ([110, 101, 118, 101, 114] : List UInt8) ↔ s = kNever := tl_iff s _
theorem beq_tl {a b : List UInt8} {p : Prop} [Decidable p] (h : a = b ↔ p) : (a == b) = decide p := by
  by_cases hp : p
  · rw [decide_eq_true hp]; exact beq_iff_eq.2 (h.2 hp)
  · rw [decide_eq_false hp]; exact beq_eq_false_iff_ne.2 (fun e => hp (h.1 e))
def setQ (P : PT) (q : ByteArray) (a b x : Int) : PT :=
  if q = kIns then (P.1.set a.toNat x, P.2)
  else if q = kDel then (P.1, P.2.1.set a.toNat x, P.2.2)
  else if q = kRep then (P.1, P.2.1, P.2.2.1.set a.toNat ((P.2.2.1.getD a.toNat []).set b.toNat x), P.2.2.2)
  else if q = kSwap then (P.1, P.2.1, P.2.2.1, x, P.2.2.2.2)
  else (P.1, P.2.1, P.2.2.1, P.2.2.2.1, x)
variable {P : PT} {w ts : List ByteArray}
theorem rd0 (a b : Int) : rd [a, b] 0 = a := rfl
theorem rd1 (a b : Int) : rd [a, b] 1 = b := rfl
theorem s6 (hP : vokP P ts.length) (hT : ts.length ≤ 8) (hw : 0 < w.length) (a b x : Int) (h1 : w.getD 0 ByteArray.empty = kIns ∨ w.getD 0 ByteArray.empty = kDel ∨ w.getD 0 ByteArray.empty = kRep → 0 ≤ a ∧ a.toNat < ts.length) (h2 : w.getD 0 ByteArray.empty = kRep → 0 ≤ b ∧ b.toNat < ts.length) :
    Ev (fun k => emendateref34_line.j6 k w x [a, b] false P.1 P.2.1 P.2.2.1 P.2.2.2.1 P.2.2.2.2) (pk (setQ P (w.getD 0 ByteArray.empty) a b x) 0) := by
  obtain ⟨⟨q0, q1, q2⟩, ⟨qs, qu⟩, qa⟩ := (vok_iff _ _ _ _ _ _).1 hP
  refine Ev.step (f := fun _ => some (pk (setQ P (w.getD 0 ByteArray.empty) a b x) 0)) (fun k => ?_) (Ev.now _)
  have e0 : rdOf ByteArray.empty w 0 = w.getD 0 ByteArray.empty := rfl
  conv => lhs; unfold emendateref34_line.j6
  try dsimp only
  rw [if_neg Bool.false_ne_true, if_pos (by omega), e0, rd0, rd1]
  generalize w.getD 0 ByteArray.empty = q at h1 h2
  unfold setQ
  by_cases c1 : q = kIns
  · obtain ⟨a0, a1⟩ := h1 (.inl c1)
    rw [if_pos ((k1 q).2 c1), if_pos (by simp), if_pos c1]
    have e := with_f P.1 a.toNat x (by omega) (by omega)
    rw [Int.toNat_of_nonneg a0] at e
    rw [e]
    rfl
  rw [if_neg (fun e => c1 ((k1 q).1 e)), if_neg c1]
  by_cases c2 : q = kDel
  · obtain ⟨a0, a1⟩ := h1 (.inr (.inl c2))
    rw [if_pos ((k2 q).2 c2), if_pos (by simp), if_pos c2]
    have e := with_f P.2.1 a.toNat x (by omega) (by omega)
    rw [Int.toNat_of_nonneg a0] at e
    rw [e]
    rfl
  rw [if_neg (fun e => c2 ((k2 q).1 e)), if_neg c2]
  by_cases c3 : q = kRep
  · obtain ⟨a0, a1⟩ := h1 (.inr (.inr c3))
    obtain ⟨b0, b1⟩ := h2 c3
    have hlr := (qa a.toNat a1).2.2.1
    rw [if_pos ((k3 q).2 c3), if_pos c3]
    simp only [Option.bind_some, List.nil_append, List.length_nil]
    rw [if_pos (by omega), if_pos (by simp), if_pos a0, if_pos (by omega), if_pos (by simp)]
    have e := with_f (P.2.2.1.getD a.toNat []) b.toNat x (by omega) (by omega)
    rw [Int.toNat_of_nonneg b0] at e
    have e2 : rd_L1 P.2.2.1 a = P.2.2.1.getD a.toNat [] := rfl
    rw [e2, e]
    rfl
  rw [if_neg (fun e => c3 ((k3 q).1 e)), if_neg c3]
  by_cases c4 : q = kSwap
  · rw [if_pos ((k4 q).2 c4), if_pos c4]; rfl
  · rw [if_neg (fun e => c4 ((k4 q).1 e)), if_neg c4]; rfl
def r5 (P : PT) (q : ByteArray) (a b x low : Int) (never same : Bool) : PT × Int :=
  if same = true then (P, 1) else if never = true then (setQ P q a b x, 0) else if low ≤ x ∧ x ≤ 1000 then (setQ P q a b x, 0) else (P, 2)
theorem s5 (hP : vokP P ts.length) (hT : ts.length ≤ 8) (hw : 0 < w.length) (a b x low : Int) (never same : Bool) (h1 : w.getD 0 ByteArray.empty = kIns ∨ w.getD 0 ByteArray.empty = kDel ∨ w.getD 0 ByteArray.empty = kRep → 0 ≤ a ∧ a.toNat < ts.length) (h2 : w.getD 0 ByteArray.empty = kRep → 0 ≤ b ∧ b.toNat < ts.length) :
    Ev (fun k => emendateref34_line.j5 k w low x never [a, b] same P.1 P.2.1 P.2.2.1 P.2.2.2.1 P.2.2.2.2) (pk (r5 P (w.getD 0 ByteArray.empty) a b x low never same).1 (r5 P (w.getD 0 ByteArray.empty) a b x low never same).2) := by
  have h6 := s6 hP hT hw a b x h1 h2
  unfold r5
  cases same with
  | true => exact Ev.step (f := fun _ => some (pk P 1)) (fun k => rfl) (Ev.now _)
  | false =>
    rw [if_neg Bool.false_ne_true]
    cases never with
    | true => exact Ev.step (fun k => rfl) h6
    | false =>
      rw [if_neg Bool.false_ne_true]
      have eb : emendateref34_between.f x low 1000 = some (rng x low) := by rw [between_in, in_rng]
      have st : ∀ k, emendateref34_line.j5 (k + 1) w low x false [a, b] false P.1 P.2.1 P.2.2.1 P.2.2.2.1 P.2.2.2.2 = emendateref34_line.j6 k w x [a, b] (!rng x low) P.1 P.2.1 P.2.2.1 P.2.2.2.1 P.2.2.2.2 := by
        intro k
        conv => lhs; unfold emendateref34_line.j5
        try dsimp only
        rw [if_neg Bool.false_ne_true, if_neg Bool.false_ne_true, eb]
        rfl
      refine Ev.step st ?_
      by_cases hr : low ≤ x ∧ x ≤ 1000
      · rw [if_pos hr, (rng_iff x low).2 hr]; exact h6
      · rw [if_neg hr]
        have e : rng x low = false := by
          cases h : rng x low with
          | false => rfl
          | true => exact absurd ((rng_iff x low).1 h) hr
        rw [e]
        exact Ev.step (f := fun _ => some (pk P 2)) (fun k => rfl) (Ev.now _)
theorem rdOf_i (l : List ByteArray) (i : Nat) : rdOf ByteArray.empty l (i : Int) = l.getD i ByteArray.empty := rfl
theorem sl_0 (hP : vokP P ts.length) (hT : ts.length ≤ 8) (hw : 0 < w.length) (x low : Int) (never : Bool) (a b : Int) (m : Int) (hm : m = 0 ∨ m = 1)
    (h1 : w.getD 0 ByteArray.empty = kIns ∨ w.getD 0 ByteArray.empty = kDel ∨ w.getD 0 ByteArray.empty = kRep → 0 ≤ a ∧ a.toNat < ts.length) (h2 : ¬ w.getD 0 ByteArray.empty = kRep) :
    Ev (fun k => emendateref34_line.l0 k w ts m low x never [a, b] m P.1 P.2.1 P.2.2.1 P.2.2.2.1 P.2.2.2.2) (pk (r5 P (w.getD 0 ByteArray.empty) a b x low never false).1 (r5 P (w.getD 0 ByteArray.empty) a b x low never false).2) := by
  refine Ev.step (fun k => ?_) (s5 hP hT hw a b x low never false h1 (fun e => absurd e h2))
  conv => lhs; unfold emendateref34_line.l0
  try dsimp only
  rw [if_neg (by omega), if_neg (by omega)]
theorem sl_step (hT : ts.length ≤ 8) (x low n : Int) (never : Bool) (a b : Int) (i : Nat) (hi : i < 2) (hn : (i : Int) < n) (hl : i + 1 < w.length) (R : List Int × List Int × (List (List Int)) × Int × Int × Int)
    (h : ¬ idxP ts (w.getD (i + 1) ByteArray.empty) < 0 → Ev (fun k => emendateref34_line.l0 k w ts n low x never ([a, b].set i (idxP ts (w.getD (i + 1) ByteArray.empty))) ((i : Int) + 1) P.1 P.2.1 P.2.2.1 P.2.2.2.1 P.2.2.2.2) R) :
    Ev (fun k => emendateref34_line.l0 k w ts n low x never [a, b] (i : Int) P.1 P.2.1 P.2.2.1 P.2.2.2.1 P.2.2.2.2) (if idxP ts (w.getD (i + 1) ByteArray.empty) < 0 then pk P 4 else R) := by
  have e1 : wrap64 (1 + (i : Int)) = ((i + 1 : Nat) : Int) := by rw [IntWalk.wrap64_in _ (by omega)]; omega
  have hx := index34_ev ts (w.getD (i + 1) ByteArray.empty) (by omega)
  have erd : rd ([a, b].set i (idxP ts (w.getD (i + 1) ByteArray.empty))) (i : Int) = idxP ts (w.getD (i + 1) ByteArray.empty) := by
    rcases (by omega : i = 0 ∨ i = 1) with rfl | rfl <;> rfl
  generalize hq : idxP ts (w.getD (i + 1) ByteArray.empty) = q at *
  refine Ev.step (f := fun k => (emendateref34_index.f k ts (w.getD (i + 1) ByteArray.empty)).bind fun t => if rd ([a, b].set i t) (i : Int) < 0 then some (pk P 4) else emendateref34_line.l0 k w ts n low x never ([a, b].set i t) ((i : Int) + 1) P.1 P.2.1 P.2.2.1 P.2.2.2.1 P.2.2.2.2) (fun k => ?_) (Ev.bind hx ?_)
  · conv => lhs; unfold emendateref34_line.l0
    rw [if_pos hn, e1, if_pos (by omega), if_pos (by omega), rdOf_i]
    congr 1
    funext t
    rw [if_pos (by omega), if_pos (by simp; omega), Option.bind_some, IntWalk.wrap64_in _ (by omega)]
    rfl
  · simp only [erd]
    by_cases hz : q < 0
    · simp only [if_pos hz]; exact Ev.now _
    · simp only [if_neg hz]; exact h hz
theorem s1 (n : Nat) (low : Int) (hn : n ≤ 2) (hw : 0 < w.length) (R : List Int × List Int × (List (List Int)) × Int × Int × Int)
    (h : w.length = n + 2 → (numR (w.getD (n + 1) ByteArray.empty) < 0 → (decide (w.getD 0 ByteArray.empty = kRep) && decide (w.getD (n + 1) ByteArray.empty = kNever)) = true) →
      Ev (fun k => emendateref34_line.l0 k w ts (n : Int) low (numR (w.getD (n + 1) ByteArray.empty)) (decide (w.getD 0 ByteArray.empty = kRep) && decide (w.getD (n + 1) ByteArray.empty = kNever)) [0, 0] 0 P.1 P.2.1 P.2.2.1 P.2.2.2.1 P.2.2.2.2) R) :
    Ev (fun k => emendateref34_line.j1 k w ts (n : Int) low P.1 P.2.1 P.2.2.1 P.2.2.2.1 P.2.2.2.2) (if w.length = n + 2 then (if numR (w.getD (n + 1) ByteArray.empty) < 0 ∧ (decide (w.getD 0 ByteArray.empty = kRep) && decide (w.getD (n + 1) ByteArray.empty = kNever)) = false then pk P 3 else R) else pk P 3) := by
  have e1 : wrap64 ((n : Int) + 2) = ((n + 2 : Nat) : Int) := by rw [IntWalk.wrap64_in _ (by omega)]; rfl
  have e2 : wrap64 ((n : Int) + 1) = ((n + 1 : Nat) : Int) := by rw [IntWalk.wrap64_in _ (by omega)]; rfl
  have e0 : rdOf ByteArray.empty w 0 = w.getD 0 ByteArray.empty := rfl
  by_cases hl : w.length = n + 2
  · rw [if_pos hl]
    have h := h hl
    have hx := number_ev (w.getD (n + 1) ByteArray.empty)
    generalize hv : (decide (w.getD 0 ByteArray.empty = kRep) && decide (w.getD (n + 1) ByteArray.empty = kNever)) = never at h
    refine Ev.step (f := fun k => (emendateref34_number.f k (w.getD (n + 1) ByteArray.empty)).bind fun t => emendateref34_line.j2 k w ts (n : Int) low t never P.1 P.2.1 P.2.2.1 P.2.2.2.1 P.2.2.2.2) (fun k => ?_) (Ev.bind hx ?_)
    · conv => lhs; unfold emendateref34_line.j1
      try dsimp only
      rw [e1, if_pos (by omega), e2, if_pos (by omega), if_pos (by omega), rdOf_i, e0]
      congr 1
      funext t
      rw [if_pos (by omega)]
      by_cases c : w.getD 0 ByteArray.empty = kRep
      · rw [if_pos ((k3 _).2 c), beq_tl (k6 _), ← hv, decide_eq_true c, Bool.true_and]
      · rw [if_neg (fun e => c ((k3 _).1 e)), ← hv, decide_eq_false c, Bool.false_and]
    · generalize numR (w.getD (n + 1) ByteArray.empty) = x at h
      by_cases hneg : x < 0
      · refine Ev.step (f := fun k => emendateref34_line.j3 k w ts (n : Int) low x never (!never) P.1 P.2.1 P.2.2.1 P.2.2.2.1 P.2.2.2.2) (fun k => by (unfold emendateref34_line.j2; try dsimp only); rw [if_pos hneg]) ?_
        cases never with
        | false =>
          rw [if_pos ⟨hneg, rfl⟩]
          exact Ev.step (f := fun _ => some (pk P 3)) (fun k => rfl) (Ev.now _)
        | true =>
          rw [if_neg (fun e => by cases e.2)]
          exact Ev.step (fun k => rfl) (h (fun _ => rfl))
      · refine Ev.step (f := fun k => emendateref34_line.j3 k w ts (n : Int) low x never false P.1 P.2.1 P.2.2.1 P.2.2.2.1 P.2.2.2.2) (fun k => by (unfold emendateref34_line.j2; try dsimp only); rw [if_neg hneg]) ?_
        rw [if_neg (fun e => hneg e.1)]
        exact Ev.step (fun k => rfl) (h (fun e => absurd e hneg))
  · rw [if_neg hl]
    refine Ev.step (f := fun _ => some (pk P 3)) (fun k => ?_) (Ev.now _)
    conv => lhs; unfold emendateref34_line.j1
    try dsimp only
    rw [e1, if_neg (by omega)]
    rfl
end Go.Proofs.YtdcfcpgpbbgceaaGreatDoor.Pl
