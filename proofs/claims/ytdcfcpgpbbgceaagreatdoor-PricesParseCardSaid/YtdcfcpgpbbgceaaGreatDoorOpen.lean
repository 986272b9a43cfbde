import Derived.Test.YtdcfcpgpbbgceaaGreatDoorWWords
import Derived.WalkKit
import Derived.ProofKit
import Derived.OpenShut
namespace Go.Proofs.YtdcfcpgpbbgceaaGreatDoor.Open
open Go.RowKit Go.Proofs.YtdcfcpgpbbgceaaGreatDoorW.PrintWords Go.ChangeShapes Go.WideShapes Go.ChangeAt
def Opens {α : Type} (P : Program) (t : TypeId) (d : Kd α) (good : α → Prop) : Prop :=
  P.cellsOf t = d.sz ∧ ∀ (H : Type) (enc : TypeId × Value → H) (w : World) (base : Nat) (spare : Nat → Bool) (held : Bool) (fuel : Nat) (cs : List Value) (y : DataW H × List MemPlace),
    DataW.trod enc P w base spare held fuel t cs = some y → ∃ x : α, d.K w x cs ∧ good x
theorem opens_string {P : Program} {t : TypeId} (ht : P.underlying t = some .string) (hc : P.cellsOf t = 1) : Opens P t Kd.string (fun s => s.size ≤ maxLen) := by
  refine ⟨hc, fun H enc w base spare held fuel cs y h => ?_⟩
  cases fuel with
  | zero => simp [DataW.trod] at h
  | succ fuel =>
    unfold DataW.trod at h
    rw [ht] at h
    split at h <;> try (simp_all; done)
    split at h
    · exact ⟨_, rfl, by assumption⟩
    · cases h
theorem list_of {α : Type} (n : Nat) (Q : Nat → α → Prop) (h : ∀ i, i < n → ∃ x, Q i x) : ∃ xs : List α, xs.length = n ∧ ∀ (i : Nat) x, xs[i]? = some x → Q i x := by
  induction n with
  | zero => exact ⟨[], rfl, fun i x hx => by simp at hx⟩
  | succ n ih =>
    obtain ⟨xs, hl, hq⟩ := ih (fun i hi => h i (by omega))
    obtain ⟨x, hx⟩ := h n (by omega)
    refine ⟨xs ++ [x], by simp [hl], fun i y hy => ?_⟩
    by_cases hi : i < n
    · rw [List.getElem?_append_left (by omega)] at hy
      exact hq i y hy
    · rw [List.getElem?_append_right (by omega)] at hy
      have : i - xs.length = 0 := by
        rcases Nat.eq_zero_or_pos (i - xs.length) with h0 | h0
        · exact h0
        · rw [List.getElem?_eq_none (by simp; omega)] at hy
          cases hy
      rw [this] at hy
      simp at hy
      obtain rfl : i = n := by omega
      subst hy
      exact hx
theorem mapM_at {α β : Type} {f : α → Option β} : ∀ {l : List α} {ys : List β}, l.mapM f = some ys → ∀ x ∈ l, ∃ y, f x = some y := by
  intro l
  induction l with
  | nil => intro ys _ x hx; cases hx
  | cons a l ih =>
    intro ys h x hx
    simp only [List.mapM_cons, Option.pure_def, Option.bind_eq_bind] at h
    cases ha : f a with
    | none => simp [ha] at h
    | some y =>
      cases hl : l.mapM f with
      | none => simp [ha, hl] at h
      | some zs =>
        rcases List.mem_cons.1 hx with rfl | hx
        · exact ⟨y, ha⟩
        · exact ih hl x hx
theorem opens_slice {α : Type} {P : Program} {t e : TypeId} {d : Kd α} {good : α → Prop} (ht : P.underlying t = some (.slice e)) (hc : P.cellsOf t = 1) (ho : Opens P e d good) :
    Opens P t (Kd.slice e d) (fun xs => ∀ x ∈ xs, good x) := by
  refine ⟨hc, fun H enc w base spare held fuel cs y h => ?_⟩
  cases fuel with
  | zero => simp [DataW.trod] at h
  | succ fuel =>
    unfold DataW.trod at h
    rw [ht] at h
    split at h <;> try (simp_all; done)
    · exact ⟨[], ⟨none, 0, rfl, Nat.le_refl _, Kd.C_nil _ _⟩, fun x hx => by cases hx⟩
    · rename_i e1 a len cap e2
      cases e2
      split at h
      · rename_i hb
        obtain ⟨hb, hl, hm⟩ := hb
        simp only [Option.bind_eq_some_iff] at h
        obtain ⟨els, hels, _⟩ := h
        have hat : ∀ i, i < len → ∃ x c, c.length = d.sz ∧ d.K w x c ∧ good x ∧ ∀ j u, c[j]? = some u → w.cell? (a.add (i * d.sz + j)) = some u := by
          intro i hi
          obtain ⟨z, hz⟩ := mapM_at hels i (List.mem_range.2 hi)
          simp only [Option.bind_eq_some_iff] at hz
          obtain ⟨c, hcs, htr⟩ := hz
          obtain ⟨x, hk, hg⟩ := ho.2 H enc w base spare held fuel c z htr
          obtain ⟨_, hlen, hcell⟩ := World.cells?_some hcs
          refine ⟨x, c, hlen.trans ho.1, hk, hg, fun j u hu => ?_⟩
          have hj : j < P.cellsOf e := by
            rcases Nat.lt_or_ge j c.length with h1 | h1
            · omega
            · rw [List.getElem?_eq_none h1] at hu; cases hu
          have := hcell j hj
          rw [hu] at this
          rw [← this, ← ho.1, Addr.add_add]
        obtain ⟨xs, hx1, hx2⟩ := list_of len (fun i x => ∃ c, c.length = d.sz ∧ d.K w x c ∧ good x ∧ ∀ j u, c[j]? = some u → w.cell? (a.add (i * d.sz + j)) = some u) hat
        refine ⟨xs, ⟨some a, cap, by rw [hx1], by omega, ?_⟩, fun x hx => ?_⟩
        · rw [hx1]
          refine ⟨hx1, by unfold maxLen at hm; omega, fun _ => ⟨a, rfl, fun j p hj => ?_⟩⟩
          obtain ⟨c, h1, h2, _, h4⟩ := hx2 j p hj
          exact ⟨c, h1, h2, h4⟩
        · obtain ⟨j, hj⟩ := List.getElem?_of_mem hx
          obtain ⟨_, _, _, h3, _⟩ := hx2 j x hj
          exact h3
      · cases h
end Go.Proofs.YtdcfcpgpbbgceaaGreatDoor.Open
