import Derived.Test.YtdcfcpgpbbgceaaGreatDoorWWords
import Derived.WalkKit
import Derived.ProofKit
import Derived.OpenShut
namespace Go.Proofs.YtdcfcpgpbbgceaaGreatDoor.Open
open Go.RowKit Go.Proofs.YtdcfcpgpbbgceaaGreatDoorW.PrintWords Go.ChangeShapes Go.WideShapes Go.ChangeAt
def Opens {α : Type} (P : Program) (t : TypeId) (d : Kd α) (good : α → Prop) : Prop :=
  P.cellsOf t = d.sz ∧ ∀ (H : Type) (enc : TypeId × Value → H) (w : World) (base : Nat) (spare : Nat → Bool) (held : Bool) (fuel : Nat) (cs : List Value) (y : DataW H × List MemPlace),
    DataW.trod enc P w base spare held fuel t cs = some y → ∃ x : α, d.K w x cs ∧ good x
theorem opens_int {P : Program} {t : TypeId} {k : IntKind} (ht : P.underlying t = some (.int k)) (hc : P.cellsOf t = 1) : Opens P t (Kd.int k) (fun x => (Lit.int k x).wf = true) := by
  refine ⟨hc, fun H enc w base spare held fuel cs y h => ?_⟩
  cases fuel with
  | zero => simp [DataW.trod] at h
  | succ fuel =>
    unfold DataW.trod at h
    rw [ht] at h
    split at h <;> try (simp_all; done)
    rename_i k1 k2 n e
    cases e
    split at h
    · rename_i hh
      obtain ⟨rfl, hw⟩ := hh
      exact ⟨n, rfl, hw⟩
    · cases h
theorem opens_string {P : Program} {t : TypeId} (ht : P.underlying t = some .string) (hc : P.cellsOf t = 1) : Opens P t Kd.string (fun s => s.size ≤ maxLen) := by
  refine ⟨hc, fun H enc w base spare held fuel cs y h => ?_⟩
  cases fuel with
  | zero => simp [DataW.trod] at h
  | succ fuel =>
    unfold DataW.trod at h
    rw [ht] at h
    split at h <;> try (simp_all; done)
    split at h
    · exact ⟨_, rfl, by assumption⟩
    · cases h
theorem list_of {α : Type} (n : Nat) (Q : Nat → α → Prop) (h : ∀ i, i < n → ∃ x, Q i x) : ∃ xs : List α, xs.length = n ∧ ∀ (i : Nat) x, xs[i]? = some x → Q i x := by
  induction n with
  | zero => exact ⟨[], rfl, fun i x hx => by simp at hx⟩
  | succ n ih =>
    obtain ⟨xs, hl, hq⟩ := ih (fun i hi => h i (by omega))
    obtain ⟨x, hx⟩ := h n (by omega)
    refine ⟨xs ++ [x], by simp [hl], fun i y hy => ?_⟩
    by_cases hi : i < n
    · rw [List.getElem?_append_left (by omega)] at hy
      exact hq i y hy
    · rw [List.getElem?_append_right (by omega)] at hy
      have : i - xs.length = 0 := by
        rcases Nat.eq_zero_or_pos (i - xs.length) with h0 | h0
        · exact h0
        · rw [List.getElem?_eq_none (by simp; omega)] at hy
          cases hy
      rw [this] at hy
      simp at hy
      obtain rfl : i = n := by omega
      subst hy
      exact hx
theorem mapM_at {α β : Type} {f : α → Option β} : ∀ {l : List α} {ys : List β}, l.mapM f = some ys → ∀ x ∈ l, ∃ y, f x = some y := by
  intro l
  induction l with
  | nil => intro ys _ x hx; cases hx
  | cons a l ih =>
    intro ys h x hx
    simp only [List.mapM_cons, Option.pure_def, Option.bind_eq_bind] at h
    cases ha : f a with
    | none => simp [ha] at h
    | some y =>
      cases hl : l.mapM f with
      | none => simp [ha, hl] at h
      | some zs =>
        rcases List.mem_cons.1 hx with rfl | hx
        · exact ⟨y, ha⟩
        · exact ih hl x hx
theorem opens_slice {α : Type} {P : Program} {t e : TypeId} {d : Kd α} {good : α → Prop} (ht : P.underlying t = some (.slice e)) (hc : P.cellsOf t = 1) (ho : Opens P e d good) :
    Opens P t (Kd.slice e d) (fun xs => ∀ x ∈ xs, good x) := by
  refine ⟨hc, fun H enc w base spare held fuel cs y h => ?_⟩
  cases fuel with
  | zero => simp [DataW.trod] at h
  | succ fuel =>
    unfold DataW.trod at h
    rw [ht] at h
    split at h <;> try (simp_all; done)
    · exact ⟨[], ⟨none, 0, rfl, Nat.le_refl _, Kd.C_nil _ _⟩, fun x hx => by cases hx⟩
    · rename_i e1 a len cap e2
      cases e2
      split at h
      · rename_i hb
        obtain ⟨hb, hl, hm⟩ := hb
        simp only [Option.bind_eq_some_iff] at h
        obtain ⟨els, hels, _⟩ := h
        have hat : ∀ i, i < len → ∃ x c, c.length = d.sz ∧ d.K w x c ∧ good x ∧ ∀ j u, c[j]? = some u → w.cell? (a.add (i * d.sz + j)) = some u := by
          intro i hi
          obtain ⟨z, hz⟩ := mapM_at hels i (List.mem_range.2 hi)
          simp only [Option.bind_eq_some_iff] at hz
          obtain ⟨c, hcs, htr⟩ := hz
          obtain ⟨x, hk, hg⟩ := ho.2 H enc w base spare held fuel c z htr
          obtain ⟨_, hlen, hcell⟩ := World.cells?_some hcs
          refine ⟨x, c, hlen.trans ho.1, hk, hg, fun j u hu => ?_⟩
          have hj : j < P.cellsOf e := by
            rcases Nat.lt_or_ge j c.length with h1 | h1
            · omega
            · rw [List.getElem?_eq_none h1] at hu; cases hu
          have := hcell j hj
          rw [hu] at this
          rw [← this, ← ho.1, Addr.add_add]
        obtain ⟨xs, hx1, hx2⟩ := list_of len (fun i x => ∃ c, c.length = d.sz ∧ d.K w x c ∧ good x ∧ ∀ j u, c[j]? = some u → w.cell? (a.add (i * d.sz + j)) = some u) hat
        refine ⟨xs, ⟨some a, cap, by rw [hx1], by omega, ?_⟩, fun x hx => ?_⟩
        · rw [hx1]
          refine ⟨hx1, by unfold maxLen at hm; omega, fun _ => ⟨a, rfl, fun j p hj => ?_⟩⟩
          obtain ⟨c, h1, h2, _, h4⟩ := hx2 j p hj
          exact ⟨c, h1, h2, h4⟩
        · obtain ⟨j, hj⟩ := List.getElem?_of_mem hx
          obtain ⟨_, _, _, h3, _⟩ := hx2 j x hj
          exact h3
      · cases h
def OpensF {β : Type} (P : Program) (fs : List Field) (off : Nat) (d : Kd β) (good : β → Prop) : Prop :=
  ∀ (H : Type) (enc : TypeId × Value → H) (w : World) (base : Nat) (spare : Nat → Bool) (held : Bool) (fuel : Nat) (cs : List Value) (ys : List (DataW H × List MemPlace)),
    (fs.mapM fun f => DataW.trod enc P w base spare held fuel f.type ((cs.drop f.offset).take (P.cellsOf f.type))) = some ys → off + d.sz ≤ cs.length → ∃ x, d.K w x ((cs.drop off).take d.sz) ∧ good x
theorem opensF_one {α : Type} {P : Program} {f : Field} {d : Kd α} {good : α → Prop} {off : Nat} (h : Opens P f.type d good) (hf : f.offset = off) : OpensF P [f] off d good := by
  subst hf
  intro H enc w base spare held fuel cs ys hm _
  obtain ⟨z, hz⟩ := mapM_at hm f (by simp)
  obtain ⟨x, hk, hg⟩ := h.2 H enc w base spare held fuel _ z hz
  rw [h.1] at hk
  exact ⟨x, hk, hg⟩
theorem opensF_cons {α β : Type} {P : Program} {f : Field} {fs : List Field} {off : Nat} {a : Kd α} {b : Kd β} {ga : α → Prop} {gb : β → Prop} (h : Opens P f.type a ga) (hf : f.offset = off) (hr : OpensF P fs (off + a.sz) b gb) :
    OpensF P (f :: fs) off (Kd.pair a b) (fun y => ga y.1 ∧ gb y.2) := by
  intro H enc w base spare held fuel cs ys hm hlen
  subst hf
  have hsz : (Kd.pair a b).sz = a.sz + b.sz := rfl
  rw [hsz] at hlen ⊢
  obtain ⟨z, hz⟩ := mapM_at hm f (by simp)
  obtain ⟨x, hk, hg⟩ := h.2 H enc w base spare held fuel _ z hz
  rw [h.1] at hk
  have hm2 : ∃ ys2, (fs.mapM fun f => DataW.trod enc P w base spare held fuel f.type ((cs.drop f.offset).take (P.cellsOf f.type))) = some ys2 := by
    simp only [List.mapM_cons, Option.pure_def, Option.bind_eq_bind, Option.bind_eq_some_iff] at hm
    obtain ⟨_, _, ys2, h2, _⟩ := hm
    exact ⟨ys2, h2⟩
  obtain ⟨ys2, hm2⟩ := hm2
  obtain ⟨x2, hk2, hg2⟩ := hr H enc w base spare held fuel cs ys2 hm2 (by omega)
  refine ⟨(x, x2), ⟨_, _, ?_, hk, hk2⟩, hg, hg2⟩
  rw [List.take_add, List.drop_drop]
theorem opens_struct {β : Type} {P : Program} {t : TypeId} {fs : Array Field} {d : Kd β} {good : β → Prop} (ht : P.underlying t = some (.struct fs)) (hc : P.cellsOf t = d.sz) (hf : OpensF P fs.toList 0 d good) : Opens P t d good := by
  refine ⟨hc, fun H enc w base spare held fuel cs y h => ?_⟩
  cases fuel with
  | zero => simp [DataW.trod] at h
  | succ fuel =>
    unfold DataW.trod at h
    rw [ht] at h
    split at h <;> try (simp_all; done)
    rename_i cs xq cs0 fs1 e1
    cases e1
    split at h
    · rename_i hlen
      cases hm : (fs.toList.mapM fun f => DataW.trod enc P w base spare held fuel f.type ((cs.drop f.offset).take (P.cellsOf f.type))) with
      | none => rw [hm] at h; cases h
      | some ys =>
        obtain ⟨x, hk, hg⟩ := hf H enc w base spare held fuel cs ys hm (by rw [hlen, hc]; omega)
        rw [List.drop_zero, List.take_of_length_le (by rw [hlen, hc]; exact Nat.le_refl _)] at hk
        exact ⟨x, hk, hg⟩
    · cases h
theorem opens_iso {α β : Type} {P : Program} {t : TypeId} {d : Kd α} {good : α → Prop} (h : Opens P t d good) (f : β → α) (g : α → β) (hfg : ∀ y, f (g y) = y) : Opens P t (Kd.iso d f) (fun x => good (f x)) := by
  refine ⟨h.1, fun H enc w base spare held fuel cs y ht => ?_⟩
  obtain ⟨x, hk, hg⟩ := h.2 H enc w base spare held fuel cs y ht
  exact ⟨g x, show d.K w (f (g x)) cs by rw [hfg]; exact hk, by show good (f (g x)); rw [hfg]; exact hg⟩
end Go.Proofs.YtdcfcpgpbbgceaaGreatDoor.Open
