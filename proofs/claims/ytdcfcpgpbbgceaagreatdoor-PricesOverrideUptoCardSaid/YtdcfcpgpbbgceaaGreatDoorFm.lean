import Derived.Test.YtdcfcpgpbbgceaaGreatDoorVk
import Derived.Test.YtdcfcpgpbbgceaaGreatDoorNm
import Derived.Test.YtdcfcpgpbbgceaaGreatDoorPAllx8
import Derived.Test.YtdcfcpgpbbgceaaGreatDoorPAllx18d
namespace Go.Proofs.YtdcfcpgpbbgceaaGreatDoor.Pl
open Go.RowKit Go.Proofs.YtdcfcpgpbbgceaaGreatDoorW.PrintWords Go.Proofs.YtdcfcpgpbbgceaaGreatDoorW.PrintLast Go.Proofs.YtdcfcpgpbbgceaaGreatDoor.PAll
open PAll.prices_Format (lastB lineB lineL accL kwI kwD kwR kwS kwU gI gD gR gRow fmtB fmtOk)
set_option linter.unusedVariables false
set_option linter.unusedSimpArgs false
def digs : Nat → Nat → List UInt8
  | 0, _ => []
  | f + 1, u => if u < 10 then [UInt8.ofNat (48 + u)] else digs f (u / 10) ++ [UInt8.ofNat (48 + u % 10)]
theorem digs_eq : ∀ f u, u < 10 ^ (f + 1) → digs (f + 1) u = Lib.decDigits u
  | 0, u, h => by
    have h : u < 10 := by simpa using h
    rw [Lib.decDigits, dif_pos h, digs, if_pos h]
  | f + 1, u, h => by
    rw [Lib.decDigits, digs]
    by_cases hu : u < 10
    · rw [if_pos hu, dif_pos hu]
    · rw [if_neg hu, dif_neg hu, digs_eq f (u / 10) (by rw [Nat.pow_succ] at h; omega)]
theorem itoa_digs (n : Nat) (h : n ≤ 1000) : Lib.itoa (n : Int) = digs 4 n := by
  unfold Lib.itoa
  rw [if_neg (by omega), show ((n : Int)).toNat = n from rfl, digs_eq 3 n (by omega)]
theorem dec_all : ((List.range 1001).all fun n => decide (emendateref16_Decimal.f 10 (n : Int) = some ⟨(digs 4 n).toArray⟩) && decide ((digs 4 n).length ≤ 4)) = true := by kernel_rfl
theorem dec_ev (x : Int) (h0 : 0 ≤ x) (h1 : x ≤ 1000) : ∃ D : List UInt8, Ev (fun k => emendateref16_Decimal.f k x) ⟨D.toArray⟩ ∧ lastB x = ⟨D.toArray⟩ ∧ D.length ≤ 4 := by
  obtain ⟨n, rfl⟩ : ∃ n : Nat, x = n := ⟨x.toNat, by omega⟩
  have h := List.all_eq_true.1 dec_all n (List.mem_range.2 (by omega))
  simp only [Bool.and_eq_true, decide_eq_true_eq] at h
  refine ⟨digs 4 n, Ev.of (fun k => emendateref16_Decimal.mono _ k) h.1, ?_, h.2⟩
  unfold lastB
  rw [if_neg (by omega), itoa_digs n (by omega)]
abbrev of (L : List UInt8) : ByteArray := ⟨L.toArray⟩
theorem of_size (L : List UInt8) : (of L).size = L.length := by show L.toArray.size = L.length; simp
theorem app_list (a b : ByteArray) : (a ++ b).data.toList = a.data.toList ++ b.data.toList := by simp [ByteArray.data_append]
theorem accL_len (g : Nat → List UInt8) (B T : Nat) (h : ∀ i, i < T → (g i).length ≤ B) : ∀ i, i ≤ T → (accL g i).length ≤ i * B
  | 0, _ => by simp [accL]
  | i + 1, hi => by
    have h1 := accL_len g B T h i (by omega)
    have h2 := h i (by omega)
    rw [accL, List.length_append, Nat.succ_mul]
    omega
end Go.Proofs.YtdcfcpgpbbgceaaGreatDoor.Pl
