/- The reference's classes; geometries in the reference. -/
import Derived.Test.YthllacodjeocmaaDoorU6
namespace Go.Proofs.YthllacodjeocmaaDoor
open Go.RowKit
attribute [local go_sem] Oper.semAt_some
theorem rclass_0 (w : World) : Calls Tryd.prog 38 #[.int .u8 0] w fun e w' => e = .returned (.int .u8 0) ∧ w = w' := by
  go_enter Tryd.func38, Tryd.ntmps38
  go_wp2
  go_ret
  exact ⟨rfl, rfl⟩
theorem rclass_1 (w : World) : Calls Tryd.prog 38 #[.int .u8 1] w fun e w' => e = .returned (.int .u8 1) ∧ w = w' := by
  go_enter Tryd.func38, Tryd.ntmps38
  go_wp2
  go_ret
  exact ⟨rfl, rfl⟩
theorem rclass_2 (w : World) : Calls Tryd.prog 38 #[.int .u8 2] w fun e w' => e = .returned (.int .u8 1) ∧ w = w' := by
  go_enter Tryd.func38, Tryd.ntmps38
  go_wp2
  go_ret
  exact ⟨rfl, rfl⟩
theorem rclass_3 (w : World) : Calls Tryd.prog 38 #[.int .u8 3] w fun e w' => e = .returned (.int .u8 1) ∧ w = w' := by
  go_enter Tryd.func38, Tryd.ntmps38
  go_wp2
  go_ret
  exact ⟨rfl, rfl⟩
theorem rclass_4 (w : World) : Calls Tryd.prog 38 #[.int .u8 4] w fun e w' => e = .returned (.int .u8 3) ∧ w = w' := by
  go_enter Tryd.func38, Tryd.ntmps38
  go_wp2
  go_ret
  exact ⟨rfl, rfl⟩
theorem rclass_5 (w : World) : Calls Tryd.prog 38 #[.int .u8 5] w fun e w' => e = .returned (.int .u8 3) ∧ w = w' := by
  go_enter Tryd.func38, Tryd.ntmps38
  go_wp2
  go_ret
  exact ⟨rfl, rfl⟩
theorem rclass_6 (w : World) : Calls Tryd.prog 38 #[.int .u8 6] w fun e w' => e = .returned (.int .u8 2) ∧ w = w' := by
  go_enter Tryd.func38, Tryd.ntmps38
  go_wp2
  go_ret
  exact ⟨rfl, rfl⟩
theorem rclass_7 (w : World) : Calls Tryd.prog 38 #[.int .u8 7] w fun e w' => e = .returned (.int .u8 2) ∧ w = w' := by
  go_enter Tryd.func38, Tryd.ntmps38
  go_wp2
  go_ret
  exact ⟨rfl, rfl⟩
theorem rclass_8 (w : World) : Calls Tryd.prog 38 #[.int .u8 8] w fun e w' => e = .returned (.int .u8 2) ∧ w = w' := by
  go_enter Tryd.func38, Tryd.ntmps38
  go_wp2
  go_ret
  exact ⟨rfl, rfl⟩
theorem rclass_9 (w : World) : Calls Tryd.prog 38 #[.int .u8 9] w fun e w' => e = .returned (.int .u8 2) ∧ w = w' := by
  go_enter Tryd.func38, Tryd.ntmps38
  go_wp2
  go_ret
  exact ⟨rfl, rfl⟩
theorem rclass_10 (w : World) : Calls Tryd.prog 38 #[.int .u8 10] w fun e w' => e = .returned (.int .u8 3) ∧ w = w' := by
  go_enter Tryd.func38, Tryd.ntmps38
  go_wp2
  go_ret
  exact ⟨rfl, rfl⟩
theorem rclass_11 (w : World) : Calls Tryd.prog 38 #[.int .u8 11] w fun e w' => e = .returned (.int .u8 3) ∧ w = w' := by
  go_enter Tryd.func38, Tryd.ntmps38
  go_wp2
  go_ret
  exact ⟨rfl, rfl⟩
theorem rclass_12 (w : World) : Calls Tryd.prog 38 #[.int .u8 12] w fun e w' => e = .returned (.int .u8 3) ∧ w = w' := by
  go_enter Tryd.func38, Tryd.ntmps38
  go_wp2
  go_ret
  exact ⟨rfl, rfl⟩
theorem rclass_far (k : Nat) (h : 12 < k) (hk : k < 256) (w : World) : Calls Tryd.prog 38 #[.int .u8 k] w fun e w' => e = .returned (.int .u8 0) ∧ w = w' := by
  have q1 : ((k : Int) == 1) = false := by rw [beq_eq_false_iff_ne]; omega
  have q2 : ((k : Int) == 2) = false := by rw [beq_eq_false_iff_ne]; omega
  have q3 : ((k : Int) == 3) = false := by rw [beq_eq_false_iff_ne]; omega
  have q4 : ((k : Int) == 4) = false := by rw [beq_eq_false_iff_ne]; omega
  have q5 : ((k : Int) == 5) = false := by rw [beq_eq_false_iff_ne]; omega
  have q6 : ((k : Int) == 6) = false := by rw [beq_eq_false_iff_ne]; omega
  have q7 : ((k : Int) == 7) = false := by rw [beq_eq_false_iff_ne]; omega
  have q8 : ((k : Int) == 8) = false := by rw [beq_eq_false_iff_ne]; omega
  have q9 : ((k : Int) == 9) = false := by rw [beq_eq_false_iff_ne]; omega
  have q10 : ((k : Int) == 10) = false := by rw [beq_eq_false_iff_ne]; omega
  have q11 : ((k : Int) == 11) = false := by rw [beq_eq_false_iff_ne]; omega
  have q12 : ((k : Int) == 12) = false := by rw [beq_eq_false_iff_ne]; omega
  go_enter Tryd.func38, Tryd.ntmps38
  go_wp2
  go_ret
  exact ⟨rfl, rfl⟩
theorem rclass_any (k : UInt8) (w : World) : Calls Tryd.prog 38 #[.int .u8 k.toNat] w fun e w' => e = .returned (.int .u8 (clsOf k)) ∧ w = w' := by
  have hk := k.toNat_lt
  unfold clsOf
  generalize k.toNat = n at hk ⊢
  by_cases h : n < 13
  · rw [if_pos h]
    obtain rfl | rfl | rfl | rfl | rfl | rfl | rfl | rfl | rfl | rfl | rfl | rfl | rfl : n = 0 ∨ n = 1 ∨ n = 2 ∨ n = 3 ∨ n = 4 ∨ n = 5 ∨ n = 6 ∨ n = 7 ∨ n = 8 ∨ n = 9 ∨ n = 10 ∨ n = 11 ∨ n = 12 := by omega
    · exact rclass_0 w
    · exact rclass_1 w
    · exact rclass_2 w
    · exact rclass_3 w
    · exact rclass_4 w
    · exact rclass_5 w
    · exact rclass_6 w
    · exact rclass_7 w
    · exact rclass_8 w
    · exact rclass_9 w
    · exact rclass_10 w
    · exact rclass_11 w
    · exact rclass_12 w
  · rw [if_neg h]
    exact rclass_far n (by omega) hk w
end Go.Proofs.YthllacodjeocmaaDoor
