/- MsgOrder, walked. -/
import Derived.Test.YthllacodjeocmaaGreatDoorW1
namespace Go.Proofs.YthllacodjeocmaaGreatDoor
open Go.RowKit
attribute [local go_sem] Oper.semAt_some
theorem cmp_trans : ∀ (a b c : List UInt8), Lib.compareBytes a b < 0 → Lib.compareBytes b c < 0 → Lib.compareBytes a c < 0
  | [], [], c, h, _ => by simp [Lib.compareBytes] at h
  | [], _ :: _, [], _, h => by simp [Lib.compareBytes] at h
  | [], _ :: _, _ :: _, _, _ => by simp [Lib.compareBytes]
  | _ :: _, [], c, h, _ => by simp [Lib.compareBytes] at h
  | _ :: _, _ :: _, [], _, h => by simp [Lib.compareBytes] at h
  | x :: a, y :: b, z :: c, h1, h2 => by
    have ih := cmp_trans a b c
    unfold Lib.compareBytes at h1 h2 ⊢
    have t1 := @UInt8.lt_iff_toNat_lt x y
    have t2 := @UInt8.lt_iff_toNat_lt y x
    have t3 := @UInt8.lt_iff_toNat_lt y z
    have t4 := @UInt8.lt_iff_toNat_lt z y
    have t5 := @UInt8.lt_iff_toNat_lt x z
    have t6 := @UInt8.lt_iff_toNat_lt z x
    by_cases a1 : x < y
    · by_cases b1 : y < z
      · rw [if_pos (t5.2 (by have := t1.1 a1; have := t3.1 b1; omega))]; decide
      · rw [if_neg b1] at h2
        by_cases b2 : z < y
        · rw [if_pos b2] at h2; exact absurd h2 (by decide)
        · rw [if_pos (t5.2 (by have := t1.1 a1; have hq1 : ¬ y.toNat < z.toNat := fun h => b1 (t3.2 h); have hq2 : ¬ z.toNat < y.toNat := fun h => b2 (t4.2 h); omega))]; decide
    · rw [if_neg a1] at h1
      by_cases a2 : y < x
      · rw [if_pos a2] at h1; exact absurd h1 (by decide)
      · rw [if_neg a2] at h1
        have hxy : x.toNat = y.toNat := by have hp1 : ¬ x.toNat < y.toNat := fun h => a1 (t1.2 h); have hp2 : ¬ y.toNat < x.toNat := fun h => a2 (t2.2 h); omega
        by_cases b1 : y < z
        · rw [if_pos (t5.2 (by have := t3.1 b1; omega))]; decide
        · rw [if_neg b1] at h2
          by_cases b2 : z < y
          · rw [if_pos b2] at h2; exact absurd h2 (by decide)
          · rw [if_neg b2] at h2
            rw [if_neg (fun h => by have := t5.1 h; exact b1 (t3.2 (by omega))), if_neg (fun h => by have := t6.1 h; exact b2 (t4.2 (by omega)))]
            exact ih h1 h2
theorem cmp_swap : ∀ (a b : List UInt8), Lib.compareBytes b a = -Lib.compareBytes a b
  | [], [] => rfl
  | [], _ :: _ => rfl
  | _ :: _, [] => rfl
  | x :: a, y :: b => by
    have ih := cmp_swap a b
    unfold Lib.compareBytes
    have t1 := @UInt8.lt_iff_toNat_lt x y
    have t2 := @UInt8.lt_iff_toNat_lt y x
    by_cases a1 : x < y
    · rw [if_pos a1, if_neg (fun h => by have := t2.1 h; have := t1.1 a1; omega)]
      simp [a1]
    · by_cases a2 : y < x
      · simp [a1, a2]
      · simp [a1, a2, ih]
theorem cmp_zero : ∀ (a b : List UInt8), Lib.compareBytes a b = 0 ↔ a = b
  | [], [] => by simp [Lib.compareBytes]
  | [], _ :: _ => by simp [Lib.compareBytes]
  | _ :: _, [] => by simp [Lib.compareBytes]
  | x :: a, y :: b => by
    have ih := cmp_zero a b
    unfold Lib.compareBytes
    have t1 := @UInt8.lt_iff_toNat_lt x y
    have t2 := @UInt8.lt_iff_toNat_lt y x
    by_cases a1 : x < y
    · have : ¬ x = y := fun h => by rw [h] at a1; exact absurd a1 (UInt8.lt_irrefl y)
      simp [a1, this]
    · by_cases a2 : y < x
      · have : ¬ x = y := fun h => by rw [h] at a2; exact absurd a2 (UInt8.lt_irrefl y)
        simp [a1, a2, this]
      · have : x = y := UInt8.toNat_inj.1 (by have hp1 : ¬ x.toNat < y.toNat := fun h => a1 (t1.2 h); have hp2 : ¬ y.toNat < x.toNat := fun h => a2 (t2.2 h); omega)
        simp [this, ih]
theorem less_trans {m o p : Mg} (h1 : lessB m o = true) (h2 : lessB o p = true) : lessB m p = true ∧ lessB p m = false := by
  unfold lessB at *
  have a1 := of_decide_eq_true h1
  have a2 := of_decide_eq_true h2
  have a3 := cmp_trans _ _ _ a1 a2
  refine ⟨decide_eq_true a3, decide_eq_false ?_⟩
  rw [cmp_swap]
  omega
end Go.Proofs.YthllacodjeocmaaGreatDoor
