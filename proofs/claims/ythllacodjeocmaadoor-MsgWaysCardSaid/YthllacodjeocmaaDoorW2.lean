/- MsgOrder, walked. -/
import Derived.Test.YthllacodjeocmaaDoorW1
namespace Go.Proofs.YthllacodjeocmaaDoor
open Go.RowKit
attribute [local go_sem] Oper.semAt_some
theorem cmp_trans : ∀ (a b c : List UInt8), Lib.compareBytes a b < 0 → Lib.compareBytes b c < 0 → Lib.compareBytes a c < 0
  | [], [], c, h, _ => by simp [Lib.compareBytes] at h
  | [], _ :: _, [], _, h => by simp [Lib.compareBytes] at h
  | [], _ :: _, _ :: _, _, _ => by simp [Lib.compareBytes]
  | _ :: _, [], c, h, _ => by simp [Lib.compareBytes] at h
  | _ :: _, _ :: _, [], _, h => by simp [Lib.compareBytes] at h
  | x :: a, y :: b, z :: c, h1, h2 => by
    have ih := cmp_trans a b c
    unfold Lib.compareBytes at h1 h2 ⊢
    have t1 := @UInt8.lt_iff_toNat_lt x y
    have t2 := @UInt8.lt_iff_toNat_lt y x
    have t3 := @UInt8.lt_iff_toNat_lt y z
    have t4 := @UInt8.lt_iff_toNat_lt z y
    have t5 := @UInt8.lt_iff_toNat_lt x z
    have t6 := @UInt8.lt_iff_toNat_lt z x
    by_cases a1 : x < y
    · by_cases b1 : y < z
      · rw [if_pos (t5.2 (by have := t1.1 a1; have := t3.1 b1; omega))]; decide
      · rw [if_neg b1] at h2
        by_cases b2 : z < y
        · rw [if_pos b2] at h2; exact absurd h2 (by decide)
        · rw [if_pos (t5.2 (by have := t1.1 a1; have hq1 : ¬ y.toNat < z.toNat := fun h => b1 (t3.2 h); have hq2 : ¬ z.toNat < y.toNat := fun h => b2 (t4.2 h); omega))]; decide
    · rw [if_neg a1] at h1
      by_cases a2 : y < x
      · rw [if_pos a2] at h1; exact absurd h1 (by decide)
      · rw [if_neg a2] at h1
        have hxy : x.toNat = y.toNat := by have hp1 : ¬ x.toNat < y.toNat := fun h => a1 (t1.2 h); have hp2 : ¬ y.toNat < x.toNat := fun h => a2 (t2.2 h); omega
        by_cases b1 : y < z
        · rw [if_pos (t5.2 (by have := t3.1 b1; omega))]; decide
        · rw [if_neg b1] at h2
          by_cases b2 : z < y
          · rw [if_pos b2] at h2; exact absurd h2 (by decide)
          · rw [if_neg b2] at h2
            rw [if_neg (fun h => by have := t5.1 h; exact b1 (t3.2 (by omega))), if_neg (fun h => by have := t6.1 h; exact b2 (t4.2 (by omega)))]
            exact ih h1 h2
theorem cmp_swap : ∀ (a b : List UInt8), Lib.compareBytes b a = -Lib.compareBytes a b
  | [], [] => rfl
  | [], _ :: _ => rfl
  | _ :: _, [] => rfl
  | x :: a, y :: b => by
    have ih := cmp_swap a b
    unfold Lib.compareBytes
    have t1 := @UInt8.lt_iff_toNat_lt x y
    have t2 := @UInt8.lt_iff_toNat_lt y x
    by_cases a1 : x < y
    · rw [if_pos a1, if_neg (fun h => by have := t2.1 h; have := t1.1 a1; omega)]
      simp [a1]
    · by_cases a2 : y < x
      · simp [a1, a2]
      · simp [a1, a2, ih]
theorem cmp_zero : ∀ (a b : List UInt8), Lib.compareBytes a b = 0 ↔ a = b
  | [], [] => by simp [Lib.compareBytes]
  | [], _ :: _ => by simp [Lib.compareBytes]
  | _ :: _, [] => by simp [Lib.compareBytes]
  | x :: a, y :: b => by
    have ih := cmp_zero a b
    unfold Lib.compareBytes
    have t1 := @UInt8.lt_iff_toNat_lt x y
    have t2 := @UInt8.lt_iff_toNat_lt y x
    by_cases a1 : x < y
    · have : ¬ x = y := fun h => by rw [h] at a1; exact absurd a1 (UInt8.lt_irrefl y)
      simp [a1, this]
    · by_cases a2 : y < x
      · have : ¬ x = y := fun h => by rw [h] at a2; exact absurd a2 (UInt8.lt_irrefl y)
        simp [a1, a2, this]
      · have : x = y := UInt8.toNat_inj.1 (by have hp1 : ¬ x.toNat < y.toNat := fun h => a1 (t1.2 h); have hp2 : ¬ y.toNat < x.toNat := fun h => a2 (t2.2 h); omega)
        simp [this, ih]
theorem less_trans {m o p : Mg} (h1 : lessB m o = true) (h2 : lessB o p = true) : lessB m p = true ∧ lessB p m = false := by
  unfold lessB at *
  have a1 := of_decide_eq_true h1
  have a2 := of_decide_eq_true h2
  have a3 := cmp_trans _ _ _ a1 a2
  refine ⟨decide_eq_true a3, decide_eq_false ?_⟩
  rw [cmp_swap]
  omega
set_option maxHeartbeats 4000000 in
set_option maxRecDepth 100000 in
theorem MsgOrder_any (A B C : Mg) (w : World) (hG : GlobM w) : Calls Tryd.prog 3 #[A.val, B.val, C.val] w fun e w' => e = .returned (.bool true) ∧ Below w.heap.size w w' := by
  have L1 := Lib.hid (fun W => less_any A B W)
  have L2 := Lib.hid (fun W => less_any B C W)
  have L3 := Lib.hid (fun W => less_any A C W)
  have L4 := Lib.hid (fun W => less_any C A W)
  have LT := Lib.hid (@less_trans A B C)
  generalize lessB A B = l1 at L1 LT
  generalize lessB B C = l2 at L2 LT
  generalize lessB A C = l3 at L3 LT
  generalize lessB C A = l4 at L4 LT
  obtain ⟨pk, pf, pt, pl, pa, pc, pal, pd0, pd1, pd2, pd3⟩ := A
  obtain ⟨qk, qf, qt, ql, qa, qc, qal, qd0, qd1, qd2, qd3⟩ := B
  obtain ⟨rk, rf, rt, rl, ra, rc, ral, rd0, rd1, rd2, rd3⟩ := C
  unfold Mg.val at L1 L2 L3 L4 ⊢
  simp only at L1 L2 L3 L4 ⊢
  have hb0 := (((Below.refl _ w).alloc (Nat.le_refl _) (.cells #[.int .u8 pk.toNat, .int .u8 pf.toNat, .int .u8 pt.toNat, .int .u8 pl.toNat, .int .u8 pa.toNat, .int .u8 pc.toNat, .bool pal, .int .u8 pd0.toNat, .int .u8 pd1.toNat, .int .u8 pd2.toNat, .int .u8 pd3.toNat] 25)).alloc (by simp) (.cells #[.int .u8 qk.toNat, .int .u8 qf.toNat, .int .u8 qt.toNat, .int .u8 ql.toNat, .int .u8 qa.toNat, .int .u8 qc.toNat, .bool qal, .int .u8 qd0.toNat, .int .u8 qd1.toNat, .int .u8 qd2.toNat, .int .u8 qd3.toNat] 25)).alloc (by simp; omega) (.cells #[.int .u8 rk.toNat, .int .u8 rf.toNat, .int .u8 rt.toNat, .int .u8 rl.toNat, .int .u8 ra.toNat, .int .u8 rc.toNat, .bool ral, .int .u8 rd0.toNat, .int .u8 rd1.toNat, .int .u8 rd2.toNat, .int .u8 rd3.toNat] 25)
  have hG0 := hG.next hb0
  go_enter Tryd.func3, Tryd.ntmps3
  go_wp2_with fail
  go_at_call 9
  refine (awake_any _ hG0).mono ?_
  rintro e w1 ⟨rfl, hb1⟩
  obtain ⟨hc1, _⟩ := bcell hb1
  have hz1 : w.heap.size + 1 + 1 < w1.heap.size := by have := hb1.size; simp at this; omega
  have hy1 : w.heap.size + 1 < w1.heap.size := by omega
  have hx1 : w.heap.size < w1.heap.size := by omega
  have c1 := hb0.trans (hb1.mono hb0.size)
  clear hG0 hb0 hb1
  go_wp2_with fail
  go_at_call 10
  refine (L1.out _).mono ?_
  rintro e w2 ⟨rfl, hb2⟩
  obtain ⟨hc2, _⟩ := bcell hb2
  have hz2 : w.heap.size + 1 + 1 < w2.heap.size := by have := hb2.size; omega
  have hy2 : w.heap.size + 1 < w2.heap.size := by omega
  have hx2 : w.heap.size < w2.heap.size := by omega
  have c2 := c1.trans (hb2.mono c1.size)
  clear c1 hb2 L1
  cases l1
  · go_wp2
    go_ret
    exact ⟨rfl, c2⟩
  · go_wp2_with fail
    go_at_call 10
    refine (L2.out _).mono ?_
    rintro e w3 ⟨rfl, hb3⟩
    obtain ⟨hc3, _⟩ := bcell hb3
    have hz3 : w.heap.size + 1 + 1 < w3.heap.size := by have := hb3.size; omega
    have hy3 : w.heap.size + 1 < w3.heap.size := by omega
    have hx3 : w.heap.size < w3.heap.size := by omega
    have c3 := c2.trans (hb3.mono c2.size)
    clear c2 hb3 L2
    cases l2
    · go_wp2
      go_ret
      exact ⟨rfl, c3⟩
    · have LT2 := LT.out
      simp only [forall_const] at LT2
      obtain ⟨rfl, rfl⟩ := LT2
      go_wp2_with fail
      go_at_call 10
      refine (L3.out _).mono ?_
      rintro e w4 ⟨rfl, hb4⟩
      obtain ⟨hc4, _⟩ := bcell hb4
      have hz4 : w.heap.size + 1 + 1 < w4.heap.size := by have := hb4.size; omega
      have hy4 : w.heap.size + 1 < w4.heap.size := by omega
      have hx4 : w.heap.size < w4.heap.size := by omega
      have c4 := c3.trans (hb4.mono c3.size)
      clear c3 hb4 L3
      go_wp2_with fail
      go_at_call 10
      refine (L4.out _).mono ?_
      rintro e w5 ⟨rfl, hb5⟩
      have c5 := c4.trans (hb5.mono c4.size)
      go_wp2
      go_ret
      exact ⟨rfl, c5⟩
end Go.Proofs.YthllacodjeocmaaDoor
