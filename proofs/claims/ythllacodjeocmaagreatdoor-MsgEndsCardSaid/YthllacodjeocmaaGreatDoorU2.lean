/- Geometries: validity, walked. -/
import Derived.Test.YthllacodjeocmaaGreatDoorU1
namespace Go.Proofs.YthllacodjeocmaaGreatDoor
open Go.RowKit
attribute [local go_sem] Oper.semAt_some
theorem idx87_0 (c h w s y : Int) (W : World) : Sem.run Tryz.prog (Instr.index 83 (.agg #[.int .i64 c, .int .i64 4, .int .i64 h, .int .i64 2, .int .i64 w, .int .i64 4, .int .i64 s, .int .i64 4, .int .i64 y, .int .i64 4]) (.int .i64 0)) W = .ok (.agg #[.int .i64 c, .int .i64 4]) W := by kernel_rfl
theorem idx87_1 (c h w s y : Int) (W : World) : Sem.run Tryz.prog (Instr.index 83 (.agg #[.int .i64 c, .int .i64 4, .int .i64 h, .int .i64 2, .int .i64 w, .int .i64 4, .int .i64 s, .int .i64 4, .int .i64 y, .int .i64 4]) (.int .i64 1)) W = .ok (.agg #[.int .i64 h, .int .i64 2]) W := by kernel_rfl
theorem idx87_2 (c h w s y : Int) (W : World) : Sem.run Tryz.prog (Instr.index 83 (.agg #[.int .i64 c, .int .i64 4, .int .i64 h, .int .i64 2, .int .i64 w, .int .i64 4, .int .i64 s, .int .i64 4, .int .i64 y, .int .i64 4]) (.int .i64 2)) W = .ok (.agg #[.int .i64 w, .int .i64 4]) W := by kernel_rfl
theorem idx87_3 (c h w s y : Int) (W : World) : Sem.run Tryz.prog (Instr.index 83 (.agg #[.int .i64 c, .int .i64 4, .int .i64 h, .int .i64 2, .int .i64 w, .int .i64 4, .int .i64 s, .int .i64 4, .int .i64 y, .int .i64 4]) (.int .i64 3)) W = .ok (.agg #[.int .i64 s, .int .i64 4]) W := by kernel_rfl
theorem idx87_4 (c h w s y : Int) (W : World) : Sem.run Tryz.prog (Instr.index 83 (.agg #[.int .i64 c, .int .i64 4, .int .i64 h, .int .i64 2, .int .i64 w, .int .i64 4, .int .i64 s, .int .i64 4, .int .i64 y, .int .i64 4]) (.int .i64 4)) W = .ok (.agg #[.int .i64 y, .int .i64 4]) W := by kernel_rfl
theorem inB_yes {n m : Int} (h : inB n m = true) : decide (n < 1) = false ∧ decide (m < n) = false := by
  unfold inB at h
  rw [Bool.and_eq_true, decide_eq_true_eq, decide_eq_true_eq] at h
  exact ⟨decide_eq_false (by omega), decide_eq_false (by omega)⟩
theorem inB_no {n m : Int} (h : inB n m = false) : decide (n < 1) = true ∨ (decide (n < 1) = false ∧ decide (m < n) = true) := by
  unfold inB at h
  by_cases h1 : n < 1
  · exact .inl (decide_eq_true h1)
  · rw [decide_eq_true (show 1 ≤ n by omega), Bool.true_and, decide_eq_false_iff_not] at h
    exact .inr ⟨decide_eq_false h1, decide_eq_true (by omega)⟩
set_option maxHeartbeats 4000000 in
set_option maxRecDepth 100000 in
theorem geo_ok (g : Ge) (W : World) : Calls Tryz.prog 39 #[.agg g.arr] W fun e w' => e = .returned (.bool g.ok) ∧ Below W.heap.size W w' := by
  obtain ⟨c, h, w, s, y⟩ := g
  obtain ⟨b1, hb1⟩ : ∃ b, inB c 4 = b := ⟨_, rfl⟩
  obtain ⟨b2, hb2⟩ : ∃ b, inB h 2 = b := ⟨_, rfl⟩
  obtain ⟨b3, hb3⟩ : ∃ b, inB w 4 = b := ⟨_, rfl⟩
  obtain ⟨b4, hb4⟩ : ∃ b, inB s 4 = b := ⟨_, rfl⟩
  obtain ⟨b5, hb5⟩ : ∃ b, inB y 4 = b := ⟨_, rfl⟩
  have HR : Hid ((⟨c, h, w, s, y⟩ : Ge).ok = ((((b1 && b2) && b3) && b4) && b5)) := by show _ = _; unfold Ge.ok; simp only; rw [hb1, hb2, hb3, hb4, hb5]
  have H1 := Lib.hid hb1
  have H2 := Lib.hid hb2
  have H3 := Lib.hid hb3
  have H4 := Lib.hid hb4
  have H5 := Lib.hid hb5
  unfold Ge.arr
  simp only
  clear hb1 hb2 hb3 hb4 hb5
  go_enter Tryz.func39, Tryz.ntmps39
  go_wp2_with fail
  go_loopg [26] 5 (fun gh i wr => ∃ j : Nat, j ≤ 5 ∧ 5 - j ≤ gh ∧ i = .int .i64 j ∧ Hid ((1 ≤ j → b1 = true) ∧ (2 ≤ j → b2 = true) ∧ (3 ≤ j → b3 = true) ∧ (4 ≤ j → b4 = true) ∧ (5 ≤ j → b5 = true)) ∧ Hid (Below W.heap.size W wr))
  case atStart => exact ⟨0, by omega, by omega, rfl, Lib.hid ⟨fun h => by omega, fun h => by omega, fun h => by omega, fun h => by omega, fun h => by omega⟩, Lib.hid ((Below.refl _ W).alloc (Nat.le_refl _) _)⟩
  case round =>
    obtain ⟨j, hj, hg, rfl, HB, Hb⟩ := hrel
    by_cases hlt : j < 5
    · have hgk : 1 ≤ gk := by omega
      obtain rfl | rfl | rfl | rfl | rfl : j = 0 ∨ j = 1 ∨ j = 2 ∨ j = 3 ∨ j = 4 := by omega
      · have iq := idx87_0 c h w s y wr
        cases b1
        · have HF : Hid ((⟨c, h, w, s, y⟩ : Ge).ok = false) := by show _ = _; rw [HR.out]; cases b2 <;> cases b3 <;> cases b4 <;> cases b5 <;> rfl
          rcases inB_no H1.out with q1 | ⟨q1, q2⟩
          · go_wp2_with fail
            go_ret
            exact ⟨by rw [HF.out]; rfl, Hb.out.alloc Hb.out.size _⟩
          · go_wp2_with fail
            go_ret
            exact ⟨by rw [HF.out]; rfl, Hb.out.alloc Hb.out.size _⟩
        · have q := inB_yes H1.out
          obtain ⟨q1, q2⟩ := q
          go_wp2_with fail
          go_roundg (gk - 1)
          case measure => omega
          case rel => exact ⟨0 + 1, by omega, by omega, rfl, Lib.hid ⟨fun _ => by trivial, fun h => by omega, fun h => by omega, fun h => by omega, fun h => by omega⟩, Lib.hid (Hb.out.alloc Hb.out.size _)⟩
      · have iq := idx87_1 c h w s y wr
        cases b2
        · have HF : Hid ((⟨c, h, w, s, y⟩ : Ge).ok = false) := by show _ = _; rw [HR.out]; cases b1 <;> cases b3 <;> cases b4 <;> cases b5 <;> rfl
          rcases inB_no H2.out with q1 | ⟨q1, q2⟩
          · go_wp2_with fail
            go_ret
            exact ⟨by rw [HF.out]; rfl, Hb.out.alloc Hb.out.size _⟩
          · go_wp2_with fail
            go_ret
            exact ⟨by rw [HF.out]; rfl, Hb.out.alloc Hb.out.size _⟩
        · have q := inB_yes H2.out
          obtain ⟨q1, q2⟩ := q
          go_wp2_with fail
          go_roundg (gk - 1)
          case measure => omega
          case rel => exact ⟨1 + 1, by omega, by omega, rfl, Lib.hid ⟨fun _ => HB.out.1 (by omega), fun _ => by trivial, fun h => by omega, fun h => by omega, fun h => by omega⟩, Lib.hid (Hb.out.alloc Hb.out.size _)⟩
      · have iq := idx87_2 c h w s y wr
        cases b3
        · have HF : Hid ((⟨c, h, w, s, y⟩ : Ge).ok = false) := by show _ = _; rw [HR.out]; cases b1 <;> cases b2 <;> cases b4 <;> cases b5 <;> rfl
          rcases inB_no H3.out with q1 | ⟨q1, q2⟩
          · go_wp2_with fail
            go_ret
            exact ⟨by rw [HF.out]; rfl, Hb.out.alloc Hb.out.size _⟩
          · go_wp2_with fail
            go_ret
            exact ⟨by rw [HF.out]; rfl, Hb.out.alloc Hb.out.size _⟩
        · have q := inB_yes H3.out
          obtain ⟨q1, q2⟩ := q
          go_wp2_with fail
          go_roundg (gk - 1)
          case measure => omega
          case rel => exact ⟨2 + 1, by omega, by omega, rfl, Lib.hid ⟨fun _ => HB.out.1 (by omega), fun _ => HB.out.2.1 (by omega), fun _ => by trivial, fun h => by omega, fun h => by omega⟩, Lib.hid (Hb.out.alloc Hb.out.size _)⟩
      · have iq := idx87_3 c h w s y wr
        cases b4
        · have HF : Hid ((⟨c, h, w, s, y⟩ : Ge).ok = false) := by show _ = _; rw [HR.out]; cases b1 <;> cases b2 <;> cases b3 <;> cases b5 <;> rfl
          rcases inB_no H4.out with q1 | ⟨q1, q2⟩
          · go_wp2_with fail
            go_ret
            exact ⟨by rw [HF.out]; rfl, Hb.out.alloc Hb.out.size _⟩
          · go_wp2_with fail
            go_ret
            exact ⟨by rw [HF.out]; rfl, Hb.out.alloc Hb.out.size _⟩
        · have q := inB_yes H4.out
          obtain ⟨q1, q2⟩ := q
          go_wp2_with fail
          go_roundg (gk - 1)
          case measure => omega
          case rel => exact ⟨3 + 1, by omega, by omega, rfl, Lib.hid ⟨fun _ => HB.out.1 (by omega), fun _ => HB.out.2.1 (by omega), fun _ => HB.out.2.2.1 (by omega), fun _ => by trivial, fun h => by omega⟩, Lib.hid (Hb.out.alloc Hb.out.size _)⟩
      · have iq := idx87_4 c h w s y wr
        cases b5
        · have HF : Hid ((⟨c, h, w, s, y⟩ : Ge).ok = false) := by show _ = _; rw [HR.out]; cases b1 <;> cases b2 <;> cases b3 <;> cases b4 <;> rfl
          rcases inB_no H5.out with q1 | ⟨q1, q2⟩
          · go_wp2_with fail
            go_ret
            exact ⟨by rw [HF.out]; rfl, Hb.out.alloc Hb.out.size _⟩
          · go_wp2_with fail
            go_ret
            exact ⟨by rw [HF.out]; rfl, Hb.out.alloc Hb.out.size _⟩
        · have q := inB_yes H5.out
          obtain ⟨q1, q2⟩ := q
          go_wp2_with fail
          go_roundg (gk - 1)
          case measure => omega
          case rel => exact ⟨4 + 1, by omega, by omega, rfl, Lib.hid ⟨fun _ => HB.out.1 (by omega), fun _ => HB.out.2.1 (by omega), fun _ => HB.out.2.2.1 (by omega), fun _ => HB.out.2.2.2.1 (by omega), fun _ => by trivial⟩, Lib.hid (Hb.out.alloc Hb.out.size _)⟩
    · obtain rfl : j = 5 := by omega
      have HT : Hid ((⟨c, h, w, s, y⟩ : Ge).ok = true) := by
        show _ = _
        rw [HR.out, HB.out.1 (by omega), HB.out.2.1 (by omega), HB.out.2.2.1 (by omega), HB.out.2.2.2.1 (by omega), HB.out.2.2.2.2 (by omega)]
        rfl
      go_wp2_with fail
      go_ret
      exact ⟨by rw [HT.out]; rfl, Hb.out⟩
end Go.Proofs.YthllacodjeocmaaGreatDoor
