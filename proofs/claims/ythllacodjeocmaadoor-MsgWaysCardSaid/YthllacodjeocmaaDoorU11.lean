/- Geometries in the reference: how many lines. -/
import Derived.Test.YthllacodjeocmaaDoorU10
namespace Go.Proofs.YthllacodjeocmaaDoor
open Go.RowKit
attribute [local go_sem] Oper.semAt_some
/-- How many locations a line has. -/
def Ge.many (g : Ge) (line : Nat) : Nat := if g.ok = true then (g.locs line 6 0).length else 0
/-- How many lines below a bound have locations. -/
def Ge.cnt (g : Ge) : Nat → Nat
  | 0 => 0
  | j + 1 => g.cnt j + if 0 < g.many j then 1 else 0
theorem Ge.cnt_le (g : Ge) : ∀ j, g.cnt j ≤ j
  | 0 => Nat.le_refl _
  | j + 1 => by have := Ge.cnt_le g j; unfold Ge.cnt; split <;> omega
theorem Ge.many_line {g : Ge} (hok : g.ok = true) {m : Nat} (hm : g.w.toNat = m) (line : Nat) : g.many line = (((List.range 6).filter fun l => decide (l / m = line)).length) := by
  have e : ∀ n l, (g.locs line n l).length = ((List.range' l n).filter fun l => decide (l / m = line)).length := by
    intro n
    induction n with
    | zero => intro l; rfl
    | succ n ih =>
      intro l
      unfold Ge.locs
      rw [List.length_append, ih (l + 1), List.range'_succ, List.filter_cons]
      unfold Ge.line
      rw [if_pos hok, hm]
      by_cases h : l / m = line
      · simp [h]; omega
      · simp [h]
  unfold Ge.many
  rw [if_pos hok, e 6 0, List.range_eq_range']
theorem Ge.cnt_lines (g : Ge) : g.cnt 6 = g.lines := by
  by_cases hok : g.ok = true
  · obtain ⟨_, _, h1, h2⟩ := ok_bounds hok
    unfold Ge.lines
    rw [if_pos hok]
    obtain h | h | h | h : g.w.toNat = 1 ∨ g.w.toNat = 2 ∨ g.w.toNat = 3 ∨ g.w.toNat = 4 := by omega
    all_goals
      simp only [Ge.cnt, Ge.many_line hok h, h]
      decide
  · have z : ∀ j, g.cnt j = 0 := by
      intro j
      induction j with
      | zero => rfl
      | succ j ih => unfold Ge.cnt Ge.many; rw [ih, if_neg hok]; rfl
    rw [z 6]
    unfold Ge.lines
    rw [if_neg hok]
theorem rlocs_st {bs : List (Nat × Array Value × TypeId)} {w W : World} (g : Ge) (line : Nat) (hl : line < 256) (h : Hid (St bs w W)) : Calls Tryd.prog 85 #[.agg g.arr, .int .u8 line] W fun e w' => ∃ A cap, e = .returned (.slice A (g.many line) cap) ∧ Hid (St bs w w') :=
  (rlocs_any g line hl W h.out.g).mono fun _ _ ⟨A, cap, e, hb⟩ => ⟨A, cap, e, Lib.hid (h.out.next hb)⟩
set_option maxHeartbeats 4000000 in
set_option maxRecDepth 100000 in
theorem rlines_any (g : Ge) (w : World) (hG : GlobM w) : Calls Tryd.prog 65 #[.agg g.arr] w fun e w' => e = .returned (.int .i64 g.lines) ∧ Below w.heap.size w w' := by
  rw [← g.cnt_lines]
  have HS0 := Lib.hid ((St.start hG).boxT g.arr 39 rfl)
  generalize hbA : w.heap.size = bA at HS0
  have HBA := Lib.hid hbA
  clear hG
  obtain ⟨cn, hcn⟩ : ∃ cn, cn = g.cnt 6 := ⟨_, rfl⟩
  have HC := Lib.hid hcn
  rw [← hcn]
  clear hcn
  go_enter Tryd.func65, Tryd.ntmps65
  go_wp2_with (first | (refine wpl_box rfl 39 (.tmp 0) rfl g.arr rfl ?_; rw [hbA]; intro w0 hw0; have HS := (show Hid (St [(bA, g.arr, 39)] w w0) from by rw [hw0.out]; exact HS0); clear hw0 HS0) | fail)
  clear hbA
  go_loopw [3, 4] (fun v i wr => ∃ (j : Nat), j ≤ 6 ∧ i = .int .u8 j ∧ v = .int .i64 (g.cnt j) ∧ Hid (St [(bA, g.arr, 39)] w wr)) (fun _ i _ => 6 - (intOf i).toNat)
  case atStart => exact ⟨0, by omega, rfl, rfl, HS⟩
  case round =>
    clear HS
    obtain ⟨j, hj, rfl, rfl, HS⟩ := hrel
    have HL := Lib.hid (g.cnt_le j)
    by_cases hlt : j < 6
    · have q1 : decide ((j : Int) < 6) = true := by simp; omega
      go_wp2_with (first | (refine wpl_ld39 rfl (.tmp 1) rfl bA g rfl (HS.out.h (bA, g.arr, 39) (by simp)) ?_) | fail)
      go_at_call 85
      refine (rlocs_st g j (by omega) HS).mono ?_
      rintro e w1 ⟨A, cap, rfl, HS1⟩
      clear HS
      have HN : Hid (g.cnt (j + 1) = g.cnt j + if 0 < g.many j then 1 else 0) := Lib.hid rfl
      generalize g.many j = m at HN ⊢
      by_cases hm : 0 < m
      · have q2 : decide ((m : Int) > 0) = true := by simp; omega
        have HN2 : Hid (g.cnt (j + 1) = g.cnt j + 1) := by show _ = _; rw [HN.out, if_pos hm]
        clear HN
        generalize g.cnt j = c at HN2 HL ⊢
        have hc : c ≤ 6 := Nat.le_trans HL.out hj
        go_wp2_with fail
        exact ⟨⟨j + 1, by omega, by go_num, by rw [HN2.out]; go_num, HS1⟩, by simp [intOf]; omega⟩
      · have q2 : decide ((m : Int) > 0) = false := by simp; omega
        have HN2 : Hid (g.cnt (j + 1) = g.cnt j) := by show _ = _; rw [HN.out, if_neg hm]; rfl
        clear HN
        go_wp2_with fail
        exact ⟨⟨j + 1, by omega, by go_num, by rw [HN2.out], HS1⟩, by simp [intOf]; omega⟩
    · obtain rfl : j = 6 := by omega
      have q1 : decide (((6 : Nat) : Int) < 6) = false := by simp
      rw [← HC.out]
      go_wp2
      go_ret
      exact ⟨rfl, by rw [← HBA.out]; exact HS.out.b⟩
end Go.Proofs.YthllacodjeocmaaDoor
