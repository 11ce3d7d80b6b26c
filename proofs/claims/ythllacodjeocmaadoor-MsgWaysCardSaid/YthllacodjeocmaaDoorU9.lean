/- Geometries in the reference: lines. -/
import Derived.Test.YthllacodjeocmaaDoorU8
namespace Go.Proofs.YthllacodjeocmaaDoor
open Go.RowKit
attribute [local go_sem] Oper.semAt_some
def Ge.line (g : Ge) (l : Nat) : Nat := if g.ok = true then l / g.w.toNat else 0
set_option maxHeartbeats 2000000 in
set_option maxRecDepth 100000 in
theorem rline_any (g : Ge) (l : Nat) (hl : l < 256) (w : World) (hG : GlobM w) : Calls Tryd.prog 98 #[.agg g.arr, .int .u8 l] w fun e w' => e = .returned (.int .u8 (g.line l)) ∧ Below w.heap.size w w' := by
  have HS0 := Lib.hid ((St.start hG).boxT g.arr 39 rfl)
  obtain ⟨r, hr⟩ : ∃ r : Nat, g.line l = r := ⟨_, rfl⟩
  have HI : Hid (r = if g.ok = true then l / g.w.toNat else 0) := Lib.hid hr.symm
  have HOB := Lib.hid (@ok_bounds g)
  simp only [hr]
  clear hr
  generalize hbA : w.heap.size = bA at HS0
  have HBA := Lib.hid hbA
  clear hG
  go_enter Tryd.func98, Tryd.ntmps98
  go_wp2_with (first | (refine wpl_box rfl 39 (.tmp 0) rfl g.arr rfl ?_; rw [hbA]; intro w0 hw0; have HS := (show Hid (St [(bA, g.arr, 39)] w w0) from by rw [hw0.out]; exact HS0); clear hw0 HS0) | (refine wpl_ld39 rfl (.tmp 2) rfl bA g rfl (HS.out.h (bA, g.arr, 39) (by simp)) ?_) | fail)
  go_at_call 64
  refine (rgeo_st g HS).mono ?_
  rintro e w1 ⟨rfl, HS1⟩
  clear HS hbA
  obtain ⟨ok, hok⟩ : ∃ ok, g.ok = ok := ⟨_, rfl⟩
  rw [hok] at HI HOB ⊢
  clear hok
  cases ok
  · have HI2 : Hid (r = 0) := HI.out
    go_wp2
    go_ret
    exact ⟨by rw [HI2.out]; rfl, by rw [← HBA.out]; exact HS1.out.b⟩
  · obtain ⟨_, _, ⟨h1, h2⟩⟩ := HOB.out rfl
    have HI2 : Hid (r = l / g.w.toNat) := HI.out
    have c0 : w1.cell? ⟨bA, 2, none⟩ = some (.int .i64 g.w) := (cell_of_heap (HS1.out.h (bA, g.arr, 39) (by simp))).trans rfl
    obtain ⟨k, hk⟩ := Int.eq_ofNat_of_zero_le (show 0 ≤ g.w by omega)
    have HI3 : Hid (r = l / k) := by show _ = _; rw [HI2.out, hk]; rfl
    rw [hk] at c0 h1 h2
    have hq : ((l : Int) / (k : Int)) % 256 = ((l / k : Nat) : Int) := by
      have h := Nat.div_le_self l k
      have e : ((l : Int) / (k : Int)) = ((l / k : Nat) : Int) := rfl
      obtain ⟨q, hqq⟩ : ∃ q, l / k = q := ⟨_, rfl⟩
      rw [hqq] at h e
      rw [e, hqq]; clear e; omega
    have HQ := Lib.hid hq
    clear hk HI2 HI HOB hq
    go_wp2
    go_ret
    exact ⟨by rw [HI3.out, ← HQ.out]; rfl, by rw [← HBA.out]; exact HS1.out.b⟩
end Go.Proofs.YthllacodjeocmaaDoor
