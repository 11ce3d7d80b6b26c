/- Classes, the reference's bytes. -/
import Derived.Test.YthllacodjeocmaaDoorU5
namespace Go.Proofs.YthllacodjeocmaaDoor
open Go.RowKit
attribute [local go_sem] Oper.semAt_some
/-- The class of a kind. -/
def clsOf (k : UInt8) : Int := if k.toNat < 13 then classOf k.toNat else 0
theorem cls_table : ∀ k : Fin 13, classOf k.val = if k.val = 0 then 0 else if k.val ≤ 3 then 1 else if k.val = 4 ∨ k.val = 5 then 3 else if k.val ≤ 9 then 2 else 3 := by decide +kernel
set_option maxHeartbeats 1000000 in
set_option maxRecDepth 100000 in
theorem class_any (k : UInt8) (w : World) (hG : GlobM w) : Calls Tryd.prog 19 #[.int .u8 k.toNat] w fun e w' => e = .returned (.int .u8 (clsOf k)) ∧ w = w' := by
  have hk := k.toNat_lt
  by_cases h : k.toNat < 13
  · obtain ⟨_, n1, _⟩ := hG.n.at h
    have HC : Hid (clsOf k = classOf k.toNat) := by show _ = _; unfold clsOf; rw [if_pos h]
    have q : decide ((13 : Int) ≤ (k.toNat : Int)) = false := by simp; omega
    have hk0 : (0 : Int) ≤ k.toNat := by omega
    have hk1 : (k.toNat : Int) < 13 := by omega
    generalize clsOf k = r at HC ⊢
    go_enter Tryd.func19, Tryd.ntmps19
    go_wp2
    go_ret
    exact ⟨by rw [HC.out]; rfl, rfl⟩
  · have HC : Hid (clsOf k = 0) := by show _ = _; unfold clsOf; rw [if_neg h]
    have q : decide ((13 : Int) ≤ (k.toNat : Int)) = true := by simp; omega
    generalize clsOf k = r at HC ⊢
    go_enter Tryd.func19, Tryd.ntmps19
    go_wp2
    go_ret
    exact ⟨by rw [HC.out]; rfl, rfl⟩
set_option maxHeartbeats 4000000 in
set_option maxRecDepth 100000 in
/-- The reference's Bytes. -/
theorem rbytes_any (m : Mg) (w : World) : Calls Tryd.prog 39 #[m.val] w fun e w' => ∃ g, e = .returned (.slice (some ⟨g, 0, none⟩) 11 11) ∧ BytesAt w' g (bytesOf m) ∧ Below w.heap.size w w' := by
  obtain ⟨k, f, t, l, a, c, al, d0, d1, d2, d3⟩ := m
  unfold Mg.val
  simp only
  cases al
  · go_enter Tryd.func39, Tryd.ntmps39
    go_wp2
    go_ret
    refine ⟨_, rfl, ?_, ((Below.refl _ w).alloc (Nat.le_refl _) _).alloc (by simp) _⟩
    exact bytes_cells (w.alloc _) _ #[] #[] 5 _ (bytesOf ⟨k, f, t, l, a, c, false, d0, d1, d2, d3⟩) (by simp) rfl
  · go_enter Tryd.func39, Tryd.ntmps39
    go_wp2
    go_ret
    refine ⟨_, rfl, ?_, ((Below.refl _ w).alloc (Nat.le_refl _) _).alloc (by simp) _⟩
    exact bytes_cells (w.alloc _) _ #[] #[] 5 _ (bytesOf ⟨k, f, t, l, a, c, true, d0, d1, d2, d3⟩) (by simp) rfl
end Go.Proofs.YthllacodjeocmaaDoor
