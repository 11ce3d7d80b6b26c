/- The method sign. -/
import Derived.Test.YtgpndifkkaomcaaDoorA1
namespace Go.Proofs.YtgpndifkkaomcaaDoor
open Go.RowKit
/-- The length of the sign that begins at k. -/
def signLen (l : List UInt8) (k : Nat) : Nat := if Lib.hasPrefix (l.drop k) [61, 61] = true ∨ Lib.hasPrefix (l.drop k) [33, 61] = true then 2 else 1
theorem take_drop_self (s : ByteArray) (k : Nat) : List.take (s.size - k) (List.drop k s.data.toList) = List.drop k s.data.toList := List.take_of_length_le (by simp)
theorem hasPrefix_len {l p : List UInt8} (h : Lib.hasPrefix l p = true) : p.length ≤ l.length := by
  unfold Lib.hasPrefix at h
  simp at h
  exact h.length_le
set_option maxHeartbeats 400000 in
theorem sign_any (s : ByteArray) (b off k : Nat) (w : World) (hs : w.cell? ⟨b, off, none⟩ = some (.string s)) (hk : w.cell? ⟨b, off + 1, none⟩ = some (.int .i64 k)) (hf : w.frozen? ⟨b, off + 1, none⟩ = false) (hlt : k < s.size) (hmax : s.size ≤ 4611686018427387904) :
    Calls Tryd.prog 52 #[.pointer (some ⟨b, off, none⟩)] w fun e w' => e = .returned (.string (s.extract k (k + signLen s.data.toList k))) ∧ ∃ n, w' = (w.setCell ⟨b, off + 1, none⟩ (.int .i64 (k + signLen s.data.toList k : Nat))).drewN n := by
  go_enter Tryd.func52, Tryd.ntmps52
  go_wp2
  go_quiet (fail)
  go_wp2_with (first | (go_at_call 65; refine (Tryd.strings_HasPrefix _ _ _).mono ?_; rintro e w' ⟨rfl, rfl⟩))
  · have hp : Lib.hasPrefix (List.take (s.size - k) (List.drop k s.data.toList)) [61, 61] = true := by assumption
    rw [take_drop_self] at hp
    have HE := Lib.hid (by unfold signLen; rw [if_pos (.inl hp)] : signLen s.data.toList k = 2)
    have hb : k + 2 ≤ s.size := by have := hasPrefix_len hp; simp at this; omega
    obtain ⟨W, hW⟩ : ∃ W, (w.drewN nq).setCell ⟨b, off + 1, none⟩ (.int .i64 ((k : Int) + 2)) = W := ⟨_, rfl⟩
    rw [hW]
    have c1 : W.cell? ⟨b, off, none⟩ = some (.string s) := by rw [← hW]; exact (World.cell?_setCell_other _ _ _ _ (by simp)).trans hs
    have c2 : W.cell? ⟨b, off + 1, none⟩ = some (.int .i64 ((k : Int) + 2)) := by rw [← hW]; exact World.cell?_setCell_same' _ _ _ (by rw [World.cell?_drewN, hk]; rfl)
    have HW := Lib.hid hW
    clear hW hs hk
    go_quiet (fail)
    go_wp2
    go_ret
    rw [HE.out, ← HW.out]
    exact ⟨rfl, _, by rw [Int.natCast_add]; exact drew_upd⟩
  · have hp : Lib.hasPrefix (List.take (s.size - k) (List.drop k s.data.toList)) [33, 61] = true := by assumption
    rw [take_drop_self] at hp
    have HE := Lib.hid (by unfold signLen; rw [if_pos (.inr hp)] : signLen s.data.toList k = 2)
    have hb : k + 2 ≤ s.size := by have := hasPrefix_len hp; simp at this; omega
    obtain ⟨W, hW⟩ : ∃ W, (w.drewN nq).setCell ⟨b, off + 1, none⟩ (.int .i64 ((k : Int) + 2)) = W := ⟨_, rfl⟩
    rw [hW]
    have c1 : W.cell? ⟨b, off, none⟩ = some (.string s) := by rw [← hW]; exact (World.cell?_setCell_other _ _ _ _ (by simp)).trans hs
    have c2 : W.cell? ⟨b, off + 1, none⟩ = some (.int .i64 ((k : Int) + 2)) := by rw [← hW]; exact World.cell?_setCell_same' _ _ _ (by rw [World.cell?_drewN, hk]; rfl)
    have HW := Lib.hid hW
    clear hW hs hk
    go_quiet (fail)
    go_wp2
    go_ret
    rw [HE.out, ← HW.out]
    exact ⟨rfl, _, by rw [Int.natCast_add]; exact drew_upd⟩
  · have hp : ¬ Lib.hasPrefix (List.take (s.size - k) (List.drop k s.data.toList)) [61, 61] = true := by assumption
    have hq : Lib.hasPrefix (List.take (s.size - k) (List.drop k s.data.toList)) [33, 61] = false := by assumption
    rw [take_drop_self] at hp hq
    have HE := Lib.hid (by unfold signLen; rw [if_neg (by rintro (h | h); exact hp h; rw [hq] at h; exact absurd h (by decide))] : signLen s.data.toList k = 1)
    have hb : k + 1 ≤ s.size := by omega
    obtain ⟨W, hW⟩ : ∃ W, (w.drewN nq).setCell ⟨b, off + 1, none⟩ (.int .i64 ((k : Int) + 1)) = W := ⟨_, rfl⟩
    rw [hW]
    have c1 : W.cell? ⟨b, off, none⟩ = some (.string s) := by rw [← hW]; exact (World.cell?_setCell_other _ _ _ _ (by simp)).trans hs
    have c2 : W.cell? ⟨b, off + 1, none⟩ = some (.int .i64 ((k : Int) + 1)) := by rw [← hW]; exact World.cell?_setCell_same' _ _ _ (by rw [World.cell?_drewN, hk]; rfl)
    have HW := Lib.hid hW
    clear hW hs hk
    go_quiet (fail)
    go_wp2
    go_ret
    rw [HE.out, ← HW.out]
    exact ⟨rfl, _, by rw [Int.natCast_add]; exact drew_upd⟩
theorem sign_any0 (s : ByteArray) (b k : Nat) (w : World) (hs : w.cell? ⟨b, 0, none⟩ = some (.string s)) (hk : w.cell? ⟨b, 1, none⟩ = some (.int .i64 k)) (hf : w.frozen? ⟨b, 1, none⟩ = false) (hlt : k < s.size) (hmax : s.size ≤ 4611686018427387904) :
    Calls Tryd.prog 52 #[.pointer (some ⟨b, 0, none⟩)] w fun e w' => e = .returned (.string (s.extract k (k + signLen s.data.toList k))) ∧ ∃ n, w' = (w.setCell ⟨b, 1, none⟩ (.int .i64 (k + signLen s.data.toList k : Nat))).drewN n :=
  sign_any s b 0 k w hs hk hf hlt hmax
end Go.Proofs.YtgpndifkkaomcaaDoor
