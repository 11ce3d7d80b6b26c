/- Reg, Kept. -/
import Derived.Test.YtgpndifkkaomcaaDoorA1
namespace Go.Proofs.YtgpndifkkaomcaaDoor
open Go.RowKit
/-- The register that a word names. -/
def regOf (l : List UInt8) : Int × Bool := match l with
  | [a, b] => if a.toNat = 114 ∧ 48 ≤ b.toNat ∧ b.toNat ≤ 55 then ((b.toNat : Int) - 48, true) else (0, false)
  | _ => (0, false)

theorem regOf_yes {a b : UInt8} (h : a.toNat = 114 ∧ 48 ≤ b.toNat ∧ b.toNat ≤ 55) : regOf [a, b] = ((b.toNat : Int) - 48, true) := if_pos h
theorem regOf_no {a b : UInt8} (h : ¬ (a.toNat = 114 ∧ 48 ≤ b.toNat ∧ b.toNat ≤ 55)) : regOf [a, b] = (0, false) := if_neg h
theorem regOf_other {l : List UInt8} (h : l.length ≠ 2) : regOf l = (0, false) := by
  unfold regOf
  split
  · simp at h
  · rfl
theorem two_bytes (s : ByteArray) (h : s.size = 2) : ∃ a b, s = ⟨#[a, b]⟩ := by
  obtain ⟨⟨l⟩⟩ := s
  match l, h with
  | [a, b], _ => exact ⟨a, b, rfl⟩
theorem reg_other_15 (s : ByteArray) (w : World) (hn : s.size ≠ 2) :
    Calls Tryd.prog 15 #[.string s] w fun e w' => e = .returned (.tuple #[.int .u8 0, .bool false]) ∧ w = w' := by
  have h2 : ((s.size : Int) == 2) = false := by rw [beq_eq_false_iff_ne]; omega
  have h3 : ((s.size : Int) != 2) = true := by rw [bne_iff_ne]; omega
  go_enter Tryd.func15, Tryd.ntmps15
  go_wp2
  go_ret2
  exact ⟨rfl, rfl⟩
theorem reg_two_15 (a b : UInt8) (w : World) :
    Calls Tryd.prog 15 #[.string ⟨#[a, b]⟩] w fun e w' => e = .returned (.tuple #[.int .u8 (regOf [a, b]).1, .bool (regOf [a, b]).2]) ∧ w = w' := by
  have hs : (ByteArray.mk #[a, b]).size = 2 := rfl
  have h0 : (ByteArray.mk #[a, b])[0] = a := rfl
  have h1 : (ByteArray.mk #[a, b])[1] = b := rfl
  have hb := b.toNat_lt
  go_enter Tryd.func15, Tryd.ntmps15
  go_wp2
  all_goals go_ret2
  all_goals first
    | (rw [regOf_no (by omega)]; exact ⟨rfl, rfl⟩)
    | (rw [regOf_yes (by omega)]; exact ⟨rfl, rfl⟩)

theorem reg_other_20 (s : ByteArray) (w : World) (hn : s.size ≠ 2) :
    Calls Tryd.prog 20 #[.string s] w fun e w' => e = .returned (.tuple #[.int .u8 0, .bool false]) ∧ w = w' := by
  have h2 : ((s.size : Int) == 2) = false := by rw [beq_eq_false_iff_ne]; omega
  have h3 : ((s.size : Int) != 2) = true := by rw [bne_iff_ne]; omega
  go_enter Tryd.func20, Tryd.ntmps20
  go_wp2
  go_ret2
  exact ⟨rfl, rfl⟩
theorem reg_two_20 (a b : UInt8) (w : World) :
    Calls Tryd.prog 20 #[.string ⟨#[a, b]⟩] w fun e w' => e = .returned (.tuple #[.int .u8 (regOf [a, b]).1, .bool (regOf [a, b]).2]) ∧ w = w' := by
  have hs : (ByteArray.mk #[a, b]).size = 2 := rfl
  have h0 : (ByteArray.mk #[a, b])[0] = a := rfl
  have h1 : (ByteArray.mk #[a, b])[1] = b := rfl
  have hb := b.toNat_lt
  go_enter Tryd.func20, Tryd.ntmps20
  go_wp2
  all_goals go_ret2
  all_goals first
    | (rw [regOf_no (by omega)]; exact ⟨rfl, rfl⟩)
    | (rw [regOf_yes (by omega)]; exact ⟨rfl, rfl⟩)
theorem reg_any (s : ByteArray) (w : World) :
    Calls Tryd.prog 15 #[.string s] w fun e w' => e = .returned (.tuple #[.int .u8 (regOf s.data.toList).1, .bool (regOf s.data.toList).2]) ∧ w = w' := by
  by_cases h : s.size = 2
  · obtain ⟨a, b, rfl⟩ := two_bytes s h
    exact reg_two_15 a b w
  · rw [regOf_other (by simpa using h)]
    exact reg_other_15 s w h
theorem rreg_any (s : ByteArray) (w : World) :
    Calls Tryd.prog 20 #[.string s] w fun e w' => e = .returned (.tuple #[.int .u8 (regOf s.data.toList).1, .bool (regOf s.data.toList).2]) ∧ w = w' := by
  by_cases h : s.size = 2
  · obtain ⟨a, b, rfl⟩ := two_bytes s h
    exact reg_two_20 a b w
  · rw [regOf_other (by simpa using h)]
    exact reg_other_20 s w h
end Go.Proofs.YtgpndifkkaomcaaDoor
