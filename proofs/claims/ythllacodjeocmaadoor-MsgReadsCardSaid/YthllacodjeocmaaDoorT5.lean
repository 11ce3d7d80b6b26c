/- The reference's words and values. -/
import Derived.Test.YthllacodjeocmaaDoorT3
namespace Go.Proofs.YthllacodjeocmaaDoor
open Go.RowKit
attribute [local go_sem] Oper.semAt_some
/-- The number that a word's first three bytes give, modulo 256. -/
def valI : Nat → List UInt8 → Int → Int
  | 0, _, n => n
  | _, [], n => n
  | k + 1, b :: l, n => valI k l (10 * n + ((b.toNat + 208) % 256 : Nat))
def valB (s : ByteArray) : UInt8 := UInt8.ofNat (valI 3 s.data.toList 0).toNat
theorem valI_snoc : ∀ (k : Nat) (l : List UInt8) (b : UInt8) (n : Int), l.length < k → valI k (l ++ [b]) n = 10 * valI k l n + ((b.toNat + 208) % 256 : Nat)
  | 0, l, b, n, h => by omega
  | k + 1, [], b, n, _ => by cases k <;> simp [valI]
  | k + 1, x :: l, b, n, h => by
    have := valI_snoc k l b (10 * n + ((x.toNat + 208) % 256 : Nat)) (by simpa using h)
    simpa [valI] using this
theorem valI_take : ∀ (k : Nat) (l : List UInt8) (n : Int), valI k (l.take k) n = valI k l n
  | 0, l, n => rfl
  | k + 1, [], n => rfl
  | k + 1, x :: l, n => by simpa [valI] using valI_take k l _
theorem take_snoc (s : ByteArray) (k : Nat) (h : k < s.size) : s.data.toList.take (k + 1) = s.data.toList.take k ++ [s[k]] := by
  rw [List.take_succ_eq_append_getElem (by simpa using h)]; rfl
theorem sub48 (b : UInt8) : IntKind.u8.wrap ((b.toNat : Int) - 48) = (((b.toNat + 208) % 256 : Nat) : Int) := by
  have := b.toNat_lt
  simp [IntKind.wrap, IntKind.signed, IntKind.bits]
  omega
set_option maxHeartbeats 1000000 in
set_option maxRecDepth 100000 in
theorem value_any (s : ByteArray) (w : World) (hs : s.size ≤ 10000) : Calls Tryd.prog 54 #[.string s] w fun e w' => e = .returned (.int .u8 (valB s).toNat) ∧ w = w' := by
  go_enter Tryd.func54, Tryd.ntmps54
  go_wp2
  go_loop [3, 4] (fun n i => ∃ (k : Nat) (v : Nat), k ≤ 3 ∧ k ≤ s.size ∧ i = .int .i64 k ∧ n = .int .i64 v ∧ ((k = 0 → v = 0) ∧ (k = 1 → v ≤ 300) ∧ (k = 2 → v ≤ 4000) ∧ v ≤ 100000) ∧ Hid ((v : Int) = valI 3 (s.data.toList.take k) 0)) (fun _ i => 3 - (intOf i).toNat)
  case atStart => exact ⟨0, 0, by omega, by omega, rfl, rfl, by omega, rfl⟩
  case round =>
    obtain ⟨k, v, hk, hks, rfl, rfl, hv, HV⟩ := hrel
    by_cases h : k < s.size ∧ k < 3
    · obtain ⟨hlt, h3⟩ := h
      have h1 := sub48 s[k]
      have hb := s[k].toNat_lt
      have h3' : decide ((k : Int) < 3) = true := by simp; omega
      have h4 : decide (k < s.size) = true := by simp; omega
      have HN : Hid (((10 * v + (s[k].toNat + 208) % 256 : Nat) : Int) = valI 3 (s.data.toList.take (k + 1)) 0) := by
        show _ = _
        rw [take_snoc s k hlt, valI_snoc 3 _ _ _ (by rw [List.length_take]; omega), ← HV.out]
        omega
      go_wp2
      exact ⟨⟨k + 1, 10 * v + (s[k].toNat + 208) % 256, by omega, by omega, by go_num, by go_num, by omega, HN⟩, by simp [intOf]; omega⟩
    · have hfin : valI 3 (s.data.toList.take k) 0 = valI 3 s.data.toList 0 := by
        by_cases hlt : k < s.size
        · obtain rfl : k = 3 := by omega
          exact valI_take 3 _ _
        · rw [List.take_of_length_le (by simp; omega)]
      have hcv : IntKind.u8.wrap (v : Int) = ((valB s).toNat : Int) := by
        unfold valB
        rw [← hfin, ← HV.out, Int.toNat_natCast, UInt8.toNat_ofNat']
        simp [IntKind.wrap, IntKind.signed, IntKind.bits]
      obtain ⟨vb, hvb⟩ : ∃ x, valB s = x := ⟨_, rfl⟩
      rw [hvb] at hcv
      have HVB := Lib.hid hvb
      clear hvb
      by_cases hlt : k < s.size
      · have h3' : decide ((k : Int) < 3) = false := by simp; omega
        have h4 : decide (k < s.size) = true := by simp; omega
        go_wp2
        go_ret
        exact ⟨by rw [HVB.out]; rfl, rfl⟩
      · have h4 : decide (k < s.size) = false := by simp; omega
        go_wp2
        go_ret
        exact ⟨by rw [HVB.out]; rfl, rfl⟩
end Go.Proofs.YthllacodjeocmaaDoor
