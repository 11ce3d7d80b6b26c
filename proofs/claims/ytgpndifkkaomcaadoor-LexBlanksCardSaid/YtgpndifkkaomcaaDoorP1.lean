/- Numbers: the program's reading and the reference's agree. -/
import Derived.Test.YtgpndifkkaomcaaDoorA6
import Derived.Test.YtgpndifkkaomcaaDoorR1
namespace Go.Proofs.YtgpndifkkaomcaaDoor
open Go.RowKit
def dec3 (u : Nat) : List UInt8 :=
  if u < 10 then [UInt8.ofNat (48 + u)] else if u < 100 then [UInt8.ofNat (48 + u / 10), UInt8.ofNat (48 + u % 10)] else [UInt8.ofNat (48 + u / 100), UInt8.ofNat (48 + u / 10 % 10), UInt8.ofNat (48 + u % 10)]
theorem decDigits_dec3 (u : Nat) (h : u < 1000) : Lib.decDigits u = dec3 u := by
  unfold dec3
  split
  · exact Lib.decDigits_one (by omega)
  · split
    · exact Lib.decDigits_two (by omega) (by omega)
    · rw [Lib.decDigits, dif_neg (by omega), Lib.decDigits_two (by omega) (by omega)]
      rw [show u / 10 / 10 = u / 100 from by omega]
      rfl
theorem dec3_table : ∀ u : Fin 256, parse8 (dec3 u.val) = (u.val, true) ∧ rnumOf (dec3 u.val) = ((u.val : Int), true) := by decide +kernel
theorem ofNat_back (b : UInt8) (n : Nat) (h : n = b.toNat) : UInt8.ofNat n = b := by subst h; simp
theorem rnum_dec3 (l : List UInt8) (h : allDig l = true) (h1 : 1 ≤ l.length) (h3 : l.length ≤ 3) (hz : (l[0]?.getD 0).toNat ≠ 48 ∨ l.length = 1) (hv : valOf l ≤ 255) : ∃ u, u ≤ 255 ∧ l = dec3 u := by
  match l, h1, h3 with
  | [a], _, _ =>
    simp [allDig, digitB] at h
    refine ⟨a.toNat - 48, by omega, ?_⟩
    unfold dec3
    rw [if_pos (by omega)]
    exact congrArg (fun x => [x]) (ofNat_back _ _ (by omega)).symm
  | [a, b], _, _ =>
    simp [allDig, digitB] at h
    simp at hz
    have ha : a.toNat ≠ 48 := by
      exact hz
    simp [valOf] at hv
    refine ⟨10 * (a.toNat - 48) + (b.toNat - 48), by omega, ?_⟩
    unfold dec3
    rw [if_neg (by omega), if_pos (by omega), ofNat_back a _ (by omega), ofNat_back b _ (by omega)]
  | [a, b, c], _, _ =>
    simp [allDig, digitB] at h
    simp at hz
    have ha : a.toNat ≠ 48 := by
      exact hz
    simp [valOf] at hv
    refine ⟨100 * (a.toNat - 48) + 10 * (b.toNat - 48) + (c.toNat - 48), by omega, ?_⟩
    unfold dec3
    rw [if_neg (by omega), if_neg (by omega), ofNat_back a _ (by omega), ofNat_back b _ (by omega), ofNat_back c _ (by omega)]
theorem num_eq (l : List UInt8) : numOf l = rnumOf l := by
  by_cases h : ∃ u, u ≤ 255 ∧ l = dec3 u
  · obtain ⟨u, hu, rfl⟩ := h
    have ht := dec3_table ⟨u, by omega⟩
    simp only at ht
    rw [ht.2]
    unfold numOf
    rw [ht.1, decDigits_dec3 u (by omega), if_pos ⟨rfl, rfl⟩]
  · have h1 : numOf l = (0, false) := by
      unfold numOf
      rw [if_neg]
      rintro ⟨_, h2⟩
      have := parse8_le l
      exact h ⟨(parse8 l).1, this, by rw [← decDigits_dec3 _ (by omega)]; exact h2.symm⟩
    have h2 : rnumOf l = (0, false) := by
      unfold rnumOf
      rw [if_neg]
      rintro ⟨a, b, c, d, e⟩
      exact h (rnum_dec3 l a b c d e)
    rw [h1, h2]
end Go.Proofs.YtgpndifkkaomcaaDoor
