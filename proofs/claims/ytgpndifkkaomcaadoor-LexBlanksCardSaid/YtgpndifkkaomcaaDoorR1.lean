/- The reference's Num and sign. -/
import Derived.Test.YtgpndifkkaomcaaDoorA1
namespace Go.Proofs.YtgpndifkkaomcaaDoor
open Go.RowKit
/-- The value of a row of digits. -/
def valOf (l : List UInt8) : Int := l.foldl (fun n b => 10 * n + ((b.toNat : Int) - 48)) 0
def allDig (l : List UInt8) : Bool := l.all fun b => digitB b.toNat
def rnumOf (l : List UInt8) : Int × Bool :=
  if allDig l = true ∧ 1 ≤ l.length ∧ l.length ≤ 3 ∧ ((l[0]?.getD 0).toNat ≠ 48 ∨ l.length = 1) ∧ valOf l ≤ 255 then (valOf l, true) else (0, false)
theorem valOf_snoc (l : List UInt8) (b : UInt8) : valOf (l ++ [b]) = 10 * valOf l + ((b.toNat : Int) - 48) := by
  unfold valOf; rw [List.foldl_append]; rfl
theorem allDig_snoc (l : List UInt8) (b : UInt8) : allDig (l ++ [b]) = (allDig l && digitB b.toNat) := by
  unfold allDig; rw [List.all_append]; simp
theorem take_snoc (s : ByteArray) (k : Nat) (h : k < s.size) : s.data.toList.take (k + 1) = s.data.toList.take k ++ [s[k]] := by
  rw [List.take_succ_eq_append_getElem (by simpa using h)]; rfl
theorem valOf_bd (l : List UInt8) (h : allDig l = true) (hl : l.length ≤ 3) : 0 ≤ valOf l ∧ valOf l ≤ 999 := by
  match l, hl with
  | [], _ => exact ⟨by decide, by decide⟩
  | [a], _ => simp [allDig, digitB] at h; simp [valOf]; omega
  | [a, b], _ => simp [allDig, digitB] at h; simp [valOf]; omega
  | [a, b, c], _ => simp [allDig, digitB] at h; simp [valOf]; omega
theorem allDig_take {l : List UInt8} (h : allDig l = true) (k : Nat) : allDig (l.take k) = true := by
  unfold allDig at *
  rw [List.all_eq_true] at *
  exact fun x hx => h x (List.mem_of_mem_take hx)
set_option maxHeartbeats 400000 in
theorem rnum_any (s : ByteArray) (w : World) (hmax : s.size ≤ 4611686018427387904) :
    Calls Tryd.prog 21 #[.string s] w fun e w' => e = .returned (.tuple #[.int .u8 (rnumOf s.data.toList).1, .bool (rnumOf s.data.toList).2]) ∧ w = w' := by
  have hsl : s.data.toList.length = s.size := by simp
  go_enter Tryd.func21, Tryd.ntmps21
  go_wp2
  go_loop [4, 5] (fun n i => ∃ k : Nat, k ≤ s.size ∧ k ≤ 3 ∧ i = .int .i64 k ∧ Hid (allDig (s.data.toList.take k) = true) ∧ n = .int .i64 (valOf (s.data.toList.take k))) (fun _ i => s.size - (intOf i).toNat)
  case atStart => exact ⟨0, by omega, by omega, rfl, Lib.hid rfl, rfl⟩
  case round =>
    obtain ⟨k, hk, hk3, rfl, HA, rfl⟩ := hrel
    have hlk : (s.data.toList.take k).length = k := by simp; omega
    have hb := valOf_bd (s.data.toList.take k) HA.out (by omega)
    obtain ⟨v, hv⟩ : ∃ v, valOf (s.data.toList.take k) = v := ⟨_, rfl⟩
    rw [hv] at hb ⊢
    obtain ⟨hb1, hb2⟩ := hb
    by_cases hlt : k < s.size
    · have hts := take_snoc s k hlt
      have hsn := valOf_snoc (s.data.toList.take k) s[k]
      have had := allDig_snoc (s.data.toList.take k) s[k]
      rw [← hts, hv] at hsn
      rw [← hts, HA.out, Bool.true_and] at had
      by_cases hd : digitB s[k].toNat = true
      · have hd2 : 48 ≤ (s[k].toNat : Int) ∧ (s[k].toNat : Int) ≤ 57 := by unfold digitB at hd; simpa using hd
        obtain ⟨d1, d2⟩ := hd2
        have HD := Lib.hid (had.trans hd)
        have HS := Lib.hid hsn
        clear hts hsn had hv hlk
        by_cases hk2 : k ≤ 2
        · go_wp2_with (go_at_call 38; refine (digit_any _ _).mono ?_; rintro e w' ⟨rfl, rfl⟩)
          go_round
          case rel => exact ⟨k + 1, by omega, by omega, by go_num, HD, by rw [HS.out]⟩
          case measure => simp [intOf]; omega
        · have HR := Lib.hid (show rnumOf s.data.toList = (0, false) by unfold rnumOf; rw [if_neg]; rintro ⟨_, _, h3, _⟩; omega)
          clear hsl
          go_wp2_with (go_at_call 38; refine (digit_any _ _).mono ?_; rintro e w' ⟨rfl, rfl⟩)
          go_ret2
          rw [HR.out]
          exact ⟨rfl, rfl⟩
      · have hd3 : digitB s[k].toNat = false := by simpa using hd
        have HR := Lib.hid (show rnumOf s.data.toList = (0, false) by unfold rnumOf; rw [if_neg]; rintro ⟨h1, _⟩; have := allDig_take h1 (k + 1); rw [had, hd3] at this; cases this)
        clear hts hsn had hv hlk hd hsl
        go_wp2_with (go_at_call 38; refine (digit_any _ _).mono ?_; rintro e w' ⟨rfl, rfl⟩)
        go_ret2
        rw [HR.out]
        exact ⟨rfl, rfl⟩
    · obtain rfl : k = s.size := by omega
      have htk : s.data.toList.take s.size = s.data.toList := List.take_of_length_le (by omega)
      have HA2 := HA.out
      rw [htk] at hv HA2
      have hre : rnumOf s.data.toList = if 1 ≤ s.size ∧ ((s.data.toList[0]?.getD 0).toNat ≠ 48 ∨ s.size = 1) ∧ v ≤ 255 then (v, true) else (0, false) := by
        unfold rnumOf
        rw [HA2, hv, hsl]
        by_cases hc : 1 ≤ s.size ∧ ((s.data.toList[0]?.getD 0).toNat ≠ 48 ∨ s.size = 1) ∧ v ≤ 255
        · rw [if_pos hc, if_pos ⟨rfl, hc.1, hk3, hc.2⟩]
        · rw [if_neg hc, if_neg (fun h => hc ⟨h.2.1, h.2.2.2⟩)]
      clear HA HA2 hv hlk htk
      by_cases h0 : s.size = 0
      · have hs : s.toList = [] := by rw [ByteArray.toList_eq]; exact List.eq_nil_of_length_eq_zero (by omega)
        have HR := Lib.hid (show rnumOf s.data.toList = (0, false) by rw [hre, if_neg]; rintro ⟨h1, _⟩; omega)
        clear hre hsl h0
        go_wp2
        go_ret2
        rw [HR.out]
        exact ⟨rfl, rfl⟩
      · have hz : 0 < s.size := by omega
        have hs : s.toList.isEmpty = false := by rw [ByteArray.toList_eq]; simp; intro h; exact h0 (by rw [← ByteArray.size_data, h]; rfl)
        have hb0 : (0 : Int) < (s.size : Int) := by omega
        have h00 : (s.data.toList[0]?.getD 0) = s[0] := by
          have hl : 0 < s.data.toList.length := by omega
          rw [List.getElem?_eq_getElem hl]; rfl
        rw [h00] at hre
        clear h0 hsl h00
        by_cases h48 : s[0].toNat = 48
        · have hq : ((s[0].toNat : Int) == 48) = true := by rw [beq_iff_eq]; omega
          by_cases h1 : 1 < s.size
          · have HR := Lib.hid (show rnumOf s.data.toList = (0, false) by rw [hre, if_neg]; rintro ⟨_, h | h, _⟩; exact h h48; omega)
            clear hre h48
            go_wp2
            go_ret2
            rw [HR.out]
            exact ⟨rfl, rfl⟩
          · by_cases h255 : v ≤ 255
            · have HR := Lib.hid (show rnumOf s.data.toList = (v, true) by rw [hre, if_pos ⟨hz, .inr (by omega), h255⟩])
              clear hre h48
              go_wp2
              go_ret2
              rw [HR.out]
              exact ⟨rfl, rfl⟩
            · have HR := Lib.hid (show rnumOf s.data.toList = (0, false) by rw [hre, if_neg]; rintro ⟨_, _, h⟩; omega)
              clear hre h48
              go_wp2
              go_ret2
              rw [HR.out]
              exact ⟨rfl, rfl⟩
        · have hq : ((s[0].toNat : Int) == 48) = false := by rw [beq_eq_false_iff_ne]; omega
          by_cases h255 : v ≤ 255
          · have HR := Lib.hid (show rnumOf s.data.toList = (v, true) by rw [hre, if_pos ⟨hz, .inl h48, h255⟩])
            clear hre h48
            go_wp2
            go_ret2
            rw [HR.out]
            exact ⟨rfl, rfl⟩
          · have HR := Lib.hid (show rnumOf s.data.toList = (0, false) by rw [hre, if_neg]; rintro ⟨_, _, h⟩; omega)
            clear hre h48
            go_wp2
            go_ret2
            rw [HR.out]
            exact ⟨rfl, rfl⟩
end Go.Proofs.YtgpndifkkaomcaaDoor
