/- The reference's Name; Lex for every source. -/
import Derived.Test.YtgpndifkkaomcaaDoorA5
import Derived.Test.YtgpndifkkaomcaaDoorR2
namespace Go.Proofs.YtgpndifkkaomcaaDoor
open Go.RowKit
def nameFrom (l : List UInt8) (d : Bool) : Bool := l.all (fun b => goesB b.toNat) && !(d && l.all (fun b => digitB b.toNat))
theorem nameFrom_cons (b : UInt8) (l : List UInt8) (d : Bool) : nameFrom (b :: l) d = (goesB b.toNat && nameFrom l (d && digitB b.toNat)) := by
  unfold nameFrom; rw [List.all_cons, List.all_cons, Bool.and_assoc, Bool.and_assoc]
def rnameB (s : ByteArray) : Bool :=
  decide (1 ≤ s.size) && decide (s.size ≤ 16) && letterB (s.data.toList[0]?.getD 0).toNat && !keptB s && nameFrom (s.data.toList.drop 1) (decide (1 < s.size) && decide ((s.data.toList[0]?.getD 0).toNat = 114))
theorem drop_at {s : ByteArray} {k : Nat} (h : k < s.size) : s.data.toList.drop k = s[k] :: s.data.toList.drop (k + 1) := by
  rw [List.drop_eq_getElem_cons (by simpa using h)]; rfl
set_option maxHeartbeats 1000000 in
theorem rname_any (s : ByteArray) (w : World) (hmax : s.size ≤ 4611686018427387904) :
    Calls Tryd.prog 23 #[.string s] w fun e w' => e = .returned (.bool (rnameB s)) ∧ Below w.heap.size w w' := by
  have HK := Lib.hid (fun W => rkept_any s W)
  by_cases h0 : s.size = 0
  · have hn : rnameB s = false := by unfold rnameB; simp [h0]
    have hs : s.toList = [] := by rw [ByteArray.toList_eq]; exact List.eq_nil_of_length_eq_zero (by simpa using h0)
    have hd : (s.toList == []) = true := by rw [hs]; rfl
    rw [hn]
    clear hn h0
    go_enter Tryd.func23, Tryd.ntmps23
    go_wp2
    go_ret
    exact ⟨rfl, Below.refl _ _⟩
  · have hz : 0 < s.size := by omega
    have hs : s.toList.isEmpty = false := by rw [ByteArray.toList_eq]; simp; intro h; exact h0 (by rw [← ByteArray.size_data, h]; rfl)
    have hb0 : (0 : Int) < (s.size : Int) := by omega
    clear h0
    by_cases h16 : 16 < s.size
    · have hn : rnameB s = false := by unfold rnameB; simp; omega
      rw [hn]
      clear hn
      go_enter Tryd.func23, Tryd.ntmps23
      go_wp2
      go_ret
      exact ⟨rfl, Below.refl _ _⟩
    · have hq : decide ((16 : Int) < (s.size : Int)) = false := by simp; omega
      have h00 : (s.data.toList[0]?.getD 0) = s[0] := by
        have hl : 0 < s.data.toList.length := by simpa using hz
        rw [List.getElem?_eq_getElem hl]; rfl
      have HN := Lib.hid (show rnameB s = (letterB s[0].toNat && !keptB s && nameFrom (s.data.toList.drop 1) (decide (1 < s.size) && decide (s[0].toNat = 114))) by
        unfold rnameB
        rw [h00]
        have h1 : decide (1 ≤ s.size) = true := by simp; omega
        have h2 : decide (s.size ≤ 16) = true := by simp; omega
        rw [h1, h2]; rfl)
      clear h00
      cases hl0 : letterB s[0].toNat
      · have hn : rnameB s = false := by rw [HN.out, hl0]; rfl
        rw [hn]
        clear hn HN
        go_enter Tryd.func23, Tryd.ntmps23
        go_wp2_with (first | (go_at_call 39; refine (letter_any _ _).mono ?_; rintro e w' ⟨rfl, rfl⟩; rw [hl0]) | (go_at_call 22; refine (HK.out _).mono ?_; rintro e w' ⟨rfl, hb⟩) | fail)
        go_ret
        exact ⟨rfl, Below.refl _ _⟩
      · cases hkp : keptB s
        · by_cases h1 : s.size = 1
          · have hd1 : decide ((1 : Int) < (s.size : Int)) = false := by simp; omega
            have hN := Lib.hid (show rnameB s = nameFrom (s.data.toList.drop 1) false by rw [HN.out, hl0, hkp, show (decide (1 < s.size) && decide (s[0].toNat = 114)) = false from by simp [h1]]; rfl)
            obtain ⟨R, hR⟩ : ∃ R, rnameB s = R := ⟨_, rfl⟩
            rw [hR] at hN ⊢
            clear HN hR
            go_enter Tryd.func23, Tryd.ntmps23
            go_wp2_with (first | (go_at_call 39; refine (letter_any _ _).mono ?_; rintro e w' ⟨rfl, rfl⟩; rw [hl0]) | (go_at_call 22; refine (HK.out _).mono ?_; rintro e w' ⟨rfl, hb⟩) | fail)
            go_loop [3, 4] (fun b i => ∃ (k : Nat) (d : Bool), 1 ≤ k ∧ k ≤ s.size ∧ i = .int .i64 k ∧ b = .bool d ∧ Hid (R = nameFrom (s.data.toList.drop k) d)) (fun _ i => s.size - (intOf i).toNat)
            case atStart => exact ⟨1, false, by omega, by omega, rfl, rfl, hN⟩
            case round =>
              obtain ⟨k, d, hk1, hk2, rfl, rfl, HI⟩ := hrel
              by_cases hlt : k < s.size
              · exfalso; omega
              · obtain rfl : k = s.size := by omega
                have HF := Lib.hid (show R = !d by rw [HI.out, List.drop_eq_nil_of_le (by simp)]; simp [nameFrom])
                clear HI hlt
                go_wp2
                go_ret
                rw [HF.out]
                exact ⟨rfl, hb⟩
          · have hd1 : decide ((1 : Int) < (s.size : Int)) = true := by simp; omega
            have h1b : 1 < s.size := by omega
            by_cases hr : s[0].toNat = 114
            · have hr2 : ((s[0].toNat : Int) == 114) = true := by rw [beq_iff_eq]; omega
              have hN := Lib.hid (show rnameB s = nameFrom (s.data.toList.drop 1) true by rw [HN.out, hl0, hkp, show (decide (1 < s.size) && decide (s[0].toNat = 114)) = true from by simp [h1b, hr]]; rfl)
              obtain ⟨R, hR⟩ : ∃ R, rnameB s = R := ⟨_, rfl⟩
              rw [hR] at hN ⊢
              clear HN hR hr
              go_enter Tryd.func23, Tryd.ntmps23
              go_wp2_with (first | (go_at_call 39; refine (letter_any _ _).mono ?_; rintro e w' ⟨rfl, rfl⟩; rw [hl0]) | (go_at_call 22; refine (HK.out _).mono ?_; rintro e w' ⟨rfl, hb⟩) | fail)
              go_loop [3, 4] (fun b i => ∃ (k : Nat) (d : Bool), 1 ≤ k ∧ k ≤ s.size ∧ i = .int .i64 k ∧ b = .bool d ∧ Hid (R = nameFrom (s.data.toList.drop k) d)) (fun _ i => s.size - (intOf i).toNat)
              case atStart => exact ⟨1, true, by omega, by omega, rfl, rfl, hN⟩
              case round =>
                obtain ⟨k, d, hk1, hk2, rfl, rfl, HI⟩ := hrel
                by_cases hlt : k < s.size
                · have HI0 := HI.out
                  rw [drop_at hlt, nameFrom_cons] at HI0
                  have hi0 : (k : Int) < (s.size : Int) := by omega
                  cases hg2 : goesB s[k].toNat
                  · have HF := Lib.hid (by rw [HI0, hg2]; rfl : R = false)
                    clear HI0 HI
                    go_wp2_with (first | (go_at_call 40; refine (goes_any _ _).mono ?_; rintro e w' ⟨rfl, rfl⟩; rw [hg2]) | fail)
                    go_ret
                    rw [HF.out]
                    exact ⟨rfl, hb⟩
                  · have HF := Lib.hid (by rw [HI0, hg2, Bool.true_and] : R = nameFrom (s.data.toList.drop (k + 1)) (d && digitB s[k].toNat))
                    clear HI0 HI
                    cases d
                    · go_wp2_with (first | (go_at_call 40; refine (goes_any _ _).mono ?_; rintro e w' ⟨rfl, rfl⟩; rw [hg2]) | (go_at_call 38; refine (digit_any _ _).mono ?_; rintro e w' ⟨rfl, rfl⟩) | fail)
                      go_round
                      case rel => exact ⟨k + 1, _, by omega, by omega, by go_num, rfl, HF⟩
                      case measure => simp [intOf]; omega
                    · go_wp2_with (first | (go_at_call 40; refine (goes_any _ _).mono ?_; rintro e w' ⟨rfl, rfl⟩; rw [hg2]) | (go_at_call 38; refine (digit_any _ _).mono ?_; rintro e w' ⟨rfl, rfl⟩) | fail)
                      go_round
                      case rel => exact ⟨k + 1, _, by omega, by omega, by go_num, rfl, by simpa using HF⟩
                      case measure => simp [intOf]; omega
                · obtain rfl : k = s.size := by omega
                  have HF := Lib.hid (show R = !d by rw [HI.out, List.drop_eq_nil_of_le (by simp)]; simp [nameFrom])
                  clear HI hlt
                  go_wp2
                  go_ret
                  rw [HF.out]
                  exact ⟨rfl, hb⟩
            · have hr2 : ((s[0].toNat : Int) == 114) = false := by rw [beq_eq_false_iff_ne]; omega
              have hN := Lib.hid (show rnameB s = nameFrom (s.data.toList.drop 1) false by rw [HN.out, hl0, hkp, show (decide (1 < s.size) && decide (s[0].toNat = 114)) = false from by simp [hr]]; rfl)
              obtain ⟨R, hR⟩ : ∃ R, rnameB s = R := ⟨_, rfl⟩
              rw [hR] at hN ⊢
              clear HN hR hr
              go_enter Tryd.func23, Tryd.ntmps23
              go_wp2_with (first | (go_at_call 39; refine (letter_any _ _).mono ?_; rintro e w' ⟨rfl, rfl⟩; rw [hl0]) | (go_at_call 22; refine (HK.out _).mono ?_; rintro e w' ⟨rfl, hb⟩) | fail)
              go_loop [3, 4] (fun b i => ∃ (k : Nat) (d : Bool), 1 ≤ k ∧ k ≤ s.size ∧ i = .int .i64 k ∧ b = .bool d ∧ Hid (R = nameFrom (s.data.toList.drop k) d)) (fun _ i => s.size - (intOf i).toNat)
              case atStart => exact ⟨1, false, by omega, by omega, rfl, rfl, hN⟩
              case round =>
                obtain ⟨k, d, hk1, hk2, rfl, rfl, HI⟩ := hrel
                by_cases hlt : k < s.size
                · have HI0 := HI.out
                  rw [drop_at hlt, nameFrom_cons] at HI0
                  have hi0 : (k : Int) < (s.size : Int) := by omega
                  cases hg2 : goesB s[k].toNat
                  · have HF := Lib.hid (by rw [HI0, hg2]; rfl : R = false)
                    clear HI0 HI
                    go_wp2_with (first | (go_at_call 40; refine (goes_any _ _).mono ?_; rintro e w' ⟨rfl, rfl⟩; rw [hg2]) | fail)
                    go_ret
                    rw [HF.out]
                    exact ⟨rfl, hb⟩
                  · have HF := Lib.hid (by rw [HI0, hg2, Bool.true_and] : R = nameFrom (s.data.toList.drop (k + 1)) (d && digitB s[k].toNat))
                    clear HI0 HI
                    cases d
                    · go_wp2_with (first | (go_at_call 40; refine (goes_any _ _).mono ?_; rintro e w' ⟨rfl, rfl⟩; rw [hg2]) | (go_at_call 38; refine (digit_any _ _).mono ?_; rintro e w' ⟨rfl, rfl⟩) | fail)
                      go_round
                      case rel => exact ⟨k + 1, _, by omega, by omega, by go_num, rfl, HF⟩
                      case measure => simp [intOf]; omega
                    · go_wp2_with (first | (go_at_call 40; refine (goes_any _ _).mono ?_; rintro e w' ⟨rfl, rfl⟩; rw [hg2]) | (go_at_call 38; refine (digit_any _ _).mono ?_; rintro e w' ⟨rfl, rfl⟩) | fail)
                      go_round
                      case rel => exact ⟨k + 1, _, by omega, by omega, by go_num, rfl, by simpa using HF⟩
                      case measure => simp [intOf]; omega
                · obtain rfl : k = s.size := by omega
                  have HF := Lib.hid (show R = !d by rw [HI.out, List.drop_eq_nil_of_le (by simp)]; simp [nameFrom])
                  clear HI hlt
                  go_wp2
                  go_ret
                  rw [HF.out]
                  exact ⟨rfl, hb⟩
        · have hn : rnameB s = false := by rw [HN.out, hkp]; simp
          rw [hn]
          clear hn HN
          go_enter Tryd.func23, Tryd.ntmps23
          go_wp2_with (first | (go_at_call 39; refine (letter_any _ _).mono ?_; rintro e w' ⟨rfl, rfl⟩; rw [hl0]) | (go_at_call 22; refine (HK.out _).mono ?_; rintro e w' ⟨rfl, hb⟩) | fail)
          go_ret
          exact ⟨by simp, hb⟩
end Go.Proofs.YtgpndifkkaomcaaDoor
