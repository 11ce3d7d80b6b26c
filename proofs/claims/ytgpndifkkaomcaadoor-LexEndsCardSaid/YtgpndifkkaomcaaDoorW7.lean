/- LexEnds, walked. -/
import Derived.Test.YtgpndifkkaomcaaDoorW6
import Derived.StillTailTactics
import Derived.IntWalk
namespace Go.Proofs.YtgpndifkkaomcaaDoor
open Go.RowKit
theorem new1 (W : World) (a : Int) : (Sem.run Tryd.prog (convert 24 9 (.slice (some ⟨W.heap.size, 0, none⟩) 1 1)) (W.alloc (.cells #[.int .u8 a] 5))) = .ok (.string (strOfNums [a])) (W.alloc (.cells #[.int .u8 a] 5)) :=
  run_convert_bytes_arg _ 24 5 Tryd.underlying24 Tryd.underlying5 _ 0 1 1 [a] rfl (fun i hi => by
    obtain rfl : i = 0 := by omega
    unfold World.cell?
    have : (W.alloc (.cells #[.int .u8 a] 5)).heap[W.heap.size]? = some (.cells #[.int .u8 a] 5) := by
      show (W.heap.push (.cells #[.int .u8 a] 5))[W.heap.size]? = _
      simp
    rw [this]
    rfl) 9 Tryd.underlying9
theorem St.drew {w W : World} (h : St w W) : St w W.drew := h.next ⟨rfl, rfl, rfl, Nat.le_refl _, fun _ _ => rfl⟩
theorem St.drews {w W : World} (h : St w W) (n : Nat) : St w (W.drewN n) := h.next ⟨rfl, rfl, rfl, Nat.le_refl _, fun _ _ => rfl⟩
set_option maxHeartbeats 2000000 in
set_option maxRecDepth 100000 in
theorem LexEnds_any (w : World) (hG : Glob w) : Calls Tryd.prog 4 #[] w fun e w' => e = .returned (.bool true) ∧ Below w.heap.size w w' := by
  go_enter Tryd.func4, Tryd.ntmps4
  go_wp2
  go_loopg [2] 256 (fun g i wr => ∃ k : Nat, k ≤ 256 ∧ 256 - k ≤ g ∧ i = .int .i64 k ∧ Hid (St w wr))
  case atStart => exact ⟨0, by omega, by omega, rfl, Lib.hid ⟨hG, Below.refl _ _⟩⟩
  case round =>
    obtain ⟨k, hk, hg, rfl, HS⟩ := hrel
    by_cases hlt : k < 256
    · have hd : decide ((k : Int) < 256) = true := by simp; omega
      have hgk : 1 ≤ gk := by omega
      have hk2 : (k : Int) ≤ 255 := by omega
      obtain ⟨X, hX⟩ : ∃ X, strOfNums [(k : Int)] = X := ⟨_, rfl⟩
      have hXs : X.size = 1 := by rw [← hX]; exact strOfNums_size _
      have cv := new1 wr (k : Int)
      rw [hX] at cv
      have hX1 : X.size ≤ 1 := by omega
      clear hX
      obtain ⟨g1, rfl⟩ : ∃ g1 : Nat, g1 = gk := ⟨_, rfl⟩
      obtain ⟨wo, rfl⟩ : ∃ wo : World, wo = wr := ⟨_, rfl⟩
      go_wp2_with fail
      have HS0 := Lib.hid (HS.out.alloc (.cells #[.int .u8 (k : Int)] 5))
      go_at_call 10
      refine (lexes_st HS0.out _ (sz_mono hX1 (by decide))).mono ?_
      rintro e w1 ⟨rfl, HS1⟩
      clear HS HS0 cv
      go_wp2_with fail
      go_at_call 9
      refine (words_st HS1.out _ (sz_mono hX1 (by decide))).mono ?_
      rintro e w2 ⟨rfl, HS2⟩
      clear HS1
      go_wp2_with fail
      go_at_call 9
      refine (words_st HS2.out _ (sz_mono (sz_app (sz_lit #[114]) hX1) (by decide))).mono ?_
      rintro e w3 ⟨rfl, HS3⟩
      clear HS2
      go_wp2_with fail
      go_at_call 9
      refine (words_st HS3.out _ (sz_mono (sz_app (sz_lit #[97]) hX1) (by decide))).mono ?_
      rintro e w4 ⟨rfl, HS4⟩
      clear HS3
      go_wp2
      go_loopg [4] 10 (fun g i wr => ∃ j : Nat, j ≤ 10 ∧ 10 - j ≤ g ∧ i = .int .i64 j ∧ Hid (St w wr))
      case atStart => exact ⟨0, by omega, by omega, rfl, HS4⟩
      case round =>
        clear HS4
        obtain ⟨j, hj, hgj, rfl, HS⟩ := hrel
        by_cases hlj : j < 10
        · have hdj : decide ((j : Int) < 10) = true := by simp; omega
          have hgk : 1 ≤ gk := by omega
          obtain ⟨g2, rfl⟩ : ∃ g2 : Nat, g2 = gk := ⟨_, rfl⟩
          obtain ⟨wo2, rfl⟩ : ∃ wo2 : World, wo2 = wr := ⟨_, rfl⟩
          go_wp2
          go_loopg [5] 10 (fun g i wr => ∃ m : Nat, m ≤ 10 ∧ 10 - m ≤ g ∧ i = .int .i64 m ∧ Hid (St w wr))
          case atStart => exact ⟨0, by omega, by omega, rfl, HS⟩
          case round =>
            clear HS
            obtain ⟨m, hm, hgm, rfl, HS⟩ := hrel
            by_cases hlm : m < 10
            · have hdm : decide ((m : Int) < 10) = true := by simp; omega
              have hgk : 1 ≤ gk := by omega
              have HS0 := Lib.hid HS.out.drew
              have sj1 : IntKind.i64.wrap ((j : Int) + 1) = (j : Int) + 1 := IntWalk.i64_in _ (by omega)
              have sm1 : IntKind.i64.wrap ((m : Int) + 1) = (m : Int) + 1 := IntWalk.i64_in _ (by omega)
              have sj2 : (0 : Int) ≤ (j : Int) := by omega
              have sm2 : (0 : Int) ≤ (m : Int) := by omega
              have sj3 : (j : Int) ≤ (j : Int) + 1 := by omega
              have sm3 : (m : Int) ≤ (m : Int) + 1 := by omega
              have sj4 : (j : Int) + 1 ≤ 10 := by omega
              have sm4 : (m : Int) + 1 ≤ 10 := by omega
              have mj : min (j + 1) 10 = j + 1 := by omega
              have mm : min (m + 1) 10 = m + 1 := by omega
              have sj5 : ((j : Int) + 1).toNat = j + 1 := by omega
              have sm5 : ((m : Int) + 1).toNat = m + 1 := by omega
              go_wp2
              go_still_tail 13, (by kernel_rfl)
              change wpList _ _ _ _ _ wr.drew
              generalize wr.drew = wd at HS0 ⊢
              have hb3 : ({ data := #[97, 48, 61, 33, 32, 35, 10, 95, 114, 9] } : ByteArray).size ≤ 10 := sz_lit _
              clear sj1 sm1 sj2 sm2 sj3 sm3 sj4 sm4 sj5 sm5 mj mm
              go_wp2_with fail
              go_at_call 10
              refine (lexes_st HS0.out _ (sz_mono (sz_app (sz_app (sz_ext hb3) hX1) (sz_ext hb3)) (by decide))).mono ?_
              rintro e w5 ⟨rfl, HS5⟩
              clear HS HS0
              go_wp2
              go_roundg (gk - 1)
              case measure => omega
              case rel => exact ⟨m + 1, by omega, by omega, by go_num, HS5⟩
            · obtain rfl : m = 10 := by omega
              go_wp2
              go_roundg (g2 - 1)
              case measure => omega
              case rel => exact ⟨j + 1, by omega, by omega, by go_num, HS⟩
        · obtain rfl : j = 10 := by omega
          go_wp2
          go_roundg (g1 - 1)
          case measure => omega
          case rel => exact ⟨k + 1, by omega, by omega, by go_num, HS⟩
    · obtain rfl : k = 256 := by omega
      go_wp2
      go_loopg [7] 20736 (fun g i wr => ∃ k : Nat, k ≤ 20736 ∧ 20736 - k ≤ g ∧ i = .int .i64 k ∧ Hid (St w wr))
      case atStart => exact ⟨0, by omega, by omega, rfl, HS⟩
      case round =>
        clear HS
        obtain ⟨k, hk, hg, rfl, HS⟩ := hrel
        by_cases hlt : k < 20736
        · have hd : decide ((k : Int) < 20736) = true := by simp; omega
          have hgk : 1 ≤ gk := by omega
          go_wp2
          go_quiet (fail)
          have HS0 := Lib.hid (HS.out.drews nq)
          generalize wr.drewN nq = wd at HS0 ⊢
          have hb3 : ({ data := #[61, 33, 43, 40, 58, 60, 97, 49, 32, 10, 35, 36] } : ByteArray).size ≤ 12 := sz_lit _
          go_wp2_with fail
          go_at_call 10
          refine (lexes_st HS0.out _ (sz_mono (sz_app (sz_app (sz_app (sz_ext hb3) (sz_ext hb3)) (sz_ext hb3)) (sz_ext hb3)) (by decide))).mono ?_
          rintro e w5 ⟨rfl, HS5⟩
          clear HS HS0
          go_wp2
          go_roundg (gk - 1)
          case measure => omega
          case rel => exact ⟨k + 1, by omega, by omega, by go_num, HS5⟩
        · obtain rfl : k = 20736 := by omega
          go_wp2_with fail
          go_at_call 11
          refine (sizes_any _ HS.out.1).mono ?_
          rintro e w1 ⟨rfl, hb1⟩
          have HS1 := Lib.hid (HS.out.next hb1)
          clear HS hb1
          go_wp2_with fail
          go_at_call 8
          refine (awake_any _ HS1.out.1).mono ?_
          rintro e w2 ⟨rfl, hb2⟩
          have HS2 := Lib.hid (HS1.out.next hb2)
          go_wp2
          go_ret
          exact ⟨rfl, HS2.out.2⟩
end Go.Proofs.YtgpndifkkaomcaaDoor
