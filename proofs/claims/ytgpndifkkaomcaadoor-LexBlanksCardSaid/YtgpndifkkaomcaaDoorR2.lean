/- The reference's sign. -/
import Derived.Test.YtgpndifkkaomcaaDoorA1
namespace Go.Proofs.YtgpndifkkaomcaaDoor
open Go.RowKit
def signBytes : ByteArray := ⟨#[61, 43, 45, 94, 38, 124, 33, 40, 41, 58, 60]⟩
/-- Is b one of the bytes of a sign? -/
def inSigns (b : UInt8) : Bool := signBytes.data.toList.any fun c => c.toNat == b.toNat
def twoAt (l : List UInt8) (k : Nat) : Bool := decide (k + 1 < l.length) && ((l[k + 1]?.getD 0).toNat == 61) && (((l[k]?.getD 0).toNat == 61) || ((l[k]?.getD 0).toNat == 33))
def rsign (l : List UInt8) (k : Nat) : Nat := if twoAt l k = true then 2 else if inSigns (l[k]?.getD 0) = true then 1 else 0
theorem at_eq {s : ByteArray} {k : Nat} (h : k < s.size) : s.data.toList[k]?.getD 0 = s[k] := by
  have hl : k < s.data.toList.length := by simpa using h
  rw [List.getElem?_eq_getElem hl]; rfl
set_option maxHeartbeats 1000000 in
theorem rsign_loop (s : ByteArray) (k : Nat) (w : World) (hlt : k < s.size) (hmax : s.size ≤ 4611686018427387904) (h2 : twoAt s.data.toList k = false) :
    Calls Tryd.prog 41 #[.string s, .int .i64 k] w fun e w' => e = .returned (.int .i64 (rsign s.data.toList k)) ∧ ∃ n, w' = w.drewN n := by
  have hre : rsign s.data.toList k = if inSigns s[k] = true then 1 else 0 := by unfold rsign; rw [h2, at_eq hlt]; rfl
  have HR := Lib.hid hre
  have hsl : s.data.toList.length = s.size := by simp
  unfold twoAt at h2
  rw [at_eq hlt, hsl] at h2
  clear hre
  by_cases h1 : k + 1 < s.size
  · rw [at_eq h1] at h2
    have hd : decide ((k : Int) + 1 < (s.size : Int)) = true := by simp; omega
    have hi1 : (k : Int) + 1 < (s.size : Int) := by omega
    by_cases h3 : s[k + 1].toNat = 61
    · have e1 : s[k].toNat ≠ 61 ∧ s[k].toNat ≠ 33 := by simpa [h1, h3] using h2
      have q3 : ((s[k + 1].toNat : Int) == 61) = true := by rw [beq_iff_eq]; omega
      have q1 : ((s[k].toNat : Int) == 61) = false := by rw [beq_eq_false_iff_ne]; omega
      have q2 : ((s[k].toNat : Int) == 33) = false := by rw [beq_eq_false_iff_ne]; omega
      have hk0 : (k : Int) < (s.size : Int) := by omega
      clear h2 hsl h3 e1
      go_enter Tryd.func41, Tryd.ntmps41
      go_wp2
      obtain ⟨S, hS⟩ : ∃ S : ByteArray, (⟨#[61, 43, 45, 94, 38, 124, 33, 40, 41, 58, 60]⟩ : ByteArray) = S := ⟨_, rfl⟩
      rw [hS]
      have hSs : S.size = 11 := by rw [← hS]; rfl
      have hSd : S.data.toList = signBytes.data.toList := by rw [← hS]; rfl
      have HS := Lib.hid hSd
      have hS1 : S.size ≤ 11 := by omega
      have hS2 : 11 ≤ S.size := by omega
      clear hS hSs hSd
      go_loopg [6] 11 (fun g i wr => ∃ (j n : Nat), j ≤ 11 ∧ g + j = 11 ∧ i = .int .i64 j ∧ Hid (inSigns s[k] = (signBytes.data.toList.drop j).any fun c => c.toNat == s[k].toNat) ∧ wr = w.drewN n)
      case atStart => exact ⟨0, 0, by omega, by omega, rfl, Lib.hid rfl, rfl⟩
      case round =>
        obtain ⟨j, n, hj, hg, rfl, HI, rfl⟩ := hrel
        by_cases hjl : j < 11
        · have hjs : j < S.size := by omega
          have hdj : signBytes.data.toList.drop j = S[j] :: signBytes.data.toList.drop (j + 1) := by
            rw [← HS.out, List.drop_eq_getElem_cons (by simpa using hjs)]; rfl
          have HN := HI.out
          rw [hdj, List.any_cons] at HN
          have hi0 : (j : Int) < (S.size : Int) := by omega
          have hk0 : (k : Int) < (s.size : Int) := by omega
          have HN2 := Lib.hid HN
          clear hdj HN
          by_cases he : S[j].toNat = s[k].toNat
          · have he2 : ((S[j].toNat : Int) == (s[k].toNat : Int)) = true := by rw [beq_iff_eq]; omega
            have HF := Lib.hid (show rsign s.data.toList k = 1 by rw [HR.out, if_pos]; rw [HN2.out]; simp [he])
            clear he
            go_wp2
            go_quiet (fail)
            go_wp2
            go_ret
            rw [HF.out]
            exact ⟨rfl, by simp only [World.drewN_drewN]; exact ⟨_, rfl⟩⟩
          · have he2 : ((S[j].toNat : Int) == (s[k].toNat : Int)) = false := by rw [beq_eq_false_iff_ne]; omega
            have HF := Lib.hid (show inSigns s[k] = (signBytes.data.toList.drop (j + 1)).any fun c => c.toNat == s[k].toNat by rw [HN2.out]; simp [he])
            clear he
            go_wp2
            go_quiet (fail)
            go_wp2
            go_roundg (gk - 1)
            case measure => omega
            case rel => exact ⟨j + 1, n + nq, by omega, by omega, by go_num, HF, rfl⟩
        · obtain rfl : j = 11 := by omega
          have HF := Lib.hid (show rsign s.data.toList k = 0 by rw [HR.out, if_neg]; rw [HI.out]; simp [signBytes])
          clear hjl
          go_wp2
          go_ret
          rw [HF.out]
          exact ⟨rfl, _, rfl⟩
    · have q3 : ((s[k + 1].toNat : Int) == 61) = false := by rw [beq_eq_false_iff_ne]; omega
      clear h2 hsl h3
      go_enter Tryd.func41, Tryd.ntmps41
      go_wp2
      obtain ⟨S, hS⟩ : ∃ S : ByteArray, (⟨#[61, 43, 45, 94, 38, 124, 33, 40, 41, 58, 60]⟩ : ByteArray) = S := ⟨_, rfl⟩
      rw [hS]
      have hSs : S.size = 11 := by rw [← hS]; rfl
      have hSd : S.data.toList = signBytes.data.toList := by rw [← hS]; rfl
      have HS := Lib.hid hSd
      have hS1 : S.size ≤ 11 := by omega
      have hS2 : 11 ≤ S.size := by omega
      clear hS hSs hSd
      go_loopg [6] 11 (fun g i wr => ∃ (j n : Nat), j ≤ 11 ∧ g + j = 11 ∧ i = .int .i64 j ∧ Hid (inSigns s[k] = (signBytes.data.toList.drop j).any fun c => c.toNat == s[k].toNat) ∧ wr = w.drewN n)
      case atStart => exact ⟨0, 0, by omega, by omega, rfl, Lib.hid rfl, rfl⟩
      case round =>
        obtain ⟨j, n, hj, hg, rfl, HI, rfl⟩ := hrel
        by_cases hjl : j < 11
        · have hjs : j < S.size := by omega
          have hdj : signBytes.data.toList.drop j = S[j] :: signBytes.data.toList.drop (j + 1) := by
            rw [← HS.out, List.drop_eq_getElem_cons (by simpa using hjs)]; rfl
          have HN := HI.out
          rw [hdj, List.any_cons] at HN
          have hi0 : (j : Int) < (S.size : Int) := by omega
          have hk0 : (k : Int) < (s.size : Int) := by omega
          have HN2 := Lib.hid HN
          clear hdj HN
          by_cases he : S[j].toNat = s[k].toNat
          · have he2 : ((S[j].toNat : Int) == (s[k].toNat : Int)) = true := by rw [beq_iff_eq]; omega
            have HF := Lib.hid (show rsign s.data.toList k = 1 by rw [HR.out, if_pos]; rw [HN2.out]; simp [he])
            clear he
            go_wp2
            go_quiet (fail)
            go_wp2
            go_ret
            rw [HF.out]
            exact ⟨rfl, by simp only [World.drewN_drewN]; exact ⟨_, rfl⟩⟩
          · have he2 : ((S[j].toNat : Int) == (s[k].toNat : Int)) = false := by rw [beq_eq_false_iff_ne]; omega
            have HF := Lib.hid (show inSigns s[k] = (signBytes.data.toList.drop (j + 1)).any fun c => c.toNat == s[k].toNat by rw [HN2.out]; simp [he])
            clear he
            go_wp2
            go_quiet (fail)
            go_wp2
            go_roundg (gk - 1)
            case measure => omega
            case rel => exact ⟨j + 1, n + nq, by omega, by omega, by go_num, HF, rfl⟩
        · obtain rfl : j = 11 := by omega
          have HF := Lib.hid (show rsign s.data.toList k = 0 by rw [HR.out, if_neg]; rw [HI.out]; simp [signBytes])
          clear hjl
          go_wp2
          go_ret
          rw [HF.out]
          exact ⟨rfl, _, rfl⟩
  · have hd : decide ((k : Int) + 1 < (s.size : Int)) = false := by simp; omega
    clear h2 hsl
    go_enter Tryd.func41, Tryd.ntmps41
    go_wp2
    obtain ⟨S, hS⟩ : ∃ S : ByteArray, (⟨#[61, 43, 45, 94, 38, 124, 33, 40, 41, 58, 60]⟩ : ByteArray) = S := ⟨_, rfl⟩
    rw [hS]
    have hSs : S.size = 11 := by rw [← hS]; rfl
    have hSd : S.data.toList = signBytes.data.toList := by rw [← hS]; rfl
    have HS := Lib.hid hSd
    have hS1 : S.size ≤ 11 := by omega
    have hS2 : 11 ≤ S.size := by omega
    clear hS hSs hSd
    go_loopg [6] 11 (fun g i wr => ∃ (j n : Nat), j ≤ 11 ∧ g + j = 11 ∧ i = .int .i64 j ∧ Hid (inSigns s[k] = (signBytes.data.toList.drop j).any fun c => c.toNat == s[k].toNat) ∧ wr = w.drewN n)
    case atStart => exact ⟨0, 0, by omega, by omega, rfl, Lib.hid rfl, rfl⟩
    case round =>
      obtain ⟨j, n, hj, hg, rfl, HI, rfl⟩ := hrel
      by_cases hjl : j < 11
      · have hjs : j < S.size := by omega
        have hdj : signBytes.data.toList.drop j = S[j] :: signBytes.data.toList.drop (j + 1) := by
          rw [← HS.out, List.drop_eq_getElem_cons (by simpa using hjs)]; rfl
        have HN := HI.out
        rw [hdj, List.any_cons] at HN
        have hi0 : (j : Int) < (S.size : Int) := by omega
        have hk0 : (k : Int) < (s.size : Int) := by omega
        have HN2 := Lib.hid HN
        clear hdj HN
        by_cases he : S[j].toNat = s[k].toNat
        · have he2 : ((S[j].toNat : Int) == (s[k].toNat : Int)) = true := by rw [beq_iff_eq]; omega
          have HF := Lib.hid (show rsign s.data.toList k = 1 by rw [HR.out, if_pos]; rw [HN2.out]; simp [he])
          clear he
          go_wp2
          go_quiet (fail)
          go_wp2
          go_ret
          rw [HF.out]
          exact ⟨rfl, by simp only [World.drewN_drewN]; exact ⟨_, rfl⟩⟩
        · have he2 : ((S[j].toNat : Int) == (s[k].toNat : Int)) = false := by rw [beq_eq_false_iff_ne]; omega
          have HF := Lib.hid (show inSigns s[k] = (signBytes.data.toList.drop (j + 1)).any fun c => c.toNat == s[k].toNat by rw [HN2.out]; simp [he])
          clear he
          go_wp2
          go_quiet (fail)
          go_wp2
          go_roundg (gk - 1)
          case measure => omega
          case rel => exact ⟨j + 1, n + nq, by omega, by omega, by go_num, HF, rfl⟩
      · obtain rfl : j = 11 := by omega
        have HF := Lib.hid (show rsign s.data.toList k = 0 by rw [HR.out, if_neg]; rw [HI.out]; simp [signBytes])
        clear hjl
        go_wp2
        go_ret
        rw [HF.out]
        exact ⟨rfl, _, rfl⟩
theorem rsign_any (s : ByteArray) (k : Nat) (w : World) (hlt : k < s.size) (hmax : s.size ≤ 4611686018427387904) :
    Calls Tryd.prog 41 #[.string s, .int .i64 k] w fun e w' => e = .returned (.int .i64 (rsign s.data.toList k)) ∧ ∃ n, w' = w.drewN n := by
  cases h2 : twoAt s.data.toList k
  · exact rsign_loop s k w hlt hmax h2
  · have hre : rsign s.data.toList k = 2 := by unfold rsign; rw [h2]; rfl
    rw [hre]
    clear hre
    have hsl : s.data.toList.length = s.size := by simp
    unfold twoAt at h2
    rw [at_eq hlt, hsl] at h2
    by_cases h1 : k + 1 < s.size
    · rw [at_eq h1] at h2
      have hd : decide ((k : Int) + 1 < (s.size : Int)) = true := by simp; omega
      have hi1 : (k : Int) + 1 < (s.size : Int) := by omega
      have hk0 : (k : Int) < (s.size : Int) := by omega
      simp [h1] at h2
      obtain ⟨h3, h4⟩ := h2
      have q3 : ((s[k + 1].toNat : Int) == 61) = true := by rw [beq_iff_eq]; omega
      by_cases h5 : s[k].toNat = 61
      · have q1 : ((s[k].toNat : Int) == 61) = true := by rw [beq_iff_eq]; omega
        clear hsl h3 h4 h5
        go_enter Tryd.func41, Tryd.ntmps41
        go_wp2
        go_ret
        exact ⟨rfl, 0, rfl⟩
      · have q1 : ((s[k].toNat : Int) == 61) = false := by rw [beq_eq_false_iff_ne]; omega
        have q2 : ((s[k].toNat : Int) == 33) = true := by rw [beq_iff_eq]; omega
        clear hsl h3 h4 h5
        go_enter Tryd.func41, Tryd.ntmps41
        go_wp2
        go_ret
        exact ⟨rfl, 0, rfl⟩
    · simp [h1] at h2
end Go.Proofs.YtgpndifkkaomcaaDoor
