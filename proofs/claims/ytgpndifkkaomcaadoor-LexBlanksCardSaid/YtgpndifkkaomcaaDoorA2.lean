/- The method while. -/
import Derived.Test.YtgpndifkkaomcaaDoorA1
namespace Go.Proofs.YtgpndifkkaomcaaDoor
open Go.RowKit
/-- The end of the run of bytes from k on whose class has p. -/
def spanEnd (p : Int → Bool) (l : List UInt8) (k : Nat) : Nat := k + ((l.drop k).takeWhile fun b => p b.toNat).length
theorem spanEnd_lt {p : Int → Bool} {s : ByteArray} {k : Nat} (h : k < s.size) (hp : p s[k].toNat = true) : spanEnd p s.data.toList k = spanEnd p s.data.toList (k + 1) := by
  unfold spanEnd
  have hl : k < s.data.toList.length := by simpa using h
  rw [List.drop_eq_getElem_cons hl, List.takeWhile_cons]
  have : s.data.toList[k] = s[k] := rfl
  rw [this, if_pos hp]; simp; omega
theorem spanEnd_stop {p : Int → Bool} {s : ByteArray} {k : Nat} (h : k < s.size) (hp : p s[k].toNat = false) : spanEnd p s.data.toList k = k := by
  unfold spanEnd
  have hl : k < s.data.toList.length := by simpa using h
  rw [List.drop_eq_getElem_cons hl, List.takeWhile_cons]
  have : s.data.toList[k] = s[k] := rfl
  rw [this, if_neg (by rw [hp]; decide)]; simp
theorem spanEnd_end {p : Int → Bool} {s : ByteArray} {k : Nat} (h : s.size ≤ k) : spanEnd p s.data.toList k = k := by
  unfold spanEnd
  rw [List.drop_eq_nil_of_le (by simpa using h)]; simp
theorem spanEnd_le {p : Int → Bool} {l : List UInt8} {k : Nat} (h : k ≤ l.length) : k ≤ spanEnd p l k ∧ spanEnd p l k ≤ l.length := by
  unfold spanEnd
  have := (List.takeWhile_sublist (p := fun b => p b.toNat) (l := l.drop k)).length_le
  simp at this; omega
set_option maxHeartbeats 400000 in
theorem while_word (s : ByteArray) (b off k : Nat) (w : World) (hs : w.cell? ⟨b, off, none⟩ = some (.string s)) (hk : w.cell? ⟨b, off + 1, none⟩ = some (.int .i64 k)) (hf : w.frozen? ⟨b, off + 1, none⟩ = false) (hle : k ≤ s.size) (hmax : s.size ≤ 9223372036854775807) :
    Calls Tryd.prog 31 #[.pointer (some ⟨b, off, none⟩), .func (.func 32) #[] #[]] w fun e w' => e = .returned (.string (s.extract k (spanEnd (fun b => isWord (clsB b)) s.data.toList k))) ∧ ∃ n, w' = (w.setCell ⟨b, off + 1, none⟩ (.int .i64 (spanEnd (fun b => isWord (clsB b)) s.data.toList k))).drewN n := by
  have hsl : s.data.toList.length = s.size := by simp
  have hb := spanEnd_le (p := fun b => isWord (clsB b)) (l := s.data.toList) (k := k) (by omega)
  have HS := Lib.hid (setCell_self hk)
  go_enter Tryd.func31, Tryd.ntmps31
  go_wp2
  go_loopg [] (s.size - k) (fun g wr => ∃ j n : Nat, k ≤ j ∧ j ≤ s.size ∧ g = s.size - j ∧ Hid (spanEnd (fun b => isWord (clsB b)) s.data.toList j = spanEnd (fun b => isWord (clsB b)) s.data.toList k) ∧ wr = (w.setCell ⟨b, off + 1, none⟩ (.int .i64 j)).drewN n)
  case atStart => exact ⟨k, 0, by omega, hle, rfl, Lib.hid rfl, by rw [HS.out]; rfl⟩
  case round =>
    obtain ⟨j, n, hj1, hj2, rfl, HE, hwr⟩ := hrel
    have hs1 : wr.cell? ⟨b, off, none⟩ = some (.string s) := by rw [hwr]; exact upd_other (by simp) hs
    have hk1 : wr.cell? ⟨b, off + 1, none⟩ = some (.int .i64 j) := by rw [hwr]; exact upd_same hk
    have hf1 : wr.frozen? ⟨b, off + 1, none⟩ = false := by rw [hwr]; exact upd_frozen hf
    have HW := Lib.hid hwr
    clear hwr hs hk hf HS
    by_cases hlt : j < s.size
    · have hd : decide ((j : Int) < (s.size : Int)) = true := by simp; omega
      have h0 : 0 ≤ ((s[j]).toNat : Int) := by omega
      have h1 : ((s[j]).toNat : Int) ≤ 255 := by have := (s[j]).toNat_lt; omega
      cases hp : isWord (clsB s[j].toNat)
      · have HN := Lib.hid ((spanEnd_stop (p := fun b => isWord (clsB b)) hlt hp).symm.trans HE.out)
        go_wp2
        go_quiet ((first | (go_at_call 30; exact Calls.quiet_of_same ((of_any _ _).mono (fun e w' h => ⟨h.1, h.2.symm⟩))) | (go_at_call 32; exact Calls.quiet_of_same ((word_any _ _).mono (fun e w' h => ⟨h.1, h.2.symm⟩)))))
        go_wp2
        go_quiet (fail)
        go_wp2
        go_ret
        rw [← HN.out, HW.out]
        exact ⟨rfl, by simp only [World.drewN_drewN]; exact ⟨_, rfl⟩⟩
      · have HN := Lib.hid ((spanEnd_lt (p := fun b => isWord (clsB b)) hlt hp).symm.trans HE.out)
        go_wp2
        go_quiet ((first | (go_at_call 30; exact Calls.quiet_of_same ((of_any _ _).mono (fun e w' h => ⟨h.1, h.2.symm⟩))) | (go_at_call 32; exact Calls.quiet_of_same ((word_any _ _).mono (fun e w' h => ⟨h.1, h.2.symm⟩)))))
        go_wp2
        go_roundg (s.size - (j + 1))
        case measure => omega
        case rel => exact ⟨j + 1, n + nq, by omega, by omega, rfl, HN, by rw [HW.out]; simp only [World.drewN_drewN]; exact upd_upd0⟩
    · have hd : decide ((j : Int) < (s.size : Int)) = false := by simp; omega
      have HN := Lib.hid ((spanEnd_end (p := fun b => isWord (clsB b)) (show s.size ≤ j by omega)).symm.trans HE.out)
      go_wp2
      go_quiet (fail)
      go_wp2
      go_quiet (fail)
      go_wp2
      go_ret
      rw [← HN.out, HW.out]
      exact ⟨rfl, by simp only [World.drewN_drewN]; exact ⟨_, rfl⟩⟩
set_option maxHeartbeats 400000 in
theorem while_digits (s : ByteArray) (b off k : Nat) (w : World) (hs : w.cell? ⟨b, off, none⟩ = some (.string s)) (hk : w.cell? ⟨b, off + 1, none⟩ = some (.int .i64 k)) (hf : w.frozen? ⟨b, off + 1, none⟩ = false) (hle : k ≤ s.size) (hmax : s.size ≤ 9223372036854775807) :
    Calls Tryd.prog 31 #[.pointer (some ⟨b, off, none⟩), .func (.func 33) #[] #[]] w fun e w' => e = .returned (.string (s.extract k (spanEnd (fun b => isDigits (clsB b)) s.data.toList k))) ∧ ∃ n, w' = (w.setCell ⟨b, off + 1, none⟩ (.int .i64 (spanEnd (fun b => isDigits (clsB b)) s.data.toList k))).drewN n := by
  have hsl : s.data.toList.length = s.size := by simp
  have hb := spanEnd_le (p := fun b => isDigits (clsB b)) (l := s.data.toList) (k := k) (by omega)
  have HS := Lib.hid (setCell_self hk)
  go_enter Tryd.func31, Tryd.ntmps31
  go_wp2
  go_loopg [] (s.size - k) (fun g wr => ∃ j n : Nat, k ≤ j ∧ j ≤ s.size ∧ g = s.size - j ∧ Hid (spanEnd (fun b => isDigits (clsB b)) s.data.toList j = spanEnd (fun b => isDigits (clsB b)) s.data.toList k) ∧ wr = (w.setCell ⟨b, off + 1, none⟩ (.int .i64 j)).drewN n)
  case atStart => exact ⟨k, 0, by omega, hle, rfl, Lib.hid rfl, by rw [HS.out]; rfl⟩
  case round =>
    obtain ⟨j, n, hj1, hj2, rfl, HE, hwr⟩ := hrel
    have hs1 : wr.cell? ⟨b, off, none⟩ = some (.string s) := by rw [hwr]; exact upd_other (by simp) hs
    have hk1 : wr.cell? ⟨b, off + 1, none⟩ = some (.int .i64 j) := by rw [hwr]; exact upd_same hk
    have hf1 : wr.frozen? ⟨b, off + 1, none⟩ = false := by rw [hwr]; exact upd_frozen hf
    have HW := Lib.hid hwr
    clear hwr hs hk hf HS
    by_cases hlt : j < s.size
    · have hd : decide ((j : Int) < (s.size : Int)) = true := by simp; omega
      have h0 : 0 ≤ ((s[j]).toNat : Int) := by omega
      have h1 : ((s[j]).toNat : Int) ≤ 255 := by have := (s[j]).toNat_lt; omega
      cases hp : isDigits (clsB s[j].toNat)
      · have HN := Lib.hid ((spanEnd_stop (p := fun b => isDigits (clsB b)) hlt hp).symm.trans HE.out)
        go_wp2
        go_quiet ((first | (go_at_call 30; exact Calls.quiet_of_same ((of_any _ _).mono (fun e w' h => ⟨h.1, h.2.symm⟩))) | (go_at_call 33; exact Calls.quiet_of_same ((digits_any _ _).mono (fun e w' h => ⟨h.1, h.2.symm⟩)))))
        go_wp2
        go_quiet (fail)
        go_wp2
        go_ret
        rw [← HN.out, HW.out]
        exact ⟨rfl, by simp only [World.drewN_drewN]; exact ⟨_, rfl⟩⟩
      · have HN := Lib.hid ((spanEnd_lt (p := fun b => isDigits (clsB b)) hlt hp).symm.trans HE.out)
        go_wp2
        go_quiet ((first | (go_at_call 30; exact Calls.quiet_of_same ((of_any _ _).mono (fun e w' h => ⟨h.1, h.2.symm⟩))) | (go_at_call 33; exact Calls.quiet_of_same ((digits_any _ _).mono (fun e w' h => ⟨h.1, h.2.symm⟩)))))
        go_wp2
        go_roundg (s.size - (j + 1))
        case measure => omega
        case rel => exact ⟨j + 1, n + nq, by omega, by omega, rfl, HN, by rw [HW.out]; simp only [World.drewN_drewN]; exact upd_upd0⟩
    · have hd : decide ((j : Int) < (s.size : Int)) = false := by simp; omega
      have HN := Lib.hid ((spanEnd_end (p := fun b => isDigits (clsB b)) (show s.size ≤ j by omega)).symm.trans HE.out)
      go_wp2
      go_quiet (fail)
      go_wp2
      go_quiet (fail)
      go_wp2
      go_ret
      rw [← HN.out, HW.out]
      exact ⟨rfl, by simp only [World.drewN_drewN]; exact ⟨_, rfl⟩⟩
set_option maxHeartbeats 400000 in
theorem while_blanks (s : ByteArray) (b off k : Nat) (w : World) (hs : w.cell? ⟨b, off, none⟩ = some (.string s)) (hk : w.cell? ⟨b, off + 1, none⟩ = some (.int .i64 k)) (hf : w.frozen? ⟨b, off + 1, none⟩ = false) (hle : k ≤ s.size) (hmax : s.size ≤ 9223372036854775807) :
    Calls Tryd.prog 31 #[.pointer (some ⟨b, off, none⟩), .func (.func 50) #[] #[]] w fun e w' => e = .returned (.string (s.extract k (spanEnd (fun b => isBlanks (clsB b)) s.data.toList k))) ∧ ∃ n, w' = (w.setCell ⟨b, off + 1, none⟩ (.int .i64 (spanEnd (fun b => isBlanks (clsB b)) s.data.toList k))).drewN n := by
  have hsl : s.data.toList.length = s.size := by simp
  have hb := spanEnd_le (p := fun b => isBlanks (clsB b)) (l := s.data.toList) (k := k) (by omega)
  have HS := Lib.hid (setCell_self hk)
  go_enter Tryd.func31, Tryd.ntmps31
  go_wp2
  go_loopg [] (s.size - k) (fun g wr => ∃ j n : Nat, k ≤ j ∧ j ≤ s.size ∧ g = s.size - j ∧ Hid (spanEnd (fun b => isBlanks (clsB b)) s.data.toList j = spanEnd (fun b => isBlanks (clsB b)) s.data.toList k) ∧ wr = (w.setCell ⟨b, off + 1, none⟩ (.int .i64 j)).drewN n)
  case atStart => exact ⟨k, 0, by omega, hle, rfl, Lib.hid rfl, by rw [HS.out]; rfl⟩
  case round =>
    obtain ⟨j, n, hj1, hj2, rfl, HE, hwr⟩ := hrel
    have hs1 : wr.cell? ⟨b, off, none⟩ = some (.string s) := by rw [hwr]; exact upd_other (by simp) hs
    have hk1 : wr.cell? ⟨b, off + 1, none⟩ = some (.int .i64 j) := by rw [hwr]; exact upd_same hk
    have hf1 : wr.frozen? ⟨b, off + 1, none⟩ = false := by rw [hwr]; exact upd_frozen hf
    have HW := Lib.hid hwr
    clear hwr hs hk hf HS
    by_cases hlt : j < s.size
    · have hd : decide ((j : Int) < (s.size : Int)) = true := by simp; omega
      have h0 : 0 ≤ ((s[j]).toNat : Int) := by omega
      have h1 : ((s[j]).toNat : Int) ≤ 255 := by have := (s[j]).toNat_lt; omega
      cases hp : isBlanks (clsB s[j].toNat)
      · have HN := Lib.hid ((spanEnd_stop (p := fun b => isBlanks (clsB b)) hlt hp).symm.trans HE.out)
        go_wp2
        go_quiet ((first | (go_at_call 30; exact Calls.quiet_of_same ((of_any _ _).mono (fun e w' h => ⟨h.1, h.2.symm⟩))) | (go_at_call 50; exact Calls.quiet_of_same ((blanks_any _ _).mono (fun e w' h => ⟨h.1, h.2.symm⟩)))))
        go_wp2
        go_quiet (fail)
        go_wp2
        go_ret
        rw [← HN.out, HW.out]
        exact ⟨rfl, by simp only [World.drewN_drewN]; exact ⟨_, rfl⟩⟩
      · have HN := Lib.hid ((spanEnd_lt (p := fun b => isBlanks (clsB b)) hlt hp).symm.trans HE.out)
        go_wp2
        go_quiet ((first | (go_at_call 30; exact Calls.quiet_of_same ((of_any _ _).mono (fun e w' h => ⟨h.1, h.2.symm⟩))) | (go_at_call 50; exact Calls.quiet_of_same ((blanks_any _ _).mono (fun e w' h => ⟨h.1, h.2.symm⟩)))))
        go_wp2
        go_roundg (s.size - (j + 1))
        case measure => omega
        case rel => exact ⟨j + 1, n + nq, by omega, by omega, rfl, HN, by rw [HW.out]; simp only [World.drewN_drewN]; exact upd_upd0⟩
    · have hd : decide ((j : Int) < (s.size : Int)) = false := by simp; omega
      have HN := Lib.hid ((spanEnd_end (p := fun b => isBlanks (clsB b)) (show s.size ≤ j by omega)).symm.trans HE.out)
      go_wp2
      go_quiet (fail)
      go_wp2
      go_quiet (fail)
      go_wp2
      go_ret
      rw [← HN.out, HW.out]
      exact ⟨rfl, by simp only [World.drewN_drewN]; exact ⟨_, rfl⟩⟩
set_option maxHeartbeats 400000 in
theorem while_remark (s : ByteArray) (b off k : Nat) (w : World) (hs : w.cell? ⟨b, off, none⟩ = some (.string s)) (hk : w.cell? ⟨b, off + 1, none⟩ = some (.int .i64 k)) (hf : w.frozen? ⟨b, off + 1, none⟩ = false) (hle : k ≤ s.size) (hmax : s.size ≤ 9223372036854775807) :
    Calls Tryd.prog 31 #[.pointer (some ⟨b, off, none⟩), .func (.func 51) #[] #[]] w fun e w' => e = .returned (.string (s.extract k (spanEnd (fun b => isRemark (clsB b)) s.data.toList k))) ∧ ∃ n, w' = (w.setCell ⟨b, off + 1, none⟩ (.int .i64 (spanEnd (fun b => isRemark (clsB b)) s.data.toList k))).drewN n := by
  have hsl : s.data.toList.length = s.size := by simp
  have hb := spanEnd_le (p := fun b => isRemark (clsB b)) (l := s.data.toList) (k := k) (by omega)
  have HS := Lib.hid (setCell_self hk)
  go_enter Tryd.func31, Tryd.ntmps31
  go_wp2
  go_loopg [] (s.size - k) (fun g wr => ∃ j n : Nat, k ≤ j ∧ j ≤ s.size ∧ g = s.size - j ∧ Hid (spanEnd (fun b => isRemark (clsB b)) s.data.toList j = spanEnd (fun b => isRemark (clsB b)) s.data.toList k) ∧ wr = (w.setCell ⟨b, off + 1, none⟩ (.int .i64 j)).drewN n)
  case atStart => exact ⟨k, 0, by omega, hle, rfl, Lib.hid rfl, by rw [HS.out]; rfl⟩
  case round =>
    obtain ⟨j, n, hj1, hj2, rfl, HE, hwr⟩ := hrel
    have hs1 : wr.cell? ⟨b, off, none⟩ = some (.string s) := by rw [hwr]; exact upd_other (by simp) hs
    have hk1 : wr.cell? ⟨b, off + 1, none⟩ = some (.int .i64 j) := by rw [hwr]; exact upd_same hk
    have hf1 : wr.frozen? ⟨b, off + 1, none⟩ = false := by rw [hwr]; exact upd_frozen hf
    have HW := Lib.hid hwr
    clear hwr hs hk hf HS
    by_cases hlt : j < s.size
    · have hd : decide ((j : Int) < (s.size : Int)) = true := by simp; omega
      have h0 : 0 ≤ ((s[j]).toNat : Int) := by omega
      have h1 : ((s[j]).toNat : Int) ≤ 255 := by have := (s[j]).toNat_lt; omega
      cases hp : isRemark (clsB s[j].toNat)
      · have HN := Lib.hid ((spanEnd_stop (p := fun b => isRemark (clsB b)) hlt hp).symm.trans HE.out)
        go_wp2
        go_quiet ((first | (go_at_call 30; exact Calls.quiet_of_same ((of_any _ _).mono (fun e w' h => ⟨h.1, h.2.symm⟩))) | (go_at_call 51; exact Calls.quiet_of_same ((remark_any _ _).mono (fun e w' h => ⟨h.1, h.2.symm⟩)))))
        go_wp2
        go_quiet (fail)
        go_wp2
        go_ret
        rw [← HN.out, HW.out]
        exact ⟨rfl, by simp only [World.drewN_drewN]; exact ⟨_, rfl⟩⟩
      · have HN := Lib.hid ((spanEnd_lt (p := fun b => isRemark (clsB b)) hlt hp).symm.trans HE.out)
        go_wp2
        go_quiet ((first | (go_at_call 30; exact Calls.quiet_of_same ((of_any _ _).mono (fun e w' h => ⟨h.1, h.2.symm⟩))) | (go_at_call 51; exact Calls.quiet_of_same ((remark_any _ _).mono (fun e w' h => ⟨h.1, h.2.symm⟩)))))
        go_wp2
        go_roundg (s.size - (j + 1))
        case measure => omega
        case rel => exact ⟨j + 1, n + nq, by omega, by omega, rfl, HN, by rw [HW.out]; simp only [World.drewN_drewN]; exact upd_upd0⟩
    · have hd : decide ((j : Int) < (s.size : Int)) = false := by simp; omega
      have HN := Lib.hid ((spanEnd_end (p := fun b => isRemark (clsB b)) (show s.size ≤ j by omega)).symm.trans HE.out)
      go_wp2
      go_quiet (fail)
      go_wp2
      go_quiet (fail)
      go_wp2
      go_ret
      rw [← HN.out, HW.out]
      exact ⟨rfl, by simp only [World.drewN_drewN]; exact ⟨_, rfl⟩⟩
theorem while_word0 (s : ByteArray) (b k : Nat) (w : World) (hs : w.cell? ⟨b, 0, none⟩ = some (.string s)) (hk : w.cell? ⟨b, 1, none⟩ = some (.int .i64 k)) (hf : w.frozen? ⟨b, 1, none⟩ = false) (hle : k ≤ s.size) (hmax : s.size ≤ 9223372036854775807) :
    Calls Tryd.prog 31 #[.pointer (some ⟨b, 0, none⟩), .func (.func 32) #[] #[]] w fun e w' => e = .returned (.string (s.extract k (spanEnd (fun b => isWord (clsB b)) s.data.toList k))) ∧ ∃ n, w' = (w.setCell ⟨b, 1, none⟩ (.int .i64 (spanEnd (fun b => isWord (clsB b)) s.data.toList k))).drewN n :=
  while_word s b 0 k w hs hk hf hle hmax
theorem while_digits0 (s : ByteArray) (b k : Nat) (w : World) (hs : w.cell? ⟨b, 0, none⟩ = some (.string s)) (hk : w.cell? ⟨b, 1, none⟩ = some (.int .i64 k)) (hf : w.frozen? ⟨b, 1, none⟩ = false) (hle : k ≤ s.size) (hmax : s.size ≤ 9223372036854775807) :
    Calls Tryd.prog 31 #[.pointer (some ⟨b, 0, none⟩), .func (.func 33) #[] #[]] w fun e w' => e = .returned (.string (s.extract k (spanEnd (fun b => isDigits (clsB b)) s.data.toList k))) ∧ ∃ n, w' = (w.setCell ⟨b, 1, none⟩ (.int .i64 (spanEnd (fun b => isDigits (clsB b)) s.data.toList k))).drewN n :=
  while_digits s b 0 k w hs hk hf hle hmax
theorem while_blanks0 (s : ByteArray) (b k : Nat) (w : World) (hs : w.cell? ⟨b, 0, none⟩ = some (.string s)) (hk : w.cell? ⟨b, 1, none⟩ = some (.int .i64 k)) (hf : w.frozen? ⟨b, 1, none⟩ = false) (hle : k ≤ s.size) (hmax : s.size ≤ 9223372036854775807) :
    Calls Tryd.prog 31 #[.pointer (some ⟨b, 0, none⟩), .func (.func 50) #[] #[]] w fun e w' => e = .returned (.string (s.extract k (spanEnd (fun b => isBlanks (clsB b)) s.data.toList k))) ∧ ∃ n, w' = (w.setCell ⟨b, 1, none⟩ (.int .i64 (spanEnd (fun b => isBlanks (clsB b)) s.data.toList k))).drewN n :=
  while_blanks s b 0 k w hs hk hf hle hmax
theorem while_remark0 (s : ByteArray) (b k : Nat) (w : World) (hs : w.cell? ⟨b, 0, none⟩ = some (.string s)) (hk : w.cell? ⟨b, 1, none⟩ = some (.int .i64 k)) (hf : w.frozen? ⟨b, 1, none⟩ = false) (hle : k ≤ s.size) (hmax : s.size ≤ 9223372036854775807) :
    Calls Tryd.prog 31 #[.pointer (some ⟨b, 0, none⟩), .func (.func 51) #[] #[]] w fun e w' => e = .returned (.string (s.extract k (spanEnd (fun b => isRemark (clsB b)) s.data.toList k))) ∧ ∃ n, w' = (w.setCell ⟨b, 1, none⟩ (.int .i64 (spanEnd (fun b => isRemark (clsB b)) s.data.toList k))).drewN n :=
  while_remark s b 0 k w hs hk hf hle hmax
end Go.Proofs.YtgpndifkkaomcaaDoor
