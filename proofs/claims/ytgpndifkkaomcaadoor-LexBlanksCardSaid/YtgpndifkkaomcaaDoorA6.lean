/- Num. -/
import Derived.Test.YtgpndifkkaomcaaDoorA1
import Derived.Test.YtgpndifkkaomcaaDoorFormatUint
import Derived.Test.YtgpndifkkaomcaaDoorParse8
namespace Go.Proofs.YtgpndifkkaomcaaDoor
open Go.RowKit
/-- The value of a number. -/
def numOf (l : List UInt8) : Int × Bool := if (parse8 l).2 = true ∧ Lib.decDigits (parse8 l).1 = l then (((parse8 l).1 : Nat), true) else (0, false)
set_option maxHeartbeats 400000 in
theorem num_any (s : ByteArray) (w : World) (hG : Glob w) (hlim : s.size ≤ 281474976710656) :
    Calls Tryd.prog 16 #[.string s] w fun e w' => e = .returned (.tuple #[.int .u8 (numOf s.data.toList).1, .bool (numOf s.data.toList).2]) ∧ Below w.heap.size w w' := by
  have hle := parse8_le s.data.toList
  cases h : (parse8 s.data.toList).2
  · have hn : numOf s.data.toList = (0, false) := by unfold numOf; rw [if_neg (by rw [h]; simp)]
    have HN := Lib.hid hn
    have HC := Lib.hid (parse8_no s w hG hlim h)
    generalize (parse8 s.data.toList).1 = u at *
    clear hn h
    go_enter Tryd.func16, Tryd.ntmps16
    go_wp2_with ((go_at_call 28; refine HC.out.mono ?_; rintro e w' ⟨N, rfl, hb⟩))
    go_ret2
    rw [HN.out]
    exact ⟨rfl, hb⟩
  · have HC := Lib.hid (parse8_ok s w hlim h)
    obtain ⟨u, hu⟩ : ∃ u, (parse8 s.data.toList).1 = u := ⟨_, rfl⟩
    rw [hu] at HC hle
    have HF := Lib.hid (fun W hW => formatUint u (by omega) W hW)
    by_cases he : Lib.decDigits u = s.data.toList
    · have hn : numOf s.data.toList = ((u : Int), true) := by unfold numOf; rw [hu, if_pos ⟨h, he⟩]
      have HN := Lib.hid hn
      have hb1 : (Lib.decDigits u == s.toList) = true := by rw [beq_iff_eq, ByteArray.toList_eq]; exact he
      have HW : IntKind.u8.wrap (u : Int) = (u : Int) := by rw [IntKind.wrap_u8]; omega
      have HE := Lib.hid he
      clear hn h hu he
      go_enter Tryd.func16, Tryd.ntmps16
      go_wp2_with (first | (go_at_call 28; refine HC.out.mono ?_; rintro e w' ⟨rfl, hb⟩) | (go_at_call 29; refine (HF.out _ (hG.next hb).tab).mono ?_; rintro e w' ⟨rfl, k, os, rfl⟩))
      go_ret2
      rw [HN.out]
      exact ⟨rfl, hb.trans ((below_grow_drewN _ _ _).mono hb.size)⟩
    · have hn : numOf s.data.toList = (0, false) := by unfold numOf; rw [hu, if_neg (fun h => he h.2)]
      have HN := Lib.hid hn
      have hb1 : (Lib.decDigits u == s.toList) = false := by rw [beq_eq_false_iff_ne, ByteArray.toList_eq]; exact he
      clear hn h hu he
      go_enter Tryd.func16, Tryd.ntmps16
      go_wp2_with (first | (go_at_call 28; refine HC.out.mono ?_; rintro e w' ⟨rfl, hb⟩) | (go_at_call 29; refine (HF.out _ (hG.next hb).tab).mono ?_; rintro e w' ⟨rfl, k, os, rfl⟩))
      go_ret2
      rw [HN.out]
      exact ⟨rfl, hb.trans ((below_grow_drewN _ _ _).mono hb.size)⟩
end Go.Proofs.YtgpndifkkaomcaaDoor
