/- LexWords, walked. -/
import Derived.Test.YtgpndifkkaomcaaDoorW1
import Derived.Test.YtgpndifkkaomcaaDoorP1
import Derived.Test.YtgpndifkkaomcaaDoorP2
namespace Go.Proofs.YtgpndifkkaomcaaDoor
open Go.RowKit
theorem words_any (s : ByteArray) (w : World) (hG : Glob w) (hmax : s.size ≤ 281474976710656) :
    Calls Tryd.prog 9 #[.string s] w fun e w' => e = .returned (.bool true) ∧ Below w.heap.size w w' := by
  have HN := Lib.hid (num_eq s.data.toList)
  have HM := Lib.hid (name_eq s)
  go_enter Tryd.func9, Tryd.ntmps9
  go_wp2_with fail
  go_at_call 15
  refine (reg_any s _).mono ?_
  rintro e w' ⟨rfl, rfl⟩
  go_wp2_with fail
  go_at_call 20
  refine (rreg_any s _).mono ?_
  rintro e w' ⟨rfl, rfl⟩
  generalize regOf s.data.toList = R
  obtain ⟨r1, r2⟩ := R
  go_wp2_with fail
  go_at_call 16
  refine (num_any s _ hG hmax).mono ?_
  rintro e w1 ⟨rfl, hb1⟩
  rw [HN.out]
  go_wp2_with fail
  go_at_call 21
  refine (rnum_any s _ (by omega)).mono ?_
  rintro e w' ⟨rfl, rfl⟩
  generalize rnumOf s.data.toList = R
  obtain ⟨n1, n2⟩ := R
  go_wp2_with fail
  go_at_call 18
  refine (kept_any s _).mono ?_
  rintro e w2 ⟨rfl, hb2⟩
  have c2 := hb1.trans (hb2.mono hb1.size)
  clear hb1 hb2
  go_wp2_with fail
  go_at_call 22
  refine (rkept_any s _).mono ?_
  rintro e w3 ⟨rfl, hb3⟩
  have c3 := c2.trans (hb3.mono c2.size)
  clear c2 hb3
  generalize keptB s = kb
  go_wp2_with fail
  go_at_call 17
  refine (name_any s _ (by omega)).mono ?_
  rintro e w4 ⟨rfl, hb4⟩
  have c4 := c3.trans (hb4.mono c3.size)
  clear c3 hb4
  rw [HM.out]
  go_wp2_with fail
  go_at_call 23
  refine (rname_any s _ (by omega)).mono ?_
  rintro e w5 ⟨rfl, hb5⟩
  have c5 := c4.trans (hb5.mono c4.size)
  clear c4 hb5
  generalize rnameB s = nb
  go_wp2
  go_ret
  exact ⟨rfl, c5⟩
theorem LexWords_any (s : ByteArray) (w : World) (hG : Glob w) :
    Calls Tryd.prog 3 #[.string s] w fun e w' => e = .returned (.bool true) ∧ Below w.heap.size w w' := by
  by_cases h : 5000 < s.size
  · go_enter Tryd.func3, Tryd.ntmps3
    go_wp2_with fail
    go_at_call 8
    refine (awake_any _ hG).mono ?_
    rintro e w1 ⟨rfl, hb1⟩
    go_wp2
    go_ret
    exact ⟨rfl, hb1⟩
  · have h5 : decide ((5000 : Int) < (s.size : Int)) = false := by simp; omega
    go_enter Tryd.func3, Tryd.ntmps3
    go_wp2_with fail
    go_at_call 9
    refine (words_any s _ hG (by omega)).mono ?_
    rintro e w1 ⟨rfl, hb1⟩
    go_wp2_with fail
    go_at_call 8
    refine (awake_any _ (hG.next hb1)).mono ?_
    rintro e w2 ⟨rfl, hb2⟩
    go_wp2
    go_ret
    exact ⟨rfl, hb1.trans (hb2.mono hb1.size)⟩
end Go.Proofs.YtgpndifkkaomcaaDoor
