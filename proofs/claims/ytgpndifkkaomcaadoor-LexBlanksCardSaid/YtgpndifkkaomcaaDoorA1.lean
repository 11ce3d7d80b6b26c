/- Leaf functions of lex and its reference. -/
import Derived.Test.YtgpndifkkaomcaaDoorProg
import Derived.Test.YtgpndifkkaomcaaDoorBase
import Derived.Test.YtgpndifkkaomcaaDoorShelf
namespace Go.Proofs.YtgpndifkkaomcaaDoor
open Go.RowKit
def digitB (b : Int) : Bool := decide (48 ≤ b ∧ b ≤ 57)
def letterB (b : Int) : Bool := decide (97 ≤ b ∧ b ≤ 122 ∨ 65 ≤ b ∧ b ≤ 90)
theorem digit_any (b : Int) (w : World) :
    Calls Tryd.prog 38 #[.int .u8 b] w fun e w' => e = .returned (.bool (digitB b)) ∧ w = w' := by
  go_enter Tryd.func38, Tryd.ntmps38
  go_wp2
  all_goals go_ret
  all_goals (refine ⟨ret_bool ?_, rfl⟩; unfold digitB; rw [Bool.eq_iff_iff]; simp; try omega)
theorem letter_any (b : Int) (w : World) :
    Calls Tryd.prog 39 #[.int .u8 b] w fun e w' => e = .returned (.bool (letterB b)) ∧ w = w' := by
  go_enter Tryd.func39, Tryd.ntmps39
  go_wp2
  all_goals go_ret
  all_goals (refine ⟨ret_bool ?_, rfl⟩; unfold letterB; rw [Bool.eq_iff_iff]; simp; try omega)
def goesB (b : Int) : Bool := letterB b || digitB b || decide (b = 95)
theorem goes_any (b : Int) (w : World) :
    Calls Tryd.prog 40 #[.int .u8 b] w fun e w' => e = .returned (.bool (goesB b)) ∧ w = w' := by
  go_enter Tryd.func40, Tryd.ntmps40
  go_wp2_with (first | (go_at_call 39; refine (letter_any _ _).mono ?_; rintro e w' ⟨rfl, rfl⟩) | (go_at_call 38; refine (digit_any _ _).mono ?_; rintro e w' ⟨rfl, rfl⟩))
  all_goals go_ret
  all_goals (refine ⟨ret_bool ?_, rfl⟩; unfold goesB; rw [Bool.eq_iff_iff]; simp_all)
def isWord (c : Int) : Bool := decide (c = 3 ∨ c = 4 ∨ c = 5)
theorem word_any (c : Int) (w : World) :
    Calls Tryd.prog 32 #[.int .i64 c] w fun e w' => e = .returned (.bool (isWord c)) ∧ w = w' := by
  go_enter Tryd.func32, Tryd.ntmps32
  go_wp2
  all_goals go_ret
  all_goals (refine ⟨ret_bool ?_, rfl⟩; unfold isWord; rw [Bool.eq_iff_iff]; simp; try omega)

def isDigits (c : Int) : Bool := decide (c = 4)
def isBlanks (c : Int) : Bool := decide (c = 1)
def isRemark (c : Int) : Bool := decide (c ≠ 2)
theorem digits_any (c : Int) (w : World) :
    Calls Tryd.prog 33 #[.int .i64 c] w fun e w' => e = .returned (.bool (isDigits c)) ∧ w = w' := by
  go_enter Tryd.func33, Tryd.ntmps33
  go_wp2
  all_goals go_ret
  all_goals (refine ⟨ret_bool ?_, rfl⟩; unfold isDigits; rw [Bool.eq_iff_iff]; simp)
theorem blanks_any (c : Int) (w : World) :
    Calls Tryd.prog 50 #[.int .i64 c] w fun e w' => e = .returned (.bool (isBlanks c)) ∧ w = w' := by
  go_enter Tryd.func50, Tryd.ntmps50
  go_wp2
  all_goals go_ret
  all_goals (refine ⟨ret_bool ?_, rfl⟩; unfold isBlanks; rw [Bool.eq_iff_iff]; simp)
theorem remark_any (c : Int) (w : World) :
    Calls Tryd.prog 51 #[.int .i64 c] w fun e w' => e = .returned (.bool (isRemark c)) ∧ w = w' := by
  go_enter Tryd.func51, Tryd.ntmps51
  go_wp2
  all_goals go_ret
  all_goals (refine ⟨ret_bool ?_, rfl⟩; unfold isRemark; rw [Bool.eq_iff_iff]; simp)
def markB (b : Int) : Bool := decide (0 ≤ Lib.indexByte [61, 43, 45, 94, 38, 124, 33, 40, 41, 58, 60] (UInt8.ofNat b.toNat))
/-- The class of a byte, as lex.of has it. -/
def clsB (b : Int) : Int :=
  if b = 32 ∨ b = 9 then 1 else if b = 10 then 2 else if b = 35 then 6 else if b = 95 then 5 else if digitB b = true then 4 else if letterB b = true then 3 else if markB b = true then 7 else 0
theorem of_any (b : Int) (w : World) :
    Calls Tryd.prog 30 #[.int .u8 b] w fun e w' => e = .returned (.int .i64 (clsB b)) ∧ w = w' := by
  go_enter Tryd.func30, Tryd.ntmps30
  go_wp2_with (first | (go_at_call 47; refine (Tryd.strings_IndexByte _ _ _).mono ?_; rintro e w' ⟨rfl, rfl⟩))
  all_goals go_ret
  all_goals (refine ⟨ret_int ?_, rfl⟩; (try simp only [beq_iff_eq, beq_eq_false_iff_ne, ne_eq] at *); unfold clsB digitB letterB markB; simp only [decide_eq_true_eq]; (repeat' split) <;> first | rfl | (exfalso; omega))
end Go.Proofs.YtgpndifkkaomcaaDoor
