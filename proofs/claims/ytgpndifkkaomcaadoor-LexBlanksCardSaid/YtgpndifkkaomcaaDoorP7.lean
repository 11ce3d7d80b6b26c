/- What the lexer makes of two sources joined by a newline. -/
import Derived.Test.YtgpndifkkaomcaaDoorP6
namespace Go.Proofs.YtgpndifkkaomcaaDoor
open Go.RowKit
theorem lexOf_err (s : ByteArray) (h : (lexOf s).2.2 ≠ 0) : (lexOf s).1 = [] := by
  unfold lexOf at h ⊢
  split
  · rfl
  · rename_i hs
    rw [if_neg hs] at h
    exact lexRun_err s _ _ _ _ h
theorem openOf_nil : openOf [] = false := rfl
theorem rlex_closed (s : ByteArray) : ∀ (f k : Nat) (acc : List Tk), openOf (rlex s f k acc).1 = false
  | 0, _, _ => rfl
  | f + 1, k, acc => by
    rw [rlex]
    repeat' split
    all_goals first | exact rlex_closed s f _ _ | rfl | skip
    · rw [openOf_end]; rfl
    · rename_i h; simpa using h
theorem joined_lex (a b c : ByteArray) (hc : c.data.toList = a.data.toList ++ 10 :: b.data.toList) (ha : a.size ≤ 2000) (hb : b.size ≤ 2000) :
    lexOf c = if (lexOf a).2.2 ≠ 0 then ([], (lexOf a).2.1, (lexOf a).2.2) else if (lexOf b).2.2 ≠ 0 then ([], a.size + 1 + (lexOf b).2.1, (lexOf b).2.2)
      else ((lexOf a).1 ++ (lexOf b).1.map (shiftTk (a.size + 1)), 0, 0) := by
  have hal : a.data.toList.length = a.size := by simp
  have hcl : c.size = a.size + 1 + b.size := by
    have := congrArg List.length hc
    simp at this
    omega
  have he := lexOf_err a
  rw [lex_eq] at he
  rw [lex_eq, lex_eq, lex_eq]
  unfold rlexOf at he ⊢
  rw [if_neg (by omega)] at he ⊢
  rw [if_neg (show ¬ 16384 < a.size by omega), if_neg (show ¬ 16384 < b.size by omega)]
  rw [lex_first hc a.size 0 (by omega) (by omega) (c.size + 1) (a.size + 1) (c.size + 1) [] (by omega) (by omega) (by omega)]
  by_cases h1 : (rlex a (a.size + 1) 0 []).2.2 ≠ 0
  · rw [if_pos h1, if_pos h1]
    exact Prod.ext (he h1) rfl
  · rw [if_neg h1, if_neg h1]
    have h2 := lex_second hc (rlex a (a.size + 1) 0 []).1 (rlex_closed _ _ _ _) b.size 0 (by omega) (by omega) (c.size + 1) (b.size + 1) [] (by omega) (by omega)
    rw [hal, List.map_nil, List.append_nil, Nat.add_zero] at h2
    exact h2
end Go.Proofs.YtgpndifkkaomcaaDoor
