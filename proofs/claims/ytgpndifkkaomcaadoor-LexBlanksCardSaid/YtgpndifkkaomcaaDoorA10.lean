/- The scanner's next token, all classes in one contract; the lexer as a plain function. -/
import Derived.Test.YtgpndifkkaomcaaDoorA8
import Derived.Test.YtgpndifkkaomcaaDoorA9
namespace Go.Proofs.YtgpndifkkaomcaaDoor
open Go.RowKit
/-- What next comes to: the token's kind and text, the offset behind it, whether the line is open, the error. -/
structure Nx where
  K : Int
  x : ByteArray
  j : Nat
  o : Bool
  e : Int
def clsAt (l : List UInt8) (k : Nat) : Int := clsB ((l[k]?.getD 0).toNat)
def nx (s : ByteArray) (k : Nat) (o : Bool) : Nx :=
  if clsAt s.data.toList k = 1 then ⟨0, ⟨#[]⟩, spanEnd (fun b => isBlanks (clsB b)) s.data.toList k, o, 0⟩
  else if clsAt s.data.toList k = 6 then ⟨0, ⟨#[]⟩, spanEnd (fun b => isRemark (clsB b)) s.data.toList k, o, 0⟩
  else if clsAt s.data.toList k = 2 then ⟨if o then 4 else 0, ⟨#[]⟩, k + 1, false, 0⟩
  else if clsAt s.data.toList k = 3 then ⟨1, s.extract k (spanEnd (fun b => isWord (clsB b)) s.data.toList k), spanEnd (fun b => isWord (clsB b)) s.data.toList k, true, if spanEnd (fun b => isWord (clsB b)) s.data.toList k - k ≤ 16 then 0 else 42⟩
  else if clsAt s.data.toList k = 4 then ⟨2, s.extract k (spanEnd (fun b => isDigits (clsB b)) s.data.toList k), spanEnd (fun b => isDigits (clsB b)) s.data.toList k, true, if (numOf (s.extract k (spanEnd (fun b => isDigits (clsB b)) s.data.toList k)).data.toList).2 then 0 else 41⟩
  else if clsAt s.data.toList k = 7 then ⟨3, s.extract k (k + signLen s.data.toList k), k + signLen s.data.toList k, true, 0⟩
  else ⟨0, ⟨#[]⟩, k, o, 40⟩
theorem clsB_cases (b : Int) : clsB b = 0 ∨ clsB b = 1 ∨ clsB b = 2 ∨ clsB b = 3 ∨ clsB b = 4 ∨ clsB b = 5 ∨ clsB b = 6 ∨ clsB b = 7 := by
  unfold clsB
  repeat' split
  all_goals simp
theorem next_any (b : Nat) (s : ByteArray) (k : Nat) (o : Bool) (w : World) (hS : Scan w b s k o 0) (hG : Glob w) (hb3 : 3 ≤ b) (hmax : s.size ≤ 281474976710656) (hlt : k < s.size) :
    Calls Tryd.prog 43 #[.pointer (some ⟨b, 0, none⟩)] w fun e w' => e = .returned (.agg #[.int .u8 (nx s k o).K, .string (nx s k o).x, .int .i64 k]) ∧ Scan w' b s (nx s k o).j (nx s k o).o (nx s k o).e ∧ w.grownBy w' (some b) := by
  have hm : s.size ≤ 4611686018427387904 := by omega
  have hcl : clsAt s.data.toList k = clsB s[k].toNat := by
    unfold clsAt
    have : s.data.toList[k]? = some s[k] := by
      have hl : k < s.data.toList.length := by simpa using hlt
      rw [List.getElem?_eq_getElem hl]; rfl
    rw [this]; rfl
  unfold nx
  rw [hcl]
  rcases clsB_cases s[k].toNat with h | h | h | h | h | h | h | h
  · simp only [h]; cases o
    · exact next_other_false b s k w hS hm hlt h
    · exact next_other_true b s k w hS hm hlt h
  · simp only [h]; cases o
    · exact next_blank_false b s k w hS hm hlt h
    · exact next_blank_true b s k w hS hm hlt h
  · simp only [h]; cases o
    · exact next_line_false b s k w hS hm hlt h
    · exact next_line_true b s k w hS hm hlt h
  · simp only [h]
    by_cases hx : spanEnd (fun b => isWord (clsB b)) s.data.toList k - k ≤ 16
    · rw [if_pos hx]; cases o
      · exact next_word_false b s k w hS hm hlt h hx
      · exact next_word_true b s k w hS hm hlt h hx
    · rw [if_neg hx]; cases o
      · exact next_wordlong_false b s k w hS hm hlt h (by omega)
      · exact next_wordlong_true b s k w hS hm hlt h (by omega)
  · simp only [h]
    cases hn : (numOf (s.extract k (spanEnd (fun b => isDigits (clsB b)) s.data.toList k)).data.toList).2
    · cases o
      · exact next_num_false_false b s k w hS hG hb3 hmax hlt h hn
      · exact next_num_true_false b s k w hS hG hb3 hmax hlt h hn
    · cases o
      · exact next_num_false_true b s k w hS hG hb3 hmax hlt h hn
      · exact next_num_true_true b s k w hS hG hb3 hmax hlt h hn
  · simp only [h]; cases o
    · exact next_low_false b s k w hS hm hlt h
    · exact next_low_true b s k w hS hm hlt h
  · simp only [h]; cases o
    · exact next_remark_false b s k w hS hm hlt h
    · exact next_remark_true b s k w hS hm hlt h
  · simp only [h]; cases o
    · exact next_mark_false b s k w hS hm hlt h
    · exact next_mark_true b s k w hS hm hlt h
end Go.Proofs.YtgpndifkkaomcaaDoor
