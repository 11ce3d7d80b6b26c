/- Names and classes of bytes: the program and the reference agree. -/
import Derived.Test.YtgpndifkkaomcaaDoorA14
import Derived.Test.YtgpndifkkaomcaaDoorR5
namespace Go.Proofs.YtgpndifkkaomcaaDoor
open Go.RowKit
theorem cls_eqs : ∀ n : Fin 256, isWord (clsB n.val) = goesB n.val ∧ isDigits (clsB n.val) = digitB n.val ∧ decide (clsB (n.val : Int) = 3) = letterB n.val ∧ isRemark (clsB n.val) = decide ((n.val : Int) ≠ 10) ∧ isBlanks (clsB n.val) = decide ((n.val : Int) = 32 ∨ (n.val : Int) = 9) := by decide +kernel
theorem word_eq (b : UInt8) : isWord (clsB b.toNat) = goesB b.toNat := (cls_eqs ⟨b.toNat, b.toNat_lt⟩).1
theorem digits_eq (b : UInt8) : isDigits (clsB b.toNat) = digitB b.toNat := (cls_eqs ⟨b.toNat, b.toNat_lt⟩).2.1
theorem letter_eq (b : UInt8) : decide (clsB b.toNat = 3) = letterB b.toNat := (cls_eqs ⟨b.toNat, b.toNat_lt⟩).2.2.1
theorem remark_eq (b : UInt8) : isRemark (clsB b.toNat) = decide ((b.toNat : Int) ≠ 10) := (cls_eqs ⟨b.toNat, b.toNat_lt⟩).2.2.2.1
theorem blanks_eq (b : UInt8) : isBlanks (clsB b.toNat) = decide ((b.toNat : Int) = 32 ∨ (b.toNat : Int) = 9) := (cls_eqs ⟨b.toNat, b.toNat_lt⟩).2.2.2.2
theorem spanEnd_congr {p q : Int → Bool} (h : ∀ b : UInt8, p b.toNat = q b.toNat) (l : List UInt8) (k : Nat) : spanEnd p l k = spanEnd q l k := by
  unfold spanEnd; congr 2; exact congrArg (fun f => List.takeWhile f _) (funext h)
theorem takeWhile_all {α : Type} (p : α → Bool) (l : List α) : (l.takeWhile p).length = l.length ↔ l.all p = true := by
  induction l with
  | nil => simp
  | cons a r ih =>
    rw [List.takeWhile_cons, List.all_cons]
    cases p a <;> simp [ih]
theorem spanEnd_all (p : Int → Bool) (l : List UInt8) (k : Nat) (hk : k ≤ l.length) : decide (spanEnd p l k = l.length) = (l.drop k).all (fun b => p b.toNat) := by
  rw [Bool.eq_iff_iff, decide_eq_true_eq, ← takeWhile_all]
  unfold spanEnd
  rw [List.length_drop]
  omega
theorem name_eq (s : ByteArray) : nameB s = rnameB s := by
  have hsl : s.data.toList.length = s.size := by simp
  unfold nameB rnameB nameFrom clsAt
  rw [letter_eq]
  by_cases h1 : 1 ≤ s.size
  · have hw : decide (spanEnd (fun b => isWord (clsB b)) s.data.toList 0 = s.size) = (goesB (s.data.toList[0]?.getD 0).toNat && (s.data.toList.drop 1).all (fun b => goesB b.toNat)) := by
      rw [spanEnd_congr word_eq, ← hsl, spanEnd_all _ _ _ (by omega)]
      match hm : s.data.toList with
      | [] => rw [hm] at hsl; simp at hsl; omega
      | a :: r => simp
    have hd : decide (spanEnd (fun b => isDigits (clsB b)) s.data.toList 1 ≠ s.size) = !((s.data.toList.drop 1).all (fun b => digitB b.toNat)) := by
      rw [decide_not, spanEnd_congr digits_eq, ← hsl, spanEnd_all _ _ _ (by omega)]
    rw [hw, hd]
    cases hl : letterB (s.data.toList[0]?.getD 0).toNat
    · simp
    · have hg : goesB (s.data.toList[0]?.getD 0).toNat = true := by unfold goesB; rw [hl]; rfl
      rw [hg]
      have hs1 : decide (s.size = 1) = !decide (1 < s.size) := by
        by_cases h : s.size = 1
        · simp [h]
        · have : 1 < s.size := by omega
          simp [h, this]
      rw [hs1]
      by_cases h114 : (s.data.toList[0]?.getD 0).toNat = 114
      · simp only [h114, ne_eq, not_true_eq_false, decide_false, decide_true, Bool.false_or, Bool.and_true, Bool.true_and, Bool.and_assoc]
        cases decide (1 < s.size) <;> simp
      · simp only [h114, ne_eq, not_false_eq_true, decide_false, decide_true, Bool.true_or, Bool.and_true, Bool.true_and, Bool.and_false, Bool.false_and, Bool.not_false, Bool.and_assoc]
  · have : decide (1 ≤ s.size) = false := decide_eq_false h1
    rw [this]; simp
end Go.Proofs.YtgpndifkkaomcaaDoor
