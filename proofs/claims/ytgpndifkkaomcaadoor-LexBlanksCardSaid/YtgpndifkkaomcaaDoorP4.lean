/- One word, one number: what the lexer makes of them; no string is two of name, register, keyword, number. -/
import Derived.Test.YtgpndifkkaomcaaDoorP3
namespace Go.Proofs.YtgpndifkkaomcaaDoor
open Go.RowKit
theorem spanEnd_whole {p : Int → Bool} {s : ByteArray} (h : s.data.toList.all (fun b => p b.toNat) = true) : spanEnd p s.data.toList 0 = s.size := by
  have := spanEnd_all p s.data.toList 0 (by omega)
  rw [List.drop_zero, h] at this
  have h2 := of_decide_eq_true this
  rw [h2]; simp
theorem extract_all (s : ByteArray) : s.extract 0 s.size = s := by simp
theorem rlex_done (s : ByteArray) (f : Nat) (acc : List Tk) : rlex s (f + 1) s.size acc = (if openOf acc then acc ++ [⟨4, ⟨#[]⟩, s.size⟩] else acc, 0, 0) := by
  rw [rlex, if_neg (by omega)]
theorem lex_word (s : ByteArray) (h1 : 0 < s.size) (h16 : s.size ≤ 16) (hl : letterB s[0].toNat = true) (ha : s.data.toList.all (fun b => goesB b.toNat) = true) :
    rlexOf s = ([⟨1, s, 0⟩, ⟨4, ⟨#[]⟩, s.size⟩], 0, 0) := by
  unfold rlexOf
  rw [if_neg (by omega), rlex, if_pos h1, clsAt_eq h1]
  have hc : clsB s[0].toNat = 3 := by have := letter_eq s[0]; rw [hl] at this; exact of_decide_eq_true this
  rw [hc, spanEnd_whole ha, extract_all]
  obtain ⟨f, hf⟩ : ∃ f, s.size = f + 1 := ⟨s.size - 1, by omega⟩
  have hd := rlex_done s f ([] ++ [⟨1, s, 0⟩])
  rw [← hf] at hd
  rw [if_neg (by decide), if_neg (by decide), if_neg (by decide), if_pos rfl, if_neg (by omega), hd, openOf_end]
  rfl
theorem lex_number (s : ByteArray) (h : (rnumOf s.data.toList).2 = true) : 0 < s.size ∧ digitB (s.data.toList[0]?.getD 0).toNat = true ∧ rlexOf s = ([⟨2, s, 0⟩, ⟨4, ⟨#[]⟩, s.size⟩], 0, 0) := by
  have hsl : s.data.toList.length = s.size := by simp
  have hc : allDig s.data.toList = true ∧ 1 ≤ s.data.toList.length ∧ s.data.toList.length ≤ 3 := by
    unfold rnumOf at h
    split at h
    · rename_i hh; exact ⟨hh.1, hh.2.1, hh.2.2.1⟩
    · cases h
  obtain ⟨ha, h1, h3⟩ := hc
  have h0 : 0 < s.size := by omega
  have hd0 : digitB s[0].toNat = true := by
    unfold allDig at ha
    rw [List.all_eq_true] at ha
    exact ha s[0] (by have : s[0] = s.data.toList[0] := rfl; rw [this]; exact List.getElem_mem _)
  refine ⟨h0, by rw [at_eq h0]; exact hd0, ?_⟩
  unfold rlexOf
  rw [if_neg (by omega), rlex, if_pos h0, clsAt_eq h0]
  have hc : clsB s[0].toNat = 4 := by have := digits_eq s[0]; rw [hd0] at this; exact of_decide_eq_true this
  rw [hc, spanEnd_whole ha, extract_all, h]
  obtain ⟨f, hf⟩ : ∃ f, s.size = f + 1 := ⟨s.size - 1, by omega⟩
  have hd := rlex_done s f ([] ++ [⟨2, s, 0⟩])
  rw [← hf] at hd
  rw [if_neg (by decide), if_neg (by decide), if_neg (by decide), if_neg (by decide), if_pos rfl, if_neg (by decide), hd, openOf_end]
  rfl
theorem goes_of_letter (b : Int) (h : letterB b = true) : goesB b = true := by unfold goesB; rw [h]; rfl
theorem letter_not_digit (b : Int) (h : letterB b = true) : digitB b = false := by
  unfold letterB at h; unfold digitB
  have := of_decide_eq_true h
  exact decide_eq_false (by omega)
theorem reg_shape (s : ByteArray) (h : (regOf s.data.toList).2 = true) : ∃ b : UInt8, s = ⟨#[114, b]⟩ ∧ 48 ≤ b.toNat ∧ b.toNat ≤ 55 := by
  have h2 : s.size = 2 := by
    rcases Nat.lt_or_ge s.size 2 with h1 | h1
    · rw [regOf_other (by simp; omega)] at h; cases h
    · rcases Nat.lt_or_ge 2 s.size with h3 | h3
      · rw [regOf_other (by simp; omega)] at h; cases h
      · omega
  obtain ⟨a, b, rfl⟩ := two_bytes s h2
  have hh : a.toNat = 114 ∧ 48 ≤ b.toNat ∧ b.toNat ≤ 55 := by
    rcases Classical.em (a.toNat = 114 ∧ 48 ≤ b.toNat ∧ b.toNat ≤ 55) with hh | hh
    · exact hh
    · have h' : (regOf [a, b]).2 = true := h
      rw [regOf_no hh] at h'; cases h'
  refine ⟨b, ?_, hh.2⟩
  have : a = 114 := by apply UInt8.toNat_inj.1; exact hh.1
  rw [this]
theorem kept_mem (s : ByteArray) (h : keptB s = true) : s ∈ keptWords := by
  unfold keptB at h
  generalize keptWords = l at h ⊢
  induction l with
  | nil => exact absurd h (by simp [Lib.containsS, Lib.idxOfS, Lib.idxFromS])
  | cons a r ih =>
    rw [containsS_cons] at h
    rcases Bool.or_eq_true_iff.1 h with h | h
    · exact List.mem_cons.2 (.inl (str_eq.1 h).symm)
    · exact List.mem_cons.2 (.inr (ih h))
def wordLike (s : ByteArray) : Bool := decide (0 < s.size) && decide (s.size ≤ 16) && letterB (s.data.toList[0]?.getD 0).toNat && s.data.toList.all (fun b => goesB b.toNat)
theorem kept_table : keptWords.all (fun s => wordLike s && !(regOf s.data.toList).2) = true := by decide +kernel
theorem wordLike_lex {s : ByteArray} (h : wordLike s = true) : rlexOf s = ([⟨1, s, 0⟩, ⟨4, ⟨#[]⟩, s.size⟩], 0, 0) := by
  unfold wordLike at h
  simp only [Bool.and_eq_true, decide_eq_true_eq] at h
  obtain ⟨⟨⟨h1, h2⟩, h3⟩, h4⟩ := h
  rw [at_eq h1] at h3
  exact lex_word s h1 h2 h3 h4
theorem wordLike_num {s : ByteArray} (h : wordLike s = true) : (numOf s.data.toList).2 = false := by
  rw [num_eq]
  cases hr : (rnumOf s.data.toList).2
  · rfl
  · have := (lex_number s hr).2.1
    unfold wordLike at h
    simp only [Bool.and_eq_true] at h
    rw [letter_not_digit _ h.1.2] at this
    cases this
theorem kept_like {s : ByteArray} (h : keptB s = true) : wordLike s = true ∧ (regOf s.data.toList).2 = false := by
  have := List.all_eq_true.1 kept_table s (kept_mem s h)
  simpa using this
theorem reg_like {s : ByteArray} (h : (regOf s.data.toList).2 = true) : wordLike s = true ∧ nameB s = false := by
  obtain ⟨b, rfl, h1, h2⟩ := reg_shape s h
  have hd : digitB b.toNat = true := by unfold digitB; exact decide_eq_true (by omega)
  have hg : goesB b.toNat = true := by unfold goesB; rw [hd]; simp
  constructor
  · unfold wordLike
    have hs : (⟨#[114, b]⟩ : ByteArray).size = 2 := rfl
    have hl : letterB 114 = true := by decide
    have hg1 : goesB 114 = true := by decide
    simp [hg, hs, hl, hg1]
  · rw [name_eq]
    unfold rnameB nameFrom
    have hs : (⟨#[114, b]⟩ : ByteArray).size = 2 := rfl
    simp [hd, hs]
theorem name_like {s : ByteArray} (h : nameB s = true) : wordLike s = true ∧ keptB s = false := by
  rw [name_eq] at h
  unfold rnameB nameFrom at h
  simp only [Bool.and_eq_true, decide_eq_true_eq, Bool.not_eq_true'] at h
  obtain ⟨⟨⟨⟨h1, h2⟩, h3⟩, h4⟩, h5, _⟩ := h
  refine ⟨?_, h4⟩
  unfold wordLike
  simp only [Bool.and_eq_true, decide_eq_true_eq]
  refine ⟨⟨⟨h1, h2⟩, h3⟩, ?_⟩
  rw [at_eq h1] at h3
  have := drop_at (s := s) (k := 0) h1
  rw [List.drop_zero] at this
  rw [this, List.all_cons, goes_of_letter _ h3]
  exact h5
end Go.Proofs.YtgpndifkkaomcaaDoor
