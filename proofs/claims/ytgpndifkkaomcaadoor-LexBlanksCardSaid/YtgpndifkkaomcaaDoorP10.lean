/- The tokens' offsets lie in the source. -/
import Derived.Test.YtgpndifkkaomcaaDoorP8
namespace Go.Proofs.YtgpndifkkaomcaaDoor
open Go.RowKit
theorem rlex_offs (s : ByteArray) : ∀ (f k : Nat) (acc : List Tk), (∀ t ∈ acc, t.a ≤ s.size) → ∀ t ∈ (rlex s f k acc).1, t.a ≤ s.size
  | 0, _, _, _, t, ht => by simp [rlex] at ht
  | f + 1, k, acc, ha, t, ht => by
    have snoc : ∀ (K : Int) (x : ByteArray) (o : Nat), o ≤ s.size → ∀ u ∈ acc ++ [(⟨K, x, o⟩ : Tk)], u.a ≤ s.size := by
      intro K x o ho u hu
      rcases List.mem_append.1 hu with hu | hu
      · exact ha u hu
      · rw [List.mem_singleton] at hu; subst hu; exact ho
    rw [rlex] at ht
    split at ht
    · rename_i hlt
      split at ht
      · exact rlex_offs s f _ _ ha t ht
      · split at ht
        · cases ho : openOf acc
          · rw [ho] at ht; exact rlex_offs s f _ _ ha t ht
          · rw [ho] at ht; exact rlex_offs s f _ _ (snoc _ _ _ (Nat.le_of_lt hlt)) t ht
        · split at ht
          · exact rlex_offs s f _ _ ha t ht
          · split at ht
            · split at ht
              · simp at ht
              · exact rlex_offs s f _ _ (snoc _ _ _ (Nat.le_of_lt hlt)) t ht
            · split at ht
              · split at ht
                · simp at ht
                · exact rlex_offs s f _ _ (snoc _ _ _ (Nat.le_of_lt hlt)) t ht
              · split at ht
                · simp at ht
                · exact rlex_offs s f _ _ (snoc _ _ _ (Nat.le_of_lt hlt)) t ht
    · cases ho : openOf acc
      · rw [ho] at ht; exact ha t ht
      · rw [ho] at ht; exact snoc _ _ _ (Nat.le_refl _) t ht
theorem lexOf_offs (s : ByteArray) : ∀ t ∈ (lexOf s).1, t.a ≤ s.size := by
  rw [lex_eq]
  unfold rlexOf
  split
  · intro t ht; simp at ht
  · exact rlex_offs s _ _ _ (fun t ht => by simp at ht)
theorem lexOf_range (s : ByteArray) : ∀ t ∈ (lexOf s).1, 1 ≤ t.K ∧ t.K ≤ 4 := by rw [lex_eq]; exact rlexOf_range s
theorem lexOf_len (s : ByteArray) : (lexOf s).1.length ≤ 16385 := by rw [lex_eq]; exact rlexOf_len s
theorem lexOf_good (s : ByteArray) (h : (lexOf s).2.2 = 0) : Good false (lexOf s).1 := by rw [lex_eq] at h ⊢; exact rlexOf_good s h
theorem rlex_place (s : ByteArray) : ∀ (f k : Nat) (acc : List Tk), (rlex s f k acc).2.1 ≤ s.size
  | 0, _, _ => by simp [rlex]
  | f + 1, k, acc => by
    rw [rlex]
    repeat' split
    all_goals first | exact rlex_place s f _ _ | exact Nat.zero_le _ | exact Nat.le_of_lt ‹_› | omega
theorem lexOf_place (s : ByteArray) : (lexOf s).2.1 ≤ s.size := by
  rw [lex_eq]
  unfold rlexOf
  split
  · exact Nat.zero_le _
  · exact rlex_place s _ _ _
end Go.Proofs.YtgpndifkkaomcaaDoor
