/- What the lexer's tokens are like: words, numbers, signs, ends; how many. -/
import Derived.Test.YtgpndifkkaomcaaDoorP5
namespace Go.Proofs.YtgpndifkkaomcaaDoor
open Go.RowKit
def TokOK (t : Tk) : Prop :=
  (t.K = 1 ∧ 0 < t.x.size ∧ t.x.size ≤ 16 ∧ letterB (t.x.data.toList[0]?.getD 0).toNat = true ∧ t.x.data.toList.all (fun b => goesB b.toNat) = true) ∨
  (t.K = 2 ∧ (rnumOf t.x.data.toList).2 = true) ∨
  (t.K = 3 ∧ ((∃ a b : UInt8, t.x = ⟨#[a, b]⟩ ∧ (a.toNat = 61 ∨ a.toNat = 33) ∧ b.toNat = 61) ∨ ∃ a : UInt8, t.x = ⟨#[a]⟩ ∧ inSigns a = true)) ∨
  (t.K = 4 ∧ t.x = ⟨#[]⟩)
def Good : Bool → List Tk → Prop
  | o, [] => o = false
  | o, t :: r => TokOK t ∧ (t.K = 4 → o = true) ∧ Good (decide (t.K ≠ 4)) r
theorem TokOK.range {t : Tk} (h : TokOK t) : 1 ≤ t.K ∧ t.K ≤ 4 := by
  rcases h with h | h | h | h <;> (have := h.1; omega)
theorem Good.all : ∀ {ts : List Tk} {o : Bool}, Good o ts → ∀ t ∈ ts, TokOK t
  | [], _, _, t, ht => by simp at ht
  | a :: r, _, h, t, ht => by
    rcases List.mem_cons.1 ht with rfl | ht
    · exact h.1
    · exact Good.all h.2.2 t ht
theorem span_text (s : ByteArray) (p : Int → Bool) (k : Nat) : (s.extract k (spanEnd p s.data.toList k)).data.toList = (s.data.toList.drop k).takeWhile (fun b => p b.toNat) := by
  rw [extract_list]
  show (s.data.toList.take (spanEnd p s.data.toList k)).drop k = _
  unfold spanEnd
  rw [List.drop_take, Nat.add_sub_cancel_left]
  exact (List.prefix_iff_eq_take.1 (List.takeWhile_prefix _)).symm
theorem size_list (s : ByteArray) : s.size = s.data.toList.length := by simp
theorem list_inj {s t : ByteArray} (h : s.data.toList = t.data.toList) : s = t := by
  obtain ⟨⟨x⟩⟩ := s
  obtain ⟨⟨y⟩⟩ := t
  exact congrArg (fun l => ByteArray.mk (Array.mk l)) h
theorem word_ok {s : ByteArray} {k : Nat} (hlt : k < s.size) (h3 : clsAt s.data.toList k = 3) (h16 : ¬ 16 < spanEnd goesB s.data.toList k - k) : TokOK ⟨1, s.extract k (spanEnd goesB s.data.toList k), k⟩ := by
  have hcl := clsAt_eq hlt
  have hall := cls_facts s[k]
  rw [hcl] at h3
  have hl := hall.2.2.2.1 h3
  have hg : goesB s[k].toNat = true := by unfold goesB; rw [hl]; rfl
  have ht := span_text s goesB k
  rw [drop_at hlt, List.takeWhile_cons, if_pos hg] at ht
  refine .inl ⟨rfl, ?_, ?_, ?_, ?_⟩
  · show 0 < ByteArray.size _
    rw [size_list, ht]; simp
  · show ByteArray.size _ ≤ 16
    rw [size_list, ht, List.length_cons]
    have he : spanEnd goesB s.data.toList k = k + ((s.data.toList.drop (k + 1)).takeWhile fun b => goesB b.toNat).length + 1 := by
      unfold spanEnd
      rw [drop_at hlt, List.takeWhile_cons, if_pos hg, List.length_cons]
      omega
    omega
  · show letterB ((ByteArray.data _).toList[0]?.getD 0).toNat = true
    rw [ht]; exact hl
  · show (ByteArray.data _).toList.all _ = true
    rw [ht, List.all_cons, hg]
    simp only [Bool.true_and]
    exact List.all_takeWhile
theorem sign_ok {s : ByteArray} {k : Nat} (hlt : k < s.size) (h0 : ¬ rsign s.data.toList k = 0) : TokOK ⟨3, s.extract k (k + rsign s.data.toList k), k⟩ := by
  refine .inr (.inr (.inl ⟨rfl, ?_⟩))
  have hs : ∀ n, (s.extract k (k + n)).data.toList = (s.data.toList.drop k).take n := fun n => by
    rw [extract_list]
    show (s.data.toList.take (k + n)).drop k = _
    rw [List.drop_take, Nat.add_sub_cancel_left]
  have ha := at_eq hlt
  unfold rsign at h0 ⊢
  by_cases ht : twoAt s.data.toList k = true
  · rw [if_pos ht]
    left
    unfold twoAt at ht
    simp only [Bool.and_eq_true, Bool.or_eq_true, decide_eq_true_eq, beq_iff_eq] at ht
    obtain ⟨⟨h1, h2⟩, h3⟩ := ht
    have hl1 : k + 1 < s.size := by simpa using h1
    have hb := at_eq hl1
    rw [ha] at h3
    rw [hb] at h2
    refine ⟨s[k], s[k + 1], ?_, h3, h2⟩
    apply list_inj
    show (s.extract k (k + 2)).data.toList = [s[k], s[k + 1]]
    rw [hs, drop_at hlt, drop_at hl1]
    rfl
  · rw [if_neg ht] at h0 ⊢
    by_cases hi : inSigns (s.data.toList[k]?.getD 0) = true
    · rw [if_pos hi]
      right
      rw [ha] at hi
      refine ⟨s[k], ?_, hi⟩
      apply list_inj
      show (s.extract k (k + 1)).data.toList = [s[k]]
      rw [hs, drop_at hlt]
      rfl
    · rw [if_neg hi] at h0
      exact absurd rfl h0
theorem good_snoc {acc ts : List Tk} {t : Tk} (ht : TokOK t) (h4 : t.K = 4 → openOf acc = true) (h : ∃ r, ts = (acc ++ [t]) ++ r ∧ Good (openOf (acc ++ [t])) r) : ∃ r, ts = acc ++ r ∧ Good (openOf acc) r := by
  obtain ⟨r, rfl, hg⟩ := h
  rw [openOf_end] at hg
  exact ⟨t :: r, by simp, ht, h4, hg⟩
theorem rlex_good (s : ByteArray) : ∀ (f k : Nat) (acc : List Tk), s.size - k < f → (rlex s f k acc).2.2 = 0 → ∃ r, (rlex s f k acc).1 = acc ++ r ∧ Good (openOf acc) r
  | 0, _, _, hf, _ => by omega
  | f + 1, k, acc, hf, he => by
    rw [rlex] at he ⊢
    by_cases hlt : k < s.size
    · rw [if_pos hlt] at he ⊢
      have hcl := clsAt_eq hlt
      have hall := cls_facts s[k]
      by_cases q1 : clsAt s.data.toList k = 1
      · rw [if_pos q1] at he ⊢
        exact rlex_good s f _ acc (by omega) he
      · rw [if_neg q1] at he ⊢
        by_cases q2 : clsAt s.data.toList k = 2
        · rw [if_pos q2] at he ⊢
          have ih := rlex_good s f _ _ (by omega) he
          cases ho : openOf acc
          · rw [ho] at ih
            simp only [Bool.false_eq_true, if_false] at ih ⊢
            rw [ho] at ih
            exact ih
          · rw [ho] at ih
            simp only [if_true] at ih ⊢
            rw [← ho]
            exact good_snoc (.inr (.inr (.inr ⟨rfl, rfl⟩))) (fun _ => ho) ih
        · rw [if_neg q2] at he ⊢
          by_cases q6 : clsAt s.data.toList k = 6
          · rw [if_pos q6] at he ⊢
            have hg2 := spanEnd_gt (p := fun b => decide (b ≠ 10)) hlt (by rw [decide_eq_true_eq]; rw [hcl] at q2; exact hall.2.2.2.2.2.2.1 q2)
            exact rlex_good s f _ acc (by omega) he
          · rw [if_neg q6] at he ⊢
            by_cases q3 : clsAt s.data.toList k = 3
            · rw [if_pos q3] at he ⊢
              by_cases h16 : 16 < spanEnd goesB s.data.toList k - k
              · rw [if_pos h16] at he; cases he
              · rw [if_neg h16] at he ⊢
                have hg2 := spanEnd_gt (p := goesB) hlt (by rw [hcl] at q3; unfold goesB; rw [hall.2.2.2.1 q3]; rfl)
                exact good_snoc (word_ok hlt q3 h16) (fun h => by cases h) (rlex_good s f _ _ (by omega) he)
            · rw [if_neg q3] at he ⊢
              by_cases q4 : clsAt s.data.toList k = 4
              · rw [if_pos q4] at he ⊢
                by_cases hn : (rnumOf (s.extract k (spanEnd digitB s.data.toList k)).data.toList).2 = false
                · rw [if_pos hn] at he; cases he
                · rw [if_neg hn] at he ⊢
                  have hg2 := spanEnd_gt (p := digitB) hlt (by rw [hcl] at q4; exact (hall.2.2.2.2.1 q4).1)
                  exact good_snoc (.inr (.inl ⟨rfl, by simpa using hn⟩)) (fun h => by cases h) (rlex_good s f _ _ (by omega) he)
              · rw [if_neg q4] at he ⊢
                by_cases q0 : rsign s.data.toList k = 0
                · rw [if_pos q0] at he; cases he
                · rw [if_neg q0] at he ⊢
                  exact good_snoc (sign_ok hlt q0) (fun h => by cases h) (rlex_good s f _ _ (by omega) he)
    · rw [if_neg hlt]
      cases ho : openOf acc
      · exact ⟨[], by simp, rfl⟩
      · exact ⟨[⟨4, ⟨#[]⟩, s.size⟩], by simp, .inr (.inr (.inr ⟨rfl, rfl⟩)), fun _ => rfl, rfl⟩
theorem rlex_len (s : ByteArray) : ∀ (f k : Nat) (acc : List Tk), (rlex s f k acc).1.length ≤ acc.length + f
  | 0, _, _ => by simp [rlex]
  | f + 1, k, acc => by
    rw [rlex]
    have ih := rlex_len s f
    split
    · split
      · have := ih (k + 1) acc; omega
      · split
        · cases openOf acc
          · have := ih (k + 1) acc; simp only [Bool.false_eq_true, if_false]; omega
          · have := ih (k + 1) (acc ++ [⟨4, ⟨#[]⟩, k⟩]); simp only [if_true]; simp at this; omega
        · split
          · have := ih (spanEnd (fun b => decide (b ≠ 10)) s.data.toList k) acc; omega
          · split
            · split
              · simp
              · have := ih (spanEnd goesB s.data.toList k) (acc ++ [⟨1, s.extract k (spanEnd goesB s.data.toList k), k⟩]); simp at this; omega
            · split
              · split
                · simp
                · have := ih (spanEnd digitB s.data.toList k) (acc ++ [⟨2, s.extract k (spanEnd digitB s.data.toList k), k⟩]); simp at this; omega
              · split
                · simp
                · have := ih (k + rsign s.data.toList k) (acc ++ [⟨3, s.extract k (k + rsign s.data.toList k), k⟩]); simp at this; omega
    · cases openOf acc
      · simp only [Bool.false_eq_true, if_false]; omega
      · simp only [if_true, List.length_append, List.length_cons, List.length_nil]; omega
theorem rlexOf_len (s : ByteArray) : (rlexOf s).1.length ≤ 16385 := by
  unfold rlexOf
  split
  · simp
  · have := rlex_len s (s.size + 1) 0 []
    simp at this
    omega
theorem rlexOf_good (s : ByteArray) (h : (rlexOf s).2.2 = 0) : Good false (rlexOf s).1 := by
  unfold rlexOf at h ⊢
  split
  · rfl
  · rename_i hs
    rw [if_neg hs] at h
    obtain ⟨r, hr, hg⟩ := rlex_good s _ _ _ (by omega) h
    rw [hr, List.nil_append]
    exact hg
theorem rlex_err (s : ByteArray) : ∀ (f k : Nat) (acc : List Tk), (rlex s f k acc).2.2 ≠ 0 → (rlex s f k acc).1 = []
  | 0, _, _, h => by simp [rlex]
  | f + 1, k, acc, h => by
    rw [rlex] at h ⊢
    repeat' split at h
    all_goals first | exact absurd rfl h | skip
    all_goals simp only [*, if_true, if_false]
    all_goals first | rfl | (exact rlex_err s f _ _ h) | skip
theorem rlexOf_range (s : ByteArray) : ∀ t ∈ (rlexOf s).1, 1 ≤ t.K ∧ t.K ≤ 4 := by
  by_cases h : (rlexOf s).2.2 = 0
  · exact fun t ht => (Good.all (rlexOf_good s h) t ht).range
  · have : (rlexOf s).1 = [] := by
      unfold rlexOf at h ⊢
      split
      · rfl
      · rename_i hs
        rw [if_neg hs] at h
        exact rlex_err s _ _ _ h
    rw [this]
    intro t ht
    simp at ht
end Go.Proofs.YtgpndifkkaomcaaDoor
