/- Two sources joined by a newline. -/
import Derived.Test.YtgpndifkkaomcaaDoorP3
import Derived.Test.YtgpndifkkaomcaaDoorR4
namespace Go.Proofs.YtgpndifkkaomcaaDoor
open Go.RowKit
theorem rlex_fuel (s : ByteArray) (k : Nat) (hk : k ≤ s.size) (f g : Nat) (acc : List Tk) (hf : s.size - k < f) (hg : s.size - k < g) : rlex s f k acc = rlex s g k acc := by
  rw [← lex_eq_run s _ k rfl hk (s.size + 1) f acc (by omega) hf, ← lex_eq_run s _ k rfl hk (s.size + 1) g acc (by omega) hg]
theorem extract_list (s : ByteArray) (i j : Nat) : s.extract i j = ⟨((s.data.toList.take j).drop i).toArray⟩ := by
  have h := extract_toList s i j
  rw [ByteArray.toList_eq] at h
  rw [← h]
theorem joined_at {A B : List UInt8} {k : Nat} (h : k < A.length) : (A ++ 10 :: B)[k]?.getD 0 = A[k]?.getD 0 := by rw [List.getElem?_append_left h]
theorem takeWhile_stop {p : UInt8 → Bool} {A B : List UInt8} (h : p 10 = false) : (A ++ 10 :: B).takeWhile p = A.takeWhile p := by
  induction A with
  | nil => simp [h]
  | cons a r ih => rw [List.cons_append, List.takeWhile_cons, List.takeWhile_cons, ih]
theorem spanEnd_joined {p : Int → Bool} {A B : List UInt8} {k : Nat} (h : p 10 = false) (hk : k ≤ A.length) : spanEnd p (A ++ 10 :: B) k = spanEnd p A k := by
  unfold spanEnd
  rw [List.drop_append_of_le_length hk, takeWhile_stop (p := fun b => p b.toNat) h]
theorem spanEnd_shift {p : Int → Bool} {A B : List UInt8} {k : Nat} : spanEnd p (A ++ 10 :: B) (A.length + 1 + k) = A.length + 1 + spanEnd p B k := by
  unfold spanEnd
  have : (A ++ 10 :: B).drop (A.length + 1 + k) = B.drop k := by
    rw [show A.length + 1 + k = A.length + (1 + k) from by omega, List.drop_append, show 1 + k = k + 1 from by omega]
    simp
  rw [this]
  omega
theorem text_joined {a c : ByteArray} {B : List UInt8} (hc : c.data.toList = a.data.toList ++ 10 :: B) {i j : Nat} (hj : j ≤ a.size) : c.extract i j = a.extract i j := by
  rw [extract_list, extract_list, hc, List.take_append_of_le_length (by simpa using hj)]
theorem twoAt_joined {A B : List UInt8} {k : Nat} (hk : k < A.length) : twoAt (A ++ 10 :: B) k = twoAt A k := by
  unfold twoAt
  rw [joined_at hk]
  by_cases h1 : k + 1 < A.length
  · rw [joined_at h1]
    have h2 : k + 1 < (A ++ 10 :: B).length := by simp; omega
    rw [decide_eq_true h1, decide_eq_true h2]
  · have h3 : k + 1 = A.length := by omega
    rw [decide_eq_false h1, h3]
    have : (A ++ 10 :: B)[A.length]?.getD 0 = 10 := by simp
    rw [this]
    simp
theorem rsign_joined {A B : List UInt8} {k : Nat} (hk : k < A.length) : rsign (A ++ 10 :: B) k = rsign A k := by
  unfold rsign
  rw [twoAt_joined hk, joined_at hk]
set_option maxHeartbeats 2000000 in
/-- The first source, a newline and whatever follows: an error of the first stands; else the lexer goes on behind the newline with the first's tokens. -/
theorem lex_first {a c : ByteArray} {B : List UInt8} (hc : c.data.toList = a.data.toList ++ 10 :: B) : ∀ (n k : Nat), a.size - k = n → k ≤ a.size → ∀ (f g h : Nat) (acc : List Tk), c.size - k < f → n < g → c.size < h →
    rlex c f k acc = (if (rlex a g k acc).2.2 ≠ 0 then rlex a g k acc else rlex c h (a.size + 1) (rlex a g k acc).1) := by
  have hal : a.data.toList.length = a.size := by simp
  have hcl : c.size = a.size + 1 + B.length := by
    have := congrArg List.length hc
    simp at this
    omega
  intro n
  induction n using Nat.strongRecOn with
  | _ n ih =>
    intro k hn hk f g h acc hf hg hh
    obtain ⟨f, rfl⟩ : ∃ f', f = f' + 1 := ⟨f - 1, by omega⟩
    obtain ⟨g, rfl⟩ : ∃ g', g = g' + 1 := ⟨g - 1, by omega⟩
    have hkc : k < c.size := by omega
    rw [rlex, if_pos hkc]
    by_cases hlt : k < a.size
    · have hcls : clsAt c.data.toList k = clsAt a.data.toList k := by unfold clsAt; rw [hc, joined_at (by omega)]
      have hw : spanEnd goesB c.data.toList k = spanEnd goesB a.data.toList k := by rw [hc]; exact spanEnd_joined (by decide) (by omega)
      have hd : spanEnd digitB c.data.toList k = spanEnd digitB a.data.toList k := by rw [hc]; exact spanEnd_joined (by decide) (by omega)
      have hr : spanEnd (fun b => decide (b ≠ 10)) c.data.toList k = spanEnd (fun b => decide (b ≠ 10)) a.data.toList k := by rw [hc]; exact spanEnd_joined (by decide) (by omega)
      have hs : rsign c.data.toList k = rsign a.data.toList k := by rw [hc]; exact rsign_joined (by omega)
      have hle : ∀ p, spanEnd p a.data.toList k ≤ a.size := fun p => by have := spanEnd_le (p := p) (l := a.data.toList) (k := k) (by omega); omega
      have hst := @nx_step a k (openOf acc) hlt
      have hx : ∀ j, j ≤ a.size → c.extract k j = a.extract k j := fun j hj => text_joined hc hj
      have h1 := hle goesB
      have h2 := hle digitB
      have h3 := hle (fun b => decide (b ≠ 10))
      have h4 := rsign_le hlt
      rw [hcls, hw, hd, hr, hs, hx _ h1, hx _ h2, hx _ h4]
      have hcl2 := clsAt_eq hlt
      have hall := cls_facts a[k]
      rw [rlex, if_pos hlt]
      by_cases q1 : clsAt a.data.toList k = 1
      · simp only [if_pos q1]
        exact ih (a.size - (k + 1)) (by omega) _ rfl (by omega) _ _ _ _ (by omega) (by omega) hh
      · simp only [if_neg q1]
        by_cases q2 : clsAt a.data.toList k = 2
        · simp only [if_pos q2]
          exact ih (a.size - (k + 1)) (by omega) _ rfl (by omega) _ _ _ _ (by omega) (by omega) hh
        · simp only [if_neg q2]
          by_cases q6 : clsAt a.data.toList k = 6
          · simp only [if_pos q6]
            have hg2 := spanEnd_gt (p := fun b => decide (b ≠ 10)) hlt (by rw [decide_eq_true_eq]; rw [hcl2] at q2; exact hall.2.2.2.2.2.2.1 q2)
            exact ih (a.size - spanEnd (fun b => decide (b ≠ 10)) a.data.toList k) (by omega) _ rfl (by omega) _ _ _ _ (by omega) (by omega) hh
          · simp only [if_neg q6]
            by_cases q3 : clsAt a.data.toList k = 3
            · simp only [if_pos q3]
              by_cases h16 : 16 < spanEnd goesB a.data.toList k - k
              · simp only [if_pos h16]; rfl
              · simp only [if_neg h16]
                have hg2 := spanEnd_gt (p := goesB) hlt (by rw [hcl2] at q3; unfold goesB; rw [hall.2.2.2.1 q3]; rfl)
                exact ih (a.size - spanEnd goesB a.data.toList k) (by omega) _ rfl (by omega) _ _ _ _ (by omega) (by omega) hh
            · simp only [if_neg q3]
              by_cases q4 : clsAt a.data.toList k = 4
              · simp only [if_pos q4]
                cases hnum : (rnumOf (a.extract k (spanEnd digitB a.data.toList k)).data.toList).2
                · rfl
                · simp only [Bool.true_eq_false, if_false]
                  have hg2 := spanEnd_gt (p := digitB) hlt (by rw [hcl2] at q4; exact (hall.2.2.2.2.1 q4).1)
                  exact ih (a.size - spanEnd digitB a.data.toList k) (by omega) _ rfl (by omega) _ _ _ _ (by omega) (by omega) hh
              · simp only [if_neg q4]
                by_cases q0 : rsign a.data.toList k = 0
                · simp only [if_pos q0]; rfl
                · simp only [if_neg q0]
                  exact ih (a.size - (k + rsign a.data.toList k)) (by omega) _ rfl (by omega) _ _ _ _ (by omega) (by omega) hh
    · obtain rfl : k = a.size := by omega
      have hcls : clsAt c.data.toList a.size = 2 := by
        unfold clsAt; rw [hc, ← hal]
        have : (a.data.toList ++ 10 :: B)[a.data.toList.length]?.getD 0 = 10 := by simp
        rw [this]; decide
      rw [hcls, rlex, if_neg hlt]
      simp only [Int.reduceEq, if_true, if_false, ne_eq, not_true_eq_false]
      exact rlex_fuel c (a.size + 1) (by omega) _ _ _ (by omega) (by omega)
end Go.Proofs.YtgpndifkkaomcaaDoor
