/- The second of two joined sources: the same tokens, their offsets shifted. -/
import Derived.Test.YtgpndifkkaomcaaDoorP5
namespace Go.Proofs.YtgpndifkkaomcaaDoor
open Go.RowKit
def shiftTk (d : Nat) (t : Tk) : Tk := ⟨t.K, t.x, d + t.a⟩
theorem openOf_shift (d : Nat) (pre ts : List Tk) (hp : openOf pre = false) : openOf (pre ++ ts.map (shiftTk d)) = openOf ts := by
  rcases ts_cases ts with rfl | ⟨r, t, rfl⟩
  · rw [List.map_nil, List.append_nil, hp]; rfl
  · rw [List.map_append, ← List.append_assoc, List.map_singleton, openOf_end, openOf_end]; rfl
theorem drop_shift {A B : List UInt8} (k : Nat) : (A ++ 10 :: B).drop (A.length + 1 + k) = B.drop k := by
  rw [show A.length + 1 + k = A.length + (1 + k) from by omega, List.drop_append, show 1 + k = k + 1 from by omega]
  simp
theorem at_shift {A B : List UInt8} (k : Nat) : (A ++ 10 :: B)[A.length + 1 + k]?.getD 0 = B[k]?.getD 0 := by
  rw [List.getElem?_append_right (by omega), show A.length + 1 + k - A.length = k + 1 from by omega, List.getElem?_cons_succ]
theorem twoAt_shift {A B : List UInt8} (k : Nat) : twoAt (A ++ 10 :: B) (A.length + 1 + k) = twoAt B k := by
  unfold twoAt
  rw [at_shift, show A.length + 1 + k + 1 = A.length + 1 + (k + 1) from rfl, at_shift]
  have : decide (A.length + 1 + (k + 1) < (A ++ 10 :: B).length) = decide (k + 1 < B.length) := by
    rw [Bool.eq_iff_iff, decide_eq_true_eq, decide_eq_true_eq]; simp; omega
  rw [this]
theorem rsign_shift {A B : List UInt8} (k : Nat) : rsign (A ++ 10 :: B) (A.length + 1 + k) = rsign B k := by
  unfold rsign; rw [twoAt_shift, at_shift]
theorem text_shift {b c : ByteArray} {A : List UInt8} (hc : c.data.toList = A ++ 10 :: b.data.toList) (i j : Nat) (hi : i ≤ j) : c.extract (A.length + 1 + i) (A.length + 1 + j) = b.extract i j := by
  rw [extract_list, extract_list, hc]
  congr 2
  rw [List.drop_take, List.drop_take, drop_shift]
  congr 1
  omega
set_option maxHeartbeats 2000000 in
/-- Behind the newline: the second source's tokens, shifted; its error, shifted. -/
theorem lex_second {b c : ByteArray} {A : List UInt8} (hc : c.data.toList = A ++ 10 :: b.data.toList) (pre : List Tk) (hp : openOf pre = false) : ∀ (n k : Nat), b.size - k = n → k ≤ b.size → ∀ (f g : Nat) (acc : List Tk), n < f → n < g →
    rlex c f (A.length + 1 + k) (pre ++ acc.map (shiftTk (A.length + 1))) = (if (rlex b g k acc).2.2 ≠ 0 then ([], A.length + 1 + (rlex b g k acc).2.1, (rlex b g k acc).2.2) else (pre ++ (rlex b g k acc).1.map (shiftTk (A.length + 1)), 0, 0)) := by
  have hcl : c.size = A.length + 1 + b.size := by
    have := congrArg List.length hc
    simp at this
    omega
  intro n
  induction n using Nat.strongRecOn with
  | _ n ih =>
    intro k hn hk f g acc hf hg
    obtain ⟨f, rfl⟩ : ∃ f', f = f' + 1 := ⟨f - 1, by omega⟩
    obtain ⟨g, rfl⟩ : ∃ g', g = g' + 1 := ⟨g - 1, by omega⟩
    rw [rlex, rlex]
    have hop := openOf_shift (A.length + 1) pre acc hp
    have snoc : ∀ t : Tk, pre ++ acc.map (shiftTk (A.length + 1)) ++ [shiftTk (A.length + 1) t] = pre ++ (acc ++ [t]).map (shiftTk (A.length + 1)) := fun t => by simp
    by_cases hlt : k < b.size
    · rw [if_pos hlt, if_pos (show A.length + 1 + k < c.size by omega)]
      have hcls : clsAt c.data.toList (A.length + 1 + k) = clsAt b.data.toList k := by unfold clsAt; rw [hc, at_shift]
      have hsp : ∀ p, spanEnd p c.data.toList (A.length + 1 + k) = A.length + 1 + spanEnd p b.data.toList k := fun p => by rw [hc]; exact spanEnd_shift
      have hs : rsign c.data.toList (A.length + 1 + k) = rsign b.data.toList k := by rw [hc]; exact rsign_shift k
      have hle : ∀ p, k ≤ spanEnd p b.data.toList k ∧ spanEnd p b.data.toList k ≤ b.size := fun p => by
        have := spanEnd_le (p := p) (l := b.data.toList) (k := k) (by simp; omega)
        simp at this
        exact ⟨by unfold spanEnd; omega, by omega⟩
      have hx : ∀ j, k ≤ j → c.extract (A.length + 1 + k) (A.length + 1 + j) = b.extract k j := fun j hj => text_shift hc k j hj
      have h4 := rsign_le hlt
      have hcl2 := clsAt_eq hlt
      have hall := cls_facts b[k]
      have hsh : ∀ (K : Int) (x : ByteArray), (⟨K, x, A.length + 1 + k⟩ : Tk) = shiftTk (A.length + 1) ⟨K, x, k⟩ := fun _ _ => rfl
      rw [hcls, hsp, hsp, hsp, hs, hop, hx _ (hle goesB).1, hx _ (hle digitB).1, show A.length + 1 + k + rsign b.data.toList k = A.length + 1 + (k + rsign b.data.toList k) from by omega, hx _ (by omega), show A.length + 1 + k + 1 = A.length + 1 + (k + 1) from rfl]
      have sz : ∀ x : Nat, A.length + 1 + x - (A.length + 1 + k) = x - k := fun x => by omega
      rw [sz, hsh, hsh, hsh, hsh, snoc, snoc, snoc, snoc]
      by_cases q1 : clsAt b.data.toList k = 1
      · simp only [if_pos q1]
        exact ih (b.size - (k + 1)) (by omega) _ rfl (by omega) _ _ _ (by omega) (by omega)
      · simp only [if_neg q1]
        by_cases q2 : clsAt b.data.toList k = 2
        · simp only [if_pos q2]
          cases ho : openOf acc
          · exact ih (b.size - (k + 1)) (by omega) _ rfl (by omega) _ _ _ (by omega) (by omega)
          · exact ih (b.size - (k + 1)) (by omega) _ rfl (by omega) _ _ _ (by omega) (by omega)
        · simp only [if_neg q2]
          by_cases q6 : clsAt b.data.toList k = 6
          · simp only [if_pos q6]
            have hg2 := spanEnd_gt (p := fun b => decide (b ≠ 10)) hlt (by rw [decide_eq_true_eq]; rw [hcl2] at q2; exact hall.2.2.2.2.2.2.1 q2)
            exact ih (b.size - spanEnd (fun b => decide (b ≠ 10)) b.data.toList k) (by omega) _ rfl (by omega) _ _ _ (by omega) (by omega)
          · simp only [if_neg q6]
            by_cases q3 : clsAt b.data.toList k = 3
            · simp only [if_pos q3]
              by_cases h16 : 16 < spanEnd goesB b.data.toList k - k
              · simp only [if_pos h16]; rfl
              · simp only [if_neg h16]
                have hg2 := spanEnd_gt (p := goesB) hlt (by rw [hcl2] at q3; unfold goesB; rw [hall.2.2.2.1 q3]; rfl)
                exact ih (b.size - spanEnd goesB b.data.toList k) (by omega) _ rfl (by omega) _ _ _ (by omega) (by omega)
            · simp only [if_neg q3]
              by_cases q4 : clsAt b.data.toList k = 4
              · simp only [if_pos q4]
                cases hnum : (rnumOf (b.extract k (spanEnd digitB b.data.toList k)).data.toList).2
                · rfl
                · simp only [Bool.true_eq_false, if_false]
                  have hg2 := spanEnd_gt (p := digitB) hlt (by rw [hcl2] at q4; exact (hall.2.2.2.2.1 q4).1)
                  exact ih (b.size - spanEnd digitB b.data.toList k) (by omega) _ rfl (by omega) _ _ _ (by omega) (by omega)
              · simp only [if_neg q4]
                by_cases q0 : rsign b.data.toList k = 0
                · simp only [if_pos q0]; rfl
                · simp only [if_neg q0]
                  exact ih (b.size - (k + rsign b.data.toList k)) (by omega) _ rfl (by omega) _ _ _ (by omega) (by omega)
    · obtain rfl : k = b.size := by omega
      rw [if_neg hlt, if_neg (show ¬ A.length + 1 + b.size < c.size by omega), hop]
      simp only [ne_eq, not_true_eq_false, if_false]
      rw [hcl]
      cases openOf acc
      · rfl
      · simp [shiftTk]
end Go.Proofs.YtgpndifkkaomcaaDoor
