/- The program's lexer and the reference's are one plain function. -/
import Derived.Test.YtgpndifkkaomcaaDoorR3
import Derived.Test.YtgpndifkkaomcaaDoorP1
import Derived.Test.YtgpndifkkaomcaaDoorP2
namespace Go.Proofs.YtgpndifkkaomcaaDoor
open Go.RowKit
theorem lexRun_fuel (s : ByteArray) : ∀ (n k : Nat), s.size - k = n → ∀ (f g : Nat) (o : Bool) (acc : List Tk), n < f → n < g → lexRun s f k o acc = lexRun s g k o acc := by
  intro n
  induction n using Nat.strongRecOn with
  | _ n ih =>
    intro k hn f g o acc hf hg
    obtain ⟨f, rfl⟩ : ∃ f', f = f' + 1 := ⟨f - 1, by omega⟩
    obtain ⟨g, rfl⟩ : ∃ g', g = g' + 1 := ⟨g - 1, by omega⟩
    rw [lexRun, lexRun]
    by_cases hlt : k < s.size
    · rw [if_pos hlt, if_pos hlt]
      by_cases he : (nx s k o).e = 0
      · have hs := nx_step hlt he
        have hne : ¬ ((nx s k o).e ≠ 0) := fun h => h he
        rw [if_neg hne, if_neg hne]
        exact ih (s.size - (nx s k o).j) (by omega) _ rfl f g _ _ (by omega) (by omega)
      · rw [if_pos he, if_pos he]
    · rw [if_neg hlt, if_neg hlt]
theorem rsign_pos {s : ByteArray} {k : Nat} : rsign s.data.toList k = 0 ∨ rsign s.data.toList k = 1 ∨ rsign s.data.toList k = 2 := by
  unfold rsign
  split
  · exact .inr (.inr rfl)
  · split
    · exact .inr (.inl rfl)
    · exact .inl rfl
theorem sign_table : ∀ n : Fin 256, inSigns (UInt8.ofNat n.val) = decide (clsB (n.val : Int) = 7) := by decide +kernel
theorem sign_cls (b : UInt8) : inSigns b = decide (clsB b.toNat = 7) := by
  have h := sign_table ⟨b.toNat, b.toNat_lt⟩
  simp only at h
  rw [← h]
  congr 1
  simp
theorem prefix_two (l : List UInt8) (k : Nat) (a b : UInt8) : Lib.hasPrefix (l.drop k) [a, b] = (decide (k + 1 < l.length) && ((l[k]?.getD 0).toNat == a.toNat) && ((l[k + 1]?.getD 0).toNat == b.toNat)) := by
  by_cases h : k + 1 < l.length
  · have h0 : k < l.length := by omega
    have hd : l.drop k = l[k] :: l[k + 1] :: l.drop (k + 1 + 1) := by rw [List.drop_eq_getElem_cons h0, List.drop_eq_getElem_cons h]
    rw [List.getElem?_eq_getElem h0, List.getElem?_eq_getElem h, hd]
    generalize l[k] = x
    generalize l[k + 1] = y
    generalize l.drop (k + 1 + 1) = r
    unfold Lib.hasPrefix
    rw [Bool.eq_iff_iff]
    simp [h, List.cons_prefix_cons, UInt8.toNat_inj]
    constructor
    · rintro ⟨rfl, rfl⟩; exact ⟨rfl, rfl⟩
    · rintro ⟨rfl, rfl⟩; exact ⟨rfl, rfl⟩
  · have hd : decide (k + 1 < l.length) = false := decide_eq_false h
    rw [hd]
    cases hp : Lib.hasPrefix (l.drop k) [a, b]
    · rfl
    · have := hasPrefix_len (l := l.drop k) (p := [a, b]) hp
      simp at this
      omega
theorem two_eq (l : List UInt8) (k : Nat) : (Lib.hasPrefix (l.drop k) [61, 61] = true ∨ Lib.hasPrefix (l.drop k) [33, 61] = true) ↔ twoAt l k = true := by
  rw [prefix_two, prefix_two]
  unfold twoAt
  cases decide (k + 1 < l.length) <;> cases h1 : ((l[k + 1]?.getD 0).toNat == 61) <;> cases h2 : ((l[k]?.getD 0).toNat == 61) <;> cases h3 : ((l[k]?.getD 0).toNat == 33) <;> simp_all
theorem rsign_eq {s : ByteArray} {k : Nat} (hlt : k < s.size) : rsign s.data.toList k = if clsB s[k].toNat = 7 then signLen s.data.toList k else 0 := by
  have ha := at_eq hlt
  by_cases h7 : clsB s[k].toNat = 7
  · rw [if_pos h7]
    unfold rsign signLen
    by_cases ht : twoAt s.data.toList k = true
    · rw [if_pos ht, if_pos ((two_eq _ _).2 ht)]
    · rw [if_neg ht, if_neg (fun h => ht ((two_eq _ _).1 h)), ha, sign_cls, decide_eq_true h7]
      rfl
  · rw [if_neg h7]
    unfold rsign
    rw [ha, sign_cls, decide_eq_false h7]
    have ht : ¬ twoAt s.data.toList k = true := by
      intro ht
      unfold twoAt at ht
      rw [ha] at ht
      simp at ht
      apply h7
      rcases ht.2 with h | h
      · rw [h]; decide
      · rw [h]; decide
    rw [if_neg ht]
    rfl
theorem openOf_end (ts : List Tk) (t : Tk) : openOf (ts ++ [t]) = decide (t.K ≠ 4) := by unfold openOf; simp
theorem lex_eq_run (s : ByteArray) : ∀ (n k : Nat), s.size - k = n → k ≤ s.size → ∀ (f g : Nat) (acc : List Tk), n < f → n < g → lexRun s f k (openOf acc) acc = rlex s g k acc := by
  intro n
  induction n using Nat.strongRecOn with
  | _ n ih =>
    intro k hn hk f g acc hf hg
    obtain ⟨f, rfl⟩ : ∃ f', f = f' + 1 := ⟨f - 1, by omega⟩
    obtain ⟨g, rfl⟩ : ∃ g', g = g' + 1 := ⟨g - 1, by omega⟩
    rw [lexRun, rlex]
    by_cases hlt : k < s.size
    · rw [if_pos hlt, if_pos hlt]
      have hst := @nx_step s k (openOf acc) hlt
      have hrs := rsign_eq hlt
      have hcl := clsAt_eq hlt
      rcases clsB_cases s[k].toNat with h | h | h | h | h | h | h | h
      · -- no class
        have hx : nx s k (openOf acc) = ⟨0, ⟨#[]⟩, k, openOf acc, 40⟩ := by unfold nx; rw [hcl, h]; rfl
        rw [hx, hcl, h, hrs, h]; rfl
      · -- blanks
        have hx : nx s k (openOf acc) = ⟨0, ⟨#[]⟩, spanEnd (fun b => isBlanks (clsB b)) s.data.toList k, openOf acc, 0⟩ := by unfold nx; rw [hcl, h]; rfl
        rw [hx] at hst ⊢
        obtain ⟨h1, h2⟩ := hst rfl
        rw [hcl, h]
        show lexRun s f (spanEnd (fun b => isBlanks (clsB b)) s.data.toList k) (openOf acc) acc = rlex s g (k + 1) acc
        rw [← ih (s.size - (k + 1)) (by omega) (k + 1) rfl (by omega) (s.size + 1) g acc (by omega) (by omega)]
        have hp : isBlanks (clsB s[k].toNat) = true := by rw [h]; rfl
        have hsp := spanEnd_lt (p := fun b => isBlanks (clsB b)) hlt hp
        rw [hsp]
        by_cases hl1 : k + 1 < s.size
        · by_cases hc1 : clsB s[k + 1].toNat = 1
          · have hx1 : nx s (k + 1) (openOf acc) = ⟨0, ⟨#[]⟩, spanEnd (fun b => isBlanks (clsB b)) s.data.toList (k + 1), openOf acc, 0⟩ := by unfold nx; rw [clsAt_eq hl1, hc1]; rfl
            have hs1 := @nx_step s (k + 1) (openOf acc) hl1
            rw [hx1] at hs1
            obtain ⟨h3, h4⟩ := hs1 rfl
            rw [show lexRun s (s.size + 1) (k + 1) (openOf acc) acc = lexRun s s.size (spanEnd (fun b => isBlanks (clsB b)) s.data.toList (k + 1)) (openOf acc) acc from by
              rw [lexRun, if_pos hl1, hx1]; rfl]
            simp only at h3 h4
            exact lexRun_fuel s _ _ rfl _ _ _ _ (by omega) (by omega)
          · have hp1 : isBlanks (clsB s[k + 1].toNat) = false := by unfold isBlanks; exact decide_eq_false hc1
            rw [spanEnd_stop (p := fun b => isBlanks (clsB b)) hl1 hp1]
            exact lexRun_fuel s _ _ rfl _ _ _ _ (by omega) (by omega)
        · rw [spanEnd_end (p := fun b => isBlanks (clsB b)) (by omega)]
          exact lexRun_fuel s _ _ rfl _ _ _ _ (by omega) (by omega)
      · -- a newline
        have hx : nx s k (openOf acc) = ⟨if openOf acc then 4 else 0, ⟨#[]⟩, k + 1, false, 0⟩ := by unfold nx; rw [hcl, h]; rfl
        rw [hx, hcl, h]
        cases ho : openOf acc
        · have := ih (s.size - (k + 1)) (by omega) (k + 1) rfl (by omega) f g acc (by omega) (by omega)
          rw [ho] at this
          exact this
        · have := ih (s.size - (k + 1)) (by omega) (k + 1) rfl (by omega) f g (acc ++ [⟨4, ⟨#[]⟩, k⟩]) (by omega) (by omega)
          rw [openOf_end] at this
          exact this
      · -- a word
        have hw := spanEnd_congr (p := fun b => isWord (clsB b)) (q := goesB) word_eq s.data.toList k
        have hx : nx s k (openOf acc) = ⟨1, s.extract k (spanEnd goesB s.data.toList k), spanEnd goesB s.data.toList k, true, if spanEnd goesB s.data.toList k - k ≤ 16 then 0 else 42⟩ := by unfold nx; rw [hcl, h, hw]; rfl
        rw [hx] at hst ⊢
        rw [hcl, h]
        by_cases h16 : spanEnd goesB s.data.toList k - k ≤ 16
        · simp only [if_pos h16] at hst
          obtain ⟨h1, h2⟩ := hst trivial
          have := ih (s.size - spanEnd goesB s.data.toList k) (by omega) _ rfl (by omega) f g (acc ++ [⟨1, s.extract k (spanEnd goesB s.data.toList k), k⟩]) (by omega) (by omega)
          rw [openOf_end] at this
          simp only [if_pos h16, if_neg (show ¬ 16 < spanEnd goesB s.data.toList k - k by omega)]
          exact this
        · simp only [if_neg h16, if_pos (show 16 < spanEnd goesB s.data.toList k - k by omega)]
          rfl
      · -- a number
        have hw := spanEnd_congr (p := fun b => isDigits (clsB b)) (q := digitB) digits_eq s.data.toList k
        have hx : nx s k (openOf acc) = ⟨2, s.extract k (spanEnd digitB s.data.toList k), spanEnd digitB s.data.toList k, true, if (rnumOf (s.extract k (spanEnd digitB s.data.toList k)).data.toList).2 then 0 else 41⟩ := by unfold nx; rw [hcl, h, hw, num_eq]; rfl
        rw [hx] at hst ⊢
        rw [hcl, h]
        cases hr : (rnumOf (s.extract k (spanEnd digitB s.data.toList k)).data.toList).2
        · rfl
        · rw [hr] at hst
          obtain ⟨h1, h2⟩ := hst rfl
          simp only at h1 h2
          have := ih (s.size - spanEnd digitB s.data.toList k) (by omega) _ rfl (by omega) f g (acc ++ [⟨2, s.extract k (spanEnd digitB s.data.toList k), k⟩]) (by omega) (by omega)
          rw [openOf_end] at this
          exact this
      · -- a low line
        have hx : nx s k (openOf acc) = ⟨0, ⟨#[]⟩, k, openOf acc, 40⟩ := by unfold nx; rw [hcl, h]; rfl
        rw [hx, hcl, h, hrs, h]; rfl
      · -- a remark
        have hw := spanEnd_congr (p := fun b => isRemark (clsB b)) (q := fun b => decide (b ≠ 10)) remark_eq s.data.toList k
        have hx : nx s k (openOf acc) = ⟨0, ⟨#[]⟩, spanEnd (fun b => decide (b ≠ 10)) s.data.toList k, openOf acc, 0⟩ := by unfold nx; rw [hcl, h, ← hw]; rfl
        rw [hx] at hst ⊢
        obtain ⟨h1, h2⟩ := hst rfl
        simp only at h1 h2
        rw [hcl, h]
        exact ih (s.size - spanEnd (fun b => decide (b ≠ 10)) s.data.toList k) (by omega) _ rfl (by omega) f g acc (by omega) (by omega)
      · -- a sign
        have hx : nx s k (openOf acc) = ⟨3, s.extract k (k + signLen s.data.toList k), k + signLen s.data.toList k, true, 0⟩ := by unfold nx; rw [hcl, h]; rfl
        rw [hx] at hst ⊢
        obtain ⟨h1, h2⟩ := hst rfl
        simp only at h1 h2
        have hs1 := signLen_bound hlt
        rw [if_pos h] at hrs
        rw [hcl, h, hrs]
        have := ih (s.size - (k + signLen s.data.toList k)) (by omega) _ rfl (by omega) f g (acc ++ [⟨3, s.extract k (k + signLen s.data.toList k), k⟩]) (by omega) (by omega)
        rw [openOf_end] at this
        rw [if_neg (show ¬ signLen s.data.toList k = 0 by omega)]
        exact this
    · rw [if_neg hlt, if_neg hlt]
/-- The reference's Lex as a plain function. -/
def rlexOf (s : ByteArray) : List Tk × Nat × Int := if 16384 < s.size then ([], 0, 3) else rlex s (s.size + 1) 0 []
theorem lex_eq (s : ByteArray) : lexOf s = rlexOf s := by
  unfold lexOf rlexOf
  split
  · rfl
  · exact lex_eq_run s s.size 0 (by omega) (by omega) _ _ [] (by omega) (by omega)
end Go.Proofs.YtgpndifkkaomcaaDoor
