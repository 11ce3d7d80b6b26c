/- The candidate that Parse makes of a message's text is the message. -/
import Derived.Test.YthllacodjeocmaaGreatDoorL1
namespace Go.Proofs.YthllacodjeocmaaGreatDoor
open Go.RowKit
theorem hd_wb (l : List UInt8) (r : List ByteArray) : hd (wb l :: r) = wb l := rfl
theorem name_kind : ∀ k : Fin 13, ((nameOf k.val).data.toList == wKind) = false := by decide +kernel
theorem kind_none (first : ByteArray) (h : ∀ j, 1 ≤ j → j ≤ 12 → isW (nameOf j) first.toList = false) : ∀ (n : Nat) (k : UInt8), n ≤ 12 → kindLoop first n k = k
  | 0, _, _ => rfl
  | n + 1, k, hn => by
    rw [kindLoop, h (12 - n) (by omega) (by omega)]
    exact kind_none first h n k (by omega)
theorem kind_table : ∀ k : Fin 13, 1 ≤ k.val → kindLoop (wb (nameOf k.val).data.toList) 12 0 = UInt8.ofNat k.val := by
  have hw : ∀ l : List UInt8, (wb l).toList = l := fun l => by rw [ByteArray.toList_eq]; rfl
  have hn : ∀ (k : Nat) (l : List UInt8), isW (nameOf k) l = ((nameOf k).data.toList == l) := fun k l => by unfold isW; rw [ByteArray.toList_eq]
  intro k hk
  match k, hk with
  | 1, _ => simp only [kindLoop, hw, hn]; decide +kernel
  | 2, _ => simp only [kindLoop, hw, hn]; decide +kernel
  | 3, _ => simp only [kindLoop, hw, hn]; decide +kernel
  | 4, _ => simp only [kindLoop, hw, hn]; decide +kernel
  | 5, _ => simp only [kindLoop, hw, hn]; decide +kernel
  | 6, _ => simp only [kindLoop, hw, hn]; decide +kernel
  | 7, _ => simp only [kindLoop, hw, hn]; decide +kernel
  | 8, _ => simp only [kindLoop, hw, hn]; decide +kernel
  | 9, _ => simp only [kindLoop, hw, hn]; decide +kernel
  | 10, _ => simp only [kindLoop, hw, hn]; decide +kernel
  | 11, _ => simp only [kindLoop, hw, hn]; decide +kernel
  | 12, _ => simp only [kindLoop, hw, hn]; decide +kernel
/-- The rest of the words behind the way. -/
def optW (m : Mg) : List (List UInt8) := (if m.a.toNat = 0 then [] else [wAsker, dec m.a]) ++ (if m.c.toNat = 0 then [] else [wAcks, dec m.c]) ++ (if m.al = false then [] else [wAlone]) ++
  (if decide (m.d0 = 0 ∧ m.d1 = 0 ∧ m.d2 = 0 ∧ m.d3 = 0) = true then [] else [wData, dec m.d0, dec m.d1, dec m.d2, dec m.d3])
theorem words_split (m : Mg) : wordsOf m = headW m.k ++ (dec m.f ++ [62] ++ dec m.t) :: wLine :: dec m.l :: optW m := by
  unfold wordsOf optW
  simp
theorem loopC_fuel : ∀ (n k : Nat) (m : Mg) (r : List ByteArray), r.length ≤ n → r.length ≤ k → loopC n m r = loopC k m r
  | 0, k, m, r, h, _ => by
    obtain rfl : r = [] := List.eq_nil_of_length_eq_zero (by omega)
    cases k <;> rfl
  | n + 1, 0, m, r, _, h => by
    obtain rfl : r = [] := List.eq_nil_of_length_eq_zero (by omega)
    rfl
  | n + 1, k + 1, m, [], _, _ => rfl
  | n + 1, k + 1, m, x :: r, h1, h2 => by
    have ih := fun m r' (h : r'.length ≤ r.length) => loopC_fuel n k m r' (by simp at h1; omega) (by simp at h2; omega)
    rw [loopC, loopC]
    rw [ih _ r.tail (by simp), ih _ r.tail (by simp), ih _ r.tail (by simp), ih _ r (Nat.le_refl _), ih _ r.tail.tail.tail.tail (by simp; omega), ih _ r (Nat.le_refl _)]
theorem loop_opt (m M : Mg) (hk : M.k = m.k) (hf : M.f = m.f) (ht : M.t = m.t) (hl : M.l = m.l) (ha : M.a = 0) (hc : M.c = 0) (hal : M.al = false) (h0 : M.d0 = 0) (h1 : M.d1 = 0) (h2 : M.d2 = 0) (h3 : M.d3 = 0) : loopC 20 M ((optW m).map wb) = m := by
  obtain ⟨k, f, t, l, a, c, al, d0, d1, d2, d3⟩ := m
  obtain ⟨k', f', t', l', a', c', al', e0, e1, e2, e3⟩ := M
  simp only at hk hf ht hl ha hc hal h0 h1 h2 h3
  subst hk hf ht hl ha hc hal h0 h1 h2 h3
  have z : ∀ n : UInt8, n.toNat = 0 → n = 0 := fun n h => UInt8.toNat_inj.1 h
  have w1 : (wAsker == wLine) = false := by decide
  have w2 : (wAcks == wLine) = false := by decide
  have w3 : (wAcks == wAsker) = false := by decide
  have w4 : (wAlone == wLine) = false := by decide
  have w5 : (wAlone == wAsker) = false := by decide
  have w6 : (wAlone == wAcks) = false := by decide
  have w7 : (wData == wLine) = false := by decide
  have w8 : (wData == wAsker) = false := by decide
  have w9 : (wData == wAcks) = false := by decide
  have w10 : (wData == wAlone) = false := by decide
  unfold optW
  simp only
  by_cases qa : a.toNat = 0
  · have := z a qa
    subst this
    by_cases qc : c.toNat = 0
    · have := z c qc
      subst this
      cases al
      · skip
        by_cases qd : d0 = 0 ∧ d1 = 0 ∧ d2 = 0 ∧ d3 = 0
        · obtain ⟨rfl, rfl, rfl, rfl⟩ := qd
          rw [if_pos (by decide), if_pos (by decide), if_pos rfl, if_pos (by simp)]
          rfl
        · rw [if_pos (by decide), if_pos (by decide), if_pos rfl, if_neg (by simpa using qd)]
          simp [loopC, isW_wb, hd_wb, numB_dec, *]
      · skip
        by_cases qd : d0 = 0 ∧ d1 = 0 ∧ d2 = 0 ∧ d3 = 0
        · obtain ⟨rfl, rfl, rfl, rfl⟩ := qd
          rw [if_pos (by decide), if_pos (by decide), if_neg (by decide), if_pos (by simp)]
          simp [loopC, isW_wb, *]
        · rw [if_pos (by decide), if_pos (by decide), if_neg (by decide), if_neg (by simpa using qd)]
          simp [loopC, isW_wb, hd_wb, numB_dec, *]
    · skip
      cases al
      · skip
        by_cases qd : d0 = 0 ∧ d1 = 0 ∧ d2 = 0 ∧ d3 = 0
        · obtain ⟨rfl, rfl, rfl, rfl⟩ := qd
          rw [if_pos (by decide), if_neg qc, if_pos rfl, if_pos (by simp)]
          simp [loopC, isW_wb, hd_wb, numB_dec, *]
        · rw [if_pos (by decide), if_neg qc, if_pos rfl, if_neg (by simpa using qd)]
          simp [loopC, isW_wb, hd_wb, numB_dec, *]
      · skip
        by_cases qd : d0 = 0 ∧ d1 = 0 ∧ d2 = 0 ∧ d3 = 0
        · obtain ⟨rfl, rfl, rfl, rfl⟩ := qd
          rw [if_pos (by decide), if_neg qc, if_neg (by decide), if_pos (by simp)]
          simp [loopC, isW_wb, hd_wb, numB_dec, *]
        · rw [if_pos (by decide), if_neg qc, if_neg (by decide), if_neg (by simpa using qd)]
          simp [loopC, isW_wb, hd_wb, numB_dec, *]
  · skip
    by_cases qc : c.toNat = 0
    · have := z c qc
      subst this
      cases al
      · skip
        by_cases qd : d0 = 0 ∧ d1 = 0 ∧ d2 = 0 ∧ d3 = 0
        · obtain ⟨rfl, rfl, rfl, rfl⟩ := qd
          rw [if_neg qa, if_pos (by decide), if_pos rfl, if_pos (by simp)]
          simp [loopC, isW_wb, hd_wb, numB_dec, *]
        · rw [if_neg qa, if_pos (by decide), if_pos rfl, if_neg (by simpa using qd)]
          simp [loopC, isW_wb, hd_wb, numB_dec, *]
      · skip
        by_cases qd : d0 = 0 ∧ d1 = 0 ∧ d2 = 0 ∧ d3 = 0
        · obtain ⟨rfl, rfl, rfl, rfl⟩ := qd
          rw [if_neg qa, if_pos (by decide), if_neg (by decide), if_pos (by simp)]
          simp [loopC, isW_wb, hd_wb, numB_dec, *]
        · rw [if_neg qa, if_pos (by decide), if_neg (by decide), if_neg (by simpa using qd)]
          simp [loopC, isW_wb, hd_wb, numB_dec, *]
    · skip
      cases al
      · skip
        by_cases qd : d0 = 0 ∧ d1 = 0 ∧ d2 = 0 ∧ d3 = 0
        · obtain ⟨rfl, rfl, rfl, rfl⟩ := qd
          rw [if_neg qa, if_neg qc, if_pos rfl, if_pos (by simp)]
          simp [loopC, isW_wb, hd_wb, numB_dec, *]
        · rw [if_neg qa, if_neg qc, if_pos rfl, if_neg (by simpa using qd)]
          simp [loopC, isW_wb, hd_wb, numB_dec, *]
      · skip
        by_cases qd : d0 = 0 ∧ d1 = 0 ∧ d2 = 0 ∧ d3 = 0
        · obtain ⟨rfl, rfl, rfl, rfl⟩ := qd
          rw [if_neg qa, if_neg qc, if_neg (by decide), if_pos (by simp)]
          simp [loopC, isW_wb, hd_wb, numB_dec, *]
        · rw [if_neg qa, if_neg qc, if_neg (by decide), if_neg (by simpa using qd)]
          simp [loopC, isW_wb, hd_wb, numB_dec, *]
theorem opt_len (m : Mg) : (optW m).length ≤ 10 := by
  unfold optW
  simp only [List.length_append]
  have h1 : (if m.a.toNat = 0 then ([] : List (List UInt8)) else [wAsker, dec m.a]).length ≤ 2 := by split <;> simp
  have h2 : (if m.c.toNat = 0 then ([] : List (List UInt8)) else [wAcks, dec m.c]).length ≤ 2 := by split <;> simp
  have h3 : (if m.al = false then ([] : List (List UInt8)) else [wAlone]).length ≤ 1 := by split <;> simp
  have h4 : (if decide (m.d0 = 0 ∧ m.d1 = 0 ∧ m.d2 = 0 ∧ m.d3 = 0) = true then ([] : List (List UInt8)) else [wData, dec m.d0, dec m.d1, dec m.d2, dec m.d3]).length ≤ 5 := by split <;> simp
  omega
theorem cand_words (m : Mg) : candP ((wordsOf m).map wb) = m := by
  have hw : ∀ l : List UInt8, (wb l).toList = l := fun l => by rw [ByteArray.toList_eq]; rfl
  have hn : ∀ (k : Nat) (l : List UInt8), isW (nameOf k) l = ((nameOf k).data.toList == l) := fun k l => by unfold isW; rw [ByteArray.toList_eq]
  have hlen := opt_len m
  -- the last step: the way's words and what follows
  have tail : ∀ k0 : UInt8, k0 = m.k → ∀ n, (wb wLine :: wb (dec m.l) :: (optW m).map wb).length ≤ n →
      loopC n { zeroM with k := k0, f := m.f, t := m.t } (wb wLine :: wb (dec m.l) :: (optW m).map wb) = m := by
    intro k0 hk0 n hn2
    rw [loopC_fuel n 21 _ _ hn2 (by simp; omega), loopC, isW_wb]
    rw [if_pos (by decide), List.tail_cons, hd_wb, numB_dec]
    exact loop_opt m _ hk0 rfl rfl rfl rfl rfl rfl rfl rfl rfl rfl
  have hct : Lib.cut (wb (dec m.f ++ [62] ++ dec m.t)).data.toList [62] = (dec m.f, dec m.t, true) := cut_ft m.f m.t
  rw [words_split]
  unfold candP
  cases hk : knownB m.k
  · have hh : headW m.k = [wKind, dec m.k] := by unfold headW; rw [hk]; rfl
    rw [hh]
    have hkk : kindLoop (wb wKind) 12 (numB (wb (dec m.k))) = m.k := by
      rw [kind_none (wb wKind) (fun j h1 h2 => by rw [hw, hn]; exact name_kind ⟨j, by omega⟩) 12 _ (Nat.le_refl _), numB_dec]
    have hi : isW (wb wKind) wKind = true := by rw [isW_wb]; decide
    show loopC _ { zeroM with k := _, f := _, t := _ } _ = m
    simp only [List.map_cons, List.cons_append, List.nil_append, hd_wb, List.tail_cons, hi, if_true, hct, hkk]
    show loopC _ { zeroM with k := m.k, f := numB (wb (dec m.f)), t := numB (wb (dec m.t)) } _ = m
    rw [numB_dec, numB_dec]
    exact tail m.k rfl _ (Nat.le_refl _)
  · have hb := of_decide_eq_true hk
    have hh : headW m.k = [(nameOf m.k.toNat).data.toList] := by unfold headW; rw [hk]; rfl
    rw [hh]
    have hkk : kindLoop (wb (nameOf m.k.toNat).data.toList) 12 0 = m.k := by
      rw [kind_table ⟨m.k.toNat, hb.2⟩ hb.1]
      simp
    have hi : isW (wb (nameOf m.k.toNat).data.toList) wKind = false := by rw [isW_wb]; exact name_kind ⟨m.k.toNat, hb.2⟩
    show loopC _ { zeroM with k := _, f := _, t := _ } _ = m
    simp only [List.map_cons, List.cons_append, List.nil_append, hd_wb, List.tail_cons, hi, Bool.false_eq_true, if_false, hct, hkk]
    show loopC _ { zeroM with k := m.k, f := numB (wb (dec m.f)), t := numB (wb (dec m.t)) } _ = m
    rw [numB_dec, numB_dec]
    exact tail m.k rfl _ (Nat.le_refl _)
theorem parse_text (s : ByteArray) (m : Mg) (h : s.data.toList = textOf m) : parseOf s = (m, 0) := by
  have hw := wsOf_text s (wordsOf m) (words_chars m) (fun h => by have := words_pos m; rw [h] at this; simp at this) h
  unfold parseOf
  rw [hw, cand_words, if_pos h.symm]
theorem text_inj {m o : Mg} (h : textOf m = textOf o) : m = o := by
  have h1 := parse_text ⟨(textOf m).toArray⟩ m rfl
  have h2 := parse_text ⟨(textOf m).toArray⟩ o h
  rw [h1] at h2
  exact (Prod.mk.inj h2).1
end Go.Proofs.YthllacodjeocmaaGreatDoor
