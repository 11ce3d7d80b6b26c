/- Parsing the text of a message yields the message. -/
import Derived.Test.YthllacodjeocmaaGreatDoorM5
namespace Go.Proofs.YthllacodjeocmaaGreatDoor
open Go.RowKit
theorem index_sp (c : UInt8) : ∀ (a : List UInt8) (_ : ∀ b ∈ a, b ≠ c) (r : List UInt8), Lib.index (a ++ c :: r) [c] = a.length
  | [], _, r => by rw [Lib.index_one]; simp [Lib.indexByte]
  | b :: a, h, r => by
    have ih := index_sp c a (fun x hx => h x (by simp [hx])) r
    rw [Lib.index_one] at ih ⊢
    have hb : (b == c) = false := by rw [beq_eq_false_iff_ne]; exact h b (by simp)
    have hn : ((a.length : Int) == -1) = false := by rw [beq_eq_false_iff_ne]; omega
    rw [List.cons_append, Lib.indexByte, hb, ih, hn]
    simp
theorem index_no (c : UInt8) : ∀ (a : List UInt8) (_ : ∀ b ∈ a, b ≠ c), Lib.index a [c] = -1
  | [], _ => rfl
  | b :: a, h => by
    have ih := index_no c a (fun x hx => h x (by simp [hx]))
    rw [Lib.index_one] at ih ⊢
    have hb : (b == c) = false := by rw [beq_eq_false_iff_ne]; exact h b (by simp)
    rw [Lib.indexByte, hb, ih]
    rfl
theorem join_two (a b : List UInt8) (r : List (List UInt8)) : Lib.join (a :: b :: r) [32] = a ++ 32 :: Lib.join (b :: r) [32] := by
  rw [Lib.join_cons, Lib.join_cons]
  unfold Lib.joinTail
  simp
theorem split_join : ∀ (ws : List (List UInt8)) (_ : ∀ w ∈ ws, ∀ b ∈ w, b ≠ 32) (_ : ws ≠ []), Lib.splitK [32] 0 (Lib.count (Lib.join ws [32]) [32]) (Lib.join ws [32]) = ws
  | [], _, h => absurd rfl h
  | [a], h, _ => by
    rw [Lib.join_one, Lib.count_miss (index_no 32 a (h a (by simp)))]
    rfl
  | a :: b :: r, h, _ => by
    have ih := split_join (b :: r) (fun w hw => h w (by simp [hw])) (by simp)
    have hi := index_sp 32 a (h a (by simp)) (Lib.join (b :: r) [32])
    rw [join_two]
    have hd : (a ++ 32 :: Lib.join (b :: r) [32]).drop (a.length + ([32] : List UInt8).length) = Lib.join (b :: r) [32] := by simp
    rw [Lib.count_hit (by simp) hi, hd, Nat.add_comm 1, Lib.splitK, hi]
    have hn : ((a.length : Int) == -1) = false := by rw [beq_eq_false_iff_ne]; omega
    rw [hn]
    simp only [Bool.false_eq_true, if_false, Int.toNat_natCast, Nat.add_zero]
    rw [hd, ih]
    simp
theorem list_inj0 {s t : ByteArray} (h : s.data.toList = t.data.toList) : s = t := by
  obtain ⟨⟨x⟩⟩ := s
  obtain ⟨⟨y⟩⟩ := t
  exact congrArg (fun l => ByteArray.mk (Array.mk l)) h
def wb (l : List UInt8) : ByteArray := ⟨l.toArray⟩
theorem wb_back (xs : List ByteArray) (ws : List (List UInt8)) (h : xs.map (·.data.toList) = ws) : xs = ws.map wb := by
  subst h
  rw [List.map_map]
  conv => lhs; rw [← List.map_id xs]
  apply List.map_congr_left
  intro x _
  exact list_inj0 rfl
theorem wsOf_text (s : ByteArray) (ws : List (List UInt8)) (h : ∀ w ∈ ws, ∀ b ∈ w, b ≠ 32) (h0 : ws ≠ []) (hs : s.data.toList = Lib.join ws [32]) : wsOf s = ws.map wb := by
  apply wb_back
  unfold wsOf
  rw [Lib.splitB_data]
  show Lib.splitK [32] 0 (Lib.count s.data.toList [32]) s.data.toList = ws
  rw [hs]
  exact split_join ws h h0
theorem dec_ok : ∀ n : Fin 256, (Lib.itoa (n.val : Int)).all (fun b => b != 32 && b != 62) = true := by decide +kernel
theorem dec_chars (n : UInt8) : ∀ b ∈ dec n, b ≠ 32 ∧ b ≠ 62 := by
  have := List.all_eq_true.1 (dec_ok ⟨n.toNat, n.toNat_lt⟩)
  intro b hb
  have h := this b hb
  simpa using h
theorem name_ok : ∀ k : Fin 13, (nameOf k.val).data.toList.all (fun b => b != 32) = true := by decide +kernel
theorem num_back : ∀ n : Fin 256, (parse8 (Lib.itoa (n.val : Int))).1 = n.val := by decide +kernel
theorem numB_dec (n : UInt8) : numB (wb (dec n)) = n := by
  have := num_back ⟨n.toNat, n.toNat_lt⟩
  unfold numB
  show UInt8.ofNat (parse8 (dec n)).1 = n
  unfold dec
  rw [this]
  simp
theorem cut_ft (f t : UInt8) : Lib.cut (dec f ++ [62] ++ dec t) [62] = (dec f, dec t, true) := by
  have hi := index_sp 62 (dec f) (fun b hb => (dec_chars f b hb).2) (dec t)
  have he : dec f ++ [62] ++ dec t = dec f ++ 62 :: dec t := by simp
  rw [he]
  unfold Lib.cut
  rw [hi, if_pos (by omega)]
  simp
theorem isW_wb (l l' : List UInt8) : isW (wb l) l' = (l == l') := by
  unfold isW
  rw [ByteArray.toList_eq]
  rfl
theorem words_chars (m : Mg) : ∀ w ∈ wordsOf m, ∀ b ∈ w, b ≠ 32 := by
  intro x hx
  have dc : ∀ n : UInt8, ∀ b ∈ dec n, b ≠ 32 := fun n b hb => (dec_chars n b hb).1
  have lit : ∀ l : List UInt8, l.all (fun b => b != 32) = true → ∀ b ∈ l, b ≠ 32 := fun l h b hb => by
    have := List.all_eq_true.1 h b hb
    simpa using this
  unfold wordsOf at hx
  rcases List.mem_append.1 hx with hx | hx
  · rcases List.mem_append.1 hx with hx | hx
    · rcases List.mem_append.1 hx with hx | hx
      · rcases List.mem_append.1 hx with hx | hx
        · rcases List.mem_append.1 hx with hx | hx
          · unfold headW at hx
            split at hx
            · rename_i h
              have := of_decide_eq_true h
              rw [List.mem_singleton] at hx
              subst hx
              exact lit _ (name_ok ⟨m.k.toNat, this.2⟩)
            · simp only [List.mem_cons, List.not_mem_nil, or_false] at hx
              rcases hx with rfl | rfl
              · exact lit _ (by decide)
              · exact dc _
          · simp only [List.mem_cons, List.not_mem_nil, or_false] at hx
            rcases hx with rfl | rfl | rfl
            · intro b hb
              rcases List.mem_append.1 hb with hb | hb
              · rcases List.mem_append.1 hb with hb | hb
                · exact dc _ b hb
                · exact lit [62] (by decide) b hb
              · exact dc _ b hb
            · exact lit _ (by decide)
            · exact dc _
        · split at hx
          · simp at hx
          · simp only [List.mem_cons, List.not_mem_nil, or_false] at hx
            rcases hx with rfl | rfl
            · exact lit _ (by decide)
            · exact dc _
      · split at hx
        · simp at hx
        · simp only [List.mem_cons, List.not_mem_nil, or_false] at hx
          rcases hx with rfl | rfl
          · exact lit _ (by decide)
          · exact dc _
    · split at hx
      · simp at hx
      · rw [List.mem_singleton] at hx; subst hx; exact lit _ (by decide)
  · split at hx
    · simp at hx
    · simp only [List.mem_cons, List.not_mem_nil, or_false] at hx
      rcases hx with rfl | rfl | rfl | rfl | rfl
      · exact lit _ (by decide)
      · exact dc _
      · exact dc _
      · exact dc _
      · exact dc _
end Go.Proofs.YthllacodjeocmaaGreatDoor
