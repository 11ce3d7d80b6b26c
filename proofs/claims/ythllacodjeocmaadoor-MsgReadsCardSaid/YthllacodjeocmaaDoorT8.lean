/- The reference's parsing in plain words: it yields what Parse yields. -/
import Derived.Test.YthllacodjeocmaaDoorT6
namespace Go.Proofs.YthllacodjeocmaaDoor
open Go.RowKit
def valL (l : List UInt8) : UInt8 := valB (wb l)
def hdV (r : List (List UInt8)) : UInt8 := match r with | [] => 0 | x :: _ => valL x
/-- What one word does, the words behind it at hand. -/
def stepW (i : Nat) (x : List UInt8) (r : List (List UInt8)) (m : Mg) : Mg :=
  if i = 1 then { m with f := valL x, t := hdV r }
  else if x = wLine then { m with l := hdV r }
  else if x = wAsker then { m with a := hdV r }
  else if x = wAcks then { m with c := hdV r }
  else if x = wAlone then { m with al := true }
  else if x = wData ∧ 4 ≤ r.length then { m with d0 := hdV r, d1 := hdV (r.drop 1), d2 := hdV (r.drop 2), d3 := hdV (r.drop 3) }
  else m
def runW : Nat → List (List UInt8) → Mg → Mg
  | _, [], m => m
  | i, x :: r, m => runW (i + 1) r (stepW i x r m)
def kindR (x : List UInt8) : Nat → UInt8 → UInt8
  | 0, k => k
  | n + 1, k => if x = (nameOf (n + 1)).data.toList then UInt8.ofNat (n + 1) else kindR x n k
/-- The only candidate. -/
def candR (ws : List (List UInt8)) : Mg :=
  match ws with
  | [] => zeroM
  | x :: r => if x = wKind ∧ 1 ≤ r.length then (match r with | [] => zeroM | y :: r' => runW 1 r' { zeroM with k := kindR y 12 (valL y) }) else runW 1 r { zeroM with k := kindR x 12 0 }
def rparseOf (s : ByteArray) : Mg × Int := if textOf (candR (wsplit s.data.toList [])) = s.data.toList then (candR (wsplit s.data.toList []), 0) else (zeroM, 170)
-- plain facts
theorem wsplit_word : ∀ (a l c : List UInt8), (∀ b ∈ a, b ≠ 32 ∧ b ≠ 62) → wsplit (a ++ l) c = wsplit l (c ++ a)
  | [], l, c, _ => by simp
  | x :: a, l, c, h => by
    have hx := h x (by simp)
    rw [List.cons_append, wsplit, if_neg (by rintro (h1 | h1); exact hx.1 h1; exact hx.2 h1), wsplit_word a l (c ++ [x]) (fun b hb => h b (by simp [hb]))]
    simp
theorem wsplit_sep (b : UInt8) (l c : List UInt8) (hb : b = 32 ∨ b = 62) : wsplit (b :: l) c = c :: wsplit l [] := by rw [wsplit, if_pos hb]
def Clean (l : List UInt8) : Prop := ∀ b ∈ l, b ≠ 32 ∧ b ≠ 62
theorem wsplit_join : ∀ ws : List (List UInt8), (∀ x ∈ ws, Clean x) → ws ≠ [] → wsplit (Lib.join ws [32]) [] = ws
  | [], _, h => absurd rfl h
  | [a], h, _ => by
    rw [Lib.join_one]
    have := wsplit_word a [] [] (h a (by simp))
    rw [List.append_nil] at this
    rw [this]; rfl
  | a :: b :: r, h, _ => by
    rw [join_two, wsplit_word a _ [] (h a (by simp)), wsplit_sep 32 _ _ (.inl rfl), wsplit_join (b :: r) (fun x hx => h x (by simp [hx])) (by simp)]
    simp
theorem wsplit_mid : ∀ (pre : List (List UInt8)) (f t : List UInt8) (post : List (List UInt8)), (∀ x ∈ pre, Clean x) → Clean f → Clean t → (∀ x ∈ post, Clean x) → wsplit (Lib.join (pre ++ (f ++ [62] ++ t) :: post) [32]) [] = pre ++ f :: t :: post
  | [], f, t, [], _, hf, ht, _ => by
    show wsplit (Lib.join [f ++ [62] ++ t] [32]) [] = [f, t]
    rw [Lib.join_one, show f ++ [62] ++ t = f ++ 62 :: t by simp, wsplit_word f _ [] hf, wsplit_sep 62 _ _ (.inr rfl)]
    have := wsplit_word t [] [] ht
    rw [List.append_nil] at this
    rw [this]; rfl
  | [], f, t, p :: post, _, hf, ht, hp => by
    show wsplit (Lib.join ((f ++ [62] ++ t) :: p :: post) [32]) [] = f :: t :: p :: post
    rw [join_two, show f ++ [62] ++ t ++ 32 :: Lib.join (p :: post) [32] = f ++ 62 :: (t ++ 32 :: Lib.join (p :: post) [32]) by simp, wsplit_word f _ [] hf, wsplit_sep 62 _ _ (.inr rfl),
      wsplit_word t _ [] ht, wsplit_sep 32 _ _ (.inl rfl), wsplit_join (p :: post) hp (by simp)]
    simp
  | a :: pre, f, t, post, h, hf, ht, hp => by
    have ih := wsplit_mid pre f t post (fun x hx => h x (by simp [hx])) hf ht hp
    show wsplit (Lib.join (a :: (pre ++ (f ++ [62] ++ t) :: post)) [32]) [] = a :: (pre ++ f :: t :: post)
    obtain ⟨y, z, hy⟩ : ∃ y z, pre ++ (f ++ [62] ++ t) :: post = y :: z := by
      cases pre with
      | nil => exact ⟨_, _, rfl⟩
      | cons y z => exact ⟨_, _, rfl⟩
    rw [hy] at ih ⊢
    rw [join_two, wsplit_word a _ [] (h a (by simp)), wsplit_sep 32 _ _ (.inl rfl), ih]
    simp
theorem dec_clean (n : UInt8) : Clean (dec n) := dec_chars n
theorem val_table : ∀ n : Fin 256, valL (Lib.itoa (n.val : Int)) = UInt8.ofNat n.val := by decide +kernel
theorem val_dec (n : UInt8) : valL (dec n) = n := by
  have := val_table ⟨n.toNat, n.toNat_lt⟩
  unfold dec
  rw [this]
  simp
theorem dec_key : ∀ n : Fin 256, ¬ Lib.itoa (n.val : Int) = wLine ∧ ¬ Lib.itoa (n.val : Int) = wAsker ∧ ¬ Lib.itoa (n.val : Int) = wAcks ∧ ¬ Lib.itoa (n.val : Int) = wAlone ∧ ¬ Lib.itoa (n.val : Int) = wData ∧ ¬ Lib.itoa (n.val : Int) = wKind := by decide +kernel
theorem dec_step (n : UInt8) (i : Nat) (hi : i ≠ 1) (r : List (List UInt8)) (m : Mg) : stepW i (dec n) r m = m := by
  obtain ⟨h1, h2, h3, h4, h5, _⟩ := dec_key ⟨n.toNat, n.toNat_lt⟩
  unfold stepW dec
  rw [if_neg hi, if_neg h1, if_neg h2, if_neg h3, if_neg h4, if_neg (fun h => h5 h.1)]
theorem kindR_none (x : List UInt8) (k : UInt8) : ∀ n, n ≤ 12 → (∀ j, 1 ≤ j → j ≤ 12 → x ≠ (nameOf j).data.toList) → kindR x n k = k
  | 0, _, _ => rfl
  | n + 1, hn, h => by rw [kindR, if_neg (h (n + 1) (by omega) (by omega))]; exact kindR_none x k n (by omega) h
theorem dec_name : ∀ n : Fin 256, ∀ j : Fin 13, 1 ≤ j.val → Lib.itoa (n.val : Int) ≠ (nameOf j.val).data.toList := by decide +kernel
theorem name_kindR : ∀ j : Fin 13, 1 ≤ j.val → kindR (nameOf j.val).data.toList 12 0 = UInt8.ofNat j.val := by decide +kernel
theorem name_nk : ∀ j : Fin 13, (nameOf j.val).data.toList ≠ wKind := by decide +kernel
theorem name_clean : ∀ j : Fin 13, ∀ b ∈ (nameOf j.val).data.toList, b ≠ 32 ∧ b ≠ 62 := by decide +kernel
theorem lits_clean : Clean wKind ∧ Clean wLine ∧ Clean wAsker ∧ Clean wAcks ∧ Clean wAlone ∧ Clean wData := by
  refine ⟨?_, ?_, ?_, ?_, ?_, ?_⟩ <;> (unfold Clean; decide)
theorem opt_clean (m : Mg) : ∀ x ∈ optW m, Clean x := by
  obtain ⟨hk, hl, ha, hc, hal, hd⟩ := lits_clean
  intro x hx
  unfold optW at hx
  rcases List.mem_append.1 hx with hx | hx
  · rcases List.mem_append.1 hx with hx | hx
    · rcases List.mem_append.1 hx with hx | hx
      · split at hx
        · simp at hx
        · simp only [List.mem_cons, List.not_mem_nil, or_false] at hx
          rcases hx with rfl | rfl
          · exact ha
          · exact dec_clean _
      · split at hx
        · simp at hx
        · simp only [List.mem_cons, List.not_mem_nil, or_false] at hx
          rcases hx with rfl | rfl
          · exact hc
          · exact dec_clean _
    · split at hx
      · simp at hx
      · rw [List.mem_singleton] at hx; subst hx; exact hal
  · split at hx
    · simp at hx
    · simp only [List.mem_cons, List.not_mem_nil, or_false] at hx
      rcases hx with rfl | rfl | rfl | rfl | rfl
      · exact hd
      · exact dec_clean _
      · exact dec_clean _
      · exact dec_clean _
      · exact dec_clean _
theorem runW_num (n : UInt8) (i : Nat) (hi : i ≠ 1) (r : List (List UInt8)) (m : Mg) : runW i (dec n :: r) m = runW (i + 1) r m := by
  rw [runW, dec_step n i hi]
theorem run_line (n : UInt8) (i : Nat) (hi : 1 < i) (r : List (List UInt8)) (m : Mg) : runW i (wLine :: dec n :: r) m = runW (i + 2) r { m with l := n } := by
  rw [runW, runW_num n (i + 1) (by omega)]
  unfold stepW
  rw [if_neg (by omega), if_pos rfl]
  show runW (i + 1 + 1) r { m with l := valL (dec n) } = _
  rw [val_dec]
theorem run_asker (n : UInt8) (i : Nat) (hi : 1 < i) (r : List (List UInt8)) (m : Mg) : runW i (wAsker :: dec n :: r) m = runW (i + 2) r { m with a := n } := by
  rw [runW, runW_num n (i + 1) (by omega)]
  unfold stepW
  rw [if_neg (by omega), if_neg (by decide), if_pos rfl]
  show runW (i + 1 + 1) r { m with a := valL (dec n) } = _
  rw [val_dec]
theorem run_acks (n : UInt8) (i : Nat) (hi : 1 < i) (r : List (List UInt8)) (m : Mg) : runW i (wAcks :: dec n :: r) m = runW (i + 2) r { m with c := n } := by
  rw [runW, runW_num n (i + 1) (by omega)]
  unfold stepW
  rw [if_neg (by omega), if_neg (by decide), if_neg (by decide), if_pos rfl]
  show runW (i + 1 + 1) r { m with c := valL (dec n) } = _
  rw [val_dec]
theorem run_alone (i : Nat) (hi : 1 < i) (r : List (List UInt8)) (m : Mg) : runW i (wAlone :: r) m = runW (i + 1) r { m with al := true } := by
  rw [runW]
  unfold stepW
  rw [if_neg (by omega), if_neg (by decide), if_neg (by decide), if_neg (by decide), if_pos rfl]
theorem run_data (a b c d : UInt8) (i : Nat) (hi : 1 < i) (m : Mg) : runW i [wData, dec a, dec b, dec c, dec d] m = { m with d0 := a, d1 := b, d2 := c, d3 := d } := by
  rw [runW, runW_num a (i + 1) (by omega), runW_num b _ (by omega), runW_num c _ (by omega), runW_num d _ (by omega), runW]
  unfold stepW
  rw [if_neg (by omega), if_neg (by decide), if_neg (by decide), if_neg (by decide), if_neg (by decide), if_pos ⟨rfl, by simp⟩]
  show ({ m with d0 := valL (dec a), d1 := valL (dec b), d2 := valL (dec c), d3 := valL (dec d) } : Mg) = _
  rw [val_dec, val_dec, val_dec, val_dec]
theorem u8_zero {n : UInt8} (h : n.toNat = 0) : n = 0 := UInt8.toNat_inj.1 h
theorem opt_a (m M : Mg) (i : Nat) (hi : 1 < i) (h : M.a = 0) (r : List (List UInt8)) : ∃ i', 1 < i' ∧ runW i ((if m.a.toNat = 0 then [] else [wAsker, dec m.a]) ++ r) M = runW i' r { M with a := m.a } := by
  split
  · rename_i h0
    refine ⟨i, hi, ?_⟩
    rw [u8_zero h0, ← h]; rfl
  · exact ⟨i + 2, by omega, run_asker m.a i hi r M⟩
theorem opt_c (m M : Mg) (i : Nat) (hi : 1 < i) (h : M.c = 0) (r : List (List UInt8)) : ∃ i', 1 < i' ∧ runW i ((if m.c.toNat = 0 then [] else [wAcks, dec m.c]) ++ r) M = runW i' r { M with c := m.c } := by
  split
  · rename_i h0
    refine ⟨i, hi, ?_⟩
    rw [u8_zero h0, ← h]; rfl
  · exact ⟨i + 2, by omega, run_acks m.c i hi r M⟩
theorem opt_al (m M : Mg) (i : Nat) (hi : 1 < i) (h : M.al = false) (r : List (List UInt8)) : ∃ i', 1 < i' ∧ runW i ((if m.al = false then [] else [wAlone]) ++ r) M = runW i' r { M with al := m.al } := by
  split
  · rename_i h0
    refine ⟨i, hi, ?_⟩
    rw [h0, ← h]; rfl
  · rename_i h0
    have : m.al = true := by simpa using h0
    rw [this]
    exact ⟨i + 1, by omega, run_alone i hi r M⟩
theorem opt_d (m M : Mg) (i : Nat) (hi : 1 < i) (h0 : M.d0 = 0) (h1 : M.d1 = 0) (h2 : M.d2 = 0) (h3 : M.d3 = 0) : runW i (if decide (m.d0 = 0 ∧ m.d1 = 0 ∧ m.d2 = 0 ∧ m.d3 = 0) = true then [] else [wData, dec m.d0, dec m.d1, dec m.d2, dec m.d3]) M = { M with d0 := m.d0, d1 := m.d1, d2 := m.d2, d3 := m.d3 } := by
  split
  · rename_i h
    obtain ⟨a, b, c, d⟩ := of_decide_eq_true h
    rw [a, b, c, d]
    show M = _
    obtain ⟨_, _, _, _, _, _, _, e0, e1, e2, e3⟩ := M
    simp only at h0 h1 h2 h3
    subst h0 h1 h2 h3
    rfl
  · exact run_data m.d0 m.d1 m.d2 m.d3 i hi M
theorem run_opt (m M : Mg) (i : Nat) (hi : 1 < i) (ha : M.a = 0) (hc : M.c = 0) (hal : M.al = false) (h0 : M.d0 = 0) (h1 : M.d1 = 0) (h2 : M.d2 = 0) (h3 : M.d3 = 0) :
    runW i (optW m) M = { M with a := m.a, c := m.c, al := m.al, d0 := m.d0, d1 := m.d1, d2 := m.d2, d3 := m.d3 } := by
  unfold optW
  rw [List.append_assoc, List.append_assoc]
  obtain ⟨i1, g1, e1⟩ := opt_a m M i hi ha ((if m.c.toNat = 0 then [] else [wAcks, dec m.c]) ++ ((if m.al = false then [] else [wAlone]) ++ (if decide (m.d0 = 0 ∧ m.d1 = 0 ∧ m.d2 = 0 ∧ m.d3 = 0) = true then [] else [wData, dec m.d0, dec m.d1, dec m.d2, dec m.d3])))
  obtain ⟨i2, g2, e2⟩ := opt_c m { M with a := m.a } i1 g1 hc ((if m.al = false then [] else [wAlone]) ++ (if decide (m.d0 = 0 ∧ m.d1 = 0 ∧ m.d2 = 0 ∧ m.d3 = 0) = true then [] else [wData, dec m.d0, dec m.d1, dec m.d2, dec m.d3]))
  obtain ⟨i3, g3, e3⟩ := opt_al m { M with a := m.a, c := m.c } i2 g2 hal (if decide (m.d0 = 0 ∧ m.d1 = 0 ∧ m.d2 = 0 ∧ m.d3 = 0) = true then [] else [wData, dec m.d0, dec m.d1, dec m.d2, dec m.d3])
  exact (e1.trans (e2.trans e3)).trans (opt_d m _ i3 g3 h0 h1 h2 h3)
theorem run_all (m : Mg) (K : UInt8) (hK : K = m.k) : runW 1 (dec m.f :: dec m.t :: wLine :: dec m.l :: optW m) { zeroM with k := K } = m := by
  subst hK
  rw [runW, runW_num m.t 2 (by omega), run_line m.l 3 (by omega)]
  have hs : stepW 1 (dec m.f) (dec m.t :: wLine :: dec m.l :: optW m) { zeroM with k := m.k } = { zeroM with k := m.k, f := m.f, t := m.t } := by
    unfold stepW
    rw [if_pos rfl]
    show ({ zeroM with k := m.k, f := valL (dec m.f), t := valL (dec m.t) } : Mg) = _
    rw [val_dec, val_dec]
  rw [hs, run_opt m _ 5 (by omega) rfl rfl rfl rfl rfl rfl rfl]
theorem head_clean (k : UInt8) : ∀ x ∈ headW k, Clean x := by
  intro x hx
  unfold headW at hx
  split at hx
  · rename_i h
    have := of_decide_eq_true h
    rw [List.mem_singleton] at hx
    subst hx
    exact name_clean ⟨k.toNat, this.2⟩
  · simp only [List.mem_cons, List.not_mem_nil, or_false] at hx
    rcases hx with rfl | rfl
    · exact lits_clean.1
    · exact dec_clean _
theorem cand_text (m : Mg) : candR (wsplit (textOf m) []) = m := by
  unfold textOf
  rw [words_split, wsplit_mid (headW m.k) (dec m.f) (dec m.t) (wLine :: dec m.l :: optW m) (head_clean m.k) (dec_clean _) (dec_clean _) (fun x hx => by
    rcases List.mem_cons.1 hx with rfl | hx
    · exact lits_clean.2.1
    · rcases List.mem_cons.1 hx with rfl | hx
      · exact dec_clean _
      · exact opt_clean m x hx)]
  unfold headW
  split
  · rename_i h
    have hk := of_decide_eq_true h
    show candR ((nameOf m.k.toNat).data.toList :: dec m.f :: dec m.t :: wLine :: dec m.l :: optW m) = m
    unfold candR
    simp only
    rw [if_neg (fun e => name_nk ⟨m.k.toNat, hk.2⟩ e.1)]
    exact run_all m _ (by rw [name_kindR ⟨m.k.toNat, hk.2⟩ hk.1]; simp)
  · show candR (wKind :: dec m.k :: dec m.f :: dec m.t :: wLine :: dec m.l :: optW m) = m
    unfold candR
    simp only
    rw [if_pos ⟨trivial, by simp⟩]
    exact run_all m _ ((kindR_none (dec m.k) (valL (dec m.k)) 12 (by omega) (fun j h1 h2 => dec_name ⟨m.k.toNat, m.k.toNat_lt⟩ ⟨j, by omega⟩ h1)).trans (val_dec m.k))
/-- Both parse alike. -/
theorem rparse_eq (s : ByteArray) : rparseOf s = parseOf s := by
  by_cases h : textOf (candR (wsplit s.data.toList [])) = s.data.toList
  · unfold rparseOf
    rw [if_pos h, parse_text s _ h.symm]
  · have h2 : ¬ textOf (candP (wsOf s)) = s.data.toList := fun e => by
      have := cand_text (candP (wsOf s))
      rw [e] at this
      rw [this] at h
      exact h e
    unfold rparseOf parseOf
    rw [if_neg h, if_neg h2]
theorem wsplit_sizes : ∀ (l c : List UInt8) (n : Nat), l.length + c.length ≤ n → ∀ x ∈ wsplit l c, x.length ≤ n
  | [], c, n, h, x, hx => by simp [wsplit] at hx; subst hx; simpa using h
  | b :: l, c, n, h, x, hx => by
    rw [wsplit] at hx
    simp only [List.length_cons] at h
    split at hx
    · rcases List.mem_cons.1 hx with rfl | hx
      · omega
      · exact wsplit_sizes l [] n (by simp; omega) x hx
    · exact wsplit_sizes l (c ++ [b]) n (by simp; omega) x hx
theorem wsplit_ne (l c : List UInt8) : wsplit l c ≠ [] := by
  induction l generalizing c with
  | nil => simp [wsplit]
  | cons b l ih => rw [wsplit]; split <;> simp [ih]
end Go.Proofs.YthllacodjeocmaaDoor
