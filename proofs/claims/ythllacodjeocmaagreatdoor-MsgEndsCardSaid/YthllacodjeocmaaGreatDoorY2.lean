/- The reference's words and values. The reference's words. The reference's parsing in plain words: it yields what Parse yields. -/
import Derived.Test.YthllacodjeocmaaGreatDoorT3
namespace Go.Proofs.YthllacodjeocmaaGreatDoor
open Go.RowKit
attribute [local go_sem] Oper.semAt_some
/-- The number that a word's first three bytes give, modulo 256. -/
def valI : Nat → List UInt8 → Int → Int
  | 0, _, n => n
  | _, [], n => n
  | k + 1, b :: l, n => valI k l (10 * n + ((b.toNat + 208) % 256 : Nat))
def valB (s : ByteArray) : UInt8 := UInt8.ofNat (valI 3 s.data.toList 0).toNat
theorem valI_snoc : ∀ (k : Nat) (l : List UInt8) (b : UInt8) (n : Int), l.length < k → valI k (l ++ [b]) n = 10 * valI k l n + ((b.toNat + 208) % 256 : Nat)
  | 0, l, b, n, h => by omega
  | k + 1, [], b, n, _ => by cases k <;> simp [valI]
  | k + 1, x :: l, b, n, h => by
    have := valI_snoc k l b (10 * n + ((x.toNat + 208) % 256 : Nat)) (by simpa using h)
    simpa [valI] using this
theorem valI_take : ∀ (k : Nat) (l : List UInt8) (n : Int), valI k (l.take k) n = valI k l n
  | 0, l, n => rfl
  | k + 1, [], n => rfl
  | k + 1, x :: l, n => by simpa [valI] using valI_take k l _
theorem take_snoc (s : ByteArray) (k : Nat) (h : k < s.size) : s.data.toList.take (k + 1) = s.data.toList.take k ++ [s[k]] := by
  rw [List.take_succ_eq_append_getElem (by simpa using h)]; rfl
theorem sub48 (b : UInt8) : IntKind.u8.wrap ((b.toNat : Int) - 48) = (((b.toNat + 208) % 256 : Nat) : Int) := by
  have := b.toNat_lt
  simp [IntKind.wrap, IntKind.signed, IntKind.bits]
  omega
set_option maxHeartbeats 1000000 in
set_option maxRecDepth 100000 in
theorem value_any (s : ByteArray) (w : World) (hs : s.size ≤ 10000) : Calls Tryz.prog 53 #[.string s] w fun e w' => e = .returned (.int .u8 (valB s).toNat) ∧ w = w' := by
  go_enter Tryz.func53, Tryz.ntmps53
  go_wp2
  go_loop [3, 4] (fun n i => ∃ (k : Nat) (v : Nat), k ≤ 3 ∧ k ≤ s.size ∧ i = .int .i64 k ∧ n = .int .i64 v ∧ ((k = 0 → v = 0) ∧ (k = 1 → v ≤ 300) ∧ (k = 2 → v ≤ 4000) ∧ v ≤ 100000) ∧ Hid ((v : Int) = valI 3 (s.data.toList.take k) 0)) (fun _ i => 3 - (intOf i).toNat)
  case atStart => exact ⟨0, 0, by omega, by omega, rfl, rfl, by omega, rfl⟩
  case round =>
    obtain ⟨k, v, hk, hks, rfl, rfl, hv, HV⟩ := hrel
    by_cases h : k < s.size ∧ k < 3
    · obtain ⟨hlt, h3⟩ := h
      have h1 := sub48 s[k]
      have hb := s[k].toNat_lt
      have h3' : decide ((k : Int) < 3) = true := by simp; omega
      have h4 : decide (k < s.size) = true := by simp; omega
      have HN : Hid (((10 * v + (s[k].toNat + 208) % 256 : Nat) : Int) = valI 3 (s.data.toList.take (k + 1)) 0) := by
        show _ = _
        rw [take_snoc s k hlt, valI_snoc 3 _ _ _ (by rw [List.length_take]; omega), ← HV.out]
        omega
      go_wp2
      exact ⟨⟨k + 1, 10 * v + (s[k].toNat + 208) % 256, by omega, by omega, by go_num, by go_num, by omega, HN⟩, by simp [intOf]; omega⟩
    · have hfin : valI 3 (s.data.toList.take k) 0 = valI 3 s.data.toList 0 := by
        by_cases hlt : k < s.size
        · obtain rfl : k = 3 := by omega
          exact valI_take 3 _ _
        · rw [List.take_of_length_le (by simp; omega)]
      have hcv : IntKind.u8.wrap (v : Int) = ((valB s).toNat : Int) := by
        unfold valB
        rw [← hfin, ← HV.out, Int.toNat_natCast, UInt8.toNat_ofNat']
        simp [IntKind.wrap, IntKind.signed, IntKind.bits]
      obtain ⟨vb, hvb⟩ : ∃ x, valB s = x := ⟨_, rfl⟩
      rw [hvb] at hcv
      have HVB := Lib.hid hvb
      clear hvb
      by_cases hlt : k < s.size
      · have h3' : decide ((k : Int) < 3) = false := by simp; omega
        have h4 : decide (k < s.size) = true := by simp; omega
        go_wp2
        go_ret
        exact ⟨by rw [HVB.out]; rfl, rfl⟩
      · have h4 : decide (k < s.size) = false := by simp; omega
        go_wp2
        go_ret
        exact ⟨by rw [HVB.out]; rfl, rfl⟩
end Go.Proofs.YthllacodjeocmaaGreatDoor
namespace Go.Proofs.YthllacodjeocmaaGreatDoor
open Go.RowKit
attribute [local go_sem] Oper.semAt_some
/-- A text cut at blanks and at the sign 62. -/
def wsplit : List UInt8 → List UInt8 → List (List UInt8)
  | [], c => [c]
  | b :: l, c => if b = 32 ∨ b = 62 then c :: wsplit l [] else wsplit l (c ++ [b])
structure WSt (w : World) (v : Value) (ws : List (List UInt8)) (W : World) : Prop where
  row : W.ownsRow w.heap.size 9 1 v ws.length (ws.map strv)
  b : Below w.heap.size w W
section
variable {w W W' : World} {v v' : Value} {ws news : List (List UInt8)}
theorem WSt.next (h : WSt w v ws W) (hb : Below W.heap.size W W') : WSt w v ws W' :=
  ⟨h.row.kept (only_of_below hb none) (by cases hv : v.ownBlock <;> simp), h.b.trans (hb.mono h.b.size)⟩
theorem WSt.alloc (h : WSt w v ws W) (o : Obj) : WSt w v ws (W.alloc o) := h.next ((Below.refl _ _).alloc (Nat.le_refl _) o)
theorem WSt.append {o : Obj} (h : WSt w v ws W) (hown : W'.ownsRow w.heap.size 9 1 v' (ws.length + news.length) (ws.map strv ++ news.map strv)) (hg : (W.alloc o).grownBy W' v.ownBlock) : WSt w v' (ws ++ news) W' :=
  ⟨by rw [List.length_append, List.map_append]; exact hown, (h.b.alloc h.b.size o).grown hg (by have := h.b.size; simp; omega) (fun k hk => (h.row.lt k hk).1)⟩
end
theorem strv_cat (cl : List UInt8) (s : ByteArray) (k : Nat) (h : k < s.size) : Value.string (⟨cl.toArray⟩ ++ s.extract k (k + 1)) = strv (cl ++ [s[k]]) := by
  unfold strv
  congr 1
  apply list_inj0
  rw [cat_data, ByteArray.data_extract, Array.toList_extract]
  have h2 : k < s.data.toList.length := by simpa using h
  show cl ++ _ = cl ++ [s[k]]
  congr 1
  rw [List.extract_eq_take_drop]
  simp only [show k + 1 - k = 1 by omega]
  rw [List.drop_eq_getElem_cons h2]
  rfl
theorem drop_get (s : ByteArray) (k : Nat) (h : k < s.size) : s.data.toList.drop k = s[k] :: s.data.toList.drop (k + 1) := by
  have h2 : k < s.data.toList.length := by simpa using h
  rw [List.drop_eq_getElem_cons h2]
  rfl
set_option maxHeartbeats 2000000 in
set_option maxRecDepth 100000 in
theorem words_any (s : ByteArray) (w : World) (hs : s.size ≤ 1000) : Calls Tryz.prog 52 #[.string s] w fun e w' => ∃ g cap, e = .returned (.slice (some ⟨g, 0, none⟩) (wsplit s.data.toList []).length cap) ∧ (wsplit s.data.toList []).length ≤ 1001 ∧ Hid (WSt w (.slice (some ⟨g, 0, none⟩) (wsplit s.data.toList []).length cap) (wsplit s.data.toList []) w') := by
  obtain ⟨i0, hi, hz0, hz1, hz2⟩ := info_parts strInfo
  go_enter Tryz.func52, Tryz.ntmps52
  go_wp2
  go_loopw [3, 4, 5] (fun v c i wr => ∃ (k : Nat) (cl : List UInt8) (ws : List (List UInt8)), k ≤ s.size ∧ i = .int .i64 k ∧ c = .string ⟨cl.toArray⟩ ∧ cl.length ≤ k ∧ ws.length ≤ k ∧ Hid (wsplit s.data.toList [] = ws ++ wsplit (s.data.toList.drop k) cl) ∧ Hid (WSt w v ws wr)) (fun _ _ i _ => s.size - (intOf i).toNat)
  case atStart => exact ⟨0, [], [], Nat.zero_le _, rfl, rfl, Nat.le_refl _, Nat.le_refl _, Lib.hid rfl, Lib.hid ⟨⟨rfl, .inl ⟨rfl, rfl⟩⟩, Below.refl _ _⟩⟩
  case round =>
    obtain ⟨k, cl, ws, hk, rfl, rfl, hcl, hws, HE, HW⟩ := hrel
    have hsz : (⟨cl.toArray⟩ : ByteArray).size = cl.length := by show cl.toArray.size = _; simp
    by_cases hlt : k < s.size
    · have h4 : decide (k < s.size) = true := by simp; omega
      have h5 : decide ((k : Int) < 1000) = true := by simp; omega
      have hb := s[k].toNat_lt
      by_cases hb1 : s[k] = 32 ∨ s[k] = 62
      · have HE2 : Hid (wsplit s.data.toList [] = (ws ++ [cl]) ++ wsplit (s.data.toList.drop (k + 1)) []) := by
          show _ = _
          rw [HE.out, drop_get s k hlt, wsplit, if_pos hb1]
          simp
        by_cases hb2 : s[k] = 32
        · have q1 : ((s[k].toNat : Int) == 32) = true := by rw [hb2]; rfl
          clear hb1 hb2 hsz
          go_wp2_with (first | (at_builtin; refine wpList_append_lies _ rfl _ _ _ rfl w.heap.size 9 i0 _ 1 16 Tryz.underlying36 hi hz0 hz1 hz2 rfl (by omega) _ _ _ rfl (HW.out.alloc _).row ⟨_, 0, none⟩ 1 1 ([cl].map strv) rfl rfl (World.news_of_block (t := 9) (fr := (0, 0)) (heap_alloc_new _ _)) (by simp [Value.oneCell', strv]) (by omega) (by unfold maxLen; omega) (by omega) (by have := HW.out.b.size; simp; omega) _ rfl ?_; intro gg cap w1' hown1 hgrow hat hlt1; have hs2 := Lib.hid (HW.out.append (news := [cl]) hown1 hgrow); clear hown1 hgrow hat hlt1) | fail)
          exact ⟨⟨k + 1, [], ws ++ [cl], by omega, by go_num, rfl, by simp, by simp; omega, HE2, hs2⟩, by simp [intOf]; omega⟩
        · have q1 : ((s[k].toNat : Int) == 32) = false := by rw [beq_eq_false_iff_ne]; intro e; exact hb2 (UInt8.toNat_inj.1 (by show s[k].toNat = 32; omega))
          have q2 : ((s[k].toNat : Int) == 62) = true := by rw [hb1.resolve_left hb2]; rfl
          clear hb1 hb2 hsz
          go_wp2_with (first | (at_builtin; refine wpList_append_lies _ rfl _ _ _ rfl w.heap.size 9 i0 _ 1 16 Tryz.underlying36 hi hz0 hz1 hz2 rfl (by omega) _ _ _ rfl (HW.out.alloc _).row ⟨_, 0, none⟩ 1 1 ([cl].map strv) rfl rfl (World.news_of_block (t := 9) (fr := (0, 0)) (heap_alloc_new _ _)) (by simp [Value.oneCell', strv]) (by omega) (by unfold maxLen; omega) (by omega) (by have := HW.out.b.size; simp; omega) _ rfl ?_; intro gg cap w1' hown1 hgrow hat hlt1; have hs2 := Lib.hid (HW.out.append (news := [cl]) hown1 hgrow); clear hown1 hgrow hat hlt1) | fail)
          exact ⟨⟨k + 1, [], ws ++ [cl], by omega, by go_num, rfl, by simp, by simp; omega, HE2, hs2⟩, by simp [intOf]; omega⟩
      · have q1 : ((s[k].toNat : Int) == 32) = false := by rw [beq_eq_false_iff_ne]; intro e; exact hb1 (.inl (UInt8.toNat_inj.1 (by show s[k].toNat = 32; omega)))
        have q2 : ((s[k].toNat : Int) == 62) = false := by rw [beq_eq_false_iff_ne]; intro e; exact hb1 (.inr (UInt8.toNat_inj.1 (by show s[k].toNat = 62; omega)))
        have z1 : ¬ 9223372036854775807 < (⟨cl.toArray⟩ : ByteArray).size + (s.extract k (k + 1)).size := by
          rw [hsz]; simp only [ByteArray.size_extract]; omega
        have HE2 : Hid (wsplit s.data.toList [] = ws ++ wsplit (s.data.toList.drop (k + 1)) (cl ++ [s[k]])) := by
          show _ = _
          rw [HE.out, drop_get s k hlt, wsplit, if_neg hb1]
        clear hb1 hsz
        go_wp2
        exact ⟨⟨k + 1, cl ++ [s[k]], ws, by omega, by go_num, strv_cat cl s k hlt, by simp; omega, by omega, HE2, HW⟩, by simp [intOf]; omega⟩
    · obtain rfl : k = s.size := by omega
      have h4 : decide (s.size < s.size) = false := by simp
      have HE2 : Hid (wsplit s.data.toList [] = ws ++ [cl]) := by
        show _ = _
        rw [HE.out, List.drop_of_length_le (by simp)]
        rfl
      clear hsz
      go_wp2_with (first | (at_builtin; refine wpList_append_lies _ rfl _ _ _ rfl w.heap.size 9 i0 _ 1 16 Tryz.underlying36 hi hz0 hz1 hz2 rfl (by omega) _ _ _ rfl (HW.out.alloc _).row ⟨_, 0, none⟩ 1 1 ([cl].map strv) rfl rfl (World.news_of_block (t := 9) (fr := (0, 0)) (heap_alloc_new _ _)) (by simp [Value.oneCell', strv]) (by omega) (by unfold maxLen; omega) (by omega) (by have := HW.out.b.size; simp; omega) _ rfl ?_; intro gg cap w1' hown1 hgrow hat hlt1; have hs2 := Lib.hid (HW.out.append (news := [cl]) hown1 hgrow); clear hown1 hgrow hat hlt1) | fail)
      go_ret
      rw [HE2.out]
      exact ⟨gg, cap, by rw [List.length_append]; rfl, by simp; omega, by rw [List.length_append]; exact hs2⟩
end Go.Proofs.YthllacodjeocmaaGreatDoor
namespace Go.Proofs.YthllacodjeocmaaGreatDoor
open Go.RowKit
def valL (l : List UInt8) : UInt8 := valB (wb l)
def hdV (r : List (List UInt8)) : UInt8 := match r with | [] => 0 | x :: _ => valL x
/-- What one word does, the words behind it at hand. -/
def stepW (i : Nat) (x : List UInt8) (r : List (List UInt8)) (m : Mg) : Mg :=
  if i = 1 then { m with f := valL x, t := hdV r }
  else if x = wLine then { m with l := hdV r }
  else if x = wAsker then { m with a := hdV r }
  else if x = wAcks then { m with c := hdV r }
  else if x = wAlone then { m with al := true }
  else if x = wData ∧ 4 ≤ r.length then { m with d0 := hdV r, d1 := hdV (r.drop 1), d2 := hdV (r.drop 2), d3 := hdV (r.drop 3) }
  else m
def runW : Nat → List (List UInt8) → Mg → Mg
  | _, [], m => m
  | i, x :: r, m => runW (i + 1) r (stepW i x r m)
def kindR (x : List UInt8) : Nat → UInt8 → UInt8
  | 0, k => k
  | n + 1, k => if x = (nameOf (n + 1)).data.toList then UInt8.ofNat (n + 1) else kindR x n k
/-- The only candidate. -/
def candR (ws : List (List UInt8)) : Mg :=
  match ws with
  | [] => zeroM
  | x :: r => if x = wKind ∧ 1 ≤ r.length then (match r with | [] => zeroM | y :: r' => runW 1 r' { zeroM with k := kindR y 12 (valL y) }) else runW 1 r { zeroM with k := kindR x 12 0 }
def rparseOf (s : ByteArray) : Mg × Int := if textOf (candR (wsplit s.data.toList [])) = s.data.toList then (candR (wsplit s.data.toList []), 0) else (zeroM, 170)
-- plain facts
theorem wsplit_word : ∀ (a l c : List UInt8), (∀ b ∈ a, b ≠ 32 ∧ b ≠ 62) → wsplit (a ++ l) c = wsplit l (c ++ a)
  | [], l, c, _ => by simp
  | x :: a, l, c, h => by
    have hx := h x (by simp)
    rw [List.cons_append, wsplit, if_neg (by rintro (h1 | h1); exact hx.1 h1; exact hx.2 h1), wsplit_word a l (c ++ [x]) (fun b hb => h b (by simp [hb]))]
    simp
theorem wsplit_sep (b : UInt8) (l c : List UInt8) (hb : b = 32 ∨ b = 62) : wsplit (b :: l) c = c :: wsplit l [] := by rw [wsplit, if_pos hb]
def Clean (l : List UInt8) : Prop := ∀ b ∈ l, b ≠ 32 ∧ b ≠ 62
theorem wsplit_join : ∀ ws : List (List UInt8), (∀ x ∈ ws, Clean x) → ws ≠ [] → wsplit (Lib.join ws [32]) [] = ws
  | [], _, h => absurd rfl h
  | [a], h, _ => by
    rw [Lib.join_one]
    have := wsplit_word a [] [] (h a (by simp))
    rw [List.append_nil] at this
    rw [this]; rfl
  | a :: b :: r, h, _ => by
    rw [join_two, wsplit_word a _ [] (h a (by simp)), wsplit_sep 32 _ _ (.inl rfl), wsplit_join (b :: r) (fun x hx => h x (by simp [hx])) (by simp)]
    simp
theorem wsplit_mid : ∀ (pre : List (List UInt8)) (f t : List UInt8) (post : List (List UInt8)), (∀ x ∈ pre, Clean x) → Clean f → Clean t → (∀ x ∈ post, Clean x) → wsplit (Lib.join (pre ++ (f ++ [62] ++ t) :: post) [32]) [] = pre ++ f :: t :: post
  | [], f, t, [], _, hf, ht, _ => by
    show wsplit (Lib.join [f ++ [62] ++ t] [32]) [] = [f, t]
    rw [Lib.join_one, show f ++ [62] ++ t = f ++ 62 :: t by simp, wsplit_word f _ [] hf, wsplit_sep 62 _ _ (.inr rfl)]
    have := wsplit_word t [] [] ht
    rw [List.append_nil] at this
    rw [this]; rfl
  | [], f, t, p :: post, _, hf, ht, hp => by
    show wsplit (Lib.join ((f ++ [62] ++ t) :: p :: post) [32]) [] = f :: t :: p :: post
    rw [join_two, show f ++ [62] ++ t ++ 32 :: Lib.join (p :: post) [32] = f ++ 62 :: (t ++ 32 :: Lib.join (p :: post) [32]) by simp, wsplit_word f _ [] hf, wsplit_sep 62 _ _ (.inr rfl),
      wsplit_word t _ [] ht, wsplit_sep 32 _ _ (.inl rfl), wsplit_join (p :: post) hp (by simp)]
    simp
  | a :: pre, f, t, post, h, hf, ht, hp => by
    have ih := wsplit_mid pre f t post (fun x hx => h x (by simp [hx])) hf ht hp
    show wsplit (Lib.join (a :: (pre ++ (f ++ [62] ++ t) :: post)) [32]) [] = a :: (pre ++ f :: t :: post)
    obtain ⟨y, z, hy⟩ : ∃ y z, pre ++ (f ++ [62] ++ t) :: post = y :: z := by
      cases pre with
      | nil => exact ⟨_, _, rfl⟩
      | cons y z => exact ⟨_, _, rfl⟩
    rw [hy] at ih ⊢
    rw [join_two, wsplit_word a _ [] (h a (by simp)), wsplit_sep 32 _ _ (.inl rfl), ih]
    simp
theorem dec_clean (n : UInt8) : Clean (dec n) := dec_chars n
theorem val_table : ∀ n : Fin 256, valL (Lib.itoa (n.val : Int)) = UInt8.ofNat n.val := by decide +kernel
theorem val_dec (n : UInt8) : valL (dec n) = n := by
  have := val_table ⟨n.toNat, n.toNat_lt⟩
  unfold dec
  rw [this]
  simp
theorem dec_key : ∀ n : Fin 256, ¬ Lib.itoa (n.val : Int) = wLine ∧ ¬ Lib.itoa (n.val : Int) = wAsker ∧ ¬ Lib.itoa (n.val : Int) = wAcks ∧ ¬ Lib.itoa (n.val : Int) = wAlone ∧ ¬ Lib.itoa (n.val : Int) = wData ∧ ¬ Lib.itoa (n.val : Int) = wKind := by decide +kernel
theorem dec_step (n : UInt8) (i : Nat) (hi : i ≠ 1) (r : List (List UInt8)) (m : Mg) : stepW i (dec n) r m = m := by
  obtain ⟨h1, h2, h3, h4, h5, _⟩ := dec_key ⟨n.toNat, n.toNat_lt⟩
  unfold stepW dec
  rw [if_neg hi, if_neg h1, if_neg h2, if_neg h3, if_neg h4, if_neg (fun h => h5 h.1)]
theorem kindR_none (x : List UInt8) (k : UInt8) : ∀ n, n ≤ 12 → (∀ j, 1 ≤ j → j ≤ 12 → x ≠ (nameOf j).data.toList) → kindR x n k = k
  | 0, _, _ => rfl
  | n + 1, hn, h => by rw [kindR, if_neg (h (n + 1) (by omega) (by omega))]; exact kindR_none x k n (by omega) h
theorem dec_name : ∀ n : Fin 256, ∀ j : Fin 13, 1 ≤ j.val → Lib.itoa (n.val : Int) ≠ (nameOf j.val).data.toList := by decide +kernel
theorem name_kindR : ∀ j : Fin 13, 1 ≤ j.val → kindR (nameOf j.val).data.toList 12 0 = UInt8.ofNat j.val := by decide +kernel
theorem name_nk : ∀ j : Fin 13, (nameOf j.val).data.toList ≠ wKind := by decide +kernel
theorem name_clean : ∀ j : Fin 13, ∀ b ∈ (nameOf j.val).data.toList, b ≠ 32 ∧ b ≠ 62 := by decide +kernel
theorem lits_clean : Clean wKind ∧ Clean wLine ∧ Clean wAsker ∧ Clean wAcks ∧ Clean wAlone ∧ Clean wData := by
  refine ⟨?_, ?_, ?_, ?_, ?_, ?_⟩ <;> (unfold Clean; decide)
theorem opt_clean (m : Mg) : ∀ x ∈ optW m, Clean x := by
  obtain ⟨hk, hl, ha, hc, hal, hd⟩ := lits_clean
  intro x hx
  unfold optW at hx
  rcases List.mem_append.1 hx with hx | hx
  · rcases List.mem_append.1 hx with hx | hx
    · rcases List.mem_append.1 hx with hx | hx
      · split at hx
        · simp at hx
        · simp only [List.mem_cons, List.not_mem_nil, or_false] at hx
          rcases hx with rfl | rfl
          · exact ha
          · exact dec_clean _
      · split at hx
        · simp at hx
        · simp only [List.mem_cons, List.not_mem_nil, or_false] at hx
          rcases hx with rfl | rfl
          · exact hc
          · exact dec_clean _
    · split at hx
      · simp at hx
      · rw [List.mem_singleton] at hx; subst hx; exact hal
  · split at hx
    · simp at hx
    · simp only [List.mem_cons, List.not_mem_nil, or_false] at hx
      rcases hx with rfl | rfl | rfl | rfl | rfl
      · exact hd
      · exact dec_clean _
      · exact dec_clean _
      · exact dec_clean _
      · exact dec_clean _
theorem runW_num (n : UInt8) (i : Nat) (hi : i ≠ 1) (r : List (List UInt8)) (m : Mg) : runW i (dec n :: r) m = runW (i + 1) r m := by
  rw [runW, dec_step n i hi]
theorem run_line (n : UInt8) (i : Nat) (hi : 1 < i) (r : List (List UInt8)) (m : Mg) : runW i (wLine :: dec n :: r) m = runW (i + 2) r { m with l := n } := by
  rw [runW, runW_num n (i + 1) (by omega)]
  unfold stepW
  rw [if_neg (by omega), if_pos rfl]
  show runW (i + 1 + 1) r { m with l := valL (dec n) } = _
  rw [val_dec]
theorem run_asker (n : UInt8) (i : Nat) (hi : 1 < i) (r : List (List UInt8)) (m : Mg) : runW i (wAsker :: dec n :: r) m = runW (i + 2) r { m with a := n } := by
  rw [runW, runW_num n (i + 1) (by omega)]
  unfold stepW
  rw [if_neg (by omega), if_neg (by decide), if_pos rfl]
  show runW (i + 1 + 1) r { m with a := valL (dec n) } = _
  rw [val_dec]
theorem run_acks (n : UInt8) (i : Nat) (hi : 1 < i) (r : List (List UInt8)) (m : Mg) : runW i (wAcks :: dec n :: r) m = runW (i + 2) r { m with c := n } := by
  rw [runW, runW_num n (i + 1) (by omega)]
  unfold stepW
  rw [if_neg (by omega), if_neg (by decide), if_neg (by decide), if_pos rfl]
  show runW (i + 1 + 1) r { m with c := valL (dec n) } = _
  rw [val_dec]
theorem run_alone (i : Nat) (hi : 1 < i) (r : List (List UInt8)) (m : Mg) : runW i (wAlone :: r) m = runW (i + 1) r { m with al := true } := by
  rw [runW]
  unfold stepW
  rw [if_neg (by omega), if_neg (by decide), if_neg (by decide), if_neg (by decide), if_pos rfl]
theorem run_data (a b c d : UInt8) (i : Nat) (hi : 1 < i) (m : Mg) : runW i [wData, dec a, dec b, dec c, dec d] m = { m with d0 := a, d1 := b, d2 := c, d3 := d } := by
  rw [runW, runW_num a (i + 1) (by omega), runW_num b _ (by omega), runW_num c _ (by omega), runW_num d _ (by omega), runW]
  unfold stepW
  rw [if_neg (by omega), if_neg (by decide), if_neg (by decide), if_neg (by decide), if_neg (by decide), if_pos ⟨rfl, by simp⟩]
  show ({ m with d0 := valL (dec a), d1 := valL (dec b), d2 := valL (dec c), d3 := valL (dec d) } : Mg) = _
  rw [val_dec, val_dec, val_dec, val_dec]
theorem u8_zero {n : UInt8} (h : n.toNat = 0) : n = 0 := UInt8.toNat_inj.1 h
theorem opt_a (m M : Mg) (i : Nat) (hi : 1 < i) (h : M.a = 0) (r : List (List UInt8)) : ∃ i', 1 < i' ∧ runW i ((if m.a.toNat = 0 then [] else [wAsker, dec m.a]) ++ r) M = runW i' r { M with a := m.a } := by
  split
  · rename_i h0
    refine ⟨i, hi, ?_⟩
    rw [u8_zero h0, ← h]; rfl
  · exact ⟨i + 2, by omega, run_asker m.a i hi r M⟩
theorem opt_c (m M : Mg) (i : Nat) (hi : 1 < i) (h : M.c = 0) (r : List (List UInt8)) : ∃ i', 1 < i' ∧ runW i ((if m.c.toNat = 0 then [] else [wAcks, dec m.c]) ++ r) M = runW i' r { M with c := m.c } := by
  split
  · rename_i h0
    refine ⟨i, hi, ?_⟩
    rw [u8_zero h0, ← h]; rfl
  · exact ⟨i + 2, by omega, run_acks m.c i hi r M⟩
theorem opt_al (m M : Mg) (i : Nat) (hi : 1 < i) (h : M.al = false) (r : List (List UInt8)) : ∃ i', 1 < i' ∧ runW i ((if m.al = false then [] else [wAlone]) ++ r) M = runW i' r { M with al := m.al } := by
  split
  · rename_i h0
    refine ⟨i, hi, ?_⟩
    rw [h0, ← h]; rfl
  · rename_i h0
    have : m.al = true := by simpa using h0
    rw [this]
    exact ⟨i + 1, by omega, run_alone i hi r M⟩
theorem opt_d (m M : Mg) (i : Nat) (hi : 1 < i) (h0 : M.d0 = 0) (h1 : M.d1 = 0) (h2 : M.d2 = 0) (h3 : M.d3 = 0) : runW i (if decide (m.d0 = 0 ∧ m.d1 = 0 ∧ m.d2 = 0 ∧ m.d3 = 0) = true then [] else [wData, dec m.d0, dec m.d1, dec m.d2, dec m.d3]) M = { M with d0 := m.d0, d1 := m.d1, d2 := m.d2, d3 := m.d3 } := by
  split
  · rename_i h
    obtain ⟨a, b, c, d⟩ := of_decide_eq_true h
    rw [a, b, c, d]
    show M = _
    obtain ⟨_, _, _, _, _, _, _, e0, e1, e2, e3⟩ := M
    simp only at h0 h1 h2 h3
    subst h0 h1 h2 h3
    rfl
  · exact run_data m.d0 m.d1 m.d2 m.d3 i hi M
theorem run_opt (m M : Mg) (i : Nat) (hi : 1 < i) (ha : M.a = 0) (hc : M.c = 0) (hal : M.al = false) (h0 : M.d0 = 0) (h1 : M.d1 = 0) (h2 : M.d2 = 0) (h3 : M.d3 = 0) :
    runW i (optW m) M = { M with a := m.a, c := m.c, al := m.al, d0 := m.d0, d1 := m.d1, d2 := m.d2, d3 := m.d3 } := by
  unfold optW
  rw [List.append_assoc, List.append_assoc]
  obtain ⟨i1, g1, e1⟩ := opt_a m M i hi ha ((if m.c.toNat = 0 then [] else [wAcks, dec m.c]) ++ ((if m.al = false then [] else [wAlone]) ++ (if decide (m.d0 = 0 ∧ m.d1 = 0 ∧ m.d2 = 0 ∧ m.d3 = 0) = true then [] else [wData, dec m.d0, dec m.d1, dec m.d2, dec m.d3])))
  obtain ⟨i2, g2, e2⟩ := opt_c m { M with a := m.a } i1 g1 hc ((if m.al = false then [] else [wAlone]) ++ (if decide (m.d0 = 0 ∧ m.d1 = 0 ∧ m.d2 = 0 ∧ m.d3 = 0) = true then [] else [wData, dec m.d0, dec m.d1, dec m.d2, dec m.d3]))
  obtain ⟨i3, g3, e3⟩ := opt_al m { M with a := m.a, c := m.c } i2 g2 hal (if decide (m.d0 = 0 ∧ m.d1 = 0 ∧ m.d2 = 0 ∧ m.d3 = 0) = true then [] else [wData, dec m.d0, dec m.d1, dec m.d2, dec m.d3])
  exact (e1.trans (e2.trans e3)).trans (opt_d m _ i3 g3 h0 h1 h2 h3)
theorem run_all (m : Mg) (K : UInt8) (hK : K = m.k) : runW 1 (dec m.f :: dec m.t :: wLine :: dec m.l :: optW m) { zeroM with k := K } = m := by
  subst hK
  rw [runW, runW_num m.t 2 (by omega), run_line m.l 3 (by omega)]
  have hs : stepW 1 (dec m.f) (dec m.t :: wLine :: dec m.l :: optW m) { zeroM with k := m.k } = { zeroM with k := m.k, f := m.f, t := m.t } := by
    unfold stepW
    rw [if_pos rfl]
    show ({ zeroM with k := m.k, f := valL (dec m.f), t := valL (dec m.t) } : Mg) = _
    rw [val_dec, val_dec]
  rw [hs, run_opt m _ 5 (by omega) rfl rfl rfl rfl rfl rfl rfl]
theorem head_clean (k : UInt8) : ∀ x ∈ headW k, Clean x := by
  intro x hx
  unfold headW at hx
  split at hx
  · rename_i h
    have := of_decide_eq_true h
    rw [List.mem_singleton] at hx
    subst hx
    exact name_clean ⟨k.toNat, this.2⟩
  · simp only [List.mem_cons, List.not_mem_nil, or_false] at hx
    rcases hx with rfl | rfl
    · exact lits_clean.1
    · exact dec_clean _
theorem cand_text (m : Mg) : candR (wsplit (textOf m) []) = m := by
  unfold textOf
  rw [words_split, wsplit_mid (headW m.k) (dec m.f) (dec m.t) (wLine :: dec m.l :: optW m) (head_clean m.k) (dec_clean _) (dec_clean _) (fun x hx => by
    rcases List.mem_cons.1 hx with rfl | hx
    · exact lits_clean.2.1
    · rcases List.mem_cons.1 hx with rfl | hx
      · exact dec_clean _
      · exact opt_clean m x hx)]
  unfold headW
  split
  · rename_i h
    have hk := of_decide_eq_true h
    show candR ((nameOf m.k.toNat).data.toList :: dec m.f :: dec m.t :: wLine :: dec m.l :: optW m) = m
    unfold candR
    simp only
    rw [if_neg (fun e => name_nk ⟨m.k.toNat, hk.2⟩ e.1)]
    exact run_all m _ (by rw [name_kindR ⟨m.k.toNat, hk.2⟩ hk.1]; simp)
  · show candR (wKind :: dec m.k :: dec m.f :: dec m.t :: wLine :: dec m.l :: optW m) = m
    unfold candR
    simp only
    rw [if_pos ⟨trivial, by simp⟩]
    exact run_all m _ ((kindR_none (dec m.k) (valL (dec m.k)) 12 (by omega) (fun j h1 h2 => dec_name ⟨m.k.toNat, m.k.toNat_lt⟩ ⟨j, by omega⟩ h1)).trans (val_dec m.k))
/-- Both parse alike. -/
theorem rparse_eq (s : ByteArray) : rparseOf s = parseOf s := by
  by_cases h : textOf (candR (wsplit s.data.toList [])) = s.data.toList
  · unfold rparseOf
    rw [if_pos h, parse_text s _ h.symm]
  · have h2 : ¬ textOf (candP (wsOf s)) = s.data.toList := fun e => by
      have := cand_text (candP (wsOf s))
      rw [e] at this
      rw [this] at h
      exact h e
    unfold rparseOf parseOf
    rw [if_neg h, if_neg h2]
theorem wsplit_sizes : ∀ (l c : List UInt8) (n : Nat), l.length + c.length ≤ n → ∀ x ∈ wsplit l c, x.length ≤ n
  | [], c, n, h, x, hx => by simp [wsplit] at hx; subst hx; simpa using h
  | b :: l, c, n, h, x, hx => by
    rw [wsplit] at hx
    simp only [List.length_cons] at h
    split at hx
    · rcases List.mem_cons.1 hx with rfl | hx
      · omega
      · exact wsplit_sizes l [] n (by simp; omega) x hx
    · exact wsplit_sizes l (c ++ [b]) n (by simp; omega) x hx
theorem wsplit_ne (l c : List UInt8) : wsplit l c ≠ [] := by
  induction l generalizing c with
  | nil => simp [wsplit]
  | cons b l ih => rw [wsplit]; split <;> simp [ih]
end Go.Proofs.YthllacodjeocmaaGreatDoor
