/- The reference's words. -/
import Derived.Test.YthllacodjeocmaaDoorT5
namespace Go.Proofs.YthllacodjeocmaaDoor
open Go.RowKit
attribute [local go_sem] Oper.semAt_some
/-- A text cut at blanks and at the sign 62. -/
def wsplit : List UInt8 → List UInt8 → List (List UInt8)
  | [], c => [c]
  | b :: l, c => if b = 32 ∨ b = 62 then c :: wsplit l [] else wsplit l (c ++ [b])
structure WSt (w : World) (v : Value) (ws : List (List UInt8)) (W : World) : Prop where
  row : W.ownsRow w.heap.size 9 1 v ws.length (ws.map strv)
  b : Below w.heap.size w W
section
variable {w W W' : World} {v v' : Value} {ws news : List (List UInt8)}
theorem WSt.next (h : WSt w v ws W) (hb : Below W.heap.size W W') : WSt w v ws W' :=
  ⟨h.row.kept (only_of_below hb none) (by cases hv : v.ownBlock <;> simp), h.b.trans (hb.mono h.b.size)⟩
theorem WSt.alloc (h : WSt w v ws W) (o : Obj) : WSt w v ws (W.alloc o) := h.next ((Below.refl _ _).alloc (Nat.le_refl _) o)
theorem WSt.append {o : Obj} (h : WSt w v ws W) (hown : W'.ownsRow w.heap.size 9 1 v' (ws.length + news.length) (ws.map strv ++ news.map strv)) (hg : (W.alloc o).grownBy W' v.ownBlock) : WSt w v' (ws ++ news) W' :=
  ⟨by rw [List.length_append, List.map_append]; exact hown, (h.b.alloc h.b.size o).grown hg (by have := h.b.size; simp; omega) (fun k hk => (h.row.lt k hk).1)⟩
end
theorem strv_cat (cl : List UInt8) (s : ByteArray) (k : Nat) (h : k < s.size) : Value.string (⟨cl.toArray⟩ ++ s.extract k (k + 1)) = strv (cl ++ [s[k]]) := by
  unfold strv
  congr 1
  apply list_inj0
  rw [cat_data, ByteArray.data_extract, Array.toList_extract]
  have h2 : k < s.data.toList.length := by simpa using h
  show cl ++ _ = cl ++ [s[k]]
  congr 1
  rw [List.extract_eq_take_drop]
  simp only [show k + 1 - k = 1 by omega]
  rw [List.drop_eq_getElem_cons h2]
  rfl
theorem drop_get (s : ByteArray) (k : Nat) (h : k < s.size) : s.data.toList.drop k = s[k] :: s.data.toList.drop (k + 1) := by
  have h2 : k < s.data.toList.length := by simpa using h
  rw [List.drop_eq_getElem_cons h2]
  rfl
set_option maxHeartbeats 2000000 in
set_option maxRecDepth 100000 in
theorem words_any (s : ByteArray) (w : World) (hs : s.size ≤ 1000) : Calls Tryd.prog 53 #[.string s] w fun e w' => ∃ g cap, e = .returned (.slice (some ⟨g, 0, none⟩) (wsplit s.data.toList []).length cap) ∧ (wsplit s.data.toList []).length ≤ 1001 ∧ Hid (WSt w (.slice (some ⟨g, 0, none⟩) (wsplit s.data.toList []).length cap) (wsplit s.data.toList []) w') := by
  obtain ⟨i0, hi, hz0, hz1, hz2⟩ := info_parts strInfo
  go_enter Tryd.func53, Tryd.ntmps53
  go_wp2
  go_loopw [3, 4, 5] (fun v c i wr => ∃ (k : Nat) (cl : List UInt8) (ws : List (List UInt8)), k ≤ s.size ∧ i = .int .i64 k ∧ c = .string ⟨cl.toArray⟩ ∧ cl.length ≤ k ∧ ws.length ≤ k ∧ Hid (wsplit s.data.toList [] = ws ++ wsplit (s.data.toList.drop k) cl) ∧ Hid (WSt w v ws wr)) (fun _ _ i _ => s.size - (intOf i).toNat)
  case atStart => exact ⟨0, [], [], Nat.zero_le _, rfl, rfl, Nat.le_refl _, Nat.le_refl _, Lib.hid rfl, Lib.hid ⟨⟨rfl, .inl ⟨rfl, rfl⟩⟩, Below.refl _ _⟩⟩
  case round =>
    obtain ⟨k, cl, ws, hk, rfl, rfl, hcl, hws, HE, HW⟩ := hrel
    have hsz : (⟨cl.toArray⟩ : ByteArray).size = cl.length := by show cl.toArray.size = _; simp
    by_cases hlt : k < s.size
    · have h4 : decide (k < s.size) = true := by simp; omega
      have h5 : decide ((k : Int) < 1000) = true := by simp; omega
      have hb := s[k].toNat_lt
      by_cases hb1 : s[k] = 32 ∨ s[k] = 62
      · have HE2 : Hid (wsplit s.data.toList [] = (ws ++ [cl]) ++ wsplit (s.data.toList.drop (k + 1)) []) := by
          show _ = _
          rw [HE.out, drop_get s k hlt, wsplit, if_pos hb1]
          simp
        by_cases hb2 : s[k] = 32
        · have q1 : ((s[k].toNat : Int) == 32) = true := by rw [hb2]; rfl
          clear hb1 hb2 hsz
          go_wp2_with (first | (at_builtin; refine wpList_append_lies _ rfl _ _ _ rfl w.heap.size 9 i0 _ 1 16 Tryd.underlying49 hi hz0 hz1 hz2 rfl (by omega) _ _ _ rfl (HW.out.alloc _).row ⟨_, 0, none⟩ 1 1 ([cl].map strv) rfl rfl (World.news_of_block (t := 9) (fr := (0, 0)) (heap_alloc_new _ _)) (by simp [Value.oneCell', strv]) (by omega) (by unfold maxLen; omega) (by omega) (by have := HW.out.b.size; simp; omega) _ rfl ?_; intro gg cap w1' hown1 hgrow hat hlt1; have hs2 := Lib.hid (HW.out.append (news := [cl]) hown1 hgrow); clear hown1 hgrow hat hlt1) | fail)
          exact ⟨⟨k + 1, [], ws ++ [cl], by omega, by go_num, rfl, by simp, by simp; omega, HE2, hs2⟩, by simp [intOf]; omega⟩
        · have q1 : ((s[k].toNat : Int) == 32) = false := by rw [beq_eq_false_iff_ne]; intro e; exact hb2 (UInt8.toNat_inj.1 (by show s[k].toNat = 32; omega))
          have q2 : ((s[k].toNat : Int) == 62) = true := by rw [hb1.resolve_left hb2]; rfl
          clear hb1 hb2 hsz
          go_wp2_with (first | (at_builtin; refine wpList_append_lies _ rfl _ _ _ rfl w.heap.size 9 i0 _ 1 16 Tryd.underlying49 hi hz0 hz1 hz2 rfl (by omega) _ _ _ rfl (HW.out.alloc _).row ⟨_, 0, none⟩ 1 1 ([cl].map strv) rfl rfl (World.news_of_block (t := 9) (fr := (0, 0)) (heap_alloc_new _ _)) (by simp [Value.oneCell', strv]) (by omega) (by unfold maxLen; omega) (by omega) (by have := HW.out.b.size; simp; omega) _ rfl ?_; intro gg cap w1' hown1 hgrow hat hlt1; have hs2 := Lib.hid (HW.out.append (news := [cl]) hown1 hgrow); clear hown1 hgrow hat hlt1) | fail)
          exact ⟨⟨k + 1, [], ws ++ [cl], by omega, by go_num, rfl, by simp, by simp; omega, HE2, hs2⟩, by simp [intOf]; omega⟩
      · have q1 : ((s[k].toNat : Int) == 32) = false := by rw [beq_eq_false_iff_ne]; intro e; exact hb1 (.inl (UInt8.toNat_inj.1 (by show s[k].toNat = 32; omega)))
        have q2 : ((s[k].toNat : Int) == 62) = false := by rw [beq_eq_false_iff_ne]; intro e; exact hb1 (.inr (UInt8.toNat_inj.1 (by show s[k].toNat = 62; omega)))
        have z1 : ¬ 9223372036854775807 < (⟨cl.toArray⟩ : ByteArray).size + (s.extract k (k + 1)).size := by
          rw [hsz]; simp only [ByteArray.size_extract]; omega
        have HE2 : Hid (wsplit s.data.toList [] = ws ++ wsplit (s.data.toList.drop (k + 1)) (cl ++ [s[k]])) := by
          show _ = _
          rw [HE.out, drop_get s k hlt, wsplit, if_neg hb1]
        clear hb1 hsz
        go_wp2
        exact ⟨⟨k + 1, cl ++ [s[k]], ws, by omega, by go_num, strv_cat cl s k hlt, by simp; omega, by omega, HE2, HW⟩, by simp [intOf]; omega⟩
    · obtain rfl : k = s.size := by omega
      have h4 : decide (s.size < s.size) = false := by simp
      have HE2 : Hid (wsplit s.data.toList [] = ws ++ [cl]) := by
        show _ = _
        rw [HE.out, List.drop_of_length_le (by simp)]
        rfl
      clear hsz
      go_wp2_with (first | (at_builtin; refine wpList_append_lies _ rfl _ _ _ rfl w.heap.size 9 i0 _ 1 16 Tryd.underlying49 hi hz0 hz1 hz2 rfl (by omega) _ _ _ rfl (HW.out.alloc _).row ⟨_, 0, none⟩ 1 1 ([cl].map strv) rfl rfl (World.news_of_block (t := 9) (fr := (0, 0)) (heap_alloc_new _ _)) (by simp [Value.oneCell', strv]) (by omega) (by unfold maxLen; omega) (by omega) (by have := HW.out.b.size; simp; omega) _ rfl ?_; intro gg cap w1' hown1 hgrow hat hlt1; have hs2 := Lib.hid (HW.out.append (news := [cl]) hown1 hgrow); clear hown1 hgrow hat hlt1) | fail)
      go_ret
      rw [HE2.out]
      exact ⟨gg, cap, by rw [List.length_append]; rfl, by simp; omega, by rw [List.length_append]; exact hs2⟩
end Go.Proofs.YthllacodjeocmaaDoor
