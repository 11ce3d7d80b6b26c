/- The contracts of messages over a state of known blocks. -/
import Derived.Test.YthllacodjeocmaaGreatDoorG1
import Derived.Test.YthllacodjeocmaaGreatDoorW1
namespace Go.Proofs.YthllacodjeocmaaGreatDoor
open Go.RowKit
attribute [local go_sem] Oper.semAt_some
set_option maxHeartbeats 1000000 in
/-- Bytes, with the room of the slice. -/
theorem bytes_cap (m : Mg) (w : World) : Calls Tryz.prog 12 #[m.val] w fun e w' => ∃ g cap, e = .returned (.slice (some ⟨g, 0, none⟩) 11 cap) ∧ 11 ≤ cap ∧ w.heap.size ≤ g ∧ BytesAt w' g (bytesOf m) ∧ Below w.heap.size w w' := by
  obtain ⟨k, f, t, l, a, c, al, d0, d1, d2, d3⟩ := m
  unfold Mg.val
  simp only
  cases al
  · go_enter Tryz.func12, Tryz.ntmps12
    go_wp2
    go_ret
    refine ⟨_, _, rfl, Nat.le_add_right 11 _, by omega, bytes_cells _ _ _ _ _ _ (bytesOf ⟨k, f, t, l, a, c, false, d0, d1, d2, d3⟩) (by simp) rfl, ?_⟩
    exact below_drewN ((((Below.refl _ w).alloc (Nat.le_refl _) _).alloc (by simp) _).alloc (by simp; omega) _) 1
  · go_enter Tryz.func12, Tryz.ntmps12
    go_wp2
    go_ret
    refine ⟨_, _, rfl, Nat.le_add_right 11 _, by omega, bytes_cells _ _ _ _ _ _ (bytesOf ⟨k, f, t, l, a, c, true, d0, d1, d2, d3⟩) (by simp) rfl, ?_⟩
    exact below_drewN ((((Below.refl _ w).alloc (Nat.le_refl _) _).alloc (by simp) _).alloc (by simp; omega) _) 1
def textS (m : Mg) : ByteArray := ⟨(textOf m).toArray⟩
theorem opt_le (m : Mg) : (wordsOf m).length ≤ 15 := by
  have h := opt_len m
  have h2 : (headW m.k).length ≤ 2 := by unfold headW; split <;> simp
  rw [words_split]
  simp only [List.length_append, List.length_cons]
  omega
theorem textS_size (m : Mg) : (textS m).size ≤ 1000 := by
  have h1 := join_len [32] 7 (wordsOf m) (words_len m)
  have h2 := opt_le m
  have h3 : (textS m).size = (textOf m).length := by show (textOf m).toArray.size = _; simp
  rw [h3]
  unfold textOf
  simp at h1
  omega
section
variable {bs : List (Nat × Array Value × TypeId)} {w W : World}
theorem awake_st (h : Hid (St bs w W)) : Calls Tryz.prog 7 #[] W fun e w' => e = .returned (.bool true) ∧ Hid (St bs w w') :=
  (awake_any W h.out.g).mono fun _ _ ⟨e, hb⟩ => ⟨e, Lib.hid (h.out.next hb)⟩
theorem text_st2 (m : Mg) (h : Hid (St bs w W)) : Calls Tryz.prog 14 #[.agg (boxOf m)] W fun e w' => e = .returned (.string (textS m)) ∧ Hid (St bs w w') :=
  (text_any m W h.out.g).mono fun _ _ ⟨e, hb⟩ => ⟨e, Lib.hid (h.out.next hb)⟩
theorem parse_st2 (s : ByteArray) (hs : s.size ≤ 10000) (h : Hid (St bs w W)) : Calls Tryz.prog 17 #[.string s] W fun e w' => e = .returned (.tuple #[.agg (boxOf (parseOf s).1), .int .i64 (parseOf s).2]) ∧ Hid (St bs w w') :=
  (parse_any s W h.out.g hs).mono fun _ _ ⟨e, hb⟩ => ⟨e, Lib.hid (h.out.next hb)⟩
theorem bytes_st2 (m : Mg) (h : Hid (St bs w W)) : Calls Tryz.prog 12 #[.agg (boxOf m)] W fun e w' => ∃ g cap, e = .returned (.slice (some ⟨g, 0, none⟩) 11 cap) ∧ 11 ≤ cap ∧ Hid (BytesAt w' g (bytesOf m)) ∧ Hid (St bs w w') :=
  (bytes_cap m W).mono fun _ _ ⟨g, cap, e, hc, _, hA, hb⟩ => ⟨g, cap, e, hc, Lib.hid hA, Lib.hid (h.out.next hb)⟩
/-- Read, for every slice of bytes. -/
theorem read_any (v : Value) (l : List UInt8) (hl : l.length < 9223372036854775808) (hv : Bts W v l) : Calls Tryz.prog 31 #[v] W fun e w' => e = .returned (.tuple #[(readOf l).1.val, .bool (readOf l).2]) ∧ Below W.heap.size W w' := by
  obtain ⟨A, cap, rfl, hc, hB⟩ := hv
  by_cases h : l.length = 11
  · obtain ⟨b, o, rfl, hB2⟩ := hB (by omega)
    obtain ⟨k, f, t, ln, a, c, x, d0, d1, d2, d3, rfl⟩ := list11 h
    exact read_full b o cap (by simpa using hc) k f t ln a c x d0 d1 d2 d3 W (Lib.hid hB2)
  · rw [readOf_short h]
    exact read_short A l.length cap hl (by omega) W
theorem read_st2 (v : Value) (l : List UInt8) (hl : l.length < 9223372036854775808) (hv : Bts W v l) (h : Hid (St bs w W)) : Calls Tryz.prog 31 #[v] W fun e w' => e = .returned (.tuple #[.agg (boxOf (readOf l).1), .bool (readOf l).2]) ∧ Hid (St bs w w') :=
  (read_any v l hl hv).mono fun _ _ ⟨e, hb⟩ => ⟨e, Lib.hid (h.out.next hb)⟩
end
theorem Bts.below {W W' : World} {v : Value} {l : List UInt8} (h : Bts W v l) (hb : Below W.heap.size W W') : Bts W' v l := by
  obtain ⟨A, cap, e, hc, hB⟩ := h
  refine ⟨A, cap, e, hc, fun h0 => ?_⟩
  obtain ⟨b, o, e2, h⟩ := hB h0
  exact ⟨b, o, e2, h.below hb⟩
theorem Bts.of {W : World} {g cap : Nat} {l : List UInt8} (h : BytesAt W g l) (hc : l.length ≤ cap) : Bts W (.slice (some ⟨g, 0, none⟩) l.length cap) l := ⟨_, cap, rfl, hc, fun _ => ⟨g, 0, rfl, h.o⟩⟩
/-- What is read of an encoding. -/
theorem read_back (m : Mg) : readOf (bytesOf m) = (m, true) := by
  obtain ⟨k, f, t, l, a, c, al, d0, d1, d2, d3⟩ := m
  unfold bytesOf readOf
  cases al <;> rfl
/-- What can be read is the encoding of what is read. -/
theorem read_only (l : List UInt8) : ((readOf l).2 = true → bytesOf (readOf l).1 = l) ∧ ((readOf l).2 = false → (readOf l).1 = zeroM) := by
  unfold readOf
  split
  · rename_i k f t ln a c x d0 d1 d2 d3
    by_cases h0 : x = 0
    · subst h0; simp [bytesOf]
    · by_cases h1 : x = 1
      · subst h1; simp [bytesOf]
      · simp [h0, h1]
  · simp
theorem parse_back (m : Mg) : parseOf (textS m) = (m, 0) := parse_text (textS m) m rfl
/-- What can be parsed is the text of what is parsed. -/
theorem parse_only (s : ByteArray) : ((parseOf s).2 = 0 → textS (parseOf s).1 = s) ∧ (¬ (parseOf s).2 = 0 → (parseOf s).1 = zeroM ∧ (parseOf s).2 = 170) := by
  unfold parseOf
  split
  · rename_i h
    exact ⟨fun _ => list_inj h, fun h => absurd rfl h⟩
  · exact ⟨fun h => by simp at h, fun _ => ⟨rfl, rfl⟩⟩
end Go.Proofs.YthllacodjeocmaaGreatDoor
