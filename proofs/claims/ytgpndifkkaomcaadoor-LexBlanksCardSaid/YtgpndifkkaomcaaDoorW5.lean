/- The program's lexer and the reference's agree on every source: lexes, walked. -/
import Derived.Test.YtgpndifkkaomcaaDoorW4
import Derived.Test.YtgpndifkkaomcaaDoorR4
namespace Go.Proofs.YtgpndifkkaomcaaDoor
open Go.RowKit
attribute [local go_sem] Oper.semAt_some
theorem TokOK.size {t : Tk} (h : TokOK t) : t.x.size ≤ 16 := by
  rcases h with h | h | h | h
  · exact h.2.2.1
  · have := h.2
    unfold rnumOf at this
    split at this
    · rename_i hh; have := hh.2.2.1; simp at this; omega
    · cases this
  · rcases h.2 with ⟨a, b, hx, _⟩ | ⟨a, hx, _⟩
    · rw [hx]; exact Nat.le_of_ble_eq_true rfl
    · rw [hx]; exact Nat.le_of_ble_eq_true rfl
  · rw [h.2]; decide
theorem typeGo_len : ∀ (ts : List Tk) (o : Bool), (∀ t ∈ ts, t.x.size ≤ 16) → (typeGo ts o).length ≤ ts.length * 18
  | [], _, _ => by simp [typeGo]
  | t :: r, o, h => by
    have ht := h t (by simp)
    have hs : t.x.data.toList.length = t.x.size := by simp
    rw [typeGo]
    split
    · have := typeGo_len r false (fun u hu => h u (by simp [hu]))
      simp only [List.length_cons]
      omega
    · have := typeGo_len r true (fun u hu => h u (by simp [hu]))
      rw [List.length_append]
      split
      · simp only [List.length_cons]
        omega
      · simp only [List.length_cons]
        omega
theorem lexOf_texts (s : ByteArray) : ∀ t ∈ (lexOf s).1, t.x.size ≤ 16 := by
  by_cases h : (lexOf s).2.2 = 0
  · exact fun t ht => (Good.all (lexOf_good s h) t ht).size
  · rw [lexOf_err s h]
    intro t ht
    simp at ht
theorem lexOf_type (s : ByteArray) : (typeGo (lexOf s).1 false).length ≤ 140737488355328 := by
  have h1 := typeGo_len (lexOf s).1 false (lexOf_texts s)
  have h2 := lexOf_len s
  omega
set_option maxHeartbeats 1000000 in
set_option maxRecDepth 100000 in
theorem rlex_long (s : ByteArray) (w : World) (hs : 16384 < s.size) (hmax : s.size ≤ 4611686018427387904) :
    Calls Tryd.prog 24 #[.string s] w fun e w' => e = .returned (.tuple #[.slice none 0 0, .int .i64 0, .int .i64 3]) ∧ Below w.heap.size w w' := by
  have hsd : decide ((16384 : Int) < (s.size : Int)) = true := by simp; omega
  go_enter Tryd.func24, Tryd.ntmps24
  go_wp2
  refine bodyPost_ret (v := .tuple #[.slice none 0 0, .int .i64 0, .int .i64 3]) (by simp [results, Tryd.f24, go_sem]) rfl ⟨rfl, ?_⟩
  exact Below.refl _ _
theorem rlex_row (s : ByteArray) (L : List Tk) (p : Nat) (er : Int) (h : lexOf s = (L, p, er)) (w : World) (hmax : s.size ≤ 4611686018427387904) :
    Calls Tryd.prog 24 #[.string s] w fun e w' => ∃ ao cap, e = .returned (.tuple #[.slice ao L.length cap, .int .i64 p, .int .i64 er]) ∧ RTkRow w' (.slice ao L.length cap) L ∧ Below w.heap.size w w' := by
  rw [lex_eq] at h
  unfold rlexOf at h
  split at h
  · rename_i hs
    obtain ⟨rfl, rfl, rfl⟩ : [] = L ∧ 0 = p ∧ 3 = er := by simpa using h
    refine (rlex_long s w hs hmax).mono ?_
    rintro e w' ⟨rfl, hb⟩
    exact ⟨none, 0, rfl, .inl ⟨rfl, rfl⟩, hb⟩
  · rename_i hs
    refine (rlex_short s w (by omega)).mono ?_
    rintro e w' ⟨v, rfl, hr, hb⟩
    rw [h] at hr ⊢
    obtain ⟨ao, cap, rfl⟩ := owns_form hr
    exact ⟨ao, cap, rfl, RTkRow.of_owns hr, hb⟩
set_option maxHeartbeats 1000000 in
theorem lexes_any (s : ByteArray) (w : World) (hG : Glob w) (hmax : s.size ≤ 4611686018427387904) :
    Calls Tryd.prog 10 #[.string s] w fun e w' => e = .returned (.bool true) ∧ Below w.heap.size w w' := by
  obtain ⟨⟨L, p, er⟩, hL⟩ : ∃ L, lexOf s = L := ⟨_, rfl⟩
  have HR := Lib.hid (lexOf_range s)
  have hln := lexOf_len s
  have HT := Lib.hid (lexOf_type s)
  rw [hL] at HR hln HT
  have HL := Lib.hid hL
  clear hL
  go_enter Tryd.func10, Tryd.ntmps10
  go_wp2_with fail
  go_at_call 12
  refine (lex_row s _ _ _ _ HL.out rfl _ hG hmax).mono ?_
  rintro e w2 ⟨ao1, cap1, rfl, hT1, hG2, hb2⟩
  have T1 := Lib.hid hT1
  clear hG hT1 hG2
  go_wp2_with fail
  go_at_call 24
  refine (rlex_row s _ _ _ HL.out _ hmax).mono ?_
  rintro e w3 ⟨ao2, cap2, rfl, hT2, hb3⟩
  have c3 := hb2.trans (hb3.mono hb2.size)
  have T13 := Lib.hid (T1.out.below hb3)
  have T2 := Lib.hid hT2
  clear hb2 hb3 T1 hT2
  go_wp2_with fail
  go_at_call 25
  refine (same_any _ _ L _ T13.out T2.out HR.out (by omega)).mono ?_
  rintro e w' ⟨rfl, n, rfl⟩
  have T1 : Hid (TkRow (w3.drewN n) (.slice ao1 L.length cap1) L) := T13
  have T2 : Hid (RTkRow (w3.drewN n) (.slice ao2 L.length cap2) L) := T2
  have c4 := below_drewN c3 n
  generalize w3.drewN n = w4 at T1 T2 c4 ⊢
  clear c3 T13
  go_wp2_with fail
  go_at_call 19
  refine (type_any _ L _ T1.out HT.out (by omega)).mono ?_
  rintro e w5 ⟨rfl, hb5⟩
  have c5 := c4.trans (hb5.mono c4.size)
  have T2 := Lib.hid (T2.out.below hb5)
  clear c4 hb5 T1
  go_wp2_with fail
  go_at_call 26
  refine (rtype_any _ L _ T2.out HT.out (by omega)).mono ?_
  rintro e w' ⟨rfl, rfl⟩
  go_wp2
  go_ret
  exact ⟨rfl, c5⟩
end Go.Proofs.YtgpndifkkaomcaaDoor
