/- LexJoins, walked. -/
import Derived.Test.YtgpndifkkaomcaaDoorW1
import Derived.Test.YtgpndifkkaomcaaDoorP8
import Derived.Test.YtgpndifkkaomcaaDoorP7
import Derived.Test.YtgpndifkkaomcaaDoorP10
import Derived.Test.YtgpndifkkaomcaaDoorS1
import Derived.IntWalk
namespace Go.Proofs.YtgpndifkkaomcaaDoor
open Go.RowKit
theorem owns_form {W : World} {B E : Nat} {v : Value} {n : Nat} {xs : List Value} (h : W.ownsRow B E 3 v n xs) : ∃ ao cap, v = .slice ao n cap := by
  rcases h.2 with ⟨hv, h0⟩ | ⟨g, cap, cur, hv, _⟩
  · exact ⟨none, 0, by rw [hv, h0]⟩
  · exact ⟨_, _, hv⟩
theorem TkRow.drewN {W : World} {v : Value} {ts : List Tk} (h : TkRow W v ts) (n : Nat) : TkRow (W.drewN n) v ts := h
theorem lex_row (s : ByteArray) (L : List Tk) (p : Nat) (er : Int) (N : Nat) (h : lexOf s = (L, p, er)) (hN : L.length = N) (w : World) (hG : Glob w) (hmax : s.size ≤ 4611686018427387904) :
    Calls Tryd.prog 12 #[.string s] w fun e w' => ∃ ao cap, e = .returned (.tuple #[.slice ao N cap, .int .i64 p, .int .i64 er]) ∧ TkRow w' (.slice ao N cap) L ∧ Glob w' ∧ Below w.heap.size w w' := by
  subst hN
  refine (lex_any s w hG hmax).mono ?_
  rintro e w' ⟨v, rfl, hr, hb⟩
  rw [h] at hr ⊢
  obtain ⟨ao, cap, rfl⟩ := owns_form hr
  exact ⟨ao, cap, rfl, TkRow.of_owns hr, hG.next hb, hb⟩
set_option maxHeartbeats 4000000 in
set_option maxRecDepth 100000 in
theorem joins_ok (a b : ByteArray) (w : World) (hG : Glob w) (ha : a.size ≤ 2000) (hb : b.size ≤ 2000) (l m : List Tk) (n k : Nat) (hLa : lexOf a = (l, n, 0)) (hLb : lexOf b = (m, k, 0))
    (hJ : lexOf (a ++ ⟨#[10]⟩ ++ b) = (l ++ m.map (shiftTk (a.size + 1)), 0, 0)) :
    Calls Tryd.prog 6 #[.string a, .string b] w fun e w' => e = .returned (.bool true) ∧ Below w.heap.size w w' := by
  have hab : decide ((2000 : Int) < (a.size : Int)) = false := by simp; omega
  have hbb : decide ((2000 : Int) < (b.size : Int)) = false := by simp; omega
  have hsz : (a ++ ⟨#[10]⟩ ++ b : ByteArray).size = a.size + 1 + b.size := by simp; rfl
  have hll : l.length ≤ 16385 := by have := lexOf_len a; rw [hLa] at this; exact this
  have hml : m.length ≤ 16385 := by have := lexOf_len b; rw [hLb] at this; exact this
  have HO := Lib.hid (lexOf_offs b)
  rw [hLb] at HO
  obtain ⟨X, hX⟩ : ∃ X, l ++ m.map (shiftTk (a.size + 1)) = X := ⟨_, rfl⟩
  have hXl : X.length = l.length + m.length := by rw [← hX]; simp
  have HX := Lib.hid hX
  rw [hX] at hJ
  have HJ := Lib.hid hJ
  have hm3 : Hid ((a ++ ⟨#[10]⟩ ++ b : ByteArray).size ≤ 4611686018427387904) := Lib.hid (by omega)
  clear hX hsz hJ
  go_enter Tryd.func6, Tryd.ntmps6
  go_wp2_with fail
  go_at_call 8
  refine (awake_any _ hG).mono ?_
  rintro e w1 ⟨rfl, hb1⟩
  have hG1 := hG.next hb1
  go_wp2_with fail
  go_at_call 12
  refine (lex_row a _ _ _ _ hLa rfl _ hG1 (by omega)).mono ?_
  rintro e w2 ⟨ao1, cap1, rfl, hT1, hG2, hb2⟩
  have c2 := hb1.trans (hb2.mono hb1.size)
  have T12 := Lib.hid hT1
  clear hT1 hb2 hG1 hb1 
  go_wp2_with fail
  go_at_call 12
  refine (lex_row b _ _ _ _ hLb rfl _ hG2 (by omega)).mono ?_
  rintro e w3 ⟨ao2, cap2, rfl, hT2, hG3, hb3⟩
  have c3 := c2.trans (hb3.mono c2.size)
  have T13 := Lib.hid (T12.out.below hb3)
  have T23 := Lib.hid hT2
  clear hT2 hb3 hG2 c2 T12
  go_wp2_with fail
  go_at_call 12
  refine (lex_row _ _ _ _ _ HJ.out hXl _ hG3 hm3.out).mono ?_
  rintro e w4 ⟨ao3, cap3, rfl, hT3, hG4, hb4⟩
  have c4 := c3.trans (hb4.mono c3.size)
  have T14 := Lib.hid (T13.out.below hb4)
  have T24 := Lib.hid (T23.out.below hb4)
  have T34 := Lib.hid hT3
  clear hT3 hb4 hG3 c3 T13 T23
  have T1 := T14
  have T2 := T24
  have T3 := T34
  clear T14 T24 T34 hG4 hG hLa hLb HJ hm3
  go_wp2
  go_loopg [14] l.length (fun g i wr => ∃ (k n : Nat), k ≤ l.length ∧ l.length - k ≤ g ∧ i = .int .i64 k ∧ wr = w4.drewN n)
  case atStart => exact ⟨0, 0, by omega, by omega, rfl, rfl⟩
  case round =>
    obtain ⟨k, n, hk, hg, rfl, rfl⟩ := hrel
    by_cases hlt : k < l.length
    · have hd : decide ((k : Int) < (l.length : Int)) = true := by simp; omega
      have hi0 : (k : Int) < (l.length : Int) := by omega
      have hi1 : (k : Int) < ((l.length + m.length : Nat) : Int) := by omega
      have hgk : 1 ≤ gk := by omega
      have hkX : k < X.length := by omega
      obtain ⟨g, rfl⟩ := T1.out.here hlt
      obtain ⟨g', rfl⟩ := T3.out.here hkX
      obtain ⟨c0, c1, c2⟩ := T1.out.at k hlt
      have hT3 := T3.out
      rw [← hXl] at hT3
      obtain ⟨e0, e1, e2⟩ := hT3.at k hkX
      have hXk : X[k] = l[k] := by
        have := HX.out
        subst this
        rw [List.getElem_append_left hlt]
      rw [hXk] at e0 e1 e2
      obtain ⟨t, ht⟩ : ∃ t, l[k] = t := ⟨_, rfl⟩
      rw [ht] at c0 c1 c2 e0 e1 e2
      clear ht hXk hT3 hkX
      go_wp2
      go_quiet (fail)
      go_wp2
      go_roundg (gk - 1)
      case measure => omega
      case rel => exact ⟨k + 1, n + nq, by omega, by omega, by go_num, rfl⟩
    · obtain rfl : k = l.length := by omega
      have hd : decide ((l.length : Int) < (l.length : Int)) = false := by simp
      generalize hw5 : w4.drewN n = w5
      have T1 : Hid (TkRow w5 (.slice ao1 l.length cap1) l) := by rw [← hw5]; exact T1
      have T2 : Hid (TkRow w5 (.slice ao2 m.length cap2) m) := by rw [← hw5]; exact T2
      have T3 : Hid (TkRow w5 (.slice ao3 (l.length + m.length) cap3) X) := by rw [← hw5]; exact T3
      have c5 : Below w.heap.size w w5 := by rw [← hw5]; exact ⟨c4.os, c4.tape, c4.output, c4.size, c4.block⟩
      clear c4 hw5
      go_wp2
      go_loopg [15] m.length (fun g i wr => ∃ k : Nat, k ≤ m.length ∧ m.length - k ≤ g ∧ i = .int .i64 k ∧ Hid (Below w5.heap.size w5 wr))
      case atStart => exact ⟨0, by omega, by omega, rfl, Lib.hid (Below.refl _ _)⟩
      case round =>
        obtain ⟨k, hk, hg, rfl, HB⟩ := hrel
        by_cases hlt : k < m.length
        · have hd : decide ((k : Int) < (m.length : Int)) = true := by simp; omega
          have hi0 : (k : Int) < (m.length : Int) := by omega
          have hi1 : (l.length : Int) + (k : Int) < ((l.length + m.length : Nat) : Int) := by omega
          have hgk : 1 ≤ gk := by omega
          have hkX : l.length + k < X.length := by omega
          obtain ⟨g, rfl⟩ := T2.out.here hlt
          obtain ⟨g', rfl⟩ := T3.out.here hkX
          obtain ⟨c0, c1, c2⟩ := (T2.out.below HB.out).at k hlt
          have hT3 := T3.out.below HB.out
          rw [← hXl] at hT3
          obtain ⟨e0, e1, e2⟩ := hT3.at (l.length + k) hkX
          have hXk : X[l.length + k] = shiftTk (a.size + 1) m[k] := by
            have := HX.out
            subst this
            rw [List.getElem_append_right (by omega)]
            simp
          rw [hXk] at e0 e1 e2
          obtain ⟨t, ht⟩ : ∃ t, m[k] = t := ⟨_, rfl⟩
          rw [ht] at c0 c1 c2 e0 e1 e2
          have hta : t.a ≤ 2000 := by have := HO.out m[k] (List.getElem_mem hlt); rw [ht] at this; omega
          simp only [shiftTk] at e0 e1 e2
          have he2 : ((a.size + 1 + t.a : Nat) : Int) = (t.a : Int) + (a.size : Int) + 1 := by omega
          rw [he2] at e2
          have s1 : IntKind.i64.wrap ((l.length : Int) + (k : Int)) = (l.length : Int) + (k : Int) := IntWalk.i64_in _ (by omega)
          have s2 : (0 : Int) ≤ (l.length : Int) + (k : Int) := by omega
          have s3 : ((l.length : Int) + (k : Int)).toNat = l.length + k := by omega
          clear ht hXk hT3 hkX he2
          go_wp2
          have e0' := calloc (o := .cells #[.int .u8 t.K, .string t.x, .int .i64 ((t.a : Int) + (a.size : Int) + 1)] 31) e0
          have e1' := calloc (o := .cells #[.int .u8 t.K, .string t.x, .int .i64 ((t.a : Int) + (a.size : Int) + 1)] 31) e1
          have e2' := calloc (o := .cells #[.int .u8 t.K, .string t.x, .int .i64 ((t.a : Int) + (a.size : Int) + 1)] 31) e2
          go_quiet (fail)
          go_wp2
          go_roundg (gk - 1)
          case measure => omega
          case rel => exact ⟨k + 1, by omega, by omega, by go_num, Lib.hid (below_drewN (HB.out.alloc HB.out.size _) _)⟩
        · obtain rfl : k = m.length := by omega
          have hd : decide ((m.length : Int) < (m.length : Int)) = false := by simp
          go_wp2
          go_ret
          exact ⟨rfl, c5.trans (HB.out.mono c5.size)⟩
set_option maxHeartbeats 4000000 in
set_option maxRecDepth 100000 in
theorem LexJoins_any (a b : ByteArray) (w : World) (hG : Glob w) :
    Calls Tryd.prog 6 #[.string a, .string b] w fun e w' => e = .returned (.bool true) ∧ Below w.heap.size w w' := by
  by_cases h5 : 2000 < a.size ∨ 2000 < b.size
  · rcases Classical.em (2000 < a.size) with h6 | h6
    · go_enter Tryd.func6, Tryd.ntmps6
      go_wp2_with fail
      go_at_call 8
      refine (awake_any _ hG).mono ?_
      rintro e w1 ⟨rfl, hb1⟩
      go_wp2
      go_ret
      exact ⟨rfl, hb1⟩
    · have h7 : 2000 < b.size := by omega
      have h6b : decide ((2000 : Int) < (a.size : Int)) = false := by simp; omega
      clear h5 h6
      go_enter Tryd.func6, Tryd.ntmps6
      go_wp2_with fail
      go_at_call 8
      refine (awake_any _ hG).mono ?_
      rintro e w1 ⟨rfl, hb1⟩
      go_wp2
      go_ret
      exact ⟨rfl, hb1⟩
  · have ha : a.size ≤ 2000 := by omega
    have hb : b.size ≤ 2000 := by omega
    have hab : decide ((2000 : Int) < (a.size : Int)) = false := by simp; omega
    have hbb : decide ((2000 : Int) < (b.size : Int)) = false := by simp; omega
    clear h5
    obtain ⟨⟨l, n, ea⟩, hLa⟩ : ∃ L, lexOf a = L := ⟨_, rfl⟩
    obtain ⟨⟨m, k, eb⟩, hLb⟩ : ∃ L, lexOf b = L := ⟨_, rfl⟩
    have hJ := joined_lex a b (a ++ ⟨#[10]⟩ ++ b) (by simp) ha hb
    have hsz : (a ++ ⟨#[10]⟩ ++ b : ByteArray).size = a.size + 1 + b.size := by simp; rfl
    have hm3 : Hid ((a ++ ⟨#[10]⟩ ++ b : ByteArray).size ≤ 4611686018427387904) := Lib.hid (by omega)
    rw [hLa, hLb] at hJ
    clear hsz
    by_cases he : ea = 0
    · subst he
      rw [if_neg (by simp)] at hJ
      by_cases hf : eb = 0
      · subst hf
        rw [if_neg (by simp)] at hJ
        exact joins_ok a b w hG ha hb l m n k hLa hLb hJ
      · rw [if_pos hf] at hJ
        have q1 : (eb != 0) = true := by rw [bne_iff_ne]; exact hf
        have HLa := Lib.hid hLa
        have HLb := Lib.hid hLb
        have HJ := Lib.hid hJ
        have hka := lexOf_place b
        rw [hLb] at hka
        clear hf hLa hLb hJ
        go_enter Tryd.func6, Tryd.ntmps6
        go_wp2_with fail
        go_at_call 8
        refine (awake_any _ hG).mono ?_
        rintro e w1 ⟨rfl, hb1⟩
        have hG1 := hG.next hb1
        go_wp2_with fail
        go_at_call 12
        refine (lex_row a _ _ _ _ HLa.out rfl _ hG1 (by omega)).mono ?_
        rintro e w2 ⟨ao1, cap1, rfl, _, hG2, hb2⟩
        have c2 := hb1.trans (hb2.mono hb1.size)
        clear hG1 hb1 hb2
        go_wp2_with fail
        go_at_call 12
        refine (lex_row b _ _ _ _ HLb.out rfl _ hG2 (by omega)).mono ?_
        rintro e w3 ⟨ao2, cap2, rfl, _, hG3, hb3⟩
        have c3 := c2.trans (hb3.mono c2.size)
        clear hG2 c2 hb3
        go_wp2_with fail
        go_at_call 12
        refine (lex_row _ _ _ _ _ HJ.out rfl _ hG3 hm3.out).mono ?_
        rintro e w4 ⟨ao3, cap3, rfl, _, _, hb4⟩
        have c4 := c3.trans (hb4.mono c3.size)
        clear hG3 c3 hb4
        have qk : ((a.size + 1 + k : Nat) : Int) = (k : Int) + (a.size : Int) + 1 := by clear hm3 HJ HLa HLb; omega
        rw [qk]
        clear qk
        go_wp2
        go_ret
        exact ⟨rfl, c4⟩
    · rw [if_pos he] at hJ
      have q1 : (ea != 0) = true := by rw [bne_iff_ne]; exact he
      have HLa := Lib.hid hLa
      have HLb := Lib.hid hLb
      have HJ := Lib.hid hJ
      clear he hLa hLb hJ
      go_enter Tryd.func6, Tryd.ntmps6
      go_wp2_with fail
      go_at_call 8
      refine (awake_any _ hG).mono ?_
      rintro e w1 ⟨rfl, hb1⟩
      have hG1 := hG.next hb1
      go_wp2_with fail
      go_at_call 12
      refine (lex_row a _ _ _ _ HLa.out rfl _ hG1 (by omega)).mono ?_
      rintro e w2 ⟨ao1, cap1, rfl, _, hG2, hb2⟩
      have c2 := hb1.trans (hb2.mono hb1.size)
      clear hG1 hb1 hb2
      go_wp2_with fail
      go_at_call 12
      refine (lex_row b _ _ _ _ HLb.out rfl _ hG2 (by omega)).mono ?_
      rintro e w3 ⟨ao2, cap2, rfl, _, hG3, hb3⟩
      have c3 := c2.trans (hb3.mono c2.size)
      clear hG2 c2 hb3
      go_wp2_with fail
      go_at_call 12
      refine (lex_row _ _ _ _ _ HJ.out rfl _ hG3 hm3.out).mono ?_
      rintro e w4 ⟨ao3, cap3, rfl, _, _, hb4⟩
      have c4 := c3.trans (hb4.mono c3.size)
      clear hG3 c3 hb4
      go_wp2
      go_ret
      exact ⟨rfl, c4⟩
end Go.Proofs.YtgpndifkkaomcaaDoor
