/- LexNames, walked. -/
import Derived.Test.YtgpndifkkaomcaaDoorW1
import Derived.Test.YtgpndifkkaomcaaDoorP4
namespace Go.Proofs.YtgpndifkkaomcaaDoor
open Go.RowKit
set_option maxHeartbeats 16000000 in
set_option maxRecDepth 100000 in
theorem LexNames_any (s : ByteArray) (w : World) (hG : Glob w) :
    Calls Tryd.prog 7 #[.string s] w fun e w' => e = .returned (.bool true) ∧ Below w.heap.size w w' := by
  by_cases h5 : 5000 < s.size
  · go_enter Tryd.func7, Tryd.ntmps7
    go_wp2_with fail
    go_at_call 8
    refine (awake_any _ hG).mono ?_
    rintro e w1 ⟨rfl, hb1⟩
    go_wp2
    go_ret
    exact ⟨rfl, hb1⟩
  · have hmax : s.size ≤ 5000 := by omega
    have h5b : decide ((5000 : Int) < (s.size : Int)) = false := by simp; omega
    clear h5
    have hLe := lex_eq s
    have hss : (s.toList == s.toList) = true := by rw [beq_iff_eq]
    cases hw : wordLike s
    · have hN : nameB s = false := by
        cases h : nameB s
        · rfl
        · rw [(name_like h).1] at hw; cases hw
      have hR : (regOf s.data.toList).2 = false := by
        cases h : (regOf s.data.toList).2
        · rfl
        · rw [(reg_like h).1] at hw; cases hw
      have hK : keptB s = false := by
        cases h : keptB s
        · rfl
        · rw [(kept_like h).1] at hw; cases hw
      clear hw
      cases hn : (numOf s.data.toList).2
      · clear hLe
        obtain ⟨⟨ts, p, er⟩, hL⟩ : ∃ L, lexOf s = L := ⟨_, rfl⟩
        by_cases he : er = 0
        · subst he
          by_cases h2 : ts.length = 2
          · obtain ⟨t0, t1, rfl⟩ : ∃ t0 t1, ts = [t0, t1] := by
              match ts, h2 with
              | [a, b], _ => exact ⟨a, b, rfl⟩
            clear h2
            cases hx : (t0.x.toList == s.toList)
            · go_enter Tryd.func7, Tryd.ntmps7
              go_wp2_with fail
              go_at_call 8
              refine (awake_any _ hG).mono ?_
              rintro e w1 ⟨rfl, hb1⟩
              have hG1 := hG.next hb1
              go_wp2_with fail
              go_at_call 12
              refine (lex_any s _ hG1 (by omega)).mono ?_
              rintro e w2 ⟨v, rfl, hown, hb2⟩
              have hG2 := hG1.next hb2
              have c2 := hb1.trans (hb2.mono hb1.size)
              rw [hL] at hown ⊢
              have hT2 := TkRow.of_owns hown
              clear hown
              obtain ⟨g, cap, rfl⟩ : ∃ g cap, v = .slice (some ⟨g, 0, none⟩) 2 cap := by
                rcases hT2 with ⟨_, h0⟩ | ⟨g, cap, h, _⟩
                · cases h0
                · exact ⟨g, cap, h⟩
              obtain ⟨a0, a1, a2⟩ := TkRow.at (ts := [t0, t1]) hT2 0 (by simp)
              simp only [List.getElem_cons_zero] at a0 a1 a2
              have HT2 := Lib.hid hT2
              clear hT2
              clear hG1 hb1 hb2
              go_wp2_with fail
              go_at_call 15
              refine (reg_any s _).mono ?_
              rintro e w' ⟨rfl, rfl⟩
              rw [hR]
              go_wp2_with fail
              go_at_call 16
              refine (num_any s _ hG2 (by omega)).mono ?_
              rintro e w3 ⟨rfl, hb3⟩
              rw [hn]
              have c3 := c2.trans (hb3.mono c2.size)
              have HT3 := Lib.hid (HT2.out.below hb3)
              clear HT2 hb3 a0 a1 a2
              clear hG2 c2
              go_wp2_with fail
              go_at_call 17
              refine (name_any s _ (by omega)).mono ?_
              rintro e w4 ⟨rfl, hb4⟩
              rw [hN]
              have c4 := c3.trans (hb4.mono c3.size)
              have HT4 := Lib.hid (HT3.out.below hb4)
              clear HT3 hb4
              clear c3
              go_wp2_with fail
              go_at_call 18
              refine (kept_any s _).mono ?_
              rintro e w5 ⟨rfl, hb5⟩
              rw [hK]
              have c5 := c4.trans (hb5.mono c4.size)
              obtain ⟨a0, a1, a2⟩ := TkRow.at (ts := [t0, t1]) (HT4.out.below hb5) 0 (Nat.zero_lt_succ _)
              simp only [List.getElem_cons_zero] at a0 a1 a2
              clear HT4 hb5
              clear c4
              go_wp2
              go_ret
              exact ⟨rfl, c5⟩

            · cases ha : ((t0.a : Int) == 0)
              · go_enter Tryd.func7, Tryd.ntmps7
                go_wp2_with fail
                go_at_call 8
                refine (awake_any _ hG).mono ?_
                rintro e w1 ⟨rfl, hb1⟩
                have hG1 := hG.next hb1
                go_wp2_with fail
                go_at_call 12
                refine (lex_any s _ hG1 (by omega)).mono ?_
                rintro e w2 ⟨v, rfl, hown, hb2⟩
                have hG2 := hG1.next hb2
                have c2 := hb1.trans (hb2.mono hb1.size)
                rw [hL] at hown ⊢
                have hT2 := TkRow.of_owns hown
                clear hown
                obtain ⟨g, cap, rfl⟩ : ∃ g cap, v = .slice (some ⟨g, 0, none⟩) 2 cap := by
                  rcases hT2 with ⟨_, h0⟩ | ⟨g, cap, h, _⟩
                  · cases h0
                  · exact ⟨g, cap, h⟩
                obtain ⟨a0, a1, a2⟩ := TkRow.at (ts := [t0, t1]) hT2 0 (by simp)
                simp only [List.getElem_cons_zero] at a0 a1 a2
                have HT2 := Lib.hid hT2
                clear hT2
                clear hG1 hb1 hb2
                go_wp2_with fail
                go_at_call 15
                refine (reg_any s _).mono ?_
                rintro e w' ⟨rfl, rfl⟩
                rw [hR]
                go_wp2_with fail
                go_at_call 16
                refine (num_any s _ hG2 (by omega)).mono ?_
                rintro e w3 ⟨rfl, hb3⟩
                rw [hn]
                have c3 := c2.trans (hb3.mono c2.size)
                have HT3 := Lib.hid (HT2.out.below hb3)
                clear HT2 hb3 a0 a1 a2
                clear hG2 c2
                go_wp2_with fail
                go_at_call 17
                refine (name_any s _ (by omega)).mono ?_
                rintro e w4 ⟨rfl, hb4⟩
                rw [hN]
                have c4 := c3.trans (hb4.mono c3.size)
                have HT4 := Lib.hid (HT3.out.below hb4)
                clear HT3 hb4
                clear c3
                go_wp2_with fail
                go_at_call 18
                refine (kept_any s _).mono ?_
                rintro e w5 ⟨rfl, hb5⟩
                rw [hK]
                have c5 := c4.trans (hb5.mono c4.size)
                obtain ⟨a0, a1, a2⟩ := TkRow.at (ts := [t0, t1]) (HT4.out.below hb5) 0 (Nat.zero_lt_succ _)
                simp only [List.getElem_cons_zero] at a0 a1 a2
                clear HT4 hb5
                clear c4
                go_wp2
                go_ret
                exact ⟨rfl, c5⟩

              · go_enter Tryd.func7, Tryd.ntmps7
                go_wp2_with fail
                go_at_call 8
                refine (awake_any _ hG).mono ?_
                rintro e w1 ⟨rfl, hb1⟩
                have hG1 := hG.next hb1
                go_wp2_with fail
                go_at_call 12
                refine (lex_any s _ hG1 (by omega)).mono ?_
                rintro e w2 ⟨v, rfl, hown, hb2⟩
                have hG2 := hG1.next hb2
                have c2 := hb1.trans (hb2.mono hb1.size)
                rw [hL] at hown ⊢
                have hT2 := TkRow.of_owns hown
                clear hown
                obtain ⟨g, cap, rfl⟩ : ∃ g cap, v = .slice (some ⟨g, 0, none⟩) 2 cap := by
                  rcases hT2 with ⟨_, h0⟩ | ⟨g, cap, h, _⟩
                  · cases h0
                  · exact ⟨g, cap, h⟩
                obtain ⟨a0, a1, a2⟩ := TkRow.at (ts := [t0, t1]) hT2 0 (by simp)
                simp only [List.getElem_cons_zero] at a0 a1 a2
                have HT2 := Lib.hid hT2
                clear hT2
                clear hG1 hb1 hb2
                go_wp2_with fail
                go_at_call 15
                refine (reg_any s _).mono ?_
                rintro e w' ⟨rfl, rfl⟩
                rw [hR]
                go_wp2_with fail
                go_at_call 16
                refine (num_any s _ hG2 (by omega)).mono ?_
                rintro e w3 ⟨rfl, hb3⟩
                rw [hn]
                have c3 := c2.trans (hb3.mono c2.size)
                have HT3 := Lib.hid (HT2.out.below hb3)
                clear HT2 hb3 a0 a1 a2
                clear hG2 c2
                go_wp2_with fail
                go_at_call 17
                refine (name_any s _ (by omega)).mono ?_
                rintro e w4 ⟨rfl, hb4⟩
                rw [hN]
                have c4 := c3.trans (hb4.mono c3.size)
                have HT4 := Lib.hid (HT3.out.below hb4)
                clear HT3 hb4
                clear c3
                go_wp2_with fail
                go_at_call 18
                refine (kept_any s _).mono ?_
                rintro e w5 ⟨rfl, hb5⟩
                rw [hK]
                have c5 := c4.trans (hb5.mono c4.size)
                obtain ⟨a0, a1, a2⟩ := TkRow.at (ts := [t0, t1]) (HT4.out.below hb5) 0 (Nat.zero_lt_succ _)
                simp only [List.getElem_cons_zero] at a0 a1 a2
                clear HT4 hb5
                clear c4
                go_wp2
                go_ret
                exact ⟨rfl, c5⟩

          · have h2b : ((ts.length : Int) == 2) = false := by rw [beq_eq_false_iff_ne]; omega
            clear h2
            go_enter Tryd.func7, Tryd.ntmps7
            go_wp2_with fail
            go_at_call 8
            refine (awake_any _ hG).mono ?_
            rintro e w1 ⟨rfl, hb1⟩
            have hG1 := hG.next hb1
            go_wp2_with fail
            go_at_call 12
            refine (lex_any s _ hG1 (by omega)).mono ?_
            rintro e w2 ⟨v, rfl, hown, hb2⟩
            have hG2 := hG1.next hb2
            have c2 := hb1.trans (hb2.mono hb1.size)
            rw [hL] at hown ⊢
            obtain ⟨ao, cap, rfl⟩ : ∃ ao cap, v = .slice ao ts.length cap := by
              rcases hown.2 with ⟨hv, h0⟩ | ⟨g, cap, cur, hv, _⟩
              · exact ⟨none, 0, by rw [hv]; exact congrArg (fun n => Value.slice none n 0) h0.symm⟩
              · exact ⟨_, _, hv⟩
            clear hown
            clear hG1 hb1 hb2
            go_wp2_with fail
            go_at_call 15
            refine (reg_any s _).mono ?_
            rintro e w' ⟨rfl, rfl⟩
            rw [hR]
            go_wp2_with fail
            go_at_call 16
            refine (num_any s _ hG2 (by omega)).mono ?_
            rintro e w3 ⟨rfl, hb3⟩
            rw [hn]
            have c3 := c2.trans (hb3.mono c2.size)
            clear hb3
            clear hG2 c2
            go_wp2_with fail
            go_at_call 17
            refine (name_any s _ (by omega)).mono ?_
            rintro e w4 ⟨rfl, hb4⟩
            rw [hN]
            have c4 := c3.trans (hb4.mono c3.size)
            clear hb4
            clear c3
            go_wp2_with fail
            go_at_call 18
            refine (kept_any s _).mono ?_
            rintro e w5 ⟨rfl, hb5⟩
            rw [hK]
            have c5 := c4.trans (hb5.mono c4.size)
            clear hb5
            clear c4
            go_wp2
            go_ret
            exact ⟨rfl, c5⟩
        · have heb : (er == 0) = false := by rw [beq_eq_false_iff_ne]; exact he
          clear he
          go_enter Tryd.func7, Tryd.ntmps7
          go_wp2_with fail
          go_at_call 8
          refine (awake_any _ hG).mono ?_
          rintro e w1 ⟨rfl, hb1⟩
          have hG1 := hG.next hb1
          go_wp2_with fail
          go_at_call 12
          refine (lex_any s _ hG1 (by omega)).mono ?_
          rintro e w2 ⟨v, rfl, hown, hb2⟩
          have hG2 := hG1.next hb2
          have c2 := hb1.trans (hb2.mono hb1.size)
          rw [hL] at hown ⊢
          obtain ⟨ao, cap, rfl⟩ : ∃ ao cap, v = .slice ao ts.length cap := by
            rcases hown.2 with ⟨hv, h0⟩ | ⟨g, cap, cur, hv, _⟩
            · exact ⟨none, 0, by rw [hv]; exact congrArg (fun n => Value.slice none n 0) h0.symm⟩
            · exact ⟨_, _, hv⟩
          clear hown
          clear hG1 hb1 hb2
          go_wp2_with fail
          go_at_call 15
          refine (reg_any s _).mono ?_
          rintro e w' ⟨rfl, rfl⟩
          rw [hR]
          go_wp2_with fail
          go_at_call 16
          refine (num_any s _ hG2 (by omega)).mono ?_
          rintro e w3 ⟨rfl, hb3⟩
          rw [hn]
          have c3 := c2.trans (hb3.mono c2.size)
          clear hb3
          clear hG2 c2
          go_wp2_with fail
          go_at_call 17
          refine (name_any s _ (by omega)).mono ?_
          rintro e w4 ⟨rfl, hb4⟩
          rw [hN]
          have c4 := c3.trans (hb4.mono c3.size)
          clear hb4
          clear c3
          go_wp2_with fail
          go_at_call 18
          refine (kept_any s _).mono ?_
          rintro e w5 ⟨rfl, hb5⟩
          rw [hK]
          have c5 := c4.trans (hb5.mono c4.size)
          clear hb5
          clear c4
          go_wp2
          go_ret
          exact ⟨rfl, c5⟩
      · have hL := hLe.trans (lex_number s (by rw [← num_eq]; exact hn)).2.2
        clear hLe
        go_enter Tryd.func7, Tryd.ntmps7
        go_wp2_with fail
        go_at_call 8
        refine (awake_any _ hG).mono ?_
        rintro e w1 ⟨rfl, hb1⟩
        have hG1 := hG.next hb1
        go_wp2_with fail
        go_at_call 12
        refine (lex_any s _ hG1 (by omega)).mono ?_
        rintro e w2 ⟨v, rfl, hown, hb2⟩
        have hG2 := hG1.next hb2
        have c2 := hb1.trans (hb2.mono hb1.size)
        rw [hL] at hown ⊢
        have hT2 := TkRow.of_owns hown
        clear hown
        obtain ⟨g, cap, rfl⟩ : ∃ g cap, v = .slice (some ⟨g, 0, none⟩) 2 cap := by
          rcases hT2 with ⟨_, h0⟩ | ⟨g, cap, h, _⟩
          · cases h0
          · exact ⟨g, cap, h⟩
        obtain ⟨a0, a1, a2⟩ := TkRow.at (ts := [⟨2, s, 0⟩, ⟨4, ⟨#[]⟩, s.size⟩]) hT2 0 (by simp)
        simp only [List.getElem_cons_zero] at a0 a1 a2
        have HT2 := Lib.hid hT2
        clear hT2
        clear hG1 hb1 hb2
        go_wp2_with fail
        go_at_call 15
        refine (reg_any s _).mono ?_
        rintro e w' ⟨rfl, rfl⟩
        rw [hR]
        go_wp2_with fail
        go_at_call 16
        refine (num_any s _ hG2 (by omega)).mono ?_
        rintro e w3 ⟨rfl, hb3⟩
        rw [hn]
        have c3 := c2.trans (hb3.mono c2.size)
        have HT3 := Lib.hid (HT2.out.below hb3)
        clear HT2 hb3 a0 a1 a2
        clear hG2 c2
        go_wp2_with fail
        go_at_call 17
        refine (name_any s _ (by omega)).mono ?_
        rintro e w4 ⟨rfl, hb4⟩
        rw [hN]
        have c4 := c3.trans (hb4.mono c3.size)
        have HT4 := Lib.hid (HT3.out.below hb4)
        clear HT3 hb4
        clear c3
        go_wp2_with fail
        go_at_call 18
        refine (kept_any s _).mono ?_
        rintro e w5 ⟨rfl, hb5⟩
        rw [hK]
        have c5 := c4.trans (hb5.mono c4.size)
        obtain ⟨a0, a1, a2⟩ := TkRow.at (ts := [⟨2, s, 0⟩, ⟨4, ⟨#[]⟩, s.size⟩]) (HT4.out.below hb5) 0 (Nat.zero_lt_succ _)
        simp only [List.getElem_cons_zero] at a0 a1 a2
        clear HT4 hb5
        clear c4
        go_wp2
        go_ret
        exact ⟨rfl, c5⟩
    · have hL := hLe.trans (wordLike_lex hw)
      have hn := wordLike_num hw
      clear hLe hw
      cases hN : nameB s
      · cases hR : (regOf s.data.toList).2
        · cases hK : keptB s
          · go_enter Tryd.func7, Tryd.ntmps7
            go_wp2_with fail
            go_at_call 8
            refine (awake_any _ hG).mono ?_
            rintro e w1 ⟨rfl, hb1⟩
            have hG1 := hG.next hb1
            go_wp2_with fail
            go_at_call 12
            refine (lex_any s _ hG1 (by omega)).mono ?_
            rintro e w2 ⟨v, rfl, hown, hb2⟩
            have hG2 := hG1.next hb2
            have c2 := hb1.trans (hb2.mono hb1.size)
            rw [hL] at hown ⊢
            have hT2 := TkRow.of_owns hown
            clear hown
            obtain ⟨g, cap, rfl⟩ : ∃ g cap, v = .slice (some ⟨g, 0, none⟩) 2 cap := by
              rcases hT2 with ⟨_, h0⟩ | ⟨g, cap, h, _⟩
              · cases h0
              · exact ⟨g, cap, h⟩
            obtain ⟨a0, a1, a2⟩ := TkRow.at (ts := [⟨1, s, 0⟩, ⟨4, ⟨#[]⟩, s.size⟩]) hT2 0 (by simp)
            simp only [List.getElem_cons_zero] at a0 a1 a2
            have HT2 := Lib.hid hT2
            clear hT2
            clear hG1 hb1 hb2
            go_wp2_with fail
            go_at_call 15
            refine (reg_any s _).mono ?_
            rintro e w' ⟨rfl, rfl⟩
            rw [hR]
            go_wp2_with fail
            go_at_call 16
            refine (num_any s _ hG2 (by omega)).mono ?_
            rintro e w3 ⟨rfl, hb3⟩
            rw [hn]
            have c3 := c2.trans (hb3.mono c2.size)
            have HT3 := Lib.hid (HT2.out.below hb3)
            clear HT2 hb3 a0 a1 a2
            clear hG2 c2
            go_wp2_with fail
            go_at_call 17
            refine (name_any s _ (by omega)).mono ?_
            rintro e w4 ⟨rfl, hb4⟩
            rw [hN]
            have c4 := c3.trans (hb4.mono c3.size)
            have HT4 := Lib.hid (HT3.out.below hb4)
            clear HT3 hb4
            clear c3
            go_wp2_with fail
            go_at_call 18
            refine (kept_any s _).mono ?_
            rintro e w5 ⟨rfl, hb5⟩
            rw [hK]
            have c5 := c4.trans (hb5.mono c4.size)
            obtain ⟨a0, a1, a2⟩ := TkRow.at (ts := [⟨1, s, 0⟩, ⟨4, ⟨#[]⟩, s.size⟩]) (HT4.out.below hb5) 0 (Nat.zero_lt_succ _)
            simp only [List.getElem_cons_zero] at a0 a1 a2
            clear HT4 hb5
            clear c4
            go_wp2
            go_ret
            exact ⟨rfl, c5⟩

          · go_enter Tryd.func7, Tryd.ntmps7
            go_wp2_with fail
            go_at_call 8
            refine (awake_any _ hG).mono ?_
            rintro e w1 ⟨rfl, hb1⟩
            have hG1 := hG.next hb1
            go_wp2_with fail
            go_at_call 12
            refine (lex_any s _ hG1 (by omega)).mono ?_
            rintro e w2 ⟨v, rfl, hown, hb2⟩
            have hG2 := hG1.next hb2
            have c2 := hb1.trans (hb2.mono hb1.size)
            rw [hL] at hown ⊢
            have hT2 := TkRow.of_owns hown
            clear hown
            obtain ⟨g, cap, rfl⟩ : ∃ g cap, v = .slice (some ⟨g, 0, none⟩) 2 cap := by
              rcases hT2 with ⟨_, h0⟩ | ⟨g, cap, h, _⟩
              · cases h0
              · exact ⟨g, cap, h⟩
            obtain ⟨a0, a1, a2⟩ := TkRow.at (ts := [⟨1, s, 0⟩, ⟨4, ⟨#[]⟩, s.size⟩]) hT2 0 (by simp)
            simp only [List.getElem_cons_zero] at a0 a1 a2
            have HT2 := Lib.hid hT2
            clear hT2
            clear hG1 hb1 hb2
            go_wp2_with fail
            go_at_call 15
            refine (reg_any s _).mono ?_
            rintro e w' ⟨rfl, rfl⟩
            rw [hR]
            go_wp2_with fail
            go_at_call 16
            refine (num_any s _ hG2 (by omega)).mono ?_
            rintro e w3 ⟨rfl, hb3⟩
            rw [hn]
            have c3 := c2.trans (hb3.mono c2.size)
            have HT3 := Lib.hid (HT2.out.below hb3)
            clear HT2 hb3 a0 a1 a2
            clear hG2 c2
            go_wp2_with fail
            go_at_call 17
            refine (name_any s _ (by omega)).mono ?_
            rintro e w4 ⟨rfl, hb4⟩
            rw [hN]
            have c4 := c3.trans (hb4.mono c3.size)
            have HT4 := Lib.hid (HT3.out.below hb4)
            clear HT3 hb4
            clear c3
            go_wp2_with fail
            go_at_call 18
            refine (kept_any s _).mono ?_
            rintro e w5 ⟨rfl, hb5⟩
            rw [hK]
            have c5 := c4.trans (hb5.mono c4.size)
            obtain ⟨a0, a1, a2⟩ := TkRow.at (ts := [⟨1, s, 0⟩, ⟨4, ⟨#[]⟩, s.size⟩]) (HT4.out.below hb5) 0 (Nat.zero_lt_succ _)
            simp only [List.getElem_cons_zero] at a0 a1 a2
            clear HT4 hb5
            clear c4
            go_wp2
            go_ret
            exact ⟨rfl, c5⟩

        · have hK : keptB s = false := by
            cases h : keptB s
            · rfl
            · rw [(kept_like h).2] at hR; cases hR
          go_enter Tryd.func7, Tryd.ntmps7
          go_wp2_with fail
          go_at_call 8
          refine (awake_any _ hG).mono ?_
          rintro e w1 ⟨rfl, hb1⟩
          have hG1 := hG.next hb1
          go_wp2_with fail
          go_at_call 12
          refine (lex_any s _ hG1 (by omega)).mono ?_
          rintro e w2 ⟨v, rfl, hown, hb2⟩
          have hG2 := hG1.next hb2
          have c2 := hb1.trans (hb2.mono hb1.size)
          rw [hL] at hown ⊢
          have hT2 := TkRow.of_owns hown
          clear hown
          obtain ⟨g, cap, rfl⟩ : ∃ g cap, v = .slice (some ⟨g, 0, none⟩) 2 cap := by
            rcases hT2 with ⟨_, h0⟩ | ⟨g, cap, h, _⟩
            · cases h0
            · exact ⟨g, cap, h⟩
          obtain ⟨a0, a1, a2⟩ := TkRow.at (ts := [⟨1, s, 0⟩, ⟨4, ⟨#[]⟩, s.size⟩]) hT2 0 (by simp)
          simp only [List.getElem_cons_zero] at a0 a1 a2
          have HT2 := Lib.hid hT2
          clear hT2
          clear hG1 hb1 hb2
          go_wp2_with fail
          go_at_call 15
          refine (reg_any s _).mono ?_
          rintro e w' ⟨rfl, rfl⟩
          rw [hR]
          go_wp2_with fail
          go_at_call 16
          refine (num_any s _ hG2 (by omega)).mono ?_
          rintro e w3 ⟨rfl, hb3⟩
          rw [hn]
          have c3 := c2.trans (hb3.mono c2.size)
          have HT3 := Lib.hid (HT2.out.below hb3)
          clear HT2 hb3 a0 a1 a2
          clear hG2 c2
          go_wp2_with fail
          go_at_call 17
          refine (name_any s _ (by omega)).mono ?_
          rintro e w4 ⟨rfl, hb4⟩
          rw [hN]
          have c4 := c3.trans (hb4.mono c3.size)
          have HT4 := Lib.hid (HT3.out.below hb4)
          clear HT3 hb4
          clear c3
          go_wp2_with fail
          go_at_call 18
          refine (kept_any s _).mono ?_
          rintro e w5 ⟨rfl, hb5⟩
          rw [hK]
          have c5 := c4.trans (hb5.mono c4.size)
          obtain ⟨a0, a1, a2⟩ := TkRow.at (ts := [⟨1, s, 0⟩, ⟨4, ⟨#[]⟩, s.size⟩]) (HT4.out.below hb5) 0 (Nat.zero_lt_succ _)
          simp only [List.getElem_cons_zero] at a0 a1 a2
          clear HT4 hb5
          clear c4
          go_wp2
          go_ret
          exact ⟨rfl, c5⟩
      · have hK := (name_like hN).2
        have hR : (regOf s.data.toList).2 = false := by
          cases h : (regOf s.data.toList).2
          · rfl
          · rw [(reg_like h).2] at hN; cases hN
        go_enter Tryd.func7, Tryd.ntmps7
        go_wp2_with fail
        go_at_call 8
        refine (awake_any _ hG).mono ?_
        rintro e w1 ⟨rfl, hb1⟩
        have hG1 := hG.next hb1
        go_wp2_with fail
        go_at_call 12
        refine (lex_any s _ hG1 (by omega)).mono ?_
        rintro e w2 ⟨v, rfl, hown, hb2⟩
        have hG2 := hG1.next hb2
        have c2 := hb1.trans (hb2.mono hb1.size)
        rw [hL] at hown ⊢
        have hT2 := TkRow.of_owns hown
        clear hown
        obtain ⟨g, cap, rfl⟩ : ∃ g cap, v = .slice (some ⟨g, 0, none⟩) 2 cap := by
          rcases hT2 with ⟨_, h0⟩ | ⟨g, cap, h, _⟩
          · cases h0
          · exact ⟨g, cap, h⟩
        obtain ⟨a0, a1, a2⟩ := TkRow.at (ts := [⟨1, s, 0⟩, ⟨4, ⟨#[]⟩, s.size⟩]) hT2 0 (by simp)
        simp only [List.getElem_cons_zero] at a0 a1 a2
        have HT2 := Lib.hid hT2
        clear hT2
        clear hG1 hb1 hb2
        go_wp2_with fail
        go_at_call 15
        refine (reg_any s _).mono ?_
        rintro e w' ⟨rfl, rfl⟩
        rw [hR]
        go_wp2_with fail
        go_at_call 16
        refine (num_any s _ hG2 (by omega)).mono ?_
        rintro e w3 ⟨rfl, hb3⟩
        rw [hn]
        have c3 := c2.trans (hb3.mono c2.size)
        have HT3 := Lib.hid (HT2.out.below hb3)
        clear HT2 hb3 a0 a1 a2
        clear hG2 c2
        go_wp2_with fail
        go_at_call 17
        refine (name_any s _ (by omega)).mono ?_
        rintro e w4 ⟨rfl, hb4⟩
        rw [hN]
        have c4 := c3.trans (hb4.mono c3.size)
        have HT4 := Lib.hid (HT3.out.below hb4)
        clear HT3 hb4
        clear c3
        go_wp2_with fail
        go_at_call 18
        refine (kept_any s _).mono ?_
        rintro e w5 ⟨rfl, hb5⟩
        rw [hK]
        have c5 := c4.trans (hb5.mono c4.size)
        obtain ⟨a0, a1, a2⟩ := TkRow.at (ts := [⟨1, s, 0⟩, ⟨4, ⟨#[]⟩, s.size⟩]) (HT4.out.below hb5) 0 (Nat.zero_lt_succ _)
        simp only [List.getElem_cons_zero] at a0 a1 a2
        clear HT4 hb5
        clear c4
        go_wp2
        go_ret
        exact ⟨rfl, c5⟩
end Go.Proofs.YtgpndifkkaomcaaDoor
