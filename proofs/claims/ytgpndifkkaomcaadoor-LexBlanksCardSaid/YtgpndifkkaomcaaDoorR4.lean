/- The reference's Lex. -/
import Derived.Test.YtgpndifkkaomcaaDoorR3
namespace Go.Proofs.YtgpndifkkaomcaaDoor
open Go.RowKit
theorem rtokInfo : (Tryd.prog.info? 73).map (fun i => (i.zero, i.size, i.bytes)) = some (some (.agg #[.int .i64 0, .string ⟨#[]⟩, .int .i64 0]), 3, 32) := by kernel_rfl
theorem cells_new3_old (W : World) (a b c : Value) (T : TypeId) : ∀ (j : Nat) (u : Value), [a, b, c][j]? = some u → (W.alloc (.cells #[a, b, c] T)).cell? ((⟨W.heap.size, 0, none⟩ : Addr).add j) = some u := cells_new3 W a b c T
/-- The tokens so far, in the loop. -/
structure RSt (w : World) (v : Value) (ts : List Tk) (W : World) : Prop where
  row : W.ownsRow w.heap.size 73 3 v ts.length (rtkCells ts)
  b : Below w.heap.size w W
theorem RSt.form {w : World} {v : Value} {ts : List Tk} {W : World} (h : RSt w v ts W) : ∃ ao cap, v = .slice ao ts.length cap := by
  rcases h.row.2 with ⟨hv, h0⟩ | ⟨g, cap, cur, hv, _⟩
  · exact ⟨none, 0, by rw [hv, h0]⟩
  · exact ⟨_, _, hv⟩
theorem RSt.append {w : World} {v v' : Value} {ts : List Tk} {W W' : World} {o : Obj} (t : Tk) (h : RSt w v ts W)
    (hown : W'.ownsRow w.heap.size 73 3 v' (ts.length + 1) (rtkCells ts ++ [.int .i64 t.K, .string t.x, .int .i64 t.a])) (hg : (W.alloc o).grownBy W' v.ownBlock) : RSt w v' (ts ++ [t]) W' :=
  ⟨by rw [rtkCells_snoc, List.length_append]; exact hown, (h.b.alloc h.b.size o).grown hg (by have := h.b.size; simp; omega) (fun k hk => (h.row.lt k hk).1)⟩
theorem RSt.formS {w : World} {v : Value} {r : List Tk} {t : Tk} {W : World} (h : RSt w v (r ++ [t]) W) : ∃ g cap, v = .slice (some ⟨g, 0, none⟩) (r.length + 1) cap := by
  have hl : (r ++ [t]).length = r.length + 1 := by simp
  rcases h.row.2 with ⟨hv, h0⟩ | ⟨g, cap, cur, hv, _⟩
  · omega
  · exact ⟨g, cap, by rw [hv, hl]⟩
theorem RSt.last {w : World} {ts : List Tk} {t : Tk} {W : World} {g cap : Nat} (h : RSt w (.slice (some ⟨g, 0, none⟩) (ts.length + 1) cap) (ts ++ [t]) W) : W.cell? ⟨g, ts.length * 3, none⟩ = some (.int .i64 t.K) := by
  have hr := h.row
  rw [List.length_append] at hr
  have := hr.cellAt (ts.length * 3) (by simp)
  rw [this, rtkCells_snoc, List.getElem?_append_right (by rw [rtkCells_len]; exact Nat.le_refl _), rtkCells_len]
  simp
theorem RSt.drewN {w : World} {v : Value} {ts : List Tk} {W : World} (h : RSt w v ts W) (n : Nat) : RSt w v ts (W.drewN n) := ⟨h.row, ⟨h.b.os, h.b.tape, h.b.output, h.b.size, h.b.block⟩⟩
theorem openOf_snoc (ts : List Tk) (t : Tk) : openOf (ts ++ [t]) = decide (t.K ≠ 4) := by unfold openOf; simp
theorem ts_cases (ts : List Tk) : ts = [] ∨ ∃ r t, ts = r ++ [t] := by
  rcases List.eq_nil_or_concat ts with h | ⟨r, t, h⟩
  · exact .inl h
  · exact .inr ⟨r, t, by simpa using h⟩
theorem rsign_le {s : ByteArray} {k : Nat} (h : k < s.size) : k + rsign s.data.toList k ≤ s.size := by
  unfold rsign
  split
  · rename_i h2
    unfold twoAt at h2
    simp at h2
    omega
  · split <;> omega
set_option maxHeartbeats 16000000 in
set_option maxRecDepth 100000 in
theorem rlex_short (s : ByteArray) (w : World) (hs : s.size ≤ 16384) :
    Calls Tryd.prog 24 #[.string s] w fun e w' => ∃ v, e = .returned (.tuple #[v, .int .i64 (rlex s (s.size + 1) 0 []).2.1, .int .i64 (rlex s (s.size + 1) 0 []).2.2]) ∧
      w'.ownsRow w.heap.size 73 3 v (rlex s (s.size + 1) 0 []).1.length (rtkCells (rlex s (s.size + 1) 0 []).1) ∧ Below w.heap.size w w' := by
  have hsd : decide ((16384 : Int) < (s.size : Int)) = false := by simp; omega
  obtain ⟨i0, hi, hz0, hz1, hz2⟩ := info_parts rtokInfo
  go_enter Tryd.func24, Tryd.ntmps24
  go_wp2
  go_loopg [5, 6] s.size (fun g l i wr => ∃ (k : Nat) (ts : List Tk), k ≤ s.size ∧ ts.length ≤ k ∧ s.size - k ≤ g ∧ i = .int .i64 k ∧ Hid (RSt w l ts wr) ∧ Hid (rlex s (g + 1) k ts = rlex s (s.size + 1) 0 []))
  case atStart => exact ⟨0, [], by omega, by simp, by omega, rfl, Lib.hid ⟨⟨rfl, .inl ⟨rfl, rfl⟩⟩, Below.refl _ _⟩, Lib.hid rfl⟩
  case round =>
    obtain ⟨k, ts, hk, hlen, hg, rfl, HA, HL⟩ := hrel
    by_cases hlt : k < s.size
    · have hd : decide ((k : Int) < (s.size : Int)) = true := by simp; omega
      have hi0 : (k : Int) < (s.size : Int) := by omega
      have HL0 := HL.out
      rw [rlex, if_pos hlt, clsAt_eq hlt] at HL0
      obtain ⟨hF1, hF2, hF6, hF3, hF4, hN1, hN2, hN6, hN3, hN4⟩ := cls_facts s[k]
      have hsl : s.data.toList.length = s.size := by simp
      have hgk : 1 ≤ gk := by omega
      by_cases c1 : clsB s[k].toNat = 1
      · have HL1 := Lib.hid (by rw [if_pos c1] at HL0; exact HL0 : rlex s gk (k + 1) ts = rlex s (s.size + 1) 0 [])
        have hb := hF1 c1
        clear HL0 hF1 hF2 hF6 hF3 hF4 hN1 hN2 hN6 hN3 hN4 c1 HL hsl
        rcases hb with hb | hb
        · have q1 : ((s[k].toNat : Int) == 32) = true := by rw [beq_iff_eq]; omega
          clear hb
          go_wp2
          go_roundg (gk - 1)
          case measure => omega
          case rel => exact ⟨k + 1, ts, by omega, by omega, by omega, by go_num, HA, by rw [show gk - 1 + 1 = gk from by omega]; exact HL1⟩
        · have q1 : ((s[k].toNat : Int) == 32) = false := by rw [beq_eq_false_iff_ne]; omega
          have q2 : ((s[k].toNat : Int) == 9) = true := by rw [beq_iff_eq]; omega
          clear hb
          go_wp2
          go_roundg (gk - 1)
          case measure => omega
          case rel => exact ⟨k + 1, ts, by omega, by omega, by omega, by go_num, HA, by rw [show gk - 1 + 1 = gk from by omega]; exact HL1⟩

      · rw [if_neg c1] at HL0
        have q1 : ((s[k].toNat : Int) == 32) = false := by rw [beq_eq_false_iff_ne]; exact (hN1 c1).1
        have q2 : ((s[k].toNat : Int) == 9) = false := by rw [beq_eq_false_iff_ne]; exact (hN1 c1).2
        clear c1 hN1 hF1
        by_cases c2 : clsB s[k].toNat = 2
        · have HL1 := Lib.hid (by rw [if_pos c2] at HL0; exact HL0 : rlex s gk (k + 1) (if openOf ts then ts ++ [⟨4, ⟨#[]⟩, k⟩] else ts) = rlex s (s.size + 1) 0 [])
          have q3 : ((s[k].toNat : Int) == 10) = true := by rw [beq_iff_eq]; exact hF2 c2
          clear HL0 hF2 hF6 hF3 hF4 hN2 hN6 hN3 hN4 c2 HL hsl
          rcases ts_cases ts with rfl | ⟨r, t, rfl⟩
          · obtain ⟨ao, cap, rfl⟩ := HA.out.form
            have HL2 : Hid (rlex s gk (k + 1) [] = rlex s (s.size + 1) 0 []) := HL1
            go_wp2
            go_roundg (gk - 1)
            case measure => omega
            case rel => exact ⟨k + 1, [], by omega, by simp, by omega, by go_num, HA, by rw [show gk - 1 + 1 = gk from by omega]; exact HL2⟩
          · obtain ⟨g, cap, rfl⟩ := HA.out.formS
            have hcell := HA.out.last
            have hrl : r.length + 1 ≤ k := by simpa using hlen
            clear hlen
            by_cases h4 : t.K = 4
            · have q4 : (t.K != 4) = false := by rw [bne_eq_false_iff_eq]; exact h4
              have HL2 := Lib.hid (by have := HL1.out; rw [openOf_snoc, if_neg (by simp [h4])] at this; exact this : rlex s gk (k + 1) (r ++ [t]) = rlex s (s.size + 1) 0 [])
              clear h4
              go_wp2
              go_roundg (gk - 1)
              case measure => omega
              case rel => exact ⟨k + 1, r ++ [t], by omega, by simp; omega, by omega, by go_num, HA, by rw [show gk - 1 + 1 = gk from by omega]; exact HL2⟩
            · have q4 : (t.K != 4) = true := by rw [bne_iff_ne]; exact h4
              have HL2 := Lib.hid (by have := HL1.out; rw [openOf_snoc, if_pos (by simp [h4])] at this; exact this : rlex s gk (k + 1) (r ++ [t] ++ [⟨4, ⟨#[]⟩, k⟩]) = rlex s (s.size + 1) 0 [])
              clear h4
              go_wp2_with (at_builtin; refine wpList_append_own _ rfl _ _ 39 rfl w.heap.size 73 i0 (.agg #[.int .i64 0, .string ⟨#[]⟩, .int .i64 0]) 3 32 Tryd.underlying39 hi hz0 hz1 hz2 rfl (by decide) _ _ _ rfl (HA.out.row.alloc _) ⟨(wr).heap.size, 0, none⟩ 1 1 [.int .i64 4, .string ⟨#[]⟩, .int .i64 k] rfl rfl (cells_new3 _ _ _ _ _) (by intro u hu; simp at hu; rcases hu with rfl | rfl | rfl <;> rfl) (by first | (unfold maxLen; omega) | (simp; unfold maxLen; omega)) (by first | omega | (simp; omega)) (by have := HA.out.b.size; simp; omega) ?_; intro v2 W4 hown4 hg4 _; have A4 := Lib.hid (HA.out.append ⟨4, ⟨#[]⟩, k⟩ (by first | exact hown4 | (simp at hown4 ⊢; exact hown4)) hg4); clear hown4 hg4)
              go_roundg (gk - 1)
              case measure => omega
              case rel => exact ⟨k + 1, r ++ [t] ++ [⟨4, ⟨#[]⟩, k⟩], by omega, by simp; omega, by omega, by go_num, A4, by rw [show gk - 1 + 1 = gk from by omega]; exact HL2⟩

        · rw [if_neg c2] at HL0
          have q3 : ((s[k].toNat : Int) == 10) = false := by rw [beq_eq_false_iff_ne]; exact hN2 c2
          clear c2 hN2 hF2
          by_cases c6 : clsB s[k].toNat = 6
          · have q4 : ((s[k].toNat : Int) == 35) = true := by rw [beq_iff_eq]; exact hF6 c6
            have hgt := spanEnd_gt (p := (fun b : Int => decide (b ≠ 10))) hlt (by rw [decide_eq_true_eq]; intro h; rw [h] at q3; simp at q3)
            obtain ⟨E, hE0⟩ : ∃ E, spanEnd (fun b : Int => decide (b ≠ 10)) s.data.toList k = E := ⟨_, rfl⟩
            have HL1 := Lib.hid (by rw [if_pos c6, hE0] at HL0; exact HL0 : rlex s gk E ts = rlex s (s.size + 1) 0 [])
            rw [hE0] at hgt
            have hE := Lib.hid hE0
            clear HL0 hF6 hF3 hF4 hN6 hN3 hN4 c6 HL hsl hE0
            go_wp2
            go_loop [6] (fun i => ∃ j : Nat, k ≤ j ∧ j ≤ s.size ∧ i = .int .i64 j ∧ Hid (spanEnd (fun b : Int => decide (b ≠ 10)) s.data.toList j = E)) (fun i => s.size - (intOf i).toNat)
            case atStart => exact ⟨k, by omega, by omega, rfl, hE⟩
            case round =>
              obtain ⟨j, hj1, hj2, rfl, HJ⟩ := hrel
              by_cases hjl : j < s.size
              · have hdj : decide ((j : Int) < (s.size : Int)) = true := by simp; omega
                have hij : (j : Int) < (s.size : Int) := by omega
                cases hp : (fun b : Int => decide (b ≠ 10)) s[j].toNat
                · have HE2 := HJ.out
                  rw [spanEnd_stop (p := (fun b : Int => decide (b ≠ 10))) hjl hp] at HE2
                  subst HE2
                  have hp2 : ((s[j].toNat : Int) != 10) = false := by rw [bne_eq_false_iff_eq]; simpa using hp
                  clear hp HJ
                  go_wp2
                  go_roundg (gk - 1)
                  case measure => omega
                  case rel => exact ⟨j, ts, by omega, by omega, by omega, by go_num, HA, by rw [show gk - 1 + 1 = gk from by omega]; exact HL1⟩
                · have HE2 := Lib.hid (by have := HJ.out; rw [spanEnd_lt (p := (fun b : Int => decide (b ≠ 10))) hjl hp] at this; exact this : spanEnd (fun b : Int => decide (b ≠ 10)) s.data.toList (j + 1) = E)
                  have hp2 : ((s[j].toNat : Int) != 10) = true := by rw [bne_iff_ne]; simpa using hp
                  clear hp HJ
                  go_wp2
                  go_round
                  case rel => exact ⟨j + 1, by omega, by omega, by go_num, HE2⟩
                  case measure => simp [intOf]; omega
              · have hdj : decide ((j : Int) < (s.size : Int)) = false := by simp; omega
                have HE2 := HJ.out
                rw [spanEnd_end (p := (fun b : Int => decide (b ≠ 10))) (by omega)] at HE2
                subst HE2
                go_wp2
                go_roundg (gk - 1)
                case measure => omega
                case rel => exact ⟨j, ts, by omega, by omega, by omega, by go_num, HA, by rw [show gk - 1 + 1 = gk from by omega]; exact HL1⟩

          · rw [if_neg c6] at HL0
            have q4 : ((s[k].toNat : Int) == 35) = false := by rw [beq_eq_false_iff_ne]; exact hN6 c6
            clear c6 hN6 hF6
            by_cases c3 : clsB s[k].toNat = 3
            · have q5 := hF3 c3
              have hgt := spanEnd_gt (p := goesB) hlt (by unfold goesB; rw [q5]; rfl)
              obtain ⟨E, hE0⟩ : ∃ E, spanEnd goesB s.data.toList k = E := ⟨_, rfl⟩
              rw [if_pos c3, hE0] at HL0
              rw [hE0] at hgt
              have hE := Lib.hid hE0
              clear hF3 hF4 hN3 hN4 c3 HL hsl hE0
              go_wp2_with (first | (go_at_call 39; refine (letter_any _ _).mono ?_; rintro e w' ⟨rfl, rfl⟩) | fail)
              go_loop [6] (fun i => ∃ j : Nat, k ≤ j ∧ j ≤ s.size ∧ i = .int .i64 j ∧ Hid (spanEnd goesB s.data.toList j = E)) (fun i => s.size - (intOf i).toNat)
              case atStart => exact ⟨k, by omega, by omega, rfl, hE⟩
              case round =>
                obtain ⟨j, hj1, hj2, rfl, HJ⟩ := hrel
                by_cases hjl : j < s.size
                · have hdj : decide ((j : Int) < (s.size : Int)) = true := by simp; omega
                  have hij : (j : Int) < (s.size : Int) := by omega
                  cases hp : goesB s[j].toNat
                  · have HE2 := HJ.out
                    rw [spanEnd_stop (p := goesB) hjl hp] at HE2
                    subst HE2
                    clear HJ
                    by_cases h16 : 16 < j - k
                    · have HL1 := Lib.hid (by rw [if_pos h16] at HL0; exact HL0.symm : rlex s (s.size + 1) 0 [] = ([], k, 42))
                      have h16i : (16 : Int) < (j : Int) - (k : Int) := by omega
                      clear HL0
                      go_wp2_with (first | (go_at_call 40; refine (goes_any _ _).mono ?_; rintro e w' ⟨rfl, rfl⟩) | fail)
                      go_ret3
                      rw [HL1.out]
                      exact ⟨_, rfl, ⟨rfl, .inl ⟨rfl, rfl⟩⟩, HA.out.b⟩
                    · have HL1 := Lib.hid (by rw [if_neg h16] at HL0; exact HL0 : rlex s gk j (ts ++ [⟨1, s.extract k j, k⟩]) = rlex s (s.size + 1) 0 [])
                      have h16i : (j : Int) - (k : Int) ≤ 16 := by omega
                      clear HL0
                      obtain ⟨ao, cap, rfl⟩ := HA.out.form
                      go_wp2_with (first | (go_at_call 40; refine (goes_any _ _).mono ?_; rintro e w' ⟨rfl, rfl⟩) | (at_builtin; refine wpList_append_own _ rfl _ _ 39 rfl w.heap.size 73 i0 (.agg #[.int .i64 0, .string ⟨#[]⟩, .int .i64 0]) 3 32 Tryd.underlying39 hi hz0 hz1 hz2 rfl (by decide) _ _ _ rfl (HA.out.row.alloc _) ⟨(wr).heap.size, 0, none⟩ 1 1 [.int .i64 1, .string (s.extract k j), .int .i64 k] rfl rfl (cells_new3 _ _ _ _ _) (by intro u hu; simp at hu; rcases hu with rfl | rfl | rfl <;> rfl) (by first | (unfold maxLen; omega) | (simp; unfold maxLen; omega)) (by first | omega | (simp; omega)) (by have := HA.out.b.size; simp; omega) ?_; intro v2 W4 hown4 hg4 _; have A4 := Lib.hid (HA.out.append ⟨1, (s.extract k j), k⟩ (by first | exact hown4 | (simp at hown4 ⊢; exact hown4)) hg4); clear hown4 hg4))
                      go_roundg (gk - 1)
                      case measure => omega
                      case rel => exact ⟨j, ts ++ [⟨1, s.extract k j, k⟩], by omega, by simp; omega, by omega, by go_num, A4, by rw [show gk - 1 + 1 = gk from by omega]; exact HL1⟩
                  · have HE2 := Lib.hid (by have := HJ.out; rw [spanEnd_lt (p := goesB) hjl hp] at this; exact this : spanEnd goesB s.data.toList (j + 1) = E)
                    clear HJ
                    go_wp2_with (first | (go_at_call 40; refine (goes_any _ _).mono ?_; rintro e w' ⟨rfl, rfl⟩) | fail)
                    go_round
                    case rel => exact ⟨j + 1, by omega, by omega, by go_num, HE2⟩
                    case measure => simp [intOf]; omega
                · have hdj : decide ((j : Int) < (s.size : Int)) = false := by simp; omega
                  have HE2 := HJ.out
                  rw [spanEnd_end (p := goesB) (by omega)] at HE2
                  subst HE2
                  by_cases h16 : 16 < j - k
                  · have HL1 := Lib.hid (by rw [if_pos h16] at HL0; exact HL0.symm : rlex s (s.size + 1) 0 [] = ([], k, 42))
                    have h16i : (16 : Int) < (j : Int) - (k : Int) := by omega
                    clear HL0
                    go_wp2_with (first | (go_at_call 40; refine (goes_any _ _).mono ?_; rintro e w' ⟨rfl, rfl⟩) | fail)
                    go_ret3
                    rw [HL1.out]
                    exact ⟨_, rfl, ⟨rfl, .inl ⟨rfl, rfl⟩⟩, HA.out.b⟩
                  · have HL1 := Lib.hid (by rw [if_neg h16] at HL0; exact HL0 : rlex s gk j (ts ++ [⟨1, s.extract k j, k⟩]) = rlex s (s.size + 1) 0 [])
                    have h16i : (j : Int) - (k : Int) ≤ 16 := by omega
                    clear HL0
                    obtain ⟨ao, cap, rfl⟩ := HA.out.form
                    go_wp2_with (first | (go_at_call 40; refine (goes_any _ _).mono ?_; rintro e w' ⟨rfl, rfl⟩) | (at_builtin; refine wpList_append_own _ rfl _ _ 39 rfl w.heap.size 73 i0 (.agg #[.int .i64 0, .string ⟨#[]⟩, .int .i64 0]) 3 32 Tryd.underlying39 hi hz0 hz1 hz2 rfl (by decide) _ _ _ rfl (HA.out.row.alloc _) ⟨(wr).heap.size, 0, none⟩ 1 1 [.int .i64 1, .string (s.extract k j), .int .i64 k] rfl rfl (cells_new3 _ _ _ _ _) (by intro u hu; simp at hu; rcases hu with rfl | rfl | rfl <;> rfl) (by first | (unfold maxLen; omega) | (simp; unfold maxLen; omega)) (by first | omega | (simp; omega)) (by have := HA.out.b.size; simp; omega) ?_; intro v2 W4 hown4 hg4 _; have A4 := Lib.hid (HA.out.append ⟨1, (s.extract k j), k⟩ (by first | exact hown4 | (simp at hown4 ⊢; exact hown4)) hg4); clear hown4 hg4))
                    go_roundg (gk - 1)
                    case measure => omega
                    case rel => exact ⟨j, ts ++ [⟨1, s.extract k j, k⟩], by omega, by simp; omega, by omega, by go_num, A4, by rw [show gk - 1 + 1 = gk from by omega]; exact HL1⟩

            · rw [if_neg c3] at HL0
              have q5 := hN3 c3
              clear c3 hN3 hF3
              by_cases c4 : clsB s[k].toNat = 4
              · obtain ⟨q6, _⟩ := hF4 c4
                have hgt := spanEnd_gt (p := digitB) hlt q6
                obtain ⟨E, hE0⟩ : ∃ E, spanEnd digitB s.data.toList k = E := ⟨_, rfl⟩
                rw [if_pos c4, hE0] at HL0
                rw [hE0] at hgt
                have hE := Lib.hid hE0
                clear hF4 hN4 c4 HL hsl hE0
                go_wp2_with (first | (go_at_call 39; refine (letter_any _ _).mono ?_; rintro e w' ⟨rfl, rfl⟩) | (go_at_call 38; refine (digit_any _ _).mono ?_; rintro e w' ⟨rfl, rfl⟩) | fail)
                go_loop [6] (fun i => ∃ j : Nat, k ≤ j ∧ j ≤ s.size ∧ i = .int .i64 j ∧ Hid (spanEnd digitB s.data.toList j = E)) (fun i => s.size - (intOf i).toNat)
                case atStart => exact ⟨k, by omega, by omega, rfl, hE⟩
                case round =>
                  obtain ⟨j, hj1, hj2, rfl, HJ⟩ := hrel
                  by_cases hjl : j < s.size
                  · have hdj : decide ((j : Int) < (s.size : Int)) = true := by simp; omega
                    have hij : (j : Int) < (s.size : Int) := by omega
                    cases hp : digitB s[j].toNat
                    · have HE2 := HJ.out
                      rw [spanEnd_stop (p := digitB) hjl hp] at HE2
                      subst HE2
                      clear HJ
                      have hn0 : ∃ R, (rnumOf (s.extract k j).data.toList).2 = R := ⟨_, rfl⟩
                      obtain ⟨R, hn⟩ := hn0
                      rw [hn] at HL0
                      cases R
                      · have HL1 := Lib.hid (by rw [if_pos rfl] at HL0; exact HL0.symm : rlex s (s.size + 1) 0 [] = ([], k, 41))
                        clear HL0
                        go_wp2_with (first | (go_at_call 38; refine (digit_any _ _).mono ?_; rintro e w' ⟨rfl, rfl⟩) | (go_at_call 21; refine (rnum_any _ _ (by simp only [ByteArray.size_extract]; omega)).mono ?_; rintro e w' ⟨rfl, rfl⟩; rw [hn]) | fail)
                        go_ret3
                        rw [HL1.out]
                        exact ⟨_, rfl, ⟨rfl, .inl ⟨rfl, rfl⟩⟩, HA.out.b⟩
                      · have HL1 := Lib.hid (by rw [if_neg (by simp)] at HL0; exact HL0 : rlex s gk j (ts ++ [⟨2, s.extract k j, k⟩]) = rlex s (s.size + 1) 0 [])
                        clear HL0
                        obtain ⟨ao, cap, rfl⟩ := HA.out.form
                        go_wp2_with (first | (go_at_call 38; refine (digit_any _ _).mono ?_; rintro e w' ⟨rfl, rfl⟩) | (go_at_call 21; refine (rnum_any _ _ (by simp only [ByteArray.size_extract]; omega)).mono ?_; rintro e w' ⟨rfl, rfl⟩; rw [hn]) | (at_builtin; refine wpList_append_own _ rfl _ _ 39 rfl w.heap.size 73 i0 (.agg #[.int .i64 0, .string ⟨#[]⟩, .int .i64 0]) 3 32 Tryd.underlying39 hi hz0 hz1 hz2 rfl (by decide) _ _ _ rfl (HA.out.row.alloc _) ⟨(wr).heap.size, 0, none⟩ 1 1 [.int .i64 2, .string (s.extract k j), .int .i64 k] rfl rfl (cells_new3 _ _ _ _ _) (by intro u hu; simp at hu; rcases hu with rfl | rfl | rfl <;> rfl) (by first | (unfold maxLen; omega) | (simp; unfold maxLen; omega)) (by first | omega | (simp; omega)) (by have := HA.out.b.size; simp; omega) ?_; intro v2 W4 hown4 hg4 _; have A4 := Lib.hid (HA.out.append ⟨2, (s.extract k j), k⟩ (by first | exact hown4 | (simp at hown4 ⊢; exact hown4)) hg4); clear hown4 hg4))
                        go_roundg (gk - 1)
                        case measure => omega
                        case rel => exact ⟨j, ts ++ [⟨2, s.extract k j, k⟩], by omega, by simp; omega, by omega, by go_num, A4, by rw [show gk - 1 + 1 = gk from by omega]; exact HL1⟩
                    · have HE2 := Lib.hid (by have := HJ.out; rw [spanEnd_lt (p := digitB) hjl hp] at this; exact this : spanEnd digitB s.data.toList (j + 1) = E)
                      clear HJ
                      go_wp2_with (first | (go_at_call 38; refine (digit_any _ _).mono ?_; rintro e w' ⟨rfl, rfl⟩) | fail)
                      go_round
                      case rel => exact ⟨j + 1, by omega, by omega, by go_num, HE2⟩
                      case measure => simp [intOf]; omega
                  · have hdj : decide ((j : Int) < (s.size : Int)) = false := by simp; omega
                    have HE2 := HJ.out
                    rw [spanEnd_end (p := digitB) (by omega)] at HE2
                    subst HE2
                    have hn0 : ∃ R, (rnumOf (s.extract k j).data.toList).2 = R := ⟨_, rfl⟩
                    obtain ⟨R, hn⟩ := hn0
                    rw [hn] at HL0
                    cases R
                    · have HL1 := Lib.hid (by rw [if_pos rfl] at HL0; exact HL0.symm : rlex s (s.size + 1) 0 [] = ([], k, 41))
                      clear HL0
                      go_wp2_with (first | (go_at_call 38; refine (digit_any _ _).mono ?_; rintro e w' ⟨rfl, rfl⟩) | (go_at_call 21; refine (rnum_any _ _ (by simp only [ByteArray.size_extract]; omega)).mono ?_; rintro e w' ⟨rfl, rfl⟩; rw [hn]) | fail)
                      go_ret3
                      rw [HL1.out]
                      exact ⟨_, rfl, ⟨rfl, .inl ⟨rfl, rfl⟩⟩, HA.out.b⟩
                    · have HL1 := Lib.hid (by rw [if_neg (by simp)] at HL0; exact HL0 : rlex s gk j (ts ++ [⟨2, s.extract k j, k⟩]) = rlex s (s.size + 1) 0 [])
                      clear HL0
                      obtain ⟨ao, cap, rfl⟩ := HA.out.form
                      go_wp2_with (first | (go_at_call 38; refine (digit_any _ _).mono ?_; rintro e w' ⟨rfl, rfl⟩) | (go_at_call 21; refine (rnum_any _ _ (by simp only [ByteArray.size_extract]; omega)).mono ?_; rintro e w' ⟨rfl, rfl⟩; rw [hn]) | (at_builtin; refine wpList_append_own _ rfl _ _ 39 rfl w.heap.size 73 i0 (.agg #[.int .i64 0, .string ⟨#[]⟩, .int .i64 0]) 3 32 Tryd.underlying39 hi hz0 hz1 hz2 rfl (by decide) _ _ _ rfl (HA.out.row.alloc _) ⟨(wr).heap.size, 0, none⟩ 1 1 [.int .i64 2, .string (s.extract k j), .int .i64 k] rfl rfl (cells_new3 _ _ _ _ _) (by intro u hu; simp at hu; rcases hu with rfl | rfl | rfl <;> rfl) (by first | (unfold maxLen; omega) | (simp; unfold maxLen; omega)) (by first | omega | (simp; omega)) (by have := HA.out.b.size; simp; omega) ?_; intro v2 W4 hown4 hg4 _; have A4 := Lib.hid (HA.out.append ⟨2, (s.extract k j), k⟩ (by first | exact hown4 | (simp at hown4 ⊢; exact hown4)) hg4); clear hown4 hg4))
                      go_roundg (gk - 1)
                      case measure => omega
                      case rel => exact ⟨j, ts ++ [⟨2, s.extract k j, k⟩], by omega, by simp; omega, by omega, by go_num, A4, by rw [show gk - 1 + 1 = gk from by omega]; exact HL1⟩

              · rw [if_neg c4] at HL0
                have q6 := hN4 c4
                clear c4 hN4 hF4
                have hle := rsign_le (s := s) (k := k) hlt
                obtain ⟨R, hR⟩ : ∃ R, rsign s.data.toList k = R := ⟨_, rfl⟩
                rw [hR] at HL0 hle
                clear HL hsl
                by_cases h0 : R = 0
                · have q7 : ((R : Int) == 0) = true := by rw [beq_iff_eq]; omega
                  have HL1 := Lib.hid (by rw [if_pos h0] at HL0; exact HL0.symm : rlex s (s.size + 1) 0 [] = ([], k, 40))
                  clear HL0 h0
                  go_wp2_with (first | (go_at_call 39; refine (letter_any _ _).mono ?_; rintro e w' ⟨rfl, rfl⟩) | (go_at_call 38; refine (digit_any _ _).mono ?_; rintro e w' ⟨rfl, rfl⟩) | (go_at_call 41; refine (rsign_any s k _ hlt (by omega)).mono ?_; rintro e w' ⟨rfl, nd, rfl⟩; rw [hR]; have HD := Lib.hid (HA.out.drewN nd); revert HD; generalize wr.drewN nd = W3; intro HD) | fail)
                  go_ret3
                  rw [HL1.out]
                  exact ⟨_, rfl, ⟨rfl, .inl ⟨rfl, rfl⟩⟩, HD.out.b⟩
                · have q7 : ((R : Int) == 0) = false := by rw [beq_eq_false_iff_ne]; omega
                  have HL1 := Lib.hid (by rw [if_neg h0] at HL0; exact HL0 : rlex s gk (k + R) (ts ++ [⟨3, s.extract k (k + R), k⟩]) = rlex s (s.size + 1) 0 [])
                  clear HL0
                  obtain ⟨ao, cap, rfl⟩ := HA.out.form
                  go_wp2_with (first | (go_at_call 39; refine (letter_any _ _).mono ?_; rintro e w' ⟨rfl, rfl⟩) | (go_at_call 38; refine (digit_any _ _).mono ?_; rintro e w' ⟨rfl, rfl⟩) | (go_at_call 41; refine (rsign_any s k _ hlt (by omega)).mono ?_; rintro e w' ⟨rfl, nd, rfl⟩; rw [hR]; have HD := Lib.hid (HA.out.drewN nd); revert HD; generalize wr.drewN nd = W3; intro HD) | (at_builtin; refine wpList_append_own _ rfl _ _ 39 rfl w.heap.size 73 i0 (.agg #[.int .i64 0, .string ⟨#[]⟩, .int .i64 0]) 3 32 Tryd.underlying39 hi hz0 hz1 hz2 rfl (by decide) _ _ _ rfl (HD.out.row.alloc _) ⟨(W3).heap.size, 0, none⟩ 1 1 [.int .i64 3, .string (s.extract k (k + R)), .int .i64 k] rfl rfl (cells_new3 _ _ _ _ _) (by intro u hu; simp at hu; rcases hu with rfl | rfl | rfl <;> rfl) (by first | (unfold maxLen; omega) | (simp; unfold maxLen; omega)) (by first | omega | (simp; omega)) (by have := HD.out.b.size; simp; omega) ?_; intro v2 W4 hown4 hg4 _; have A4 := Lib.hid (HD.out.append ⟨3, (s.extract k (k + R)), k⟩ (by first | exact hown4 | (simp at hown4 ⊢; exact hown4)) hg4); clear hown4 hg4))
                  go_roundg (gk - 1)
                  case measure => omega
                  case rel => exact ⟨k + R, ts ++ [⟨3, s.extract k (k + R), k⟩], by omega, by simp; omega, by omega, by go_num, A4, by rw [show gk - 1 + 1 = gk from by omega]; exact HL1⟩
    · obtain rfl : k = s.size := by omega
      have hd : decide ((s.size : Int) < (s.size : Int)) = false := by simp
      have HL1 := Lib.hid (by have := HL.out; rw [rlex, if_neg hlt] at this; exact this.symm : rlex s (s.size + 1) 0 [] = (if openOf ts then ts ++ [⟨4, ⟨#[]⟩, s.size⟩] else ts, 0, 0))
      clear hlt HL
      rcases ts_cases ts with rfl | ⟨r, t, rfl⟩
      · obtain ⟨ao, cap, rfl⟩ := HA.out.form
        go_wp2
        go_ret3
        rw [HL1.out]
        exact ⟨_, rfl, HA.out.row, HA.out.b⟩
      · obtain ⟨g, cap, rfl⟩ := HA.out.formS
        have hcell := HA.out.last
        have hrl : r.length + 1 ≤ s.size := by simpa using hlen
        clear hlen
        by_cases h4 : t.K = 4
        · have q4 : (t.K != 4) = false := by rw [bne_eq_false_iff_eq]; exact h4
          have HL2 := Lib.hid (by have := HL1.out; rw [openOf_snoc, if_neg (by simp [h4])] at this; exact this : rlex s (s.size + 1) 0 [] = (r ++ [t], 0, 0))
          clear h4
          go_wp2
          go_ret3
          rw [HL2.out]
          exact ⟨_, rfl, by simpa using HA.out.row, HA.out.b⟩
        · have q4 : (t.K != 4) = true := by rw [bne_iff_ne]; exact h4
          have HL2 := Lib.hid (by have := HL1.out; rw [openOf_snoc, if_pos (by simp [h4])] at this; exact this : rlex s (s.size + 1) 0 [] = (r ++ [t] ++ [⟨4, ⟨#[]⟩, s.size⟩], 0, 0))
          clear h4
          go_wp2_with (at_builtin; refine wpList_append_own _ rfl _ _ 39 rfl w.heap.size 73 i0 (.agg #[.int .i64 0, .string ⟨#[]⟩, .int .i64 0]) 3 32 Tryd.underlying39 hi hz0 hz1 hz2 rfl (by decide) _ _ _ rfl (HA.out.row.alloc _) ⟨(wr).heap.size, 0, none⟩ 1 1 [.int .i64 4, .string ⟨#[]⟩, .int .i64 s.size] rfl rfl (cells_new3 _ _ _ _ _) (by intro u hu; simp at hu; rcases hu with rfl | rfl | rfl <;> rfl) (by first | (unfold maxLen; omega) | (simp; unfold maxLen; omega)) (by first | omega | (simp; omega)) (by have := HA.out.b.size; simp; omega) ?_; intro v2 W4 hown4 hg4 _; have A4 := Lib.hid (HA.out.append ⟨4, ⟨#[]⟩, s.size⟩ (by first | exact hown4 | (simp at hown4 ⊢; exact hown4)) hg4); clear hown4 hg4)
          go_ret3
          rw [HL2.out]
          exact ⟨_, rfl, A4.out.row, A4.out.b⟩

end Go.Proofs.YtgpndifkkaomcaaDoor
