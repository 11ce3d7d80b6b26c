/- Lex, for every source; Name. -/
import Derived.Test.YtgpndifkkaomcaaDoorA13
import Derived.Test.YtgpndifkkaomcaaDoorA4
import Derived.Test.YtgpndifkkaomcaaDoorA5
import Derived.Deep.RegionWith
namespace Go.Proofs.YtgpndifkkaomcaaDoor
open Go.RowKit
attribute [local go_sem] Oper.semAt_some
/-- Lex as a plain function: the tokens, the place of an error, the error. -/
def lexOf (s : ByteArray) : List Tk × Nat × Int := if 16384 < s.size then ([], 0, 3) else lexRun s (s.size + 1) 0 false []
set_option maxHeartbeats 1000000 in
set_option maxRecDepth 100000 in
theorem lex_long (s : ByteArray) (w : World) (hs : 16384 < s.size) (hmax : s.size ≤ 4611686018427387904) :
    Calls Tryd.prog 12 #[.string s] w fun e w' => e = .returned (.tuple #[.slice none 0 0, .int .i64 0, .int .i64 3]) ∧ Below w.heap.size w w' := by
  have hsd : decide ((16384 : Int) < (s.size : Int)) = true := by simp; omega
  go_enter Tryd.func12, Tryd.ntmps12
  go_wp2
  refine bodyPost_ret (v := .tuple #[.slice none 0 0, .int .i64 0, .int .i64 3]) (by simp [results, Tryd.f12, go_sem]) rfl ⟨rfl, ?_⟩
  exact (((Below.refl _ w).alloc (Nat.le_refl _) _).alloc (by simp) _).alloc (by simp; omega) _
theorem lex_any (s : ByteArray) (w : World) (hG : Glob w) (hmax : s.size ≤ 4611686018427387904) :
    Calls Tryd.prog 12 #[.string s] w fun e w' => ∃ v, e = .returned (.tuple #[v, .int .i64 (lexOf s).2.1, .int .i64 (lexOf s).2.2]) ∧ w'.ownsRow w.heap.size 31 3 v (lexOf s).1.length (tkCells (lexOf s).1) ∧ Below w.heap.size w w' := by
  unfold lexOf
  split
  · rename_i h
    refine (lex_long s w h hmax).mono ?_
    rintro e w' ⟨rfl, hb⟩
    exact ⟨_, rfl, ⟨rfl, .inl ⟨rfl, rfl⟩⟩, hb⟩
  · exact lex_short s w hG (by omega)
theorem extract_toList (s : ByteArray) (a b : Nat) : (s.extract a b).toList = (s.data.toList.take b).drop a := by
  rw [ByteArray.toList_eq]
  rw [ByteArray.data_extract]
  simp [List.drop_take]
theorem extract_beq {s : ByteArray} {a j : Nat} (hj : j ≤ s.size) (ha : a ≤ j) : ((s.extract a j).toList == (s.extract a s.size).toList) = decide (j = s.size) := by
  rw [extract_toList, extract_toList, Bool.eq_iff_iff, beq_iff_eq, decide_eq_true_eq]
  constructor
  · intro h
    have := congrArg List.length h
    simp at this
    omega
  · rintro rfl; rfl
theorem extract_whole (s : ByteArray) : (s.extract 0 s.size).toList = s.toList := by
  rw [extract_toList, ByteArray.toList_eq, List.take_of_length_le (by simp), List.drop_zero]
/-- Is a word a name? -/
def nameB (s : ByteArray) : Bool :=
  decide (1 ≤ s.size) && decide (s.size ≤ 16) && decide (clsAt s.data.toList 0 = 3) && !keptB s && decide (spanEnd (fun b => isWord (clsB b)) s.data.toList 0 = s.size) &&
    (decide ((s.data.toList[0]?.getD 0).toNat ≠ 114) || decide (s.size = 1) || decide (spanEnd (fun b => isDigits (clsB b)) s.data.toList 1 ≠ s.size))
set_option maxHeartbeats 1000000 in
theorem name_any (s : ByteArray) (w : World) (hmax : s.size ≤ 4611686018427387904) :
    Calls Tryd.prog 17 #[.string s] w fun e w' => e = .returned (.bool (nameB s)) ∧ Below w.heap.size w w' := by
  by_cases h0 : s.size = 0
  · have hn : nameB s = false := by unfold nameB; simp [h0]
    have hs : s.toList = [] := by rw [ByteArray.toList_eq]; exact List.eq_nil_of_length_eq_zero (by simpa using h0)
    have hd : (s.toList == []) = true := by rw [hs]; rfl
    rw [hn]
    clear hn h0
    go_enter Tryd.func17, Tryd.ntmps17
    go_wp2
    go_ret
    exact ⟨rfl, Below.refl _ _⟩
  · have hz : 0 < s.size := by omega
    have hs : s.toList.isEmpty = false := by rw [ByteArray.toList_eq]; simp; intro h; exact h0 (by rw [← ByteArray.size_data, h]; rfl)
    have hb0 : (0 : Int) < (s.size : Int) := by omega
    clear h0
    by_cases h16 : 16 < s.size
    · have hn : nameB s = false := by unfold nameB; simp; omega
      rw [hn]
      clear hn
      go_enter Tryd.func17, Tryd.ntmps17
      go_wp2
      go_ret
      exact ⟨rfl, Below.refl _ _⟩
    · have hcl := clsAt_eq hz
      have hsl : s.data.toList.length = s.size := by simp
      have hq : decide ((16 : Int) < (s.size : Int)) = false := by simp; omega
      have hk := fun W => kept_any s W
      have HK := Lib.hid hk
      clear hk
      by_cases hc : clsB s[0].toNat = 3
      · by_cases hkp : keptB s = true
        · have hn : nameB s = false := by unfold nameB; rw [hkp]; simp
          rw [hn]
          clear hn hcl hsl
          go_enter Tryd.func17, Tryd.ntmps17
          go_wp2_with (first | (go_at_call 30; refine (of_any _ _).mono ?_; rintro e w' ⟨rfl, rfl⟩) | (go_at_call 18; refine (HK.out _).mono ?_; rintro e w' ⟨rfl, hb⟩))
          go_ret
          exact ⟨rfl, hb⟩
        · have hkp2 : keptB s = false := by simpa using hkp
          clear hkp
          have hj := spanEnd_le (p := fun b => isWord (clsB b)) (l := s.data.toList) (k := 0) (by omega)
          have hb1 := extract_beq (a := 0) (s := s) (j := spanEnd (fun b => isWord (clsB b)) s.data.toList 0) (by omega) (by omega)
          rw [extract_whole] at hb1
          have hmx : s.size ≤ 9223372036854775807 := by omega
          have HN : Hid (nameB s = (decide (spanEnd (fun b => isWord (clsB b)) s.data.toList 0 = s.size) && (decide ((s[0]).toNat ≠ 114) || decide (s.size = 1) || decide (spanEnd (fun b => isDigits (clsB b)) s.data.toList 1 ≠ s.size)))) := by
            have h0 : (s.data.toList[0]?.getD 0) = s[0] := by
              have hl : 0 < s.data.toList.length := by omega
              rw [List.getElem?_eq_getElem hl]; rfl
            unfold nameB
            rw [hcl, hc, hkp2, h0]
            have : decide (1 ≤ s.size) = true := by simp; omega
            have h2 : decide (s.size ≤ 16) = true := by simp; omega
            rw [this, h2]; rfl
          go_enter Tryd.func17, Tryd.ntmps17
          go_wp2_with (first | (go_at_call 30; refine (of_any _ _).mono ?_; rintro e w' ⟨rfl, rfl⟩) | (go_at_call 18; refine (HK.out _).mono ?_; rintro e w' ⟨rfl, hb⟩) | fail)
          obtain ⟨j, hjj⟩ : ∃ j, spanEnd (fun b => isWord (clsB b)) s.data.toList 0 = j := ⟨_, rfl⟩
          rw [hjj] at HN hj hb1
          have HJ := Lib.hid hjj
          clear hjj
          refine (while_word0 s w'.heap.size 0 _ (World.cell?_alloc_new _ _ _ _) (World.cell?_alloc_new _ _ _ _) (World.frozen?_alloc_new _ _ _ _) (by omega) hmx).mono ?_
          rintro e W ⟨rfl, n, hW⟩
          rw [HJ.out] at hW ⊢
          have s1 : W.cell? ⟨w'.heap.size, 0, none⟩ = some (.string s) := by rw [hW]; exact upd_other (by simp) (World.cell?_alloc_new _ _ _ _)
          have k1 : W.cell? ⟨w'.heap.size, 1, none⟩ = some (.int .i64 j) := by rw [hW]; exact upd_same (World.cell?_alloc_new _ _ _ _)
          have f1 : W.frozen? ⟨w'.heap.size, 1, none⟩ = false := by rw [hW]; exact upd_frozen (World.frozen?_alloc_new _ _ _ _)
          have b1 : Below w.heap.size w W := by rw [hW]; exact below_drewN (((hb.alloc hb.size _).setCell (p := ⟨w'.heap.size, 1, none⟩) hb.size _)) n
          clear hW
          by_cases hjs : j = s.size
          · subst hjs
            simp only [decide_true] at hb1
            by_cases hr : s[0].toNat = 114
            · have hr2 : ((s[0].toNat : Int) != 114) = false := by rw [bne_eq_false_iff_eq]; omega
              by_cases h1 : s.size = 1
              · have h1b : ((s.size : Int) == 1) = true := by rw [beq_iff_eq]; omega
                have HN2 := Lib.hid (show nameB s = true by rw [HN.out]; simp [h1])
                have h1i : (s.size : Int) ≤ 1 := by omega
                clear hr h1 hsl
                go_wp2
                go_quiet (fail)
                go_wp2
                go_ret
                rw [HN2.out]
                exact ⟨rfl, below_drewN (b1.setCell (p := ⟨w'.heap.size, 1, none⟩) hb.size _) _⟩
              · have h1b : ((s.size : Int) == 1) = false := by rw [beq_eq_false_iff_ne]; omega
                have h2 : 1 ≤ s.size := by omega
                have hd := spanEnd_le (p := fun b => isDigits (clsB b)) (l := s.data.toList) (k := 1) (by omega)
                have HN2 := Lib.hid (show nameB s = decide (spanEnd (fun b => isDigits (clsB b)) s.data.toList 1 ≠ s.size) by rw [HN.out]; simp [hr, h1])
                have he := extract_beq (a := 1) (s := s) (j := spanEnd (fun b => isDigits (clsB b)) s.data.toList 1) (by omega) (by omega)
                have HE := Lib.hid he
                clear hr h1 he
                go_wp2
                obtain ⟨W2, hW2⟩ : ∃ W2, W.setCell ⟨w'.heap.size, 1, none⟩ (.int .i64 1) = W2 := ⟨_, rfl⟩
                have s2 : W2.cell? ⟨w'.heap.size, 0, none⟩ = some (.string s) := by rw [← hW2]; exact cset_other (by simp) s1
                have k2 : W2.cell? ⟨w'.heap.size, 1, none⟩ = some (.int .i64 (1 : Nat)) := by rw [← hW2]; exact cset_same (by rw [k1]; rfl)
                have f2 : W2.frozen? ⟨w'.heap.size, 1, none⟩ = false := by rw [← hW2]; exact fset f1
                have b2 : Below w.heap.size w W2 := by rw [← hW2]; exact b1.setCell (p := ⟨w'.heap.size, 1, none⟩) hb.size _
                rw [hW2]
                clear hW2 s1 k1 f1 b1
                have HC := Lib.hid (while_digits0 s w'.heap.size 1 W2.drew s2 k2 f2 (by omega) (by omega))
                obtain ⟨q, hq2⟩ : ∃ q, spanEnd (fun b => isDigits (clsB b)) s.data.toList 1 = q := ⟨_, rfl⟩
                rw [hq2] at HC HE HN2
                have h2i : (1 : Int) ≤ (s.size : Int) := by omega
                clear hq2 hd
                refine wp_region_inv (by kernel_rfl) (fun k L a V => ∃ p c x r : Nat, p ≤ 9 ∧ c ≤ 1 ∧ x ≤ 2 ∧ r ≤ 3 ∧ (1 ≤ c → p = 9) ∧ (1 ≤ x → p = 9) ∧ (1 ≤ r → c = 1 ∧ x = 2) ∧ k + p + c + x + r = 15 ∧
                  L = #[decide (1 ≤ p), decide (2 ≤ p), decide (3 ≤ p), decide (4 ≤ p), decide (5 ≤ p), decide (6 ≤ p), decide (7 ≤ p), decide (8 ≤ p), decide (9 ≤ p), decide (1 ≤ c), decide (1 ≤ x), decide (2 ≤ x), decide (1 ≤ r), decide (2 ≤ r), decide (3 ≤ r)] ∧
                  a = { tmps := #[.string s, undef, if 3 ≤ r then .bool (!((s.extract 1 q).toList == (s.extract 1 s.size).toList)) else .bool false, .pointer (some ⟨w'.heap.size, 0, none⟩), .string s, .bool false, .bool false, .string s, .int .i64 s.size, .bool false, .bool false, .bool false, .string s, .int .u8 s[0].toNat,
                    .int .i64 3, .bool false, .bool false, .bool false, .string s, .bool false, .bool false, .string s, .agg #[.string s, .int .i64 0], .string s, .string s, .bool false, .pointer (some ⟨w'.heap.size, 1, none⟩),
                    if 1 ≤ p then .string s else undef, if 2 ≤ p then .int .u8 s[0].toNat else undef, if 3 ≤ p then .bool false else undef, if 4 ≤ p then .bool false else undef, if 5 ≤ p then .string s else undef, if 6 ≤ p then .int .i64 s.size else undef, if 7 ≤ p then .bool false else undef, if 8 ≤ p then .bool false else undef, if 9 ≤ p then .bool false else undef,
                    if 1 ≤ c then .string (s.extract 1 q) else undef, if 1 ≤ x then .string s else undef, if 2 ≤ x then .string (s.extract 1 s.size) else undef, if 1 ≤ r then .bool (!((s.extract 1 q).toList == (s.extract 1 s.size).toList)) else undef, if 2 ≤ r then .bool (!((s.extract 1 q).toList == (s.extract 1 s.size).toList)) else undef], defers := [] } ∧
                  Below w.heap.size w V ∧ (c = 0 → V = W2.drew)) ?i0 ?iz ?is
                case i0 => exact ⟨0, 0, 0, 0, by omega, by omega, by omega, by omega, by omega, by omega, by omega, rfl, rfl, rfl, b2.drew, fun _ => rfl⟩
                case iz =>
                  rintro L a V ⟨p, c, x, r, hp, hc9, hx, hr9, g1, g2, g3, g4, rfl, rfl, bV, gV⟩
                  obtain rfl : p = 9 := by omega
                  obtain rfl : c = 1 := by omega
                  obtain rfl : x = 2 := by omega
                  obtain rfl : r = 3 := by omega
                  refine ⟨by decide +kernel, ?_⟩
                  simp only [Nat.le_refl, Nat.reduceLeDiff, if_true]
                  go_wp2
                  go_ret
                  rw [HN2.out, HE.out]
                  exact ⟨ret_bool (by simp), bV⟩
                case is =>
                  rintro k L a V ⟨p, c, x, r, hp, hc9, hx, hr9, g1, g2, g3, g4, rfl, rfl, bV, gV⟩
                  obtain ⟨P', hP⟩ : ∃ y, y = p := ⟨_, rfl⟩
                  obtain ⟨C', hC⟩ : ∃ y, y = c := ⟨_, rfl⟩
                  obtain ⟨X', hX⟩ : ∃ y, y = x := ⟨_, rfl⟩
                  obtain ⟨R', hR⟩ : ∃ y, y = r := ⟨_, rfl⟩
                  have ep : p = 0 ∨ p = 1 ∨ p = 2 ∨ p = 3 ∨ p = 4 ∨ p = 5 ∨ p = 6 ∨ p = 7 ∨ p = 8 ∨ p = 9 := by omega
                  have ec : c = 0 ∨ c = 1 := by omega
                  have ex : x = 0 ∨ x = 1 ∨ x = 2 := by omega
                  have er : r = 0 ∨ r = 1 ∨ r = 2 ∨ r = 3 := by omega
                  rcases ep with rfl | rfl | rfl | rfl | rfl | rfl | rfl | rfl | rfl | rfl <;> rcases ec with rfl | rfl <;> rcases ex with rfl | rfl | rfl <;> rcases er with rfl | rfl | rfl | rfl
                  all_goals first | (exfalso; omega) | skip
                  all_goals clear g1 g2 g3
                  all_goals refine ⟨by decide +kernel, ?_⟩
                  all_goals intro i hi K hK
                  all_goals
                    have hlt : i < 15 := by
                      have := (List.mem_filter.1 hi).1
                      simpa using this
                  all_goals have hcc : i = 0 ∨ i = 1 ∨ i = 2 ∨ i = 3 ∨ i = 4 ∨ i = 5 ∨ i = 6 ∨ i = 7 ∨ i = 8 ∨ i = 9 ∨ i = 10 ∨ i = 11 ∨ i = 12 ∨ i = 13 ∨ i = 14 := by omega
                  all_goals rcases hcc with rfl | rfl | rfl | rfl | rfl | rfl | rfl | rfl | rfl | rfl | rfl | rfl | rfl | rfl | rfl
                  all_goals first | (exact absurd hi (by decide +kernel)) | skip
                  all_goals clear hlt hi
                  all_goals simp only [Nat.le_refl, Nat.reduceLeDiff, if_true, if_false]
                  all_goals refine wpOp_step rfl (fun K' hK' => ?_)
                  all_goals rw [if_pos (by kernel_rfl)]
                  all_goals have HP := Lib.hid hP
                  all_goals have HC' := Lib.hid hC
                  all_goals have HX := Lib.hid hX
                  all_goals have HR := Lib.hid hR
                  all_goals clear hP hC hX hR
                  all_goals (try (obtain rfl := gV rfl))
                  all_goals clear gV
                  all_goals go_simp
                  all_goals first
                    | refine hK' _ _ (hK _ _ ?_)
                    | (refine HC.out.mono ?_; rintro e W3 ⟨rfl, n, hW3⟩; clear bV; have bV : Below w.heap.size w W3 := (by rw [hW3]; exact below_drewN (b2.drew.setCell (p := ⟨w'.heap.size, 1, none⟩) hb.size _) n); clear hW3; refine hK' _ _ (hK _ _ ?_))
                  all_goals first
                    | (refine ⟨P' + 1, C', X', R', ?_⟩; have q1 := HP.out; have q2 := HC'.out; have q3 := HX.out; have q4 := HR.out; subst q1 q2 q3 q4; exact ⟨by omega, by omega, by omega, by omega, by omega, by omega, by omega, by omega, rfl, rfl, bV, by intro h; first | rfl | (exfalso; omega)⟩)
                    | (refine ⟨P', C' + 1, X', R', ?_⟩; have q1 := HP.out; have q2 := HC'.out; have q3 := HX.out; have q4 := HR.out; subst q1 q2 q3 q4; exact ⟨by omega, by omega, by omega, by omega, by omega, by omega, by omega, by omega, rfl, rfl, bV, by intro h; first | rfl | (exfalso; omega)⟩)
                    | (refine ⟨P', C', X' + 1, R', ?_⟩; have q1 := HP.out; have q2 := HC'.out; have q3 := HX.out; have q4 := HR.out; subst q1 q2 q3 q4; exact ⟨by omega, by omega, by omega, by omega, by omega, by omega, by omega, by omega, rfl, rfl, bV, by intro h; first | rfl | (exfalso; omega)⟩)
                    | (refine ⟨P', C', X', R' + 1, ?_⟩; have q1 := HP.out; have q2 := HC'.out; have q3 := HX.out; have q4 := HR.out; subst q1 q2 q3 q4; exact ⟨by omega, by omega, by omega, by omega, by omega, by omega, by omega, by omega, rfl, rfl, bV, by intro h; first | rfl | (exfalso; omega)⟩)
            · have hr2 : ((s[0].toNat : Int) != 114) = true := by rw [bne_iff_ne]; omega
              have HN2 := Lib.hid (show nameB s = true by rw [HN.out]; simp [hr])
              clear hr
              go_wp2
              go_quiet (fail)
              go_wp2
              go_ret
              rw [HN2.out]
              exact ⟨rfl, below_drewN (b1.setCell (p := ⟨w'.heap.size, 1, none⟩) hb.size _) _⟩
          · have hb2 : ((s.extract 0 j).toList == s.toList) = false := by rw [hb1]; simpa using hjs
            clear hb1
            have HN2 := Lib.hid (show nameB s = false by rw [HN.out]; simp [hjs])
            go_wp2
            go_ret
            rw [HN2.out]
            exact ⟨rfl, b1⟩
      · have hn : nameB s = false := by unfold nameB; rw [hcl]; simp [hc]
        rw [hn]
        clear hn hcl hsl
        go_enter Tryd.func17, Tryd.ntmps17
        go_wp2_with (first | (go_at_call 30; refine (of_any _ _).mono ?_; rintro e w' ⟨rfl, rfl⟩))
        go_ret
        exact ⟨rfl, Below.refl _ _⟩
end Go.Proofs.YtgpndifkkaomcaaDoor
