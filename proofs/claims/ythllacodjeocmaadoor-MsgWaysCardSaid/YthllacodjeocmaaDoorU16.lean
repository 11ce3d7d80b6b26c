/- The order of messages in the reference. -/
import Derived.Test.YthllacodjeocmaaDoorU13
namespace Go.Proofs.YthllacodjeocmaaDoor
open Go.RowKit
attribute [local go_sem] Oper.semAt_some
theorem cmp_at : ∀ (j : Nat) (l1 l2 : List UInt8) (x y : UInt8), l1.take j = l2.take j → l1[j]? = some x → l2[j]? = some y → x ≠ y → (Lib.compareBytes l1 l2 < 0 ↔ x < y)
  | _, [], _, _, _, _, h, _, _ => by simp at h
  | _, _ :: _, [], _, _, _, _, h, _ => by simp at h
  | 0, a :: t1, b :: t2, x, y, _, h1, h2, hn => by
    simp at h1 h2
    subst h1 h2
    unfold Lib.compareBytes
    by_cases h : a < b
    · rw [if_pos h]; simp [h]
    · rw [if_neg h]
      have h3 : b < a := by
        rw [UInt8.lt_iff_toNat_lt] at h ⊢
        have : a.toNat ≠ b.toNat := fun e => hn (UInt8.toNat_inj.1 e)
        omega
      rw [if_pos h3]; simp [h]
  | j + 1, a :: t1, b :: t2, x, y, ht, h1, h2, hn => by
    simp at ht h1 h2
    obtain ⟨rfl, ht⟩ := ht
    unfold Lib.compareBytes
    have hi : ¬ a < a := by rw [UInt8.lt_iff_toNat_lt]; omega
    rw [if_neg hi, if_neg hi]
    exact cmp_at j t1 t2 x y ht h1 h2 hn
theorem cmp_same : ∀ l : List UInt8, Lib.compareBytes l l = 0
  | [] => rfl
  | a :: t1 => by
    unfold Lib.compareBytes
    have hi : ¬ a < a := by rw [UInt8.lt_iff_toNat_lt]; omega
    rw [if_neg hi, if_neg hi]
    exact cmp_same t1
theorem less_at {m o : Mg} {j : Nat} {x y : UInt8} (ht : (bytesOf m).take j = (bytesOf o).take j) (h1 : (bytesOf m)[j]? = some x) (h2 : (bytesOf o)[j]? = some y) (hn : x ≠ y) : lessB m o = decide ((x.toNat : Int) < (y.toNat : Int)) := by
  unfold lessB
  have := cmp_at j _ _ x y ht h1 h2 hn
  rw [UInt8.lt_iff_toNat_lt] at this
  rw [decide_eq_decide, this]
  omega
theorem less_all {m o : Mg} (ht : (bytesOf m).take 11 = (bytesOf o).take 11) : lessB m o = false := by
  have h : bytesOf m = bytesOf o := by
    rw [List.take_of_length_le (by rw [bytesOf_len]; omega), List.take_of_length_le (by rw [bytesOf_len]; omega)] at ht
    exact ht
  unfold lessB
  rw [h, cmp_same]
  rfl
structure BB (w : World) (g1 g2 : Nat) (l1 l2 : List UInt8) (W : World) : Prop where
  b : Below w.heap.size w W
  h1 : BytesAt W g1 l1
  h2 : BytesAt W g2 l2
theorem BB.drew {w W : World} {g1 g2 : Nat} {l1 l2 : List UInt8} (h : BB w g1 g2 l1 l2 W) : BB w g1 g2 l1 l2 W.drew := ⟨h.b.trans ⟨rfl, rfl, rfl, Nat.le_refl _, fun _ _ => rfl⟩, h.h1, h.h2⟩
theorem take_next {l1 l2 : List UInt8} {j : Nat} {x : UInt8} (h : l1.take j = l2.take j) (h1 : l1[j]? = some x) (h2 : l2[j]? = some x) : l1.take (j + 1) = l2.take (j + 1) := by
  rw [List.take_add_one, List.take_add_one, h, h1, h2]
set_option maxHeartbeats 4000000 in
set_option maxRecDepth 100000 in
theorem rless_any (m o : Mg) (w : World) (hG : GlobM w) : Calls Tryd.prog 17 #[.agg (boxOf m), .agg (boxOf o)] w fun e w' => e = .returned (.bool (lessB m o)) ∧ Below w.heap.size w w' := by
  have HS0 := Lib.hid (((St.start hG).boxT (boxOf m) 25 rfl).boxT (boxOf o) 25 rfl)
  obtain ⟨bB, hbB⟩ : ∃ b, (w.alloc (.cells (boxOf m) 25)).heap.size = b := ⟨_, rfl⟩
  rw [hbB] at HS0
  generalize hbA : w.heap.size = bA at HS0
  have HBA := Lib.hid hbA
  obtain ⟨r, hr⟩ : ∃ r, lessB m o = r := ⟨_, rfl⟩
  have HR := Lib.hid hr
  rw [hr]
  have L1 : Hid ((bytesOf m).length = 11) := Lib.hid (bytesOf_len m)
  have L2 : Hid ((bytesOf o).length = 11) := Lib.hid (bytesOf_len o)
  have C1 := Lib.hid (fun W => rbytes_any m W)
  have C2 := Lib.hid (fun W => rbytes_any o W)
  clear hr hG
  go_enter Tryd.func17, Tryd.ntmps17
  go_wp2_with (first | (refine wpl_box rfl 25 (.tmp 0) rfl (boxOf m) rfl ?_; rw [hbA]; intro w0 hw0) | (refine wpl_box rfl 25 (.tmp 1) rfl (boxOf o) rfl ?_; rw [show w0.heap.size = bB from by rw [hw0.out]; exact hbB]; intro w1 hw1; have HS1 := (show Hid (St [(bB, boxOf o, 25), (bA, boxOf m, 25)] w w1) from by show St _ _ _; rw [hw1.out, hw0.out]; exact HS0.out); clear hw1 hw0 HS0 hbA hbB) | (refine wpl_ld25 rfl (.tmp 2) rfl bA m rfl (HS1.out.h (bA, boxOf m, 25) (by simp)) ?_) | fail)
  go_at_call 39
  refine (C1.out w1).mono ?_
  rintro e w2 ⟨g1, rfl, hA, hb⟩
  have HS2 := Lib.hid (HS1.out.next hb)
  have HA := Lib.hid hA
  clear hA hb HS1 C1
  go_wp2_with (first | (refine wpl_ld25 rfl (.tmp 3) rfl bB o rfl (HS2.out.h (bB, boxOf o, 25) (by simp)) ?_) | fail)
  go_at_call 39
  refine (C2.out w2).mono ?_
  rintro e w3 ⟨g2, rfl, hA2, hb⟩
  have HB := Lib.hid (BB.mk (w := w) (W := w3) (HS2.out.next hb).b (HA.out.below hb) hA2)
  clear hA2 hb HS2 C2 HA
  generalize hl1 : bytesOf m = l1 at HB L1
  generalize hl2 : bytesOf o = l2 at HB L2
  have HLA : Hid (∀ (j : Nat) (x y : UInt8), l1.take j = l2.take j → l1[j]? = some x → l2[j]? = some y → x ≠ y → r = decide ((x.toNat : Int) < (y.toNat : Int))) := Lib.hid (fun j x y h1 h2 h3 h4 => by subst hl1 hl2; rw [← HR.out]; exact less_at h1 h2 h3 h4)
  have HLZ : Hid (l1.take 11 = l2.take 11 → r = false) := Lib.hid (fun h => by subst hl1 hl2; rw [← HR.out]; exact less_all h)
  clear hl1 hl2 HR
  go_wp2_with fail
  go_loopw [7] (fun i wr => ∃ j : Nat, j ≤ 11 ∧ i = .int .i64 j ∧ Hid (l1.take j = l2.take j) ∧ Hid (BB w g1 g2 l1 l2 wr)) (fun i _ => 11 - (intOf i).toNat)
  case atStart => exact ⟨0, by omega, rfl, Lib.hid rfl, HB⟩
  case round =>
    clear HB
    obtain ⟨j, hj, rfl, HT, HB⟩ := hrel
    by_cases hlt : j < 11
    · have q1 : decide ((j : Int) < 11) = true := by simp; omega
      obtain ⟨x, hx⟩ : ∃ x, l1[j]? = some x := ⟨_, List.getElem?_eq_getElem (by rw [L1.out]; exact hlt)⟩
      obtain ⟨y, hy⟩ : ∃ x, l2[j]? = some x := ⟨_, List.getElem?_eq_getElem (by rw [L2.out]; exact hlt)⟩
      have HXY := Lib.hid (And.intro hx hy)
      clear hx hy
      go_upto_region 6 with fail
      obtain ⟨hx, hy⟩ := HXY.out
      obtain ⟨q, hq⟩ : ∃ q, ((x.toNat : Int) != (y.toNat : Int)) = q := ⟨_, rfl⟩
      refine region_all (D := [false, false, false, false, false, false, false, false, false, false, false, false, false, false, false, false, true, true, true, true, true, true, true, true, true]) (S := BB w g1 g2 l1 l2) (R := RB) (F := FF [isV (.slice (some ⟨g1, 0, none⟩) 11 11), isV (.int .i64 j), isV (.pointer (some ⟨g1, 0 + j, none⟩)), isV (.int .u8 x.toNat), isV (.slice (some ⟨g2, 0, none⟩) 11 11), isV (.int .i64 j), isV (.pointer (some ⟨g2, 0 + j, none⟩)), isV (.int .u8 y.toNat), isV (.bool q)]) rfl mo (by kernel_rfl) (FF_st _ _) HB.out.drew (fun hN => ?_) (fun u W hS hF => ?_)
      · refine steps_cons ?_ ?_
        · intro u W hS hp
          exact step_on (wanted_free rfl) (ext_val hS (run_mv rfl ((eval_out rfl).trans rfl)) rfl)
        refine steps_cons ?_ ?_
        · intro u W hS hp
          exact step_on (wanted_free rfl) (ext_val hS (run_mv rfl ((eval_out rfl).trans rfl)) rfl)
        refine steps_cons ?_ ?_
        · intro u W hS hp
          obtain ⟨q0, q1, _⟩ := hp
          have p16 : u 16 = .slice (some ⟨g1, 0, none⟩) 11 11 := q0
          have p17 : u 17 = .int .i64 j := q1
          exact step_on (wanted_free rfl) (ext_val hS (run_ia rfl ((eval_in rfl hN rfl).trans p16) ((eval_in rfl hN rfl).trans p17) (idx29 hlt)) rfl)
        refine steps_cons ?_ ?_
        · intro u W hS hp
          obtain ⟨q0, _⟩ := hp
          have p18 : u 18 = .pointer (some ⟨g1, 0 + j, none⟩) := q0
          exact step_on (wanted_free rfl) (ext_val hS (run_ld rfl ((eval_in rfl hN rfl).trans p18) (ld_u8 (by rw [Nat.zero_add]; exact hS.h1 j x hx))) rfl)
        refine steps_cons ?_ ?_
        · intro u W hS hp
          exact step_on (wanted_free rfl) (ext_val hS (run_mv rfl ((eval_out rfl).trans rfl)) rfl)
        refine steps_cons ?_ ?_
        · intro u W hS hp
          exact step_on (wanted_free rfl) (ext_val hS (run_mv rfl ((eval_out rfl).trans rfl)) rfl)
        refine steps_cons ?_ ?_
        · intro u W hS hp
          obtain ⟨q0, q1, _⟩ := hp
          have p20 : u 20 = .slice (some ⟨g2, 0, none⟩) 11 11 := q0
          have p21 : u 21 = .int .i64 j := q1
          exact step_on (wanted_free rfl) (ext_val hS (run_ia rfl ((eval_in rfl hN rfl).trans p20) ((eval_in rfl hN rfl).trans p21) (idx29 hlt)) rfl)
        refine steps_cons ?_ ?_
        · intro u W hS hp
          obtain ⟨q0, _⟩ := hp
          have p22 : u 22 = .pointer (some ⟨g2, 0 + j, none⟩) := q0
          exact step_on (wanted_free rfl) (ext_val hS (run_ld rfl ((eval_in rfl hN rfl).trans p22) (ld_u8 (by rw [Nat.zero_add]; exact hS.h2 j y hy))) rfl)
        refine steps_cons ?_ ?_
        · intro u W hS hp
          obtain ⟨q0, q1, _⟩ := hp
          have p19 : u 19 = .int .u8 x.toNat := q0
          have p23 : u 23 = .int .u8 y.toNat := q1
          exact step_on (wanted_free rfl) (ext_val hS (run_bin rfl ((eval_in rfl hN rfl).trans p19) ((eval_in rfl hN rfl).trans p23) rfl (i_neq hq)) rfl)
        exact steps_nil
      · obtain ⟨q0, q1, q2, q3, q4, q5, q6, q7, q8, _⟩ := hF
        have p16 : u 16 = .slice (some ⟨g1, 0, none⟩) 11 11 := q0
        have p17 : u 17 = .int .i64 j := q1
        have p18 : u 18 = .pointer (some ⟨g1, 0 + j, none⟩) := q2
        have p19 : u 19 = .int .u8 x.toNat := q3
        have p20 : u 20 = .slice (some ⟨g2, 0, none⟩) 11 11 := q4
        have p21 : u 21 = .int .i64 j := q5
        have p22 : u 22 = .pointer (some ⟨g2, 0 + j, none⟩) := q6
        have p23 : u 23 = .int .u8 y.toNat := q7
        have p24 : u 24 = .bool q := q8
        simp only [frm, frmL, Nat.reduceAdd, p16, p17, p18, p19, p20, p21, p22, p23, p24]
        clear p16 p17 p18 p19 p20 p21 p22 p23 p24
        cases q
        · have hxy : x = y := by rw [bne_eq_false_iff_eq] at hq; exact UInt8.toNat_inj.1 (by omega)
          subst hxy
          have HT2 := Lib.hid (take_next HT.out hx hy)
          have HB2 := Lib.hid hS
          clear hq hx hy hS
          go_wp2_with fail
          exact ⟨⟨j + 1, by omega, by go_num, HT2, HB2⟩, by simp [intOf]; omega⟩
        · have hne : x ≠ y := fun e => by subst e; simp at hq
          have hlt2 : decide ((x.toNat : Int) < (y.toNat : Int)) = r := (HLA.out j x y HT.out hx hy hne).symm
          have HQ := Lib.hid (And.intro hlt2 (And.intro hx (And.intro hy hS)))
          clear hq hne hlt2 hx hy hS
          go_upto_region 7 with fail
          obtain ⟨hlt2, hx, hy, hS⟩ := HQ.out
          refine region_all (D := [false, false, false, false, true, false, false, false, false, false, false, false, false, false, false, false, false, false, false, false, false, false, false, false, false, true, true, true, true, true, true, true, true, true]) (S := BB w g1 g2 l1 l2) (R := RB) (F := FF [isV (.slice (some ⟨g1, 0, none⟩) 11 11), isV (.int .i64 j), isV (.pointer (some ⟨g1, 0 + j, none⟩)), isV (.int .u8 x.toNat), isV (.slice (some ⟨g2, 0, none⟩) 11 11), isV (.int .i64 j), isV (.pointer (some ⟨g2, 0 + j, none⟩)), isV (.int .u8 y.toNat), isV (.bool r), isV (.bool r)]) rfl mo (by kernel_rfl) (FF_st _ _) hS.drew (fun hN => ?_) (fun u W hS hF => ?_)
          · refine steps_cons ?_ ?_
            · intro u W hS hp
              exact step_on (wanted_free rfl) (ext_val hS (run_mv rfl ((eval_out rfl).trans rfl)) rfl)
            refine steps_cons ?_ ?_
            · intro u W hS hp
              exact step_on (wanted_free rfl) (ext_val hS (run_mv rfl ((eval_out rfl).trans rfl)) rfl)
            refine steps_cons ?_ ?_
            · intro u W hS hp
              obtain ⟨q0, q1, _⟩ := hp
              have p25 : u 25 = .slice (some ⟨g1, 0, none⟩) 11 11 := q0
              have p26 : u 26 = .int .i64 j := q1
              exact step_on (wanted_free rfl) (ext_val hS (run_ia rfl ((eval_in rfl hN rfl).trans p25) ((eval_in rfl hN rfl).trans p26) (idx29 hlt)) rfl)
            refine steps_cons ?_ ?_
            · intro u W hS hp
              obtain ⟨q0, _⟩ := hp
              have p27 : u 27 = .pointer (some ⟨g1, 0 + j, none⟩) := q0
              exact step_on (wanted_free rfl) (ext_val hS (run_ld rfl ((eval_in rfl hN rfl).trans p27) (ld_u8 (by rw [Nat.zero_add]; exact hS.h1 j x hx))) rfl)
            refine steps_cons ?_ ?_
            · intro u W hS hp
              exact step_on (wanted_free rfl) (ext_val hS (run_mv rfl ((eval_out rfl).trans rfl)) rfl)
            refine steps_cons ?_ ?_
            · intro u W hS hp
              exact step_on (wanted_free rfl) (ext_val hS (run_mv rfl ((eval_out rfl).trans rfl)) rfl)
            refine steps_cons ?_ ?_
            · intro u W hS hp
              obtain ⟨q0, q1, _⟩ := hp
              have p29 : u 29 = .slice (some ⟨g2, 0, none⟩) 11 11 := q0
              have p30 : u 30 = .int .i64 j := q1
              exact step_on (wanted_free rfl) (ext_val hS (run_ia rfl ((eval_in rfl hN rfl).trans p29) ((eval_in rfl hN rfl).trans p30) (idx29 hlt)) rfl)
            refine steps_cons ?_ ?_
            · intro u W hS hp
              obtain ⟨q0, _⟩ := hp
              have p31 : u 31 = .pointer (some ⟨g2, 0 + j, none⟩) := q0
              exact step_on (wanted_free rfl) (ext_val hS (run_ld rfl ((eval_in rfl hN rfl).trans p31) (ld_u8 (by rw [Nat.zero_add]; exact hS.h2 j y hy))) rfl)
            refine steps_cons ?_ ?_
            · intro u W hS hp
              obtain ⟨q0, q1, _⟩ := hp
              have p28 : u 28 = .int .u8 x.toNat := q0
              have p32 : u 32 = .int .u8 y.toNat := q1
              exact step_on (wanted_free rfl) (ext_val hS (run_bin rfl ((eval_in rfl hN rfl).trans p28) ((eval_in rfl hN rfl).trans p32) rfl (i_lss hlt2)) rfl)
            refine steps_cons ?_ ?_
            · intro u W hS hp
              obtain ⟨q0, q1, q2, q3, q4, q5, q6, q7, q8, q9, _⟩ := hp
              have p33 : u 33 = .bool r := q0
              have p25 : u 25 = .slice (some ⟨g1, 0, none⟩) 11 11 := q1
              have p26 : u 26 = .int .i64 j := q2
              have p27 : u 27 = .pointer (some ⟨g1, 0 + j, none⟩) := q3
              have p28 : u 28 = .int .u8 x.toNat := q4
              have p29 : u 29 = .slice (some ⟨g2, 0, none⟩) 11 11 := q5
              have p30 : u 30 = .int .i64 j := q6
              have p31 : u 31 = .pointer (some ⟨g2, 0 + j, none⟩) := q7
              have p32 : u 32 = .int .u8 y.toNat := q8
              exact step_on (wanted_free rfl) (ext_val hS (run_asg rfl ((eval_in rfl hN rfl).trans p33)) rfl)
            exact steps_nil
          · obtain ⟨q0, q1, q2, q3, q4, q5, q6, q7, q8, q9, _⟩ := hF
            have p25 : u 25 = .slice (some ⟨g1, 0, none⟩) 11 11 := q0
            have p26 : u 26 = .int .i64 j := q1
            have p27 : u 27 = .pointer (some ⟨g1, 0 + j, none⟩) := q2
            have p28 : u 28 = .int .u8 x.toNat := q3
            have p29 : u 29 = .slice (some ⟨g2, 0, none⟩) 11 11 := q4
            have p30 : u 30 = .int .i64 j := q5
            have p31 : u 31 = .pointer (some ⟨g2, 0 + j, none⟩) := q6
            have p32 : u 32 = .int .u8 y.toNat := q7
            have p33 : u 33 = .bool r := q8
            have p4 : u 4 = .bool r := q9
            simp only [frm, frmL, Nat.reduceAdd, p25, p26, p27, p28, p29, p30, p31, p32, p33, p4]
            clear p25 p26 p27 p28 p29 p30 p31 p32 p33 p4
            go_wp2
            go_ret
            exact ⟨rfl, by rw [← HBA.out]; exact hS.b⟩
    · obtain rfl : j = 11 := by omega
      have q1 : decide (((11 : Nat) : Int) < 11) = false := by simp
      have HZ := Lib.hid (HLZ.out HT.out)
      go_wp2
      go_ret
      exact ⟨by rw [HZ.out]; rfl, by rw [← HBA.out]; exact HB.out.b⟩
end Go.Proofs.YthllacodjeocmaaDoor
