/- MsgWays. -/
import Derived.Test.YthllacodjeocmaaDoorU18
namespace Go.Proofs.YthllacodjeocmaaDoor
open Go.RowKit
attribute [local go_sem] Oper.semAt_some
theorem bif_or {c a b : Bool} (h : (bif c then a else b) = true) : (c = true ∧ a = true) ∨ (c = false ∧ b = true) := by
  cases c
  · exact .inr ⟨rfl, h⟩
  · exact .inl ⟨rfl, h⟩
theorem rway_cases {m : Mg} {g : Ge} (h : rwayB m g = true) : (1 ≤ m.k.toNat ∧ m.k.toNat ≤ 5 ∧ rcacheB m g = true) ∨ (((6 ≤ m.k.toNat ∧ m.k.toNat ≤ 9) ∨ m.k.toNat = 11) ∧ rfromB m g = true) ∨ (m.k.toNat = 10 ∧ (rfromB m g = true ∨ rbetweenB m g = true)) ∨ (m.k.toNat = 12 ∧ rbetweenB m g = true) := by
  unfold rwayB at h
  rcases bif_or h with ⟨h1, h2⟩ | ⟨_, h⟩
  · rw [Bool.and_eq_true, decide_eq_true_eq, decide_eq_true_eq] at h1
    exact .inl ⟨by omega, by omega, h2⟩
  rcases bif_or h with ⟨h1, h2⟩ | ⟨_, h⟩
  · rw [Bool.or_eq_true, Bool.and_eq_true, decide_eq_true_eq, decide_eq_true_eq, beq_iff_eq] at h1
    exact .inr (.inl ⟨by omega, h2⟩)
  rcases bif_or h with ⟨h1, h2⟩ | ⟨_, h⟩
  · rw [beq_iff_eq] at h1
    rw [Bool.or_eq_true] at h2
    exact .inr (.inr (.inl ⟨by omega, h2⟩))
  · rw [Bool.and_eq_true, beq_iff_eq] at h
    exact .inr (.inr (.inr ⟨by omega, h.2⟩))
/-- What a valid message has. -/
structure Ways (m : Mg) (g : Ge) : Prop where
  ok : g.ok = true
  f : ¬ ((g.nodes : Nat) : Int) ≤ (m.f.toNat : Int)
  t : ¬ ((g.nodes : Nat) : Int) ≤ (m.t.toNat : Int)
  ne : ¬ (m.f.toNat : Int) = (m.t.toNat : Int)
  ft : g.isCache m.f.toNat = true ∨ g.isCache m.t.toNat = true
  cl : clsOf m.k = 1 ∨ clsOf m.k = 2 ∨ clsOf m.k = 3
  c1 : clsOf m.k = 1 → (m.t.toNat : Int) = (g.home m.l.toNat : Int)
  c2 : clsOf m.k = 2 → (m.f.toNat : Int) = (g.home m.l.toNat : Int)
  ht : g.isHome m.t.toNat = true → (m.t.toNat : Int) = (g.home m.l.toNat : Int)
  hf : g.isHome m.f.toNat = true → (m.f.toNat : Int) = (g.home m.l.toNat : Int)
  ac : ¬ g.c ≤ (m.c.toNat : Int)
  sk : ((m.a.toNat : Int) == 0) = true ∨ (g.isCache m.a.toNat = true ∧ ((m.a.toNat : Int) != (m.t.toNat : Int)) = true)
  al : m.al = false ∨ (((m.k.toNat : Int) == 10) = true ∧ ((m.f.toNat : Int) == (g.home m.l.toNat : Int)) = true)
theorem cls_kind {k : UInt8} (h : 1 ≤ k.toNat) (h2 : k.toNat ≤ 12) : clsOf k = if k.toNat ≤ 3 then 1 else if k.toNat = 4 ∨ k.toNat = 5 then 3 else if k.toNat ≤ 9 then 2 else 3 := by
  unfold clsOf
  rw [if_pos (by omega)]
  have := cls_table ⟨k.toNat, by omega⟩
  simp only at this
  rw [this, if_neg (by omega)]
theorem cache_lt {g : Ge} {n : Nat} (h : g.isCache n = true) : (n : Int) < g.c := by
  unfold Ge.isCache at h
  rw [Bool.and_eq_true, decide_eq_true_eq] at h
  exact h.2
theorem home_ge {g : Ge} {n : Nat} (h : g.isHome n = true) : g.c ≤ (n : Int) := by
  unfold Ge.isHome at h
  rw [Bool.and_eq_true, Bool.and_eq_true, decide_eq_true_eq] at h
  exact h.2.1
theorem ways_of {m : Mg} {g : Ge} (h : rightB m g = true) : Ways m g := by
  rw [right_law] at h
  unfold rrightB at h
  simp only [Bool.and_eq_true] at h
  obtain ⟨h0, ⟨⟨⟨hw, hk⟩, hc⟩, hl⟩, _⟩ := h
  have hok : g.ok = true := by cases hq : g.ok <;> simp_all
  obtain ⟨⟨hb1, hb2⟩, ⟨hb3, hb4⟩, _⟩ := ok_bounds hok
  have hnodes : (g.nodes : Int) = g.c + g.h := by unfold Ge.nodes; rw [if_pos hok]; omega
  have hhome : (g.home m.l.toNat : Int) < g.c + g.h ∧ g.c ≤ (g.home m.l.toNat : Int) := by
    unfold Ge.home
    rw [if_pos hok]
    have := Nat.mod_lt m.l.toNat (show 0 < g.h.toNat by omega)
    omega
  have E1 : rcacheB m g = true → (m.f.toNat : Int) < g.c ∧ (m.t.toNat : Int) = (g.home m.l.toNat : Int) ∧ g.isCache m.f.toNat = true := by
    intro h
    unfold rcacheB at h
    rw [Bool.and_eq_true, beq_iff_eq] at h
    exact ⟨cache_lt h.1, h.2, h.1⟩
  have E2 : rfromB m g = true → (m.f.toNat : Int) = (g.home m.l.toNat : Int) ∧ (m.t.toNat : Int) < g.c ∧ g.isCache m.t.toNat = true := by
    intro h
    unfold rfromB at h
    rw [Bool.and_eq_true, beq_iff_eq] at h
    exact ⟨h.1, cache_lt h.2, h.2⟩
  have E3 : rbetweenB m g = true → (m.f.toNat : Int) < g.c ∧ (m.t.toNat : Int) < g.c ∧ ¬ (m.f.toNat : Int) = (m.t.toNat : Int) ∧ g.isCache m.f.toNat = true := by
    intro h
    unfold rbetweenB at h
    rw [Bool.and_eq_true, Bool.and_eq_true, bne_iff_ne] at h
    exact ⟨cache_lt h.1.1, cache_lt h.1.2, h.2, h.1.1⟩
  have HK := rway_cases hw
  have hk12 : 1 ≤ m.k.toNat ∧ m.k.toNat ≤ 12 := by omega
  have hcl := cls_kind hk12.1 hk12.2
  have hac : ¬ g.c ≤ (m.c.toNat : Int) := by
    unfold racksB at hc
    rw [Bool.or_eq_true, beq_iff_eq] at hc
    rcases hc with hc | hc
    · omega
    · rw [Bool.and_eq_true, decide_eq_true_eq] at hc; omega
  have has : ((m.a.toNat : Int) == 0) = true ∨ (g.isCache m.a.toNat = true ∧ ((m.a.toNat : Int) != (m.t.toNat : Int)) = true) := by
    unfold raskerB at hk
    rcases bif_or hk with ⟨_, h2⟩ | ⟨_, h2⟩
    · rw [Bool.and_eq_true] at h2; exact .inr h2
    · exact .inl h2
  have hal : m.al = false ∨ (((m.k.toNat : Int) == 10) = true ∧ ((m.f.toNat : Int) == (g.home m.l.toNat : Int)) = true) := by
    unfold raloneB rfromB at hl
    cases hq : m.al
    · exact .inl rfl
    · rw [hq, Bool.or_eq_true, Bool.and_eq_true, Bool.and_eq_true] at hl
      rcases hl with hl | hl
      · cases hl
      · exact .inr ⟨hl.1, hl.2.1⟩
  have hH1 : g.isHome m.t.toNat = true → g.c ≤ (m.t.toNat : Int) := home_ge
  have hH2 : g.isHome m.f.toNat = true → g.c ≤ (m.f.toNat : Int) := home_ge
  rcases HK with ⟨k1, k2, hx⟩ | ⟨k1, hx⟩ | ⟨k1, hx | hx⟩ | ⟨k1, hx⟩
  · obtain ⟨x1, x2, x3⟩ := E1 hx
    refine ⟨hok, by omega, by omega, by omega, .inl x3, ?_, fun _ => x2, fun hz => ?_, fun _ => x2, fun hz => ?_, hac, has, hal⟩
    · rw [hcl]; split
      · exact .inl rfl
      · split
        · exact .inr (.inr rfl)
        · omega
    · rw [hcl] at hz; split at hz
      · omega
      · split at hz <;> omega
    · have := hH2 hz; omega
  · obtain ⟨x1, x2, x3⟩ := E2 hx
    refine ⟨hok, by omega, by omega, by omega, .inr x3, ?_, fun hz => ?_, fun _ => x1, fun hz => ?_, fun _ => x1, hac, has, hal⟩
    · rw [hcl]; split
      · exact .inl rfl
      · split
        · exact .inr (.inr rfl)
        · split
          · exact .inr (.inl rfl)
          · exact .inr (.inr rfl)
    · rw [hcl, if_neg (by omega), if_neg (by omega)] at hz
      split at hz <;> omega
    · have := hH1 hz; omega
  · obtain ⟨x1, x2, x3⟩ := E2 hx
    have hc3 : clsOf m.k = 3 := by rw [hcl, if_neg (by omega), if_neg (by omega), if_neg (by omega)]
    exact ⟨hok, by omega, by omega, by omega, .inr x3, .inr (.inr hc3), fun hz => by omega, fun hz => by omega, fun hz => by have := hH1 hz; omega, fun _ => x1, hac, has, hal⟩
  · obtain ⟨x1, x2, x3, x4⟩ := E3 hx
    have hc3 : clsOf m.k = 3 := by rw [hcl, if_neg (by omega), if_neg (by omega), if_neg (by omega)]
    exact ⟨hok, by omega, by omega, by omega, .inl x4, .inr (.inr hc3), fun hz => by omega, fun hz => by omega, fun hz => by have := hH1 hz; omega, fun hz => by have := hH2 hz; omega, hac, has, hal⟩
  · obtain ⟨x1, x2, x3, x4⟩ := E3 hx
    have hc3 : clsOf m.k = 3 := by rw [hcl, if_neg (by omega), if_neg (by omega), if_neg (by omega)]
    exact ⟨hok, by omega, by omega, by omega, .inl x4, .inr (.inr hc3), fun hz => by omega, fun hz => by omega, fun hz => by have := hH1 hz; omega, fun hz => by have := hH2 hz; omega, hac, has, hal⟩
set_option maxHeartbeats 8000000 in
set_option maxRecDepth 100000 in
theorem msgWays_any (g : Ge) (m : Mg) (w : World) (hG : GlobM w) : Calls Tryd.prog 8 #[.agg g.arr, .agg (boxOf m)] w fun e w' => e = .returned (.bool true) ∧ Below w.heap.size w w' := by
  have HS0 := Lib.hid (((St.start hG).boxT g.arr 39 rfl).boxT (boxOf m) 25 rfl)
  obtain ⟨bB, hbB⟩ : ∃ b, (w.alloc (.cells g.arr 39)).heap.size = b := ⟨_, rfl⟩
  rw [hbB] at HS0
  generalize hbA : w.heap.size = bA at HS0
  have HBA := Lib.hid hbA
  obtain ⟨x, hx⟩ : ∃ x, rightB m g = x := ⟨_, rfl⟩
  have HX := Lib.hid hx
  clear hG hx
  go_enter Tryd.func8, Tryd.ntmps8
  go_wp2_with (first | (refine wpl_box rfl 39 (.tmp 0) rfl g.arr rfl ?_; rw [hbA]; intro w0 hw0) | (refine wpl_box rfl 25 (.tmp 1) rfl (boxOf m) rfl ?_; rw [show w0.heap.size = bB from by rw [hw0.out]; exact hbB]; intro w1 hw1; have HS1 := (show Hid (St [(bB, boxOf m, 25), (bA, g.arr, 39)] w w1) from by show St _ _ _; rw [hw1.out, hw0.out]; exact HS0.out); clear hw1 hw0 HS0 hbA hbB) | fail)
  go_at_call 9
  refine (awake_st HS1).mono ?_
  rintro e w2 ⟨rfl, HS2⟩
  clear HS1
  go_upto_region 3 with fail
  refine region_seq (D := [false, false, false, false, false, false, false, false, false, true, true, true, true]) (S := fun W => St [(bB, boxOf m, 25), (bA, g.arr, 39)] w W) (R := RB) (F := FF [isV (.agg g.arr), isV (.agg (boxOf m)), isV (.bool x), isV (.bool (!x))]) rfl (by kernel_rfl) (FF_st _ _) HS2.out (fun hN => ?_) (fun u W hS hF => ?_)
  · refine steps_cons ?_ ?_
    · intro u W hS hp
      exact step_on (wanted_free rfl) (ext_val hS (run_ld rfl ((eval_out rfl).trans rfl) (ld39 (hS.h (bA, g.arr, 39) (by simp)))) rfl)
    refine steps_cons ?_ ?_
    · intro u W hS hp
      exact step_on (wanted_free rfl) (ext_val hS (run_ld rfl ((eval_out rfl).trans rfl) (ld25 (hS.h (bB, boxOf m, 25) (by simp)))) rfl)
    refine steps_cons ?_ ?_
    · intro u W hS hp
      obtain ⟨q0, q1, _⟩ := hp
      have p9 : u 9 = .agg g.arr := q0
      have p10 : u 10 = .agg (boxOf m) := q1
      exact step_on (wanted_free rfl) (ext_call (run_call rfl rfl (map2 ((eval_in rfl hN rfl).trans p9) ((eval_in rfl hN rfl).trans p10)) Tryd.func18 nm18 bd18) ((right_any m g W hS.g).mono fun _ _ ⟨e, h⟩ => ⟨_, e.trans (congrArg (fun x => Ending.returned (Value.bool x)) HX.out), rfl, hS.next h, h⟩))
    refine steps_cons ?_ ?_
    · intro u W hS hp
      obtain ⟨q0, _⟩ := hp
      have p11 : u 11 = .bool x := q0
      exact step_on (wanted_free rfl) (ext_val hS (run_un rfl ((eval_in rfl hN rfl).trans p11) rfl) rfl)
    exact steps_nil
  · obtain ⟨_, _, _, q3, _⟩ := hF
    have p12 : u 12 = .bool (!x) := q3
    simp only [frm, frmL, Nat.reduceAdd, p12]
    clear p12
    have HS := Lib.hid hS
    clear hS HS2
    cases x
    · go_wp2_with fail
      go_ret
      exact ⟨rfl, by rw [← HBA.out]; exact HS.out.b⟩
    · have HV := Lib.hid (ways_of HX.out)
      go_upto_region 5 with fail
      obtain ⟨cl, hcl⟩ : ∃ c, clsOf m.k = c := ⟨_, rfl⟩
      have HCL := Lib.hid hcl
      obtain ⟨hm, hhm⟩ : ∃ c, g.home m.l.toNat = c := ⟨_, rfl⟩
      have HHM := Lib.hid hhm
      clear hcl hhm
      refine region_seq (D := [false, false, false, false, false, true, false, false, false, false, false, false, false, true, true, true]) (S := fun W => St [(bB, boxOf m, 25), (bA, g.arr, 39)] w W) (R := RB) (F := FF [isV (.pointer (some ⟨bB, 0, none⟩)), isV (.int .u8 m.k.toNat), isV (.int .u8 cl), isV (.int .u8 cl)]) rfl (by kernel_rfl) (FF_st _ _) HS.out (fun hN => ?_) (fun u W hS hF => ?_)
      · refine steps_cons ?_ ?_
        · intro u W hS hp
          exact step_on (wanted_free rfl) (ext_val hS (run_fa rfl ((eval_out rfl).trans rfl) (fa25_0 bB)) rfl)
        refine steps_cons ?_ ?_
        · intro u W hS hp
          obtain ⟨q0, _⟩ := hp
          have p13 : u 13 = .pointer (some ⟨bB, 0, none⟩) := q0
          exact step_on (wanted_free rfl) (ext_val hS (run_ld rfl ((eval_in rfl hN rfl).trans p13) (ld_u8 ((cell_of_heap (hS.h (bB, boxOf m, 25) (by simp))).trans (rfl : (boxOf m)[0]? = some _)))) rfl)
        refine steps_cons ?_ ?_
        · intro u W hS hp
          obtain ⟨q0, _⟩ := hp
          have p14 : u 14 = .int .u8 m.k.toNat := q0
          exact step_on (wanted_free rfl) (ext_call (run_call rfl rfl (map1 ((eval_in rfl hN rfl).trans p14)) Tryd.func19 nm19 bd19) ((class_any m.k W hS.g).mono fun _ _ ⟨e, h⟩ => ⟨_, e.trans (congrArg (fun x => Ending.returned (Value.int .u8 x)) HCL.out), rfl, by rw [← h]; exact hS, by rw [← h]; exact Below.refl _ _⟩))
        refine steps_cons ?_ ?_
        · intro u W hS hp
          obtain ⟨q0, q1, q2, q3, q4, _⟩ := hp
          have p15 : u 15 = .int .u8 cl := q0
          exact step_on (wanted_free rfl) (ext_val hS (run_asg rfl ((eval_in rfl hN rfl).trans p15)) rfl)
        exact steps_nil
      · obtain ⟨_, _, _, q3, _⟩ := hF
        have p5 : u 5 = .int .u8 cl := q3
        simp only [frm, frmL, Nat.reduceAdd, p5]
        clear p5
        go_upto_region 6 with fail
        refine region_seq (D := [false, false, false, false, false, false, true, false, false, false, false, false, false, false, false, false, true, true, true, true]) (S := fun W => St [(bB, boxOf m, 25), (bA, g.arr, 39)] w W) (R := RB) (F := FF [isV (.agg g.arr), isV (.pointer (some ⟨bB, 3, none⟩)), isV (.int .u8 m.l.toNat), isV (.int .u8 hm), isV (.int .u8 hm)]) rfl (by kernel_rfl) (FF_st _ _) hS (fun hN => ?_) (fun u W hS hF => ?_)
        · refine steps_cons ?_ ?_
          · intro u W hS hp
            exact step_on (wanted_free rfl) (ext_val hS (run_ld rfl ((eval_out rfl).trans rfl) (ld39 (hS.h (bA, g.arr, 39) (by simp)))) rfl)
          refine steps_cons ?_ ?_
          · intro u W hS hp
            exact step_on (wanted_free rfl) (ext_val hS (run_fa rfl ((eval_out rfl).trans rfl) (fa25_3 bB)) rfl)
          refine steps_cons ?_ ?_
          · intro u W hS hp
            obtain ⟨q0, _⟩ := hp
            have p17 : u 17 = .pointer (some ⟨bB, 3, none⟩) := q0
            exact step_on (wanted_free rfl) (ext_val hS (run_ld rfl ((eval_in rfl hN rfl).trans p17) (ld_u8 ((cell_of_heap (hS.h (bB, boxOf m, 25) (by simp))).trans (rfl : (boxOf m)[3]? = some _)))) rfl)
          refine steps_cons ?_ ?_
          · intro u W hS hp
            obtain ⟨q0, q1, _⟩ := hp
            have p16 : u 16 = .agg g.arr := q0
            have p18 : u 18 = .int .u8 m.l.toNat := q1
            exact step_on (wanted_free rfl) (ext_call (run_call rfl rfl (map2 ((eval_in rfl hN rfl).trans p16) ((eval_in rfl hN rfl).trans p18)) Tryd.func20 nm20 bd20) ((home_any g m.l.toNat W).mono fun _ _ ⟨e, h⟩ => ⟨_, e.trans (congrArg (fun x : Nat => Ending.returned (Value.int .u8 x)) HHM.out), rfl, hS.next h, h⟩))
          refine steps_cons ?_ ?_
          · intro u W hS hp
            obtain ⟨q0, q1, q2, q3, q4, q5, _⟩ := hp
            have p19 : u 19 = .int .u8 hm := q0
            exact step_on (wanted_free rfl) (ext_val hS (run_asg rfl ((eval_in rfl hN rfl).trans p19)) rfl)
          exact steps_nil
        · obtain ⟨_, _, _, _, q4, _⟩ := hF
          have p6 : u 6 = .int .u8 hm := q4
          simp only [frm, frmL, Nat.reduceAdd, p6]
          clear p6
          have HS3 := Lib.hid hS
          clear hS HS
          go_upto_region 7 with fail
          have hgok : g.ok = true := HV.out.ok
          have zq1 : decide (((g.nodes : Nat) : Int) ≤ (m.f.toNat : Int)) = false := decide_eq_false HV.out.f
          have zq2 : decide (((g.nodes : Nat) : Int) ≤ (m.t.toNat : Int)) = false := decide_eq_false HV.out.t
          have zq3 : ((m.f.toNat : Int) == (m.t.toNat : Int)) = false := beq_eq_false_iff_ne.2 HV.out.ne
          have zq4 : decide (cl < 1) = false := decide_eq_false (by have := HV.out.cl; rw [HCL.out] at this; omega)
          have zq5 : decide (3 < cl) = false := decide_eq_false (by have := HV.out.cl; rw [HCL.out] at this; omega)
          have zq6 : decide (g.c ≤ (m.c.toNat : Int)) = false := decide_eq_false HV.out.ac
          obtain ⟨cf, hcf⟩ : ∃ b, g.isCache m.f.toNat = b := ⟨_, rfl⟩
          obtain ⟨ct, hct⟩ : ∃ b, g.isCache m.t.toNat = b := ⟨_, rfl⟩
          have hft : (cf || ct) = true := by rw [← hcf, ← hct, Bool.or_eq_true]; exact HV.out.ft
          go_cut [75] (fun s75 wx => s75 = .bool false ∧ Hid (St [(bB, boxOf m, 25), (bA, g.arr, 39)] w wx))
          case first =>
            cases cf
            · obtain rfl : ct = true := hft
              refine region_all (D := [false, false, false, false, false, false, false, false, false, false, false, false, false, false, false, false, false, false, false, false, true, true, true, true, true, true, true, true, true, true, true, true, true, true, true, true, true, true, true, true, true, true, true, true, true, true, true, true, true, true, true, true, true, true, true, true, true, true, true, true, true, true, true, true, true, true, true, true, true, true, true, true, true, true, true, true]) (S := fun W => St [(bB, boxOf m, 25), (bA, g.arr, 39)] w W) (R := RB) (F := FF [isV (.agg g.arr), isV (.bool true), isV (.bool (!true)), isV (.bool (!true)), isV ((bif !(!true) then .pointer (some ⟨bB, 1, none⟩) else undef)), isV ((bif !(!true) then .int .u8 m.f.toNat else undef)), isV ((bif !(!true) then .int .i64 m.f.toNat else undef)), isV ((bif !(!true) then .agg g.arr else undef)), isV ((bif !(!true) then .int .i64 (g.nodes : Nat) else undef)), isV ((bif !(!true) then .bool false else undef)), isV (.bool ((!true) || false)), isV (.bool ((!true) || false)), isV ((bif !((!true) || false) then .pointer (some ⟨bB, 2, none⟩) else undef)), isV ((bif !((!true) || false) then .int .u8 m.t.toNat else undef)), isV ((bif !((!true) || false) then .int .i64 m.t.toNat else undef)), isV ((bif !((!true) || false) then .agg g.arr else undef)), isV ((bif !((!true) || false) then .int .i64 (g.nodes : Nat) else undef)), isV ((bif !((!true) || false) then .bool false else undef)), isV (.bool (((!true) || false) || false)), isV (.bool (((!true) || false) || false)), isV ((bif !(((!true) || false) || false) then .pointer (some ⟨bB, 1, none⟩) else undef)), isV ((bif !(((!true) || false) || false) then .int .u8 m.f.toNat else undef)), isV ((bif !(((!true) || false) || false) then .pointer (some ⟨bB, 2, none⟩) else undef)), isV ((bif !(((!true) || false) || false) then .int .u8 m.t.toNat else undef)), isV ((bif !(((!true) || false) || false) then .bool false else undef)), isV (.bool ((((!true) || false) || false) || false)), isV (.bool ((((!true) || false) || false) || false)), isV ((bif !((((!true) || false) || false) || false) then .agg g.arr else undef)), isV ((bif !((((!true) || false) || false) || false) then .pointer (some ⟨bB, 1, none⟩) else undef)), isV ((bif !((((!true) || false) || false) || false) then .int .u8 m.f.toNat else undef)), isV ((bif !((((!true) || false) || false) || false) then .bool false else undef)), isV ((bif !((((!true) || false) || false) || false) then .bool (!false) else undef)), isV ((bif !((((!true) || false) || false) || false) then .bool (!false) else undef)), isV ((bif (!((((!true) || false) || false) || false) && (!false)) then .agg g.arr else undef)), isV ((bif (!((((!true) || false) || false) || false) && (!false)) then .pointer (some ⟨bB, 2, none⟩) else undef)), isV ((bif (!((((!true) || false) || false) || false) && (!false)) then .int .u8 m.t.toNat else undef)), isV ((bif (!((((!true) || false) || false) || false) && (!false)) then .bool true else undef)), isV ((bif (!((((!true) || false) || false) || false) && (!false)) then .bool (!true) else undef)), isV ((bif !((((!true) || false) || false) || false) then .bool ((!false) && (!true)) else undef)), isV (.bool (((((!true) || false) || false) || false) || ((!false) && (!true)))), isV (.bool (((((!true) || false) || false) || false) || ((!false) && (!true)))), isV ((bif !(((((!true) || false) || false) || false) || ((!false) && (!true))) then .int .u8 cl else undef)), isV ((bif !(((((!true) || false) || false) || false) || ((!false) && (!true))) then .bool false else undef)), isV (.bool ((((((!true) || false) || false) || false) || ((!false) && (!true))) || false)), isV (.bool ((((((!true) || false) || false) || false) || ((!false) && (!true))) || false)), isV ((bif !((((((!true) || false) || false) || false) || ((!false) && (!true))) || false) then .int .u8 cl else undef)), isV ((bif !((((((!true) || false) || false) || false) || ((!false) && (!true))) || false) then .bool false else undef)), isV (.bool (((((((!true) || false) || false) || false) || ((!false) && (!true))) || false) || false)), isV (.bool (((((((!true) || false) || false) || false) || ((!false) && (!true))) || false) || false)), isV ((bif !(((((((!true) || false) || false) || false) || ((!false) && (!true))) || false) || false) then .pointer (some ⟨bB, 5, none⟩) else undef)), isV ((bif !(((((((!true) || false) || false) || false) || ((!false) && (!true))) || false) || false) then .int .u8 m.c.toNat else undef)), isV ((bif !(((((((!true) || false) || false) || false) || ((!false) && (!true))) || false) || false) then .int .i64 m.c.toNat else undef)), isV ((bif !(((((((!true) || false) || false) || false) || ((!false) && (!true))) || false) || false) then .pointer (some ⟨bA, 0, none⟩) else undef)), isV ((bif !(((((((!true) || false) || false) || false) || ((!false) && (!true))) || false) || false) then .int .i64 g.c else undef)), isV ((bif !(((((((!true) || false) || false) || false) || ((!false) && (!true))) || false) || false) then .bool false else undef)), isV (.bool ((((((((!true) || false) || false) || false) || ((!false) && (!true))) || false) || false) || false))]) rfl mo (by kernel_rfl) (FF_st _ _) HS3.out.drew (fun hN => ?_) (fun u W hS hF => ?_)
              · refine steps_cons ?_ ?_
                · intro u W hS hp
                  exact step_on (wanted_free rfl) (ext_val hS (run_ld rfl ((eval_out rfl).trans rfl) (ld39 (hS.h (bA, g.arr, 39) (by simp)))) rfl)
                refine steps_cons ?_ ?_
                · intro u W hS hp
                  obtain ⟨q0, _⟩ := hp
                  have p20 : u 20 = .agg g.arr := q0
                  exact step_on (wanted_free rfl) (ext_call (run_call rfl rfl (map1 ((eval_in rfl hN rfl).trans p20)) Tryd.func21 nm21 bd21) ((gright_any g W).mono fun _ _ ⟨e, h⟩ => ⟨_, e.trans (congrArg (fun x => Ending.returned (Value.bool x)) hgok), rfl, hS.next h, h⟩))
                refine steps_cons ?_ ?_
                · intro u W hS hp
                  obtain ⟨q0, _⟩ := hp
                  have p21 : u 21 = .bool true := q0
                  exact step_on (wanted_free rfl) (ext_val hS (run_un rfl ((eval_in rfl hN rfl).trans p21) rfl) rfl)
                refine steps_cons ?_ ?_
                · intro u W hS hp
                  obtain ⟨q0, q1, _⟩ := hp
                  have p22 : u 22 = .bool (!true) := q0
                  exact step_on (wanted_free rfl) (ext_val hS (run_mv rfl ((eval_in rfl hN rfl).trans p22)) rfl)
                refine steps_cons ?_ ?_
                · intro u W hS hp
                  obtain ⟨q0, _⟩ := hp
                  have p23 : u 23 = .bool (!true) := q0
                  first | exact step_off (wanted_off rfl rfl rfl hN rfl p23) rfl | exact step_off (wanted_undef rfl rfl rfl hN rfl p23) rfl | exact step_on (wanted_on rfl rfl rfl hN rfl p23) (ext_val hS (run_fa rfl ((eval_out rfl).trans rfl) (fa25_1 bB)) rfl)
                refine steps_cons ?_ ?_
                · intro u W hS hp
                  obtain ⟨q0, q1, _⟩ := hp
                  have p24 : u 24 = (bif !(!true) then .pointer (some ⟨bB, 1, none⟩) else undef) := q0
                  have p23 : u 23 = .bool (!true) := q1
                  first | exact step_off (wanted_off rfl rfl rfl hN rfl p23) rfl | exact step_off (wanted_undef rfl rfl rfl hN rfl p23) rfl | exact step_on (wanted_on rfl rfl rfl hN rfl p23) (ext_val hS (run_ld rfl ((eval_in rfl hN rfl).trans p24) (ld_u8 ((cell_of_heap (hS.h (bB, boxOf m, 25) (by simp))).trans (rfl : (boxOf m)[1]? = some _)))) rfl)
                refine steps_cons ?_ ?_
                · intro u W hS hp
                  obtain ⟨q0, q1, _⟩ := hp
                  have p25 : u 25 = (bif !(!true) then .int .u8 m.f.toNat else undef) := q0
                  have p23 : u 23 = .bool (!true) := q1
                  first | exact step_off (wanted_off rfl rfl rfl hN rfl p23) rfl | exact step_off (wanted_undef rfl rfl rfl hN rfl p23) rfl | exact step_on (wanted_on rfl rfl rfl hN rfl p23) (ext_val hS (run_conv rfl ((eval_in rfl hN rfl).trans p25) (conv53 (by omega) (by have := m.f.toNat_lt; omega))) rfl)
                refine steps_cons ?_ ?_
                · intro u W hS hp
                  obtain ⟨q0, _⟩ := hp
                  have p23 : u 23 = .bool (!true) := q0
                  first | exact step_off (wanted_off rfl rfl rfl hN rfl p23) rfl | exact step_off (wanted_undef rfl rfl rfl hN rfl p23) rfl | exact step_on (wanted_on rfl rfl rfl hN rfl p23) (ext_val hS (run_ld rfl ((eval_out rfl).trans rfl) (ld39 (hS.h (bA, g.arr, 39) (by simp)))) rfl)
                refine steps_cons ?_ ?_
                · intro u W hS hp
                  obtain ⟨q0, q1, q2, _⟩ := hp
                  have p27 : u 27 = (bif !(!true) then .agg g.arr else undef) := q0
                  have p23 : u 23 = .bool (!true) := q1
                  first | exact step_off (wanted_off rfl rfl rfl hN rfl p23) rfl | exact step_off (wanted_undef rfl rfl rfl hN rfl p23) rfl | exact step_on (wanted_on rfl rfl rfl hN rfl p23) (ext_call (run_call rfl rfl (map1 ((eval_in rfl hN rfl).trans p27)) Tryd.func22 nm22 bd22) ((gnodes_any g W).mono fun _ _ ⟨e, h⟩ => ⟨_, e, rfl, hS.next h, h⟩))
                refine steps_cons ?_ ?_
                · intro u W hS hp
                  obtain ⟨q0, q1, q2, _⟩ := hp
                  have p26 : u 26 = (bif !(!true) then .int .i64 m.f.toNat else undef) := q0
                  have p28 : u 28 = (bif !(!true) then .int .i64 (g.nodes : Nat) else undef) := q1
                  have p23 : u 23 = .bool (!true) := q2
                  first | exact step_off (wanted_off rfl rfl rfl hN rfl p23) rfl | exact step_off (wanted_undef rfl rfl rfl hN rfl p23) rfl | exact step_on (wanted_on rfl rfl rfl hN rfl p23) (ext_val hS (run_bin rfl ((eval_in rfl hN rfl).trans p26) ((eval_in rfl hN rfl).trans p28) rfl (i_geq zq1)) rfl)
                refine steps_cons ?_ ?_
                · intro u W hS hp
                  obtain ⟨q0, q1, _⟩ := hp
                  have p23 : u 23 = .bool (!true) := q0
                  have p29 : u 29 = (bif !(!true) then .bool false else undef) := q1
                  first | (first | exact step_on (wanted_free rfl) (ext_val hS (run_pickT rfl ((eval_in rfl hN rfl).trans p23) rfl) rfl) | exact step_on (wanted_free rfl) (ext_val hS (run_pickF rfl ((eval_in rfl hN rfl).trans p23) ((eval_in rfl hN rfl).trans p29)) rfl))
                refine steps_cons ?_ ?_
                · intro u W hS hp
                  obtain ⟨q0, q1, _⟩ := hp
                  have p30 : u 30 = .bool ((!true) || false) := q0
                  exact step_on (wanted_free rfl) (ext_val hS (run_mv rfl ((eval_in rfl hN rfl).trans p30)) rfl)
                refine steps_cons ?_ ?_
                · intro u W hS hp
                  obtain ⟨q0, _⟩ := hp
                  have p31 : u 31 = .bool ((!true) || false) := q0
                  first | exact step_off (wanted_off rfl rfl rfl hN rfl p31) rfl | exact step_off (wanted_undef rfl rfl rfl hN rfl p31) rfl | exact step_on (wanted_on rfl rfl rfl hN rfl p31) (ext_val hS (run_fa rfl ((eval_out rfl).trans rfl) (fa25_2 bB)) rfl)
                refine steps_cons ?_ ?_
                · intro u W hS hp
                  obtain ⟨q0, q1, _⟩ := hp
                  have p32 : u 32 = (bif !((!true) || false) then .pointer (some ⟨bB, 2, none⟩) else undef) := q0
                  have p31 : u 31 = .bool ((!true) || false) := q1
                  first | exact step_off (wanted_off rfl rfl rfl hN rfl p31) rfl | exact step_off (wanted_undef rfl rfl rfl hN rfl p31) rfl | exact step_on (wanted_on rfl rfl rfl hN rfl p31) (ext_val hS (run_ld rfl ((eval_in rfl hN rfl).trans p32) (ld_u8 ((cell_of_heap (hS.h (bB, boxOf m, 25) (by simp))).trans (rfl : (boxOf m)[2]? = some _)))) rfl)
                refine steps_cons ?_ ?_
                · intro u W hS hp
                  obtain ⟨q0, q1, _⟩ := hp
                  have p33 : u 33 = (bif !((!true) || false) then .int .u8 m.t.toNat else undef) := q0
                  have p31 : u 31 = .bool ((!true) || false) := q1
                  first | exact step_off (wanted_off rfl rfl rfl hN rfl p31) rfl | exact step_off (wanted_undef rfl rfl rfl hN rfl p31) rfl | exact step_on (wanted_on rfl rfl rfl hN rfl p31) (ext_val hS (run_conv rfl ((eval_in rfl hN rfl).trans p33) (conv53 (by omega) (by have := m.t.toNat_lt; omega))) rfl)
                refine steps_cons ?_ ?_
                · intro u W hS hp
                  obtain ⟨q0, _⟩ := hp
                  have p31 : u 31 = .bool ((!true) || false) := q0
                  first | exact step_off (wanted_off rfl rfl rfl hN rfl p31) rfl | exact step_off (wanted_undef rfl rfl rfl hN rfl p31) rfl | exact step_on (wanted_on rfl rfl rfl hN rfl p31) (ext_val hS (run_ld rfl ((eval_out rfl).trans rfl) (ld39 (hS.h (bA, g.arr, 39) (by simp)))) rfl)
                refine steps_cons ?_ ?_
                · intro u W hS hp
                  obtain ⟨q0, q1, q2, _⟩ := hp
                  have p35 : u 35 = (bif !((!true) || false) then .agg g.arr else undef) := q0
                  have p31 : u 31 = .bool ((!true) || false) := q1
                  first | exact step_off (wanted_off rfl rfl rfl hN rfl p31) rfl | exact step_off (wanted_undef rfl rfl rfl hN rfl p31) rfl | exact step_on (wanted_on rfl rfl rfl hN rfl p31) (ext_call (run_call rfl rfl (map1 ((eval_in rfl hN rfl).trans p35)) Tryd.func22 nm22 bd22) ((gnodes_any g W).mono fun _ _ ⟨e, h⟩ => ⟨_, e, rfl, hS.next h, h⟩))
                refine steps_cons ?_ ?_
                · intro u W hS hp
                  obtain ⟨q0, q1, q2, _⟩ := hp
                  have p34 : u 34 = (bif !((!true) || false) then .int .i64 m.t.toNat else undef) := q0
                  have p36 : u 36 = (bif !((!true) || false) then .int .i64 (g.nodes : Nat) else undef) := q1
                  have p31 : u 31 = .bool ((!true) || false) := q2
                  first | exact step_off (wanted_off rfl rfl rfl hN rfl p31) rfl | exact step_off (wanted_undef rfl rfl rfl hN rfl p31) rfl | exact step_on (wanted_on rfl rfl rfl hN rfl p31) (ext_val hS (run_bin rfl ((eval_in rfl hN rfl).trans p34) ((eval_in rfl hN rfl).trans p36) rfl (i_geq zq2)) rfl)
                refine steps_cons ?_ ?_
                · intro u W hS hp
                  obtain ⟨q0, q1, _⟩ := hp
                  have p31 : u 31 = .bool ((!true) || false) := q0
                  have p37 : u 37 = (bif !((!true) || false) then .bool false else undef) := q1
                  first | (first | exact step_on (wanted_free rfl) (ext_val hS (run_pickT rfl ((eval_in rfl hN rfl).trans p31) rfl) rfl) | exact step_on (wanted_free rfl) (ext_val hS (run_pickF rfl ((eval_in rfl hN rfl).trans p31) ((eval_in rfl hN rfl).trans p37)) rfl))
                refine steps_cons ?_ ?_
                · intro u W hS hp
                  obtain ⟨q0, q1, _⟩ := hp
                  have p38 : u 38 = .bool (((!true) || false) || false) := q0
                  exact step_on (wanted_free rfl) (ext_val hS (run_mv rfl ((eval_in rfl hN rfl).trans p38)) rfl)
                refine steps_cons ?_ ?_
                · intro u W hS hp
                  obtain ⟨q0, _⟩ := hp
                  have p39 : u 39 = .bool (((!true) || false) || false) := q0
                  first | exact step_off (wanted_off rfl rfl rfl hN rfl p39) rfl | exact step_off (wanted_undef rfl rfl rfl hN rfl p39) rfl | exact step_on (wanted_on rfl rfl rfl hN rfl p39) (ext_val hS (run_fa rfl ((eval_out rfl).trans rfl) (fa25_1 bB)) rfl)
                refine steps_cons ?_ ?_
                · intro u W hS hp
                  obtain ⟨q0, q1, _⟩ := hp
                  have p40 : u 40 = (bif !(((!true) || false) || false) then .pointer (some ⟨bB, 1, none⟩) else undef) := q0
                  have p39 : u 39 = .bool (((!true) || false) || false) := q1
                  first | exact step_off (wanted_off rfl rfl rfl hN rfl p39) rfl | exact step_off (wanted_undef rfl rfl rfl hN rfl p39) rfl | exact step_on (wanted_on rfl rfl rfl hN rfl p39) (ext_val hS (run_ld rfl ((eval_in rfl hN rfl).trans p40) (ld_u8 ((cell_of_heap (hS.h (bB, boxOf m, 25) (by simp))).trans (rfl : (boxOf m)[1]? = some _)))) rfl)
                refine steps_cons ?_ ?_
                · intro u W hS hp
                  obtain ⟨q0, _⟩ := hp
                  have p39 : u 39 = .bool (((!true) || false) || false) := q0
                  first | exact step_off (wanted_off rfl rfl rfl hN rfl p39) rfl | exact step_off (wanted_undef rfl rfl rfl hN rfl p39) rfl | exact step_on (wanted_on rfl rfl rfl hN rfl p39) (ext_val hS (run_fa rfl ((eval_out rfl).trans rfl) (fa25_2 bB)) rfl)
                refine steps_cons ?_ ?_
                · intro u W hS hp
                  obtain ⟨q0, q1, _⟩ := hp
                  have p42 : u 42 = (bif !(((!true) || false) || false) then .pointer (some ⟨bB, 2, none⟩) else undef) := q0
                  have p39 : u 39 = .bool (((!true) || false) || false) := q1
                  first | exact step_off (wanted_off rfl rfl rfl hN rfl p39) rfl | exact step_off (wanted_undef rfl rfl rfl hN rfl p39) rfl | exact step_on (wanted_on rfl rfl rfl hN rfl p39) (ext_val hS (run_ld rfl ((eval_in rfl hN rfl).trans p42) (ld_u8 ((cell_of_heap (hS.h (bB, boxOf m, 25) (by simp))).trans (rfl : (boxOf m)[2]? = some _)))) rfl)
                refine steps_cons ?_ ?_
                · intro u W hS hp
                  obtain ⟨q0, q1, q2, _⟩ := hp
                  have p41 : u 41 = (bif !(((!true) || false) || false) then .int .u8 m.f.toNat else undef) := q0
                  have p43 : u 43 = (bif !(((!true) || false) || false) then .int .u8 m.t.toNat else undef) := q1
                  have p39 : u 39 = .bool (((!true) || false) || false) := q2
                  first | exact step_off (wanted_off rfl rfl rfl hN rfl p39) rfl | exact step_off (wanted_undef rfl rfl rfl hN rfl p39) rfl | exact step_on (wanted_on rfl rfl rfl hN rfl p39) (ext_val hS (run_bin rfl ((eval_in rfl hN rfl).trans p41) ((eval_in rfl hN rfl).trans p43) rfl (i_eql zq3)) rfl)
                refine steps_cons ?_ ?_
                · intro u W hS hp
                  obtain ⟨q0, q1, _⟩ := hp
                  have p39 : u 39 = .bool (((!true) || false) || false) := q0
                  have p44 : u 44 = (bif !(((!true) || false) || false) then .bool false else undef) := q1
                  first | (first | exact step_on (wanted_free rfl) (ext_val hS (run_pickT rfl ((eval_in rfl hN rfl).trans p39) rfl) rfl) | exact step_on (wanted_free rfl) (ext_val hS (run_pickF rfl ((eval_in rfl hN rfl).trans p39) ((eval_in rfl hN rfl).trans p44)) rfl))
                refine steps_cons ?_ ?_
                · intro u W hS hp
                  obtain ⟨q0, q1, _⟩ := hp
                  have p45 : u 45 = .bool ((((!true) || false) || false) || false) := q0
                  exact step_on (wanted_free rfl) (ext_val hS (run_mv rfl ((eval_in rfl hN rfl).trans p45)) rfl)
                refine steps_cons ?_ ?_
                · intro u W hS hp
                  obtain ⟨q0, _⟩ := hp
                  have p46 : u 46 = .bool ((((!true) || false) || false) || false) := q0
                  first | exact step_off (wanted_off rfl rfl rfl hN rfl p46) rfl | exact step_off (wanted_undef rfl rfl rfl hN rfl p46) rfl | exact step_on (wanted_on rfl rfl rfl hN rfl p46) (ext_val hS (run_ld rfl ((eval_out rfl).trans rfl) (ld39 (hS.h (bA, g.arr, 39) (by simp)))) rfl)
                refine steps_cons ?_ ?_
                · intro u W hS hp
                  obtain ⟨q0, _⟩ := hp
                  have p46 : u 46 = .bool ((((!true) || false) || false) || false) := q0
                  first | exact step_off (wanted_off rfl rfl rfl hN rfl p46) rfl | exact step_off (wanted_undef rfl rfl rfl hN rfl p46) rfl | exact step_on (wanted_on rfl rfl rfl hN rfl p46) (ext_val hS (run_fa rfl ((eval_out rfl).trans rfl) (fa25_1 bB)) rfl)
                refine steps_cons ?_ ?_
                · intro u W hS hp
                  obtain ⟨q0, q1, _⟩ := hp
                  have p48 : u 48 = (bif !((((!true) || false) || false) || false) then .pointer (some ⟨bB, 1, none⟩) else undef) := q0
                  have p46 : u 46 = .bool ((((!true) || false) || false) || false) := q1
                  first | exact step_off (wanted_off rfl rfl rfl hN rfl p46) rfl | exact step_off (wanted_undef rfl rfl rfl hN rfl p46) rfl | exact step_on (wanted_on rfl rfl rfl hN rfl p46) (ext_val hS (run_ld rfl ((eval_in rfl hN rfl).trans p48) (ld_u8 ((cell_of_heap (hS.h (bB, boxOf m, 25) (by simp))).trans (rfl : (boxOf m)[1]? = some _)))) rfl)
                refine steps_cons ?_ ?_
                · intro u W hS hp
                  obtain ⟨q0, q1, q2, q3, _⟩ := hp
                  have p47 : u 47 = (bif !((((!true) || false) || false) || false) then .agg g.arr else undef) := q0
                  have p49 : u 49 = (bif !((((!true) || false) || false) || false) then .int .u8 m.f.toNat else undef) := q1
                  have p46 : u 46 = .bool ((((!true) || false) || false) || false) := q2
                  first | exact step_off (wanted_off rfl rfl rfl hN rfl p46) rfl | exact step_off (wanted_undef rfl rfl rfl hN rfl p46) rfl | exact step_on (wanted_on rfl rfl rfl hN rfl p46) (ext_call (run_call rfl rfl (map2 ((eval_in rfl hN rfl).trans p47) ((eval_in rfl hN rfl).trans p49)) Tryd.func23 nm23 bd23) ((iscache_any g m.f.toNat m.f.toNat_lt W).mono fun _ _ ⟨e, h⟩ => ⟨_, e.trans (congrArg (fun x => Ending.returned (Value.bool x)) hcf), rfl, hS.next h, h⟩))
                refine steps_cons ?_ ?_
                · intro u W hS hp
                  obtain ⟨q0, q1, _⟩ := hp
                  have p50 : u 50 = (bif !((((!true) || false) || false) || false) then .bool false else undef) := q0
                  have p46 : u 46 = .bool ((((!true) || false) || false) || false) := q1
                  first | exact step_off (wanted_off rfl rfl rfl hN rfl p46) rfl | exact step_off (wanted_undef rfl rfl rfl hN rfl p46) rfl | exact step_on (wanted_on rfl rfl rfl hN rfl p46) (ext_val hS (run_un rfl ((eval_in rfl hN rfl).trans p50) rfl) rfl)
                refine steps_cons ?_ ?_
                · intro u W hS hp
                  obtain ⟨q0, q1, q2, _⟩ := hp
                  have p51 : u 51 = (bif !((((!true) || false) || false) || false) then .bool (!false) else undef) := q0
                  have p46 : u 46 = .bool ((((!true) || false) || false) || false) := q2
                  first | exact step_off (wanted_off rfl rfl rfl hN rfl p46) rfl | exact step_off (wanted_undef rfl rfl rfl hN rfl p46) rfl | exact step_on (wanted_on rfl rfl rfl hN rfl p46) (ext_val hS (run_mv rfl ((eval_in rfl hN rfl).trans p51)) rfl)
                refine steps_cons ?_ ?_
                · intro u W hS hp
                  obtain ⟨q0, _⟩ := hp
                  have p52 : u 52 = (bif !((((!true) || false) || false) || false) then .bool (!false) else undef) := q0
                  first | exact step_off (wanted_off rfl rfl rfl hN rfl p52) rfl | exact step_off (wanted_undef rfl rfl rfl hN rfl p52) rfl | exact step_on (wanted_on rfl rfl rfl hN rfl p52) (ext_val hS (run_ld rfl ((eval_out rfl).trans rfl) (ld39 (hS.h (bA, g.arr, 39) (by simp)))) rfl)
                refine steps_cons ?_ ?_
                · intro u W hS hp
                  obtain ⟨q0, _⟩ := hp
                  have p52 : u 52 = (bif !((((!true) || false) || false) || false) then .bool (!false) else undef) := q0
                  first | exact step_off (wanted_off rfl rfl rfl hN rfl p52) rfl | exact step_off (wanted_undef rfl rfl rfl hN rfl p52) rfl | exact step_on (wanted_on rfl rfl rfl hN rfl p52) (ext_val hS (run_fa rfl ((eval_out rfl).trans rfl) (fa25_2 bB)) rfl)
                refine steps_cons ?_ ?_
                · intro u W hS hp
                  obtain ⟨q0, q1, _⟩ := hp
                  have p54 : u 54 = (bif (!((((!true) || false) || false) || false) && (!false)) then .pointer (some ⟨bB, 2, none⟩) else undef) := q0
                  have p52 : u 52 = (bif !((((!true) || false) || false) || false) then .bool (!false) else undef) := q1
                  first | exact step_off (wanted_off rfl rfl rfl hN rfl p52) rfl | exact step_off (wanted_undef rfl rfl rfl hN rfl p52) rfl | exact step_on (wanted_on rfl rfl rfl hN rfl p52) (ext_val hS (run_ld rfl ((eval_in rfl hN rfl).trans p54) (ld_u8 ((cell_of_heap (hS.h (bB, boxOf m, 25) (by simp))).trans (rfl : (boxOf m)[2]? = some _)))) rfl)
                refine steps_cons ?_ ?_
                · intro u W hS hp
                  obtain ⟨q0, q1, q2, q3, _⟩ := hp
                  have p53 : u 53 = (bif (!((((!true) || false) || false) || false) && (!false)) then .agg g.arr else undef) := q0
                  have p55 : u 55 = (bif (!((((!true) || false) || false) || false) && (!false)) then .int .u8 m.t.toNat else undef) := q1
                  have p52 : u 52 = (bif !((((!true) || false) || false) || false) then .bool (!false) else undef) := q2
                  first | exact step_off (wanted_off rfl rfl rfl hN rfl p52) rfl | exact step_off (wanted_undef rfl rfl rfl hN rfl p52) rfl | exact step_on (wanted_on rfl rfl rfl hN rfl p52) (ext_call (run_call rfl rfl (map2 ((eval_in rfl hN rfl).trans p53) ((eval_in rfl hN rfl).trans p55)) Tryd.func23 nm23 bd23) ((iscache_any g m.t.toNat m.t.toNat_lt W).mono fun _ _ ⟨e, h⟩ => ⟨_, e.trans (congrArg (fun x => Ending.returned (Value.bool x)) hct), rfl, hS.next h, h⟩))
                refine steps_cons ?_ ?_
                · intro u W hS hp
                  obtain ⟨q0, q1, _⟩ := hp
                  have p56 : u 56 = (bif (!((((!true) || false) || false) || false) && (!false)) then .bool true else undef) := q0
                  have p52 : u 52 = (bif !((((!true) || false) || false) || false) then .bool (!false) else undef) := q1
                  first | exact step_off (wanted_off rfl rfl rfl hN rfl p52) rfl | exact step_off (wanted_undef rfl rfl rfl hN rfl p52) rfl | exact step_on (wanted_on rfl rfl rfl hN rfl p52) (ext_val hS (run_un rfl ((eval_in rfl hN rfl).trans p56) rfl) rfl)
                refine steps_cons ?_ ?_
                · intro u W hS hp
                  obtain ⟨q0, q1, q2, _⟩ := hp
                  have p52 : u 52 = (bif !((((!true) || false) || false) || false) then .bool (!false) else undef) := q0
                  have p57 : u 57 = (bif (!((((!true) || false) || false) || false) && (!false)) then .bool (!true) else undef) := q1
                  have p46 : u 46 = .bool ((((!true) || false) || false) || false) := q2
                  first | exact step_off (wanted_off rfl rfl rfl hN rfl p46) rfl | exact step_off (wanted_undef rfl rfl rfl hN rfl p46) rfl | (first | exact step_on (wanted_on rfl rfl rfl hN rfl p46) (ext_val hS (run_pickT rfl ((eval_in rfl hN rfl).trans p52) ((eval_in rfl hN rfl).trans p57)) rfl) | exact step_on (wanted_on rfl rfl rfl hN rfl p46) (ext_val hS (run_pickF rfl ((eval_in rfl hN rfl).trans p52) rfl) rfl))
                refine steps_cons ?_ ?_
                · intro u W hS hp
                  obtain ⟨q0, q1, _⟩ := hp
                  have p46 : u 46 = .bool ((((!true) || false) || false) || false) := q0
                  have p58 : u 58 = (bif !((((!true) || false) || false) || false) then .bool ((!false) && (!true)) else undef) := q1
                  first | (first | exact step_on (wanted_free rfl) (ext_val hS (run_pickT rfl ((eval_in rfl hN rfl).trans p46) rfl) rfl) | exact step_on (wanted_free rfl) (ext_val hS (run_pickF rfl ((eval_in rfl hN rfl).trans p46) ((eval_in rfl hN rfl).trans p58)) rfl))
                refine steps_cons ?_ ?_
                · intro u W hS hp
                  obtain ⟨q0, q1, _⟩ := hp
                  have p59 : u 59 = .bool (((((!true) || false) || false) || false) || ((!false) && (!true))) := q0
                  exact step_on (wanted_free rfl) (ext_val hS (run_mv rfl ((eval_in rfl hN rfl).trans p59)) rfl)
                refine steps_cons ?_ ?_
                · intro u W hS hp
                  obtain ⟨q0, _⟩ := hp
                  have p60 : u 60 = .bool (((((!true) || false) || false) || false) || ((!false) && (!true))) := q0
                  first | exact step_off (wanted_off rfl rfl rfl hN rfl p60) rfl | exact step_off (wanted_undef rfl rfl rfl hN rfl p60) rfl | exact step_on (wanted_on rfl rfl rfl hN rfl p60) (ext_val hS (run_mv rfl ((eval_out rfl).trans rfl)) rfl)
                refine steps_cons ?_ ?_
                · intro u W hS hp
                  obtain ⟨q0, q1, _⟩ := hp
                  have p61 : u 61 = (bif !(((((!true) || false) || false) || false) || ((!false) && (!true))) then .int .u8 cl else undef) := q0
                  have p60 : u 60 = .bool (((((!true) || false) || false) || false) || ((!false) && (!true))) := q1
                  first | exact step_off (wanted_off rfl rfl rfl hN rfl p60) rfl | exact step_off (wanted_undef rfl rfl rfl hN rfl p60) rfl | exact step_on (wanted_on rfl rfl rfl hN rfl p60) (ext_val hS (run_bin rfl ((eval_in rfl hN rfl).trans p61) rfl rfl (i_lss zq4)) rfl)
                refine steps_cons ?_ ?_
                · intro u W hS hp
                  obtain ⟨q0, q1, _⟩ := hp
                  have p60 : u 60 = .bool (((((!true) || false) || false) || false) || ((!false) && (!true))) := q0
                  have p62 : u 62 = (bif !(((((!true) || false) || false) || false) || ((!false) && (!true))) then .bool false else undef) := q1
                  first | (first | exact step_on (wanted_free rfl) (ext_val hS (run_pickT rfl ((eval_in rfl hN rfl).trans p60) rfl) rfl) | exact step_on (wanted_free rfl) (ext_val hS (run_pickF rfl ((eval_in rfl hN rfl).trans p60) ((eval_in rfl hN rfl).trans p62)) rfl))
                refine steps_cons ?_ ?_
                · intro u W hS hp
                  obtain ⟨q0, q1, _⟩ := hp
                  have p63 : u 63 = .bool ((((((!true) || false) || false) || false) || ((!false) && (!true))) || false) := q0
                  exact step_on (wanted_free rfl) (ext_val hS (run_mv rfl ((eval_in rfl hN rfl).trans p63)) rfl)
                refine steps_cons ?_ ?_
                · intro u W hS hp
                  obtain ⟨q0, _⟩ := hp
                  have p64 : u 64 = .bool ((((((!true) || false) || false) || false) || ((!false) && (!true))) || false) := q0
                  first | exact step_off (wanted_off rfl rfl rfl hN rfl p64) rfl | exact step_off (wanted_undef rfl rfl rfl hN rfl p64) rfl | exact step_on (wanted_on rfl rfl rfl hN rfl p64) (ext_val hS (run_mv rfl ((eval_out rfl).trans rfl)) rfl)
                refine steps_cons ?_ ?_
                · intro u W hS hp
                  obtain ⟨q0, q1, _⟩ := hp
                  have p65 : u 65 = (bif !((((((!true) || false) || false) || false) || ((!false) && (!true))) || false) then .int .u8 cl else undef) := q0
                  have p64 : u 64 = .bool ((((((!true) || false) || false) || false) || ((!false) && (!true))) || false) := q1
                  first | exact step_off (wanted_off rfl rfl rfl hN rfl p64) rfl | exact step_off (wanted_undef rfl rfl rfl hN rfl p64) rfl | exact step_on (wanted_on rfl rfl rfl hN rfl p64) (ext_val hS (run_bin rfl ((eval_in rfl hN rfl).trans p65) rfl rfl (i_gtr zq5)) rfl)
                refine steps_cons ?_ ?_
                · intro u W hS hp
                  obtain ⟨q0, q1, _⟩ := hp
                  have p64 : u 64 = .bool ((((((!true) || false) || false) || false) || ((!false) && (!true))) || false) := q0
                  have p66 : u 66 = (bif !((((((!true) || false) || false) || false) || ((!false) && (!true))) || false) then .bool false else undef) := q1
                  first | (first | exact step_on (wanted_free rfl) (ext_val hS (run_pickT rfl ((eval_in rfl hN rfl).trans p64) rfl) rfl) | exact step_on (wanted_free rfl) (ext_val hS (run_pickF rfl ((eval_in rfl hN rfl).trans p64) ((eval_in rfl hN rfl).trans p66)) rfl))
                refine steps_cons ?_ ?_
                · intro u W hS hp
                  obtain ⟨q0, q1, _⟩ := hp
                  have p67 : u 67 = .bool (((((((!true) || false) || false) || false) || ((!false) && (!true))) || false) || false) := q0
                  exact step_on (wanted_free rfl) (ext_val hS (run_mv rfl ((eval_in rfl hN rfl).trans p67)) rfl)
                refine steps_cons ?_ ?_
                · intro u W hS hp
                  obtain ⟨q0, _⟩ := hp
                  have p68 : u 68 = .bool (((((((!true) || false) || false) || false) || ((!false) && (!true))) || false) || false) := q0
                  first | exact step_off (wanted_off rfl rfl rfl hN rfl p68) rfl | exact step_off (wanted_undef rfl rfl rfl hN rfl p68) rfl | exact step_on (wanted_on rfl rfl rfl hN rfl p68) (ext_val hS (run_fa rfl ((eval_out rfl).trans rfl) (fa25_5 bB)) rfl)
                refine steps_cons ?_ ?_
                · intro u W hS hp
                  obtain ⟨q0, q1, _⟩ := hp
                  have p69 : u 69 = (bif !(((((((!true) || false) || false) || false) || ((!false) && (!true))) || false) || false) then .pointer (some ⟨bB, 5, none⟩) else undef) := q0
                  have p68 : u 68 = .bool (((((((!true) || false) || false) || false) || ((!false) && (!true))) || false) || false) := q1
                  first | exact step_off (wanted_off rfl rfl rfl hN rfl p68) rfl | exact step_off (wanted_undef rfl rfl rfl hN rfl p68) rfl | exact step_on (wanted_on rfl rfl rfl hN rfl p68) (ext_val hS (run_ld rfl ((eval_in rfl hN rfl).trans p69) (ld_u8 ((cell_of_heap (hS.h (bB, boxOf m, 25) (by simp))).trans (rfl : (boxOf m)[5]? = some _)))) rfl)
                refine steps_cons ?_ ?_
                · intro u W hS hp
                  obtain ⟨q0, q1, _⟩ := hp
                  have p70 : u 70 = (bif !(((((((!true) || false) || false) || false) || ((!false) && (!true))) || false) || false) then .int .u8 m.c.toNat else undef) := q0
                  have p68 : u 68 = .bool (((((((!true) || false) || false) || false) || ((!false) && (!true))) || false) || false) := q1
                  first | exact step_off (wanted_off rfl rfl rfl hN rfl p68) rfl | exact step_off (wanted_undef rfl rfl rfl hN rfl p68) rfl | exact step_on (wanted_on rfl rfl rfl hN rfl p68) (ext_val hS (run_conv rfl ((eval_in rfl hN rfl).trans p70) (conv53 (by omega) (by have := m.c.toNat_lt; omega))) rfl)
                refine steps_cons ?_ ?_
                · intro u W hS hp
                  obtain ⟨q0, _⟩ := hp
                  have p68 : u 68 = .bool (((((((!true) || false) || false) || false) || ((!false) && (!true))) || false) || false) := q0
                  first | exact step_off (wanted_off rfl rfl rfl hN rfl p68) rfl | exact step_off (wanted_undef rfl rfl rfl hN rfl p68) rfl | exact step_on (wanted_on rfl rfl rfl hN rfl p68) (ext_val hS (run_fa rfl ((eval_out rfl).trans rfl) (fa39_0 bA W)) rfl)
                refine steps_cons ?_ ?_
                · intro u W hS hp
                  obtain ⟨q0, q1, _⟩ := hp
                  have p72 : u 72 = (bif !(((((((!true) || false) || false) || false) || ((!false) && (!true))) || false) || false) then .pointer (some ⟨bA, 0, none⟩) else undef) := q0
                  have p68 : u 68 = .bool (((((((!true) || false) || false) || false) || ((!false) && (!true))) || false) || false) := q1
                  first | exact step_off (wanted_off rfl rfl rfl hN rfl p68) rfl | exact step_off (wanted_undef rfl rfl rfl hN rfl p68) rfl | exact step_on (wanted_on rfl rfl rfl hN rfl p68) (ext_val hS (run_ld rfl ((eval_in rfl hN rfl).trans p72) (ld_int ((cell_of_heap (hS.h (bA, g.arr, 39) (by simp))).trans (rfl : g.arr[0]? = some _)))) rfl)
                refine steps_cons ?_ ?_
                · intro u W hS hp
                  obtain ⟨q0, q1, q2, _⟩ := hp
                  have p71 : u 71 = (bif !(((((((!true) || false) || false) || false) || ((!false) && (!true))) || false) || false) then .int .i64 m.c.toNat else undef) := q0
                  have p73 : u 73 = (bif !(((((((!true) || false) || false) || false) || ((!false) && (!true))) || false) || false) then .int .i64 g.c else undef) := q1
                  have p68 : u 68 = .bool (((((((!true) || false) || false) || false) || ((!false) && (!true))) || false) || false) := q2
                  first | exact step_off (wanted_off rfl rfl rfl hN rfl p68) rfl | exact step_off (wanted_undef rfl rfl rfl hN rfl p68) rfl | exact step_on (wanted_on rfl rfl rfl hN rfl p68) (ext_val hS (run_bin rfl ((eval_in rfl hN rfl).trans p71) ((eval_in rfl hN rfl).trans p73) rfl (i_geq zq6)) rfl)
                refine steps_cons ?_ ?_
                · intro u W hS hp
                  obtain ⟨q0, q1, _⟩ := hp
                  have p68 : u 68 = .bool (((((((!true) || false) || false) || false) || ((!false) && (!true))) || false) || false) := q0
                  have p74 : u 74 = (bif !(((((((!true) || false) || false) || false) || ((!false) && (!true))) || false) || false) then .bool false else undef) := q1
                  first | (first | exact step_on (wanted_free rfl) (ext_val hS (run_pickT rfl ((eval_in rfl hN rfl).trans p68) rfl) rfl) | exact step_on (wanted_free rfl) (ext_val hS (run_pickF rfl ((eval_in rfl hN rfl).trans p68) ((eval_in rfl hN rfl).trans p74)) rfl))
                exact steps_nil
              · obtain ⟨_, _, _, _, _, _, _, _, _, _, _, _, _, _, _, _, _, _, _, _, _, _, _, _, _, _, _, _, _, _, _, _, _, _, _, _, _, _, _, _, _, _, _, _, _, _, _, _, _, _, _, _, _, _, _, q55, _⟩ := hF
                have p75 : u 75 = .bool ((((((((!true) || false) || false) || false) || ((!false) && (!true))) || false) || false) || false) := q55
                simp only [frm, frmL, Nat.reduceAdd, p75]
                clear p75
                go_wp2_with fail
                go_meet
                exact ⟨rfl, Lib.hid hS⟩
            · clear hft
              refine region_all (D := [false, false, false, false, false, false, false, false, false, false, false, false, false, false, false, false, false, false, false, false, true, true, true, true, true, true, true, true, true, true, true, true, true, true, true, true, true, true, true, true, true, true, true, true, true, true, true, true, true, true, true, true, true, true, true, true, true, true, true, true, true, true, true, true, true, true, true, true, true, true, true, true, true, true, true, true]) (S := fun W => St [(bB, boxOf m, 25), (bA, g.arr, 39)] w W) (R := RB) (F := FF [isV (.agg g.arr), isV (.bool true), isV (.bool (!true)), isV (.bool (!true)), isV ((bif !(!true) then .pointer (some ⟨bB, 1, none⟩) else undef)), isV ((bif !(!true) then .int .u8 m.f.toNat else undef)), isV ((bif !(!true) then .int .i64 m.f.toNat else undef)), isV ((bif !(!true) then .agg g.arr else undef)), isV ((bif !(!true) then .int .i64 (g.nodes : Nat) else undef)), isV ((bif !(!true) then .bool false else undef)), isV (.bool ((!true) || false)), isV (.bool ((!true) || false)), isV ((bif !((!true) || false) then .pointer (some ⟨bB, 2, none⟩) else undef)), isV ((bif !((!true) || false) then .int .u8 m.t.toNat else undef)), isV ((bif !((!true) || false) then .int .i64 m.t.toNat else undef)), isV ((bif !((!true) || false) then .agg g.arr else undef)), isV ((bif !((!true) || false) then .int .i64 (g.nodes : Nat) else undef)), isV ((bif !((!true) || false) then .bool false else undef)), isV (.bool (((!true) || false) || false)), isV (.bool (((!true) || false) || false)), isV ((bif !(((!true) || false) || false) then .pointer (some ⟨bB, 1, none⟩) else undef)), isV ((bif !(((!true) || false) || false) then .int .u8 m.f.toNat else undef)), isV ((bif !(((!true) || false) || false) then .pointer (some ⟨bB, 2, none⟩) else undef)), isV ((bif !(((!true) || false) || false) then .int .u8 m.t.toNat else undef)), isV ((bif !(((!true) || false) || false) then .bool false else undef)), isV (.bool ((((!true) || false) || false) || false)), isV (.bool ((((!true) || false) || false) || false)), isV ((bif !((((!true) || false) || false) || false) then .agg g.arr else undef)), isV ((bif !((((!true) || false) || false) || false) then .pointer (some ⟨bB, 1, none⟩) else undef)), isV ((bif !((((!true) || false) || false) || false) then .int .u8 m.f.toNat else undef)), isV ((bif !((((!true) || false) || false) || false) then .bool true else undef)), isV ((bif !((((!true) || false) || false) || false) then .bool (!true) else undef)), isV ((bif !((((!true) || false) || false) || false) then .bool (!true) else undef)), isV ((bif (!((((!true) || false) || false) || false) && (!true)) then .agg g.arr else undef)), isV ((bif (!((((!true) || false) || false) || false) && (!true)) then .pointer (some ⟨bB, 2, none⟩) else undef)), isV ((bif (!((((!true) || false) || false) || false) && (!true)) then .int .u8 m.t.toNat else undef)), isV ((bif (!((((!true) || false) || false) || false) && (!true)) then .bool true else undef)), isV ((bif (!((((!true) || false) || false) || false) && (!true)) then .bool (!true) else undef)), isV ((bif !((((!true) || false) || false) || false) then .bool ((!true) && (!true)) else undef)), isV (.bool (((((!true) || false) || false) || false) || ((!true) && (!true)))), isV (.bool (((((!true) || false) || false) || false) || ((!true) && (!true)))), isV ((bif !(((((!true) || false) || false) || false) || ((!true) && (!true))) then .int .u8 cl else undef)), isV ((bif !(((((!true) || false) || false) || false) || ((!true) && (!true))) then .bool false else undef)), isV (.bool ((((((!true) || false) || false) || false) || ((!true) && (!true))) || false)), isV (.bool ((((((!true) || false) || false) || false) || ((!true) && (!true))) || false)), isV ((bif !((((((!true) || false) || false) || false) || ((!true) && (!true))) || false) then .int .u8 cl else undef)), isV ((bif !((((((!true) || false) || false) || false) || ((!true) && (!true))) || false) then .bool false else undef)), isV (.bool (((((((!true) || false) || false) || false) || ((!true) && (!true))) || false) || false)), isV (.bool (((((((!true) || false) || false) || false) || ((!true) && (!true))) || false) || false)), isV ((bif !(((((((!true) || false) || false) || false) || ((!true) && (!true))) || false) || false) then .pointer (some ⟨bB, 5, none⟩) else undef)), isV ((bif !(((((((!true) || false) || false) || false) || ((!true) && (!true))) || false) || false) then .int .u8 m.c.toNat else undef)), isV ((bif !(((((((!true) || false) || false) || false) || ((!true) && (!true))) || false) || false) then .int .i64 m.c.toNat else undef)), isV ((bif !(((((((!true) || false) || false) || false) || ((!true) && (!true))) || false) || false) then .pointer (some ⟨bA, 0, none⟩) else undef)), isV ((bif !(((((((!true) || false) || false) || false) || ((!true) && (!true))) || false) || false) then .int .i64 g.c else undef)), isV ((bif !(((((((!true) || false) || false) || false) || ((!true) && (!true))) || false) || false) then .bool false else undef)), isV (.bool ((((((((!true) || false) || false) || false) || ((!true) && (!true))) || false) || false) || false))]) rfl mo (by kernel_rfl) (FF_st _ _) HS3.out.drew (fun hN => ?_) (fun u W hS hF => ?_)
              · refine steps_cons ?_ ?_
                · intro u W hS hp
                  exact step_on (wanted_free rfl) (ext_val hS (run_ld rfl ((eval_out rfl).trans rfl) (ld39 (hS.h (bA, g.arr, 39) (by simp)))) rfl)
                refine steps_cons ?_ ?_
                · intro u W hS hp
                  obtain ⟨q0, _⟩ := hp
                  have p20 : u 20 = .agg g.arr := q0
                  exact step_on (wanted_free rfl) (ext_call (run_call rfl rfl (map1 ((eval_in rfl hN rfl).trans p20)) Tryd.func21 nm21 bd21) ((gright_any g W).mono fun _ _ ⟨e, h⟩ => ⟨_, e.trans (congrArg (fun x => Ending.returned (Value.bool x)) hgok), rfl, hS.next h, h⟩))
                refine steps_cons ?_ ?_
                · intro u W hS hp
                  obtain ⟨q0, _⟩ := hp
                  have p21 : u 21 = .bool true := q0
                  exact step_on (wanted_free rfl) (ext_val hS (run_un rfl ((eval_in rfl hN rfl).trans p21) rfl) rfl)
                refine steps_cons ?_ ?_
                · intro u W hS hp
                  obtain ⟨q0, q1, _⟩ := hp
                  have p22 : u 22 = .bool (!true) := q0
                  exact step_on (wanted_free rfl) (ext_val hS (run_mv rfl ((eval_in rfl hN rfl).trans p22)) rfl)
                refine steps_cons ?_ ?_
                · intro u W hS hp
                  obtain ⟨q0, _⟩ := hp
                  have p23 : u 23 = .bool (!true) := q0
                  first | exact step_off (wanted_off rfl rfl rfl hN rfl p23) rfl | exact step_off (wanted_undef rfl rfl rfl hN rfl p23) rfl | exact step_on (wanted_on rfl rfl rfl hN rfl p23) (ext_val hS (run_fa rfl ((eval_out rfl).trans rfl) (fa25_1 bB)) rfl)
                refine steps_cons ?_ ?_
                · intro u W hS hp
                  obtain ⟨q0, q1, _⟩ := hp
                  have p24 : u 24 = (bif !(!true) then .pointer (some ⟨bB, 1, none⟩) else undef) := q0
                  have p23 : u 23 = .bool (!true) := q1
                  first | exact step_off (wanted_off rfl rfl rfl hN rfl p23) rfl | exact step_off (wanted_undef rfl rfl rfl hN rfl p23) rfl | exact step_on (wanted_on rfl rfl rfl hN rfl p23) (ext_val hS (run_ld rfl ((eval_in rfl hN rfl).trans p24) (ld_u8 ((cell_of_heap (hS.h (bB, boxOf m, 25) (by simp))).trans (rfl : (boxOf m)[1]? = some _)))) rfl)
                refine steps_cons ?_ ?_
                · intro u W hS hp
                  obtain ⟨q0, q1, _⟩ := hp
                  have p25 : u 25 = (bif !(!true) then .int .u8 m.f.toNat else undef) := q0
                  have p23 : u 23 = .bool (!true) := q1
                  first | exact step_off (wanted_off rfl rfl rfl hN rfl p23) rfl | exact step_off (wanted_undef rfl rfl rfl hN rfl p23) rfl | exact step_on (wanted_on rfl rfl rfl hN rfl p23) (ext_val hS (run_conv rfl ((eval_in rfl hN rfl).trans p25) (conv53 (by omega) (by have := m.f.toNat_lt; omega))) rfl)
                refine steps_cons ?_ ?_
                · intro u W hS hp
                  obtain ⟨q0, _⟩ := hp
                  have p23 : u 23 = .bool (!true) := q0
                  first | exact step_off (wanted_off rfl rfl rfl hN rfl p23) rfl | exact step_off (wanted_undef rfl rfl rfl hN rfl p23) rfl | exact step_on (wanted_on rfl rfl rfl hN rfl p23) (ext_val hS (run_ld rfl ((eval_out rfl).trans rfl) (ld39 (hS.h (bA, g.arr, 39) (by simp)))) rfl)
                refine steps_cons ?_ ?_
                · intro u W hS hp
                  obtain ⟨q0, q1, q2, _⟩ := hp
                  have p27 : u 27 = (bif !(!true) then .agg g.arr else undef) := q0
                  have p23 : u 23 = .bool (!true) := q1
                  first | exact step_off (wanted_off rfl rfl rfl hN rfl p23) rfl | exact step_off (wanted_undef rfl rfl rfl hN rfl p23) rfl | exact step_on (wanted_on rfl rfl rfl hN rfl p23) (ext_call (run_call rfl rfl (map1 ((eval_in rfl hN rfl).trans p27)) Tryd.func22 nm22 bd22) ((gnodes_any g W).mono fun _ _ ⟨e, h⟩ => ⟨_, e, rfl, hS.next h, h⟩))
                refine steps_cons ?_ ?_
                · intro u W hS hp
                  obtain ⟨q0, q1, q2, _⟩ := hp
                  have p26 : u 26 = (bif !(!true) then .int .i64 m.f.toNat else undef) := q0
                  have p28 : u 28 = (bif !(!true) then .int .i64 (g.nodes : Nat) else undef) := q1
                  have p23 : u 23 = .bool (!true) := q2
                  first | exact step_off (wanted_off rfl rfl rfl hN rfl p23) rfl | exact step_off (wanted_undef rfl rfl rfl hN rfl p23) rfl | exact step_on (wanted_on rfl rfl rfl hN rfl p23) (ext_val hS (run_bin rfl ((eval_in rfl hN rfl).trans p26) ((eval_in rfl hN rfl).trans p28) rfl (i_geq zq1)) rfl)
                refine steps_cons ?_ ?_
                · intro u W hS hp
                  obtain ⟨q0, q1, _⟩ := hp
                  have p23 : u 23 = .bool (!true) := q0
                  have p29 : u 29 = (bif !(!true) then .bool false else undef) := q1
                  first | (first | exact step_on (wanted_free rfl) (ext_val hS (run_pickT rfl ((eval_in rfl hN rfl).trans p23) rfl) rfl) | exact step_on (wanted_free rfl) (ext_val hS (run_pickF rfl ((eval_in rfl hN rfl).trans p23) ((eval_in rfl hN rfl).trans p29)) rfl))
                refine steps_cons ?_ ?_
                · intro u W hS hp
                  obtain ⟨q0, q1, _⟩ := hp
                  have p30 : u 30 = .bool ((!true) || false) := q0
                  exact step_on (wanted_free rfl) (ext_val hS (run_mv rfl ((eval_in rfl hN rfl).trans p30)) rfl)
                refine steps_cons ?_ ?_
                · intro u W hS hp
                  obtain ⟨q0, _⟩ := hp
                  have p31 : u 31 = .bool ((!true) || false) := q0
                  first | exact step_off (wanted_off rfl rfl rfl hN rfl p31) rfl | exact step_off (wanted_undef rfl rfl rfl hN rfl p31) rfl | exact step_on (wanted_on rfl rfl rfl hN rfl p31) (ext_val hS (run_fa rfl ((eval_out rfl).trans rfl) (fa25_2 bB)) rfl)
                refine steps_cons ?_ ?_
                · intro u W hS hp
                  obtain ⟨q0, q1, _⟩ := hp
                  have p32 : u 32 = (bif !((!true) || false) then .pointer (some ⟨bB, 2, none⟩) else undef) := q0
                  have p31 : u 31 = .bool ((!true) || false) := q1
                  first | exact step_off (wanted_off rfl rfl rfl hN rfl p31) rfl | exact step_off (wanted_undef rfl rfl rfl hN rfl p31) rfl | exact step_on (wanted_on rfl rfl rfl hN rfl p31) (ext_val hS (run_ld rfl ((eval_in rfl hN rfl).trans p32) (ld_u8 ((cell_of_heap (hS.h (bB, boxOf m, 25) (by simp))).trans (rfl : (boxOf m)[2]? = some _)))) rfl)
                refine steps_cons ?_ ?_
                · intro u W hS hp
                  obtain ⟨q0, q1, _⟩ := hp
                  have p33 : u 33 = (bif !((!true) || false) then .int .u8 m.t.toNat else undef) := q0
                  have p31 : u 31 = .bool ((!true) || false) := q1
                  first | exact step_off (wanted_off rfl rfl rfl hN rfl p31) rfl | exact step_off (wanted_undef rfl rfl rfl hN rfl p31) rfl | exact step_on (wanted_on rfl rfl rfl hN rfl p31) (ext_val hS (run_conv rfl ((eval_in rfl hN rfl).trans p33) (conv53 (by omega) (by have := m.t.toNat_lt; omega))) rfl)
                refine steps_cons ?_ ?_
                · intro u W hS hp
                  obtain ⟨q0, _⟩ := hp
                  have p31 : u 31 = .bool ((!true) || false) := q0
                  first | exact step_off (wanted_off rfl rfl rfl hN rfl p31) rfl | exact step_off (wanted_undef rfl rfl rfl hN rfl p31) rfl | exact step_on (wanted_on rfl rfl rfl hN rfl p31) (ext_val hS (run_ld rfl ((eval_out rfl).trans rfl) (ld39 (hS.h (bA, g.arr, 39) (by simp)))) rfl)
                refine steps_cons ?_ ?_
                · intro u W hS hp
                  obtain ⟨q0, q1, q2, _⟩ := hp
                  have p35 : u 35 = (bif !((!true) || false) then .agg g.arr else undef) := q0
                  have p31 : u 31 = .bool ((!true) || false) := q1
                  first | exact step_off (wanted_off rfl rfl rfl hN rfl p31) rfl | exact step_off (wanted_undef rfl rfl rfl hN rfl p31) rfl | exact step_on (wanted_on rfl rfl rfl hN rfl p31) (ext_call (run_call rfl rfl (map1 ((eval_in rfl hN rfl).trans p35)) Tryd.func22 nm22 bd22) ((gnodes_any g W).mono fun _ _ ⟨e, h⟩ => ⟨_, e, rfl, hS.next h, h⟩))
                refine steps_cons ?_ ?_
                · intro u W hS hp
                  obtain ⟨q0, q1, q2, _⟩ := hp
                  have p34 : u 34 = (bif !((!true) || false) then .int .i64 m.t.toNat else undef) := q0
                  have p36 : u 36 = (bif !((!true) || false) then .int .i64 (g.nodes : Nat) else undef) := q1
                  have p31 : u 31 = .bool ((!true) || false) := q2
                  first | exact step_off (wanted_off rfl rfl rfl hN rfl p31) rfl | exact step_off (wanted_undef rfl rfl rfl hN rfl p31) rfl | exact step_on (wanted_on rfl rfl rfl hN rfl p31) (ext_val hS (run_bin rfl ((eval_in rfl hN rfl).trans p34) ((eval_in rfl hN rfl).trans p36) rfl (i_geq zq2)) rfl)
                refine steps_cons ?_ ?_
                · intro u W hS hp
                  obtain ⟨q0, q1, _⟩ := hp
                  have p31 : u 31 = .bool ((!true) || false) := q0
                  have p37 : u 37 = (bif !((!true) || false) then .bool false else undef) := q1
                  first | (first | exact step_on (wanted_free rfl) (ext_val hS (run_pickT rfl ((eval_in rfl hN rfl).trans p31) rfl) rfl) | exact step_on (wanted_free rfl) (ext_val hS (run_pickF rfl ((eval_in rfl hN rfl).trans p31) ((eval_in rfl hN rfl).trans p37)) rfl))
                refine steps_cons ?_ ?_
                · intro u W hS hp
                  obtain ⟨q0, q1, _⟩ := hp
                  have p38 : u 38 = .bool (((!true) || false) || false) := q0
                  exact step_on (wanted_free rfl) (ext_val hS (run_mv rfl ((eval_in rfl hN rfl).trans p38)) rfl)
                refine steps_cons ?_ ?_
                · intro u W hS hp
                  obtain ⟨q0, _⟩ := hp
                  have p39 : u 39 = .bool (((!true) || false) || false) := q0
                  first | exact step_off (wanted_off rfl rfl rfl hN rfl p39) rfl | exact step_off (wanted_undef rfl rfl rfl hN rfl p39) rfl | exact step_on (wanted_on rfl rfl rfl hN rfl p39) (ext_val hS (run_fa rfl ((eval_out rfl).trans rfl) (fa25_1 bB)) rfl)
                refine steps_cons ?_ ?_
                · intro u W hS hp
                  obtain ⟨q0, q1, _⟩ := hp
                  have p40 : u 40 = (bif !(((!true) || false) || false) then .pointer (some ⟨bB, 1, none⟩) else undef) := q0
                  have p39 : u 39 = .bool (((!true) || false) || false) := q1
                  first | exact step_off (wanted_off rfl rfl rfl hN rfl p39) rfl | exact step_off (wanted_undef rfl rfl rfl hN rfl p39) rfl | exact step_on (wanted_on rfl rfl rfl hN rfl p39) (ext_val hS (run_ld rfl ((eval_in rfl hN rfl).trans p40) (ld_u8 ((cell_of_heap (hS.h (bB, boxOf m, 25) (by simp))).trans (rfl : (boxOf m)[1]? = some _)))) rfl)
                refine steps_cons ?_ ?_
                · intro u W hS hp
                  obtain ⟨q0, _⟩ := hp
                  have p39 : u 39 = .bool (((!true) || false) || false) := q0
                  first | exact step_off (wanted_off rfl rfl rfl hN rfl p39) rfl | exact step_off (wanted_undef rfl rfl rfl hN rfl p39) rfl | exact step_on (wanted_on rfl rfl rfl hN rfl p39) (ext_val hS (run_fa rfl ((eval_out rfl).trans rfl) (fa25_2 bB)) rfl)
                refine steps_cons ?_ ?_
                · intro u W hS hp
                  obtain ⟨q0, q1, _⟩ := hp
                  have p42 : u 42 = (bif !(((!true) || false) || false) then .pointer (some ⟨bB, 2, none⟩) else undef) := q0
                  have p39 : u 39 = .bool (((!true) || false) || false) := q1
                  first | exact step_off (wanted_off rfl rfl rfl hN rfl p39) rfl | exact step_off (wanted_undef rfl rfl rfl hN rfl p39) rfl | exact step_on (wanted_on rfl rfl rfl hN rfl p39) (ext_val hS (run_ld rfl ((eval_in rfl hN rfl).trans p42) (ld_u8 ((cell_of_heap (hS.h (bB, boxOf m, 25) (by simp))).trans (rfl : (boxOf m)[2]? = some _)))) rfl)
                refine steps_cons ?_ ?_
                · intro u W hS hp
                  obtain ⟨q0, q1, q2, _⟩ := hp
                  have p41 : u 41 = (bif !(((!true) || false) || false) then .int .u8 m.f.toNat else undef) := q0
                  have p43 : u 43 = (bif !(((!true) || false) || false) then .int .u8 m.t.toNat else undef) := q1
                  have p39 : u 39 = .bool (((!true) || false) || false) := q2
                  first | exact step_off (wanted_off rfl rfl rfl hN rfl p39) rfl | exact step_off (wanted_undef rfl rfl rfl hN rfl p39) rfl | exact step_on (wanted_on rfl rfl rfl hN rfl p39) (ext_val hS (run_bin rfl ((eval_in rfl hN rfl).trans p41) ((eval_in rfl hN rfl).trans p43) rfl (i_eql zq3)) rfl)
                refine steps_cons ?_ ?_
                · intro u W hS hp
                  obtain ⟨q0, q1, _⟩ := hp
                  have p39 : u 39 = .bool (((!true) || false) || false) := q0
                  have p44 : u 44 = (bif !(((!true) || false) || false) then .bool false else undef) := q1
                  first | (first | exact step_on (wanted_free rfl) (ext_val hS (run_pickT rfl ((eval_in rfl hN rfl).trans p39) rfl) rfl) | exact step_on (wanted_free rfl) (ext_val hS (run_pickF rfl ((eval_in rfl hN rfl).trans p39) ((eval_in rfl hN rfl).trans p44)) rfl))
                refine steps_cons ?_ ?_
                · intro u W hS hp
                  obtain ⟨q0, q1, _⟩ := hp
                  have p45 : u 45 = .bool ((((!true) || false) || false) || false) := q0
                  exact step_on (wanted_free rfl) (ext_val hS (run_mv rfl ((eval_in rfl hN rfl).trans p45)) rfl)
                refine steps_cons ?_ ?_
                · intro u W hS hp
                  obtain ⟨q0, _⟩ := hp
                  have p46 : u 46 = .bool ((((!true) || false) || false) || false) := q0
                  first | exact step_off (wanted_off rfl rfl rfl hN rfl p46) rfl | exact step_off (wanted_undef rfl rfl rfl hN rfl p46) rfl | exact step_on (wanted_on rfl rfl rfl hN rfl p46) (ext_val hS (run_ld rfl ((eval_out rfl).trans rfl) (ld39 (hS.h (bA, g.arr, 39) (by simp)))) rfl)
                refine steps_cons ?_ ?_
                · intro u W hS hp
                  obtain ⟨q0, _⟩ := hp
                  have p46 : u 46 = .bool ((((!true) || false) || false) || false) := q0
                  first | exact step_off (wanted_off rfl rfl rfl hN rfl p46) rfl | exact step_off (wanted_undef rfl rfl rfl hN rfl p46) rfl | exact step_on (wanted_on rfl rfl rfl hN rfl p46) (ext_val hS (run_fa rfl ((eval_out rfl).trans rfl) (fa25_1 bB)) rfl)
                refine steps_cons ?_ ?_
                · intro u W hS hp
                  obtain ⟨q0, q1, _⟩ := hp
                  have p48 : u 48 = (bif !((((!true) || false) || false) || false) then .pointer (some ⟨bB, 1, none⟩) else undef) := q0
                  have p46 : u 46 = .bool ((((!true) || false) || false) || false) := q1
                  first | exact step_off (wanted_off rfl rfl rfl hN rfl p46) rfl | exact step_off (wanted_undef rfl rfl rfl hN rfl p46) rfl | exact step_on (wanted_on rfl rfl rfl hN rfl p46) (ext_val hS (run_ld rfl ((eval_in rfl hN rfl).trans p48) (ld_u8 ((cell_of_heap (hS.h (bB, boxOf m, 25) (by simp))).trans (rfl : (boxOf m)[1]? = some _)))) rfl)
                refine steps_cons ?_ ?_
                · intro u W hS hp
                  obtain ⟨q0, q1, q2, q3, _⟩ := hp
                  have p47 : u 47 = (bif !((((!true) || false) || false) || false) then .agg g.arr else undef) := q0
                  have p49 : u 49 = (bif !((((!true) || false) || false) || false) then .int .u8 m.f.toNat else undef) := q1
                  have p46 : u 46 = .bool ((((!true) || false) || false) || false) := q2
                  first | exact step_off (wanted_off rfl rfl rfl hN rfl p46) rfl | exact step_off (wanted_undef rfl rfl rfl hN rfl p46) rfl | exact step_on (wanted_on rfl rfl rfl hN rfl p46) (ext_call (run_call rfl rfl (map2 ((eval_in rfl hN rfl).trans p47) ((eval_in rfl hN rfl).trans p49)) Tryd.func23 nm23 bd23) ((iscache_any g m.f.toNat m.f.toNat_lt W).mono fun _ _ ⟨e, h⟩ => ⟨_, e.trans (congrArg (fun x => Ending.returned (Value.bool x)) hcf), rfl, hS.next h, h⟩))
                refine steps_cons ?_ ?_
                · intro u W hS hp
                  obtain ⟨q0, q1, _⟩ := hp
                  have p50 : u 50 = (bif !((((!true) || false) || false) || false) then .bool true else undef) := q0
                  have p46 : u 46 = .bool ((((!true) || false) || false) || false) := q1
                  first | exact step_off (wanted_off rfl rfl rfl hN rfl p46) rfl | exact step_off (wanted_undef rfl rfl rfl hN rfl p46) rfl | exact step_on (wanted_on rfl rfl rfl hN rfl p46) (ext_val hS (run_un rfl ((eval_in rfl hN rfl).trans p50) rfl) rfl)
                refine steps_cons ?_ ?_
                · intro u W hS hp
                  obtain ⟨q0, q1, q2, _⟩ := hp
                  have p51 : u 51 = (bif !((((!true) || false) || false) || false) then .bool (!true) else undef) := q0
                  have p46 : u 46 = .bool ((((!true) || false) || false) || false) := q2
                  first | exact step_off (wanted_off rfl rfl rfl hN rfl p46) rfl | exact step_off (wanted_undef rfl rfl rfl hN rfl p46) rfl | exact step_on (wanted_on rfl rfl rfl hN rfl p46) (ext_val hS (run_mv rfl ((eval_in rfl hN rfl).trans p51)) rfl)
                refine steps_cons ?_ ?_
                · intro u W hS hp
                  obtain ⟨q0, _⟩ := hp
                  have p52 : u 52 = (bif !((((!true) || false) || false) || false) then .bool (!true) else undef) := q0
                  first | exact step_off (wanted_off rfl rfl rfl hN rfl p52) rfl | exact step_off (wanted_undef rfl rfl rfl hN rfl p52) rfl | exact step_on (wanted_on rfl rfl rfl hN rfl p52) (ext_val hS (run_ld rfl ((eval_out rfl).trans rfl) (ld39 (hS.h (bA, g.arr, 39) (by simp)))) rfl)
                refine steps_cons ?_ ?_
                · intro u W hS hp
                  obtain ⟨q0, _⟩ := hp
                  have p52 : u 52 = (bif !((((!true) || false) || false) || false) then .bool (!true) else undef) := q0
                  first | exact step_off (wanted_off rfl rfl rfl hN rfl p52) rfl | exact step_off (wanted_undef rfl rfl rfl hN rfl p52) rfl | exact step_on (wanted_on rfl rfl rfl hN rfl p52) (ext_val hS (run_fa rfl ((eval_out rfl).trans rfl) (fa25_2 bB)) rfl)
                refine steps_cons ?_ ?_
                · intro u W hS hp
                  obtain ⟨q0, q1, _⟩ := hp
                  have p54 : u 54 = (bif (!((((!true) || false) || false) || false) && (!true)) then .pointer (some ⟨bB, 2, none⟩) else undef) := q0
                  have p52 : u 52 = (bif !((((!true) || false) || false) || false) then .bool (!true) else undef) := q1
                  first | exact step_off (wanted_off rfl rfl rfl hN rfl p52) rfl | exact step_off (wanted_undef rfl rfl rfl hN rfl p52) rfl | exact step_on (wanted_on rfl rfl rfl hN rfl p52) (ext_val hS (run_ld rfl ((eval_in rfl hN rfl).trans p54) (ld_u8 ((cell_of_heap (hS.h (bB, boxOf m, 25) (by simp))).trans (rfl : (boxOf m)[2]? = some _)))) rfl)
                refine steps_cons ?_ ?_
                · intro u W hS hp
                  obtain ⟨q0, q1, q2, q3, _⟩ := hp
                  have p53 : u 53 = (bif (!((((!true) || false) || false) || false) && (!true)) then .agg g.arr else undef) := q0
                  have p55 : u 55 = (bif (!((((!true) || false) || false) || false) && (!true)) then .int .u8 m.t.toNat else undef) := q1
                  have p52 : u 52 = (bif !((((!true) || false) || false) || false) then .bool (!true) else undef) := q2
                  first | exact step_off (wanted_off rfl rfl rfl hN rfl p52) rfl | exact step_off (wanted_undef rfl rfl rfl hN rfl p52) rfl | exact step_on (wanted_on rfl rfl rfl hN rfl p52) (ext_call (run_call rfl rfl (map2 ((eval_in rfl hN rfl).trans p53) ((eval_in rfl hN rfl).trans p55)) Tryd.func23 nm23 bd23) ((iscache_any g m.t.toNat m.t.toNat_lt W).mono fun _ _ ⟨e, h⟩ => ⟨_, e.trans (congrArg (fun x => Ending.returned (Value.bool x)) hct), rfl, hS.next h, h⟩))
                refine steps_cons ?_ ?_
                · intro u W hS hp
                  obtain ⟨q0, q1, _⟩ := hp
                  have p56 : u 56 = (bif (!((((!true) || false) || false) || false) && (!true)) then .bool true else undef) := q0
                  have p52 : u 52 = (bif !((((!true) || false) || false) || false) then .bool (!true) else undef) := q1
                  first | exact step_off (wanted_off rfl rfl rfl hN rfl p52) rfl | exact step_off (wanted_undef rfl rfl rfl hN rfl p52) rfl | exact step_on (wanted_on rfl rfl rfl hN rfl p52) (ext_val hS (run_un rfl ((eval_in rfl hN rfl).trans p56) rfl) rfl)
                refine steps_cons ?_ ?_
                · intro u W hS hp
                  obtain ⟨q0, q1, q2, _⟩ := hp
                  have p52 : u 52 = (bif !((((!true) || false) || false) || false) then .bool (!true) else undef) := q0
                  have p57 : u 57 = (bif (!((((!true) || false) || false) || false) && (!true)) then .bool (!true) else undef) := q1
                  have p46 : u 46 = .bool ((((!true) || false) || false) || false) := q2
                  first | exact step_off (wanted_off rfl rfl rfl hN rfl p46) rfl | exact step_off (wanted_undef rfl rfl rfl hN rfl p46) rfl | (first | exact step_on (wanted_on rfl rfl rfl hN rfl p46) (ext_val hS (run_pickT rfl ((eval_in rfl hN rfl).trans p52) ((eval_in rfl hN rfl).trans p57)) rfl) | exact step_on (wanted_on rfl rfl rfl hN rfl p46) (ext_val hS (run_pickF rfl ((eval_in rfl hN rfl).trans p52) rfl) rfl))
                refine steps_cons ?_ ?_
                · intro u W hS hp
                  obtain ⟨q0, q1, _⟩ := hp
                  have p46 : u 46 = .bool ((((!true) || false) || false) || false) := q0
                  have p58 : u 58 = (bif !((((!true) || false) || false) || false) then .bool ((!true) && (!true)) else undef) := q1
                  first | (first | exact step_on (wanted_free rfl) (ext_val hS (run_pickT rfl ((eval_in rfl hN rfl).trans p46) rfl) rfl) | exact step_on (wanted_free rfl) (ext_val hS (run_pickF rfl ((eval_in rfl hN rfl).trans p46) ((eval_in rfl hN rfl).trans p58)) rfl))
                refine steps_cons ?_ ?_
                · intro u W hS hp
                  obtain ⟨q0, q1, _⟩ := hp
                  have p59 : u 59 = .bool (((((!true) || false) || false) || false) || ((!true) && (!true))) := q0
                  exact step_on (wanted_free rfl) (ext_val hS (run_mv rfl ((eval_in rfl hN rfl).trans p59)) rfl)
                refine steps_cons ?_ ?_
                · intro u W hS hp
                  obtain ⟨q0, _⟩ := hp
                  have p60 : u 60 = .bool (((((!true) || false) || false) || false) || ((!true) && (!true))) := q0
                  first | exact step_off (wanted_off rfl rfl rfl hN rfl p60) rfl | exact step_off (wanted_undef rfl rfl rfl hN rfl p60) rfl | exact step_on (wanted_on rfl rfl rfl hN rfl p60) (ext_val hS (run_mv rfl ((eval_out rfl).trans rfl)) rfl)
                refine steps_cons ?_ ?_
                · intro u W hS hp
                  obtain ⟨q0, q1, _⟩ := hp
                  have p61 : u 61 = (bif !(((((!true) || false) || false) || false) || ((!true) && (!true))) then .int .u8 cl else undef) := q0
                  have p60 : u 60 = .bool (((((!true) || false) || false) || false) || ((!true) && (!true))) := q1
                  first | exact step_off (wanted_off rfl rfl rfl hN rfl p60) rfl | exact step_off (wanted_undef rfl rfl rfl hN rfl p60) rfl | exact step_on (wanted_on rfl rfl rfl hN rfl p60) (ext_val hS (run_bin rfl ((eval_in rfl hN rfl).trans p61) rfl rfl (i_lss zq4)) rfl)
                refine steps_cons ?_ ?_
                · intro u W hS hp
                  obtain ⟨q0, q1, _⟩ := hp
                  have p60 : u 60 = .bool (((((!true) || false) || false) || false) || ((!true) && (!true))) := q0
                  have p62 : u 62 = (bif !(((((!true) || false) || false) || false) || ((!true) && (!true))) then .bool false else undef) := q1
                  first | (first | exact step_on (wanted_free rfl) (ext_val hS (run_pickT rfl ((eval_in rfl hN rfl).trans p60) rfl) rfl) | exact step_on (wanted_free rfl) (ext_val hS (run_pickF rfl ((eval_in rfl hN rfl).trans p60) ((eval_in rfl hN rfl).trans p62)) rfl))
                refine steps_cons ?_ ?_
                · intro u W hS hp
                  obtain ⟨q0, q1, _⟩ := hp
                  have p63 : u 63 = .bool ((((((!true) || false) || false) || false) || ((!true) && (!true))) || false) := q0
                  exact step_on (wanted_free rfl) (ext_val hS (run_mv rfl ((eval_in rfl hN rfl).trans p63)) rfl)
                refine steps_cons ?_ ?_
                · intro u W hS hp
                  obtain ⟨q0, _⟩ := hp
                  have p64 : u 64 = .bool ((((((!true) || false) || false) || false) || ((!true) && (!true))) || false) := q0
                  first | exact step_off (wanted_off rfl rfl rfl hN rfl p64) rfl | exact step_off (wanted_undef rfl rfl rfl hN rfl p64) rfl | exact step_on (wanted_on rfl rfl rfl hN rfl p64) (ext_val hS (run_mv rfl ((eval_out rfl).trans rfl)) rfl)
                refine steps_cons ?_ ?_
                · intro u W hS hp
                  obtain ⟨q0, q1, _⟩ := hp
                  have p65 : u 65 = (bif !((((((!true) || false) || false) || false) || ((!true) && (!true))) || false) then .int .u8 cl else undef) := q0
                  have p64 : u 64 = .bool ((((((!true) || false) || false) || false) || ((!true) && (!true))) || false) := q1
                  first | exact step_off (wanted_off rfl rfl rfl hN rfl p64) rfl | exact step_off (wanted_undef rfl rfl rfl hN rfl p64) rfl | exact step_on (wanted_on rfl rfl rfl hN rfl p64) (ext_val hS (run_bin rfl ((eval_in rfl hN rfl).trans p65) rfl rfl (i_gtr zq5)) rfl)
                refine steps_cons ?_ ?_
                · intro u W hS hp
                  obtain ⟨q0, q1, _⟩ := hp
                  have p64 : u 64 = .bool ((((((!true) || false) || false) || false) || ((!true) && (!true))) || false) := q0
                  have p66 : u 66 = (bif !((((((!true) || false) || false) || false) || ((!true) && (!true))) || false) then .bool false else undef) := q1
                  first | (first | exact step_on (wanted_free rfl) (ext_val hS (run_pickT rfl ((eval_in rfl hN rfl).trans p64) rfl) rfl) | exact step_on (wanted_free rfl) (ext_val hS (run_pickF rfl ((eval_in rfl hN rfl).trans p64) ((eval_in rfl hN rfl).trans p66)) rfl))
                refine steps_cons ?_ ?_
                · intro u W hS hp
                  obtain ⟨q0, q1, _⟩ := hp
                  have p67 : u 67 = .bool (((((((!true) || false) || false) || false) || ((!true) && (!true))) || false) || false) := q0
                  exact step_on (wanted_free rfl) (ext_val hS (run_mv rfl ((eval_in rfl hN rfl).trans p67)) rfl)
                refine steps_cons ?_ ?_
                · intro u W hS hp
                  obtain ⟨q0, _⟩ := hp
                  have p68 : u 68 = .bool (((((((!true) || false) || false) || false) || ((!true) && (!true))) || false) || false) := q0
                  first | exact step_off (wanted_off rfl rfl rfl hN rfl p68) rfl | exact step_off (wanted_undef rfl rfl rfl hN rfl p68) rfl | exact step_on (wanted_on rfl rfl rfl hN rfl p68) (ext_val hS (run_fa rfl ((eval_out rfl).trans rfl) (fa25_5 bB)) rfl)
                refine steps_cons ?_ ?_
                · intro u W hS hp
                  obtain ⟨q0, q1, _⟩ := hp
                  have p69 : u 69 = (bif !(((((((!true) || false) || false) || false) || ((!true) && (!true))) || false) || false) then .pointer (some ⟨bB, 5, none⟩) else undef) := q0
                  have p68 : u 68 = .bool (((((((!true) || false) || false) || false) || ((!true) && (!true))) || false) || false) := q1
                  first | exact step_off (wanted_off rfl rfl rfl hN rfl p68) rfl | exact step_off (wanted_undef rfl rfl rfl hN rfl p68) rfl | exact step_on (wanted_on rfl rfl rfl hN rfl p68) (ext_val hS (run_ld rfl ((eval_in rfl hN rfl).trans p69) (ld_u8 ((cell_of_heap (hS.h (bB, boxOf m, 25) (by simp))).trans (rfl : (boxOf m)[5]? = some _)))) rfl)
                refine steps_cons ?_ ?_
                · intro u W hS hp
                  obtain ⟨q0, q1, _⟩ := hp
                  have p70 : u 70 = (bif !(((((((!true) || false) || false) || false) || ((!true) && (!true))) || false) || false) then .int .u8 m.c.toNat else undef) := q0
                  have p68 : u 68 = .bool (((((((!true) || false) || false) || false) || ((!true) && (!true))) || false) || false) := q1
                  first | exact step_off (wanted_off rfl rfl rfl hN rfl p68) rfl | exact step_off (wanted_undef rfl rfl rfl hN rfl p68) rfl | exact step_on (wanted_on rfl rfl rfl hN rfl p68) (ext_val hS (run_conv rfl ((eval_in rfl hN rfl).trans p70) (conv53 (by omega) (by have := m.c.toNat_lt; omega))) rfl)
                refine steps_cons ?_ ?_
                · intro u W hS hp
                  obtain ⟨q0, _⟩ := hp
                  have p68 : u 68 = .bool (((((((!true) || false) || false) || false) || ((!true) && (!true))) || false) || false) := q0
                  first | exact step_off (wanted_off rfl rfl rfl hN rfl p68) rfl | exact step_off (wanted_undef rfl rfl rfl hN rfl p68) rfl | exact step_on (wanted_on rfl rfl rfl hN rfl p68) (ext_val hS (run_fa rfl ((eval_out rfl).trans rfl) (fa39_0 bA W)) rfl)
                refine steps_cons ?_ ?_
                · intro u W hS hp
                  obtain ⟨q0, q1, _⟩ := hp
                  have p72 : u 72 = (bif !(((((((!true) || false) || false) || false) || ((!true) && (!true))) || false) || false) then .pointer (some ⟨bA, 0, none⟩) else undef) := q0
                  have p68 : u 68 = .bool (((((((!true) || false) || false) || false) || ((!true) && (!true))) || false) || false) := q1
                  first | exact step_off (wanted_off rfl rfl rfl hN rfl p68) rfl | exact step_off (wanted_undef rfl rfl rfl hN rfl p68) rfl | exact step_on (wanted_on rfl rfl rfl hN rfl p68) (ext_val hS (run_ld rfl ((eval_in rfl hN rfl).trans p72) (ld_int ((cell_of_heap (hS.h (bA, g.arr, 39) (by simp))).trans (rfl : g.arr[0]? = some _)))) rfl)
                refine steps_cons ?_ ?_
                · intro u W hS hp
                  obtain ⟨q0, q1, q2, _⟩ := hp
                  have p71 : u 71 = (bif !(((((((!true) || false) || false) || false) || ((!true) && (!true))) || false) || false) then .int .i64 m.c.toNat else undef) := q0
                  have p73 : u 73 = (bif !(((((((!true) || false) || false) || false) || ((!true) && (!true))) || false) || false) then .int .i64 g.c else undef) := q1
                  have p68 : u 68 = .bool (((((((!true) || false) || false) || false) || ((!true) && (!true))) || false) || false) := q2
                  first | exact step_off (wanted_off rfl rfl rfl hN rfl p68) rfl | exact step_off (wanted_undef rfl rfl rfl hN rfl p68) rfl | exact step_on (wanted_on rfl rfl rfl hN rfl p68) (ext_val hS (run_bin rfl ((eval_in rfl hN rfl).trans p71) ((eval_in rfl hN rfl).trans p73) rfl (i_geq zq6)) rfl)
                refine steps_cons ?_ ?_
                · intro u W hS hp
                  obtain ⟨q0, q1, _⟩ := hp
                  have p68 : u 68 = .bool (((((((!true) || false) || false) || false) || ((!true) && (!true))) || false) || false) := q0
                  have p74 : u 74 = (bif !(((((((!true) || false) || false) || false) || ((!true) && (!true))) || false) || false) then .bool false else undef) := q1
                  first | (first | exact step_on (wanted_free rfl) (ext_val hS (run_pickT rfl ((eval_in rfl hN rfl).trans p68) rfl) rfl) | exact step_on (wanted_free rfl) (ext_val hS (run_pickF rfl ((eval_in rfl hN rfl).trans p68) ((eval_in rfl hN rfl).trans p74)) rfl))
                exact steps_nil
              · obtain ⟨_, _, _, _, _, _, _, _, _, _, _, _, _, _, _, _, _, _, _, _, _, _, _, _, _, _, _, _, _, _, _, _, _, _, _, _, _, _, _, _, _, _, _, _, _, _, _, _, _, _, _, _, _, _, _, q55, _⟩ := hF
                have p75 : u 75 = .bool ((((((((!true) || false) || false) || false) || ((!true) && (!true))) || false) || false) || false) := q55
                simp only [frm, frmL, Nat.reduceAdd, p75]
                clear p75
                go_wp2_with fail
                go_meet
                exact ⟨rfl, Lib.hid hS⟩
          case rest =>
            clear hcf hct hft zq1 zq2 zq3 zq4 zq5 zq6 hgok HS3
            obtain ⟨rfl, HS⟩ := hcut
            go_upto_region 9 with fail
            obtain ⟨nt, hnt⟩ : ∃ b, ((m.t.toNat : Int) != (hm : Int)) = b := ⟨_, rfl⟩
            obtain ⟨nf, hnf⟩ : ∃ b, ((m.f.toNat : Int) != (hm : Int)) = b := ⟨_, rfl⟩
            obtain ⟨ht, hht⟩ : ∃ b, g.isHome m.t.toNat = b := ⟨_, rfl⟩
            obtain ⟨hf, hhf⟩ : ∃ b, g.isHome m.f.toNat = b := ⟨_, rfl⟩
            have f1 : (ht && nt) = false := by
              cases ht
              · rfl
              · rw [← hnt, Bool.true_and, bne_eq_false_iff_eq, ← HHM.out]; exact HV.out.ht hht
            have f2 : (hf && nf) = false := by
              cases hf
              · rfl
              · rw [← hnf, Bool.true_and, bne_eq_false_iff_eq, ← HHM.out]; exact HV.out.hf hhf
            have f3 : cl = 1 → nt = false := fun h => by rw [← hnt, bne_eq_false_iff_eq, ← HHM.out]; exact HV.out.c1 (HCL.out.trans h)
            have f4 : cl = 2 → nf = false := fun h => by rw [← hnf, bne_eq_false_iff_eq, ← HHM.out]; exact HV.out.c2 (HCL.out.trans h)
            have hcl : cl = 1 ∨ cl = 2 ∨ cl = 3 := by rw [← HCL.out]; exact HV.out.cl
            go_cut [117] (fun s wx => s = .bool false ∧ Hid (St [(bB, boxOf m, 25), (bA, g.arr, 39)] w wx))
            case first =>
              rcases hcl with rfl | rfl | rfl
              · have f5 := f3 rfl
                subst f5
                refine region_seq (D := [false, false, false, false, false, false, false, false, false, false, false, false, false, false, false, false, false, false, false, false, false, false, false, false, false, false, false, false, false, false, false, false, false, false, false, false, false, false, false, false, false, false, false, false, false, false, false, false, false, false, false, false, false, false, false, false, false, false, false, false, false, false, false, false, false, false, false, false, false, false, false, false, false, false, false, false, true, true, true, true, true, true, true, true, true, true, true, true, true, true, true, true, true, true, true, true, true, true, true, true, true, true, true, true, true, true, true, true, true, true, true, true, true, true, true, true, true, true]) (S := fun W => St [(bB, boxOf m, 25), (bA, g.arr, 39)] w W) (R := RB) (F := FF [isV (.int .u8 1), isV (.bool true), isV (.bool true), isV ((bif true then .pointer (some ⟨bB, 2, none⟩) else undef)), isV ((bif true then .int .u8 m.t.toNat else undef)), isV ((bif true then .int .u8 hm else undef)), isV ((bif true then .bool false else undef)), isV (.bool (true && false)), isV (.bool (true && false)), isV ((bif !(true && false) then .int .u8 1 else undef)), isV ((bif !(true && false) then .bool false else undef)), isV ((bif !(true && false) then .bool false else undef)), isV ((bif (!(true && false) && false) then .pointer (some ⟨bB, 1, none⟩) else undef)), isV ((bif (!(true && false) && false) then .int .u8 m.f.toNat else undef)), isV ((bif (!(true && false) && false) then .int .u8 hm else undef)), isV ((bif (!(true && false) && false) then .bool nf else undef)), isV ((bif !(true && false) then .bool (false && nf) else undef)), isV (.bool ((true && false) || (false && nf))), isV (.bool ((true && false) || (false && nf))), isV ((bif !((true && false) || (false && nf)) then .agg g.arr else undef)), isV ((bif !((true && false) || (false && nf)) then .pointer (some ⟨bB, 2, none⟩) else undef)), isV ((bif !((true && false) || (false && nf)) then .int .u8 m.t.toNat else undef)), isV ((bif !((true && false) || (false && nf)) then .bool ht else undef)), isV ((bif !((true && false) || (false && nf)) then .bool ht else undef)), isV ((bif (!((true && false) || (false && nf)) && ht) then .pointer (some ⟨bB, 2, none⟩) else undef)), isV ((bif (!((true && false) || (false && nf)) && ht) then .int .u8 m.t.toNat else undef)), isV ((bif (!((true && false) || (false && nf)) && ht) then .int .u8 hm else undef)), isV ((bif (!((true && false) || (false && nf)) && ht) then .bool false else undef)), isV ((bif !((true && false) || (false && nf)) then .bool (ht && false) else undef)), isV (.bool (((true && false) || (false && nf)) || (ht && false))), isV (.bool (((true && false) || (false && nf)) || (ht && false))), isV ((bif !(((true && false) || (false && nf)) || (ht && false)) then .agg g.arr else undef)), isV ((bif !(((true && false) || (false && nf)) || (ht && false)) then .pointer (some ⟨bB, 1, none⟩) else undef)), isV ((bif !(((true && false) || (false && nf)) || (ht && false)) then .int .u8 m.f.toNat else undef)), isV ((bif !(((true && false) || (false && nf)) || (ht && false)) then .bool hf else undef)), isV ((bif !(((true && false) || (false && nf)) || (ht && false)) then .bool hf else undef)), isV ((bif (!(((true && false) || (false && nf)) || (ht && false)) && hf) then .pointer (some ⟨bB, 1, none⟩) else undef)), isV ((bif (!(((true && false) || (false && nf)) || (ht && false)) && hf) then .int .u8 m.f.toNat else undef)), isV ((bif (!(((true && false) || (false && nf)) || (ht && false)) && hf) then .int .u8 hm else undef)), isV ((bif (!(((true && false) || (false && nf)) || (ht && false)) && hf) then .bool nf else undef)), isV ((bif !(((true && false) || (false && nf)) || (ht && false)) then .bool (hf && nf) else undef)), isV (.bool ((((true && false) || (false && nf)) || (ht && false)) || (hf && nf)))]) rfl (by kernel_rfl) (FF_st _ _) HS.out (fun hN => ?_) (fun u W hS hF => ?_)
                · refine steps_cons ?_ ?_
                  · intro u W hS hp
                    exact step_on (wanted_free rfl) (ext_val hS (run_mv rfl ((eval_out rfl).trans rfl)) rfl)
                  refine steps_cons ?_ ?_
                  · intro u W hS hp
                    obtain ⟨q0, _⟩ := hp
                    have p76 : u 76 = .int .u8 1 := q0
                    exact step_on (wanted_free rfl) (ext_val hS (run_bin rfl ((eval_in rfl hN rfl).trans p76) rfl rfl (i_eql rfl)) rfl)
                  refine steps_cons ?_ ?_
                  · intro u W hS hp
                    obtain ⟨q0, _⟩ := hp
                    have p77 : u 77 = .bool true := q0
                    exact step_on (wanted_free rfl) (ext_val hS (run_mv rfl ((eval_in rfl hN rfl).trans p77)) rfl)
                  refine steps_cons ?_ ?_
                  · intro u W hS hp
                    obtain ⟨q0, _⟩ := hp
                    have p78 : u 78 = .bool true := q0
                    first | exact step_off (wanted_off rfl rfl rfl hN rfl p78) rfl | exact step_off (wanted_undef rfl rfl rfl hN rfl p78) rfl | exact step_on (wanted_on rfl rfl rfl hN rfl p78) (ext_val hS (run_fa rfl ((eval_out rfl).trans rfl) (fa25_2 bB)) rfl)
                  refine steps_cons ?_ ?_
                  · intro u W hS hp
                    obtain ⟨q0, q1, _⟩ := hp
                    have p79 : u 79 = (bif true then .pointer (some ⟨bB, 2, none⟩) else undef) := q0
                    have p78 : u 78 = .bool true := q1
                    first | exact step_off (wanted_off rfl rfl rfl hN rfl p78) rfl | exact step_off (wanted_undef rfl rfl rfl hN rfl p78) rfl | exact step_on (wanted_on rfl rfl rfl hN rfl p78) (ext_val hS (run_ld rfl ((eval_in rfl hN rfl).trans p79) (ld_u8 ((cell_of_heap (hS.h (bB, boxOf m, 25) (by simp))).trans (rfl : (boxOf m)[2]? = some _)))) rfl)
                  refine steps_cons ?_ ?_
                  · intro u W hS hp
                    obtain ⟨q0, _⟩ := hp
                    have p78 : u 78 = .bool true := q0
                    first | exact step_off (wanted_off rfl rfl rfl hN rfl p78) rfl | exact step_off (wanted_undef rfl rfl rfl hN rfl p78) rfl | exact step_on (wanted_on rfl rfl rfl hN rfl p78) (ext_val hS (run_mv rfl ((eval_out rfl).trans rfl)) rfl)
                  refine steps_cons ?_ ?_
                  · intro u W hS hp
                    obtain ⟨q0, q1, q2, _⟩ := hp
                    have p80 : u 80 = (bif true then .int .u8 m.t.toNat else undef) := q0
                    have p81 : u 81 = (bif true then .int .u8 hm else undef) := q1
                    have p78 : u 78 = .bool true := q2
                    first | exact step_off (wanted_off rfl rfl rfl hN rfl p78) rfl | exact step_off (wanted_undef rfl rfl rfl hN rfl p78) rfl | exact step_on (wanted_on rfl rfl rfl hN rfl p78) (ext_val hS (run_bin rfl ((eval_in rfl hN rfl).trans p80) ((eval_in rfl hN rfl).trans p81) rfl (i_neq hnt)) rfl)
                  refine steps_cons ?_ ?_
                  · intro u W hS hp
                    obtain ⟨q0, q1, _⟩ := hp
                    have p78 : u 78 = .bool true := q0
                    have p82 : u 82 = (bif true then .bool false else undef) := q1
                    first | (first | exact step_on (wanted_free rfl) (ext_val hS (run_pickT rfl ((eval_in rfl hN rfl).trans p78) ((eval_in rfl hN rfl).trans p82)) rfl) | exact step_on (wanted_free rfl) (ext_val hS (run_pickF rfl ((eval_in rfl hN rfl).trans p78) rfl) rfl))
                  refine steps_cons ?_ ?_
                  · intro u W hS hp
                    obtain ⟨q0, q1, _⟩ := hp
                    have p83 : u 83 = .bool (true && false) := q0
                    exact step_on (wanted_free rfl) (ext_val hS (run_mv rfl ((eval_in rfl hN rfl).trans p83)) rfl)
                  refine steps_cons ?_ ?_
                  · intro u W hS hp
                    obtain ⟨q0, _⟩ := hp
                    have p84 : u 84 = .bool (true && false) := q0
                    first | exact step_off (wanted_off rfl rfl rfl hN rfl p84) rfl | exact step_off (wanted_undef rfl rfl rfl hN rfl p84) rfl | exact step_on (wanted_on rfl rfl rfl hN rfl p84) (ext_val hS (run_mv rfl ((eval_out rfl).trans rfl)) rfl)
                  refine steps_cons ?_ ?_
                  · intro u W hS hp
                    obtain ⟨q0, q1, _⟩ := hp
                    have p85 : u 85 = (bif !(true && false) then .int .u8 1 else undef) := q0
                    have p84 : u 84 = .bool (true && false) := q1
                    first | exact step_off (wanted_off rfl rfl rfl hN rfl p84) rfl | exact step_off (wanted_undef rfl rfl rfl hN rfl p84) rfl | exact step_on (wanted_on rfl rfl rfl hN rfl p84) (ext_val hS (run_bin rfl ((eval_in rfl hN rfl).trans p85) rfl rfl (i_eql rfl)) rfl)
                  refine steps_cons ?_ ?_
                  · intro u W hS hp
                    obtain ⟨q0, q1, q2, _⟩ := hp
                    have p86 : u 86 = (bif !(true && false) then .bool false else undef) := q0
                    have p84 : u 84 = .bool (true && false) := q1
                    first | exact step_off (wanted_off rfl rfl rfl hN rfl p84) rfl | exact step_off (wanted_undef rfl rfl rfl hN rfl p84) rfl | exact step_on (wanted_on rfl rfl rfl hN rfl p84) (ext_val hS (run_mv rfl ((eval_in rfl hN rfl).trans p86)) rfl)
                  refine steps_cons ?_ ?_
                  · intro u W hS hp
                    obtain ⟨q0, _⟩ := hp
                    have p87 : u 87 = (bif !(true && false) then .bool false else undef) := q0
                    first | exact step_off (wanted_off rfl rfl rfl hN rfl p87) rfl | exact step_off (wanted_undef rfl rfl rfl hN rfl p87) rfl | exact step_on (wanted_on rfl rfl rfl hN rfl p87) (ext_val hS (run_fa rfl ((eval_out rfl).trans rfl) (fa25_1 bB)) rfl)
                  refine steps_cons ?_ ?_
                  · intro u W hS hp
                    obtain ⟨q0, q1, _⟩ := hp
                    have p88 : u 88 = (bif (!(true && false) && false) then .pointer (some ⟨bB, 1, none⟩) else undef) := q0
                    have p87 : u 87 = (bif !(true && false) then .bool false else undef) := q1
                    first | exact step_off (wanted_off rfl rfl rfl hN rfl p87) rfl | exact step_off (wanted_undef rfl rfl rfl hN rfl p87) rfl | exact step_on (wanted_on rfl rfl rfl hN rfl p87) (ext_val hS (run_ld rfl ((eval_in rfl hN rfl).trans p88) (ld_u8 ((cell_of_heap (hS.h (bB, boxOf m, 25) (by simp))).trans (rfl : (boxOf m)[1]? = some _)))) rfl)
                  refine steps_cons ?_ ?_
                  · intro u W hS hp
                    obtain ⟨q0, _⟩ := hp
                    have p87 : u 87 = (bif !(true && false) then .bool false else undef) := q0
                    first | exact step_off (wanted_off rfl rfl rfl hN rfl p87) rfl | exact step_off (wanted_undef rfl rfl rfl hN rfl p87) rfl | exact step_on (wanted_on rfl rfl rfl hN rfl p87) (ext_val hS (run_mv rfl ((eval_out rfl).trans rfl)) rfl)
                  refine steps_cons ?_ ?_
                  · intro u W hS hp
                    obtain ⟨q0, q1, q2, _⟩ := hp
                    have p89 : u 89 = (bif (!(true && false) && false) then .int .u8 m.f.toNat else undef) := q0
                    have p90 : u 90 = (bif (!(true && false) && false) then .int .u8 hm else undef) := q1
                    have p87 : u 87 = (bif !(true && false) then .bool false else undef) := q2
                    first | exact step_off (wanted_off rfl rfl rfl hN rfl p87) rfl | exact step_off (wanted_undef rfl rfl rfl hN rfl p87) rfl | exact step_on (wanted_on rfl rfl rfl hN rfl p87) (ext_val hS (run_bin rfl ((eval_in rfl hN rfl).trans p89) ((eval_in rfl hN rfl).trans p90) rfl (i_neq hnf)) rfl)
                  refine steps_cons ?_ ?_
                  · intro u W hS hp
                    obtain ⟨q0, q1, q2, _⟩ := hp
                    have p87 : u 87 = (bif !(true && false) then .bool false else undef) := q0
                    have p91 : u 91 = (bif (!(true && false) && false) then .bool nf else undef) := q1
                    have p84 : u 84 = .bool (true && false) := q2
                    first | exact step_off (wanted_off rfl rfl rfl hN rfl p84) rfl | exact step_off (wanted_undef rfl rfl rfl hN rfl p84) rfl | (first | exact step_on (wanted_on rfl rfl rfl hN rfl p84) (ext_val hS (run_pickT rfl ((eval_in rfl hN rfl).trans p87) ((eval_in rfl hN rfl).trans p91)) rfl) | exact step_on (wanted_on rfl rfl rfl hN rfl p84) (ext_val hS (run_pickF rfl ((eval_in rfl hN rfl).trans p87) rfl) rfl))
                  refine steps_cons ?_ ?_
                  · intro u W hS hp
                    obtain ⟨q0, q1, _⟩ := hp
                    have p84 : u 84 = .bool (true && false) := q0
                    have p92 : u 92 = (bif !(true && false) then .bool (false && nf) else undef) := q1
                    first | (first | exact step_on (wanted_free rfl) (ext_val hS (run_pickT rfl ((eval_in rfl hN rfl).trans p84) rfl) rfl) | exact step_on (wanted_free rfl) (ext_val hS (run_pickF rfl ((eval_in rfl hN rfl).trans p84) ((eval_in rfl hN rfl).trans p92)) rfl))
                  refine steps_cons ?_ ?_
                  · intro u W hS hp
                    obtain ⟨q0, q1, _⟩ := hp
                    have p93 : u 93 = .bool ((true && false) || (false && nf)) := q0
                    exact step_on (wanted_free rfl) (ext_val hS (run_mv rfl ((eval_in rfl hN rfl).trans p93)) rfl)
                  refine steps_cons ?_ ?_
                  · intro u W hS hp
                    obtain ⟨q0, _⟩ := hp
                    have p94 : u 94 = .bool ((true && false) || (false && nf)) := q0
                    cases nf <;> (first | exact step_off (wanted_off rfl rfl rfl hN rfl p94) rfl | exact step_off (wanted_undef rfl rfl rfl hN rfl p94) rfl | exact step_on (wanted_on rfl rfl rfl hN rfl p94) (ext_val hS (run_ld rfl ((eval_out rfl).trans rfl) (ld39 (hS.h (bA, g.arr, 39) (by simp)))) rfl))
                  refine steps_cons ?_ ?_
                  · intro u W hS hp
                    obtain ⟨q0, _⟩ := hp
                    have p94 : u 94 = .bool ((true && false) || (false && nf)) := q0
                    cases nf <;> (first | exact step_off (wanted_off rfl rfl rfl hN rfl p94) rfl | exact step_off (wanted_undef rfl rfl rfl hN rfl p94) rfl | exact step_on (wanted_on rfl rfl rfl hN rfl p94) (ext_val hS (run_fa rfl ((eval_out rfl).trans rfl) (fa25_2 bB)) rfl))
                  refine steps_cons ?_ ?_
                  · intro u W hS hp
                    obtain ⟨q0, q1, _⟩ := hp
                    have p96 : u 96 = (bif !((true && false) || (false && nf)) then .pointer (some ⟨bB, 2, none⟩) else undef) := q0
                    have p94 : u 94 = .bool ((true && false) || (false && nf)) := q1
                    cases nf <;> (first | exact step_off (wanted_off rfl rfl rfl hN rfl p94) rfl | exact step_off (wanted_undef rfl rfl rfl hN rfl p94) rfl | exact step_on (wanted_on rfl rfl rfl hN rfl p94) (ext_val hS (run_ld rfl ((eval_in rfl hN rfl).trans p96) (ld_u8 ((cell_of_heap (hS.h (bB, boxOf m, 25) (by simp))).trans (rfl : (boxOf m)[2]? = some _)))) rfl))
                  refine steps_cons ?_ ?_
                  · intro u W hS hp
                    obtain ⟨q0, q1, q2, q3, _⟩ := hp
                    have p95 : u 95 = (bif !((true && false) || (false && nf)) then .agg g.arr else undef) := q0
                    have p97 : u 97 = (bif !((true && false) || (false && nf)) then .int .u8 m.t.toNat else undef) := q1
                    have p94 : u 94 = .bool ((true && false) || (false && nf)) := q2
                    cases nf <;> (first | exact step_off (wanted_off rfl rfl rfl hN rfl p94) rfl | exact step_off (wanted_undef rfl rfl rfl hN rfl p94) rfl | exact step_on (wanted_on rfl rfl rfl hN rfl p94) (ext_call (run_call rfl rfl (map2 ((eval_in rfl hN rfl).trans p95) ((eval_in rfl hN rfl).trans p97)) Tryd.func24 nm24 bd24) ((ishome_any g m.t.toNat m.t.toNat_lt W).mono fun _ _ ⟨e, h⟩ => ⟨_, e.trans (congrArg (fun x => Ending.returned (Value.bool x)) hht), rfl, hS.next h, h⟩)))
                  refine steps_cons ?_ ?_
                  · intro u W hS hp
                    obtain ⟨q0, q1, q2, _⟩ := hp
                    have p98 : u 98 = (bif !((true && false) || (false && nf)) then .bool ht else undef) := q0
                    have p94 : u 94 = .bool ((true && false) || (false && nf)) := q2
                    cases nf <;> (first | exact step_off (wanted_off rfl rfl rfl hN rfl p94) rfl | exact step_off (wanted_undef rfl rfl rfl hN rfl p94) rfl | exact step_on (wanted_on rfl rfl rfl hN rfl p94) (ext_val hS (run_mv rfl ((eval_in rfl hN rfl).trans p98)) rfl))
                  refine steps_cons ?_ ?_
                  · intro u W hS hp
                    obtain ⟨q0, _⟩ := hp
                    have p99 : u 99 = (bif !((true && false) || (false && nf)) then .bool ht else undef) := q0
                    cases ht <;> cases nf <;> (first | exact step_off (wanted_off rfl rfl rfl hN rfl p99) rfl | exact step_off (wanted_undef rfl rfl rfl hN rfl p99) rfl | exact step_on (wanted_on rfl rfl rfl hN rfl p99) (ext_val hS (run_fa rfl ((eval_out rfl).trans rfl) (fa25_2 bB)) rfl))
                  refine steps_cons ?_ ?_
                  · intro u W hS hp
                    obtain ⟨q0, q1, _⟩ := hp
                    have p100 : u 100 = (bif (!((true && false) || (false && nf)) && ht) then .pointer (some ⟨bB, 2, none⟩) else undef) := q0
                    have p99 : u 99 = (bif !((true && false) || (false && nf)) then .bool ht else undef) := q1
                    cases ht <;> cases nf <;> (first | exact step_off (wanted_off rfl rfl rfl hN rfl p99) rfl | exact step_off (wanted_undef rfl rfl rfl hN rfl p99) rfl | exact step_on (wanted_on rfl rfl rfl hN rfl p99) (ext_val hS (run_ld rfl ((eval_in rfl hN rfl).trans p100) (ld_u8 ((cell_of_heap (hS.h (bB, boxOf m, 25) (by simp))).trans (rfl : (boxOf m)[2]? = some _)))) rfl))
                  refine steps_cons ?_ ?_
                  · intro u W hS hp
                    obtain ⟨q0, _⟩ := hp
                    have p99 : u 99 = (bif !((true && false) || (false && nf)) then .bool ht else undef) := q0
                    cases ht <;> cases nf <;> (first | exact step_off (wanted_off rfl rfl rfl hN rfl p99) rfl | exact step_off (wanted_undef rfl rfl rfl hN rfl p99) rfl | exact step_on (wanted_on rfl rfl rfl hN rfl p99) (ext_val hS (run_mv rfl ((eval_out rfl).trans rfl)) rfl))
                  refine steps_cons ?_ ?_
                  · intro u W hS hp
                    obtain ⟨q0, q1, q2, _⟩ := hp
                    have p101 : u 101 = (bif (!((true && false) || (false && nf)) && ht) then .int .u8 m.t.toNat else undef) := q0
                    have p102 : u 102 = (bif (!((true && false) || (false && nf)) && ht) then .int .u8 hm else undef) := q1
                    have p99 : u 99 = (bif !((true && false) || (false && nf)) then .bool ht else undef) := q2
                    cases ht <;> cases nf <;> (first | exact step_off (wanted_off rfl rfl rfl hN rfl p99) rfl | exact step_off (wanted_undef rfl rfl rfl hN rfl p99) rfl | exact step_on (wanted_on rfl rfl rfl hN rfl p99) (ext_val hS (run_bin rfl ((eval_in rfl hN rfl).trans p101) ((eval_in rfl hN rfl).trans p102) rfl (i_neq hnt)) rfl))
                  refine steps_cons ?_ ?_
                  · intro u W hS hp
                    obtain ⟨q0, q1, q2, _⟩ := hp
                    have p99 : u 99 = (bif !((true && false) || (false && nf)) then .bool ht else undef) := q0
                    have p103 : u 103 = (bif (!((true && false) || (false && nf)) && ht) then .bool false else undef) := q1
                    have p94 : u 94 = .bool ((true && false) || (false && nf)) := q2
                    cases ht <;> cases nf <;> (first | exact step_off (wanted_off rfl rfl rfl hN rfl p94) rfl | exact step_off (wanted_undef rfl rfl rfl hN rfl p94) rfl | (first | exact step_on (wanted_on rfl rfl rfl hN rfl p94) (ext_val hS (run_pickT rfl ((eval_in rfl hN rfl).trans p99) ((eval_in rfl hN rfl).trans p103)) rfl) | exact step_on (wanted_on rfl rfl rfl hN rfl p94) (ext_val hS (run_pickF rfl ((eval_in rfl hN rfl).trans p99) rfl) rfl)))
                  refine steps_cons ?_ ?_
                  · intro u W hS hp
                    obtain ⟨q0, q1, _⟩ := hp
                    have p94 : u 94 = .bool ((true && false) || (false && nf)) := q0
                    have p104 : u 104 = (bif !((true && false) || (false && nf)) then .bool (ht && false) else undef) := q1
                    cases nf <;> (first | (first | exact step_on (wanted_free rfl) (ext_val hS (run_pickT rfl ((eval_in rfl hN rfl).trans p94) rfl) rfl) | exact step_on (wanted_free rfl) (ext_val hS (run_pickF rfl ((eval_in rfl hN rfl).trans p94) ((eval_in rfl hN rfl).trans p104)) rfl)))
                  refine steps_cons ?_ ?_
                  · intro u W hS hp
                    obtain ⟨q0, q1, _⟩ := hp
                    have p105 : u 105 = .bool (((true && false) || (false && nf)) || (ht && false)) := q0
                    exact step_on (wanted_free rfl) (ext_val hS (run_mv rfl ((eval_in rfl hN rfl).trans p105)) rfl)
                  refine steps_cons ?_ ?_
                  · intro u W hS hp
                    obtain ⟨q0, _⟩ := hp
                    have p106 : u 106 = .bool (((true && false) || (false && nf)) || (ht && false)) := q0
                    cases ht <;> cases nf <;> (first | exact step_off (wanted_off rfl rfl rfl hN rfl p106) rfl | exact step_off (wanted_undef rfl rfl rfl hN rfl p106) rfl | exact step_on (wanted_on rfl rfl rfl hN rfl p106) (ext_val hS (run_ld rfl ((eval_out rfl).trans rfl) (ld39 (hS.h (bA, g.arr, 39) (by simp)))) rfl))
                  refine steps_cons ?_ ?_
                  · intro u W hS hp
                    obtain ⟨q0, _⟩ := hp
                    have p106 : u 106 = .bool (((true && false) || (false && nf)) || (ht && false)) := q0
                    cases ht <;> cases nf <;> (first | exact step_off (wanted_off rfl rfl rfl hN rfl p106) rfl | exact step_off (wanted_undef rfl rfl rfl hN rfl p106) rfl | exact step_on (wanted_on rfl rfl rfl hN rfl p106) (ext_val hS (run_fa rfl ((eval_out rfl).trans rfl) (fa25_1 bB)) rfl))
                  refine steps_cons ?_ ?_
                  · intro u W hS hp
                    obtain ⟨q0, q1, _⟩ := hp
                    have p108 : u 108 = (bif !(((true && false) || (false && nf)) || (ht && false)) then .pointer (some ⟨bB, 1, none⟩) else undef) := q0
                    have p106 : u 106 = .bool (((true && false) || (false && nf)) || (ht && false)) := q1
                    cases ht <;> cases nf <;> (first | exact step_off (wanted_off rfl rfl rfl hN rfl p106) rfl | exact step_off (wanted_undef rfl rfl rfl hN rfl p106) rfl | exact step_on (wanted_on rfl rfl rfl hN rfl p106) (ext_val hS (run_ld rfl ((eval_in rfl hN rfl).trans p108) (ld_u8 ((cell_of_heap (hS.h (bB, boxOf m, 25) (by simp))).trans (rfl : (boxOf m)[1]? = some _)))) rfl))
                  refine steps_cons ?_ ?_
                  · intro u W hS hp
                    obtain ⟨q0, q1, q2, q3, _⟩ := hp
                    have p107 : u 107 = (bif !(((true && false) || (false && nf)) || (ht && false)) then .agg g.arr else undef) := q0
                    have p109 : u 109 = (bif !(((true && false) || (false && nf)) || (ht && false)) then .int .u8 m.f.toNat else undef) := q1
                    have p106 : u 106 = .bool (((true && false) || (false && nf)) || (ht && false)) := q2
                    cases ht <;> cases nf <;> (first | exact step_off (wanted_off rfl rfl rfl hN rfl p106) rfl | exact step_off (wanted_undef rfl rfl rfl hN rfl p106) rfl | exact step_on (wanted_on rfl rfl rfl hN rfl p106) (ext_call (run_call rfl rfl (map2 ((eval_in rfl hN rfl).trans p107) ((eval_in rfl hN rfl).trans p109)) Tryd.func24 nm24 bd24) ((ishome_any g m.f.toNat m.f.toNat_lt W).mono fun _ _ ⟨e, h⟩ => ⟨_, e.trans (congrArg (fun x => Ending.returned (Value.bool x)) hhf), rfl, hS.next h, h⟩)))
                  refine steps_cons ?_ ?_
                  · intro u W hS hp
                    obtain ⟨q0, q1, q2, _⟩ := hp
                    have p110 : u 110 = (bif !(((true && false) || (false && nf)) || (ht && false)) then .bool hf else undef) := q0
                    have p106 : u 106 = .bool (((true && false) || (false && nf)) || (ht && false)) := q2
                    cases ht <;> cases nf <;> (first | exact step_off (wanted_off rfl rfl rfl hN rfl p106) rfl | exact step_off (wanted_undef rfl rfl rfl hN rfl p106) rfl | exact step_on (wanted_on rfl rfl rfl hN rfl p106) (ext_val hS (run_mv rfl ((eval_in rfl hN rfl).trans p110)) rfl))
                  refine steps_cons ?_ ?_
                  · intro u W hS hp
                    obtain ⟨q0, _⟩ := hp
                    have p111 : u 111 = (bif !(((true && false) || (false && nf)) || (ht && false)) then .bool hf else undef) := q0
                    cases hf <;> cases ht <;> cases nf <;> (first | exact step_off (wanted_off rfl rfl rfl hN rfl p111) rfl | exact step_off (wanted_undef rfl rfl rfl hN rfl p111) rfl | exact step_on (wanted_on rfl rfl rfl hN rfl p111) (ext_val hS (run_fa rfl ((eval_out rfl).trans rfl) (fa25_1 bB)) rfl))
                  refine steps_cons ?_ ?_
                  · intro u W hS hp
                    obtain ⟨q0, q1, _⟩ := hp
                    have p112 : u 112 = (bif (!(((true && false) || (false && nf)) || (ht && false)) && hf) then .pointer (some ⟨bB, 1, none⟩) else undef) := q0
                    have p111 : u 111 = (bif !(((true && false) || (false && nf)) || (ht && false)) then .bool hf else undef) := q1
                    cases hf <;> cases ht <;> cases nf <;> (first | exact step_off (wanted_off rfl rfl rfl hN rfl p111) rfl | exact step_off (wanted_undef rfl rfl rfl hN rfl p111) rfl | exact step_on (wanted_on rfl rfl rfl hN rfl p111) (ext_val hS (run_ld rfl ((eval_in rfl hN rfl).trans p112) (ld_u8 ((cell_of_heap (hS.h (bB, boxOf m, 25) (by simp))).trans (rfl : (boxOf m)[1]? = some _)))) rfl))
                  refine steps_cons ?_ ?_
                  · intro u W hS hp
                    obtain ⟨q0, _⟩ := hp
                    have p111 : u 111 = (bif !(((true && false) || (false && nf)) || (ht && false)) then .bool hf else undef) := q0
                    cases hf <;> cases ht <;> cases nf <;> (first | exact step_off (wanted_off rfl rfl rfl hN rfl p111) rfl | exact step_off (wanted_undef rfl rfl rfl hN rfl p111) rfl | exact step_on (wanted_on rfl rfl rfl hN rfl p111) (ext_val hS (run_mv rfl ((eval_out rfl).trans rfl)) rfl))
                  refine steps_cons ?_ ?_
                  · intro u W hS hp
                    obtain ⟨q0, q1, q2, _⟩ := hp
                    have p113 : u 113 = (bif (!(((true && false) || (false && nf)) || (ht && false)) && hf) then .int .u8 m.f.toNat else undef) := q0
                    have p114 : u 114 = (bif (!(((true && false) || (false && nf)) || (ht && false)) && hf) then .int .u8 hm else undef) := q1
                    have p111 : u 111 = (bif !(((true && false) || (false && nf)) || (ht && false)) then .bool hf else undef) := q2
                    cases hf <;> cases ht <;> cases nf <;> (first | exact step_off (wanted_off rfl rfl rfl hN rfl p111) rfl | exact step_off (wanted_undef rfl rfl rfl hN rfl p111) rfl | exact step_on (wanted_on rfl rfl rfl hN rfl p111) (ext_val hS (run_bin rfl ((eval_in rfl hN rfl).trans p113) ((eval_in rfl hN rfl).trans p114) rfl (i_neq hnf)) rfl))
                  refine steps_cons ?_ ?_
                  · intro u W hS hp
                    obtain ⟨q0, q1, q2, _⟩ := hp
                    have p111 : u 111 = (bif !(((true && false) || (false && nf)) || (ht && false)) then .bool hf else undef) := q0
                    have p115 : u 115 = (bif (!(((true && false) || (false && nf)) || (ht && false)) && hf) then .bool nf else undef) := q1
                    have p106 : u 106 = .bool (((true && false) || (false && nf)) || (ht && false)) := q2
                    cases hf <;> cases ht <;> cases nf <;> (first | exact step_off (wanted_off rfl rfl rfl hN rfl p106) rfl | exact step_off (wanted_undef rfl rfl rfl hN rfl p106) rfl | (first | exact step_on (wanted_on rfl rfl rfl hN rfl p106) (ext_val hS (run_pickT rfl ((eval_in rfl hN rfl).trans p111) ((eval_in rfl hN rfl).trans p115)) rfl) | exact step_on (wanted_on rfl rfl rfl hN rfl p106) (ext_val hS (run_pickF rfl ((eval_in rfl hN rfl).trans p111) rfl) rfl)))
                  refine steps_cons ?_ ?_
                  · intro u W hS hp
                    obtain ⟨q0, q1, _⟩ := hp
                    have p106 : u 106 = .bool (((true && false) || (false && nf)) || (ht && false)) := q0
                    have p116 : u 116 = (bif !(((true && false) || (false && nf)) || (ht && false)) then .bool (hf && nf) else undef) := q1
                    cases ht <;> cases nf <;> (first | (first | exact step_on (wanted_free rfl) (ext_val hS (run_pickT rfl ((eval_in rfl hN rfl).trans p106) rfl) rfl) | exact step_on (wanted_free rfl) (ext_val hS (run_pickF rfl ((eval_in rfl hN rfl).trans p106) ((eval_in rfl hN rfl).trans p116)) rfl)))
                  exact steps_nil
                · obtain ⟨_, _, _, _, _, _, _, _, _, _, _, _, _, _, _, _, _, _, _, _, _, _, _, _, _, _, _, _, _, _, _, _, _, _, _, _, _, _, _, _, _, q41, _⟩ := hF
                  have p117 : u 117 = .bool ((((true && false) || (false && nf)) || (ht && false)) || (hf && nf)) := q41
                  simp only [frm, frmL, Nat.reduceAdd, p117]
                  clear p117
                  have HS4 := Lib.hid hS
                  clear hS
                  rw [show ((((true && false) || (false && nf)) || (ht && false)) || (hf && nf)) = false from by revert f1 f2; clear hnt hnf hht hhf f3 f4; cases ht <;> cases hf <;> cases nf <;> decide]
                  go_wp2_with fail
                  go_meet
                  exact ⟨rfl, HS4⟩
              · have f5 := f4 rfl
                subst f5
                refine region_seq (D := [false, false, false, false, false, false, false, false, false, false, false, false, false, false, false, false, false, false, false, false, false, false, false, false, false, false, false, false, false, false, false, false, false, false, false, false, false, false, false, false, false, false, false, false, false, false, false, false, false, false, false, false, false, false, false, false, false, false, false, false, false, false, false, false, false, false, false, false, false, false, false, false, false, false, false, false, true, true, true, true, true, true, true, true, true, true, true, true, true, true, true, true, true, true, true, true, true, true, true, true, true, true, true, true, true, true, true, true, true, true, true, true, true, true, true, true, true, true]) (S := fun W => St [(bB, boxOf m, 25), (bA, g.arr, 39)] w W) (R := RB) (F := FF [isV (.int .u8 2), isV (.bool false), isV (.bool false), isV ((bif false then .pointer (some ⟨bB, 2, none⟩) else undef)), isV ((bif false then .int .u8 m.t.toNat else undef)), isV ((bif false then .int .u8 hm else undef)), isV ((bif false then .bool nt else undef)), isV (.bool (false && nt)), isV (.bool (false && nt)), isV ((bif !(false && nt) then .int .u8 2 else undef)), isV ((bif !(false && nt) then .bool true else undef)), isV ((bif !(false && nt) then .bool true else undef)), isV ((bif (!(false && nt) && true) then .pointer (some ⟨bB, 1, none⟩) else undef)), isV ((bif (!(false && nt) && true) then .int .u8 m.f.toNat else undef)), isV ((bif (!(false && nt) && true) then .int .u8 hm else undef)), isV ((bif (!(false && nt) && true) then .bool false else undef)), isV ((bif !(false && nt) then .bool (true && false) else undef)), isV (.bool ((false && nt) || (true && false))), isV (.bool ((false && nt) || (true && false))), isV ((bif !((false && nt) || (true && false)) then .agg g.arr else undef)), isV ((bif !((false && nt) || (true && false)) then .pointer (some ⟨bB, 2, none⟩) else undef)), isV ((bif !((false && nt) || (true && false)) then .int .u8 m.t.toNat else undef)), isV ((bif !((false && nt) || (true && false)) then .bool ht else undef)), isV ((bif !((false && nt) || (true && false)) then .bool ht else undef)), isV ((bif (!((false && nt) || (true && false)) && ht) then .pointer (some ⟨bB, 2, none⟩) else undef)), isV ((bif (!((false && nt) || (true && false)) && ht) then .int .u8 m.t.toNat else undef)), isV ((bif (!((false && nt) || (true && false)) && ht) then .int .u8 hm else undef)), isV ((bif (!((false && nt) || (true && false)) && ht) then .bool nt else undef)), isV ((bif !((false && nt) || (true && false)) then .bool (ht && nt) else undef)), isV (.bool (((false && nt) || (true && false)) || (ht && nt))), isV (.bool (((false && nt) || (true && false)) || (ht && nt))), isV ((bif !(((false && nt) || (true && false)) || (ht && nt)) then .agg g.arr else undef)), isV ((bif !(((false && nt) || (true && false)) || (ht && nt)) then .pointer (some ⟨bB, 1, none⟩) else undef)), isV ((bif !(((false && nt) || (true && false)) || (ht && nt)) then .int .u8 m.f.toNat else undef)), isV ((bif !(((false && nt) || (true && false)) || (ht && nt)) then .bool hf else undef)), isV ((bif !(((false && nt) || (true && false)) || (ht && nt)) then .bool hf else undef)), isV ((bif (!(((false && nt) || (true && false)) || (ht && nt)) && hf) then .pointer (some ⟨bB, 1, none⟩) else undef)), isV ((bif (!(((false && nt) || (true && false)) || (ht && nt)) && hf) then .int .u8 m.f.toNat else undef)), isV ((bif (!(((false && nt) || (true && false)) || (ht && nt)) && hf) then .int .u8 hm else undef)), isV ((bif (!(((false && nt) || (true && false)) || (ht && nt)) && hf) then .bool false else undef)), isV ((bif !(((false && nt) || (true && false)) || (ht && nt)) then .bool (hf && false) else undef)), isV (.bool ((((false && nt) || (true && false)) || (ht && nt)) || (hf && false)))]) rfl (by kernel_rfl) (FF_st _ _) HS.out (fun hN => ?_) (fun u W hS hF => ?_)
                · refine steps_cons ?_ ?_
                  · intro u W hS hp
                    exact step_on (wanted_free rfl) (ext_val hS (run_mv rfl ((eval_out rfl).trans rfl)) rfl)
                  refine steps_cons ?_ ?_
                  · intro u W hS hp
                    obtain ⟨q0, _⟩ := hp
                    have p76 : u 76 = .int .u8 2 := q0
                    exact step_on (wanted_free rfl) (ext_val hS (run_bin rfl ((eval_in rfl hN rfl).trans p76) rfl rfl (i_eql rfl)) rfl)
                  refine steps_cons ?_ ?_
                  · intro u W hS hp
                    obtain ⟨q0, _⟩ := hp
                    have p77 : u 77 = .bool false := q0
                    exact step_on (wanted_free rfl) (ext_val hS (run_mv rfl ((eval_in rfl hN rfl).trans p77)) rfl)
                  refine steps_cons ?_ ?_
                  · intro u W hS hp
                    obtain ⟨q0, _⟩ := hp
                    have p78 : u 78 = .bool false := q0
                    first | exact step_off (wanted_off rfl rfl rfl hN rfl p78) rfl | exact step_off (wanted_undef rfl rfl rfl hN rfl p78) rfl | exact step_on (wanted_on rfl rfl rfl hN rfl p78) (ext_val hS (run_fa rfl ((eval_out rfl).trans rfl) (fa25_2 bB)) rfl)
                  refine steps_cons ?_ ?_
                  · intro u W hS hp
                    obtain ⟨q0, q1, _⟩ := hp
                    have p79 : u 79 = (bif false then .pointer (some ⟨bB, 2, none⟩) else undef) := q0
                    have p78 : u 78 = .bool false := q1
                    first | exact step_off (wanted_off rfl rfl rfl hN rfl p78) rfl | exact step_off (wanted_undef rfl rfl rfl hN rfl p78) rfl | exact step_on (wanted_on rfl rfl rfl hN rfl p78) (ext_val hS (run_ld rfl ((eval_in rfl hN rfl).trans p79) (ld_u8 ((cell_of_heap (hS.h (bB, boxOf m, 25) (by simp))).trans (rfl : (boxOf m)[2]? = some _)))) rfl)
                  refine steps_cons ?_ ?_
                  · intro u W hS hp
                    obtain ⟨q0, _⟩ := hp
                    have p78 : u 78 = .bool false := q0
                    first | exact step_off (wanted_off rfl rfl rfl hN rfl p78) rfl | exact step_off (wanted_undef rfl rfl rfl hN rfl p78) rfl | exact step_on (wanted_on rfl rfl rfl hN rfl p78) (ext_val hS (run_mv rfl ((eval_out rfl).trans rfl)) rfl)
                  refine steps_cons ?_ ?_
                  · intro u W hS hp
                    obtain ⟨q0, q1, q2, _⟩ := hp
                    have p80 : u 80 = (bif false then .int .u8 m.t.toNat else undef) := q0
                    have p81 : u 81 = (bif false then .int .u8 hm else undef) := q1
                    have p78 : u 78 = .bool false := q2
                    first | exact step_off (wanted_off rfl rfl rfl hN rfl p78) rfl | exact step_off (wanted_undef rfl rfl rfl hN rfl p78) rfl | exact step_on (wanted_on rfl rfl rfl hN rfl p78) (ext_val hS (run_bin rfl ((eval_in rfl hN rfl).trans p80) ((eval_in rfl hN rfl).trans p81) rfl (i_neq hnt)) rfl)
                  refine steps_cons ?_ ?_
                  · intro u W hS hp
                    obtain ⟨q0, q1, _⟩ := hp
                    have p78 : u 78 = .bool false := q0
                    have p82 : u 82 = (bif false then .bool nt else undef) := q1
                    first | (first | exact step_on (wanted_free rfl) (ext_val hS (run_pickT rfl ((eval_in rfl hN rfl).trans p78) ((eval_in rfl hN rfl).trans p82)) rfl) | exact step_on (wanted_free rfl) (ext_val hS (run_pickF rfl ((eval_in rfl hN rfl).trans p78) rfl) rfl))
                  refine steps_cons ?_ ?_
                  · intro u W hS hp
                    obtain ⟨q0, q1, _⟩ := hp
                    have p83 : u 83 = .bool (false && nt) := q0
                    exact step_on (wanted_free rfl) (ext_val hS (run_mv rfl ((eval_in rfl hN rfl).trans p83)) rfl)
                  refine steps_cons ?_ ?_
                  · intro u W hS hp
                    obtain ⟨q0, _⟩ := hp
                    have p84 : u 84 = .bool (false && nt) := q0
                    cases nt <;> (first | exact step_off (wanted_off rfl rfl rfl hN rfl p84) rfl | exact step_off (wanted_undef rfl rfl rfl hN rfl p84) rfl | exact step_on (wanted_on rfl rfl rfl hN rfl p84) (ext_val hS (run_mv rfl ((eval_out rfl).trans rfl)) rfl))
                  refine steps_cons ?_ ?_
                  · intro u W hS hp
                    obtain ⟨q0, q1, _⟩ := hp
                    have p85 : u 85 = (bif !(false && nt) then .int .u8 2 else undef) := q0
                    have p84 : u 84 = .bool (false && nt) := q1
                    cases nt <;> (first | exact step_off (wanted_off rfl rfl rfl hN rfl p84) rfl | exact step_off (wanted_undef rfl rfl rfl hN rfl p84) rfl | exact step_on (wanted_on rfl rfl rfl hN rfl p84) (ext_val hS (run_bin rfl ((eval_in rfl hN rfl).trans p85) rfl rfl (i_eql rfl)) rfl))
                  refine steps_cons ?_ ?_
                  · intro u W hS hp
                    obtain ⟨q0, q1, q2, _⟩ := hp
                    have p86 : u 86 = (bif !(false && nt) then .bool true else undef) := q0
                    have p84 : u 84 = .bool (false && nt) := q1
                    cases nt <;> (first | exact step_off (wanted_off rfl rfl rfl hN rfl p84) rfl | exact step_off (wanted_undef rfl rfl rfl hN rfl p84) rfl | exact step_on (wanted_on rfl rfl rfl hN rfl p84) (ext_val hS (run_mv rfl ((eval_in rfl hN rfl).trans p86)) rfl))
                  refine steps_cons ?_ ?_
                  · intro u W hS hp
                    obtain ⟨q0, _⟩ := hp
                    have p87 : u 87 = (bif !(false && nt) then .bool true else undef) := q0
                    cases nt <;> (first | exact step_off (wanted_off rfl rfl rfl hN rfl p87) rfl | exact step_off (wanted_undef rfl rfl rfl hN rfl p87) rfl | exact step_on (wanted_on rfl rfl rfl hN rfl p87) (ext_val hS (run_fa rfl ((eval_out rfl).trans rfl) (fa25_1 bB)) rfl))
                  refine steps_cons ?_ ?_
                  · intro u W hS hp
                    obtain ⟨q0, q1, _⟩ := hp
                    have p88 : u 88 = (bif (!(false && nt) && true) then .pointer (some ⟨bB, 1, none⟩) else undef) := q0
                    have p87 : u 87 = (bif !(false && nt) then .bool true else undef) := q1
                    cases nt <;> (first | exact step_off (wanted_off rfl rfl rfl hN rfl p87) rfl | exact step_off (wanted_undef rfl rfl rfl hN rfl p87) rfl | exact step_on (wanted_on rfl rfl rfl hN rfl p87) (ext_val hS (run_ld rfl ((eval_in rfl hN rfl).trans p88) (ld_u8 ((cell_of_heap (hS.h (bB, boxOf m, 25) (by simp))).trans (rfl : (boxOf m)[1]? = some _)))) rfl))
                  refine steps_cons ?_ ?_
                  · intro u W hS hp
                    obtain ⟨q0, _⟩ := hp
                    have p87 : u 87 = (bif !(false && nt) then .bool true else undef) := q0
                    cases nt <;> (first | exact step_off (wanted_off rfl rfl rfl hN rfl p87) rfl | exact step_off (wanted_undef rfl rfl rfl hN rfl p87) rfl | exact step_on (wanted_on rfl rfl rfl hN rfl p87) (ext_val hS (run_mv rfl ((eval_out rfl).trans rfl)) rfl))
                  refine steps_cons ?_ ?_
                  · intro u W hS hp
                    obtain ⟨q0, q1, q2, _⟩ := hp
                    have p89 : u 89 = (bif (!(false && nt) && true) then .int .u8 m.f.toNat else undef) := q0
                    have p90 : u 90 = (bif (!(false && nt) && true) then .int .u8 hm else undef) := q1
                    have p87 : u 87 = (bif !(false && nt) then .bool true else undef) := q2
                    cases nt <;> (first | exact step_off (wanted_off rfl rfl rfl hN rfl p87) rfl | exact step_off (wanted_undef rfl rfl rfl hN rfl p87) rfl | exact step_on (wanted_on rfl rfl rfl hN rfl p87) (ext_val hS (run_bin rfl ((eval_in rfl hN rfl).trans p89) ((eval_in rfl hN rfl).trans p90) rfl (i_neq hnf)) rfl))
                  refine steps_cons ?_ ?_
                  · intro u W hS hp
                    obtain ⟨q0, q1, q2, _⟩ := hp
                    have p87 : u 87 = (bif !(false && nt) then .bool true else undef) := q0
                    have p91 : u 91 = (bif (!(false && nt) && true) then .bool false else undef) := q1
                    have p84 : u 84 = .bool (false && nt) := q2
                    cases nt <;> (first | exact step_off (wanted_off rfl rfl rfl hN rfl p84) rfl | exact step_off (wanted_undef rfl rfl rfl hN rfl p84) rfl | (first | exact step_on (wanted_on rfl rfl rfl hN rfl p84) (ext_val hS (run_pickT rfl ((eval_in rfl hN rfl).trans p87) ((eval_in rfl hN rfl).trans p91)) rfl) | exact step_on (wanted_on rfl rfl rfl hN rfl p84) (ext_val hS (run_pickF rfl ((eval_in rfl hN rfl).trans p87) rfl) rfl)))
                  refine steps_cons ?_ ?_
                  · intro u W hS hp
                    obtain ⟨q0, q1, _⟩ := hp
                    have p84 : u 84 = .bool (false && nt) := q0
                    have p92 : u 92 = (bif !(false && nt) then .bool (true && false) else undef) := q1
                    cases nt <;> (first | (first | exact step_on (wanted_free rfl) (ext_val hS (run_pickT rfl ((eval_in rfl hN rfl).trans p84) rfl) rfl) | exact step_on (wanted_free rfl) (ext_val hS (run_pickF rfl ((eval_in rfl hN rfl).trans p84) ((eval_in rfl hN rfl).trans p92)) rfl)))
                  refine steps_cons ?_ ?_
                  · intro u W hS hp
                    obtain ⟨q0, q1, _⟩ := hp
                    have p93 : u 93 = .bool ((false && nt) || (true && false)) := q0
                    exact step_on (wanted_free rfl) (ext_val hS (run_mv rfl ((eval_in rfl hN rfl).trans p93)) rfl)
                  refine steps_cons ?_ ?_
                  · intro u W hS hp
                    obtain ⟨q0, _⟩ := hp
                    have p94 : u 94 = .bool ((false && nt) || (true && false)) := q0
                    cases nt <;> (first | exact step_off (wanted_off rfl rfl rfl hN rfl p94) rfl | exact step_off (wanted_undef rfl rfl rfl hN rfl p94) rfl | exact step_on (wanted_on rfl rfl rfl hN rfl p94) (ext_val hS (run_ld rfl ((eval_out rfl).trans rfl) (ld39 (hS.h (bA, g.arr, 39) (by simp)))) rfl))
                  refine steps_cons ?_ ?_
                  · intro u W hS hp
                    obtain ⟨q0, _⟩ := hp
                    have p94 : u 94 = .bool ((false && nt) || (true && false)) := q0
                    cases nt <;> (first | exact step_off (wanted_off rfl rfl rfl hN rfl p94) rfl | exact step_off (wanted_undef rfl rfl rfl hN rfl p94) rfl | exact step_on (wanted_on rfl rfl rfl hN rfl p94) (ext_val hS (run_fa rfl ((eval_out rfl).trans rfl) (fa25_2 bB)) rfl))
                  refine steps_cons ?_ ?_
                  · intro u W hS hp
                    obtain ⟨q0, q1, _⟩ := hp
                    have p96 : u 96 = (bif !((false && nt) || (true && false)) then .pointer (some ⟨bB, 2, none⟩) else undef) := q0
                    have p94 : u 94 = .bool ((false && nt) || (true && false)) := q1
                    cases nt <;> (first | exact step_off (wanted_off rfl rfl rfl hN rfl p94) rfl | exact step_off (wanted_undef rfl rfl rfl hN rfl p94) rfl | exact step_on (wanted_on rfl rfl rfl hN rfl p94) (ext_val hS (run_ld rfl ((eval_in rfl hN rfl).trans p96) (ld_u8 ((cell_of_heap (hS.h (bB, boxOf m, 25) (by simp))).trans (rfl : (boxOf m)[2]? = some _)))) rfl))
                  refine steps_cons ?_ ?_
                  · intro u W hS hp
                    obtain ⟨q0, q1, q2, q3, _⟩ := hp
                    have p95 : u 95 = (bif !((false && nt) || (true && false)) then .agg g.arr else undef) := q0
                    have p97 : u 97 = (bif !((false && nt) || (true && false)) then .int .u8 m.t.toNat else undef) := q1
                    have p94 : u 94 = .bool ((false && nt) || (true && false)) := q2
                    cases nt <;> (first | exact step_off (wanted_off rfl rfl rfl hN rfl p94) rfl | exact step_off (wanted_undef rfl rfl rfl hN rfl p94) rfl | exact step_on (wanted_on rfl rfl rfl hN rfl p94) (ext_call (run_call rfl rfl (map2 ((eval_in rfl hN rfl).trans p95) ((eval_in rfl hN rfl).trans p97)) Tryd.func24 nm24 bd24) ((ishome_any g m.t.toNat m.t.toNat_lt W).mono fun _ _ ⟨e, h⟩ => ⟨_, e.trans (congrArg (fun x => Ending.returned (Value.bool x)) hht), rfl, hS.next h, h⟩)))
                  refine steps_cons ?_ ?_
                  · intro u W hS hp
                    obtain ⟨q0, q1, q2, _⟩ := hp
                    have p98 : u 98 = (bif !((false && nt) || (true && false)) then .bool ht else undef) := q0
                    have p94 : u 94 = .bool ((false && nt) || (true && false)) := q2
                    cases nt <;> (first | exact step_off (wanted_off rfl rfl rfl hN rfl p94) rfl | exact step_off (wanted_undef rfl rfl rfl hN rfl p94) rfl | exact step_on (wanted_on rfl rfl rfl hN rfl p94) (ext_val hS (run_mv rfl ((eval_in rfl hN rfl).trans p98)) rfl))
                  refine steps_cons ?_ ?_
                  · intro u W hS hp
                    obtain ⟨q0, _⟩ := hp
                    have p99 : u 99 = (bif !((false && nt) || (true && false)) then .bool ht else undef) := q0
                    cases ht <;> cases nt <;> (first | exact step_off (wanted_off rfl rfl rfl hN rfl p99) rfl | exact step_off (wanted_undef rfl rfl rfl hN rfl p99) rfl | exact step_on (wanted_on rfl rfl rfl hN rfl p99) (ext_val hS (run_fa rfl ((eval_out rfl).trans rfl) (fa25_2 bB)) rfl))
                  refine steps_cons ?_ ?_
                  · intro u W hS hp
                    obtain ⟨q0, q1, _⟩ := hp
                    have p100 : u 100 = (bif (!((false && nt) || (true && false)) && ht) then .pointer (some ⟨bB, 2, none⟩) else undef) := q0
                    have p99 : u 99 = (bif !((false && nt) || (true && false)) then .bool ht else undef) := q1
                    cases ht <;> cases nt <;> (first | exact step_off (wanted_off rfl rfl rfl hN rfl p99) rfl | exact step_off (wanted_undef rfl rfl rfl hN rfl p99) rfl | exact step_on (wanted_on rfl rfl rfl hN rfl p99) (ext_val hS (run_ld rfl ((eval_in rfl hN rfl).trans p100) (ld_u8 ((cell_of_heap (hS.h (bB, boxOf m, 25) (by simp))).trans (rfl : (boxOf m)[2]? = some _)))) rfl))
                  refine steps_cons ?_ ?_
                  · intro u W hS hp
                    obtain ⟨q0, _⟩ := hp
                    have p99 : u 99 = (bif !((false && nt) || (true && false)) then .bool ht else undef) := q0
                    cases ht <;> cases nt <;> (first | exact step_off (wanted_off rfl rfl rfl hN rfl p99) rfl | exact step_off (wanted_undef rfl rfl rfl hN rfl p99) rfl | exact step_on (wanted_on rfl rfl rfl hN rfl p99) (ext_val hS (run_mv rfl ((eval_out rfl).trans rfl)) rfl))
                  refine steps_cons ?_ ?_
                  · intro u W hS hp
                    obtain ⟨q0, q1, q2, _⟩ := hp
                    have p101 : u 101 = (bif (!((false && nt) || (true && false)) && ht) then .int .u8 m.t.toNat else undef) := q0
                    have p102 : u 102 = (bif (!((false && nt) || (true && false)) && ht) then .int .u8 hm else undef) := q1
                    have p99 : u 99 = (bif !((false && nt) || (true && false)) then .bool ht else undef) := q2
                    cases ht <;> cases nt <;> (first | exact step_off (wanted_off rfl rfl rfl hN rfl p99) rfl | exact step_off (wanted_undef rfl rfl rfl hN rfl p99) rfl | exact step_on (wanted_on rfl rfl rfl hN rfl p99) (ext_val hS (run_bin rfl ((eval_in rfl hN rfl).trans p101) ((eval_in rfl hN rfl).trans p102) rfl (i_neq hnt)) rfl))
                  refine steps_cons ?_ ?_
                  · intro u W hS hp
                    obtain ⟨q0, q1, q2, _⟩ := hp
                    have p99 : u 99 = (bif !((false && nt) || (true && false)) then .bool ht else undef) := q0
                    have p103 : u 103 = (bif (!((false && nt) || (true && false)) && ht) then .bool nt else undef) := q1
                    have p94 : u 94 = .bool ((false && nt) || (true && false)) := q2
                    cases ht <;> cases nt <;> (first | exact step_off (wanted_off rfl rfl rfl hN rfl p94) rfl | exact step_off (wanted_undef rfl rfl rfl hN rfl p94) rfl | (first | exact step_on (wanted_on rfl rfl rfl hN rfl p94) (ext_val hS (run_pickT rfl ((eval_in rfl hN rfl).trans p99) ((eval_in rfl hN rfl).trans p103)) rfl) | exact step_on (wanted_on rfl rfl rfl hN rfl p94) (ext_val hS (run_pickF rfl ((eval_in rfl hN rfl).trans p99) rfl) rfl)))
                  refine steps_cons ?_ ?_
                  · intro u W hS hp
                    obtain ⟨q0, q1, _⟩ := hp
                    have p94 : u 94 = .bool ((false && nt) || (true && false)) := q0
                    have p104 : u 104 = (bif !((false && nt) || (true && false)) then .bool (ht && nt) else undef) := q1
                    cases nt <;> (first | (first | exact step_on (wanted_free rfl) (ext_val hS (run_pickT rfl ((eval_in rfl hN rfl).trans p94) rfl) rfl) | exact step_on (wanted_free rfl) (ext_val hS (run_pickF rfl ((eval_in rfl hN rfl).trans p94) ((eval_in rfl hN rfl).trans p104)) rfl)))
                  refine steps_cons ?_ ?_
                  · intro u W hS hp
                    obtain ⟨q0, q1, _⟩ := hp
                    have p105 : u 105 = .bool (((false && nt) || (true && false)) || (ht && nt)) := q0
                    exact step_on (wanted_free rfl) (ext_val hS (run_mv rfl ((eval_in rfl hN rfl).trans p105)) rfl)
                  refine steps_cons ?_ ?_
                  · intro u W hS hp
                    obtain ⟨q0, _⟩ := hp
                    have p106 : u 106 = .bool (((false && nt) || (true && false)) || (ht && nt)) := q0
                    cases ht <;> cases nt <;> (first | exact step_off (wanted_off rfl rfl rfl hN rfl p106) rfl | exact step_off (wanted_undef rfl rfl rfl hN rfl p106) rfl | exact step_on (wanted_on rfl rfl rfl hN rfl p106) (ext_val hS (run_ld rfl ((eval_out rfl).trans rfl) (ld39 (hS.h (bA, g.arr, 39) (by simp)))) rfl))
                  refine steps_cons ?_ ?_
                  · intro u W hS hp
                    obtain ⟨q0, _⟩ := hp
                    have p106 : u 106 = .bool (((false && nt) || (true && false)) || (ht && nt)) := q0
                    cases ht <;> cases nt <;> (first | exact step_off (wanted_off rfl rfl rfl hN rfl p106) rfl | exact step_off (wanted_undef rfl rfl rfl hN rfl p106) rfl | exact step_on (wanted_on rfl rfl rfl hN rfl p106) (ext_val hS (run_fa rfl ((eval_out rfl).trans rfl) (fa25_1 bB)) rfl))
                  refine steps_cons ?_ ?_
                  · intro u W hS hp
                    obtain ⟨q0, q1, _⟩ := hp
                    have p108 : u 108 = (bif !(((false && nt) || (true && false)) || (ht && nt)) then .pointer (some ⟨bB, 1, none⟩) else undef) := q0
                    have p106 : u 106 = .bool (((false && nt) || (true && false)) || (ht && nt)) := q1
                    cases ht <;> cases nt <;> (first | exact step_off (wanted_off rfl rfl rfl hN rfl p106) rfl | exact step_off (wanted_undef rfl rfl rfl hN rfl p106) rfl | exact step_on (wanted_on rfl rfl rfl hN rfl p106) (ext_val hS (run_ld rfl ((eval_in rfl hN rfl).trans p108) (ld_u8 ((cell_of_heap (hS.h (bB, boxOf m, 25) (by simp))).trans (rfl : (boxOf m)[1]? = some _)))) rfl))
                  refine steps_cons ?_ ?_
                  · intro u W hS hp
                    obtain ⟨q0, q1, q2, q3, _⟩ := hp
                    have p107 : u 107 = (bif !(((false && nt) || (true && false)) || (ht && nt)) then .agg g.arr else undef) := q0
                    have p109 : u 109 = (bif !(((false && nt) || (true && false)) || (ht && nt)) then .int .u8 m.f.toNat else undef) := q1
                    have p106 : u 106 = .bool (((false && nt) || (true && false)) || (ht && nt)) := q2
                    cases ht <;> cases nt <;> (first | exact step_off (wanted_off rfl rfl rfl hN rfl p106) rfl | exact step_off (wanted_undef rfl rfl rfl hN rfl p106) rfl | exact step_on (wanted_on rfl rfl rfl hN rfl p106) (ext_call (run_call rfl rfl (map2 ((eval_in rfl hN rfl).trans p107) ((eval_in rfl hN rfl).trans p109)) Tryd.func24 nm24 bd24) ((ishome_any g m.f.toNat m.f.toNat_lt W).mono fun _ _ ⟨e, h⟩ => ⟨_, e.trans (congrArg (fun x => Ending.returned (Value.bool x)) hhf), rfl, hS.next h, h⟩)))
                  refine steps_cons ?_ ?_
                  · intro u W hS hp
                    obtain ⟨q0, q1, q2, _⟩ := hp
                    have p110 : u 110 = (bif !(((false && nt) || (true && false)) || (ht && nt)) then .bool hf else undef) := q0
                    have p106 : u 106 = .bool (((false && nt) || (true && false)) || (ht && nt)) := q2
                    cases ht <;> cases nt <;> (first | exact step_off (wanted_off rfl rfl rfl hN rfl p106) rfl | exact step_off (wanted_undef rfl rfl rfl hN rfl p106) rfl | exact step_on (wanted_on rfl rfl rfl hN rfl p106) (ext_val hS (run_mv rfl ((eval_in rfl hN rfl).trans p110)) rfl))
                  refine steps_cons ?_ ?_
                  · intro u W hS hp
                    obtain ⟨q0, _⟩ := hp
                    have p111 : u 111 = (bif !(((false && nt) || (true && false)) || (ht && nt)) then .bool hf else undef) := q0
                    cases hf <;> cases ht <;> cases nt <;> (first | exact step_off (wanted_off rfl rfl rfl hN rfl p111) rfl | exact step_off (wanted_undef rfl rfl rfl hN rfl p111) rfl | exact step_on (wanted_on rfl rfl rfl hN rfl p111) (ext_val hS (run_fa rfl ((eval_out rfl).trans rfl) (fa25_1 bB)) rfl))
                  refine steps_cons ?_ ?_
                  · intro u W hS hp
                    obtain ⟨q0, q1, _⟩ := hp
                    have p112 : u 112 = (bif (!(((false && nt) || (true && false)) || (ht && nt)) && hf) then .pointer (some ⟨bB, 1, none⟩) else undef) := q0
                    have p111 : u 111 = (bif !(((false && nt) || (true && false)) || (ht && nt)) then .bool hf else undef) := q1
                    cases hf <;> cases ht <;> cases nt <;> (first | exact step_off (wanted_off rfl rfl rfl hN rfl p111) rfl | exact step_off (wanted_undef rfl rfl rfl hN rfl p111) rfl | exact step_on (wanted_on rfl rfl rfl hN rfl p111) (ext_val hS (run_ld rfl ((eval_in rfl hN rfl).trans p112) (ld_u8 ((cell_of_heap (hS.h (bB, boxOf m, 25) (by simp))).trans (rfl : (boxOf m)[1]? = some _)))) rfl))
                  refine steps_cons ?_ ?_
                  · intro u W hS hp
                    obtain ⟨q0, _⟩ := hp
                    have p111 : u 111 = (bif !(((false && nt) || (true && false)) || (ht && nt)) then .bool hf else undef) := q0
                    cases hf <;> cases ht <;> cases nt <;> (first | exact step_off (wanted_off rfl rfl rfl hN rfl p111) rfl | exact step_off (wanted_undef rfl rfl rfl hN rfl p111) rfl | exact step_on (wanted_on rfl rfl rfl hN rfl p111) (ext_val hS (run_mv rfl ((eval_out rfl).trans rfl)) rfl))
                  refine steps_cons ?_ ?_
                  · intro u W hS hp
                    obtain ⟨q0, q1, q2, _⟩ := hp
                    have p113 : u 113 = (bif (!(((false && nt) || (true && false)) || (ht && nt)) && hf) then .int .u8 m.f.toNat else undef) := q0
                    have p114 : u 114 = (bif (!(((false && nt) || (true && false)) || (ht && nt)) && hf) then .int .u8 hm else undef) := q1
                    have p111 : u 111 = (bif !(((false && nt) || (true && false)) || (ht && nt)) then .bool hf else undef) := q2
                    cases hf <;> cases ht <;> cases nt <;> (first | exact step_off (wanted_off rfl rfl rfl hN rfl p111) rfl | exact step_off (wanted_undef rfl rfl rfl hN rfl p111) rfl | exact step_on (wanted_on rfl rfl rfl hN rfl p111) (ext_val hS (run_bin rfl ((eval_in rfl hN rfl).trans p113) ((eval_in rfl hN rfl).trans p114) rfl (i_neq hnf)) rfl))
                  refine steps_cons ?_ ?_
                  · intro u W hS hp
                    obtain ⟨q0, q1, q2, _⟩ := hp
                    have p111 : u 111 = (bif !(((false && nt) || (true && false)) || (ht && nt)) then .bool hf else undef) := q0
                    have p115 : u 115 = (bif (!(((false && nt) || (true && false)) || (ht && nt)) && hf) then .bool false else undef) := q1
                    have p106 : u 106 = .bool (((false && nt) || (true && false)) || (ht && nt)) := q2
                    cases hf <;> cases ht <;> cases nt <;> (first | exact step_off (wanted_off rfl rfl rfl hN rfl p106) rfl | exact step_off (wanted_undef rfl rfl rfl hN rfl p106) rfl | (first | exact step_on (wanted_on rfl rfl rfl hN rfl p106) (ext_val hS (run_pickT rfl ((eval_in rfl hN rfl).trans p111) ((eval_in rfl hN rfl).trans p115)) rfl) | exact step_on (wanted_on rfl rfl rfl hN rfl p106) (ext_val hS (run_pickF rfl ((eval_in rfl hN rfl).trans p111) rfl) rfl)))
                  refine steps_cons ?_ ?_
                  · intro u W hS hp
                    obtain ⟨q0, q1, _⟩ := hp
                    have p106 : u 106 = .bool (((false && nt) || (true && false)) || (ht && nt)) := q0
                    have p116 : u 116 = (bif !(((false && nt) || (true && false)) || (ht && nt)) then .bool (hf && false) else undef) := q1
                    cases ht <;> cases nt <;> (first | (first | exact step_on (wanted_free rfl) (ext_val hS (run_pickT rfl ((eval_in rfl hN rfl).trans p106) rfl) rfl) | exact step_on (wanted_free rfl) (ext_val hS (run_pickF rfl ((eval_in rfl hN rfl).trans p106) ((eval_in rfl hN rfl).trans p116)) rfl)))
                  exact steps_nil
                · obtain ⟨_, _, _, _, _, _, _, _, _, _, _, _, _, _, _, _, _, _, _, _, _, _, _, _, _, _, _, _, _, _, _, _, _, _, _, _, _, _, _, _, _, q41, _⟩ := hF
                  have p117 : u 117 = .bool ((((false && nt) || (true && false)) || (ht && nt)) || (hf && false)) := q41
                  simp only [frm, frmL, Nat.reduceAdd, p117]
                  clear p117
                  have HS4 := Lib.hid hS
                  clear hS
                  rw [show ((((false && nt) || (true && false)) || (ht && nt)) || (hf && false)) = false from by revert f1 f2; clear hnt hnf hht hhf f3 f4; cases ht <;> cases hf <;> cases nt <;> decide]
                  go_wp2_with fail
                  go_meet
                  exact ⟨rfl, HS4⟩
              · skip
                refine region_seq (D := [false, false, false, false, false, false, false, false, false, false, false, false, false, false, false, false, false, false, false, false, false, false, false, false, false, false, false, false, false, false, false, false, false, false, false, false, false, false, false, false, false, false, false, false, false, false, false, false, false, false, false, false, false, false, false, false, false, false, false, false, false, false, false, false, false, false, false, false, false, false, false, false, false, false, false, false, true, true, true, true, true, true, true, true, true, true, true, true, true, true, true, true, true, true, true, true, true, true, true, true, true, true, true, true, true, true, true, true, true, true, true, true, true, true, true, true, true, true]) (S := fun W => St [(bB, boxOf m, 25), (bA, g.arr, 39)] w W) (R := RB) (F := FF [isV (.int .u8 3), isV (.bool false), isV (.bool false), isV ((bif false then .pointer (some ⟨bB, 2, none⟩) else undef)), isV ((bif false then .int .u8 m.t.toNat else undef)), isV ((bif false then .int .u8 hm else undef)), isV ((bif false then .bool nt else undef)), isV (.bool (false && nt)), isV (.bool (false && nt)), isV ((bif !(false && nt) then .int .u8 3 else undef)), isV ((bif !(false && nt) then .bool false else undef)), isV ((bif !(false && nt) then .bool false else undef)), isV ((bif (!(false && nt) && false) then .pointer (some ⟨bB, 1, none⟩) else undef)), isV ((bif (!(false && nt) && false) then .int .u8 m.f.toNat else undef)), isV ((bif (!(false && nt) && false) then .int .u8 hm else undef)), isV ((bif (!(false && nt) && false) then .bool nf else undef)), isV ((bif !(false && nt) then .bool (false && nf) else undef)), isV (.bool ((false && nt) || (false && nf))), isV (.bool ((false && nt) || (false && nf))), isV ((bif !((false && nt) || (false && nf)) then .agg g.arr else undef)), isV ((bif !((false && nt) || (false && nf)) then .pointer (some ⟨bB, 2, none⟩) else undef)), isV ((bif !((false && nt) || (false && nf)) then .int .u8 m.t.toNat else undef)), isV ((bif !((false && nt) || (false && nf)) then .bool ht else undef)), isV ((bif !((false && nt) || (false && nf)) then .bool ht else undef)), isV ((bif (!((false && nt) || (false && nf)) && ht) then .pointer (some ⟨bB, 2, none⟩) else undef)), isV ((bif (!((false && nt) || (false && nf)) && ht) then .int .u8 m.t.toNat else undef)), isV ((bif (!((false && nt) || (false && nf)) && ht) then .int .u8 hm else undef)), isV ((bif (!((false && nt) || (false && nf)) && ht) then .bool nt else undef)), isV ((bif !((false && nt) || (false && nf)) then .bool (ht && nt) else undef)), isV (.bool (((false && nt) || (false && nf)) || (ht && nt))), isV (.bool (((false && nt) || (false && nf)) || (ht && nt))), isV ((bif !(((false && nt) || (false && nf)) || (ht && nt)) then .agg g.arr else undef)), isV ((bif !(((false && nt) || (false && nf)) || (ht && nt)) then .pointer (some ⟨bB, 1, none⟩) else undef)), isV ((bif !(((false && nt) || (false && nf)) || (ht && nt)) then .int .u8 m.f.toNat else undef)), isV ((bif !(((false && nt) || (false && nf)) || (ht && nt)) then .bool hf else undef)), isV ((bif !(((false && nt) || (false && nf)) || (ht && nt)) then .bool hf else undef)), isV ((bif (!(((false && nt) || (false && nf)) || (ht && nt)) && hf) then .pointer (some ⟨bB, 1, none⟩) else undef)), isV ((bif (!(((false && nt) || (false && nf)) || (ht && nt)) && hf) then .int .u8 m.f.toNat else undef)), isV ((bif (!(((false && nt) || (false && nf)) || (ht && nt)) && hf) then .int .u8 hm else undef)), isV ((bif (!(((false && nt) || (false && nf)) || (ht && nt)) && hf) then .bool nf else undef)), isV ((bif !(((false && nt) || (false && nf)) || (ht && nt)) then .bool (hf && nf) else undef)), isV (.bool ((((false && nt) || (false && nf)) || (ht && nt)) || (hf && nf)))]) rfl (by kernel_rfl) (FF_st _ _) HS.out (fun hN => ?_) (fun u W hS hF => ?_)
                · refine steps_cons ?_ ?_
                  · intro u W hS hp
                    exact step_on (wanted_free rfl) (ext_val hS (run_mv rfl ((eval_out rfl).trans rfl)) rfl)
                  refine steps_cons ?_ ?_
                  · intro u W hS hp
                    obtain ⟨q0, _⟩ := hp
                    have p76 : u 76 = .int .u8 3 := q0
                    exact step_on (wanted_free rfl) (ext_val hS (run_bin rfl ((eval_in rfl hN rfl).trans p76) rfl rfl (i_eql rfl)) rfl)
                  refine steps_cons ?_ ?_
                  · intro u W hS hp
                    obtain ⟨q0, _⟩ := hp
                    have p77 : u 77 = .bool false := q0
                    exact step_on (wanted_free rfl) (ext_val hS (run_mv rfl ((eval_in rfl hN rfl).trans p77)) rfl)
                  refine steps_cons ?_ ?_
                  · intro u W hS hp
                    obtain ⟨q0, _⟩ := hp
                    have p78 : u 78 = .bool false := q0
                    first | exact step_off (wanted_off rfl rfl rfl hN rfl p78) rfl | exact step_off (wanted_undef rfl rfl rfl hN rfl p78) rfl | exact step_on (wanted_on rfl rfl rfl hN rfl p78) (ext_val hS (run_fa rfl ((eval_out rfl).trans rfl) (fa25_2 bB)) rfl)
                  refine steps_cons ?_ ?_
                  · intro u W hS hp
                    obtain ⟨q0, q1, _⟩ := hp
                    have p79 : u 79 = (bif false then .pointer (some ⟨bB, 2, none⟩) else undef) := q0
                    have p78 : u 78 = .bool false := q1
                    first | exact step_off (wanted_off rfl rfl rfl hN rfl p78) rfl | exact step_off (wanted_undef rfl rfl rfl hN rfl p78) rfl | exact step_on (wanted_on rfl rfl rfl hN rfl p78) (ext_val hS (run_ld rfl ((eval_in rfl hN rfl).trans p79) (ld_u8 ((cell_of_heap (hS.h (bB, boxOf m, 25) (by simp))).trans (rfl : (boxOf m)[2]? = some _)))) rfl)
                  refine steps_cons ?_ ?_
                  · intro u W hS hp
                    obtain ⟨q0, _⟩ := hp
                    have p78 : u 78 = .bool false := q0
                    first | exact step_off (wanted_off rfl rfl rfl hN rfl p78) rfl | exact step_off (wanted_undef rfl rfl rfl hN rfl p78) rfl | exact step_on (wanted_on rfl rfl rfl hN rfl p78) (ext_val hS (run_mv rfl ((eval_out rfl).trans rfl)) rfl)
                  refine steps_cons ?_ ?_
                  · intro u W hS hp
                    obtain ⟨q0, q1, q2, _⟩ := hp
                    have p80 : u 80 = (bif false then .int .u8 m.t.toNat else undef) := q0
                    have p81 : u 81 = (bif false then .int .u8 hm else undef) := q1
                    have p78 : u 78 = .bool false := q2
                    first | exact step_off (wanted_off rfl rfl rfl hN rfl p78) rfl | exact step_off (wanted_undef rfl rfl rfl hN rfl p78) rfl | exact step_on (wanted_on rfl rfl rfl hN rfl p78) (ext_val hS (run_bin rfl ((eval_in rfl hN rfl).trans p80) ((eval_in rfl hN rfl).trans p81) rfl (i_neq hnt)) rfl)
                  refine steps_cons ?_ ?_
                  · intro u W hS hp
                    obtain ⟨q0, q1, _⟩ := hp
                    have p78 : u 78 = .bool false := q0
                    have p82 : u 82 = (bif false then .bool nt else undef) := q1
                    first | (first | exact step_on (wanted_free rfl) (ext_val hS (run_pickT rfl ((eval_in rfl hN rfl).trans p78) ((eval_in rfl hN rfl).trans p82)) rfl) | exact step_on (wanted_free rfl) (ext_val hS (run_pickF rfl ((eval_in rfl hN rfl).trans p78) rfl) rfl))
                  refine steps_cons ?_ ?_
                  · intro u W hS hp
                    obtain ⟨q0, q1, _⟩ := hp
                    have p83 : u 83 = .bool (false && nt) := q0
                    exact step_on (wanted_free rfl) (ext_val hS (run_mv rfl ((eval_in rfl hN rfl).trans p83)) rfl)
                  refine steps_cons ?_ ?_
                  · intro u W hS hp
                    obtain ⟨q0, _⟩ := hp
                    have p84 : u 84 = .bool (false && nt) := q0
                    cases nt <;> (first | exact step_off (wanted_off rfl rfl rfl hN rfl p84) rfl | exact step_off (wanted_undef rfl rfl rfl hN rfl p84) rfl | exact step_on (wanted_on rfl rfl rfl hN rfl p84) (ext_val hS (run_mv rfl ((eval_out rfl).trans rfl)) rfl))
                  refine steps_cons ?_ ?_
                  · intro u W hS hp
                    obtain ⟨q0, q1, _⟩ := hp
                    have p85 : u 85 = (bif !(false && nt) then .int .u8 3 else undef) := q0
                    have p84 : u 84 = .bool (false && nt) := q1
                    cases nt <;> (first | exact step_off (wanted_off rfl rfl rfl hN rfl p84) rfl | exact step_off (wanted_undef rfl rfl rfl hN rfl p84) rfl | exact step_on (wanted_on rfl rfl rfl hN rfl p84) (ext_val hS (run_bin rfl ((eval_in rfl hN rfl).trans p85) rfl rfl (i_eql rfl)) rfl))
                  refine steps_cons ?_ ?_
                  · intro u W hS hp
                    obtain ⟨q0, q1, q2, _⟩ := hp
                    have p86 : u 86 = (bif !(false && nt) then .bool false else undef) := q0
                    have p84 : u 84 = .bool (false && nt) := q1
                    cases nt <;> (first | exact step_off (wanted_off rfl rfl rfl hN rfl p84) rfl | exact step_off (wanted_undef rfl rfl rfl hN rfl p84) rfl | exact step_on (wanted_on rfl rfl rfl hN rfl p84) (ext_val hS (run_mv rfl ((eval_in rfl hN rfl).trans p86)) rfl))
                  refine steps_cons ?_ ?_
                  · intro u W hS hp
                    obtain ⟨q0, _⟩ := hp
                    have p87 : u 87 = (bif !(false && nt) then .bool false else undef) := q0
                    cases nt <;> (first | exact step_off (wanted_off rfl rfl rfl hN rfl p87) rfl | exact step_off (wanted_undef rfl rfl rfl hN rfl p87) rfl | exact step_on (wanted_on rfl rfl rfl hN rfl p87) (ext_val hS (run_fa rfl ((eval_out rfl).trans rfl) (fa25_1 bB)) rfl))
                  refine steps_cons ?_ ?_
                  · intro u W hS hp
                    obtain ⟨q0, q1, _⟩ := hp
                    have p88 : u 88 = (bif (!(false && nt) && false) then .pointer (some ⟨bB, 1, none⟩) else undef) := q0
                    have p87 : u 87 = (bif !(false && nt) then .bool false else undef) := q1
                    cases nt <;> (first | exact step_off (wanted_off rfl rfl rfl hN rfl p87) rfl | exact step_off (wanted_undef rfl rfl rfl hN rfl p87) rfl | exact step_on (wanted_on rfl rfl rfl hN rfl p87) (ext_val hS (run_ld rfl ((eval_in rfl hN rfl).trans p88) (ld_u8 ((cell_of_heap (hS.h (bB, boxOf m, 25) (by simp))).trans (rfl : (boxOf m)[1]? = some _)))) rfl))
                  refine steps_cons ?_ ?_
                  · intro u W hS hp
                    obtain ⟨q0, _⟩ := hp
                    have p87 : u 87 = (bif !(false && nt) then .bool false else undef) := q0
                    cases nt <;> (first | exact step_off (wanted_off rfl rfl rfl hN rfl p87) rfl | exact step_off (wanted_undef rfl rfl rfl hN rfl p87) rfl | exact step_on (wanted_on rfl rfl rfl hN rfl p87) (ext_val hS (run_mv rfl ((eval_out rfl).trans rfl)) rfl))
                  refine steps_cons ?_ ?_
                  · intro u W hS hp
                    obtain ⟨q0, q1, q2, _⟩ := hp
                    have p89 : u 89 = (bif (!(false && nt) && false) then .int .u8 m.f.toNat else undef) := q0
                    have p90 : u 90 = (bif (!(false && nt) && false) then .int .u8 hm else undef) := q1
                    have p87 : u 87 = (bif !(false && nt) then .bool false else undef) := q2
                    cases nt <;> (first | exact step_off (wanted_off rfl rfl rfl hN rfl p87) rfl | exact step_off (wanted_undef rfl rfl rfl hN rfl p87) rfl | exact step_on (wanted_on rfl rfl rfl hN rfl p87) (ext_val hS (run_bin rfl ((eval_in rfl hN rfl).trans p89) ((eval_in rfl hN rfl).trans p90) rfl (i_neq hnf)) rfl))
                  refine steps_cons ?_ ?_
                  · intro u W hS hp
                    obtain ⟨q0, q1, q2, _⟩ := hp
                    have p87 : u 87 = (bif !(false && nt) then .bool false else undef) := q0
                    have p91 : u 91 = (bif (!(false && nt) && false) then .bool nf else undef) := q1
                    have p84 : u 84 = .bool (false && nt) := q2
                    cases nt <;> (first | exact step_off (wanted_off rfl rfl rfl hN rfl p84) rfl | exact step_off (wanted_undef rfl rfl rfl hN rfl p84) rfl | (first | exact step_on (wanted_on rfl rfl rfl hN rfl p84) (ext_val hS (run_pickT rfl ((eval_in rfl hN rfl).trans p87) ((eval_in rfl hN rfl).trans p91)) rfl) | exact step_on (wanted_on rfl rfl rfl hN rfl p84) (ext_val hS (run_pickF rfl ((eval_in rfl hN rfl).trans p87) rfl) rfl)))
                  refine steps_cons ?_ ?_
                  · intro u W hS hp
                    obtain ⟨q0, q1, _⟩ := hp
                    have p84 : u 84 = .bool (false && nt) := q0
                    have p92 : u 92 = (bif !(false && nt) then .bool (false && nf) else undef) := q1
                    cases nt <;> (first | (first | exact step_on (wanted_free rfl) (ext_val hS (run_pickT rfl ((eval_in rfl hN rfl).trans p84) rfl) rfl) | exact step_on (wanted_free rfl) (ext_val hS (run_pickF rfl ((eval_in rfl hN rfl).trans p84) ((eval_in rfl hN rfl).trans p92)) rfl)))
                  refine steps_cons ?_ ?_
                  · intro u W hS hp
                    obtain ⟨q0, q1, _⟩ := hp
                    have p93 : u 93 = .bool ((false && nt) || (false && nf)) := q0
                    exact step_on (wanted_free rfl) (ext_val hS (run_mv rfl ((eval_in rfl hN rfl).trans p93)) rfl)
                  refine steps_cons ?_ ?_
                  · intro u W hS hp
                    obtain ⟨q0, _⟩ := hp
                    have p94 : u 94 = .bool ((false && nt) || (false && nf)) := q0
                    cases nf <;> cases nt <;> (first | exact step_off (wanted_off rfl rfl rfl hN rfl p94) rfl | exact step_off (wanted_undef rfl rfl rfl hN rfl p94) rfl | exact step_on (wanted_on rfl rfl rfl hN rfl p94) (ext_val hS (run_ld rfl ((eval_out rfl).trans rfl) (ld39 (hS.h (bA, g.arr, 39) (by simp)))) rfl))
                  refine steps_cons ?_ ?_
                  · intro u W hS hp
                    obtain ⟨q0, _⟩ := hp
                    have p94 : u 94 = .bool ((false && nt) || (false && nf)) := q0
                    cases nf <;> cases nt <;> (first | exact step_off (wanted_off rfl rfl rfl hN rfl p94) rfl | exact step_off (wanted_undef rfl rfl rfl hN rfl p94) rfl | exact step_on (wanted_on rfl rfl rfl hN rfl p94) (ext_val hS (run_fa rfl ((eval_out rfl).trans rfl) (fa25_2 bB)) rfl))
                  refine steps_cons ?_ ?_
                  · intro u W hS hp
                    obtain ⟨q0, q1, _⟩ := hp
                    have p96 : u 96 = (bif !((false && nt) || (false && nf)) then .pointer (some ⟨bB, 2, none⟩) else undef) := q0
                    have p94 : u 94 = .bool ((false && nt) || (false && nf)) := q1
                    cases nf <;> cases nt <;> (first | exact step_off (wanted_off rfl rfl rfl hN rfl p94) rfl | exact step_off (wanted_undef rfl rfl rfl hN rfl p94) rfl | exact step_on (wanted_on rfl rfl rfl hN rfl p94) (ext_val hS (run_ld rfl ((eval_in rfl hN rfl).trans p96) (ld_u8 ((cell_of_heap (hS.h (bB, boxOf m, 25) (by simp))).trans (rfl : (boxOf m)[2]? = some _)))) rfl))
                  refine steps_cons ?_ ?_
                  · intro u W hS hp
                    obtain ⟨q0, q1, q2, q3, _⟩ := hp
                    have p95 : u 95 = (bif !((false && nt) || (false && nf)) then .agg g.arr else undef) := q0
                    have p97 : u 97 = (bif !((false && nt) || (false && nf)) then .int .u8 m.t.toNat else undef) := q1
                    have p94 : u 94 = .bool ((false && nt) || (false && nf)) := q2
                    cases nf <;> cases nt <;> (first | exact step_off (wanted_off rfl rfl rfl hN rfl p94) rfl | exact step_off (wanted_undef rfl rfl rfl hN rfl p94) rfl | exact step_on (wanted_on rfl rfl rfl hN rfl p94) (ext_call (run_call rfl rfl (map2 ((eval_in rfl hN rfl).trans p95) ((eval_in rfl hN rfl).trans p97)) Tryd.func24 nm24 bd24) ((ishome_any g m.t.toNat m.t.toNat_lt W).mono fun _ _ ⟨e, h⟩ => ⟨_, e.trans (congrArg (fun x => Ending.returned (Value.bool x)) hht), rfl, hS.next h, h⟩)))
                  refine steps_cons ?_ ?_
                  · intro u W hS hp
                    obtain ⟨q0, q1, q2, _⟩ := hp
                    have p98 : u 98 = (bif !((false && nt) || (false && nf)) then .bool ht else undef) := q0
                    have p94 : u 94 = .bool ((false && nt) || (false && nf)) := q2
                    cases nf <;> cases nt <;> (first | exact step_off (wanted_off rfl rfl rfl hN rfl p94) rfl | exact step_off (wanted_undef rfl rfl rfl hN rfl p94) rfl | exact step_on (wanted_on rfl rfl rfl hN rfl p94) (ext_val hS (run_mv rfl ((eval_in rfl hN rfl).trans p98)) rfl))
                  refine steps_cons ?_ ?_
                  · intro u W hS hp
                    obtain ⟨q0, _⟩ := hp
                    have p99 : u 99 = (bif !((false && nt) || (false && nf)) then .bool ht else undef) := q0
                    cases ht <;> cases nf <;> cases nt <;> (first | exact step_off (wanted_off rfl rfl rfl hN rfl p99) rfl | exact step_off (wanted_undef rfl rfl rfl hN rfl p99) rfl | exact step_on (wanted_on rfl rfl rfl hN rfl p99) (ext_val hS (run_fa rfl ((eval_out rfl).trans rfl) (fa25_2 bB)) rfl))
                  refine steps_cons ?_ ?_
                  · intro u W hS hp
                    obtain ⟨q0, q1, _⟩ := hp
                    have p100 : u 100 = (bif (!((false && nt) || (false && nf)) && ht) then .pointer (some ⟨bB, 2, none⟩) else undef) := q0
                    have p99 : u 99 = (bif !((false && nt) || (false && nf)) then .bool ht else undef) := q1
                    cases ht <;> cases nf <;> cases nt <;> (first | exact step_off (wanted_off rfl rfl rfl hN rfl p99) rfl | exact step_off (wanted_undef rfl rfl rfl hN rfl p99) rfl | exact step_on (wanted_on rfl rfl rfl hN rfl p99) (ext_val hS (run_ld rfl ((eval_in rfl hN rfl).trans p100) (ld_u8 ((cell_of_heap (hS.h (bB, boxOf m, 25) (by simp))).trans (rfl : (boxOf m)[2]? = some _)))) rfl))
                  refine steps_cons ?_ ?_
                  · intro u W hS hp
                    obtain ⟨q0, _⟩ := hp
                    have p99 : u 99 = (bif !((false && nt) || (false && nf)) then .bool ht else undef) := q0
                    cases ht <;> cases nf <;> cases nt <;> (first | exact step_off (wanted_off rfl rfl rfl hN rfl p99) rfl | exact step_off (wanted_undef rfl rfl rfl hN rfl p99) rfl | exact step_on (wanted_on rfl rfl rfl hN rfl p99) (ext_val hS (run_mv rfl ((eval_out rfl).trans rfl)) rfl))
                  refine steps_cons ?_ ?_
                  · intro u W hS hp
                    obtain ⟨q0, q1, q2, _⟩ := hp
                    have p101 : u 101 = (bif (!((false && nt) || (false && nf)) && ht) then .int .u8 m.t.toNat else undef) := q0
                    have p102 : u 102 = (bif (!((false && nt) || (false && nf)) && ht) then .int .u8 hm else undef) := q1
                    have p99 : u 99 = (bif !((false && nt) || (false && nf)) then .bool ht else undef) := q2
                    cases ht <;> cases nf <;> cases nt <;> (first | exact step_off (wanted_off rfl rfl rfl hN rfl p99) rfl | exact step_off (wanted_undef rfl rfl rfl hN rfl p99) rfl | exact step_on (wanted_on rfl rfl rfl hN rfl p99) (ext_val hS (run_bin rfl ((eval_in rfl hN rfl).trans p101) ((eval_in rfl hN rfl).trans p102) rfl (i_neq hnt)) rfl))
                  refine steps_cons ?_ ?_
                  · intro u W hS hp
                    obtain ⟨q0, q1, q2, _⟩ := hp
                    have p99 : u 99 = (bif !((false && nt) || (false && nf)) then .bool ht else undef) := q0
                    have p103 : u 103 = (bif (!((false && nt) || (false && nf)) && ht) then .bool nt else undef) := q1
                    have p94 : u 94 = .bool ((false && nt) || (false && nf)) := q2
                    cases ht <;> cases nf <;> cases nt <;> (first | exact step_off (wanted_off rfl rfl rfl hN rfl p94) rfl | exact step_off (wanted_undef rfl rfl rfl hN rfl p94) rfl | (first | exact step_on (wanted_on rfl rfl rfl hN rfl p94) (ext_val hS (run_pickT rfl ((eval_in rfl hN rfl).trans p99) ((eval_in rfl hN rfl).trans p103)) rfl) | exact step_on (wanted_on rfl rfl rfl hN rfl p94) (ext_val hS (run_pickF rfl ((eval_in rfl hN rfl).trans p99) rfl) rfl)))
                  refine steps_cons ?_ ?_
                  · intro u W hS hp
                    obtain ⟨q0, q1, _⟩ := hp
                    have p94 : u 94 = .bool ((false && nt) || (false && nf)) := q0
                    have p104 : u 104 = (bif !((false && nt) || (false && nf)) then .bool (ht && nt) else undef) := q1
                    cases nf <;> cases nt <;> (first | (first | exact step_on (wanted_free rfl) (ext_val hS (run_pickT rfl ((eval_in rfl hN rfl).trans p94) rfl) rfl) | exact step_on (wanted_free rfl) (ext_val hS (run_pickF rfl ((eval_in rfl hN rfl).trans p94) ((eval_in rfl hN rfl).trans p104)) rfl)))
                  refine steps_cons ?_ ?_
                  · intro u W hS hp
                    obtain ⟨q0, q1, _⟩ := hp
                    have p105 : u 105 = .bool (((false && nt) || (false && nf)) || (ht && nt)) := q0
                    exact step_on (wanted_free rfl) (ext_val hS (run_mv rfl ((eval_in rfl hN rfl).trans p105)) rfl)
                  refine steps_cons ?_ ?_
                  · intro u W hS hp
                    obtain ⟨q0, _⟩ := hp
                    have p106 : u 106 = .bool (((false && nt) || (false && nf)) || (ht && nt)) := q0
                    cases ht <;> cases nf <;> cases nt <;> (first | exact step_off (wanted_off rfl rfl rfl hN rfl p106) rfl | exact step_off (wanted_undef rfl rfl rfl hN rfl p106) rfl | exact step_on (wanted_on rfl rfl rfl hN rfl p106) (ext_val hS (run_ld rfl ((eval_out rfl).trans rfl) (ld39 (hS.h (bA, g.arr, 39) (by simp)))) rfl))
                  refine steps_cons ?_ ?_
                  · intro u W hS hp
                    obtain ⟨q0, _⟩ := hp
                    have p106 : u 106 = .bool (((false && nt) || (false && nf)) || (ht && nt)) := q0
                    cases ht <;> cases nf <;> cases nt <;> (first | exact step_off (wanted_off rfl rfl rfl hN rfl p106) rfl | exact step_off (wanted_undef rfl rfl rfl hN rfl p106) rfl | exact step_on (wanted_on rfl rfl rfl hN rfl p106) (ext_val hS (run_fa rfl ((eval_out rfl).trans rfl) (fa25_1 bB)) rfl))
                  refine steps_cons ?_ ?_
                  · intro u W hS hp
                    obtain ⟨q0, q1, _⟩ := hp
                    have p108 : u 108 = (bif !(((false && nt) || (false && nf)) || (ht && nt)) then .pointer (some ⟨bB, 1, none⟩) else undef) := q0
                    have p106 : u 106 = .bool (((false && nt) || (false && nf)) || (ht && nt)) := q1
                    cases ht <;> cases nf <;> cases nt <;> (first | exact step_off (wanted_off rfl rfl rfl hN rfl p106) rfl | exact step_off (wanted_undef rfl rfl rfl hN rfl p106) rfl | exact step_on (wanted_on rfl rfl rfl hN rfl p106) (ext_val hS (run_ld rfl ((eval_in rfl hN rfl).trans p108) (ld_u8 ((cell_of_heap (hS.h (bB, boxOf m, 25) (by simp))).trans (rfl : (boxOf m)[1]? = some _)))) rfl))
                  refine steps_cons ?_ ?_
                  · intro u W hS hp
                    obtain ⟨q0, q1, q2, q3, _⟩ := hp
                    have p107 : u 107 = (bif !(((false && nt) || (false && nf)) || (ht && nt)) then .agg g.arr else undef) := q0
                    have p109 : u 109 = (bif !(((false && nt) || (false && nf)) || (ht && nt)) then .int .u8 m.f.toNat else undef) := q1
                    have p106 : u 106 = .bool (((false && nt) || (false && nf)) || (ht && nt)) := q2
                    cases ht <;> cases nf <;> cases nt <;> (first | exact step_off (wanted_off rfl rfl rfl hN rfl p106) rfl | exact step_off (wanted_undef rfl rfl rfl hN rfl p106) rfl | exact step_on (wanted_on rfl rfl rfl hN rfl p106) (ext_call (run_call rfl rfl (map2 ((eval_in rfl hN rfl).trans p107) ((eval_in rfl hN rfl).trans p109)) Tryd.func24 nm24 bd24) ((ishome_any g m.f.toNat m.f.toNat_lt W).mono fun _ _ ⟨e, h⟩ => ⟨_, e.trans (congrArg (fun x => Ending.returned (Value.bool x)) hhf), rfl, hS.next h, h⟩)))
                  refine steps_cons ?_ ?_
                  · intro u W hS hp
                    obtain ⟨q0, q1, q2, _⟩ := hp
                    have p110 : u 110 = (bif !(((false && nt) || (false && nf)) || (ht && nt)) then .bool hf else undef) := q0
                    have p106 : u 106 = .bool (((false && nt) || (false && nf)) || (ht && nt)) := q2
                    cases ht <;> cases nf <;> cases nt <;> (first | exact step_off (wanted_off rfl rfl rfl hN rfl p106) rfl | exact step_off (wanted_undef rfl rfl rfl hN rfl p106) rfl | exact step_on (wanted_on rfl rfl rfl hN rfl p106) (ext_val hS (run_mv rfl ((eval_in rfl hN rfl).trans p110)) rfl))
                  refine steps_cons ?_ ?_
                  · intro u W hS hp
                    obtain ⟨q0, _⟩ := hp
                    have p111 : u 111 = (bif !(((false && nt) || (false && nf)) || (ht && nt)) then .bool hf else undef) := q0
                    cases hf <;> cases ht <;> cases nf <;> cases nt <;> (first | exact step_off (wanted_off rfl rfl rfl hN rfl p111) rfl | exact step_off (wanted_undef rfl rfl rfl hN rfl p111) rfl | exact step_on (wanted_on rfl rfl rfl hN rfl p111) (ext_val hS (run_fa rfl ((eval_out rfl).trans rfl) (fa25_1 bB)) rfl))
                  refine steps_cons ?_ ?_
                  · intro u W hS hp
                    obtain ⟨q0, q1, _⟩ := hp
                    have p112 : u 112 = (bif (!(((false && nt) || (false && nf)) || (ht && nt)) && hf) then .pointer (some ⟨bB, 1, none⟩) else undef) := q0
                    have p111 : u 111 = (bif !(((false && nt) || (false && nf)) || (ht && nt)) then .bool hf else undef) := q1
                    cases hf <;> cases ht <;> cases nf <;> cases nt <;> (first | exact step_off (wanted_off rfl rfl rfl hN rfl p111) rfl | exact step_off (wanted_undef rfl rfl rfl hN rfl p111) rfl | exact step_on (wanted_on rfl rfl rfl hN rfl p111) (ext_val hS (run_ld rfl ((eval_in rfl hN rfl).trans p112) (ld_u8 ((cell_of_heap (hS.h (bB, boxOf m, 25) (by simp))).trans (rfl : (boxOf m)[1]? = some _)))) rfl))
                  refine steps_cons ?_ ?_
                  · intro u W hS hp
                    obtain ⟨q0, _⟩ := hp
                    have p111 : u 111 = (bif !(((false && nt) || (false && nf)) || (ht && nt)) then .bool hf else undef) := q0
                    cases hf <;> cases ht <;> cases nf <;> cases nt <;> (first | exact step_off (wanted_off rfl rfl rfl hN rfl p111) rfl | exact step_off (wanted_undef rfl rfl rfl hN rfl p111) rfl | exact step_on (wanted_on rfl rfl rfl hN rfl p111) (ext_val hS (run_mv rfl ((eval_out rfl).trans rfl)) rfl))
                  refine steps_cons ?_ ?_
                  · intro u W hS hp
                    obtain ⟨q0, q1, q2, _⟩ := hp
                    have p113 : u 113 = (bif (!(((false && nt) || (false && nf)) || (ht && nt)) && hf) then .int .u8 m.f.toNat else undef) := q0
                    have p114 : u 114 = (bif (!(((false && nt) || (false && nf)) || (ht && nt)) && hf) then .int .u8 hm else undef) := q1
                    have p111 : u 111 = (bif !(((false && nt) || (false && nf)) || (ht && nt)) then .bool hf else undef) := q2
                    cases hf <;> cases ht <;> cases nf <;> cases nt <;> (first | exact step_off (wanted_off rfl rfl rfl hN rfl p111) rfl | exact step_off (wanted_undef rfl rfl rfl hN rfl p111) rfl | exact step_on (wanted_on rfl rfl rfl hN rfl p111) (ext_val hS (run_bin rfl ((eval_in rfl hN rfl).trans p113) ((eval_in rfl hN rfl).trans p114) rfl (i_neq hnf)) rfl))
                  refine steps_cons ?_ ?_
                  · intro u W hS hp
                    obtain ⟨q0, q1, q2, _⟩ := hp
                    have p111 : u 111 = (bif !(((false && nt) || (false && nf)) || (ht && nt)) then .bool hf else undef) := q0
                    have p115 : u 115 = (bif (!(((false && nt) || (false && nf)) || (ht && nt)) && hf) then .bool nf else undef) := q1
                    have p106 : u 106 = .bool (((false && nt) || (false && nf)) || (ht && nt)) := q2
                    cases hf <;> cases ht <;> cases nf <;> cases nt <;> (first | exact step_off (wanted_off rfl rfl rfl hN rfl p106) rfl | exact step_off (wanted_undef rfl rfl rfl hN rfl p106) rfl | (first | exact step_on (wanted_on rfl rfl rfl hN rfl p106) (ext_val hS (run_pickT rfl ((eval_in rfl hN rfl).trans p111) ((eval_in rfl hN rfl).trans p115)) rfl) | exact step_on (wanted_on rfl rfl rfl hN rfl p106) (ext_val hS (run_pickF rfl ((eval_in rfl hN rfl).trans p111) rfl) rfl)))
                  refine steps_cons ?_ ?_
                  · intro u W hS hp
                    obtain ⟨q0, q1, _⟩ := hp
                    have p106 : u 106 = .bool (((false && nt) || (false && nf)) || (ht && nt)) := q0
                    have p116 : u 116 = (bif !(((false && nt) || (false && nf)) || (ht && nt)) then .bool (hf && nf) else undef) := q1
                    cases ht <;> cases nf <;> cases nt <;> (first | (first | exact step_on (wanted_free rfl) (ext_val hS (run_pickT rfl ((eval_in rfl hN rfl).trans p106) rfl) rfl) | exact step_on (wanted_free rfl) (ext_val hS (run_pickF rfl ((eval_in rfl hN rfl).trans p106) ((eval_in rfl hN rfl).trans p116)) rfl)))
                  exact steps_nil
                · obtain ⟨_, _, _, _, _, _, _, _, _, _, _, _, _, _, _, _, _, _, _, _, _, _, _, _, _, _, _, _, _, _, _, _, _, _, _, _, _, _, _, _, _, q41, _⟩ := hF
                  have p117 : u 117 = .bool ((((false && nt) || (false && nf)) || (ht && nt)) || (hf && nf)) := q41
                  simp only [frm, frmL, Nat.reduceAdd, p117]
                  clear p117
                  have HS4 := Lib.hid hS
                  clear hS
                  rw [show ((((false && nt) || (false && nf)) || (ht && nt)) || (hf && nf)) = false from by revert f1 f2; clear hnt hnf hht hhf f3 f4; cases ht <;> cases hf <;> cases nt <;> cases nf <;> decide]
                  go_wp2_with fail
                  go_meet
                  exact ⟨rfl, HS4⟩
            case rest =>
              clear hcl f1 f2 f3 f4 hnt hnf hht hhf HS
              obtain ⟨rfl, HS⟩ := hcut
              go_upto_region 11 with fail
              have has := HV.out.sk
              have hal := HV.out.al
              rw [HHM.out] at hal
              obtain ⟨a0, ha0⟩ : ∃ b, ((m.a.toNat : Int) == 0) = b := ⟨_, rfl⟩
              obtain ⟨b0, hb0⟩ : ∃ b, m.al = b := ⟨_, rfl⟩
              rw [ha0] at has
              rw [hb0] at hal
              cases a0
              · obtain ⟨hca, hna⟩ := has.resolve_left (by decide)
                cases b0
                · skip
                  refine region_seq (D := [false, false, false, false, true, false, false, false, false, false, false, false, false, false, false, false, false, false, false, false, false, false, false, false, false, false, false, false, false, false, false, false, false, false, false, false, false, false, false, false, false, false, false, false, false, false, false, false, false, false, false, false, false, false, false, false, false, false, false, false, false, false, false, false, false, false, false, false, false, false, false, false, false, false, false, false, false, false, false, false, false, false, false, false, false, false, false, false, false, false, false, false, false, false, false, false, false, false, false, false, false, false, false, false, false, false, false, false, false, false, false, false, false, false, false, false, false, false, true, true, true, true, true, true, true, true, true, true, true, true, true, true, true, true, true, true, true, true, true, true, true, true, true, true, true, true, true, true, true, true]) (S := fun W => St [(bB, boxOf m, 25), (bA, g.arr, 39)] w W) (R := RB) (F := FF [isV (.pointer (some ⟨bB, 4, none⟩)), isV (.int .u8 m.a.toNat), isV (.bool false), isV (.bool false), isV ((bif !false then .agg g.arr else undef)), isV ((bif !false then .pointer (some ⟨bB, 4, none⟩) else undef)), isV ((bif !false then .int .u8 m.a.toNat else undef)), isV ((bif !false then .bool true else undef)), isV ((bif !false then .bool true else undef)), isV ((bif (!false && true) then .pointer (some ⟨bB, 4, none⟩) else undef)), isV ((bif (!false && true) then .int .u8 m.a.toNat else undef)), isV ((bif (!false && true) then .pointer (some ⟨bB, 2, none⟩) else undef)), isV ((bif (!false && true) then .int .u8 m.t.toNat else undef)), isV ((bif (!false && true) then .bool true else undef)), isV ((bif !false then .bool (true && true) else undef)), isV (.bool (false || (true && true))), isV (.bool (false || (true && true))), isV ((bif (false || (true && true)) then .pointer (some ⟨bB, 6, none⟩) else undef)), isV ((bif (false || (true && true)) then .bool false else undef)), isV ((bif (false || (true && true)) then .bool (!false) else undef)), isV ((bif (false || (true && true)) then .bool (!false) else undef)), isV ((bif ((false || (true && true)) && !(!false)) then .pointer (some ⟨bB, 0, none⟩) else undef)), isV ((bif ((false || (true && true)) && !(!false)) then .int .u8 m.k.toNat else undef)), isV ((bif ((false || (true && true)) && !(!false)) then .bool true else undef)), isV ((bif ((false || (true && true)) && !(!false)) then .bool true else undef)), isV ((bif (((false || (true && true)) && !(!false)) && true) then .pointer (some ⟨bB, 1, none⟩) else undef)), isV ((bif (((false || (true && true)) && !(!false)) && true) then .int .u8 m.f.toNat else undef)), isV ((bif (((false || (true && true)) && !(!false)) && true) then .int .u8 hm else undef)), isV ((bif (((false || (true && true)) && !(!false)) && true) then .bool true else undef)), isV ((bif ((false || (true && true)) && !(!false)) then .bool (true && true) else undef)), isV ((bif (false || (true && true)) then .bool ((!false) || (true && true)) else undef)), isV (.bool ((false || (true && true)) && ((!false) || (true && true)))), isV (.bool ((false || (true && true)) && ((!false) || (true && true))))]) rfl (by kernel_rfl) (FF_st _ _) HS.out (fun hN => ?_) (fun u W hS hF => ?_)
                  · refine steps_cons ?_ ?_
                    · intro u W hS hp
                      exact step_on (wanted_free rfl) (ext_val hS (run_fa rfl ((eval_out rfl).trans rfl) (fa25_4 bB)) rfl)
                    refine steps_cons ?_ ?_
                    · intro u W hS hp
                      obtain ⟨q0, _⟩ := hp
                      have p118 : u 118 = .pointer (some ⟨bB, 4, none⟩) := q0
                      exact step_on (wanted_free rfl) (ext_val hS (run_ld rfl ((eval_in rfl hN rfl).trans p118) (ld_u8 ((cell_of_heap (hS.h (bB, boxOf m, 25) (by simp))).trans (rfl : (boxOf m)[4]? = some _)))) rfl)
                    refine steps_cons ?_ ?_
                    · intro u W hS hp
                      obtain ⟨q0, _⟩ := hp
                      have p119 : u 119 = .int .u8 m.a.toNat := q0
                      exact step_on (wanted_free rfl) (ext_val hS (run_bin rfl ((eval_in rfl hN rfl).trans p119) rfl rfl (i_eql ha0)) rfl)
                    refine steps_cons ?_ ?_
                    · intro u W hS hp
                      obtain ⟨q0, _⟩ := hp
                      have p120 : u 120 = .bool false := q0
                      exact step_on (wanted_free rfl) (ext_val hS (run_mv rfl ((eval_in rfl hN rfl).trans p120)) rfl)
                    refine steps_cons ?_ ?_
                    · intro u W hS hp
                      obtain ⟨q0, _⟩ := hp
                      have p121 : u 121 = .bool false := q0
                      first | exact step_off (wanted_off rfl rfl rfl hN rfl p121) rfl | exact step_off (wanted_undef rfl rfl rfl hN rfl p121) rfl | exact step_on (wanted_on rfl rfl rfl hN rfl p121) (ext_val hS (run_ld rfl ((eval_out rfl).trans rfl) (ld39 (hS.h (bA, g.arr, 39) (by simp)))) rfl)
                    refine steps_cons ?_ ?_
                    · intro u W hS hp
                      obtain ⟨q0, _⟩ := hp
                      have p121 : u 121 = .bool false := q0
                      first | exact step_off (wanted_off rfl rfl rfl hN rfl p121) rfl | exact step_off (wanted_undef rfl rfl rfl hN rfl p121) rfl | exact step_on (wanted_on rfl rfl rfl hN rfl p121) (ext_val hS (run_fa rfl ((eval_out rfl).trans rfl) (fa25_4 bB)) rfl)
                    refine steps_cons ?_ ?_
                    · intro u W hS hp
                      obtain ⟨q0, q1, _⟩ := hp
                      have p123 : u 123 = (bif !false then .pointer (some ⟨bB, 4, none⟩) else undef) := q0
                      have p121 : u 121 = .bool false := q1
                      first | exact step_off (wanted_off rfl rfl rfl hN rfl p121) rfl | exact step_off (wanted_undef rfl rfl rfl hN rfl p121) rfl | exact step_on (wanted_on rfl rfl rfl hN rfl p121) (ext_val hS (run_ld rfl ((eval_in rfl hN rfl).trans p123) (ld_u8 ((cell_of_heap (hS.h (bB, boxOf m, 25) (by simp))).trans (rfl : (boxOf m)[4]? = some _)))) rfl)
                    refine steps_cons ?_ ?_
                    · intro u W hS hp
                      obtain ⟨q0, q1, q2, q3, _⟩ := hp
                      have p122 : u 122 = (bif !false then .agg g.arr else undef) := q0
                      have p124 : u 124 = (bif !false then .int .u8 m.a.toNat else undef) := q1
                      have p121 : u 121 = .bool false := q2
                      first | exact step_off (wanted_off rfl rfl rfl hN rfl p121) rfl | exact step_off (wanted_undef rfl rfl rfl hN rfl p121) rfl | exact step_on (wanted_on rfl rfl rfl hN rfl p121) (ext_call (run_call rfl rfl (map2 ((eval_in rfl hN rfl).trans p122) ((eval_in rfl hN rfl).trans p124)) Tryd.func23 nm23 bd23) ((iscache_any g m.a.toNat m.a.toNat_lt W).mono fun _ _ ⟨e, h⟩ => ⟨_, e.trans (congrArg (fun x => Ending.returned (Value.bool x)) hca), rfl, hS.next h, h⟩))
                    refine steps_cons ?_ ?_
                    · intro u W hS hp
                      obtain ⟨q0, q1, q2, _⟩ := hp
                      have p125 : u 125 = (bif !false then .bool true else undef) := q0
                      have p121 : u 121 = .bool false := q2
                      first | exact step_off (wanted_off rfl rfl rfl hN rfl p121) rfl | exact step_off (wanted_undef rfl rfl rfl hN rfl p121) rfl | exact step_on (wanted_on rfl rfl rfl hN rfl p121) (ext_val hS (run_mv rfl ((eval_in rfl hN rfl).trans p125)) rfl)
                    refine steps_cons ?_ ?_
                    · intro u W hS hp
                      obtain ⟨q0, _⟩ := hp
                      have p126 : u 126 = (bif !false then .bool true else undef) := q0
                      first | exact step_off (wanted_off rfl rfl rfl hN rfl p126) rfl | exact step_off (wanted_undef rfl rfl rfl hN rfl p126) rfl | exact step_on (wanted_on rfl rfl rfl hN rfl p126) (ext_val hS (run_fa rfl ((eval_out rfl).trans rfl) (fa25_4 bB)) rfl)
                    refine steps_cons ?_ ?_
                    · intro u W hS hp
                      obtain ⟨q0, q1, _⟩ := hp
                      have p127 : u 127 = (bif (!false && true) then .pointer (some ⟨bB, 4, none⟩) else undef) := q0
                      have p126 : u 126 = (bif !false then .bool true else undef) := q1
                      first | exact step_off (wanted_off rfl rfl rfl hN rfl p126) rfl | exact step_off (wanted_undef rfl rfl rfl hN rfl p126) rfl | exact step_on (wanted_on rfl rfl rfl hN rfl p126) (ext_val hS (run_ld rfl ((eval_in rfl hN rfl).trans p127) (ld_u8 ((cell_of_heap (hS.h (bB, boxOf m, 25) (by simp))).trans (rfl : (boxOf m)[4]? = some _)))) rfl)
                    refine steps_cons ?_ ?_
                    · intro u W hS hp
                      obtain ⟨q0, _⟩ := hp
                      have p126 : u 126 = (bif !false then .bool true else undef) := q0
                      first | exact step_off (wanted_off rfl rfl rfl hN rfl p126) rfl | exact step_off (wanted_undef rfl rfl rfl hN rfl p126) rfl | exact step_on (wanted_on rfl rfl rfl hN rfl p126) (ext_val hS (run_fa rfl ((eval_out rfl).trans rfl) (fa25_2 bB)) rfl)
                    refine steps_cons ?_ ?_
                    · intro u W hS hp
                      obtain ⟨q0, q1, _⟩ := hp
                      have p129 : u 129 = (bif (!false && true) then .pointer (some ⟨bB, 2, none⟩) else undef) := q0
                      have p126 : u 126 = (bif !false then .bool true else undef) := q1
                      first | exact step_off (wanted_off rfl rfl rfl hN rfl p126) rfl | exact step_off (wanted_undef rfl rfl rfl hN rfl p126) rfl | exact step_on (wanted_on rfl rfl rfl hN rfl p126) (ext_val hS (run_ld rfl ((eval_in rfl hN rfl).trans p129) (ld_u8 ((cell_of_heap (hS.h (bB, boxOf m, 25) (by simp))).trans (rfl : (boxOf m)[2]? = some _)))) rfl)
                    refine steps_cons ?_ ?_
                    · intro u W hS hp
                      obtain ⟨q0, q1, q2, _⟩ := hp
                      have p128 : u 128 = (bif (!false && true) then .int .u8 m.a.toNat else undef) := q0
                      have p130 : u 130 = (bif (!false && true) then .int .u8 m.t.toNat else undef) := q1
                      have p126 : u 126 = (bif !false then .bool true else undef) := q2
                      first | exact step_off (wanted_off rfl rfl rfl hN rfl p126) rfl | exact step_off (wanted_undef rfl rfl rfl hN rfl p126) rfl | exact step_on (wanted_on rfl rfl rfl hN rfl p126) (ext_val hS (run_bin rfl ((eval_in rfl hN rfl).trans p128) ((eval_in rfl hN rfl).trans p130) rfl (i_neq hna)) rfl)
                    refine steps_cons ?_ ?_
                    · intro u W hS hp
                      obtain ⟨q0, q1, q2, _⟩ := hp
                      have p126 : u 126 = (bif !false then .bool true else undef) := q0
                      have p131 : u 131 = (bif (!false && true) then .bool true else undef) := q1
                      have p121 : u 121 = .bool false := q2
                      first | exact step_off (wanted_off rfl rfl rfl hN rfl p121) rfl | exact step_off (wanted_undef rfl rfl rfl hN rfl p121) rfl | (first | exact step_on (wanted_on rfl rfl rfl hN rfl p121) (ext_val hS (run_pickT rfl ((eval_in rfl hN rfl).trans p126) ((eval_in rfl hN rfl).trans p131)) rfl) | exact step_on (wanted_on rfl rfl rfl hN rfl p121) (ext_val hS (run_pickF rfl ((eval_in rfl hN rfl).trans p126) rfl) rfl))
                    refine steps_cons ?_ ?_
                    · intro u W hS hp
                      obtain ⟨q0, q1, _⟩ := hp
                      have p121 : u 121 = .bool false := q0
                      have p132 : u 132 = (bif !false then .bool (true && true) else undef) := q1
                      first | (first | exact step_on (wanted_free rfl) (ext_val hS (run_pickT rfl ((eval_in rfl hN rfl).trans p121) rfl) rfl) | exact step_on (wanted_free rfl) (ext_val hS (run_pickF rfl ((eval_in rfl hN rfl).trans p121) ((eval_in rfl hN rfl).trans p132)) rfl))
                    refine steps_cons ?_ ?_
                    · intro u W hS hp
                      obtain ⟨q0, q1, _⟩ := hp
                      have p133 : u 133 = .bool (false || (true && true)) := q0
                      exact step_on (wanted_free rfl) (ext_val hS (run_mv rfl ((eval_in rfl hN rfl).trans p133)) rfl)
                    refine steps_cons ?_ ?_
                    · intro u W hS hp
                      obtain ⟨q0, _⟩ := hp
                      have p134 : u 134 = .bool (false || (true && true)) := q0
                      first | exact step_off (wanted_off rfl rfl rfl hN rfl p134) rfl | exact step_off (wanted_undef rfl rfl rfl hN rfl p134) rfl | exact step_on (wanted_on rfl rfl rfl hN rfl p134) (ext_val hS (run_fa rfl ((eval_out rfl).trans rfl) (fa25_6 bB)) rfl)
                    refine steps_cons ?_ ?_
                    · intro u W hS hp
                      obtain ⟨q0, q1, _⟩ := hp
                      have p135 : u 135 = (bif (false || (true && true)) then .pointer (some ⟨bB, 6, none⟩) else undef) := q0
                      have p134 : u 134 = .bool (false || (true && true)) := q1
                      first | exact step_off (wanted_off rfl rfl rfl hN rfl p134) rfl | exact step_off (wanted_undef rfl rfl rfl hN rfl p134) rfl | exact step_on (wanted_on rfl rfl rfl hN rfl p134) (ext_val hS (run_ld rfl ((eval_in rfl hN rfl).trans p135) (ld_bl (((cell_of_heap (hS.h (bB, boxOf m, 25) (by simp))).trans (rfl : (boxOf m)[6]? = some _)).trans (congrArg (fun x => some (Value.bool x)) hb0)))) rfl)
                    refine steps_cons ?_ ?_
                    · intro u W hS hp
                      obtain ⟨q0, q1, _⟩ := hp
                      have p136 : u 136 = (bif (false || (true && true)) then .bool false else undef) := q0
                      have p134 : u 134 = .bool (false || (true && true)) := q1
                      first | exact step_off (wanted_off rfl rfl rfl hN rfl p134) rfl | exact step_off (wanted_undef rfl rfl rfl hN rfl p134) rfl | exact step_on (wanted_on rfl rfl rfl hN rfl p134) (ext_val hS (run_un rfl ((eval_in rfl hN rfl).trans p136) rfl) rfl)
                    refine steps_cons ?_ ?_
                    · intro u W hS hp
                      obtain ⟨q0, q1, q2, _⟩ := hp
                      have p137 : u 137 = (bif (false || (true && true)) then .bool (!false) else undef) := q0
                      have p134 : u 134 = .bool (false || (true && true)) := q1
                      first | exact step_off (wanted_off rfl rfl rfl hN rfl p134) rfl | exact step_off (wanted_undef rfl rfl rfl hN rfl p134) rfl | exact step_on (wanted_on rfl rfl rfl hN rfl p134) (ext_val hS (run_mv rfl ((eval_in rfl hN rfl).trans p137)) rfl)
                    refine steps_cons ?_ ?_
                    · intro u W hS hp
                      obtain ⟨q0, _⟩ := hp
                      have p138 : u 138 = (bif (false || (true && true)) then .bool (!false) else undef) := q0
                      first | exact step_off (wanted_off rfl rfl rfl hN rfl p138) rfl | exact step_off (wanted_undef rfl rfl rfl hN rfl p138) rfl | exact step_on (wanted_on rfl rfl rfl hN rfl p138) (ext_val hS (run_fa rfl ((eval_out rfl).trans rfl) (fa25_0 bB)) rfl)
                    refine steps_cons ?_ ?_
                    · intro u W hS hp
                      obtain ⟨q0, q1, _⟩ := hp
                      have p139 : u 139 = (bif ((false || (true && true)) && !(!false)) then .pointer (some ⟨bB, 0, none⟩) else undef) := q0
                      have p138 : u 138 = (bif (false || (true && true)) then .bool (!false) else undef) := q1
                      first | exact step_off (wanted_off rfl rfl rfl hN rfl p138) rfl | exact step_off (wanted_undef rfl rfl rfl hN rfl p138) rfl | exact step_on (wanted_on rfl rfl rfl hN rfl p138) (ext_val hS (run_ld rfl ((eval_in rfl hN rfl).trans p139) (ld_u8 ((cell_of_heap (hS.h (bB, boxOf m, 25) (by simp))).trans (rfl : (boxOf m)[0]? = some _)))) rfl)
                    refine steps_cons ?_ ?_
                    · intro u W hS hp
                      obtain ⟨q0, q1, _⟩ := hp
                      have p140 : u 140 = (bif ((false || (true && true)) && !(!false)) then .int .u8 m.k.toNat else undef) := q0
                      have p138 : u 138 = (bif (false || (true && true)) then .bool (!false) else undef) := q1
                      first | exact step_off (wanted_off rfl rfl rfl hN rfl p138) rfl | exact step_off (wanted_undef rfl rfl rfl hN rfl p138) rfl | exact step_on (wanted_on rfl rfl rfl hN rfl p138) (ext_val hS (run_bin rfl ((eval_in rfl hN rfl).trans p140) rfl rfl (i_eql he10)) rfl)
                    refine steps_cons ?_ ?_
                    · intro u W hS hp
                      obtain ⟨q0, q1, q2, _⟩ := hp
                      have p141 : u 141 = (bif ((false || (true && true)) && !(!false)) then .bool true else undef) := q0
                      have p138 : u 138 = (bif (false || (true && true)) then .bool (!false) else undef) := q1
                      first | exact step_off (wanted_off rfl rfl rfl hN rfl p138) rfl | exact step_off (wanted_undef rfl rfl rfl hN rfl p138) rfl | exact step_on (wanted_on rfl rfl rfl hN rfl p138) (ext_val hS (run_mv rfl ((eval_in rfl hN rfl).trans p141)) rfl)
                    refine steps_cons ?_ ?_
                    · intro u W hS hp
                      obtain ⟨q0, _⟩ := hp
                      have p142 : u 142 = (bif ((false || (true && true)) && !(!false)) then .bool true else undef) := q0
                      first | exact step_off (wanted_off rfl rfl rfl hN rfl p142) rfl | exact step_off (wanted_undef rfl rfl rfl hN rfl p142) rfl | exact step_on (wanted_on rfl rfl rfl hN rfl p142) (ext_val hS (run_fa rfl ((eval_out rfl).trans rfl) (fa25_1 bB)) rfl)
                    refine steps_cons ?_ ?_
                    · intro u W hS hp
                      obtain ⟨q0, q1, _⟩ := hp
                      have p143 : u 143 = (bif (((false || (true && true)) && !(!false)) && true) then .pointer (some ⟨bB, 1, none⟩) else undef) := q0
                      have p142 : u 142 = (bif ((false || (true && true)) && !(!false)) then .bool true else undef) := q1
                      first | exact step_off (wanted_off rfl rfl rfl hN rfl p142) rfl | exact step_off (wanted_undef rfl rfl rfl hN rfl p142) rfl | exact step_on (wanted_on rfl rfl rfl hN rfl p142) (ext_val hS (run_ld rfl ((eval_in rfl hN rfl).trans p143) (ld_u8 ((cell_of_heap (hS.h (bB, boxOf m, 25) (by simp))).trans (rfl : (boxOf m)[1]? = some _)))) rfl)
                    refine steps_cons ?_ ?_
                    · intro u W hS hp
                      obtain ⟨q0, _⟩ := hp
                      have p142 : u 142 = (bif ((false || (true && true)) && !(!false)) then .bool true else undef) := q0
                      first | exact step_off (wanted_off rfl rfl rfl hN rfl p142) rfl | exact step_off (wanted_undef rfl rfl rfl hN rfl p142) rfl | exact step_on (wanted_on rfl rfl rfl hN rfl p142) (ext_val hS (run_mv rfl ((eval_out rfl).trans rfl)) rfl)
                    refine steps_cons ?_ ?_
                    · intro u W hS hp
                      obtain ⟨q0, q1, q2, _⟩ := hp
                      have p144 : u 144 = (bif (((false || (true && true)) && !(!false)) && true) then .int .u8 m.f.toNat else undef) := q0
                      have p145 : u 145 = (bif (((false || (true && true)) && !(!false)) && true) then .int .u8 hm else undef) := q1
                      have p142 : u 142 = (bif ((false || (true && true)) && !(!false)) then .bool true else undef) := q2
                      first | exact step_off (wanted_off rfl rfl rfl hN rfl p142) rfl | exact step_off (wanted_undef rfl rfl rfl hN rfl p142) rfl | exact step_on (wanted_on rfl rfl rfl hN rfl p142) (ext_val hS (run_bin rfl ((eval_in rfl hN rfl).trans p144) ((eval_in rfl hN rfl).trans p145) rfl (i_eql hqf)) rfl)
                    refine steps_cons ?_ ?_
                    · intro u W hS hp
                      obtain ⟨q0, q1, q2, _⟩ := hp
                      have p142 : u 142 = (bif ((false || (true && true)) && !(!false)) then .bool true else undef) := q0
                      have p146 : u 146 = (bif (((false || (true && true)) && !(!false)) && true) then .bool true else undef) := q1
                      have p138 : u 138 = (bif (false || (true && true)) then .bool (!false) else undef) := q2
                      first | exact step_off (wanted_off rfl rfl rfl hN rfl p138) rfl | exact step_off (wanted_undef rfl rfl rfl hN rfl p138) rfl | (first | exact step_on (wanted_on rfl rfl rfl hN rfl p138) (ext_val hS (run_pickT rfl ((eval_in rfl hN rfl).trans p142) ((eval_in rfl hN rfl).trans p146)) rfl) | exact step_on (wanted_on rfl rfl rfl hN rfl p138) (ext_val hS (run_pickF rfl ((eval_in rfl hN rfl).trans p142) rfl) rfl))
                    refine steps_cons ?_ ?_
                    · intro u W hS hp
                      obtain ⟨q0, q1, q2, _⟩ := hp
                      have p138 : u 138 = (bif (false || (true && true)) then .bool (!false) else undef) := q0
                      have p147 : u 147 = (bif ((false || (true && true)) && !(!false)) then .bool (true && true) else undef) := q1
                      have p134 : u 134 = .bool (false || (true && true)) := q2
                      first | exact step_off (wanted_off rfl rfl rfl hN rfl p134) rfl | exact step_off (wanted_undef rfl rfl rfl hN rfl p134) rfl | (first | exact step_on (wanted_on rfl rfl rfl hN rfl p134) (ext_val hS (run_pickT rfl ((eval_in rfl hN rfl).trans p138) rfl) rfl) | exact step_on (wanted_on rfl rfl rfl hN rfl p134) (ext_val hS (run_pickF rfl ((eval_in rfl hN rfl).trans p138) ((eval_in rfl hN rfl).trans p147)) rfl))
                    refine steps_cons ?_ ?_
                    · intro u W hS hp
                      obtain ⟨q0, q1, _⟩ := hp
                      have p134 : u 134 = .bool (false || (true && true)) := q0
                      have p148 : u 148 = (bif (false || (true && true)) then .bool ((!false) || (true && true)) else undef) := q1
                      first | (first | exact step_on (wanted_free rfl) (ext_val hS (run_pickT rfl ((eval_in rfl hN rfl).trans p134) ((eval_in rfl hN rfl).trans p148)) rfl) | exact step_on (wanted_free rfl) (ext_val hS (run_pickF rfl ((eval_in rfl hN rfl).trans p134) rfl) rfl))
                    refine steps_cons ?_ ?_
                    · intro u W hS hp
                      obtain ⟨q0, q1, q2, q3, q4, q5, q6, q7, q8, q9, q10, q11, q12, q13, q14, q15, q16, q17, q18, q19, q20, q21, q22, q23, q24, q25, q26, q27, q28, q29, q30, q31, q32, q33, _⟩ := hp
                      have p149 : u 149 = .bool ((false || (true && true)) && ((!false) || (true && true))) := q0
                      exact step_on (wanted_free rfl) (ext_val hS (run_asg rfl ((eval_in rfl hN rfl).trans p149)) rfl)
                    exact steps_nil
                  · obtain ⟨_, _, _, _, _, _, _, _, _, _, _, _, _, _, _, _, _, _, _, _, _, _, _, _, _, _, _, _, _, _, _, _, q32, _⟩ := hF
                    have p4 : u 4 = .bool ((false || (true && true)) && ((!false) || (true && true))) := q32
                    simp only [frm, frmL, Nat.reduceAdd, p4]
                    clear p4
                    go_wp2
                    go_ret
                    exact ⟨rfl, by rw [← HBA.out]; exact hS.b⟩
                · obtain ⟨he10, hqf⟩ := hal.resolve_left (by decide)
                  refine region_seq (D := [false, false, false, false, true, false, false, false, false, false, false, false, false, false, false, false, false, false, false, false, false, false, false, false, false, false, false, false, false, false, false, false, false, false, false, false, false, false, false, false, false, false, false, false, false, false, false, false, false, false, false, false, false, false, false, false, false, false, false, false, false, false, false, false, false, false, false, false, false, false, false, false, false, false, false, false, false, false, false, false, false, false, false, false, false, false, false, false, false, false, false, false, false, false, false, false, false, false, false, false, false, false, false, false, false, false, false, false, false, false, false, false, false, false, false, false, false, false, true, true, true, true, true, true, true, true, true, true, true, true, true, true, true, true, true, true, true, true, true, true, true, true, true, true, true, true, true, true, true, true]) (S := fun W => St [(bB, boxOf m, 25), (bA, g.arr, 39)] w W) (R := RB) (F := FF [isV (.pointer (some ⟨bB, 4, none⟩)), isV (.int .u8 m.a.toNat), isV (.bool false), isV (.bool false), isV ((bif !false then .agg g.arr else undef)), isV ((bif !false then .pointer (some ⟨bB, 4, none⟩) else undef)), isV ((bif !false then .int .u8 m.a.toNat else undef)), isV ((bif !false then .bool true else undef)), isV ((bif !false then .bool true else undef)), isV ((bif (!false && true) then .pointer (some ⟨bB, 4, none⟩) else undef)), isV ((bif (!false && true) then .int .u8 m.a.toNat else undef)), isV ((bif (!false && true) then .pointer (some ⟨bB, 2, none⟩) else undef)), isV ((bif (!false && true) then .int .u8 m.t.toNat else undef)), isV ((bif (!false && true) then .bool true else undef)), isV ((bif !false then .bool (true && true) else undef)), isV (.bool (false || (true && true))), isV (.bool (false || (true && true))), isV ((bif (false || (true && true)) then .pointer (some ⟨bB, 6, none⟩) else undef)), isV ((bif (false || (true && true)) then .bool true else undef)), isV ((bif (false || (true && true)) then .bool (!true) else undef)), isV ((bif (false || (true && true)) then .bool (!true) else undef)), isV ((bif ((false || (true && true)) && !(!true)) then .pointer (some ⟨bB, 0, none⟩) else undef)), isV ((bif ((false || (true && true)) && !(!true)) then .int .u8 m.k.toNat else undef)), isV ((bif ((false || (true && true)) && !(!true)) then .bool true else undef)), isV ((bif ((false || (true && true)) && !(!true)) then .bool true else undef)), isV ((bif (((false || (true && true)) && !(!true)) && true) then .pointer (some ⟨bB, 1, none⟩) else undef)), isV ((bif (((false || (true && true)) && !(!true)) && true) then .int .u8 m.f.toNat else undef)), isV ((bif (((false || (true && true)) && !(!true)) && true) then .int .u8 hm else undef)), isV ((bif (((false || (true && true)) && !(!true)) && true) then .bool true else undef)), isV ((bif ((false || (true && true)) && !(!true)) then .bool (true && true) else undef)), isV ((bif (false || (true && true)) then .bool ((!true) || (true && true)) else undef)), isV (.bool ((false || (true && true)) && ((!true) || (true && true)))), isV (.bool ((false || (true && true)) && ((!true) || (true && true))))]) rfl (by kernel_rfl) (FF_st _ _) HS.out (fun hN => ?_) (fun u W hS hF => ?_)
                  · refine steps_cons ?_ ?_
                    · intro u W hS hp
                      exact step_on (wanted_free rfl) (ext_val hS (run_fa rfl ((eval_out rfl).trans rfl) (fa25_4 bB)) rfl)
                    refine steps_cons ?_ ?_
                    · intro u W hS hp
                      obtain ⟨q0, _⟩ := hp
                      have p118 : u 118 = .pointer (some ⟨bB, 4, none⟩) := q0
                      exact step_on (wanted_free rfl) (ext_val hS (run_ld rfl ((eval_in rfl hN rfl).trans p118) (ld_u8 ((cell_of_heap (hS.h (bB, boxOf m, 25) (by simp))).trans (rfl : (boxOf m)[4]? = some _)))) rfl)
                    refine steps_cons ?_ ?_
                    · intro u W hS hp
                      obtain ⟨q0, _⟩ := hp
                      have p119 : u 119 = .int .u8 m.a.toNat := q0
                      exact step_on (wanted_free rfl) (ext_val hS (run_bin rfl ((eval_in rfl hN rfl).trans p119) rfl rfl (i_eql ha0)) rfl)
                    refine steps_cons ?_ ?_
                    · intro u W hS hp
                      obtain ⟨q0, _⟩ := hp
                      have p120 : u 120 = .bool false := q0
                      exact step_on (wanted_free rfl) (ext_val hS (run_mv rfl ((eval_in rfl hN rfl).trans p120)) rfl)
                    refine steps_cons ?_ ?_
                    · intro u W hS hp
                      obtain ⟨q0, _⟩ := hp
                      have p121 : u 121 = .bool false := q0
                      first | exact step_off (wanted_off rfl rfl rfl hN rfl p121) rfl | exact step_off (wanted_undef rfl rfl rfl hN rfl p121) rfl | exact step_on (wanted_on rfl rfl rfl hN rfl p121) (ext_val hS (run_ld rfl ((eval_out rfl).trans rfl) (ld39 (hS.h (bA, g.arr, 39) (by simp)))) rfl)
                    refine steps_cons ?_ ?_
                    · intro u W hS hp
                      obtain ⟨q0, _⟩ := hp
                      have p121 : u 121 = .bool false := q0
                      first | exact step_off (wanted_off rfl rfl rfl hN rfl p121) rfl | exact step_off (wanted_undef rfl rfl rfl hN rfl p121) rfl | exact step_on (wanted_on rfl rfl rfl hN rfl p121) (ext_val hS (run_fa rfl ((eval_out rfl).trans rfl) (fa25_4 bB)) rfl)
                    refine steps_cons ?_ ?_
                    · intro u W hS hp
                      obtain ⟨q0, q1, _⟩ := hp
                      have p123 : u 123 = (bif !false then .pointer (some ⟨bB, 4, none⟩) else undef) := q0
                      have p121 : u 121 = .bool false := q1
                      first | exact step_off (wanted_off rfl rfl rfl hN rfl p121) rfl | exact step_off (wanted_undef rfl rfl rfl hN rfl p121) rfl | exact step_on (wanted_on rfl rfl rfl hN rfl p121) (ext_val hS (run_ld rfl ((eval_in rfl hN rfl).trans p123) (ld_u8 ((cell_of_heap (hS.h (bB, boxOf m, 25) (by simp))).trans (rfl : (boxOf m)[4]? = some _)))) rfl)
                    refine steps_cons ?_ ?_
                    · intro u W hS hp
                      obtain ⟨q0, q1, q2, q3, _⟩ := hp
                      have p122 : u 122 = (bif !false then .agg g.arr else undef) := q0
                      have p124 : u 124 = (bif !false then .int .u8 m.a.toNat else undef) := q1
                      have p121 : u 121 = .bool false := q2
                      first | exact step_off (wanted_off rfl rfl rfl hN rfl p121) rfl | exact step_off (wanted_undef rfl rfl rfl hN rfl p121) rfl | exact step_on (wanted_on rfl rfl rfl hN rfl p121) (ext_call (run_call rfl rfl (map2 ((eval_in rfl hN rfl).trans p122) ((eval_in rfl hN rfl).trans p124)) Tryd.func23 nm23 bd23) ((iscache_any g m.a.toNat m.a.toNat_lt W).mono fun _ _ ⟨e, h⟩ => ⟨_, e.trans (congrArg (fun x => Ending.returned (Value.bool x)) hca), rfl, hS.next h, h⟩))
                    refine steps_cons ?_ ?_
                    · intro u W hS hp
                      obtain ⟨q0, q1, q2, _⟩ := hp
                      have p125 : u 125 = (bif !false then .bool true else undef) := q0
                      have p121 : u 121 = .bool false := q2
                      first | exact step_off (wanted_off rfl rfl rfl hN rfl p121) rfl | exact step_off (wanted_undef rfl rfl rfl hN rfl p121) rfl | exact step_on (wanted_on rfl rfl rfl hN rfl p121) (ext_val hS (run_mv rfl ((eval_in rfl hN rfl).trans p125)) rfl)
                    refine steps_cons ?_ ?_
                    · intro u W hS hp
                      obtain ⟨q0, _⟩ := hp
                      have p126 : u 126 = (bif !false then .bool true else undef) := q0
                      first | exact step_off (wanted_off rfl rfl rfl hN rfl p126) rfl | exact step_off (wanted_undef rfl rfl rfl hN rfl p126) rfl | exact step_on (wanted_on rfl rfl rfl hN rfl p126) (ext_val hS (run_fa rfl ((eval_out rfl).trans rfl) (fa25_4 bB)) rfl)
                    refine steps_cons ?_ ?_
                    · intro u W hS hp
                      obtain ⟨q0, q1, _⟩ := hp
                      have p127 : u 127 = (bif (!false && true) then .pointer (some ⟨bB, 4, none⟩) else undef) := q0
                      have p126 : u 126 = (bif !false then .bool true else undef) := q1
                      first | exact step_off (wanted_off rfl rfl rfl hN rfl p126) rfl | exact step_off (wanted_undef rfl rfl rfl hN rfl p126) rfl | exact step_on (wanted_on rfl rfl rfl hN rfl p126) (ext_val hS (run_ld rfl ((eval_in rfl hN rfl).trans p127) (ld_u8 ((cell_of_heap (hS.h (bB, boxOf m, 25) (by simp))).trans (rfl : (boxOf m)[4]? = some _)))) rfl)
                    refine steps_cons ?_ ?_
                    · intro u W hS hp
                      obtain ⟨q0, _⟩ := hp
                      have p126 : u 126 = (bif !false then .bool true else undef) := q0
                      first | exact step_off (wanted_off rfl rfl rfl hN rfl p126) rfl | exact step_off (wanted_undef rfl rfl rfl hN rfl p126) rfl | exact step_on (wanted_on rfl rfl rfl hN rfl p126) (ext_val hS (run_fa rfl ((eval_out rfl).trans rfl) (fa25_2 bB)) rfl)
                    refine steps_cons ?_ ?_
                    · intro u W hS hp
                      obtain ⟨q0, q1, _⟩ := hp
                      have p129 : u 129 = (bif (!false && true) then .pointer (some ⟨bB, 2, none⟩) else undef) := q0
                      have p126 : u 126 = (bif !false then .bool true else undef) := q1
                      first | exact step_off (wanted_off rfl rfl rfl hN rfl p126) rfl | exact step_off (wanted_undef rfl rfl rfl hN rfl p126) rfl | exact step_on (wanted_on rfl rfl rfl hN rfl p126) (ext_val hS (run_ld rfl ((eval_in rfl hN rfl).trans p129) (ld_u8 ((cell_of_heap (hS.h (bB, boxOf m, 25) (by simp))).trans (rfl : (boxOf m)[2]? = some _)))) rfl)
                    refine steps_cons ?_ ?_
                    · intro u W hS hp
                      obtain ⟨q0, q1, q2, _⟩ := hp
                      have p128 : u 128 = (bif (!false && true) then .int .u8 m.a.toNat else undef) := q0
                      have p130 : u 130 = (bif (!false && true) then .int .u8 m.t.toNat else undef) := q1
                      have p126 : u 126 = (bif !false then .bool true else undef) := q2
                      first | exact step_off (wanted_off rfl rfl rfl hN rfl p126) rfl | exact step_off (wanted_undef rfl rfl rfl hN rfl p126) rfl | exact step_on (wanted_on rfl rfl rfl hN rfl p126) (ext_val hS (run_bin rfl ((eval_in rfl hN rfl).trans p128) ((eval_in rfl hN rfl).trans p130) rfl (i_neq hna)) rfl)
                    refine steps_cons ?_ ?_
                    · intro u W hS hp
                      obtain ⟨q0, q1, q2, _⟩ := hp
                      have p126 : u 126 = (bif !false then .bool true else undef) := q0
                      have p131 : u 131 = (bif (!false && true) then .bool true else undef) := q1
                      have p121 : u 121 = .bool false := q2
                      first | exact step_off (wanted_off rfl rfl rfl hN rfl p121) rfl | exact step_off (wanted_undef rfl rfl rfl hN rfl p121) rfl | (first | exact step_on (wanted_on rfl rfl rfl hN rfl p121) (ext_val hS (run_pickT rfl ((eval_in rfl hN rfl).trans p126) ((eval_in rfl hN rfl).trans p131)) rfl) | exact step_on (wanted_on rfl rfl rfl hN rfl p121) (ext_val hS (run_pickF rfl ((eval_in rfl hN rfl).trans p126) rfl) rfl))
                    refine steps_cons ?_ ?_
                    · intro u W hS hp
                      obtain ⟨q0, q1, _⟩ := hp
                      have p121 : u 121 = .bool false := q0
                      have p132 : u 132 = (bif !false then .bool (true && true) else undef) := q1
                      first | (first | exact step_on (wanted_free rfl) (ext_val hS (run_pickT rfl ((eval_in rfl hN rfl).trans p121) rfl) rfl) | exact step_on (wanted_free rfl) (ext_val hS (run_pickF rfl ((eval_in rfl hN rfl).trans p121) ((eval_in rfl hN rfl).trans p132)) rfl))
                    refine steps_cons ?_ ?_
                    · intro u W hS hp
                      obtain ⟨q0, q1, _⟩ := hp
                      have p133 : u 133 = .bool (false || (true && true)) := q0
                      exact step_on (wanted_free rfl) (ext_val hS (run_mv rfl ((eval_in rfl hN rfl).trans p133)) rfl)
                    refine steps_cons ?_ ?_
                    · intro u W hS hp
                      obtain ⟨q0, _⟩ := hp
                      have p134 : u 134 = .bool (false || (true && true)) := q0
                      first | exact step_off (wanted_off rfl rfl rfl hN rfl p134) rfl | exact step_off (wanted_undef rfl rfl rfl hN rfl p134) rfl | exact step_on (wanted_on rfl rfl rfl hN rfl p134) (ext_val hS (run_fa rfl ((eval_out rfl).trans rfl) (fa25_6 bB)) rfl)
                    refine steps_cons ?_ ?_
                    · intro u W hS hp
                      obtain ⟨q0, q1, _⟩ := hp
                      have p135 : u 135 = (bif (false || (true && true)) then .pointer (some ⟨bB, 6, none⟩) else undef) := q0
                      have p134 : u 134 = .bool (false || (true && true)) := q1
                      first | exact step_off (wanted_off rfl rfl rfl hN rfl p134) rfl | exact step_off (wanted_undef rfl rfl rfl hN rfl p134) rfl | exact step_on (wanted_on rfl rfl rfl hN rfl p134) (ext_val hS (run_ld rfl ((eval_in rfl hN rfl).trans p135) (ld_bl (((cell_of_heap (hS.h (bB, boxOf m, 25) (by simp))).trans (rfl : (boxOf m)[6]? = some _)).trans (congrArg (fun x => some (Value.bool x)) hb0)))) rfl)
                    refine steps_cons ?_ ?_
                    · intro u W hS hp
                      obtain ⟨q0, q1, _⟩ := hp
                      have p136 : u 136 = (bif (false || (true && true)) then .bool true else undef) := q0
                      have p134 : u 134 = .bool (false || (true && true)) := q1
                      first | exact step_off (wanted_off rfl rfl rfl hN rfl p134) rfl | exact step_off (wanted_undef rfl rfl rfl hN rfl p134) rfl | exact step_on (wanted_on rfl rfl rfl hN rfl p134) (ext_val hS (run_un rfl ((eval_in rfl hN rfl).trans p136) rfl) rfl)
                    refine steps_cons ?_ ?_
                    · intro u W hS hp
                      obtain ⟨q0, q1, q2, _⟩ := hp
                      have p137 : u 137 = (bif (false || (true && true)) then .bool (!true) else undef) := q0
                      have p134 : u 134 = .bool (false || (true && true)) := q1
                      first | exact step_off (wanted_off rfl rfl rfl hN rfl p134) rfl | exact step_off (wanted_undef rfl rfl rfl hN rfl p134) rfl | exact step_on (wanted_on rfl rfl rfl hN rfl p134) (ext_val hS (run_mv rfl ((eval_in rfl hN rfl).trans p137)) rfl)
                    refine steps_cons ?_ ?_
                    · intro u W hS hp
                      obtain ⟨q0, _⟩ := hp
                      have p138 : u 138 = (bif (false || (true && true)) then .bool (!true) else undef) := q0
                      first | exact step_off (wanted_off rfl rfl rfl hN rfl p138) rfl | exact step_off (wanted_undef rfl rfl rfl hN rfl p138) rfl | exact step_on (wanted_on rfl rfl rfl hN rfl p138) (ext_val hS (run_fa rfl ((eval_out rfl).trans rfl) (fa25_0 bB)) rfl)
                    refine steps_cons ?_ ?_
                    · intro u W hS hp
                      obtain ⟨q0, q1, _⟩ := hp
                      have p139 : u 139 = (bif ((false || (true && true)) && !(!true)) then .pointer (some ⟨bB, 0, none⟩) else undef) := q0
                      have p138 : u 138 = (bif (false || (true && true)) then .bool (!true) else undef) := q1
                      first | exact step_off (wanted_off rfl rfl rfl hN rfl p138) rfl | exact step_off (wanted_undef rfl rfl rfl hN rfl p138) rfl | exact step_on (wanted_on rfl rfl rfl hN rfl p138) (ext_val hS (run_ld rfl ((eval_in rfl hN rfl).trans p139) (ld_u8 ((cell_of_heap (hS.h (bB, boxOf m, 25) (by simp))).trans (rfl : (boxOf m)[0]? = some _)))) rfl)
                    refine steps_cons ?_ ?_
                    · intro u W hS hp
                      obtain ⟨q0, q1, _⟩ := hp
                      have p140 : u 140 = (bif ((false || (true && true)) && !(!true)) then .int .u8 m.k.toNat else undef) := q0
                      have p138 : u 138 = (bif (false || (true && true)) then .bool (!true) else undef) := q1
                      first | exact step_off (wanted_off rfl rfl rfl hN rfl p138) rfl | exact step_off (wanted_undef rfl rfl rfl hN rfl p138) rfl | exact step_on (wanted_on rfl rfl rfl hN rfl p138) (ext_val hS (run_bin rfl ((eval_in rfl hN rfl).trans p140) rfl rfl (i_eql he10)) rfl)
                    refine steps_cons ?_ ?_
                    · intro u W hS hp
                      obtain ⟨q0, q1, q2, _⟩ := hp
                      have p141 : u 141 = (bif ((false || (true && true)) && !(!true)) then .bool true else undef) := q0
                      have p138 : u 138 = (bif (false || (true && true)) then .bool (!true) else undef) := q1
                      first | exact step_off (wanted_off rfl rfl rfl hN rfl p138) rfl | exact step_off (wanted_undef rfl rfl rfl hN rfl p138) rfl | exact step_on (wanted_on rfl rfl rfl hN rfl p138) (ext_val hS (run_mv rfl ((eval_in rfl hN rfl).trans p141)) rfl)
                    refine steps_cons ?_ ?_
                    · intro u W hS hp
                      obtain ⟨q0, _⟩ := hp
                      have p142 : u 142 = (bif ((false || (true && true)) && !(!true)) then .bool true else undef) := q0
                      first | exact step_off (wanted_off rfl rfl rfl hN rfl p142) rfl | exact step_off (wanted_undef rfl rfl rfl hN rfl p142) rfl | exact step_on (wanted_on rfl rfl rfl hN rfl p142) (ext_val hS (run_fa rfl ((eval_out rfl).trans rfl) (fa25_1 bB)) rfl)
                    refine steps_cons ?_ ?_
                    · intro u W hS hp
                      obtain ⟨q0, q1, _⟩ := hp
                      have p143 : u 143 = (bif (((false || (true && true)) && !(!true)) && true) then .pointer (some ⟨bB, 1, none⟩) else undef) := q0
                      have p142 : u 142 = (bif ((false || (true && true)) && !(!true)) then .bool true else undef) := q1
                      first | exact step_off (wanted_off rfl rfl rfl hN rfl p142) rfl | exact step_off (wanted_undef rfl rfl rfl hN rfl p142) rfl | exact step_on (wanted_on rfl rfl rfl hN rfl p142) (ext_val hS (run_ld rfl ((eval_in rfl hN rfl).trans p143) (ld_u8 ((cell_of_heap (hS.h (bB, boxOf m, 25) (by simp))).trans (rfl : (boxOf m)[1]? = some _)))) rfl)
                    refine steps_cons ?_ ?_
                    · intro u W hS hp
                      obtain ⟨q0, _⟩ := hp
                      have p142 : u 142 = (bif ((false || (true && true)) && !(!true)) then .bool true else undef) := q0
                      first | exact step_off (wanted_off rfl rfl rfl hN rfl p142) rfl | exact step_off (wanted_undef rfl rfl rfl hN rfl p142) rfl | exact step_on (wanted_on rfl rfl rfl hN rfl p142) (ext_val hS (run_mv rfl ((eval_out rfl).trans rfl)) rfl)
                    refine steps_cons ?_ ?_
                    · intro u W hS hp
                      obtain ⟨q0, q1, q2, _⟩ := hp
                      have p144 : u 144 = (bif (((false || (true && true)) && !(!true)) && true) then .int .u8 m.f.toNat else undef) := q0
                      have p145 : u 145 = (bif (((false || (true && true)) && !(!true)) && true) then .int .u8 hm else undef) := q1
                      have p142 : u 142 = (bif ((false || (true && true)) && !(!true)) then .bool true else undef) := q2
                      first | exact step_off (wanted_off rfl rfl rfl hN rfl p142) rfl | exact step_off (wanted_undef rfl rfl rfl hN rfl p142) rfl | exact step_on (wanted_on rfl rfl rfl hN rfl p142) (ext_val hS (run_bin rfl ((eval_in rfl hN rfl).trans p144) ((eval_in rfl hN rfl).trans p145) rfl (i_eql hqf)) rfl)
                    refine steps_cons ?_ ?_
                    · intro u W hS hp
                      obtain ⟨q0, q1, q2, _⟩ := hp
                      have p142 : u 142 = (bif ((false || (true && true)) && !(!true)) then .bool true else undef) := q0
                      have p146 : u 146 = (bif (((false || (true && true)) && !(!true)) && true) then .bool true else undef) := q1
                      have p138 : u 138 = (bif (false || (true && true)) then .bool (!true) else undef) := q2
                      first | exact step_off (wanted_off rfl rfl rfl hN rfl p138) rfl | exact step_off (wanted_undef rfl rfl rfl hN rfl p138) rfl | (first | exact step_on (wanted_on rfl rfl rfl hN rfl p138) (ext_val hS (run_pickT rfl ((eval_in rfl hN rfl).trans p142) ((eval_in rfl hN rfl).trans p146)) rfl) | exact step_on (wanted_on rfl rfl rfl hN rfl p138) (ext_val hS (run_pickF rfl ((eval_in rfl hN rfl).trans p142) rfl) rfl))
                    refine steps_cons ?_ ?_
                    · intro u W hS hp
                      obtain ⟨q0, q1, q2, _⟩ := hp
                      have p138 : u 138 = (bif (false || (true && true)) then .bool (!true) else undef) := q0
                      have p147 : u 147 = (bif ((false || (true && true)) && !(!true)) then .bool (true && true) else undef) := q1
                      have p134 : u 134 = .bool (false || (true && true)) := q2
                      first | exact step_off (wanted_off rfl rfl rfl hN rfl p134) rfl | exact step_off (wanted_undef rfl rfl rfl hN rfl p134) rfl | (first | exact step_on (wanted_on rfl rfl rfl hN rfl p134) (ext_val hS (run_pickT rfl ((eval_in rfl hN rfl).trans p138) rfl) rfl) | exact step_on (wanted_on rfl rfl rfl hN rfl p134) (ext_val hS (run_pickF rfl ((eval_in rfl hN rfl).trans p138) ((eval_in rfl hN rfl).trans p147)) rfl))
                    refine steps_cons ?_ ?_
                    · intro u W hS hp
                      obtain ⟨q0, q1, _⟩ := hp
                      have p134 : u 134 = .bool (false || (true && true)) := q0
                      have p148 : u 148 = (bif (false || (true && true)) then .bool ((!true) || (true && true)) else undef) := q1
                      first | (first | exact step_on (wanted_free rfl) (ext_val hS (run_pickT rfl ((eval_in rfl hN rfl).trans p134) ((eval_in rfl hN rfl).trans p148)) rfl) | exact step_on (wanted_free rfl) (ext_val hS (run_pickF rfl ((eval_in rfl hN rfl).trans p134) rfl) rfl))
                    refine steps_cons ?_ ?_
                    · intro u W hS hp
                      obtain ⟨q0, q1, q2, q3, q4, q5, q6, q7, q8, q9, q10, q11, q12, q13, q14, q15, q16, q17, q18, q19, q20, q21, q22, q23, q24, q25, q26, q27, q28, q29, q30, q31, q32, q33, _⟩ := hp
                      have p149 : u 149 = .bool ((false || (true && true)) && ((!true) || (true && true))) := q0
                      exact step_on (wanted_free rfl) (ext_val hS (run_asg rfl ((eval_in rfl hN rfl).trans p149)) rfl)
                    exact steps_nil
                  · obtain ⟨_, _, _, _, _, _, _, _, _, _, _, _, _, _, _, _, _, _, _, _, _, _, _, _, _, _, _, _, _, _, _, _, q32, _⟩ := hF
                    have p4 : u 4 = .bool ((false || (true && true)) && ((!true) || (true && true))) := q32
                    simp only [frm, frmL, Nat.reduceAdd, p4]
                    clear p4
                    go_wp2
                    go_ret
                    exact ⟨rfl, by rw [← HBA.out]; exact hS.b⟩
              · skip
                cases b0
                · skip
                  refine region_seq (D := [false, false, false, false, true, false, false, false, false, false, false, false, false, false, false, false, false, false, false, false, false, false, false, false, false, false, false, false, false, false, false, false, false, false, false, false, false, false, false, false, false, false, false, false, false, false, false, false, false, false, false, false, false, false, false, false, false, false, false, false, false, false, false, false, false, false, false, false, false, false, false, false, false, false, false, false, false, false, false, false, false, false, false, false, false, false, false, false, false, false, false, false, false, false, false, false, false, false, false, false, false, false, false, false, false, false, false, false, false, false, false, false, false, false, false, false, false, false, true, true, true, true, true, true, true, true, true, true, true, true, true, true, true, true, true, true, true, true, true, true, true, true, true, true, true, true, true, true, true, true]) (S := fun W => St [(bB, boxOf m, 25), (bA, g.arr, 39)] w W) (R := RB) (F := FF [isV (.pointer (some ⟨bB, 4, none⟩)), isV (.int .u8 m.a.toNat), isV (.bool true), isV (.bool true), isV ((bif !true then .agg g.arr else undef)), isV ((bif !true then .pointer (some ⟨bB, 4, none⟩) else undef)), isV ((bif !true then .int .u8 m.a.toNat else undef)), isV ((bif !true then .bool true else undef)), isV ((bif !true then .bool true else undef)), isV ((bif (!true && true) then .pointer (some ⟨bB, 4, none⟩) else undef)), isV ((bif (!true && true) then .int .u8 m.a.toNat else undef)), isV ((bif (!true && true) then .pointer (some ⟨bB, 2, none⟩) else undef)), isV ((bif (!true && true) then .int .u8 m.t.toNat else undef)), isV ((bif (!true && true) then .bool true else undef)), isV ((bif !true then .bool (true && true) else undef)), isV (.bool (true || (true && true))), isV (.bool (true || (true && true))), isV ((bif (true || (true && true)) then .pointer (some ⟨bB, 6, none⟩) else undef)), isV ((bif (true || (true && true)) then .bool false else undef)), isV ((bif (true || (true && true)) then .bool (!false) else undef)), isV ((bif (true || (true && true)) then .bool (!false) else undef)), isV ((bif ((true || (true && true)) && !(!false)) then .pointer (some ⟨bB, 0, none⟩) else undef)), isV ((bif ((true || (true && true)) && !(!false)) then .int .u8 m.k.toNat else undef)), isV ((bif ((true || (true && true)) && !(!false)) then .bool true else undef)), isV ((bif ((true || (true && true)) && !(!false)) then .bool true else undef)), isV ((bif (((true || (true && true)) && !(!false)) && true) then .pointer (some ⟨bB, 1, none⟩) else undef)), isV ((bif (((true || (true && true)) && !(!false)) && true) then .int .u8 m.f.toNat else undef)), isV ((bif (((true || (true && true)) && !(!false)) && true) then .int .u8 hm else undef)), isV ((bif (((true || (true && true)) && !(!false)) && true) then .bool true else undef)), isV ((bif ((true || (true && true)) && !(!false)) then .bool (true && true) else undef)), isV ((bif (true || (true && true)) then .bool ((!false) || (true && true)) else undef)), isV (.bool ((true || (true && true)) && ((!false) || (true && true)))), isV (.bool ((true || (true && true)) && ((!false) || (true && true))))]) rfl (by kernel_rfl) (FF_st _ _) HS.out (fun hN => ?_) (fun u W hS hF => ?_)
                  · refine steps_cons ?_ ?_
                    · intro u W hS hp
                      exact step_on (wanted_free rfl) (ext_val hS (run_fa rfl ((eval_out rfl).trans rfl) (fa25_4 bB)) rfl)
                    refine steps_cons ?_ ?_
                    · intro u W hS hp
                      obtain ⟨q0, _⟩ := hp
                      have p118 : u 118 = .pointer (some ⟨bB, 4, none⟩) := q0
                      exact step_on (wanted_free rfl) (ext_val hS (run_ld rfl ((eval_in rfl hN rfl).trans p118) (ld_u8 ((cell_of_heap (hS.h (bB, boxOf m, 25) (by simp))).trans (rfl : (boxOf m)[4]? = some _)))) rfl)
                    refine steps_cons ?_ ?_
                    · intro u W hS hp
                      obtain ⟨q0, _⟩ := hp
                      have p119 : u 119 = .int .u8 m.a.toNat := q0
                      exact step_on (wanted_free rfl) (ext_val hS (run_bin rfl ((eval_in rfl hN rfl).trans p119) rfl rfl (i_eql ha0)) rfl)
                    refine steps_cons ?_ ?_
                    · intro u W hS hp
                      obtain ⟨q0, _⟩ := hp
                      have p120 : u 120 = .bool true := q0
                      exact step_on (wanted_free rfl) (ext_val hS (run_mv rfl ((eval_in rfl hN rfl).trans p120)) rfl)
                    refine steps_cons ?_ ?_
                    · intro u W hS hp
                      obtain ⟨q0, _⟩ := hp
                      have p121 : u 121 = .bool true := q0
                      first | exact step_off (wanted_off rfl rfl rfl hN rfl p121) rfl | exact step_off (wanted_undef rfl rfl rfl hN rfl p121) rfl | exact step_on (wanted_on rfl rfl rfl hN rfl p121) (ext_val hS (run_ld rfl ((eval_out rfl).trans rfl) (ld39 (hS.h (bA, g.arr, 39) (by simp)))) rfl)
                    refine steps_cons ?_ ?_
                    · intro u W hS hp
                      obtain ⟨q0, _⟩ := hp
                      have p121 : u 121 = .bool true := q0
                      first | exact step_off (wanted_off rfl rfl rfl hN rfl p121) rfl | exact step_off (wanted_undef rfl rfl rfl hN rfl p121) rfl | exact step_on (wanted_on rfl rfl rfl hN rfl p121) (ext_val hS (run_fa rfl ((eval_out rfl).trans rfl) (fa25_4 bB)) rfl)
                    refine steps_cons ?_ ?_
                    · intro u W hS hp
                      obtain ⟨q0, q1, _⟩ := hp
                      have p123 : u 123 = (bif !true then .pointer (some ⟨bB, 4, none⟩) else undef) := q0
                      have p121 : u 121 = .bool true := q1
                      first | exact step_off (wanted_off rfl rfl rfl hN rfl p121) rfl | exact step_off (wanted_undef rfl rfl rfl hN rfl p121) rfl | exact step_on (wanted_on rfl rfl rfl hN rfl p121) (ext_val hS (run_ld rfl ((eval_in rfl hN rfl).trans p123) (ld_u8 ((cell_of_heap (hS.h (bB, boxOf m, 25) (by simp))).trans (rfl : (boxOf m)[4]? = some _)))) rfl)
                    refine steps_cons ?_ ?_
                    · intro u W hS hp
                      obtain ⟨q0, q1, q2, q3, _⟩ := hp
                      have p122 : u 122 = (bif !true then .agg g.arr else undef) := q0
                      have p124 : u 124 = (bif !true then .int .u8 m.a.toNat else undef) := q1
                      have p121 : u 121 = .bool true := q2
                      first | exact step_off (wanted_off rfl rfl rfl hN rfl p121) rfl | exact step_off (wanted_undef rfl rfl rfl hN rfl p121) rfl | exact step_on (wanted_on rfl rfl rfl hN rfl p121) (ext_call (run_call rfl rfl (map2 ((eval_in rfl hN rfl).trans p122) ((eval_in rfl hN rfl).trans p124)) Tryd.func23 nm23 bd23) ((iscache_any g m.a.toNat m.a.toNat_lt W).mono fun _ _ ⟨e, h⟩ => ⟨_, e.trans (congrArg (fun x => Ending.returned (Value.bool x)) hca), rfl, hS.next h, h⟩))
                    refine steps_cons ?_ ?_
                    · intro u W hS hp
                      obtain ⟨q0, q1, q2, _⟩ := hp
                      have p125 : u 125 = (bif !true then .bool true else undef) := q0
                      have p121 : u 121 = .bool true := q2
                      first | exact step_off (wanted_off rfl rfl rfl hN rfl p121) rfl | exact step_off (wanted_undef rfl rfl rfl hN rfl p121) rfl | exact step_on (wanted_on rfl rfl rfl hN rfl p121) (ext_val hS (run_mv rfl ((eval_in rfl hN rfl).trans p125)) rfl)
                    refine steps_cons ?_ ?_
                    · intro u W hS hp
                      obtain ⟨q0, _⟩ := hp
                      have p126 : u 126 = (bif !true then .bool true else undef) := q0
                      first | exact step_off (wanted_off rfl rfl rfl hN rfl p126) rfl | exact step_off (wanted_undef rfl rfl rfl hN rfl p126) rfl | exact step_on (wanted_on rfl rfl rfl hN rfl p126) (ext_val hS (run_fa rfl ((eval_out rfl).trans rfl) (fa25_4 bB)) rfl)
                    refine steps_cons ?_ ?_
                    · intro u W hS hp
                      obtain ⟨q0, q1, _⟩ := hp
                      have p127 : u 127 = (bif (!true && true) then .pointer (some ⟨bB, 4, none⟩) else undef) := q0
                      have p126 : u 126 = (bif !true then .bool true else undef) := q1
                      first | exact step_off (wanted_off rfl rfl rfl hN rfl p126) rfl | exact step_off (wanted_undef rfl rfl rfl hN rfl p126) rfl | exact step_on (wanted_on rfl rfl rfl hN rfl p126) (ext_val hS (run_ld rfl ((eval_in rfl hN rfl).trans p127) (ld_u8 ((cell_of_heap (hS.h (bB, boxOf m, 25) (by simp))).trans (rfl : (boxOf m)[4]? = some _)))) rfl)
                    refine steps_cons ?_ ?_
                    · intro u W hS hp
                      obtain ⟨q0, _⟩ := hp
                      have p126 : u 126 = (bif !true then .bool true else undef) := q0
                      first | exact step_off (wanted_off rfl rfl rfl hN rfl p126) rfl | exact step_off (wanted_undef rfl rfl rfl hN rfl p126) rfl | exact step_on (wanted_on rfl rfl rfl hN rfl p126) (ext_val hS (run_fa rfl ((eval_out rfl).trans rfl) (fa25_2 bB)) rfl)
                    refine steps_cons ?_ ?_
                    · intro u W hS hp
                      obtain ⟨q0, q1, _⟩ := hp
                      have p129 : u 129 = (bif (!true && true) then .pointer (some ⟨bB, 2, none⟩) else undef) := q0
                      have p126 : u 126 = (bif !true then .bool true else undef) := q1
                      first | exact step_off (wanted_off rfl rfl rfl hN rfl p126) rfl | exact step_off (wanted_undef rfl rfl rfl hN rfl p126) rfl | exact step_on (wanted_on rfl rfl rfl hN rfl p126) (ext_val hS (run_ld rfl ((eval_in rfl hN rfl).trans p129) (ld_u8 ((cell_of_heap (hS.h (bB, boxOf m, 25) (by simp))).trans (rfl : (boxOf m)[2]? = some _)))) rfl)
                    refine steps_cons ?_ ?_
                    · intro u W hS hp
                      obtain ⟨q0, q1, q2, _⟩ := hp
                      have p128 : u 128 = (bif (!true && true) then .int .u8 m.a.toNat else undef) := q0
                      have p130 : u 130 = (bif (!true && true) then .int .u8 m.t.toNat else undef) := q1
                      have p126 : u 126 = (bif !true then .bool true else undef) := q2
                      first | exact step_off (wanted_off rfl rfl rfl hN rfl p126) rfl | exact step_off (wanted_undef rfl rfl rfl hN rfl p126) rfl | exact step_on (wanted_on rfl rfl rfl hN rfl p126) (ext_val hS (run_bin rfl ((eval_in rfl hN rfl).trans p128) ((eval_in rfl hN rfl).trans p130) rfl (i_neq hna)) rfl)
                    refine steps_cons ?_ ?_
                    · intro u W hS hp
                      obtain ⟨q0, q1, q2, _⟩ := hp
                      have p126 : u 126 = (bif !true then .bool true else undef) := q0
                      have p131 : u 131 = (bif (!true && true) then .bool true else undef) := q1
                      have p121 : u 121 = .bool true := q2
                      first | exact step_off (wanted_off rfl rfl rfl hN rfl p121) rfl | exact step_off (wanted_undef rfl rfl rfl hN rfl p121) rfl | (first | exact step_on (wanted_on rfl rfl rfl hN rfl p121) (ext_val hS (run_pickT rfl ((eval_in rfl hN rfl).trans p126) ((eval_in rfl hN rfl).trans p131)) rfl) | exact step_on (wanted_on rfl rfl rfl hN rfl p121) (ext_val hS (run_pickF rfl ((eval_in rfl hN rfl).trans p126) rfl) rfl))
                    refine steps_cons ?_ ?_
                    · intro u W hS hp
                      obtain ⟨q0, q1, _⟩ := hp
                      have p121 : u 121 = .bool true := q0
                      have p132 : u 132 = (bif !true then .bool (true && true) else undef) := q1
                      first | (first | exact step_on (wanted_free rfl) (ext_val hS (run_pickT rfl ((eval_in rfl hN rfl).trans p121) rfl) rfl) | exact step_on (wanted_free rfl) (ext_val hS (run_pickF rfl ((eval_in rfl hN rfl).trans p121) ((eval_in rfl hN rfl).trans p132)) rfl))
                    refine steps_cons ?_ ?_
                    · intro u W hS hp
                      obtain ⟨q0, q1, _⟩ := hp
                      have p133 : u 133 = .bool (true || (true && true)) := q0
                      exact step_on (wanted_free rfl) (ext_val hS (run_mv rfl ((eval_in rfl hN rfl).trans p133)) rfl)
                    refine steps_cons ?_ ?_
                    · intro u W hS hp
                      obtain ⟨q0, _⟩ := hp
                      have p134 : u 134 = .bool (true || (true && true)) := q0
                      first | exact step_off (wanted_off rfl rfl rfl hN rfl p134) rfl | exact step_off (wanted_undef rfl rfl rfl hN rfl p134) rfl | exact step_on (wanted_on rfl rfl rfl hN rfl p134) (ext_val hS (run_fa rfl ((eval_out rfl).trans rfl) (fa25_6 bB)) rfl)
                    refine steps_cons ?_ ?_
                    · intro u W hS hp
                      obtain ⟨q0, q1, _⟩ := hp
                      have p135 : u 135 = (bif (true || (true && true)) then .pointer (some ⟨bB, 6, none⟩) else undef) := q0
                      have p134 : u 134 = .bool (true || (true && true)) := q1
                      first | exact step_off (wanted_off rfl rfl rfl hN rfl p134) rfl | exact step_off (wanted_undef rfl rfl rfl hN rfl p134) rfl | exact step_on (wanted_on rfl rfl rfl hN rfl p134) (ext_val hS (run_ld rfl ((eval_in rfl hN rfl).trans p135) (ld_bl (((cell_of_heap (hS.h (bB, boxOf m, 25) (by simp))).trans (rfl : (boxOf m)[6]? = some _)).trans (congrArg (fun x => some (Value.bool x)) hb0)))) rfl)
                    refine steps_cons ?_ ?_
                    · intro u W hS hp
                      obtain ⟨q0, q1, _⟩ := hp
                      have p136 : u 136 = (bif (true || (true && true)) then .bool false else undef) := q0
                      have p134 : u 134 = .bool (true || (true && true)) := q1
                      first | exact step_off (wanted_off rfl rfl rfl hN rfl p134) rfl | exact step_off (wanted_undef rfl rfl rfl hN rfl p134) rfl | exact step_on (wanted_on rfl rfl rfl hN rfl p134) (ext_val hS (run_un rfl ((eval_in rfl hN rfl).trans p136) rfl) rfl)
                    refine steps_cons ?_ ?_
                    · intro u W hS hp
                      obtain ⟨q0, q1, q2, _⟩ := hp
                      have p137 : u 137 = (bif (true || (true && true)) then .bool (!false) else undef) := q0
                      have p134 : u 134 = .bool (true || (true && true)) := q1
                      first | exact step_off (wanted_off rfl rfl rfl hN rfl p134) rfl | exact step_off (wanted_undef rfl rfl rfl hN rfl p134) rfl | exact step_on (wanted_on rfl rfl rfl hN rfl p134) (ext_val hS (run_mv rfl ((eval_in rfl hN rfl).trans p137)) rfl)
                    refine steps_cons ?_ ?_
                    · intro u W hS hp
                      obtain ⟨q0, _⟩ := hp
                      have p138 : u 138 = (bif (true || (true && true)) then .bool (!false) else undef) := q0
                      first | exact step_off (wanted_off rfl rfl rfl hN rfl p138) rfl | exact step_off (wanted_undef rfl rfl rfl hN rfl p138) rfl | exact step_on (wanted_on rfl rfl rfl hN rfl p138) (ext_val hS (run_fa rfl ((eval_out rfl).trans rfl) (fa25_0 bB)) rfl)
                    refine steps_cons ?_ ?_
                    · intro u W hS hp
                      obtain ⟨q0, q1, _⟩ := hp
                      have p139 : u 139 = (bif ((true || (true && true)) && !(!false)) then .pointer (some ⟨bB, 0, none⟩) else undef) := q0
                      have p138 : u 138 = (bif (true || (true && true)) then .bool (!false) else undef) := q1
                      first | exact step_off (wanted_off rfl rfl rfl hN rfl p138) rfl | exact step_off (wanted_undef rfl rfl rfl hN rfl p138) rfl | exact step_on (wanted_on rfl rfl rfl hN rfl p138) (ext_val hS (run_ld rfl ((eval_in rfl hN rfl).trans p139) (ld_u8 ((cell_of_heap (hS.h (bB, boxOf m, 25) (by simp))).trans (rfl : (boxOf m)[0]? = some _)))) rfl)
                    refine steps_cons ?_ ?_
                    · intro u W hS hp
                      obtain ⟨q0, q1, _⟩ := hp
                      have p140 : u 140 = (bif ((true || (true && true)) && !(!false)) then .int .u8 m.k.toNat else undef) := q0
                      have p138 : u 138 = (bif (true || (true && true)) then .bool (!false) else undef) := q1
                      first | exact step_off (wanted_off rfl rfl rfl hN rfl p138) rfl | exact step_off (wanted_undef rfl rfl rfl hN rfl p138) rfl | exact step_on (wanted_on rfl rfl rfl hN rfl p138) (ext_val hS (run_bin rfl ((eval_in rfl hN rfl).trans p140) rfl rfl (i_eql he10)) rfl)
                    refine steps_cons ?_ ?_
                    · intro u W hS hp
                      obtain ⟨q0, q1, q2, _⟩ := hp
                      have p141 : u 141 = (bif ((true || (true && true)) && !(!false)) then .bool true else undef) := q0
                      have p138 : u 138 = (bif (true || (true && true)) then .bool (!false) else undef) := q1
                      first | exact step_off (wanted_off rfl rfl rfl hN rfl p138) rfl | exact step_off (wanted_undef rfl rfl rfl hN rfl p138) rfl | exact step_on (wanted_on rfl rfl rfl hN rfl p138) (ext_val hS (run_mv rfl ((eval_in rfl hN rfl).trans p141)) rfl)
                    refine steps_cons ?_ ?_
                    · intro u W hS hp
                      obtain ⟨q0, _⟩ := hp
                      have p142 : u 142 = (bif ((true || (true && true)) && !(!false)) then .bool true else undef) := q0
                      first | exact step_off (wanted_off rfl rfl rfl hN rfl p142) rfl | exact step_off (wanted_undef rfl rfl rfl hN rfl p142) rfl | exact step_on (wanted_on rfl rfl rfl hN rfl p142) (ext_val hS (run_fa rfl ((eval_out rfl).trans rfl) (fa25_1 bB)) rfl)
                    refine steps_cons ?_ ?_
                    · intro u W hS hp
                      obtain ⟨q0, q1, _⟩ := hp
                      have p143 : u 143 = (bif (((true || (true && true)) && !(!false)) && true) then .pointer (some ⟨bB, 1, none⟩) else undef) := q0
                      have p142 : u 142 = (bif ((true || (true && true)) && !(!false)) then .bool true else undef) := q1
                      first | exact step_off (wanted_off rfl rfl rfl hN rfl p142) rfl | exact step_off (wanted_undef rfl rfl rfl hN rfl p142) rfl | exact step_on (wanted_on rfl rfl rfl hN rfl p142) (ext_val hS (run_ld rfl ((eval_in rfl hN rfl).trans p143) (ld_u8 ((cell_of_heap (hS.h (bB, boxOf m, 25) (by simp))).trans (rfl : (boxOf m)[1]? = some _)))) rfl)
                    refine steps_cons ?_ ?_
                    · intro u W hS hp
                      obtain ⟨q0, _⟩ := hp
                      have p142 : u 142 = (bif ((true || (true && true)) && !(!false)) then .bool true else undef) := q0
                      first | exact step_off (wanted_off rfl rfl rfl hN rfl p142) rfl | exact step_off (wanted_undef rfl rfl rfl hN rfl p142) rfl | exact step_on (wanted_on rfl rfl rfl hN rfl p142) (ext_val hS (run_mv rfl ((eval_out rfl).trans rfl)) rfl)
                    refine steps_cons ?_ ?_
                    · intro u W hS hp
                      obtain ⟨q0, q1, q2, _⟩ := hp
                      have p144 : u 144 = (bif (((true || (true && true)) && !(!false)) && true) then .int .u8 m.f.toNat else undef) := q0
                      have p145 : u 145 = (bif (((true || (true && true)) && !(!false)) && true) then .int .u8 hm else undef) := q1
                      have p142 : u 142 = (bif ((true || (true && true)) && !(!false)) then .bool true else undef) := q2
                      first | exact step_off (wanted_off rfl rfl rfl hN rfl p142) rfl | exact step_off (wanted_undef rfl rfl rfl hN rfl p142) rfl | exact step_on (wanted_on rfl rfl rfl hN rfl p142) (ext_val hS (run_bin rfl ((eval_in rfl hN rfl).trans p144) ((eval_in rfl hN rfl).trans p145) rfl (i_eql hqf)) rfl)
                    refine steps_cons ?_ ?_
                    · intro u W hS hp
                      obtain ⟨q0, q1, q2, _⟩ := hp
                      have p142 : u 142 = (bif ((true || (true && true)) && !(!false)) then .bool true else undef) := q0
                      have p146 : u 146 = (bif (((true || (true && true)) && !(!false)) && true) then .bool true else undef) := q1
                      have p138 : u 138 = (bif (true || (true && true)) then .bool (!false) else undef) := q2
                      first | exact step_off (wanted_off rfl rfl rfl hN rfl p138) rfl | exact step_off (wanted_undef rfl rfl rfl hN rfl p138) rfl | (first | exact step_on (wanted_on rfl rfl rfl hN rfl p138) (ext_val hS (run_pickT rfl ((eval_in rfl hN rfl).trans p142) ((eval_in rfl hN rfl).trans p146)) rfl) | exact step_on (wanted_on rfl rfl rfl hN rfl p138) (ext_val hS (run_pickF rfl ((eval_in rfl hN rfl).trans p142) rfl) rfl))
                    refine steps_cons ?_ ?_
                    · intro u W hS hp
                      obtain ⟨q0, q1, q2, _⟩ := hp
                      have p138 : u 138 = (bif (true || (true && true)) then .bool (!false) else undef) := q0
                      have p147 : u 147 = (bif ((true || (true && true)) && !(!false)) then .bool (true && true) else undef) := q1
                      have p134 : u 134 = .bool (true || (true && true)) := q2
                      first | exact step_off (wanted_off rfl rfl rfl hN rfl p134) rfl | exact step_off (wanted_undef rfl rfl rfl hN rfl p134) rfl | (first | exact step_on (wanted_on rfl rfl rfl hN rfl p134) (ext_val hS (run_pickT rfl ((eval_in rfl hN rfl).trans p138) rfl) rfl) | exact step_on (wanted_on rfl rfl rfl hN rfl p134) (ext_val hS (run_pickF rfl ((eval_in rfl hN rfl).trans p138) ((eval_in rfl hN rfl).trans p147)) rfl))
                    refine steps_cons ?_ ?_
                    · intro u W hS hp
                      obtain ⟨q0, q1, _⟩ := hp
                      have p134 : u 134 = .bool (true || (true && true)) := q0
                      have p148 : u 148 = (bif (true || (true && true)) then .bool ((!false) || (true && true)) else undef) := q1
                      first | (first | exact step_on (wanted_free rfl) (ext_val hS (run_pickT rfl ((eval_in rfl hN rfl).trans p134) ((eval_in rfl hN rfl).trans p148)) rfl) | exact step_on (wanted_free rfl) (ext_val hS (run_pickF rfl ((eval_in rfl hN rfl).trans p134) rfl) rfl))
                    refine steps_cons ?_ ?_
                    · intro u W hS hp
                      obtain ⟨q0, q1, q2, q3, q4, q5, q6, q7, q8, q9, q10, q11, q12, q13, q14, q15, q16, q17, q18, q19, q20, q21, q22, q23, q24, q25, q26, q27, q28, q29, q30, q31, q32, q33, _⟩ := hp
                      have p149 : u 149 = .bool ((true || (true && true)) && ((!false) || (true && true))) := q0
                      exact step_on (wanted_free rfl) (ext_val hS (run_asg rfl ((eval_in rfl hN rfl).trans p149)) rfl)
                    exact steps_nil
                  · obtain ⟨_, _, _, _, _, _, _, _, _, _, _, _, _, _, _, _, _, _, _, _, _, _, _, _, _, _, _, _, _, _, _, _, q32, _⟩ := hF
                    have p4 : u 4 = .bool ((true || (true && true)) && ((!false) || (true && true))) := q32
                    simp only [frm, frmL, Nat.reduceAdd, p4]
                    clear p4
                    go_wp2
                    go_ret
                    exact ⟨rfl, by rw [← HBA.out]; exact hS.b⟩
                · obtain ⟨he10, hqf⟩ := hal.resolve_left (by decide)
                  refine region_seq (D := [false, false, false, false, true, false, false, false, false, false, false, false, false, false, false, false, false, false, false, false, false, false, false, false, false, false, false, false, false, false, false, false, false, false, false, false, false, false, false, false, false, false, false, false, false, false, false, false, false, false, false, false, false, false, false, false, false, false, false, false, false, false, false, false, false, false, false, false, false, false, false, false, false, false, false, false, false, false, false, false, false, false, false, false, false, false, false, false, false, false, false, false, false, false, false, false, false, false, false, false, false, false, false, false, false, false, false, false, false, false, false, false, false, false, false, false, false, false, true, true, true, true, true, true, true, true, true, true, true, true, true, true, true, true, true, true, true, true, true, true, true, true, true, true, true, true, true, true, true, true]) (S := fun W => St [(bB, boxOf m, 25), (bA, g.arr, 39)] w W) (R := RB) (F := FF [isV (.pointer (some ⟨bB, 4, none⟩)), isV (.int .u8 m.a.toNat), isV (.bool true), isV (.bool true), isV ((bif !true then .agg g.arr else undef)), isV ((bif !true then .pointer (some ⟨bB, 4, none⟩) else undef)), isV ((bif !true then .int .u8 m.a.toNat else undef)), isV ((bif !true then .bool true else undef)), isV ((bif !true then .bool true else undef)), isV ((bif (!true && true) then .pointer (some ⟨bB, 4, none⟩) else undef)), isV ((bif (!true && true) then .int .u8 m.a.toNat else undef)), isV ((bif (!true && true) then .pointer (some ⟨bB, 2, none⟩) else undef)), isV ((bif (!true && true) then .int .u8 m.t.toNat else undef)), isV ((bif (!true && true) then .bool true else undef)), isV ((bif !true then .bool (true && true) else undef)), isV (.bool (true || (true && true))), isV (.bool (true || (true && true))), isV ((bif (true || (true && true)) then .pointer (some ⟨bB, 6, none⟩) else undef)), isV ((bif (true || (true && true)) then .bool true else undef)), isV ((bif (true || (true && true)) then .bool (!true) else undef)), isV ((bif (true || (true && true)) then .bool (!true) else undef)), isV ((bif ((true || (true && true)) && !(!true)) then .pointer (some ⟨bB, 0, none⟩) else undef)), isV ((bif ((true || (true && true)) && !(!true)) then .int .u8 m.k.toNat else undef)), isV ((bif ((true || (true && true)) && !(!true)) then .bool true else undef)), isV ((bif ((true || (true && true)) && !(!true)) then .bool true else undef)), isV ((bif (((true || (true && true)) && !(!true)) && true) then .pointer (some ⟨bB, 1, none⟩) else undef)), isV ((bif (((true || (true && true)) && !(!true)) && true) then .int .u8 m.f.toNat else undef)), isV ((bif (((true || (true && true)) && !(!true)) && true) then .int .u8 hm else undef)), isV ((bif (((true || (true && true)) && !(!true)) && true) then .bool true else undef)), isV ((bif ((true || (true && true)) && !(!true)) then .bool (true && true) else undef)), isV ((bif (true || (true && true)) then .bool ((!true) || (true && true)) else undef)), isV (.bool ((true || (true && true)) && ((!true) || (true && true)))), isV (.bool ((true || (true && true)) && ((!true) || (true && true))))]) rfl (by kernel_rfl) (FF_st _ _) HS.out (fun hN => ?_) (fun u W hS hF => ?_)
                  · refine steps_cons ?_ ?_
                    · intro u W hS hp
                      exact step_on (wanted_free rfl) (ext_val hS (run_fa rfl ((eval_out rfl).trans rfl) (fa25_4 bB)) rfl)
                    refine steps_cons ?_ ?_
                    · intro u W hS hp
                      obtain ⟨q0, _⟩ := hp
                      have p118 : u 118 = .pointer (some ⟨bB, 4, none⟩) := q0
                      exact step_on (wanted_free rfl) (ext_val hS (run_ld rfl ((eval_in rfl hN rfl).trans p118) (ld_u8 ((cell_of_heap (hS.h (bB, boxOf m, 25) (by simp))).trans (rfl : (boxOf m)[4]? = some _)))) rfl)
                    refine steps_cons ?_ ?_
                    · intro u W hS hp
                      obtain ⟨q0, _⟩ := hp
                      have p119 : u 119 = .int .u8 m.a.toNat := q0
                      exact step_on (wanted_free rfl) (ext_val hS (run_bin rfl ((eval_in rfl hN rfl).trans p119) rfl rfl (i_eql ha0)) rfl)
                    refine steps_cons ?_ ?_
                    · intro u W hS hp
                      obtain ⟨q0, _⟩ := hp
                      have p120 : u 120 = .bool true := q0
                      exact step_on (wanted_free rfl) (ext_val hS (run_mv rfl ((eval_in rfl hN rfl).trans p120)) rfl)
                    refine steps_cons ?_ ?_
                    · intro u W hS hp
                      obtain ⟨q0, _⟩ := hp
                      have p121 : u 121 = .bool true := q0
                      first | exact step_off (wanted_off rfl rfl rfl hN rfl p121) rfl | exact step_off (wanted_undef rfl rfl rfl hN rfl p121) rfl | exact step_on (wanted_on rfl rfl rfl hN rfl p121) (ext_val hS (run_ld rfl ((eval_out rfl).trans rfl) (ld39 (hS.h (bA, g.arr, 39) (by simp)))) rfl)
                    refine steps_cons ?_ ?_
                    · intro u W hS hp
                      obtain ⟨q0, _⟩ := hp
                      have p121 : u 121 = .bool true := q0
                      first | exact step_off (wanted_off rfl rfl rfl hN rfl p121) rfl | exact step_off (wanted_undef rfl rfl rfl hN rfl p121) rfl | exact step_on (wanted_on rfl rfl rfl hN rfl p121) (ext_val hS (run_fa rfl ((eval_out rfl).trans rfl) (fa25_4 bB)) rfl)
                    refine steps_cons ?_ ?_
                    · intro u W hS hp
                      obtain ⟨q0, q1, _⟩ := hp
                      have p123 : u 123 = (bif !true then .pointer (some ⟨bB, 4, none⟩) else undef) := q0
                      have p121 : u 121 = .bool true := q1
                      first | exact step_off (wanted_off rfl rfl rfl hN rfl p121) rfl | exact step_off (wanted_undef rfl rfl rfl hN rfl p121) rfl | exact step_on (wanted_on rfl rfl rfl hN rfl p121) (ext_val hS (run_ld rfl ((eval_in rfl hN rfl).trans p123) (ld_u8 ((cell_of_heap (hS.h (bB, boxOf m, 25) (by simp))).trans (rfl : (boxOf m)[4]? = some _)))) rfl)
                    refine steps_cons ?_ ?_
                    · intro u W hS hp
                      obtain ⟨q0, q1, q2, q3, _⟩ := hp
                      have p122 : u 122 = (bif !true then .agg g.arr else undef) := q0
                      have p124 : u 124 = (bif !true then .int .u8 m.a.toNat else undef) := q1
                      have p121 : u 121 = .bool true := q2
                      first | exact step_off (wanted_off rfl rfl rfl hN rfl p121) rfl | exact step_off (wanted_undef rfl rfl rfl hN rfl p121) rfl | exact step_on (wanted_on rfl rfl rfl hN rfl p121) (ext_call (run_call rfl rfl (map2 ((eval_in rfl hN rfl).trans p122) ((eval_in rfl hN rfl).trans p124)) Tryd.func23 nm23 bd23) ((iscache_any g m.a.toNat m.a.toNat_lt W).mono fun _ _ ⟨e, h⟩ => ⟨_, e.trans (congrArg (fun x => Ending.returned (Value.bool x)) hca), rfl, hS.next h, h⟩))
                    refine steps_cons ?_ ?_
                    · intro u W hS hp
                      obtain ⟨q0, q1, q2, _⟩ := hp
                      have p125 : u 125 = (bif !true then .bool true else undef) := q0
                      have p121 : u 121 = .bool true := q2
                      first | exact step_off (wanted_off rfl rfl rfl hN rfl p121) rfl | exact step_off (wanted_undef rfl rfl rfl hN rfl p121) rfl | exact step_on (wanted_on rfl rfl rfl hN rfl p121) (ext_val hS (run_mv rfl ((eval_in rfl hN rfl).trans p125)) rfl)
                    refine steps_cons ?_ ?_
                    · intro u W hS hp
                      obtain ⟨q0, _⟩ := hp
                      have p126 : u 126 = (bif !true then .bool true else undef) := q0
                      first | exact step_off (wanted_off rfl rfl rfl hN rfl p126) rfl | exact step_off (wanted_undef rfl rfl rfl hN rfl p126) rfl | exact step_on (wanted_on rfl rfl rfl hN rfl p126) (ext_val hS (run_fa rfl ((eval_out rfl).trans rfl) (fa25_4 bB)) rfl)
                    refine steps_cons ?_ ?_
                    · intro u W hS hp
                      obtain ⟨q0, q1, _⟩ := hp
                      have p127 : u 127 = (bif (!true && true) then .pointer (some ⟨bB, 4, none⟩) else undef) := q0
                      have p126 : u 126 = (bif !true then .bool true else undef) := q1
                      first | exact step_off (wanted_off rfl rfl rfl hN rfl p126) rfl | exact step_off (wanted_undef rfl rfl rfl hN rfl p126) rfl | exact step_on (wanted_on rfl rfl rfl hN rfl p126) (ext_val hS (run_ld rfl ((eval_in rfl hN rfl).trans p127) (ld_u8 ((cell_of_heap (hS.h (bB, boxOf m, 25) (by simp))).trans (rfl : (boxOf m)[4]? = some _)))) rfl)
                    refine steps_cons ?_ ?_
                    · intro u W hS hp
                      obtain ⟨q0, _⟩ := hp
                      have p126 : u 126 = (bif !true then .bool true else undef) := q0
                      first | exact step_off (wanted_off rfl rfl rfl hN rfl p126) rfl | exact step_off (wanted_undef rfl rfl rfl hN rfl p126) rfl | exact step_on (wanted_on rfl rfl rfl hN rfl p126) (ext_val hS (run_fa rfl ((eval_out rfl).trans rfl) (fa25_2 bB)) rfl)
                    refine steps_cons ?_ ?_
                    · intro u W hS hp
                      obtain ⟨q0, q1, _⟩ := hp
                      have p129 : u 129 = (bif (!true && true) then .pointer (some ⟨bB, 2, none⟩) else undef) := q0
                      have p126 : u 126 = (bif !true then .bool true else undef) := q1
                      first | exact step_off (wanted_off rfl rfl rfl hN rfl p126) rfl | exact step_off (wanted_undef rfl rfl rfl hN rfl p126) rfl | exact step_on (wanted_on rfl rfl rfl hN rfl p126) (ext_val hS (run_ld rfl ((eval_in rfl hN rfl).trans p129) (ld_u8 ((cell_of_heap (hS.h (bB, boxOf m, 25) (by simp))).trans (rfl : (boxOf m)[2]? = some _)))) rfl)
                    refine steps_cons ?_ ?_
                    · intro u W hS hp
                      obtain ⟨q0, q1, q2, _⟩ := hp
                      have p128 : u 128 = (bif (!true && true) then .int .u8 m.a.toNat else undef) := q0
                      have p130 : u 130 = (bif (!true && true) then .int .u8 m.t.toNat else undef) := q1
                      have p126 : u 126 = (bif !true then .bool true else undef) := q2
                      first | exact step_off (wanted_off rfl rfl rfl hN rfl p126) rfl | exact step_off (wanted_undef rfl rfl rfl hN rfl p126) rfl | exact step_on (wanted_on rfl rfl rfl hN rfl p126) (ext_val hS (run_bin rfl ((eval_in rfl hN rfl).trans p128) ((eval_in rfl hN rfl).trans p130) rfl (i_neq hna)) rfl)
                    refine steps_cons ?_ ?_
                    · intro u W hS hp
                      obtain ⟨q0, q1, q2, _⟩ := hp
                      have p126 : u 126 = (bif !true then .bool true else undef) := q0
                      have p131 : u 131 = (bif (!true && true) then .bool true else undef) := q1
                      have p121 : u 121 = .bool true := q2
                      first | exact step_off (wanted_off rfl rfl rfl hN rfl p121) rfl | exact step_off (wanted_undef rfl rfl rfl hN rfl p121) rfl | (first | exact step_on (wanted_on rfl rfl rfl hN rfl p121) (ext_val hS (run_pickT rfl ((eval_in rfl hN rfl).trans p126) ((eval_in rfl hN rfl).trans p131)) rfl) | exact step_on (wanted_on rfl rfl rfl hN rfl p121) (ext_val hS (run_pickF rfl ((eval_in rfl hN rfl).trans p126) rfl) rfl))
                    refine steps_cons ?_ ?_
                    · intro u W hS hp
                      obtain ⟨q0, q1, _⟩ := hp
                      have p121 : u 121 = .bool true := q0
                      have p132 : u 132 = (bif !true then .bool (true && true) else undef) := q1
                      first | (first | exact step_on (wanted_free rfl) (ext_val hS (run_pickT rfl ((eval_in rfl hN rfl).trans p121) rfl) rfl) | exact step_on (wanted_free rfl) (ext_val hS (run_pickF rfl ((eval_in rfl hN rfl).trans p121) ((eval_in rfl hN rfl).trans p132)) rfl))
                    refine steps_cons ?_ ?_
                    · intro u W hS hp
                      obtain ⟨q0, q1, _⟩ := hp
                      have p133 : u 133 = .bool (true || (true && true)) := q0
                      exact step_on (wanted_free rfl) (ext_val hS (run_mv rfl ((eval_in rfl hN rfl).trans p133)) rfl)
                    refine steps_cons ?_ ?_
                    · intro u W hS hp
                      obtain ⟨q0, _⟩ := hp
                      have p134 : u 134 = .bool (true || (true && true)) := q0
                      first | exact step_off (wanted_off rfl rfl rfl hN rfl p134) rfl | exact step_off (wanted_undef rfl rfl rfl hN rfl p134) rfl | exact step_on (wanted_on rfl rfl rfl hN rfl p134) (ext_val hS (run_fa rfl ((eval_out rfl).trans rfl) (fa25_6 bB)) rfl)
                    refine steps_cons ?_ ?_
                    · intro u W hS hp
                      obtain ⟨q0, q1, _⟩ := hp
                      have p135 : u 135 = (bif (true || (true && true)) then .pointer (some ⟨bB, 6, none⟩) else undef) := q0
                      have p134 : u 134 = .bool (true || (true && true)) := q1
                      first | exact step_off (wanted_off rfl rfl rfl hN rfl p134) rfl | exact step_off (wanted_undef rfl rfl rfl hN rfl p134) rfl | exact step_on (wanted_on rfl rfl rfl hN rfl p134) (ext_val hS (run_ld rfl ((eval_in rfl hN rfl).trans p135) (ld_bl (((cell_of_heap (hS.h (bB, boxOf m, 25) (by simp))).trans (rfl : (boxOf m)[6]? = some _)).trans (congrArg (fun x => some (Value.bool x)) hb0)))) rfl)
                    refine steps_cons ?_ ?_
                    · intro u W hS hp
                      obtain ⟨q0, q1, _⟩ := hp
                      have p136 : u 136 = (bif (true || (true && true)) then .bool true else undef) := q0
                      have p134 : u 134 = .bool (true || (true && true)) := q1
                      first | exact step_off (wanted_off rfl rfl rfl hN rfl p134) rfl | exact step_off (wanted_undef rfl rfl rfl hN rfl p134) rfl | exact step_on (wanted_on rfl rfl rfl hN rfl p134) (ext_val hS (run_un rfl ((eval_in rfl hN rfl).trans p136) rfl) rfl)
                    refine steps_cons ?_ ?_
                    · intro u W hS hp
                      obtain ⟨q0, q1, q2, _⟩ := hp
                      have p137 : u 137 = (bif (true || (true && true)) then .bool (!true) else undef) := q0
                      have p134 : u 134 = .bool (true || (true && true)) := q1
                      first | exact step_off (wanted_off rfl rfl rfl hN rfl p134) rfl | exact step_off (wanted_undef rfl rfl rfl hN rfl p134) rfl | exact step_on (wanted_on rfl rfl rfl hN rfl p134) (ext_val hS (run_mv rfl ((eval_in rfl hN rfl).trans p137)) rfl)
                    refine steps_cons ?_ ?_
                    · intro u W hS hp
                      obtain ⟨q0, _⟩ := hp
                      have p138 : u 138 = (bif (true || (true && true)) then .bool (!true) else undef) := q0
                      first | exact step_off (wanted_off rfl rfl rfl hN rfl p138) rfl | exact step_off (wanted_undef rfl rfl rfl hN rfl p138) rfl | exact step_on (wanted_on rfl rfl rfl hN rfl p138) (ext_val hS (run_fa rfl ((eval_out rfl).trans rfl) (fa25_0 bB)) rfl)
                    refine steps_cons ?_ ?_
                    · intro u W hS hp
                      obtain ⟨q0, q1, _⟩ := hp
                      have p139 : u 139 = (bif ((true || (true && true)) && !(!true)) then .pointer (some ⟨bB, 0, none⟩) else undef) := q0
                      have p138 : u 138 = (bif (true || (true && true)) then .bool (!true) else undef) := q1
                      first | exact step_off (wanted_off rfl rfl rfl hN rfl p138) rfl | exact step_off (wanted_undef rfl rfl rfl hN rfl p138) rfl | exact step_on (wanted_on rfl rfl rfl hN rfl p138) (ext_val hS (run_ld rfl ((eval_in rfl hN rfl).trans p139) (ld_u8 ((cell_of_heap (hS.h (bB, boxOf m, 25) (by simp))).trans (rfl : (boxOf m)[0]? = some _)))) rfl)
                    refine steps_cons ?_ ?_
                    · intro u W hS hp
                      obtain ⟨q0, q1, _⟩ := hp
                      have p140 : u 140 = (bif ((true || (true && true)) && !(!true)) then .int .u8 m.k.toNat else undef) := q0
                      have p138 : u 138 = (bif (true || (true && true)) then .bool (!true) else undef) := q1
                      first | exact step_off (wanted_off rfl rfl rfl hN rfl p138) rfl | exact step_off (wanted_undef rfl rfl rfl hN rfl p138) rfl | exact step_on (wanted_on rfl rfl rfl hN rfl p138) (ext_val hS (run_bin rfl ((eval_in rfl hN rfl).trans p140) rfl rfl (i_eql he10)) rfl)
                    refine steps_cons ?_ ?_
                    · intro u W hS hp
                      obtain ⟨q0, q1, q2, _⟩ := hp
                      have p141 : u 141 = (bif ((true || (true && true)) && !(!true)) then .bool true else undef) := q0
                      have p138 : u 138 = (bif (true || (true && true)) then .bool (!true) else undef) := q1
                      first | exact step_off (wanted_off rfl rfl rfl hN rfl p138) rfl | exact step_off (wanted_undef rfl rfl rfl hN rfl p138) rfl | exact step_on (wanted_on rfl rfl rfl hN rfl p138) (ext_val hS (run_mv rfl ((eval_in rfl hN rfl).trans p141)) rfl)
                    refine steps_cons ?_ ?_
                    · intro u W hS hp
                      obtain ⟨q0, _⟩ := hp
                      have p142 : u 142 = (bif ((true || (true && true)) && !(!true)) then .bool true else undef) := q0
                      first | exact step_off (wanted_off rfl rfl rfl hN rfl p142) rfl | exact step_off (wanted_undef rfl rfl rfl hN rfl p142) rfl | exact step_on (wanted_on rfl rfl rfl hN rfl p142) (ext_val hS (run_fa rfl ((eval_out rfl).trans rfl) (fa25_1 bB)) rfl)
                    refine steps_cons ?_ ?_
                    · intro u W hS hp
                      obtain ⟨q0, q1, _⟩ := hp
                      have p143 : u 143 = (bif (((true || (true && true)) && !(!true)) && true) then .pointer (some ⟨bB, 1, none⟩) else undef) := q0
                      have p142 : u 142 = (bif ((true || (true && true)) && !(!true)) then .bool true else undef) := q1
                      first | exact step_off (wanted_off rfl rfl rfl hN rfl p142) rfl | exact step_off (wanted_undef rfl rfl rfl hN rfl p142) rfl | exact step_on (wanted_on rfl rfl rfl hN rfl p142) (ext_val hS (run_ld rfl ((eval_in rfl hN rfl).trans p143) (ld_u8 ((cell_of_heap (hS.h (bB, boxOf m, 25) (by simp))).trans (rfl : (boxOf m)[1]? = some _)))) rfl)
                    refine steps_cons ?_ ?_
                    · intro u W hS hp
                      obtain ⟨q0, _⟩ := hp
                      have p142 : u 142 = (bif ((true || (true && true)) && !(!true)) then .bool true else undef) := q0
                      first | exact step_off (wanted_off rfl rfl rfl hN rfl p142) rfl | exact step_off (wanted_undef rfl rfl rfl hN rfl p142) rfl | exact step_on (wanted_on rfl rfl rfl hN rfl p142) (ext_val hS (run_mv rfl ((eval_out rfl).trans rfl)) rfl)
                    refine steps_cons ?_ ?_
                    · intro u W hS hp
                      obtain ⟨q0, q1, q2, _⟩ := hp
                      have p144 : u 144 = (bif (((true || (true && true)) && !(!true)) && true) then .int .u8 m.f.toNat else undef) := q0
                      have p145 : u 145 = (bif (((true || (true && true)) && !(!true)) && true) then .int .u8 hm else undef) := q1
                      have p142 : u 142 = (bif ((true || (true && true)) && !(!true)) then .bool true else undef) := q2
                      first | exact step_off (wanted_off rfl rfl rfl hN rfl p142) rfl | exact step_off (wanted_undef rfl rfl rfl hN rfl p142) rfl | exact step_on (wanted_on rfl rfl rfl hN rfl p142) (ext_val hS (run_bin rfl ((eval_in rfl hN rfl).trans p144) ((eval_in rfl hN rfl).trans p145) rfl (i_eql hqf)) rfl)
                    refine steps_cons ?_ ?_
                    · intro u W hS hp
                      obtain ⟨q0, q1, q2, _⟩ := hp
                      have p142 : u 142 = (bif ((true || (true && true)) && !(!true)) then .bool true else undef) := q0
                      have p146 : u 146 = (bif (((true || (true && true)) && !(!true)) && true) then .bool true else undef) := q1
                      have p138 : u 138 = (bif (true || (true && true)) then .bool (!true) else undef) := q2
                      first | exact step_off (wanted_off rfl rfl rfl hN rfl p138) rfl | exact step_off (wanted_undef rfl rfl rfl hN rfl p138) rfl | (first | exact step_on (wanted_on rfl rfl rfl hN rfl p138) (ext_val hS (run_pickT rfl ((eval_in rfl hN rfl).trans p142) ((eval_in rfl hN rfl).trans p146)) rfl) | exact step_on (wanted_on rfl rfl rfl hN rfl p138) (ext_val hS (run_pickF rfl ((eval_in rfl hN rfl).trans p142) rfl) rfl))
                    refine steps_cons ?_ ?_
                    · intro u W hS hp
                      obtain ⟨q0, q1, q2, _⟩ := hp
                      have p138 : u 138 = (bif (true || (true && true)) then .bool (!true) else undef) := q0
                      have p147 : u 147 = (bif ((true || (true && true)) && !(!true)) then .bool (true && true) else undef) := q1
                      have p134 : u 134 = .bool (true || (true && true)) := q2
                      first | exact step_off (wanted_off rfl rfl rfl hN rfl p134) rfl | exact step_off (wanted_undef rfl rfl rfl hN rfl p134) rfl | (first | exact step_on (wanted_on rfl rfl rfl hN rfl p134) (ext_val hS (run_pickT rfl ((eval_in rfl hN rfl).trans p138) rfl) rfl) | exact step_on (wanted_on rfl rfl rfl hN rfl p134) (ext_val hS (run_pickF rfl ((eval_in rfl hN rfl).trans p138) ((eval_in rfl hN rfl).trans p147)) rfl))
                    refine steps_cons ?_ ?_
                    · intro u W hS hp
                      obtain ⟨q0, q1, _⟩ := hp
                      have p134 : u 134 = .bool (true || (true && true)) := q0
                      have p148 : u 148 = (bif (true || (true && true)) then .bool ((!true) || (true && true)) else undef) := q1
                      first | (first | exact step_on (wanted_free rfl) (ext_val hS (run_pickT rfl ((eval_in rfl hN rfl).trans p134) ((eval_in rfl hN rfl).trans p148)) rfl) | exact step_on (wanted_free rfl) (ext_val hS (run_pickF rfl ((eval_in rfl hN rfl).trans p134) rfl) rfl))
                    refine steps_cons ?_ ?_
                    · intro u W hS hp
                      obtain ⟨q0, q1, q2, q3, q4, q5, q6, q7, q8, q9, q10, q11, q12, q13, q14, q15, q16, q17, q18, q19, q20, q21, q22, q23, q24, q25, q26, q27, q28, q29, q30, q31, q32, q33, _⟩ := hp
                      have p149 : u 149 = .bool ((true || (true && true)) && ((!true) || (true && true))) := q0
                      exact step_on (wanted_free rfl) (ext_val hS (run_asg rfl ((eval_in rfl hN rfl).trans p149)) rfl)
                    exact steps_nil
                  · obtain ⟨_, _, _, _, _, _, _, _, _, _, _, _, _, _, _, _, _, _, _, _, _, _, _, _, _, _, _, _, _, _, _, _, q32, _⟩ := hF
                    have p4 : u 4 = .bool ((true || (true && true)) && ((!true) || (true && true))) := q32
                    simp only [frm, frmL, Nat.reduceAdd, p4]
                    clear p4
                    go_wp2
                    go_ret
                    exact ⟨rfl, by rw [← HBA.out]; exact hS.b⟩
end Go.Proofs.YthllacodjeocmaaDoor
