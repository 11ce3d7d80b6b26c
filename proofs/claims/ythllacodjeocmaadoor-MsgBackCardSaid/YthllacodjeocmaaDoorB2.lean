/- MsgBack, walked. -/
import Derived.Test.YthllacodjeocmaaDoorB1
namespace Go.Proofs.YthllacodjeocmaaDoor
open Go.RowKit
attribute [local go_sem] Oper.semAt_some
set_option maxHeartbeats 8000000 in
set_option maxRecDepth 100000 in
theorem msgBack_any (m o : Mg) (w : World) (hG : GlobM w) : Calls Tryd.prog 6 #[m.val, o.val] w fun e w' => e = .returned (.bool true) ∧ Below w.heap.size w w' := by
  show Calls Tryd.prog 6 #[.agg (boxOf m), .agg (boxOf o)] w _
  have HS0 : Hid (St [(w.heap.size + 1, boxOf o, 25), (w.heap.size, boxOf m, 25)] w ((w.alloc (.cells (boxOf m) 25)).alloc (.cells (boxOf o) 25))) := Lib.hid (((St.start hG).boxed (boxOf m) rfl).boxed (boxOf o) (by simp))
  clear hG
  go_enter Tryd.func6, Tryd.ntmps6
  go_wp2_with fail
  go_at_call 9
  refine (awake_st HS0).mono ?_
  rintro e w1 ⟨rfl, HS1⟩
  clear HS0
  generalize w.heap.size + 1 = bB at HS1 ⊢
  obtain ⟨bA, hbA⟩ : ∃ bA, w.heap.size = bA := ⟨_, rfl⟩
  have HBA := Lib.hid hbA
  rw [hbA] at HS1
  simp only [hbA]
  clear hbA
  go_wp2_with (first | (refine wpl_ld25 rfl (.tmp 2) rfl bA m rfl (HS1.out.h (bA, boxOf m, 25) (by simp)) ?_) | fail)
  go_at_call 14
  refine (bytes_st2 m HS1).mono ?_
  rintro e w2 ⟨g, cg, rfl, hcg, hA, HS2⟩
  have HR : Calls Tryd.prog 12 #[.slice (some ⟨g, 0, none⟩) 11 cg] w2 fun e w' => e = .returned (.tuple #[.agg (boxOf m), .bool true]) ∧ Hid (St [(bB, boxOf o, 25), (bA, boxOf m, 25)] w w') := by
    have h := read_st2 (.slice (some ⟨g, 0, none⟩) 11 cg) (bytesOf m) (by rw [bytesOf_len]; decide) (Bts.of hA.out hcg) HS2
    rw [read_back] at h
    exact h
  have HR := Lib.hid HR
  clear hA HS1
  go_wp2_with fail
  go_at_call 12
  refine HR.out.mono ?_
  rintro e w3 ⟨rfl, HS3⟩
  clear HR HS2
  go_wp2_with (first | (refine wpl_store rfl 25 (.tmp 5) (.tmp 17) rfl w3.heap.size _ (boxOf m) rfl rfl (heap_alloc_new w3 _) rfl msgSize (box_one m) ?_; intro w4 ho4 hn4; have HS4 := Lib.hid (HS3.out.newbox m ho4 hn4); clear ho4 hn4) | (refine wpl_ld25 rfl (.tmp 2) rfl bA m rfl (HS4.out.h (bA, boxOf m, 25) (by simp)) ?_) | fail)
  generalize w3.heap.size = b5 at HS4 ⊢
  clear HS3
  go_at_call 15
  refine (text_st2 m HS4).mono ?_
  rintro e w5 ⟨rfl, HS5⟩
  clear HS4
  have HP := Lib.hid (parse_st2 (textS m) (by have := textS_size m; omega) HS5)
  rw [parse_back] at HP
  go_wp2_with fail
  go_at_call 13
  refine HP.out.mono ?_
  rintro e w6 ⟨rfl, HS6⟩
  clear HP HS5
  go_wp2_with (first | (refine wpl_store rfl 25 (.tmp 7) (.tmp 23) rfl w6.heap.size _ (boxOf m) rfl rfl (heap_alloc_new w6 _) rfl msgSize (box_one m) ?_; intro w7 ho7 hn7; have HS7 := Lib.hid (HS6.out.newbox m ho7 hn7); clear ho7 hn7) | fail)
  generalize w6.heap.size = b7 at HS7 ⊢
  clear HS6
  refine region_all (D := [false, false, false, false, false, false, false, false, false, true, true, false, false, false, false, false, false, false, false, false, false, false, false, false, false, true, true, true, true, true, true]) (S := fun W => St [(b7, boxOf m, 25), (b5, boxOf m, 25), (bB, boxOf o, 25), (bA, boxOf m, 25)] w W) (R := RB) (F := FF [isV (.agg (boxOf m)), bytesF (bytesOf m), isV (.string (encS m)), isV (.agg (boxOf o)), bytesF (bytesOf o), isV (.string (encS o)), isV (.string (encS m)), isV (.string (encS o))]) rfl mo (by kernel_rfl) (FF_st _ _) HS7.out.drew (fun hN => ?_) (fun u W hS hF => ?_)
  · refine steps_cons ?_ ?_
    · intro u W hS hp
      exact step_on (wanted_free rfl) (ext_val hS (run_ld rfl ((eval_out rfl).trans rfl) (ld25 (hS.h (bA, boxOf m, 25) (by simp)))) rfl)
    refine steps_cons ?_ ?_
    · intro u W hS hp
      obtain ⟨q0, _⟩ := hp
      have p25 : u 25 = .agg (boxOf m) := q0
      exact step_on (wanted_free rfl) (ext_call (run_call rfl rfl (map1 ((eval_in rfl hN rfl).trans p25)) Tryd.func14 nm14 bd14) ((bytes_any m W).mono fun _ _ ⟨g, cp, e, hA, hb⟩ => ⟨_, e, ⟨g, cp, rfl, hA⟩, hS.next hb, hb⟩))
    refine steps_cons ?_ ?_
    · intro u W hS hp
      obtain ⟨q0, _⟩ := hp
      obtain ⟨gg26, cg26, p26, hA26⟩ := q0
      exact step_on (wanted_free rfl) (ext_val hS (run_conv rfl ((eval_in rfl hN rfl).trans p26) (bytes_str (c := cg26) (n := 11) hA26 rfl)) rfl)
    refine steps_cons ?_ ?_
    · intro u W hS hp
      exact step_on (wanted_free rfl) (ext_val hS (run_ld rfl ((eval_out rfl).trans rfl) (ld25 (hS.h (bB, boxOf o, 25) (by simp)))) rfl)
    refine steps_cons ?_ ?_
    · intro u W hS hp
      obtain ⟨q0, q1, _⟩ := hp
      have p28 : u 28 = .agg (boxOf o) := q0
      obtain ⟨gg26, cg26, p26, hA26⟩ := q1
      exact step_on (wanted_free rfl) (ext_call (run_call rfl rfl (map1 ((eval_in rfl hN rfl).trans p28)) Tryd.func14 nm14 bd14) ((bytes_any o W).mono fun _ _ ⟨g, cp, e, hA, hb⟩ => ⟨_, e, ⟨g, cp, rfl, hA⟩, hS.next hb, hb⟩))
    refine steps_cons ?_ ?_
    · intro u W hS hp
      obtain ⟨q0, _⟩ := hp
      obtain ⟨gg29, cg29, p29, hA29⟩ := q0
      exact step_on (wanted_free rfl) (ext_val hS (run_conv rfl ((eval_in rfl hN rfl).trans p29) (bytes_str (c := cg29) (n := 11) hA29 rfl)) rfl)
    refine steps_cons ?_ ?_
    · intro u W hS hp
      obtain ⟨q0, q1, q2, q3, q4, _⟩ := hp
      have p27 : u 27 = .string (encS m) := q0
      obtain ⟨gg29, cg29, p29, hA29⟩ := q1
      have p25 : u 25 = .agg (boxOf m) := q2
      obtain ⟨gg26, cg26, p26, hA26⟩ := q3
      exact step_on (wanted_free rfl) (ext_val hS (run_asg rfl ((eval_in rfl hN rfl).trans p27)) rfl)
    refine steps_cons ?_ ?_
    · intro u W hS hp
      obtain ⟨q0, q1, q2, q3, q4, q5, q6, q7, q8, _⟩ := hp
      have p30 : u 30 = .string (encS o) := q0
      have p9 : u 9 = .string (encS m) := q1
      have p25 : u 25 = .agg (boxOf m) := q2
      obtain ⟨gg26, cg26, p26, hA26⟩ := q3
      have p27 : u 27 = .string (encS m) := q4
      have p28 : u 28 = .agg (boxOf o) := q5
      obtain ⟨gg29, cg29, p29, hA29⟩ := q6
      exact step_on (wanted_free rfl) (ext_val hS (run_asg rfl ((eval_in rfl hN rfl).trans p30)) rfl)
    exact steps_nil
  · obtain ⟨q0, q1, q2, q3, q4, q5, q6, q7, _⟩ := hF
    have p25 : u 25 = .agg (boxOf m) := q0
    obtain ⟨gg26, cg26, p26, hA26⟩ := q1
    have p27 : u 27 = .string (encS m) := q2
    have p28 : u 28 = .agg (boxOf o) := q3
    obtain ⟨gg29, cg29, p29, hA29⟩ := q4
    have p30 : u 30 = .string (encS o) := q5
    have p9 : u 9 = .string (encS m) := q6
    have p10 : u 10 = .string (encS o) := q7
    simp only [frm, frmL, Nat.reduceAdd, p25, p26, p27, p28, p29, p30, p9, p10]
    clear p25 p26 p27 p28 p29 p30 p9 p10
    have HS8 := Lib.hid hS
    have hx := encS_size m
    clear HS7 hS
    go_wp2_with (first | (refine wpl_ld25 rfl (.tmp 5) rfl b5 m rfl (HS8.out.h (b5, boxOf m, 25) (by simp)) ?_) | (refine wpl_ld25 rfl (.tmp 7) rfl b7 m rfl (HS8.out.h (b7, boxOf m, 25) (by simp)) ?_) | (refine wpl_ld25 rfl (.tmp 2) rfl bA m rfl (HS8.out.h (bA, boxOf m, 25) (by simp)) ?_) | (refine wpl_val rfl (run_bin (op := .neq) (T := 25) (x := .tmp 31) (y := .tmp 32) rfl rfl rfl (eg25 ..) (neq_self m W)) ?_) | (refine wpl_val rfl (run_bin (op := .neq) (T := 25) (x := .tmp 39) (y := .tmp 40) rfl rfl rfl (eg25 ..) (neq_self m W)) ?_) | fail)
    clear hx
    rcases three_ways m o with ⟨he, hmo, hom⟩ | ⟨he, hmo, hom⟩ | ⟨he, hmo, hom⟩
    · refine region_all (D := [false, false, false, false, true, false, false, false, false, false, false, false, false, false, false, false, false, false, false, false, false, false, false, false, false, false, false, false, false, false, false, false, false, false, false, false, false, false, false, false, false, false, false, false, false, false, false, false, false, false, false, false, true, true, true, true, true, true, true, true, true, true, true, true, true, true, true, true, true, true, true, true, true, true, true, true, true, true, true, true, true, true, true, true, true, true, true, true, true, true, true, true, true, true, true, true, true, true, true, true, true, true, true, true]) (S := fun W => St [(b7, boxOf m, 25), (b5, boxOf m, 25), (bB, boxOf o, 25), (bA, boxOf m, 25)] w W) (R := RB) (F := FF [isV (.agg (boxOf m)), isV (.agg (boxOf o)), isV (.bool true), isV (.string (encS m)), isV (.string (encS o)), isV (.bool true), isV (.bool true), isV (.bool true), isV (.agg (boxOf m)), isV (.agg (boxOf o)), isV (.bool true), isV (.agg (boxOf m)), isV (.string (textS m)), isV (.agg (boxOf o)), isV (.string (textS o)), isV (.bool true), isV (.bool true), isV (.bool true), isV (.bool true), isV (.agg (boxOf m)), isV (.agg (boxOf o)), isV (.bool false), isV (.string (encS m)), isV (.string (encS o)), isV (.bool false), isV (.bool true), isV (.bool true), isV (.bool true), isV (.agg (boxOf m)), isV (.agg (boxOf o)), isV (.bool false), isV (.bool false), isV (.agg (boxOf o)), isV (.agg (boxOf m)), isV (.bool false), isV (.bool false), isV (.agg (boxOf m)), isV (.agg (boxOf o)), isV (.bool false), isV (.bool true), isV (.bool true), isV (.bool true), isV (.agg (boxOf m)), isV (.agg (boxOf o)), isV (.bool false), isV (.bool false), isV undef, isV undef, isV undef, isV (Value.bool false), isV (.bool true), isV (.bool true), isV (.bool true)]) rfl mo (by kernel_rfl) (FF_st _ _) HS8.out.drew (fun hN => ?_) (fun u W hS hF => ?_)
      · refine steps_cons ?_ ?_
        · intro u W hS hp
          exact step_on (wanted_free rfl) (ext_val hS (run_ld rfl ((eval_out rfl).trans rfl) (ld25 (hS.h (bA, boxOf m, 25) (by simp)))) rfl)
        refine steps_cons ?_ ?_
        · intro u W hS hp
          exact step_on (wanted_free rfl) (ext_val hS (run_ld rfl ((eval_out rfl).trans rfl) (ld25 (hS.h (bB, boxOf o, 25) (by simp)))) rfl)
        refine steps_cons ?_ ?_
        · intro u W hS hp
          obtain ⟨q0, q1, _⟩ := hp
          have p52 : u 52 = .agg (boxOf m) := q0
          have p53 : u 53 = .agg (boxOf o) := q1
          exact step_on (wanted_free rfl) (ext_val hS (run_bin rfl ((eval_in rfl hN rfl).trans p52) ((eval_in rfl hN rfl).trans p53) (eg25 ..) (eqlM he)) rfl)
        refine steps_cons ?_ ?_
        · intro u W hS hp
          exact step_on (wanted_free rfl) (ext_val hS (run_mv rfl ((eval_out rfl).trans rfl)) rfl)
        refine steps_cons ?_ ?_
        · intro u W hS hp
          exact step_on (wanted_free rfl) (ext_val hS (run_mv rfl ((eval_out rfl).trans rfl)) rfl)
        refine steps_cons ?_ ?_
        · intro u W hS hp
          obtain ⟨q0, q1, _⟩ := hp
          have p55 : u 55 = .string (encS m) := q0
          have p56 : u 56 = .string (encS o) := q1
          exact step_on (wanted_free rfl) (ext_val hS (run_bin rfl ((eval_in rfl hN rfl).trans p55) ((eval_in rfl hN rfl).trans p56) rfl (str_eql (enc_eq he))) rfl)
        refine steps_cons ?_ ?_
        · intro u W hS hp
          obtain ⟨q0, q1, _⟩ := hp
          have p54 : u 54 = .bool true := q0
          have p57 : u 57 = .bool true := q1
          exact step_on (wanted_free rfl) (ext_val hS (run_bin rfl ((eval_in rfl hN rfl).trans p54) ((eval_in rfl hN rfl).trans p57) rfl (bool_eql _ _ W)) rfl)
        refine steps_cons ?_ ?_
        · intro u W hS hp
          obtain ⟨q0, _⟩ := hp
          have p58 : u 58 = .bool true := q0
          exact step_on (wanted_free rfl) (ext_val hS (run_mv rfl ((eval_in rfl hN rfl).trans p58)) rfl)
        refine steps_cons ?_ ?_
        · intro u W hS hp
          obtain ⟨q0, _⟩ := hp
          have p59 : u 59 = .bool true := q0
          exact step_on (wanted_on rfl rfl rfl hN rfl p59) (ext_val hS (run_ld rfl ((eval_out rfl).trans rfl) (ld25 (hS.h (bA, boxOf m, 25) (by simp)))) rfl)
        refine steps_cons ?_ ?_
        · intro u W hS hp
          obtain ⟨q0, _⟩ := hp
          have p59 : u 59 = .bool true := q0
          exact step_on (wanted_on rfl rfl rfl hN rfl p59) (ext_val hS (run_ld rfl ((eval_out rfl).trans rfl) (ld25 (hS.h (bB, boxOf o, 25) (by simp)))) rfl)
        refine steps_cons ?_ ?_
        · intro u W hS hp
          obtain ⟨q0, q1, q2, _⟩ := hp
          have p60 : u 60 = .agg (boxOf m) := q0
          have p61 : u 61 = .agg (boxOf o) := q1
          have p59 : u 59 = .bool true := q2
          exact step_on (wanted_on rfl rfl rfl hN rfl p59) (ext_val hS (run_bin rfl ((eval_in rfl hN rfl).trans p60) ((eval_in rfl hN rfl).trans p61) (eg25 ..) (eqlM he)) rfl)
        refine steps_cons ?_ ?_
        · intro u W hS hp
          obtain ⟨q0, _⟩ := hp
          have p59 : u 59 = .bool true := q0
          exact step_on (wanted_on rfl rfl rfl hN rfl p59) (ext_val hS (run_ld rfl ((eval_out rfl).trans rfl) (ld25 (hS.h (bA, boxOf m, 25) (by simp)))) rfl)
        refine steps_cons ?_ ?_
        · intro u W hS hp
          obtain ⟨q0, q1, q2, _⟩ := hp
          have p63 : u 63 = .agg (boxOf m) := q0
          have p59 : u 59 = .bool true := q1
          exact step_on (wanted_on rfl rfl rfl hN rfl p59) (ext_call (run_call rfl rfl (map1 ((eval_in rfl hN rfl).trans p63)) Tryd.func15 nm15 bd15) ((text_any m W hS.g).mono fun _ _ ⟨e, hb⟩ => ⟨_, e, rfl, hS.next hb, hb⟩))
        refine steps_cons ?_ ?_
        · intro u W hS hp
          obtain ⟨q0, _⟩ := hp
          have p59 : u 59 = .bool true := q0
          exact step_on (wanted_on rfl rfl rfl hN rfl p59) (ext_val hS (run_ld rfl ((eval_out rfl).trans rfl) (ld25 (hS.h (bB, boxOf o, 25) (by simp)))) rfl)
        refine steps_cons ?_ ?_
        · intro u W hS hp
          obtain ⟨q0, q1, q2, _⟩ := hp
          have p65 : u 65 = .agg (boxOf o) := q0
          have p64 : u 64 = .string (textS m) := q1
          have p59 : u 59 = .bool true := q2
          exact step_on (wanted_on rfl rfl rfl hN rfl p59) (ext_call (run_call rfl rfl (map1 ((eval_in rfl hN rfl).trans p65)) Tryd.func15 nm15 bd15) ((text_any o W hS.g).mono fun _ _ ⟨e, hb⟩ => ⟨_, e, rfl, hS.next hb, hb⟩))
        refine steps_cons ?_ ?_
        · intro u W hS hp
          obtain ⟨q0, q1, q2, _⟩ := hp
          have p64 : u 64 = .string (textS m) := q0
          have p66 : u 66 = .string (textS o) := q1
          have p59 : u 59 = .bool true := q2
          exact step_on (wanted_on rfl rfl rfl hN rfl p59) (ext_val hS (run_bin rfl ((eval_in rfl hN rfl).trans p64) ((eval_in rfl hN rfl).trans p66) rfl (str_eql (text_eq he))) rfl)
        refine steps_cons ?_ ?_
        · intro u W hS hp
          obtain ⟨q0, q1, q2, _⟩ := hp
          have p62 : u 62 = .bool true := q0
          have p67 : u 67 = .bool true := q1
          have p59 : u 59 = .bool true := q2
          exact step_on (wanted_on rfl rfl rfl hN rfl p59) (ext_val hS (run_bin rfl ((eval_in rfl hN rfl).trans p62) ((eval_in rfl hN rfl).trans p67) rfl (bool_eql _ _ W)) rfl)
        refine steps_cons ?_ ?_
        · intro u W hS hp
          obtain ⟨q0, q1, _⟩ := hp
          have p59 : u 59 = .bool true := q0
          have p68 : u 68 = .bool true := q1
          exact step_on (wanted_free rfl) (ext_val hS (run_pickT rfl ((eval_in rfl hN rfl).trans p59) ((eval_in rfl hN rfl).trans p68)) rfl)
        refine steps_cons ?_ ?_
        · intro u W hS hp
          obtain ⟨q0, q1, _⟩ := hp
          have p69 : u 69 = .bool true := q0
          have p66 : u 66 = .string (textS o) := q1
          exact step_on (wanted_free rfl) (ext_val hS (run_mv rfl ((eval_in rfl hN rfl).trans p69)) rfl)
        refine steps_cons ?_ ?_
        · intro u W hS hp
          obtain ⟨q0, _⟩ := hp
          have p70 : u 70 = .bool true := q0
          exact step_on (wanted_on rfl rfl rfl hN rfl p70) (ext_val hS (run_ld rfl ((eval_out rfl).trans rfl) (ld25 (hS.h (bA, boxOf m, 25) (by simp)))) rfl)
        refine steps_cons ?_ ?_
        · intro u W hS hp
          obtain ⟨q0, _⟩ := hp
          have p70 : u 70 = .bool true := q0
          exact step_on (wanted_on rfl rfl rfl hN rfl p70) (ext_val hS (run_ld rfl ((eval_out rfl).trans rfl) (ld25 (hS.h (bB, boxOf o, 25) (by simp)))) rfl)
        refine steps_cons ?_ ?_
        · intro u W hS hp
          obtain ⟨q0, q1, q2, q3, _⟩ := hp
          have p71 : u 71 = .agg (boxOf m) := q0
          have p72 : u 72 = .agg (boxOf o) := q1
          have p70 : u 70 = .bool true := q2
          exact step_on (wanted_on rfl rfl rfl hN rfl p70) (ext_call (run_call rfl rfl (map2 ((eval_in rfl hN rfl).trans p71) ((eval_in rfl hN rfl).trans p72)) Tryd.func10 nm10 bd10) ((less_any m o W).mono fun _ _ ⟨e, hb⟩ => ⟨_, e, (by first | rfl | exact congrArg Value.bool hmo), hS.next hb, hb⟩))
        refine steps_cons ?_ ?_
        · intro u W hS hp
          obtain ⟨q0, _⟩ := hp
          have p70 : u 70 = .bool true := q0
          exact step_on (wanted_on rfl rfl rfl hN rfl p70) (ext_val hS (run_mv rfl ((eval_out rfl).trans rfl)) rfl)
        refine steps_cons ?_ ?_
        · intro u W hS hp
          obtain ⟨q0, _⟩ := hp
          have p70 : u 70 = .bool true := q0
          exact step_on (wanted_on rfl rfl rfl hN rfl p70) (ext_val hS (run_mv rfl ((eval_out rfl).trans rfl)) rfl)
        refine steps_cons ?_ ?_
        · intro u W hS hp
          obtain ⟨q0, q1, q2, _⟩ := hp
          have p74 : u 74 = .string (encS m) := q0
          have p75 : u 75 = .string (encS o) := q1
          have p70 : u 70 = .bool true := q2
          exact step_on (wanted_on rfl rfl rfl hN rfl p70) (ext_val hS (run_bin rfl ((eval_in rfl hN rfl).trans p74) ((eval_in rfl hN rfl).trans p75) rfl (str_lss (enc_less hmo))) rfl)
        refine steps_cons ?_ ?_
        · intro u W hS hp
          obtain ⟨q0, q1, q2, _⟩ := hp
          have p73 : u 73 = .bool false := q0
          have p76 : u 76 = .bool false := q1
          have p70 : u 70 = .bool true := q2
          exact step_on (wanted_on rfl rfl rfl hN rfl p70) (ext_val hS (run_bin rfl ((eval_in rfl hN rfl).trans p73) ((eval_in rfl hN rfl).trans p76) rfl (bool_eql _ _ W)) rfl)
        refine steps_cons ?_ ?_
        · intro u W hS hp
          obtain ⟨q0, q1, _⟩ := hp
          have p70 : u 70 = .bool true := q0
          have p77 : u 77 = .bool true := q1
          exact step_on (wanted_free rfl) (ext_val hS (run_pickT rfl ((eval_in rfl hN rfl).trans p70) ((eval_in rfl hN rfl).trans p77)) rfl)
        refine steps_cons ?_ ?_
        · intro u W hS hp
          obtain ⟨q0, q1, _⟩ := hp
          have p78 : u 78 = .bool true := q0
          have p73 : u 73 = .bool false := q1
          exact step_on (wanted_free rfl) (ext_val hS (run_mv rfl ((eval_in rfl hN rfl).trans p78)) rfl)
        refine steps_cons ?_ ?_
        · intro u W hS hp
          obtain ⟨q0, _⟩ := hp
          have p79 : u 79 = .bool true := q0
          exact step_on (wanted_on rfl rfl rfl hN rfl p79) (ext_val hS (run_ld rfl ((eval_out rfl).trans rfl) (ld25 (hS.h (bA, boxOf m, 25) (by simp)))) rfl)
        refine steps_cons ?_ ?_
        · intro u W hS hp
          obtain ⟨q0, _⟩ := hp
          have p79 : u 79 = .bool true := q0
          exact step_on (wanted_on rfl rfl rfl hN rfl p79) (ext_val hS (run_ld rfl ((eval_out rfl).trans rfl) (ld25 (hS.h (bB, boxOf o, 25) (by simp)))) rfl)
        refine steps_cons ?_ ?_
        · intro u W hS hp
          obtain ⟨q0, q1, q2, q3, _⟩ := hp
          have p80 : u 80 = .agg (boxOf m) := q0
          have p81 : u 81 = .agg (boxOf o) := q1
          have p79 : u 79 = .bool true := q2
          exact step_on (wanted_on rfl rfl rfl hN rfl p79) (ext_call (run_call rfl rfl (map2 ((eval_in rfl hN rfl).trans p80) ((eval_in rfl hN rfl).trans p81)) Tryd.func10 nm10 bd10) ((less_any m o W).mono fun _ _ ⟨e, hb⟩ => ⟨_, e, (by first | rfl | exact congrArg Value.bool hmo), hS.next hb, hb⟩))
        refine steps_cons ?_ ?_
        · intro u W hS hp
          obtain ⟨q0, q1, q2, _⟩ := hp
          have p82 : u 82 = .bool false := q0
          have p79 : u 79 = .bool true := q2
          exact step_on (wanted_on rfl rfl rfl hN rfl p79) (ext_val hS (run_mv rfl ((eval_in rfl hN rfl).trans p82)) rfl)
        refine steps_cons ?_ ?_
        · intro u W hS hp
          obtain ⟨q0, _⟩ := hp
          have p83 : u 83 = .bool false := q0
          exact step_on (wanted_on rfl rfl rfl hN rfl p83) (ext_val hS (run_ld rfl ((eval_out rfl).trans rfl) (ld25 (hS.h (bB, boxOf o, 25) (by simp)))) rfl)
        refine steps_cons ?_ ?_
        · intro u W hS hp
          obtain ⟨q0, _⟩ := hp
          have p83 : u 83 = .bool false := q0
          exact step_on (wanted_on rfl rfl rfl hN rfl p83) (ext_val hS (run_ld rfl ((eval_out rfl).trans rfl) (ld25 (hS.h (bA, boxOf m, 25) (by simp)))) rfl)
        refine steps_cons ?_ ?_
        · intro u W hS hp
          obtain ⟨q0, q1, q2, q3, _⟩ := hp
          have p84 : u 84 = .agg (boxOf o) := q0
          have p85 : u 85 = .agg (boxOf m) := q1
          have p83 : u 83 = .bool false := q2
          exact step_on (wanted_on rfl rfl rfl hN rfl p83) (ext_call (run_call rfl rfl (map2 ((eval_in rfl hN rfl).trans p84) ((eval_in rfl hN rfl).trans p85)) Tryd.func10 nm10 bd10) ((less_any o m W).mono fun _ _ ⟨e, hb⟩ => ⟨_, e, (by first | rfl | exact congrArg Value.bool hom), hS.next hb, hb⟩))
        refine steps_cons ?_ ?_
        · intro u W hS hp
          obtain ⟨q0, q1, q2, _⟩ := hp
          have p83 : u 83 = .bool false := q0
          have p86 : u 86 = .bool false := q1
          have p79 : u 79 = .bool true := q2
          exact step_on (wanted_on rfl rfl rfl hN rfl p79) (ext_val hS (run_pickF rfl ((eval_in rfl hN rfl).trans p83) ((eval_in rfl hN rfl).trans p86)) rfl)
        refine steps_cons ?_ ?_
        · intro u W hS hp
          obtain ⟨q0, _⟩ := hp
          have p79 : u 79 = .bool true := q0
          exact step_on (wanted_on rfl rfl rfl hN rfl p79) (ext_val hS (run_ld rfl ((eval_out rfl).trans rfl) (ld25 (hS.h (bA, boxOf m, 25) (by simp)))) rfl)
        refine steps_cons ?_ ?_
        · intro u W hS hp
          obtain ⟨q0, _⟩ := hp
          have p79 : u 79 = .bool true := q0
          exact step_on (wanted_on rfl rfl rfl hN rfl p79) (ext_val hS (run_ld rfl ((eval_out rfl).trans rfl) (ld25 (hS.h (bB, boxOf o, 25) (by simp)))) rfl)
        refine steps_cons ?_ ?_
        · intro u W hS hp
          obtain ⟨q0, q1, q2, _⟩ := hp
          have p88 : u 88 = .agg (boxOf m) := q0
          have p89 : u 89 = .agg (boxOf o) := q1
          have p79 : u 79 = .bool true := q2
          exact step_on (wanted_on rfl rfl rfl hN rfl p79) (ext_val hS (run_bin rfl ((eval_in rfl hN rfl).trans p88) ((eval_in rfl hN rfl).trans p89) (eg25 ..) (neqM (by rw [he]; rfl))) rfl)
        refine steps_cons ?_ ?_
        · intro u W hS hp
          obtain ⟨q0, q1, q2, _⟩ := hp
          have p87 : u 87 = .bool false := q0
          have p90 : u 90 = .bool false := q1
          have p79 : u 79 = .bool true := q2
          exact step_on (wanted_on rfl rfl rfl hN rfl p79) (ext_val hS (run_bin rfl ((eval_in rfl hN rfl).trans p87) ((eval_in rfl hN rfl).trans p90) rfl (bool_eql _ _ W)) rfl)
        refine steps_cons ?_ ?_
        · intro u W hS hp
          obtain ⟨q0, q1, _⟩ := hp
          have p79 : u 79 = .bool true := q0
          have p91 : u 91 = .bool true := q1
          exact step_on (wanted_free rfl) (ext_val hS (run_pickT rfl ((eval_in rfl hN rfl).trans p79) ((eval_in rfl hN rfl).trans p91)) rfl)
        refine steps_cons ?_ ?_
        · intro u W hS hp
          obtain ⟨q0, q1, _⟩ := hp
          have p92 : u 92 = .bool true := q0
          have p86 : u 86 = .bool false := q1
          exact step_on (wanted_free rfl) (ext_val hS (run_mv rfl ((eval_in rfl hN rfl).trans p92)) rfl)
        refine steps_cons ?_ ?_
        · intro u W hS hp
          obtain ⟨q0, _⟩ := hp
          have p93 : u 93 = .bool true := q0
          exact step_on (wanted_on rfl rfl rfl hN rfl p93) (ext_val hS (run_ld rfl ((eval_out rfl).trans rfl) (ld25 (hS.h (bA, boxOf m, 25) (by simp)))) rfl)
        refine steps_cons ?_ ?_
        · intro u W hS hp
          obtain ⟨q0, _⟩ := hp
          have p93 : u 93 = .bool true := q0
          exact step_on (wanted_on rfl rfl rfl hN rfl p93) (ext_val hS (run_ld rfl ((eval_out rfl).trans rfl) (ld25 (hS.h (bB, boxOf o, 25) (by simp)))) rfl)
        refine steps_cons ?_ ?_
        · intro u W hS hp
          obtain ⟨q0, q1, q2, q3, _⟩ := hp
          have p94 : u 94 = .agg (boxOf m) := q0
          have p95 : u 95 = .agg (boxOf o) := q1
          have p93 : u 93 = .bool true := q2
          exact step_on (wanted_on rfl rfl rfl hN rfl p93) (ext_call (run_call rfl rfl (map2 ((eval_in rfl hN rfl).trans p94) ((eval_in rfl hN rfl).trans p95)) Tryd.func10 nm10 bd10) ((less_any m o W).mono fun _ _ ⟨e, hb⟩ => ⟨_, e, (by first | rfl | exact congrArg Value.bool hmo), hS.next hb, hb⟩))
        refine steps_cons ?_ ?_
        · intro u W hS hp
          obtain ⟨q0, q1, q2, _⟩ := hp
          have p96 : u 96 = .bool false := q0
          have p93 : u 93 = .bool true := q2
          exact step_on (wanted_on rfl rfl rfl hN rfl p93) (ext_val hS (run_mv rfl ((eval_in rfl hN rfl).trans p96)) rfl)
        refine steps_cons ?_ ?_
        · intro u W hS hp
          obtain ⟨q0, _⟩ := hp
          have p97 : u 97 = .bool false := q0
          exact step_off (wanted_off rfl rfl rfl hN rfl p97) rfl
        refine steps_cons ?_ ?_
        · intro u W hS hp
          obtain ⟨q0, _⟩ := hp
          have p97 : u 97 = .bool false := q0
          exact step_off (wanted_off rfl rfl rfl hN rfl p97) rfl
        refine steps_cons ?_ ?_
        · intro u W hS hp
          obtain ⟨q0, q1, q2, q3, _⟩ := hp
          have p98 : u 98 = undef := q0
          have p99 : u 99 = undef := q1
          have p97 : u 97 = .bool false := q2
          exact step_off (wanted_off rfl rfl rfl hN rfl p97) rfl
        refine steps_cons ?_ ?_
        · intro u W hS hp
          obtain ⟨q0, q1, q2, _⟩ := hp
          have p97 : u 97 = .bool false := q0
          have p100 : u 100 = undef := q1
          have p93 : u 93 = .bool true := q2
          exact step_on (wanted_on rfl rfl rfl hN rfl p93) (ext_val hS (run_pickF rfl ((eval_in rfl hN rfl).trans p97) rfl) rfl)
        refine steps_cons ?_ ?_
        · intro u W hS hp
          obtain ⟨q0, q1, _⟩ := hp
          have p101 : u 101 = Value.bool false := q0
          have p93 : u 93 = .bool true := q1
          exact step_on (wanted_on rfl rfl rfl hN rfl p93) (ext_val hS (run_un rfl ((eval_in rfl hN rfl).trans p101) rfl) rfl)
        refine steps_cons ?_ ?_
        · intro u W hS hp
          obtain ⟨q0, q1, _⟩ := hp
          have p93 : u 93 = .bool true := q0
          have p102 : u 102 = .bool true := q1
          exact step_on (wanted_free rfl) (ext_val hS (run_pickT rfl ((eval_in rfl hN rfl).trans p93) ((eval_in rfl hN rfl).trans p102)) rfl)
        refine steps_cons ?_ ?_
        · intro u W hS hp
          obtain ⟨q0, q1, q2, q3, q4, q5, q6, q7, q8, q9, q10, q11, q12, q13, q14, q15, q16, q17, q18, q19, q20, q21, q22, q23, q24, q25, q26, q27, q28, q29, q30, q31, q32, q33, q34, q35, q36, q37, q38, q39, q40, q41, q42, q43, q44, q45, q46, q47, q48, q49, q50, q51, q52, q53, _⟩ := hp
          have p103 : u 103 = .bool true := q0
          have p100 : u 100 = undef := q1
          have p52 : u 52 = .agg (boxOf m) := q2
          have p53 : u 53 = .agg (boxOf o) := q3
          have p54 : u 54 = .bool true := q4
          have p55 : u 55 = .string (encS m) := q5
          have p56 : u 56 = .string (encS o) := q6
          have p57 : u 57 = .bool true := q7
          have p58 : u 58 = .bool true := q8
          have p59 : u 59 = .bool true := q9
          have p60 : u 60 = .agg (boxOf m) := q10
          have p61 : u 61 = .agg (boxOf o) := q11
          have p62 : u 62 = .bool true := q12
          have p63 : u 63 = .agg (boxOf m) := q13
          have p64 : u 64 = .string (textS m) := q14
          have p65 : u 65 = .agg (boxOf o) := q15
          have p66 : u 66 = .string (textS o) := q16
          have p67 : u 67 = .bool true := q17
          have p68 : u 68 = .bool true := q18
          have p69 : u 69 = .bool true := q19
          have p70 : u 70 = .bool true := q20
          have p71 : u 71 = .agg (boxOf m) := q21
          have p72 : u 72 = .agg (boxOf o) := q22
          have p73 : u 73 = .bool false := q23
          have p74 : u 74 = .string (encS m) := q24
          have p75 : u 75 = .string (encS o) := q25
          have p76 : u 76 = .bool false := q26
          have p77 : u 77 = .bool true := q27
          have p78 : u 78 = .bool true := q28
          have p79 : u 79 = .bool true := q29
          have p80 : u 80 = .agg (boxOf m) := q30
          have p81 : u 81 = .agg (boxOf o) := q31
          have p82 : u 82 = .bool false := q32
          have p83 : u 83 = .bool false := q33
          have p84 : u 84 = .agg (boxOf o) := q34
          have p85 : u 85 = .agg (boxOf m) := q35
          have p86 : u 86 = .bool false := q36
          have p87 : u 87 = .bool false := q37
          have p88 : u 88 = .agg (boxOf m) := q38
          have p89 : u 89 = .agg (boxOf o) := q39
          have p90 : u 90 = .bool false := q40
          have p91 : u 91 = .bool true := q41
          have p92 : u 92 = .bool true := q42
          have p93 : u 93 = .bool true := q43
          have p94 : u 94 = .agg (boxOf m) := q44
          have p95 : u 95 = .agg (boxOf o) := q45
          have p96 : u 96 = .bool false := q46
          have p97 : u 97 = .bool false := q47
          have p98 : u 98 = undef := q48
          have p99 : u 99 = undef := q49
          have p101 : u 101 = Value.bool false := q51
          have p102 : u 102 = .bool true := q52
          exact step_on (wanted_free rfl) (ext_val hS (run_asg rfl ((eval_in rfl hN rfl).trans p103)) rfl)
        exact steps_nil
      · obtain ⟨q0, q1, q2, q3, q4, q5, q6, q7, q8, q9, q10, q11, q12, q13, q14, q15, q16, q17, q18, q19, q20, q21, q22, q23, q24, q25, q26, q27, q28, q29, q30, q31, q32, q33, q34, q35, q36, q37, q38, q39, q40, q41, q42, q43, q44, q45, q46, q47, q48, q49, q50, q51, q52, _⟩ := hF
        have p52 : u 52 = .agg (boxOf m) := q0
        have p53 : u 53 = .agg (boxOf o) := q1
        have p54 : u 54 = .bool true := q2
        have p55 : u 55 = .string (encS m) := q3
        have p56 : u 56 = .string (encS o) := q4
        have p57 : u 57 = .bool true := q5
        have p58 : u 58 = .bool true := q6
        have p59 : u 59 = .bool true := q7
        have p60 : u 60 = .agg (boxOf m) := q8
        have p61 : u 61 = .agg (boxOf o) := q9
        have p62 : u 62 = .bool true := q10
        have p63 : u 63 = .agg (boxOf m) := q11
        have p64 : u 64 = .string (textS m) := q12
        have p65 : u 65 = .agg (boxOf o) := q13
        have p66 : u 66 = .string (textS o) := q14
        have p67 : u 67 = .bool true := q15
        have p68 : u 68 = .bool true := q16
        have p69 : u 69 = .bool true := q17
        have p70 : u 70 = .bool true := q18
        have p71 : u 71 = .agg (boxOf m) := q19
        have p72 : u 72 = .agg (boxOf o) := q20
        have p73 : u 73 = .bool false := q21
        have p74 : u 74 = .string (encS m) := q22
        have p75 : u 75 = .string (encS o) := q23
        have p76 : u 76 = .bool false := q24
        have p77 : u 77 = .bool true := q25
        have p78 : u 78 = .bool true := q26
        have p79 : u 79 = .bool true := q27
        have p80 : u 80 = .agg (boxOf m) := q28
        have p81 : u 81 = .agg (boxOf o) := q29
        have p82 : u 82 = .bool false := q30
        have p83 : u 83 = .bool false := q31
        have p84 : u 84 = .agg (boxOf o) := q32
        have p85 : u 85 = .agg (boxOf m) := q33
        have p86 : u 86 = .bool false := q34
        have p87 : u 87 = .bool false := q35
        have p88 : u 88 = .agg (boxOf m) := q36
        have p89 : u 89 = .agg (boxOf o) := q37
        have p90 : u 90 = .bool false := q38
        have p91 : u 91 = .bool true := q39
        have p92 : u 92 = .bool true := q40
        have p93 : u 93 = .bool true := q41
        have p94 : u 94 = .agg (boxOf m) := q42
        have p95 : u 95 = .agg (boxOf o) := q43
        have p96 : u 96 = .bool false := q44
        have p97 : u 97 = .bool false := q45
        have p98 : u 98 = undef := q46
        have p99 : u 99 = undef := q47
        have p100 : u 100 = undef := q48
        have p101 : u 101 = Value.bool false := q49
        have p102 : u 102 = .bool true := q50
        have p103 : u 103 = .bool true := q51
        have p4 : u 4 = .bool true := q52
        simp only [frm, frmL, Nat.reduceAdd, p52, p53, p54, p55, p56, p57, p58, p59, p60, p61, p62, p63, p64, p65, p66, p67, p68, p69, p70, p71, p72, p73, p74, p75, p76, p77, p78, p79, p80, p81, p82, p83, p84, p85, p86, p87, p88, p89, p90, p91, p92, p93, p94, p95, p96, p97, p98, p99, p100, p101, p102, p103, p4]
        clear p52 p53 p54 p55 p56 p57 p58 p59 p60 p61 p62 p63 p64 p65 p66 p67 p68 p69 p70 p71 p72 p73 p74 p75 p76 p77 p78 p79 p80 p81 p82 p83 p84 p85 p86 p87 p88 p89 p90 p91 p92 p93 p94 p95 p96 p97 p98 p99 p100 p101 p102 p103 p4
        have hB := hS.b
        clear hS
        go_wp2
        go_ret
        exact ⟨rfl, hB⟩
    · refine region_all (D := [false, false, false, false, true, false, false, false, false, false, false, false, false, false, false, false, false, false, false, false, false, false, false, false, false, false, false, false, false, false, false, false, false, false, false, false, false, false, false, false, false, false, false, false, false, false, false, false, false, false, false, false, true, true, true, true, true, true, true, true, true, true, true, true, true, true, true, true, true, true, true, true, true, true, true, true, true, true, true, true, true, true, true, true, true, true, true, true, true, true, true, true, true, true, true, true, true, true, true, true, true, true, true, true]) (S := fun W => St [(b7, boxOf m, 25), (b5, boxOf m, 25), (bB, boxOf o, 25), (bA, boxOf m, 25)] w W) (R := RB) (F := FF [isV (.agg (boxOf m)), isV (.agg (boxOf o)), isV (.bool false), isV (.string (encS m)), isV (.string (encS o)), isV (.bool false), isV (.bool true), isV (.bool true), isV (.agg (boxOf m)), isV (.agg (boxOf o)), isV (.bool false), isV (.agg (boxOf m)), isV (.string (textS m)), isV (.agg (boxOf o)), isV (.string (textS o)), isV (.bool false), isV (.bool true), isV (.bool true), isV (.bool true), isV (.agg (boxOf m)), isV (.agg (boxOf o)), isV (.bool true), isV (.string (encS m)), isV (.string (encS o)), isV (.bool true), isV (.bool true), isV (.bool true), isV (.bool true), isV (.agg (boxOf m)), isV (.agg (boxOf o)), isV (.bool true), isV (.bool true), isV undef, isV undef, isV undef, isV (Value.bool true), isV (.agg (boxOf m)), isV (.agg (boxOf o)), isV (.bool true), isV (.bool true), isV (.bool true), isV (.bool true), isV (.agg (boxOf m)), isV (.agg (boxOf o)), isV (.bool true), isV (.bool true), isV (.agg (boxOf o)), isV (.agg (boxOf m)), isV (.bool false), isV (.bool false), isV (.bool true), isV (.bool true), isV (.bool true)]) rfl mo (by kernel_rfl) (FF_st _ _) HS8.out.drew (fun hN => ?_) (fun u W hS hF => ?_)
      · refine steps_cons ?_ ?_
        · intro u W hS hp
          exact step_on (wanted_free rfl) (ext_val hS (run_ld rfl ((eval_out rfl).trans rfl) (ld25 (hS.h (bA, boxOf m, 25) (by simp)))) rfl)
        refine steps_cons ?_ ?_
        · intro u W hS hp
          exact step_on (wanted_free rfl) (ext_val hS (run_ld rfl ((eval_out rfl).trans rfl) (ld25 (hS.h (bB, boxOf o, 25) (by simp)))) rfl)
        refine steps_cons ?_ ?_
        · intro u W hS hp
          obtain ⟨q0, q1, _⟩ := hp
          have p52 : u 52 = .agg (boxOf m) := q0
          have p53 : u 53 = .agg (boxOf o) := q1
          exact step_on (wanted_free rfl) (ext_val hS (run_bin rfl ((eval_in rfl hN rfl).trans p52) ((eval_in rfl hN rfl).trans p53) (eg25 ..) (eqlM he)) rfl)
        refine steps_cons ?_ ?_
        · intro u W hS hp
          exact step_on (wanted_free rfl) (ext_val hS (run_mv rfl ((eval_out rfl).trans rfl)) rfl)
        refine steps_cons ?_ ?_
        · intro u W hS hp
          exact step_on (wanted_free rfl) (ext_val hS (run_mv rfl ((eval_out rfl).trans rfl)) rfl)
        refine steps_cons ?_ ?_
        · intro u W hS hp
          obtain ⟨q0, q1, _⟩ := hp
          have p55 : u 55 = .string (encS m) := q0
          have p56 : u 56 = .string (encS o) := q1
          exact step_on (wanted_free rfl) (ext_val hS (run_bin rfl ((eval_in rfl hN rfl).trans p55) ((eval_in rfl hN rfl).trans p56) rfl (str_eql (enc_eq he))) rfl)
        refine steps_cons ?_ ?_
        · intro u W hS hp
          obtain ⟨q0, q1, _⟩ := hp
          have p54 : u 54 = .bool false := q0
          have p57 : u 57 = .bool false := q1
          exact step_on (wanted_free rfl) (ext_val hS (run_bin rfl ((eval_in rfl hN rfl).trans p54) ((eval_in rfl hN rfl).trans p57) rfl (bool_eql _ _ W)) rfl)
        refine steps_cons ?_ ?_
        · intro u W hS hp
          obtain ⟨q0, _⟩ := hp
          have p58 : u 58 = .bool true := q0
          exact step_on (wanted_free rfl) (ext_val hS (run_mv rfl ((eval_in rfl hN rfl).trans p58)) rfl)
        refine steps_cons ?_ ?_
        · intro u W hS hp
          obtain ⟨q0, _⟩ := hp
          have p59 : u 59 = .bool true := q0
          exact step_on (wanted_on rfl rfl rfl hN rfl p59) (ext_val hS (run_ld rfl ((eval_out rfl).trans rfl) (ld25 (hS.h (bA, boxOf m, 25) (by simp)))) rfl)
        refine steps_cons ?_ ?_
        · intro u W hS hp
          obtain ⟨q0, _⟩ := hp
          have p59 : u 59 = .bool true := q0
          exact step_on (wanted_on rfl rfl rfl hN rfl p59) (ext_val hS (run_ld rfl ((eval_out rfl).trans rfl) (ld25 (hS.h (bB, boxOf o, 25) (by simp)))) rfl)
        refine steps_cons ?_ ?_
        · intro u W hS hp
          obtain ⟨q0, q1, q2, _⟩ := hp
          have p60 : u 60 = .agg (boxOf m) := q0
          have p61 : u 61 = .agg (boxOf o) := q1
          have p59 : u 59 = .bool true := q2
          exact step_on (wanted_on rfl rfl rfl hN rfl p59) (ext_val hS (run_bin rfl ((eval_in rfl hN rfl).trans p60) ((eval_in rfl hN rfl).trans p61) (eg25 ..) (eqlM he)) rfl)
        refine steps_cons ?_ ?_
        · intro u W hS hp
          obtain ⟨q0, _⟩ := hp
          have p59 : u 59 = .bool true := q0
          exact step_on (wanted_on rfl rfl rfl hN rfl p59) (ext_val hS (run_ld rfl ((eval_out rfl).trans rfl) (ld25 (hS.h (bA, boxOf m, 25) (by simp)))) rfl)
        refine steps_cons ?_ ?_
        · intro u W hS hp
          obtain ⟨q0, q1, q2, _⟩ := hp
          have p63 : u 63 = .agg (boxOf m) := q0
          have p59 : u 59 = .bool true := q1
          exact step_on (wanted_on rfl rfl rfl hN rfl p59) (ext_call (run_call rfl rfl (map1 ((eval_in rfl hN rfl).trans p63)) Tryd.func15 nm15 bd15) ((text_any m W hS.g).mono fun _ _ ⟨e, hb⟩ => ⟨_, e, rfl, hS.next hb, hb⟩))
        refine steps_cons ?_ ?_
        · intro u W hS hp
          obtain ⟨q0, _⟩ := hp
          have p59 : u 59 = .bool true := q0
          exact step_on (wanted_on rfl rfl rfl hN rfl p59) (ext_val hS (run_ld rfl ((eval_out rfl).trans rfl) (ld25 (hS.h (bB, boxOf o, 25) (by simp)))) rfl)
        refine steps_cons ?_ ?_
        · intro u W hS hp
          obtain ⟨q0, q1, q2, _⟩ := hp
          have p65 : u 65 = .agg (boxOf o) := q0
          have p64 : u 64 = .string (textS m) := q1
          have p59 : u 59 = .bool true := q2
          exact step_on (wanted_on rfl rfl rfl hN rfl p59) (ext_call (run_call rfl rfl (map1 ((eval_in rfl hN rfl).trans p65)) Tryd.func15 nm15 bd15) ((text_any o W hS.g).mono fun _ _ ⟨e, hb⟩ => ⟨_, e, rfl, hS.next hb, hb⟩))
        refine steps_cons ?_ ?_
        · intro u W hS hp
          obtain ⟨q0, q1, q2, _⟩ := hp
          have p64 : u 64 = .string (textS m) := q0
          have p66 : u 66 = .string (textS o) := q1
          have p59 : u 59 = .bool true := q2
          exact step_on (wanted_on rfl rfl rfl hN rfl p59) (ext_val hS (run_bin rfl ((eval_in rfl hN rfl).trans p64) ((eval_in rfl hN rfl).trans p66) rfl (str_eql (text_eq he))) rfl)
        refine steps_cons ?_ ?_
        · intro u W hS hp
          obtain ⟨q0, q1, q2, _⟩ := hp
          have p62 : u 62 = .bool false := q0
          have p67 : u 67 = .bool false := q1
          have p59 : u 59 = .bool true := q2
          exact step_on (wanted_on rfl rfl rfl hN rfl p59) (ext_val hS (run_bin rfl ((eval_in rfl hN rfl).trans p62) ((eval_in rfl hN rfl).trans p67) rfl (bool_eql _ _ W)) rfl)
        refine steps_cons ?_ ?_
        · intro u W hS hp
          obtain ⟨q0, q1, _⟩ := hp
          have p59 : u 59 = .bool true := q0
          have p68 : u 68 = .bool true := q1
          exact step_on (wanted_free rfl) (ext_val hS (run_pickT rfl ((eval_in rfl hN rfl).trans p59) ((eval_in rfl hN rfl).trans p68)) rfl)
        refine steps_cons ?_ ?_
        · intro u W hS hp
          obtain ⟨q0, q1, _⟩ := hp
          have p69 : u 69 = .bool true := q0
          have p66 : u 66 = .string (textS o) := q1
          exact step_on (wanted_free rfl) (ext_val hS (run_mv rfl ((eval_in rfl hN rfl).trans p69)) rfl)
        refine steps_cons ?_ ?_
        · intro u W hS hp
          obtain ⟨q0, _⟩ := hp
          have p70 : u 70 = .bool true := q0
          exact step_on (wanted_on rfl rfl rfl hN rfl p70) (ext_val hS (run_ld rfl ((eval_out rfl).trans rfl) (ld25 (hS.h (bA, boxOf m, 25) (by simp)))) rfl)
        refine steps_cons ?_ ?_
        · intro u W hS hp
          obtain ⟨q0, _⟩ := hp
          have p70 : u 70 = .bool true := q0
          exact step_on (wanted_on rfl rfl rfl hN rfl p70) (ext_val hS (run_ld rfl ((eval_out rfl).trans rfl) (ld25 (hS.h (bB, boxOf o, 25) (by simp)))) rfl)
        refine steps_cons ?_ ?_
        · intro u W hS hp
          obtain ⟨q0, q1, q2, q3, _⟩ := hp
          have p71 : u 71 = .agg (boxOf m) := q0
          have p72 : u 72 = .agg (boxOf o) := q1
          have p70 : u 70 = .bool true := q2
          exact step_on (wanted_on rfl rfl rfl hN rfl p70) (ext_call (run_call rfl rfl (map2 ((eval_in rfl hN rfl).trans p71) ((eval_in rfl hN rfl).trans p72)) Tryd.func10 nm10 bd10) ((less_any m o W).mono fun _ _ ⟨e, hb⟩ => ⟨_, e, (by first | rfl | exact congrArg Value.bool hmo), hS.next hb, hb⟩))
        refine steps_cons ?_ ?_
        · intro u W hS hp
          obtain ⟨q0, _⟩ := hp
          have p70 : u 70 = .bool true := q0
          exact step_on (wanted_on rfl rfl rfl hN rfl p70) (ext_val hS (run_mv rfl ((eval_out rfl).trans rfl)) rfl)
        refine steps_cons ?_ ?_
        · intro u W hS hp
          obtain ⟨q0, _⟩ := hp
          have p70 : u 70 = .bool true := q0
          exact step_on (wanted_on rfl rfl rfl hN rfl p70) (ext_val hS (run_mv rfl ((eval_out rfl).trans rfl)) rfl)
        refine steps_cons ?_ ?_
        · intro u W hS hp
          obtain ⟨q0, q1, q2, _⟩ := hp
          have p74 : u 74 = .string (encS m) := q0
          have p75 : u 75 = .string (encS o) := q1
          have p70 : u 70 = .bool true := q2
          exact step_on (wanted_on rfl rfl rfl hN rfl p70) (ext_val hS (run_bin rfl ((eval_in rfl hN rfl).trans p74) ((eval_in rfl hN rfl).trans p75) rfl (str_lss (enc_less hmo))) rfl)
        refine steps_cons ?_ ?_
        · intro u W hS hp
          obtain ⟨q0, q1, q2, _⟩ := hp
          have p73 : u 73 = .bool true := q0
          have p76 : u 76 = .bool true := q1
          have p70 : u 70 = .bool true := q2
          exact step_on (wanted_on rfl rfl rfl hN rfl p70) (ext_val hS (run_bin rfl ((eval_in rfl hN rfl).trans p73) ((eval_in rfl hN rfl).trans p76) rfl (bool_eql _ _ W)) rfl)
        refine steps_cons ?_ ?_
        · intro u W hS hp
          obtain ⟨q0, q1, _⟩ := hp
          have p70 : u 70 = .bool true := q0
          have p77 : u 77 = .bool true := q1
          exact step_on (wanted_free rfl) (ext_val hS (run_pickT rfl ((eval_in rfl hN rfl).trans p70) ((eval_in rfl hN rfl).trans p77)) rfl)
        refine steps_cons ?_ ?_
        · intro u W hS hp
          obtain ⟨q0, q1, _⟩ := hp
          have p78 : u 78 = .bool true := q0
          have p73 : u 73 = .bool true := q1
          exact step_on (wanted_free rfl) (ext_val hS (run_mv rfl ((eval_in rfl hN rfl).trans p78)) rfl)
        refine steps_cons ?_ ?_
        · intro u W hS hp
          obtain ⟨q0, _⟩ := hp
          have p79 : u 79 = .bool true := q0
          exact step_on (wanted_on rfl rfl rfl hN rfl p79) (ext_val hS (run_ld rfl ((eval_out rfl).trans rfl) (ld25 (hS.h (bA, boxOf m, 25) (by simp)))) rfl)
        refine steps_cons ?_ ?_
        · intro u W hS hp
          obtain ⟨q0, _⟩ := hp
          have p79 : u 79 = .bool true := q0
          exact step_on (wanted_on rfl rfl rfl hN rfl p79) (ext_val hS (run_ld rfl ((eval_out rfl).trans rfl) (ld25 (hS.h (bB, boxOf o, 25) (by simp)))) rfl)
        refine steps_cons ?_ ?_
        · intro u W hS hp
          obtain ⟨q0, q1, q2, q3, _⟩ := hp
          have p80 : u 80 = .agg (boxOf m) := q0
          have p81 : u 81 = .agg (boxOf o) := q1
          have p79 : u 79 = .bool true := q2
          exact step_on (wanted_on rfl rfl rfl hN rfl p79) (ext_call (run_call rfl rfl (map2 ((eval_in rfl hN rfl).trans p80) ((eval_in rfl hN rfl).trans p81)) Tryd.func10 nm10 bd10) ((less_any m o W).mono fun _ _ ⟨e, hb⟩ => ⟨_, e, (by first | rfl | exact congrArg Value.bool hmo), hS.next hb, hb⟩))
        refine steps_cons ?_ ?_
        · intro u W hS hp
          obtain ⟨q0, q1, q2, _⟩ := hp
          have p82 : u 82 = .bool true := q0
          have p79 : u 79 = .bool true := q2
          exact step_on (wanted_on rfl rfl rfl hN rfl p79) (ext_val hS (run_mv rfl ((eval_in rfl hN rfl).trans p82)) rfl)
        refine steps_cons ?_ ?_
        · intro u W hS hp
          obtain ⟨q0, _⟩ := hp
          have p83 : u 83 = .bool true := q0
          exact step_off (wanted_off rfl rfl rfl hN rfl p83) rfl
        refine steps_cons ?_ ?_
        · intro u W hS hp
          obtain ⟨q0, _⟩ := hp
          have p83 : u 83 = .bool true := q0
          exact step_off (wanted_off rfl rfl rfl hN rfl p83) rfl
        refine steps_cons ?_ ?_
        · intro u W hS hp
          obtain ⟨q0, q1, q2, q3, _⟩ := hp
          have p84 : u 84 = undef := q0
          have p85 : u 85 = undef := q1
          have p83 : u 83 = .bool true := q2
          exact step_off (wanted_off rfl rfl rfl hN rfl p83) rfl
        refine steps_cons ?_ ?_
        · intro u W hS hp
          obtain ⟨q0, q1, q2, _⟩ := hp
          have p83 : u 83 = .bool true := q0
          have p86 : u 86 = undef := q1
          have p79 : u 79 = .bool true := q2
          exact step_on (wanted_on rfl rfl rfl hN rfl p79) (ext_val hS (run_pickT rfl ((eval_in rfl hN rfl).trans p83) rfl) rfl)
        refine steps_cons ?_ ?_
        · intro u W hS hp
          obtain ⟨q0, _⟩ := hp
          have p79 : u 79 = .bool true := q0
          exact step_on (wanted_on rfl rfl rfl hN rfl p79) (ext_val hS (run_ld rfl ((eval_out rfl).trans rfl) (ld25 (hS.h (bA, boxOf m, 25) (by simp)))) rfl)
        refine steps_cons ?_ ?_
        · intro u W hS hp
          obtain ⟨q0, _⟩ := hp
          have p79 : u 79 = .bool true := q0
          exact step_on (wanted_on rfl rfl rfl hN rfl p79) (ext_val hS (run_ld rfl ((eval_out rfl).trans rfl) (ld25 (hS.h (bB, boxOf o, 25) (by simp)))) rfl)
        refine steps_cons ?_ ?_
        · intro u W hS hp
          obtain ⟨q0, q1, q2, _⟩ := hp
          have p88 : u 88 = .agg (boxOf m) := q0
          have p89 : u 89 = .agg (boxOf o) := q1
          have p79 : u 79 = .bool true := q2
          exact step_on (wanted_on rfl rfl rfl hN rfl p79) (ext_val hS (run_bin rfl ((eval_in rfl hN rfl).trans p88) ((eval_in rfl hN rfl).trans p89) (eg25 ..) (neqM (by rw [he]; rfl))) rfl)
        refine steps_cons ?_ ?_
        · intro u W hS hp
          obtain ⟨q0, q1, q2, _⟩ := hp
          have p87 : u 87 = Value.bool true := q0
          have p90 : u 90 = .bool true := q1
          have p79 : u 79 = .bool true := q2
          exact step_on (wanted_on rfl rfl rfl hN rfl p79) (ext_val hS (run_bin rfl ((eval_in rfl hN rfl).trans p87) ((eval_in rfl hN rfl).trans p90) rfl (bool_eql _ _ W)) rfl)
        refine steps_cons ?_ ?_
        · intro u W hS hp
          obtain ⟨q0, q1, _⟩ := hp
          have p79 : u 79 = .bool true := q0
          have p91 : u 91 = .bool true := q1
          exact step_on (wanted_free rfl) (ext_val hS (run_pickT rfl ((eval_in rfl hN rfl).trans p79) ((eval_in rfl hN rfl).trans p91)) rfl)
        refine steps_cons ?_ ?_
        · intro u W hS hp
          obtain ⟨q0, q1, _⟩ := hp
          have p92 : u 92 = .bool true := q0
          have p86 : u 86 = undef := q1
          exact step_on (wanted_free rfl) (ext_val hS (run_mv rfl ((eval_in rfl hN rfl).trans p92)) rfl)
        refine steps_cons ?_ ?_
        · intro u W hS hp
          obtain ⟨q0, _⟩ := hp
          have p93 : u 93 = .bool true := q0
          exact step_on (wanted_on rfl rfl rfl hN rfl p93) (ext_val hS (run_ld rfl ((eval_out rfl).trans rfl) (ld25 (hS.h (bA, boxOf m, 25) (by simp)))) rfl)
        refine steps_cons ?_ ?_
        · intro u W hS hp
          obtain ⟨q0, _⟩ := hp
          have p93 : u 93 = .bool true := q0
          exact step_on (wanted_on rfl rfl rfl hN rfl p93) (ext_val hS (run_ld rfl ((eval_out rfl).trans rfl) (ld25 (hS.h (bB, boxOf o, 25) (by simp)))) rfl)
        refine steps_cons ?_ ?_
        · intro u W hS hp
          obtain ⟨q0, q1, q2, q3, _⟩ := hp
          have p94 : u 94 = .agg (boxOf m) := q0
          have p95 : u 95 = .agg (boxOf o) := q1
          have p93 : u 93 = .bool true := q2
          exact step_on (wanted_on rfl rfl rfl hN rfl p93) (ext_call (run_call rfl rfl (map2 ((eval_in rfl hN rfl).trans p94) ((eval_in rfl hN rfl).trans p95)) Tryd.func10 nm10 bd10) ((less_any m o W).mono fun _ _ ⟨e, hb⟩ => ⟨_, e, (by first | rfl | exact congrArg Value.bool hmo), hS.next hb, hb⟩))
        refine steps_cons ?_ ?_
        · intro u W hS hp
          obtain ⟨q0, q1, q2, _⟩ := hp
          have p96 : u 96 = .bool true := q0
          have p93 : u 93 = .bool true := q2
          exact step_on (wanted_on rfl rfl rfl hN rfl p93) (ext_val hS (run_mv rfl ((eval_in rfl hN rfl).trans p96)) rfl)
        refine steps_cons ?_ ?_
        · intro u W hS hp
          obtain ⟨q0, _⟩ := hp
          have p97 : u 97 = .bool true := q0
          exact step_on (wanted_on rfl rfl rfl hN rfl p97) (ext_val hS (run_ld rfl ((eval_out rfl).trans rfl) (ld25 (hS.h (bB, boxOf o, 25) (by simp)))) rfl)
        refine steps_cons ?_ ?_
        · intro u W hS hp
          obtain ⟨q0, _⟩ := hp
          have p97 : u 97 = .bool true := q0
          exact step_on (wanted_on rfl rfl rfl hN rfl p97) (ext_val hS (run_ld rfl ((eval_out rfl).trans rfl) (ld25 (hS.h (bA, boxOf m, 25) (by simp)))) rfl)
        refine steps_cons ?_ ?_
        · intro u W hS hp
          obtain ⟨q0, q1, q2, q3, _⟩ := hp
          have p98 : u 98 = .agg (boxOf o) := q0
          have p99 : u 99 = .agg (boxOf m) := q1
          have p97 : u 97 = .bool true := q2
          exact step_on (wanted_on rfl rfl rfl hN rfl p97) (ext_call (run_call rfl rfl (map2 ((eval_in rfl hN rfl).trans p98) ((eval_in rfl hN rfl).trans p99)) Tryd.func10 nm10 bd10) ((less_any o m W).mono fun _ _ ⟨e, hb⟩ => ⟨_, e, (by first | rfl | exact congrArg Value.bool hom), hS.next hb, hb⟩))
        refine steps_cons ?_ ?_
        · intro u W hS hp
          obtain ⟨q0, q1, q2, _⟩ := hp
          have p97 : u 97 = .bool true := q0
          have p100 : u 100 = .bool false := q1
          have p93 : u 93 = .bool true := q2
          exact step_on (wanted_on rfl rfl rfl hN rfl p93) (ext_val hS (run_pickT rfl ((eval_in rfl hN rfl).trans p97) ((eval_in rfl hN rfl).trans p100)) rfl)
        refine steps_cons ?_ ?_
        · intro u W hS hp
          obtain ⟨q0, q1, _⟩ := hp
          have p101 : u 101 = .bool false := q0
          have p93 : u 93 = .bool true := q1
          exact step_on (wanted_on rfl rfl rfl hN rfl p93) (ext_val hS (run_un rfl ((eval_in rfl hN rfl).trans p101) rfl) rfl)
        refine steps_cons ?_ ?_
        · intro u W hS hp
          obtain ⟨q0, q1, _⟩ := hp
          have p93 : u 93 = .bool true := q0
          have p102 : u 102 = .bool true := q1
          exact step_on (wanted_free rfl) (ext_val hS (run_pickT rfl ((eval_in rfl hN rfl).trans p93) ((eval_in rfl hN rfl).trans p102)) rfl)
        refine steps_cons ?_ ?_
        · intro u W hS hp
          obtain ⟨q0, q1, q2, q3, q4, q5, q6, q7, q8, q9, q10, q11, q12, q13, q14, q15, q16, q17, q18, q19, q20, q21, q22, q23, q24, q25, q26, q27, q28, q29, q30, q31, q32, q33, q34, q35, q36, q37, q38, q39, q40, q41, q42, q43, q44, q45, q46, q47, q48, q49, q50, q51, q52, q53, _⟩ := hp
          have p103 : u 103 = .bool true := q0
          have p100 : u 100 = .bool false := q1
          have p52 : u 52 = .agg (boxOf m) := q2
          have p53 : u 53 = .agg (boxOf o) := q3
          have p54 : u 54 = .bool false := q4
          have p55 : u 55 = .string (encS m) := q5
          have p56 : u 56 = .string (encS o) := q6
          have p57 : u 57 = .bool false := q7
          have p58 : u 58 = .bool true := q8
          have p59 : u 59 = .bool true := q9
          have p60 : u 60 = .agg (boxOf m) := q10
          have p61 : u 61 = .agg (boxOf o) := q11
          have p62 : u 62 = .bool false := q12
          have p63 : u 63 = .agg (boxOf m) := q13
          have p64 : u 64 = .string (textS m) := q14
          have p65 : u 65 = .agg (boxOf o) := q15
          have p66 : u 66 = .string (textS o) := q16
          have p67 : u 67 = .bool false := q17
          have p68 : u 68 = .bool true := q18
          have p69 : u 69 = .bool true := q19
          have p70 : u 70 = .bool true := q20
          have p71 : u 71 = .agg (boxOf m) := q21
          have p72 : u 72 = .agg (boxOf o) := q22
          have p73 : u 73 = .bool true := q23
          have p74 : u 74 = .string (encS m) := q24
          have p75 : u 75 = .string (encS o) := q25
          have p76 : u 76 = .bool true := q26
          have p77 : u 77 = .bool true := q27
          have p78 : u 78 = .bool true := q28
          have p79 : u 79 = .bool true := q29
          have p80 : u 80 = .agg (boxOf m) := q30
          have p81 : u 81 = .agg (boxOf o) := q31
          have p82 : u 82 = .bool true := q32
          have p83 : u 83 = .bool true := q33
          have p84 : u 84 = undef := q34
          have p85 : u 85 = undef := q35
          have p86 : u 86 = undef := q36
          have p87 : u 87 = Value.bool true := q37
          have p88 : u 88 = .agg (boxOf m) := q38
          have p89 : u 89 = .agg (boxOf o) := q39
          have p90 : u 90 = .bool true := q40
          have p91 : u 91 = .bool true := q41
          have p92 : u 92 = .bool true := q42
          have p93 : u 93 = .bool true := q43
          have p94 : u 94 = .agg (boxOf m) := q44
          have p95 : u 95 = .agg (boxOf o) := q45
          have p96 : u 96 = .bool true := q46
          have p97 : u 97 = .bool true := q47
          have p98 : u 98 = .agg (boxOf o) := q48
          have p99 : u 99 = .agg (boxOf m) := q49
          have p101 : u 101 = .bool false := q51
          have p102 : u 102 = .bool true := q52
          exact step_on (wanted_free rfl) (ext_val hS (run_asg rfl ((eval_in rfl hN rfl).trans p103)) rfl)
        exact steps_nil
      · obtain ⟨q0, q1, q2, q3, q4, q5, q6, q7, q8, q9, q10, q11, q12, q13, q14, q15, q16, q17, q18, q19, q20, q21, q22, q23, q24, q25, q26, q27, q28, q29, q30, q31, q32, q33, q34, q35, q36, q37, q38, q39, q40, q41, q42, q43, q44, q45, q46, q47, q48, q49, q50, q51, q52, _⟩ := hF
        have p52 : u 52 = .agg (boxOf m) := q0
        have p53 : u 53 = .agg (boxOf o) := q1
        have p54 : u 54 = .bool false := q2
        have p55 : u 55 = .string (encS m) := q3
        have p56 : u 56 = .string (encS o) := q4
        have p57 : u 57 = .bool false := q5
        have p58 : u 58 = .bool true := q6
        have p59 : u 59 = .bool true := q7
        have p60 : u 60 = .agg (boxOf m) := q8
        have p61 : u 61 = .agg (boxOf o) := q9
        have p62 : u 62 = .bool false := q10
        have p63 : u 63 = .agg (boxOf m) := q11
        have p64 : u 64 = .string (textS m) := q12
        have p65 : u 65 = .agg (boxOf o) := q13
        have p66 : u 66 = .string (textS o) := q14
        have p67 : u 67 = .bool false := q15
        have p68 : u 68 = .bool true := q16
        have p69 : u 69 = .bool true := q17
        have p70 : u 70 = .bool true := q18
        have p71 : u 71 = .agg (boxOf m) := q19
        have p72 : u 72 = .agg (boxOf o) := q20
        have p73 : u 73 = .bool true := q21
        have p74 : u 74 = .string (encS m) := q22
        have p75 : u 75 = .string (encS o) := q23
        have p76 : u 76 = .bool true := q24
        have p77 : u 77 = .bool true := q25
        have p78 : u 78 = .bool true := q26
        have p79 : u 79 = .bool true := q27
        have p80 : u 80 = .agg (boxOf m) := q28
        have p81 : u 81 = .agg (boxOf o) := q29
        have p82 : u 82 = .bool true := q30
        have p83 : u 83 = .bool true := q31
        have p84 : u 84 = undef := q32
        have p85 : u 85 = undef := q33
        have p86 : u 86 = undef := q34
        have p87 : u 87 = Value.bool true := q35
        have p88 : u 88 = .agg (boxOf m) := q36
        have p89 : u 89 = .agg (boxOf o) := q37
        have p90 : u 90 = .bool true := q38
        have p91 : u 91 = .bool true := q39
        have p92 : u 92 = .bool true := q40
        have p93 : u 93 = .bool true := q41
        have p94 : u 94 = .agg (boxOf m) := q42
        have p95 : u 95 = .agg (boxOf o) := q43
        have p96 : u 96 = .bool true := q44
        have p97 : u 97 = .bool true := q45
        have p98 : u 98 = .agg (boxOf o) := q46
        have p99 : u 99 = .agg (boxOf m) := q47
        have p100 : u 100 = .bool false := q48
        have p101 : u 101 = .bool false := q49
        have p102 : u 102 = .bool true := q50
        have p103 : u 103 = .bool true := q51
        have p4 : u 4 = .bool true := q52
        simp only [frm, frmL, Nat.reduceAdd, p52, p53, p54, p55, p56, p57, p58, p59, p60, p61, p62, p63, p64, p65, p66, p67, p68, p69, p70, p71, p72, p73, p74, p75, p76, p77, p78, p79, p80, p81, p82, p83, p84, p85, p86, p87, p88, p89, p90, p91, p92, p93, p94, p95, p96, p97, p98, p99, p100, p101, p102, p103, p4]
        clear p52 p53 p54 p55 p56 p57 p58 p59 p60 p61 p62 p63 p64 p65 p66 p67 p68 p69 p70 p71 p72 p73 p74 p75 p76 p77 p78 p79 p80 p81 p82 p83 p84 p85 p86 p87 p88 p89 p90 p91 p92 p93 p94 p95 p96 p97 p98 p99 p100 p101 p102 p103 p4
        have hB := hS.b
        clear hS
        go_wp2
        go_ret
        exact ⟨rfl, hB⟩
    · refine region_all (D := [false, false, false, false, true, false, false, false, false, false, false, false, false, false, false, false, false, false, false, false, false, false, false, false, false, false, false, false, false, false, false, false, false, false, false, false, false, false, false, false, false, false, false, false, false, false, false, false, false, false, false, false, true, true, true, true, true, true, true, true, true, true, true, true, true, true, true, true, true, true, true, true, true, true, true, true, true, true, true, true, true, true, true, true, true, true, true, true, true, true, true, true, true, true, true, true, true, true, true, true, true, true, true, true]) (S := fun W => St [(b7, boxOf m, 25), (b5, boxOf m, 25), (bB, boxOf o, 25), (bA, boxOf m, 25)] w W) (R := RB) (F := FF [isV (.agg (boxOf m)), isV (.agg (boxOf o)), isV (.bool false), isV (.string (encS m)), isV (.string (encS o)), isV (.bool false), isV (.bool true), isV (.bool true), isV (.agg (boxOf m)), isV (.agg (boxOf o)), isV (.bool false), isV (.agg (boxOf m)), isV (.string (textS m)), isV (.agg (boxOf o)), isV (.string (textS o)), isV (.bool false), isV (.bool true), isV (.bool true), isV (.bool true), isV (.agg (boxOf m)), isV (.agg (boxOf o)), isV (.bool false), isV (.string (encS m)), isV (.string (encS o)), isV (.bool false), isV (.bool true), isV (.bool true), isV (.bool true), isV (.agg (boxOf m)), isV (.agg (boxOf o)), isV (.bool false), isV (.bool false), isV (.agg (boxOf o)), isV (.agg (boxOf m)), isV (.bool true), isV (.bool true), isV (.agg (boxOf m)), isV (.agg (boxOf o)), isV (.bool true), isV (.bool true), isV (.bool true), isV (.bool true), isV (.agg (boxOf m)), isV (.agg (boxOf o)), isV (.bool false), isV (.bool false), isV undef, isV undef, isV undef, isV (Value.bool false), isV (.bool true), isV (.bool true), isV (.bool true)]) rfl mo (by kernel_rfl) (FF_st _ _) HS8.out.drew (fun hN => ?_) (fun u W hS hF => ?_)
      · refine steps_cons ?_ ?_
        · intro u W hS hp
          exact step_on (wanted_free rfl) (ext_val hS (run_ld rfl ((eval_out rfl).trans rfl) (ld25 (hS.h (bA, boxOf m, 25) (by simp)))) rfl)
        refine steps_cons ?_ ?_
        · intro u W hS hp
          exact step_on (wanted_free rfl) (ext_val hS (run_ld rfl ((eval_out rfl).trans rfl) (ld25 (hS.h (bB, boxOf o, 25) (by simp)))) rfl)
        refine steps_cons ?_ ?_
        · intro u W hS hp
          obtain ⟨q0, q1, _⟩ := hp
          have p52 : u 52 = .agg (boxOf m) := q0
          have p53 : u 53 = .agg (boxOf o) := q1
          exact step_on (wanted_free rfl) (ext_val hS (run_bin rfl ((eval_in rfl hN rfl).trans p52) ((eval_in rfl hN rfl).trans p53) (eg25 ..) (eqlM he)) rfl)
        refine steps_cons ?_ ?_
        · intro u W hS hp
          exact step_on (wanted_free rfl) (ext_val hS (run_mv rfl ((eval_out rfl).trans rfl)) rfl)
        refine steps_cons ?_ ?_
        · intro u W hS hp
          exact step_on (wanted_free rfl) (ext_val hS (run_mv rfl ((eval_out rfl).trans rfl)) rfl)
        refine steps_cons ?_ ?_
        · intro u W hS hp
          obtain ⟨q0, q1, _⟩ := hp
          have p55 : u 55 = .string (encS m) := q0
          have p56 : u 56 = .string (encS o) := q1
          exact step_on (wanted_free rfl) (ext_val hS (run_bin rfl ((eval_in rfl hN rfl).trans p55) ((eval_in rfl hN rfl).trans p56) rfl (str_eql (enc_eq he))) rfl)
        refine steps_cons ?_ ?_
        · intro u W hS hp
          obtain ⟨q0, q1, _⟩ := hp
          have p54 : u 54 = .bool false := q0
          have p57 : u 57 = .bool false := q1
          exact step_on (wanted_free rfl) (ext_val hS (run_bin rfl ((eval_in rfl hN rfl).trans p54) ((eval_in rfl hN rfl).trans p57) rfl (bool_eql _ _ W)) rfl)
        refine steps_cons ?_ ?_
        · intro u W hS hp
          obtain ⟨q0, _⟩ := hp
          have p58 : u 58 = .bool true := q0
          exact step_on (wanted_free rfl) (ext_val hS (run_mv rfl ((eval_in rfl hN rfl).trans p58)) rfl)
        refine steps_cons ?_ ?_
        · intro u W hS hp
          obtain ⟨q0, _⟩ := hp
          have p59 : u 59 = .bool true := q0
          exact step_on (wanted_on rfl rfl rfl hN rfl p59) (ext_val hS (run_ld rfl ((eval_out rfl).trans rfl) (ld25 (hS.h (bA, boxOf m, 25) (by simp)))) rfl)
        refine steps_cons ?_ ?_
        · intro u W hS hp
          obtain ⟨q0, _⟩ := hp
          have p59 : u 59 = .bool true := q0
          exact step_on (wanted_on rfl rfl rfl hN rfl p59) (ext_val hS (run_ld rfl ((eval_out rfl).trans rfl) (ld25 (hS.h (bB, boxOf o, 25) (by simp)))) rfl)
        refine steps_cons ?_ ?_
        · intro u W hS hp
          obtain ⟨q0, q1, q2, _⟩ := hp
          have p60 : u 60 = .agg (boxOf m) := q0
          have p61 : u 61 = .agg (boxOf o) := q1
          have p59 : u 59 = .bool true := q2
          exact step_on (wanted_on rfl rfl rfl hN rfl p59) (ext_val hS (run_bin rfl ((eval_in rfl hN rfl).trans p60) ((eval_in rfl hN rfl).trans p61) (eg25 ..) (eqlM he)) rfl)
        refine steps_cons ?_ ?_
        · intro u W hS hp
          obtain ⟨q0, _⟩ := hp
          have p59 : u 59 = .bool true := q0
          exact step_on (wanted_on rfl rfl rfl hN rfl p59) (ext_val hS (run_ld rfl ((eval_out rfl).trans rfl) (ld25 (hS.h (bA, boxOf m, 25) (by simp)))) rfl)
        refine steps_cons ?_ ?_
        · intro u W hS hp
          obtain ⟨q0, q1, q2, _⟩ := hp
          have p63 : u 63 = .agg (boxOf m) := q0
          have p59 : u 59 = .bool true := q1
          exact step_on (wanted_on rfl rfl rfl hN rfl p59) (ext_call (run_call rfl rfl (map1 ((eval_in rfl hN rfl).trans p63)) Tryd.func15 nm15 bd15) ((text_any m W hS.g).mono fun _ _ ⟨e, hb⟩ => ⟨_, e, rfl, hS.next hb, hb⟩))
        refine steps_cons ?_ ?_
        · intro u W hS hp
          obtain ⟨q0, _⟩ := hp
          have p59 : u 59 = .bool true := q0
          exact step_on (wanted_on rfl rfl rfl hN rfl p59) (ext_val hS (run_ld rfl ((eval_out rfl).trans rfl) (ld25 (hS.h (bB, boxOf o, 25) (by simp)))) rfl)
        refine steps_cons ?_ ?_
        · intro u W hS hp
          obtain ⟨q0, q1, q2, _⟩ := hp
          have p65 : u 65 = .agg (boxOf o) := q0
          have p64 : u 64 = .string (textS m) := q1
          have p59 : u 59 = .bool true := q2
          exact step_on (wanted_on rfl rfl rfl hN rfl p59) (ext_call (run_call rfl rfl (map1 ((eval_in rfl hN rfl).trans p65)) Tryd.func15 nm15 bd15) ((text_any o W hS.g).mono fun _ _ ⟨e, hb⟩ => ⟨_, e, rfl, hS.next hb, hb⟩))
        refine steps_cons ?_ ?_
        · intro u W hS hp
          obtain ⟨q0, q1, q2, _⟩ := hp
          have p64 : u 64 = .string (textS m) := q0
          have p66 : u 66 = .string (textS o) := q1
          have p59 : u 59 = .bool true := q2
          exact step_on (wanted_on rfl rfl rfl hN rfl p59) (ext_val hS (run_bin rfl ((eval_in rfl hN rfl).trans p64) ((eval_in rfl hN rfl).trans p66) rfl (str_eql (text_eq he))) rfl)
        refine steps_cons ?_ ?_
        · intro u W hS hp
          obtain ⟨q0, q1, q2, _⟩ := hp
          have p62 : u 62 = .bool false := q0
          have p67 : u 67 = .bool false := q1
          have p59 : u 59 = .bool true := q2
          exact step_on (wanted_on rfl rfl rfl hN rfl p59) (ext_val hS (run_bin rfl ((eval_in rfl hN rfl).trans p62) ((eval_in rfl hN rfl).trans p67) rfl (bool_eql _ _ W)) rfl)
        refine steps_cons ?_ ?_
        · intro u W hS hp
          obtain ⟨q0, q1, _⟩ := hp
          have p59 : u 59 = .bool true := q0
          have p68 : u 68 = .bool true := q1
          exact step_on (wanted_free rfl) (ext_val hS (run_pickT rfl ((eval_in rfl hN rfl).trans p59) ((eval_in rfl hN rfl).trans p68)) rfl)
        refine steps_cons ?_ ?_
        · intro u W hS hp
          obtain ⟨q0, q1, _⟩ := hp
          have p69 : u 69 = .bool true := q0
          have p66 : u 66 = .string (textS o) := q1
          exact step_on (wanted_free rfl) (ext_val hS (run_mv rfl ((eval_in rfl hN rfl).trans p69)) rfl)
        refine steps_cons ?_ ?_
        · intro u W hS hp
          obtain ⟨q0, _⟩ := hp
          have p70 : u 70 = .bool true := q0
          exact step_on (wanted_on rfl rfl rfl hN rfl p70) (ext_val hS (run_ld rfl ((eval_out rfl).trans rfl) (ld25 (hS.h (bA, boxOf m, 25) (by simp)))) rfl)
        refine steps_cons ?_ ?_
        · intro u W hS hp
          obtain ⟨q0, _⟩ := hp
          have p70 : u 70 = .bool true := q0
          exact step_on (wanted_on rfl rfl rfl hN rfl p70) (ext_val hS (run_ld rfl ((eval_out rfl).trans rfl) (ld25 (hS.h (bB, boxOf o, 25) (by simp)))) rfl)
        refine steps_cons ?_ ?_
        · intro u W hS hp
          obtain ⟨q0, q1, q2, q3, _⟩ := hp
          have p71 : u 71 = .agg (boxOf m) := q0
          have p72 : u 72 = .agg (boxOf o) := q1
          have p70 : u 70 = .bool true := q2
          exact step_on (wanted_on rfl rfl rfl hN rfl p70) (ext_call (run_call rfl rfl (map2 ((eval_in rfl hN rfl).trans p71) ((eval_in rfl hN rfl).trans p72)) Tryd.func10 nm10 bd10) ((less_any m o W).mono fun _ _ ⟨e, hb⟩ => ⟨_, e, (by first | rfl | exact congrArg Value.bool hmo), hS.next hb, hb⟩))
        refine steps_cons ?_ ?_
        · intro u W hS hp
          obtain ⟨q0, _⟩ := hp
          have p70 : u 70 = .bool true := q0
          exact step_on (wanted_on rfl rfl rfl hN rfl p70) (ext_val hS (run_mv rfl ((eval_out rfl).trans rfl)) rfl)
        refine steps_cons ?_ ?_
        · intro u W hS hp
          obtain ⟨q0, _⟩ := hp
          have p70 : u 70 = .bool true := q0
          exact step_on (wanted_on rfl rfl rfl hN rfl p70) (ext_val hS (run_mv rfl ((eval_out rfl).trans rfl)) rfl)
        refine steps_cons ?_ ?_
        · intro u W hS hp
          obtain ⟨q0, q1, q2, _⟩ := hp
          have p74 : u 74 = .string (encS m) := q0
          have p75 : u 75 = .string (encS o) := q1
          have p70 : u 70 = .bool true := q2
          exact step_on (wanted_on rfl rfl rfl hN rfl p70) (ext_val hS (run_bin rfl ((eval_in rfl hN rfl).trans p74) ((eval_in rfl hN rfl).trans p75) rfl (str_lss (enc_less hmo))) rfl)
        refine steps_cons ?_ ?_
        · intro u W hS hp
          obtain ⟨q0, q1, q2, _⟩ := hp
          have p73 : u 73 = .bool false := q0
          have p76 : u 76 = .bool false := q1
          have p70 : u 70 = .bool true := q2
          exact step_on (wanted_on rfl rfl rfl hN rfl p70) (ext_val hS (run_bin rfl ((eval_in rfl hN rfl).trans p73) ((eval_in rfl hN rfl).trans p76) rfl (bool_eql _ _ W)) rfl)
        refine steps_cons ?_ ?_
        · intro u W hS hp
          obtain ⟨q0, q1, _⟩ := hp
          have p70 : u 70 = .bool true := q0
          have p77 : u 77 = .bool true := q1
          exact step_on (wanted_free rfl) (ext_val hS (run_pickT rfl ((eval_in rfl hN rfl).trans p70) ((eval_in rfl hN rfl).trans p77)) rfl)
        refine steps_cons ?_ ?_
        · intro u W hS hp
          obtain ⟨q0, q1, _⟩ := hp
          have p78 : u 78 = .bool true := q0
          have p73 : u 73 = .bool false := q1
          exact step_on (wanted_free rfl) (ext_val hS (run_mv rfl ((eval_in rfl hN rfl).trans p78)) rfl)
        refine steps_cons ?_ ?_
        · intro u W hS hp
          obtain ⟨q0, _⟩ := hp
          have p79 : u 79 = .bool true := q0
          exact step_on (wanted_on rfl rfl rfl hN rfl p79) (ext_val hS (run_ld rfl ((eval_out rfl).trans rfl) (ld25 (hS.h (bA, boxOf m, 25) (by simp)))) rfl)
        refine steps_cons ?_ ?_
        · intro u W hS hp
          obtain ⟨q0, _⟩ := hp
          have p79 : u 79 = .bool true := q0
          exact step_on (wanted_on rfl rfl rfl hN rfl p79) (ext_val hS (run_ld rfl ((eval_out rfl).trans rfl) (ld25 (hS.h (bB, boxOf o, 25) (by simp)))) rfl)
        refine steps_cons ?_ ?_
        · intro u W hS hp
          obtain ⟨q0, q1, q2, q3, _⟩ := hp
          have p80 : u 80 = .agg (boxOf m) := q0
          have p81 : u 81 = .agg (boxOf o) := q1
          have p79 : u 79 = .bool true := q2
          exact step_on (wanted_on rfl rfl rfl hN rfl p79) (ext_call (run_call rfl rfl (map2 ((eval_in rfl hN rfl).trans p80) ((eval_in rfl hN rfl).trans p81)) Tryd.func10 nm10 bd10) ((less_any m o W).mono fun _ _ ⟨e, hb⟩ => ⟨_, e, (by first | rfl | exact congrArg Value.bool hmo), hS.next hb, hb⟩))
        refine steps_cons ?_ ?_
        · intro u W hS hp
          obtain ⟨q0, q1, q2, _⟩ := hp
          have p82 : u 82 = .bool false := q0
          have p79 : u 79 = .bool true := q2
          exact step_on (wanted_on rfl rfl rfl hN rfl p79) (ext_val hS (run_mv rfl ((eval_in rfl hN rfl).trans p82)) rfl)
        refine steps_cons ?_ ?_
        · intro u W hS hp
          obtain ⟨q0, _⟩ := hp
          have p83 : u 83 = .bool false := q0
          exact step_on (wanted_on rfl rfl rfl hN rfl p83) (ext_val hS (run_ld rfl ((eval_out rfl).trans rfl) (ld25 (hS.h (bB, boxOf o, 25) (by simp)))) rfl)
        refine steps_cons ?_ ?_
        · intro u W hS hp
          obtain ⟨q0, _⟩ := hp
          have p83 : u 83 = .bool false := q0
          exact step_on (wanted_on rfl rfl rfl hN rfl p83) (ext_val hS (run_ld rfl ((eval_out rfl).trans rfl) (ld25 (hS.h (bA, boxOf m, 25) (by simp)))) rfl)
        refine steps_cons ?_ ?_
        · intro u W hS hp
          obtain ⟨q0, q1, q2, q3, _⟩ := hp
          have p84 : u 84 = .agg (boxOf o) := q0
          have p85 : u 85 = .agg (boxOf m) := q1
          have p83 : u 83 = .bool false := q2
          exact step_on (wanted_on rfl rfl rfl hN rfl p83) (ext_call (run_call rfl rfl (map2 ((eval_in rfl hN rfl).trans p84) ((eval_in rfl hN rfl).trans p85)) Tryd.func10 nm10 bd10) ((less_any o m W).mono fun _ _ ⟨e, hb⟩ => ⟨_, e, (by first | rfl | exact congrArg Value.bool hom), hS.next hb, hb⟩))
        refine steps_cons ?_ ?_
        · intro u W hS hp
          obtain ⟨q0, q1, q2, _⟩ := hp
          have p83 : u 83 = .bool false := q0
          have p86 : u 86 = .bool true := q1
          have p79 : u 79 = .bool true := q2
          exact step_on (wanted_on rfl rfl rfl hN rfl p79) (ext_val hS (run_pickF rfl ((eval_in rfl hN rfl).trans p83) ((eval_in rfl hN rfl).trans p86)) rfl)
        refine steps_cons ?_ ?_
        · intro u W hS hp
          obtain ⟨q0, _⟩ := hp
          have p79 : u 79 = .bool true := q0
          exact step_on (wanted_on rfl rfl rfl hN rfl p79) (ext_val hS (run_ld rfl ((eval_out rfl).trans rfl) (ld25 (hS.h (bA, boxOf m, 25) (by simp)))) rfl)
        refine steps_cons ?_ ?_
        · intro u W hS hp
          obtain ⟨q0, _⟩ := hp
          have p79 : u 79 = .bool true := q0
          exact step_on (wanted_on rfl rfl rfl hN rfl p79) (ext_val hS (run_ld rfl ((eval_out rfl).trans rfl) (ld25 (hS.h (bB, boxOf o, 25) (by simp)))) rfl)
        refine steps_cons ?_ ?_
        · intro u W hS hp
          obtain ⟨q0, q1, q2, _⟩ := hp
          have p88 : u 88 = .agg (boxOf m) := q0
          have p89 : u 89 = .agg (boxOf o) := q1
          have p79 : u 79 = .bool true := q2
          exact step_on (wanted_on rfl rfl rfl hN rfl p79) (ext_val hS (run_bin rfl ((eval_in rfl hN rfl).trans p88) ((eval_in rfl hN rfl).trans p89) (eg25 ..) (neqM (by rw [he]; rfl))) rfl)
        refine steps_cons ?_ ?_
        · intro u W hS hp
          obtain ⟨q0, q1, q2, _⟩ := hp
          have p87 : u 87 = .bool true := q0
          have p90 : u 90 = .bool true := q1
          have p79 : u 79 = .bool true := q2
          exact step_on (wanted_on rfl rfl rfl hN rfl p79) (ext_val hS (run_bin rfl ((eval_in rfl hN rfl).trans p87) ((eval_in rfl hN rfl).trans p90) rfl (bool_eql _ _ W)) rfl)
        refine steps_cons ?_ ?_
        · intro u W hS hp
          obtain ⟨q0, q1, _⟩ := hp
          have p79 : u 79 = .bool true := q0
          have p91 : u 91 = .bool true := q1
          exact step_on (wanted_free rfl) (ext_val hS (run_pickT rfl ((eval_in rfl hN rfl).trans p79) ((eval_in rfl hN rfl).trans p91)) rfl)
        refine steps_cons ?_ ?_
        · intro u W hS hp
          obtain ⟨q0, q1, _⟩ := hp
          have p92 : u 92 = .bool true := q0
          have p86 : u 86 = .bool true := q1
          exact step_on (wanted_free rfl) (ext_val hS (run_mv rfl ((eval_in rfl hN rfl).trans p92)) rfl)
        refine steps_cons ?_ ?_
        · intro u W hS hp
          obtain ⟨q0, _⟩ := hp
          have p93 : u 93 = .bool true := q0
          exact step_on (wanted_on rfl rfl rfl hN rfl p93) (ext_val hS (run_ld rfl ((eval_out rfl).trans rfl) (ld25 (hS.h (bA, boxOf m, 25) (by simp)))) rfl)
        refine steps_cons ?_ ?_
        · intro u W hS hp
          obtain ⟨q0, _⟩ := hp
          have p93 : u 93 = .bool true := q0
          exact step_on (wanted_on rfl rfl rfl hN rfl p93) (ext_val hS (run_ld rfl ((eval_out rfl).trans rfl) (ld25 (hS.h (bB, boxOf o, 25) (by simp)))) rfl)
        refine steps_cons ?_ ?_
        · intro u W hS hp
          obtain ⟨q0, q1, q2, q3, _⟩ := hp
          have p94 : u 94 = .agg (boxOf m) := q0
          have p95 : u 95 = .agg (boxOf o) := q1
          have p93 : u 93 = .bool true := q2
          exact step_on (wanted_on rfl rfl rfl hN rfl p93) (ext_call (run_call rfl rfl (map2 ((eval_in rfl hN rfl).trans p94) ((eval_in rfl hN rfl).trans p95)) Tryd.func10 nm10 bd10) ((less_any m o W).mono fun _ _ ⟨e, hb⟩ => ⟨_, e, (by first | rfl | exact congrArg Value.bool hmo), hS.next hb, hb⟩))
        refine steps_cons ?_ ?_
        · intro u W hS hp
          obtain ⟨q0, q1, q2, _⟩ := hp
          have p96 : u 96 = .bool false := q0
          have p93 : u 93 = .bool true := q2
          exact step_on (wanted_on rfl rfl rfl hN rfl p93) (ext_val hS (run_mv rfl ((eval_in rfl hN rfl).trans p96)) rfl)
        refine steps_cons ?_ ?_
        · intro u W hS hp
          obtain ⟨q0, _⟩ := hp
          have p97 : u 97 = .bool false := q0
          exact step_off (wanted_off rfl rfl rfl hN rfl p97) rfl
        refine steps_cons ?_ ?_
        · intro u W hS hp
          obtain ⟨q0, _⟩ := hp
          have p97 : u 97 = .bool false := q0
          exact step_off (wanted_off rfl rfl rfl hN rfl p97) rfl
        refine steps_cons ?_ ?_
        · intro u W hS hp
          obtain ⟨q0, q1, q2, q3, _⟩ := hp
          have p98 : u 98 = undef := q0
          have p99 : u 99 = undef := q1
          have p97 : u 97 = .bool false := q2
          exact step_off (wanted_off rfl rfl rfl hN rfl p97) rfl
        refine steps_cons ?_ ?_
        · intro u W hS hp
          obtain ⟨q0, q1, q2, _⟩ := hp
          have p97 : u 97 = .bool false := q0
          have p100 : u 100 = undef := q1
          have p93 : u 93 = .bool true := q2
          exact step_on (wanted_on rfl rfl rfl hN rfl p93) (ext_val hS (run_pickF rfl ((eval_in rfl hN rfl).trans p97) rfl) rfl)
        refine steps_cons ?_ ?_
        · intro u W hS hp
          obtain ⟨q0, q1, _⟩ := hp
          have p101 : u 101 = Value.bool false := q0
          have p93 : u 93 = .bool true := q1
          exact step_on (wanted_on rfl rfl rfl hN rfl p93) (ext_val hS (run_un rfl ((eval_in rfl hN rfl).trans p101) rfl) rfl)
        refine steps_cons ?_ ?_
        · intro u W hS hp
          obtain ⟨q0, q1, _⟩ := hp
          have p93 : u 93 = .bool true := q0
          have p102 : u 102 = .bool true := q1
          exact step_on (wanted_free rfl) (ext_val hS (run_pickT rfl ((eval_in rfl hN rfl).trans p93) ((eval_in rfl hN rfl).trans p102)) rfl)
        refine steps_cons ?_ ?_
        · intro u W hS hp
          obtain ⟨q0, q1, q2, q3, q4, q5, q6, q7, q8, q9, q10, q11, q12, q13, q14, q15, q16, q17, q18, q19, q20, q21, q22, q23, q24, q25, q26, q27, q28, q29, q30, q31, q32, q33, q34, q35, q36, q37, q38, q39, q40, q41, q42, q43, q44, q45, q46, q47, q48, q49, q50, q51, q52, q53, _⟩ := hp
          have p103 : u 103 = .bool true := q0
          have p100 : u 100 = undef := q1
          have p52 : u 52 = .agg (boxOf m) := q2
          have p53 : u 53 = .agg (boxOf o) := q3
          have p54 : u 54 = .bool false := q4
          have p55 : u 55 = .string (encS m) := q5
          have p56 : u 56 = .string (encS o) := q6
          have p57 : u 57 = .bool false := q7
          have p58 : u 58 = .bool true := q8
          have p59 : u 59 = .bool true := q9
          have p60 : u 60 = .agg (boxOf m) := q10
          have p61 : u 61 = .agg (boxOf o) := q11
          have p62 : u 62 = .bool false := q12
          have p63 : u 63 = .agg (boxOf m) := q13
          have p64 : u 64 = .string (textS m) := q14
          have p65 : u 65 = .agg (boxOf o) := q15
          have p66 : u 66 = .string (textS o) := q16
          have p67 : u 67 = .bool false := q17
          have p68 : u 68 = .bool true := q18
          have p69 : u 69 = .bool true := q19
          have p70 : u 70 = .bool true := q20
          have p71 : u 71 = .agg (boxOf m) := q21
          have p72 : u 72 = .agg (boxOf o) := q22
          have p73 : u 73 = .bool false := q23
          have p74 : u 74 = .string (encS m) := q24
          have p75 : u 75 = .string (encS o) := q25
          have p76 : u 76 = .bool false := q26
          have p77 : u 77 = .bool true := q27
          have p78 : u 78 = .bool true := q28
          have p79 : u 79 = .bool true := q29
          have p80 : u 80 = .agg (boxOf m) := q30
          have p81 : u 81 = .agg (boxOf o) := q31
          have p82 : u 82 = .bool false := q32
          have p83 : u 83 = .bool false := q33
          have p84 : u 84 = .agg (boxOf o) := q34
          have p85 : u 85 = .agg (boxOf m) := q35
          have p86 : u 86 = .bool true := q36
          have p87 : u 87 = .bool true := q37
          have p88 : u 88 = .agg (boxOf m) := q38
          have p89 : u 89 = .agg (boxOf o) := q39
          have p90 : u 90 = .bool true := q40
          have p91 : u 91 = .bool true := q41
          have p92 : u 92 = .bool true := q42
          have p93 : u 93 = .bool true := q43
          have p94 : u 94 = .agg (boxOf m) := q44
          have p95 : u 95 = .agg (boxOf o) := q45
          have p96 : u 96 = .bool false := q46
          have p97 : u 97 = .bool false := q47
          have p98 : u 98 = undef := q48
          have p99 : u 99 = undef := q49
          have p101 : u 101 = Value.bool false := q51
          have p102 : u 102 = .bool true := q52
          exact step_on (wanted_free rfl) (ext_val hS (run_asg rfl ((eval_in rfl hN rfl).trans p103)) rfl)
        exact steps_nil
      · obtain ⟨q0, q1, q2, q3, q4, q5, q6, q7, q8, q9, q10, q11, q12, q13, q14, q15, q16, q17, q18, q19, q20, q21, q22, q23, q24, q25, q26, q27, q28, q29, q30, q31, q32, q33, q34, q35, q36, q37, q38, q39, q40, q41, q42, q43, q44, q45, q46, q47, q48, q49, q50, q51, q52, _⟩ := hF
        have p52 : u 52 = .agg (boxOf m) := q0
        have p53 : u 53 = .agg (boxOf o) := q1
        have p54 : u 54 = .bool false := q2
        have p55 : u 55 = .string (encS m) := q3
        have p56 : u 56 = .string (encS o) := q4
        have p57 : u 57 = .bool false := q5
        have p58 : u 58 = .bool true := q6
        have p59 : u 59 = .bool true := q7
        have p60 : u 60 = .agg (boxOf m) := q8
        have p61 : u 61 = .agg (boxOf o) := q9
        have p62 : u 62 = .bool false := q10
        have p63 : u 63 = .agg (boxOf m) := q11
        have p64 : u 64 = .string (textS m) := q12
        have p65 : u 65 = .agg (boxOf o) := q13
        have p66 : u 66 = .string (textS o) := q14
        have p67 : u 67 = .bool false := q15
        have p68 : u 68 = .bool true := q16
        have p69 : u 69 = .bool true := q17
        have p70 : u 70 = .bool true := q18
        have p71 : u 71 = .agg (boxOf m) := q19
        have p72 : u 72 = .agg (boxOf o) := q20
        have p73 : u 73 = .bool false := q21
        have p74 : u 74 = .string (encS m) := q22
        have p75 : u 75 = .string (encS o) := q23
        have p76 : u 76 = .bool false := q24
        have p77 : u 77 = .bool true := q25
        have p78 : u 78 = .bool true := q26
        have p79 : u 79 = .bool true := q27
        have p80 : u 80 = .agg (boxOf m) := q28
        have p81 : u 81 = .agg (boxOf o) := q29
        have p82 : u 82 = .bool false := q30
        have p83 : u 83 = .bool false := q31
        have p84 : u 84 = .agg (boxOf o) := q32
        have p85 : u 85 = .agg (boxOf m) := q33
        have p86 : u 86 = .bool true := q34
        have p87 : u 87 = .bool true := q35
        have p88 : u 88 = .agg (boxOf m) := q36
        have p89 : u 89 = .agg (boxOf o) := q37
        have p90 : u 90 = .bool true := q38
        have p91 : u 91 = .bool true := q39
        have p92 : u 92 = .bool true := q40
        have p93 : u 93 = .bool true := q41
        have p94 : u 94 = .agg (boxOf m) := q42
        have p95 : u 95 = .agg (boxOf o) := q43
        have p96 : u 96 = .bool false := q44
        have p97 : u 97 = .bool false := q45
        have p98 : u 98 = undef := q46
        have p99 : u 99 = undef := q47
        have p100 : u 100 = undef := q48
        have p101 : u 101 = Value.bool false := q49
        have p102 : u 102 = .bool true := q50
        have p103 : u 103 = .bool true := q51
        have p4 : u 4 = .bool true := q52
        simp only [frm, frmL, Nat.reduceAdd, p52, p53, p54, p55, p56, p57, p58, p59, p60, p61, p62, p63, p64, p65, p66, p67, p68, p69, p70, p71, p72, p73, p74, p75, p76, p77, p78, p79, p80, p81, p82, p83, p84, p85, p86, p87, p88, p89, p90, p91, p92, p93, p94, p95, p96, p97, p98, p99, p100, p101, p102, p103, p4]
        clear p52 p53 p54 p55 p56 p57 p58 p59 p60 p61 p62 p63 p64 p65 p66 p67 p68 p69 p70 p71 p72 p73 p74 p75 p76 p77 p78 p79 p80 p81 p82 p83 p84 p85 p86 p87 p88 p89 p90 p91 p92 p93 p94 p95 p96 p97 p98 p99 p100 p101 p102 p103 p4
        have hB := hS.b
        clear hS
        go_wp2
        go_ret
        exact ⟨rfl, hB⟩
end Go.Proofs.YthllacodjeocmaaDoor
