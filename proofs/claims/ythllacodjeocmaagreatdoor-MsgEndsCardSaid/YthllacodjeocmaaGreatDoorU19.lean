/- A message agrees with the reference; MsgTells. -/
import Derived.Test.YthllacodjeocmaaGreatDoorU18
namespace Go.Proofs.YthllacodjeocmaaGreatDoor
open Go.RowKit
attribute [local go_sem] Oper.semAt_some
theorem bool_self (b : Bool) (W : World) : (binOp .eql 4 (.bool b) (.bool b)).run Tryz.prog W = .ok (.bool true) W := by cases b <;> kernel_rfl
set_option maxHeartbeats 4000000 in
set_option maxRecDepth 100000 in
theorem same_any (m : Mg) (g : Ge) (w : World) (hG : GlobM w) : Calls Tryz.prog 4 #[.agg g.arr, .agg (boxOf m)] w fun e w' => e = .returned (.bool true) ∧ Below w.heap.size w w' := by
  have HS0 := Lib.hid (((St.start hG).boxT g.arr 23 rfl).boxT (boxOf m) 27 rfl)
  obtain ⟨bB, hbB⟩ : ∃ b, (w.alloc (.cells g.arr 23)).heap.size = b := ⟨_, rfl⟩
  rw [hbB] at HS0
  generalize hbA : w.heap.size = bA at HS0
  have HBA := Lib.hid hbA
  obtain ⟨r, hr⟩ : ∃ r, rrightB m g = r := ⟨_, rfl⟩
  have HR1 : Hid (rightB m g = r) := Lib.hid ((right_law m g).trans hr)
  have HR2 := Lib.hid hr
  clear hG hr
  go_enter Tryz.func4, Tryz.ntmps4
  go_upto_region 1 with (first | (refine wpl_box rfl 23 (.tmp 0) rfl g.arr rfl ?_; rw [hbA]; intro w0 hw0) | (refine wpl_box rfl 27 (.tmp 1) rfl (boxOf m) rfl ?_; rw [show w0.heap.size = bB from by rw [hw0.out]; exact hbB]; intro w1 hw1; have HS1 := (show Hid (St [(bB, boxOf m, 27), (bA, g.arr, 23)] w w1) from by show St _ _ _; rw [hw1.out, hw0.out]; exact HS0.out); clear hw1 hw0 HS0 hbA hbB) | fail)
  refine region_all (D := [false, false, false, false, true, true, true, true, true, true, true, true, true, true, true, true, true, true, true, true, true, true, true, true, true, true, true, true, true, true, true, true, true, true, true, true, true]) (S := fun W => St [(bB, boxOf m, 27), (bA, g.arr, 23)] w W) (R := RB) (F := FF [isV (.agg g.arr), isV (.agg (boxOf m)), isV (.bool r), isV (.agg g.arr), isV (.agg (boxOf m)), isV (.bool r), isV (.bool true), isV (.bool true), isV (.pointer (some ⟨bB, 0, none⟩)), isV (.int .u8 m.k.toNat), isV (.int .u8 (clsOf m.k)), isV (.pointer (some ⟨bB, 0, none⟩)), isV (.int .u8 m.k.toNat), isV (.int .u8 (clsOf m.k)), isV (.bool true), isV (.bool true), isV (.bool true), isV (.agg (boxOf m)), bytesF (bytesOf m), isV (.string (encS m)), isV (.agg (boxOf m)), bytesF (bytesOf m), isV (.string (encS m)), isV (.bool true), isV (.bool true), isV (.bool true), isV (.agg (boxOf m)), isV (.string (textS m)), isV (.agg (boxOf m)), isV (.string (textS m)), isV (.bool true), isV (.bool true), isV (.bool true)]) rfl mo (by kernel_rfl) (FF_st _ _) HS1.out.drew (fun hN => ?_) (fun u W hS hF => ?_)
  · refine steps_cons ?_ ?_
    · intro u W hS hp
      exact step_on (wanted_free rfl) (ext_val hS (run_ld rfl ((eval_out rfl).trans rfl) (ld39 (hS.h (bA, g.arr, 23) (by simp)))) rfl)
    refine steps_cons ?_ ?_
    · intro u W hS hp
      exact step_on (wanted_free rfl) (ext_val hS (run_ld rfl ((eval_out rfl).trans rfl) (ld25 (hS.h (bB, boxOf m, 27) (by simp)))) rfl)
    refine steps_cons ?_ ?_
    · intro u W hS hp
      obtain ⟨q0, q1, _⟩ := hp
      have p5 : u 5 = .agg g.arr := q0
      have p6 : u 6 = .agg (boxOf m) := q1
      exact step_on (wanted_free rfl) (ext_call (run_call rfl rfl (map2 ((eval_in rfl hN rfl).trans p5) ((eval_in rfl hN rfl).trans p6)) Tryz.func8 nm18 bd18) ((right_any m g W hS.g).mono fun _ _ ⟨e, h⟩ => ⟨_, e.trans (congrArg (fun x => Ending.returned (Value.bool x)) HR1.out), rfl, hS.next h, h⟩))
    refine steps_cons ?_ ?_
    · intro u W hS hp
      exact step_on (wanted_free rfl) (ext_val hS (run_ld rfl ((eval_out rfl).trans rfl) (ld39 (hS.h (bA, g.arr, 23) (by simp)))) rfl)
    refine steps_cons ?_ ?_
    · intro u W hS hp
      exact step_on (wanted_free rfl) (ext_val hS (run_ld rfl ((eval_out rfl).trans rfl) (ld25 (hS.h (bB, boxOf m, 27) (by simp)))) rfl)
    refine steps_cons ?_ ?_
    · intro u W hS hp
      obtain ⟨q0, q1, q2, _⟩ := hp
      have p8 : u 8 = .agg g.arr := q0
      have p9 : u 9 = .agg (boxOf m) := q1
      have p7 : u 7 = .bool r := q2
      exact step_on (wanted_free rfl) (ext_call (run_call rfl rfl (map2 ((eval_in rfl hN rfl).trans p8) ((eval_in rfl hN rfl).trans p9)) Tryz.func9 nm37 bd37) ((rright_any m g W hS.g).mono fun _ _ ⟨e, h⟩ => ⟨_, e.trans (congrArg (fun x => Ending.returned (Value.bool x)) HR2.out), rfl, hS.next h, h⟩))
    refine steps_cons ?_ ?_
    · intro u W hS hp
      obtain ⟨q0, q1, _⟩ := hp
      have p7 : u 7 = .bool r := q0
      have p10 : u 10 = .bool r := q1
      exact step_on (wanted_free rfl) (ext_val hS (run_bin rfl ((eval_in rfl hN rfl).trans p7) ((eval_in rfl hN rfl).trans p10) rfl (bool_self r W)) rfl)
    refine steps_cons ?_ ?_
    · intro u W hS hp
      obtain ⟨q0, q1, _⟩ := hp
      have p11 : u 11 = .bool true := q0
      have p10 : u 10 = .bool r := q1
      exact step_on (wanted_free rfl) (ext_val hS (run_mv rfl ((eval_in rfl hN rfl).trans p11)) rfl)
    refine steps_cons ?_ ?_
    · intro u W hS hp
      obtain ⟨q0, _⟩ := hp
      have p12 : u 12 = .bool true := q0
      exact step_on (wanted_on rfl rfl rfl hN rfl p12) (ext_val hS (run_fa rfl ((eval_out rfl).trans rfl) (fa25_0 bB)) rfl)
    refine steps_cons ?_ ?_
    · intro u W hS hp
      obtain ⟨q0, q1, _⟩ := hp
      have p13 : u 13 = .pointer (some ⟨bB, 0, none⟩) := q0
      have p12 : u 12 = .bool true := q1
      exact step_on (wanted_on rfl rfl rfl hN rfl p12) (ext_val hS (run_ld rfl ((eval_in rfl hN rfl).trans p13) (ld_u8 ((cell_of_heap (hS.h (bB, boxOf m, 27) (by simp))).trans (rfl : (boxOf m)[0]? = some _)))) rfl)
    refine steps_cons ?_ ?_
    · intro u W hS hp
      obtain ⟨q0, q1, q2, _⟩ := hp
      have p14 : u 14 = .int .u8 m.k.toNat := q0
      have p12 : u 12 = .bool true := q1
      exact step_on (wanted_on rfl rfl rfl hN rfl p12) (ext_call (run_call rfl rfl (map1 ((eval_in rfl hN rfl).trans p14)) Tryz.func10 nm19 bd19) ((class_any m.k W hS.g).mono fun _ _ ⟨e, h⟩ => ⟨_, e, rfl, by rw [← h]; exact hS, by rw [← h]; exact Below.refl _ _⟩))
    refine steps_cons ?_ ?_
    · intro u W hS hp
      obtain ⟨q0, _⟩ := hp
      have p12 : u 12 = .bool true := q0
      exact step_on (wanted_on rfl rfl rfl hN rfl p12) (ext_val hS (run_fa rfl ((eval_out rfl).trans rfl) (fa25_0 bB)) rfl)
    refine steps_cons ?_ ?_
    · intro u W hS hp
      obtain ⟨q0, q1, _⟩ := hp
      have p16 : u 16 = .pointer (some ⟨bB, 0, none⟩) := q0
      have p12 : u 12 = .bool true := q1
      exact step_on (wanted_on rfl rfl rfl hN rfl p12) (ext_val hS (run_ld rfl ((eval_in rfl hN rfl).trans p16) (ld_u8 ((cell_of_heap (hS.h (bB, boxOf m, 27) (by simp))).trans (rfl : (boxOf m)[0]? = some _)))) rfl)
    refine steps_cons ?_ ?_
    · intro u W hS hp
      obtain ⟨q0, q1, q2, _⟩ := hp
      have p17 : u 17 = .int .u8 m.k.toNat := q0
      have p15 : u 15 = .int .u8 (clsOf m.k) := q1
      have p12 : u 12 = .bool true := q2
      exact step_on (wanted_on rfl rfl rfl hN rfl p12) (ext_call (run_call rfl rfl (map1 ((eval_in rfl hN rfl).trans p17)) Tryz.func11 nm38 bd38) ((rclass_any m.k W).mono fun _ _ ⟨e, h⟩ => ⟨_, e, rfl, by rw [← h]; exact hS, by rw [← h]; exact Below.refl _ _⟩))
    refine steps_cons ?_ ?_
    · intro u W hS hp
      obtain ⟨q0, q1, q2, _⟩ := hp
      have p15 : u 15 = .int .u8 (clsOf m.k) := q0
      have p18 : u 18 = .int .u8 (clsOf m.k) := q1
      have p12 : u 12 = .bool true := q2
      exact step_on (wanted_on rfl rfl rfl hN rfl p12) (ext_val hS (run_bin rfl ((eval_in rfl hN rfl).trans p15) ((eval_in rfl hN rfl).trans p18) rfl (i_eql (by simp))) rfl)
    refine steps_cons ?_ ?_
    · intro u W hS hp
      obtain ⟨q0, q1, _⟩ := hp
      have p12 : u 12 = .bool true := q0
      have p19 : u 19 = .bool true := q1
      exact step_on (wanted_free rfl) (ext_val hS (run_pickT rfl ((eval_in rfl hN rfl).trans p12) ((eval_in rfl hN rfl).trans p19)) rfl)
    refine steps_cons ?_ ?_
    · intro u W hS hp
      obtain ⟨q0, q1, _⟩ := hp
      have p20 : u 20 = .bool true := q0
      have p18 : u 18 = .int .u8 (clsOf m.k) := q1
      exact step_on (wanted_free rfl) (ext_val hS (run_mv rfl ((eval_in rfl hN rfl).trans p20)) rfl)
    refine steps_cons ?_ ?_
    · intro u W hS hp
      obtain ⟨q0, _⟩ := hp
      have p21 : u 21 = .bool true := q0
      exact step_on (wanted_on rfl rfl rfl hN rfl p21) (ext_val hS (run_ld rfl ((eval_out rfl).trans rfl) (ld25 (hS.h (bB, boxOf m, 27) (by simp)))) rfl)
    refine steps_cons ?_ ?_
    · intro u W hS hp
      obtain ⟨q0, q1, q2, _⟩ := hp
      have p22 : u 22 = .agg (boxOf m) := q0
      have p21 : u 21 = .bool true := q1
      exact step_on (wanted_on rfl rfl rfl hN rfl p21) (ext_call (run_call rfl rfl (map1 ((eval_in rfl hN rfl).trans p22)) Tryz.func12 nm14 bd14) ((bytes_any m W).mono fun _ _ ⟨g, cp, e, hA, hb⟩ => ⟨_, e, ⟨g, cp, rfl, hA⟩, hS.next hb, hb⟩))
    refine steps_cons ?_ ?_
    · intro u W hS hp
      obtain ⟨q0, q1, _⟩ := hp
      obtain ⟨gg23, cg23, p23, hA23⟩ := q0
      have p21 : u 21 = .bool true := q1
      exact step_on (wanted_on rfl rfl rfl hN rfl p21) (ext_val hS (run_conv rfl ((eval_in rfl hN rfl).trans p23) (bytes_str (c := cg23) (n := 11) hA23 rfl)) rfl)
    refine steps_cons ?_ ?_
    · intro u W hS hp
      obtain ⟨q0, _⟩ := hp
      have p21 : u 21 = .bool true := q0
      exact step_on (wanted_on rfl rfl rfl hN rfl p21) (ext_val hS (run_ld rfl ((eval_out rfl).trans rfl) (ld25 (hS.h (bB, boxOf m, 27) (by simp)))) rfl)
    refine steps_cons ?_ ?_
    · intro u W hS hp
      obtain ⟨q0, q1, q2, _⟩ := hp
      have p25 : u 25 = .agg (boxOf m) := q0
      obtain ⟨gg23, cg23, p23, hA23⟩ := q1
      have p21 : u 21 = .bool true := q2
      exact step_on (wanted_on rfl rfl rfl hN rfl p21) (ext_call (run_call rfl rfl (map1 ((eval_in rfl hN rfl).trans p25)) Tryz.func13 nm39 bd39) ((rbytes_any m W).mono fun _ _ ⟨g, e, hA, hb⟩ => ⟨_, e, ⟨g, 11, rfl, hA⟩, hS.next hb, hb⟩))
    refine steps_cons ?_ ?_
    · intro u W hS hp
      obtain ⟨q0, q1, _⟩ := hp
      obtain ⟨gg26, cg26, p26, hA26⟩ := q0
      have p21 : u 21 = .bool true := q1
      exact step_on (wanted_on rfl rfl rfl hN rfl p21) (ext_val hS (run_conv rfl ((eval_in rfl hN rfl).trans p26) (bytes_str (c := cg26) (n := 11) hA26 rfl)) rfl)
    refine steps_cons ?_ ?_
    · intro u W hS hp
      obtain ⟨q0, q1, q2, _⟩ := hp
      have p24 : u 24 = .string (encS m) := q0
      have p27 : u 27 = .string (encS m) := q1
      have p21 : u 21 = .bool true := q2
      exact step_on (wanted_on rfl rfl rfl hN rfl p21) (ext_val hS (run_bin rfl ((eval_in rfl hN rfl).trans p24) ((eval_in rfl hN rfl).trans p27) rfl (str_eql (by simp))) rfl)
    refine steps_cons ?_ ?_
    · intro u W hS hp
      obtain ⟨q0, q1, _⟩ := hp
      have p21 : u 21 = .bool true := q0
      have p28 : u 28 = .bool true := q1
      exact step_on (wanted_free rfl) (ext_val hS (run_pickT rfl ((eval_in rfl hN rfl).trans p21) ((eval_in rfl hN rfl).trans p28)) rfl)
    refine steps_cons ?_ ?_
    · intro u W hS hp
      obtain ⟨q0, q1, _⟩ := hp
      have p29 : u 29 = .bool true := q0
      obtain ⟨gg26, cg26, p26, hA26⟩ := q1
      exact step_on (wanted_free rfl) (ext_val hS (run_mv rfl ((eval_in rfl hN rfl).trans p29)) rfl)
    refine steps_cons ?_ ?_
    · intro u W hS hp
      obtain ⟨q0, _⟩ := hp
      have p30 : u 30 = .bool true := q0
      exact step_on (wanted_on rfl rfl rfl hN rfl p30) (ext_val hS (run_ld rfl ((eval_out rfl).trans rfl) (ld25 (hS.h (bB, boxOf m, 27) (by simp)))) rfl)
    refine steps_cons ?_ ?_
    · intro u W hS hp
      obtain ⟨q0, q1, q2, _⟩ := hp
      have p31 : u 31 = .agg (boxOf m) := q0
      have p30 : u 30 = .bool true := q1
      exact step_on (wanted_on rfl rfl rfl hN rfl p30) (ext_call (run_call rfl rfl (map1 ((eval_in rfl hN rfl).trans p31)) Tryz.func14 nm15 bd15) ((text_any m W hS.g).mono fun _ _ ⟨e, h⟩ => ⟨_, e, rfl, hS.next h, h⟩))
    refine steps_cons ?_ ?_
    · intro u W hS hp
      obtain ⟨q0, _⟩ := hp
      have p30 : u 30 = .bool true := q0
      exact step_on (wanted_on rfl rfl rfl hN rfl p30) (ext_val hS (run_ld rfl ((eval_out rfl).trans rfl) (ld25 (hS.h (bB, boxOf m, 27) (by simp)))) rfl)
    refine steps_cons ?_ ?_
    · intro u W hS hp
      obtain ⟨q0, q1, q2, _⟩ := hp
      have p33 : u 33 = .agg (boxOf m) := q0
      have p32 : u 32 = .string (textS m) := q1
      have p30 : u 30 = .bool true := q2
      exact step_on (wanted_on rfl rfl rfl hN rfl p30) (ext_call (run_call rfl rfl (map1 ((eval_in rfl hN rfl).trans p33)) Tryz.func15 nm40 bd40) ((text_ref m W hS.g).mono fun _ _ ⟨e, h⟩ => ⟨_, e, rfl, hS.next h, h⟩))
    refine steps_cons ?_ ?_
    · intro u W hS hp
      obtain ⟨q0, q1, q2, _⟩ := hp
      have p32 : u 32 = .string (textS m) := q0
      have p34 : u 34 = .string (textS m) := q1
      have p30 : u 30 = .bool true := q2
      exact step_on (wanted_on rfl rfl rfl hN rfl p30) (ext_val hS (run_bin rfl ((eval_in rfl hN rfl).trans p32) ((eval_in rfl hN rfl).trans p34) rfl (str_eql (by simp))) rfl)
    refine steps_cons ?_ ?_
    · intro u W hS hp
      obtain ⟨q0, q1, _⟩ := hp
      have p30 : u 30 = .bool true := q0
      have p35 : u 35 = .bool true := q1
      exact step_on (wanted_free rfl) (ext_val hS (run_pickT rfl ((eval_in rfl hN rfl).trans p30) ((eval_in rfl hN rfl).trans p35)) rfl)
    refine steps_cons ?_ ?_
    · intro u W hS hp
      obtain ⟨q0, q1, q2, q3, q4, q5, q6, q7, q8, q9, q10, q11, q12, q13, q14, q15, q16, q17, q18, q19, q20, q21, q22, q23, q24, q25, q26, q27, q28, q29, q30, q31, q32, q33, _⟩ := hp
      have p36 : u 36 = .bool true := q0
      have p34 : u 34 = .string (textS m) := q1
      have p5 : u 5 = .agg g.arr := q2
      have p6 : u 6 = .agg (boxOf m) := q3
      have p7 : u 7 = .bool r := q4
      have p8 : u 8 = .agg g.arr := q5
      have p9 : u 9 = .agg (boxOf m) := q6
      have p10 : u 10 = .bool r := q7
      have p11 : u 11 = .bool true := q8
      have p12 : u 12 = .bool true := q9
      have p13 : u 13 = .pointer (some ⟨bB, 0, none⟩) := q10
      have p14 : u 14 = .int .u8 m.k.toNat := q11
      have p15 : u 15 = .int .u8 (clsOf m.k) := q12
      have p16 : u 16 = .pointer (some ⟨bB, 0, none⟩) := q13
      have p17 : u 17 = .int .u8 m.k.toNat := q14
      have p18 : u 18 = .int .u8 (clsOf m.k) := q15
      have p19 : u 19 = .bool true := q16
      have p20 : u 20 = .bool true := q17
      have p21 : u 21 = .bool true := q18
      have p22 : u 22 = .agg (boxOf m) := q19
      obtain ⟨gg23, cg23, p23, hA23⟩ := q20
      have p24 : u 24 = .string (encS m) := q21
      have p25 : u 25 = .agg (boxOf m) := q22
      obtain ⟨gg26, cg26, p26, hA26⟩ := q23
      have p27 : u 27 = .string (encS m) := q24
      have p28 : u 28 = .bool true := q25
      have p29 : u 29 = .bool true := q26
      have p30 : u 30 = .bool true := q27
      have p31 : u 31 = .agg (boxOf m) := q28
      have p32 : u 32 = .string (textS m) := q29
      have p33 : u 33 = .agg (boxOf m) := q30
      have p35 : u 35 = .bool true := q32
      exact step_on (wanted_free rfl) (ext_val hS (run_asg rfl ((eval_in rfl hN rfl).trans p36)) rfl)
    exact steps_nil
  · obtain ⟨q0, q1, q2, q3, q4, q5, q6, q7, q8, q9, q10, q11, q12, q13, q14, q15, q16, q17, q18, q19, q20, q21, q22, q23, q24, q25, q26, q27, q28, q29, q30, q31, q32, _⟩ := hF
    have p5 : u 5 = .agg g.arr := q0
    have p6 : u 6 = .agg (boxOf m) := q1
    have p7 : u 7 = .bool r := q2
    have p8 : u 8 = .agg g.arr := q3
    have p9 : u 9 = .agg (boxOf m) := q4
    have p10 : u 10 = .bool r := q5
    have p11 : u 11 = .bool true := q6
    have p12 : u 12 = .bool true := q7
    have p13 : u 13 = .pointer (some ⟨bB, 0, none⟩) := q8
    have p14 : u 14 = .int .u8 m.k.toNat := q9
    have p15 : u 15 = .int .u8 (clsOf m.k) := q10
    have p16 : u 16 = .pointer (some ⟨bB, 0, none⟩) := q11
    have p17 : u 17 = .int .u8 m.k.toNat := q12
    have p18 : u 18 = .int .u8 (clsOf m.k) := q13
    have p19 : u 19 = .bool true := q14
    have p20 : u 20 = .bool true := q15
    have p21 : u 21 = .bool true := q16
    have p22 : u 22 = .agg (boxOf m) := q17
    obtain ⟨gg23, cg23, p23, hA23⟩ := q18
    have p24 : u 24 = .string (encS m) := q19
    have p25 : u 25 = .agg (boxOf m) := q20
    obtain ⟨gg26, cg26, p26, hA26⟩ := q21
    have p27 : u 27 = .string (encS m) := q22
    have p28 : u 28 = .bool true := q23
    have p29 : u 29 = .bool true := q24
    have p30 : u 30 = .bool true := q25
    have p31 : u 31 = .agg (boxOf m) := q26
    have p32 : u 32 = .string (textS m) := q27
    have p33 : u 33 = .agg (boxOf m) := q28
    have p34 : u 34 = .string (textS m) := q29
    have p35 : u 35 = .bool true := q30
    have p36 : u 36 = .bool true := q31
    have p4 : u 4 = .bool true := q32
    simp only [frm, frmL, Nat.reduceAdd, p5, p6, p7, p8, p9, p10, p11, p12, p13, p14, p15, p16, p17, p18, p19, p20, p21, p22, p23, p24, p25, p26, p27, p28, p29, p30, p31, p32, p33, p34, p35, p36, p4]
    clear p5 p6 p7 p8 p9 p10 p11 p12 p13 p14 p15 p16 p17 p18 p19 p20 p21 p22 p23 p24 p25 p26 p27 p28 p29 p30 p31 p32 p33 p34 p35 p36 p4
    go_wp2
    go_ret
    exact ⟨rfl, by rw [← HBA.out]; exact hS.b⟩
end Go.Proofs.YthllacodjeocmaaGreatDoor
