/- The way of a message. -/
import Derived.Test.YthllacodjeocmaaGreatDoorY5
namespace Go.Proofs.YthllacodjeocmaaGreatDoor
open Go.RowKit
attribute [local go_sem] Oper.semAt_some
def wayB (m : Mg) (g : Ge) : Bool := ((mayB m.k 1 && g.isCache m.f.toNat) || (mayB m.k 2 && ((m.f.toNat : Int) == (g.home m.l.toNat : Int)))) && ((mayB m.k 4 && ((m.t.toNat : Int) == (g.home m.l.toNat : Int))) || (mayB m.k 8 && g.isCache m.t.toNat)) && ((m.f.toNat : Int) != (m.t.toNat : Int))
theorem nm70 : (Tryz.f43.name == "runtime.NumGoroutine") = false := by kernel_rfl
theorem bd70 : Tryz.f43.body.isNone = false := by kernel_rfl
theorem nm23 : (Tryz.f44.name == "runtime.NumGoroutine") = false := by kernel_rfl
theorem bd23 : Tryz.f44.body.isNone = false := by kernel_rfl
theorem nm20 : (Tryz.f42.name == "runtime.NumGoroutine") = false := by kernel_rfl
theorem bd20 : Tryz.f42.body.isNone = false := by kernel_rfl
theorem nm21 : (Tryz.f18.name == "runtime.NumGoroutine") = false := by kernel_rfl
theorem bd21 : Tryz.f18.body.isNone = false := by kernel_rfl
theorem nm41 : (Tryz.f19.name == "runtime.NumGoroutine") = false := by kernel_rfl
theorem bd41 : Tryz.f19.body.isNone = false := by kernel_rfl
theorem nm35 : (Tryz.f20.name == "runtime.NumGoroutine") = false := by kernel_rfl
theorem bd35 : Tryz.f20.body.isNone = false := by kernel_rfl
theorem nm42 : (Tryz.f21.name == "runtime.NumGoroutine") = false := by kernel_rfl
theorem bd42 : Tryz.f21.body.isNone = false := by kernel_rfl
theorem nm43 : (Tryz.f22.name == "runtime.NumGoroutine") = false := by kernel_rfl
theorem bd43 : Tryz.f22.body.isNone = false := by kernel_rfl
theorem nm18 : (Tryz.f8.name == "runtime.NumGoroutine") = false := by kernel_rfl
theorem bd18 : Tryz.f8.body.isNone = false := by kernel_rfl
theorem nm37 : (Tryz.f9.name == "runtime.NumGoroutine") = false := by kernel_rfl
theorem bd37 : Tryz.f9.body.isNone = false := by kernel_rfl
theorem nm19 : (Tryz.f10.name == "runtime.NumGoroutine") = false := by kernel_rfl
theorem bd19 : Tryz.f10.body.isNone = false := by kernel_rfl
theorem nm38 : (Tryz.f11.name == "runtime.NumGoroutine") = false := by kernel_rfl
theorem bd38 : Tryz.f11.body.isNone = false := by kernel_rfl
theorem nm39 : (Tryz.f13.name == "runtime.NumGoroutine") = false := by kernel_rfl
theorem bd39 : Tryz.f13.body.isNone = false := by kernel_rfl
theorem nm40 : (Tryz.f15.name == "runtime.NumGoroutine") = false := by kernel_rfl
theorem bd40 : Tryz.f15.body.isNone = false := by kernel_rfl
theorem nm16 : (Tryz.f4.name == "runtime.NumGoroutine") = false := by kernel_rfl
theorem bd16 : Tryz.f4.body.isNone = false := by kernel_rfl
theorem nm9 : (Tryz.f7.name == "runtime.NumGoroutine") = false := by kernel_rfl
theorem bd9 : Tryz.f7.body.isNone = false := by kernel_rfl
theorem nm65 : (Tryz.f24.name == "runtime.NumGoroutine") = false := by kernel_rfl
theorem bd65 : Tryz.f24.body.isNone = false := by kernel_rfl
theorem fa63_0 {W : World} (b : Nat) : (Instr.fieldAt 42 (.pointer (some ⟨b, 0, none⟩)) 0).run Tryz.prog W = .ok (.pointer (some ⟨b, 0, none⟩)) W := by kernel_rfl
theorem fa25_4 {W : World} (b : Nat) : (Instr.fieldAt 27 (.pointer (some ⟨b, 0, none⟩)) 4).run Tryz.prog W = .ok (.pointer (some ⟨b, 4, none⟩)) W := by kernel_rfl
theorem fa25_5 {W : World} (b : Nat) : (Instr.fieldAt 27 (.pointer (some ⟨b, 0, none⟩)) 5).run Tryz.prog W = .ok (.pointer (some ⟨b, 5, none⟩)) W := by kernel_rfl
theorem fa25_6 {W : World} (b : Nat) : (Instr.fieldAt 27 (.pointer (some ⟨b, 0, none⟩)) 6).run Tryz.prog W = .ok (.pointer (some ⟨b, 6, none⟩)) W := by kernel_rfl
theorem ld63 {W : World} {b : Nat} {m : Mg} (h : W.heap[b]? = some (.cells (boxOf m) 42)) : (loadVar 42 ⟨b, 0, none⟩).run Tryz.prog W = .ok (.agg (boxOf m)) W :=
  run_loadVar_row W b 42 42 (boxOf m) (0, 0) _ h Tryz.underlying42 rfl (by rw [msgSize63]; rfl)
set_option maxHeartbeats 8000000 in
set_option maxRecDepth 100000 in
theorem way_any (m : Mg) (g : Ge) (hk : m.k.toNat < 13) (w : World) (hG : GlobM w) : Calls Tryz.prog 21 #[.agg (boxOf m), .agg g.arr] w fun e w' => e = .returned (.bool (wayB m g)) ∧ Below w.heap.size w w' := by
  have HS0 := Lib.hid (((St.start hG).boxT (boxOf m) 42 rfl).boxT g.arr 23 rfl)
  obtain ⟨bB, hbB⟩ : ∃ b, (w.alloc (.cells (boxOf m) 42)).heap.size = b := ⟨_, rfl⟩
  rw [hbB] at HS0
  generalize hbA : w.heap.size = bA at HS0
  have HBA := Lib.hid hbA
  obtain ⟨r, hr⟩ : ∃ r, wayB m g = r := ⟨_, rfl⟩
  obtain ⟨hm, hhm⟩ : ∃ hm, g.home m.l.toNat = hm := ⟨_, rfl⟩
  obtain ⟨b1, hb1⟩ : ∃ b, mayB m.k 1 = b := ⟨_, rfl⟩
  obtain ⟨b2, hb2⟩ : ∃ b, mayB m.k 2 = b := ⟨_, rfl⟩
  obtain ⟨b4, hb4⟩ : ∃ b, mayB m.k 4 = b := ⟨_, rfl⟩
  obtain ⟨b8, hb8⟩ : ∃ b, mayB m.k 8 = b := ⟨_, rfl⟩
  obtain ⟨cf, hcf⟩ : ∃ b, g.isCache m.f.toNat = b := ⟨_, rfl⟩
  obtain ⟨ct, hct⟩ : ∃ b, g.isCache m.t.toNat = b := ⟨_, rfl⟩
  obtain ⟨qf, hqf⟩ : ∃ b, ((m.f.toNat : Int) == (hm : Int)) = b := ⟨_, rfl⟩
  obtain ⟨qt, hqt⟩ : ∃ b, ((m.t.toNat : Int) == (hm : Int)) = b := ⟨_, rfl⟩
  obtain ⟨ne, hne⟩ : ∃ b, ((m.f.toNat : Int) != (m.t.toNat : Int)) = b := ⟨_, rfl⟩
  have HR : Hid (r = (((b1 && cf) || (b2 && qf)) && ((b4 && qt) || (b8 && ct)) && ne)) := by show _ = _; rw [← hr]; unfold wayB; rw [hhm, hb1, hb2, hb4, hb8, hcf, hct, hqf, hqt, hne]
  rw [hr]
  clear hr hG
  go_enter Tryz.func21, Tryz.ntmps21
  go_upto_region 1 with (first | (refine wpl_box rfl 42 (.tmp 0) rfl (boxOf m) rfl ?_; rw [hbA]; intro w0 hw0) | (refine wpl_box rfl 23 (.tmp 1) rfl g.arr rfl ?_; rw [show w0.heap.size = bB from by rw [hw0.out]; exact hbB]; intro w1 hw1; have HS1 := (show Hid (St [(bB, g.arr, 23), (bA, boxOf m, 42)] w w1) from by show St _ _ _; rw [hw1.out, hw0.out]; exact HS0.out); clear hw1 hw0 HS0) | fail)
  clear hbA hbB
  refine region_seq (D := [false, false, false, false, false, true, false, false, true, true, true, true, true]) (S := fun W => St [(bB, g.arr, 23), (bA, boxOf m, 42)] w W) (R := RB) (F := FF [isV (.agg g.arr), isV (.pointer (some ⟨bA, 0, none⟩)), isV (.pointer (some ⟨bA, 3, none⟩)), isV (.int .u8 m.l.toNat), isV (.int .u8 hm), isV (.int .u8 hm)]) rfl (by kernel_rfl) (FF_st _ _) HS1.out (fun hN => ?_) (fun u W hS hF => ?_)
  · refine steps_cons ?_ ?_
    · intro u W hS hp
      exact step_on (wanted_free rfl) (ext_val hS (run_ld rfl ((eval_out rfl).trans rfl) (ld39 (hS.h (bB, g.arr, 23) (by simp)))) rfl)
    refine steps_cons ?_ ?_
    · intro u W hS hp
      exact step_on (wanted_free rfl) (ext_val hS (run_fa rfl ((eval_out rfl).trans rfl) (fa63_0 bA)) rfl)
    refine steps_cons ?_ ?_
    · intro u W hS hp
      obtain ⟨q0, _⟩ := hp
      have p9 : u 9 = .pointer (some ⟨bA, 0, none⟩) := q0
      exact step_on (wanted_free rfl) (ext_val hS (run_fa rfl ((eval_in rfl hN rfl).trans p9) (fa25_3 bA)) rfl)
    refine steps_cons ?_ ?_
    · intro u W hS hp
      obtain ⟨q0, _⟩ := hp
      have p10 : u 10 = .pointer (some ⟨bA, 3, none⟩) := q0
      exact step_on (wanted_free rfl) (ext_val hS (run_ld rfl ((eval_in rfl hN rfl).trans p10) (ld_u8 ((cell_of_heap (hS.h (bA, boxOf m, 42) (by simp))).trans (rfl : (boxOf m)[3]? = some _)))) rfl)
    refine steps_cons ?_ ?_
    · intro u W hS hp
      obtain ⟨q0, q1, _⟩ := hp
      have p8 : u 8 = .agg g.arr := q0
      have p11 : u 11 = .int .u8 m.l.toNat := q1
      exact step_on (wanted_free rfl) (ext_call (run_call rfl rfl (map2 ((eval_in rfl hN rfl).trans p8) ((eval_in rfl hN rfl).trans p11)) Tryz.func42 nm20 bd20) ((home_any g m.l.toNat W).mono fun _ _ ⟨e, h⟩ => ⟨_, e.trans (congrArg (fun x : Nat => Ending.returned (Value.int .u8 x)) hhm), rfl, hS.next h, h⟩))
    refine steps_cons ?_ ?_
    · intro u W hS hp
      obtain ⟨q0, q1, q2, q3, q4, q5, q6, _⟩ := hp
      have p12 : u 12 = .int .u8 hm := q0
      exact step_on (wanted_free rfl) (ext_val hS (run_asg rfl ((eval_in rfl hN rfl).trans p12)) rfl)
    exact steps_nil
  · obtain ⟨_, _, _, _, _, q5, _⟩ := hF
    have p5 : u 5 = .int .u8 hm := q5
    simp only [frm, frmL, Nat.reduceAdd, p5]
    clear p5
    go_upto_region 2 with fail
    refine region_seq (D := [false, false, false, false, false, false, true, false, false, false, false, false, false, true, true, true, true, true, true, true, true, true, true, true, true, true, true, true, true, true, true, true, true]) (S := fun W => St [(bB, g.arr, 23), (bA, boxOf m, 42)] w W) (R := RB) (F := FF [isV (.agg (boxOf m)), isV (.bool b1), isV (.bool b1), isV ((bif b1 then .agg g.arr else undef)), isV ((bif b1 then .pointer (some ⟨bA, 0, none⟩) else undef)), isV ((bif b1 then .pointer (some ⟨bA, 1, none⟩) else undef)), isV ((bif b1 then .int .u8 m.f.toNat else undef)), isV ((bif b1 then .bool cf else undef)), isV (.bool (b1 && cf)), isV (.bool (b1 && cf)), isV ((bif !(b1 && cf) then .agg (boxOf m) else undef)), isV ((bif !(b1 && cf) then .bool b2 else undef)), isV ((bif !(b1 && cf) then .bool b2 else undef)), isV ((bif (!(b1 && cf) && b2) then .pointer (some ⟨bA, 0, none⟩) else undef)), isV ((bif (!(b1 && cf) && b2) then .pointer (some ⟨bA, 1, none⟩) else undef)), isV ((bif (!(b1 && cf) && b2) then .int .u8 m.f.toNat else undef)), isV ((bif (!(b1 && cf) && b2) then .int .u8 hm else undef)), isV ((bif (!(b1 && cf) && b2) then .bool qf else undef)), isV ((bif !(b1 && cf) then .bool (b2 && qf) else undef)), isV (.bool ((b1 && cf) || (b2 && qf))), isV (.bool ((b1 && cf) || (b2 && qf)))]) rfl (by kernel_rfl) (FF_st _ _) hS (fun hN => ?_) (fun u W hS hF => ?_)
    · refine steps_cons ?_ ?_
      · intro u W hS hp
        exact step_on (wanted_free rfl) (ext_val hS (run_ld rfl ((eval_out rfl).trans rfl) (ld63 (hS.h (bA, boxOf m, 42) (by simp)))) rfl)
      refine steps_cons ?_ ?_
      · intro u W hS hp
        obtain ⟨q0, _⟩ := hp
        have p13 : u 13 = .agg (boxOf m) := q0
        exact step_on (wanted_free rfl) (ext_call (run_call rfl rfl (map2 ((eval_in rfl hN rfl).trans p13) rfl) Tryz.func43 nm70 bd70) ((may_any m 1 hk W hS.g).mono fun _ _ ⟨e, h⟩ => ⟨_, e.trans (congrArg (fun x => Ending.returned (Value.bool x)) hb1), rfl, hS.next h, h⟩))
      refine steps_cons ?_ ?_
      · intro u W hS hp
        obtain ⟨q0, q1, _⟩ := hp
        have p14 : u 14 = .bool b1 := q0
        exact step_on (wanted_free rfl) (ext_val hS (run_mv rfl ((eval_in rfl hN rfl).trans p14)) rfl)
      refine steps_cons ?_ ?_
      · intro u W hS hp
        obtain ⟨q0, _⟩ := hp
        have p15 : u 15 = .bool b1 := q0
        cases b1 <;> (first | exact step_off (wanted_off rfl rfl rfl hN rfl p15) rfl | exact step_off (wanted_undef rfl rfl rfl hN rfl p15) rfl | exact step_on (wanted_on rfl rfl rfl hN rfl p15) (ext_val hS (run_ld rfl ((eval_out rfl).trans rfl) (ld39 (hS.h (bB, g.arr, 23) (by simp)))) rfl))
      refine steps_cons ?_ ?_
      · intro u W hS hp
        obtain ⟨q0, _⟩ := hp
        have p15 : u 15 = .bool b1 := q0
        cases b1 <;> (first | exact step_off (wanted_off rfl rfl rfl hN rfl p15) rfl | exact step_off (wanted_undef rfl rfl rfl hN rfl p15) rfl | exact step_on (wanted_on rfl rfl rfl hN rfl p15) (ext_val hS (run_fa rfl ((eval_out rfl).trans rfl) (fa63_0 bA)) rfl))
      refine steps_cons ?_ ?_
      · intro u W hS hp
        obtain ⟨q0, q1, _⟩ := hp
        have p17 : u 17 = (bif b1 then .pointer (some ⟨bA, 0, none⟩) else undef) := q0
        have p15 : u 15 = .bool b1 := q1
        cases b1 <;> (first | exact step_off (wanted_off rfl rfl rfl hN rfl p15) rfl | exact step_off (wanted_undef rfl rfl rfl hN rfl p15) rfl | exact step_on (wanted_on rfl rfl rfl hN rfl p15) (ext_val hS (run_fa rfl ((eval_in rfl hN rfl).trans p17) (fa25_1 bA)) rfl))
      refine steps_cons ?_ ?_
      · intro u W hS hp
        obtain ⟨q0, q1, _⟩ := hp
        have p18 : u 18 = (bif b1 then .pointer (some ⟨bA, 1, none⟩) else undef) := q0
        have p15 : u 15 = .bool b1 := q1
        cases b1 <;> (first | exact step_off (wanted_off rfl rfl rfl hN rfl p15) rfl | exact step_off (wanted_undef rfl rfl rfl hN rfl p15) rfl | exact step_on (wanted_on rfl rfl rfl hN rfl p15) (ext_val hS (run_ld rfl ((eval_in rfl hN rfl).trans p18) (ld_u8 ((cell_of_heap (hS.h (bA, boxOf m, 42) (by simp))).trans (rfl : (boxOf m)[1]? = some _)))) rfl))
      refine steps_cons ?_ ?_
      · intro u W hS hp
        obtain ⟨q0, q1, q2, q3, _⟩ := hp
        have p16 : u 16 = (bif b1 then .agg g.arr else undef) := q0
        have p19 : u 19 = (bif b1 then .int .u8 m.f.toNat else undef) := q1
        have p15 : u 15 = .bool b1 := q2
        cases b1 <;> (first | exact step_off (wanted_off rfl rfl rfl hN rfl p15) rfl | exact step_off (wanted_undef rfl rfl rfl hN rfl p15) rfl | exact step_on (wanted_on rfl rfl rfl hN rfl p15) (ext_call (run_call rfl rfl (map2 ((eval_in rfl hN rfl).trans p16) ((eval_in rfl hN rfl).trans p19)) Tryz.func44 nm23 bd23) ((iscache_any g m.f.toNat m.f.toNat_lt W).mono fun _ _ ⟨e, h⟩ => ⟨_, e.trans (congrArg (fun x => Ending.returned (Value.bool x)) hcf), rfl, hS.next h, h⟩)))
      refine steps_cons ?_ ?_
      · intro u W hS hp
        obtain ⟨q0, q1, _⟩ := hp
        have p15 : u 15 = .bool b1 := q0
        have p20 : u 20 = (bif b1 then .bool cf else undef) := q1
        cases b1 <;> (first | (first | exact step_on (wanted_free rfl) (ext_val hS (run_pickT rfl ((eval_in rfl hN rfl).trans p15) ((eval_in rfl hN rfl).trans p20)) rfl) | exact step_on (wanted_free rfl) (ext_val hS (run_pickF rfl ((eval_in rfl hN rfl).trans p15) rfl) rfl)))
      refine steps_cons ?_ ?_
      · intro u W hS hp
        obtain ⟨q0, q1, _⟩ := hp
        have p21 : u 21 = .bool (b1 && cf) := q0
        exact step_on (wanted_free rfl) (ext_val hS (run_mv rfl ((eval_in rfl hN rfl).trans p21)) rfl)
      refine steps_cons ?_ ?_
      · intro u W hS hp
        obtain ⟨q0, _⟩ := hp
        have p22 : u 22 = .bool (b1 && cf) := q0
        cases b1 <;> cases cf <;> (first | exact step_off (wanted_off rfl rfl rfl hN rfl p22) rfl | exact step_off (wanted_undef rfl rfl rfl hN rfl p22) rfl | exact step_on (wanted_on rfl rfl rfl hN rfl p22) (ext_val hS (run_ld rfl ((eval_out rfl).trans rfl) (ld63 (hS.h (bA, boxOf m, 42) (by simp)))) rfl))
      refine steps_cons ?_ ?_
      · intro u W hS hp
        obtain ⟨q0, q1, q2, _⟩ := hp
        have p23 : u 23 = (bif !(b1 && cf) then .agg (boxOf m) else undef) := q0
        have p22 : u 22 = .bool (b1 && cf) := q1
        cases b1 <;> cases cf <;> (first | exact step_off (wanted_off rfl rfl rfl hN rfl p22) rfl | exact step_off (wanted_undef rfl rfl rfl hN rfl p22) rfl | exact step_on (wanted_on rfl rfl rfl hN rfl p22) (ext_call (run_call rfl rfl (map2 ((eval_in rfl hN rfl).trans p23) rfl) Tryz.func43 nm70 bd70) ((may_any m 2 hk W hS.g).mono fun _ _ ⟨e, h⟩ => ⟨_, e.trans (congrArg (fun x => Ending.returned (Value.bool x)) hb2), rfl, hS.next h, h⟩)))
      refine steps_cons ?_ ?_
      · intro u W hS hp
        obtain ⟨q0, q1, q2, _⟩ := hp
        have p24 : u 24 = (bif !(b1 && cf) then .bool b2 else undef) := q0
        have p22 : u 22 = .bool (b1 && cf) := q2
        cases b1 <;> cases cf <;> (first | exact step_off (wanted_off rfl rfl rfl hN rfl p22) rfl | exact step_off (wanted_undef rfl rfl rfl hN rfl p22) rfl | exact step_on (wanted_on rfl rfl rfl hN rfl p22) (ext_val hS (run_mv rfl ((eval_in rfl hN rfl).trans p24)) rfl))
      refine steps_cons ?_ ?_
      · intro u W hS hp
        obtain ⟨q0, _⟩ := hp
        have p25 : u 25 = (bif !(b1 && cf) then .bool b2 else undef) := q0
        cases b1 <;> cases b2 <;> cases cf <;> (first | exact step_off (wanted_off rfl rfl rfl hN rfl p25) rfl | exact step_off (wanted_undef rfl rfl rfl hN rfl p25) rfl | exact step_on (wanted_on rfl rfl rfl hN rfl p25) (ext_val hS (run_fa rfl ((eval_out rfl).trans rfl) (fa63_0 bA)) rfl))
      refine steps_cons ?_ ?_
      · intro u W hS hp
        obtain ⟨q0, q1, _⟩ := hp
        have p26 : u 26 = (bif (!(b1 && cf) && b2) then .pointer (some ⟨bA, 0, none⟩) else undef) := q0
        have p25 : u 25 = (bif !(b1 && cf) then .bool b2 else undef) := q1
        cases b1 <;> cases b2 <;> cases cf <;> (first | exact step_off (wanted_off rfl rfl rfl hN rfl p25) rfl | exact step_off (wanted_undef rfl rfl rfl hN rfl p25) rfl | exact step_on (wanted_on rfl rfl rfl hN rfl p25) (ext_val hS (run_fa rfl ((eval_in rfl hN rfl).trans p26) (fa25_1 bA)) rfl))
      refine steps_cons ?_ ?_
      · intro u W hS hp
        obtain ⟨q0, q1, _⟩ := hp
        have p27 : u 27 = (bif (!(b1 && cf) && b2) then .pointer (some ⟨bA, 1, none⟩) else undef) := q0
        have p25 : u 25 = (bif !(b1 && cf) then .bool b2 else undef) := q1
        cases b1 <;> cases b2 <;> cases cf <;> (first | exact step_off (wanted_off rfl rfl rfl hN rfl p25) rfl | exact step_off (wanted_undef rfl rfl rfl hN rfl p25) rfl | exact step_on (wanted_on rfl rfl rfl hN rfl p25) (ext_val hS (run_ld rfl ((eval_in rfl hN rfl).trans p27) (ld_u8 ((cell_of_heap (hS.h (bA, boxOf m, 42) (by simp))).trans (rfl : (boxOf m)[1]? = some _)))) rfl))
      refine steps_cons ?_ ?_
      · intro u W hS hp
        obtain ⟨q0, _⟩ := hp
        have p25 : u 25 = (bif !(b1 && cf) then .bool b2 else undef) := q0
        cases b1 <;> cases b2 <;> cases cf <;> (first | exact step_off (wanted_off rfl rfl rfl hN rfl p25) rfl | exact step_off (wanted_undef rfl rfl rfl hN rfl p25) rfl | exact step_on (wanted_on rfl rfl rfl hN rfl p25) (ext_val hS (run_mv rfl ((eval_out rfl).trans rfl)) rfl))
      refine steps_cons ?_ ?_
      · intro u W hS hp
        obtain ⟨q0, q1, q2, _⟩ := hp
        have p28 : u 28 = (bif (!(b1 && cf) && b2) then .int .u8 m.f.toNat else undef) := q0
        have p29 : u 29 = (bif (!(b1 && cf) && b2) then .int .u8 hm else undef) := q1
        have p25 : u 25 = (bif !(b1 && cf) then .bool b2 else undef) := q2
        cases b1 <;> cases b2 <;> cases cf <;> (first | exact step_off (wanted_off rfl rfl rfl hN rfl p25) rfl | exact step_off (wanted_undef rfl rfl rfl hN rfl p25) rfl | exact step_on (wanted_on rfl rfl rfl hN rfl p25) (ext_val hS (run_bin rfl ((eval_in rfl hN rfl).trans p28) ((eval_in rfl hN rfl).trans p29) rfl (i_eql hqf)) rfl))
      refine steps_cons ?_ ?_
      · intro u W hS hp
        obtain ⟨q0, q1, q2, _⟩ := hp
        have p25 : u 25 = (bif !(b1 && cf) then .bool b2 else undef) := q0
        have p30 : u 30 = (bif (!(b1 && cf) && b2) then .bool qf else undef) := q1
        have p22 : u 22 = .bool (b1 && cf) := q2
        cases b1 <;> cases b2 <;> cases cf <;> (first | exact step_off (wanted_off rfl rfl rfl hN rfl p22) rfl | exact step_off (wanted_undef rfl rfl rfl hN rfl p22) rfl | (first | exact step_on (wanted_on rfl rfl rfl hN rfl p22) (ext_val hS (run_pickT rfl ((eval_in rfl hN rfl).trans p25) ((eval_in rfl hN rfl).trans p30)) rfl) | exact step_on (wanted_on rfl rfl rfl hN rfl p22) (ext_val hS (run_pickF rfl ((eval_in rfl hN rfl).trans p25) rfl) rfl)))
      refine steps_cons ?_ ?_
      · intro u W hS hp
        obtain ⟨q0, q1, _⟩ := hp
        have p22 : u 22 = .bool (b1 && cf) := q0
        have p31 : u 31 = (bif !(b1 && cf) then .bool (b2 && qf) else undef) := q1
        cases b1 <;> cases cf <;> (first | (first | exact step_on (wanted_free rfl) (ext_val hS (run_pickT rfl ((eval_in rfl hN rfl).trans p22) rfl) rfl) | exact step_on (wanted_free rfl) (ext_val hS (run_pickF rfl ((eval_in rfl hN rfl).trans p22) ((eval_in rfl hN rfl).trans p31)) rfl)))
      refine steps_cons ?_ ?_
      · intro u W hS hp
        obtain ⟨q0, q1, q2, q3, q4, q5, q6, q7, q8, q9, q10, q11, q12, q13, q14, q15, q16, q17, q18, q19, q20, q21, _⟩ := hp
        have p32 : u 32 = .bool ((b1 && cf) || (b2 && qf)) := q0
        exact step_on (wanted_free rfl) (ext_val hS (run_asg rfl ((eval_in rfl hN rfl).trans p32)) rfl)
      exact steps_nil
    · obtain ⟨_, _, _, _, _, _, _, _, _, _, _, _, _, _, _, _, _, _, _, _, q20, _⟩ := hF
      have p6 : u 6 = .bool ((b1 && cf) || (b2 && qf)) := q20
      simp only [frm, frmL, Nat.reduceAdd, p6]
      clear p6
      go_upto_region 3 with fail
      refine region_seq (D := [false, false, false, false, false, false, false, true, false, false, false, false, false, false, false, false, false, false, false, false, false, false, false, false, false, false, false, false, false, false, false, false, false, true, true, true, true, true, true, true, true, true, true, true, true, true, true, true, true, true, true, true, true]) (S := fun W => St [(bB, g.arr, 23), (bA, boxOf m, 42)] w W) (R := RB) (F := FF [isV (.agg (boxOf m)), isV (.bool b4), isV (.bool b4), isV ((bif b4 then .pointer (some ⟨bA, 0, none⟩) else undef)), isV ((bif b4 then .pointer (some ⟨bA, 2, none⟩) else undef)), isV ((bif b4 then .int .u8 m.t.toNat else undef)), isV ((bif b4 then .int .u8 hm else undef)), isV ((bif b4 then .bool qt else undef)), isV (.bool (b4 && qt)), isV (.bool (b4 && qt)), isV ((bif !(b4 && qt) then .agg (boxOf m) else undef)), isV ((bif !(b4 && qt) then .bool b8 else undef)), isV ((bif !(b4 && qt) then .bool b8 else undef)), isV ((bif (!(b4 && qt) && b8) then .agg g.arr else undef)), isV ((bif (!(b4 && qt) && b8) then .pointer (some ⟨bA, 0, none⟩) else undef)), isV ((bif (!(b4 && qt) && b8) then .pointer (some ⟨bA, 2, none⟩) else undef)), isV ((bif (!(b4 && qt) && b8) then .int .u8 m.t.toNat else undef)), isV ((bif (!(b4 && qt) && b8) then .bool ct else undef)), isV ((bif !(b4 && qt) then .bool (b8 && ct) else undef)), isV (.bool ((b4 && qt) || (b8 && ct))), isV (.bool ((b4 && qt) || (b8 && ct)))]) rfl (by kernel_rfl) (FF_st _ _) hS (fun hN => ?_) (fun u W hS hF => ?_)
      · refine steps_cons ?_ ?_
        · intro u W hS hp
          exact step_on (wanted_free rfl) (ext_val hS (run_ld rfl ((eval_out rfl).trans rfl) (ld63 (hS.h (bA, boxOf m, 42) (by simp)))) rfl)
        refine steps_cons ?_ ?_
        · intro u W hS hp
          obtain ⟨q0, _⟩ := hp
          have p33 : u 33 = .agg (boxOf m) := q0
          exact step_on (wanted_free rfl) (ext_call (run_call rfl rfl (map2 ((eval_in rfl hN rfl).trans p33) rfl) Tryz.func43 nm70 bd70) ((may_any m 4 hk W hS.g).mono fun _ _ ⟨e, h⟩ => ⟨_, e.trans (congrArg (fun x => Ending.returned (Value.bool x)) hb4), rfl, hS.next h, h⟩))
        refine steps_cons ?_ ?_
        · intro u W hS hp
          obtain ⟨q0, q1, _⟩ := hp
          have p34 : u 34 = .bool b4 := q0
          exact step_on (wanted_free rfl) (ext_val hS (run_mv rfl ((eval_in rfl hN rfl).trans p34)) rfl)
        refine steps_cons ?_ ?_
        · intro u W hS hp
          obtain ⟨q0, _⟩ := hp
          have p35 : u 35 = .bool b4 := q0
          cases b4 <;> (first | exact step_off (wanted_off rfl rfl rfl hN rfl p35) rfl | exact step_off (wanted_undef rfl rfl rfl hN rfl p35) rfl | exact step_on (wanted_on rfl rfl rfl hN rfl p35) (ext_val hS (run_fa rfl ((eval_out rfl).trans rfl) (fa63_0 bA)) rfl))
        refine steps_cons ?_ ?_
        · intro u W hS hp
          obtain ⟨q0, q1, _⟩ := hp
          have p36 : u 36 = (bif b4 then .pointer (some ⟨bA, 0, none⟩) else undef) := q0
          have p35 : u 35 = .bool b4 := q1
          cases b4 <;> (first | exact step_off (wanted_off rfl rfl rfl hN rfl p35) rfl | exact step_off (wanted_undef rfl rfl rfl hN rfl p35) rfl | exact step_on (wanted_on rfl rfl rfl hN rfl p35) (ext_val hS (run_fa rfl ((eval_in rfl hN rfl).trans p36) (fa25_2 bA)) rfl))
        refine steps_cons ?_ ?_
        · intro u W hS hp
          obtain ⟨q0, q1, _⟩ := hp
          have p37 : u 37 = (bif b4 then .pointer (some ⟨bA, 2, none⟩) else undef) := q0
          have p35 : u 35 = .bool b4 := q1
          cases b4 <;> (first | exact step_off (wanted_off rfl rfl rfl hN rfl p35) rfl | exact step_off (wanted_undef rfl rfl rfl hN rfl p35) rfl | exact step_on (wanted_on rfl rfl rfl hN rfl p35) (ext_val hS (run_ld rfl ((eval_in rfl hN rfl).trans p37) (ld_u8 ((cell_of_heap (hS.h (bA, boxOf m, 42) (by simp))).trans (rfl : (boxOf m)[2]? = some _)))) rfl))
        refine steps_cons ?_ ?_
        · intro u W hS hp
          obtain ⟨q0, _⟩ := hp
          have p35 : u 35 = .bool b4 := q0
          cases b4 <;> (first | exact step_off (wanted_off rfl rfl rfl hN rfl p35) rfl | exact step_off (wanted_undef rfl rfl rfl hN rfl p35) rfl | exact step_on (wanted_on rfl rfl rfl hN rfl p35) (ext_val hS (run_mv rfl ((eval_out rfl).trans rfl)) rfl))
        refine steps_cons ?_ ?_
        · intro u W hS hp
          obtain ⟨q0, q1, q2, _⟩ := hp
          have p38 : u 38 = (bif b4 then .int .u8 m.t.toNat else undef) := q0
          have p39 : u 39 = (bif b4 then .int .u8 hm else undef) := q1
          have p35 : u 35 = .bool b4 := q2
          cases b4 <;> (first | exact step_off (wanted_off rfl rfl rfl hN rfl p35) rfl | exact step_off (wanted_undef rfl rfl rfl hN rfl p35) rfl | exact step_on (wanted_on rfl rfl rfl hN rfl p35) (ext_val hS (run_bin rfl ((eval_in rfl hN rfl).trans p38) ((eval_in rfl hN rfl).trans p39) rfl (i_eql hqt)) rfl))
        refine steps_cons ?_ ?_
        · intro u W hS hp
          obtain ⟨q0, q1, _⟩ := hp
          have p35 : u 35 = .bool b4 := q0
          have p40 : u 40 = (bif b4 then .bool qt else undef) := q1
          cases b4 <;> (first | (first | exact step_on (wanted_free rfl) (ext_val hS (run_pickT rfl ((eval_in rfl hN rfl).trans p35) ((eval_in rfl hN rfl).trans p40)) rfl) | exact step_on (wanted_free rfl) (ext_val hS (run_pickF rfl ((eval_in rfl hN rfl).trans p35) rfl) rfl)))
        refine steps_cons ?_ ?_
        · intro u W hS hp
          obtain ⟨q0, q1, _⟩ := hp
          have p41 : u 41 = .bool (b4 && qt) := q0
          exact step_on (wanted_free rfl) (ext_val hS (run_mv rfl ((eval_in rfl hN rfl).trans p41)) rfl)
        refine steps_cons ?_ ?_
        · intro u W hS hp
          obtain ⟨q0, _⟩ := hp
          have p42 : u 42 = .bool (b4 && qt) := q0
          cases b4 <;> cases qt <;> (first | exact step_off (wanted_off rfl rfl rfl hN rfl p42) rfl | exact step_off (wanted_undef rfl rfl rfl hN rfl p42) rfl | exact step_on (wanted_on rfl rfl rfl hN rfl p42) (ext_val hS (run_ld rfl ((eval_out rfl).trans rfl) (ld63 (hS.h (bA, boxOf m, 42) (by simp)))) rfl))
        refine steps_cons ?_ ?_
        · intro u W hS hp
          obtain ⟨q0, q1, q2, _⟩ := hp
          have p43 : u 43 = (bif !(b4 && qt) then .agg (boxOf m) else undef) := q0
          have p42 : u 42 = .bool (b4 && qt) := q1
          cases b4 <;> cases qt <;> (first | exact step_off (wanted_off rfl rfl rfl hN rfl p42) rfl | exact step_off (wanted_undef rfl rfl rfl hN rfl p42) rfl | exact step_on (wanted_on rfl rfl rfl hN rfl p42) (ext_call (run_call rfl rfl (map2 ((eval_in rfl hN rfl).trans p43) rfl) Tryz.func43 nm70 bd70) ((may_any m 8 hk W hS.g).mono fun _ _ ⟨e, h⟩ => ⟨_, e.trans (congrArg (fun x => Ending.returned (Value.bool x)) hb8), rfl, hS.next h, h⟩)))
        refine steps_cons ?_ ?_
        · intro u W hS hp
          obtain ⟨q0, q1, q2, _⟩ := hp
          have p44 : u 44 = (bif !(b4 && qt) then .bool b8 else undef) := q0
          have p42 : u 42 = .bool (b4 && qt) := q2
          cases b4 <;> cases qt <;> (first | exact step_off (wanted_off rfl rfl rfl hN rfl p42) rfl | exact step_off (wanted_undef rfl rfl rfl hN rfl p42) rfl | exact step_on (wanted_on rfl rfl rfl hN rfl p42) (ext_val hS (run_mv rfl ((eval_in rfl hN rfl).trans p44)) rfl))
        refine steps_cons ?_ ?_
        · intro u W hS hp
          obtain ⟨q0, _⟩ := hp
          have p45 : u 45 = (bif !(b4 && qt) then .bool b8 else undef) := q0
          cases b4 <;> cases b8 <;> cases qt <;> (first | exact step_off (wanted_off rfl rfl rfl hN rfl p45) rfl | exact step_off (wanted_undef rfl rfl rfl hN rfl p45) rfl | exact step_on (wanted_on rfl rfl rfl hN rfl p45) (ext_val hS (run_ld rfl ((eval_out rfl).trans rfl) (ld39 (hS.h (bB, g.arr, 23) (by simp)))) rfl))
        refine steps_cons ?_ ?_
        · intro u W hS hp
          obtain ⟨q0, _⟩ := hp
          have p45 : u 45 = (bif !(b4 && qt) then .bool b8 else undef) := q0
          cases b4 <;> cases b8 <;> cases qt <;> (first | exact step_off (wanted_off rfl rfl rfl hN rfl p45) rfl | exact step_off (wanted_undef rfl rfl rfl hN rfl p45) rfl | exact step_on (wanted_on rfl rfl rfl hN rfl p45) (ext_val hS (run_fa rfl ((eval_out rfl).trans rfl) (fa63_0 bA)) rfl))
        refine steps_cons ?_ ?_
        · intro u W hS hp
          obtain ⟨q0, q1, _⟩ := hp
          have p47 : u 47 = (bif (!(b4 && qt) && b8) then .pointer (some ⟨bA, 0, none⟩) else undef) := q0
          have p45 : u 45 = (bif !(b4 && qt) then .bool b8 else undef) := q1
          cases b4 <;> cases b8 <;> cases qt <;> (first | exact step_off (wanted_off rfl rfl rfl hN rfl p45) rfl | exact step_off (wanted_undef rfl rfl rfl hN rfl p45) rfl | exact step_on (wanted_on rfl rfl rfl hN rfl p45) (ext_val hS (run_fa rfl ((eval_in rfl hN rfl).trans p47) (fa25_2 bA)) rfl))
        refine steps_cons ?_ ?_
        · intro u W hS hp
          obtain ⟨q0, q1, _⟩ := hp
          have p48 : u 48 = (bif (!(b4 && qt) && b8) then .pointer (some ⟨bA, 2, none⟩) else undef) := q0
          have p45 : u 45 = (bif !(b4 && qt) then .bool b8 else undef) := q1
          cases b4 <;> cases b8 <;> cases qt <;> (first | exact step_off (wanted_off rfl rfl rfl hN rfl p45) rfl | exact step_off (wanted_undef rfl rfl rfl hN rfl p45) rfl | exact step_on (wanted_on rfl rfl rfl hN rfl p45) (ext_val hS (run_ld rfl ((eval_in rfl hN rfl).trans p48) (ld_u8 ((cell_of_heap (hS.h (bA, boxOf m, 42) (by simp))).trans (rfl : (boxOf m)[2]? = some _)))) rfl))
        refine steps_cons ?_ ?_
        · intro u W hS hp
          obtain ⟨q0, q1, q2, q3, _⟩ := hp
          have p46 : u 46 = (bif (!(b4 && qt) && b8) then .agg g.arr else undef) := q0
          have p49 : u 49 = (bif (!(b4 && qt) && b8) then .int .u8 m.t.toNat else undef) := q1
          have p45 : u 45 = (bif !(b4 && qt) then .bool b8 else undef) := q2
          cases b4 <;> cases b8 <;> cases qt <;> (first | exact step_off (wanted_off rfl rfl rfl hN rfl p45) rfl | exact step_off (wanted_undef rfl rfl rfl hN rfl p45) rfl | exact step_on (wanted_on rfl rfl rfl hN rfl p45) (ext_call (run_call rfl rfl (map2 ((eval_in rfl hN rfl).trans p46) ((eval_in rfl hN rfl).trans p49)) Tryz.func44 nm23 bd23) ((iscache_any g m.t.toNat m.t.toNat_lt W).mono fun _ _ ⟨e, h⟩ => ⟨_, e.trans (congrArg (fun x => Ending.returned (Value.bool x)) hct), rfl, hS.next h, h⟩)))
        refine steps_cons ?_ ?_
        · intro u W hS hp
          obtain ⟨q0, q1, q2, _⟩ := hp
          have p45 : u 45 = (bif !(b4 && qt) then .bool b8 else undef) := q0
          have p50 : u 50 = (bif (!(b4 && qt) && b8) then .bool ct else undef) := q1
          have p42 : u 42 = .bool (b4 && qt) := q2
          cases b4 <;> cases b8 <;> cases qt <;> (first | exact step_off (wanted_off rfl rfl rfl hN rfl p42) rfl | exact step_off (wanted_undef rfl rfl rfl hN rfl p42) rfl | (first | exact step_on (wanted_on rfl rfl rfl hN rfl p42) (ext_val hS (run_pickT rfl ((eval_in rfl hN rfl).trans p45) ((eval_in rfl hN rfl).trans p50)) rfl) | exact step_on (wanted_on rfl rfl rfl hN rfl p42) (ext_val hS (run_pickF rfl ((eval_in rfl hN rfl).trans p45) rfl) rfl)))
        refine steps_cons ?_ ?_
        · intro u W hS hp
          obtain ⟨q0, q1, _⟩ := hp
          have p42 : u 42 = .bool (b4 && qt) := q0
          have p51 : u 51 = (bif !(b4 && qt) then .bool (b8 && ct) else undef) := q1
          cases b4 <;> cases qt <;> (first | (first | exact step_on (wanted_free rfl) (ext_val hS (run_pickT rfl ((eval_in rfl hN rfl).trans p42) rfl) rfl) | exact step_on (wanted_free rfl) (ext_val hS (run_pickF rfl ((eval_in rfl hN rfl).trans p42) ((eval_in rfl hN rfl).trans p51)) rfl)))
        refine steps_cons ?_ ?_
        · intro u W hS hp
          obtain ⟨q0, q1, q2, q3, q4, q5, q6, q7, q8, q9, q10, q11, q12, q13, q14, q15, q16, q17, q18, q19, q20, q21, _⟩ := hp
          have p52 : u 52 = .bool ((b4 && qt) || (b8 && ct)) := q0
          exact step_on (wanted_free rfl) (ext_val hS (run_asg rfl ((eval_in rfl hN rfl).trans p52)) rfl)
        exact steps_nil
      · obtain ⟨_, _, _, _, _, _, _, _, _, _, _, _, _, _, _, _, _, _, _, _, q20, _⟩ := hF
        have p7 : u 7 = .bool ((b4 && qt) || (b8 && ct)) := q20
        simp only [frm, frmL, Nat.reduceAdd, p7]
        clear p7
        generalize (b1 && cf || b2 && qf) = x6 at HR ⊢
        generalize (b4 && qt || b8 && ct) = x7 at HR ⊢
        go_upto_region 4 with fail
        refine region_seq (D := [false, false, false, false, true, false, false, false, false, false, false, false, false, false, false, false, false, false, false, false, false, false, false, false, false, false, false, false, false, false, false, false, false, false, false, false, false, false, false, false, false, false, false, false, false, false, false, false, false, false, false, false, false, true, true, true, true, true, true, true, true, true, true, true, true, true]) (S := fun W => St [(bB, g.arr, 23), (bA, boxOf m, 42)] w W) (R := RB) (F := FF [isV (.bool x6), isV (.bool x6), isV ((bif x6 then .bool x7 else undef)), isV (.bool (x6 && x7)), isV (.bool (x6 && x7)), isV ((bif (x6 && x7) then .pointer (some ⟨bA, 0, none⟩) else undef)), isV ((bif (x6 && x7) then .pointer (some ⟨bA, 1, none⟩) else undef)), isV ((bif (x6 && x7) then .int .u8 m.f.toNat else undef)), isV ((bif (x6 && x7) then .pointer (some ⟨bA, 0, none⟩) else undef)), isV ((bif (x6 && x7) then .pointer (some ⟨bA, 2, none⟩) else undef)), isV ((bif (x6 && x7) then .int .u8 m.t.toNat else undef)), isV ((bif (x6 && x7) then .bool ne else undef)), isV (.bool ((x6 && x7) && ne)), isV (.bool ((x6 && x7) && ne))]) rfl (by kernel_rfl) (FF_st _ _) hS (fun hN => ?_) (fun u W hS hF => ?_)
        · refine steps_cons ?_ ?_
          · intro u W hS hp
            exact step_on (wanted_free rfl) (ext_val hS (run_mv rfl ((eval_out rfl).trans rfl)) rfl)
          refine steps_cons ?_ ?_
          · intro u W hS hp
            obtain ⟨q0, _⟩ := hp
            have p53 : u 53 = .bool x6 := q0
            exact step_on (wanted_free rfl) (ext_val hS (run_mv rfl ((eval_in rfl hN rfl).trans p53)) rfl)
          refine steps_cons ?_ ?_
          · intro u W hS hp
            obtain ⟨q0, _⟩ := hp
            have p54 : u 54 = .bool x6 := q0
            cases x6 <;> (first | exact step_off (wanted_off rfl rfl rfl hN rfl p54) rfl | exact step_off (wanted_undef rfl rfl rfl hN rfl p54) rfl | exact step_on (wanted_on rfl rfl rfl hN rfl p54) (ext_val hS (run_mv rfl ((eval_out rfl).trans rfl)) rfl))
          refine steps_cons ?_ ?_
          · intro u W hS hp
            obtain ⟨q0, q1, _⟩ := hp
            have p54 : u 54 = .bool x6 := q0
            have p55 : u 55 = (bif x6 then .bool x7 else undef) := q1
            cases x6 <;> (first | (first | exact step_on (wanted_free rfl) (ext_val hS (run_pickT rfl ((eval_in rfl hN rfl).trans p54) ((eval_in rfl hN rfl).trans p55)) rfl) | exact step_on (wanted_free rfl) (ext_val hS (run_pickF rfl ((eval_in rfl hN rfl).trans p54) rfl) rfl)))
          refine steps_cons ?_ ?_
          · intro u W hS hp
            obtain ⟨q0, q1, _⟩ := hp
            have p56 : u 56 = .bool (x6 && x7) := q0
            exact step_on (wanted_free rfl) (ext_val hS (run_mv rfl ((eval_in rfl hN rfl).trans p56)) rfl)
          refine steps_cons ?_ ?_
          · intro u W hS hp
            obtain ⟨q0, _⟩ := hp
            have p57 : u 57 = .bool (x6 && x7) := q0
            cases x6 <;> cases x7 <;> (first | exact step_off (wanted_off rfl rfl rfl hN rfl p57) rfl | exact step_off (wanted_undef rfl rfl rfl hN rfl p57) rfl | exact step_on (wanted_on rfl rfl rfl hN rfl p57) (ext_val hS (run_fa rfl ((eval_out rfl).trans rfl) (fa63_0 bA)) rfl))
          refine steps_cons ?_ ?_
          · intro u W hS hp
            obtain ⟨q0, q1, _⟩ := hp
            have p58 : u 58 = (bif (x6 && x7) then .pointer (some ⟨bA, 0, none⟩) else undef) := q0
            have p57 : u 57 = .bool (x6 && x7) := q1
            cases x6 <;> cases x7 <;> (first | exact step_off (wanted_off rfl rfl rfl hN rfl p57) rfl | exact step_off (wanted_undef rfl rfl rfl hN rfl p57) rfl | exact step_on (wanted_on rfl rfl rfl hN rfl p57) (ext_val hS (run_fa rfl ((eval_in rfl hN rfl).trans p58) (fa25_1 bA)) rfl))
          refine steps_cons ?_ ?_
          · intro u W hS hp
            obtain ⟨q0, q1, _⟩ := hp
            have p59 : u 59 = (bif (x6 && x7) then .pointer (some ⟨bA, 1, none⟩) else undef) := q0
            have p57 : u 57 = .bool (x6 && x7) := q1
            cases x6 <;> cases x7 <;> (first | exact step_off (wanted_off rfl rfl rfl hN rfl p57) rfl | exact step_off (wanted_undef rfl rfl rfl hN rfl p57) rfl | exact step_on (wanted_on rfl rfl rfl hN rfl p57) (ext_val hS (run_ld rfl ((eval_in rfl hN rfl).trans p59) (ld_u8 ((cell_of_heap (hS.h (bA, boxOf m, 42) (by simp))).trans (rfl : (boxOf m)[1]? = some _)))) rfl))
          refine steps_cons ?_ ?_
          · intro u W hS hp
            obtain ⟨q0, _⟩ := hp
            have p57 : u 57 = .bool (x6 && x7) := q0
            cases x6 <;> cases x7 <;> (first | exact step_off (wanted_off rfl rfl rfl hN rfl p57) rfl | exact step_off (wanted_undef rfl rfl rfl hN rfl p57) rfl | exact step_on (wanted_on rfl rfl rfl hN rfl p57) (ext_val hS (run_fa rfl ((eval_out rfl).trans rfl) (fa63_0 bA)) rfl))
          refine steps_cons ?_ ?_
          · intro u W hS hp
            obtain ⟨q0, q1, _⟩ := hp
            have p61 : u 61 = (bif (x6 && x7) then .pointer (some ⟨bA, 0, none⟩) else undef) := q0
            have p57 : u 57 = .bool (x6 && x7) := q1
            cases x6 <;> cases x7 <;> (first | exact step_off (wanted_off rfl rfl rfl hN rfl p57) rfl | exact step_off (wanted_undef rfl rfl rfl hN rfl p57) rfl | exact step_on (wanted_on rfl rfl rfl hN rfl p57) (ext_val hS (run_fa rfl ((eval_in rfl hN rfl).trans p61) (fa25_2 bA)) rfl))
          refine steps_cons ?_ ?_
          · intro u W hS hp
            obtain ⟨q0, q1, _⟩ := hp
            have p62 : u 62 = (bif (x6 && x7) then .pointer (some ⟨bA, 2, none⟩) else undef) := q0
            have p57 : u 57 = .bool (x6 && x7) := q1
            cases x6 <;> cases x7 <;> (first | exact step_off (wanted_off rfl rfl rfl hN rfl p57) rfl | exact step_off (wanted_undef rfl rfl rfl hN rfl p57) rfl | exact step_on (wanted_on rfl rfl rfl hN rfl p57) (ext_val hS (run_ld rfl ((eval_in rfl hN rfl).trans p62) (ld_u8 ((cell_of_heap (hS.h (bA, boxOf m, 42) (by simp))).trans (rfl : (boxOf m)[2]? = some _)))) rfl))
          refine steps_cons ?_ ?_
          · intro u W hS hp
            obtain ⟨q0, q1, q2, _⟩ := hp
            have p60 : u 60 = (bif (x6 && x7) then .int .u8 m.f.toNat else undef) := q0
            have p63 : u 63 = (bif (x6 && x7) then .int .u8 m.t.toNat else undef) := q1
            have p57 : u 57 = .bool (x6 && x7) := q2
            cases x6 <;> cases x7 <;> (first | exact step_off (wanted_off rfl rfl rfl hN rfl p57) rfl | exact step_off (wanted_undef rfl rfl rfl hN rfl p57) rfl | exact step_on (wanted_on rfl rfl rfl hN rfl p57) (ext_val hS (run_bin rfl ((eval_in rfl hN rfl).trans p60) ((eval_in rfl hN rfl).trans p63) rfl (i_neq hne)) rfl))
          refine steps_cons ?_ ?_
          · intro u W hS hp
            obtain ⟨q0, q1, _⟩ := hp
            have p57 : u 57 = .bool (x6 && x7) := q0
            have p64 : u 64 = (bif (x6 && x7) then .bool ne else undef) := q1
            cases x6 <;> cases x7 <;> (first | (first | exact step_on (wanted_free rfl) (ext_val hS (run_pickT rfl ((eval_in rfl hN rfl).trans p57) ((eval_in rfl hN rfl).trans p64)) rfl) | exact step_on (wanted_free rfl) (ext_val hS (run_pickF rfl ((eval_in rfl hN rfl).trans p57) rfl) rfl)))
          refine steps_cons ?_ ?_
          · intro u W hS hp
            obtain ⟨q0, q1, q2, q3, q4, q5, q6, q7, q8, q9, q10, q11, q12, q13, q14, _⟩ := hp
            have p65 : u 65 = .bool ((x6 && x7) && ne) := q0
            exact step_on (wanted_free rfl) (ext_val hS (run_asg rfl ((eval_in rfl hN rfl).trans p65)) rfl)
          exact steps_nil
        · obtain ⟨_, _, _, _, _, _, _, _, _, _, _, _, _, q13, _⟩ := hF
          have p4 : u 4 = .bool ((x6 && x7) && ne) := q13
          simp only [frm, frmL, Nat.reduceAdd, p4]
          clear p4
          go_wp2
          go_ret
          exact ⟨by rw [HR.out]; rfl, by rw [← HBA.out]; exact hS.b⟩

end Go.Proofs.YthllacodjeocmaaGreatDoor
