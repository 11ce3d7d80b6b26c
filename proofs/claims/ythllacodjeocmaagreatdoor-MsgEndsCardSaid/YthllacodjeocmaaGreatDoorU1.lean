/- Geometries: validity, walked in the reference. -/
import Derived.Test.YthllacodjeocmaaGreatDoorExt2
import Derived.Test.YthllacodjeocmaaGreatDoorT4
namespace Go.Proofs.YthllacodjeocmaaGreatDoor
open Go.RowKit
attribute [local go_sem] Oper.semAt_some
structure Ge where
  c : Int
  h : Int
  w : Int
  s : Int
  y : Int
def Ge.arr (g : Ge) : Array Value := #[.int .i64 g.c, .int .i64 g.h, .int .i64 g.w, .int .i64 g.s, .int .i64 g.y]
def inB (n m : Int) : Bool := decide (1 ≤ n) && decide (n ≤ m)
def Ge.ok (g : Ge) : Bool := (((inB g.c 4 && inB g.h 2) && inB g.w 4) && inB g.s 4) && inB g.y 4
theorem nm84 : (Tryz.f45.name == "runtime.NumGoroutine") = false := by kernel_rfl
theorem bd84 : Tryz.f45.body.isNone = false := by kernel_rfl
theorem nm64 : (Tryz.f23.name == "runtime.NumGoroutine") = false := by kernel_rfl
theorem bd64 : Tryz.f23.body.isNone = false := by kernel_rfl
theorem nm46 : (Tryz.f39.name == "runtime.NumGoroutine") = false := by kernel_rfl
theorem bd46 : Tryz.f39.body.isNone = false := by kernel_rfl
theorem nm66 : (Tryz.f25.name == "runtime.NumGoroutine") = false := by kernel_rfl
theorem bd66 : Tryz.f25.body.isNone = false := by kernel_rfl
theorem nm67 : (Tryz.f26.name == "runtime.NumGoroutine") = false := by kernel_rfl
theorem bd67 : Tryz.f26.body.isNone = false := by kernel_rfl
theorem fa39_0 (b : Nat) (W : World) : (Instr.fieldAt 23 (.pointer (some ⟨b, 0, none⟩)) 0).run Tryz.prog W = .ok (.pointer (some ⟨b, 0, none⟩)) W := by kernel_rfl
theorem fa39_1 (b : Nat) (W : World) : (Instr.fieldAt 23 (.pointer (some ⟨b, 0, none⟩)) 1).run Tryz.prog W = .ok (.pointer (some ⟨b, 1, none⟩)) W := by kernel_rfl
theorem fa39_2 (b : Nat) (W : World) : (Instr.fieldAt 23 (.pointer (some ⟨b, 0, none⟩)) 2).run Tryz.prog W = .ok (.pointer (some ⟨b, 2, none⟩)) W := by kernel_rfl
theorem fa39_3 (b : Nat) (W : World) : (Instr.fieldAt 23 (.pointer (some ⟨b, 0, none⟩)) 3).run Tryz.prog W = .ok (.pointer (some ⟨b, 3, none⟩)) W := by kernel_rfl
theorem fa39_4 (b : Nat) (W : World) : (Instr.fieldAt 23 (.pointer (some ⟨b, 0, none⟩)) 4).run Tryz.prog W = .ok (.pointer (some ⟨b, 4, none⟩)) W := by kernel_rfl
theorem ld_int {W : World} {p : Addr} {v : Value} (h : W.cell? p = some v) : (loadVar 3 p).run Tryz.prog W = .ok v W := by simp [loadVar, isAgg, go_sem, h]
theorem geoSize : (Tryz.prog.info? 23).map (·.size) = some 5 := by kernel_rfl
theorem ld39 {W : World} {b : Nat} {g : Ge} (h : W.heap[b]? = some (.cells g.arr 23)) : (loadVar 23 ⟨b, 0, none⟩).run Tryz.prog W = .ok (.agg g.arr) W :=
  run_loadVar_row W b 23 23 g.arr (0, 0) _ h Tryz.underlying23 rfl (by rw [geoSize]; rfl)
theorem St.boxT {bs : List (Nat × Array Value × TypeId)} {w W : World} (h : St bs w W) (C : Array Value) (T : TypeId) {n : Nat} (hn : W.heap.size = n) : St ((n, C, T) :: bs) w (W.alloc (.cells C T)) := by subst hn; exact h.alloc C T
theorem within_any (n m : Int) (w : World) : Calls Tryz.prog 45 #[.int .i64 n, .int .i64 m] w fun e w' => e = .returned (.bool (inB n m)) ∧ w = w' := by
  by_cases h : 1 ≤ n
  · have q : decide (1 ≤ n) = true := by simpa using h
    have HQ : Hid (inB n m = decide (n ≤ m)) := by show _ = _; unfold inB; rw [q]; rfl
    obtain ⟨b, hb⟩ : ∃ b, decide (n ≤ m) = b := ⟨_, rfl⟩
    rw [hb] at HQ
    go_enter Tryz.func45, Tryz.ntmps45
    go_wp2
    go_ret
    exact ⟨by rw [HQ.out]; rfl, rfl⟩
  · have q : decide (1 ≤ n) = false := by simpa using h
    have HQ : Hid (inB n m = false) := by show _ = _; unfold inB; rw [q]; rfl
    go_enter Tryz.func45, Tryz.ntmps45
    go_wp2
    go_ret
    exact ⟨by rw [HQ.out]; rfl, rfl⟩
set_option maxHeartbeats 4000000 in
set_option maxRecDepth 100000 in
theorem rgeo_ok (g : Ge) (w : World) (hG : GlobM w) : Calls Tryz.prog 23 #[.agg g.arr] w fun e w' => e = .returned (.bool g.ok) ∧ Below w.heap.size w w' := by
  have HS0 := Lib.hid ((St.start hG).boxT g.arr 23 rfl)
  obtain ⟨b1, hb1⟩ : ∃ b, inB g.c 4 = b := ⟨_, rfl⟩
  obtain ⟨b2, hb2⟩ : ∃ b, inB g.h 2 = b := ⟨_, rfl⟩
  obtain ⟨b3, hb3⟩ : ∃ b, inB g.w 4 = b := ⟨_, rfl⟩
  obtain ⟨b4, hb4⟩ : ∃ b, inB g.s 4 = b := ⟨_, rfl⟩
  obtain ⟨b5, hb5⟩ : ∃ b, inB g.y 4 = b := ⟨_, rfl⟩
  have HR : Hid (g.ok = ((((b1 && b2) && b3) && b4) && b5)) := by show _ = _; unfold Ge.ok; rw [hb1, hb2, hb3, hb4, hb5]
  generalize hbA : w.heap.size = bA at HS0
  have HBA := Lib.hid hbA
  go_enter Tryz.func23, Tryz.ntmps23
  go_upto_region 1 with (first | (refine wpl_box rfl 23 (.tmp 0) rfl g.arr rfl ?_; rw [hbA]; intro w0 hw0; have HS := (show Hid (St [(bA, g.arr, 23)] w w0) from by rw [hw0.out]; exact HS0); clear hw0 HS0) | fail)
  clear hG
  refine region_seq (D := [false, false, true, true, true, true, true, true, true, true, true, true, true, true, true, true, true, true, true, true, true, true, true, true, true, true]) (S := fun W => St [(bA, g.arr, 23)] w W) (R := RB) (F := FF [isV (.pointer (some ⟨bA, 0, none⟩)), isV (.int .i64 g.c), isV (.bool b1), isV (.bool b1), isV ((bif b1 then .pointer (some ⟨bA, 1, none⟩) else undef)), isV ((bif b1 then .int .i64 g.h else undef)), isV ((bif b1 then .bool b2 else undef)), isV (.bool (b1 && b2)), isV (.bool (b1 && b2)), isV ((bif (b1 && b2) then .pointer (some ⟨bA, 2, none⟩) else undef)), isV ((bif (b1 && b2) then .int .i64 g.w else undef)), isV ((bif (b1 && b2) then .bool b3 else undef)), isV (.bool ((b1 && b2) && b3)), isV (.bool ((b1 && b2) && b3)), isV ((bif ((b1 && b2) && b3) then .pointer (some ⟨bA, 3, none⟩) else undef)), isV ((bif ((b1 && b2) && b3) then .int .i64 g.s else undef)), isV ((bif ((b1 && b2) && b3) then .bool b4 else undef)), isV (.bool (((b1 && b2) && b3) && b4)), isV (.bool (((b1 && b2) && b3) && b4)), isV ((bif (((b1 && b2) && b3) && b4) then .pointer (some ⟨bA, 4, none⟩) else undef)), isV ((bif (((b1 && b2) && b3) && b4) then .int .i64 g.y else undef)), isV ((bif (((b1 && b2) && b3) && b4) then .bool b5 else undef)), isV (.bool ((((b1 && b2) && b3) && b4) && b5)), isV (.bool ((((b1 && b2) && b3) && b4) && b5))]) rfl (by kernel_rfl) (FF_st _ _) HS.out (fun hN => ?_) (fun u W hS hF => ?_)
  · refine steps_cons ?_ ?_
    · intro u W hS hp
      exact step_on (wanted_free rfl) (ext_val hS (run_fa rfl ((eval_out rfl).trans rfl) (fa39_0 bA W)) rfl)
    refine steps_cons ?_ ?_
    · intro u W hS hp
      obtain ⟨q0, _⟩ := hp
      have p3 : u 3 = .pointer (some ⟨bA, 0, none⟩) := q0
      exact step_on (wanted_free rfl) (ext_val hS (run_ld rfl ((eval_in rfl hN rfl).trans p3) (ld_int ((cell_of_heap (hS.h (bA, g.arr, 23) (by simp))).trans (rfl : g.arr[0]? = some _)))) rfl)
    refine steps_cons ?_ ?_
    · intro u W hS hp
      obtain ⟨q0, _⟩ := hp
      have p4 : u 4 = .int .i64 g.c := q0
      exact step_on (wanted_free rfl) (ext_call (run_call rfl rfl (map2 ((eval_in rfl hN rfl).trans p4) rfl) Tryz.func45 nm84 bd84) ((within_any g.c 4 W).mono fun _ _ ⟨e, h⟩ => ⟨_, e.trans (congrArg (fun x => Ending.returned (Value.bool x)) hb1), rfl, by rw [← h]; exact hS, by rw [← h]; exact Below.refl _ _⟩))
    refine steps_cons ?_ ?_
    · intro u W hS hp
      obtain ⟨q0, q1, _⟩ := hp
      have p5 : u 5 = .bool b1 := q0
      exact step_on (wanted_free rfl) (ext_val hS (run_mv rfl ((eval_in rfl hN rfl).trans p5)) rfl)
    refine steps_cons ?_ ?_
    · intro u W hS hp
      obtain ⟨q0, _⟩ := hp
      have p6 : u 6 = .bool b1 := q0
      cases b1 <;> (first | exact step_off (wanted_off rfl rfl rfl hN rfl p6) rfl | exact step_off (wanted_undef rfl rfl rfl hN rfl p6) rfl | exact step_on (wanted_on rfl rfl rfl hN rfl p6) (ext_val hS (run_fa rfl ((eval_out rfl).trans rfl) (fa39_1 bA W)) rfl))
    refine steps_cons ?_ ?_
    · intro u W hS hp
      obtain ⟨q0, q1, _⟩ := hp
      have p7 : u 7 = (bif b1 then .pointer (some ⟨bA, 1, none⟩) else undef) := q0
      have p6 : u 6 = .bool b1 := q1
      cases b1 <;> (first | exact step_off (wanted_off rfl rfl rfl hN rfl p6) rfl | exact step_off (wanted_undef rfl rfl rfl hN rfl p6) rfl | exact step_on (wanted_on rfl rfl rfl hN rfl p6) (ext_val hS (run_ld rfl ((eval_in rfl hN rfl).trans p7) (ld_int ((cell_of_heap (hS.h (bA, g.arr, 23) (by simp))).trans (rfl : g.arr[1]? = some _)))) rfl))
    refine steps_cons ?_ ?_
    · intro u W hS hp
      obtain ⟨q0, q1, q2, _⟩ := hp
      have p8 : u 8 = (bif b1 then .int .i64 g.h else undef) := q0
      have p6 : u 6 = .bool b1 := q1
      cases b1 <;> (first | exact step_off (wanted_off rfl rfl rfl hN rfl p6) rfl | exact step_off (wanted_undef rfl rfl rfl hN rfl p6) rfl | exact step_on (wanted_on rfl rfl rfl hN rfl p6) (ext_call (run_call rfl rfl (map2 ((eval_in rfl hN rfl).trans p8) rfl) Tryz.func45 nm84 bd84) ((within_any g.h 2 W).mono fun _ _ ⟨e, h⟩ => ⟨_, e.trans (congrArg (fun x => Ending.returned (Value.bool x)) hb2), rfl, by rw [← h]; exact hS, by rw [← h]; exact Below.refl _ _⟩)))
    refine steps_cons ?_ ?_
    · intro u W hS hp
      obtain ⟨q0, q1, _⟩ := hp
      have p6 : u 6 = .bool b1 := q0
      have p9 : u 9 = (bif b1 then .bool b2 else undef) := q1
      cases b1 <;> (first | (first | exact step_on (wanted_free rfl) (ext_val hS (run_pickT rfl ((eval_in rfl hN rfl).trans p6) ((eval_in rfl hN rfl).trans p9)) rfl) | exact step_on (wanted_free rfl) (ext_val hS (run_pickF rfl ((eval_in rfl hN rfl).trans p6) rfl) rfl)))
    refine steps_cons ?_ ?_
    · intro u W hS hp
      obtain ⟨q0, q1, _⟩ := hp
      have p10 : u 10 = .bool (b1 && b2) := q0
      exact step_on (wanted_free rfl) (ext_val hS (run_mv rfl ((eval_in rfl hN rfl).trans p10)) rfl)
    refine steps_cons ?_ ?_
    · intro u W hS hp
      obtain ⟨q0, _⟩ := hp
      have p11 : u 11 = .bool (b1 && b2) := q0
      cases b1 <;> cases b2 <;> (first | exact step_off (wanted_off rfl rfl rfl hN rfl p11) rfl | exact step_off (wanted_undef rfl rfl rfl hN rfl p11) rfl | exact step_on (wanted_on rfl rfl rfl hN rfl p11) (ext_val hS (run_fa rfl ((eval_out rfl).trans rfl) (fa39_2 bA W)) rfl))
    refine steps_cons ?_ ?_
    · intro u W hS hp
      obtain ⟨q0, q1, _⟩ := hp
      have p12 : u 12 = (bif (b1 && b2) then .pointer (some ⟨bA, 2, none⟩) else undef) := q0
      have p11 : u 11 = .bool (b1 && b2) := q1
      cases b1 <;> cases b2 <;> (first | exact step_off (wanted_off rfl rfl rfl hN rfl p11) rfl | exact step_off (wanted_undef rfl rfl rfl hN rfl p11) rfl | exact step_on (wanted_on rfl rfl rfl hN rfl p11) (ext_val hS (run_ld rfl ((eval_in rfl hN rfl).trans p12) (ld_int ((cell_of_heap (hS.h (bA, g.arr, 23) (by simp))).trans (rfl : g.arr[2]? = some _)))) rfl))
    refine steps_cons ?_ ?_
    · intro u W hS hp
      obtain ⟨q0, q1, q2, _⟩ := hp
      have p13 : u 13 = (bif (b1 && b2) then .int .i64 g.w else undef) := q0
      have p11 : u 11 = .bool (b1 && b2) := q1
      cases b1 <;> cases b2 <;> (first | exact step_off (wanted_off rfl rfl rfl hN rfl p11) rfl | exact step_off (wanted_undef rfl rfl rfl hN rfl p11) rfl | exact step_on (wanted_on rfl rfl rfl hN rfl p11) (ext_call (run_call rfl rfl (map2 ((eval_in rfl hN rfl).trans p13) rfl) Tryz.func45 nm84 bd84) ((within_any g.w 4 W).mono fun _ _ ⟨e, h⟩ => ⟨_, e.trans (congrArg (fun x => Ending.returned (Value.bool x)) hb3), rfl, by rw [← h]; exact hS, by rw [← h]; exact Below.refl _ _⟩)))
    refine steps_cons ?_ ?_
    · intro u W hS hp
      obtain ⟨q0, q1, _⟩ := hp
      have p11 : u 11 = .bool (b1 && b2) := q0
      have p14 : u 14 = (bif (b1 && b2) then .bool b3 else undef) := q1
      cases b1 <;> cases b2 <;> (first | (first | exact step_on (wanted_free rfl) (ext_val hS (run_pickT rfl ((eval_in rfl hN rfl).trans p11) ((eval_in rfl hN rfl).trans p14)) rfl) | exact step_on (wanted_free rfl) (ext_val hS (run_pickF rfl ((eval_in rfl hN rfl).trans p11) rfl) rfl)))
    refine steps_cons ?_ ?_
    · intro u W hS hp
      obtain ⟨q0, q1, _⟩ := hp
      have p15 : u 15 = .bool ((b1 && b2) && b3) := q0
      exact step_on (wanted_free rfl) (ext_val hS (run_mv rfl ((eval_in rfl hN rfl).trans p15)) rfl)
    refine steps_cons ?_ ?_
    · intro u W hS hp
      obtain ⟨q0, _⟩ := hp
      have p16 : u 16 = .bool ((b1 && b2) && b3) := q0
      cases b1 <;> cases b2 <;> cases b3 <;> (first | exact step_off (wanted_off rfl rfl rfl hN rfl p16) rfl | exact step_off (wanted_undef rfl rfl rfl hN rfl p16) rfl | exact step_on (wanted_on rfl rfl rfl hN rfl p16) (ext_val hS (run_fa rfl ((eval_out rfl).trans rfl) (fa39_3 bA W)) rfl))
    refine steps_cons ?_ ?_
    · intro u W hS hp
      obtain ⟨q0, q1, _⟩ := hp
      have p17 : u 17 = (bif ((b1 && b2) && b3) then .pointer (some ⟨bA, 3, none⟩) else undef) := q0
      have p16 : u 16 = .bool ((b1 && b2) && b3) := q1
      cases b1 <;> cases b2 <;> cases b3 <;> (first | exact step_off (wanted_off rfl rfl rfl hN rfl p16) rfl | exact step_off (wanted_undef rfl rfl rfl hN rfl p16) rfl | exact step_on (wanted_on rfl rfl rfl hN rfl p16) (ext_val hS (run_ld rfl ((eval_in rfl hN rfl).trans p17) (ld_int ((cell_of_heap (hS.h (bA, g.arr, 23) (by simp))).trans (rfl : g.arr[3]? = some _)))) rfl))
    refine steps_cons ?_ ?_
    · intro u W hS hp
      obtain ⟨q0, q1, q2, _⟩ := hp
      have p18 : u 18 = (bif ((b1 && b2) && b3) then .int .i64 g.s else undef) := q0
      have p16 : u 16 = .bool ((b1 && b2) && b3) := q1
      cases b1 <;> cases b2 <;> cases b3 <;> (first | exact step_off (wanted_off rfl rfl rfl hN rfl p16) rfl | exact step_off (wanted_undef rfl rfl rfl hN rfl p16) rfl | exact step_on (wanted_on rfl rfl rfl hN rfl p16) (ext_call (run_call rfl rfl (map2 ((eval_in rfl hN rfl).trans p18) rfl) Tryz.func45 nm84 bd84) ((within_any g.s 4 W).mono fun _ _ ⟨e, h⟩ => ⟨_, e.trans (congrArg (fun x => Ending.returned (Value.bool x)) hb4), rfl, by rw [← h]; exact hS, by rw [← h]; exact Below.refl _ _⟩)))
    refine steps_cons ?_ ?_
    · intro u W hS hp
      obtain ⟨q0, q1, _⟩ := hp
      have p16 : u 16 = .bool ((b1 && b2) && b3) := q0
      have p19 : u 19 = (bif ((b1 && b2) && b3) then .bool b4 else undef) := q1
      cases b1 <;> cases b2 <;> cases b3 <;> (first | (first | exact step_on (wanted_free rfl) (ext_val hS (run_pickT rfl ((eval_in rfl hN rfl).trans p16) ((eval_in rfl hN rfl).trans p19)) rfl) | exact step_on (wanted_free rfl) (ext_val hS (run_pickF rfl ((eval_in rfl hN rfl).trans p16) rfl) rfl)))
    refine steps_cons ?_ ?_
    · intro u W hS hp
      obtain ⟨q0, q1, _⟩ := hp
      have p20 : u 20 = .bool (((b1 && b2) && b3) && b4) := q0
      exact step_on (wanted_free rfl) (ext_val hS (run_mv rfl ((eval_in rfl hN rfl).trans p20)) rfl)
    refine steps_cons ?_ ?_
    · intro u W hS hp
      obtain ⟨q0, _⟩ := hp
      have p21 : u 21 = .bool (((b1 && b2) && b3) && b4) := q0
      cases b1 <;> cases b2 <;> cases b3 <;> cases b4 <;> (first | exact step_off (wanted_off rfl rfl rfl hN rfl p21) rfl | exact step_off (wanted_undef rfl rfl rfl hN rfl p21) rfl | exact step_on (wanted_on rfl rfl rfl hN rfl p21) (ext_val hS (run_fa rfl ((eval_out rfl).trans rfl) (fa39_4 bA W)) rfl))
    refine steps_cons ?_ ?_
    · intro u W hS hp
      obtain ⟨q0, q1, _⟩ := hp
      have p22 : u 22 = (bif (((b1 && b2) && b3) && b4) then .pointer (some ⟨bA, 4, none⟩) else undef) := q0
      have p21 : u 21 = .bool (((b1 && b2) && b3) && b4) := q1
      cases b1 <;> cases b2 <;> cases b3 <;> cases b4 <;> (first | exact step_off (wanted_off rfl rfl rfl hN rfl p21) rfl | exact step_off (wanted_undef rfl rfl rfl hN rfl p21) rfl | exact step_on (wanted_on rfl rfl rfl hN rfl p21) (ext_val hS (run_ld rfl ((eval_in rfl hN rfl).trans p22) (ld_int ((cell_of_heap (hS.h (bA, g.arr, 23) (by simp))).trans (rfl : g.arr[4]? = some _)))) rfl))
    refine steps_cons ?_ ?_
    · intro u W hS hp
      obtain ⟨q0, q1, q2, _⟩ := hp
      have p23 : u 23 = (bif (((b1 && b2) && b3) && b4) then .int .i64 g.y else undef) := q0
      have p21 : u 21 = .bool (((b1 && b2) && b3) && b4) := q1
      cases b1 <;> cases b2 <;> cases b3 <;> cases b4 <;> (first | exact step_off (wanted_off rfl rfl rfl hN rfl p21) rfl | exact step_off (wanted_undef rfl rfl rfl hN rfl p21) rfl | exact step_on (wanted_on rfl rfl rfl hN rfl p21) (ext_call (run_call rfl rfl (map2 ((eval_in rfl hN rfl).trans p23) rfl) Tryz.func45 nm84 bd84) ((within_any g.y 4 W).mono fun _ _ ⟨e, h⟩ => ⟨_, e.trans (congrArg (fun x => Ending.returned (Value.bool x)) hb5), rfl, by rw [← h]; exact hS, by rw [← h]; exact Below.refl _ _⟩)))
    refine steps_cons ?_ ?_
    · intro u W hS hp
      obtain ⟨q0, q1, _⟩ := hp
      have p21 : u 21 = .bool (((b1 && b2) && b3) && b4) := q0
      have p24 : u 24 = (bif (((b1 && b2) && b3) && b4) then .bool b5 else undef) := q1
      cases b1 <;> cases b2 <;> cases b3 <;> cases b4 <;> (first | (first | exact step_on (wanted_free rfl) (ext_val hS (run_pickT rfl ((eval_in rfl hN rfl).trans p21) ((eval_in rfl hN rfl).trans p24)) rfl) | exact step_on (wanted_free rfl) (ext_val hS (run_pickF rfl ((eval_in rfl hN rfl).trans p21) rfl) rfl)))
    refine steps_cons ?_ ?_
    · intro u W hS hp
      obtain ⟨q0, q1, q2, q3, q4, q5, q6, q7, q8, q9, q10, q11, q12, q13, q14, q15, q16, q17, q18, q19, q20, q21, q22, q23, q24, _⟩ := hp
      have p25 : u 25 = .bool ((((b1 && b2) && b3) && b4) && b5) := q0
      exact step_on (wanted_free rfl) (ext_val hS (run_asg rfl ((eval_in rfl hN rfl).trans p25)) rfl)
    exact steps_nil
  · obtain ⟨_, _, _, _, _, _, _, _, _, _, _, _, _, _, _, _, _, _, _, _, _, _, q22, q23, _⟩ := hF
    have p25 : u 25 = .bool ((((b1 && b2) && b3) && b4) && b5) := q22
    have p2 : u 2 = .bool ((((b1 && b2) && b3) && b4) && b5) := q23
    simp only [frm, frmL, Nat.reduceAdd, p25, p2]
    clear p25 p2
    clear hb1 hb2 hb3 hb4 hb5 hbA
    go_wp2
    go_ret
    exact ⟨by rw [HR.out]; rfl, by rw [← HBA.out]; exact hS.b⟩
end Go.Proofs.YthllacodjeocmaaGreatDoor
