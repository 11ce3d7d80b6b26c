/- A message is valid. -/
import Derived.Test.YthllacodjeocmaaGreatDoorU14
namespace Go.Proofs.YthllacodjeocmaaGreatDoor
open Go.RowKit
attribute [local go_sem] Oper.semAt_some
theorem known13 {k : UInt8} (h : knownB k = true) : k.toNat < 13 := (of_decide_eq_true h).2
def rightB (m : Mg) (g : Ge) : Bool := (((g.ok && decide ((m.l.toNat : Int) < ((g.lines : Nat) : Int))) && knownB m.k) && wayB m g) && restB m g
theorem bld63 (m : Mg) (W : World) : (Instr.build 42 #[(0, .agg (boxOf m))]).run Tryz.prog W = .ok (.agg (boxOf m)) W := by kernel_rfl
theorem St.newboxT {bs : List (Nat × Array Value × TypeId)} {w W W' : World} {C C' : Array Value} {T : TypeId} (h : St bs w W) (ho : OnlyC W.heap.size (W.alloc (.cells C T)) W') (hn : W'.heap[W.heap.size]? = some (.cells C' T)) : St ((W.heap.size, C', T) :: bs) w W' :=
  (h.alloc C T).only ho h.b.size h.g.g.size (fun x hx e => by have := blk_lt (h.h x hx); omega) hn
set_option maxHeartbeats 8000000 in
set_option maxRecDepth 100000 in
theorem right_any (m : Mg) (g : Ge) (w : World) (hG : GlobM w) : Calls Tryz.prog 8 #[.agg g.arr, .agg (boxOf m)] w fun e w' => e = .returned (.bool (rightB m g)) ∧ Below w.heap.size w w' := by
  have HS0 := Lib.hid (((St.start hG).boxT g.arr 23 rfl).boxT (boxOf m) 27 rfl)
  obtain ⟨bB, hbB⟩ : ∃ b, (w.alloc (.cells g.arr 23)).heap.size = b := ⟨_, rfl⟩
  rw [hbB] at HS0
  generalize hbA : w.heap.size = bA at HS0
  have HBA := Lib.hid hbA
  obtain ⟨r, hr⟩ : ∃ r, rightB m g = r := ⟨_, rfl⟩
  obtain ⟨ok, hok⟩ : ∃ b, g.ok = b := ⟨_, rfl⟩
  obtain ⟨ll, hll⟩ : ∃ b, decide ((m.l.toNat : Int) < ((g.lines : Nat) : Int)) = b := ⟨_, rfl⟩
  obtain ⟨kn, hkn⟩ : ∃ b, knownB m.k = b := ⟨_, rfl⟩
  obtain ⟨wy, hwy⟩ : ∃ b, wayB m g = b := ⟨_, rfl⟩
  obtain ⟨rs, hrs⟩ : ∃ b, restB m g = b := ⟨_, rfl⟩
  have HR : Hid (r = ((((ok && ll) && kn) && wy) && rs)) := by show _ = _; rw [← hr]; unfold rightB; rw [hok, hll, hkn, hwy, hrs]
  rw [hr]
  have H1 := Lib.hid hok
  have H2 := Lib.hid hll
  have H3 := Lib.hid hkn
  have H4 := Lib.hid hwy
  have H5 := Lib.hid hrs
  clear hr hG hok hll hkn hwy hrs
  go_enter Tryz.func8, Tryz.ntmps8
  go_upto_region 2 with (first | (refine wpl_box rfl 23 (.tmp 0) rfl g.arr rfl ?_; rw [hbA]; intro w0 hw0) | (refine wpl_box rfl 27 (.tmp 1) rfl (boxOf m) rfl ?_; rw [show w0.heap.size = bB from by rw [hw0.out]; exact hbB]; intro w1 hw1; have HS1 := (show Hid (St [(bB, boxOf m, 27), (bA, g.arr, 23)] w w1) from by show St _ _ _; rw [hw1.out, hw0.out]; exact HS0.out); clear hw1 hw0 HS0 hbA hbB) | (refine wpl_ld25 rfl (.tmp 3) rfl bB m rfl (HS1.out.h (bB, boxOf m, 27) (by simp)) ?_) | (refine wpl_val rfl (run_bld1 (T := 42) (x := .tmp 6) (v := .agg (boxOf m)) (r := .agg (boxOf m)) rfl rfl (bld63 m _)) ?_) | (refine wpl_store rfl 42 (.tmp 5) (.tmp 7) rfl w1.heap.size _ (boxOf m) rfl rfl (heap_alloc_new w1 _) rfl (by rw [msgSize63]; rfl) (box_one m) ?_; intro w2 ho2 hn2; have HS2 := Lib.hid (HS1.out.newboxT ho2 hn2); clear ho2 hn2; generalize w1.heap.size = bC at HS2 ⊢; clear HS1) | fail)
  have hok := H1.out
  have hll := H2.out
  have hkn := H3.out
  have hwy := H4.out
  have hrs := H5.out
  clear H1 H2 H3 H4 H5
  refine region_all (D := [false, false, false, false, true, false, false, false, true, true, true, true, true, true, true, true, true, true, true, true, true, true, true, true, true, true, true, true, true, true, true, true]) (S := fun W => St [(bC, boxOf m, 42), (bB, boxOf m, 27), (bA, g.arr, 23)] w W) (R := RB) (F := FF [isV (.agg g.arr), isV (.bool ok), isV (.bool ok), isV ((bif ok then .pointer (some ⟨bB, 3, none⟩) else undef)), isV ((bif ok then .int .u8 m.l.toNat else undef)), isV ((bif ok then .int .i64 m.l.toNat else undef)), isV ((bif ok then .agg g.arr else undef)), isV ((bif ok then .int .i64 (g.lines : Nat) else undef)), isV ((bif ok then .bool ll else undef)), isV (.bool (ok && ll)), isV (.bool (ok && ll)), isV ((bif (ok && ll) then .agg (boxOf m) else undef)), isV ((bif (ok && ll) then .bool kn else undef)), isV (.bool ((ok && ll) && kn)), isV (.bool ((ok && ll) && kn)), isV ((bif ((ok && ll) && kn) then .agg (boxOf m) else undef)), isV ((bif ((ok && ll) && kn) then .agg g.arr else undef)), isV ((bif ((ok && ll) && kn) then .bool wy else undef)), isV (.bool (((ok && ll) && kn) && wy)), isV (.bool (((ok && ll) && kn) && wy)), isV ((bif (((ok && ll) && kn) && wy) then .agg (boxOf m) else undef)), isV ((bif (((ok && ll) && kn) && wy) then .agg g.arr else undef)), isV ((bif (((ok && ll) && kn) && wy) then .bool rs else undef)), isV (.bool ((((ok && ll) && kn) && wy) && rs)), isV (.bool ((((ok && ll) && kn) && wy) && rs))]) rfl mo (by kernel_rfl) (FF_st _ _) HS2.out.drew (fun hN => ?_) (fun u W hS hF => ?_)
  · refine steps_cons ?_ ?_
    · intro u W hS hp
      exact step_on (wanted_free rfl) (ext_val hS (run_ld rfl ((eval_out rfl).trans rfl) (ld39 (hS.h (bA, g.arr, 23) (by simp)))) rfl)
    refine steps_cons ?_ ?_
    · intro u W hS hp
      obtain ⟨q0, _⟩ := hp
      have p8 : u 8 = .agg g.arr := q0
      exact step_on (wanted_free rfl) (ext_call (run_call rfl rfl (map1 ((eval_in rfl hN rfl).trans p8)) Tryz.func18 nm21 bd21) ((gright_any g W).mono fun _ _ ⟨e, h⟩ => ⟨_, e.trans (congrArg (fun x => Ending.returned (Value.bool x)) hok), rfl, hS.next h, h⟩))
    refine steps_cons ?_ ?_
    · intro u W hS hp
      obtain ⟨q0, q1, _⟩ := hp
      have p9 : u 9 = .bool ok := q0
      exact step_on (wanted_free rfl) (ext_val hS (run_mv rfl ((eval_in rfl hN rfl).trans p9)) rfl)
    refine steps_cons ?_ ?_
    · intro u W hS hp
      obtain ⟨q0, _⟩ := hp
      have p10 : u 10 = .bool ok := q0
      cases ok <;> (first | exact step_off (wanted_off rfl rfl rfl hN rfl p10) rfl | exact step_off (wanted_undef rfl rfl rfl hN rfl p10) rfl | exact step_on (wanted_on rfl rfl rfl hN rfl p10) (ext_val hS (run_fa rfl ((eval_out rfl).trans rfl) (fa25_3 bB)) rfl))
    refine steps_cons ?_ ?_
    · intro u W hS hp
      obtain ⟨q0, q1, _⟩ := hp
      have p11 : u 11 = (bif ok then .pointer (some ⟨bB, 3, none⟩) else undef) := q0
      have p10 : u 10 = .bool ok := q1
      cases ok <;> (first | exact step_off (wanted_off rfl rfl rfl hN rfl p10) rfl | exact step_off (wanted_undef rfl rfl rfl hN rfl p10) rfl | exact step_on (wanted_on rfl rfl rfl hN rfl p10) (ext_val hS (run_ld rfl ((eval_in rfl hN rfl).trans p11) (ld_u8 ((cell_of_heap (hS.h (bB, boxOf m, 27) (by simp))).trans (rfl : (boxOf m)[3]? = some _)))) rfl))
    refine steps_cons ?_ ?_
    · intro u W hS hp
      obtain ⟨q0, q1, _⟩ := hp
      have p12 : u 12 = (bif ok then .int .u8 m.l.toNat else undef) := q0
      have p10 : u 10 = .bool ok := q1
      cases ok <;> (first | exact step_off (wanted_off rfl rfl rfl hN rfl p10) rfl | exact step_off (wanted_undef rfl rfl rfl hN rfl p10) rfl | exact step_on (wanted_on rfl rfl rfl hN rfl p10) (ext_val hS (run_conv rfl ((eval_in rfl hN rfl).trans p12) (conv53 (by omega) (by have := m.l.toNat_lt; omega))) rfl))
    refine steps_cons ?_ ?_
    · intro u W hS hp
      obtain ⟨q0, _⟩ := hp
      have p10 : u 10 = .bool ok := q0
      cases ok <;> (first | exact step_off (wanted_off rfl rfl rfl hN rfl p10) rfl | exact step_off (wanted_undef rfl rfl rfl hN rfl p10) rfl | exact step_on (wanted_on rfl rfl rfl hN rfl p10) (ext_val hS (run_ld rfl ((eval_out rfl).trans rfl) (ld39 (hS.h (bA, g.arr, 23) (by simp)))) rfl))
    refine steps_cons ?_ ?_
    · intro u W hS hp
      obtain ⟨q0, q1, q2, _⟩ := hp
      have p14 : u 14 = (bif ok then .agg g.arr else undef) := q0
      have p10 : u 10 = .bool ok := q1
      cases ok <;> (first | exact step_off (wanted_off rfl rfl rfl hN rfl p10) rfl | exact step_off (wanted_undef rfl rfl rfl hN rfl p10) rfl | exact step_on (wanted_on rfl rfl rfl hN rfl p10) (ext_call (run_call rfl rfl (map1 ((eval_in rfl hN rfl).trans p14)) Tryz.func19 nm41 bd41) ((glines_any g W).mono fun _ _ ⟨e, h⟩ => ⟨_, e, rfl, hS.next h, h⟩)))
    refine steps_cons ?_ ?_
    · intro u W hS hp
      obtain ⟨q0, q1, q2, _⟩ := hp
      have p13 : u 13 = (bif ok then .int .i64 m.l.toNat else undef) := q0
      have p15 : u 15 = (bif ok then .int .i64 (g.lines : Nat) else undef) := q1
      have p10 : u 10 = .bool ok := q2
      cases ok <;> (first | exact step_off (wanted_off rfl rfl rfl hN rfl p10) rfl | exact step_off (wanted_undef rfl rfl rfl hN rfl p10) rfl | exact step_on (wanted_on rfl rfl rfl hN rfl p10) (ext_val hS (run_bin rfl ((eval_in rfl hN rfl).trans p13) ((eval_in rfl hN rfl).trans p15) rfl (i_lss hll)) rfl))
    refine steps_cons ?_ ?_
    · intro u W hS hp
      obtain ⟨q0, q1, _⟩ := hp
      have p10 : u 10 = .bool ok := q0
      have p16 : u 16 = (bif ok then .bool ll else undef) := q1
      cases ok <;> (first | (first | exact step_on (wanted_free rfl) (ext_val hS (run_pickT rfl ((eval_in rfl hN rfl).trans p10) ((eval_in rfl hN rfl).trans p16)) rfl) | exact step_on (wanted_free rfl) (ext_val hS (run_pickF rfl ((eval_in rfl hN rfl).trans p10) rfl) rfl)))
    refine steps_cons ?_ ?_
    · intro u W hS hp
      obtain ⟨q0, q1, _⟩ := hp
      have p17 : u 17 = .bool (ok && ll) := q0
      exact step_on (wanted_free rfl) (ext_val hS (run_mv rfl ((eval_in rfl hN rfl).trans p17)) rfl)
    refine steps_cons ?_ ?_
    · intro u W hS hp
      obtain ⟨q0, _⟩ := hp
      have p18 : u 18 = .bool (ok && ll) := q0
      cases ll <;> cases ok <;> (first | exact step_off (wanted_off rfl rfl rfl hN rfl p18) rfl | exact step_off (wanted_undef rfl rfl rfl hN rfl p18) rfl | exact step_on (wanted_on rfl rfl rfl hN rfl p18) (ext_val hS (run_ld rfl ((eval_out rfl).trans rfl) (ld63 (hS.h (bC, boxOf m, 42) (by simp)))) rfl))
    refine steps_cons ?_ ?_
    · intro u W hS hp
      obtain ⟨q0, q1, q2, _⟩ := hp
      have p19 : u 19 = (bif (ok && ll) then .agg (boxOf m) else undef) := q0
      have p18 : u 18 = .bool (ok && ll) := q1
      cases ll <;> cases ok <;> (first | exact step_off (wanted_off rfl rfl rfl hN rfl p18) rfl | exact step_off (wanted_undef rfl rfl rfl hN rfl p18) rfl | exact step_on (wanted_on rfl rfl rfl hN rfl p18) (ext_call (run_call rfl rfl (map1 ((eval_in rfl hN rfl).trans p19)) Tryz.func20 nm35 bd35) ((known_any m W).mono fun _ _ ⟨e, h⟩ => ⟨_, e.trans (congrArg (fun x => Ending.returned (Value.bool x)) hkn), rfl, hS.next h, h⟩)))
    refine steps_cons ?_ ?_
    · intro u W hS hp
      obtain ⟨q0, q1, _⟩ := hp
      have p18 : u 18 = .bool (ok && ll) := q0
      have p20 : u 20 = (bif (ok && ll) then .bool kn else undef) := q1
      cases ll <;> cases ok <;> (first | (first | exact step_on (wanted_free rfl) (ext_val hS (run_pickT rfl ((eval_in rfl hN rfl).trans p18) ((eval_in rfl hN rfl).trans p20)) rfl) | exact step_on (wanted_free rfl) (ext_val hS (run_pickF rfl ((eval_in rfl hN rfl).trans p18) rfl) rfl)))
    refine steps_cons ?_ ?_
    · intro u W hS hp
      obtain ⟨q0, q1, _⟩ := hp
      have p21 : u 21 = .bool ((ok && ll) && kn) := q0
      exact step_on (wanted_free rfl) (ext_val hS (run_mv rfl ((eval_in rfl hN rfl).trans p21)) rfl)
    refine steps_cons ?_ ?_
    · intro u W hS hp
      obtain ⟨q0, _⟩ := hp
      have p22 : u 22 = .bool ((ok && ll) && kn) := q0
      cases kn <;> cases ll <;> cases ok <;> (first | exact step_off (wanted_off rfl rfl rfl hN rfl p22) rfl | exact step_off (wanted_undef rfl rfl rfl hN rfl p22) rfl | exact step_on (wanted_on rfl rfl rfl hN rfl p22) (ext_val hS (run_ld rfl ((eval_out rfl).trans rfl) (ld63 (hS.h (bC, boxOf m, 42) (by simp)))) rfl))
    refine steps_cons ?_ ?_
    · intro u W hS hp
      obtain ⟨q0, _⟩ := hp
      have p22 : u 22 = .bool ((ok && ll) && kn) := q0
      cases kn <;> cases ll <;> cases ok <;> (first | exact step_off (wanted_off rfl rfl rfl hN rfl p22) rfl | exact step_off (wanted_undef rfl rfl rfl hN rfl p22) rfl | exact step_on (wanted_on rfl rfl rfl hN rfl p22) (ext_val hS (run_ld rfl ((eval_out rfl).trans rfl) (ld39 (hS.h (bA, g.arr, 23) (by simp)))) rfl))
    refine steps_cons ?_ ?_
    · intro u W hS hp
      obtain ⟨q0, q1, q2, q3, _⟩ := hp
      have p23 : u 23 = (bif ((ok && ll) && kn) then .agg (boxOf m) else undef) := q0
      have p24 : u 24 = (bif ((ok && ll) && kn) then .agg g.arr else undef) := q1
      have p22 : u 22 = .bool ((ok && ll) && kn) := q2
      cases kn <;> cases ll <;> cases ok <;> (first | exact step_off (wanted_off rfl rfl rfl hN rfl p22) rfl | exact step_off (wanted_undef rfl rfl rfl hN rfl p22) rfl | exact step_on (wanted_on rfl rfl rfl hN rfl p22) (ext_call (run_call rfl rfl (map2 ((eval_in rfl hN rfl).trans p23) ((eval_in rfl hN rfl).trans p24)) Tryz.func21 nm42 bd42) ((way_any m g (known13 hkn) W hS.g).mono fun _ _ ⟨e, h⟩ => ⟨_, e.trans (congrArg (fun x => Ending.returned (Value.bool x)) hwy), rfl, hS.next h, h⟩)))
    refine steps_cons ?_ ?_
    · intro u W hS hp
      obtain ⟨q0, q1, _⟩ := hp
      have p22 : u 22 = .bool ((ok && ll) && kn) := q0
      have p25 : u 25 = (bif ((ok && ll) && kn) then .bool wy else undef) := q1
      cases kn <;> cases ll <;> cases ok <;> (first | (first | exact step_on (wanted_free rfl) (ext_val hS (run_pickT rfl ((eval_in rfl hN rfl).trans p22) ((eval_in rfl hN rfl).trans p25)) rfl) | exact step_on (wanted_free rfl) (ext_val hS (run_pickF rfl ((eval_in rfl hN rfl).trans p22) rfl) rfl)))
    refine steps_cons ?_ ?_
    · intro u W hS hp
      obtain ⟨q0, q1, _⟩ := hp
      have p26 : u 26 = .bool (((ok && ll) && kn) && wy) := q0
      exact step_on (wanted_free rfl) (ext_val hS (run_mv rfl ((eval_in rfl hN rfl).trans p26)) rfl)
    refine steps_cons ?_ ?_
    · intro u W hS hp
      obtain ⟨q0, _⟩ := hp
      have p27 : u 27 = .bool (((ok && ll) && kn) && wy) := q0
      cases kn <;> cases ll <;> cases ok <;> cases wy <;> (first | exact step_off (wanted_off rfl rfl rfl hN rfl p27) rfl | exact step_off (wanted_undef rfl rfl rfl hN rfl p27) rfl | exact step_on (wanted_on rfl rfl rfl hN rfl p27) (ext_val hS (run_ld rfl ((eval_out rfl).trans rfl) (ld63 (hS.h (bC, boxOf m, 42) (by simp)))) rfl))
    refine steps_cons ?_ ?_
    · intro u W hS hp
      obtain ⟨q0, _⟩ := hp
      have p27 : u 27 = .bool (((ok && ll) && kn) && wy) := q0
      cases kn <;> cases ll <;> cases ok <;> cases wy <;> (first | exact step_off (wanted_off rfl rfl rfl hN rfl p27) rfl | exact step_off (wanted_undef rfl rfl rfl hN rfl p27) rfl | exact step_on (wanted_on rfl rfl rfl hN rfl p27) (ext_val hS (run_ld rfl ((eval_out rfl).trans rfl) (ld39 (hS.h (bA, g.arr, 23) (by simp)))) rfl))
    refine steps_cons ?_ ?_
    · intro u W hS hp
      obtain ⟨q0, q1, q2, q3, _⟩ := hp
      have p28 : u 28 = (bif (((ok && ll) && kn) && wy) then .agg (boxOf m) else undef) := q0
      have p29 : u 29 = (bif (((ok && ll) && kn) && wy) then .agg g.arr else undef) := q1
      have p27 : u 27 = .bool (((ok && ll) && kn) && wy) := q2
      cases kn <;> cases ll <;> cases ok <;> cases wy <;> (first | exact step_off (wanted_off rfl rfl rfl hN rfl p27) rfl | exact step_off (wanted_undef rfl rfl rfl hN rfl p27) rfl | exact step_on (wanted_on rfl rfl rfl hN rfl p27) (ext_call (run_call rfl rfl (map2 ((eval_in rfl hN rfl).trans p28) ((eval_in rfl hN rfl).trans p29)) Tryz.func22 nm43 bd43) ((rest_any m g (known13 hkn) hok W hS.g).mono fun _ _ ⟨e, h⟩ => ⟨_, e.trans (congrArg (fun x => Ending.returned (Value.bool x)) hrs), rfl, hS.next h, h⟩)))
    refine steps_cons ?_ ?_
    · intro u W hS hp
      obtain ⟨q0, q1, _⟩ := hp
      have p27 : u 27 = .bool (((ok && ll) && kn) && wy) := q0
      have p30 : u 30 = (bif (((ok && ll) && kn) && wy) then .bool rs else undef) := q1
      cases kn <;> cases ll <;> cases ok <;> cases wy <;> (first | (first | exact step_on (wanted_free rfl) (ext_val hS (run_pickT rfl ((eval_in rfl hN rfl).trans p27) ((eval_in rfl hN rfl).trans p30)) rfl) | exact step_on (wanted_free rfl) (ext_val hS (run_pickF rfl ((eval_in rfl hN rfl).trans p27) rfl) rfl)))
    refine steps_cons ?_ ?_
    · intro u W hS hp
      obtain ⟨q0, q1, q2, q3, q4, q5, q6, q7, q8, q9, q10, q11, q12, q13, q14, q15, q16, q17, q18, q19, q20, q21, q22, q23, q24, q25, _⟩ := hp
      have p31 : u 31 = .bool ((((ok && ll) && kn) && wy) && rs) := q0
      exact step_on (wanted_free rfl) (ext_val hS (run_asg rfl ((eval_in rfl hN rfl).trans p31)) rfl)
    exact steps_nil
  · obtain ⟨_, _, _, _, _, _, _, _, _, _, _, _, _, _, _, _, _, _, _, _, _, _, _, _, q24, _⟩ := hF
    have p4 : u 4 = .bool ((((ok && ll) && kn) && wy) && rs) := q24
    simp only [frm, frmL, Nat.reduceAdd, p4]
    clear p4
    go_wp2
    go_ret
    exact ⟨by rw [HR.out]; rfl, by rw [← HBA.out]; exact hS.b⟩
end Go.Proofs.YthllacodjeocmaaGreatDoor
