/- Validity in the reference. -/
import Derived.Test.YthllacodjeocmaaGreatDoorU14
namespace Go.Proofs.YthllacodjeocmaaGreatDoor
open Go.RowKit
attribute [local go_sem] Oper.semAt_some
def rcacheB (m : Mg) (g : Ge) : Bool := g.isCache m.f.toNat && ((m.t.toNat : Int) == (g.home m.l.toNat : Int))
def rfromB (m : Mg) (g : Ge) : Bool := ((m.f.toNat : Int) == (g.home m.l.toNat : Int)) && g.isCache m.t.toNat
def rbetweenB (m : Mg) (g : Ge) : Bool := (g.isCache m.f.toNat && g.isCache m.t.toNat) && ((m.f.toNat : Int) != (m.t.toNat : Int))
def rwayB (m : Mg) (g : Ge) : Bool := bif decide ((1 : Int) ≤ (m.k.toNat : Int)) && decide ((m.k.toNat : Int) ≤ 5) then rcacheB m g else bif ((decide ((6 : Int) ≤ (m.k.toNat : Int)) && decide ((m.k.toNat : Int) ≤ 9)) || ((m.k.toNat : Int) == 11)) then rfromB m g else bif ((m.k.toNat : Int) == 10) then (rfromB m g || rbetweenB m g) else (((m.k.toNat : Int) == 12) && rbetweenB m g)
def raskerB (m : Mg) (g : Ge) : Bool := bif decide ((6 : Int) ≤ (m.k.toNat : Int)) && decide ((m.k.toNat : Int) ≤ 8) then (g.isCache m.a.toNat && ((m.a.toNat : Int) != (m.t.toNat : Int))) else ((m.a.toNat : Int) == 0)
def racksB (m : Mg) (g : Ge) : Bool := ((m.c.toNat : Int) == 0) || (decide ((m.c.toNat : Int) < g.c) && ((((m.k.toNat : Int) == 7) || ((m.k.toNat : Int) == 10)) || ((m.k.toNat : Int) == 11)))
def raloneB (m : Mg) (g : Ge) : Bool := !m.al || (((m.k.toNat : Int) == 10) && rfromB m g)
def rdata0 (m : Mg) : Bool := ((decide (m.d0 = 0 ∧ m.d1 = 0 ∧ m.d2 = 0 ∧ m.d3 = 0) || ((m.k.toNat : Int) == 3)) || ((m.k.toNat : Int) == 5)) || ((m.k.toNat : Int) == 10)
def Mg.dAt (m : Mg) : Nat → UInt8
  | 0 => m.d0
  | 1 => m.d1
  | 2 => m.d2
  | _ => m.d3
def Mg.zr (m : Mg) (n : Nat) : Nat → Bool
  | 0 => true
  | j + 1 => m.zr n j && (decide (j < n) || (((m.dAt j).toNat : Int) == 0))
theorem zr_start (m : Mg) (n : Nat) : ∀ j, j ≤ n → m.zr n j = true
  | 0, _ => rfl
  | j + 1, h => by
    show (m.zr n j && (decide (j < n) || _)) = true
    rw [zr_start m n j (by omega), decide_eq_true (by omega : j < n)]
    rfl
theorem zr_step (m : Mg) {n j : Nat} (h : n ≤ j) : m.zr n (j + 1) = (m.zr n j && (((m.dAt j).toNat : Int) == 0)) := by
  show (m.zr n j && (decide (j < n) || _)) = _
  rw [decide_eq_false (by omega : ¬ j < n)]
  rfl
def rrightB (m : Mg) (g : Ge) : Bool := !(!g.ok || decide (((g.lines : Nat) : Int) ≤ (m.l.toNat : Int))) && ((((rwayB m g && raskerB m g) && racksB m g) && raloneB m g) && (rdata0 m && m.zr g.w.toNat 4))
theorem fa25_7u {W : World} (b : Nat) : (Instr.fieldAt 27 (.pointer (some ⟨b, 0, none⟩)) 7).run Tryz.prog W = .ok (.pointer (some ⟨b, 7, none⟩)) W := by kernel_rfl
theorem dataSize : (Tryz.prog.info? 25).map (·.size) = some 4 := by kernel_rfl
theorem ld23 {W : World} {b T : Nat} {m : Mg} (h : W.heap[b]? = some (.cells (boxOf m) T)) : (loadVar 25 ⟨b, 7, none⟩).run Tryz.prog W = .ok (.agg #[.int .u8 m.d0.toNat, .int .u8 m.d1.toNat, .int .u8 m.d2.toNat, .int .u8 m.d3.toNat]) W :=
  run_loadVar_mid W b 7 25 [.int .u8 m.d0.toNat, .int .u8 m.d1.toNat, .int .u8 m.d2.toNat, .int .u8 m.d3.toNat] _ (World.rangeAt_of_block h 7 4) Tryz.underlying25 rfl (by rw [dataSize]; rfl)
theorem ld_bl {W : World} {p : Addr} {v : Value} (h : W.cell? p = some v) : (loadVar 4 p).run Tryz.prog W = .ok v W := by simp [loadVar, isAgg, go_sem, h]
theorem bld23 (W : World) : (Instr.build 25 #[]).run Tryz.prog W = .ok (.agg #[.int .u8 0, .int .u8 0, .int .u8 0, .int .u8 0]) W := by kernel_rfl
theorem eg23 (op : BinOp) (x y : Operand) (A B : Array Value) (W : World) : (eqGuard op 25 x y (.agg A) (.agg B)).run Tryz.prog W = .ok () W := by
  have h : Tryz.prog.eqGuardType Tryz.prog.depth 25 = false := by kernel_rfl
  cases op <;> simp [eqGuard, go_sem, h]
theorem eqD {a b c d : UInt8} {e : Bool} {W : World} (h : decide (a = 0 ∧ b = 0 ∧ c = 0 ∧ d = 0) = e) : (binOp .eql 25 (.agg #[.int .u8 a.toNat, .int .u8 b.toNat, .int .u8 c.toNat, .int .u8 d.toNat]) (.agg #[.int .u8 0, .int .u8 0, .int .u8 0, .int .u8 0])).run Tryz.prog W = .ok (.bool e) W := by
  have hq : Sem.run Tryz.prog (Op.equalIn 10000 25 (.agg #[.int .u8 a.toNat, .int .u8 b.toNat, .int .u8 c.toNat, .int .u8 d.toNat]) (.agg #[.int .u8 0, .int .u8 0, .int .u8 0, .int .u8 0])) W = .ok e W := by rw [← h]; exact eq_data W a b c d 0 0 0 0
  have hq2 : Sem.run Tryz.prog (Op.equalIn Op.maxDepth 25 (.agg #[.int .u8 a.toNat, .int .u8 b.toNat, .int .u8 c.toNat, .int .u8 d.toNat]) (.agg #[.int .u8 0, .int .u8 0, .int .u8 0, .int .u8 0])) W = .ok e W := hq
  simp [binOp, Op.equal, go_sem, hq2]
theorem ia23_1 (b : Nat) (W : World) : (Instr.indexAt 25 (.pointer (some ⟨b, 7, none⟩)) (.int .i64 1)).run Tryz.prog W = .ok (.pointer (some ⟨b, 8, none⟩)) W := by kernel_rfl
theorem ia23_2 (b : Nat) (W : World) : (Instr.indexAt 25 (.pointer (some ⟨b, 7, none⟩)) (.int .i64 2)).run Tryz.prog W = .ok (.pointer (some ⟨b, 9, none⟩)) W := by kernel_rfl
theorem ia23_3 (b : Nat) (W : World) : (Instr.indexAt 25 (.pointer (some ⟨b, 7, none⟩)) (.int .i64 3)).run Tryz.prog W = .ok (.pointer (some ⟨b, 10, none⟩)) W := by kernel_rfl
set_option maxHeartbeats 8000000 in
set_option maxRecDepth 100000 in
theorem rright_any (m : Mg) (g : Ge) (w : World) (hG : GlobM w) : Calls Tryz.prog 9 #[.agg g.arr, .agg (boxOf m)] w fun e w' => e = .returned (.bool (rrightB m g)) ∧ Below w.heap.size w w' := by
  have HS0 := Lib.hid (((St.start hG).boxT g.arr 23 rfl).boxT (boxOf m) 27 rfl)
  obtain ⟨bB, hbB⟩ : ∃ b, (w.alloc (.cells g.arr 23)).heap.size = b := ⟨_, rfl⟩
  rw [hbB] at HS0
  generalize hbA : w.heap.size = bA at HS0
  have HBA := Lib.hid hbA
  have hk256 := m.k.toNat_lt
  obtain ⟨r, hr⟩ : ∃ r, rrightB m g = r := ⟨_, rfl⟩
  obtain ⟨wy, hwy⟩ : ∃ r, rwayB m g = r := ⟨_, rfl⟩
  obtain ⟨ak, hak⟩ : ∃ r, raskerB m g = r := ⟨_, rfl⟩
  obtain ⟨ac, hac⟩ : ∃ r, racksB m g = r := ⟨_, rfl⟩
  obtain ⟨al, hal⟩ : ∃ r, raloneB m g = r := ⟨_, rfl⟩
  obtain ⟨xc, hxc⟩ : ∃ r, rcacheB m g = r := ⟨_, rfl⟩
  obtain ⟨xh, hxh⟩ : ∃ r, rfromB m g = r := ⟨_, rfl⟩
  obtain ⟨xb, hxb⟩ : ∃ r, rbetweenB m g = r := ⟨_, rfl⟩
  obtain ⟨d0, hd0⟩ : ∃ r, rdata0 m = r := ⟨_, rfl⟩
  obtain ⟨ok, hok⟩ : ∃ b, g.ok = b := ⟨_, rfl⟩
  obtain ⟨gl, hgl⟩ : ∃ b, decide (((g.lines : Nat) : Int) ≤ (m.l.toNat : Int)) = b := ⟨_, rfl⟩
  obtain ⟨cf, hcf⟩ : ∃ b, g.isCache m.f.toNat = b := ⟨_, rfl⟩
  obtain ⟨ct, hct⟩ : ∃ b, g.isCache m.t.toNat = b := ⟨_, rfl⟩
  obtain ⟨ca, hca⟩ : ∃ b, g.isCache m.a.toNat = b := ⟨_, rfl⟩
  obtain ⟨qf, hqf⟩ : ∃ b, ((m.f.toNat : Int) == (g.home m.l.toNat : Int)) = b := ⟨_, rfl⟩
  obtain ⟨qt, hqt⟩ : ∃ b, ((m.t.toNat : Int) == (g.home m.l.toNat : Int)) = b := ⟨_, rfl⟩
  obtain ⟨ne, hne⟩ : ∃ b, ((m.f.toNat : Int) != (m.t.toNat : Int)) = b := ⟨_, rfl⟩
  obtain ⟨na, hna⟩ : ∃ b, ((m.a.toNat : Int) != (m.t.toNat : Int)) = b := ⟨_, rfl⟩
  obtain ⟨a0, ha0⟩ : ∃ b, ((m.a.toNat : Int) == 0) = b := ⟨_, rfl⟩
  obtain ⟨c0, hc0⟩ : ∃ b, ((m.c.toNat : Int) == 0) = b := ⟨_, rfl⟩
  obtain ⟨lc, hlc⟩ : ∃ b, decide ((m.c.toNat : Int) < g.c) = b := ⟨_, rfl⟩
  obtain ⟨t1, ht1⟩ : ∃ b, decide ((1 : Int) ≤ (m.k.toNat : Int)) = b := ⟨_, rfl⟩
  obtain ⟨t5, ht5⟩ : ∃ b, decide ((m.k.toNat : Int) ≤ 5) = b := ⟨_, rfl⟩
  obtain ⟨t6, ht6⟩ : ∃ b, decide ((6 : Int) ≤ (m.k.toNat : Int)) = b := ⟨_, rfl⟩
  obtain ⟨t8, ht8⟩ : ∃ b, decide ((m.k.toNat : Int) ≤ 8) = b := ⟨_, rfl⟩
  obtain ⟨t9, ht9⟩ : ∃ b, decide ((m.k.toNat : Int) ≤ 9) = b := ⟨_, rfl⟩
  obtain ⟨e3, he3⟩ : ∃ b, ((m.k.toNat : Int) == 3) = b := ⟨_, rfl⟩
  obtain ⟨e5, he5⟩ : ∃ b, ((m.k.toNat : Int) == 5) = b := ⟨_, rfl⟩
  obtain ⟨e7, he7⟩ : ∃ b, ((m.k.toNat : Int) == 7) = b := ⟨_, rfl⟩
  obtain ⟨e10, he10⟩ : ∃ b, ((m.k.toNat : Int) == 10) = b := ⟨_, rfl⟩
  obtain ⟨e11, he11⟩ : ∃ b, ((m.k.toNat : Int) == 11) = b := ⟨_, rfl⟩
  obtain ⟨e12, he12⟩ : ∃ b, ((m.k.toNat : Int) == 12) = b := ⟨_, rfl⟩
  obtain ⟨b0, hb0⟩ : ∃ b, m.al = b := ⟨_, rfl⟩
  obtain ⟨z, hz⟩ : ∃ b, decide (m.d0 = 0 ∧ m.d1 = 0 ∧ m.d2 = 0 ∧ m.d3 = 0) = b := ⟨_, rfl⟩
  have HR : Hid (r = (!(!ok || gl) && ((((wy && ak) && ac) && al) && (d0 && m.zr g.w.toNat 4)))) := by show _ = _; rw [← hr]; unfold rrightB; rw [hok, hgl, hwy, hak, hac, hal, hd0]
  unfold rwayB at hwy
  unfold raskerB at hak
  unfold racksB at hac
  unfold raloneB at hal
  rw [hxc, hxh, hxb, ht1, ht5, ht6, ht9, he11, he10, he12] at hwy
  rw [ht6, ht8, hca, hna, ha0] at hak
  rw [hc0, hlc, he7, he10, he11] at hac
  rw [hb0, he10, hxh] at hal
  unfold rcacheB at hxc
  unfold rfromB at hxh
  unfold rbetweenB at hxb
  unfold rdata0 at hd0
  rw [hcf, hqt] at hxc
  rw [hqf, hct] at hxh
  rw [hcf, hct, hne] at hxb
  rw [hz, he3, he5, he10] at hd0
  rw [hr]
  obtain ⟨hm, hhm⟩ : ∃ hm, g.home m.l.toNat = hm := ⟨_, rfl⟩
  rw [hhm] at hqf hqt
  have HW := Lib.hid hwy
  have HAK := Lib.hid hak
  have HAC := Lib.hid hac
  have HAL := Lib.hid hal
  have HXC := Lib.hid hxc
  have HXH := Lib.hid hxh
  have HXB := Lib.hid hxb
  have HD0 := Lib.hid hd0
  have HHM := Lib.hid hhm
  have H_ok := Lib.hid hok
  have H_gl := Lib.hid hgl
  have H_cf := Lib.hid hcf
  have H_ct := Lib.hid hct
  have H_ca := Lib.hid hca
  have H_qf := Lib.hid hqf
  have H_qt := Lib.hid hqt
  have H_ne := Lib.hid hne
  have H_na := Lib.hid hna
  have H_a0 := Lib.hid ha0
  have H_c0 := Lib.hid hc0
  have H_lc := Lib.hid hlc
  have H_t1 := Lib.hid ht1
  have H_t5 := Lib.hid ht5
  have H_t6 := Lib.hid ht6
  have H_t8 := Lib.hid ht8
  have H_t9 := Lib.hid ht9
  have H_e3 := Lib.hid he3
  have H_e5 := Lib.hid he5
  have H_e7 := Lib.hid he7
  have H_e10 := Lib.hid he10
  have H_e11 := Lib.hid he11
  have H_e12 := Lib.hid he12
  have H_b0 := Lib.hid hb0
  have H_z := Lib.hid hz
  clear hr hG hwy hak hac hal hxc hxh hxb hd0 hhm hok hgl hcf hct hca hqf hqt hne hna ha0 hc0 hlc ht1 ht5 ht6 ht8 ht9 he3 he5 he7 he10 he11 he12 hb0 hz
  go_enter Tryz.func9, Tryz.ntmps9
  go_upto_region 1 with (first | (refine wpl_box rfl 23 (.tmp 0) rfl g.arr rfl ?_; rw [hbA]; intro w0 hw0) | (refine wpl_box rfl 27 (.tmp 1) rfl (boxOf m) rfl ?_; rw [show w0.heap.size = bB from by rw [hw0.out]; exact hbB]; intro w1 hw1; have HS1 := (show Hid (St [(bB, boxOf m, 27), (bA, g.arr, 23)] w w1) from by show St _ _ _; rw [hw1.out, hw0.out]; exact HS0.out); clear hw1 hw0 HS0 hbA hbB) | fail)
  have hok := H_ok.out
  have hgl := H_gl.out
  refine region_all (D := [false, false, false, false, false, false, false, false, false, false, false, false, false, false, false, false, true, true, true, true, true, true, true, true, true, true, true]) (S := fun W => St [(bB, boxOf m, 27), (bA, g.arr, 23)] w W) (R := RB) (F := FF [isV (.agg g.arr), isV (.bool ok), isV (.bool (!ok)), isV (.bool (!ok)), isV ((bif !(!ok) then .pointer (some ⟨bB, 3, none⟩) else undef)), isV ((bif !(!ok) then .int .u8 m.l.toNat else undef)), isV ((bif !(!ok) then .int .i64 m.l.toNat else undef)), isV ((bif !(!ok) then .agg g.arr else undef)), isV ((bif !(!ok) then .int .i64 (g.lines : Nat) else undef)), isV ((bif !(!ok) then .bool gl else undef)), isV (.bool ((!ok) || gl))]) rfl mo (by kernel_rfl) (FF_st _ _) HS1.out.drew (fun hN => ?_) (fun u W hS hF => ?_)
  · refine steps_cons ?_ ?_
    · intro u W hS hp
      exact step_on (wanted_free rfl) (ext_val hS (run_ld rfl ((eval_out rfl).trans rfl) (ld39 (hS.h (bA, g.arr, 23) (by simp)))) rfl)
    refine steps_cons ?_ ?_
    · intro u W hS hp
      obtain ⟨q0, _⟩ := hp
      have p16 : u 16 = .agg g.arr := q0
      exact step_on (wanted_free rfl) (ext_call (run_call rfl rfl (map1 ((eval_in rfl hN rfl).trans p16)) Tryz.func23 nm64 bd64) ((rgeo_ok g W hS.g).mono fun _ _ ⟨e, h⟩ => ⟨_, e.trans (congrArg (fun x => Ending.returned (Value.bool x)) hok), rfl, hS.next h, h⟩))
    refine steps_cons ?_ ?_
    · intro u W hS hp
      obtain ⟨q0, _⟩ := hp
      have p17 : u 17 = .bool ok := q0
      exact step_on (wanted_free rfl) (ext_val hS (run_un rfl ((eval_in rfl hN rfl).trans p17) rfl) rfl)
    refine steps_cons ?_ ?_
    · intro u W hS hp
      obtain ⟨q0, q1, _⟩ := hp
      have p18 : u 18 = .bool (!ok) := q0
      exact step_on (wanted_free rfl) (ext_val hS (run_mv rfl ((eval_in rfl hN rfl).trans p18)) rfl)
    refine steps_cons ?_ ?_
    · intro u W hS hp
      obtain ⟨q0, _⟩ := hp
      have p19 : u 19 = .bool (!ok) := q0
      cases ok <;> (first | exact step_off (wanted_off rfl rfl rfl hN rfl p19) rfl | exact step_off (wanted_undef rfl rfl rfl hN rfl p19) rfl | exact step_on (wanted_on rfl rfl rfl hN rfl p19) (ext_val hS (run_fa rfl ((eval_out rfl).trans rfl) (fa25_3 bB)) rfl))
    refine steps_cons ?_ ?_
    · intro u W hS hp
      obtain ⟨q0, q1, _⟩ := hp
      have p20 : u 20 = (bif !(!ok) then .pointer (some ⟨bB, 3, none⟩) else undef) := q0
      have p19 : u 19 = .bool (!ok) := q1
      cases ok <;> (first | exact step_off (wanted_off rfl rfl rfl hN rfl p19) rfl | exact step_off (wanted_undef rfl rfl rfl hN rfl p19) rfl | exact step_on (wanted_on rfl rfl rfl hN rfl p19) (ext_val hS (run_ld rfl ((eval_in rfl hN rfl).trans p20) (ld_u8 ((cell_of_heap (hS.h (bB, boxOf m, 27) (by simp))).trans (rfl : (boxOf m)[3]? = some _)))) rfl))
    refine steps_cons ?_ ?_
    · intro u W hS hp
      obtain ⟨q0, q1, _⟩ := hp
      have p21 : u 21 = (bif !(!ok) then .int .u8 m.l.toNat else undef) := q0
      have p19 : u 19 = .bool (!ok) := q1
      cases ok <;> (first | exact step_off (wanted_off rfl rfl rfl hN rfl p19) rfl | exact step_off (wanted_undef rfl rfl rfl hN rfl p19) rfl | exact step_on (wanted_on rfl rfl rfl hN rfl p19) (ext_val hS (run_conv rfl ((eval_in rfl hN rfl).trans p21) (conv53 (by omega) (by have := m.l.toNat_lt; omega))) rfl))
    refine steps_cons ?_ ?_
    · intro u W hS hp
      obtain ⟨q0, _⟩ := hp
      have p19 : u 19 = .bool (!ok) := q0
      cases ok <;> (first | exact step_off (wanted_off rfl rfl rfl hN rfl p19) rfl | exact step_off (wanted_undef rfl rfl rfl hN rfl p19) rfl | exact step_on (wanted_on rfl rfl rfl hN rfl p19) (ext_val hS (run_ld rfl ((eval_out rfl).trans rfl) (ld39 (hS.h (bA, g.arr, 23) (by simp)))) rfl))
    refine steps_cons ?_ ?_
    · intro u W hS hp
      obtain ⟨q0, q1, q2, _⟩ := hp
      have p23 : u 23 = (bif !(!ok) then .agg g.arr else undef) := q0
      have p19 : u 19 = .bool (!ok) := q1
      cases ok <;> (first | exact step_off (wanted_off rfl rfl rfl hN rfl p19) rfl | exact step_off (wanted_undef rfl rfl rfl hN rfl p19) rfl | exact step_on (wanted_on rfl rfl rfl hN rfl p19) (ext_call (run_call rfl rfl (map1 ((eval_in rfl hN rfl).trans p23)) Tryz.func24 nm65 bd65) ((rlines_any g W hS.g).mono fun _ _ ⟨e, h⟩ => ⟨_, e, rfl, hS.next h, h⟩)))
    refine steps_cons ?_ ?_
    · intro u W hS hp
      obtain ⟨q0, q1, q2, _⟩ := hp
      have p22 : u 22 = (bif !(!ok) then .int .i64 m.l.toNat else undef) := q0
      have p24 : u 24 = (bif !(!ok) then .int .i64 (g.lines : Nat) else undef) := q1
      have p19 : u 19 = .bool (!ok) := q2
      cases ok <;> (first | exact step_off (wanted_off rfl rfl rfl hN rfl p19) rfl | exact step_off (wanted_undef rfl rfl rfl hN rfl p19) rfl | exact step_on (wanted_on rfl rfl rfl hN rfl p19) (ext_val hS (run_bin rfl ((eval_in rfl hN rfl).trans p22) ((eval_in rfl hN rfl).trans p24) rfl (i_geq hgl)) rfl))
    refine steps_cons ?_ ?_
    · intro u W hS hp
      obtain ⟨q0, q1, _⟩ := hp
      have p19 : u 19 = .bool (!ok) := q0
      have p25 : u 25 = (bif !(!ok) then .bool gl else undef) := q1
      cases ok <;> (first | (first | exact step_on (wanted_free rfl) (ext_val hS (run_pickT rfl ((eval_in rfl hN rfl).trans p19) rfl) rfl) | exact step_on (wanted_free rfl) (ext_val hS (run_pickF rfl ((eval_in rfl hN rfl).trans p19) ((eval_in rfl hN rfl).trans p25)) rfl)))
    exact steps_nil
  · obtain ⟨_, _, _, _, _, _, _, _, _, _, q10, _⟩ := hF
    have p26 : u 26 = .bool ((!ok) || gl) := q10
    simp only [frm, frmL, Nat.reduceAdd, p26]
    clear p26
    clear hok hgl
    obtain ⟨x, hx⟩ : ∃ b, (!ok || gl) = b := ⟨_, rfl⟩
    have HOK : Hid ((!ok || gl) = false → ok = true) := Lib.hid (fun h => by cases ok <;> simp_all)
    rw [hx] at HR HOK ⊢
    have HS := Lib.hid hS
    clear hx hS
    cases x
    · go_upto_region 3 with fail

      refine region_seq (D := [false, false, false, false, false, true, false, false, false, false, false, false, false, false, false, false, false, false, false, false, false, false, false, false, false, false, false, true, true, true, true]) (S := fun W => St [(bB, boxOf m, 27), (bA, g.arr, 23)] w W) (R := RB) (F := FF [isV (.agg g.arr), isV (.pointer (some ⟨bB, 3, none⟩)), isV (.int .u8 m.l.toNat), isV (.int .u8 hm), isV (.int .u8 hm)]) rfl (by kernel_rfl) (FF_st _ _) HS.out (fun hN => ?_) (fun u W hS hF => ?_)
      · refine steps_cons ?_ ?_
        · intro u W hS hp
          exact step_on (wanted_free rfl) (ext_val hS (run_ld rfl ((eval_out rfl).trans rfl) (ld39 (hS.h (bA, g.arr, 23) (by simp)))) rfl)
        refine steps_cons ?_ ?_
        · intro u W hS hp
          exact step_on (wanted_free rfl) (ext_val hS (run_fa rfl ((eval_out rfl).trans rfl) (fa25_3 bB)) rfl)
        refine steps_cons ?_ ?_
        · intro u W hS hp
          obtain ⟨q0, _⟩ := hp
          have p28 : u 28 = .pointer (some ⟨bB, 3, none⟩) := q0
          exact step_on (wanted_free rfl) (ext_val hS (run_ld rfl ((eval_in rfl hN rfl).trans p28) (ld_u8 ((cell_of_heap (hS.h (bB, boxOf m, 27) (by simp))).trans (rfl : (boxOf m)[3]? = some _)))) rfl)
        refine steps_cons ?_ ?_
        · intro u W hS hp
          obtain ⟨q0, q1, _⟩ := hp
          have p27 : u 27 = .agg g.arr := q0
          have p29 : u 29 = .int .u8 m.l.toNat := q1
          exact step_on (wanted_free rfl) (ext_call (run_call rfl rfl (map2 ((eval_in rfl hN rfl).trans p27) ((eval_in rfl hN rfl).trans p29)) Tryz.func25 nm66 bd66) ((rhome_any g m.l.toNat m.l.toNat_lt W hS.g).mono fun _ _ ⟨e, h⟩ => ⟨_, e.trans (congrArg (fun x : Nat => Ending.returned (Value.int .u8 x)) HHM.out), rfl, hS.next h, h⟩))
        refine steps_cons ?_ ?_
        · intro u W hS hp
          obtain ⟨q0, q1, q2, q3, q4, q5, _⟩ := hp
          have p30 : u 30 = .int .u8 hm := q0
          exact step_on (wanted_free rfl) (ext_val hS (run_asg rfl ((eval_in rfl hN rfl).trans p30)) rfl)
        exact steps_nil
      · obtain ⟨_, _, _, _, q4, _⟩ := hF
        have p5 : u 5 = .int .u8 hm := q4
        simp only [frm, frmL, Nat.reduceAdd, p5]
        clear p5
        clear HS HHM
        go_upto_region 4 with fail

        refine region_seq (D := [false, false, false, false, false, false, true, false, false, false, false, false, false, false, false, false, false, false, false, false, false, false, false, false, false, false, false, false, false, false, false, true, true, true]) (S := fun W => St [(bB, boxOf m, 27), (bA, g.arr, 23)] w W) (R := RB) (F := FF [isV (.pointer (some ⟨bB, 0, none⟩)), isV (.int .u8 m.k.toNat), isV (.int .i64 m.k.toNat), isV (.int .i64 m.k.toNat)]) rfl (by kernel_rfl) (FF_st _ _) hS (fun hN => ?_) (fun u W hS hF => ?_)
        · refine steps_cons ?_ ?_
          · intro u W hS hp
            exact step_on (wanted_free rfl) (ext_val hS (run_fa rfl ((eval_out rfl).trans rfl) (fa25_0 bB)) rfl)
          refine steps_cons ?_ ?_
          · intro u W hS hp
            obtain ⟨q0, _⟩ := hp
            have p31 : u 31 = .pointer (some ⟨bB, 0, none⟩) := q0
            exact step_on (wanted_free rfl) (ext_val hS (run_ld rfl ((eval_in rfl hN rfl).trans p31) (ld_u8 ((cell_of_heap (hS.h (bB, boxOf m, 27) (by simp))).trans (rfl : (boxOf m)[0]? = some _)))) rfl)
          refine steps_cons ?_ ?_
          · intro u W hS hp
            obtain ⟨q0, _⟩ := hp
            have p32 : u 32 = .int .u8 m.k.toNat := q0
            exact step_on (wanted_free rfl) (ext_val hS (run_conv rfl ((eval_in rfl hN rfl).trans p32) (conv53 (by omega) (by omega))) rfl)
          refine steps_cons ?_ ?_
          · intro u W hS hp
            obtain ⟨q0, q1, q2, q3, _⟩ := hp
            have p33 : u 33 = .int .i64 m.k.toNat := q0
            exact step_on (wanted_free rfl) (ext_val hS (run_asg rfl ((eval_in rfl hN rfl).trans p33)) rfl)
          exact steps_nil
        · obtain ⟨_, _, _, q3, _⟩ := hF
          have p6 : u 6 = .int .i64 m.k.toNat := q3
          simp only [frm, frmL, Nat.reduceAdd, p6]
          clear p6
          go_upto_region 5 with fail
          have hcf := H_cf.out
          have hqt := H_qt.out
          refine region_seq (D := [false, false, false, false, false, false, false, true, false, false, false, false, false, false, false, false, false, false, false, false, false, false, false, false, false, false, false, false, false, false, false, false, false, false, true, true, true, true, true, true, true, true, true, true]) (S := fun W => St [(bB, boxOf m, 27), (bA, g.arr, 23)] w W) (R := RB) (F := FF [isV (.agg g.arr), isV (.pointer (some ⟨bB, 1, none⟩)), isV (.int .u8 m.f.toNat), isV (.bool cf), isV (.bool cf), isV ((bif cf then .pointer (some ⟨bB, 2, none⟩) else undef)), isV ((bif cf then .int .u8 m.t.toNat else undef)), isV ((bif cf then .int .u8 hm else undef)), isV ((bif cf then .bool qt else undef)), isV (.bool (cf && qt)), isV (.bool (cf && qt))]) rfl (by kernel_rfl) (FF_st _ _) hS (fun hN => ?_) (fun u W hS hF => ?_)
          · refine steps_cons ?_ ?_
            · intro u W hS hp
              exact step_on (wanted_free rfl) (ext_val hS (run_ld rfl ((eval_out rfl).trans rfl) (ld39 (hS.h (bA, g.arr, 23) (by simp)))) rfl)
            refine steps_cons ?_ ?_
            · intro u W hS hp
              exact step_on (wanted_free rfl) (ext_val hS (run_fa rfl ((eval_out rfl).trans rfl) (fa25_1 bB)) rfl)
            refine steps_cons ?_ ?_
            · intro u W hS hp
              obtain ⟨q0, _⟩ := hp
              have p35 : u 35 = .pointer (some ⟨bB, 1, none⟩) := q0
              exact step_on (wanted_free rfl) (ext_val hS (run_ld rfl ((eval_in rfl hN rfl).trans p35) (ld_u8 ((cell_of_heap (hS.h (bB, boxOf m, 27) (by simp))).trans (rfl : (boxOf m)[1]? = some _)))) rfl)
            refine steps_cons ?_ ?_
            · intro u W hS hp
              obtain ⟨q0, q1, _⟩ := hp
              have p34 : u 34 = .agg g.arr := q0
              have p36 : u 36 = .int .u8 m.f.toNat := q1
              exact step_on (wanted_free rfl) (ext_call (run_call rfl rfl (map2 ((eval_in rfl hN rfl).trans p34) ((eval_in rfl hN rfl).trans p36)) Tryz.func26 nm67 bd67) ((riscache_any g m.f.toNat m.f.toNat_lt W hS.g).mono fun _ _ ⟨e, h⟩ => ⟨_, e.trans (congrArg (fun x => Ending.returned (Value.bool x)) hcf), rfl, hS.next h, h⟩))
            refine steps_cons ?_ ?_
            · intro u W hS hp
              obtain ⟨q0, q1, _⟩ := hp
              have p37 : u 37 = .bool cf := q0
              exact step_on (wanted_free rfl) (ext_val hS (run_mv rfl ((eval_in rfl hN rfl).trans p37)) rfl)
            refine steps_cons ?_ ?_
            · intro u W hS hp
              obtain ⟨q0, _⟩ := hp
              have p38 : u 38 = .bool cf := q0
              cases cf <;> (first | exact step_off (wanted_off rfl rfl rfl hN rfl p38) rfl | exact step_off (wanted_undef rfl rfl rfl hN rfl p38) rfl | exact step_on (wanted_on rfl rfl rfl hN rfl p38) (ext_val hS (run_fa rfl ((eval_out rfl).trans rfl) (fa25_2 bB)) rfl))
            refine steps_cons ?_ ?_
            · intro u W hS hp
              obtain ⟨q0, q1, _⟩ := hp
              have p39 : u 39 = (bif cf then .pointer (some ⟨bB, 2, none⟩) else undef) := q0
              have p38 : u 38 = .bool cf := q1
              cases cf <;> (first | exact step_off (wanted_off rfl rfl rfl hN rfl p38) rfl | exact step_off (wanted_undef rfl rfl rfl hN rfl p38) rfl | exact step_on (wanted_on rfl rfl rfl hN rfl p38) (ext_val hS (run_ld rfl ((eval_in rfl hN rfl).trans p39) (ld_u8 ((cell_of_heap (hS.h (bB, boxOf m, 27) (by simp))).trans (rfl : (boxOf m)[2]? = some _)))) rfl))
            refine steps_cons ?_ ?_
            · intro u W hS hp
              obtain ⟨q0, _⟩ := hp
              have p38 : u 38 = .bool cf := q0
              cases cf <;> (first | exact step_off (wanted_off rfl rfl rfl hN rfl p38) rfl | exact step_off (wanted_undef rfl rfl rfl hN rfl p38) rfl | exact step_on (wanted_on rfl rfl rfl hN rfl p38) (ext_val hS (run_mv rfl ((eval_out rfl).trans rfl)) rfl))
            refine steps_cons ?_ ?_
            · intro u W hS hp
              obtain ⟨q0, q1, q2, _⟩ := hp
              have p40 : u 40 = (bif cf then .int .u8 m.t.toNat else undef) := q0
              have p41 : u 41 = (bif cf then .int .u8 hm else undef) := q1
              have p38 : u 38 = .bool cf := q2
              cases cf <;> (first | exact step_off (wanted_off rfl rfl rfl hN rfl p38) rfl | exact step_off (wanted_undef rfl rfl rfl hN rfl p38) rfl | exact step_on (wanted_on rfl rfl rfl hN rfl p38) (ext_val hS (run_bin rfl ((eval_in rfl hN rfl).trans p40) ((eval_in rfl hN rfl).trans p41) rfl (i_eql hqt)) rfl))
            refine steps_cons ?_ ?_
            · intro u W hS hp
              obtain ⟨q0, q1, _⟩ := hp
              have p38 : u 38 = .bool cf := q0
              have p42 : u 42 = (bif cf then .bool qt else undef) := q1
              cases cf <;> (first | (first | exact step_on (wanted_free rfl) (ext_val hS (run_pickT rfl ((eval_in rfl hN rfl).trans p38) ((eval_in rfl hN rfl).trans p42)) rfl) | exact step_on (wanted_free rfl) (ext_val hS (run_pickF rfl ((eval_in rfl hN rfl).trans p38) rfl) rfl)))
            refine steps_cons ?_ ?_
            · intro u W hS hp
              obtain ⟨q0, q1, q2, q3, q4, q5, q6, q7, q8, q9, q10, q11, _⟩ := hp
              have p43 : u 43 = .bool (cf && qt) := q0
              exact step_on (wanted_free rfl) (ext_val hS (run_asg rfl ((eval_in rfl hN rfl).trans p43)) rfl)
            exact steps_nil
          · obtain ⟨_, _, _, _, _, _, _, _, _, _, q10, _⟩ := hF
            have p7 : u 7 = .bool (cf && qt) := q10
            simp only [frm, frmL, Nat.reduceAdd, p7]
            clear p7
            clear hcf hqt
            rw [show (cf && qt) = xc from HXC.out]
            go_upto_region 6 with fail
            have hqf := H_qf.out
            have hct := H_ct.out
            refine region_seq (D := [false, false, false, false, false, false, false, false, true, false, false, false, false, false, false, false, false, false, false, false, false, false, false, false, false, false, false, false, false, false, false, false, false, false, false, false, false, false, false, false, false, false, false, false, true, true, true, true, true, true, true, true, true, true]) (S := fun W => St [(bB, boxOf m, 27), (bA, g.arr, 23)] w W) (R := RB) (F := FF [isV (.pointer (some ⟨bB, 1, none⟩)), isV (.int .u8 m.f.toNat), isV (.int .u8 hm), isV (.bool qf), isV (.bool qf), isV ((bif qf then .agg g.arr else undef)), isV ((bif qf then .pointer (some ⟨bB, 2, none⟩) else undef)), isV ((bif qf then .int .u8 m.t.toNat else undef)), isV ((bif qf then .bool ct else undef)), isV (.bool (qf && ct)), isV (.bool (qf && ct))]) rfl (by kernel_rfl) (FF_st _ _) hS (fun hN => ?_) (fun u W hS hF => ?_)
            · refine steps_cons ?_ ?_
              · intro u W hS hp
                exact step_on (wanted_free rfl) (ext_val hS (run_fa rfl ((eval_out rfl).trans rfl) (fa25_1 bB)) rfl)
              refine steps_cons ?_ ?_
              · intro u W hS hp
                obtain ⟨q0, _⟩ := hp
                have p44 : u 44 = .pointer (some ⟨bB, 1, none⟩) := q0
                exact step_on (wanted_free rfl) (ext_val hS (run_ld rfl ((eval_in rfl hN rfl).trans p44) (ld_u8 ((cell_of_heap (hS.h (bB, boxOf m, 27) (by simp))).trans (rfl : (boxOf m)[1]? = some _)))) rfl)
              refine steps_cons ?_ ?_
              · intro u W hS hp
                exact step_on (wanted_free rfl) (ext_val hS (run_mv rfl ((eval_out rfl).trans rfl)) rfl)
              refine steps_cons ?_ ?_
              · intro u W hS hp
                obtain ⟨q0, q1, _⟩ := hp
                have p45 : u 45 = .int .u8 m.f.toNat := q0
                have p46 : u 46 = .int .u8 hm := q1
                exact step_on (wanted_free rfl) (ext_val hS (run_bin rfl ((eval_in rfl hN rfl).trans p45) ((eval_in rfl hN rfl).trans p46) rfl (i_eql hqf)) rfl)
              refine steps_cons ?_ ?_
              · intro u W hS hp
                obtain ⟨q0, _⟩ := hp
                have p47 : u 47 = .bool qf := q0
                exact step_on (wanted_free rfl) (ext_val hS (run_mv rfl ((eval_in rfl hN rfl).trans p47)) rfl)
              refine steps_cons ?_ ?_
              · intro u W hS hp
                obtain ⟨q0, _⟩ := hp
                have p48 : u 48 = .bool qf := q0
                cases qf <;> (first | exact step_off (wanted_off rfl rfl rfl hN rfl p48) rfl | exact step_off (wanted_undef rfl rfl rfl hN rfl p48) rfl | exact step_on (wanted_on rfl rfl rfl hN rfl p48) (ext_val hS (run_ld rfl ((eval_out rfl).trans rfl) (ld39 (hS.h (bA, g.arr, 23) (by simp)))) rfl))
              refine steps_cons ?_ ?_
              · intro u W hS hp
                obtain ⟨q0, _⟩ := hp
                have p48 : u 48 = .bool qf := q0
                cases qf <;> (first | exact step_off (wanted_off rfl rfl rfl hN rfl p48) rfl | exact step_off (wanted_undef rfl rfl rfl hN rfl p48) rfl | exact step_on (wanted_on rfl rfl rfl hN rfl p48) (ext_val hS (run_fa rfl ((eval_out rfl).trans rfl) (fa25_2 bB)) rfl))
              refine steps_cons ?_ ?_
              · intro u W hS hp
                obtain ⟨q0, q1, _⟩ := hp
                have p50 : u 50 = (bif qf then .pointer (some ⟨bB, 2, none⟩) else undef) := q0
                have p48 : u 48 = .bool qf := q1
                cases qf <;> (first | exact step_off (wanted_off rfl rfl rfl hN rfl p48) rfl | exact step_off (wanted_undef rfl rfl rfl hN rfl p48) rfl | exact step_on (wanted_on rfl rfl rfl hN rfl p48) (ext_val hS (run_ld rfl ((eval_in rfl hN rfl).trans p50) (ld_u8 ((cell_of_heap (hS.h (bB, boxOf m, 27) (by simp))).trans (rfl : (boxOf m)[2]? = some _)))) rfl))
              refine steps_cons ?_ ?_
              · intro u W hS hp
                obtain ⟨q0, q1, q2, q3, _⟩ := hp
                have p49 : u 49 = (bif qf then .agg g.arr else undef) := q0
                have p51 : u 51 = (bif qf then .int .u8 m.t.toNat else undef) := q1
                have p48 : u 48 = .bool qf := q2
                cases qf <;> (first | exact step_off (wanted_off rfl rfl rfl hN rfl p48) rfl | exact step_off (wanted_undef rfl rfl rfl hN rfl p48) rfl | exact step_on (wanted_on rfl rfl rfl hN rfl p48) (ext_call (run_call rfl rfl (map2 ((eval_in rfl hN rfl).trans p49) ((eval_in rfl hN rfl).trans p51)) Tryz.func26 nm67 bd67) ((riscache_any g m.t.toNat m.t.toNat_lt W hS.g).mono fun _ _ ⟨e, h⟩ => ⟨_, e.trans (congrArg (fun x => Ending.returned (Value.bool x)) hct), rfl, hS.next h, h⟩)))
              refine steps_cons ?_ ?_
              · intro u W hS hp
                obtain ⟨q0, q1, _⟩ := hp
                have p48 : u 48 = .bool qf := q0
                have p52 : u 52 = (bif qf then .bool ct else undef) := q1
                cases qf <;> (first | (first | exact step_on (wanted_free rfl) (ext_val hS (run_pickT rfl ((eval_in rfl hN rfl).trans p48) ((eval_in rfl hN rfl).trans p52)) rfl) | exact step_on (wanted_free rfl) (ext_val hS (run_pickF rfl ((eval_in rfl hN rfl).trans p48) rfl) rfl)))
              refine steps_cons ?_ ?_
              · intro u W hS hp
                obtain ⟨q0, q1, q2, q3, q4, q5, q6, q7, q8, q9, q10, q11, _⟩ := hp
                have p53 : u 53 = .bool (qf && ct) := q0
                exact step_on (wanted_free rfl) (ext_val hS (run_asg rfl ((eval_in rfl hN rfl).trans p53)) rfl)
              exact steps_nil
            · obtain ⟨_, _, _, _, _, _, _, _, _, _, q10, _⟩ := hF
              have p8 : u 8 = .bool (qf && ct) := q10
              simp only [frm, frmL, Nat.reduceAdd, p8]
              clear p8
              clear hqf hct
              rw [show (qf && ct) = xh from HXH.out]
              go_upto_region 7 with fail
              have hcf := H_cf.out
              have hct := H_ct.out
              have hne := H_ne.out
              refine region_seq (D := [false, false, false, false, false, false, false, false, false, true, false, false, false, false, false, false, false, false, false, false, false, false, false, false, false, false, false, false, false, false, false, false, false, false, false, false, false, false, false, false, false, false, false, false, false, false, false, false, false, false, false, false, false, false, true, true, true, true, true, true, true, true, true, true, true, true, true, true, true, true, true]) (S := fun W => St [(bB, boxOf m, 27), (bA, g.arr, 23)] w W) (R := RB) (F := FF [isV (.agg g.arr), isV (.pointer (some ⟨bB, 1, none⟩)), isV (.int .u8 m.f.toNat), isV (.bool cf), isV (.bool cf), isV ((bif cf then .agg g.arr else undef)), isV ((bif cf then .pointer (some ⟨bB, 2, none⟩) else undef)), isV ((bif cf then .int .u8 m.t.toNat else undef)), isV ((bif cf then .bool ct else undef)), isV (.bool (cf && ct)), isV (.bool (cf && ct)), isV ((bif (cf && ct) then .pointer (some ⟨bB, 1, none⟩) else undef)), isV ((bif (cf && ct) then .int .u8 m.f.toNat else undef)), isV ((bif (cf && ct) then .pointer (some ⟨bB, 2, none⟩) else undef)), isV ((bif (cf && ct) then .int .u8 m.t.toNat else undef)), isV ((bif (cf && ct) then .bool ne else undef)), isV (.bool ((cf && ct) && ne)), isV (.bool ((cf && ct) && ne))]) rfl (by kernel_rfl) (FF_st _ _) hS (fun hN => ?_) (fun u W hS hF => ?_)
              · refine steps_cons ?_ ?_
                · intro u W hS hp
                  exact step_on (wanted_free rfl) (ext_val hS (run_ld rfl ((eval_out rfl).trans rfl) (ld39 (hS.h (bA, g.arr, 23) (by simp)))) rfl)
                refine steps_cons ?_ ?_
                · intro u W hS hp
                  exact step_on (wanted_free rfl) (ext_val hS (run_fa rfl ((eval_out rfl).trans rfl) (fa25_1 bB)) rfl)
                refine steps_cons ?_ ?_
                · intro u W hS hp
                  obtain ⟨q0, _⟩ := hp
                  have p55 : u 55 = .pointer (some ⟨bB, 1, none⟩) := q0
                  exact step_on (wanted_free rfl) (ext_val hS (run_ld rfl ((eval_in rfl hN rfl).trans p55) (ld_u8 ((cell_of_heap (hS.h (bB, boxOf m, 27) (by simp))).trans (rfl : (boxOf m)[1]? = some _)))) rfl)
                refine steps_cons ?_ ?_
                · intro u W hS hp
                  obtain ⟨q0, q1, _⟩ := hp
                  have p54 : u 54 = .agg g.arr := q0
                  have p56 : u 56 = .int .u8 m.f.toNat := q1
                  exact step_on (wanted_free rfl) (ext_call (run_call rfl rfl (map2 ((eval_in rfl hN rfl).trans p54) ((eval_in rfl hN rfl).trans p56)) Tryz.func26 nm67 bd67) ((riscache_any g m.f.toNat m.f.toNat_lt W hS.g).mono fun _ _ ⟨e, h⟩ => ⟨_, e.trans (congrArg (fun x => Ending.returned (Value.bool x)) hcf), rfl, hS.next h, h⟩))
                refine steps_cons ?_ ?_
                · intro u W hS hp
                  obtain ⟨q0, q1, _⟩ := hp
                  have p57 : u 57 = .bool cf := q0
                  exact step_on (wanted_free rfl) (ext_val hS (run_mv rfl ((eval_in rfl hN rfl).trans p57)) rfl)
                refine steps_cons ?_ ?_
                · intro u W hS hp
                  obtain ⟨q0, _⟩ := hp
                  have p58 : u 58 = .bool cf := q0
                  cases cf <;> (first | exact step_off (wanted_off rfl rfl rfl hN rfl p58) rfl | exact step_off (wanted_undef rfl rfl rfl hN rfl p58) rfl | exact step_on (wanted_on rfl rfl rfl hN rfl p58) (ext_val hS (run_ld rfl ((eval_out rfl).trans rfl) (ld39 (hS.h (bA, g.arr, 23) (by simp)))) rfl))
                refine steps_cons ?_ ?_
                · intro u W hS hp
                  obtain ⟨q0, _⟩ := hp
                  have p58 : u 58 = .bool cf := q0
                  cases cf <;> (first | exact step_off (wanted_off rfl rfl rfl hN rfl p58) rfl | exact step_off (wanted_undef rfl rfl rfl hN rfl p58) rfl | exact step_on (wanted_on rfl rfl rfl hN rfl p58) (ext_val hS (run_fa rfl ((eval_out rfl).trans rfl) (fa25_2 bB)) rfl))
                refine steps_cons ?_ ?_
                · intro u W hS hp
                  obtain ⟨q0, q1, _⟩ := hp
                  have p60 : u 60 = (bif cf then .pointer (some ⟨bB, 2, none⟩) else undef) := q0
                  have p58 : u 58 = .bool cf := q1
                  cases cf <;> (first | exact step_off (wanted_off rfl rfl rfl hN rfl p58) rfl | exact step_off (wanted_undef rfl rfl rfl hN rfl p58) rfl | exact step_on (wanted_on rfl rfl rfl hN rfl p58) (ext_val hS (run_ld rfl ((eval_in rfl hN rfl).trans p60) (ld_u8 ((cell_of_heap (hS.h (bB, boxOf m, 27) (by simp))).trans (rfl : (boxOf m)[2]? = some _)))) rfl))
                refine steps_cons ?_ ?_
                · intro u W hS hp
                  obtain ⟨q0, q1, q2, q3, _⟩ := hp
                  have p59 : u 59 = (bif cf then .agg g.arr else undef) := q0
                  have p61 : u 61 = (bif cf then .int .u8 m.t.toNat else undef) := q1
                  have p58 : u 58 = .bool cf := q2
                  cases cf <;> (first | exact step_off (wanted_off rfl rfl rfl hN rfl p58) rfl | exact step_off (wanted_undef rfl rfl rfl hN rfl p58) rfl | exact step_on (wanted_on rfl rfl rfl hN rfl p58) (ext_call (run_call rfl rfl (map2 ((eval_in rfl hN rfl).trans p59) ((eval_in rfl hN rfl).trans p61)) Tryz.func26 nm67 bd67) ((riscache_any g m.t.toNat m.t.toNat_lt W hS.g).mono fun _ _ ⟨e, h⟩ => ⟨_, e.trans (congrArg (fun x => Ending.returned (Value.bool x)) hct), rfl, hS.next h, h⟩)))
                refine steps_cons ?_ ?_
                · intro u W hS hp
                  obtain ⟨q0, q1, _⟩ := hp
                  have p58 : u 58 = .bool cf := q0
                  have p62 : u 62 = (bif cf then .bool ct else undef) := q1
                  cases cf <;> (first | (first | exact step_on (wanted_free rfl) (ext_val hS (run_pickT rfl ((eval_in rfl hN rfl).trans p58) ((eval_in rfl hN rfl).trans p62)) rfl) | exact step_on (wanted_free rfl) (ext_val hS (run_pickF rfl ((eval_in rfl hN rfl).trans p58) rfl) rfl)))
                refine steps_cons ?_ ?_
                · intro u W hS hp
                  obtain ⟨q0, q1, _⟩ := hp
                  have p63 : u 63 = .bool (cf && ct) := q0
                  exact step_on (wanted_free rfl) (ext_val hS (run_mv rfl ((eval_in rfl hN rfl).trans p63)) rfl)
                refine steps_cons ?_ ?_
                · intro u W hS hp
                  obtain ⟨q0, _⟩ := hp
                  have p64 : u 64 = .bool (cf && ct) := q0
                  cases cf <;> cases ct <;> (first | exact step_off (wanted_off rfl rfl rfl hN rfl p64) rfl | exact step_off (wanted_undef rfl rfl rfl hN rfl p64) rfl | exact step_on (wanted_on rfl rfl rfl hN rfl p64) (ext_val hS (run_fa rfl ((eval_out rfl).trans rfl) (fa25_1 bB)) rfl))
                refine steps_cons ?_ ?_
                · intro u W hS hp
                  obtain ⟨q0, q1, _⟩ := hp
                  have p65 : u 65 = (bif (cf && ct) then .pointer (some ⟨bB, 1, none⟩) else undef) := q0
                  have p64 : u 64 = .bool (cf && ct) := q1
                  cases cf <;> cases ct <;> (first | exact step_off (wanted_off rfl rfl rfl hN rfl p64) rfl | exact step_off (wanted_undef rfl rfl rfl hN rfl p64) rfl | exact step_on (wanted_on rfl rfl rfl hN rfl p64) (ext_val hS (run_ld rfl ((eval_in rfl hN rfl).trans p65) (ld_u8 ((cell_of_heap (hS.h (bB, boxOf m, 27) (by simp))).trans (rfl : (boxOf m)[1]? = some _)))) rfl))
                refine steps_cons ?_ ?_
                · intro u W hS hp
                  obtain ⟨q0, _⟩ := hp
                  have p64 : u 64 = .bool (cf && ct) := q0
                  cases cf <;> cases ct <;> (first | exact step_off (wanted_off rfl rfl rfl hN rfl p64) rfl | exact step_off (wanted_undef rfl rfl rfl hN rfl p64) rfl | exact step_on (wanted_on rfl rfl rfl hN rfl p64) (ext_val hS (run_fa rfl ((eval_out rfl).trans rfl) (fa25_2 bB)) rfl))
                refine steps_cons ?_ ?_
                · intro u W hS hp
                  obtain ⟨q0, q1, _⟩ := hp
                  have p67 : u 67 = (bif (cf && ct) then .pointer (some ⟨bB, 2, none⟩) else undef) := q0
                  have p64 : u 64 = .bool (cf && ct) := q1
                  cases cf <;> cases ct <;> (first | exact step_off (wanted_off rfl rfl rfl hN rfl p64) rfl | exact step_off (wanted_undef rfl rfl rfl hN rfl p64) rfl | exact step_on (wanted_on rfl rfl rfl hN rfl p64) (ext_val hS (run_ld rfl ((eval_in rfl hN rfl).trans p67) (ld_u8 ((cell_of_heap (hS.h (bB, boxOf m, 27) (by simp))).trans (rfl : (boxOf m)[2]? = some _)))) rfl))
                refine steps_cons ?_ ?_
                · intro u W hS hp
                  obtain ⟨q0, q1, q2, _⟩ := hp
                  have p66 : u 66 = (bif (cf && ct) then .int .u8 m.f.toNat else undef) := q0
                  have p68 : u 68 = (bif (cf && ct) then .int .u8 m.t.toNat else undef) := q1
                  have p64 : u 64 = .bool (cf && ct) := q2
                  cases cf <;> cases ct <;> (first | exact step_off (wanted_off rfl rfl rfl hN rfl p64) rfl | exact step_off (wanted_undef rfl rfl rfl hN rfl p64) rfl | exact step_on (wanted_on rfl rfl rfl hN rfl p64) (ext_val hS (run_bin rfl ((eval_in rfl hN rfl).trans p66) ((eval_in rfl hN rfl).trans p68) rfl (i_neq hne)) rfl))
                refine steps_cons ?_ ?_
                · intro u W hS hp
                  obtain ⟨q0, q1, _⟩ := hp
                  have p64 : u 64 = .bool (cf && ct) := q0
                  have p69 : u 69 = (bif (cf && ct) then .bool ne else undef) := q1
                  cases cf <;> cases ct <;> (first | (first | exact step_on (wanted_free rfl) (ext_val hS (run_pickT rfl ((eval_in rfl hN rfl).trans p64) ((eval_in rfl hN rfl).trans p69)) rfl) | exact step_on (wanted_free rfl) (ext_val hS (run_pickF rfl ((eval_in rfl hN rfl).trans p64) rfl) rfl)))
                refine steps_cons ?_ ?_
                · intro u W hS hp
                  obtain ⟨q0, q1, q2, q3, q4, q5, q6, q7, q8, q9, q10, q11, q12, q13, q14, q15, q16, q17, q18, _⟩ := hp
                  have p70 : u 70 = .bool ((cf && ct) && ne) := q0
                  exact step_on (wanted_free rfl) (ext_val hS (run_asg rfl ((eval_in rfl hN rfl).trans p70)) rfl)
                exact steps_nil
              · obtain ⟨_, _, _, _, _, _, _, _, _, _, _, _, _, _, _, _, _, q17, _⟩ := hF
                have p9 : u 9 = .bool ((cf && ct) && ne) := q17
                simp only [frm, frmL, Nat.reduceAdd, p9]
                clear p9
                clear hcf hct hne
                rw [show (cf && ct && ne) = xb from HXB.out]
                have HS := Lib.hid hS
                clear hS
                go_upto_block 0 with fail
                go_cut [10] (fun s10 wx => s10 = .bool wy ∧ Hid (St [(bB, boxOf m, 27), (bA, g.arr, 23)] w wx))
                case first =>
                  have HZ : Hid (wy = (bif t1 && t5 then xc else bif ((t6 && t9) || e11) then xh else bif e10 then (xh || xb) else (e12 && xb))) := Lib.hid HW.out.symm
                  go_upto_region 9 with fail
                  have ht1 := H_t1.out
                  have ht5 := H_t5.out
                  refine region_seq (D := [false, false, false, false, false, false, false, false, false, false, false, false, false, false, false, false, false, false, false, false, false, false, false, false, false, false, false, false, false, false, false, false, false, false, false, false, false, false, false, false, false, false, false, false, false, false, false, false, false, false, false, false, false, false, false, false, false, false, false, false, false, false, false, false, false, false, false, false, false, false, false, true, true, true, true, true, true, true]) (S := fun W => St [(bB, boxOf m, 27), (bA, g.arr, 23)] w W) (R := RB) (F := FF [isV (.int .i64 m.k.toNat), isV (.bool t1), isV (.bool t1), isV ((bif t1 then .int .i64 m.k.toNat else undef)), isV ((bif t1 then .bool t5 else undef)), isV (.bool (t1 && t5)), isV (.bool (t1 && t5))]) rfl (by kernel_rfl) (FF_st _ _) HS.out (fun hN => ?_) (fun u W hS hF => ?_)
                  · refine steps_cons ?_ ?_
                    · intro u W hS hp
                      exact step_on (wanted_free rfl) (ext_val hS (run_mv rfl ((eval_out rfl).trans rfl)) rfl)
                    refine steps_cons ?_ ?_
                    · intro u W hS hp
                      obtain ⟨q0, _⟩ := hp
                      have p72 : u 72 = .int .i64 m.k.toNat := q0
                      exact step_on (wanted_free rfl) (ext_val hS (run_bin rfl ((eval_in rfl hN rfl).trans p72) rfl rfl (i_geq ht1)) rfl)
                    refine steps_cons ?_ ?_
                    · intro u W hS hp
                      obtain ⟨q0, _⟩ := hp
                      have p73 : u 73 = .bool t1 := q0
                      exact step_on (wanted_free rfl) (ext_val hS (run_mv rfl ((eval_in rfl hN rfl).trans p73)) rfl)
                    refine steps_cons ?_ ?_
                    · intro u W hS hp
                      obtain ⟨q0, _⟩ := hp
                      have p74 : u 74 = .bool t1 := q0
                      cases t1 <;> (first | exact step_off (wanted_off rfl rfl rfl hN rfl p74) rfl | exact step_off (wanted_undef rfl rfl rfl hN rfl p74) rfl | exact step_on (wanted_on rfl rfl rfl hN rfl p74) (ext_val hS (run_mv rfl ((eval_out rfl).trans rfl)) rfl))
                    refine steps_cons ?_ ?_
                    · intro u W hS hp
                      obtain ⟨q0, q1, _⟩ := hp
                      have p75 : u 75 = (bif t1 then .int .i64 m.k.toNat else undef) := q0
                      have p74 : u 74 = .bool t1 := q1
                      cases t1 <;> (first | exact step_off (wanted_off rfl rfl rfl hN rfl p74) rfl | exact step_off (wanted_undef rfl rfl rfl hN rfl p74) rfl | exact step_on (wanted_on rfl rfl rfl hN rfl p74) (ext_val hS (run_bin rfl ((eval_in rfl hN rfl).trans p75) rfl rfl (i_leq ht5)) rfl))
                    refine steps_cons ?_ ?_
                    · intro u W hS hp
                      obtain ⟨q0, q1, _⟩ := hp
                      have p74 : u 74 = .bool t1 := q0
                      have p76 : u 76 = (bif t1 then .bool t5 else undef) := q1
                      cases t1 <;> (first | (first | exact step_on (wanted_free rfl) (ext_val hS (run_pickT rfl ((eval_in rfl hN rfl).trans p74) ((eval_in rfl hN rfl).trans p76)) rfl) | exact step_on (wanted_free rfl) (ext_val hS (run_pickF rfl ((eval_in rfl hN rfl).trans p74) rfl) rfl)))
                    refine steps_cons ?_ ?_
                    · intro u W hS hp
                      obtain ⟨q0, q1, _⟩ := hp
                      have p77 : u 77 = .bool (t1 && t5) := q0
                      exact step_on (wanted_free rfl) (ext_val hS (run_asg rfl ((eval_in rfl hN rfl).trans p77)) rfl)
                    exact steps_nil
                  · obtain ⟨_, _, _, _, _, _, q6, _⟩ := hF
                    have p71 : u 71 = .bool (t1 && t5) := q6
                    simp only [frm, frmL, Nat.reduceAdd, p71]
                    clear p71
                    clear ht1 ht5
                    obtain ⟨x, hx⟩ : ∃ b, (t1 && t5) = b := ⟨_, rfl⟩
                    rw [hx] at HZ ⊢
                    have HS2 := Lib.hid hS
                    clear hx hS
                    cases x
                    · go_upto_region 11 with fail
                      have ht6 := H_t6.out
                      have ht9 := H_t9.out
                      have he11 := H_e11.out
                      refine region_seq (D := [false, false, false, false, false, false, false, false, false, false, false, false, false, false, false, false, false, false, false, false, false, false, false, false, false, false, false, false, false, false, false, false, false, false, false, false, false, false, false, false, false, false, false, false, false, false, false, false, false, false, false, false, false, false, false, false, false, false, false, false, false, false, false, false, false, false, false, false, false, false, false, false, false, false, false, false, false, false, false, true, true, true, true, true, true, true, true, true, true, true]) (S := fun W => St [(bB, boxOf m, 27), (bA, g.arr, 23)] w W) (R := RB) (F := FF [isV (.int .i64 m.k.toNat), isV (.bool t6), isV (.bool t6), isV ((bif t6 then .int .i64 m.k.toNat else undef)), isV ((bif t6 then .bool t9 else undef)), isV (.bool (t6 && t9)), isV (.bool (t6 && t9)), isV ((bif !(t6 && t9) then .int .i64 m.k.toNat else undef)), isV ((bif !(t6 && t9) then .bool e11 else undef)), isV (.bool ((t6 && t9) || e11)), isV (.bool ((t6 && t9) || e11))]) rfl (by kernel_rfl) (FF_st _ _) HS2.out (fun hN => ?_) (fun u W hS hF => ?_)
                      · refine steps_cons ?_ ?_
                        · intro u W hS hp
                          exact step_on (wanted_free rfl) (ext_val hS (run_mv rfl ((eval_out rfl).trans rfl)) rfl)
                        refine steps_cons ?_ ?_
                        · intro u W hS hp
                          obtain ⟨q0, _⟩ := hp
                          have p80 : u 80 = .int .i64 m.k.toNat := q0
                          exact step_on (wanted_free rfl) (ext_val hS (run_bin rfl ((eval_in rfl hN rfl).trans p80) rfl rfl (i_geq ht6)) rfl)
                        refine steps_cons ?_ ?_
                        · intro u W hS hp
                          obtain ⟨q0, _⟩ := hp
                          have p81 : u 81 = .bool t6 := q0
                          exact step_on (wanted_free rfl) (ext_val hS (run_mv rfl ((eval_in rfl hN rfl).trans p81)) rfl)
                        refine steps_cons ?_ ?_
                        · intro u W hS hp
                          obtain ⟨q0, _⟩ := hp
                          have p82 : u 82 = .bool t6 := q0
                          cases t6 <;> (first | exact step_off (wanted_off rfl rfl rfl hN rfl p82) rfl | exact step_off (wanted_undef rfl rfl rfl hN rfl p82) rfl | exact step_on (wanted_on rfl rfl rfl hN rfl p82) (ext_val hS (run_mv rfl ((eval_out rfl).trans rfl)) rfl))
                        refine steps_cons ?_ ?_
                        · intro u W hS hp
                          obtain ⟨q0, q1, _⟩ := hp
                          have p83 : u 83 = (bif t6 then .int .i64 m.k.toNat else undef) := q0
                          have p82 : u 82 = .bool t6 := q1
                          cases t6 <;> (first | exact step_off (wanted_off rfl rfl rfl hN rfl p82) rfl | exact step_off (wanted_undef rfl rfl rfl hN rfl p82) rfl | exact step_on (wanted_on rfl rfl rfl hN rfl p82) (ext_val hS (run_bin rfl ((eval_in rfl hN rfl).trans p83) rfl rfl (i_leq ht9)) rfl))
                        refine steps_cons ?_ ?_
                        · intro u W hS hp
                          obtain ⟨q0, q1, _⟩ := hp
                          have p82 : u 82 = .bool t6 := q0
                          have p84 : u 84 = (bif t6 then .bool t9 else undef) := q1
                          cases t6 <;> (first | (first | exact step_on (wanted_free rfl) (ext_val hS (run_pickT rfl ((eval_in rfl hN rfl).trans p82) ((eval_in rfl hN rfl).trans p84)) rfl) | exact step_on (wanted_free rfl) (ext_val hS (run_pickF rfl ((eval_in rfl hN rfl).trans p82) rfl) rfl)))
                        refine steps_cons ?_ ?_
                        · intro u W hS hp
                          obtain ⟨q0, q1, _⟩ := hp
                          have p85 : u 85 = .bool (t6 && t9) := q0
                          exact step_on (wanted_free rfl) (ext_val hS (run_mv rfl ((eval_in rfl hN rfl).trans p85)) rfl)
                        refine steps_cons ?_ ?_
                        · intro u W hS hp
                          obtain ⟨q0, _⟩ := hp
                          have p86 : u 86 = .bool (t6 && t9) := q0
                          cases t6 <;> cases t9 <;> (first | exact step_off (wanted_off rfl rfl rfl hN rfl p86) rfl | exact step_off (wanted_undef rfl rfl rfl hN rfl p86) rfl | exact step_on (wanted_on rfl rfl rfl hN rfl p86) (ext_val hS (run_mv rfl ((eval_out rfl).trans rfl)) rfl))
                        refine steps_cons ?_ ?_
                        · intro u W hS hp
                          obtain ⟨q0, q1, _⟩ := hp
                          have p87 : u 87 = (bif !(t6 && t9) then .int .i64 m.k.toNat else undef) := q0
                          have p86 : u 86 = .bool (t6 && t9) := q1
                          cases t6 <;> cases t9 <;> (first | exact step_off (wanted_off rfl rfl rfl hN rfl p86) rfl | exact step_off (wanted_undef rfl rfl rfl hN rfl p86) rfl | exact step_on (wanted_on rfl rfl rfl hN rfl p86) (ext_val hS (run_bin rfl ((eval_in rfl hN rfl).trans p87) rfl rfl (i_eql he11)) rfl))
                        refine steps_cons ?_ ?_
                        · intro u W hS hp
                          obtain ⟨q0, q1, _⟩ := hp
                          have p86 : u 86 = .bool (t6 && t9) := q0
                          have p88 : u 88 = (bif !(t6 && t9) then .bool e11 else undef) := q1
                          cases t6 <;> cases t9 <;> (first | (first | exact step_on (wanted_free rfl) (ext_val hS (run_pickT rfl ((eval_in rfl hN rfl).trans p86) rfl) rfl) | exact step_on (wanted_free rfl) (ext_val hS (run_pickF rfl ((eval_in rfl hN rfl).trans p86) ((eval_in rfl hN rfl).trans p88)) rfl)))
                        refine steps_cons ?_ ?_
                        · intro u W hS hp
                          obtain ⟨q0, q1, _⟩ := hp
                          have p89 : u 89 = .bool ((t6 && t9) || e11) := q0
                          exact step_on (wanted_free rfl) (ext_val hS (run_asg rfl ((eval_in rfl hN rfl).trans p89)) rfl)
                        exact steps_nil
                      · obtain ⟨_, _, _, _, _, _, _, _, _, _, q10, _⟩ := hF
                        have p79 : u 79 = .bool ((t6 && t9) || e11) := q10
                        simp only [frm, frmL, Nat.reduceAdd, p79]
                        clear p79
                        clear ht6 ht9 he11
                        obtain ⟨x, hx⟩ : ∃ b, ((t6 && t9) || e11) = b := ⟨_, rfl⟩
                        rw [hx] at HZ ⊢
                        have HS3 := Lib.hid hS
                        clear hx hS
                        cases x
                        · have he10 := H_e10.out
                          cases e10
                          · have he12 := H_e12.out
                            cases e12
                            · go_wp2_with fail
                              go_meet
                              exact ⟨by rw [HZ.out]; rfl, HS3⟩
                            · go_wp2_with fail
                              go_meet
                              exact ⟨by rw [HZ.out]; rfl, HS3⟩
                          · go_upto_region 14 with fail

                            refine region_seq (D := [false, false, false, false, false, false, false, false, false, false, true, false, false, false, false, false, false, false, false, false, false, false, false, false, false, false, false, false, false, false, false, false, false, false, false, false, false, false, false, false, false, false, false, false, false, false, false, false, false, false, false, false, false, false, false, false, false, false, false, false, false, false, false, false, false, false, false, false, false, false, false, false, false, false, false, false, false, false, false, false, false, false, false, false, false, false, false, false, false, false, false, false, false, false, true, true, true, true]) (S := fun W => St [(bB, boxOf m, 27), (bA, g.arr, 23)] w W) (R := RB) (F := FF [isV (.bool xh), isV (.bool xh), isV ((bif !xh then .bool xb else undef)), isV (.bool (xh || xb)), isV (.bool (xh || xb))]) rfl (by kernel_rfl) (FF_st _ _) HS3.out (fun hN => ?_) (fun u W hS hF => ?_)
                            · refine steps_cons ?_ ?_
                              · intro u W hS hp
                                exact step_on (wanted_free rfl) (ext_val hS (run_mv rfl ((eval_out rfl).trans rfl)) rfl)
                              refine steps_cons ?_ ?_
                              · intro u W hS hp
                                obtain ⟨q0, _⟩ := hp
                                have p94 : u 94 = .bool xh := q0
                                exact step_on (wanted_free rfl) (ext_val hS (run_mv rfl ((eval_in rfl hN rfl).trans p94)) rfl)
                              refine steps_cons ?_ ?_
                              · intro u W hS hp
                                obtain ⟨q0, _⟩ := hp
                                have p95 : u 95 = .bool xh := q0
                                cases xh <;> (first | exact step_off (wanted_off rfl rfl rfl hN rfl p95) rfl | exact step_off (wanted_undef rfl rfl rfl hN rfl p95) rfl | exact step_on (wanted_on rfl rfl rfl hN rfl p95) (ext_val hS (run_mv rfl ((eval_out rfl).trans rfl)) rfl))
                              refine steps_cons ?_ ?_
                              · intro u W hS hp
                                obtain ⟨q0, q1, _⟩ := hp
                                have p95 : u 95 = .bool xh := q0
                                have p96 : u 96 = (bif !xh then .bool xb else undef) := q1
                                cases xh <;> (first | (first | exact step_on (wanted_free rfl) (ext_val hS (run_pickT rfl ((eval_in rfl hN rfl).trans p95) rfl) rfl) | exact step_on (wanted_free rfl) (ext_val hS (run_pickF rfl ((eval_in rfl hN rfl).trans p95) ((eval_in rfl hN rfl).trans p96)) rfl)))
                              refine steps_cons ?_ ?_
                              · intro u W hS hp
                                obtain ⟨q0, q1, q2, q3, q4, q5, _⟩ := hp
                                have p97 : u 97 = .bool (xh || xb) := q0
                                exact step_on (wanted_free rfl) (ext_val hS (run_asg rfl ((eval_in rfl hN rfl).trans p97)) rfl)
                              exact steps_nil
                            · obtain ⟨_, _, _, _, q4, _⟩ := hF
                              have p10 : u 10 = .bool (xh || xb) := q4
                              simp only [frm, frmL, Nat.reduceAdd, p10]
                              clear p10
                              go_wp2_with fail
                              go_meet
                              exact ⟨by rw [HZ.out]; rfl, Lib.hid hS⟩
                        · go_wp2_with fail
                          go_meet
                          exact ⟨by rw [HZ.out]; rfl, HS3⟩
                    · go_wp2_with fail
                      go_meet
                      exact ⟨by rw [HZ.out]; rfl, HS2⟩
                case rest =>
                  clear HS
                  obtain ⟨rfl, HS⟩ := hcut
                  go_upto_region 17 with fail
                  have ha0 := H_a0.out
                  refine region_seq (D := [false, false, false, false, false, false, false, false, false, false, false, true, false, false, false, false, false, false, false, false, false, false, false, false, false, false, false, false, false, false, false, false, false, false, false, false, false, false, false, false, false, false, false, false, false, false, false, false, false, false, false, false, false, false, false, false, false, false, false, false, false, false, false, false, false, false, false, false, false, false, false, false, false, false, false, false, false, false, false, false, false, false, false, false, false, false, false, false, false, false, false, false, false, false, false, false, false, false, false, false, false, false, true, true, true]) (S := fun W => St [(bB, boxOf m, 27), (bA, g.arr, 23)] w W) (R := RB) (F := FF [isV (.pointer (some ⟨bB, 4, none⟩)), isV (.int .u8 m.a.toNat), isV (.bool a0), isV (.bool a0)]) rfl (by kernel_rfl) (FF_st _ _) HS.out (fun hN => ?_) (fun u W hS hF => ?_)
                  · refine steps_cons ?_ ?_
                    · intro u W hS hp
                      exact step_on (wanted_free rfl) (ext_val hS (run_fa rfl ((eval_out rfl).trans rfl) (fa25_4 bB)) rfl)
                    refine steps_cons ?_ ?_
                    · intro u W hS hp
                      obtain ⟨q0, _⟩ := hp
                      have p102 : u 102 = .pointer (some ⟨bB, 4, none⟩) := q0
                      exact step_on (wanted_free rfl) (ext_val hS (run_ld rfl ((eval_in rfl hN rfl).trans p102) (ld_u8 ((cell_of_heap (hS.h (bB, boxOf m, 27) (by simp))).trans (rfl : (boxOf m)[4]? = some _)))) rfl)
                    refine steps_cons ?_ ?_
                    · intro u W hS hp
                      obtain ⟨q0, _⟩ := hp
                      have p103 : u 103 = .int .u8 m.a.toNat := q0
                      exact step_on (wanted_free rfl) (ext_val hS (run_bin rfl ((eval_in rfl hN rfl).trans p103) rfl rfl (i_eql ha0)) rfl)
                    refine steps_cons ?_ ?_
                    · intro u W hS hp
                      obtain ⟨q0, q1, q2, q3, _⟩ := hp
                      have p104 : u 104 = .bool a0 := q0
                      exact step_on (wanted_free rfl) (ext_val hS (run_asg rfl ((eval_in rfl hN rfl).trans p104)) rfl)
                    exact steps_nil
                  · obtain ⟨_, _, _, q3, _⟩ := hF
                    have p11 : u 11 = .bool a0 := q3
                    simp only [frm, frmL, Nat.reduceAdd, p11]
                    clear p11
                    clear ha0
                    go_upto_region 18 with fail
                    have ht6 := H_t6.out
                    have ht8 := H_t8.out
                    refine region_seq (D := [false, false, false, false, false, false, false, false, false, false, false, false, false, false, false, false, false, false, false, false, false, false, false, false, false, false, false, false, false, false, false, false, false, false, false, false, false, false, false, false, false, false, false, false, false, false, false, false, false, false, false, false, false, false, false, false, false, false, false, false, false, false, false, false, false, false, false, false, false, false, false, false, false, false, false, false, false, false, false, false, false, false, false, false, false, false, false, false, false, false, false, false, false, false, false, false, false, false, false, false, false, false, false, false, false, true, true, true, true, true, true]) (S := fun W => St [(bB, boxOf m, 27), (bA, g.arr, 23)] w W) (R := RB) (F := FF [isV (.int .i64 m.k.toNat), isV (.bool t6), isV (.bool t6), isV ((bif t6 then .int .i64 m.k.toNat else undef)), isV ((bif t6 then .bool t8 else undef)), isV (.bool (t6 && t8))]) rfl (by kernel_rfl) (FF_st _ _) hS (fun hN => ?_) (fun u W hS hF => ?_)
                    · refine steps_cons ?_ ?_
                      · intro u W hS hp
                        exact step_on (wanted_free rfl) (ext_val hS (run_mv rfl ((eval_out rfl).trans rfl)) rfl)
                      refine steps_cons ?_ ?_
                      · intro u W hS hp
                        obtain ⟨q0, _⟩ := hp
                        have p105 : u 105 = .int .i64 m.k.toNat := q0
                        exact step_on (wanted_free rfl) (ext_val hS (run_bin rfl ((eval_in rfl hN rfl).trans p105) rfl rfl (i_geq ht6)) rfl)
                      refine steps_cons ?_ ?_
                      · intro u W hS hp
                        obtain ⟨q0, _⟩ := hp
                        have p106 : u 106 = .bool t6 := q0
                        exact step_on (wanted_free rfl) (ext_val hS (run_mv rfl ((eval_in rfl hN rfl).trans p106)) rfl)
                      refine steps_cons ?_ ?_
                      · intro u W hS hp
                        obtain ⟨q0, _⟩ := hp
                        have p107 : u 107 = .bool t6 := q0
                        cases t6 <;> (first | exact step_off (wanted_off rfl rfl rfl hN rfl p107) rfl | exact step_off (wanted_undef rfl rfl rfl hN rfl p107) rfl | exact step_on (wanted_on rfl rfl rfl hN rfl p107) (ext_val hS (run_mv rfl ((eval_out rfl).trans rfl)) rfl))
                      refine steps_cons ?_ ?_
                      · intro u W hS hp
                        obtain ⟨q0, q1, _⟩ := hp
                        have p108 : u 108 = (bif t6 then .int .i64 m.k.toNat else undef) := q0
                        have p107 : u 107 = .bool t6 := q1
                        cases t6 <;> (first | exact step_off (wanted_off rfl rfl rfl hN rfl p107) rfl | exact step_off (wanted_undef rfl rfl rfl hN rfl p107) rfl | exact step_on (wanted_on rfl rfl rfl hN rfl p107) (ext_val hS (run_bin rfl ((eval_in rfl hN rfl).trans p108) rfl rfl (i_leq ht8)) rfl))
                      refine steps_cons ?_ ?_
                      · intro u W hS hp
                        obtain ⟨q0, q1, _⟩ := hp
                        have p107 : u 107 = .bool t6 := q0
                        have p109 : u 109 = (bif t6 then .bool t8 else undef) := q1
                        cases t6 <;> (first | (first | exact step_on (wanted_free rfl) (ext_val hS (run_pickT rfl ((eval_in rfl hN rfl).trans p107) ((eval_in rfl hN rfl).trans p109)) rfl) | exact step_on (wanted_free rfl) (ext_val hS (run_pickF rfl ((eval_in rfl hN rfl).trans p107) rfl) rfl)))
                      exact steps_nil
                    · obtain ⟨_, _, _, _, _, q5, _⟩ := hF
                      have p110 : u 110 = .bool (t6 && t8) := q5
                      simp only [frm, frmL, Nat.reduceAdd, p110]
                      clear p110
                      clear ht6 ht8
                      obtain ⟨x, hx⟩ : ∃ b, (t6 && t8) = b := ⟨_, rfl⟩
                      have HA : Hid (ak = (bif x then (ca && na) else a0)) := by show _ = _; rw [← HAK.out, hx]
                      rw [hx]
                      have HS2 := Lib.hid hS
                      clear hx hS HAK HS
                      go_upto_if 110 with fail
                      go_cut [11] (fun s11 wx => s11 = .bool ak ∧ Hid (St [(bB, boxOf m, 27), (bA, g.arr, 23)] w wx))
                      case first =>
                        cases x
                        · go_wp2_with fail
                          go_meet
                          exact ⟨by rw [HA.out]; rfl, HS2⟩
                        · go_upto_region 19 with fail
                          have hca := H_ca.out
                          have hna := H_na.out
                          refine region_seq (D := [false, false, false, false, false, false, false, false, false, false, false, true, false, false, false, false, false, false, false, false, false, false, false, false, false, false, false, false, false, false, false, false, false, false, false, false, false, false, false, false, false, false, false, false, false, false, false, false, false, false, false, false, false, false, false, false, false, false, false, false, false, false, false, false, false, false, false, false, false, false, false, false, false, false, false, false, false, false, false, false, false, false, false, false, false, false, false, false, false, false, false, false, false, false, false, false, false, false, false, false, false, false, false, false, false, false, false, false, false, false, false, true, true, true, true, true, true, true, true, true, true, true]) (S := fun W => St [(bB, boxOf m, 27), (bA, g.arr, 23)] w W) (R := RB) (F := FF [isV (.agg g.arr), isV (.pointer (some ⟨bB, 4, none⟩)), isV (.int .u8 m.a.toNat), isV (.bool ca), isV (.bool ca), isV ((bif ca then .pointer (some ⟨bB, 4, none⟩) else undef)), isV ((bif ca then .int .u8 m.a.toNat else undef)), isV ((bif ca then .pointer (some ⟨bB, 2, none⟩) else undef)), isV ((bif ca then .int .u8 m.t.toNat else undef)), isV ((bif ca then .bool na else undef)), isV (.bool (ca && na)), isV (.bool (ca && na))]) rfl (by kernel_rfl) (FF_st _ _) HS2.out (fun hN => ?_) (fun u W hS hF => ?_)
                          · refine steps_cons ?_ ?_
                            · intro u W hS hp
                              exact step_on (wanted_free rfl) (ext_val hS (run_ld rfl ((eval_out rfl).trans rfl) (ld39 (hS.h (bA, g.arr, 23) (by simp)))) rfl)
                            refine steps_cons ?_ ?_
                            · intro u W hS hp
                              exact step_on (wanted_free rfl) (ext_val hS (run_fa rfl ((eval_out rfl).trans rfl) (fa25_4 bB)) rfl)
                            refine steps_cons ?_ ?_
                            · intro u W hS hp
                              obtain ⟨q0, _⟩ := hp
                              have p112 : u 112 = .pointer (some ⟨bB, 4, none⟩) := q0
                              exact step_on (wanted_free rfl) (ext_val hS (run_ld rfl ((eval_in rfl hN rfl).trans p112) (ld_u8 ((cell_of_heap (hS.h (bB, boxOf m, 27) (by simp))).trans (rfl : (boxOf m)[4]? = some _)))) rfl)
                            refine steps_cons ?_ ?_
                            · intro u W hS hp
                              obtain ⟨q0, q1, _⟩ := hp
                              have p111 : u 111 = .agg g.arr := q0
                              have p113 : u 113 = .int .u8 m.a.toNat := q1
                              exact step_on (wanted_free rfl) (ext_call (run_call rfl rfl (map2 ((eval_in rfl hN rfl).trans p111) ((eval_in rfl hN rfl).trans p113)) Tryz.func26 nm67 bd67) ((riscache_any g m.a.toNat m.a.toNat_lt W hS.g).mono fun _ _ ⟨e, h⟩ => ⟨_, e.trans (congrArg (fun x => Ending.returned (Value.bool x)) hca), rfl, hS.next h, h⟩))
                            refine steps_cons ?_ ?_
                            · intro u W hS hp
                              obtain ⟨q0, q1, _⟩ := hp
                              have p114 : u 114 = .bool ca := q0
                              exact step_on (wanted_free rfl) (ext_val hS (run_mv rfl ((eval_in rfl hN rfl).trans p114)) rfl)
                            refine steps_cons ?_ ?_
                            · intro u W hS hp
                              obtain ⟨q0, _⟩ := hp
                              have p115 : u 115 = .bool ca := q0
                              cases ca <;> (first | exact step_off (wanted_off rfl rfl rfl hN rfl p115) rfl | exact step_off (wanted_undef rfl rfl rfl hN rfl p115) rfl | exact step_on (wanted_on rfl rfl rfl hN rfl p115) (ext_val hS (run_fa rfl ((eval_out rfl).trans rfl) (fa25_4 bB)) rfl))
                            refine steps_cons ?_ ?_
                            · intro u W hS hp
                              obtain ⟨q0, q1, _⟩ := hp
                              have p116 : u 116 = (bif ca then .pointer (some ⟨bB, 4, none⟩) else undef) := q0
                              have p115 : u 115 = .bool ca := q1
                              cases ca <;> (first | exact step_off (wanted_off rfl rfl rfl hN rfl p115) rfl | exact step_off (wanted_undef rfl rfl rfl hN rfl p115) rfl | exact step_on (wanted_on rfl rfl rfl hN rfl p115) (ext_val hS (run_ld rfl ((eval_in rfl hN rfl).trans p116) (ld_u8 ((cell_of_heap (hS.h (bB, boxOf m, 27) (by simp))).trans (rfl : (boxOf m)[4]? = some _)))) rfl))
                            refine steps_cons ?_ ?_
                            · intro u W hS hp
                              obtain ⟨q0, _⟩ := hp
                              have p115 : u 115 = .bool ca := q0
                              cases ca <;> (first | exact step_off (wanted_off rfl rfl rfl hN rfl p115) rfl | exact step_off (wanted_undef rfl rfl rfl hN rfl p115) rfl | exact step_on (wanted_on rfl rfl rfl hN rfl p115) (ext_val hS (run_fa rfl ((eval_out rfl).trans rfl) (fa25_2 bB)) rfl))
                            refine steps_cons ?_ ?_
                            · intro u W hS hp
                              obtain ⟨q0, q1, _⟩ := hp
                              have p118 : u 118 = (bif ca then .pointer (some ⟨bB, 2, none⟩) else undef) := q0
                              have p115 : u 115 = .bool ca := q1
                              cases ca <;> (first | exact step_off (wanted_off rfl rfl rfl hN rfl p115) rfl | exact step_off (wanted_undef rfl rfl rfl hN rfl p115) rfl | exact step_on (wanted_on rfl rfl rfl hN rfl p115) (ext_val hS (run_ld rfl ((eval_in rfl hN rfl).trans p118) (ld_u8 ((cell_of_heap (hS.h (bB, boxOf m, 27) (by simp))).trans (rfl : (boxOf m)[2]? = some _)))) rfl))
                            refine steps_cons ?_ ?_
                            · intro u W hS hp
                              obtain ⟨q0, q1, q2, _⟩ := hp
                              have p117 : u 117 = (bif ca then .int .u8 m.a.toNat else undef) := q0
                              have p119 : u 119 = (bif ca then .int .u8 m.t.toNat else undef) := q1
                              have p115 : u 115 = .bool ca := q2
                              cases ca <;> (first | exact step_off (wanted_off rfl rfl rfl hN rfl p115) rfl | exact step_off (wanted_undef rfl rfl rfl hN rfl p115) rfl | exact step_on (wanted_on rfl rfl rfl hN rfl p115) (ext_val hS (run_bin rfl ((eval_in rfl hN rfl).trans p117) ((eval_in rfl hN rfl).trans p119) rfl (i_neq hna)) rfl))
                            refine steps_cons ?_ ?_
                            · intro u W hS hp
                              obtain ⟨q0, q1, _⟩ := hp
                              have p115 : u 115 = .bool ca := q0
                              have p120 : u 120 = (bif ca then .bool na else undef) := q1
                              cases ca <;> (first | (first | exact step_on (wanted_free rfl) (ext_val hS (run_pickT rfl ((eval_in rfl hN rfl).trans p115) ((eval_in rfl hN rfl).trans p120)) rfl) | exact step_on (wanted_free rfl) (ext_val hS (run_pickF rfl ((eval_in rfl hN rfl).trans p115) rfl) rfl)))
                            refine steps_cons ?_ ?_
                            · intro u W hS hp
                              obtain ⟨q0, q1, q2, q3, q4, q5, q6, q7, q8, q9, q10, q11, q12, _⟩ := hp
                              have p121 : u 121 = .bool (ca && na) := q0
                              exact step_on (wanted_free rfl) (ext_val hS (run_asg rfl ((eval_in rfl hN rfl).trans p121)) rfl)
                            exact steps_nil
                          · obtain ⟨_, _, _, _, _, _, _, _, _, _, _, q11, _⟩ := hF
                            have p11 : u 11 = .bool (ca && na) := q11
                            simp only [frm, frmL, Nat.reduceAdd, p11]
                            clear p11
                            clear hca hna
                            go_wp2_with fail
                            go_meet
                            exact ⟨by rw [HA.out]; rfl, Lib.hid hS⟩
                      case rest =>
                        clear HS2
                        obtain ⟨rfl, HS⟩ := hcut
                        go_upto_region 20 with fail
                        have hc0 := H_c0.out
                        have hlc := H_lc.out
                        have he7 := H_e7.out
                        have he10 := H_e10.out
                        have he11 := H_e11.out
                        refine region_seq (D := [false, false, false, false, false, false, false, false, false, false, false, false, true, false, false, false, false, false, false, false, false, false, false, false, false, false, false, false, false, false, false, false, false, false, false, false, false, false, false, false, false, false, false, false, false, false, false, false, false, false, false, false, false, false, false, false, false, false, false, false, false, false, false, false, false, false, false, false, false, false, false, false, false, false, false, false, false, false, false, false, false, false, false, false, false, false, false, false, false, false, false, false, false, false, false, false, false, false, false, false, false, false, false, false, false, false, false, false, false, false, false, false, false, false, false, false, false, false, false, false, false, false, true, true, true, true, true, true, true, true, true, true, true, true, true, true, true, true, true, true, true, true, true, true, true]) (S := fun W => St [(bB, boxOf m, 27), (bA, g.arr, 23)] w W) (R := RB) (F := FF [isV (.pointer (some ⟨bB, 5, none⟩)), isV (.int .u8 m.c.toNat), isV (.bool c0), isV (.bool c0), isV ((bif !c0 then .pointer (some ⟨bB, 5, none⟩) else undef)), isV ((bif !c0 then .int .u8 m.c.toNat else undef)), isV ((bif !c0 then .int .i64 m.c.toNat else undef)), isV ((bif !c0 then .pointer (some ⟨bA, 0, none⟩) else undef)), isV ((bif !c0 then .int .i64 g.c else undef)), isV ((bif !c0 then .bool lc else undef)), isV ((bif !c0 then .bool lc else undef)), isV ((bif (!c0 && lc) then .int .i64 m.k.toNat else undef)), isV ((bif (!c0 && lc) then .bool e7 else undef)), isV ((bif (!c0 && lc) then .bool e7 else undef)), isV ((bif ((!c0 && lc) && !e7) then .int .i64 m.k.toNat else undef)), isV ((bif ((!c0 && lc) && !e7) then .bool e10 else undef)), isV ((bif (!c0 && lc) then .bool (e7 || e10) else undef)), isV ((bif (!c0 && lc) then .bool (e7 || e10) else undef)), isV ((bif ((!c0 && lc) && !(e7 || e10)) then .int .i64 m.k.toNat else undef)), isV ((bif ((!c0 && lc) && !(e7 || e10)) then .bool e11 else undef)), isV ((bif (!c0 && lc) then .bool ((e7 || e10) || e11) else undef)), isV ((bif !c0 then .bool (lc && ((e7 || e10) || e11)) else undef)), isV (.bool (c0 || (lc && ((e7 || e10) || e11)))), isV (.bool (c0 || (lc && ((e7 || e10) || e11))))]) rfl (by kernel_rfl) (FF_st _ _) HS.out (fun hN => ?_) (fun u W hS hF => ?_)
                        · refine steps_cons ?_ ?_
                          · intro u W hS hp
                            exact step_on (wanted_free rfl) (ext_val hS (run_fa rfl ((eval_out rfl).trans rfl) (fa25_5 bB)) rfl)
                          refine steps_cons ?_ ?_
                          · intro u W hS hp
                            obtain ⟨q0, _⟩ := hp
                            have p122 : u 122 = .pointer (some ⟨bB, 5, none⟩) := q0
                            exact step_on (wanted_free rfl) (ext_val hS (run_ld rfl ((eval_in rfl hN rfl).trans p122) (ld_u8 ((cell_of_heap (hS.h (bB, boxOf m, 27) (by simp))).trans (rfl : (boxOf m)[5]? = some _)))) rfl)
                          refine steps_cons ?_ ?_
                          · intro u W hS hp
                            obtain ⟨q0, _⟩ := hp
                            have p123 : u 123 = .int .u8 m.c.toNat := q0
                            exact step_on (wanted_free rfl) (ext_val hS (run_bin rfl ((eval_in rfl hN rfl).trans p123) rfl rfl (i_eql hc0)) rfl)
                          refine steps_cons ?_ ?_
                          · intro u W hS hp
                            obtain ⟨q0, _⟩ := hp
                            have p124 : u 124 = .bool c0 := q0
                            exact step_on (wanted_free rfl) (ext_val hS (run_mv rfl ((eval_in rfl hN rfl).trans p124)) rfl)
                          refine steps_cons ?_ ?_
                          · intro u W hS hp
                            obtain ⟨q0, _⟩ := hp
                            have p125 : u 125 = .bool c0 := q0
                            cases c0 <;> (first | exact step_off (wanted_off rfl rfl rfl hN rfl p125) rfl | exact step_off (wanted_undef rfl rfl rfl hN rfl p125) rfl | exact step_on (wanted_on rfl rfl rfl hN rfl p125) (ext_val hS (run_fa rfl ((eval_out rfl).trans rfl) (fa25_5 bB)) rfl))
                          refine steps_cons ?_ ?_
                          · intro u W hS hp
                            obtain ⟨q0, q1, _⟩ := hp
                            have p126 : u 126 = (bif !c0 then .pointer (some ⟨bB, 5, none⟩) else undef) := q0
                            have p125 : u 125 = .bool c0 := q1
                            cases c0 <;> (first | exact step_off (wanted_off rfl rfl rfl hN rfl p125) rfl | exact step_off (wanted_undef rfl rfl rfl hN rfl p125) rfl | exact step_on (wanted_on rfl rfl rfl hN rfl p125) (ext_val hS (run_ld rfl ((eval_in rfl hN rfl).trans p126) (ld_u8 ((cell_of_heap (hS.h (bB, boxOf m, 27) (by simp))).trans (rfl : (boxOf m)[5]? = some _)))) rfl))
                          refine steps_cons ?_ ?_
                          · intro u W hS hp
                            obtain ⟨q0, q1, _⟩ := hp
                            have p127 : u 127 = (bif !c0 then .int .u8 m.c.toNat else undef) := q0
                            have p125 : u 125 = .bool c0 := q1
                            cases c0 <;> (first | exact step_off (wanted_off rfl rfl rfl hN rfl p125) rfl | exact step_off (wanted_undef rfl rfl rfl hN rfl p125) rfl | exact step_on (wanted_on rfl rfl rfl hN rfl p125) (ext_val hS (run_conv rfl ((eval_in rfl hN rfl).trans p127) (conv53 (by omega) (by have := m.c.toNat_lt; omega))) rfl))
                          refine steps_cons ?_ ?_
                          · intro u W hS hp
                            obtain ⟨q0, _⟩ := hp
                            have p125 : u 125 = .bool c0 := q0
                            cases c0 <;> (first | exact step_off (wanted_off rfl rfl rfl hN rfl p125) rfl | exact step_off (wanted_undef rfl rfl rfl hN rfl p125) rfl | exact step_on (wanted_on rfl rfl rfl hN rfl p125) (ext_val hS (run_fa rfl ((eval_out rfl).trans rfl) (fa39_0 bA W)) rfl))
                          refine steps_cons ?_ ?_
                          · intro u W hS hp
                            obtain ⟨q0, q1, _⟩ := hp
                            have p129 : u 129 = (bif !c0 then .pointer (some ⟨bA, 0, none⟩) else undef) := q0
                            have p125 : u 125 = .bool c0 := q1
                            cases c0 <;> (first | exact step_off (wanted_off rfl rfl rfl hN rfl p125) rfl | exact step_off (wanted_undef rfl rfl rfl hN rfl p125) rfl | exact step_on (wanted_on rfl rfl rfl hN rfl p125) (ext_val hS (run_ld rfl ((eval_in rfl hN rfl).trans p129) (ld_int ((cell_of_heap (hS.h (bA, g.arr, 23) (by simp))).trans (rfl : g.arr[0]? = some _)))) rfl))
                          refine steps_cons ?_ ?_
                          · intro u W hS hp
                            obtain ⟨q0, q1, q2, _⟩ := hp
                            have p128 : u 128 = (bif !c0 then .int .i64 m.c.toNat else undef) := q0
                            have p130 : u 130 = (bif !c0 then .int .i64 g.c else undef) := q1
                            have p125 : u 125 = .bool c0 := q2
                            cases c0 <;> (first | exact step_off (wanted_off rfl rfl rfl hN rfl p125) rfl | exact step_off (wanted_undef rfl rfl rfl hN rfl p125) rfl | exact step_on (wanted_on rfl rfl rfl hN rfl p125) (ext_val hS (run_bin rfl ((eval_in rfl hN rfl).trans p128) ((eval_in rfl hN rfl).trans p130) rfl (i_lss hlc)) rfl))
                          refine steps_cons ?_ ?_
                          · intro u W hS hp
                            obtain ⟨q0, q1, q2, _⟩ := hp
                            have p131 : u 131 = (bif !c0 then .bool lc else undef) := q0
                            have p125 : u 125 = .bool c0 := q1
                            cases c0 <;> (first | exact step_off (wanted_off rfl rfl rfl hN rfl p125) rfl | exact step_off (wanted_undef rfl rfl rfl hN rfl p125) rfl | exact step_on (wanted_on rfl rfl rfl hN rfl p125) (ext_val hS (run_mv rfl ((eval_in rfl hN rfl).trans p131)) rfl))
                          refine steps_cons ?_ ?_
                          · intro u W hS hp
                            obtain ⟨q0, _⟩ := hp
                            have p132 : u 132 = (bif !c0 then .bool lc else undef) := q0
                            cases c0 <;> cases lc <;> (first | exact step_off (wanted_off rfl rfl rfl hN rfl p132) rfl | exact step_off (wanted_undef rfl rfl rfl hN rfl p132) rfl | exact step_on (wanted_on rfl rfl rfl hN rfl p132) (ext_val hS (run_mv rfl ((eval_out rfl).trans rfl)) rfl))
                          refine steps_cons ?_ ?_
                          · intro u W hS hp
                            obtain ⟨q0, q1, _⟩ := hp
                            have p133 : u 133 = (bif (!c0 && lc) then .int .i64 m.k.toNat else undef) := q0
                            have p132 : u 132 = (bif !c0 then .bool lc else undef) := q1
                            cases c0 <;> cases lc <;> (first | exact step_off (wanted_off rfl rfl rfl hN rfl p132) rfl | exact step_off (wanted_undef rfl rfl rfl hN rfl p132) rfl | exact step_on (wanted_on rfl rfl rfl hN rfl p132) (ext_val hS (run_bin rfl ((eval_in rfl hN rfl).trans p133) rfl rfl (i_eql he7)) rfl))
                          refine steps_cons ?_ ?_
                          · intro u W hS hp
                            obtain ⟨q0, q1, q2, _⟩ := hp
                            have p134 : u 134 = (bif (!c0 && lc) then .bool e7 else undef) := q0
                            have p132 : u 132 = (bif !c0 then .bool lc else undef) := q1
                            cases c0 <;> cases lc <;> (first | exact step_off (wanted_off rfl rfl rfl hN rfl p132) rfl | exact step_off (wanted_undef rfl rfl rfl hN rfl p132) rfl | exact step_on (wanted_on rfl rfl rfl hN rfl p132) (ext_val hS (run_mv rfl ((eval_in rfl hN rfl).trans p134)) rfl))
                          refine steps_cons ?_ ?_
                          · intro u W hS hp
                            obtain ⟨q0, _⟩ := hp
                            have p135 : u 135 = (bif (!c0 && lc) then .bool e7 else undef) := q0
                            cases c0 <;> cases e7 <;> cases lc <;> (first | exact step_off (wanted_off rfl rfl rfl hN rfl p135) rfl | exact step_off (wanted_undef rfl rfl rfl hN rfl p135) rfl | exact step_on (wanted_on rfl rfl rfl hN rfl p135) (ext_val hS (run_mv rfl ((eval_out rfl).trans rfl)) rfl))
                          refine steps_cons ?_ ?_
                          · intro u W hS hp
                            obtain ⟨q0, q1, _⟩ := hp
                            have p136 : u 136 = (bif ((!c0 && lc) && !e7) then .int .i64 m.k.toNat else undef) := q0
                            have p135 : u 135 = (bif (!c0 && lc) then .bool e7 else undef) := q1
                            cases c0 <;> cases e7 <;> cases lc <;> (first | exact step_off (wanted_off rfl rfl rfl hN rfl p135) rfl | exact step_off (wanted_undef rfl rfl rfl hN rfl p135) rfl | exact step_on (wanted_on rfl rfl rfl hN rfl p135) (ext_val hS (run_bin rfl ((eval_in rfl hN rfl).trans p136) rfl rfl (i_eql he10)) rfl))
                          refine steps_cons ?_ ?_
                          · intro u W hS hp
                            obtain ⟨q0, q1, q2, _⟩ := hp
                            have p135 : u 135 = (bif (!c0 && lc) then .bool e7 else undef) := q0
                            have p137 : u 137 = (bif ((!c0 && lc) && !e7) then .bool e10 else undef) := q1
                            have p132 : u 132 = (bif !c0 then .bool lc else undef) := q2
                            cases c0 <;> cases e7 <;> cases lc <;> (first | exact step_off (wanted_off rfl rfl rfl hN rfl p132) rfl | exact step_off (wanted_undef rfl rfl rfl hN rfl p132) rfl | (first | exact step_on (wanted_on rfl rfl rfl hN rfl p132) (ext_val hS (run_pickT rfl ((eval_in rfl hN rfl).trans p135) rfl) rfl) | exact step_on (wanted_on rfl rfl rfl hN rfl p132) (ext_val hS (run_pickF rfl ((eval_in rfl hN rfl).trans p135) ((eval_in rfl hN rfl).trans p137)) rfl)))
                          refine steps_cons ?_ ?_
                          · intro u W hS hp
                            obtain ⟨q0, q1, q2, _⟩ := hp
                            have p138 : u 138 = (bif (!c0 && lc) then .bool (e7 || e10) else undef) := q0
                            have p132 : u 132 = (bif !c0 then .bool lc else undef) := q2
                            cases c0 <;> cases lc <;> (first | exact step_off (wanted_off rfl rfl rfl hN rfl p132) rfl | exact step_off (wanted_undef rfl rfl rfl hN rfl p132) rfl | exact step_on (wanted_on rfl rfl rfl hN rfl p132) (ext_val hS (run_mv rfl ((eval_in rfl hN rfl).trans p138)) rfl))
                          refine steps_cons ?_ ?_
                          · intro u W hS hp
                            obtain ⟨q0, _⟩ := hp
                            have p139 : u 139 = (bif (!c0 && lc) then .bool (e7 || e10) else undef) := q0
                            cases c0 <;> cases e10 <;> cases e7 <;> cases lc <;> (first | exact step_off (wanted_off rfl rfl rfl hN rfl p139) rfl | exact step_off (wanted_undef rfl rfl rfl hN rfl p139) rfl | exact step_on (wanted_on rfl rfl rfl hN rfl p139) (ext_val hS (run_mv rfl ((eval_out rfl).trans rfl)) rfl))
                          refine steps_cons ?_ ?_
                          · intro u W hS hp
                            obtain ⟨q0, q1, _⟩ := hp
                            have p140 : u 140 = (bif ((!c0 && lc) && !(e7 || e10)) then .int .i64 m.k.toNat else undef) := q0
                            have p139 : u 139 = (bif (!c0 && lc) then .bool (e7 || e10) else undef) := q1
                            cases c0 <;> cases e10 <;> cases e7 <;> cases lc <;> (first | exact step_off (wanted_off rfl rfl rfl hN rfl p139) rfl | exact step_off (wanted_undef rfl rfl rfl hN rfl p139) rfl | exact step_on (wanted_on rfl rfl rfl hN rfl p139) (ext_val hS (run_bin rfl ((eval_in rfl hN rfl).trans p140) rfl rfl (i_eql he11)) rfl))
                          refine steps_cons ?_ ?_
                          · intro u W hS hp
                            obtain ⟨q0, q1, q2, _⟩ := hp
                            have p139 : u 139 = (bif (!c0 && lc) then .bool (e7 || e10) else undef) := q0
                            have p141 : u 141 = (bif ((!c0 && lc) && !(e7 || e10)) then .bool e11 else undef) := q1
                            have p132 : u 132 = (bif !c0 then .bool lc else undef) := q2
                            cases c0 <;> cases e10 <;> cases e7 <;> cases lc <;> (first | exact step_off (wanted_off rfl rfl rfl hN rfl p132) rfl | exact step_off (wanted_undef rfl rfl rfl hN rfl p132) rfl | (first | exact step_on (wanted_on rfl rfl rfl hN rfl p132) (ext_val hS (run_pickT rfl ((eval_in rfl hN rfl).trans p139) rfl) rfl) | exact step_on (wanted_on rfl rfl rfl hN rfl p132) (ext_val hS (run_pickF rfl ((eval_in rfl hN rfl).trans p139) ((eval_in rfl hN rfl).trans p141)) rfl)))
                          refine steps_cons ?_ ?_
                          · intro u W hS hp
                            obtain ⟨q0, q1, q2, _⟩ := hp
                            have p132 : u 132 = (bif !c0 then .bool lc else undef) := q0
                            have p142 : u 142 = (bif (!c0 && lc) then .bool ((e7 || e10) || e11) else undef) := q1
                            have p125 : u 125 = .bool c0 := q2
                            cases c0 <;> cases lc <;> (first | exact step_off (wanted_off rfl rfl rfl hN rfl p125) rfl | exact step_off (wanted_undef rfl rfl rfl hN rfl p125) rfl | (first | exact step_on (wanted_on rfl rfl rfl hN rfl p125) (ext_val hS (run_pickT rfl ((eval_in rfl hN rfl).trans p132) ((eval_in rfl hN rfl).trans p142)) rfl) | exact step_on (wanted_on rfl rfl rfl hN rfl p125) (ext_val hS (run_pickF rfl ((eval_in rfl hN rfl).trans p132) rfl) rfl)))
                          refine steps_cons ?_ ?_
                          · intro u W hS hp
                            obtain ⟨q0, q1, _⟩ := hp
                            have p125 : u 125 = .bool c0 := q0
                            have p143 : u 143 = (bif !c0 then .bool (lc && ((e7 || e10) || e11)) else undef) := q1
                            cases c0 <;> (first | (first | exact step_on (wanted_free rfl) (ext_val hS (run_pickT rfl ((eval_in rfl hN rfl).trans p125) rfl) rfl) | exact step_on (wanted_free rfl) (ext_val hS (run_pickF rfl ((eval_in rfl hN rfl).trans p125) ((eval_in rfl hN rfl).trans p143)) rfl)))
                          refine steps_cons ?_ ?_
                          · intro u W hS hp
                            obtain ⟨q0, q1, q2, q3, q4, q5, q6, q7, q8, q9, q10, q11, q12, q13, q14, q15, q16, q17, q18, q19, q20, q21, q22, q23, q24, _⟩ := hp
                            have p144 : u 144 = .bool (c0 || (lc && ((e7 || e10) || e11))) := q0
                            exact step_on (wanted_free rfl) (ext_val hS (run_asg rfl ((eval_in rfl hN rfl).trans p144)) rfl)
                          exact steps_nil
                        · obtain ⟨_, _, _, _, _, _, _, _, _, _, _, _, _, _, _, _, _, _, _, _, _, _, _, q23, _⟩ := hF
                          have p12 : u 12 = .bool (c0 || (lc && ((e7 || e10) || e11))) := q23
                          simp only [frm, frmL, Nat.reduceAdd, p12]
                          clear p12
                          clear hc0 hlc he7 he10 he11
                          rw [show (c0 || (lc && ((e7 || e10) || e11))) = ac from HAC.out]
                          go_upto_region 21 with fail
                          have hb0 := H_b0.out
                          have he10 := H_e10.out
                          refine region_seq (D := [false, false, false, false, false, false, false, false, false, false, false, false, false, true, false, false, false, false, false, false, false, false, false, false, false, false, false, false, false, false, false, false, false, false, false, false, false, false, false, false, false, false, false, false, false, false, false, false, false, false, false, false, false, false, false, false, false, false, false, false, false, false, false, false, false, false, false, false, false, false, false, false, false, false, false, false, false, false, false, false, false, false, false, false, false, false, false, false, false, false, false, false, false, false, false, false, false, false, false, false, false, false, false, false, false, false, false, false, false, false, false, false, false, false, false, false, false, false, false, false, false, false, false, false, false, false, false, false, false, false, false, false, false, false, false, false, false, false, false, false, false, false, false, false, false, true, true, true, true, true, true, true, true, true, true]) (S := fun W => St [(bB, boxOf m, 27), (bA, g.arr, 23)] w W) (R := RB) (F := FF [isV (.pointer (some ⟨bB, 6, none⟩)), isV (.bool b0), isV (.bool (!b0)), isV (.bool (!b0)), isV ((bif !(!b0) then .int .i64 m.k.toNat else undef)), isV ((bif !(!b0) then .bool e10 else undef)), isV ((bif !(!b0) then .bool e10 else undef)), isV ((bif (!(!b0) && e10) then .bool xh else undef)), isV ((bif !(!b0) then .bool (e10 && xh) else undef)), isV (.bool ((!b0) || (e10 && xh))), isV (.bool ((!b0) || (e10 && xh)))]) rfl (by kernel_rfl) (FF_st _ _) hS (fun hN => ?_) (fun u W hS hF => ?_)
                          · refine steps_cons ?_ ?_
                            · intro u W hS hp
                              exact step_on (wanted_free rfl) (ext_val hS (run_fa rfl ((eval_out rfl).trans rfl) (fa25_6 bB)) rfl)
                            refine steps_cons ?_ ?_
                            · intro u W hS hp
                              obtain ⟨q0, _⟩ := hp
                              have p145 : u 145 = .pointer (some ⟨bB, 6, none⟩) := q0
                              exact step_on (wanted_free rfl) (ext_val hS (run_ld rfl ((eval_in rfl hN rfl).trans p145) (ld_bl (((cell_of_heap (hS.h (bB, boxOf m, 27) (by simp))).trans (rfl : (boxOf m)[6]? = some _)).trans (congrArg (fun x => some (Value.bool x)) hb0)))) rfl)
                            refine steps_cons ?_ ?_
                            · intro u W hS hp
                              obtain ⟨q0, _⟩ := hp
                              have p146 : u 146 = .bool b0 := q0
                              exact step_on (wanted_free rfl) (ext_val hS (run_un rfl ((eval_in rfl hN rfl).trans p146) rfl) rfl)
                            refine steps_cons ?_ ?_
                            · intro u W hS hp
                              obtain ⟨q0, _⟩ := hp
                              have p147 : u 147 = .bool (!b0) := q0
                              exact step_on (wanted_free rfl) (ext_val hS (run_mv rfl ((eval_in rfl hN rfl).trans p147)) rfl)
                            refine steps_cons ?_ ?_
                            · intro u W hS hp
                              obtain ⟨q0, _⟩ := hp
                              have p148 : u 148 = .bool (!b0) := q0
                              cases b0 <;> (first | exact step_off (wanted_off rfl rfl rfl hN rfl p148) rfl | exact step_off (wanted_undef rfl rfl rfl hN rfl p148) rfl | exact step_on (wanted_on rfl rfl rfl hN rfl p148) (ext_val hS (run_mv rfl ((eval_out rfl).trans rfl)) rfl))
                            refine steps_cons ?_ ?_
                            · intro u W hS hp
                              obtain ⟨q0, q1, _⟩ := hp
                              have p149 : u 149 = (bif !(!b0) then .int .i64 m.k.toNat else undef) := q0
                              have p148 : u 148 = .bool (!b0) := q1
                              cases b0 <;> (first | exact step_off (wanted_off rfl rfl rfl hN rfl p148) rfl | exact step_off (wanted_undef rfl rfl rfl hN rfl p148) rfl | exact step_on (wanted_on rfl rfl rfl hN rfl p148) (ext_val hS (run_bin rfl ((eval_in rfl hN rfl).trans p149) rfl rfl (i_eql he10)) rfl))
                            refine steps_cons ?_ ?_
                            · intro u W hS hp
                              obtain ⟨q0, q1, q2, _⟩ := hp
                              have p150 : u 150 = (bif !(!b0) then .bool e10 else undef) := q0
                              have p148 : u 148 = .bool (!b0) := q1
                              cases b0 <;> (first | exact step_off (wanted_off rfl rfl rfl hN rfl p148) rfl | exact step_off (wanted_undef rfl rfl rfl hN rfl p148) rfl | exact step_on (wanted_on rfl rfl rfl hN rfl p148) (ext_val hS (run_mv rfl ((eval_in rfl hN rfl).trans p150)) rfl))
                            refine steps_cons ?_ ?_
                            · intro u W hS hp
                              obtain ⟨q0, _⟩ := hp
                              have p151 : u 151 = (bif !(!b0) then .bool e10 else undef) := q0
                              cases b0 <;> cases e10 <;> (first | exact step_off (wanted_off rfl rfl rfl hN rfl p151) rfl | exact step_off (wanted_undef rfl rfl rfl hN rfl p151) rfl | exact step_on (wanted_on rfl rfl rfl hN rfl p151) (ext_val hS (run_mv rfl ((eval_out rfl).trans rfl)) rfl))
                            refine steps_cons ?_ ?_
                            · intro u W hS hp
                              obtain ⟨q0, q1, q2, _⟩ := hp
                              have p151 : u 151 = (bif !(!b0) then .bool e10 else undef) := q0
                              have p152 : u 152 = (bif (!(!b0) && e10) then .bool xh else undef) := q1
                              have p148 : u 148 = .bool (!b0) := q2
                              cases b0 <;> cases e10 <;> (first | exact step_off (wanted_off rfl rfl rfl hN rfl p148) rfl | exact step_off (wanted_undef rfl rfl rfl hN rfl p148) rfl | (first | exact step_on (wanted_on rfl rfl rfl hN rfl p148) (ext_val hS (run_pickT rfl ((eval_in rfl hN rfl).trans p151) ((eval_in rfl hN rfl).trans p152)) rfl) | exact step_on (wanted_on rfl rfl rfl hN rfl p148) (ext_val hS (run_pickF rfl ((eval_in rfl hN rfl).trans p151) rfl) rfl)))
                            refine steps_cons ?_ ?_
                            · intro u W hS hp
                              obtain ⟨q0, q1, _⟩ := hp
                              have p148 : u 148 = .bool (!b0) := q0
                              have p153 : u 153 = (bif !(!b0) then .bool (e10 && xh) else undef) := q1
                              cases b0 <;> (first | (first | exact step_on (wanted_free rfl) (ext_val hS (run_pickT rfl ((eval_in rfl hN rfl).trans p148) rfl) rfl) | exact step_on (wanted_free rfl) (ext_val hS (run_pickF rfl ((eval_in rfl hN rfl).trans p148) ((eval_in rfl hN rfl).trans p153)) rfl)))
                            refine steps_cons ?_ ?_
                            · intro u W hS hp
                              obtain ⟨q0, q1, q2, q3, q4, q5, q6, q7, q8, q9, q10, q11, _⟩ := hp
                              have p154 : u 154 = .bool ((!b0) || (e10 && xh)) := q0
                              exact step_on (wanted_free rfl) (ext_val hS (run_asg rfl ((eval_in rfl hN rfl).trans p154)) rfl)
                            exact steps_nil
                          · obtain ⟨_, _, _, _, _, _, _, _, _, _, q10, _⟩ := hF
                            have p13 : u 13 = .bool ((!b0) || (e10 && xh)) := q10
                            simp only [frm, frmL, Nat.reduceAdd, p13]
                            clear p13
                            clear hb0 he10
                            rw [show (!b0 || (e10 && xh)) = al from HAL.out]
                            go_upto_region 22 with fail
                            have hz := H_z.out
                            have he3 := H_e3.out
                            have he5 := H_e5.out
                            have he10 := H_e10.out
                            refine region_seq (D := [false, false, false, false, false, false, false, false, false, false, false, false, false, false, true, false, false, false, false, false, false, false, false, false, false, false, false, false, false, false, false, false, false, false, false, false, false, false, false, false, false, false, false, false, false, false, false, false, false, false, false, false, false, false, false, false, false, false, false, false, false, false, false, false, false, false, false, false, false, false, false, false, false, false, false, false, false, false, false, false, false, false, false, false, false, false, false, false, false, false, false, false, false, false, false, false, false, false, false, false, false, false, false, false, false, false, false, false, false, false, false, false, false, false, false, false, false, false, false, false, false, false, false, false, false, false, false, false, false, false, false, false, false, false, false, false, false, false, false, false, false, false, false, false, false, false, false, false, false, false, false, false, false, false, false, true, true, true, true, true, true, true, true, true, true, true, true, true, true, true, true]) (S := fun W => St [(bB, boxOf m, 27), (bA, g.arr, 23)] w W) (R := RB) (F := FF [isV (.pointer (some ⟨bB, 7, none⟩)), isV (.agg #[.int .u8 m.d0.toNat, .int .u8 m.d1.toNat, .int .u8 m.d2.toNat, .int .u8 m.d3.toNat]), isV (.agg #[.int .u8 0, .int .u8 0, .int .u8 0, .int .u8 0]), isV (.bool z), isV (.bool z), isV ((bif !z then .int .i64 m.k.toNat else undef)), isV ((bif !z then .bool e3 else undef)), isV (.bool (z || e3)), isV (.bool (z || e3)), isV ((bif !(z || e3) then .int .i64 m.k.toNat else undef)), isV ((bif !(z || e3) then .bool e5 else undef)), isV (.bool ((z || e3) || e5)), isV (.bool ((z || e3) || e5)), isV ((bif !((z || e3) || e5) then .int .i64 m.k.toNat else undef)), isV ((bif !((z || e3) || e5) then .bool e10 else undef)), isV (.bool (((z || e3) || e5) || e10)), isV (.bool (((z || e3) || e5) || e10))]) rfl (by kernel_rfl) (FF_st _ _) hS (fun hN => ?_) (fun u W hS hF => ?_)
                            · refine steps_cons ?_ ?_
                              · intro u W hS hp
                                exact step_on (wanted_free rfl) (ext_val hS (run_fa rfl ((eval_out rfl).trans rfl) (fa25_7u bB)) rfl)
                              refine steps_cons ?_ ?_
                              · intro u W hS hp
                                obtain ⟨q0, _⟩ := hp
                                have p155 : u 155 = .pointer (some ⟨bB, 7, none⟩) := q0
                                exact step_on (wanted_free rfl) (ext_val hS (run_ld rfl ((eval_in rfl hN rfl).trans p155) (ld23 (hS.h (bB, boxOf m, 27) (by simp)))) rfl)
                              refine steps_cons ?_ ?_
                              · intro u W hS hp
                                exact step_on (wanted_free rfl) (ext_val hS (run_bld rfl (by rw [Array.map_empty]; exact bld23 W)) rfl)
                              refine steps_cons ?_ ?_
                              · intro u W hS hp
                                obtain ⟨q0, q1, _⟩ := hp
                                have p156 : u 156 = .agg #[.int .u8 m.d0.toNat, .int .u8 m.d1.toNat, .int .u8 m.d2.toNat, .int .u8 m.d3.toNat] := q0
                                have p157 : u 157 = .agg #[.int .u8 0, .int .u8 0, .int .u8 0, .int .u8 0] := q1
                                exact step_on (wanted_free rfl) (ext_val hS (run_bin rfl ((eval_in rfl hN rfl).trans p156) ((eval_in rfl hN rfl).trans p157) (eg23 ..) (eqD hz)) rfl)
                              refine steps_cons ?_ ?_
                              · intro u W hS hp
                                obtain ⟨q0, _⟩ := hp
                                have p158 : u 158 = .bool z := q0
                                exact step_on (wanted_free rfl) (ext_val hS (run_mv rfl ((eval_in rfl hN rfl).trans p158)) rfl)
                              refine steps_cons ?_ ?_
                              · intro u W hS hp
                                obtain ⟨q0, _⟩ := hp
                                have p159 : u 159 = .bool z := q0
                                cases z <;> (first | exact step_off (wanted_off rfl rfl rfl hN rfl p159) rfl | exact step_off (wanted_undef rfl rfl rfl hN rfl p159) rfl | exact step_on (wanted_on rfl rfl rfl hN rfl p159) (ext_val hS (run_mv rfl ((eval_out rfl).trans rfl)) rfl))
                              refine steps_cons ?_ ?_
                              · intro u W hS hp
                                obtain ⟨q0, q1, _⟩ := hp
                                have p160 : u 160 = (bif !z then .int .i64 m.k.toNat else undef) := q0
                                have p159 : u 159 = .bool z := q1
                                cases z <;> (first | exact step_off (wanted_off rfl rfl rfl hN rfl p159) rfl | exact step_off (wanted_undef rfl rfl rfl hN rfl p159) rfl | exact step_on (wanted_on rfl rfl rfl hN rfl p159) (ext_val hS (run_bin rfl ((eval_in rfl hN rfl).trans p160) rfl rfl (i_eql he3)) rfl))
                              refine steps_cons ?_ ?_
                              · intro u W hS hp
                                obtain ⟨q0, q1, _⟩ := hp
                                have p159 : u 159 = .bool z := q0
                                have p161 : u 161 = (bif !z then .bool e3 else undef) := q1
                                cases z <;> (first | (first | exact step_on (wanted_free rfl) (ext_val hS (run_pickT rfl ((eval_in rfl hN rfl).trans p159) rfl) rfl) | exact step_on (wanted_free rfl) (ext_val hS (run_pickF rfl ((eval_in rfl hN rfl).trans p159) ((eval_in rfl hN rfl).trans p161)) rfl)))
                              refine steps_cons ?_ ?_
                              · intro u W hS hp
                                obtain ⟨q0, q1, _⟩ := hp
                                have p162 : u 162 = .bool (z || e3) := q0
                                exact step_on (wanted_free rfl) (ext_val hS (run_mv rfl ((eval_in rfl hN rfl).trans p162)) rfl)
                              refine steps_cons ?_ ?_
                              · intro u W hS hp
                                obtain ⟨q0, _⟩ := hp
                                have p163 : u 163 = .bool (z || e3) := q0
                                cases e3 <;> cases z <;> (first | exact step_off (wanted_off rfl rfl rfl hN rfl p163) rfl | exact step_off (wanted_undef rfl rfl rfl hN rfl p163) rfl | exact step_on (wanted_on rfl rfl rfl hN rfl p163) (ext_val hS (run_mv rfl ((eval_out rfl).trans rfl)) rfl))
                              refine steps_cons ?_ ?_
                              · intro u W hS hp
                                obtain ⟨q0, q1, _⟩ := hp
                                have p164 : u 164 = (bif !(z || e3) then .int .i64 m.k.toNat else undef) := q0
                                have p163 : u 163 = .bool (z || e3) := q1
                                cases e3 <;> cases z <;> (first | exact step_off (wanted_off rfl rfl rfl hN rfl p163) rfl | exact step_off (wanted_undef rfl rfl rfl hN rfl p163) rfl | exact step_on (wanted_on rfl rfl rfl hN rfl p163) (ext_val hS (run_bin rfl ((eval_in rfl hN rfl).trans p164) rfl rfl (i_eql he5)) rfl))
                              refine steps_cons ?_ ?_
                              · intro u W hS hp
                                obtain ⟨q0, q1, _⟩ := hp
                                have p163 : u 163 = .bool (z || e3) := q0
                                have p165 : u 165 = (bif !(z || e3) then .bool e5 else undef) := q1
                                cases e3 <;> cases z <;> (first | (first | exact step_on (wanted_free rfl) (ext_val hS (run_pickT rfl ((eval_in rfl hN rfl).trans p163) rfl) rfl) | exact step_on (wanted_free rfl) (ext_val hS (run_pickF rfl ((eval_in rfl hN rfl).trans p163) ((eval_in rfl hN rfl).trans p165)) rfl)))
                              refine steps_cons ?_ ?_
                              · intro u W hS hp
                                obtain ⟨q0, q1, _⟩ := hp
                                have p166 : u 166 = .bool ((z || e3) || e5) := q0
                                exact step_on (wanted_free rfl) (ext_val hS (run_mv rfl ((eval_in rfl hN rfl).trans p166)) rfl)
                              refine steps_cons ?_ ?_
                              · intro u W hS hp
                                obtain ⟨q0, _⟩ := hp
                                have p167 : u 167 = .bool ((z || e3) || e5) := q0
                                cases e3 <;> cases e5 <;> cases z <;> (first | exact step_off (wanted_off rfl rfl rfl hN rfl p167) rfl | exact step_off (wanted_undef rfl rfl rfl hN rfl p167) rfl | exact step_on (wanted_on rfl rfl rfl hN rfl p167) (ext_val hS (run_mv rfl ((eval_out rfl).trans rfl)) rfl))
                              refine steps_cons ?_ ?_
                              · intro u W hS hp
                                obtain ⟨q0, q1, _⟩ := hp
                                have p168 : u 168 = (bif !((z || e3) || e5) then .int .i64 m.k.toNat else undef) := q0
                                have p167 : u 167 = .bool ((z || e3) || e5) := q1
                                cases e3 <;> cases e5 <;> cases z <;> (first | exact step_off (wanted_off rfl rfl rfl hN rfl p167) rfl | exact step_off (wanted_undef rfl rfl rfl hN rfl p167) rfl | exact step_on (wanted_on rfl rfl rfl hN rfl p167) (ext_val hS (run_bin rfl ((eval_in rfl hN rfl).trans p168) rfl rfl (i_eql he10)) rfl))
                              refine steps_cons ?_ ?_
                              · intro u W hS hp
                                obtain ⟨q0, q1, _⟩ := hp
                                have p167 : u 167 = .bool ((z || e3) || e5) := q0
                                have p169 : u 169 = (bif !((z || e3) || e5) then .bool e10 else undef) := q1
                                cases e3 <;> cases e5 <;> cases z <;> (first | (first | exact step_on (wanted_free rfl) (ext_val hS (run_pickT rfl ((eval_in rfl hN rfl).trans p167) rfl) rfl) | exact step_on (wanted_free rfl) (ext_val hS (run_pickF rfl ((eval_in rfl hN rfl).trans p167) ((eval_in rfl hN rfl).trans p169)) rfl)))
                              refine steps_cons ?_ ?_
                              · intro u W hS hp
                                obtain ⟨q0, q1, q2, q3, q4, q5, q6, q7, q8, q9, q10, q11, q12, q13, q14, q15, q16, q17, _⟩ := hp
                                have p170 : u 170 = .bool (((z || e3) || e5) || e10) := q0
                                exact step_on (wanted_free rfl) (ext_val hS (run_asg rfl ((eval_in rfl hN rfl).trans p170)) rfl)
                              exact steps_nil
                            · obtain ⟨_, _, _, _, _, _, _, _, _, _, _, _, _, _, _, _, q16, _⟩ := hF
                              have p14 : u 14 = .bool (((z || e3) || e5) || e10) := q16
                              simp only [frm, frmL, Nat.reduceAdd, p14]
                              clear p14
                              clear hz he3 he5 he10
                              rw [show (((z || e3) || e5) || e10) = d0 from HD0.out]
                              have HS := Lib.hid hS
                              clear hS
                              obtain ⟨_, _, hw1, hw4⟩ := ok_bounds (H_ok.out.trans (HOK.out rfl))
                              obtain ⟨nw, hnw⟩ : ∃ n : Nat, g.w = (n : Int) := ⟨g.w.toNat, by omega⟩
                              have hn1 : 1 ≤ nw := by omega
                              have hn4 : nw ≤ 4 := by omega
                              rw [show g.w.toNat = nw by omega] at HR
                              have c2 : W.cell? ⟨bA, 2, none⟩ = some (.int .i64 nw) := by rw [← hnw]; exact cell_of_heap (HS.out.h (bA, g.arr, 23) (by simp))
                              clear hw1 hw4 hnw HOK
                              go_wp2_with fail
                              go_loopw [14, 15] (fun v i wr => ∃ (j : Nat) (d : Bool), nw ≤ j ∧ j ≤ 4 ∧ i = .int .i64 j ∧ v = .bool d ∧ Hid (d = (d0 && m.zr nw j)) ∧ Hid (St [(bB, boxOf m, 27), (bA, g.arr, 23)] w wr)) (fun _ i _ => 4 - (intOf i).toNat)
                              case atStart => exact ⟨nw, d0, Nat.le_refl _, hn4, rfl, rfl, Lib.hid (by rw [zr_start m nw nw (Nat.le_refl _), Bool.and_true]), HS⟩
                              case round =>
                                clear HS c2
                                obtain ⟨j, d, hj1, hj4, rfl, rfl, HD, HS⟩ := hrel
                                by_cases hlt : j < 4
                                · have q1 : decide ((j : Int) < 4) = true := by simp; omega
                                  have HE : Hid ((d && (((m.dAt j).toNat : Int) == 0)) = (d0 && m.zr nw (j + 1))) := by show _ = _; rw [zr_step m hj1, HD.out, Bool.and_assoc]
                                  clear HD
                                  obtain rfl | rfl | rfl : j = 1 ∨ j = 2 ∨ j = 3 := by omega
                                  · obtain ⟨zj, hzj⟩ : ∃ b, ((m.d1.toNat : Int) == 0) = b := ⟨_, rfl⟩
                                    rw [show (((m.dAt 1).toNat : Int) == 0) = zj from hzj] at HE
                                    have cj : wr.cell? ⟨bB, 8, none⟩ = some (.int .u8 m.d1.toNat) := cell_of_heap (HS.out.h (bB, boxOf m, 27) (by simp))
                                    cases d
                                    · go_wp2_with fail
                                      exact ⟨⟨1 + 1, _, by omega, by omega, by go_num, rfl, HE, HS⟩, by simp [intOf]⟩
                                    · go_wp2_with fail
                                      exact ⟨⟨1 + 1, _, by omega, by omega, by go_num, rfl, HE, HS⟩, by simp [intOf]⟩
                                  · obtain ⟨zj, hzj⟩ : ∃ b, ((m.d2.toNat : Int) == 0) = b := ⟨_, rfl⟩
                                    rw [show (((m.dAt 2).toNat : Int) == 0) = zj from hzj] at HE
                                    have cj : wr.cell? ⟨bB, 9, none⟩ = some (.int .u8 m.d2.toNat) := cell_of_heap (HS.out.h (bB, boxOf m, 27) (by simp))
                                    cases d
                                    · go_wp2_with fail
                                      exact ⟨⟨2 + 1, _, by omega, by omega, by go_num, rfl, HE, HS⟩, by simp [intOf]⟩
                                    · go_wp2_with fail
                                      exact ⟨⟨2 + 1, _, by omega, by omega, by go_num, rfl, HE, HS⟩, by simp [intOf]⟩
                                  · obtain ⟨zj, hzj⟩ : ∃ b, ((m.d3.toNat : Int) == 0) = b := ⟨_, rfl⟩
                                    rw [show (((m.dAt 3).toNat : Int) == 0) = zj from hzj] at HE
                                    have cj : wr.cell? ⟨bB, 10, none⟩ = some (.int .u8 m.d3.toNat) := cell_of_heap (HS.out.h (bB, boxOf m, 27) (by simp))
                                    cases d
                                    · go_wp2_with fail
                                      exact ⟨⟨3 + 1, _, by omega, by omega, by go_num, rfl, HE, HS⟩, by simp [intOf]⟩
                                    · go_wp2_with fail
                                      exact ⟨⟨3 + 1, _, by omega, by omega, by go_num, rfl, HE, HS⟩, by simp [intOf]⟩
                                · obtain rfl : j = 4 := by omega
                                  have q1 : decide (((4 : Nat) : Int) < 4) = false := by simp
                                  clear hj1 hj4
                                  go_upto_region 27 with fail

                                  refine region_seq (D := [false, false, false, false, true, false, false, false, false, false, false, false, false, false, false, false, false, false, false, false, false, false, false, false, false, false, false, false, false, false, false, false, false, false, false, false, false, false, false, false, false, false, false, false, false, false, false, false, false, false, false, false, false, false, false, false, false, false, false, false, false, false, false, false, false, false, false, false, false, false, false, false, false, false, false, false, false, false, false, false, false, false, false, false, false, false, false, false, false, false, false, false, false, false, false, false, false, false, false, false, false, false, false, false, false, false, false, false, false, false, false, false, false, false, false, false, false, false, false, false, false, false, false, false, false, false, false, false, false, false, false, false, false, false, false, false, false, false, false, false, false, false, false, false, false, false, false, false, false, false, false, false, false, false, false, false, false, false, false, false, false, false, false, false, false, false, false, false, false, false, false, false, false, false, false, false, false, false, false, false, false, false, false, false, false, true, true, true, true, true, true, true, true, true, true, true, true, true]) (S := fun W => St [(bB, boxOf m, 27), (bA, g.arr, 23)] w W) (R := RB) (F := FF [isV (.bool wy), isV (.bool wy), isV ((bif wy then .bool ak else undef)), isV (.bool (wy && ak)), isV (.bool (wy && ak)), isV ((bif (wy && ak) then .bool ac else undef)), isV (.bool ((wy && ak) && ac)), isV (.bool ((wy && ak) && ac)), isV ((bif ((wy && ak) && ac) then .bool al else undef)), isV (.bool (((wy && ak) && ac) && al)), isV (.bool (((wy && ak) && ac) && al)), isV ((bif (((wy && ak) && ac) && al) then .bool d else undef)), isV (.bool ((((wy && ak) && ac) && al) && d)), isV (.bool ((((wy && ak) && ac) && al) && d))]) rfl (by kernel_rfl) (FF_st _ _) HS.out (fun hN => ?_) (fun u W hS hF => ?_)
                                  · refine steps_cons ?_ ?_
                                    · intro u W hS hp
                                      exact step_on (wanted_free rfl) (ext_val hS (run_mv rfl ((eval_out rfl).trans rfl)) rfl)
                                    refine steps_cons ?_ ?_
                                    · intro u W hS hp
                                      obtain ⟨q0, _⟩ := hp
                                      have p185 : u 185 = .bool wy := q0
                                      exact step_on (wanted_free rfl) (ext_val hS (run_mv rfl ((eval_in rfl hN rfl).trans p185)) rfl)
                                    refine steps_cons ?_ ?_
                                    · intro u W hS hp
                                      obtain ⟨q0, _⟩ := hp
                                      have p186 : u 186 = .bool wy := q0
                                      cases wy <;> (first | exact step_off (wanted_off rfl rfl rfl hN rfl p186) rfl | exact step_off (wanted_undef rfl rfl rfl hN rfl p186) rfl | exact step_on (wanted_on rfl rfl rfl hN rfl p186) (ext_val hS (run_mv rfl ((eval_out rfl).trans rfl)) rfl))
                                    refine steps_cons ?_ ?_
                                    · intro u W hS hp
                                      obtain ⟨q0, q1, _⟩ := hp
                                      have p186 : u 186 = .bool wy := q0
                                      have p187 : u 187 = (bif wy then .bool ak else undef) := q1
                                      cases wy <;> (first | (first | exact step_on (wanted_free rfl) (ext_val hS (run_pickT rfl ((eval_in rfl hN rfl).trans p186) ((eval_in rfl hN rfl).trans p187)) rfl) | exact step_on (wanted_free rfl) (ext_val hS (run_pickF rfl ((eval_in rfl hN rfl).trans p186) rfl) rfl)))
                                    refine steps_cons ?_ ?_
                                    · intro u W hS hp
                                      obtain ⟨q0, q1, _⟩ := hp
                                      have p188 : u 188 = .bool (wy && ak) := q0
                                      exact step_on (wanted_free rfl) (ext_val hS (run_mv rfl ((eval_in rfl hN rfl).trans p188)) rfl)
                                    refine steps_cons ?_ ?_
                                    · intro u W hS hp
                                      obtain ⟨q0, _⟩ := hp
                                      have p189 : u 189 = .bool (wy && ak) := q0
                                      cases ak <;> cases wy <;> (first | exact step_off (wanted_off rfl rfl rfl hN rfl p189) rfl | exact step_off (wanted_undef rfl rfl rfl hN rfl p189) rfl | exact step_on (wanted_on rfl rfl rfl hN rfl p189) (ext_val hS (run_mv rfl ((eval_out rfl).trans rfl)) rfl))
                                    refine steps_cons ?_ ?_
                                    · intro u W hS hp
                                      obtain ⟨q0, q1, _⟩ := hp
                                      have p189 : u 189 = .bool (wy && ak) := q0
                                      have p190 : u 190 = (bif (wy && ak) then .bool ac else undef) := q1
                                      cases ak <;> cases wy <;> (first | (first | exact step_on (wanted_free rfl) (ext_val hS (run_pickT rfl ((eval_in rfl hN rfl).trans p189) ((eval_in rfl hN rfl).trans p190)) rfl) | exact step_on (wanted_free rfl) (ext_val hS (run_pickF rfl ((eval_in rfl hN rfl).trans p189) rfl) rfl)))
                                    refine steps_cons ?_ ?_
                                    · intro u W hS hp
                                      obtain ⟨q0, q1, _⟩ := hp
                                      have p191 : u 191 = .bool ((wy && ak) && ac) := q0
                                      exact step_on (wanted_free rfl) (ext_val hS (run_mv rfl ((eval_in rfl hN rfl).trans p191)) rfl)
                                    refine steps_cons ?_ ?_
                                    · intro u W hS hp
                                      obtain ⟨q0, _⟩ := hp
                                      have p192 : u 192 = .bool ((wy && ak) && ac) := q0
                                      cases ac <;> cases ak <;> cases wy <;> (first | exact step_off (wanted_off rfl rfl rfl hN rfl p192) rfl | exact step_off (wanted_undef rfl rfl rfl hN rfl p192) rfl | exact step_on (wanted_on rfl rfl rfl hN rfl p192) (ext_val hS (run_mv rfl ((eval_out rfl).trans rfl)) rfl))
                                    refine steps_cons ?_ ?_
                                    · intro u W hS hp
                                      obtain ⟨q0, q1, _⟩ := hp
                                      have p192 : u 192 = .bool ((wy && ak) && ac) := q0
                                      have p193 : u 193 = (bif ((wy && ak) && ac) then .bool al else undef) := q1
                                      cases ac <;> cases ak <;> cases wy <;> (first | (first | exact step_on (wanted_free rfl) (ext_val hS (run_pickT rfl ((eval_in rfl hN rfl).trans p192) ((eval_in rfl hN rfl).trans p193)) rfl) | exact step_on (wanted_free rfl) (ext_val hS (run_pickF rfl ((eval_in rfl hN rfl).trans p192) rfl) rfl)))
                                    refine steps_cons ?_ ?_
                                    · intro u W hS hp
                                      obtain ⟨q0, q1, _⟩ := hp
                                      have p194 : u 194 = .bool (((wy && ak) && ac) && al) := q0
                                      exact step_on (wanted_free rfl) (ext_val hS (run_mv rfl ((eval_in rfl hN rfl).trans p194)) rfl)
                                    refine steps_cons ?_ ?_
                                    · intro u W hS hp
                                      obtain ⟨q0, _⟩ := hp
                                      have p195 : u 195 = .bool (((wy && ak) && ac) && al) := q0
                                      cases ac <;> cases ak <;> cases al <;> cases wy <;> (first | exact step_off (wanted_off rfl rfl rfl hN rfl p195) rfl | exact step_off (wanted_undef rfl rfl rfl hN rfl p195) rfl | exact step_on (wanted_on rfl rfl rfl hN rfl p195) (ext_val hS (run_mv rfl ((eval_out rfl).trans rfl)) rfl))
                                    refine steps_cons ?_ ?_
                                    · intro u W hS hp
                                      obtain ⟨q0, q1, _⟩ := hp
                                      have p195 : u 195 = .bool (((wy && ak) && ac) && al) := q0
                                      have p196 : u 196 = (bif (((wy && ak) && ac) && al) then .bool d else undef) := q1
                                      cases ac <;> cases ak <;> cases al <;> cases wy <;> (first | (first | exact step_on (wanted_free rfl) (ext_val hS (run_pickT rfl ((eval_in rfl hN rfl).trans p195) ((eval_in rfl hN rfl).trans p196)) rfl) | exact step_on (wanted_free rfl) (ext_val hS (run_pickF rfl ((eval_in rfl hN rfl).trans p195) rfl) rfl)))
                                    refine steps_cons ?_ ?_
                                    · intro u W hS hp
                                      obtain ⟨q0, q1, q2, q3, q4, q5, q6, q7, q8, q9, q10, q11, q12, q13, q14, _⟩ := hp
                                      have p197 : u 197 = .bool ((((wy && ak) && ac) && al) && d) := q0
                                      exact step_on (wanted_free rfl) (ext_val hS (run_asg rfl ((eval_in rfl hN rfl).trans p197)) rfl)
                                    exact steps_nil
                                  · obtain ⟨_, _, _, _, _, _, _, _, _, _, _, _, _, q13, _⟩ := hF
                                    have p4 : u 4 = .bool ((((wy && ak) && ac) && al) && d) := q13
                                    simp only [frm, frmL, Nat.reduceAdd, p4]
                                    clear p4
                                    go_wp2
                                    go_ret
                                    exact ⟨by rw [HR.out, ← HD.out]; rfl, by rw [← HBA.out]; exact hS.b⟩
    · go_wp2_with fail
      go_ret
      exact ⟨by rw [HR.out]; rfl, by rw [← HBA.out]; exact HS.out.b⟩
end Go.Proofs.YthllacodjeocmaaGreatDoor
