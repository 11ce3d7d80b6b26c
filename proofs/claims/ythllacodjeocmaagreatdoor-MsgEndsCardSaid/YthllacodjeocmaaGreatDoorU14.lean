/- What a message carries besides its way. -/
import Derived.Test.YthllacodjeocmaaGreatDoorU13
import Derived.Lib.SliceRun
import Derived.BigFrame
namespace Go.Proofs.YthllacodjeocmaaGreatDoor
open Go.RowKit
attribute [local go_sem] Oper.semAt_some
def Mg.noA (x : Bool) (m : Mg) : Mg := ⟨m.k, m.f, m.t, m.l, bif x then 0 else m.a, m.c, m.al, m.d0, m.d1, m.d2, m.d3⟩
def Mg.noC (x : Bool) (m : Mg) : Mg := ⟨m.k, m.f, m.t, m.l, m.a, bif x then 0 else m.c, m.al, m.d0, m.d1, m.d2, m.d3⟩
def Mg.noAl (x : Bool) (m : Mg) : Mg := ⟨m.k, m.f, m.t, m.l, m.a, m.c, bif x then false else m.al, m.d0, m.d1, m.d2, m.d3⟩
def Mg.noD (x : Bool) (n : Nat) (m : Mg) : Mg := ⟨m.k, m.f, m.t, m.l, m.a, m.c, m.al, bif x && decide (1 ≤ n) then 0 else m.d0, bif x && decide (2 ≤ n) then 0 else m.d1, bif x && decide (3 ≤ n) then 0 else m.d2, bif x && decide (4 ≤ n) then 0 else m.d3⟩
def Mg.way (m : Mg) : Mg := ⟨m.k, m.f, m.t, m.l, 0, 0, false, 0, 0, 0, 0⟩
def Mg.bare (m : Mg) (g : Ge) : Mg := (((m.noA (mayB m.k 16)).noC (mayB m.k 32 && decide ((m.c.toNat : Int) < g.c))).noAl (mayB m.k 64 && !g.isCache m.f.toNat)).noD (mayB m.k 128) g.w.toNat
def restB (m : Mg) (g : Ge) : Bool := !(mayB m.k 16 && (!g.isCache m.a.toNat || ((m.a.toNat : Int) == (m.t.toNat : Int)))) && (m.bare g).eqB m.way
theorem ld25_63 {W : World} {b : Nat} {m : Mg} (h : W.heap[b]? = some (.cells (boxOf m) 42)) : (loadVar 27 ⟨b, 0, none⟩).run Tryz.prog W = .ok (.agg (boxOf m)) W :=
  run_loadVar_row W b 42 27 (boxOf m) (0, 0) _ h Tryz.underlying27 rfl (by rw [msgSize]; rfl)
theorem zero5 (w : World) : (zeroValue 5).run Tryz.prog w = .ok (.int .u8 0) w := by kernel_rfl
section
variable {w W : World} {bA bB bC : Nat} {g : Ge} {m m' : Mg}
/-- A store into the copy. -/
theorem St.cellC {o : Nat} {vs : List Value} (h : Hid (St [(bC, boxOf m', 27), (bB, g.arr, 23), (bA, boxOf m, 42)] w W)) (hn : Hid (bA < bB ∧ bB < bC ∧ w.heap.size ≤ bA ∧ 5 ≤ w.heap.size)) {m2 : Mg} (hc : (W.setCells bC o vs).heap[bC]? = some (.cells (boxOf m2) 27)) : Hid (St [(bC, boxOf m2, 27), (bB, g.arr, 23), (bA, boxOf m, 42)] w (W.setCells bC o vs)) := by
  obtain ⟨h1, h2, h3, h4⟩ := hn.out
  refine Lib.hid (h.out.only (setCells_only bC o vs W) (by omega) (by omega) ?_ hc)
  intro x hx
  rcases List.mem_cons.1 hx with rfl | hx
  · show bB ≠ bC; omega
  · rw [List.mem_singleton] at hx; subst hx; show bA ≠ bC; omega
end
set_option maxHeartbeats 8000000 in
set_option maxRecDepth 100000 in
theorem rest_any (m : Mg) (g : Ge) (hk : m.k.toNat < 13) (hg : g.ok = true) (w : World) (hG : GlobM w) : Calls Tryz.prog 22 #[.agg (boxOf m), .agg g.arr] w fun e w' => e = .returned (.bool (restB m g)) ∧ Below w.heap.size w w' := by
  have HS0 := Lib.hid (((St.start hG).boxT (boxOf m) 42 rfl).boxT g.arr 23 rfl)
  obtain ⟨_, _, hw1, hw4⟩ := ok_bounds hg
  have HW4 := Lib.hid (And.intro hw1 hw4)
  clear hg hw1 hw4
  obtain ⟨bB, hbB⟩ : ∃ b, (w.alloc (.cells (boxOf m) 42)).heap.size = b := ⟨_, rfl⟩
  rw [hbB] at HS0
  obtain ⟨bC, hbC⟩ : ∃ b, ((w.alloc (.cells (boxOf m) 42)).alloc (.cells g.arr 23)).heap.size = b := ⟨_, rfl⟩
  generalize hbA : w.heap.size = bA at HS0
  have HBA := Lib.hid hbA
  have HN : Hid (bA < bB ∧ bB < bC ∧ w.heap.size ≤ bA ∧ 5 ≤ w.heap.size) := by
    have := hG.g.size
    show _ ∧ _
    simp at hbB hbC
    omega
  obtain ⟨r, hr⟩ : ∃ r, restB m g = r := ⟨_, rfl⟩
  obtain ⟨bb16, hb16⟩ : ∃ b, mayB m.k 16 = b := ⟨_, rfl⟩
  obtain ⟨bb32, hb32⟩ : ∃ b, mayB m.k 32 = b := ⟨_, rfl⟩
  obtain ⟨bb64, hb64⟩ : ∃ b, mayB m.k 64 = b := ⟨_, rfl⟩
  obtain ⟨bb128, hb128⟩ : ∃ b, mayB m.k 128 = b := ⟨_, rfl⟩
  obtain ⟨ca, hca⟩ : ∃ b, g.isCache m.a.toNat = b := ⟨_, rfl⟩
  obtain ⟨cf, hcf⟩ : ∃ b, g.isCache m.f.toNat = b := ⟨_, rfl⟩
  obtain ⟨qa, hqa⟩ : ∃ b, ((m.a.toNat : Int) == (m.t.toNat : Int)) = b := ⟨_, rfl⟩
  obtain ⟨lc, hlc⟩ : ∃ b, decide ((m.c.toNat : Int) < g.c) = b := ⟨_, rfl⟩
  have HR : Hid (r = (!(bb16 && (!ca || qa)) && ((((m.noA bb16).noC (bb32 && lc)).noAl (bb64 && !cf)).noD bb128 g.w.toNat).eqB m.way)) := by show _ = _; rw [← hr]; unfold restB Mg.bare; rw [hb16, hb32, hb64, hb128, hca, hcf, hqa, hlc]
  rw [hr]
  clear hr hG
  have H16 := Lib.hid hb16
  have H32 := Lib.hid hb32
  have H64 := Lib.hid hb64
  have H128 := Lib.hid hb128
  have HCA := Lib.hid hca
  have HCF := Lib.hid hcf
  have HQA := Lib.hid hqa
  have HLC := Lib.hid hlc
  clear hb16 hb32 hb64 hb128 hca hcf hqa hlc
  go_enter Tryz.func22, Tryz.ntmps22
  go_wp2_with (first | (refine wpl_box rfl 42 (.tmp 0) rfl (boxOf m) rfl ?_; rw [hbA]; intro w0 hw0) | (refine wpl_box rfl 23 (.tmp 1) rfl g.arr rfl ?_; rw [show w0.heap.size = bB from by rw [hw0.out]; exact hbB]; intro w1 hw1; have HS1 := (show Hid (St [(bB, g.arr, 23), (bA, boxOf m, 42)] w w1) from by show St _ _ _; rw [hw1.out, hw0.out]; exact HS0.out); have HC1 := (show Hid (w1.heap.size = bC) from by show _ = _; rw [hw1.out, hw0.out]; exact hbC); clear hw1 hw0 HS0) | (refine wpl_val rfl (run_ld (T := 27) (x := .tmp 6) rfl rfl (ld25_63 (HS1.out.h (bA, boxOf m, 42) (by simp)))) ?_) | (refine wpl_store rfl 27 (.tmp 5) (.tmp 7) rfl w1.heap.size _ (boxOf m) rfl rfl (heap_alloc_new w1 _) rfl msgSize (box_one m) ?_; intro w2 ho2 hn2; have HS2 := (show Hid (St [(bC, boxOf m, 27), (bB, g.arr, 23), (bA, boxOf m, 42)] w w2) from by rw [← HC1.out]; exact Lib.hid (HS1.out.newbox m ho2 hn2)); clear ho2 hn2; rw [HC1.out]; clear HC1 HS1 hbA hbB hbC) | (refine wpl_ld63 rfl (.tmp 2) rfl bA m rfl (HS2.out.h (bA, boxOf m, 42) (by simp)) ?_) | fail)
  go_at_call 43
  refine (may_st m 16 hk HS2).mono ?_
  rw [H16.out]
  rintro e w3 ⟨rfl, HS3⟩
  clear HS2
  obtain ⟨r0, hr0⟩ : ∃ m0 : Mg, m.noA bb16 = m0 := ⟨_, rfl⟩
  rw [hr0] at HR
  have HR0 := Lib.hid hr0
  clear hr0
  go_upto_if 9 with fail
  go_cut [] (fun wx => Hid (r = (((r0.noC (bb32 && lc)).noAl (bb64 && !cf)).noD bb128 g.w.toNat).eqB m.way) ∧ Hid (St [(bC, boxOf r0, 27), (bB, g.arr, 23), (bA, boxOf m, 42)] w wx))
  case first =>
    cases bb16
    · go_wp2_with fail
      go_meet
      exact ⟨Lib.hid (by rw [HR.out]; rfl), by rw [← HR0.out]; exact HS3⟩
    · have hca := HCA.out
      have hqa := HQA.out
      go_upto_region 3 with fail
      refine region_seq (D := [false, false, false, false, false, false, false, false, false, false, true, true, true, true, true, true, true, true, true, true, true, true, true, true, true]) (S := fun W => St [(bC, boxOf m, 27), (bB, g.arr, 23), (bA, boxOf m, 42)] w W) (R := RB) (F := FF [isV (.agg g.arr), isV (.pointer (some ⟨bA, 0, none⟩)), isV (.pointer (some ⟨bA, 4, none⟩)), isV (.int .u8 m.a.toNat), isV (.bool ca), isV (.bool (!ca)), isV (.bool (!ca)), isV ((bif !(!ca) then .pointer (some ⟨bA, 0, none⟩) else undef)), isV ((bif !(!ca) then .pointer (some ⟨bA, 4, none⟩) else undef)), isV ((bif !(!ca) then .int .u8 m.a.toNat else undef)), isV ((bif !(!ca) then .pointer (some ⟨bA, 0, none⟩) else undef)), isV ((bif !(!ca) then .pointer (some ⟨bA, 2, none⟩) else undef)), isV ((bif !(!ca) then .int .u8 m.t.toNat else undef)), isV ((bif !(!ca) then .bool qa else undef)), isV (.bool ((!ca) || qa))]) rfl (by kernel_rfl) (FF_st _ _) HS3.out (fun hN => ?_) (fun u W hS hF => ?_)
      · refine steps_cons ?_ ?_
        · intro u W hS hp
          exact step_on (wanted_free rfl) (ext_val hS (run_ld rfl ((eval_out rfl).trans rfl) (ld39 (hS.h (bB, g.arr, 23) (by simp)))) rfl)
        refine steps_cons ?_ ?_
        · intro u W hS hp
          exact step_on (wanted_free rfl) (ext_val hS (run_fa rfl ((eval_out rfl).trans rfl) (fa63_0 bA)) rfl)
        refine steps_cons ?_ ?_
        · intro u W hS hp
          obtain ⟨q0, _⟩ := hp
          have p11 : u 11 = .pointer (some ⟨bA, 0, none⟩) := q0
          exact step_on (wanted_free rfl) (ext_val hS (run_fa rfl ((eval_in rfl hN rfl).trans p11) (fa25_4 bA)) rfl)
        refine steps_cons ?_ ?_
        · intro u W hS hp
          obtain ⟨q0, _⟩ := hp
          have p12 : u 12 = .pointer (some ⟨bA, 4, none⟩) := q0
          exact step_on (wanted_free rfl) (ext_val hS (run_ld rfl ((eval_in rfl hN rfl).trans p12) (ld_u8 ((cell_of_heap (hS.h (bA, boxOf m, 42) (by simp))).trans (rfl : (boxOf m)[4]? = some _)))) rfl)
        refine steps_cons ?_ ?_
        · intro u W hS hp
          obtain ⟨q0, q1, _⟩ := hp
          have p10 : u 10 = .agg g.arr := q0
          have p13 : u 13 = .int .u8 m.a.toNat := q1
          exact step_on (wanted_free rfl) (ext_call (run_call rfl rfl (map2 ((eval_in rfl hN rfl).trans p10) ((eval_in rfl hN rfl).trans p13)) Tryz.func44 nm23 bd23) ((iscache_any g m.a.toNat m.a.toNat_lt W).mono fun _ _ ⟨e, h⟩ => ⟨_, e.trans (congrArg (fun x => Ending.returned (Value.bool x)) hca), rfl, hS.next h, h⟩))
        refine steps_cons ?_ ?_
        · intro u W hS hp
          obtain ⟨q0, _⟩ := hp
          have p14 : u 14 = .bool ca := q0
          exact step_on (wanted_free rfl) (ext_val hS (run_un rfl ((eval_in rfl hN rfl).trans p14) rfl) rfl)
        refine steps_cons ?_ ?_
        · intro u W hS hp
          obtain ⟨q0, q1, _⟩ := hp
          have p15 : u 15 = .bool (!ca) := q0
          exact step_on (wanted_free rfl) (ext_val hS (run_mv rfl ((eval_in rfl hN rfl).trans p15)) rfl)
        refine steps_cons ?_ ?_
        · intro u W hS hp
          obtain ⟨q0, _⟩ := hp
          have p16 : u 16 = .bool (!ca) := q0
          cases ca <;> (first | exact step_off (wanted_off rfl rfl rfl hN rfl p16) rfl | exact step_off (wanted_undef rfl rfl rfl hN rfl p16) rfl | exact step_on (wanted_on rfl rfl rfl hN rfl p16) (ext_val hS (run_fa rfl ((eval_out rfl).trans rfl) (fa63_0 bA)) rfl))
        refine steps_cons ?_ ?_
        · intro u W hS hp
          obtain ⟨q0, q1, _⟩ := hp
          have p17 : u 17 = (bif !(!ca) then .pointer (some ⟨bA, 0, none⟩) else undef) := q0
          have p16 : u 16 = .bool (!ca) := q1
          cases ca <;> (first | exact step_off (wanted_off rfl rfl rfl hN rfl p16) rfl | exact step_off (wanted_undef rfl rfl rfl hN rfl p16) rfl | exact step_on (wanted_on rfl rfl rfl hN rfl p16) (ext_val hS (run_fa rfl ((eval_in rfl hN rfl).trans p17) (fa25_4 bA)) rfl))
        refine steps_cons ?_ ?_
        · intro u W hS hp
          obtain ⟨q0, q1, _⟩ := hp
          have p18 : u 18 = (bif !(!ca) then .pointer (some ⟨bA, 4, none⟩) else undef) := q0
          have p16 : u 16 = .bool (!ca) := q1
          cases ca <;> (first | exact step_off (wanted_off rfl rfl rfl hN rfl p16) rfl | exact step_off (wanted_undef rfl rfl rfl hN rfl p16) rfl | exact step_on (wanted_on rfl rfl rfl hN rfl p16) (ext_val hS (run_ld rfl ((eval_in rfl hN rfl).trans p18) (ld_u8 ((cell_of_heap (hS.h (bA, boxOf m, 42) (by simp))).trans (rfl : (boxOf m)[4]? = some _)))) rfl))
        refine steps_cons ?_ ?_
        · intro u W hS hp
          obtain ⟨q0, _⟩ := hp
          have p16 : u 16 = .bool (!ca) := q0
          cases ca <;> (first | exact step_off (wanted_off rfl rfl rfl hN rfl p16) rfl | exact step_off (wanted_undef rfl rfl rfl hN rfl p16) rfl | exact step_on (wanted_on rfl rfl rfl hN rfl p16) (ext_val hS (run_fa rfl ((eval_out rfl).trans rfl) (fa63_0 bA)) rfl))
        refine steps_cons ?_ ?_
        · intro u W hS hp
          obtain ⟨q0, q1, _⟩ := hp
          have p20 : u 20 = (bif !(!ca) then .pointer (some ⟨bA, 0, none⟩) else undef) := q0
          have p16 : u 16 = .bool (!ca) := q1
          cases ca <;> (first | exact step_off (wanted_off rfl rfl rfl hN rfl p16) rfl | exact step_off (wanted_undef rfl rfl rfl hN rfl p16) rfl | exact step_on (wanted_on rfl rfl rfl hN rfl p16) (ext_val hS (run_fa rfl ((eval_in rfl hN rfl).trans p20) (fa25_2 bA)) rfl))
        refine steps_cons ?_ ?_
        · intro u W hS hp
          obtain ⟨q0, q1, _⟩ := hp
          have p21 : u 21 = (bif !(!ca) then .pointer (some ⟨bA, 2, none⟩) else undef) := q0
          have p16 : u 16 = .bool (!ca) := q1
          cases ca <;> (first | exact step_off (wanted_off rfl rfl rfl hN rfl p16) rfl | exact step_off (wanted_undef rfl rfl rfl hN rfl p16) rfl | exact step_on (wanted_on rfl rfl rfl hN rfl p16) (ext_val hS (run_ld rfl ((eval_in rfl hN rfl).trans p21) (ld_u8 ((cell_of_heap (hS.h (bA, boxOf m, 42) (by simp))).trans (rfl : (boxOf m)[2]? = some _)))) rfl))
        refine steps_cons ?_ ?_
        · intro u W hS hp
          obtain ⟨q0, q1, q2, _⟩ := hp
          have p19 : u 19 = (bif !(!ca) then .int .u8 m.a.toNat else undef) := q0
          have p22 : u 22 = (bif !(!ca) then .int .u8 m.t.toNat else undef) := q1
          have p16 : u 16 = .bool (!ca) := q2
          cases ca <;> (first | exact step_off (wanted_off rfl rfl rfl hN rfl p16) rfl | exact step_off (wanted_undef rfl rfl rfl hN rfl p16) rfl | exact step_on (wanted_on rfl rfl rfl hN rfl p16) (ext_val hS (run_bin rfl ((eval_in rfl hN rfl).trans p19) ((eval_in rfl hN rfl).trans p22) rfl (i_eql hqa)) rfl))
        refine steps_cons ?_ ?_
        · intro u W hS hp
          obtain ⟨q0, q1, _⟩ := hp
          have p16 : u 16 = .bool (!ca) := q0
          have p23 : u 23 = (bif !(!ca) then .bool qa else undef) := q1
          cases ca <;> (first | (first | exact step_on (wanted_free rfl) (ext_val hS (run_pickT rfl ((eval_in rfl hN rfl).trans p16) rfl) rfl) | exact step_on (wanted_free rfl) (ext_val hS (run_pickF rfl ((eval_in rfl hN rfl).trans p16) ((eval_in rfl hN rfl).trans p23)) rfl)))
        exact steps_nil
      · obtain ⟨_, _, _, _, _, _, _, _, _, _, _, _, _, _, q14, _⟩ := hF
        have p24 : u 24 = .bool ((!ca) || qa) := q14
        simp only [frm, frmL, Nat.reduceAdd, p24]
        clear p24
        obtain ⟨x, hx⟩ : ∃ b, (!ca || qa) = b := ⟨_, rfl⟩
        rw [hx] at HR ⊢
        have HS5 := Lib.hid hS
        clear hx hS hca hqa
        cases x
        · have c0 : W.cell? ⟨bC, 4, none⟩ = some (.int .u8 m.a.toNat) := cell_of_heap (HS5.out.h (bC, boxOf m, 27) (by simp))
          have f0 := free_of_heap (i := 4) (HS5.out.h (bC, boxOf m, 27) (by simp))
          go_wp2_with fail
          go_meet
          exact ⟨Lib.hid (by rw [HR.out]; rfl), (St.cellC (o := 4) (vs := [.int .u8 0]) HS5 HN ((heap_set (i := 4) (HS5.out.h (bC, boxOf m, 27) (by simp)) _).trans (by rw [← HR0.out]; rfl)))⟩
        · go_wp2_with fail
          go_ret
          exact ⟨by rw [HR.out]; rfl, by rw [← HBA.out]; exact HS5.out.b⟩
  case rest =>
    clear HR HS3 HR0 HCA HQA H16
    obtain ⟨HR, HS4⟩ := hcut
    have hb32 := H32.out
    have hlc := HLC.out
    go_upto_region 6 with fail
    refine region_seq (D := [false, false, false, false, false, false, false, false, false, false, false, false, false, false, false, false, false, false, false, false, false, false, false, false, false, false, true, true, true, true, true, true, true, true, true, true, true]) (S := fun W => St [(bC, boxOf r0, 27), (bB, g.arr, 23), (bA, boxOf m, 42)] w W) (R := RB) (F := FF [isV (.agg (boxOf m)), isV (.bool bb32), isV (.bool bb32), isV ((bif bb32 then .pointer (some ⟨bA, 0, none⟩) else undef)), isV ((bif bb32 then .pointer (some ⟨bA, 5, none⟩) else undef)), isV ((bif bb32 then .int .u8 m.c.toNat else undef)), isV ((bif bb32 then .int .i64 m.c.toNat else undef)), isV ((bif bb32 then .pointer (some ⟨bB, 0, none⟩) else undef)), isV ((bif bb32 then .int .i64 g.c else undef)), isV ((bif bb32 then .bool lc else undef)), isV (.bool (bb32 && lc))]) rfl (by kernel_rfl) (FF_st _ _) HS4.out (fun hN => ?_) (fun u W hS hF => ?_)
    · refine steps_cons ?_ ?_
      · intro u W hS hp
        exact step_on (wanted_free rfl) (ext_val hS (run_ld rfl ((eval_out rfl).trans rfl) (ld63 (hS.h (bA, boxOf m, 42) (by simp)))) rfl)
      refine steps_cons ?_ ?_
      · intro u W hS hp
        obtain ⟨q0, _⟩ := hp
        have p26 : u 26 = .agg (boxOf m) := q0
        exact step_on (wanted_free rfl) (ext_call (run_call rfl rfl (map2 ((eval_in rfl hN rfl).trans p26) rfl) Tryz.func43 nm70 bd70) ((may_any m 32 hk W hS.g).mono fun _ _ ⟨e, h⟩ => ⟨_, e.trans (congrArg (fun x => Ending.returned (Value.bool x)) hb32), rfl, hS.next h, h⟩))
      refine steps_cons ?_ ?_
      · intro u W hS hp
        obtain ⟨q0, q1, _⟩ := hp
        have p27 : u 27 = .bool bb32 := q0
        exact step_on (wanted_free rfl) (ext_val hS (run_mv rfl ((eval_in rfl hN rfl).trans p27)) rfl)
      refine steps_cons ?_ ?_
      · intro u W hS hp
        obtain ⟨q0, _⟩ := hp
        have p28 : u 28 = .bool bb32 := q0
        cases bb32 <;> (first | exact step_off (wanted_off rfl rfl rfl hN rfl p28) rfl | exact step_off (wanted_undef rfl rfl rfl hN rfl p28) rfl | exact step_on (wanted_on rfl rfl rfl hN rfl p28) (ext_val hS (run_fa rfl ((eval_out rfl).trans rfl) (fa63_0 bA)) rfl))
      refine steps_cons ?_ ?_
      · intro u W hS hp
        obtain ⟨q0, q1, _⟩ := hp
        have p29 : u 29 = (bif bb32 then .pointer (some ⟨bA, 0, none⟩) else undef) := q0
        have p28 : u 28 = .bool bb32 := q1
        cases bb32 <;> (first | exact step_off (wanted_off rfl rfl rfl hN rfl p28) rfl | exact step_off (wanted_undef rfl rfl rfl hN rfl p28) rfl | exact step_on (wanted_on rfl rfl rfl hN rfl p28) (ext_val hS (run_fa rfl ((eval_in rfl hN rfl).trans p29) (fa25_5 bA)) rfl))
      refine steps_cons ?_ ?_
      · intro u W hS hp
        obtain ⟨q0, q1, _⟩ := hp
        have p30 : u 30 = (bif bb32 then .pointer (some ⟨bA, 5, none⟩) else undef) := q0
        have p28 : u 28 = .bool bb32 := q1
        cases bb32 <;> (first | exact step_off (wanted_off rfl rfl rfl hN rfl p28) rfl | exact step_off (wanted_undef rfl rfl rfl hN rfl p28) rfl | exact step_on (wanted_on rfl rfl rfl hN rfl p28) (ext_val hS (run_ld rfl ((eval_in rfl hN rfl).trans p30) (ld_u8 ((cell_of_heap (hS.h (bA, boxOf m, 42) (by simp))).trans (rfl : (boxOf m)[5]? = some _)))) rfl))
      refine steps_cons ?_ ?_
      · intro u W hS hp
        obtain ⟨q0, q1, _⟩ := hp
        have p31 : u 31 = (bif bb32 then .int .u8 m.c.toNat else undef) := q0
        have p28 : u 28 = .bool bb32 := q1
        cases bb32 <;> (first | exact step_off (wanted_off rfl rfl rfl hN rfl p28) rfl | exact step_off (wanted_undef rfl rfl rfl hN rfl p28) rfl | exact step_on (wanted_on rfl rfl rfl hN rfl p28) (ext_val hS (run_conv rfl ((eval_in rfl hN rfl).trans p31) (conv53 (by omega) (by have := m.c.toNat_lt; omega))) rfl))
      refine steps_cons ?_ ?_
      · intro u W hS hp
        obtain ⟨q0, _⟩ := hp
        have p28 : u 28 = .bool bb32 := q0
        cases bb32 <;> (first | exact step_off (wanted_off rfl rfl rfl hN rfl p28) rfl | exact step_off (wanted_undef rfl rfl rfl hN rfl p28) rfl | exact step_on (wanted_on rfl rfl rfl hN rfl p28) (ext_val hS (run_fa rfl ((eval_out rfl).trans rfl) (fa39_0 bB W)) rfl))
      refine steps_cons ?_ ?_
      · intro u W hS hp
        obtain ⟨q0, q1, _⟩ := hp
        have p33 : u 33 = (bif bb32 then .pointer (some ⟨bB, 0, none⟩) else undef) := q0
        have p28 : u 28 = .bool bb32 := q1
        cases bb32 <;> (first | exact step_off (wanted_off rfl rfl rfl hN rfl p28) rfl | exact step_off (wanted_undef rfl rfl rfl hN rfl p28) rfl | exact step_on (wanted_on rfl rfl rfl hN rfl p28) (ext_val hS (run_ld rfl ((eval_in rfl hN rfl).trans p33) (ld_int ((cell_of_heap (hS.h (bB, g.arr, 23) (by simp))).trans (rfl : g.arr[0]? = some _)))) rfl))
      refine steps_cons ?_ ?_
      · intro u W hS hp
        obtain ⟨q0, q1, q2, _⟩ := hp
        have p32 : u 32 = (bif bb32 then .int .i64 m.c.toNat else undef) := q0
        have p34 : u 34 = (bif bb32 then .int .i64 g.c else undef) := q1
        have p28 : u 28 = .bool bb32 := q2
        cases bb32 <;> (first | exact step_off (wanted_off rfl rfl rfl hN rfl p28) rfl | exact step_off (wanted_undef rfl rfl rfl hN rfl p28) rfl | exact step_on (wanted_on rfl rfl rfl hN rfl p28) (ext_val hS (run_bin rfl ((eval_in rfl hN rfl).trans p32) ((eval_in rfl hN rfl).trans p34) rfl (i_lss hlc)) rfl))
      refine steps_cons ?_ ?_
      · intro u W hS hp
        obtain ⟨q0, q1, _⟩ := hp
        have p28 : u 28 = .bool bb32 := q0
        have p35 : u 35 = (bif bb32 then .bool lc else undef) := q1
        cases bb32 <;> (first | (first | exact step_on (wanted_free rfl) (ext_val hS (run_pickT rfl ((eval_in rfl hN rfl).trans p28) ((eval_in rfl hN rfl).trans p35)) rfl) | exact step_on (wanted_free rfl) (ext_val hS (run_pickF rfl ((eval_in rfl hN rfl).trans p28) rfl) rfl)))
      exact steps_nil
    · obtain ⟨_, _, _, _, _, _, _, _, _, _, q10, _⟩ := hF
      have p36 : u 36 = .bool (bb32 && lc) := q10
      simp only [frm, frmL, Nat.reduceAdd, p36]
      clear p36
      obtain ⟨x6, hx6⟩ : ∃ b, (bb32 && lc) = b := ⟨_, rfl⟩
      rw [hx6] at HR ⊢
      obtain ⟨r1, hr1⟩ : ∃ m0 : Mg, r0.noC x6 = m0 := ⟨_, rfl⟩
      rw [hr1] at HR
      have HX := Lib.hid hr1
      have HS5 := Lib.hid hS
      clear hr1 hx6 hS
      go_upto_if 36 with fail
      go_cut [] (fun wx => Hid (St [(bC, boxOf r1, 27), (bB, g.arr, 23), (bA, boxOf m, 42)] w wx))
      case first =>
        cases x6
        · go_wp2_with fail
          go_meet
          exact (show Hid _ from by rw [← HX.out]; exact HS5)
        · have c0 : W.cell? ⟨bC, 5, none⟩ = some (.int .u8 r0.c.toNat) := cell_of_heap (HS5.out.h (bC, boxOf r0, 27) (by simp))
          have f0 := free_of_heap (i := 5) (HS5.out.h (bC, boxOf r0, 27) (by simp))
          go_wp2_with fail
          go_meet
          exact (St.cellC (o := 5) (vs := [.int .u8 0]) HS5 HN ((heap_set (i := 5) (HS5.out.h (bC, boxOf r0, 27) (by simp)) _).trans (by rw [← HX.out]; rfl)))
      case rest =>
        clear HS5 HX
        have HS4 := hcut
        clear hcut
        have hb64 := H64.out
        have hcf := HCF.out
        go_upto_region 8 with fail
        refine region_seq (D := [false, false, false, false, false, false, false, false, false, false, false, false, false, false, false, false, false, false, false, false, false, false, false, false, false, false, false, false, false, false, false, false, false, false, false, false, false, false, true, true, true, true, true, true, true, true, true, true]) (S := fun W => St [(bC, boxOf r1, 27), (bB, g.arr, 23), (bA, boxOf m, 42)] w W) (R := RB) (F := FF [isV (.agg (boxOf m)), isV (.bool bb64), isV (.bool bb64), isV ((bif bb64 then .agg g.arr else undef)), isV ((bif bb64 then .pointer (some ⟨bA, 0, none⟩) else undef)), isV ((bif bb64 then .pointer (some ⟨bA, 1, none⟩) else undef)), isV ((bif bb64 then .int .u8 m.f.toNat else undef)), isV ((bif bb64 then .bool cf else undef)), isV ((bif bb64 then .bool (!cf) else undef)), isV (.bool (bb64 && (!cf)))]) rfl (by kernel_rfl) (FF_st _ _) HS4.out (fun hN => ?_) (fun u W hS hF => ?_)
        · refine steps_cons ?_ ?_
          · intro u W hS hp
            exact step_on (wanted_free rfl) (ext_val hS (run_ld rfl ((eval_out rfl).trans rfl) (ld63 (hS.h (bA, boxOf m, 42) (by simp)))) rfl)
          refine steps_cons ?_ ?_
          · intro u W hS hp
            obtain ⟨q0, _⟩ := hp
            have p38 : u 38 = .agg (boxOf m) := q0
            exact step_on (wanted_free rfl) (ext_call (run_call rfl rfl (map2 ((eval_in rfl hN rfl).trans p38) rfl) Tryz.func43 nm70 bd70) ((may_any m 64 hk W hS.g).mono fun _ _ ⟨e, h⟩ => ⟨_, e.trans (congrArg (fun x => Ending.returned (Value.bool x)) hb64), rfl, hS.next h, h⟩))
          refine steps_cons ?_ ?_
          · intro u W hS hp
            obtain ⟨q0, q1, _⟩ := hp
            have p39 : u 39 = .bool bb64 := q0
            exact step_on (wanted_free rfl) (ext_val hS (run_mv rfl ((eval_in rfl hN rfl).trans p39)) rfl)
          refine steps_cons ?_ ?_
          · intro u W hS hp
            obtain ⟨q0, _⟩ := hp
            have p40 : u 40 = .bool bb64 := q0
            cases bb64 <;> (first | exact step_off (wanted_off rfl rfl rfl hN rfl p40) rfl | exact step_off (wanted_undef rfl rfl rfl hN rfl p40) rfl | exact step_on (wanted_on rfl rfl rfl hN rfl p40) (ext_val hS (run_ld rfl ((eval_out rfl).trans rfl) (ld39 (hS.h (bB, g.arr, 23) (by simp)))) rfl))
          refine steps_cons ?_ ?_
          · intro u W hS hp
            obtain ⟨q0, _⟩ := hp
            have p40 : u 40 = .bool bb64 := q0
            cases bb64 <;> (first | exact step_off (wanted_off rfl rfl rfl hN rfl p40) rfl | exact step_off (wanted_undef rfl rfl rfl hN rfl p40) rfl | exact step_on (wanted_on rfl rfl rfl hN rfl p40) (ext_val hS (run_fa rfl ((eval_out rfl).trans rfl) (fa63_0 bA)) rfl))
          refine steps_cons ?_ ?_
          · intro u W hS hp
            obtain ⟨q0, q1, _⟩ := hp
            have p42 : u 42 = (bif bb64 then .pointer (some ⟨bA, 0, none⟩) else undef) := q0
            have p40 : u 40 = .bool bb64 := q1
            cases bb64 <;> (first | exact step_off (wanted_off rfl rfl rfl hN rfl p40) rfl | exact step_off (wanted_undef rfl rfl rfl hN rfl p40) rfl | exact step_on (wanted_on rfl rfl rfl hN rfl p40) (ext_val hS (run_fa rfl ((eval_in rfl hN rfl).trans p42) (fa25_1 bA)) rfl))
          refine steps_cons ?_ ?_
          · intro u W hS hp
            obtain ⟨q0, q1, _⟩ := hp
            have p43 : u 43 = (bif bb64 then .pointer (some ⟨bA, 1, none⟩) else undef) := q0
            have p40 : u 40 = .bool bb64 := q1
            cases bb64 <;> (first | exact step_off (wanted_off rfl rfl rfl hN rfl p40) rfl | exact step_off (wanted_undef rfl rfl rfl hN rfl p40) rfl | exact step_on (wanted_on rfl rfl rfl hN rfl p40) (ext_val hS (run_ld rfl ((eval_in rfl hN rfl).trans p43) (ld_u8 ((cell_of_heap (hS.h (bA, boxOf m, 42) (by simp))).trans (rfl : (boxOf m)[1]? = some _)))) rfl))
          refine steps_cons ?_ ?_
          · intro u W hS hp
            obtain ⟨q0, q1, q2, q3, _⟩ := hp
            have p41 : u 41 = (bif bb64 then .agg g.arr else undef) := q0
            have p44 : u 44 = (bif bb64 then .int .u8 m.f.toNat else undef) := q1
            have p40 : u 40 = .bool bb64 := q2
            cases bb64 <;> (first | exact step_off (wanted_off rfl rfl rfl hN rfl p40) rfl | exact step_off (wanted_undef rfl rfl rfl hN rfl p40) rfl | exact step_on (wanted_on rfl rfl rfl hN rfl p40) (ext_call (run_call rfl rfl (map2 ((eval_in rfl hN rfl).trans p41) ((eval_in rfl hN rfl).trans p44)) Tryz.func44 nm23 bd23) ((iscache_any g m.f.toNat m.f.toNat_lt W).mono fun _ _ ⟨e, h⟩ => ⟨_, e.trans (congrArg (fun x => Ending.returned (Value.bool x)) hcf), rfl, hS.next h, h⟩)))
          refine steps_cons ?_ ?_
          · intro u W hS hp
            obtain ⟨q0, q1, _⟩ := hp
            have p45 : u 45 = (bif bb64 then .bool cf else undef) := q0
            have p40 : u 40 = .bool bb64 := q1
            cases bb64 <;> (first | exact step_off (wanted_off rfl rfl rfl hN rfl p40) rfl | exact step_off (wanted_undef rfl rfl rfl hN rfl p40) rfl | exact step_on (wanted_on rfl rfl rfl hN rfl p40) (ext_val hS (run_un rfl ((eval_in rfl hN rfl).trans p45) rfl) rfl))
          refine steps_cons ?_ ?_
          · intro u W hS hp
            obtain ⟨q0, q1, _⟩ := hp
            have p40 : u 40 = .bool bb64 := q0
            have p46 : u 46 = (bif bb64 then .bool (!cf) else undef) := q1
            cases bb64 <;> (first | (first | exact step_on (wanted_free rfl) (ext_val hS (run_pickT rfl ((eval_in rfl hN rfl).trans p40) ((eval_in rfl hN rfl).trans p46)) rfl) | exact step_on (wanted_free rfl) (ext_val hS (run_pickF rfl ((eval_in rfl hN rfl).trans p40) rfl) rfl)))
          exact steps_nil
        · obtain ⟨_, _, _, _, _, _, _, _, _, q9, _⟩ := hF
          have p47 : u 47 = .bool (bb64 && (!cf)) := q9
          simp only [frm, frmL, Nat.reduceAdd, p47]
          clear p47
          obtain ⟨x8, hx8⟩ : ∃ b, (bb64 && !cf) = b := ⟨_, rfl⟩
          rw [hx8] at HR ⊢
          obtain ⟨r2, hr2⟩ : ∃ m0 : Mg, r1.noAl x8 = m0 := ⟨_, rfl⟩
          rw [hr2] at HR
          have HX := Lib.hid hr2
          have HS5 := Lib.hid hS
          clear hr2 hx8 hS
          go_upto_if 47 with fail
          go_cut [] (fun wx => Hid (St [(bC, boxOf r2, 27), (bB, g.arr, 23), (bA, boxOf m, 42)] w wx))
          case first =>
            cases x8
            · go_wp2_with fail
              go_meet
              exact (show Hid _ from by rw [← HX.out]; exact HS5)
            · have c0 : W.cell? ⟨bC, 6, none⟩ = some (.bool r1.al) := cell_of_heap (HS5.out.h (bC, boxOf r1, 27) (by simp))
              have f0 := free_of_heap (i := 6) (HS5.out.h (bC, boxOf r1, 27) (by simp))
              go_wp2_with fail
              go_meet
              exact (St.cellC (o := 6) (vs := [.bool false]) HS5 HN ((heap_set (i := 6) (HS5.out.h (bC, boxOf r1, 27) (by simp)) _).trans (by rw [← HX.out]; rfl)))
          case rest =>
            clear HS5 HX
            have HS4 := hcut
            clear hcut
            go_wp2_with (first | (refine wpl_ld63 rfl (.tmp 2) rfl bA m rfl (HS4.out.h (bA, boxOf m, 42) (by simp)) ?_) | fail)
            go_at_call 43
            refine (may_st m 128 hk HS4).mono ?_
            rw [H128.out]
            rintro e w6 ⟨rfl, HS6⟩
            clear HS4
            obtain ⟨n, hn⟩ : ∃ n : Nat, g.w = (n : Int) := ⟨g.w.toNat, by have := HW4.out; omega⟩
            have hn1 : 1 ≤ n := by have := HW4.out; omega
            have hn4 : n ≤ 4 := by have := HW4.out; omega
            obtain ⟨r3, hr3⟩ : ∃ m0 : Mg, r2.noD bb128 n = m0 := ⟨_, rfl⟩
            rw [show g.w.toNat = n by omega, hr3] at HR
            have HX := Lib.hid hr3
            have c2 : w6.cell? ⟨bB, 2, none⟩ = some (.int .i64 n) := by rw [← hn]; exact cell_of_heap (HS6.out.h (bB, g.arr, 23) (by simp))
            clear hr3 hn HW4
            go_upto_if 50 with fail
            go_cut [] (fun wx => Hid (St [(bC, boxOf r3, 27), (bB, g.arr, 23), (bA, boxOf m, 42)] w wx))
            case first =>
              cases bb128
              · go_wp2_with fail
                go_meet
                exact (show Hid _ from by rw [← HX.out]; exact HS6)
              · obtain rfl | rfl | rfl | rfl : n = 1 ∨ n = 2 ∨ n = 3 ∨ n = 4 := by omega
                · have hcl : ∀ ty c, (Builtin.clear_ #[33] ty #[.slice (some ⟨bC, 7, none⟩) 1 c]).run Tryz.prog w6 = .ok (.tuple #[]) (w6.setCells bC 7 (List.replicate 1 (.int .u8 0))) := fun ty c => Lib.run_clear_slice w6 33 5 ty (.int .u8 0) Tryz.underlying33 zero5 rfl rfl bC 7 1 c (by omega) (fun j hj => by rw [cell_of_heap (HS6.out.h (bC, boxOf r2, 27) (by simp)), Array.getElem?_eq_getElem (by show 7 + j < 11; omega)]; rfl) (fun j _ => free_of_heap (HS6.out.h (bC, boxOf r2, 27) (by simp)))
                  go_wp2_with (simp only [hcl])
                  go_meet
                  exact (St.cellC (o := 7) (vs := [.int .u8 0]) HS6 HN ((heap_set (i := 7) (HS6.out.h (bC, boxOf r2, 27) (by simp)) (.int .u8 0)).trans (by rw [← HX.out]; rfl)))
                · have hcl : ∀ ty c, (Builtin.clear_ #[33] ty #[.slice (some ⟨bC, 7, none⟩) 2 c]).run Tryz.prog w6 = .ok (.tuple #[]) (w6.setCells bC 7 (List.replicate 2 (.int .u8 0))) := fun ty c => Lib.run_clear_slice w6 33 5 ty (.int .u8 0) Tryz.underlying33 zero5 rfl rfl bC 7 2 c (by omega) (fun j hj => by rw [cell_of_heap (HS6.out.h (bC, boxOf r2, 27) (by simp)), Array.getElem?_eq_getElem (by show 7 + j < 11; omega)]; rfl) (fun j _ => free_of_heap (HS6.out.h (bC, boxOf r2, 27) (by simp)))
                  go_wp2_with (simp only [hcl])
                  go_meet
                  exact (St.cellC (o := 7) (vs := [.int .u8 0, .int .u8 0]) HS6 HN ((heap_set (i := 8) (heap_set (i := 7) (HS6.out.h (bC, boxOf r2, 27) (by simp)) (.int .u8 0)) (.int .u8 0)).trans (by rw [← HX.out]; rfl)))
                · have hcl : ∀ ty c, (Builtin.clear_ #[33] ty #[.slice (some ⟨bC, 7, none⟩) 3 c]).run Tryz.prog w6 = .ok (.tuple #[]) (w6.setCells bC 7 (List.replicate 3 (.int .u8 0))) := fun ty c => Lib.run_clear_slice w6 33 5 ty (.int .u8 0) Tryz.underlying33 zero5 rfl rfl bC 7 3 c (by omega) (fun j hj => by rw [cell_of_heap (HS6.out.h (bC, boxOf r2, 27) (by simp)), Array.getElem?_eq_getElem (by show 7 + j < 11; omega)]; rfl) (fun j _ => free_of_heap (HS6.out.h (bC, boxOf r2, 27) (by simp)))
                  go_wp2_with (simp only [hcl])
                  go_meet
                  exact (St.cellC (o := 7) (vs := [.int .u8 0, .int .u8 0, .int .u8 0]) HS6 HN ((heap_set (i := 9) (heap_set (i := 8) (heap_set (i := 7) (HS6.out.h (bC, boxOf r2, 27) (by simp)) (.int .u8 0)) (.int .u8 0)) (.int .u8 0)).trans (by rw [← HX.out]; rfl)))
                · have hcl : ∀ ty c, (Builtin.clear_ #[33] ty #[.slice (some ⟨bC, 7, none⟩) 4 c]).run Tryz.prog w6 = .ok (.tuple #[]) (w6.setCells bC 7 (List.replicate 4 (.int .u8 0))) := fun ty c => Lib.run_clear_slice w6 33 5 ty (.int .u8 0) Tryz.underlying33 zero5 rfl rfl bC 7 4 c (by omega) (fun j hj => by rw [cell_of_heap (HS6.out.h (bC, boxOf r2, 27) (by simp)), Array.getElem?_eq_getElem (by show 7 + j < 11; omega)]; rfl) (fun j _ => free_of_heap (HS6.out.h (bC, boxOf r2, 27) (by simp)))
                  go_wp2_with (simp only [hcl])
                  go_meet
                  exact (St.cellC (o := 7) (vs := [.int .u8 0, .int .u8 0, .int .u8 0, .int .u8 0]) HS6 HN ((heap_set (i := 10) (heap_set (i := 9) (heap_set (i := 8) (heap_set (i := 7) (HS6.out.h (bC, boxOf r2, 27) (by simp)) (.int .u8 0)) (.int .u8 0)) (.int .u8 0)) (.int .u8 0)).trans (by rw [← HX.out]; rfl)))
            case rest =>
              clear HX HS6 c2
              have HS7 := hcut
              clear hcut
              have e0 := cell_of_heap (i := 0) (HS7.out.h (bA, boxOf m, 42) (by simp))
              have e1 := cell_of_heap (i := 1) (HS7.out.h (bA, boxOf m, 42) (by simp))
              have e2 := cell_of_heap (i := 2) (HS7.out.h (bA, boxOf m, 42) (by simp))
              have e3 := cell_of_heap (i := 3) (HS7.out.h (bA, boxOf m, 42) (by simp))
              rw [show (boxOf m)[0]? = some (.int .u8 m.k.toNat) from rfl] at e0
              rw [show (boxOf m)[1]? = some (.int .u8 m.f.toNat) from rfl] at e1
              rw [show (boxOf m)[2]? = some (.int .u8 m.t.toNat) from rfl] at e2
              rw [show (boxOf m)[3]? = some (.int .u8 m.l.toNat) from rfl] at e3
              obtain ⟨x, hx⟩ : ∃ x, r3.eqB m.way = x := ⟨_, rfl⟩
              rw [hx] at HR
              have HX := Lib.hid hx
              clear hx
              go_wp2_with (first | (refine wpl_ld25 rfl (.tmp 5) rfl bC r3 rfl (HS7.out.h (bC, boxOf r3, 27) (by simp)) ?_) | (refine wpl_val rfl (run_bin (op := .eql) (T := 27) (x := .tmp 55) (y := .tmp 68) rfl rfl rfl (eg25 ..) (eqlM (m := r3) (o := m.way) HX.out)) ?_) | fail)
              go_ret
              exact ⟨by rw [HR.out]; rfl, by rw [← HBA.out]; exact HS7.out.b⟩
end Go.Proofs.YthllacodjeocmaaGreatDoor
