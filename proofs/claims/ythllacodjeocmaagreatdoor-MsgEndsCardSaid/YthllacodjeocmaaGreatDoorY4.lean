/- Classes, the reference's bytes. The reference's classes; geometries in the reference. Geometries in the reference: caches and homes. Geometries in the reference: lines. -/
import Derived.Test.YthllacodjeocmaaGreatDoorY3
namespace Go.Proofs.YthllacodjeocmaaGreatDoor
open Go.RowKit
attribute [local go_sem] Oper.semAt_some
/-- The class of a kind. -/
def clsOf (k : UInt8) : Int := if k.toNat < 13 then classOf k.toNat else 0
theorem cls_table : ∀ k : Fin 13, classOf k.val = if k.val = 0 then 0 else if k.val ≤ 3 then 1 else if k.val = 4 ∨ k.val = 5 then 3 else if k.val ≤ 9 then 2 else 3 := by decide +kernel
set_option maxHeartbeats 1000000 in
set_option maxRecDepth 100000 in
theorem class_any (k : UInt8) (w : World) (hG : GlobM w) : Calls Tryz.prog 10 #[.int .u8 k.toNat] w fun e w' => e = .returned (.int .u8 (clsOf k)) ∧ w = w' := by
  have hk := k.toNat_lt
  by_cases h : k.toNat < 13
  · obtain ⟨_, n1, _⟩ := hG.n.at h
    have HC : Hid (clsOf k = classOf k.toNat) := by show _ = _; unfold clsOf; rw [if_pos h]
    have q : decide ((13 : Int) ≤ (k.toNat : Int)) = false := by simp; omega
    have hk0 : (0 : Int) ≤ k.toNat := by omega
    have hk1 : (k.toNat : Int) < 13 := by omega
    generalize clsOf k = r at HC ⊢
    go_enter Tryz.func10, Tryz.ntmps10
    go_wp2
    go_ret
    exact ⟨by rw [HC.out]; rfl, rfl⟩
  · have HC : Hid (clsOf k = 0) := by show _ = _; unfold clsOf; rw [if_neg h]
    have q : decide ((13 : Int) ≤ (k.toNat : Int)) = true := by simp; omega
    generalize clsOf k = r at HC ⊢
    go_enter Tryz.func10, Tryz.ntmps10
    go_wp2
    go_ret
    exact ⟨by rw [HC.out]; rfl, rfl⟩
set_option maxHeartbeats 4000000 in
set_option maxRecDepth 100000 in
/-- The reference's Bytes. -/
theorem rbytes_any (m : Mg) (w : World) : Calls Tryz.prog 13 #[m.val] w fun e w' => ∃ g, e = .returned (.slice (some ⟨g, 0, none⟩) 11 11) ∧ BytesAt w' g (bytesOf m) ∧ Below w.heap.size w w' := by
  obtain ⟨k, f, t, l, a, c, al, d0, d1, d2, d3⟩ := m
  unfold Mg.val
  simp only
  cases al
  · go_enter Tryz.func13, Tryz.ntmps13
    go_wp2
    go_ret
    refine ⟨_, rfl, ?_, ((Below.refl _ w).alloc (Nat.le_refl _) _).alloc (by simp) _⟩
    exact bytes_cells (w.alloc _) _ #[] #[] 5 _ (bytesOf ⟨k, f, t, l, a, c, false, d0, d1, d2, d3⟩) (by simp) rfl
  · go_enter Tryz.func13, Tryz.ntmps13
    go_wp2
    go_ret
    refine ⟨_, rfl, ?_, ((Below.refl _ w).alloc (Nat.le_refl _) _).alloc (by simp) _⟩
    exact bytes_cells (w.alloc _) _ #[] #[] 5 _ (bytesOf ⟨k, f, t, l, a, c, true, d0, d1, d2, d3⟩) (by simp) rfl
end Go.Proofs.YthllacodjeocmaaGreatDoor
namespace Go.Proofs.YthllacodjeocmaaGreatDoor
open Go.RowKit
attribute [local go_sem] Oper.semAt_some
theorem rclass_0 (w : World) : Calls Tryz.prog 11 #[.int .u8 0] w fun e w' => e = .returned (.int .u8 0) ∧ w = w' := by
  go_enter Tryz.func11, Tryz.ntmps11
  go_wp2
  go_ret
  exact ⟨rfl, rfl⟩
theorem rclass_1 (w : World) : Calls Tryz.prog 11 #[.int .u8 1] w fun e w' => e = .returned (.int .u8 1) ∧ w = w' := by
  go_enter Tryz.func11, Tryz.ntmps11
  go_wp2
  go_ret
  exact ⟨rfl, rfl⟩
theorem rclass_2 (w : World) : Calls Tryz.prog 11 #[.int .u8 2] w fun e w' => e = .returned (.int .u8 1) ∧ w = w' := by
  go_enter Tryz.func11, Tryz.ntmps11
  go_wp2
  go_ret
  exact ⟨rfl, rfl⟩
theorem rclass_3 (w : World) : Calls Tryz.prog 11 #[.int .u8 3] w fun e w' => e = .returned (.int .u8 1) ∧ w = w' := by
  go_enter Tryz.func11, Tryz.ntmps11
  go_wp2
  go_ret
  exact ⟨rfl, rfl⟩
theorem rclass_4 (w : World) : Calls Tryz.prog 11 #[.int .u8 4] w fun e w' => e = .returned (.int .u8 3) ∧ w = w' := by
  go_enter Tryz.func11, Tryz.ntmps11
  go_wp2
  go_ret
  exact ⟨rfl, rfl⟩
theorem rclass_5 (w : World) : Calls Tryz.prog 11 #[.int .u8 5] w fun e w' => e = .returned (.int .u8 3) ∧ w = w' := by
  go_enter Tryz.func11, Tryz.ntmps11
  go_wp2
  go_ret
  exact ⟨rfl, rfl⟩
theorem rclass_6 (w : World) : Calls Tryz.prog 11 #[.int .u8 6] w fun e w' => e = .returned (.int .u8 2) ∧ w = w' := by
  go_enter Tryz.func11, Tryz.ntmps11
  go_wp2
  go_ret
  exact ⟨rfl, rfl⟩
theorem rclass_7 (w : World) : Calls Tryz.prog 11 #[.int .u8 7] w fun e w' => e = .returned (.int .u8 2) ∧ w = w' := by
  go_enter Tryz.func11, Tryz.ntmps11
  go_wp2
  go_ret
  exact ⟨rfl, rfl⟩
theorem rclass_8 (w : World) : Calls Tryz.prog 11 #[.int .u8 8] w fun e w' => e = .returned (.int .u8 2) ∧ w = w' := by
  go_enter Tryz.func11, Tryz.ntmps11
  go_wp2
  go_ret
  exact ⟨rfl, rfl⟩
theorem rclass_9 (w : World) : Calls Tryz.prog 11 #[.int .u8 9] w fun e w' => e = .returned (.int .u8 2) ∧ w = w' := by
  go_enter Tryz.func11, Tryz.ntmps11
  go_wp2
  go_ret
  exact ⟨rfl, rfl⟩
theorem rclass_10 (w : World) : Calls Tryz.prog 11 #[.int .u8 10] w fun e w' => e = .returned (.int .u8 3) ∧ w = w' := by
  go_enter Tryz.func11, Tryz.ntmps11
  go_wp2
  go_ret
  exact ⟨rfl, rfl⟩
theorem rclass_11 (w : World) : Calls Tryz.prog 11 #[.int .u8 11] w fun e w' => e = .returned (.int .u8 3) ∧ w = w' := by
  go_enter Tryz.func11, Tryz.ntmps11
  go_wp2
  go_ret
  exact ⟨rfl, rfl⟩
theorem rclass_12 (w : World) : Calls Tryz.prog 11 #[.int .u8 12] w fun e w' => e = .returned (.int .u8 3) ∧ w = w' := by
  go_enter Tryz.func11, Tryz.ntmps11
  go_wp2
  go_ret
  exact ⟨rfl, rfl⟩
theorem rclass_far (k : Nat) (h : 12 < k) (hk : k < 256) (w : World) : Calls Tryz.prog 11 #[.int .u8 k] w fun e w' => e = .returned (.int .u8 0) ∧ w = w' := by
  have q1 : ((k : Int) == 1) = false := by rw [beq_eq_false_iff_ne]; omega
  have q2 : ((k : Int) == 2) = false := by rw [beq_eq_false_iff_ne]; omega
  have q3 : ((k : Int) == 3) = false := by rw [beq_eq_false_iff_ne]; omega
  have q4 : ((k : Int) == 4) = false := by rw [beq_eq_false_iff_ne]; omega
  have q5 : ((k : Int) == 5) = false := by rw [beq_eq_false_iff_ne]; omega
  have q6 : ((k : Int) == 6) = false := by rw [beq_eq_false_iff_ne]; omega
  have q7 : ((k : Int) == 7) = false := by rw [beq_eq_false_iff_ne]; omega
  have q8 : ((k : Int) == 8) = false := by rw [beq_eq_false_iff_ne]; omega
  have q9 : ((k : Int) == 9) = false := by rw [beq_eq_false_iff_ne]; omega
  have q10 : ((k : Int) == 10) = false := by rw [beq_eq_false_iff_ne]; omega
  have q11 : ((k : Int) == 11) = false := by rw [beq_eq_false_iff_ne]; omega
  have q12 : ((k : Int) == 12) = false := by rw [beq_eq_false_iff_ne]; omega
  go_enter Tryz.func11, Tryz.ntmps11
  go_wp2
  go_ret
  exact ⟨rfl, rfl⟩
theorem rclass_any (k : UInt8) (w : World) : Calls Tryz.prog 11 #[.int .u8 k.toNat] w fun e w' => e = .returned (.int .u8 (clsOf k)) ∧ w = w' := by
  have hk := k.toNat_lt
  unfold clsOf
  generalize k.toNat = n at hk ⊢
  by_cases h : n < 13
  · rw [if_pos h]
    obtain rfl | rfl | rfl | rfl | rfl | rfl | rfl | rfl | rfl | rfl | rfl | rfl | rfl : n = 0 ∨ n = 1 ∨ n = 2 ∨ n = 3 ∨ n = 4 ∨ n = 5 ∨ n = 6 ∨ n = 7 ∨ n = 8 ∨ n = 9 ∨ n = 10 ∨ n = 11 ∨ n = 12 := by omega
    · exact rclass_0 w
    · exact rclass_1 w
    · exact rclass_2 w
    · exact rclass_3 w
    · exact rclass_4 w
    · exact rclass_5 w
    · exact rclass_6 w
    · exact rclass_7 w
    · exact rclass_8 w
    · exact rclass_9 w
    · exact rclass_10 w
    · exact rclass_11 w
    · exact rclass_12 w
  · rw [if_neg h]
    exact rclass_far n (by omega) hk w
end Go.Proofs.YthllacodjeocmaaGreatDoor
namespace Go.Proofs.YthllacodjeocmaaGreatDoor
open Go.RowKit
attribute [local go_sem] Oper.semAt_some
section
variable {bs : List (Nat × Array Value × TypeId)} {w W : World}
theorem rgeo_st (g : Ge) (h : Hid (St bs w W)) : Calls Tryz.prog 23 #[.agg g.arr] W fun e w' => e = .returned (.bool g.ok) ∧ Hid (St bs w w') :=
  (rgeo_ok g W h.out.g).mono fun _ _ ⟨e, hb⟩ => ⟨e, Lib.hid (h.out.next hb)⟩
end
set_option maxHeartbeats 2000000 in
set_option maxRecDepth 100000 in
theorem riscache_any (g : Ge) (n : Nat) (hn : n < 256) (w : World) (hG : GlobM w) : Calls Tryz.prog 26 #[.agg g.arr, .int .u8 n] w fun e w' => e = .returned (.bool (g.isCache n)) ∧ Below w.heap.size w w' := by
  have HS0 := Lib.hid ((St.start hG).boxT g.arr 23 rfl)
  have HI : Hid (g.isCache n = (g.ok && decide ((n : Int) < g.c))) := Lib.hid rfl
  obtain ⟨r, hr⟩ : ∃ r, g.isCache n = r := ⟨_, rfl⟩
  rw [hr] at HI
  simp only [hr]
  clear hr
  generalize hbA : w.heap.size = bA at HS0
  have HBA := Lib.hid hbA
  clear hG
  go_enter Tryz.func26, Tryz.ntmps26
  go_wp2_with (first | (refine wpl_box rfl 23 (.tmp 0) rfl g.arr rfl ?_; rw [hbA]; intro w0 hw0; have HS := (show Hid (St [(bA, g.arr, 23)] w w0) from by rw [hw0.out]; exact HS0); clear hw0 HS0) | (refine wpl_ld39 rfl (.tmp 2) rfl bA g rfl (HS.out.h (bA, g.arr, 23) (by simp)) ?_) | fail)
  go_at_call 23
  refine (rgeo_st g HS).mono ?_
  rintro e w1 ⟨rfl, HS1⟩
  clear HS hbA
  obtain ⟨ok, hok⟩ : ∃ ok, g.ok = ok := ⟨_, rfl⟩
  rw [hok] at HI ⊢
  clear hok
  cases ok
  · have HI2 : Hid (r = false) := HI.out
    go_wp2
    go_ret
    exact ⟨by rw [HI2.out]; rfl, by rw [← HBA.out]; exact HS1.out.b⟩
  · have HI2 : Hid (r = decide ((n : Int) < g.c)) := by show _ = _; rw [HI.out]; rfl
    have c0 : w1.cell? ⟨bA, 0, none⟩ = some (.int .i64 g.c) := (cell_of_heap (HS1.out.h (bA, g.arr, 23) (by simp))).trans rfl
    go_wp2
    go_ret
    exact ⟨by rw [HI2.out]; rfl, by rw [← HBA.out]; exact HS1.out.b⟩
set_option maxHeartbeats 2000000 in
set_option maxRecDepth 100000 in
theorem rhome_any (g : Ge) (l : Nat) (_hl : l < 256) (w : World) (hG : GlobM w) : Calls Tryz.prog 25 #[.agg g.arr, .int .u8 l] w fun e w' => e = .returned (.int .u8 (g.home l)) ∧ Below w.heap.size w w' := by
  have HS0 := Lib.hid ((St.start hG).boxT g.arr 23 rfl)
  obtain ⟨r, hr⟩ : ∃ r : Nat, g.home l = r := ⟨_, rfl⟩
  have HI : Hid (r = if g.ok = true then g.c.toNat + l % g.h.toNat else 0) := Lib.hid hr.symm
  have HOB := Lib.hid (@ok_bounds g)
  simp only [hr]
  clear hr
  generalize hbA : w.heap.size = bA at HS0
  have HBA := Lib.hid hbA
  clear hG
  go_enter Tryz.func25, Tryz.ntmps25
  go_wp2_with (first | (refine wpl_box rfl 23 (.tmp 0) rfl g.arr rfl ?_; rw [hbA]; intro w0 hw0; have HS := (show Hid (St [(bA, g.arr, 23)] w w0) from by rw [hw0.out]; exact HS0); clear hw0 HS0) | (refine wpl_ld39 rfl (.tmp 2) rfl bA g rfl (HS.out.h (bA, g.arr, 23) (by simp)) ?_) | fail)
  go_at_call 23
  refine (rgeo_st g HS).mono ?_
  rintro e w1 ⟨rfl, HS1⟩
  clear HS hbA
  obtain ⟨ok, hok⟩ : ∃ ok, g.ok = ok := ⟨_, rfl⟩
  rw [hok] at HI HOB ⊢
  clear hok
  cases ok
  · have HI2 : Hid (r = 0) := HI.out
    go_wp2
    go_ret
    exact ⟨by rw [HI2.out]; rfl, by rw [← HBA.out]; exact HS1.out.b⟩
  · obtain ⟨⟨h1, h2⟩, ⟨h3, h4⟩, _⟩ := HOB.out rfl
    have HI2 : r = g.c.toNat + l % g.h.toNat := HI.out
    have hm : l % g.h.toNat < g.h.toNat := Nat.mod_lt _ (by omega)
    have hhc : g.h = ((g.h.toNat : Nat) : Int) := by omega
    have e2 : IntKind.u8.wrap (g.c + ((l % g.h.toNat : Nat) : Int)) = (r : Int) := by rw [wrap8 (by omega) (by omega)]; omega
    have HE := Lib.hid (And.intro e2 hhc)
    clear e2 HI2 hhc HOB HI
    go_wp2_with fail
    obtain ⟨e2, hhc⟩ := HE.out
    refine region_all (D := [false, false, false, false, true, false, false, false, true, true, true, true, true, true, true, true, true]) (S := fun W => St [(bA, g.arr, 23)] w W) (R := RB) (F := FF [isV (.pointer (some ⟨bA, 0, none⟩)), isV (.int .i64 g.c), isV (.int .u8 g.c), isV (.int .u8 l), isV (.pointer (some ⟨bA, 1, none⟩)), isV (.int .i64 (g.h.toNat : Nat)), isV (.int .u8 (g.h.toNat : Nat)), isV (.int .u8 ((l % g.h.toNat : Nat) : Int)), isV (.int .u8 r), isV (.int .u8 r)]) rfl mo (by kernel_rfl) (FF_st _ _) (HS1.out.drew) (fun hN => ?_) (fun u W hS hF => ?_)
    · refine steps_cons ?_ ?_
      · intro u W hS hp
        exact step_on (wanted_free rfl) (ext_val hS (run_fa rfl ((eval_out rfl).trans rfl) (fa39_0 bA W)) rfl)
      refine steps_cons ?_ ?_
      · intro u W hS hp
        obtain ⟨q0, _⟩ := hp
        have p8 : u 8 = .pointer (some ⟨bA, 0, none⟩) := q0
        exact step_on (wanted_free rfl) (ext_val hS (run_ld rfl ((eval_in rfl hN rfl).trans p8) (ld_int ((cell_of_heap (hS.h (bA, g.arr, 23) (by simp))).trans (rfl : g.arr[0]? = some _)))) rfl)
      refine steps_cons ?_ ?_
      · intro u W hS hp
        obtain ⟨q0, _⟩ := hp
        have p9 : u 9 = .int .i64 g.c := q0
        exact step_on (wanted_free rfl) (ext_val hS (run_conv rfl ((eval_in rfl hN rfl).trans p9) (i64_u8 (by omega) (by omega))) rfl)
      refine steps_cons ?_ ?_
      · intro u W hS hp
        exact step_on (wanted_free rfl) (ext_val hS (run_mv rfl ((eval_out rfl).trans rfl)) rfl)
      refine steps_cons ?_ ?_
      · intro u W hS hp
        exact step_on (wanted_free rfl) (ext_val hS (run_fa rfl ((eval_out rfl).trans rfl) (fa39_1 bA W)) rfl)
      refine steps_cons ?_ ?_
      · intro u W hS hp
        obtain ⟨q0, _⟩ := hp
        have p12 : u 12 = .pointer (some ⟨bA, 1, none⟩) := q0
        exact step_on (wanted_free rfl) (ext_val hS (run_ld rfl ((eval_in rfl hN rfl).trans p12) (by rw [← hhc]; exact ld_int ((cell_of_heap (hS.h (bA, g.arr, 23) (by simp))).trans (rfl : g.arr[1]? = some _)))) rfl)
      refine steps_cons ?_ ?_
      · intro u W hS hp
        obtain ⟨q0, _⟩ := hp
        have p13 : u 13 = .int .i64 (g.h.toNat : Nat) := q0
        exact step_on (wanted_free rfl) (ext_val hS (run_conv rfl ((eval_in rfl hN rfl).trans p13) (i64_u8 (by omega) (by omega))) rfl)
      refine steps_cons ?_ ?_
      · intro u W hS hp
        obtain ⟨q0, q1, _⟩ := hp
        have p11 : u 11 = .int .u8 l := q0
        have p14 : u 14 = .int .u8 (g.h.toNat : Nat) := q1
        exact step_on (wanted_free rfl) (ext_val hS (run_bin rfl ((eval_in rfl hN rfl).trans p11) ((eval_in rfl hN rfl).trans p14) rfl (i_rem (by omega))) rfl)
      refine steps_cons ?_ ?_
      · intro u W hS hp
        obtain ⟨q0, q1, _⟩ := hp
        have p10 : u 10 = .int .u8 g.c := q0
        have p15 : u 15 = .int .u8 ((l % g.h.toNat : Nat) : Int) := q1
        exact step_on (wanted_free rfl) (ext_val hS (run_bin rfl ((eval_in rfl hN rfl).trans p10) ((eval_in rfl hN rfl).trans p15) rfl (i_add e2)) rfl)
      refine steps_cons ?_ ?_
      · intro u W hS hp
        obtain ⟨q0, q1, q2, q3, q4, q5, q6, q7, q8, q9, _⟩ := hp
        have p16 : u 16 = .int .u8 r := q0
        exact step_on (wanted_free rfl) (ext_val hS (run_asg rfl ((eval_in rfl hN rfl).trans p16)) rfl)
      exact steps_nil
    · obtain ⟨_, _, _, _, _, _, _, _, _, q9, _⟩ := hF
      have p4 : u 4 = .int .u8 r := q9
      simp only [frm, frmL, Nat.reduceAdd, p4]
      clear p4
      clear hhc e2
      go_wp2
      go_ret
      exact ⟨rfl, by rw [← HBA.out]; exact hS.b⟩
end Go.Proofs.YthllacodjeocmaaGreatDoor
namespace Go.Proofs.YthllacodjeocmaaGreatDoor
open Go.RowKit
attribute [local go_sem] Oper.semAt_some
def Ge.line (g : Ge) (l : Nat) : Nat := if g.ok = true then l / g.w.toNat else 0
set_option maxHeartbeats 2000000 in
set_option maxRecDepth 100000 in
theorem rline_any (g : Ge) (l : Nat) (hl : l < 256) (w : World) (hG : GlobM w) : Calls Tryz.prog 62 #[.agg g.arr, .int .u8 l] w fun e w' => e = .returned (.int .u8 (g.line l)) ∧ Below w.heap.size w w' := by
  have HS0 := Lib.hid ((St.start hG).boxT g.arr 23 rfl)
  obtain ⟨r, hr⟩ : ∃ r : Nat, g.line l = r := ⟨_, rfl⟩
  have HI : Hid (r = if g.ok = true then l / g.w.toNat else 0) := Lib.hid hr.symm
  have HOB := Lib.hid (@ok_bounds g)
  simp only [hr]
  clear hr
  generalize hbA : w.heap.size = bA at HS0
  have HBA := Lib.hid hbA
  clear hG
  go_enter Tryz.func62, Tryz.ntmps62
  go_wp2_with (first | (refine wpl_box rfl 23 (.tmp 0) rfl g.arr rfl ?_; rw [hbA]; intro w0 hw0; have HS := (show Hid (St [(bA, g.arr, 23)] w w0) from by rw [hw0.out]; exact HS0); clear hw0 HS0) | (refine wpl_ld39 rfl (.tmp 2) rfl bA g rfl (HS.out.h (bA, g.arr, 23) (by simp)) ?_) | fail)
  go_at_call 23
  refine (rgeo_st g HS).mono ?_
  rintro e w1 ⟨rfl, HS1⟩
  clear HS hbA
  obtain ⟨ok, hok⟩ : ∃ ok, g.ok = ok := ⟨_, rfl⟩
  rw [hok] at HI HOB ⊢
  clear hok
  cases ok
  · have HI2 : Hid (r = 0) := HI.out
    go_wp2
    go_ret
    exact ⟨by rw [HI2.out]; rfl, by rw [← HBA.out]; exact HS1.out.b⟩
  · obtain ⟨_, _, ⟨h1, h2⟩⟩ := HOB.out rfl
    have HI2 : Hid (r = l / g.w.toNat) := HI.out
    have c0 : w1.cell? ⟨bA, 2, none⟩ = some (.int .i64 g.w) := (cell_of_heap (HS1.out.h (bA, g.arr, 23) (by simp))).trans rfl
    obtain ⟨k, hk⟩ := Int.eq_ofNat_of_zero_le (show 0 ≤ g.w by omega)
    have HI3 : Hid (r = l / k) := by show _ = _; rw [HI2.out, hk]; rfl
    rw [hk] at c0 h1 h2
    have hq : ((l : Int) / (k : Int)) % 256 = ((l / k : Nat) : Int) := by
      have h := Nat.div_le_self l k
      have e : ((l : Int) / (k : Int)) = ((l / k : Nat) : Int) := rfl
      obtain ⟨q, hqq⟩ : ∃ q, l / k = q := ⟨_, rfl⟩
      rw [hqq] at h e
      rw [e, hqq]; clear e; omega
    have HQ := Lib.hid hq
    clear hk HI2 HI HOB hq
    go_wp2
    go_ret
    exact ⟨by rw [HI3.out, ← HQ.out]; rfl, by rw [← HBA.out]; exact HS1.out.b⟩
end Go.Proofs.YthllacodjeocmaaGreatDoor
