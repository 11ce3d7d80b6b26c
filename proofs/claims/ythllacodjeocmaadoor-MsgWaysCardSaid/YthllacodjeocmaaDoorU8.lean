/- Geometries in the reference: caches and homes. -/
import Derived.Test.YthllacodjeocmaaDoorU7
namespace Go.Proofs.YthllacodjeocmaaDoor
open Go.RowKit
attribute [local go_sem] Oper.semAt_some
section
variable {bs : List (Nat × Array Value × TypeId)} {w W : World}
theorem rgeo_st (g : Ge) (h : Hid (St bs w W)) : Calls Tryd.prog 64 #[.agg g.arr] W fun e w' => e = .returned (.bool g.ok) ∧ Hid (St bs w w') :=
  (rgeo_ok g W h.out.g).mono fun _ _ ⟨e, hb⟩ => ⟨e, Lib.hid (h.out.next hb)⟩
end
set_option maxHeartbeats 2000000 in
set_option maxRecDepth 100000 in
theorem riscache_any (g : Ge) (n : Nat) (hn : n < 256) (w : World) (hG : GlobM w) : Calls Tryd.prog 67 #[.agg g.arr, .int .u8 n] w fun e w' => e = .returned (.bool (g.isCache n)) ∧ Below w.heap.size w w' := by
  have HS0 := Lib.hid ((St.start hG).boxT g.arr 39 rfl)
  have HI : Hid (g.isCache n = (g.ok && decide ((n : Int) < g.c))) := Lib.hid rfl
  obtain ⟨r, hr⟩ : ∃ r, g.isCache n = r := ⟨_, rfl⟩
  rw [hr] at HI
  simp only [hr]
  clear hr
  generalize hbA : w.heap.size = bA at HS0
  have HBA := Lib.hid hbA
  clear hG
  go_enter Tryd.func67, Tryd.ntmps67
  go_wp2_with (first | (refine wpl_box rfl 39 (.tmp 0) rfl g.arr rfl ?_; rw [hbA]; intro w0 hw0; have HS := (show Hid (St [(bA, g.arr, 39)] w w0) from by rw [hw0.out]; exact HS0); clear hw0 HS0) | (refine wpl_ld39 rfl (.tmp 2) rfl bA g rfl (HS.out.h (bA, g.arr, 39) (by simp)) ?_) | fail)
  go_at_call 64
  refine (rgeo_st g HS).mono ?_
  rintro e w1 ⟨rfl, HS1⟩
  clear HS hbA
  obtain ⟨ok, hok⟩ : ∃ ok, g.ok = ok := ⟨_, rfl⟩
  rw [hok] at HI ⊢
  clear hok
  cases ok
  · have HI2 : Hid (r = false) := HI.out
    go_wp2
    go_ret
    exact ⟨by rw [HI2.out]; rfl, by rw [← HBA.out]; exact HS1.out.b⟩
  · have HI2 : Hid (r = decide ((n : Int) < g.c)) := by show _ = _; rw [HI.out]; rfl
    have c0 : w1.cell? ⟨bA, 0, none⟩ = some (.int .i64 g.c) := (cell_of_heap (HS1.out.h (bA, g.arr, 39) (by simp))).trans rfl
    go_wp2
    go_ret
    exact ⟨by rw [HI2.out]; rfl, by rw [← HBA.out]; exact HS1.out.b⟩
set_option maxHeartbeats 2000000 in
set_option maxRecDepth 100000 in
theorem rhome_any (g : Ge) (l : Nat) (_hl : l < 256) (w : World) (hG : GlobM w) : Calls Tryd.prog 66 #[.agg g.arr, .int .u8 l] w fun e w' => e = .returned (.int .u8 (g.home l)) ∧ Below w.heap.size w w' := by
  have HS0 := Lib.hid ((St.start hG).boxT g.arr 39 rfl)
  obtain ⟨r, hr⟩ : ∃ r : Nat, g.home l = r := ⟨_, rfl⟩
  have HI : Hid (r = if g.ok = true then g.c.toNat + l % g.h.toNat else 0) := Lib.hid hr.symm
  have HOB := Lib.hid (@ok_bounds g)
  simp only [hr]
  clear hr
  generalize hbA : w.heap.size = bA at HS0
  have HBA := Lib.hid hbA
  clear hG
  go_enter Tryd.func66, Tryd.ntmps66
  go_wp2_with (first | (refine wpl_box rfl 39 (.tmp 0) rfl g.arr rfl ?_; rw [hbA]; intro w0 hw0; have HS := (show Hid (St [(bA, g.arr, 39)] w w0) from by rw [hw0.out]; exact HS0); clear hw0 HS0) | (refine wpl_ld39 rfl (.tmp 2) rfl bA g rfl (HS.out.h (bA, g.arr, 39) (by simp)) ?_) | fail)
  go_at_call 64
  refine (rgeo_st g HS).mono ?_
  rintro e w1 ⟨rfl, HS1⟩
  clear HS hbA
  obtain ⟨ok, hok⟩ : ∃ ok, g.ok = ok := ⟨_, rfl⟩
  rw [hok] at HI HOB ⊢
  clear hok
  cases ok
  · have HI2 : Hid (r = 0) := HI.out
    go_wp2
    go_ret
    exact ⟨by rw [HI2.out]; rfl, by rw [← HBA.out]; exact HS1.out.b⟩
  · obtain ⟨⟨h1, h2⟩, ⟨h3, h4⟩, _⟩ := HOB.out rfl
    have HI2 : r = g.c.toNat + l % g.h.toNat := HI.out
    have hm : l % g.h.toNat < g.h.toNat := Nat.mod_lt _ (by omega)
    have hhc : g.h = ((g.h.toNat : Nat) : Int) := by omega
    have e2 : IntKind.u8.wrap (g.c + ((l % g.h.toNat : Nat) : Int)) = (r : Int) := by rw [wrap8 (by omega) (by omega)]; omega
    have HE := Lib.hid (And.intro e2 hhc)
    clear e2 HI2 hhc HOB HI
    go_wp2_with fail
    obtain ⟨e2, hhc⟩ := HE.out
    refine region_all (D := [false, false, false, false, true, false, false, false, true, true, true, true, true, true, true, true, true]) (S := fun W => St [(bA, g.arr, 39)] w W) (R := RB) (F := FF [isV (.pointer (some ⟨bA, 0, none⟩)), isV (.int .i64 g.c), isV (.int .u8 g.c), isV (.int .u8 l), isV (.pointer (some ⟨bA, 1, none⟩)), isV (.int .i64 (g.h.toNat : Nat)), isV (.int .u8 (g.h.toNat : Nat)), isV (.int .u8 ((l % g.h.toNat : Nat) : Int)), isV (.int .u8 r), isV (.int .u8 r)]) rfl mo (by kernel_rfl) (FF_st _ _) (HS1.out.drew) (fun hN => ?_) (fun u W hS hF => ?_)
    · refine steps_cons ?_ ?_
      · intro u W hS hp
        exact step_on (wanted_free rfl) (ext_val hS (run_fa rfl ((eval_out rfl).trans rfl) (fa39_0 bA W)) rfl)
      refine steps_cons ?_ ?_
      · intro u W hS hp
        obtain ⟨q0, _⟩ := hp
        have p8 : u 8 = .pointer (some ⟨bA, 0, none⟩) := q0
        exact step_on (wanted_free rfl) (ext_val hS (run_ld rfl ((eval_in rfl hN rfl).trans p8) (ld_int ((cell_of_heap (hS.h (bA, g.arr, 39) (by simp))).trans (rfl : g.arr[0]? = some _)))) rfl)
      refine steps_cons ?_ ?_
      · intro u W hS hp
        obtain ⟨q0, _⟩ := hp
        have p9 : u 9 = .int .i64 g.c := q0
        exact step_on (wanted_free rfl) (ext_val hS (run_conv rfl ((eval_in rfl hN rfl).trans p9) (i64_u8 (by omega) (by omega))) rfl)
      refine steps_cons ?_ ?_
      · intro u W hS hp
        exact step_on (wanted_free rfl) (ext_val hS (run_mv rfl ((eval_out rfl).trans rfl)) rfl)
      refine steps_cons ?_ ?_
      · intro u W hS hp
        exact step_on (wanted_free rfl) (ext_val hS (run_fa rfl ((eval_out rfl).trans rfl) (fa39_1 bA W)) rfl)
      refine steps_cons ?_ ?_
      · intro u W hS hp
        obtain ⟨q0, _⟩ := hp
        have p12 : u 12 = .pointer (some ⟨bA, 1, none⟩) := q0
        exact step_on (wanted_free rfl) (ext_val hS (run_ld rfl ((eval_in rfl hN rfl).trans p12) (by rw [← hhc]; exact ld_int ((cell_of_heap (hS.h (bA, g.arr, 39) (by simp))).trans (rfl : g.arr[1]? = some _)))) rfl)
      refine steps_cons ?_ ?_
      · intro u W hS hp
        obtain ⟨q0, _⟩ := hp
        have p13 : u 13 = .int .i64 (g.h.toNat : Nat) := q0
        exact step_on (wanted_free rfl) (ext_val hS (run_conv rfl ((eval_in rfl hN rfl).trans p13) (i64_u8 (by omega) (by omega))) rfl)
      refine steps_cons ?_ ?_
      · intro u W hS hp
        obtain ⟨q0, q1, _⟩ := hp
        have p11 : u 11 = .int .u8 l := q0
        have p14 : u 14 = .int .u8 (g.h.toNat : Nat) := q1
        exact step_on (wanted_free rfl) (ext_val hS (run_bin rfl ((eval_in rfl hN rfl).trans p11) ((eval_in rfl hN rfl).trans p14) rfl (i_rem (by omega))) rfl)
      refine steps_cons ?_ ?_
      · intro u W hS hp
        obtain ⟨q0, q1, _⟩ := hp
        have p10 : u 10 = .int .u8 g.c := q0
        have p15 : u 15 = .int .u8 ((l % g.h.toNat : Nat) : Int) := q1
        exact step_on (wanted_free rfl) (ext_val hS (run_bin rfl ((eval_in rfl hN rfl).trans p10) ((eval_in rfl hN rfl).trans p15) rfl (i_add e2)) rfl)
      refine steps_cons ?_ ?_
      · intro u W hS hp
        obtain ⟨q0, q1, q2, q3, q4, q5, q6, q7, q8, q9, _⟩ := hp
        have p16 : u 16 = .int .u8 r := q0
        exact step_on (wanted_free rfl) (ext_val hS (run_asg rfl ((eval_in rfl hN rfl).trans p16)) rfl)
      exact steps_nil
    · obtain ⟨_, _, _, _, _, _, _, _, _, q9, _⟩ := hF
      have p4 : u 4 = .int .u8 r := q9
      simp only [frm, frmL, Nat.reduceAdd, p4]
      clear p4
      clear hhc e2
      go_wp2
      go_ret
      exact ⟨rfl, by rw [← HBA.out]; exact hS.b⟩
end Go.Proofs.YthllacodjeocmaaDoor
