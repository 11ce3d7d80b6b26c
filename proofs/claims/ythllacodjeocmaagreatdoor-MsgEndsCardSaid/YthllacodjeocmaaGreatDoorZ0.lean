/- One field of a message, set. -/
import Derived.Test.YthllacodjeocmaaGreatDoorU14
import Derived.Laws.Rows
namespace Go.Proofs.YthllacodjeocmaaGreatDoor
open Go.RowKit
attribute [local go_sem] Oper.semAt_some
theorem St.put {bs : List (Nat × Array Value × TypeId)} {w W : World} {b T : Nat} {C C' : Array Value} {o : Nat} {vs : List Value} (h : Hid (St ((b, C, T) :: bs) w W)) (hb : Hid (w.heap.size ≤ b ∧ 5 ≤ b ∧ ∀ x ∈ bs, x.1 ≠ b)) (hc : (W.setCells b o vs).heap[b]? = some (.cells C' T)) : Hid (St ((b, C', T) :: bs) w (W.setCells b o vs)) :=
  Lib.hid (h.out.only (setCells_only b o vs W) hb.out.1 hb.out.2.1 hb.out.2.2 hc)
theorem two_st (m : Mg) (w : World) (hG : GlobM w) : St [(w.heap.size, boxOf m, 27), (w.heap.size + 1, boxOf zeroM, 27)] w ((w.alloc (.cells (boxOf m) 27)).alloc (.cells (boxOf zeroM) 27)) :=
  (((St.start hG).boxT (n := w.heap.size) (boxOf m) 27 rfl).boxT (n := w.heap.size + 1) (boxOf zeroM) 27 (by simp)).sub (fun x hx => by
    rcases List.mem_cons.1 hx with rfl | hx
    · exact List.mem_cons_of_mem _ (List.mem_cons_self ..)
    · rw [List.mem_singleton] at hx; subst hx; exact List.mem_cons_self ..)
set_option maxHeartbeats 4000000 in
set_option maxRecDepth 100000 in
theorem bend_0 (m : Mg) (n : UInt8) (w : World) (hG : GlobM w) : Calls Tryz.prog 5 #[.agg (boxOf m), .int .i64 0, .int .u8 n.toNat] w fun e w' => ∃ m' : Mg, e = .returned (.agg (boxOf m')) ∧ Below w.heap.size w w' := by
  have HN1 : Hid (w.heap.size ≤ w.heap.size ∧ 5 ≤ w.heap.size ∧ ∀ x ∈ [(w.heap.size + 1, boxOf zeroM, 27)], x.1 ≠ w.heap.size) := Lib.hid ⟨Nat.le_refl _, hG.g.size, fun x hx => by rw [List.mem_singleton] at hx; subst hx; show w.heap.size + 1 ≠ _; omega⟩
  have HN2 : Hid (w.heap.size ≤ w.heap.size + 1 ∧ 5 ≤ w.heap.size + 1 ∧ ∀ x ∈ ([] : List (Nat × Array Value × TypeId)), x.1 ≠ w.heap.size + 1) := Lib.hid ⟨by omega, by have := hG.g.size; omega, fun x hx => by cases hx⟩
  have HS0 := Lib.hid (two_st m w hG)
  obtain ⟨b6, hb6⟩ : ∃ b, w.heap.size + 1 = b := ⟨_, rfl⟩
  have HZ : Hid ((w.alloc (.cells (boxOf m) 27)).heap.size = b6) := Lib.hid (by rw [← hb6]; simp)
  rw [hb6] at HN1 HN2 HS0
  obtain ⟨bA, hbA⟩ : ∃ b, w.heap.size = b := ⟨_, rfl⟩
  have HBA := Lib.hid hbA
  rw [hbA] at HS0
  simp only [hbA] at HN1 HN2 ⊢
  clear hb6 hG
  go_enter Tryz.func5, Tryz.ntmps5
  go_upto_region 1 with (first | (refine wpl_box rfl 27 (.tmp 0) rfl (boxOf m) rfl ?_; rw [hbA]; intro w0 hw0) | fail)
  obtain ⟨W, hW⟩ : ∃ W, w0.alloc (.cells (boxOf zeroM) 27) = W := ⟨_, rfl⟩
  rw [show w0.heap.size = b6 from by rw [hw0.out]; exact HZ.out]
  change Code.wp _ _ _ _ (w0.alloc (.cells (boxOf zeroM) 27))
  rw [hW]
  have HS : Hid (St [(bA, boxOf m, 27), (b6, boxOf zeroM, 27)] w W) := by rw [← hW, hw0.out]; exact HS0
  have c0 : W.cell? ⟨bA, 0, none⟩ = some (.int .u8 m.k.toNat) := cell_of_heap (HS.out.h (bA, boxOf m, 27) (by simp))
  have f0 := free_of_heap (i := 0) (HS.out.h (bA, boxOf m, 27) (by simp))
  clear hW hw0 HS0 HZ hbA
  go_upto_region 17 with fail
  have HS2 : Hid (St [(bA, boxOf ⟨n, m.f, m.t, m.l, m.a, m.c, m.al, m.d0, m.d1, m.d2, m.d3⟩, 27), (b6, boxOf zeroM, 27)] w (W.setCell ⟨bA, 0, none⟩ (.int .u8 n.toNat))) := St.put (o := 0) (vs := [(.int .u8 n.toNat)]) HS (by rw [show Hid _ = Hid _ from rfl]; exact (show Hid (w.heap.size ≤ bA ∧ 5 ≤ bA ∧ ∀ x ∈ [(b6, boxOf zeroM, 27)], x.1 ≠ bA) from by rw [HBA.out]; exact HN1)) (heap_set (i := 0) (HS.out.h (bA, boxOf m, 27) (by simp)) _)
  generalize W.setCell ⟨bA, 0, none⟩ (.int .u8 n.toNat) = W2 at HS2 ⊢
  clear c0 f0 HS
  go_wp2_with (first | (refine wpl_val rfl (run_ld (T := 27) (x := .tmp 3) rfl rfl (ld25 (HS2.out.h (bA, boxOf ⟨n, m.f, m.t, m.l, m.a, m.c, m.al, m.d0, m.d1, m.d2, m.d3⟩, 27) (by simp)))) ?_) | (refine wpl_store rfl 27 (.tmp 6) (.tmp 44) rfl b6 _ (boxOf ⟨n, m.f, m.t, m.l, m.a, m.c, m.al, m.d0, m.d1, m.d2, m.d3⟩) rfl rfl (HS2.out.h (b6, boxOf zeroM, 27) (by simp)) rfl msgSize (box_one _) ?_; intro W3 ho3 hn3; have HE := Lib.hid (And.intro ho3 hn3); clear ho3 hn3) | fail)
  refine bodyPost_ret (results_cell_row rfl _ _ b6 27 (boxOf ⟨n, m.f, m.t, m.l, m.a, m.c, m.al, m.d0, m.d1, m.d2, m.d3⟩) (0, 0) _ rfl HE.out.2 Tryz.underlying27 rfl (by rw [msgSize]; rfl)) rfl ?_
  exact ⟨_, rfl, by rw [← HBA.out]; exact HS2.out.b.trans ((HE.out.1.below (B := b6) (Nat.le_refl _)).mono (by have := HN2.out.1; rw [HBA.out]; omega))⟩
set_option maxHeartbeats 4000000 in
set_option maxRecDepth 100000 in
theorem bend_1 (m : Mg) (n : UInt8) (w : World) (hG : GlobM w) : Calls Tryz.prog 5 #[.agg (boxOf m), .int .i64 1, .int .u8 n.toNat] w fun e w' => ∃ m' : Mg, e = .returned (.agg (boxOf m')) ∧ Below w.heap.size w w' := by
  have HN1 : Hid (w.heap.size ≤ w.heap.size ∧ 5 ≤ w.heap.size ∧ ∀ x ∈ [(w.heap.size + 1, boxOf zeroM, 27)], x.1 ≠ w.heap.size) := Lib.hid ⟨Nat.le_refl _, hG.g.size, fun x hx => by rw [List.mem_singleton] at hx; subst hx; show w.heap.size + 1 ≠ _; omega⟩
  have HN2 : Hid (w.heap.size ≤ w.heap.size + 1 ∧ 5 ≤ w.heap.size + 1 ∧ ∀ x ∈ ([] : List (Nat × Array Value × TypeId)), x.1 ≠ w.heap.size + 1) := Lib.hid ⟨by omega, by have := hG.g.size; omega, fun x hx => by cases hx⟩
  have HS0 := Lib.hid (two_st m w hG)
  obtain ⟨b6, hb6⟩ : ∃ b, w.heap.size + 1 = b := ⟨_, rfl⟩
  have HZ : Hid ((w.alloc (.cells (boxOf m) 27)).heap.size = b6) := Lib.hid (by rw [← hb6]; simp)
  rw [hb6] at HN1 HN2 HS0
  obtain ⟨bA, hbA⟩ : ∃ b, w.heap.size = b := ⟨_, rfl⟩
  have HBA := Lib.hid hbA
  rw [hbA] at HS0
  simp only [hbA] at HN1 HN2 ⊢
  clear hb6 hG
  go_enter Tryz.func5, Tryz.ntmps5
  go_upto_region 1 with (first | (refine wpl_box rfl 27 (.tmp 0) rfl (boxOf m) rfl ?_; rw [hbA]; intro w0 hw0) | fail)
  obtain ⟨W, hW⟩ : ∃ W, w0.alloc (.cells (boxOf zeroM) 27) = W := ⟨_, rfl⟩
  rw [show w0.heap.size = b6 from by rw [hw0.out]; exact HZ.out]
  change Code.wp _ _ _ _ (w0.alloc (.cells (boxOf zeroM) 27))
  rw [hW]
  have HS : Hid (St [(bA, boxOf m, 27), (b6, boxOf zeroM, 27)] w W) := by rw [← hW, hw0.out]; exact HS0
  have c0 : W.cell? ⟨bA, 1, none⟩ = some (.int .u8 m.f.toNat) := cell_of_heap (HS.out.h (bA, boxOf m, 27) (by simp))
  have f0 := free_of_heap (i := 1) (HS.out.h (bA, boxOf m, 27) (by simp))
  clear hW hw0 HS0 HZ hbA
  go_upto_region 17 with fail
  have HS2 : Hid (St [(bA, boxOf ⟨m.k, n, m.t, m.l, m.a, m.c, m.al, m.d0, m.d1, m.d2, m.d3⟩, 27), (b6, boxOf zeroM, 27)] w (W.setCell ⟨bA, 1, none⟩ (.int .u8 n.toNat))) := St.put (o := 1) (vs := [(.int .u8 n.toNat)]) HS (by rw [show Hid _ = Hid _ from rfl]; exact (show Hid (w.heap.size ≤ bA ∧ 5 ≤ bA ∧ ∀ x ∈ [(b6, boxOf zeroM, 27)], x.1 ≠ bA) from by rw [HBA.out]; exact HN1)) (heap_set (i := 1) (HS.out.h (bA, boxOf m, 27) (by simp)) _)
  generalize W.setCell ⟨bA, 1, none⟩ (.int .u8 n.toNat) = W2 at HS2 ⊢
  clear c0 f0 HS
  go_wp2_with (first | (refine wpl_val rfl (run_ld (T := 27) (x := .tmp 3) rfl rfl (ld25 (HS2.out.h (bA, boxOf ⟨m.k, n, m.t, m.l, m.a, m.c, m.al, m.d0, m.d1, m.d2, m.d3⟩, 27) (by simp)))) ?_) | (refine wpl_store rfl 27 (.tmp 6) (.tmp 44) rfl b6 _ (boxOf ⟨m.k, n, m.t, m.l, m.a, m.c, m.al, m.d0, m.d1, m.d2, m.d3⟩) rfl rfl (HS2.out.h (b6, boxOf zeroM, 27) (by simp)) rfl msgSize (box_one _) ?_; intro W3 ho3 hn3; have HE := Lib.hid (And.intro ho3 hn3); clear ho3 hn3) | fail)
  refine bodyPost_ret (results_cell_row rfl _ _ b6 27 (boxOf ⟨m.k, n, m.t, m.l, m.a, m.c, m.al, m.d0, m.d1, m.d2, m.d3⟩) (0, 0) _ rfl HE.out.2 Tryz.underlying27 rfl (by rw [msgSize]; rfl)) rfl ?_
  exact ⟨_, rfl, by rw [← HBA.out]; exact HS2.out.b.trans ((HE.out.1.below (B := b6) (Nat.le_refl _)).mono (by have := HN2.out.1; rw [HBA.out]; omega))⟩
set_option maxHeartbeats 4000000 in
set_option maxRecDepth 100000 in
theorem bend_2 (m : Mg) (n : UInt8) (w : World) (hG : GlobM w) : Calls Tryz.prog 5 #[.agg (boxOf m), .int .i64 2, .int .u8 n.toNat] w fun e w' => ∃ m' : Mg, e = .returned (.agg (boxOf m')) ∧ Below w.heap.size w w' := by
  have HN1 : Hid (w.heap.size ≤ w.heap.size ∧ 5 ≤ w.heap.size ∧ ∀ x ∈ [(w.heap.size + 1, boxOf zeroM, 27)], x.1 ≠ w.heap.size) := Lib.hid ⟨Nat.le_refl _, hG.g.size, fun x hx => by rw [List.mem_singleton] at hx; subst hx; show w.heap.size + 1 ≠ _; omega⟩
  have HN2 : Hid (w.heap.size ≤ w.heap.size + 1 ∧ 5 ≤ w.heap.size + 1 ∧ ∀ x ∈ ([] : List (Nat × Array Value × TypeId)), x.1 ≠ w.heap.size + 1) := Lib.hid ⟨by omega, by have := hG.g.size; omega, fun x hx => by cases hx⟩
  have HS0 := Lib.hid (two_st m w hG)
  obtain ⟨b6, hb6⟩ : ∃ b, w.heap.size + 1 = b := ⟨_, rfl⟩
  have HZ : Hid ((w.alloc (.cells (boxOf m) 27)).heap.size = b6) := Lib.hid (by rw [← hb6]; simp)
  rw [hb6] at HN1 HN2 HS0
  obtain ⟨bA, hbA⟩ : ∃ b, w.heap.size = b := ⟨_, rfl⟩
  have HBA := Lib.hid hbA
  rw [hbA] at HS0
  simp only [hbA] at HN1 HN2 ⊢
  clear hb6 hG
  go_enter Tryz.func5, Tryz.ntmps5
  go_upto_region 1 with (first | (refine wpl_box rfl 27 (.tmp 0) rfl (boxOf m) rfl ?_; rw [hbA]; intro w0 hw0) | fail)
  obtain ⟨W, hW⟩ : ∃ W, w0.alloc (.cells (boxOf zeroM) 27) = W := ⟨_, rfl⟩
  rw [show w0.heap.size = b6 from by rw [hw0.out]; exact HZ.out]
  change Code.wp _ _ _ _ (w0.alloc (.cells (boxOf zeroM) 27))
  rw [hW]
  have HS : Hid (St [(bA, boxOf m, 27), (b6, boxOf zeroM, 27)] w W) := by rw [← hW, hw0.out]; exact HS0
  have c0 : W.cell? ⟨bA, 2, none⟩ = some (.int .u8 m.t.toNat) := cell_of_heap (HS.out.h (bA, boxOf m, 27) (by simp))
  have f0 := free_of_heap (i := 2) (HS.out.h (bA, boxOf m, 27) (by simp))
  clear hW hw0 HS0 HZ hbA
  go_upto_region 17 with fail
  have HS2 : Hid (St [(bA, boxOf ⟨m.k, m.f, n, m.l, m.a, m.c, m.al, m.d0, m.d1, m.d2, m.d3⟩, 27), (b6, boxOf zeroM, 27)] w (W.setCell ⟨bA, 2, none⟩ (.int .u8 n.toNat))) := St.put (o := 2) (vs := [(.int .u8 n.toNat)]) HS (by rw [show Hid _ = Hid _ from rfl]; exact (show Hid (w.heap.size ≤ bA ∧ 5 ≤ bA ∧ ∀ x ∈ [(b6, boxOf zeroM, 27)], x.1 ≠ bA) from by rw [HBA.out]; exact HN1)) (heap_set (i := 2) (HS.out.h (bA, boxOf m, 27) (by simp)) _)
  generalize W.setCell ⟨bA, 2, none⟩ (.int .u8 n.toNat) = W2 at HS2 ⊢
  clear c0 f0 HS
  go_wp2_with (first | (refine wpl_val rfl (run_ld (T := 27) (x := .tmp 3) rfl rfl (ld25 (HS2.out.h (bA, boxOf ⟨m.k, m.f, n, m.l, m.a, m.c, m.al, m.d0, m.d1, m.d2, m.d3⟩, 27) (by simp)))) ?_) | (refine wpl_store rfl 27 (.tmp 6) (.tmp 44) rfl b6 _ (boxOf ⟨m.k, m.f, n, m.l, m.a, m.c, m.al, m.d0, m.d1, m.d2, m.d3⟩) rfl rfl (HS2.out.h (b6, boxOf zeroM, 27) (by simp)) rfl msgSize (box_one _) ?_; intro W3 ho3 hn3; have HE := Lib.hid (And.intro ho3 hn3); clear ho3 hn3) | fail)
  refine bodyPost_ret (results_cell_row rfl _ _ b6 27 (boxOf ⟨m.k, m.f, n, m.l, m.a, m.c, m.al, m.d0, m.d1, m.d2, m.d3⟩) (0, 0) _ rfl HE.out.2 Tryz.underlying27 rfl (by rw [msgSize]; rfl)) rfl ?_
  exact ⟨_, rfl, by rw [← HBA.out]; exact HS2.out.b.trans ((HE.out.1.below (B := b6) (Nat.le_refl _)).mono (by have := HN2.out.1; rw [HBA.out]; omega))⟩
set_option maxHeartbeats 4000000 in
set_option maxRecDepth 100000 in
theorem bend_3 (m : Mg) (n : UInt8) (w : World) (hG : GlobM w) : Calls Tryz.prog 5 #[.agg (boxOf m), .int .i64 3, .int .u8 n.toNat] w fun e w' => ∃ m' : Mg, e = .returned (.agg (boxOf m')) ∧ Below w.heap.size w w' := by
  have HN1 : Hid (w.heap.size ≤ w.heap.size ∧ 5 ≤ w.heap.size ∧ ∀ x ∈ [(w.heap.size + 1, boxOf zeroM, 27)], x.1 ≠ w.heap.size) := Lib.hid ⟨Nat.le_refl _, hG.g.size, fun x hx => by rw [List.mem_singleton] at hx; subst hx; show w.heap.size + 1 ≠ _; omega⟩
  have HN2 : Hid (w.heap.size ≤ w.heap.size + 1 ∧ 5 ≤ w.heap.size + 1 ∧ ∀ x ∈ ([] : List (Nat × Array Value × TypeId)), x.1 ≠ w.heap.size + 1) := Lib.hid ⟨by omega, by have := hG.g.size; omega, fun x hx => by cases hx⟩
  have HS0 := Lib.hid (two_st m w hG)
  obtain ⟨b6, hb6⟩ : ∃ b, w.heap.size + 1 = b := ⟨_, rfl⟩
  have HZ : Hid ((w.alloc (.cells (boxOf m) 27)).heap.size = b6) := Lib.hid (by rw [← hb6]; simp)
  rw [hb6] at HN1 HN2 HS0
  obtain ⟨bA, hbA⟩ : ∃ b, w.heap.size = b := ⟨_, rfl⟩
  have HBA := Lib.hid hbA
  rw [hbA] at HS0
  simp only [hbA] at HN1 HN2 ⊢
  clear hb6 hG
  go_enter Tryz.func5, Tryz.ntmps5
  go_upto_region 1 with (first | (refine wpl_box rfl 27 (.tmp 0) rfl (boxOf m) rfl ?_; rw [hbA]; intro w0 hw0) | fail)
  obtain ⟨W, hW⟩ : ∃ W, w0.alloc (.cells (boxOf zeroM) 27) = W := ⟨_, rfl⟩
  rw [show w0.heap.size = b6 from by rw [hw0.out]; exact HZ.out]
  change Code.wp _ _ _ _ (w0.alloc (.cells (boxOf zeroM) 27))
  rw [hW]
  have HS : Hid (St [(bA, boxOf m, 27), (b6, boxOf zeroM, 27)] w W) := by rw [← hW, hw0.out]; exact HS0
  have c0 : W.cell? ⟨bA, 3, none⟩ = some (.int .u8 m.l.toNat) := cell_of_heap (HS.out.h (bA, boxOf m, 27) (by simp))
  have f0 := free_of_heap (i := 3) (HS.out.h (bA, boxOf m, 27) (by simp))
  clear hW hw0 HS0 HZ hbA
  go_upto_region 17 with fail
  have HS2 : Hid (St [(bA, boxOf ⟨m.k, m.f, m.t, n, m.a, m.c, m.al, m.d0, m.d1, m.d2, m.d3⟩, 27), (b6, boxOf zeroM, 27)] w (W.setCell ⟨bA, 3, none⟩ (.int .u8 n.toNat))) := St.put (o := 3) (vs := [(.int .u8 n.toNat)]) HS (by rw [show Hid _ = Hid _ from rfl]; exact (show Hid (w.heap.size ≤ bA ∧ 5 ≤ bA ∧ ∀ x ∈ [(b6, boxOf zeroM, 27)], x.1 ≠ bA) from by rw [HBA.out]; exact HN1)) (heap_set (i := 3) (HS.out.h (bA, boxOf m, 27) (by simp)) _)
  generalize W.setCell ⟨bA, 3, none⟩ (.int .u8 n.toNat) = W2 at HS2 ⊢
  clear c0 f0 HS
  go_wp2_with (first | (refine wpl_val rfl (run_ld (T := 27) (x := .tmp 3) rfl rfl (ld25 (HS2.out.h (bA, boxOf ⟨m.k, m.f, m.t, n, m.a, m.c, m.al, m.d0, m.d1, m.d2, m.d3⟩, 27) (by simp)))) ?_) | (refine wpl_store rfl 27 (.tmp 6) (.tmp 44) rfl b6 _ (boxOf ⟨m.k, m.f, m.t, n, m.a, m.c, m.al, m.d0, m.d1, m.d2, m.d3⟩) rfl rfl (HS2.out.h (b6, boxOf zeroM, 27) (by simp)) rfl msgSize (box_one _) ?_; intro W3 ho3 hn3; have HE := Lib.hid (And.intro ho3 hn3); clear ho3 hn3) | fail)
  refine bodyPost_ret (results_cell_row rfl _ _ b6 27 (boxOf ⟨m.k, m.f, m.t, n, m.a, m.c, m.al, m.d0, m.d1, m.d2, m.d3⟩) (0, 0) _ rfl HE.out.2 Tryz.underlying27 rfl (by rw [msgSize]; rfl)) rfl ?_
  exact ⟨_, rfl, by rw [← HBA.out]; exact HS2.out.b.trans ((HE.out.1.below (B := b6) (Nat.le_refl _)).mono (by have := HN2.out.1; rw [HBA.out]; omega))⟩
set_option maxHeartbeats 4000000 in
set_option maxRecDepth 100000 in
theorem bend_4 (m : Mg) (n : UInt8) (w : World) (hG : GlobM w) : Calls Tryz.prog 5 #[.agg (boxOf m), .int .i64 4, .int .u8 n.toNat] w fun e w' => ∃ m' : Mg, e = .returned (.agg (boxOf m')) ∧ Below w.heap.size w w' := by
  have HN1 : Hid (w.heap.size ≤ w.heap.size ∧ 5 ≤ w.heap.size ∧ ∀ x ∈ [(w.heap.size + 1, boxOf zeroM, 27)], x.1 ≠ w.heap.size) := Lib.hid ⟨Nat.le_refl _, hG.g.size, fun x hx => by rw [List.mem_singleton] at hx; subst hx; show w.heap.size + 1 ≠ _; omega⟩
  have HN2 : Hid (w.heap.size ≤ w.heap.size + 1 ∧ 5 ≤ w.heap.size + 1 ∧ ∀ x ∈ ([] : List (Nat × Array Value × TypeId)), x.1 ≠ w.heap.size + 1) := Lib.hid ⟨by omega, by have := hG.g.size; omega, fun x hx => by cases hx⟩
  have HS0 := Lib.hid (two_st m w hG)
  obtain ⟨b6, hb6⟩ : ∃ b, w.heap.size + 1 = b := ⟨_, rfl⟩
  have HZ : Hid ((w.alloc (.cells (boxOf m) 27)).heap.size = b6) := Lib.hid (by rw [← hb6]; simp)
  rw [hb6] at HN1 HN2 HS0
  obtain ⟨bA, hbA⟩ : ∃ b, w.heap.size = b := ⟨_, rfl⟩
  have HBA := Lib.hid hbA
  rw [hbA] at HS0
  simp only [hbA] at HN1 HN2 ⊢
  clear hb6 hG
  go_enter Tryz.func5, Tryz.ntmps5
  go_upto_region 1 with (first | (refine wpl_box rfl 27 (.tmp 0) rfl (boxOf m) rfl ?_; rw [hbA]; intro w0 hw0) | fail)
  obtain ⟨W, hW⟩ : ∃ W, w0.alloc (.cells (boxOf zeroM) 27) = W := ⟨_, rfl⟩
  rw [show w0.heap.size = b6 from by rw [hw0.out]; exact HZ.out]
  change Code.wp _ _ _ _ (w0.alloc (.cells (boxOf zeroM) 27))
  rw [hW]
  have HS : Hid (St [(bA, boxOf m, 27), (b6, boxOf zeroM, 27)] w W) := by rw [← hW, hw0.out]; exact HS0
  have c0 : W.cell? ⟨bA, 4, none⟩ = some (.int .u8 m.a.toNat) := cell_of_heap (HS.out.h (bA, boxOf m, 27) (by simp))
  have f0 := free_of_heap (i := 4) (HS.out.h (bA, boxOf m, 27) (by simp))
  clear hW hw0 HS0 HZ hbA
  go_upto_region 17 with fail
  have HS2 : Hid (St [(bA, boxOf ⟨m.k, m.f, m.t, m.l, n, m.c, m.al, m.d0, m.d1, m.d2, m.d3⟩, 27), (b6, boxOf zeroM, 27)] w (W.setCell ⟨bA, 4, none⟩ (.int .u8 n.toNat))) := St.put (o := 4) (vs := [(.int .u8 n.toNat)]) HS (by rw [show Hid _ = Hid _ from rfl]; exact (show Hid (w.heap.size ≤ bA ∧ 5 ≤ bA ∧ ∀ x ∈ [(b6, boxOf zeroM, 27)], x.1 ≠ bA) from by rw [HBA.out]; exact HN1)) (heap_set (i := 4) (HS.out.h (bA, boxOf m, 27) (by simp)) _)
  generalize W.setCell ⟨bA, 4, none⟩ (.int .u8 n.toNat) = W2 at HS2 ⊢
  clear c0 f0 HS
  go_wp2_with (first | (refine wpl_val rfl (run_ld (T := 27) (x := .tmp 3) rfl rfl (ld25 (HS2.out.h (bA, boxOf ⟨m.k, m.f, m.t, m.l, n, m.c, m.al, m.d0, m.d1, m.d2, m.d3⟩, 27) (by simp)))) ?_) | (refine wpl_store rfl 27 (.tmp 6) (.tmp 44) rfl b6 _ (boxOf ⟨m.k, m.f, m.t, m.l, n, m.c, m.al, m.d0, m.d1, m.d2, m.d3⟩) rfl rfl (HS2.out.h (b6, boxOf zeroM, 27) (by simp)) rfl msgSize (box_one _) ?_; intro W3 ho3 hn3; have HE := Lib.hid (And.intro ho3 hn3); clear ho3 hn3) | fail)
  refine bodyPost_ret (results_cell_row rfl _ _ b6 27 (boxOf ⟨m.k, m.f, m.t, m.l, n, m.c, m.al, m.d0, m.d1, m.d2, m.d3⟩) (0, 0) _ rfl HE.out.2 Tryz.underlying27 rfl (by rw [msgSize]; rfl)) rfl ?_
  exact ⟨_, rfl, by rw [← HBA.out]; exact HS2.out.b.trans ((HE.out.1.below (B := b6) (Nat.le_refl _)).mono (by have := HN2.out.1; rw [HBA.out]; omega))⟩
set_option maxHeartbeats 4000000 in
set_option maxRecDepth 100000 in
theorem bend_5 (m : Mg) (n : UInt8) (w : World) (hG : GlobM w) : Calls Tryz.prog 5 #[.agg (boxOf m), .int .i64 5, .int .u8 n.toNat] w fun e w' => ∃ m' : Mg, e = .returned (.agg (boxOf m')) ∧ Below w.heap.size w w' := by
  have HN1 : Hid (w.heap.size ≤ w.heap.size ∧ 5 ≤ w.heap.size ∧ ∀ x ∈ [(w.heap.size + 1, boxOf zeroM, 27)], x.1 ≠ w.heap.size) := Lib.hid ⟨Nat.le_refl _, hG.g.size, fun x hx => by rw [List.mem_singleton] at hx; subst hx; show w.heap.size + 1 ≠ _; omega⟩
  have HN2 : Hid (w.heap.size ≤ w.heap.size + 1 ∧ 5 ≤ w.heap.size + 1 ∧ ∀ x ∈ ([] : List (Nat × Array Value × TypeId)), x.1 ≠ w.heap.size + 1) := Lib.hid ⟨by omega, by have := hG.g.size; omega, fun x hx => by cases hx⟩
  have HS0 := Lib.hid (two_st m w hG)
  obtain ⟨b6, hb6⟩ : ∃ b, w.heap.size + 1 = b := ⟨_, rfl⟩
  have HZ : Hid ((w.alloc (.cells (boxOf m) 27)).heap.size = b6) := Lib.hid (by rw [← hb6]; simp)
  rw [hb6] at HN1 HN2 HS0
  obtain ⟨bA, hbA⟩ : ∃ b, w.heap.size = b := ⟨_, rfl⟩
  have HBA := Lib.hid hbA
  rw [hbA] at HS0
  simp only [hbA] at HN1 HN2 ⊢
  clear hb6 hG
  go_enter Tryz.func5, Tryz.ntmps5
  go_upto_region 1 with (first | (refine wpl_box rfl 27 (.tmp 0) rfl (boxOf m) rfl ?_; rw [hbA]; intro w0 hw0) | fail)
  obtain ⟨W, hW⟩ : ∃ W, w0.alloc (.cells (boxOf zeroM) 27) = W := ⟨_, rfl⟩
  rw [show w0.heap.size = b6 from by rw [hw0.out]; exact HZ.out]
  change Code.wp _ _ _ _ (w0.alloc (.cells (boxOf zeroM) 27))
  rw [hW]
  have HS : Hid (St [(bA, boxOf m, 27), (b6, boxOf zeroM, 27)] w W) := by rw [← hW, hw0.out]; exact HS0
  have c0 : W.cell? ⟨bA, 5, none⟩ = some (.int .u8 m.c.toNat) := cell_of_heap (HS.out.h (bA, boxOf m, 27) (by simp))
  have f0 := free_of_heap (i := 5) (HS.out.h (bA, boxOf m, 27) (by simp))
  clear hW hw0 HS0 HZ hbA
  go_upto_region 17 with fail
  have HS2 : Hid (St [(bA, boxOf ⟨m.k, m.f, m.t, m.l, m.a, n, m.al, m.d0, m.d1, m.d2, m.d3⟩, 27), (b6, boxOf zeroM, 27)] w (W.setCell ⟨bA, 5, none⟩ (.int .u8 n.toNat))) := St.put (o := 5) (vs := [(.int .u8 n.toNat)]) HS (by rw [show Hid _ = Hid _ from rfl]; exact (show Hid (w.heap.size ≤ bA ∧ 5 ≤ bA ∧ ∀ x ∈ [(b6, boxOf zeroM, 27)], x.1 ≠ bA) from by rw [HBA.out]; exact HN1)) (heap_set (i := 5) (HS.out.h (bA, boxOf m, 27) (by simp)) _)
  generalize W.setCell ⟨bA, 5, none⟩ (.int .u8 n.toNat) = W2 at HS2 ⊢
  clear c0 f0 HS
  go_wp2_with (first | (refine wpl_val rfl (run_ld (T := 27) (x := .tmp 3) rfl rfl (ld25 (HS2.out.h (bA, boxOf ⟨m.k, m.f, m.t, m.l, m.a, n, m.al, m.d0, m.d1, m.d2, m.d3⟩, 27) (by simp)))) ?_) | (refine wpl_store rfl 27 (.tmp 6) (.tmp 44) rfl b6 _ (boxOf ⟨m.k, m.f, m.t, m.l, m.a, n, m.al, m.d0, m.d1, m.d2, m.d3⟩) rfl rfl (HS2.out.h (b6, boxOf zeroM, 27) (by simp)) rfl msgSize (box_one _) ?_; intro W3 ho3 hn3; have HE := Lib.hid (And.intro ho3 hn3); clear ho3 hn3) | fail)
  refine bodyPost_ret (results_cell_row rfl _ _ b6 27 (boxOf ⟨m.k, m.f, m.t, m.l, m.a, n, m.al, m.d0, m.d1, m.d2, m.d3⟩) (0, 0) _ rfl HE.out.2 Tryz.underlying27 rfl (by rw [msgSize]; rfl)) rfl ?_
  exact ⟨_, rfl, by rw [← HBA.out]; exact HS2.out.b.trans ((HE.out.1.below (B := b6) (Nat.le_refl _)).mono (by have := HN2.out.1; rw [HBA.out]; omega))⟩
set_option maxHeartbeats 4000000 in
set_option maxRecDepth 100000 in
theorem bend_6 (m : Mg) (n : UInt8) (w : World) (hG : GlobM w) : Calls Tryz.prog 5 #[.agg (boxOf m), .int .i64 6, .int .u8 n.toNat] w fun e w' => ∃ m' : Mg, e = .returned (.agg (boxOf m')) ∧ Below w.heap.size w w' := by
  have HN1 : Hid (w.heap.size ≤ w.heap.size ∧ 5 ≤ w.heap.size ∧ ∀ x ∈ [(w.heap.size + 1, boxOf zeroM, 27)], x.1 ≠ w.heap.size) := Lib.hid ⟨Nat.le_refl _, hG.g.size, fun x hx => by rw [List.mem_singleton] at hx; subst hx; show w.heap.size + 1 ≠ _; omega⟩
  have HN2 : Hid (w.heap.size ≤ w.heap.size + 1 ∧ 5 ≤ w.heap.size + 1 ∧ ∀ x ∈ ([] : List (Nat × Array Value × TypeId)), x.1 ≠ w.heap.size + 1) := Lib.hid ⟨by omega, by have := hG.g.size; omega, fun x hx => by cases hx⟩
  have HS0 := Lib.hid (two_st m w hG)
  obtain ⟨b6, hb6⟩ : ∃ b, w.heap.size + 1 = b := ⟨_, rfl⟩
  have HZ : Hid ((w.alloc (.cells (boxOf m) 27)).heap.size = b6) := Lib.hid (by rw [← hb6]; simp)
  rw [hb6] at HN1 HN2 HS0
  obtain ⟨bA, hbA⟩ : ∃ b, w.heap.size = b := ⟨_, rfl⟩
  have HBA := Lib.hid hbA
  rw [hbA] at HS0
  simp only [hbA] at HN1 HN2 ⊢
  clear hb6 hG
  go_enter Tryz.func5, Tryz.ntmps5
  go_upto_region 1 with (first | (refine wpl_box rfl 27 (.tmp 0) rfl (boxOf m) rfl ?_; rw [hbA]; intro w0 hw0) | fail)
  obtain ⟨W, hW⟩ : ∃ W, w0.alloc (.cells (boxOf zeroM) 27) = W := ⟨_, rfl⟩
  rw [show w0.heap.size = b6 from by rw [hw0.out]; exact HZ.out]
  change Code.wp _ _ _ _ (w0.alloc (.cells (boxOf zeroM) 27))
  rw [hW]
  have HS : Hid (St [(bA, boxOf m, 27), (b6, boxOf zeroM, 27)] w W) := by rw [← hW, hw0.out]; exact HS0
  have c0 : W.cell? ⟨bA, 6, none⟩ = some (.bool m.al) := cell_of_heap (HS.out.h (bA, boxOf m, 27) (by simp))
  have f0 := free_of_heap (i := 6) (HS.out.h (bA, boxOf m, 27) (by simp))
  clear hW hw0 HS0 HZ hbA
  go_upto_region 17 with fail
  have HS2 : Hid (St [(bA, boxOf ⟨m.k, m.f, m.t, m.l, m.a, m.c, ((n.toNat : Int) % 2 == 1), m.d0, m.d1, m.d2, m.d3⟩, 27), (b6, boxOf zeroM, 27)] w (W.setCell ⟨bA, 6, none⟩ (.bool ((n.toNat : Int) % 2 == 1)))) := St.put (o := 6) (vs := [(.bool ((n.toNat : Int) % 2 == 1))]) HS (by rw [show Hid _ = Hid _ from rfl]; exact (show Hid (w.heap.size ≤ bA ∧ 5 ≤ bA ∧ ∀ x ∈ [(b6, boxOf zeroM, 27)], x.1 ≠ bA) from by rw [HBA.out]; exact HN1)) (heap_set (i := 6) (HS.out.h (bA, boxOf m, 27) (by simp)) _)
  generalize W.setCell ⟨bA, 6, none⟩ (.bool ((n.toNat : Int) % 2 == 1)) = W2 at HS2 ⊢
  clear c0 f0 HS
  go_wp2_with (first | (refine wpl_val rfl (run_ld (T := 27) (x := .tmp 3) rfl rfl (ld25 (HS2.out.h (bA, boxOf ⟨m.k, m.f, m.t, m.l, m.a, m.c, ((n.toNat : Int) % 2 == 1), m.d0, m.d1, m.d2, m.d3⟩, 27) (by simp)))) ?_) | (refine wpl_store rfl 27 (.tmp 6) (.tmp 44) rfl b6 _ (boxOf ⟨m.k, m.f, m.t, m.l, m.a, m.c, ((n.toNat : Int) % 2 == 1), m.d0, m.d1, m.d2, m.d3⟩) rfl rfl (HS2.out.h (b6, boxOf zeroM, 27) (by simp)) rfl msgSize (box_one _) ?_; intro W3 ho3 hn3; have HE := Lib.hid (And.intro ho3 hn3); clear ho3 hn3) | fail)
  refine bodyPost_ret (results_cell_row rfl _ _ b6 27 (boxOf ⟨m.k, m.f, m.t, m.l, m.a, m.c, ((n.toNat : Int) % 2 == 1), m.d0, m.d1, m.d2, m.d3⟩) (0, 0) _ rfl HE.out.2 Tryz.underlying27 rfl (by rw [msgSize]; rfl)) rfl ?_
  exact ⟨_, rfl, by rw [← HBA.out]; exact HS2.out.b.trans ((HE.out.1.below (B := b6) (Nat.le_refl _)).mono (by have := HN2.out.1; rw [HBA.out]; omega))⟩
set_option maxHeartbeats 4000000 in
set_option maxRecDepth 100000 in
theorem bend_7 (m : Mg) (n : UInt8) (w : World) (hG : GlobM w) : Calls Tryz.prog 5 #[.agg (boxOf m), .int .i64 7, .int .u8 n.toNat] w fun e w' => ∃ m' : Mg, e = .returned (.agg (boxOf m')) ∧ Below w.heap.size w w' := by
  have HN1 : Hid (w.heap.size ≤ w.heap.size ∧ 5 ≤ w.heap.size ∧ ∀ x ∈ [(w.heap.size + 1, boxOf zeroM, 27)], x.1 ≠ w.heap.size) := Lib.hid ⟨Nat.le_refl _, hG.g.size, fun x hx => by rw [List.mem_singleton] at hx; subst hx; show w.heap.size + 1 ≠ _; omega⟩
  have HN2 : Hid (w.heap.size ≤ w.heap.size + 1 ∧ 5 ≤ w.heap.size + 1 ∧ ∀ x ∈ ([] : List (Nat × Array Value × TypeId)), x.1 ≠ w.heap.size + 1) := Lib.hid ⟨by omega, by have := hG.g.size; omega, fun x hx => by cases hx⟩
  have HS0 := Lib.hid (two_st m w hG)
  obtain ⟨b6, hb6⟩ : ∃ b, w.heap.size + 1 = b := ⟨_, rfl⟩
  have HZ : Hid ((w.alloc (.cells (boxOf m) 27)).heap.size = b6) := Lib.hid (by rw [← hb6]; simp)
  rw [hb6] at HN1 HN2 HS0
  obtain ⟨bA, hbA⟩ : ∃ b, w.heap.size = b := ⟨_, rfl⟩
  have HBA := Lib.hid hbA
  rw [hbA] at HS0
  simp only [hbA] at HN1 HN2 ⊢
  clear hb6 hG
  go_enter Tryz.func5, Tryz.ntmps5
  go_upto_region 1 with (first | (refine wpl_box rfl 27 (.tmp 0) rfl (boxOf m) rfl ?_; rw [hbA]; intro w0 hw0) | fail)
  obtain ⟨W, hW⟩ : ∃ W, w0.alloc (.cells (boxOf zeroM) 27) = W := ⟨_, rfl⟩
  rw [show w0.heap.size = b6 from by rw [hw0.out]; exact HZ.out]
  change Code.wp _ _ _ _ (w0.alloc (.cells (boxOf zeroM) 27))
  rw [hW]
  have HS : Hid (St [(bA, boxOf m, 27), (b6, boxOf zeroM, 27)] w W) := by rw [← hW, hw0.out]; exact HS0
  have c0 : W.cell? ⟨bA, 7, none⟩ = some (.int .u8 m.d0.toNat) := cell_of_heap (HS.out.h (bA, boxOf m, 27) (by simp))
  have f0 := free_of_heap (i := 7) (HS.out.h (bA, boxOf m, 27) (by simp))
  clear hW hw0 HS0 HZ hbA
  go_upto_region 17 with fail
  have HS2 : Hid (St [(bA, boxOf ⟨m.k, m.f, m.t, m.l, m.a, m.c, m.al, n, m.d1, m.d2, m.d3⟩, 27), (b6, boxOf zeroM, 27)] w (W.setCell ⟨bA, 7, none⟩ (.int .u8 n.toNat))) := St.put (o := 7) (vs := [(.int .u8 n.toNat)]) HS (by rw [show Hid _ = Hid _ from rfl]; exact (show Hid (w.heap.size ≤ bA ∧ 5 ≤ bA ∧ ∀ x ∈ [(b6, boxOf zeroM, 27)], x.1 ≠ bA) from by rw [HBA.out]; exact HN1)) (heap_set (i := 7) (HS.out.h (bA, boxOf m, 27) (by simp)) _)
  generalize W.setCell ⟨bA, 7, none⟩ (.int .u8 n.toNat) = W2 at HS2 ⊢
  clear c0 f0 HS
  go_wp2_with (first | (refine wpl_val rfl (run_ld (T := 27) (x := .tmp 3) rfl rfl (ld25 (HS2.out.h (bA, boxOf ⟨m.k, m.f, m.t, m.l, m.a, m.c, m.al, n, m.d1, m.d2, m.d3⟩, 27) (by simp)))) ?_) | (refine wpl_store rfl 27 (.tmp 6) (.tmp 44) rfl b6 _ (boxOf ⟨m.k, m.f, m.t, m.l, m.a, m.c, m.al, n, m.d1, m.d2, m.d3⟩) rfl rfl (HS2.out.h (b6, boxOf zeroM, 27) (by simp)) rfl msgSize (box_one _) ?_; intro W3 ho3 hn3; have HE := Lib.hid (And.intro ho3 hn3); clear ho3 hn3) | fail)
  refine bodyPost_ret (results_cell_row rfl _ _ b6 27 (boxOf ⟨m.k, m.f, m.t, m.l, m.a, m.c, m.al, n, m.d1, m.d2, m.d3⟩) (0, 0) _ rfl HE.out.2 Tryz.underlying27 rfl (by rw [msgSize]; rfl)) rfl ?_
  exact ⟨_, rfl, by rw [← HBA.out]; exact HS2.out.b.trans ((HE.out.1.below (B := b6) (Nat.le_refl _)).mono (by have := HN2.out.1; rw [HBA.out]; omega))⟩
set_option maxHeartbeats 4000000 in
set_option maxRecDepth 100000 in
theorem bend_8 (m : Mg) (n : UInt8) (w : World) (hG : GlobM w) : Calls Tryz.prog 5 #[.agg (boxOf m), .int .i64 8, .int .u8 n.toNat] w fun e w' => ∃ m' : Mg, e = .returned (.agg (boxOf m')) ∧ Below w.heap.size w w' := by
  have HN1 : Hid (w.heap.size ≤ w.heap.size ∧ 5 ≤ w.heap.size ∧ ∀ x ∈ [(w.heap.size + 1, boxOf zeroM, 27)], x.1 ≠ w.heap.size) := Lib.hid ⟨Nat.le_refl _, hG.g.size, fun x hx => by rw [List.mem_singleton] at hx; subst hx; show w.heap.size + 1 ≠ _; omega⟩
  have HN2 : Hid (w.heap.size ≤ w.heap.size + 1 ∧ 5 ≤ w.heap.size + 1 ∧ ∀ x ∈ ([] : List (Nat × Array Value × TypeId)), x.1 ≠ w.heap.size + 1) := Lib.hid ⟨by omega, by have := hG.g.size; omega, fun x hx => by cases hx⟩
  have HS0 := Lib.hid (two_st m w hG)
  obtain ⟨b6, hb6⟩ : ∃ b, w.heap.size + 1 = b := ⟨_, rfl⟩
  have HZ : Hid ((w.alloc (.cells (boxOf m) 27)).heap.size = b6) := Lib.hid (by rw [← hb6]; simp)
  rw [hb6] at HN1 HN2 HS0
  obtain ⟨bA, hbA⟩ : ∃ b, w.heap.size = b := ⟨_, rfl⟩
  have HBA := Lib.hid hbA
  rw [hbA] at HS0
  simp only [hbA] at HN1 HN2 ⊢
  clear hb6 hG
  go_enter Tryz.func5, Tryz.ntmps5
  go_upto_region 1 with (first | (refine wpl_box rfl 27 (.tmp 0) rfl (boxOf m) rfl ?_; rw [hbA]; intro w0 hw0) | fail)
  obtain ⟨W, hW⟩ : ∃ W, w0.alloc (.cells (boxOf zeroM) 27) = W := ⟨_, rfl⟩
  rw [show w0.heap.size = b6 from by rw [hw0.out]; exact HZ.out]
  change Code.wp _ _ _ _ (w0.alloc (.cells (boxOf zeroM) 27))
  rw [hW]
  have HS : Hid (St [(bA, boxOf m, 27), (b6, boxOf zeroM, 27)] w W) := by rw [← hW, hw0.out]; exact HS0
  have c0 : W.cell? ⟨bA, 8, none⟩ = some (.int .u8 m.d1.toNat) := cell_of_heap (HS.out.h (bA, boxOf m, 27) (by simp))
  have f0 := free_of_heap (i := 8) (HS.out.h (bA, boxOf m, 27) (by simp))
  clear hW hw0 HS0 HZ hbA
  go_upto_region 17 with fail
  have HS2 : Hid (St [(bA, boxOf ⟨m.k, m.f, m.t, m.l, m.a, m.c, m.al, m.d0, n, m.d2, m.d3⟩, 27), (b6, boxOf zeroM, 27)] w (W.setCell ⟨bA, 8, none⟩ (.int .u8 n.toNat))) := St.put (o := 8) (vs := [(.int .u8 n.toNat)]) HS (by rw [show Hid _ = Hid _ from rfl]; exact (show Hid (w.heap.size ≤ bA ∧ 5 ≤ bA ∧ ∀ x ∈ [(b6, boxOf zeroM, 27)], x.1 ≠ bA) from by rw [HBA.out]; exact HN1)) (heap_set (i := 8) (HS.out.h (bA, boxOf m, 27) (by simp)) _)
  generalize W.setCell ⟨bA, 8, none⟩ (.int .u8 n.toNat) = W2 at HS2 ⊢
  clear c0 f0 HS
  go_wp2_with (first | (refine wpl_val rfl (run_ld (T := 27) (x := .tmp 3) rfl rfl (ld25 (HS2.out.h (bA, boxOf ⟨m.k, m.f, m.t, m.l, m.a, m.c, m.al, m.d0, n, m.d2, m.d3⟩, 27) (by simp)))) ?_) | (refine wpl_store rfl 27 (.tmp 6) (.tmp 44) rfl b6 _ (boxOf ⟨m.k, m.f, m.t, m.l, m.a, m.c, m.al, m.d0, n, m.d2, m.d3⟩) rfl rfl (HS2.out.h (b6, boxOf zeroM, 27) (by simp)) rfl msgSize (box_one _) ?_; intro W3 ho3 hn3; have HE := Lib.hid (And.intro ho3 hn3); clear ho3 hn3) | fail)
  refine bodyPost_ret (results_cell_row rfl _ _ b6 27 (boxOf ⟨m.k, m.f, m.t, m.l, m.a, m.c, m.al, m.d0, n, m.d2, m.d3⟩) (0, 0) _ rfl HE.out.2 Tryz.underlying27 rfl (by rw [msgSize]; rfl)) rfl ?_
  exact ⟨_, rfl, by rw [← HBA.out]; exact HS2.out.b.trans ((HE.out.1.below (B := b6) (Nat.le_refl _)).mono (by have := HN2.out.1; rw [HBA.out]; omega))⟩
set_option maxHeartbeats 4000000 in
set_option maxRecDepth 100000 in
theorem bend_9 (m : Mg) (n : UInt8) (w : World) (hG : GlobM w) : Calls Tryz.prog 5 #[.agg (boxOf m), .int .i64 9, .int .u8 n.toNat] w fun e w' => ∃ m' : Mg, e = .returned (.agg (boxOf m')) ∧ Below w.heap.size w w' := by
  have HN1 : Hid (w.heap.size ≤ w.heap.size ∧ 5 ≤ w.heap.size ∧ ∀ x ∈ [(w.heap.size + 1, boxOf zeroM, 27)], x.1 ≠ w.heap.size) := Lib.hid ⟨Nat.le_refl _, hG.g.size, fun x hx => by rw [List.mem_singleton] at hx; subst hx; show w.heap.size + 1 ≠ _; omega⟩
  have HN2 : Hid (w.heap.size ≤ w.heap.size + 1 ∧ 5 ≤ w.heap.size + 1 ∧ ∀ x ∈ ([] : List (Nat × Array Value × TypeId)), x.1 ≠ w.heap.size + 1) := Lib.hid ⟨by omega, by have := hG.g.size; omega, fun x hx => by cases hx⟩
  have HS0 := Lib.hid (two_st m w hG)
  obtain ⟨b6, hb6⟩ : ∃ b, w.heap.size + 1 = b := ⟨_, rfl⟩
  have HZ : Hid ((w.alloc (.cells (boxOf m) 27)).heap.size = b6) := Lib.hid (by rw [← hb6]; simp)
  rw [hb6] at HN1 HN2 HS0
  obtain ⟨bA, hbA⟩ : ∃ b, w.heap.size = b := ⟨_, rfl⟩
  have HBA := Lib.hid hbA
  rw [hbA] at HS0
  simp only [hbA] at HN1 HN2 ⊢
  clear hb6 hG
  go_enter Tryz.func5, Tryz.ntmps5
  go_upto_region 1 with (first | (refine wpl_box rfl 27 (.tmp 0) rfl (boxOf m) rfl ?_; rw [hbA]; intro w0 hw0) | fail)
  obtain ⟨W, hW⟩ : ∃ W, w0.alloc (.cells (boxOf zeroM) 27) = W := ⟨_, rfl⟩
  rw [show w0.heap.size = b6 from by rw [hw0.out]; exact HZ.out]
  change Code.wp _ _ _ _ (w0.alloc (.cells (boxOf zeroM) 27))
  rw [hW]
  have HS : Hid (St [(bA, boxOf m, 27), (b6, boxOf zeroM, 27)] w W) := by rw [← hW, hw0.out]; exact HS0
  have c0 : W.cell? ⟨bA, 9, none⟩ = some (.int .u8 m.d2.toNat) := cell_of_heap (HS.out.h (bA, boxOf m, 27) (by simp))
  have f0 := free_of_heap (i := 9) (HS.out.h (bA, boxOf m, 27) (by simp))
  clear hW hw0 HS0 HZ hbA
  go_upto_region 17 with fail
  have HS2 : Hid (St [(bA, boxOf ⟨m.k, m.f, m.t, m.l, m.a, m.c, m.al, m.d0, m.d1, n, m.d3⟩, 27), (b6, boxOf zeroM, 27)] w (W.setCell ⟨bA, 9, none⟩ (.int .u8 n.toNat))) := St.put (o := 9) (vs := [(.int .u8 n.toNat)]) HS (by rw [show Hid _ = Hid _ from rfl]; exact (show Hid (w.heap.size ≤ bA ∧ 5 ≤ bA ∧ ∀ x ∈ [(b6, boxOf zeroM, 27)], x.1 ≠ bA) from by rw [HBA.out]; exact HN1)) (heap_set (i := 9) (HS.out.h (bA, boxOf m, 27) (by simp)) _)
  generalize W.setCell ⟨bA, 9, none⟩ (.int .u8 n.toNat) = W2 at HS2 ⊢
  clear c0 f0 HS
  go_wp2_with (first | (refine wpl_val rfl (run_ld (T := 27) (x := .tmp 3) rfl rfl (ld25 (HS2.out.h (bA, boxOf ⟨m.k, m.f, m.t, m.l, m.a, m.c, m.al, m.d0, m.d1, n, m.d3⟩, 27) (by simp)))) ?_) | (refine wpl_store rfl 27 (.tmp 6) (.tmp 44) rfl b6 _ (boxOf ⟨m.k, m.f, m.t, m.l, m.a, m.c, m.al, m.d0, m.d1, n, m.d3⟩) rfl rfl (HS2.out.h (b6, boxOf zeroM, 27) (by simp)) rfl msgSize (box_one _) ?_; intro W3 ho3 hn3; have HE := Lib.hid (And.intro ho3 hn3); clear ho3 hn3) | fail)
  refine bodyPost_ret (results_cell_row rfl _ _ b6 27 (boxOf ⟨m.k, m.f, m.t, m.l, m.a, m.c, m.al, m.d0, m.d1, n, m.d3⟩) (0, 0) _ rfl HE.out.2 Tryz.underlying27 rfl (by rw [msgSize]; rfl)) rfl ?_
  exact ⟨_, rfl, by rw [← HBA.out]; exact HS2.out.b.trans ((HE.out.1.below (B := b6) (Nat.le_refl _)).mono (by have := HN2.out.1; rw [HBA.out]; omega))⟩
set_option maxHeartbeats 4000000 in
set_option maxRecDepth 100000 in
theorem bend_10 (m : Mg) (n : UInt8) (w : World) (hG : GlobM w) : Calls Tryz.prog 5 #[.agg (boxOf m), .int .i64 10, .int .u8 n.toNat] w fun e w' => ∃ m' : Mg, e = .returned (.agg (boxOf m')) ∧ Below w.heap.size w w' := by
  have HN1 : Hid (w.heap.size ≤ w.heap.size ∧ 5 ≤ w.heap.size ∧ ∀ x ∈ [(w.heap.size + 1, boxOf zeroM, 27)], x.1 ≠ w.heap.size) := Lib.hid ⟨Nat.le_refl _, hG.g.size, fun x hx => by rw [List.mem_singleton] at hx; subst hx; show w.heap.size + 1 ≠ _; omega⟩
  have HN2 : Hid (w.heap.size ≤ w.heap.size + 1 ∧ 5 ≤ w.heap.size + 1 ∧ ∀ x ∈ ([] : List (Nat × Array Value × TypeId)), x.1 ≠ w.heap.size + 1) := Lib.hid ⟨by omega, by have := hG.g.size; omega, fun x hx => by cases hx⟩
  have HS0 := Lib.hid (two_st m w hG)
  obtain ⟨b6, hb6⟩ : ∃ b, w.heap.size + 1 = b := ⟨_, rfl⟩
  have HZ : Hid ((w.alloc (.cells (boxOf m) 27)).heap.size = b6) := Lib.hid (by rw [← hb6]; simp)
  rw [hb6] at HN1 HN2 HS0
  obtain ⟨bA, hbA⟩ : ∃ b, w.heap.size = b := ⟨_, rfl⟩
  have HBA := Lib.hid hbA
  rw [hbA] at HS0
  simp only [hbA] at HN1 HN2 ⊢
  clear hb6 hG
  go_enter Tryz.func5, Tryz.ntmps5
  go_upto_region 1 with (first | (refine wpl_box rfl 27 (.tmp 0) rfl (boxOf m) rfl ?_; rw [hbA]; intro w0 hw0) | fail)
  obtain ⟨W, hW⟩ : ∃ W, w0.alloc (.cells (boxOf zeroM) 27) = W := ⟨_, rfl⟩
  rw [show w0.heap.size = b6 from by rw [hw0.out]; exact HZ.out]
  change Code.wp _ _ _ _ (w0.alloc (.cells (boxOf zeroM) 27))
  rw [hW]
  have HS : Hid (St [(bA, boxOf m, 27), (b6, boxOf zeroM, 27)] w W) := by rw [← hW, hw0.out]; exact HS0
  have c0 : W.cell? ⟨bA, 10, none⟩ = some (.int .u8 m.d3.toNat) := cell_of_heap (HS.out.h (bA, boxOf m, 27) (by simp))
  have f0 := free_of_heap (i := 10) (HS.out.h (bA, boxOf m, 27) (by simp))
  clear hW hw0 HS0 HZ hbA
  go_upto_region 17 with fail
  have HS2 : Hid (St [(bA, boxOf ⟨m.k, m.f, m.t, m.l, m.a, m.c, m.al, m.d0, m.d1, m.d2, n⟩, 27), (b6, boxOf zeroM, 27)] w (W.setCell ⟨bA, 10, none⟩ (.int .u8 n.toNat))) := St.put (o := 10) (vs := [(.int .u8 n.toNat)]) HS (by rw [show Hid _ = Hid _ from rfl]; exact (show Hid (w.heap.size ≤ bA ∧ 5 ≤ bA ∧ ∀ x ∈ [(b6, boxOf zeroM, 27)], x.1 ≠ bA) from by rw [HBA.out]; exact HN1)) (heap_set (i := 10) (HS.out.h (bA, boxOf m, 27) (by simp)) _)
  generalize W.setCell ⟨bA, 10, none⟩ (.int .u8 n.toNat) = W2 at HS2 ⊢
  clear c0 f0 HS
  go_wp2_with (first | (refine wpl_val rfl (run_ld (T := 27) (x := .tmp 3) rfl rfl (ld25 (HS2.out.h (bA, boxOf ⟨m.k, m.f, m.t, m.l, m.a, m.c, m.al, m.d0, m.d1, m.d2, n⟩, 27) (by simp)))) ?_) | (refine wpl_store rfl 27 (.tmp 6) (.tmp 44) rfl b6 _ (boxOf ⟨m.k, m.f, m.t, m.l, m.a, m.c, m.al, m.d0, m.d1, m.d2, n⟩) rfl rfl (HS2.out.h (b6, boxOf zeroM, 27) (by simp)) rfl msgSize (box_one _) ?_; intro W3 ho3 hn3; have HE := Lib.hid (And.intro ho3 hn3); clear ho3 hn3) | fail)
  refine bodyPost_ret (results_cell_row rfl _ _ b6 27 (boxOf ⟨m.k, m.f, m.t, m.l, m.a, m.c, m.al, m.d0, m.d1, m.d2, n⟩) (0, 0) _ rfl HE.out.2 Tryz.underlying27 rfl (by rw [msgSize]; rfl)) rfl ?_
  exact ⟨_, rfl, by rw [← HBA.out]; exact HS2.out.b.trans ((HE.out.1.below (B := b6) (Nat.le_refl _)).mono (by have := HN2.out.1; rw [HBA.out]; omega))⟩
theorem bend_any (m : Mg) (p : Nat) (hp : p < 11) (n : UInt8) (w : World) (hG : GlobM w) : Calls Tryz.prog 5 #[.agg (boxOf m), .int .i64 p, .int .u8 n.toNat] w fun e w' => ∃ m' : Mg, e = .returned (.agg (boxOf m')) ∧ Below w.heap.size w w' := by
  obtain rfl | rfl | rfl | rfl | rfl | rfl | rfl | rfl | rfl | rfl | rfl : p = 0 ∨ p = 1 ∨ p = 2 ∨ p = 3 ∨ p = 4 ∨ p = 5 ∨ p = 6 ∨ p = 7 ∨ p = 8 ∨ p = 9 ∨ p = 10 := by omega
  · exact bend_0 m n w hG
  · exact bend_1 m n w hG
  · exact bend_2 m n w hG
  · exact bend_3 m n w hG
  · exact bend_4 m n w hG
  · exact bend_5 m n w hG
  · exact bend_6 m n w hG
  · exact bend_7 m n w hG
  · exact bend_8 m n w hG
  · exact bend_9 m n w hG
  · exact bend_10 m n w hG
end Go.Proofs.YthllacodjeocmaaGreatDoor
