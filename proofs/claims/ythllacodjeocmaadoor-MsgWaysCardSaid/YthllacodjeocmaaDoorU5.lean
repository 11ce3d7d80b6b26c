/- The package geo, as its callers see it. -/
import Derived.Test.YthllacodjeocmaaDoorU4
namespace Go.Proofs.YthllacodjeocmaaDoor
open Go.RowKit
attribute [local go_sem] Oper.semAt_some
theorem two_boxes (w : World) (A B : Array Value) (T U : TypeId) : Below w.heap.size w ((w.alloc (.cells A T)).alloc (.cells B U)) := ((Below.refl _ w).alloc (Nat.le_refl _) _).alloc (by simp) _
theorem second_cell (w : World) (A : Array Value) (v : Value) (T U : TypeId) : ((w.alloc (.cells A T)).alloc (.cells #[v] U)).cell? ⟨w.heap.size + 1, 0, none⟩ = some v := by
  have h : (w.alloc (.cells A T)).heap.size = w.heap.size + 1 := by simp
  rw [← h, World.cell?_alloc_new]
  rfl
set_option maxHeartbeats 1000000 in
set_option maxRecDepth 100000 in
theorem home_any (g : Ge) (n : Nat)  (w : World) : Calls Tryd.prog 20 #[.agg g.arr, .int .u8 n] w fun e w' => e = .returned (.int .u8 (g.home n)) ∧ Below w.heap.size w w' := by
  have HO := Lib.hid (of_home g (w.heap.size + 1) n  ((w.alloc (.cells g.arr 39)).alloc (.cells #[.int .u8 n] 5)) (second_cell w g.arr (.int .u8 n) 39 5))
  have HB := Lib.hid (two_boxes w g.arr #[.int .u8 n] 39 5)
  obtain ⟨r, hr⟩ : ∃ r : Value, (.int .u8 (g.home n)) = r := ⟨_, rfl⟩
  rw [hr] at HO
  simp only [hr]
  clear hr
  obtain ⟨c, h, ww, s, y⟩ := g
  unfold Ge.arr at HO HB ⊢
  simp only at HO HB ⊢
  go_enter Tryd.func20, Tryd.ntmps20
  go_wp2_with fail
  go_at_call 44
  refine HO.out.mono ?_
  rintro e w1 ⟨rfl, hb⟩
  have hb2 := Lib.hid (HB.out.trans (hb.mono HB.out.size))
  clear hb HO
  go_wp2
  go_ret
  exact ⟨rfl, hb2.out⟩
set_option maxHeartbeats 1000000 in
set_option maxRecDepth 100000 in
theorem iscache_any (g : Ge) (n : Nat) (hn : n < 256) (w : World) : Calls Tryd.prog 23 #[.agg g.arr, .int .u8 n] w fun e w' => e = .returned (.bool (g.isCache n)) ∧ Below w.heap.size w w' := by
  have HO := Lib.hid (of_iscache g (w.heap.size + 1) n hn ((w.alloc (.cells g.arr 39)).alloc (.cells #[.int .u8 n] 5)) (second_cell w g.arr (.int .u8 n) 39 5))
  have HB := Lib.hid (two_boxes w g.arr #[.int .u8 n] 39 5)
  obtain ⟨r, hr⟩ : ∃ r : Value, (.bool (g.isCache n)) = r := ⟨_, rfl⟩
  rw [hr] at HO
  simp only [hr]
  clear hr
  obtain ⟨c, h, ww, s, y⟩ := g
  unfold Ge.arr at HO HB ⊢
  simp only at HO HB ⊢
  go_enter Tryd.func23, Tryd.ntmps23
  go_wp2_with fail
  go_at_call 49
  refine HO.out.mono ?_
  rintro e w1 ⟨rfl, hb⟩
  have hb2 := Lib.hid (HB.out.trans (hb.mono HB.out.size))
  clear hb HO
  go_wp2
  go_ret
  exact ⟨rfl, hb2.out⟩
set_option maxHeartbeats 1000000 in
set_option maxRecDepth 100000 in
theorem ishome_any (g : Ge) (n : Nat) (hn : n < 256) (w : World) : Calls Tryd.prog 24 #[.agg g.arr, .int .u8 n] w fun e w' => e = .returned (.bool (g.isHome n)) ∧ Below w.heap.size w w' := by
  have HO := Lib.hid (of_ishome g (w.heap.size + 1) n hn ((w.alloc (.cells g.arr 39)).alloc (.cells #[.int .u8 n] 5)) (second_cell w g.arr (.int .u8 n) 39 5))
  have HB := Lib.hid (two_boxes w g.arr #[.int .u8 n] 39 5)
  obtain ⟨r, hr⟩ : ∃ r : Value, (.bool (g.isHome n)) = r := ⟨_, rfl⟩
  rw [hr] at HO
  simp only [hr]
  clear hr
  obtain ⟨c, h, ww, s, y⟩ := g
  unfold Ge.arr at HO HB ⊢
  simp only at HO HB ⊢
  go_enter Tryd.func24, Tryd.ntmps24
  go_wp2_with fail
  go_at_call 49
  refine HO.out.mono ?_
  rintro e w1 ⟨rfl, hb⟩
  have hb2 := Lib.hid (HB.out.trans (hb.mono HB.out.size))
  clear hb HO
  go_wp2
  go_ret
  exact ⟨rfl, hb2.out⟩
set_option maxHeartbeats 1000000 in
set_option maxRecDepth 100000 in
theorem gright_any (g : Ge) (w : World) : Calls Tryd.prog 21 #[.agg g.arr] w fun e w' => e = .returned (.bool g.ok) ∧ Below w.heap.size w w' := by
  have HO := Lib.hid (geo_ok g (w.alloc (.cells g.arr 39)))
  have HB : Hid (Below w.heap.size w (w.alloc (.cells g.arr 39))) := Lib.hid ((Below.refl _ w).alloc (Nat.le_refl _) _)
  obtain ⟨r, hr⟩ : ∃ r : Value, (.bool g.ok) = r := ⟨_, rfl⟩
  rw [hr] at HO
  simp only [hr]
  clear hr
  obtain ⟨c, h, ww, s, y⟩ := g
  unfold Ge.arr at HO HB ⊢
  simp only at HO HB ⊢
  go_enter Tryd.func21, Tryd.ntmps21
  go_wp2_with fail
  go_at_call 46
  refine HO.out.mono ?_
  rintro e w1 ⟨rfl, hb⟩
  have hb2 := Lib.hid (HB.out.trans (hb.mono HB.out.size))
  clear hb HO
  go_wp2
  go_ret
  exact ⟨rfl, hb2.out⟩
set_option maxHeartbeats 1000000 in
set_option maxRecDepth 100000 in
theorem gnodes_any (g : Ge) (w : World) : Calls Tryd.prog 22 #[.agg g.arr] w fun e w' => e = .returned (.int .i64 (g.nodes : Nat)) ∧ Below w.heap.size w w' := by
  have HO := Lib.hid (of_nodes g (w.alloc (.cells g.arr 39)))
  have HB : Hid (Below w.heap.size w (w.alloc (.cells g.arr 39))) := Lib.hid ((Below.refl _ w).alloc (Nat.le_refl _) _)
  obtain ⟨r, hr⟩ : ∃ r : Value, (.int .i64 (g.nodes : Nat)) = r := ⟨_, rfl⟩
  rw [hr] at HO
  simp only [hr]
  clear hr
  obtain ⟨c, h, ww, s, y⟩ := g
  unfold Ge.arr at HO HB ⊢
  simp only at HO HB ⊢
  go_enter Tryd.func22, Tryd.ntmps22
  go_wp2_with fail
  go_at_call 47
  refine HO.out.mono ?_
  rintro e w1 ⟨rfl, hb⟩
  have hb2 := Lib.hid (HB.out.trans (hb.mono HB.out.size))
  clear hb HO
  go_wp2
  go_ret
  exact ⟨rfl, hb2.out⟩
set_option maxHeartbeats 1000000 in
set_option maxRecDepth 100000 in
theorem glines_any (g : Ge) (w : World) : Calls Tryd.prog 41 #[.agg g.arr] w fun e w' => e = .returned (.int .i64 (g.lines : Nat)) ∧ Below w.heap.size w w' := by
  have HO := Lib.hid (of_lines g (w.alloc (.cells g.arr 39)))
  have HB : Hid (Below w.heap.size w (w.alloc (.cells g.arr 39))) := Lib.hid ((Below.refl _ w).alloc (Nat.le_refl _) _)
  obtain ⟨r, hr⟩ : ∃ r : Value, (.int .i64 (g.lines : Nat)) = r := ⟨_, rfl⟩
  rw [hr] at HO
  simp only [hr]
  clear hr
  obtain ⟨c, h, ww, s, y⟩ := g
  unfold Ge.arr at HO HB ⊢
  simp only at HO HB ⊢
  go_enter Tryd.func41, Tryd.ntmps41
  go_wp2_with fail
  go_at_call 47
  refine HO.out.mono ?_
  rintro e w1 ⟨rfl, hb⟩
  have hb2 := Lib.hid (HB.out.trans (hb.mono HB.out.size))
  clear hb HO
  go_wp2
  go_ret
  exact ⟨rfl, hb2.out⟩
end Go.Proofs.YthllacodjeocmaaDoor
