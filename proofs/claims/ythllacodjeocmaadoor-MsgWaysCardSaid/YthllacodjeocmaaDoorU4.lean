/- Geometries: the rest of the questions. -/
import Derived.Test.YthllacodjeocmaaDoorU3
namespace Go.Proofs.YthllacodjeocmaaDoor
open Go.RowKit
attribute [local go_sem] Oper.semAt_some
set_option maxHeartbeats 1000000 in
set_option maxRecDepth 100000 in
theorem iscache_fn (g : Ge) (b n : Nat) (hn : n < 256) (w : World) (hc : w.cell? ⟨b, 0, none⟩ = some (.int .u8 n)) : Calls Tryd.prog 50 #[.agg g.arr, .pointer (some ⟨b, 0, none⟩)] w fun e w' => e = .returned (.bool (decide ((n : Int) < g.c))) ∧ Below w.heap.size w w' := by
  obtain ⟨c, h, ww, s, y⟩ := g
  unfold Ge.arr
  simp only
  have hlt := cell_lt hc
  simp only at hlt
  go_enter Tryd.func50, Tryd.ntmps50
  go_wp2
  go_ret
  exact ⟨rfl, (Below.refl _ w).alloc (Nat.le_refl _) _⟩
set_option maxHeartbeats 1000000 in
set_option maxRecDepth 100000 in
theorem ishome_fn (g : Ge) (b n : Nat) (hn : n < 256) (w : World) (hc : w.cell? ⟨b, 0, none⟩ = some (.int .u8 n)) (hg : g.ok = true) : Calls Tryd.prog 51 #[.agg g.arr, .pointer (some ⟨b, 0, none⟩)] w fun e w' => e = .returned (.bool (decide (g.c ≤ (n : Int)) && decide ((n : Int) < g.c + g.h))) ∧ Below w.heap.size w w' := by
  obtain ⟨⟨h1, h2⟩, ⟨h3, h4⟩, _⟩ := ok_bounds hg
  clear hg
  obtain ⟨c, h, ww, s, y⟩ := g
  simp only at h1 h2 h3 h4
  unfold Ge.arr
  simp only
  have hlt := cell_lt hc
  simp only at hlt
  by_cases q : c ≤ (n : Int)
  · have q1 : decide (c ≤ (n : Int)) = true := decide_eq_true q
    go_enter Tryd.func51, Tryd.ntmps51
    go_wp2
    go_ret
    exact ⟨rfl, (Below.refl _ w).alloc (Nat.le_refl _) _⟩
  · have q1 : decide (c ≤ (n : Int)) = false := decide_eq_false q
    go_enter Tryd.func51, Tryd.ntmps51
    go_wp2
    go_ret
    exact ⟨rfl, (Below.refl _ w).alloc (Nat.le_refl _) _⟩
set_option maxHeartbeats 1000000 in
set_option maxRecDepth 100000 in
theorem nodes_fn (g : Ge) (w : World) (hg : g.ok = true) : Calls Tryd.prog 48 #[.agg g.arr] w fun e w' => e = .returned (.int .i64 (g.nodes : Nat)) ∧ Below w.heap.size w w' := by
  have HN : Hid ((g.nodes : Int) = g.c + g.h) := by
    show _ = _
    obtain ⟨⟨h1, h2⟩, ⟨h3, h4⟩, _⟩ := ok_bounds hg
    unfold Ge.nodes; rw [if_pos hg]; omega
  obtain ⟨⟨h1, h2⟩, ⟨h3, h4⟩, _⟩ := ok_bounds hg
  clear hg
  obtain ⟨nd, hnd⟩ : ∃ nd : Int, (g.nodes : Int) = nd := ⟨_, rfl⟩
  rw [hnd] at HN ⊢
  clear hnd
  obtain ⟨c, h, ww, s, y⟩ := g
  simp only at h1 h2 h3 h4 HN
  unfold Ge.arr
  simp only
  go_enter Tryd.func48, Tryd.ntmps48
  go_wp2
  go_ret
  exact ⟨by rw [HN.out]; rfl, (Below.refl _ w).alloc (Nat.le_refl _) _⟩
set_option maxHeartbeats 1000000 in
set_option maxRecDepth 100000 in
theorem lines_fn (g : Ge) (w : World) (hg : g.ok = true) : Calls Tryd.prog 69 #[.agg g.arr] w fun e w' => e = .returned (.int .i64 (g.lines : Nat)) ∧ Below w.heap.size w w' := by
  have HN : Hid ((g.lines : Int) = (6 + g.w - 1) / g.w) := by
    show _ = _
    obtain ⟨_, _, ⟨h1, h2⟩⟩ := ok_bounds hg
    unfold Ge.lines; rw [if_pos hg]
    obtain ⟨k, hk⟩ := Int.eq_ofNat_of_zero_le (show 0 ≤ g.w by omega)
    rw [hk, Int.toNat_natCast]
    rw [show (6 + (k : Int) - 1) = ((k + 5 : Nat) : Int) by omega]
    rfl
  obtain ⟨_, _, ⟨h1, h2⟩⟩ := ok_bounds hg
  clear hg
  obtain ⟨nd, hnd⟩ : ∃ nd : Int, (g.lines : Int) = nd := ⟨_, rfl⟩
  rw [hnd] at HN ⊢
  clear hnd
  obtain ⟨c, h, ww, s, y⟩ := g
  simp only at h1 h2 HN
  unfold Ge.arr
  simp only
  go_enter Tryd.func69, Tryd.ntmps69
  go_wp2
  go_ret
  exact ⟨by rw [HN.out]; rfl, (Below.refl _ w).alloc (Nat.le_refl _) _⟩
theorem iscache_fn2 (g : Ge) (b n : Nat) (hn : n < 256) (w : World) (hc : w.cell? ⟨b, 0, none⟩ = some (.int .u8 n)) (hg : g.ok = true) : Calls Tryd.prog 50 #[.agg g.arr, .pointer (some ⟨b, 0, none⟩)] w fun e w' => e = .returned (.bool (g.isCache n)) ∧ Below w.heap.size w w' :=
  (iscache_fn g b n hn w hc).mono fun _ _ ⟨he, hb⟩ => ⟨by rw [he]; unfold Ge.isCache; rw [hg]; rfl, hb⟩
theorem ishome_fn2 (g : Ge) (b n : Nat) (hn : n < 256) (w : World) (hc : w.cell? ⟨b, 0, none⟩ = some (.int .u8 n)) (hg : g.ok = true) : Calls Tryd.prog 51 #[.agg g.arr, .pointer (some ⟨b, 0, none⟩)] w fun e w' => e = .returned (.bool (g.isHome n)) ∧ Below w.heap.size w w' :=
  (ishome_fn g b n hn w hc hg).mono fun _ _ ⟨he, hb⟩ => ⟨by rw [he]; unfold Ge.isHome; rw [hg]; rfl, hb⟩
set_option maxHeartbeats 2000000 in
set_option maxRecDepth 100000 in
theorem of_iscache (g : Ge) (b n : Nat) (hn : n < 256) (w : World) (hc : w.cell? ⟨b, 0, none⟩ = some (.int .u8 n)) : Calls Tryd.prog 49 #[.agg g.arr, .func (.func 50) #[] #[.pointer (some ⟨b, 0, none⟩)]] w fun e w' => e = .returned (.bool (g.isCache n)) ∧ Below w.heap.size w w' := by
  have HC := Lib.hid (fun (W : World) (hb : Below w.heap.size w W) (hg : g.ok = true) => iscache_fn2 g b n hn W ((World.cell?_of_block (w := w) (hb.block b (cell_lt hc))).trans hc) hg)
  obtain ⟨r, hr⟩ : ∃ r : Value, (.bool (g.isCache n)) = r := ⟨_, rfl⟩
  have HZ : Hid (g.ok = false → r = .bool false) := by
    intro h
    rw [← hr]
    unfold Ge.isCache; rw [h]; rfl
  rw [hr] at HC
  simp only [hr]
  clear hr hc
  have Hgo := Lib.hid (geo_ok g)
  obtain ⟨ok, hok⟩ : ∃ ok, g.ok = ok := ⟨_, rfl⟩
  rw [hok] at Hgo HC HZ
  clear hok
  have hB0 : Below w.heap.size w ((w.alloc (.cells g.arr 39)).alloc (.cells g.arr 68)) := ((Below.refl _ w).alloc (Nat.le_refl _) _).alloc (by simp) _
  have HB0 := Lib.hid hB0
  clear hB0
  obtain ⟨c, h, ww, s, y⟩ := g
  unfold Ge.arr at HC Hgo HB0 ⊢
  simp only at HC Hgo HB0 ⊢
  go_enter Tryd.func49, Tryd.ntmps49
  go_wp2_with fail
  go_at_call 46
  refine (Hgo.out _).mono ?_
  rintro e w2 ⟨rfl, hb2⟩
  obtain ⟨hc2, _⟩ := bcell hb2
  have hz1 : w.heap.size + 1 < w2.heap.size := by have := hb2.size; simp at this; omega
  have hz0 : w.heap.size < w2.heap.size := by omega
  have hb3 := Lib.hid (HB0.out.trans (hb2.mono HB0.out.size))
  clear hb2 Hgo
  cases ok
  · have hz := HZ.out rfl
    subst hz
    go_wp2
    go_ret
    exact ⟨rfl, hb3.out⟩
  · go_wp2_with fail
    refine (HC.out _ hb3.out (by trivial)).mono ?_
    rintro e w4 ⟨rfl, hb4⟩
    go_wp2
    go_ret
    exact ⟨rfl, hb3.out.trans (hb4.mono hb3.out.size)⟩
set_option maxHeartbeats 2000000 in
set_option maxRecDepth 100000 in
theorem of_ishome (g : Ge) (b n : Nat) (hn : n < 256) (w : World) (hc : w.cell? ⟨b, 0, none⟩ = some (.int .u8 n)) : Calls Tryd.prog 49 #[.agg g.arr, .func (.func 51) #[] #[.pointer (some ⟨b, 0, none⟩)]] w fun e w' => e = .returned (.bool (g.isHome n)) ∧ Below w.heap.size w w' := by
  have HC := Lib.hid (fun (W : World) (hb : Below w.heap.size w W) (hg : g.ok = true) => ishome_fn2 g b n hn W ((World.cell?_of_block (w := w) (hb.block b (cell_lt hc))).trans hc) hg)
  obtain ⟨r, hr⟩ : ∃ r : Value, (.bool (g.isHome n)) = r := ⟨_, rfl⟩
  have HZ : Hid (g.ok = false → r = .bool false) := by
    intro h
    rw [← hr]
    unfold Ge.isHome; rw [h]; rfl
  rw [hr] at HC
  simp only [hr]
  clear hr hc
  have Hgo := Lib.hid (geo_ok g)
  obtain ⟨ok, hok⟩ : ∃ ok, g.ok = ok := ⟨_, rfl⟩
  rw [hok] at Hgo HC HZ
  clear hok
  have hB0 : Below w.heap.size w ((w.alloc (.cells g.arr 39)).alloc (.cells g.arr 68)) := ((Below.refl _ w).alloc (Nat.le_refl _) _).alloc (by simp) _
  have HB0 := Lib.hid hB0
  clear hB0
  obtain ⟨c, h, ww, s, y⟩ := g
  unfold Ge.arr at HC Hgo HB0 ⊢
  simp only at HC Hgo HB0 ⊢
  go_enter Tryd.func49, Tryd.ntmps49
  go_wp2_with fail
  go_at_call 46
  refine (Hgo.out _).mono ?_
  rintro e w2 ⟨rfl, hb2⟩
  obtain ⟨hc2, _⟩ := bcell hb2
  have hz1 : w.heap.size + 1 < w2.heap.size := by have := hb2.size; simp at this; omega
  have hz0 : w.heap.size < w2.heap.size := by omega
  have hb3 := Lib.hid (HB0.out.trans (hb2.mono HB0.out.size))
  clear hb2 Hgo
  cases ok
  · have hz := HZ.out rfl
    subst hz
    go_wp2
    go_ret
    exact ⟨rfl, hb3.out⟩
  · go_wp2_with fail
    refine (HC.out _ hb3.out (by trivial)).mono ?_
    rintro e w4 ⟨rfl, hb4⟩
    go_wp2
    go_ret
    exact ⟨rfl, hb3.out.trans (hb4.mono hb3.out.size)⟩
set_option maxHeartbeats 2000000 in
set_option maxRecDepth 100000 in
theorem of_nodes (g : Ge)  (w : World)  : Calls Tryd.prog 47 #[.agg g.arr, .func (.func 48) #[] #[]] w fun e w' => e = .returned (.int .i64 (g.nodes : Nat)) ∧ Below w.heap.size w w' := by
  have HC := Lib.hid (fun (W : World) (hb : Below w.heap.size w W) (hg : g.ok = true) => nodes_fn g W hg)
  obtain ⟨r, hr⟩ : ∃ r : Value, (.int .i64 (g.nodes : Nat)) = r := ⟨_, rfl⟩
  have HZ : Hid (g.ok = false → r = .int .i64 0) := by
    intro h
    rw [← hr]
    unfold Ge.nodes; rw [h, if_neg (by decide)]; rfl
  rw [hr] at HC
  simp only [hr]
  clear hr
  have Hgo := Lib.hid (geo_ok g)
  obtain ⟨ok, hok⟩ : ∃ ok, g.ok = ok := ⟨_, rfl⟩
  rw [hok] at Hgo HC HZ
  clear hok
  have hB0 : Below w.heap.size w ((w.alloc (.cells g.arr 39)).alloc (.cells g.arr 68)) := ((Below.refl _ w).alloc (Nat.le_refl _) _).alloc (by simp) _
  have HB0 := Lib.hid hB0
  clear hB0
  obtain ⟨c, h, ww, s, y⟩ := g
  unfold Ge.arr at HC Hgo HB0 ⊢
  simp only at HC Hgo HB0 ⊢
  go_enter Tryd.func47, Tryd.ntmps47
  go_wp2_with fail
  go_at_call 46
  refine (Hgo.out _).mono ?_
  rintro e w2 ⟨rfl, hb2⟩
  obtain ⟨hc2, _⟩ := bcell hb2
  have hz1 : w.heap.size + 1 < w2.heap.size := by have := hb2.size; simp at this; omega
  have hz0 : w.heap.size < w2.heap.size := by omega
  have hb3 := Lib.hid (HB0.out.trans (hb2.mono HB0.out.size))
  clear hb2 Hgo
  cases ok
  · have hz := HZ.out rfl
    subst hz
    go_wp2
    go_ret
    exact ⟨rfl, hb3.out⟩
  · go_wp2_with fail
    refine (HC.out _ hb3.out (by trivial)).mono ?_
    rintro e w4 ⟨rfl, hb4⟩
    go_wp2
    go_ret
    exact ⟨rfl, hb3.out.trans (hb4.mono hb3.out.size)⟩
set_option maxHeartbeats 2000000 in
set_option maxRecDepth 100000 in
theorem of_lines (g : Ge)  (w : World)  : Calls Tryd.prog 47 #[.agg g.arr, .func (.func 69) #[] #[]] w fun e w' => e = .returned (.int .i64 (g.lines : Nat)) ∧ Below w.heap.size w w' := by
  have HC := Lib.hid (fun (W : World) (hb : Below w.heap.size w W) (hg : g.ok = true) => lines_fn g W hg)
  obtain ⟨r, hr⟩ : ∃ r : Value, (.int .i64 (g.lines : Nat)) = r := ⟨_, rfl⟩
  have HZ : Hid (g.ok = false → r = .int .i64 0) := by
    intro h
    rw [← hr]
    unfold Ge.lines; rw [h, if_neg (by decide)]; rfl
  rw [hr] at HC
  simp only [hr]
  clear hr
  have Hgo := Lib.hid (geo_ok g)
  obtain ⟨ok, hok⟩ : ∃ ok, g.ok = ok := ⟨_, rfl⟩
  rw [hok] at Hgo HC HZ
  clear hok
  have hB0 : Below w.heap.size w ((w.alloc (.cells g.arr 39)).alloc (.cells g.arr 68)) := ((Below.refl _ w).alloc (Nat.le_refl _) _).alloc (by simp) _
  have HB0 := Lib.hid hB0
  clear hB0
  obtain ⟨c, h, ww, s, y⟩ := g
  unfold Ge.arr at HC Hgo HB0 ⊢
  simp only at HC Hgo HB0 ⊢
  go_enter Tryd.func47, Tryd.ntmps47
  go_wp2_with fail
  go_at_call 46
  refine (Hgo.out _).mono ?_
  rintro e w2 ⟨rfl, hb2⟩
  obtain ⟨hc2, _⟩ := bcell hb2
  have hz1 : w.heap.size + 1 < w2.heap.size := by have := hb2.size; simp at this; omega
  have hz0 : w.heap.size < w2.heap.size := by omega
  have hb3 := Lib.hid (HB0.out.trans (hb2.mono HB0.out.size))
  clear hb2 Hgo
  cases ok
  · have hz := HZ.out rfl
    subst hz
    go_wp2
    go_ret
    exact ⟨rfl, hb3.out⟩
  · go_wp2_with fail
    refine (HC.out _ hb3.out (by trivial)).mono ?_
    rintro e w4 ⟨rfl, hb4⟩
    go_wp2
    go_ret
    exact ⟨rfl, hb3.out.trans (hb4.mono hb3.out.size)⟩
end Go.Proofs.YthllacodjeocmaaDoor
