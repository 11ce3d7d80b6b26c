/- Geometries: homes, nodes, lines. Geometries: the rest of the questions. The package geo, as its callers see it. -/
import Derived.Test.YthllacodjeocmaaGreatDoorU2
namespace Go.Proofs.YthllacodjeocmaaGreatDoor
open Go.RowKit
attribute [local go_sem] Oper.semAt_some
theorem i64_u8 {n : Int} {W : World} (h0 : 0 ≤ n) (h1 : n < 256) : (convert 3 5 (.int .i64 n)).run Tryz.prog W = .ok (.int .u8 n) W := by
  have h : IntKind.u8.wrap n = n := wrap8 h0 h1
  simp [convert, go_sem, h]
theorem i_rem {P : Program} {T : TypeId} {k : IntKind} {a b : Nat} {W : World} (hb : 0 < b) : (binOp .rem T (.int k a) (.int k b)).run P W = .ok (.int k ((a % b : Nat) : Int)) W := by
  have h : ¬ b = 0 := by omega
  have e : (a : Int).tmod (b : Int) = (a : Int) % (b : Int) := rfl
  simp [binOp, Op.intDiv, go_sem, h, e]
/-- The home of a line. -/
def Ge.home (g : Ge) (l : Nat) : Nat := if g.ok = true then g.c.toNat + l % g.h.toNat else 0
def Ge.lines (g : Ge) : Nat := if g.ok = true then (g.w.toNat + 5) / g.w.toNat else 0
def Ge.nodes (g : Ge) : Nat := if g.ok = true then g.c.toNat + g.h.toNat else 0
def Ge.isCache (g : Ge) (n : Nat) : Bool := g.ok && decide ((n : Int) < g.c)
def Ge.isHome (g : Ge) (n : Nat) : Bool := g.ok && (decide (g.c ≤ (n : Int)) && decide ((n : Int) < g.c + g.h))
theorem ok_bounds {g : Ge} (h : g.ok = true) : (1 ≤ g.c ∧ g.c ≤ 4) ∧ (1 ≤ g.h ∧ g.h ≤ 2) ∧ (1 ≤ g.w ∧ g.w ≤ 4) := by
  unfold Ge.ok inB at h
  simp only [Bool.and_eq_true, decide_eq_true_eq] at h
  obtain ⟨⟨⟨⟨a, b⟩, c⟩, _⟩, _⟩ := h
  exact ⟨a, b, c⟩
theorem fa68 (b : Nat) (W : World) : (Instr.fieldAt 65 (.pointer (some ⟨b, 0, none⟩)) 0).run Tryz.prog W = .ok (.pointer (some ⟨b, 0, none⟩)) W := by kernel_rfl
theorem bld68 (g : Ge) (W : World) : (Instr.build 65 #[(0, .agg g.arr)]).run Tryz.prog W = .ok (.agg g.arr) W := by kernel_rfl
theorem ge_one (g : Ge) : g.arr.all (·.oneCell') = true := by unfold Ge.arr; simp [Value.oneCell']
theorem size68 : (Tryz.prog.info? 65).map (·.size) = some 5 := by kernel_rfl
theorem run_bld1 {P : Program} {ev : Operand → Value} {o : Oper} {w : World} {T : TypeId} {x : Operand} {v r : Value} (ho : o.op = .build T #[(0, x)]) (h0 : ev x = v) (hb : (Instr.build T #[(0, v)]).run P w = .ok r w) : (execOp ev o).run P w = .ok (.value r) w := by
  refine run_bld ho ?_
  simp only [List.map_toArray, List.map_cons, List.map_nil, h0]
  exact hb
/-- A geometry in a box of its own, and one cell that was there. -/
structure PF (w : World) (bx : Nat) (C : Array Value) (p : Nat) (v : Value) (W : World) : Prop where
  b : Below w.heap.size w W
  h : W.heap[bx]? = some (.cells C 65)
  c : W.cell? ⟨p, 0, none⟩ = some v
theorem PF.next {w W W' : World} {bx p : Nat} {C : Array Value} {v : Value} (h : PF w bx C p v W) (hb : Below W.heap.size W W') : PF w bx C p v W' :=
  ⟨h.b.trans (hb.mono h.b.size), blk_next h.h hb, (World.cell?_of_block (w := W) (hb.block p (cell_lt h.c))).trans h.c⟩
theorem PF.start {w : World} {C : Array Value} {p : Nat} {v : Value} (hc : w.cell? ⟨p, 0, none⟩ = some v) {n : Nat} (hn : w.heap.size = n) : PF w n C p v (w.alloc (.cells C 65)) := by
  subst hn
  exact ⟨(Below.refl _ w).alloc (Nat.le_refl _) _, heap_alloc_new w _, calloc hc⟩
set_option maxHeartbeats 2000000 in
set_option maxRecDepth 100000 in
theorem home_fn (g : Ge) (b : Nat) (l : Nat) (w : World) (hc : w.cell? ⟨b, 0, none⟩ = some (.int .u8 l)) (hg : g.ok = true) : Calls Tryz.prog 59 #[.agg g.arr, .pointer (some ⟨b, 0, none⟩)] w fun e w' => e = .returned (.int .u8 (g.home l)) ∧ Below w.heap.size w w' := by
  have HH : g.home l = g.c.toNat + l % g.h.toNat := by unfold Ge.home; rw [if_pos hg]
  obtain ⟨⟨h1, h2⟩, ⟨h3, h4⟩, _⟩ := ok_bounds hg
  have hm : l % g.h.toNat < g.h.toNat := Nat.mod_lt _ (by omega)
  have hhc : g.h = ((g.h.toNat : Nat) : Int) := by omega
  have e2 : IntKind.u8.wrap (g.c + ((l % g.h.toNat : Nat) : Int)) = (g.home l : Int) := by rw [wrap8 (by omega) (by omega), HH]; omega
  have HE := Lib.hid (And.intro e2 hhc)
  clear e2 HH hg hhc
  generalize hbA : w.heap.size = bA
  have HBA := Lib.hid hbA
  have HS0 := Lib.hid (PF.start (C := g.arr) hc hbA)
  clear hc
  go_enter Tryz.func59, Tryz.ntmps59
  go_upto_region 1 with (first | (refine wpl_box rfl 65 (.tmp 0) rfl g.arr rfl ?_; rw [hbA]; intro w0 hw0; have HS := (show Hid (PF w bA g.arr b (.int .u8 l) w0) from by rw [hw0.out]; exact HS0); clear hw0 HS0) | fail)
  obtain ⟨e2, hhc⟩ := HE.out
  refine region_all (D := [false, false, false, true, true, true, true, true, true, true, true, true, true, true, true]) (S := PF w bA g.arr b (.int .u8 l)) (R := RB) (F := FF [isV (.pointer (some ⟨bA, 0, none⟩)), isV (.pointer (some ⟨bA, 0, none⟩)), isV (.int .i64 g.c), isV (.int .u8 g.c), isV (.int .u8 l), isV (.pointer (some ⟨bA, 0, none⟩)), isV (.pointer (some ⟨bA, 1, none⟩)), isV (.int .i64 (g.h.toNat : Nat)), isV (.int .u8 (g.h.toNat : Nat)), isV (.int .u8 ((l % g.h.toNat : Nat) : Int)), isV (.int .u8 (g.home l)), isV (.int .u8 (g.home l))]) rfl mo (by kernel_rfl) (FF_st _ _) (HS.out.next ⟨rfl, rfl, rfl, Nat.le_refl _, fun _ _ => rfl⟩) (fun hN => ?_) (fun u W hS hF => ?_)
  · refine steps_cons ?_ ?_
    · intro u W hS hp
      exact step_on (wanted_free rfl) (ext_val hS (run_fa rfl ((eval_out rfl).trans rfl) (fa68 bA W)) rfl)
    refine steps_cons ?_ ?_
    · intro u W hS hp
      obtain ⟨q0, _⟩ := hp
      have p4 : u 4 = .pointer (some ⟨bA, 0, none⟩) := q0
      exact step_on (wanted_free rfl) (ext_val hS (run_fa rfl ((eval_in rfl hN rfl).trans p4) (fa39_0 bA W)) rfl)
    refine steps_cons ?_ ?_
    · intro u W hS hp
      obtain ⟨q0, _⟩ := hp
      have p5 : u 5 = .pointer (some ⟨bA, 0, none⟩) := q0
      exact step_on (wanted_free rfl) (ext_val hS (run_ld rfl ((eval_in rfl hN rfl).trans p5) (ld_int ((cell_of_heap hS.h).trans (rfl : g.arr[0]? = some _)))) rfl)
    refine steps_cons ?_ ?_
    · intro u W hS hp
      obtain ⟨q0, _⟩ := hp
      have p6 : u 6 = .int .i64 g.c := q0
      exact step_on (wanted_free rfl) (ext_val hS (run_conv rfl ((eval_in rfl hN rfl).trans p6) (i64_u8 (by omega) (by omega))) rfl)
    refine steps_cons ?_ ?_
    · intro u W hS hp
      exact step_on (wanted_free rfl) (ext_val hS (run_ld rfl ((eval_out rfl).trans rfl) (ld_u8 hS.c)) rfl)
    refine steps_cons ?_ ?_
    · intro u W hS hp
      exact step_on (wanted_free rfl) (ext_val hS (run_fa rfl ((eval_out rfl).trans rfl) (fa68 bA W)) rfl)
    refine steps_cons ?_ ?_
    · intro u W hS hp
      obtain ⟨q0, _⟩ := hp
      have p9 : u 9 = .pointer (some ⟨bA, 0, none⟩) := q0
      exact step_on (wanted_free rfl) (ext_val hS (run_fa rfl ((eval_in rfl hN rfl).trans p9) (fa39_1 bA W)) rfl)
    refine steps_cons ?_ ?_
    · intro u W hS hp
      obtain ⟨q0, _⟩ := hp
      have p10 : u 10 = .pointer (some ⟨bA, 1, none⟩) := q0
      exact step_on (wanted_free rfl) (ext_val hS (run_ld rfl ((eval_in rfl hN rfl).trans p10) (by rw [← hhc]; exact ld_int ((cell_of_heap hS.h).trans (rfl : g.arr[1]? = some _)))) rfl)
    refine steps_cons ?_ ?_
    · intro u W hS hp
      obtain ⟨q0, _⟩ := hp
      have p11 : u 11 = .int .i64 (g.h.toNat : Nat) := q0
      exact step_on (wanted_free rfl) (ext_val hS (run_conv rfl ((eval_in rfl hN rfl).trans p11) (i64_u8 (by omega) (by omega))) rfl)
    refine steps_cons ?_ ?_
    · intro u W hS hp
      obtain ⟨q0, q1, _⟩ := hp
      have p8 : u 8 = .int .u8 l := q0
      have p12 : u 12 = .int .u8 (g.h.toNat : Nat) := q1
      exact step_on (wanted_free rfl) (ext_val hS (run_bin rfl ((eval_in rfl hN rfl).trans p8) ((eval_in rfl hN rfl).trans p12) rfl (i_rem (by omega))) rfl)
    refine steps_cons ?_ ?_
    · intro u W hS hp
      obtain ⟨q0, q1, _⟩ := hp
      have p7 : u 7 = .int .u8 g.c := q0
      have p13 : u 13 = .int .u8 ((l % g.h.toNat : Nat) : Int) := q1
      exact step_on (wanted_free rfl) (ext_val hS (run_bin rfl ((eval_in rfl hN rfl).trans p7) ((eval_in rfl hN rfl).trans p13) rfl (i_add e2)) rfl)
    refine steps_cons ?_ ?_
    · intro u W hS hp
      obtain ⟨q0, q1, q2, q3, q4, q5, q6, q7, q8, q9, q10, q11, _⟩ := hp
      have p14 : u 14 = .int .u8 (g.home l) := q0
      exact step_on (wanted_free rfl) (ext_val hS (run_asg rfl ((eval_in rfl hN rfl).trans p14)) rfl)
    exact steps_nil
  · obtain ⟨_, _, _, _, _, _, _, _, _, _, _, q11, _⟩ := hF
    have p3 : u 3 = .int .u8 (g.home l) := q11
    simp only [frm, frmL, Nat.reduceAdd, p3]
    clear p3
    clear hhc e2
    go_wp2
    go_ret
    exact ⟨rfl, by rw [← HBA.out]; exact hS.b⟩
section
variable {ops : Array Oper} {rest : List Oper} {o : Oper} {a : Act} {W : World} {Q : Exit → Act → World → Prop}
theorem wpl_ld39 (hw : Region.wanted o (yielded ops a.tmps) = true) (x : Operand) (ho : o.op = .load 23 x) (b : Nat) (g : Ge) (hx : a.eval x = .pointer (some ⟨b, 0, none⟩)) (h : W.heap[b]? = some (.cells g.arr 23)) (k : wpList Tryz.prog ops Q rest (a.put o.dst (.agg g.arr)) W) : wpList Tryz.prog ops Q (o :: rest) a W := by
  unfold wpList
  rw [if_pos hw]
  exact .inl (wp_load_row 23 x ho b hx 23 g.arr (0, 0) _ h Tryz.underlying23 rfl (by rw [geoSize]; rfl) k)
theorem wpl_ld68 (hw : Region.wanted o (yielded ops a.tmps) = true) (x : Operand) (ho : o.op = .load 65 x) (b : Nat) (g : Ge) (hx : a.eval x = .pointer (some ⟨b, 0, none⟩)) (h : W.heap[b]? = some (.cells g.arr 65)) (k : wpList Tryz.prog ops Q rest (a.put o.dst (.agg g.arr)) W) : wpList Tryz.prog ops Q (o :: rest) a W := by
  unfold wpList
  rw [if_pos hw]
  exact .inl (wp_load_row 65 x ho b hx 65 g.arr (0, 0) _ h Tryz.underlying65 rfl (by rw [size68]; rfl) k)
theorem size68g (g : Ge) : (Tryz.prog.info? 65).map (·.size) = some g.arr.size := by rw [size68]; rfl
end
set_option maxHeartbeats 2000000 in
set_option maxRecDepth 100000 in
theorem of_home (g : Ge) (b l : Nat) (w : World) (hc : w.cell? ⟨b, 0, none⟩ = some (.int .u8 l)) : Calls Tryz.prog 58 #[.agg g.arr, .func (.func 59) #[] #[.pointer (some ⟨b, 0, none⟩)]] w fun e w' => e = .returned (.int .u8 (g.home l)) ∧ Below w.heap.size w w' := by
  have HC := Lib.hid (fun (W : World) (hb : Below w.heap.size w W) (hg : g.ok = true) => home_fn g b l W ((World.cell?_of_block (w := w) (hb.block b (cell_lt hc))).trans hc) hg)
  obtain ⟨r, hr⟩ : ∃ r : Value, (.int .u8 (g.home l)) = r := ⟨_, rfl⟩
  have HZ : Hid (g.ok = false → r = .int .u8 0) := by
    intro h
    rw [← hr]
    unfold Ge.home; rw [h, if_neg (by decide)]; rfl
  rw [hr] at HC
  simp only [hr]
  clear hr hc
  have Hgo := Lib.hid (geo_ok g)
  obtain ⟨ok, hok⟩ : ∃ ok, g.ok = ok := ⟨_, rfl⟩
  rw [hok] at Hgo HC HZ
  clear hok
  have hB0 : Below w.heap.size w ((w.alloc (.cells g.arr 23)).alloc (.cells g.arr 65)) := ((Below.refl _ w).alloc (Nat.le_refl _) _).alloc (by simp) _
  have HB0 := Lib.hid hB0
  clear hB0
  obtain ⟨c, h, ww, s, y⟩ := g
  unfold Ge.arr at HC Hgo HB0 ⊢
  simp only at HC Hgo HB0 ⊢
  go_enter Tryz.func58, Tryz.ntmps58
  go_wp2_with fail
  go_at_call 39
  refine (Hgo.out _).mono ?_
  rintro e w2 ⟨rfl, hb2⟩
  obtain ⟨hc2, _⟩ := bcell hb2
  have hz1 : w.heap.size + 1 < w2.heap.size := by have := hb2.size; simp at this; omega
  have hz0 : w.heap.size < w2.heap.size := by omega
  have hb3 := Lib.hid (HB0.out.trans (hb2.mono HB0.out.size))
  clear hb2 Hgo
  cases ok
  · have hz := HZ.out rfl
    subst hz
    go_wp2
    go_ret
    exact ⟨rfl, hb3.out⟩
  · go_wp2_with fail
    refine (HC.out _ hb3.out (by trivial)).mono ?_
    rintro e w4 ⟨rfl, hb4⟩
    go_wp2
    go_ret
    exact ⟨rfl, hb3.out.trans (hb4.mono hb3.out.size)⟩
end Go.Proofs.YthllacodjeocmaaGreatDoor
namespace Go.Proofs.YthllacodjeocmaaGreatDoor
open Go.RowKit
attribute [local go_sem] Oper.semAt_some
set_option maxHeartbeats 1000000 in
set_option maxRecDepth 100000 in
theorem iscache_fn (g : Ge) (b n : Nat) (hn : n < 256) (w : World) (hc : w.cell? ⟨b, 0, none⟩ = some (.int .u8 n)) : Calls Tryz.prog 61 #[.agg g.arr, .pointer (some ⟨b, 0, none⟩)] w fun e w' => e = .returned (.bool (decide ((n : Int) < g.c))) ∧ Below w.heap.size w w' := by
  obtain ⟨c, h, ww, s, y⟩ := g
  unfold Ge.arr
  simp only
  have hlt := cell_lt hc
  simp only at hlt
  go_enter Tryz.func61, Tryz.ntmps61
  go_wp2
  go_ret
  exact ⟨rfl, (Below.refl _ w).alloc (Nat.le_refl _) _⟩
set_option maxHeartbeats 1000000 in
set_option maxRecDepth 100000 in
theorem lines_fn (g : Ge) (w : World) (hg : g.ok = true) : Calls Tryz.prog 41 #[.agg g.arr] w fun e w' => e = .returned (.int .i64 (g.lines : Nat)) ∧ Below w.heap.size w w' := by
  have HN : Hid ((g.lines : Int) = (6 + g.w - 1) / g.w) := by
    show _ = _
    obtain ⟨_, _, ⟨h1, h2⟩⟩ := ok_bounds hg
    unfold Ge.lines; rw [if_pos hg]
    obtain ⟨k, hk⟩ := Int.eq_ofNat_of_zero_le (show 0 ≤ g.w by omega)
    rw [hk, Int.toNat_natCast]
    rw [show (6 + (k : Int) - 1) = ((k + 5 : Nat) : Int) by omega]
    rfl
  obtain ⟨_, _, ⟨h1, h2⟩⟩ := ok_bounds hg
  clear hg
  obtain ⟨nd, hnd⟩ : ∃ nd : Int, (g.lines : Int) = nd := ⟨_, rfl⟩
  rw [hnd] at HN ⊢
  clear hnd
  obtain ⟨c, h, ww, s, y⟩ := g
  simp only at h1 h2 HN
  unfold Ge.arr
  simp only
  go_enter Tryz.func41, Tryz.ntmps41
  go_wp2
  go_ret
  exact ⟨by rw [HN.out]; rfl, (Below.refl _ w).alloc (Nat.le_refl _) _⟩
theorem iscache_fn2 (g : Ge) (b n : Nat) (hn : n < 256) (w : World) (hc : w.cell? ⟨b, 0, none⟩ = some (.int .u8 n)) (hg : g.ok = true) : Calls Tryz.prog 61 #[.agg g.arr, .pointer (some ⟨b, 0, none⟩)] w fun e w' => e = .returned (.bool (g.isCache n)) ∧ Below w.heap.size w w' :=
  (iscache_fn g b n hn w hc).mono fun _ _ ⟨he, hb⟩ => ⟨by rw [he]; unfold Ge.isCache; rw [hg]; rfl, hb⟩
set_option maxHeartbeats 2000000 in
set_option maxRecDepth 100000 in
theorem of_iscache (g : Ge) (b n : Nat) (hn : n < 256) (w : World) (hc : w.cell? ⟨b, 0, none⟩ = some (.int .u8 n)) : Calls Tryz.prog 60 #[.agg g.arr, .func (.func 61) #[] #[.pointer (some ⟨b, 0, none⟩)]] w fun e w' => e = .returned (.bool (g.isCache n)) ∧ Below w.heap.size w w' := by
  have HC := Lib.hid (fun (W : World) (hb : Below w.heap.size w W) (hg : g.ok = true) => iscache_fn2 g b n hn W ((World.cell?_of_block (w := w) (hb.block b (cell_lt hc))).trans hc) hg)
  obtain ⟨r, hr⟩ : ∃ r : Value, (.bool (g.isCache n)) = r := ⟨_, rfl⟩
  have HZ : Hid (g.ok = false → r = .bool false) := by
    intro h
    rw [← hr]
    unfold Ge.isCache; rw [h]; rfl
  rw [hr] at HC
  simp only [hr]
  clear hr hc
  have Hgo := Lib.hid (geo_ok g)
  obtain ⟨ok, hok⟩ : ∃ ok, g.ok = ok := ⟨_, rfl⟩
  rw [hok] at Hgo HC HZ
  clear hok
  have hB0 : Below w.heap.size w ((w.alloc (.cells g.arr 23)).alloc (.cells g.arr 65)) := ((Below.refl _ w).alloc (Nat.le_refl _) _).alloc (by simp) _
  have HB0 := Lib.hid hB0
  clear hB0
  obtain ⟨c, h, ww, s, y⟩ := g
  unfold Ge.arr at HC Hgo HB0 ⊢
  simp only at HC Hgo HB0 ⊢
  go_enter Tryz.func60, Tryz.ntmps60
  go_wp2_with fail
  go_at_call 39
  refine (Hgo.out _).mono ?_
  rintro e w2 ⟨rfl, hb2⟩
  obtain ⟨hc2, _⟩ := bcell hb2
  have hz1 : w.heap.size + 1 < w2.heap.size := by have := hb2.size; simp at this; omega
  have hz0 : w.heap.size < w2.heap.size := by omega
  have hb3 := Lib.hid (HB0.out.trans (hb2.mono HB0.out.size))
  clear hb2 Hgo
  cases ok
  · have hz := HZ.out rfl
    subst hz
    go_wp2
    go_ret
    exact ⟨rfl, hb3.out⟩
  · go_wp2_with fail
    refine (HC.out _ hb3.out (by trivial)).mono ?_
    rintro e w4 ⟨rfl, hb4⟩
    go_wp2
    go_ret
    exact ⟨rfl, hb3.out.trans (hb4.mono hb3.out.size)⟩
set_option maxHeartbeats 2000000 in
set_option maxRecDepth 100000 in
theorem of_lines (g : Ge)  (w : World)  : Calls Tryz.prog 40 #[.agg g.arr, .func (.func 41) #[] #[]] w fun e w' => e = .returned (.int .i64 (g.lines : Nat)) ∧ Below w.heap.size w w' := by
  have HC := Lib.hid (fun (W : World) (hb : Below w.heap.size w W) (hg : g.ok = true) => lines_fn g W hg)
  obtain ⟨r, hr⟩ : ∃ r : Value, (.int .i64 (g.lines : Nat)) = r := ⟨_, rfl⟩
  have HZ : Hid (g.ok = false → r = .int .i64 0) := by
    intro h
    rw [← hr]
    unfold Ge.lines; rw [h, if_neg (by decide)]; rfl
  rw [hr] at HC
  simp only [hr]
  clear hr
  have Hgo := Lib.hid (geo_ok g)
  obtain ⟨ok, hok⟩ : ∃ ok, g.ok = ok := ⟨_, rfl⟩
  rw [hok] at Hgo HC HZ
  clear hok
  have hB0 : Below w.heap.size w ((w.alloc (.cells g.arr 23)).alloc (.cells g.arr 65)) := ((Below.refl _ w).alloc (Nat.le_refl _) _).alloc (by simp) _
  have HB0 := Lib.hid hB0
  clear hB0
  obtain ⟨c, h, ww, s, y⟩ := g
  unfold Ge.arr at HC Hgo HB0 ⊢
  simp only at HC Hgo HB0 ⊢
  go_enter Tryz.func40, Tryz.ntmps40
  go_wp2_with fail
  go_at_call 39
  refine (Hgo.out _).mono ?_
  rintro e w2 ⟨rfl, hb2⟩
  obtain ⟨hc2, _⟩ := bcell hb2
  have hz1 : w.heap.size + 1 < w2.heap.size := by have := hb2.size; simp at this; omega
  have hz0 : w.heap.size < w2.heap.size := by omega
  have hb3 := Lib.hid (HB0.out.trans (hb2.mono HB0.out.size))
  clear hb2 Hgo
  cases ok
  · have hz := HZ.out rfl
    subst hz
    go_wp2
    go_ret
    exact ⟨rfl, hb3.out⟩
  · go_wp2_with fail
    refine (HC.out _ hb3.out (by trivial)).mono ?_
    rintro e w4 ⟨rfl, hb4⟩
    go_wp2
    go_ret
    exact ⟨rfl, hb3.out.trans (hb4.mono hb3.out.size)⟩
end Go.Proofs.YthllacodjeocmaaGreatDoor
namespace Go.Proofs.YthllacodjeocmaaGreatDoor
open Go.RowKit
attribute [local go_sem] Oper.semAt_some
theorem two_boxes (w : World) (A B : Array Value) (T U : TypeId) : Below w.heap.size w ((w.alloc (.cells A T)).alloc (.cells B U)) := ((Below.refl _ w).alloc (Nat.le_refl _) _).alloc (by simp) _
theorem second_cell (w : World) (A : Array Value) (v : Value) (T U : TypeId) : ((w.alloc (.cells A T)).alloc (.cells #[v] U)).cell? ⟨w.heap.size + 1, 0, none⟩ = some v := by
  have h : (w.alloc (.cells A T)).heap.size = w.heap.size + 1 := by simp
  rw [← h, World.cell?_alloc_new]
  rfl
set_option maxHeartbeats 1000000 in
set_option maxRecDepth 100000 in
theorem home_any (g : Ge) (n : Nat)  (w : World) : Calls Tryz.prog 42 #[.agg g.arr, .int .u8 n] w fun e w' => e = .returned (.int .u8 (g.home n)) ∧ Below w.heap.size w w' := by
  have HO := Lib.hid (of_home g (w.heap.size + 1) n  ((w.alloc (.cells g.arr 23)).alloc (.cells #[.int .u8 n] 5)) (second_cell w g.arr (.int .u8 n) 23 5))
  have HB := Lib.hid (two_boxes w g.arr #[.int .u8 n] 23 5)
  obtain ⟨r, hr⟩ : ∃ r : Value, (.int .u8 (g.home n)) = r := ⟨_, rfl⟩
  rw [hr] at HO
  simp only [hr]
  clear hr
  obtain ⟨c, h, ww, s, y⟩ := g
  unfold Ge.arr at HO HB ⊢
  simp only at HO HB ⊢
  go_enter Tryz.func42, Tryz.ntmps42
  go_wp2_with fail
  go_at_call 58
  refine HO.out.mono ?_
  rintro e w1 ⟨rfl, hb⟩
  have hb2 := Lib.hid (HB.out.trans (hb.mono HB.out.size))
  clear hb HO
  go_wp2
  go_ret
  exact ⟨rfl, hb2.out⟩
set_option maxHeartbeats 1000000 in
set_option maxRecDepth 100000 in
theorem iscache_any (g : Ge) (n : Nat) (hn : n < 256) (w : World) : Calls Tryz.prog 44 #[.agg g.arr, .int .u8 n] w fun e w' => e = .returned (.bool (g.isCache n)) ∧ Below w.heap.size w w' := by
  have HO := Lib.hid (of_iscache g (w.heap.size + 1) n hn ((w.alloc (.cells g.arr 23)).alloc (.cells #[.int .u8 n] 5)) (second_cell w g.arr (.int .u8 n) 23 5))
  have HB := Lib.hid (two_boxes w g.arr #[.int .u8 n] 23 5)
  obtain ⟨r, hr⟩ : ∃ r : Value, (.bool (g.isCache n)) = r := ⟨_, rfl⟩
  rw [hr] at HO
  simp only [hr]
  clear hr
  obtain ⟨c, h, ww, s, y⟩ := g
  unfold Ge.arr at HO HB ⊢
  simp only at HO HB ⊢
  go_enter Tryz.func44, Tryz.ntmps44
  go_wp2_with fail
  go_at_call 60
  refine HO.out.mono ?_
  rintro e w1 ⟨rfl, hb⟩
  have hb2 := Lib.hid (HB.out.trans (hb.mono HB.out.size))
  clear hb HO
  go_wp2
  go_ret
  exact ⟨rfl, hb2.out⟩
set_option maxHeartbeats 1000000 in
set_option maxRecDepth 100000 in
theorem gright_any (g : Ge) (w : World) : Calls Tryz.prog 18 #[.agg g.arr] w fun e w' => e = .returned (.bool g.ok) ∧ Below w.heap.size w w' := by
  have HO := Lib.hid (geo_ok g (w.alloc (.cells g.arr 23)))
  have HB : Hid (Below w.heap.size w (w.alloc (.cells g.arr 23))) := Lib.hid ((Below.refl _ w).alloc (Nat.le_refl _) _)
  obtain ⟨r, hr⟩ : ∃ r : Value, (.bool g.ok) = r := ⟨_, rfl⟩
  rw [hr] at HO
  simp only [hr]
  clear hr
  obtain ⟨c, h, ww, s, y⟩ := g
  unfold Ge.arr at HO HB ⊢
  simp only at HO HB ⊢
  go_enter Tryz.func18, Tryz.ntmps18
  go_wp2_with fail
  go_at_call 39
  refine HO.out.mono ?_
  rintro e w1 ⟨rfl, hb⟩
  have hb2 := Lib.hid (HB.out.trans (hb.mono HB.out.size))
  clear hb HO
  go_wp2
  go_ret
  exact ⟨rfl, hb2.out⟩
set_option maxHeartbeats 1000000 in
set_option maxRecDepth 100000 in
theorem glines_any (g : Ge) (w : World) : Calls Tryz.prog 19 #[.agg g.arr] w fun e w' => e = .returned (.int .i64 (g.lines : Nat)) ∧ Below w.heap.size w w' := by
  have HO := Lib.hid (of_lines g (w.alloc (.cells g.arr 23)))
  have HB : Hid (Below w.heap.size w (w.alloc (.cells g.arr 23))) := Lib.hid ((Below.refl _ w).alloc (Nat.le_refl _) _)
  obtain ⟨r, hr⟩ : ∃ r : Value, (.int .i64 (g.lines : Nat)) = r := ⟨_, rfl⟩
  rw [hr] at HO
  simp only [hr]
  clear hr
  obtain ⟨c, h, ww, s, y⟩ := g
  unfold Ge.arr at HO HB ⊢
  simp only at HO HB ⊢
  go_enter Tryz.func19, Tryz.ntmps19
  go_wp2_with fail
  go_at_call 40
  refine HO.out.mono ?_
  rintro e w1 ⟨rfl, hb⟩
  have hb2 := Lib.hid (HB.out.trans (hb.mono HB.out.size))
  clear hb HO
  go_wp2
  go_ret
  exact ⟨rfl, hb2.out⟩
end Go.Proofs.YthllacodjeocmaaGreatDoor
