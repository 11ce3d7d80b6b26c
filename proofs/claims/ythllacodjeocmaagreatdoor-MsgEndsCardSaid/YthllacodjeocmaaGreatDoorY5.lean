/- Geometries in the reference: the locations of a line. Geometries in the reference: how many lines. What a kind may carry. -/
import Derived.Test.YthllacodjeocmaaGreatDoorY4
import Derived.Test.YthllacodjeocmaaGreatDoorT7
namespace Go.Proofs.YthllacodjeocmaaGreatDoor
open Go.RowKit
attribute [local go_sem] Oper.semAt_some
theorem byteInfoU : (Tryz.prog.info? 5).map (fun i => (i.zero, i.size, i.bytes)) = some (some (.int .u8 0), 1, 1) := by kernel_rfl
/-- The locations of a line, from a place on. -/
def Ge.locs (g : Ge) (line : Nat) : Nat → Nat → List UInt8
  | 0, _ => []
  | n + 1, l => (if g.line l = line then [UInt8.ofNat l] else []) ++ g.locs line n (l + 1)
structure LcSt (bs : List (Nat × Array Value × TypeId)) (w : World) (v : Value) (l : List UInt8) (W : World) : Prop where
  st : St bs w W
  row : W.ownsRow (w.heap.size + 1) 5 1 v l.length (l.map u8v)
  big : w.heap.size + 1 ≤ W.heap.size
  old : ∀ x ∈ bs, x.1 ≤ w.heap.size
  g7 : 5 ≤ w.heap.size
section
variable {bs : List (Nat × Array Value × TypeId)} {w W W' : World} {v v' : Value} {l news : List UInt8} {o : Obj}
theorem LcSt.next (h : LcSt bs w v l W) (hb : Below W.heap.size W W') : LcSt bs w v l W' :=
  ⟨h.st.next hb, h.row.kept (only_of_below hb none) (by cases hv : v.ownBlock <;> simp), Nat.le_trans h.big hb.size, h.old, h.g7⟩
theorem LcSt.append (h : LcSt bs w v l W) (hown : W'.ownsRow (w.heap.size + 1) 5 1 v' (l.length + news.length) (l.map u8v ++ news.map u8v)) (hg : (W.alloc o).grownBy W' v.ownBlock) : LcSt bs w v' (l ++ news) W' := by
  have hB : Below (w.heap.size + 1) W W' := ((Below.refl _ W).alloc h.big o).grown hg (by have := h.big; simp; omega) (fun k hk => (h.row.lt k hk).1)
  refine ⟨⟨h.st.g.below hB (by have := h.g7; omega), h.st.b.trans (hB.mono (by omega)), fun x hx => ?_⟩, by rw [List.length_append, List.map_append]; exact hown, Nat.le_trans h.big hB.size, h.old, h.g7⟩
  rw [hB.block _ (by have := h.old x hx; omega)]
  exact h.st.h x hx
theorem rgeo_lc (g : Ge) (h : Hid (LcSt bs w v l W)) : Calls Tryz.prog 23 #[.agg g.arr] W fun e w' => e = .returned (.bool g.ok) ∧ Hid (LcSt bs w v l w') :=
  (rgeo_ok g W h.out.st.g).mono fun _ _ ⟨e, hb⟩ => ⟨e, Lib.hid (h.out.next hb)⟩
theorem rline_lc (g : Ge) (j : Nat) (hj : j < 256) (h : Hid (LcSt bs w v l W)) : Calls Tryz.prog 62 #[.agg g.arr, .int .u8 j] W fun e w' => e = .returned (.int .u8 (g.line j)) ∧ Hid (LcSt bs w v l w') :=
  (rline_any g j hj W h.out.st.g).mono fun _ _ ⟨e, hb⟩ => ⟨e, Lib.hid (h.out.next hb)⟩
end
/-- A slice of so many elements. -/
def Many (w : World) (n : Nat) (e : Ending) (w' : World) : Prop := ∃ A cap, e = .returned (.slice A n cap) ∧ Below w.heap.size w w'
set_option maxHeartbeats 4000000 in
set_option maxRecDepth 100000 in
theorem rlocs_any (g : Ge) (line : Nat) (hl : line < 256) (w : World) (hG : GlobM w) : Calls Tryz.prog 46 #[.agg g.arr, .int .u8 line] w (Many w (if g.ok = true then (g.locs line 6 0).length else 0)) := by
  obtain ⟨i0, hi, hz0, hz1, hz2⟩ := info_parts byteInfoU
  have HS0 := Lib.hid ((St.start hG).boxT g.arr 23 rfl)
  generalize hbA : w.heap.size = bA at HS0
  have HBA := Lib.hid hbA
  obtain ⟨ok, hok⟩ : ∃ ok, g.ok = ok := ⟨_, rfl⟩
  have HGO := Lib.hid (fun (bs : List (Nat × Array Value × TypeId)) (v : Value) (l : List UInt8) (W : World) (h : Hid (LcSt bs w v l W)) => rgeo_lc g h)
  rw [hok] at HGO ⊢
  have h7 : 5 ≤ w.heap.size := hG.g.size
  clear hG hok
  generalize hN : (if ok = true then (g.locs line 6 0).length else 0) = N
  have HN := Lib.hid hN.symm
  clear hN
  go_enter Tryz.func46, Tryz.ntmps46
  go_wp2_with (first | (refine wpl_box rfl 23 (.tmp 0) rfl g.arr rfl ?_; rw [hbA]; intro w0 hw0; have HS := (show Hid (LcSt [(bA, g.arr, 23)] w (.slice none 0 0) [] w0) from Lib.hid ⟨by rw [hw0.out]; exact HS0.out, ⟨rfl, .inl ⟨rfl, rfl⟩⟩, by rw [hw0.out]; simp, fun x hx => by rw [List.mem_singleton] at hx; subst hx; show bA ≤ _; omega, h7⟩); clear hw0 HS0) | fail)
  clear hbA
  go_loopw [5, 6] (fun v i wr => ∃ (j : Nat) (acc : List UInt8), j ≤ 6 ∧ i = .int .u8 j ∧ acc.length ≤ j ∧ Hid (g.locs line 6 0 = acc ++ g.locs line (6 - j) j) ∧ Hid (ok = false → acc = []) ∧ Hid (LcSt [(bA, g.arr, 23)] w v acc wr)) (fun _ i _ => 6 - (intOf i).toNat)
  case atStart => exact ⟨0, [], by omega, rfl, Nat.le_refl _, Lib.hid rfl, Lib.hid (fun _ => rfl), HS⟩
  case round =>
    clear HS
    obtain ⟨j, acc, hj, rfl, hacc, HE, HZ, HS⟩ := hrel
    have hlk : line < 256 := hl
    by_cases hlt : j < 6
    · have q1 : decide ((j : Int) < 6) = true := by simp; omega
      go_wp2_with (first | (refine wpl_ld39 rfl (.tmp 2) rfl bA g rfl (HS.out.st.h (bA, g.arr, 23) (by simp)) ?_) | fail)
      go_at_call 23
      refine (HGO.out _ _ _ _ HS).mono ?_
      rintro e w1 ⟨rfl, HS1⟩
      clear HS
      cases ok
      · have hz := HZ.out rfl
        subst hz
        obtain ⟨hv, _⟩ | ⟨g', cap', cur, hv, _⟩ := HS1.out.row.2
        · subst hv
          go_wp2
          go_ret
          exact ⟨_, _, by rw [HN.out]; rfl, HS1.out.st.b⟩
        · subst hv
          go_wp2
          go_ret
          exact ⟨_, _, by rw [HN.out]; rfl, HS1.out.st.b⟩
      · go_wp2_with (first | (refine wpl_ld39 rfl (.tmp 2) rfl bA g rfl (HS1.out.st.h (bA, g.arr, 23) (by simp)) ?_) | fail)
        go_at_call 62
        refine (rline_lc g j (by omega) HS1).mono ?_
        rintro e w2 ⟨rfl, HS2⟩
        clear HS1
        have hstep : g.locs line (6 - j) j = (if g.line j = line then [UInt8.ofNat j] else []) ++ g.locs line (6 - (j + 1)) (j + 1) := by
          rw [show 6 - j = (6 - (j + 1)) + 1 by omega]; rfl
        by_cases hq : g.line j = line
        · have q2 : ((g.line j : Int) == (line : Int)) = true := by rw [beq_iff_eq]; omega
          have HE2 : Hid (g.locs line 6 0 = (acc ++ [UInt8.ofNat j]) ++ g.locs line (6 - (j + 1)) (j + 1)) := by show _ = _; rw [HE.out, hstep, if_pos hq]; simp
          have hu : Hid ((Value.int .u8 (j : Int)) = u8v (UInt8.ofNat j)) := by show _ = _; unfold u8v; rw [UInt8.toNat_ofNat']; congr 1; omega
          clear hstep hq
          go_wp2_with (first | (at_builtin; refine wpList_append_lies _ rfl _ _ _ rfl (w.heap.size + 1) 5 i0 _ 1 1 Tryz.underlying33 hi hz0 hz1 hz2 rfl (by omega) _ _ _ rfl (HS2.out.row.alloc _) ⟨_, 0, none⟩ 1 1 ([UInt8.ofNat j].map u8v) rfl rfl (by rw [show ([UInt8.ofNat j].map u8v) = [Value.int .u8 (j : Int)] from by rw [hu.out]; rfl]; exact World.news_of_block (t := 5) (fr := (0, 0)) (heap_alloc_new _ _)) (by simp [Value.oneCell', u8v]) (by omega) (by unfold maxLen; omega) (by omega) (by have := HS2.out.big; simp; omega) _ rfl ?_; intro gg cap w1' hown1 hgrow hat hlt1; have HS3 := Lib.hid (HS2.out.append (news := [UInt8.ofNat j]) hown1 hgrow); clear hown1 hgrow hat hlt1) | fail)
          exact ⟨⟨j + 1, acc ++ [UInt8.ofNat j], by omega, by go_num, by simp; omega, HE2, Lib.hid (fun h => by cases h), HS3⟩, by simp [intOf]; omega⟩
        · have q2 : ((g.line j : Int) == (line : Int)) = false := by rw [beq_eq_false_iff_ne]; omega
          have HE2 : Hid (g.locs line 6 0 = acc ++ g.locs line (6 - (j + 1)) (j + 1)) := by show _ = _; rw [HE.out, hstep, if_neg hq]; rfl
          clear hstep hq
          go_wp2_with fail
          exact ⟨⟨j + 1, acc, by omega, by go_num, by omega, HE2, Lib.hid (fun h => by cases h), HS2⟩, by simp [intOf]; omega⟩
    · obtain rfl : j = 6 := by omega
      have q1 : decide (((6 : Nat) : Int) < 6) = false := by simp
      have HL : Hid (acc.length = N) := by
        show _ = _
        rw [HN.out]
        cases ok
        · rw [HZ.out rfl]; rfl
        · rw [if_pos rfl, HE.out]; simp [Ge.locs]
      obtain ⟨hv, h0⟩ | ⟨g', cap', cur, hv, _⟩ := HS.out.row.2
      · subst hv
        have HL0 := Lib.hid h0
        clear h0
        go_wp2
        go_ret
        exact ⟨none, 0, by rw [← HL.out, HL0.out]; rfl, HS.out.st.b⟩
      · subst hv
        go_wp2
        go_ret
        exact ⟨_, _, by rw [← HL.out]; rfl, HS.out.st.b⟩
end Go.Proofs.YthllacodjeocmaaGreatDoor
namespace Go.Proofs.YthllacodjeocmaaGreatDoor
open Go.RowKit
attribute [local go_sem] Oper.semAt_some
/-- How many locations a line has. -/
def Ge.many (g : Ge) (line : Nat) : Nat := if g.ok = true then (g.locs line 6 0).length else 0
/-- How many lines below a bound have locations. -/
def Ge.cnt (g : Ge) : Nat → Nat
  | 0 => 0
  | j + 1 => g.cnt j + if 0 < g.many j then 1 else 0
theorem Ge.cnt_le (g : Ge) : ∀ j, g.cnt j ≤ j
  | 0 => Nat.le_refl _
  | j + 1 => by have := Ge.cnt_le g j; unfold Ge.cnt; split <;> omega
theorem Ge.many_line {g : Ge} (hok : g.ok = true) {m : Nat} (hm : g.w.toNat = m) (line : Nat) : g.many line = (((List.range 6).filter fun l => decide (l / m = line)).length) := by
  have e : ∀ n l, (g.locs line n l).length = ((List.range' l n).filter fun l => decide (l / m = line)).length := by
    intro n
    induction n with
    | zero => intro l; rfl
    | succ n ih =>
      intro l
      unfold Ge.locs
      rw [List.length_append, ih (l + 1), List.range'_succ, List.filter_cons]
      unfold Ge.line
      rw [if_pos hok, hm]
      by_cases h : l / m = line
      · simp [h]; omega
      · simp [h]
  unfold Ge.many
  rw [if_pos hok, e 6 0, List.range_eq_range']
theorem Ge.cnt_lines (g : Ge) : g.cnt 6 = g.lines := by
  by_cases hok : g.ok = true
  · obtain ⟨_, _, h1, h2⟩ := ok_bounds hok
    unfold Ge.lines
    rw [if_pos hok]
    obtain h | h | h | h : g.w.toNat = 1 ∨ g.w.toNat = 2 ∨ g.w.toNat = 3 ∨ g.w.toNat = 4 := by omega
    all_goals
      simp only [Ge.cnt, Ge.many_line hok h, h]
      decide
  · have z : ∀ j, g.cnt j = 0 := by
      intro j
      induction j with
      | zero => rfl
      | succ j ih => unfold Ge.cnt Ge.many; rw [ih, if_neg hok]; rfl
    rw [z 6]
    unfold Ge.lines
    rw [if_neg hok]
theorem rlocs_st {bs : List (Nat × Array Value × TypeId)} {w W : World} (g : Ge) (line : Nat) (hl : line < 256) (h : Hid (St bs w W)) : Calls Tryz.prog 46 #[.agg g.arr, .int .u8 line] W fun e w' => ∃ A cap, e = .returned (.slice A (g.many line) cap) ∧ Hid (St bs w w') :=
  (rlocs_any g line hl W h.out.g).mono fun _ _ ⟨A, cap, e, hb⟩ => ⟨A, cap, e, Lib.hid (h.out.next hb)⟩
set_option maxHeartbeats 4000000 in
set_option maxRecDepth 100000 in
theorem rlines_any (g : Ge) (w : World) (hG : GlobM w) : Calls Tryz.prog 24 #[.agg g.arr] w fun e w' => e = .returned (.int .i64 g.lines) ∧ Below w.heap.size w w' := by
  rw [← g.cnt_lines]
  have HS0 := Lib.hid ((St.start hG).boxT g.arr 23 rfl)
  generalize hbA : w.heap.size = bA at HS0
  have HBA := Lib.hid hbA
  clear hG
  obtain ⟨cn, hcn⟩ : ∃ cn, cn = g.cnt 6 := ⟨_, rfl⟩
  have HC := Lib.hid hcn
  rw [← hcn]
  clear hcn
  go_enter Tryz.func24, Tryz.ntmps24
  go_wp2_with (first | (refine wpl_box rfl 23 (.tmp 0) rfl g.arr rfl ?_; rw [hbA]; intro w0 hw0; have HS := (show Hid (St [(bA, g.arr, 23)] w w0) from by rw [hw0.out]; exact HS0); clear hw0 HS0) | fail)
  clear hbA
  go_loopw [3, 4] (fun v i wr => ∃ (j : Nat), j ≤ 6 ∧ i = .int .u8 j ∧ v = .int .i64 (g.cnt j) ∧ Hid (St [(bA, g.arr, 23)] w wr)) (fun _ i _ => 6 - (intOf i).toNat)
  case atStart => exact ⟨0, by omega, rfl, rfl, HS⟩
  case round =>
    clear HS
    obtain ⟨j, hj, rfl, rfl, HS⟩ := hrel
    have HL := Lib.hid (g.cnt_le j)
    by_cases hlt : j < 6
    · have q1 : decide ((j : Int) < 6) = true := by simp; omega
      go_wp2_with (first | (refine wpl_ld39 rfl (.tmp 1) rfl bA g rfl (HS.out.h (bA, g.arr, 23) (by simp)) ?_) | fail)
      go_at_call 46
      refine (rlocs_st g j (by omega) HS).mono ?_
      rintro e w1 ⟨A, cap, rfl, HS1⟩
      clear HS
      have HN : Hid (g.cnt (j + 1) = g.cnt j + if 0 < g.many j then 1 else 0) := Lib.hid rfl
      generalize g.many j = m at HN ⊢
      by_cases hm : 0 < m
      · have q2 : decide ((m : Int) > 0) = true := by simp; omega
        have HN2 : Hid (g.cnt (j + 1) = g.cnt j + 1) := by show _ = _; rw [HN.out, if_pos hm]
        clear HN
        generalize g.cnt j = c at HN2 HL ⊢
        have hc : c ≤ 6 := Nat.le_trans HL.out hj
        go_wp2_with fail
        exact ⟨⟨j + 1, by omega, by go_num, by rw [HN2.out]; go_num, HS1⟩, by simp [intOf]; omega⟩
      · have q2 : decide ((m : Int) > 0) = false := by simp; omega
        have HN2 : Hid (g.cnt (j + 1) = g.cnt j) := by show _ = _; rw [HN.out, if_neg hm]; rfl
        clear HN
        go_wp2_with fail
        exact ⟨⟨j + 1, by omega, by go_num, by rw [HN2.out], HS1⟩, by simp [intOf]; omega⟩
    · obtain rfl : j = 6 := by omega
      have q1 : decide (((6 : Nat) : Int) < 6) = false := by simp
      rw [← HC.out]
      go_wp2
      go_ret
      exact ⟨rfl, by rw [← HBA.out]; exact HS.out.b⟩
end Go.Proofs.YthllacodjeocmaaGreatDoor
namespace Go.Proofs.YthllacodjeocmaaGreatDoor
open Go.RowKit
attribute [local go_sem] Oper.semAt_some
/-- A kind may carry what a bit stands for. -/
def mayB (k : UInt8) (bit : Nat) : Bool := bits .and .i64 (bitsOf k.toNat) bit != 0
set_option maxHeartbeats 1000000 in
set_option maxRecDepth 100000 in
theorem may_any (m : Mg) (bit : Nat) (h : m.k.toNat < 13) (w : World) (hG : GlobM w) : Calls Tryz.prog 43 #[.agg (boxOf m), .int .i64 bit] w fun e w' => e = .returned (.bool (mayB m.k bit)) ∧ Below w.heap.size w w' := by
  have c0 : (w.alloc (.cells (boxOf m) 42)).cell? ⟨w.heap.size, 0, none⟩ = some (.int .u8 m.k.toNat) := cell_of_heap (heap_alloc_new _ _)
  have hB : Below w.heap.size w (w.alloc (.cells (boxOf m) 42)) := (Below.refl _ w).alloc (Nat.le_refl _) _
  obtain ⟨n0, _, _⟩ := (hG.next hB).n.at h
  have HB := Lib.hid hB
  have hk0 : (0 : Int) ≤ m.k.toNat := by omega
  have hk1 : (m.k.toNat : Int) < 13 := by omega
  clear hG hB
  obtain ⟨r, hr⟩ : ∃ r, mayB m.k bit = r := ⟨_, rfl⟩
  have HR := Lib.hid hr
  rw [hr]
  clear hr
  go_enter Tryz.func43, Tryz.ntmps43
  go_wp2_with (first | (refine wpl_box rfl 42 (.tmp 0) rfl (boxOf m) rfl ?_; intro w0 hw0; have hw1 := hw0.out; clear hw0; subst hw1) | fail)
  go_ret
  exact ⟨by rw [← HR.out]; rfl, HB.out⟩
theorem msgSize63 : (Tryz.prog.info? 42).map (·.size) = some 11 := by kernel_rfl
theorem wpl_ld63 {ops : Array Oper} {rest : List Oper} {o : Oper} {a : Act} {W : World} {Q : Exit → Act → World → Prop} (hw : Region.wanted o (yielded ops a.tmps) = true) (x : Operand) (ho : o.op = .load 42 x) (b : Nat) (m : Mg) (hx : a.eval x = .pointer (some ⟨b, 0, none⟩)) (h : W.heap[b]? = some (.cells (boxOf m) 42)) (k : wpList Tryz.prog ops Q rest (a.put o.dst (.agg (boxOf m))) W) : wpList Tryz.prog ops Q (o :: rest) a W := by
  unfold wpList
  rw [if_pos hw]
  exact .inl (wp_load_row 42 x ho b hx 42 (boxOf m) (0, 0) _ h Tryz.underlying42 rfl (by rw [msgSize63]; rfl) k)
section
variable {bs : List (Nat × Array Value × TypeId)} {w W : World}
theorem mcells (m : Mg) (T b : Nat) (h : Hid (St bs w W)) (hm : (b, boxOf m, T) ∈ bs) : W.cell? ⟨b, 1, none⟩ = some (.int .u8 m.f.toNat) ∧ W.cell? ⟨b, 2, none⟩ = some (.int .u8 m.t.toNat) ∧ W.cell? ⟨b, 3, none⟩ = some (.int .u8 m.l.toNat) :=
  ⟨cell_of_heap (h.out.h _ hm), cell_of_heap (h.out.h _ hm), cell_of_heap (h.out.h _ hm)⟩
theorem may_st (m : Mg) (bit : Nat) (hk : m.k.toNat < 13) (h : Hid (St bs w W)) : Calls Tryz.prog 43 #[.agg (boxOf m), .int .i64 bit] W fun e w' => e = .returned (.bool (mayB m.k bit)) ∧ Hid (St bs w w') :=
  (may_any m bit hk W h.out.g).mono fun _ _ ⟨e, hb⟩ => ⟨e, Lib.hid (h.out.next hb)⟩
theorem home_st (g : Ge) (n : Nat) (h : Hid (St bs w W)) : Calls Tryz.prog 42 #[.agg g.arr, .int .u8 n] W fun e w' => e = .returned (.int .u8 (g.home n)) ∧ Hid (St bs w w') :=
  (home_any g n W).mono fun _ _ ⟨e, hb⟩ => ⟨e, Lib.hid (h.out.next hb)⟩
theorem cache_st (g : Ge) (n : Nat) (hn : n < 256) (h : Hid (St bs w W)) : Calls Tryz.prog 44 #[.agg g.arr, .int .u8 n] W fun e w' => e = .returned (.bool (g.isCache n)) ∧ Hid (St bs w w') :=
  (iscache_any g n hn W).mono fun _ _ ⟨e, hb⟩ => ⟨e, Lib.hid (h.out.next hb)⟩
end
end Go.Proofs.YthllacodjeocmaaGreatDoor
