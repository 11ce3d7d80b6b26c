/- Geometries in the reference: the locations of a line. -/
import Derived.Test.YthllacodjeocmaaDoorU9
import Derived.Test.YthllacodjeocmaaDoorT7
namespace Go.Proofs.YthllacodjeocmaaDoor
open Go.RowKit
attribute [local go_sem] Oper.semAt_some
theorem byteInfoU : (Tryd.prog.info? 5).map (fun i => (i.zero, i.size, i.bytes)) = some (some (.int .u8 0), 1, 1) := by kernel_rfl
/-- The locations of a line, from a place on. -/
def Ge.locs (g : Ge) (line : Nat) : Nat → Nat → List UInt8
  | 0, _ => []
  | n + 1, l => (if g.line l = line then [UInt8.ofNat l] else []) ++ g.locs line n (l + 1)
structure LcSt (bs : List (Nat × Array Value × TypeId)) (w : World) (v : Value) (l : List UInt8) (W : World) : Prop where
  st : St bs w W
  row : W.ownsRow (w.heap.size + 1) 5 1 v l.length (l.map u8v)
  big : w.heap.size + 1 ≤ W.heap.size
  old : ∀ x ∈ bs, x.1 ≤ w.heap.size
  g7 : 7 ≤ w.heap.size
section
variable {bs : List (Nat × Array Value × TypeId)} {w W W' : World} {v v' : Value} {l news : List UInt8} {o : Obj}
theorem LcSt.next (h : LcSt bs w v l W) (hb : Below W.heap.size W W') : LcSt bs w v l W' :=
  ⟨h.st.next hb, h.row.kept (only_of_below hb none) (by cases hv : v.ownBlock <;> simp), Nat.le_trans h.big hb.size, h.old, h.g7⟩
theorem LcSt.append (h : LcSt bs w v l W) (hown : W'.ownsRow (w.heap.size + 1) 5 1 v' (l.length + news.length) (l.map u8v ++ news.map u8v)) (hg : (W.alloc o).grownBy W' v.ownBlock) : LcSt bs w v' (l ++ news) W' := by
  have hB : Below (w.heap.size + 1) W W' := ((Below.refl _ W).alloc h.big o).grown hg (by have := h.big; simp; omega) (fun k hk => (h.row.lt k hk).1)
  refine ⟨⟨h.st.g.below hB (by have := h.g7; omega), h.st.b.trans (hB.mono (by omega)), fun x hx => ?_⟩, by rw [List.length_append, List.map_append]; exact hown, Nat.le_trans h.big hB.size, h.old, h.g7⟩
  rw [hB.block _ (by have := h.old x hx; omega)]
  exact h.st.h x hx
theorem rgeo_lc (g : Ge) (h : Hid (LcSt bs w v l W)) : Calls Tryd.prog 64 #[.agg g.arr] W fun e w' => e = .returned (.bool g.ok) ∧ Hid (LcSt bs w v l w') :=
  (rgeo_ok g W h.out.st.g).mono fun _ _ ⟨e, hb⟩ => ⟨e, Lib.hid (h.out.next hb)⟩
theorem rline_lc (g : Ge) (j : Nat) (hj : j < 256) (h : Hid (LcSt bs w v l W)) : Calls Tryd.prog 98 #[.agg g.arr, .int .u8 j] W fun e w' => e = .returned (.int .u8 (g.line j)) ∧ Hid (LcSt bs w v l w') :=
  (rline_any g j hj W h.out.st.g).mono fun _ _ ⟨e, hb⟩ => ⟨e, Lib.hid (h.out.next hb)⟩
end
/-- A slice of so many elements. -/
def Many (w : World) (n : Nat) (e : Ending) (w' : World) : Prop := ∃ A cap, e = .returned (.slice A n cap) ∧ Below w.heap.size w w'
set_option maxHeartbeats 4000000 in
set_option maxRecDepth 100000 in
theorem rlocs_any (g : Ge) (line : Nat) (hl : line < 256) (w : World) (hG : GlobM w) : Calls Tryd.prog 85 #[.agg g.arr, .int .u8 line] w (Many w (if g.ok = true then (g.locs line 6 0).length else 0)) := by
  obtain ⟨i0, hi, hz0, hz1, hz2⟩ := info_parts byteInfoU
  have HS0 := Lib.hid ((St.start hG).boxT g.arr 39 rfl)
  generalize hbA : w.heap.size = bA at HS0
  have HBA := Lib.hid hbA
  obtain ⟨ok, hok⟩ : ∃ ok, g.ok = ok := ⟨_, rfl⟩
  have HGO := Lib.hid (fun (bs : List (Nat × Array Value × TypeId)) (v : Value) (l : List UInt8) (W : World) (h : Hid (LcSt bs w v l W)) => rgeo_lc g h)
  rw [hok] at HGO ⊢
  have h7 : 7 ≤ w.heap.size := hG.g.size
  clear hG hok
  generalize hN : (if ok = true then (g.locs line 6 0).length else 0) = N
  have HN := Lib.hid hN.symm
  clear hN
  go_enter Tryd.func85, Tryd.ntmps85
  go_wp2_with (first | (refine wpl_box rfl 39 (.tmp 0) rfl g.arr rfl ?_; rw [hbA]; intro w0 hw0; have HS := (show Hid (LcSt [(bA, g.arr, 39)] w (.slice none 0 0) [] w0) from Lib.hid ⟨by rw [hw0.out]; exact HS0.out, ⟨rfl, .inl ⟨rfl, rfl⟩⟩, by rw [hw0.out]; simp, fun x hx => by rw [List.mem_singleton] at hx; subst hx; show bA ≤ _; omega, h7⟩); clear hw0 HS0) | fail)
  clear hbA
  go_loopw [5, 6] (fun v i wr => ∃ (j : Nat) (acc : List UInt8), j ≤ 6 ∧ i = .int .u8 j ∧ acc.length ≤ j ∧ Hid (g.locs line 6 0 = acc ++ g.locs line (6 - j) j) ∧ Hid (ok = false → acc = []) ∧ Hid (LcSt [(bA, g.arr, 39)] w v acc wr)) (fun _ i _ => 6 - (intOf i).toNat)
  case atStart => exact ⟨0, [], by omega, rfl, Nat.le_refl _, Lib.hid rfl, Lib.hid (fun _ => rfl), HS⟩
  case round =>
    clear HS
    obtain ⟨j, acc, hj, rfl, hacc, HE, HZ, HS⟩ := hrel
    have hlk : line < 256 := hl
    by_cases hlt : j < 6
    · have q1 : decide ((j : Int) < 6) = true := by simp; omega
      go_wp2_with (first | (refine wpl_ld39 rfl (.tmp 2) rfl bA g rfl (HS.out.st.h (bA, g.arr, 39) (by simp)) ?_) | fail)
      go_at_call 64
      refine (HGO.out _ _ _ _ HS).mono ?_
      rintro e w1 ⟨rfl, HS1⟩
      clear HS
      cases ok
      · have hz := HZ.out rfl
        subst hz
        obtain ⟨hv, _⟩ | ⟨g', cap', cur, hv, _⟩ := HS1.out.row.2
        · subst hv
          go_wp2
          go_ret
          exact ⟨_, _, by rw [HN.out]; rfl, HS1.out.st.b⟩
        · subst hv
          go_wp2
          go_ret
          exact ⟨_, _, by rw [HN.out]; rfl, HS1.out.st.b⟩
      · go_wp2_with (first | (refine wpl_ld39 rfl (.tmp 2) rfl bA g rfl (HS1.out.st.h (bA, g.arr, 39) (by simp)) ?_) | fail)
        go_at_call 98
        refine (rline_lc g j (by omega) HS1).mono ?_
        rintro e w2 ⟨rfl, HS2⟩
        clear HS1
        have hstep : g.locs line (6 - j) j = (if g.line j = line then [UInt8.ofNat j] else []) ++ g.locs line (6 - (j + 1)) (j + 1) := by
          rw [show 6 - j = (6 - (j + 1)) + 1 by omega]; rfl
        by_cases hq : g.line j = line
        · have q2 : ((g.line j : Int) == (line : Int)) = true := by rw [beq_iff_eq]; omega
          have HE2 : Hid (g.locs line 6 0 = (acc ++ [UInt8.ofNat j]) ++ g.locs line (6 - (j + 1)) (j + 1)) := by show _ = _; rw [HE.out, hstep, if_pos hq]; simp
          have hu : Hid ((Value.int .u8 (j : Int)) = u8v (UInt8.ofNat j)) := by show _ = _; unfold u8v; rw [UInt8.toNat_ofNat']; congr 1; omega
          clear hstep hq
          go_wp2_with (first | (at_builtin; refine wpList_append_lies _ rfl _ _ _ rfl (w.heap.size + 1) 5 i0 _ 1 1 Tryd.underlying29 hi hz0 hz1 hz2 rfl (by omega) _ _ _ rfl (HS2.out.row.alloc _) ⟨_, 0, none⟩ 1 1 ([UInt8.ofNat j].map u8v) rfl rfl (by rw [show ([UInt8.ofNat j].map u8v) = [Value.int .u8 (j : Int)] from by rw [hu.out]; rfl]; exact World.news_of_block (t := 5) (fr := (0, 0)) (heap_alloc_new _ _)) (by simp [Value.oneCell', u8v]) (by omega) (by unfold maxLen; omega) (by omega) (by have := HS2.out.big; simp; omega) _ rfl ?_; intro gg cap w1' hown1 hgrow hat hlt1; have HS3 := Lib.hid (HS2.out.append (news := [UInt8.ofNat j]) hown1 hgrow); clear hown1 hgrow hat hlt1) | fail)
          exact ⟨⟨j + 1, acc ++ [UInt8.ofNat j], by omega, by go_num, by simp; omega, HE2, Lib.hid (fun h => by cases h), HS3⟩, by simp [intOf]; omega⟩
        · have q2 : ((g.line j : Int) == (line : Int)) = false := by rw [beq_eq_false_iff_ne]; omega
          have HE2 : Hid (g.locs line 6 0 = acc ++ g.locs line (6 - (j + 1)) (j + 1)) := by show _ = _; rw [HE.out, hstep, if_neg hq]; rfl
          clear hstep hq
          go_wp2_with fail
          exact ⟨⟨j + 1, acc, by omega, by go_num, by omega, HE2, Lib.hid (fun h => by cases h), HS2⟩, by simp [intOf]; omega⟩
    · obtain rfl : j = 6 := by omega
      have q1 : decide (((6 : Nat) : Int) < 6) = false := by simp
      have HL : Hid (acc.length = N) := by
        show _ = _
        rw [HN.out]
        cases ok
        · rw [HZ.out rfl]; rfl
        · rw [if_pos rfl, HE.out]; simp [Ge.locs]
      obtain ⟨hv, h0⟩ | ⟨g', cap', cur, hv, _⟩ := HS.out.row.2
      · subst hv
        have HL0 := Lib.hid h0
        clear h0
        go_wp2
        go_ret
        exact ⟨none, 0, by rw [← HL.out, HL0.out]; rfl, HS.out.st.b⟩
      · subst hv
        go_wp2
        go_ret
        exact ⟨_, _, by rw [← HL.out]; rfl, HS.out.st.b⟩
end Go.Proofs.YthllacodjeocmaaDoor
