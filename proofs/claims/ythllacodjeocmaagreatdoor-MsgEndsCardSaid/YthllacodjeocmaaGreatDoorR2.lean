/- Read, walked for eleven bytes. -/
import Derived.Test.YthllacodjeocmaaGreatDoorR1
namespace Go.Proofs.YthllacodjeocmaaGreatDoor
open Go.RowKit
attribute [local go_sem] Oper.semAt_some
set_option maxHeartbeats 4000000 in
set_option maxRecDepth 100000 in
theorem read_full (b o cap : Nat) (hcap : 11 ≤ cap) (k f t ln a c x d0 d1 d2 d3 : UInt8) (w : World) (hB : Hid (BytesO w b o [k, f, t, ln, a, c, x, d0, d1, d2, d3])) :
    Calls Tryz.prog 31 #[.slice (some ⟨b, o, none⟩) 11 cap] w fun e w' => e = .returned (.tuple #[(readOf [k, f, t, ln, a, c, x, d0, d1, d2, d3]).1.val, .bool (readOf [k, f, t, ln, a, c, x, d0, d1, d2, d3]).2]) ∧ Below w.heap.size w w' := by
  have e0 : w.cell? ⟨b, o, none⟩ = some (.int .u8 k.toNat) := hB.out 0 k rfl
  have e1 : w.cell? ⟨b, o + 1, none⟩ = some (.int .u8 f.toNat) := hB.out 1 f rfl
  have e2 : w.cell? ⟨b, o + 2, none⟩ = some (.int .u8 t.toNat) := hB.out 2 t rfl
  have e3 : w.cell? ⟨b, o + 3, none⟩ = some (.int .u8 ln.toNat) := hB.out 3 ln rfl
  have e4 : w.cell? ⟨b, o + 4, none⟩ = some (.int .u8 a.toNat) := hB.out 4 a rfl
  have e5 : w.cell? ⟨b, o + 5, none⟩ = some (.int .u8 c.toNat) := hB.out 5 c rfl
  have e6 : w.cell? ⟨b, o + 6, none⟩ = some (.int .u8 x.toNat) := hB.out 6 x rfl
  have e7 : w.cell? ⟨b, o + 7, none⟩ = some (.int .u8 d0.toNat) := hB.out 7 d0 rfl
  have e8 : w.cell? ⟨b, o + 8, none⟩ = some (.int .u8 d1.toNat) := hB.out 8 d1 rfl
  have e9 : w.cell? ⟨b, o + 9, none⟩ = some (.int .u8 d2.toNat) := hB.out 9 d2 rfl
  have e10 : w.cell? ⟨b, o + 10, none⟩ = some (.int .u8 d3.toNat) := hB.out 10 d3 rfl
  have HR := Lib.hid (readOf_full k f t ln a c x d0 d1 d2 d3)
  obtain ⟨q, hq⟩ : ∃ q, ((x.toNat : Int) == 1) = q := ⟨_, rfl⟩
  rw [hq] at HR
  go_enter Tryz.func31, Tryz.ntmps31
  go_wp2_with fail
  have hb0 : Below w.heap.size w (w.alloc (.cells #[.int .u8 0, .int .u8 0, .int .u8 0, .int .u8 0, .int .u8 0, .int .u8 0, .bool false, .int .u8 0, .int .u8 0, .int .u8 0, .int .u8 0] 27)) := (Below.refl _ w).alloc (Nat.le_refl _) _
  have hh0 : (w.alloc (.cells #[.int .u8 0, .int .u8 0, .int .u8 0, .int .u8 0, .int .u8 0, .int .u8 0, .bool false, .int .u8 0, .int .u8 0, .int .u8 0, .int .u8 0] 27)).heap[w.heap.size]? = some (.cells #[.int .u8 0, .int .u8 0, .int .u8 0, .int .u8 0, .int .u8 0, .int .u8 0, .bool false, .int .u8 0, .int .u8 0, .int .u8 0, .int .u8 0] 27) := heap_alloc_new w _
  have hz0 : w.heap.size < (w.alloc (.cells #[.int .u8 0, .int .u8 0, .int .u8 0, .int .u8 0, .int .u8 0, .int .u8 0, .bool false, .int .u8 0, .int .u8 0, .int .u8 0, .int .u8 0] 27)).heap.size := by simp
  have hB0 := Lib.hid (hB.out.below hb0)
  generalize w.alloc (.cells #[.int .u8 0, .int .u8 0, .int .u8 0, .int .u8 0, .int .u8 0, .int .u8 0, .bool false, .int .u8 0, .int .u8 0, .int .u8 0, .int .u8 0] 27) = w0 at hb0 hh0 hz0 hB0 ⊢
  have hb0 := Lib.hid hb0
  clear e0 e1 e2 e3 e4 e5 e6 e7 e8 e9 e10
  have e0 : w0.cell? ⟨b, o, none⟩ = some (.int .u8 k.toNat) := hB0.out 0 k rfl
  have e1 : w0.cell? ⟨b, o + 1, none⟩ = some (.int .u8 f.toNat) := hB0.out 1 f rfl
  have e2 : w0.cell? ⟨b, o + 2, none⟩ = some (.int .u8 t.toNat) := hB0.out 2 t rfl
  have e3 : w0.cell? ⟨b, o + 3, none⟩ = some (.int .u8 ln.toNat) := hB0.out 3 ln rfl
  have e4 : w0.cell? ⟨b, o + 4, none⟩ = some (.int .u8 a.toNat) := hB0.out 4 a rfl
  have e5 : w0.cell? ⟨b, o + 5, none⟩ = some (.int .u8 c.toNat) := hB0.out 5 c rfl
  have e6 : w0.cell? ⟨b, o + 6, none⟩ = some (.int .u8 x.toNat) := hB0.out 6 x rfl
  have e7 : w0.cell? ⟨b, o + 7, none⟩ = some (.int .u8 d0.toNat) := hB0.out 7 d0 rfl
  have e8 : w0.cell? ⟨b, o + 8, none⟩ = some (.int .u8 d1.toNat) := hB0.out 8 d1 rfl
  have e9 : w0.cell? ⟨b, o + 9, none⟩ = some (.int .u8 d2.toNat) := hB0.out 9 d2 rfl
  have e10 : w0.cell? ⟨b, o + 10, none⟩ = some (.int .u8 d3.toNat) := hB0.out 10 d3 rfl
  have e8' : w0.cell? ⟨b, o + 7 + 1, none⟩ = some (.int .u8 d1.toNat) := e8
  have e9' : w0.cell? ⟨b, o + 7 + 2, none⟩ = some (.int .u8 d2.toNat) := e9
  have e10' : w0.cell? ⟨b, o + 7 + 3, none⟩ = some (.int .u8 d3.toNat) := e10
  have hbl : b < w0.heap.size := cell_lt e0
  have hc7 : ¬ cap = 7 := by omega
  have hat : ∀ w', (Instr.arrayAt 25 (.slice (some ⟨b, o + 7, none⟩) 4 (cap - 7))).run Tryz.prog w' = .ok (.pointer (some ⟨b, o + 7, none⟩)) w' := fun w' => run_arrayAt w' 25 5 4 _ 4 _ Tryz.underlying25 (Nat.le_refl _)
  go_region_held3 (fun w' => w'.cell? ⟨b, o, none⟩ = some (.int .u8 k.toNat) ∧ w'.cell? ⟨b, o + 1, none⟩ = some (.int .u8 f.toNat) ∧ w'.cell? ⟨b, o + 2, none⟩ = some (.int .u8 t.toNat) ∧ w'.cell? ⟨b, o + 3, none⟩ = some (.int .u8 ln.toNat) ∧ w'.cell? ⟨b, o + 4, none⟩ = some (.int .u8 a.toNat) ∧ w'.cell? ⟨b, o + 5, none⟩ = some (.int .u8 c.toNat) ∧ w'.cell? ⟨b, o + 6, none⟩ = some (.int .u8 x.toNat) ∧ w'.cell? ⟨b, o + 7, none⟩ = some (.int .u8 d0.toNat) ∧ w'.cell? ⟨b, o + 8, none⟩ = some (.int .u8 d1.toNat) ∧ w'.cell? ⟨b, o + 9, none⟩ = some (.int .u8 d2.toNat) ∧ w'.cell? ⟨b, o + 10, none⟩ = some (.int .u8 d3.toNat))
    (first | exact ⟨e0, e1, e2, e3, e4, e5, e6, e7, e8, e9, e10⟩ | exact ⟨cell?_alloc_old _ e0, cell?_alloc_old _ e1, cell?_alloc_old _ e2, cell?_alloc_old _ e3, cell?_alloc_old _ e4, cell?_alloc_old _ e5, cell?_alloc_old _ e6, cell?_alloc_old _ e7, cell?_alloc_old _ e8, cell?_alloc_old _ e9, cell?_alloc_old _ e10⟩)
    (first | fail)
  all_goals
    have hb1 := (hb0.out.alloc (Nat.le_of_lt hz0) (.cells #[.int .u8 k.toNat, .int .u8 f.toNat, .int .u8 t.toNat, .int .u8 ln.toNat, .int .u8 a.toNat, .int .u8 c.toNat, .bool q, .int .u8 d0.toNat, .int .u8 d1.toNat, .int .u8 d2.toNat, .int .u8 d3.toNat] 27))
    have hb1 : Hid (Below w.heap.size w (w0.alloc (.cells #[.int .u8 k.toNat, .int .u8 f.toNat, .int .u8 t.toNat, .int .u8 ln.toNat, .int .u8 a.toNat, .int .u8 c.toNat, .bool q, .int .u8 d0.toNat, .int .u8 d1.toNat, .int .u8 d2.toNat, .int .u8 d3.toNat] 27)).drew) := Lib.hid ⟨hb1.os, hb1.tape, hb1.output, hb1.size, hb1.block⟩
    have hh1 : (w0.alloc (.cells #[.int .u8 k.toNat, .int .u8 f.toNat, .int .u8 t.toNat, .int .u8 ln.toNat, .int .u8 a.toNat, .int .u8 c.toNat, .bool q, .int .u8 d0.toNat, .int .u8 d1.toNat, .int .u8 d2.toNat, .int .u8 d3.toNat] 27)).drew.heap[w0.heap.size]? = some (.cells #[.int .u8 k.toNat, .int .u8 f.toNat, .int .u8 t.toNat, .int .u8 ln.toNat, .int .u8 a.toNat, .int .u8 c.toNat, .bool q, .int .u8 d0.toNat, .int .u8 d1.toNat, .int .u8 d2.toNat, .int .u8 d3.toNat] 27) := heap_alloc_new w0 _
    have hz1 : w0.heap.size < (w0.alloc (.cells #[.int .u8 k.toNat, .int .u8 f.toNat, .int .u8 t.toNat, .int .u8 ln.toNat, .int .u8 a.toNat, .int .u8 c.toNat, .bool q, .int .u8 d0.toNat, .int .u8 d1.toNat, .int .u8 d2.toNat, .int .u8 d3.toNat] 27)).drew.heap.size := by show w0.heap.size < (w0.alloc _).heap.size; simp
    have hh1r : (w0.alloc (.cells #[.int .u8 k.toNat, .int .u8 f.toNat, .int .u8 t.toNat, .int .u8 ln.toNat, .int .u8 a.toNat, .int .u8 c.toNat, .bool q, .int .u8 d0.toNat, .int .u8 d1.toNat, .int .u8 d2.toNat, .int .u8 d3.toNat] 27)).drew.heap[w.heap.size]? = some (.cells #[.int .u8 0, .int .u8 0, .int .u8 0, .int .u8 0, .int .u8 0, .int .u8 0, .bool false, .int .u8 0, .int .u8 0, .int .u8 0, .int .u8 0] 27) := (Below.heap_alloc w0 _ _ hz0).trans hh0
    generalize (w0.alloc (.cells #[.int .u8 k.toNat, .int .u8 f.toNat, .int .u8 t.toNat, .int .u8 ln.toNat, .int .u8 a.toNat, .int .u8 c.toNat, .bool q, .int .u8 d0.toNat, .int .u8 d1.toNat, .int .u8 d2.toNat, .int .u8 d3.toNat] 27)).drew = w1 at hb1 hh1 hz1 hh1r ⊢
    have r0 : w1.cell? ⟨w0.heap.size, 0, none⟩ = some (.int .u8 k.toNat) := cell_of_heap (i := 0) hh1
    have r1 : w1.cell? ⟨w0.heap.size, 1, none⟩ = some (.int .u8 f.toNat) := cell_of_heap (i := 1) hh1
    have r2 : w1.cell? ⟨w0.heap.size, 2, none⟩ = some (.int .u8 t.toNat) := cell_of_heap (i := 2) hh1
    have r3 : w1.cell? ⟨w0.heap.size, 3, none⟩ = some (.int .u8 ln.toNat) := cell_of_heap (i := 3) hh1
    have r4 : w1.cell? ⟨w0.heap.size, 4, none⟩ = some (.int .u8 a.toNat) := cell_of_heap (i := 4) hh1
    have r5 : w1.cell? ⟨w0.heap.size, 5, none⟩ = some (.int .u8 c.toNat) := cell_of_heap (i := 5) hh1
    have r6 : w1.cell? ⟨w0.heap.size, 6, none⟩ = some (.bool q) := cell_of_heap (i := 6) hh1
    have r7 : w1.cell? ⟨w0.heap.size, 7, none⟩ = some (.int .u8 d0.toNat) := cell_of_heap (i := 7) hh1
    have r8 : w1.cell? ⟨w0.heap.size, 8, none⟩ = some (.int .u8 d1.toNat) := cell_of_heap (i := 8) hh1
    have r9 : w1.cell? ⟨w0.heap.size, 9, none⟩ = some (.int .u8 d2.toNat) := cell_of_heap (i := 9) hh1
    have r10 : w1.cell? ⟨w0.heap.size, 10, none⟩ = some (.int .u8 d3.toNat) := cell_of_heap (i := 10) hh1
    have HBy := Lib.hid (fun W => bytes_any ⟨k, f, t, ln, a, c, q, d0, d1, d2, d3⟩ W)
    go_wp2_with fail
    go_at_call 12
    refine (HBy.out _).mono ?_
    rintro e w2 ⟨g, cg, rfl, hA, hb2⟩
    have hb3 := Lib.hid (hb1.out.trans (hb2.mono hb1.out.size))
    obtain ⟨hc2, hf2⟩ := bcell hb2
    have hh2 : w2.heap[w0.heap.size]? = some (.cells #[.int .u8 k.toNat, .int .u8 f.toNat, .int .u8 t.toNat, .int .u8 ln.toNat, .int .u8 a.toNat, .int .u8 c.toNat, .bool q, .int .u8 d0.toNat, .int .u8 d1.toNat, .int .u8 d2.toNat, .int .u8 d3.toNat] 27) := (hb2.block _ hz1).trans hh1
    have hh3 : w2.heap[w.heap.size]? = some (.cells #[.int .u8 0, .int .u8 0, .int .u8 0, .int .u8 0, .int .u8 0, .int .u8 0, .bool false, .int .u8 0, .int .u8 0, .int .u8 0, .int .u8 0] 27) := (hb2.block _ (by omega)).trans hh1r
    have E := equal_any g 0 cg b o cap 11 11 (bytesOf ⟨k, f, t, ln, a, c, q, d0, d1, d2, d3⟩) [k, f, t, ln, a, c, x, d0, d1, d2, d3] w2 hA.o (hB.out.below hb3.out) rfl rfl
    have E := Lib.hid E
    clear hA hb2 hc2 hf2 hz1 hh1 r0 r1 r2 r3 r4 r5 r6 r7 r8 r9 r10
    go_wp2_with fail
    go_at_call 51
    refine E.out.mono ?_
    rintro e w3 ⟨rfl, rfl⟩
    clear E
    generalize (bytesOf ⟨k, f, t, ln, a, c, q, d0, d1, d2, d3⟩ == [k, f, t, ln, a, c, x, d0, d1, d2, d3]) = bb at HR ⊢
    have r0 : w2.cell? ⟨w.heap.size, 0, none⟩ = some (.int .u8 0) := cell_of_heap (i := 0) hh3
    have g0 : w2.frozen? ⟨w.heap.size, 0, none⟩ = false := free_of_heap (i := 0) hh3
    have r1 : w2.cell? ⟨w.heap.size, 1, none⟩ = some (.int .u8 0) := cell_of_heap (i := 1) hh3
    have g1 : w2.frozen? ⟨w.heap.size, 1, none⟩ = false := free_of_heap (i := 1) hh3
    have r2 : w2.cell? ⟨w.heap.size, 2, none⟩ = some (.int .u8 0) := cell_of_heap (i := 2) hh3
    have g2 : w2.frozen? ⟨w.heap.size, 2, none⟩ = false := free_of_heap (i := 2) hh3
    have r3 : w2.cell? ⟨w.heap.size, 3, none⟩ = some (.int .u8 0) := cell_of_heap (i := 3) hh3
    have g3 : w2.frozen? ⟨w.heap.size, 3, none⟩ = false := free_of_heap (i := 3) hh3
    have r4 : w2.cell? ⟨w.heap.size, 4, none⟩ = some (.int .u8 0) := cell_of_heap (i := 4) hh3
    have g4 : w2.frozen? ⟨w.heap.size, 4, none⟩ = false := free_of_heap (i := 4) hh3
    have r5 : w2.cell? ⟨w.heap.size, 5, none⟩ = some (.int .u8 0) := cell_of_heap (i := 5) hh3
    have g5 : w2.frozen? ⟨w.heap.size, 5, none⟩ = false := free_of_heap (i := 5) hh3
    have r6 : w2.cell? ⟨w.heap.size, 6, none⟩ = some (.bool false) := cell_of_heap (i := 6) hh3
    have g6 : w2.frozen? ⟨w.heap.size, 6, none⟩ = false := free_of_heap (i := 6) hh3
    have r7 : w2.cell? ⟨w.heap.size, 7, none⟩ = some (.int .u8 0) := cell_of_heap (i := 7) hh3
    have g7 : w2.frozen? ⟨w.heap.size, 7, none⟩ = false := free_of_heap (i := 7) hh3
    have r8 : w2.cell? ⟨w.heap.size, 8, none⟩ = some (.int .u8 0) := cell_of_heap (i := 8) hh3
    have g8 : w2.frozen? ⟨w.heap.size, 8, none⟩ = false := free_of_heap (i := 8) hh3
    have r9 : w2.cell? ⟨w.heap.size, 9, none⟩ = some (.int .u8 0) := cell_of_heap (i := 9) hh3
    have g9 : w2.frozen? ⟨w.heap.size, 9, none⟩ = false := free_of_heap (i := 9) hh3
    have r10 : w2.cell? ⟨w.heap.size, 10, none⟩ = some (.int .u8 0) := cell_of_heap (i := 10) hh3
    have g10 : w2.frozen? ⟨w.heap.size, 10, none⟩ = false := free_of_heap (i := 10) hh3
    cases bb
    · go_wp2
      have hw1 := stored11 hh3 (.int .u8 0) (.int .u8 0) (.int .u8 0) (.int .u8 0) (.int .u8 0) (.int .u8 0) (.bool false) (.int .u8 0) (.int .u8 0) (.int .u8 0) (.int .u8 0)
      have hw2 := below11 hb3.out (Nat.le_refl _) (.int .u8 0) (.int .u8 0) (.int .u8 0) (.int .u8 0) (.int .u8 0) (.int .u8 0) (.bool false) (.int .u8 0) (.int .u8 0) (.int .u8 0) (.int .u8 0)
      exact bodyPost_ret (v := .tuple #[zeroM.val, .bool false]) (results12_run _ _ w.heap.size zeroM false rfl rfl hw1) rfl ⟨by rw [HR.out]; rfl, hw2⟩
    · have p0 : w2.cell? ⟨w0.heap.size, 0, none⟩ = some (.int .u8 k.toNat) := cell_of_heap (i := 0) hh2
      have p1 : w2.cell? ⟨w0.heap.size, 1, none⟩ = some (.int .u8 f.toNat) := cell_of_heap (i := 1) hh2
      have p2 : w2.cell? ⟨w0.heap.size, 2, none⟩ = some (.int .u8 t.toNat) := cell_of_heap (i := 2) hh2
      have p3 : w2.cell? ⟨w0.heap.size, 3, none⟩ = some (.int .u8 ln.toNat) := cell_of_heap (i := 3) hh2
      have p4 : w2.cell? ⟨w0.heap.size, 4, none⟩ = some (.int .u8 a.toNat) := cell_of_heap (i := 4) hh2
      have p5 : w2.cell? ⟨w0.heap.size, 5, none⟩ = some (.int .u8 c.toNat) := cell_of_heap (i := 5) hh2
      have p6 : w2.cell? ⟨w0.heap.size, 6, none⟩ = some (.bool q) := cell_of_heap (i := 6) hh2
      have p7 : w2.cell? ⟨w0.heap.size, 7, none⟩ = some (.int .u8 d0.toNat) := cell_of_heap (i := 7) hh2
      have p8 : w2.cell? ⟨w0.heap.size, 8, none⟩ = some (.int .u8 d1.toNat) := cell_of_heap (i := 8) hh2
      have p9 : w2.cell? ⟨w0.heap.size, 9, none⟩ = some (.int .u8 d2.toNat) := cell_of_heap (i := 9) hh2
      have p10 : w2.cell? ⟨w0.heap.size, 10, none⟩ = some (.int .u8 d3.toNat) := cell_of_heap (i := 10) hh2
      go_wp2
      have hw1 := stored11 hh3 (.int .u8 k.toNat) (.int .u8 f.toNat) (.int .u8 t.toNat) (.int .u8 ln.toNat) (.int .u8 a.toNat) (.int .u8 c.toNat) (.bool q) (.int .u8 d0.toNat) (.int .u8 d1.toNat) (.int .u8 d2.toNat) (.int .u8 d3.toNat)
      have hw2 := below11 hb3.out (Nat.le_refl _) (.int .u8 k.toNat) (.int .u8 f.toNat) (.int .u8 t.toNat) (.int .u8 ln.toNat) (.int .u8 a.toNat) (.int .u8 c.toNat) (.bool q) (.int .u8 d0.toNat) (.int .u8 d1.toNat) (.int .u8 d2.toNat) (.int .u8 d3.toNat)
      exact bodyPost_ret (v := .tuple #[(⟨k, f, t, ln, a, c, q, d0, d1, d2, d3⟩ : Mg).val, .bool true]) (results12_run _ _ w.heap.size ⟨k, f, t, ln, a, c, q, d0, d1, d2, d3⟩ true rfl rfl hw1) rfl ⟨by rw [HR.out]; rfl, hw2⟩
end Go.Proofs.YthllacodjeocmaaGreatDoor
