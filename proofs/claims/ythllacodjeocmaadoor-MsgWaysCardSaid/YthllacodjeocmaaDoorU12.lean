/- What a kind may carry. -/
import Derived.Test.YthllacodjeocmaaDoorU11
namespace Go.Proofs.YthllacodjeocmaaDoor
open Go.RowKit
attribute [local go_sem] Oper.semAt_some
/-- A kind may carry what a bit stands for. -/
def mayB (k : UInt8) (bit : Nat) : Bool := bits .and .i64 (bitsOf k.toNat) bit != 0
set_option maxHeartbeats 1000000 in
set_option maxRecDepth 100000 in
theorem may_any (m : Mg) (bit : Nat) (h : m.k.toNat < 13) (w : World) (hG : GlobM w) : Calls Tryd.prog 70 #[.agg (boxOf m), .int .i64 bit] w fun e w' => e = .returned (.bool (mayB m.k bit)) ∧ Below w.heap.size w w' := by
  have c0 : (w.alloc (.cells (boxOf m) 63)).cell? ⟨w.heap.size, 0, none⟩ = some (.int .u8 m.k.toNat) := cell_of_heap (heap_alloc_new _ _)
  have hB : Below w.heap.size w (w.alloc (.cells (boxOf m) 63)) := (Below.refl _ w).alloc (Nat.le_refl _) _
  obtain ⟨n0, _, _⟩ := (hG.next hB).n.at h
  have HB := Lib.hid hB
  have hk0 : (0 : Int) ≤ m.k.toNat := by omega
  have hk1 : (m.k.toNat : Int) < 13 := by omega
  clear hG hB
  obtain ⟨r, hr⟩ : ∃ r, mayB m.k bit = r := ⟨_, rfl⟩
  have HR := Lib.hid hr
  rw [hr]
  clear hr
  go_enter Tryd.func70, Tryd.ntmps70
  go_wp2_with (first | (refine wpl_box rfl 63 (.tmp 0) rfl (boxOf m) rfl ?_; intro w0 hw0; have hw1 := hw0.out; clear hw0; subst hw1) | fail)
  go_ret
  exact ⟨by rw [← HR.out]; rfl, HB.out⟩
theorem msgSize63 : (Tryd.prog.info? 63).map (·.size) = some 11 := by kernel_rfl
theorem wpl_ld63 {ops : Array Oper} {rest : List Oper} {o : Oper} {a : Act} {W : World} {Q : Exit → Act → World → Prop} (hw : Region.wanted o (yielded ops a.tmps) = true) (x : Operand) (ho : o.op = .load 63 x) (b : Nat) (m : Mg) (hx : a.eval x = .pointer (some ⟨b, 0, none⟩)) (h : W.heap[b]? = some (.cells (boxOf m) 63)) (k : wpList Tryd.prog ops Q rest (a.put o.dst (.agg (boxOf m))) W) : wpList Tryd.prog ops Q (o :: rest) a W := by
  unfold wpList
  rw [if_pos hw]
  exact .inl (wp_load_row 63 x ho b hx 63 (boxOf m) (0, 0) _ h Tryd.underlying63 rfl (by rw [msgSize63]; rfl) k)
section
variable {bs : List (Nat × Array Value × TypeId)} {w W : World}
theorem mcells (m : Mg) (T b : Nat) (h : Hid (St bs w W)) (hm : (b, boxOf m, T) ∈ bs) : W.cell? ⟨b, 1, none⟩ = some (.int .u8 m.f.toNat) ∧ W.cell? ⟨b, 2, none⟩ = some (.int .u8 m.t.toNat) ∧ W.cell? ⟨b, 3, none⟩ = some (.int .u8 m.l.toNat) :=
  ⟨cell_of_heap (h.out.h _ hm), cell_of_heap (h.out.h _ hm), cell_of_heap (h.out.h _ hm)⟩
theorem may_st (m : Mg) (bit : Nat) (hk : m.k.toNat < 13) (h : Hid (St bs w W)) : Calls Tryd.prog 70 #[.agg (boxOf m), .int .i64 bit] W fun e w' => e = .returned (.bool (mayB m.k bit)) ∧ Hid (St bs w w') :=
  (may_any m bit hk W h.out.g).mono fun _ _ ⟨e, hb⟩ => ⟨e, Lib.hid (h.out.next hb)⟩
theorem home_st (g : Ge) (n : Nat) (h : Hid (St bs w W)) : Calls Tryd.prog 20 #[.agg g.arr, .int .u8 n] W fun e w' => e = .returned (.int .u8 (g.home n)) ∧ Hid (St bs w w') :=
  (home_any g n W).mono fun _ _ ⟨e, hb⟩ => ⟨e, Lib.hid (h.out.next hb)⟩
theorem cache_st (g : Ge) (n : Nat) (hn : n < 256) (h : Hid (St bs w W)) : Calls Tryd.prog 23 #[.agg g.arr, .int .u8 n] W fun e w' => e = .returned (.bool (g.isCache n)) ∧ Hid (St bs w w') :=
  (iscache_any g n hn W).mono fun _ _ ⟨e, hb⟩ => ⟨e, Lib.hid (h.out.next hb)⟩
end
end Go.Proofs.YthllacodjeocmaaDoor
