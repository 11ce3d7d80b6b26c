/- Less: two messages compared by their bytes. -/
import Derived.Test.YthllacodjeocmaaDoorE0
import Derived.Lib.Bytealg
namespace Go.Proofs.YthllacodjeocmaaDoor
open Go.RowKit
attribute [local go_sem] Oper.semAt_some
theorem loadBytes_run {P : Program} {W : World} {g : Nat} : ∀ (l : List UInt8) (o : Nat) (acc : ByteArray), (∀ (j : Nat) (u : UInt8), l[j]? = some u → W.cell? ⟨g, o + j, none⟩ = some (u8v u)) →
    Sem.run P (Extern.Bytes.loadBytes ⟨g, o, none⟩ l.length acc) W = .ok ⟨acc.data ++ l.toArray⟩ W
  | [], o, acc, _ => by simp [Extern.Bytes.loadBytes, Sem.run_pure]
  | b :: l, o, acc, h => by
    have h0 := h 0 b rfl
    rw [Nat.add_zero] at h0
    have ih := loadBytes_run (P := P) (W := W) (g := g) l (o + 1) (acc.push b) (fun j u hu => by
      have := h (j + 1) u (by simpa using hu)
      rw [show o + 1 + j = o + (j + 1) from by omega]; exact this)
    rw [List.length_cons, Extern.Bytes.loadBytes]
    have hb : (b.toNat : Int).toNat.toUInt8 = b := by simp
    have ha : (⟨g, o, none⟩ : Addr).add 1 = ⟨g, o + 1, none⟩ := rfl
    have hl : Sem.run P (load ⟨g, o, none⟩) W = .ok (u8v b) W := by simp [h0]
    simp only [Sem.run_bind, hl, Result.andThen, u8v, hb, ha]
    rw [ih]
    congr 1
    apply ByteArray.ext
    simp [ByteArray.push]
theorem bytesOf_run {P : Program} {W : World} {g c : Nat} {l : List UInt8} (h : BytesAt W g l) {n : Nat} (hn : n = l.length) : Sem.run P (Extern.Bytes.bytesOf (.slice (some ⟨g, 0, none⟩) n c)) W = .ok ⟨l.toArray⟩ W := by
  subst hn
  have := loadBytes_run (P := P) l 0 .empty (fun j u hu => by rw [Nat.zero_add]; exact h j u hu)
  unfold Extern.Bytes.bytesOf
  rw [this]
  congr 1
  apply ByteArray.ext
  simp
set_option maxRecDepth 100000 in
theorem compare_any (g1 c1 g2 c2 n1 n2 : Nat) (l1 l2 : List UInt8) (w : World) (h1 : BytesAt w g1 l1) (h2 : BytesAt w g2 l2) (e1 : n1 = l1.length) (e2 : n2 = l2.length) :
    Calls Tryd.prog 25 #[.slice (some ⟨g1, 0, none⟩) n1 c1, .slice (some ⟨g2, 0, none⟩) n2 c2] w fun e w' => e = .returned (.int .i64 (Lib.compareBytes l1 l2)) ∧ w = w' := by
  subst e1
  subst e2
  have hr : Sem.run Tryd.prog (Extern.BytealgCompare.compare #[.slice (some ⟨g1, 0, none⟩) l1.length c1, .slice (some ⟨g2, 0, none⟩) l2.length c2]) w = .ok (.int .i64 (Lib.compareBytes l1 l2)) w := by
    change Sem.run Tryd.prog (do pure (goInt (Extern.BytealgCompare.cmp (← Extern.Bytes.bytesOf (.slice (some ⟨g1, 0, none⟩) l1.length c1)) (← Extern.Bytes.bytesOf (.slice (some ⟨g2, 0, none⟩) l2.length c2))))) w = _
    simp only [Sem.run_bind, Sem.run_pure, bytesOf_run h1 rfl, bytesOf_run h2 rfl, Result.andThen]
    rw [Lib.cmp_eq]
    rfl
  go_enter Tryd.func25, Tryd.ntmps25
  go_wp2
  rw [run_callFunc_extern Tryd.func52 (by kernel_rfl) (by kernel_rfl) (by kernel_rfl) (e := Extern.BytealgCompare.compare) (by kernel_rfl), hr]
  simp only [Result.andThen]
  rw [Oper.upon_value]
  go_wp2
  go_ret
  exact ⟨rfl, rfl⟩
/-- Two messages' boxes. -/
structure Two (w : World) (A B : Array Value) (W : World) : Prop where
  h1 : W.heap[w.heap.size]? = some (.cells A 25)
  h2 : W.heap[w.heap.size + 1]? = some (.cells B 25)
  b : Below w.heap.size w W
  big : w.heap.size + 2 ≤ W.heap.size
theorem Two.start (w : World) (A B : Array Value) : Two w A B ((w.alloc (.cells A 25)).alloc (.cells B 25)) :=
  ⟨by rw [Below.heap_alloc _ _ _ (by simp)]; exact heap_alloc_new w _, by have := heap_alloc_new (w.alloc (.cells A 25)) (.cells B 25); simpa using this, ((Below.refl _ w).alloc (Nat.le_refl _) _).alloc (by simp) _, by simp⟩
theorem Two.next {w W W' : World} {A B : Array Value} (h : Two w A B W) (hb : Below W.heap.size W W') : Two w A B W' :=
  ⟨by rw [hb.block _ (by have := h.big; omega)]; exact h.h1, by rw [hb.block _ (by have := h.big; omega)]; exact h.h2, h.b.trans (hb.mono h.b.size), Nat.le_trans h.big hb.size⟩
theorem Two.cellA {w W : World} {A B : Array Value} (h : Two w A B W) (i : Nat) : W.cell? ⟨w.heap.size, i, none⟩ = A[i]? := by
  unfold World.cell?; rw [h.h1]; rfl
theorem Two.cellB {w W : World} {A B : Array Value} (h : Two w A B W) (i : Nat) : W.cell? ⟨w.heap.size + 1, i, none⟩ = B[i]? := by
  unfold World.cell?; rw [h.h2]; rfl
def lessB (m o : Mg) : Bool := decide (Lib.compareBytes (bytesOf m) (bytesOf o) < 0)
theorem bytesOf_len (m : Mg) : (bytesOf m).length = 11 := rfl
set_option maxHeartbeats 2000000 in
set_option maxRecDepth 100000 in
theorem less_any (m o : Mg) (w : World) : Calls Tryd.prog 10 #[m.val, o.val] w fun e w' => e = .returned (.bool (lessB m o)) ∧ Below w.heap.size w w' := by
  have HB1 := Lib.hid (fun W => bytes_any m W)
  have HB2 := Lib.hid (fun W => bytes_any o W)
  have HL : Hid (lessB m o = decide (Lib.compareBytes (bytesOf m) (bytesOf o) < 0)) := Lib.hid rfl
  generalize lessB m o = lb at HL ⊢
  have hl1 := Lib.hid (bytesOf_len m).symm
  have hl2 := Lib.hid (bytesOf_len o).symm
  generalize bytesOf m = bm at HB1 HL hl1
  generalize bytesOf o = bo at HB2 HL hl2
  obtain ⟨k, f, t, l, a, c, al, d0, d1, d2, d3⟩ := m
  obtain ⟨k', f', t', l', a', c', al', e0, e1, e2, e3⟩ := o
  unfold Mg.val at HB1 HB2 ⊢
  simp only at HB1 HB2 ⊢
  go_enter Tryd.func10, Tryd.ntmps10
  go_wp2_with fail
  have HT := Lib.hid (Two.start w #[.int .u8 k.toNat, .int .u8 f.toNat, .int .u8 t.toNat, .int .u8 l.toNat, .int .u8 a.toNat, .int .u8 c.toNat, .bool al, .int .u8 d0.toNat, .int .u8 d1.toNat, .int .u8 d2.toNat, .int .u8 d3.toNat] #[.int .u8 k'.toNat, .int .u8 f'.toNat, .int .u8 t'.toNat, .int .u8 l'.toNat, .int .u8 a'.toNat, .int .u8 c'.toNat, .bool al', .int .u8 e0.toNat, .int .u8 e1.toNat, .int .u8 e2.toNat, .int .u8 e3.toNat])
  generalize hW0 : (w.alloc (.cells #[.int .u8 k.toNat, .int .u8 f.toNat, .int .u8 t.toNat, .int .u8 l.toNat, .int .u8 a.toNat, .int .u8 c.toNat, .bool al, .int .u8 d0.toNat, .int .u8 d1.toNat, .int .u8 d2.toNat, .int .u8 d3.toNat] 25)).alloc (.cells #[.int .u8 k'.toNat, .int .u8 f'.toNat, .int .u8 t'.toNat, .int .u8 l'.toNat, .int .u8 a'.toNat, .int .u8 c'.toNat, .bool al', .int .u8 e0.toNat, .int .u8 e1.toNat, .int .u8 e2.toNat, .int .u8 e3.toNat] 25) = W0 at HT ⊢
  clear hW0
  have p0 : W0.cell? ⟨w.heap.size, 0, none⟩ = some (.int .u8 k.toNat) := by rw [HT.out.cellA]; rfl
  have p1 : W0.cell? ⟨w.heap.size, 1, none⟩ = some (.int .u8 f.toNat) := by rw [HT.out.cellA]; rfl
  have p2 : W0.cell? ⟨w.heap.size, 2, none⟩ = some (.int .u8 t.toNat) := by rw [HT.out.cellA]; rfl
  have p3 : W0.cell? ⟨w.heap.size, 3, none⟩ = some (.int .u8 l.toNat) := by rw [HT.out.cellA]; rfl
  have p4 : W0.cell? ⟨w.heap.size, 4, none⟩ = some (.int .u8 a.toNat) := by rw [HT.out.cellA]; rfl
  have p5 : W0.cell? ⟨w.heap.size, 5, none⟩ = some (.int .u8 c.toNat) := by rw [HT.out.cellA]; rfl
  have p6 : W0.cell? ⟨w.heap.size, 6, none⟩ = some (.bool al) := by rw [HT.out.cellA]; rfl
  have p7 : W0.cell? ⟨w.heap.size, 7, none⟩ = some (.int .u8 d0.toNat) := by rw [HT.out.cellA]; rfl
  have p8 : W0.cell? ⟨w.heap.size, 8, none⟩ = some (.int .u8 d1.toNat) := by rw [HT.out.cellA]; rfl
  have p9 : W0.cell? ⟨w.heap.size, 9, none⟩ = some (.int .u8 d2.toNat) := by rw [HT.out.cellA]; rfl
  have p10 : W0.cell? ⟨w.heap.size, 10, none⟩ = some (.int .u8 d3.toNat) := by rw [HT.out.cellA]; rfl
  have q0 : W0.cell? ⟨w.heap.size + 1, 0, none⟩ = some (.int .u8 k'.toNat) := by rw [HT.out.cellB]; rfl
  have q1 : W0.cell? ⟨w.heap.size + 1, 1, none⟩ = some (.int .u8 f'.toNat) := by rw [HT.out.cellB]; rfl
  have q2 : W0.cell? ⟨w.heap.size + 1, 2, none⟩ = some (.int .u8 t'.toNat) := by rw [HT.out.cellB]; rfl
  have q3 : W0.cell? ⟨w.heap.size + 1, 3, none⟩ = some (.int .u8 l'.toNat) := by rw [HT.out.cellB]; rfl
  have q4 : W0.cell? ⟨w.heap.size + 1, 4, none⟩ = some (.int .u8 a'.toNat) := by rw [HT.out.cellB]; rfl
  have q5 : W0.cell? ⟨w.heap.size + 1, 5, none⟩ = some (.int .u8 c'.toNat) := by rw [HT.out.cellB]; rfl
  have q6 : W0.cell? ⟨w.heap.size + 1, 6, none⟩ = some (.bool al') := by rw [HT.out.cellB]; rfl
  have q7 : W0.cell? ⟨w.heap.size + 1, 7, none⟩ = some (.int .u8 e0.toNat) := by rw [HT.out.cellB]; rfl
  have q8 : W0.cell? ⟨w.heap.size + 1, 8, none⟩ = some (.int .u8 e1.toNat) := by rw [HT.out.cellB]; rfl
  have q9 : W0.cell? ⟨w.heap.size + 1, 9, none⟩ = some (.int .u8 e2.toNat) := by rw [HT.out.cellB]; rfl
  have q10 : W0.cell? ⟨w.heap.size + 1, 10, none⟩ = some (.int .u8 e3.toNat) := by rw [HT.out.cellB]; rfl
  have HTd : Hid (Two w #[.int .u8 k.toNat, .int .u8 f.toNat, .int .u8 t.toNat, .int .u8 l.toNat, .int .u8 a.toNat, .int .u8 c.toNat, .bool al, .int .u8 d0.toNat, .int .u8 d1.toNat, .int .u8 d2.toNat, .int .u8 d3.toNat] #[.int .u8 k'.toNat, .int .u8 f'.toNat, .int .u8 t'.toNat, .int .u8 l'.toNat, .int .u8 a'.toNat, .int .u8 c'.toNat, .bool al', .int .u8 e0.toNat, .int .u8 e1.toNat, .int .u8 e2.toNat, .int .u8 e3.toNat] W0.drew) := Lib.hid (HT.out.next ⟨rfl, rfl, rfl, Nat.le_refl _, fun _ _ => rfl⟩)
  go_region_with (first
    | (go_at_call 14; (with_reducible refine (HB1.out _).mono ?_); rintro e w1 ⟨g1, cap1, rfl, hA1, hb1⟩; have HT1 := Lib.hid (HTd.out.next hb1); have r0 : w1.cell? ⟨w.heap.size + 1, 0, none⟩ = some (.int .u8 k'.toNat) := (by rw [HT1.out.cellB]; rfl); have r1 : w1.cell? ⟨w.heap.size + 1, 1, none⟩ = some (.int .u8 f'.toNat) := (by rw [HT1.out.cellB]; rfl); have r2 : w1.cell? ⟨w.heap.size + 1, 2, none⟩ = some (.int .u8 t'.toNat) := (by rw [HT1.out.cellB]; rfl); have r3 : w1.cell? ⟨w.heap.size + 1, 3, none⟩ = some (.int .u8 l'.toNat) := (by rw [HT1.out.cellB]; rfl); have r4 : w1.cell? ⟨w.heap.size + 1, 4, none⟩ = some (.int .u8 a'.toNat) := (by rw [HT1.out.cellB]; rfl); have r5 : w1.cell? ⟨w.heap.size + 1, 5, none⟩ = some (.int .u8 c'.toNat) := (by rw [HT1.out.cellB]; rfl); have r6 : w1.cell? ⟨w.heap.size + 1, 6, none⟩ = some (.bool al') := (by rw [HT1.out.cellB]; rfl); have r7 : w1.cell? ⟨w.heap.size + 1, 7, none⟩ = some (.int .u8 e0.toNat) := (by rw [HT1.out.cellB]; rfl); have r8 : w1.cell? ⟨w.heap.size + 1, 8, none⟩ = some (.int .u8 e1.toNat) := (by rw [HT1.out.cellB]; rfl); have r9 : w1.cell? ⟨w.heap.size + 1, 9, none⟩ = some (.int .u8 e2.toNat) := (by rw [HT1.out.cellB]; rfl); have r10 : w1.cell? ⟨w.heap.size + 1, 10, none⟩ = some (.int .u8 e3.toNat) := (by rw [HT1.out.cellB]; rfl); have HA1 := Lib.hid hA1; clear hA1 hb1)
    | (go_at_call 14; (with_reducible refine (HB2.out _).mono ?_); rintro e w2 ⟨g2, cap2, rfl, hA2, hb2⟩; have HT2 := Lib.hid (HT1.out.next hb2); have HA1 := Lib.hid (HA1.out.below hb2); have HA2 := Lib.hid hA2; clear hA2 hb2)
    | (go_at_call 25; refine (compare_any _ _ _ _ _ _ _ _ _ HA1.out HA2.out hl1.out hl2.out).mono ?_; rintro e w' ⟨rfl, rfl⟩))
  all_goals go_wp2
  all_goals go_ret
  all_goals exact ⟨ret_bool HL.out.symm, HT2.out.b⟩
end Go.Proofs.YthllacodjeocmaaDoor
