/- Less: two messages compared by their bytes. -/
import Derived.Test.YthllacodjeocmaaGreatDoorE0
import Derived.Lib.Bytealg
namespace Go.Proofs.YthllacodjeocmaaGreatDoor
open Go.RowKit
attribute [local go_sem] Oper.semAt_some
theorem loadBytes_run {P : Program} {W : World} {g : Nat} : ∀ (l : List UInt8) (o : Nat) (acc : ByteArray), (∀ (j : Nat) (u : UInt8), l[j]? = some u → W.cell? ⟨g, o + j, none⟩ = some (u8v u)) →
    Sem.run P (Extern.Bytes.loadBytes ⟨g, o, none⟩ l.length acc) W = .ok ⟨acc.data ++ l.toArray⟩ W
  | [], o, acc, _ => by simp [Extern.Bytes.loadBytes, Sem.run_pure]
  | b :: l, o, acc, h => by
    have h0 := h 0 b rfl
    rw [Nat.add_zero] at h0
    have ih := loadBytes_run (P := P) (W := W) (g := g) l (o + 1) (acc.push b) (fun j u hu => by
      have := h (j + 1) u (by simpa using hu)
      rw [show o + 1 + j = o + (j + 1) from by omega]; exact this)
    rw [List.length_cons, Extern.Bytes.loadBytes]
    have hb : (b.toNat : Int).toNat.toUInt8 = b := by simp
    have ha : (⟨g, o, none⟩ : Addr).add 1 = ⟨g, o + 1, none⟩ := rfl
    have hl : Sem.run P (load ⟨g, o, none⟩) W = .ok (u8v b) W := by simp [h0]
    simp only [Sem.run_bind, hl, Result.andThen, u8v, hb, ha]
    rw [ih]
    congr 1
    apply ByteArray.ext
    simp [ByteArray.push]
theorem bytesOf_run {P : Program} {W : World} {g c : Nat} {l : List UInt8} (h : BytesAt W g l) {n : Nat} (hn : n = l.length) : Sem.run P (Extern.Bytes.bytesOf (.slice (some ⟨g, 0, none⟩) n c)) W = .ok ⟨l.toArray⟩ W := by
  subst hn
  have := loadBytes_run (P := P) l 0 .empty (fun j u hu => by rw [Nat.zero_add]; exact h j u hu)
  unfold Extern.Bytes.bytesOf
  rw [this]
  congr 1
  apply ByteArray.ext
  simp
/-- Two messages' boxes. -/
structure Two (w : World) (A B : Array Value) (W : World) : Prop where
  h1 : W.heap[w.heap.size]? = some (.cells A 27)
  h2 : W.heap[w.heap.size + 1]? = some (.cells B 27)
  b : Below w.heap.size w W
  big : w.heap.size + 2 ≤ W.heap.size
theorem Two.start (w : World) (A B : Array Value) : Two w A B ((w.alloc (.cells A 27)).alloc (.cells B 27)) :=
  ⟨by rw [Below.heap_alloc _ _ _ (by simp)]; exact heap_alloc_new w _, by have := heap_alloc_new (w.alloc (.cells A 27)) (.cells B 27); simpa using this, ((Below.refl _ w).alloc (Nat.le_refl _) _).alloc (by simp) _, by simp⟩
theorem Two.next {w W W' : World} {A B : Array Value} (h : Two w A B W) (hb : Below W.heap.size W W') : Two w A B W' :=
  ⟨by rw [hb.block _ (by have := h.big; omega)]; exact h.h1, by rw [hb.block _ (by have := h.big; omega)]; exact h.h2, h.b.trans (hb.mono h.b.size), Nat.le_trans h.big hb.size⟩
theorem Two.cellA {w W : World} {A B : Array Value} (h : Two w A B W) (i : Nat) : W.cell? ⟨w.heap.size, i, none⟩ = A[i]? := by
  unfold World.cell?; rw [h.h1]; rfl
theorem Two.cellB {w W : World} {A B : Array Value} (h : Two w A B W) (i : Nat) : W.cell? ⟨w.heap.size + 1, i, none⟩ = B[i]? := by
  unfold World.cell?; rw [h.h2]; rfl
def lessB (m o : Mg) : Bool := decide (Lib.compareBytes (bytesOf m) (bytesOf o) < 0)
theorem bytesOf_len (m : Mg) : (bytesOf m).length = 11 := rfl
end Go.Proofs.YthllacodjeocmaaGreatDoor
