/- Small facts on worlds and cells, over any program. -/
import Derived.WalkKit
import Derived.WalkSpells
import Derived.WalkLawsBesides
import Derived.Deep.QuietTactic
import Derived.BigQuiet
import Derived.Lib.Hide
import Derived.Deep.LoopGhost
namespace Go.Proofs.YthllacodjeocmaaGreatDoor
open Go.RowKit
theorem ret_bool {a b : Bool} (h : a = b) : Ending.returned (.bool a) = .returned (.bool b) := by rw [h]
theorem ret_int {k : IntKind} {a b : Int} (h : a = b) : Ending.returned (.int k a) = .returned (.int k b) := by rw [h]
theorem ret_string {a b : ByteArray} (h : a = b) : Ending.returned (.string a) = .returned (.string b) := by rw [h]
theorem str_eq {a b : ByteArray} : (a.toList == b.toList) = true ↔ a = b := by
  rw [beq_iff_eq, ByteArray.toList_eq, ByteArray.toList_eq]
  constructor
  · intro h
    obtain ⟨⟨x⟩⟩ := a
    obtain ⟨⟨y⟩⟩ := b
    exact congrArg (fun l => ByteArray.mk (Array.mk l)) h
  · rintro rfl; rfl
section
variable {w : World} {a c : Addr} {v u x : Value} {n m : Nat} {f : Bool}
theorem setCell_self (h : w.cell? a = some v) : w.setCell a v = w := by
  unfold World.cell? at h
  unfold World.setCell
  have : w.heap.modify a.block (fun | .cells c elem frozen => .cells (if a.spot.isSome then c else c.setIfInBounds a.off v) elem frozen | o => o) = w.heap := by
    apply Array.ext
    · simp
    · intro i h1 h2
      rw [Array.getElem_modify]
      split
      · rename_i hb
        subst hb
        rw [Array.getElem?_eq_getElem h2] at h
        revert h
        cases hh : w.heap[a.block] with
        | cells c el fr =>
          intro h
          simp only at h
          cases hs : a.spot.isSome <;> simp [hs] at h ⊢
          apply Array.ext
          · simp
          · intro i h3 h4
            rw [Array.getElem_setIfInBounds]
            split
            · rename_i he; subst he; rw [Array.getElem?_eq_getElem h4] at h; exact (Option.some.inj h).symm
            · rfl
        | _ => intro _; rfl
      · rfl
  exact congrArg (fun h => { w with heap := h }) this
theorem setCell_setCell : (w.setCell a v).setCell a u = w.setCell a u := by
  unfold World.setCell
  refine congrArg (fun h => { w with heap := h }) ?_
  apply Array.ext
  · simp
  · intro i h1 h2
    have hi : i < w.heap.size := by simpa using h2
    simp only [Array.getElem_modify]
    split
    · generalize w.heap[i] = o
      cases o <;> first | rfl | (cases a.spot.isSome <;> simp)
    · rfl
theorem upd_other (hne : a ≠ c) (h : w.cell? c = some x) : ((w.setCell a v).drewN n).cell? c = some x := (World.cell?_setCell_other w a c v hne).trans h
theorem upd_same (h : w.cell? a = some u) : ((w.setCell a v).drewN n).cell? a = some v := World.cell?_setCell_same' _ _ _ (by rw [h]; rfl)
theorem upd_frozen (h : w.frozen? c = f) : ((w.setCell a v).drewN n).frozen? c = f := (World.frozen?_setCell w a c v).trans h
theorem upd_upd0 : ((w.setCell a v).drewN n).setCell a u = (w.setCell a u).drewN n := by
  show ((w.setCell a v).setCell a u).drewN n = _
  rw [setCell_setCell]
theorem drew_upd : ((w.drewN n).setCell a v).drewN m = (w.setCell a v).drewN (n + m) := by
  show ((w.setCell a v).drewN n).drewN m = _
  rw [World.drewN_drewN]
theorem upd_upd : (((w.setCell a v).drewN n).setCell a u).drewN m = (w.setCell a u).drewN (n + m) := by
  have : ((w.setCell a v).drewN n).setCell a u = (w.setCell a u).drewN n := by
    show ((w.setCell a v).setCell a u).drewN n = _
    rw [setCell_setCell]
  rw [this, World.drewN_drewN]
end
section
variable {w : World} {a p : Addr} {u x : Value} {o : Obj} {n : Nat} {f : Bool}
theorem cset_other (hne : p ≠ a) (h : w.cell? a = some x) : (w.setCell p u).cell? a = some x := (World.cell?_setCell_other w p a u hne).trans h
theorem cset_same (h : (w.cell? a).isSome = true) : (w.setCell a u).cell? a = some u := World.cell?_setCell_same' _ _ _ h
theorem calloc (h : w.cell? a = some x) : (w.alloc o).cell? a = some x := by
  rw [World.cell?_alloc_lt]
  · exact h
  · rcases Nat.lt_or_ge a.block w.heap.size with h' | h'
    · exact h'
    · simp [World.cell?, Array.getElem?_eq_none h'] at h
theorem cell_lt (h : w.cell? a = some x) : a.block < w.heap.size := by
  rcases Nat.lt_or_ge a.block w.heap.size with h' | h'
  · exact h'
  · simp [World.cell?, Array.getElem?_eq_none h'] at h
theorem fset (h : w.frozen? a = f) : (w.setCell p u).frozen? a = f := (World.frozen?_setCell w p a u).trans h
theorem falloc (hl : a.block < w.heap.size) (h : w.frozen? a = f) : (w.alloc o).frozen? a = f :=
  (World.frozen?_of_block (Below.heap_alloc w o _ hl)).trans h
theorem size_set : (w.setCell p u).heap.size = w.heap.size := by simp [World.setCell]
end
theorem only_refl (w : World) (row : Option Nat) : w.grownBy w row := ⟨rfl, rfl, rfl, Nat.le_refl _, fun _ _ _ => rfl⟩
theorem only_drewN {a w : World} {row : Option Nat} (h : a.grownBy w row) (n : Nat) : a.grownBy (w.drewN n) row := ⟨h.os, h.tape, h.output, h.size, h.block⟩
theorem only_drew {a w : World} {row : Option Nat} (h : a.grownBy w row) : a.grownBy w.drew row := ⟨h.os, h.tape, h.output, h.size, h.block⟩
theorem only_alloc {a w : World} {row : Option Nat} (h : a.grownBy w row) (o : Obj) : a.grownBy (w.alloc o) row :=
  ⟨h.os, h.tape, h.output, Nat.le_trans h.size (by simp), fun i hi hne => (Below.heap_alloc w o i (Nat.lt_of_lt_of_le hi h.size)).trans (h.block i hi hne)⟩
theorem only_setCell {a w : World} {g : Nat} (h : a.grownBy w (some g)) {p : Addr} (hp : p.block = g ∨ a.heap.size ≤ p.block) (u : Value) : a.grownBy (w.setCell p u) (some g) :=
  ⟨h.os, h.tape, h.output, by simpa [World.setCell] using h.size, fun i hi hne => (Below.heap_setCell w p u i (by
    rintro rfl
    rcases hp with hp | hp
    · exact hne (by rw [hp])
    · omega)).trans (h.block i hi hne)⟩
theorem only_of_below {a w : World} (h : Below a.heap.size a w) (row : Option Nat) : a.grownBy w row := ⟨h.os, h.tape, h.output, h.size, fun i hi _ => h.block i hi⟩
theorem only_trans {a b c : World} {row : Option Nat} (h : a.grownBy b row) (k : b.grownBy c row) : a.grownBy c row :=
  ⟨k.os.trans h.os, k.tape.trans h.tape, k.output.trans h.output, Nat.le_trans h.size k.size, fun i hi hne => (k.block i (Nat.lt_of_lt_of_le hi h.size) hne).trans (h.block i hi hne)⟩
end Go.Proofs.YthllacodjeocmaaGreatDoor
