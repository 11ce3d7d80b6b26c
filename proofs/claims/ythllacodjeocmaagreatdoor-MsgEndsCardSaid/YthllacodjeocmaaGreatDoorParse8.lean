/- strconv.ParseUint at base 10 and 8 bits, for every string; what the library's variables hold. -/
import Derived.Test.YthllacodjeocmaaGreatDoorProg
import Derived.Test.YthllacodjeocmaaGreatDoorBase
import Derived.Test.YthllacodjeocmaaGreatDoorShelf
import Derived.WalkSmall
namespace Go.Proofs.YthllacodjeocmaaGreatDoor
open Go.RowKit Go.Sort
/-- What the package-level variables of the library hold. -/
structure Glob (w : World) : Prop where
  tab : Lib.TabIs Tryz.prog w "internal/strconv.uint64pow10" .u64 Lib.pow10Tab
  syn : ∃ t p, w.cell? ⟨1, 0, none⟩ = some (.iface t p)
  rng : ∃ t p, w.cell? ⟨2, 0, none⟩ = some (.iface t p)
  size : 4 + 1 ≤ w.heap.size
theorem Glob.below {B : Nat} {w w' : World} (h : Glob w) (hb : Below B w w') (hB : 4 + 1 ≤ B) : Glob w' := by
  obtain ⟨t1, p1, h1⟩ := h.syn
  obtain ⟨t2, p2, h2⟩ := h.rng
  exact ⟨var?_below hb (g := 4) (by kernel_rfl) (by omega) h.tab, ⟨t1, p1, (hb.cell (p := ⟨1, 0, none⟩) (by show 1 < B; omega)).trans h1⟩, ⟨t2, p2, (hb.cell (p := ⟨2, 0, none⟩) (by show 2 < B; omega)).trans h2⟩, Nat.le_trans h.size hb.size⟩
theorem Glob.drew {w : World} (h : Glob w) (n : Nat) : Glob (w.drewN n) := ⟨h.tab, h.syn, h.rng, h.size⟩
theorem Glob.next {w w' : World} (h : Glob w) (hb : Below w.heap.size w w') : Glob w' := h.below hb h.size
theorem below_drewN {B : Nat} {a w : World} (h : Below B a w) (n : Nat) : Below B a (w.drewN n) := ⟨h.os, h.tape, h.output, h.size, h.block⟩
theorem below_grow_drewN (w : World) (q : Nat) (os : Array Obj) : Below w.heap.size w (grow (w.drewN q) os) :=
  ⟨rfl, rfl, rfl, by simp [grow], fun i hi => by
    show (w.heap ++ os)[i]? = _
    rw [Array.getElem?_append_left hi]⟩
/-- The value that ParseUint returns, and whether it returns no error. -/
def parse8 (l : List UInt8) : Nat × Bool := match Lib.parseUintB 8 l with
  | .ok u => (u, true)
  | .range => (255, false)
  | _ => (0, false)
theorem parse8_le (l : List UInt8) : (parse8 l).1 ≤ 255 := by
  unfold parse8
  split
  · rename_i h; have := Lib.parseUintB_le h; omega
  · omega
  · omega
theorem parse8_ok (s : ByteArray) (w : World) (hlim : s.size ≤ 281474976710656) (h : (parse8 s.data.toList).2 = true) :
    Calls Tryz.prog 37 #[.string s, .int .i64 10, .int .i64 8] w fun e w' => e = .returned (.tuple #[.int .u64 ((parse8 s.data.toList).1 : Nat), .nilIface]) ∧ Below w.heap.size w w' := by
  unfold parse8 at h ⊢
  rcases hp : Lib.parseUintB 8 s.data.toList with u | _ | _
  · refine (Tryz.strconv_ParseUint_10_at8_ok s (by omega) u hp w).mono ?_
    rintro e w' ⟨rfl, rfl | rfl⟩
    · exact ⟨rfl, Below.refl _ _⟩
    · exact ⟨rfl, ⟨rfl, rfl, rfl, by rw [Lib.bytesWorld_size]; omega, fun j hj => Lib.bytesWorld_at_old _ _ _ _ hj⟩⟩
  · rw [hp] at h; cases h
  · rw [hp] at h; cases h
theorem parse8_no (s : ByteArray) (w : World) (hG : Glob w) (hlim : s.size ≤ 281474976710656) (h : (parse8 s.data.toList).2 = false) :
    Calls Tryz.prog 37 #[.string s, .int .i64 10, .int .i64 8] w fun e w' => ∃ N, e = .returned (.tuple #[.int .u64 ((parse8 s.data.toList).1 : Nat), .iface 94 (.pointer (some ⟨N, 0, none⟩))]) ∧ Below w.heap.size w w' := by
  obtain ⟨t1, p1, h1⟩ := hG.syn
  obtain ⟨t2, p2, h2⟩ := hG.rng
  unfold parse8 at h ⊢
  rcases hp : Lib.parseUintB 8 s.data.toList with u | _ | _
  · rw [hp] at h; cases h
  · refine (Any.strconv_ParseUint_10_at8_syntax Tryz.laysPu14 s hlim hp _ w h1 (.inr ⟨_, _, rfl⟩)).mono ?_
    rintro e w' ⟨N, rfl, _, _, hb⟩
    exact ⟨N, rfl, hb⟩
  · refine (Any.strconv_ParseUint_10_at8_range Tryz.laysPu14 s hlim hp _ w h2 (.inr ⟨_, _, rfl⟩)).mono ?_
    rintro e w' ⟨N, rfl, _, _, hb⟩
    exact ⟨N, rfl, hb⟩
end Go.Proofs.YthllacodjeocmaaGreatDoor
