/- What Parse makes of the words: the candidate; its state in memory. -/
import Derived.Test.YthllacodjeocmaaGreatDoorM2
import Derived.Test.YthllacodjeocmaaGreatDoorM4
namespace Go.Proofs.YthllacodjeocmaaGreatDoor
open Go.RowKit
def hd (r : List ByteArray) : ByteArray := r.headD ⟨#[]⟩
def isW (s : ByteArray) (l : List UInt8) : Bool := s.toList == l
def kindLoop (first : ByteArray) : Nat → UInt8 → UInt8
  | 0, k => k
  | n + 1, k => if isW (nameOf (12 - n)) first.toList = true then kindLoop first n (UInt8.ofNat (12 - n)) else kindLoop first n k
def loopC : Nat → Mg → List ByteArray → Mg
  | 0, m, _ => m
  | _, m, [] => m
  | n + 1, m, w :: r =>
    if isW w wLine = true then loopC n { m with l := numB (hd r) } r.tail
    else if isW w wAsker = true then loopC n { m with a := numB (hd r) } r.tail
    else if isW w wAcks = true then loopC n { m with c := numB (hd r) } r.tail
    else if isW w wAlone = true then loopC n { m with al := true } r
    else if isW w wData = true then loopC n { m with d0 := numB (hd r), d1 := numB (hd r.tail), d2 := numB (hd r.tail.tail), d3 := numB (hd r.tail.tail.tail) } r.tail.tail.tail.tail
    else loopC n m r
def zeroM : Mg := ⟨0, 0, 0, 0, 0, 0, false, 0, 0, 0, 0⟩
def candP (ws : List ByteArray) : Mg :=
  let first := hd ws
  let r2 := if isW first wKind = true then ws.tail.tail else ws.tail
  let k0 := if isW first wKind = true then numB (hd ws.tail) else 0
  let ct := Lib.cut (hd r2).data.toList [62]
  loopC r2.tail.length { zeroM with k := kindLoop first 12 k0, f := numB ⟨ct.1.toArray⟩, t := numB ⟨ct.2.1.toArray⟩ } r2.tail
def wsOf (s : ByteArray) : List ByteArray := Lib.splitB ⟨#[32]⟩ 0 (Lib.countB s ⟨#[32]⟩) s
def parseOf (s : ByteArray) : Mg × Int := if textOf (candP (wsOf s)) = s.data.toList then (candP (wsOf s), 0) else (zeroM, 170)
theorem hd_size {r : List ByteArray} {n : Nat} (h : ∀ x ∈ r, x.size ≤ n) : (hd r).size ≤ n := by
  unfold hd
  cases r with
  | nil => exact Nat.zero_le _
  | cons a r => exact h a (by simp)
/-- Parse's state: the message so far at block mb, the words left at c, the result's box at rb. -/
structure PSt (w : World) (rb c mb : Nat) (m : Mg) (r : List ByteArray) (W : World) : Prop where
  box : W.heap[mb]? = some (.cells (boxOf m) 27)
  res : W.heap[rb]? = some (.cells (boxOf zeroM) 27)
  lst : LSt W c r
  b : Below w.heap.size w W
  o1 : w.heap.size ≤ rb
  o2 : rb < c
  o3 : c < mb
  o4 : mb < W.heap.size
  len : r.length ≤ 10001
  sz : ∀ x ∈ r, x.size ≤ 10000
section
variable {w W W' : World} {rb c mb : Nat} {m m' : Mg} {r : List ByteArray}
theorem PSt.next (h : PSt w rb c mb m r W) (hb : Below W.heap.size W W') : PSt w rb c mb m r W' :=
  ⟨by rw [hb.block _ h.o4]; exact h.box, by rw [hb.block _ (by have := h.o2; have := h.o3; have := h.o4; omega)]; exact h.res, h.lst.below hb, h.b.trans (hb.mono h.b.size), h.o1, h.o2, h.o3, Nat.lt_of_lt_of_le h.o4 hb.size, h.len, h.sz⟩
theorem PSt.step (h : PSt w rb c mb m r W) (hl : LSt W' c r.tail) (ho : OnlyC c W W') : PSt w rb c mb m r.tail W' :=
  ⟨by rw [ho.block _ (by have := h.o3; omega)]; exact h.box, by rw [ho.block _ (by have := h.o2; omega)]; exact h.res, hl, h.b.trans (ho.below (by have := h.o1; have := h.o2; omega)), h.o1, h.o2, h.o3, by rw [ho.size]; exact h.o4,
   Nat.le_trans (by simp) h.len, fun x hx => h.sz x (List.mem_of_mem_tail hx)⟩
theorem LSt.set {b i : Nat} (h : LSt W c r) (hb : c < b) (v : Value) : LSt (W.setCell ⟨b, i, none⟩ v) c r := by
  obtain ⟨ao, cp, hc, hr⟩ := h.v
  refine ⟨ao, cp, by rw [heap_set_other (by omega)]; exact hc, fun h0 => ?_⟩
  obtain ⟨g, o, h1, h2, h3, h4⟩ := hr h0
  exact ⟨g, o, h1, h2, h3, fun j x hx => (World.cell?_of_block (w := W) (heap_set_other (show g ≠ b by omega) _)).trans (h4 j x hx)⟩
theorem PSt.store (h : PSt w rb c mb m r W) (i : Nat) (v : Value) (he : (boxOf m).setIfInBounds i v = boxOf m') : PSt w rb c mb m' r (W.setCell ⟨mb, i, none⟩ v) :=
  ⟨by rw [heap_set (i := i) h.box, he], by rw [heap_set_other (by have := h.o2; have := h.o3; omega)]; exact h.res, h.lst.set h.o3 v, h.b.setCell (by show w.heap.size ≤ mb; have := h.o1; have := h.o2; have := h.o3; omega) v, h.o1, h.o2, h.o3, by simpa [World.setCell] using h.o4, h.len, h.sz⟩
theorem PSt.cell (h : PSt w rb c mb m r W) (i : Nat) : W.cell? ⟨mb, i, none⟩ = (boxOf m)[i]? := cell_of_heap h.box
theorem PSt.free (h : PSt w rb c mb m r W) (i : Nat) : W.frozen? ⟨mb, i, none⟩ = false := free_of_heap h.box
theorem next_st (h : Hid (PSt w rb c mb m r W)) : Calls Tryz.prog 35 #[.pointer (some ⟨c, 0, none⟩)] W fun e w' => e = .returned (.string (hd r)) ∧ Hid (PSt w rb c mb m r.tail w') :=
  (next_any _ r W h.out.lst (Nat.le_trans h.out.len (by decide))).mono fun _ _ ⟨he, hl, ho⟩ => ⟨he, Lib.hid (h.out.step hl ho)⟩
theorem number_st (hG : GlobM w) (h : Hid (PSt w rb c mb m r W)) (s : ByteArray) (hs : s.size ≤ 10000) : Calls Tryz.prog 36 #[.string s] W fun e w' => e = .returned (.int .u8 (numB s).toNat) ∧ Hid (PSt w rb c mb m r w') :=
  (number_any s W (hG.next h.out.b).g (by omega)).mono fun _ _ ⟨he, hb⟩ => ⟨he, Lib.hid (h.out.next hb)⟩
theorem cut_st (hG : GlobM w) (h : Hid (PSt w rb c mb m r W)) (s : ByteArray) (hs : s.size ≤ 10000) : Calls Tryz.prog 38 #[.string s, .string ⟨#[62]⟩] W fun e w' => e = .returned (.tuple #[.string ⟨(Lib.cut s.data.toList [62]).1.toArray⟩, .string ⟨(Lib.cut s.data.toList [62]).2.1.toArray⟩, .bool (Lib.cut s.data.toList [62]).2.2]) ∧ Hid (PSt w rb c mb m r w') := by
  obtain ⟨x, hx⟩ := (hG.next h.out.b).mx
  refine (Tryz.strings_Cut s ⟨#[62]⟩ x W (by omega) hx).mono ?_
  rintro e w' ⟨rfl, n, rfl⟩
  exact ⟨rfl, Lib.hid (h.out.next (below_drewN (Below.refl _ _) n))⟩
theorem text_st (hG : GlobM w) (h : Hid (PSt w rb c mb m r W)) : Calls Tryz.prog 14 #[m.val] W fun e w' => e = .returned (.string ⟨(textOf m).toArray⟩) ∧ Hid (PSt w rb c mb m r w') :=
  (text_any m W (hG.next h.out.b)).mono fun _ _ ⟨he, hb⟩ => ⟨he, Lib.hid (h.out.next hb)⟩
end
theorem PSt.start (w : World) (ws : List ByteArray) (hl : ws.length ≤ 10001) (_ : 0 < ws.length) (hs : ∀ x ∈ ws, x.size ≤ 10000) (n : Nat) (hn : n = ws.length) :
    PSt w w.heap.size (w.heap.size + 1 + 1) (w.heap.size + 1 + 1 + 1) zeroM ws ((((w.alloc (.cells (boxOf zeroM) 27)).alloc (.cells (ws.map Value.string).toArray 9)).alloc (.cells #[.slice (some ⟨w.heap.size + 1, 0, none⟩) n n] 36)).alloc (.cells (boxOf zeroM) 27)) := by
  subst hn
  have hz : ∀ (W : World) (o : Obj), (W.alloc o).heap.size = W.heap.size + 1 := fun W o => by simp
  have hnew : ∀ (W : World) (o : Obj) (k : Nat), k = W.heap.size → (W.alloc o).heap[k]? = some o := fun W o k hk => by subst hk; exact heap_alloc_new W o
  have hold : ∀ (W : World) (o : Obj) (k : Nat), k < W.heap.size → (W.alloc o).heap[k]? = W.heap[k]? := fun W o k hk => Below.heap_alloc W o k hk
  refine ⟨hnew _ _ _ (by simp only [hz]), ?_, ⟨some ⟨w.heap.size + 1, 0, none⟩, ws.length, ?_, fun _ => ⟨w.heap.size + 1, 0, rfl, by omega, Nat.le_refl _, fun j x hx => ?_⟩⟩, ?_, Nat.le_refl _, by omega, by omega, by simp only [hz]; omega, hl, hs⟩
  · rw [hold _ _ _ (by simp only [hz]; omega), hold _ _ _ (by simp only [hz]; omega), hold _ _ _ (by simp only [hz]; omega)]
    exact hnew _ _ _ rfl
  · rw [hold _ _ _ (by simp only [hz]; omega)]
    exact hnew _ _ _ (by simp only [hz])
  · have h1 : ((((w.alloc (.cells (boxOf zeroM) 27)).alloc (.cells (ws.map Value.string).toArray 9)).alloc (.cells #[.slice (some ⟨w.heap.size + 1, 0, none⟩) ws.length ws.length] 36)).alloc (.cells (boxOf zeroM) 27)).heap[w.heap.size + 1]? = some (.cells (ws.map Value.string).toArray 9) := by
      rw [hold _ _ _ (by simp only [hz]; omega), hold _ _ _ (by simp only [hz]; omega)]
      exact hnew _ _ _ (by simp only [hz])
    rw [cell_of_heap h1, Nat.zero_add]
    simp [hx]
  · exact ((((Below.refl _ w).alloc (Nat.le_refl _) _).alloc (by simp only [hz]; omega) _).alloc (by simp only [hz]; omega) _).alloc (by simp only [hz]; omega) _
theorem cut_sizes (s : ByteArray) : (⟨(Lib.cut s.data.toList [62]).1.toArray⟩ : ByteArray).size ≤ s.size ∧ (⟨(Lib.cut s.data.toList [62]).2.1.toArray⟩ : ByteArray).size ≤ s.size := by
  have hl : s.data.toList.length = s.size := by simp
  unfold Lib.cut
  split
  · constructor
    · show (s.data.toList.take _).toArray.size ≤ _
      simp
      omega
    · show (s.data.toList.drop _).toArray.size ≤ _
      simp
  · constructor
    · show (s.data.toList).toArray.size ≤ _
      simp
    · show ([] : List UInt8).toArray.size ≤ _
      simp
theorem split_sizes (sep : ByteArray) : ∀ (k : Nat) (s : ByteArray), ∀ x ∈ Lib.splitB sep 0 k s, x.size ≤ s.size
  | 0, s, x, hx => by
    rw [Lib.splitB_zero, List.mem_singleton] at hx
    subst hx; exact Nat.le_refl _
  | k + 1, s, x, hx => by
    unfold Lib.splitB at hx
    split at hx
    · rw [List.mem_singleton] at hx; subst hx; exact Nat.le_refl _
    · rcases List.mem_cons.1 hx with rfl | hx
      · rw [ByteArray.size_extract]; omega
      · have := split_sizes sep k _ x hx
        rw [ByteArray.size_extract] at this
        omega
end Go.Proofs.YthllacodjeocmaaGreatDoor
