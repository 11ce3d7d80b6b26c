/- Messages as plain data. -/
import Derived.Test.YthllacodjeocmaaGreatDoorParse8
namespace Go.Proofs.YthllacodjeocmaaGreatDoor
open Go.RowKit
/-- A message. -/
structure Mg where
  k : UInt8
  f : UInt8
  t : UInt8
  l : UInt8
  a : UInt8
  c : UInt8
  al : Bool
  d0 : UInt8
  d1 : UInt8
  d2 : UInt8
  d3 : UInt8
def u8v (n : UInt8) : Value := .int .u8 (n.toNat : Int)
def Mg.cells (m : Mg) : List Value := [u8v m.k, u8v m.f, u8v m.t, u8v m.l, u8v m.a, u8v m.c, .bool m.al, u8v m.d0, u8v m.d1, u8v m.d2, u8v m.d3]
def Mg.val (m : Mg) : Value := .agg #[.int .u8 m.k.toNat, .int .u8 m.f.toNat, .int .u8 m.t.toNat, .int .u8 m.l.toNat, .int .u8 m.a.toNat, .int .u8 m.c.toNat, .bool m.al, .int .u8 m.d0.toNat, .int .u8 m.d1.toNat, .int .u8 m.d2.toNat, .int .u8 m.d3.toNat]
def bytesOf (m : Mg) : List UInt8 := [m.k, m.f, m.t, m.l, m.a, m.c, if m.al then 1 else 0, m.d0, m.d1, m.d2, m.d3]
/-- The row of cells at a block's head is these bytes. -/
def BytesAt (W : World) (g : Nat) (l : List UInt8) : Prop := ∀ (j : Nat) (u : UInt8), l[j]? = some u → W.cell? ⟨g, j, none⟩ = some (u8v u)
theorem BytesAt.below {W W' : World} {g : Nat} {l : List UInt8} (h : BytesAt W g l) (hb : Below W.heap.size W W') : BytesAt W' g l := fun j u hu => by
  have h1 := h j u hu
  exact (World.cell?_of_block (w := W) (hb.block g (cell_lt h1))).trans h1
theorem BytesAt.drewN {W : World} {g : Nat} {l : List UInt8} (h : BytesAt W g l) (n : Nat) : BytesAt (W.drewN n) g l := h
theorem bytes_cells (W : World) (C D E : Array Value) (T : TypeId) (n : Nat) (l : List UInt8) (hn : n = W.heap.size) (hl : C.toList ++ D.toList = l.map u8v) : BytesAt (W.alloc (.cells (C ++ (D ++ E)) T)).drew n l := by
  subst hn
  intro j u hu
  show (W.alloc (.cells (C ++ (D ++ E)) T)).cell? ⟨W.heap.size, j, none⟩ = _
  rw [World.cell?_alloc_new, ← Array.append_assoc]
  have hj : j < l.length := by
    rcases Nat.lt_or_ge j l.length with h | h
    · exact h
    · rw [List.getElem?_eq_none h] at hu; cases hu
  have hs : (C ++ D).toList = l.map u8v := by rw [Array.toList_append, hl]
  have hj2 : j < (C ++ D).size := by rw [← Array.length_toList, hs]; simpa using hj
  rw [Array.getElem?_append_left hj2, ← Array.getElem?_toList, hs, List.getElem?_map, hu]
  rfl
set_option maxHeartbeats 1000000 in
/-- Bytes. -/
theorem bytes_any (m : Mg) (w : World) : Calls Tryz.prog 12 #[m.val] w fun e w' => ∃ g cap, e = .returned (.slice (some ⟨g, 0, none⟩) 11 cap) ∧ BytesAt w' g (bytesOf m) ∧ Below w.heap.size w w' := by
  obtain ⟨k, f, t, l, a, c, al, d0, d1, d2, d3⟩ := m
  unfold Mg.val
  simp only
  cases al
  · go_enter Tryz.func12, Tryz.ntmps12
    go_wp2
    go_ret
    refine ⟨_, _, rfl, bytes_cells _ _ _ _ _ _ (bytesOf ⟨k, f, t, l, a, c, false, d0, d1, d2, d3⟩) (by simp) rfl, ?_⟩
    exact below_drewN ((((Below.refl _ w).alloc (Nat.le_refl _) _).alloc (by simp) _).alloc (by simp; omega) _) 1
  · go_enter Tryz.func12, Tryz.ntmps12
    go_wp2
    go_ret
    refine ⟨_, _, rfl, bytes_cells _ _ _ _ _ _ (bytesOf ⟨k, f, t, l, a, c, true, d0, d1, d2, d3⟩) (by simp) rfl, ?_⟩
    exact below_drewN ((((Below.refl _ w).alloc (Nat.le_refl _) _).alloc (by simp) _).alloc (by simp; omega) _) 1
/-- num: a number's text. -/
def dec (n : UInt8) : List UInt8 := Lib.itoa (n.toNat : Int)
set_option maxHeartbeats 1000000 in
theorem num_any (n : UInt8) (w : World) (hG : Glob w) : Calls Tryz.prog 27 #[.int .u8 n.toNat] w fun e w' => e = .returned (.string ⟨(dec n).toArray⟩) ∧ Below w.heap.size w w' := by
  have hn : n.toNat < 256 := n.toNat_lt
  go_enter Tryz.func27, Tryz.ntmps27
  go_wp2_with fail
  go_at_call 47
  refine (Tryz.strconv_Itoa _ (by omega) (by omega) _ hG.tab).mono ?_
  rintro e w' ⟨rfl, k, os, rfl⟩
  go_wp2
  go_ret
  exact ⟨rfl, below_grow_drewN _ _ _⟩
def knownB (k : UInt8) : Bool := decide (0 < k.toNat ∧ k.toNat < 13)
theorem known_yes (m : Mg) (w : World) (h : knownB m.k = true) : Calls Tryz.prog 20 #[m.val] w fun e w' => e = .returned (.bool true) ∧ Below w.heap.size w w' := by
  obtain ⟨k, f, t, l, a, c, al, d0, d1, d2, d3⟩ := m
  unfold Mg.val
  simp only at h ⊢
  have h' := of_decide_eq_true h
  have h0 : 0 < k.toNat := h'.1
  have h1 : decide ((k.toNat : Int) < 13) = true := by simp; omega
  have hk1 : (k.toNat : Int) ≤ 255 := by omega
  have hk0 : (0 : Int) ≤ k.toNat := by omega
  clear h h'
  go_enter Tryz.func20, Tryz.ntmps20
  go_wp2
  go_ret
  exact ⟨rfl, (Below.refl _ w).alloc (Nat.le_refl _) _⟩
theorem known_no (m : Mg) (w : World) (h : knownB m.k = false) : Calls Tryz.prog 20 #[m.val] w fun e w' => e = .returned (.bool false) ∧ Below w.heap.size w w' := by
  obtain ⟨k, f, t, l, a, c, al, d0, d1, d2, d3⟩ := m
  unfold Mg.val
  simp only at h ⊢
  have h' := of_decide_eq_false h
  by_cases h0 : 0 < k.toNat
  · have h1 : decide ((k.toNat : Int) < 13) = false := by simp; omega
    have hk1 : (k.toNat : Int) ≤ 255 := by have := k.toNat_lt; omega
    have hk0 : (0 : Int) ≤ k.toNat := by omega
    clear h h'
    go_enter Tryz.func20, Tryz.ntmps20
    go_wp2
    go_ret
    exact ⟨rfl, (Below.refl _ w).alloc (Nat.le_refl _) _⟩
  · have h1 : k.toNat = 0 := by omega
    clear h h' h0
    go_enter Tryz.func20, Tryz.ntmps20
    go_wp2
    go_ret
    exact ⟨rfl, (Below.refl _ w).alloc (Nat.le_refl _) _⟩
end Go.Proofs.YthllacodjeocmaaGreatDoor
