/- Parse's two helpers: the next word, the number of a word. -/
import Derived.Test.YthllacodjeocmaaGreatDoorE0
import Derived.StillTailTactics
namespace Go.Proofs.YthllacodjeocmaaGreatDoor
open Go.RowKit
/-- The words that are left, in the variable at block c. -/
structure LSt (W : World) (c : Nat) (r : List ByteArray) : Prop where
  v : ∃ ao cp, W.heap[c]? = some (.cells #[.slice ao r.length cp] 36) ∧ (0 < r.length → ∃ g o, ao = some ⟨g, o, none⟩ ∧ g < c ∧ r.length ≤ cp ∧ ∀ (j : Nat) (x : ByteArray), r[j]? = some x → W.cell? ⟨g, o + j, none⟩ = some (.string x))
/-- Only block c may have changed. -/
structure OnlyC (c : Nat) (W W' : World) : Prop where
  os : W'.os = W.os
  tape : W'.tape = W.tape
  output : W'.output = W.output
  size : W'.heap.size = W.heap.size
  block : ∀ k, k ≠ c → W'.heap[k]? = W.heap[k]?
theorem OnlyC.below {c B : Nat} {W W' : World} (h : OnlyC c W W') (hB : B ≤ c) : Below B W W' := ⟨h.os, h.tape, h.output, by rw [h.size]; exact Nat.le_refl _, fun k hk => h.block k (by omega)⟩
theorem LSt.below {W W' : World} {c : Nat} {r : List ByteArray} (h : LSt W c r) (hb : Below W.heap.size W W') : LSt W' c r := by
  obtain ⟨ao, cp, hc, hr⟩ := h.v
  have hlt : c < W.heap.size := by
    rcases Nat.lt_or_ge c W.heap.size with h' | h'
    · exact h'
    · rw [Array.getElem?_eq_none h'] at hc; cases hc
  refine ⟨ao, cp, by rw [hb.block c hlt]; exact hc, fun h0 => ?_⟩
  obtain ⟨g, o, h1, h2, h3, h4⟩ := hr h0
  refine ⟨g, o, h1, h2, h3, fun j x hx => ?_⟩
  have h5 := h4 j x hx
  exact (World.cell?_of_block (w := W) (hb.block g (cell_lt h5))).trans h5
theorem cell_of_heap {W : World} {b i : Nat} {C : Array Value} {T : TypeId} {fr : Nat × Nat} (h : W.heap[b]? = some (.cells C T fr)) : W.cell? ⟨b, i, none⟩ = C[i]? := by
  unfold World.cell?; rw [h]; rfl
theorem free_of_heap {W : World} {b i : Nat} {C : Array Value} {T : TypeId} (h : W.heap[b]? = some (.cells C T)) : W.frozen? ⟨b, i, none⟩ = false := by
  unfold World.frozen?; rw [h]; simp
theorem heap_set {W : World} {b i : Nat} {C : Array Value} {T : TypeId} (h : W.heap[b]? = some (.cells C T)) (v : Value) : (W.setCell ⟨b, i, none⟩ v).heap[b]? = some (.cells (C.setIfInBounds i v) T) := by
  show (W.heap.modify b _)[b]? = _
  rw [Array.getElem?_modify, if_pos rfl, h]
  rfl
theorem heap_set_other {W : World} {b k i : Nat} (hne : k ≠ b) (v : Value) : (W.setCell ⟨b, i, none⟩ v).heap[k]? = W.heap[k]? := by
  show (W.heap.modify b _)[k]? = _
  rw [Array.getElem?_modify, if_neg (Ne.symm hne)]
theorem OnlyC.set {W : World} {c i : Nat} (v : Value) (n : Nat) : OnlyC c W ((W.setCell ⟨c, i, none⟩ v).drewN n) := ⟨rfl, rfl, rfl, by simp [World.setCell], fun k hk => heap_set_other hk v⟩
set_option maxHeartbeats 1000000 in
set_option maxRecDepth 100000 in
theorem next_any (c : Nat) (r : List ByteArray) (w : World) (h : LSt w c r) (hr : r.length ≤ 20000) :
    Calls Tryz.prog 35 #[.pointer (some ⟨c, 0, none⟩)] w fun e w' => e = .returned (.string (r.headD ⟨#[]⟩)) ∧ LSt w' c r.tail ∧ OnlyC c w w' := by
  have HL := Lib.hid h
  obtain ⟨ao, cp, hc, hrr⟩ := h.v
  have c0 : w.cell? ⟨c, 0, none⟩ = some (.slice ao r.length cp) := cell_of_heap hc
  have hf : w.frozen? ⟨c, 0, none⟩ = false := free_of_heap hc
  have HC := Lib.hid hc
  cases r with
  | nil =>
    have c0' : w.cell? ⟨c, 0, none⟩ = some (.slice ao 0 cp) := c0
    clear c0 hrr hc h
    go_enter Tryz.func35, Tryz.ntmps35
    go_wp2
    go_ret
    exact ⟨rfl, HL.out, ⟨rfl, rfl, rfl, rfl, fun _ _ => rfl⟩⟩
  | cons x r =>
    obtain ⟨g, o, rfl, hgc, hle, hcells⟩ := hrr (by simp)
    have x0 : w.cell? ⟨g, o, none⟩ = some (.string x) := hcells 0 x rfl
    have HX := Lib.hid hcells
    have hle2 : r.length + 1 ≤ cp := by simpa using hle
    have c0' : w.cell? ⟨c, 0, none⟩ = some (.slice (some ⟨g, o, none⟩) (r.length + 1) cp) := c0
    clear c0 hrr hc h hcells hle
    have k1 : (0 : Int) < (r.length : Int) + 1 := by omega
    have k2 : (1 : Int) ≤ (r.length : Int) + 1 := by omega
    by_cases hcp : cp = 1
    · subst hcp
      obtain rfl : r = [] := List.eq_nil_of_length_eq_zero (by omega)
      go_enter Tryz.func35, Tryz.ntmps35
      go_wp2
      go_still_tail 6, (by kernel_rfl)
      change wpList _ _ _ _ _ w.drew
      have d1 : w.drew.frozen? ⟨c, 0, none⟩ = false := hf
      have d2 : w.drew.cell? ⟨c, 0, none⟩ = some (.slice (some ⟨g, o, none⟩) (0 + 1) 1) := c0'
      go_wp2
      go_ret
      exact ⟨rfl, ⟨some ⟨g, o, none⟩, 0, heap_set (i := 0) HC.out _, fun h0 => absurd h0 (by simp)⟩, OnlyC.set (c := c) (i := 0) _ 1⟩
    · go_enter Tryz.func35, Tryz.ntmps35
      go_wp2
      go_still_tail 6, (by kernel_rfl)
      change wpList _ _ _ _ _ w.drew
      go_wp2
      go_ret
      refine ⟨rfl, ⟨some ⟨g, o + 1, none⟩, cp - 1, heap_set (i := 0) HC.out _, fun _ => ⟨g, o + 1, rfl, hgc, by show r.length ≤ cp - 1; omega, fun j y hy => ?_⟩⟩, OnlyC.set (c := c) (i := 0) _ 1⟩
      have h1 := HX.out (j + 1) y (by simpa using hy)
      rw [show o + 1 + j = o + (j + 1) from by omega]
      exact (World.cell?_of_block (w := w) (heap_set_other (Nat.ne_of_lt hgc) _)).trans h1
/-- The number of a word. -/
def numB (s : ByteArray) : UInt8 := UInt8.ofNat (parse8 s.data.toList).1
set_option maxHeartbeats 1000000 in
set_option maxRecDepth 100000 in
theorem number_any (s : ByteArray) (w : World) (hG : Glob w) (hlim : s.size ≤ 281474976710656) :
    Calls Tryz.prog 36 #[.string s] w fun e w' => e = .returned (.int .u8 (numB s).toNat) ∧ Below w.heap.size w w' := by
  have hle := parse8_le s.data.toList
  have HN : Hid (((numB s).toNat : Int) = ((parse8 s.data.toList).1 : Nat)) := Lib.hid (by
    unfold numB
    rw [UInt8.toNat_ofNat']
    congr 1
    exact Nat.mod_eq_of_lt (by omega))
  rw [HN.out]
  cases h : (parse8 s.data.toList).2
  · have HC := Lib.hid (parse8_no s w hG hlim h)
    generalize (parse8 s.data.toList).1 = u at *
    clear h HN
    have HW : IntKind.u8.wrap (u : Int) = (u : Int) := by rw [IntKind.wrap_u8]; omega
    go_enter Tryz.func36, Tryz.ntmps36
    go_wp2_with ((go_at_call 37; refine HC.out.mono ?_; rintro e w' ⟨N, rfl, hb⟩))
    go_ret
    exact ⟨rfl, hb⟩
  · have HC := Lib.hid (parse8_ok s w hlim h)
    generalize (parse8 s.data.toList).1 = u at *
    clear h HN
    have HW : IntKind.u8.wrap (u : Int) = (u : Int) := by rw [IntKind.wrap_u8]; omega
    go_enter Tryz.func36, Tryz.ntmps36
    go_wp2_with ((go_at_call 37; refine HC.out.mono ?_; rintro e w' ⟨rfl, hb⟩))
    go_ret
    exact ⟨rfl, hb⟩
end Go.Proofs.YthllacodjeocmaaGreatDoor
