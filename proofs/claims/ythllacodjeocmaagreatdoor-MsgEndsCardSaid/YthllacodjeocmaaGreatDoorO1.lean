/- A message out of an argument's reading, and back into one. -/
import Derived.Test.YthllacodjeocmaaGreatDoorM0
import Derived.ProofKit
import Derived.OpenShut
import Derived.Lib.SmallJoins
namespace Go.Proofs.YthllacodjeocmaaGreatDoor
open Go.ChangeShapes Go.WideShapes Go.ChangeAt Go.RowKit
theorem u8_of {n : Int} (h : (Lit.int .u8 n).wf = true) : ∃ b : UInt8, n = (b.toNat : Int) := by
  simp [Lit.wf, IntKind.min, IntKind.max, IntKind.signed, IntKind.bits] at h
  refine ⟨UInt8.ofNat n.toNat, ?_⟩
  rw [UInt8.toNat_ofNat']
  omega
theorem u8_wf (b : UInt8) : (Lit.int .u8 (b.toNat : Int)).wf = true := by
  have := b.toNat_lt
  simp [Lit.wf, IntKind.min, IntKind.max, IntKind.signed, IntKind.bits]
  omega
theorem list8 {α : Type} {l : List α} (h : l.length = 8) : ∃ a b c d e f g i, l = [a, b, c, d, e, f, g, i] := by
  match l, h with
  | [a, b, c, d, e, f, g, i], _ => exact ⟨a, b, c, d, e, f, g, i, rfl⟩
theorem list4 {α : Type} {l : List α} (h : l.length = 4) : ∃ a b c d, l = [a, b, c, d] := by
  match l, h with
  | [a, b, c, d], _ => exact ⟨a, b, c, d, rfl⟩
theorem list11 {α : Type} {l : List α} (h : l.length = 11) : ∃ a b c d e f g i j k m, l = [a, b, c, d, e, f, g, i, j, k, m] := by
  match l, h with
  | [a, b, c, d, e, f, g, i, j, k, m], _ => exact ⟨a, b, c, d, e, f, g, i, j, k, m, rfl⟩
def u8d {H : Type} (b : UInt8) : DataW H := .lit (.int .u8 (b.toNat : Int))
def Mg.data {H : Type} (m : Mg) : DataW H := .agg [u8d m.k, u8d m.f, u8d m.t, u8d m.l, u8d m.a, u8d m.c, .lit (.bool m.al), .agg [u8d m.d0, u8d m.d1, u8d m.d2, u8d m.d3]]
theorem cells5 : Tryz.prog.cellsOf 5 = 1 := by kernel_rfl
theorem cells4 : Tryz.prog.cellsOf 4 = 1 := by kernel_rfl
theorem cells23 : Tryz.prog.cellsOf 25 = 4 := by kernel_rfl
theorem cells25 : Tryz.prog.cellsOf 27 = 11 := by kernel_rfl
section
variable {H : Type} {enc : TypeId × Value → H} {w : World} {base : Nat} {spare : Nat → Bool} {held : Bool}
theorem trod_u8 {n : Nat} {v : Value} {y : DataW H × List MemPlace} (h : DataW.trod enc Tryz.prog w base spare held n 5 [v] = some y) : ∃ b : UInt8, v = .int .u8 (b.toNat : Int) ∧ y = (u8d b, []) := by
  obtain ⟨k, hc, hy, hw⟩ := DataW.trod_int Tryz.underlying5 h
  obtain ⟨b, rfl⟩ := u8_of hw
  exact ⟨b, by simpa using hc, hy⟩
set_option maxRecDepth 100000 in
theorem open_msg {r : Reach} {b0 : Nat} {v : Value} {d : DataW H} {p : List MemPlace} (hv : Value.okWide Tryz.prog w r b0 27 v) (h : DataW.Trod enc Tryz.prog w base spare held 27 v d p) :
    ∃ m : Mg, v = m.val ∧ d = m.data ∧ p = [] := by
  obtain ⟨cs, rfl, hsz⟩ := okWide_struct Tryz.underlying27 hv
  obtain ⟨fuel, hf⟩ := h
  obtain ⟨cl⟩ := cs
  rw [cells25] at hsz
  obtain ⟨c0, c1, c2, c3, c4, c5, c6, c7, c8, c9, c10, rfl⟩ := list11 (l := cl) hsz
  obtain ⟨xs, n, _, hx, _, hlen, hat⟩ := DataW.trod_struct Tryz.underlying27 hf
  obtain ⟨y0, y1, y2, y3, y4, y5, y6, y7, rfl⟩ := list8 (l := xs) hlen
  have h0 : DataW.trod enc Tryz.prog w base spare held n 5 [c0] = some y0 := hat 0 _ rfl
  have h1 : DataW.trod enc Tryz.prog w base spare held n 5 [c1] = some y1 := hat 1 _ rfl
  have h2 : DataW.trod enc Tryz.prog w base spare held n 5 [c2] = some y2 := hat 2 _ rfl
  have h3 : DataW.trod enc Tryz.prog w base spare held n 5 [c3] = some y3 := hat 3 _ rfl
  have h4 : DataW.trod enc Tryz.prog w base spare held n 5 [c4] = some y4 := hat 4 _ rfl
  have h5 : DataW.trod enc Tryz.prog w base spare held n 5 [c5] = some y5 := hat 5 _ rfl
  have h6 : DataW.trod enc Tryz.prog w base spare held n 4 [c6] = some y6 := hat 6 _ rfl
  have h7 : DataW.trod enc Tryz.prog w base spare held n 25 [c7, c8, c9, c10] = some y7 := hat 7 _ rfl
  obtain ⟨k, rfl, rfl⟩ := trod_u8 h0
  obtain ⟨f, rfl, rfl⟩ := trod_u8 h1
  obtain ⟨t, rfl, rfl⟩ := trod_u8 h2
  obtain ⟨l, rfl, rfl⟩ := trod_u8 h3
  obtain ⟨a, rfl, rfl⟩ := trod_u8 h4
  obtain ⟨c, rfl, rfl⟩ := trod_u8 h5
  obtain ⟨al, hal, rfl⟩ := DataW.trod_bool Tryz.underlying4 h6
  simp only [List.cons.injEq, and_true] at hal
  subst hal
  obtain ⟨zs, n', _, hz, _, hlen', hat'⟩ := DataW.trod_array Tryz.underlying25 h7
  obtain ⟨z0, z1, z2, z3, rfl⟩ := list4 hlen'
  have g0 : DataW.trod enc Tryz.prog w base spare held n' 5 [c7] = some z0 := hat' 0 (by decide)
  have g1 : DataW.trod enc Tryz.prog w base spare held n' 5 [c8] = some z1 := hat' 1 (by decide)
  have g2 : DataW.trod enc Tryz.prog w base spare held n' 5 [c9] = some z2 := hat' 2 (by decide)
  have g3 : DataW.trod enc Tryz.prog w base spare held n' 5 [c10] = some z3 := hat' 3 (by decide)
  obtain ⟨d0, rfl, rfl⟩ := trod_u8 g0
  obtain ⟨d1, rfl, rfl⟩ := trod_u8 g1
  obtain ⟨d2, rfl, rfl⟩ := trod_u8 g2
  obtain ⟨d3, rfl, rfl⟩ := trod_u8 g3
  subst hz
  simp only [Prod.mk.injEq] at hx
  exact ⟨⟨k, f, t, l, a, c, al, d0, d1, d2, d3⟩, rfl, hx.1, by simpa using hx.2⟩
set_option maxRecDepth 100000 in
theorem shut_msg (m : Mg) : DataW.Trod enc Tryz.prog w base spare held 27 m.val m.data [] :=
  ⟨3, by simp [DataW.trod, Mg.val, Mg.data, u8d, Value.cells, Tryz.underlying27, Tryz.underlying25, Tryz.underlying5, Tryz.underlying4, cells25, cells23, cells5, cells4, u8_wf, List.range, List.range.loop]⟩
end
end Go.Proofs.YthllacodjeocmaaGreatDoor
