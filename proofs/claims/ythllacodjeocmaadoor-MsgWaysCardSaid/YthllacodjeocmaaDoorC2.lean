/- A geometry out of an argument's reading. -/
import Derived.Test.YthllacodjeocmaaDoorC1
import Derived.Test.YthllacodjeocmaaDoorU1
namespace Go.Proofs.YthllacodjeocmaaDoor
open Go.ChangeShapes Go.WideShapes Go.ChangeAt Go.RowKit
theorem list5 {α : Type} {l : List α} (h : l.length = 5) : ∃ a b c d e, l = [a, b, c, d, e] := by
  match l, h with
  | [a, b, c, d, e], _ => exact ⟨a, b, c, d, e, rfl⟩
theorem cells39 : Tryd.prog.cellsOf 39 = 5 := by kernel_rfl
section
variable {H : Type} {enc : TypeId × Value → H} {w : World} {base : Nat} {spare : Nat → Bool} {held : Bool}
theorem trod_int3 {n : Nat} {v : Value} {y : DataW H × List MemPlace} (h : DataW.trod enc Tryd.prog w base spare held n 3 [v] = some y) : ∃ b : Int, v = .int .i64 b := by
  obtain ⟨k, hc, _, _⟩ := DataW.trod_int Tryd.underlying3 h
  exact ⟨k, by simpa using hc⟩
set_option maxRecDepth 100000 in
theorem open_geo {r : Reach} {b0 : Nat} {v : Value} {d : DataW H} {p : List MemPlace} (hv : Value.okWide Tryd.prog w r b0 39 v) (h : DataW.Trod enc Tryd.prog w base spare held 39 v d p) :
    ∃ g : Ge, v = .agg g.arr := by
  obtain ⟨cs, rfl, hsz⟩ := okWide_struct Tryd.underlying39 hv
  obtain ⟨fuel, hf⟩ := h
  obtain ⟨cl⟩ := cs
  rw [cells39] at hsz
  obtain ⟨c0, c1, c2, c3, c4, rfl⟩ := list5 (l := cl) hsz
  obtain ⟨xs, n, _, _, _, hlen, hat⟩ := DataW.trod_struct Tryd.underlying39 hf
  obtain ⟨y0, y1, y2, y3, y4, rfl⟩ := list5 (l := xs) hlen
  have h0 : DataW.trod enc Tryd.prog w base spare held n 3 [c0] = some y0 := hat 0 _ rfl
  have h1 : DataW.trod enc Tryd.prog w base spare held n 3 [c1] = some y1 := hat 1 _ rfl
  have h2 : DataW.trod enc Tryd.prog w base spare held n 3 [c2] = some y2 := hat 2 _ rfl
  have h3 : DataW.trod enc Tryd.prog w base spare held n 3 [c3] = some y3 := hat 3 _ rfl
  have h4 : DataW.trod enc Tryd.prog w base spare held n 3 [c4] = some y4 := hat 4 _ rfl
  obtain ⟨a, rfl⟩ := trod_int3 h0
  obtain ⟨b, rfl⟩ := trod_int3 h1
  obtain ⟨c, rfl⟩ := trod_int3 h2
  obtain ⟨d, rfl⟩ := trod_int3 h3
  obtain ⟨e, rfl⟩ := trod_int3 h4
  exact ⟨⟨a, b, c, d, e⟩, rfl⟩
end
end Go.Proofs.YthllacodjeocmaaDoor
