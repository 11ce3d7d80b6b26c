/- Parse's result. -/
import Derived.Test.YthllacodjeocmaaGreatDoorM5
namespace Go.Proofs.YthllacodjeocmaaGreatDoor
open Go.RowKit
theorem arr11 (a0 a1 a2 a3 a4 a5 a6 a7 a8 a9 a10 v0 v1 v2 v3 v4 v5 v6 v7 v8 v9 v10 : Value) :
    (((((((((((#[a0, a1, a2, a3, a4, a5, a6, a7, a8, a9, a10] : Array Value).setIfInBounds 0 v0).setIfInBounds 1 v1).setIfInBounds 2 v2).setIfInBounds 3 v3).setIfInBounds 4 v4).setIfInBounds 5 v5).setIfInBounds 6 v6).setIfInBounds 7 v7).setIfInBounds 8 v8).setIfInBounds 9 v9).setIfInBounds 10 v10 = #[v0, v1, v2, v3, v4, v5, v6, v7, v8, v9, v10] := by kernel_rfl
theorem stored11 {W : World} {rb : Nat} {a0 a1 a2 a3 a4 a5 a6 a7 a8 a9 a10 : Value} (h : W.heap[rb]? = some (.cells #[a0, a1, a2, a3, a4, a5, a6, a7, a8, a9, a10] 27)) (v0 v1 v2 v3 v4 v5 v6 v7 v8 v9 v10 : Value) :
    (((((((((((W.setCell ⟨rb, 0, none⟩ v0).setCell ⟨rb, 1, none⟩ v1).setCell ⟨rb, 2, none⟩ v2).setCell ⟨rb, 3, none⟩ v3).setCell ⟨rb, 4, none⟩ v4).setCell ⟨rb, 5, none⟩ v5).setCell ⟨rb, 6, none⟩ v6).setCell ⟨rb, 7, none⟩ v7).setCell ⟨rb, 8, none⟩ v8).setCell ⟨rb, 9, none⟩ v9).setCell ⟨rb, 10, none⟩ v10).heap[rb]? = some (.cells #[v0, v1, v2, v3, v4, v5, v6, v7, v8, v9, v10] 27) := by
  have h0 := heap_set (i := 0) h v0
  have h1 := heap_set (i := 1) h0 v1
  have h2 := heap_set (i := 2) h1 v2
  have h3 := heap_set (i := 3) h2 v3
  have h4 := heap_set (i := 4) h3 v4
  have h5 := heap_set (i := 5) h4 v5
  have h6 := heap_set (i := 6) h5 v6
  have h7 := heap_set (i := 7) h6 v7
  have h8 := heap_set (i := 8) h7 v8
  have h9 := heap_set (i := 9) h8 v9
  have h10 := heap_set (i := 10) h9 v10
  rw [arr11] at h10
  exact h10
theorem below11 {w W : World} {rb : Nat} (h : Below w.heap.size w W) (ho : w.heap.size ≤ rb) (v0 v1 v2 v3 v4 v5 v6 v7 v8 v9 v10 : Value) :
    Below w.heap.size w (((((((((((W.setCell ⟨rb, 0, none⟩ v0).setCell ⟨rb, 1, none⟩ v1).setCell ⟨rb, 2, none⟩ v2).setCell ⟨rb, 3, none⟩ v3).setCell ⟨rb, 4, none⟩ v4).setCell ⟨rb, 5, none⟩ v5).setCell ⟨rb, 6, none⟩ v6).setCell ⟨rb, 7, none⟩ v7).setCell ⟨rb, 8, none⟩ v8).setCell ⟨rb, 9, none⟩ v9).setCell ⟨rb, 10, none⟩ v10) := by
  have h0 := h.setCell (p := ⟨rb, 0, none⟩) ho v0
  have h1 := h0.setCell (p := ⟨rb, 1, none⟩) ho v1
  have h2 := h1.setCell (p := ⟨rb, 2, none⟩) ho v2
  have h3 := h2.setCell (p := ⟨rb, 3, none⟩) ho v3
  have h4 := h3.setCell (p := ⟨rb, 4, none⟩) ho v4
  have h5 := h4.setCell (p := ⟨rb, 5, none⟩) ho v5
  have h6 := h5.setCell (p := ⟨rb, 6, none⟩) ho v6
  have h7 := h6.setCell (p := ⟨rb, 7, none⟩) ho v7
  have h8 := h7.setCell (p := ⟨rb, 8, none⟩) ho v8
  have h9 := h8.setCell (p := ⟨rb, 9, none⟩) ho v9
  exact h9.setCell (p := ⟨rb, 10, none⟩) ho v10
theorem msgSize : (Tryz.prog.info? 27).map (·.size) = some 11 := by kernel_rfl
theorem load_msg (W : World) (b : Nat) (m : Mg) (h : W.heap[b]? = some (.cells (boxOf m) 27)) : (loadVar 27 ⟨b, 0, none⟩).run Tryz.prog W = .ok m.val W :=
  run_loadVar_row W b 27 27 (boxOf m) (0, 0) _ h Tryz.underlying27 rfl (by rw [msgSize]; rfl)
theorem results13_run (tmps : Array Value) (W : World) (rb : Nat) (m : Mg) (er : Int) (h2 : tmps.getD 2 undef = .pointer (some ⟨rb, 0, none⟩)) (h3 : tmps.getD 3 undef = .int .i64 er) (h : W.heap[rb]? = some (.cells (boxOf m) 27)) :
    (results Tryz.f17 tmps).run Tryz.prog W = .ok (.tuple #[m.val, .int .i64 er]) W := by
  have hl := load_msg W rb m h
  have h2' : tmps[2]?.getD undef = .pointer (some ⟨rb, 0, none⟩) := by simpa using h2
  have h3' : tmps[3]?.getD undef = .int .i64 er := by simpa using h3
  simp [results, Tryz.results17, h2', h3', asAddr, hl]
end Go.Proofs.YthllacodjeocmaaGreatDoor
