/- From the rows' condition on the library's variables to what the walks ask; the witness' world. -/
import Derived.Test.YtgpndifkkaomcaaDoorRows
import Derived.Test.YtgpndifkkaomcaaDoorParse8
import Derived.ProofKit
import Derived.OpenShut
import Derived.LaidMore
import Derived.Stop.Joined
import Derived.Stop.LaidErr
import Derived.Lib.LaidTab
namespace Go.Proofs.YtgpndifkkaomcaaDoor
open Go.ChangeShapes Go.WideShapes Go.ChangeAt Go.RowKit
theorem own : ownKnob Tryd.prog.godebug = none := by kernel_rfl
theorem gSyn : Tryd.prog.globalNamed "strconv.ErrSyntax" = some 0 := by kernel_rfl
theorem gRng : Tryd.prog.globalNamed "strconv.ErrRange" = some 1 := by kernel_rfl
theorem gTab : Tryd.prog.globalNamed "internal/strconv.uint64pow10" = some 2 := by kernel_rfl
theorem gSynT : (Tryd.prog.globals[0]?).map (·.type) = some 55 := by kernel_rfl
theorem gRngT : (Tryd.prog.globals[1]?).map (·.type) = some 55 := by kernel_rfl
theorem gTabT : (Tryd.prog.globals[2]?).map (·.type) = some 102 := by kernel_rfl
theorem cells9 : Tryd.prog.cellsOf 9 = 1 := by kernel_rfl
theorem cells102 : Tryd.prog.cellsOf 102 = 20 := by kernel_rfl
theorem cells109 : Tryd.prog.cellsOf 109 = 1 := by kernel_rfl
theorem star : "*" ++ "errors.errorString" = "*errors.errorString" := by decide
theorem row107 (u : TypeId) (h : Tryd.prog.typeName? 3 u = some "*errors.errorString") : u = 107 :=
  typeName_ptr_named (nm := "errors.errorString") (by rw [star]; kernel_rfl) (by kernel_rfl) (by decide) u (by rw [star]; exact h)
theorem cells53 : Tryd.prog.cellsOf 53 = 1 := by kernel_rfl
theorem pow10_eq : Rows.laid_internal_strconv_uint64pow10 (H := Unit) = Lib.tabData .u64 Lib.pow10Tab := by kernel_rfl
theorem glob_of_laid {W : World} (h : laidMetH Tryd.prog Rows.lexWordsRow.laid W) : Glob W := by
  rw [MakeChecks.laidMetH_plain _ _ _ (by kernel_rfl)] at h
  have h2 : laidMet Tryd.prog [("internal/strconv.uint64pow10", Rows.laid_internal_strconv_uint64pow10), ("strconv.ErrRange", Rows.laid_strconv_ErrRange), ("strconv.ErrSyntax", Rows.laid_strconv_ErrSyntax)] W := h.tail.tail
  have h3 := h2.tail
  have h4 := h3.tail
  obtain ⟨a1, s1, v1, _⟩ := laid_sentinel h3 gRng gRngT Tryd.underlying55 row107 Tryd.underlying107 Tryd.underlying109 rfl rfl Tryd.underlying9 cells109 cells9
  obtain ⟨a2, s2, v2, _⟩ := laid_sentinel h4 gSyn gSynT Tryd.underlying55 row107 Tryd.underlying107 Tryd.underlying109 rfl rfl Tryd.underlying9 cells109 cells9
  rw [pow10_eq] at h2
  have ht := Lib.tabIs_of_head gTab gTabT Tryd.underlying102 Tryd.underlying53 cells53 cells102 h2
  have hc := ht.cell gTab 0 (by decide)
  exact ⟨ht, ⟨_, _, by simpa using World.var?_cell gSyn v2 0⟩, ⟨_, _, by simpa using World.var?_cell gRng v1 0⟩, cell_lt hc⟩
/-- The door's own heap meets the condition. -/
theorem door_met (os : Os) (args : Array Value) : laidMetH Tryd.prog Rows.lexWordsRow.laid ((World.doorLaid Tryd.prog 400 os).forCall (fun _ _ => 0) ⟨#[], args, []⟩).memory :=
  laidMetH_of_parts3 (fuel := 8) (laidMet_of_run' 8 (by kernel_rfl) (by kernel_rfl)) (by kernel_rfl) (by kernel_rfl)
end Go.Proofs.YtgpndifkkaomcaaDoor
