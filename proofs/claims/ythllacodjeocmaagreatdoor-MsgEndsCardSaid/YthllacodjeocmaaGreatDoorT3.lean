/- Runs of single operations on numbers and slices. -/
import Derived.Test.YthllacodjeocmaaGreatDoorT2
namespace Go.Proofs.YthllacodjeocmaaGreatDoor
open Go.RowKit
theorem i_geq {P : Program} {T : TypeId} {k : IntKind} {a b : Int} {W : World} {r : Bool} (h : decide (b ≤ a) = r) : (binOp .geq T (.int k a) (.int k b)).run P W = .ok (.bool r) W := by
  subst h; simp [binOp, Op.intCmp, go_sem]
theorem i_leq {P : Program} {T : TypeId} {k : IntKind} {a b : Int} {W : World} {r : Bool} (h : decide (a ≤ b) = r) : (binOp .leq T (.int k a) (.int k b)).run P W = .ok (.bool r) W := by
  subst h; simp [binOp, Op.intCmp, go_sem]
theorem i_lss {P : Program} {T : TypeId} {k : IntKind} {a b : Int} {W : World} {r : Bool} (h : decide (a < b) = r) : (binOp .lss T (.int k a) (.int k b)).run P W = .ok (.bool r) W := by
  subst h; simp [binOp, Op.intCmp, go_sem]
theorem i_gtr {P : Program} {T : TypeId} {k : IntKind} {a b : Int} {W : World} {r : Bool} (h : decide (b < a) = r) : (binOp .gtr T (.int k a) (.int k b)).run P W = .ok (.bool r) W := by
  subst h; simp [binOp, Op.intCmp, go_sem]
theorem i_eql {P : Program} {T : TypeId} {k : IntKind} {a b : Int} {W : World} {r : Bool} (h : (a == b) = r) : (binOp .eql T (.int k a) (.int k b)).run P W = .ok (.bool r) W := by
  subst h; simp [binOp, Op.intCmp, go_sem]
theorem i_neq {P : Program} {T : TypeId} {k : IntKind} {a b : Int} {W : World} {r : Bool} (h : (a != b) = r) : (binOp .neq T (.int k a) (.int k b)).run P W = .ok (.bool r) W := by
  subst h; simp [binOp, Op.intCmp, go_sem]
theorem i_sub {P : Program} {T : TypeId} {k : IntKind} {a b c : Int} {W : World} (h : k.wrap (a - b) = c) : (binOp .sub T (.int k a) (.int k b)).run P W = .ok (.int k c) W := by
  subst h; simp [binOp, Op.intArith, go_sem]
theorem i_add {P : Program} {T : TypeId} {k : IntKind} {a b c : Int} {W : World} (h : k.wrap (a + b) = c) : (binOp .add T (.int k a) (.int k b)).run P W = .ok (.int k c) W := by
  subst h; simp [binOp, Op.intArith, go_sem]
theorem i_mul {P : Program} {T : TypeId} {k : IntKind} {a b c : Int} {W : World} (h : k.wrap (a * b) = c) : (binOp .mul T (.int k a) (.int k b)).run P W = .ok (.int k c) W := by
  subst h; simp [binOp, Op.intArith, go_sem]
theorem wrap8 {n : Int} (h0 : 0 ≤ n) (h1 : n < 256) : IntKind.u8.wrap n = n := by
  simp [IntKind.wrap, IntKind.signed, IntKind.bits]; omega
theorem conv53 {n : Int} {W : World} (h0 : 0 ≤ n) (h1 : n < 256) : (convert 5 3 (.int .u8 n)).run Tryz.prog W = .ok (.int .i64 n) W := by
  have h : IntKind.i64.wrap n = n := IntWalk.i64_in n ⟨by omega, by omega⟩
  simp [convert, go_sem, h]
theorem run_len {P : Program} {ev : Operand → Value} {o : Oper} {W : World} {x : Operand} {T E : TypeId} {A : Option Addr} {n c : Nat} (ho : o.op = .call { callee := .builtin .len, args := #[x], argTypes := #[T] }) (hx : ev x = .slice A n c) (hT : P.underlying T = some (.slice E)) : (execOp ev o).run P W = .ok (.value (.int .i64 n)) W := by
  unfold execOp
  simp [ho, resolve, hx, invoke, builtin, go_sem, hT]
theorem idx49 {W : World} {g o n c : Nat} {k : IntKind} {i : Nat} (h : i < n) : (Instr.indexAt 36 (.slice (some ⟨g, o, none⟩) n c) (.int k i)).run Tryz.prog W = .ok (.pointer (some ⟨g, o + i, none⟩)) W := by
  simp [Instr.indexAt, go_sem, h]
end Go.Proofs.YthllacodjeocmaaGreatDoor
