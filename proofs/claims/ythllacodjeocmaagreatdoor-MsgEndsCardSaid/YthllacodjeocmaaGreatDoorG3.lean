/- MsgOnly, walked. -/
import Derived.Test.YthllacodjeocmaaGreatDoorG2
namespace Go.Proofs.YthllacodjeocmaaGreatDoor
open Go.RowKit
attribute [local go_sem] Oper.semAt_some
theorem nm14 : (Tryz.f12.name == "runtime.NumGoroutine") = false := by kernel_rfl
theorem bd14 : Tryz.f12.body.isNone = false := by kernel_rfl
theorem bts_form {W : World} {v : Value} {l : List UInt8} (h : Bts W v l) : ∃ A cap, v = .slice A l.length cap := by
  obtain ⟨A, cap, e, _⟩ := h
  exact ⟨A, cap, e⟩
theorem conv_empty (A : Option Addr) (cap : Nat) (W : World) : Sem.run Tryz.prog (convert 33 9 (.slice A 0 cap)) W = .ok (.string ⟨#[]⟩) W := by
  cases A <;> kernel_rfl
theorem bts_str {W : World} {v : Value} {l : List UInt8} (h : Bts W v l) : Sem.run Tryz.prog (convert 33 9 v) W = .ok (.string ⟨l.toArray⟩) W := by
  obtain ⟨A, cap, rfl, _, hB⟩ := h
  by_cases h0 : 0 < l.length
  · obtain ⟨b, o, rfl, h⟩ := hB h0
    exact bytesO_str h rfl
  · have : l = [] := List.eq_nil_of_length_eq_zero (by omega)
    subst this
    exact conv_empty A cap W
theorem eg25 (op : BinOp) (x y : Operand) (A B : Array Value) (W : World) : (eqGuard op 27 x y (.agg A) (.agg B)).run Tryz.prog W = .ok () W := by
  have h : Tryz.prog.eqGuardType Tryz.prog.depth 27 = false := by kernel_rfl
  cases op <;> simp [eqGuard, go_sem, h]
theorem eql25 (m o : Mg) (W : World) : (binOp .eql 27 (.agg (boxOf m)) (.agg (boxOf o))).run Tryz.prog W = .ok (.bool (m.eqB o)) W := by
  have h : Sem.run Tryz.prog (Op.equalIn Op.maxDepth 27 (.agg (boxOf m)) (.agg (boxOf o))) W = .ok (m.eqB o) W := eq_msg W m o
  generalize boxOf m = v at h ⊢
  generalize boxOf o = v' at h ⊢
  simp [binOp, Op.equal, go_sem, h]
theorem neq25 (m o : Mg) (W : World) : (binOp .neq 27 (.agg (boxOf m)) (.agg (boxOf o))).run Tryz.prog W = .ok (.bool (!m.eqB o)) W := by
  have h : Sem.run Tryz.prog (Op.equalIn Op.maxDepth 27 (.agg (boxOf m)) (.agg (boxOf o))) W = .ok (m.eqB o) W := eq_msg W m o
  generalize boxOf m = v at h ⊢
  generalize boxOf o = v' at h ⊢
  simp [binOp, Op.equal, go_sem, h]
theorem ld25 {W : World} {b : Nat} {m : Mg} (h : W.heap[b]? = some (.cells (boxOf m) 27)) : (loadVar 27 ⟨b, 0, none⟩).run Tryz.prog W = .ok (.agg (boxOf m)) W := load_msg W b m h
theorem box_one (m : Mg) : (boxOf m).all (·.oneCell') = true := by unfold boxOf; simp [Value.oneCell']
theorem mo : Tryz.prog.follows .mixedOrders = true := by kernel_rfl
theorem wpl_ld25 {ops : Array Oper} {rest : List Oper} {o : Oper} {a : Act} {W : World} {Q : Exit → Act → World → Prop} (hw : Region.wanted o (yielded ops a.tmps) = true) (x : Operand) (ho : o.op = .load 27 x) (b : Nat) (m : Mg) (hx : a.eval x = .pointer (some ⟨b, 0, none⟩)) (h : W.heap[b]? = some (.cells (boxOf m) 27)) (k : wpList Tryz.prog ops Q rest (a.put o.dst (.agg (boxOf m))) W) : wpList Tryz.prog ops Q (o :: rest) a W := by
  unfold wpList
  rw [if_pos hw]
  exact .inl (wp_load_row 27 x ho b hx 27 (boxOf m) (0, 0) _ h Tryz.underlying27 rfl msgSize k)
theorem eqZ (W : World) : Sem.run Tryz.prog (binOp .eql 27 (.agg (boxOf zeroM)) (.agg #[.int .u8 0, .int .u8 0, .int .u8 0, .int .u8 0, .int .u8 0, .int .u8 0, .bool false, .int .u8 0, .int .u8 0, .int .u8 0, .int .u8 0])) W = .ok (.bool true) W := eql25 zeroM zeroM W
theorem neqS (l : List UInt8) (W : World) : (binOp .neq 9 (.string ⟨l.toArray⟩) (.string ⟨l.toArray⟩)).run Tryz.prog W = .ok (.bool false) W := by
  simp [binOp, Op.stringOp, go_sem]
theorem neqZ (W : World) : (binOp .neq 27 (.agg (boxOf zeroM)) (.agg (boxOf zeroM))).run Tryz.prog W = .ok (.bool false) W := by
  rw [neq25]
  rfl
theorem bld25 (f : Nat × Operand → Nat × Value) (W : World) : (Instr.build 27 (#[].map f)).run Tryz.prog W = .ok (.agg (boxOf zeroM)) W := by kernel_rfl
end Go.Proofs.YthllacodjeocmaaGreatDoor
