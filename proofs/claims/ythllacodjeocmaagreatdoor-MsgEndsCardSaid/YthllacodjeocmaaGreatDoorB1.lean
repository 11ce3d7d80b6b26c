/- The plain facts of MsgBack, and small laws. -/
import Derived.Test.YthllacodjeocmaaGreatDoorG3
import Derived.Test.YthllacodjeocmaaGreatDoorW2
namespace Go.Proofs.YthllacodjeocmaaGreatDoor
open Go.RowKit
theorem nm15 : (Tryz.f14.name == "runtime.NumGoroutine") = false := by kernel_rfl
theorem bd15 : Tryz.f14.body.isNone = false := by kernel_rfl
def encS (m : Mg) : ByteArray := ⟨(bytesOf m).toArray⟩
theorem encS_size (m : Mg) : (encS m).size = 11 := by unfold encS; show (bytesOf m).toArray.size = 11; rw [List.size_toArray]; rfl
theorem encS_list (m : Mg) : (encS m).toList = bytesOf m := by rw [ByteArray.toList_eq]; rfl
theorem textS_list (m : Mg) : (textS m).toList = textOf m := by rw [ByteArray.toList_eq]; rfl
theorem less_eq : ∀ a b : List UInt8, Op.bytesLess a b = decide (Lib.compareBytes a b < 0)
  | _, [] => by
    rename_i a
    cases a <;> simp [Op.bytesLess, Lib.compareBytes]
  | [], _ :: _ => by simp [Op.bytesLess, Lib.compareBytes]
  | x :: a, y :: b => by
    have ih := less_eq a b
    unfold Op.bytesLess Lib.compareBytes
    have t1 := @UInt8.lt_iff_toNat_lt x y
    have t2 := @UInt8.lt_iff_toNat_lt y x
    by_cases a1 : x < y
    · simp [a1]
    · by_cases a2 : y < x
      · have : ¬ x = y := fun h => by rw [h] at a2; exact absurd a2 (UInt8.lt_irrefl y)
        simp [a1, a2, this]
      · have : x = y := UInt8.toNat_inj.1 (by have hp1 : ¬ x.toNat < y.toNat := fun h => a1 (t1.2 h); have hp2 : ¬ y.toNat < x.toNat := fun h => a2 (t2.2 h); omega)
        subst this
        simp [ih]
section
variable {P : Program} {T : TypeId} {W : World}
theorem str_eql {a b : ByteArray} {r : Bool} (h : (a.toList == b.toList) = r) : (binOp .eql T (.string a) (.string b)).run P W = .ok (.bool r) W := by
  subst h; simp [binOp, Op.stringOp, go_sem]
theorem str_lss {a b : ByteArray} {r : Bool} (h : Op.bytesLess a.toList b.toList = r) : (binOp .lss T (.string a) (.string b)).run P W = .ok (.bool r) W := by
  subst h; simp [binOp, Op.stringOp, go_sem]
end
theorem bool_eql (a b : Bool) (W : World) : (binOp .eql 4 (.bool a) (.bool b)).run Tryz.prog W = .ok (.bool (a == b)) W := by cases a <;> cases b <;> kernel_rfl
theorem eqB_iff (m o : Mg) : m.eqB o = true ↔ m = o := by
  unfold Mg.eqB
  rw [decide_eq_true_eq]
  exact ⟨bytes_inj, fun h => by rw [h]⟩
theorem enc_eq {m o : Mg} {e : Bool} (h : m.eqB o = e) : ((encS m).toList == (encS o).toList) = e := by
  rw [encS_list, encS_list, ← h]
  unfold Mg.eqB
  rw [Bool.eq_iff_iff, beq_iff_eq, decide_eq_true_eq]
theorem text_eq {m o : Mg} {e : Bool} (h : m.eqB o = e) : ((textS m).toList == (textS o).toList) = e := by
  rw [textS_list, textS_list, ← h, Bool.eq_iff_iff, beq_iff_eq, eqB_iff]
  exact ⟨text_inj, fun h => by rw [h]⟩
theorem enc_less {m o : Mg} {l : Bool} (h : lessB m o = l) : Op.bytesLess (encS m).toList (encS o).toList = l := by
  rw [encS_list, encS_list, less_eq, ← h]
  rfl
theorem eqlM {m o : Mg} {e : Bool} {W : World} (h : m.eqB o = e) : (binOp .eql 27 (.agg (boxOf m)) (.agg (boxOf o))).run Tryz.prog W = .ok (.bool e) W := by rw [← h]; exact eql25 m o W
theorem neqM {m o : Mg} {e : Bool} {W : World} (h : (!m.eqB o) = e) : (binOp .neq 27 (.agg (boxOf m)) (.agg (boxOf o))).run Tryz.prog W = .ok (.bool e) W := by rw [← h]; exact neq25 m o W
theorem neq_self (m : Mg) (W : World) : (binOp .neq 27 (.agg (boxOf m)) (.agg (boxOf m))).run Tryz.prog W = .ok (.bool false) W := neqM (by rw [(eqB_iff m m).2 rfl]; rfl)
/-- The three ways in which two messages stand. -/
theorem three_ways (m o : Mg) : (m.eqB o = true ∧ lessB m o = false ∧ lessB o m = false) ∨ (m.eqB o = false ∧ lessB m o = true ∧ lessB o m = false) ∨ (m.eqB o = false ∧ lessB m o = false ∧ lessB o m = true) := by
  have hs := cmp_swap (bytesOf m) (bytesOf o)
  have hz := cmp_zero (bytesOf m) (bytesOf o)
  unfold lessB
  rw [hs]
  by_cases h : m.eqB o = true
  · have hm := (eqB_iff m o).1 h
    have h0 := hz.2 (by rw [hm])
    rw [h0]
    exact .inl ⟨h, by decide, by decide⟩
  · have h' : m.eqB o = false := by simpa using h
    have h0 : ¬ Lib.compareBytes (bytesOf m) (bytesOf o) = 0 := fun e => h ((eqB_iff m o).2 (bytes_inj (hz.1 e)))
    rcases Int.lt_trichotomy (Lib.compareBytes (bytesOf m) (bytesOf o)) 0 with h1 | h1 | h1
    · exact .inr (.inl ⟨h', decide_eq_true h1, decide_eq_false (by omega)⟩)
    · exact absurd h1 h0
    · exact .inr (.inr ⟨h', decide_eq_false (by omega), decide_eq_true (by omega)⟩)
section
variable {bs : List (Nat × Array Value × TypeId)} {w W W' : World}
/-- A message stored into a box just made. -/
theorem St.newbox {C : Array Value} (h : St bs w W) (m : Mg) (ho : OnlyC W.heap.size (W.alloc (.cells C 27)) W') (hn : W'.heap[W.heap.size]? = some (.cells (boxOf m) 27)) : St ((W.heap.size, boxOf m, 27) :: bs) w W' :=
  (h.alloc C 27).only ho h.b.size h.g.g.size (fun x hx e => by have := blk_lt (h.h x hx); omega) hn
theorem St.boxed (h : St bs w W) (C : Array Value) {n : Nat} (hn : W.heap.size = n) : St ((n, C, 27) :: bs) w (W.alloc (.cells C 27)) := by subst hn; exact h.alloc C 27
end
end Go.Proofs.YthllacodjeocmaaGreatDoor
