/- The reference's text: small laws. -/
import Derived.Test.YthllacodjeocmaaGreatDoorT1
namespace Go.Proofs.YthllacodjeocmaaGreatDoor
open Go.RowKit
attribute [local go_sem] Oper.semAt_some
theorem nm68 : (Tryz.f29.name == "runtime.NumGoroutine") = false := by kernel_rfl
theorem bd68 : Tryz.f29.body.isNone = false := by kernel_rfl
theorem nm55 : (Tryz.f30.name == "runtime.NumGoroutine") = false := by kernel_rfl
theorem bd55 : Tryz.f30.body.isNone = false := by kernel_rfl
def namesC : Array Value := ((List.range 12).map fun i => Value.string (nameOf (i + 1))).toArray
def NamesF : Fact := ⟨fun v W => ∃ g, v = .slice (some ⟨g, 0, none⟩) 12 12 ∧ W.heap[g]? = some (.cells namesC 9), fun _ _ _ hb ⟨g, e, h⟩ => ⟨g, e, blk_next h hb⟩⟩
theorem names_eq : namesC = #[.string ⟨#[71, 101, 116, 83]⟩, .string ⟨#[71, 101, 116, 77]⟩, .string ⟨#[80, 117, 116]⟩, .string ⟨#[68, 111, 110, 101]⟩, .string ⟨#[67, 111, 112, 121]⟩, .string ⟨#[70, 119, 100, 83]⟩, .string ⟨#[70, 119, 100, 77]⟩, .string ⟨#[73, 110, 118]⟩, .string ⟨#[80, 117, 116, 65, 99, 107]⟩, .string ⟨#[86, 97, 108, 117, 101]⟩, .string ⟨#[71, 114, 97, 110, 116]⟩, .string ⟨#[73, 110, 118, 65, 99, 107]⟩] := by kernel_rfl
theorem names_any (w : World) : Calls Tryz.prog 30 #[] w fun e w' => e = .returned (.slice (some ⟨w.heap.size, 0, none⟩) 12 12) ∧ w' = w.alloc (.cells namesC 9) := by
  go_enter Tryz.func30, Tryz.ntmps30
  go_wp2
  go_ret
  exact ⟨rfl, by rw [names_eq]⟩
theorem names_ext (w : World) : Calls Tryz.prog 30 #[] w fun e w' => ∃ g, e = .returned (.slice (some ⟨g, 0, none⟩) 12 12) ∧ w'.heap[g]? = some (.cells namesC 9) ∧ Below w.heap.size w w' :=
  (names_any w).mono fun _ _ ⟨e, h⟩ => ⟨_, e, by rw [h]; exact heap_alloc_new w _, by rw [h]; exact (Below.refl _ _).alloc (Nat.le_refl _) _⟩
theorem names_at {W : World} {g k : Nat} (h : W.heap[g]? = some (.cells namesC 9)) (h1 : 1 ≤ k) (hk : k ≤ 12) : W.cell? ⟨g, k - 1, none⟩ = some (.string (nameOf k)) := by
  rw [cell_of_heap h]
  unfold namesC
  rw [List.getElem?_toArray, List.getElem?_map, List.getElem?_range (by omega)]
  simp only [Option.map_some]
  rw [show k - 1 + 1 = k by omega]
section
variable {W : World}
theorem ld_u8 {p : Addr} {v : Value} (h : W.cell? p = some v) : (loadVar 5 p).run Tryz.prog W = .ok v W := by simp [loadVar, isAgg, go_sem, h]
theorem ld_str {p : Addr} {v : Value} (h : W.cell? p = some v) : (loadVar 9 p).run Tryz.prog W = .ok v W := by simp [loadVar, isAgg, go_sem, h]
theorem fa25_0 (b : Nat) : (Instr.fieldAt 27 (.pointer (some ⟨b, 0, none⟩)) 0).run Tryz.prog W = .ok (.pointer (some ⟨b, 0, none⟩)) W := by kernel_rfl
theorem fa25_1 (b : Nat) : (Instr.fieldAt 27 (.pointer (some ⟨b, 0, none⟩)) 1).run Tryz.prog W = .ok (.pointer (some ⟨b, 1, none⟩)) W := by kernel_rfl
theorem fa25_2 (b : Nat) : (Instr.fieldAt 27 (.pointer (some ⟨b, 0, none⟩)) 2).run Tryz.prog W = .ok (.pointer (some ⟨b, 2, none⟩)) W := by kernel_rfl
theorem fa25_3 (b : Nat) : (Instr.fieldAt 27 (.pointer (some ⟨b, 0, none⟩)) 3).run Tryz.prog W = .ok (.pointer (some ⟨b, 3, none⟩)) W := by kernel_rfl
theorem str_add {P : Program} {T : TypeId} {a b : ByteArray} (h : a.size + b.size ≤ 9223372036854775807) : (binOp .add T (.string a) (.string b)).run P W = .ok (.string (a ++ b)) W := by
  have h' : ¬ 9223372036854775807 < a.size + b.size := by omega
  simp [binOp, Op.stringOp, go_sem]
  omega
end
theorem join_snoc (x : List UInt8) : ∀ ws : List (List UInt8), ws ≠ [] → Lib.join (ws ++ [x]) [32] = Lib.join ws [32] ++ 32 :: x
  | [], h => absurd rfl h
  | [a], _ => by rw [Lib.join_one]; show Lib.join (a :: x :: []) [32] = _; rw [join_two, Lib.join_one]
  | a :: b :: r, _ => by
    have ih := join_snoc x (b :: r) (by simp)
    show Lib.join (a :: b :: (r ++ [x])) [32] = _
    rw [join_two, join_two]
    have ih' : Lib.join (b :: (r ++ [x])) [32] = Lib.join (b :: r) [32] ++ 32 :: x := ih
    rw [ih']
    simp
theorem dec_size (n : UInt8) : (decS n).size ≤ 3 := by
  have := dec_len n
  show (dec n).toArray.size ≤ 3
  simpa using this
theorem decS_data (n : UInt8) : (decS n).data.toList = dec n := rfl
section
variable {bs : List (Nat × Array Value × TypeId)} {w W : World}
theorem number_st2 (n : UInt8) (h : Hid (St bs w W)) : Calls Tryz.prog 29 #[.int .u8 n.toNat] W fun e w' => e = .returned (.string (decS n)) ∧ Hid (St bs w w') :=
  (number_ref n W).mono fun _ _ ⟨e, hb⟩ => ⟨e, Lib.hid (h.out.next hb)⟩
end
end Go.Proofs.YthllacodjeocmaaGreatDoor
