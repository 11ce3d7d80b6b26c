/- Read: a message of its bytes, for every slice of bytes. -/
import Derived.Test.YthllacodjeocmaaGreatDoorL2
import Derived.Test.YthllacodjeocmaaGreatDoorN1
import Derived.Laws.BytesArg
import Derived.Test.YthllacodjeocmaaGreatDoorO1
import Derived.BigRegion
import Derived.Deep.RegionHeld3
import Derived.Stop.LaidErr
import Derived.Laws.Cover3
namespace Go.Proofs.YthllacodjeocmaaGreatDoor
open Go.RowKit
attribute [local go_sem] Oper.semAt_some
/-- The cells from an offset on are these bytes. -/
def BytesO (W : World) (b o : Nat) (l : List UInt8) : Prop := ∀ (j : Nat) (u : UInt8), l[j]? = some u → W.cell? ⟨b, o + j, none⟩ = some (u8v u)
theorem BytesO.below {W W' : World} {b o : Nat} {l : List UInt8} (h : BytesO W b o l) (hb : Below W.heap.size W W') : BytesO W' b o l := fun j u hu => by
  have h1 := h j u hu
  exact (World.cell?_of_block (w := W) (hb.block b (cell_lt h1))).trans h1
theorem BytesAt.o {W : World} {g : Nat} {l : List UInt8} (h : BytesAt W g l) : BytesO W g 0 l := fun j u hu => by rw [Nat.zero_add]; exact h j u hu
theorem bytesO_str {W : World} {g o c : Nat} {l : List UInt8} (h : BytesO W g o l) {n : Nat} (hn : n = l.length) : Sem.run Tryz.prog (convert 33 9 (.slice (some ⟨g, o, none⟩) n c)) W = .ok (.string ⟨l.toArray⟩) W := by
  have h1 := run_convert_bytes_arg (P := Tryz.prog) W 33 5 Tryz.underlying33 Tryz.underlying5 g o n c (l.map fun u => (u.toNat : Int)) (by simp [hn]) (fun i hi => by
    have hi2 : i < l.length := by omega
    rw [h i l[i] (List.getElem?_eq_getElem hi2)]
    simp [List.getD, List.getElem?_eq_getElem hi2, u8v]) 9 Tryz.underlying9
  have h2 : strOfNums (l.map fun u => (u.toNat : Int)) = ⟨l.toArray⟩ := list_inj0 (by
    rw [strOfNums_data, List.map_map]
    show _ = l
    conv => rhs; rw [← List.map_id l]
    apply List.map_congr_left
    intro x _
    simp)
  rw [h1, h2]
theorem equal_any (g1 o1 c1 g2 o2 c2 n1 n2 : Nat) (l1 l2 : List UInt8) (w : World) (h1 : BytesO w g1 o1 l1) (h2 : BytesO w g2 o2 l2) (e1 : n1 = l1.length) (e2 : n2 = l2.length) :
    Calls Tryz.prog 51 #[.slice (some ⟨g1, o1, none⟩) n1 c1, .slice (some ⟨g2, o2, none⟩) n2 c2] w fun e w' => e = .returned (.bool (l1 == l2)) ∧ w = w' := by
  have r1 := bytesO_str (c := c1) h1 e1
  have r2 := bytesO_str (c := c2) h2 e2
  clear h1 h2 e1 e2
  go_enter Tryz.func51, Tryz.ntmps51
  go_wp2
  go_ret
  exact ⟨rfl, rfl⟩
/-- What Read answers. -/
def readOf (l : List UInt8) : Mg × Bool := match l with
  | [k, f, t, ln, a, c, x, d0, d1, d2, d3] => if x = 0 then (⟨k, f, t, ln, a, c, false, d0, d1, d2, d3⟩, true) else if x = 1 then (⟨k, f, t, ln, a, c, true, d0, d1, d2, d3⟩, true) else (zeroM, false)
  | _ => (zeroM, false)
/-- A slice of bytes. -/
def Bts (W : World) (v : Value) (l : List UInt8) : Prop := ∃ A cap, v = .slice A l.length cap ∧ l.length ≤ cap ∧ (0 < l.length → ∃ b o, A = some ⟨b, o, none⟩ ∧ BytesO W b o l)
theorem readOf_short {l : List UInt8} (h : ¬ l.length = 11) : readOf l = (zeroM, false) := by
  unfold readOf
  split
  · exact absurd rfl h
  · rfl
theorem results12_run (tmps : Array Value) (W : World) (rb : Nat) (m : Mg) (bo : Bool) (h2 : tmps.getD 2 undef = .pointer (some ⟨rb, 0, none⟩)) (h3 : tmps.getD 3 undef = .bool bo) (h : W.heap[rb]? = some (.cells (boxOf m) 27)) :
    (results Tryz.f31 tmps).run Tryz.prog W = .ok (.tuple #[m.val, .bool bo]) W := by
  have hl := load_msg W rb m h
  have h2' : tmps[2]?.getD undef = .pointer (some ⟨rb, 0, none⟩) := by simpa using h2
  have h3' : tmps[3]?.getD undef = .bool bo := by simpa using h3
  simp [results, Tryz.results31, h2', h3', asAddr, hl]
theorem readOf_full (k f t ln a c x d0 d1 d2 d3 : UInt8) : readOf [k, f, t, ln, a, c, x, d0, d1, d2, d3] =
    if (bytesOf ⟨k, f, t, ln, a, c, (x.toNat : Int) == 1, d0, d1, d2, d3⟩ == [k, f, t, ln, a, c, x, d0, d1, d2, d3]) = true then (⟨k, f, t, ln, a, c, (x.toNat : Int) == 1, d0, d1, d2, d3⟩, true) else (zeroM, false) := by
  unfold readOf bytesOf
  by_cases h0 : x = 0
  · subst h0
    simp
  · by_cases h1 : x = 1
    · subst h1
      simp
    · have hx : ¬ x.toNat = 1 := fun h => h1 (UInt8.toNat_inj.1 h)
      have hq : ((x.toNat : Int) == 1) = false := by rw [beq_eq_false_iff_ne]; omega
      have hb : ([k, f, t, ln, a, c, 0, d0, d1, d2, d3] == [k, f, t, ln, a, c, x, d0, d1, d2, d3]) = false := by
        rw [beq_eq_false_iff_ne]; intro h; simp only [List.cons.injEq, true_and, and_true] at h; exact h0 h.symm
      simp only [h0, h1, if_false, hq, Bool.false_eq_true, hb]
set_option maxHeartbeats 2000000 in
set_option maxRecDepth 100000 in
theorem read_short (A : Option Addr) (n cap : Nat) (_ : n < 9223372036854775808) (h : ¬ (n : Int) = 11) (w : World) : Calls Tryz.prog 31 #[.slice A n cap] w fun e w' => e = .returned (.tuple #[zeroM.val, .bool false]) ∧ Below w.heap.size w w' := by
  go_enter Tryz.func31, Tryz.ntmps31
  go_wp2
  exact bodyPost_ret (v := .tuple #[zeroM.val, .bool false]) (results12_run _ _ w.heap.size zeroM false rfl rfl (heap_alloc_new w (.cells (boxOf zeroM) 27))) rfl ⟨rfl, (Below.refl _ w).alloc (Nat.le_refl _) _⟩
end Go.Proofs.YthllacodjeocmaaGreatDoor
