/- The reference's lexer as a plain function; what the classes say of a byte. -/
import Derived.Test.YtgpndifkkaomcaaDoorA12
import Derived.Test.YtgpndifkkaomcaaDoorR1
import Derived.Test.YtgpndifkkaomcaaDoorR2
namespace Go.Proofs.YtgpndifkkaomcaaDoor
open Go.RowKit
/-- Does the last line hold a token? -/
def openOf (ts : List Tk) : Bool := match ts.getLast? with
  | some t => decide (t.K ≠ 4)
  | none => false
def rtkCells (ts : List Tk) : List Value := ts.flatMap fun t => [.int .i64 t.K, .string t.x, .int .i64 t.a]
theorem rtkCells_snoc (ts : List Tk) (t : Tk) : rtkCells (ts ++ [t]) = rtkCells ts ++ [.int .i64 t.K, .string t.x, .int .i64 t.a] := by
  unfold rtkCells; simp
theorem rtkCells_len (ts : List Tk) : (rtkCells ts).length = ts.length * 3 := by
  induction ts with
  | nil => rfl
  | cons t r ih => unfold rtkCells at *; simp [ih]; omega
def rlex (s : ByteArray) : Nat → Nat → List Tk → List Tk × Nat × Int
  | 0, _, _ => ([], 0, 0)
  | f + 1, k, acc =>
    if k < s.size then
      if clsAt s.data.toList k = 1 then rlex s f (k + 1) acc
      else if clsAt s.data.toList k = 2 then rlex s f (k + 1) (if openOf acc then acc ++ [⟨4, ⟨#[]⟩, k⟩] else acc)
      else if clsAt s.data.toList k = 6 then rlex s f (spanEnd (fun b => decide (b ≠ 10)) s.data.toList k) acc
      else if clsAt s.data.toList k = 3 then
        if 16 < spanEnd goesB s.data.toList k - k then ([], k, 42) else rlex s f (spanEnd goesB s.data.toList k) (acc ++ [⟨1, s.extract k (spanEnd goesB s.data.toList k), k⟩])
      else if clsAt s.data.toList k = 4 then
        if (rnumOf (s.extract k (spanEnd digitB s.data.toList k)).data.toList).2 = false then ([], k, 41) else rlex s f (spanEnd digitB s.data.toList k) (acc ++ [⟨2, s.extract k (spanEnd digitB s.data.toList k), k⟩])
      else if rsign s.data.toList k = 0 then ([], k, 40) else rlex s f (k + rsign s.data.toList k) (acc ++ [⟨3, s.extract k (k + rsign s.data.toList k), k⟩])
    else (if openOf acc then acc ++ [⟨4, ⟨#[]⟩, s.size⟩] else acc, 0, 0)
theorem cls_table : ∀ n : Fin 256, (clsB (n.val : Int) = 1 → (n.val : Int) = 32 ∨ (n.val : Int) = 9) ∧ (clsB (n.val : Int) = 2 → (n.val : Int) = 10) ∧ (clsB (n.val : Int) = 6 → (n.val : Int) = 35) ∧ (clsB (n.val : Int) = 3 → letterB n.val = true) ∧ (clsB (n.val : Int) = 4 → digitB n.val = true ∧ letterB n.val = false) ∧
    (clsB (n.val : Int) ≠ 1 → (n.val : Int) ≠ 32 ∧ (n.val : Int) ≠ 9) ∧ (clsB (n.val : Int) ≠ 2 → (n.val : Int) ≠ 10) ∧ (clsB (n.val : Int) ≠ 6 → (n.val : Int) ≠ 35) ∧ (clsB (n.val : Int) ≠ 3 → letterB n.val = false) ∧ (clsB (n.val : Int) ≠ 4 → digitB n.val = false) := by
  decide +kernel
theorem cls_facts (u : UInt8) : (clsB u.toNat = 1 → (u.toNat : Int) = 32 ∨ (u.toNat : Int) = 9) ∧ (clsB u.toNat = 2 → (u.toNat : Int) = 10) ∧ (clsB u.toNat = 6 → (u.toNat : Int) = 35) ∧ (clsB u.toNat = 3 → letterB u.toNat = true) ∧ (clsB u.toNat = 4 → digitB u.toNat = true ∧ letterB u.toNat = false) ∧
    (clsB u.toNat ≠ 1 → (u.toNat : Int) ≠ 32 ∧ (u.toNat : Int) ≠ 9) ∧ (clsB u.toNat ≠ 2 → (u.toNat : Int) ≠ 10) ∧ (clsB u.toNat ≠ 6 → (u.toNat : Int) ≠ 35) ∧ (clsB u.toNat ≠ 3 → letterB u.toNat = false) ∧ (clsB u.toNat ≠ 4 → digitB u.toNat = false) :=
  cls_table ⟨u.toNat, u.toNat_lt⟩
end Go.Proofs.YtgpndifkkaomcaaDoor
