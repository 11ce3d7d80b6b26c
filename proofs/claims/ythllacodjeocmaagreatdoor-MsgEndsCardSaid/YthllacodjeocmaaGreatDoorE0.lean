/- Equality of data and of messages. -/
import Derived.Test.YthllacodjeocmaaGreatDoorM1
import Derived.DeepKeys
namespace Go.Proofs.YthllacodjeocmaaGreatDoor
open Go.RowKit
theorem keyT23 : Tryz.prog.keyTypeAt 4 25 = true := by kernel_rfl
theorem keyT25 : Tryz.prog.keyTypeAt 4 27 = true := by kernel_rfl
theorem cellsOf5 : Tryz.prog.cellsOf 5 = 1 := by kernel_rfl
theorem cellsOf4 : Tryz.prog.cellsOf 4 = 1 := by kernel_rfl
theorem cellsOf23 : Tryz.prog.cellsOf 25 = 4 := by kernel_rfl
theorem cellsOf25 : Tryz.prog.cellsOf 27 = 11 := by kernel_rfl
theorem wf8 (u : UInt8) : (Lit.int .u8 (u.toNat : Int)).wf = true := by
  have := u.toNat_lt
  have h1 : IntKind.u8.min = 0 := rfl
  have h2 : IntKind.u8.max = 255 := rfl
  simp [Lit.wf, h1, h2]
  omega
theorem key5 (d : Nat) (u : UInt8) : Tryz.prog.keyLits (d + 1) 5 [.int .u8 (u.toNat : Int)] = some [.int .u8 (u.toNat : Int)] := by
  unfold Program.keyLits
  rw [Tryz.underlying5]
  simp [wf8]
theorem key4 (d : Nat) (b : Bool) : Tryz.prog.keyLits (d + 1) 4 [.bool b] = some [.bool b] := by
  unfold Program.keyLits
  rw [Tryz.underlying4]
theorem key23 (d : Nat) (a b c e : UInt8) : Tryz.prog.keyLits (d + 2) 25 [.int .u8 a.toNat, .int .u8 b.toNat, .int .u8 c.toNat, .int .u8 e.toNat] = some [.int .u8 a.toNat, .int .u8 b.toNat, .int .u8 c.toNat, .int .u8 e.toNat] := by
  unfold Program.keyLits
  rw [Tryz.underlying25]
  simp [cellsOf23, cellsOf5, List.range_succ, key5]
set_option maxRecDepth 100000 in
theorem key25 (m : Mg) : Tryz.prog.keyLits 4 27 m.val.cells.toList = some [.int .u8 m.k.toNat, .int .u8 m.f.toNat, .int .u8 m.t.toNat, .int .u8 m.l.toNat, .int .u8 m.a.toNat, .int .u8 m.c.toNat, .bool m.al, .int .u8 m.d0.toNat, .int .u8 m.d1.toNat, .int .u8 m.d2.toNat, .int .u8 m.d3.toNat] := by
  unfold Program.keyLits
  rw [Tryz.underlying27]
  simp [cellsOf23, cellsOf5, cellsOf4, cellsOf25, key5, key4, key23, Mg.val, Value.cells]
set_option maxRecDepth 100000 in
theorem eq_data (w : World) (a b c d a' b' c' d' : UInt8) : Sem.run Tryz.prog (Op.equalIn 10000 25 (.agg #[.int .u8 a.toNat, .int .u8 b.toNat, .int .u8 c.toNat, .int .u8 d.toNat]) (.agg #[.int .u8 a'.toNat, .int .u8 b'.toNat, .int .u8 c'.toNat, .int .u8 d'.toNat])) w = .ok (decide (a = a' ∧ b = b' ∧ c = c' ∧ d = d')) w := by
  obtain ⟨r, hr, hi⟩ := run_equalIn_deep (P := Tryz.prog) 9996 4 25 keyT23 w 4 4 (.agg #[.int .u8 a.toNat, .int .u8 b.toNat, .int .u8 c.toNat, .int .u8 d.toNat]) (.agg #[.int .u8 a'.toNat, .int .u8 b'.toNat, .int .u8 c'.toNat, .int .u8 d'.toNat]) _ _ (by kernel_rfl) (by kernel_rfl) (key23 2 a b c d) (key23 2 a' b' c' d')
  refine hr.trans ?_
  congr 1
  rw [Bool.eq_iff_iff, hi, decide_eq_true_eq]
  simp only [List.cons.injEq, Lit.int.injEq, true_and, and_true, Int.natCast_inj, UInt8.toNat_inj]
set_option maxRecDepth 100000 in
theorem eq_data9 (w : World) (a b c d a' b' c' d' : UInt8) : Sem.run Tryz.prog (Op.equalIn 9999 25 (.agg #[.int .u8 a.toNat, .int .u8 b.toNat, .int .u8 c.toNat, .int .u8 d.toNat]) (.agg #[.int .u8 a'.toNat, .int .u8 b'.toNat, .int .u8 c'.toNat, .int .u8 d'.toNat])) w = .ok (decide (a = a' ∧ b = b' ∧ c = c' ∧ d = d')) w := by
  obtain ⟨r, hr, hi⟩ := run_equalIn_deep (P := Tryz.prog) 9995 4 25 keyT23 w 4 4 (.agg #[.int .u8 a.toNat, .int .u8 b.toNat, .int .u8 c.toNat, .int .u8 d.toNat]) (.agg #[.int .u8 a'.toNat, .int .u8 b'.toNat, .int .u8 c'.toNat, .int .u8 d'.toNat]) _ _ (by kernel_rfl) (by kernel_rfl) (key23 2 a b c d) (key23 2 a' b' c' d')
  refine hr.trans ?_
  congr 1
  rw [Bool.eq_iff_iff, hi, decide_eq_true_eq]
  simp only [List.cons.injEq, Lit.int.injEq, true_and, and_true, Int.natCast_inj, UInt8.toNat_inj]
theorem Mg.ext' {m o : Mg} (h1 : m.k = o.k) (h2 : m.f = o.f) (h3 : m.t = o.t) (h4 : m.l = o.l) (h5 : m.a = o.a) (h6 : m.c = o.c) (h7 : m.al = o.al) (h8 : m.d0 = o.d0) (h9 : m.d1 = o.d1) (h10 : m.d2 = o.d2) (h11 : m.d3 = o.d3) : m = o := by
  cases m; cases o; simp_all
def Mg.eqB (m o : Mg) : Bool := decide (bytesOf m = bytesOf o)
theorem bytes_inj {m o : Mg} (h : bytesOf m = bytesOf o) : m = o := by
  unfold bytesOf at h
  simp only [List.cons.injEq, and_true] at h
  obtain ⟨h1, h2, h3, h4, h5, h6, h7, h8, h9, h10, h11⟩ := h
  refine Mg.ext' h1 h2 h3 h4 h5 h6 ?_ h8 h9 h10 h11
  cases hm : m.al <;> cases ho : o.al <;> simp_all
set_option maxRecDepth 100000 in
theorem eq_msg (w : World) (m o : Mg) : Sem.run Tryz.prog (Op.equalIn 10000 27 m.val o.val) w = .ok (m.eqB o) w := by
  obtain ⟨r, hr, hi⟩ := run_equalIn_deep (P := Tryz.prog) 9996 4 27 keyT25 w 4 4 m.val o.val _ _ (by kernel_rfl) (by kernel_rfl) (key25 m) (key25 o)
  refine hr.trans ?_
  congr 1
  rw [Bool.eq_iff_iff, hi]
  unfold Mg.eqB
  rw [decide_eq_true_eq]
  constructor
  · intro h
    simp only [List.cons.injEq, Lit.int.injEq, Lit.bool.injEq, true_and, and_true, Int.natCast_inj, UInt8.toNat_inj] at h
    obtain ⟨h1, h2, h3, h4, h5, h6, h7, h8, h9, h10, h11⟩ := h
    rw [Mg.ext' h1 h2 h3 h4 h5 h6 h7 h8 h9 h10 h11]
  · intro h
    rw [bytes_inj h]
end Go.Proofs.YthllacodjeocmaaGreatDoor
