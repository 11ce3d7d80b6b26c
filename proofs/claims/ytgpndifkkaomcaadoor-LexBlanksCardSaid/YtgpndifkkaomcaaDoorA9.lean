/- The scanner's next token: numbers. -/
import Derived.Test.YtgpndifkkaomcaaDoorA7
namespace Go.Proofs.YtgpndifkkaomcaaDoor
open Go.RowKit
theorem Scan.below {w w' : World} {b : Nat} {s : ByteArray} {k : Nat} {o : Bool} {e : Int} (h : Scan w b s k o e) (hb : Below w.heap.size w w') : Scan w' b s k o e :=
  ⟨(hb.cell (p := ⟨b, 0, none⟩) h.lt).trans h.s, (hb.cell (p := ⟨b, 1, none⟩) h.lt).trans h.k, (hb.cell (p := ⟨b, 2, none⟩) h.lt).trans h.o, (hb.cell (p := ⟨b, 3, none⟩) h.lt).trans h.e, fun j => (hb.frozen (p := ⟨b, j, none⟩) h.lt).trans (h.f j)⟩
theorem Tok.below {w w' : World} {c : Nat} {K : Int} {x : ByteArray} {a : Int} (h : Tok w c K x a) (hb : Below w.heap.size w w') : Tok w' c K x a :=
  have hl : c < w.heap.size := cell_lt h.c0
  ⟨(hb.cell (p := ⟨c, 0, none⟩) hl).trans h.c0, (hb.cell (p := ⟨c, 1, none⟩) hl).trans h.c1, (hb.cell (p := ⟨c, 2, none⟩) hl).trans h.c2, fun j => (hb.frozen (p := ⟨c, j, none⟩) hl).trans (h.f j)⟩
theorem Tok.setK {w : World} {c : Nat} {K : Int} {x : ByteArray} {a : Int} (h : Tok w c K x a) (K' : Int) : Tok (w.setCell ⟨c, 0, none⟩ (.int .u8 K')) c K' x a :=
  ⟨cset_same (by rw [h.c0]; rfl), cset_other (by simp) h.c1, cset_other (by simp) h.c2, fun j => fset (h.f j)⟩
theorem Tok.setX {w : World} {c : Nat} {K : Int} {x : ByteArray} {a : Int} (h : Tok w c K x a) (x' : ByteArray) : Tok (w.setCell ⟨c, 1, none⟩ (.string x')) c K x' a :=
  ⟨cset_other (by simp) h.c0, cset_same (by rw [h.c1]; rfl), cset_other (by simp) h.c2, fun j => fset (h.f j)⟩
theorem Glob.only {w w' : World} {b : Nat} (h : Glob w) (hg : w.grownBy w' (some b)) (hb : 3 ≤ b) : Glob w' :=
  h.below (B := 3) ⟨hg.os, hg.tape, hg.output, hg.size, fun i hi => hg.block i (by have := h.size; omega) (by intro e; injection e with e; omega)⟩ (Nat.le_refl _)

set_option maxHeartbeats 1000000 in
theorem next_num_true_true (b : Nat) (s : ByteArray) (k : Nat) (w : World) (hS : Scan w b s k true 0) (hG : Glob w) (hb3 : 3 ≤ b) (hmax : s.size ≤ 281474976710656) (hlt : k < s.size) (hc : clsB s[k].toNat = 4) (hn : (numOf (s.extract k (spanEnd (fun b => isDigits (clsB b)) s.data.toList k)).data.toList).2 = true) :
    Calls Tryd.prog 43 #[.pointer (some ⟨b, 0, none⟩)] w fun e w' => e = .returned (.agg #[.int .u8 2, .string (s.extract k (spanEnd (fun b => isDigits (clsB b)) s.data.toList k)), .int .i64 k]) ∧ Scan w' b s (spanEnd (fun b => isDigits (clsB b)) s.data.toList k) true 0 ∧ w.grownBy w' (some b) := by
  have hb := hS.lt
  have hs := hS.s
  have hk := hS.k
  have ho := hS.o
  have he := hS.e
  have f1 := hS.f 1
  have h0 : 0 ≤ (k : Int) := by omega
  have hd : decide ((k : Int) < (s.size : Int)) = true := by simp; omega
  obtain ⟨j, hj⟩ : ∃ j, spanEnd (fun b => isDigits (clsB b)) s.data.toList k = j := ⟨_, rfl⟩
  rw [hj] at hn ⊢
  have hle := spanEnd_le (p := fun b => isDigits (clsB b)) (l := s.data.toList) (k := k) (by simp; omega)
  have hsz : s.data.toList.length = s.size := by simp
  rw [hj] at hle
  have hx : (s.extract k j).size ≤ 281474976710656 := by simp; omega
  generalize hx0 : s.extract k j = x at *
  have HJ := Lib.hid hj
  have HX := Lib.hid hx0
  clear hj hx0
  go_enter Tryd.func43, Tryd.ntmps43
  go_wp2
  go_quiet ((go_at_call 30; exact Calls.quiet_of_same ((of_any _ _).mono (fun e w' h => ⟨h.1, h.2.symm⟩))))
  have M := Mid.of hS k nq
  go_wp2_with fail
  refine (while_digits0 s b k _ M.S.s M.S.k (M.S.f 1) (by omega) (by omega)).mono ?_
  rintro e W ⟨rfl, n, hW⟩
  rw [HJ.out] at hW
  rw [HJ.out, HX.out]
  have M1 := M.setK hb j n
  rw [← hW] at M1
  clear hW M hs hk ho he f1
  have t0 := M1.T.c0
  have t1 := M1.T.c1
  have p0 := M1.T.f 0
  have p1 := M1.T.f 1
  have hne0 : w.heap.size ≠ b := by omega
  have hne1 : w.heap.size + 1 ≠ b := by omega
  have S1 := (M1.S.far (p := ⟨w.heap.size + 1, 0, none⟩) hne1 (.int .u8 2)).far (p := ⟨w.heap.size + 1, 1, none⟩) hne1 (.string x)
  have R1 := (M1.R.far (p := ⟨w.heap.size + 1, 0, none⟩) (Nat.succ_ne_self _) (.int .u8 2)).far (p := ⟨w.heap.size + 1, 1, none⟩) (Nat.succ_ne_self _) (.string x)
  have T1 := (M1.T.setK 2).setX x
  have g1 := only_setCell (only_setCell M1.g (p := ⟨w.heap.size + 1, 0, none⟩) (.inr (Nat.le_succ _)) (.int .u8 2)) (p := ⟨w.heap.size + 1, 1, none⟩) (.inr (Nat.le_succ _)) (.string x)
  have hG1 := hG.only g1 hb3
  go_wp2_with fail
  refine (num_any x _ hG1 hx).mono ?_
  rintro e W2 ⟨rfl, hbel⟩
  have S2 := S1.below hbel
  have R2 := R1.below hbel
  have T2 := T1.below hbel
  have g2 := only_trans g1 (only_of_below hbel _)
  clear S1 R1 T1 g1 hG1 hbel M1 t0 t1 p0 p1
  have hs := S2.s
  have hk := S2.k
  have ho := S2.o
  have he := S2.e
  have f2 := S2.f 2
  have f3 := S2.f 3
  have t0 := T2.c0
  have t1 := T2.c1
  have t2 := T2.c2
  have r0 := R2.c0
  have r1 := R2.c1
  have r2 := R2.c2
  have q0 := R2.f 0
  have q1 := R2.f 1
  have q2 := R2.f 2
  rw [hn]
  go_wp2
  refine bodyPost_ret (v := .agg #[.int .u8 2, .string x, .int .i64 k]) (by simp [results, Tryd.results43, go_sem, r0, r1, r2]) rfl ⟨rfl, ?_, ?_⟩
  · exact (((S2.setO _).far hne0 _).far hne0 _).far hne0 _
  · exact only_setCell (only_setCell (only_setCell (only_setCell g2 (.inl rfl) _) (.inr (Nat.le_refl _)) _) (.inr (Nat.le_refl _)) _) (.inr (Nat.le_refl _)) _

set_option maxHeartbeats 1000000 in
theorem next_num_true_false (b : Nat) (s : ByteArray) (k : Nat) (w : World) (hS : Scan w b s k true 0) (hG : Glob w) (hb3 : 3 ≤ b) (hmax : s.size ≤ 281474976710656) (hlt : k < s.size) (hc : clsB s[k].toNat = 4) (hn : (numOf (s.extract k (spanEnd (fun b => isDigits (clsB b)) s.data.toList k)).data.toList).2 = false) :
    Calls Tryd.prog 43 #[.pointer (some ⟨b, 0, none⟩)] w fun e w' => e = .returned (.agg #[.int .u8 2, .string (s.extract k (spanEnd (fun b => isDigits (clsB b)) s.data.toList k)), .int .i64 k]) ∧ Scan w' b s (spanEnd (fun b => isDigits (clsB b)) s.data.toList k) true 41 ∧ w.grownBy w' (some b) := by
  have hb := hS.lt
  have hs := hS.s
  have hk := hS.k
  have ho := hS.o
  have he := hS.e
  have f1 := hS.f 1
  have h0 : 0 ≤ (k : Int) := by omega
  have hd : decide ((k : Int) < (s.size : Int)) = true := by simp; omega
  obtain ⟨j, hj⟩ : ∃ j, spanEnd (fun b => isDigits (clsB b)) s.data.toList k = j := ⟨_, rfl⟩
  rw [hj] at hn ⊢
  have hle := spanEnd_le (p := fun b => isDigits (clsB b)) (l := s.data.toList) (k := k) (by simp; omega)
  have hsz : s.data.toList.length = s.size := by simp
  rw [hj] at hle
  have hx : (s.extract k j).size ≤ 281474976710656 := by simp; omega
  generalize hx0 : s.extract k j = x at *
  have HJ := Lib.hid hj
  have HX := Lib.hid hx0
  clear hj hx0
  go_enter Tryd.func43, Tryd.ntmps43
  go_wp2
  go_quiet ((go_at_call 30; exact Calls.quiet_of_same ((of_any _ _).mono (fun e w' h => ⟨h.1, h.2.symm⟩))))
  have M := Mid.of hS k nq
  go_wp2_with fail
  refine (while_digits0 s b k _ M.S.s M.S.k (M.S.f 1) (by omega) (by omega)).mono ?_
  rintro e W ⟨rfl, n, hW⟩
  rw [HJ.out] at hW
  rw [HJ.out, HX.out]
  have M1 := M.setK hb j n
  rw [← hW] at M1
  clear hW M hs hk ho he f1
  have t0 := M1.T.c0
  have t1 := M1.T.c1
  have p0 := M1.T.f 0
  have p1 := M1.T.f 1
  have hne0 : w.heap.size ≠ b := by omega
  have hne1 : w.heap.size + 1 ≠ b := by omega
  have S1 := (M1.S.far (p := ⟨w.heap.size + 1, 0, none⟩) hne1 (.int .u8 2)).far (p := ⟨w.heap.size + 1, 1, none⟩) hne1 (.string x)
  have R1 := (M1.R.far (p := ⟨w.heap.size + 1, 0, none⟩) (Nat.succ_ne_self _) (.int .u8 2)).far (p := ⟨w.heap.size + 1, 1, none⟩) (Nat.succ_ne_self _) (.string x)
  have T1 := (M1.T.setK 2).setX x
  have g1 := only_setCell (only_setCell M1.g (p := ⟨w.heap.size + 1, 0, none⟩) (.inr (Nat.le_succ _)) (.int .u8 2)) (p := ⟨w.heap.size + 1, 1, none⟩) (.inr (Nat.le_succ _)) (.string x)
  have hG1 := hG.only g1 hb3
  go_wp2_with fail
  refine (num_any x _ hG1 hx).mono ?_
  rintro e W2 ⟨rfl, hbel⟩
  have S2 := S1.below hbel
  have R2 := R1.below hbel
  have T2 := T1.below hbel
  have g2 := only_trans g1 (only_of_below hbel _)
  clear S1 R1 T1 g1 hG1 hbel M1 t0 t1 p0 p1
  have hs := S2.s
  have hk := S2.k
  have ho := S2.o
  have he := S2.e
  have f2 := S2.f 2
  have f3 := S2.f 3
  have t0 := T2.c0
  have t1 := T2.c1
  have t2 := T2.c2
  have r0 := R2.c0
  have r1 := R2.c1
  have r2 := R2.c2
  have q0 := R2.f 0
  have q1 := R2.f 1
  have q2 := R2.f 2
  rw [hn]
  go_wp2
  refine bodyPost_ret (v := .agg #[.int .u8 2, .string x, .int .i64 k]) (by simp [results, Tryd.results43, go_sem, r0, r1, r2]) rfl ⟨rfl, ?_, ?_⟩
  · exact ((((S2.setE 41).setO _).far hne0 _).far hne0 _).far hne0 _
  · exact only_setCell (only_setCell (only_setCell (only_setCell (only_setCell g2 (.inl rfl) _) (.inl rfl) _) (.inr (Nat.le_refl _)) _) (.inr (Nat.le_refl _)) _) (.inr (Nat.le_refl _)) _

set_option maxHeartbeats 1000000 in
theorem next_num_false_true (b : Nat) (s : ByteArray) (k : Nat) (w : World) (hS : Scan w b s k false 0) (hG : Glob w) (hb3 : 3 ≤ b) (hmax : s.size ≤ 281474976710656) (hlt : k < s.size) (hc : clsB s[k].toNat = 4) (hn : (numOf (s.extract k (spanEnd (fun b => isDigits (clsB b)) s.data.toList k)).data.toList).2 = true) :
    Calls Tryd.prog 43 #[.pointer (some ⟨b, 0, none⟩)] w fun e w' => e = .returned (.agg #[.int .u8 2, .string (s.extract k (spanEnd (fun b => isDigits (clsB b)) s.data.toList k)), .int .i64 k]) ∧ Scan w' b s (spanEnd (fun b => isDigits (clsB b)) s.data.toList k) true 0 ∧ w.grownBy w' (some b) := by
  have hb := hS.lt
  have hs := hS.s
  have hk := hS.k
  have ho := hS.o
  have he := hS.e
  have f1 := hS.f 1
  have h0 : 0 ≤ (k : Int) := by omega
  have hd : decide ((k : Int) < (s.size : Int)) = true := by simp; omega
  obtain ⟨j, hj⟩ : ∃ j, spanEnd (fun b => isDigits (clsB b)) s.data.toList k = j := ⟨_, rfl⟩
  rw [hj] at hn ⊢
  have hle := spanEnd_le (p := fun b => isDigits (clsB b)) (l := s.data.toList) (k := k) (by simp; omega)
  have hsz : s.data.toList.length = s.size := by simp
  rw [hj] at hle
  have hx : (s.extract k j).size ≤ 281474976710656 := by simp; omega
  generalize hx0 : s.extract k j = x at *
  have HJ := Lib.hid hj
  have HX := Lib.hid hx0
  clear hj hx0
  go_enter Tryd.func43, Tryd.ntmps43
  go_wp2
  go_quiet ((go_at_call 30; exact Calls.quiet_of_same ((of_any _ _).mono (fun e w' h => ⟨h.1, h.2.symm⟩))))
  have M := Mid.of hS k nq
  go_wp2_with fail
  refine (while_digits0 s b k _ M.S.s M.S.k (M.S.f 1) (by omega) (by omega)).mono ?_
  rintro e W ⟨rfl, n, hW⟩
  rw [HJ.out] at hW
  rw [HJ.out, HX.out]
  have M1 := M.setK hb j n
  rw [← hW] at M1
  clear hW M hs hk ho he f1
  have t0 := M1.T.c0
  have t1 := M1.T.c1
  have p0 := M1.T.f 0
  have p1 := M1.T.f 1
  have hne0 : w.heap.size ≠ b := by omega
  have hne1 : w.heap.size + 1 ≠ b := by omega
  have S1 := (M1.S.far (p := ⟨w.heap.size + 1, 0, none⟩) hne1 (.int .u8 2)).far (p := ⟨w.heap.size + 1, 1, none⟩) hne1 (.string x)
  have R1 := (M1.R.far (p := ⟨w.heap.size + 1, 0, none⟩) (Nat.succ_ne_self _) (.int .u8 2)).far (p := ⟨w.heap.size + 1, 1, none⟩) (Nat.succ_ne_self _) (.string x)
  have T1 := (M1.T.setK 2).setX x
  have g1 := only_setCell (only_setCell M1.g (p := ⟨w.heap.size + 1, 0, none⟩) (.inr (Nat.le_succ _)) (.int .u8 2)) (p := ⟨w.heap.size + 1, 1, none⟩) (.inr (Nat.le_succ _)) (.string x)
  have hG1 := hG.only g1 hb3
  go_wp2_with fail
  refine (num_any x _ hG1 hx).mono ?_
  rintro e W2 ⟨rfl, hbel⟩
  have S2 := S1.below hbel
  have R2 := R1.below hbel
  have T2 := T1.below hbel
  have g2 := only_trans g1 (only_of_below hbel _)
  clear S1 R1 T1 g1 hG1 hbel M1 t0 t1 p0 p1
  have hs := S2.s
  have hk := S2.k
  have ho := S2.o
  have he := S2.e
  have f2 := S2.f 2
  have f3 := S2.f 3
  have t0 := T2.c0
  have t1 := T2.c1
  have t2 := T2.c2
  have r0 := R2.c0
  have r1 := R2.c1
  have r2 := R2.c2
  have q0 := R2.f 0
  have q1 := R2.f 1
  have q2 := R2.f 2
  rw [hn]
  go_wp2
  refine bodyPost_ret (v := .agg #[.int .u8 2, .string x, .int .i64 k]) (by simp [results, Tryd.results43, go_sem, r0, r1, r2]) rfl ⟨rfl, ?_, ?_⟩
  · exact (((S2.setO _).far hne0 _).far hne0 _).far hne0 _
  · exact only_setCell (only_setCell (only_setCell (only_setCell g2 (.inl rfl) _) (.inr (Nat.le_refl _)) _) (.inr (Nat.le_refl _)) _) (.inr (Nat.le_refl _)) _

set_option maxHeartbeats 1000000 in
theorem next_num_false_false (b : Nat) (s : ByteArray) (k : Nat) (w : World) (hS : Scan w b s k false 0) (hG : Glob w) (hb3 : 3 ≤ b) (hmax : s.size ≤ 281474976710656) (hlt : k < s.size) (hc : clsB s[k].toNat = 4) (hn : (numOf (s.extract k (spanEnd (fun b => isDigits (clsB b)) s.data.toList k)).data.toList).2 = false) :
    Calls Tryd.prog 43 #[.pointer (some ⟨b, 0, none⟩)] w fun e w' => e = .returned (.agg #[.int .u8 2, .string (s.extract k (spanEnd (fun b => isDigits (clsB b)) s.data.toList k)), .int .i64 k]) ∧ Scan w' b s (spanEnd (fun b => isDigits (clsB b)) s.data.toList k) true 41 ∧ w.grownBy w' (some b) := by
  have hb := hS.lt
  have hs := hS.s
  have hk := hS.k
  have ho := hS.o
  have he := hS.e
  have f1 := hS.f 1
  have h0 : 0 ≤ (k : Int) := by omega
  have hd : decide ((k : Int) < (s.size : Int)) = true := by simp; omega
  obtain ⟨j, hj⟩ : ∃ j, spanEnd (fun b => isDigits (clsB b)) s.data.toList k = j := ⟨_, rfl⟩
  rw [hj] at hn ⊢
  have hle := spanEnd_le (p := fun b => isDigits (clsB b)) (l := s.data.toList) (k := k) (by simp; omega)
  have hsz : s.data.toList.length = s.size := by simp
  rw [hj] at hle
  have hx : (s.extract k j).size ≤ 281474976710656 := by simp; omega
  generalize hx0 : s.extract k j = x at *
  have HJ := Lib.hid hj
  have HX := Lib.hid hx0
  clear hj hx0
  go_enter Tryd.func43, Tryd.ntmps43
  go_wp2
  go_quiet ((go_at_call 30; exact Calls.quiet_of_same ((of_any _ _).mono (fun e w' h => ⟨h.1, h.2.symm⟩))))
  have M := Mid.of hS k nq
  go_wp2_with fail
  refine (while_digits0 s b k _ M.S.s M.S.k (M.S.f 1) (by omega) (by omega)).mono ?_
  rintro e W ⟨rfl, n, hW⟩
  rw [HJ.out] at hW
  rw [HJ.out, HX.out]
  have M1 := M.setK hb j n
  rw [← hW] at M1
  clear hW M hs hk ho he f1
  have t0 := M1.T.c0
  have t1 := M1.T.c1
  have p0 := M1.T.f 0
  have p1 := M1.T.f 1
  have hne0 : w.heap.size ≠ b := by omega
  have hne1 : w.heap.size + 1 ≠ b := by omega
  have S1 := (M1.S.far (p := ⟨w.heap.size + 1, 0, none⟩) hne1 (.int .u8 2)).far (p := ⟨w.heap.size + 1, 1, none⟩) hne1 (.string x)
  have R1 := (M1.R.far (p := ⟨w.heap.size + 1, 0, none⟩) (Nat.succ_ne_self _) (.int .u8 2)).far (p := ⟨w.heap.size + 1, 1, none⟩) (Nat.succ_ne_self _) (.string x)
  have T1 := (M1.T.setK 2).setX x
  have g1 := only_setCell (only_setCell M1.g (p := ⟨w.heap.size + 1, 0, none⟩) (.inr (Nat.le_succ _)) (.int .u8 2)) (p := ⟨w.heap.size + 1, 1, none⟩) (.inr (Nat.le_succ _)) (.string x)
  have hG1 := hG.only g1 hb3
  go_wp2_with fail
  refine (num_any x _ hG1 hx).mono ?_
  rintro e W2 ⟨rfl, hbel⟩
  have S2 := S1.below hbel
  have R2 := R1.below hbel
  have T2 := T1.below hbel
  have g2 := only_trans g1 (only_of_below hbel _)
  clear S1 R1 T1 g1 hG1 hbel M1 t0 t1 p0 p1
  have hs := S2.s
  have hk := S2.k
  have ho := S2.o
  have he := S2.e
  have f2 := S2.f 2
  have f3 := S2.f 3
  have t0 := T2.c0
  have t1 := T2.c1
  have t2 := T2.c2
  have r0 := R2.c0
  have r1 := R2.c1
  have r2 := R2.c2
  have q0 := R2.f 0
  have q1 := R2.f 1
  have q2 := R2.f 2
  rw [hn]
  go_wp2
  refine bodyPost_ret (v := .agg #[.int .u8 2, .string x, .int .i64 k]) (by simp [results, Tryd.results43, go_sem, r0, r1, r2]) rfl ⟨rfl, ?_, ?_⟩
  · exact ((((S2.setE 41).setO _).far hne0 _).far hne0 _).far hne0 _
  · exact only_setCell (only_setCell (only_setCell (only_setCell (only_setCell g2 (.inl rfl) _) (.inl rfl) _) (.inr (Nat.le_refl _)) _) (.inr (Nat.le_refl _)) _) (.inr (Nat.le_refl _)) _
end Go.Proofs.YtgpndifkkaomcaaDoor
