/- The scanner's next token. -/
import Derived.Test.YtgpndifkkaomcaaDoorA2
import Derived.Test.YtgpndifkkaomcaaDoorA3
import Derived.Test.YtgpndifkkaomcaaDoorA6
import Derived.Laws.AppendOwn
namespace Go.Proofs.YtgpndifkkaomcaaDoor
open Go.RowKit
/-- The scanner in block b. -/
structure Scan (w : World) (b : Nat) (s : ByteArray) (k : Nat) (o : Bool) (e : Int) : Prop where
  s : w.cell? ⟨b, 0, none⟩ = some (.string s)
  k : w.cell? ⟨b, 1, none⟩ = some (.int .i64 k)
  o : w.cell? ⟨b, 2, none⟩ = some (.bool o)
  e : w.cell? ⟨b, 3, none⟩ = some (.int .i64 e)
  f : ∀ j, w.frozen? ⟨b, j, none⟩ = false
theorem Scan.lt {w : World} {b : Nat} {s : ByteArray} {k : Nat} {o : Bool} {e : Int} (h : Scan w b s k o e) : b < w.heap.size := by
  rcases Nat.lt_or_ge b w.heap.size with h' | h'
  · exact h'
  · have := h.s; simp [World.cell?, Array.getElem?_eq_none h'] at this
section
variable {w : World} {b : Nat} {s : ByteArray} {k : Nat} {o : Bool} {e : Int}
theorem Scan.alloc (h : Scan w b s k o e) (x : Obj) : Scan (w.alloc x) b s k o e :=
  ⟨calloc h.s, calloc h.k, calloc h.o, calloc h.e, fun j => falloc h.lt (h.f j)⟩
theorem Scan.drewN (h : Scan w b s k o e) (n : Nat) : Scan (w.drewN n) b s k o e := ⟨h.s, h.k, h.o, h.e, h.f⟩
theorem Scan.far (h : Scan w b s k o e) {p : Addr} (hp : p.block ≠ b) (u : Value) : Scan (w.setCell p u) b s k o e :=
  have hne : ∀ j, p ≠ ⟨b, j, none⟩ := fun j hh => hp (by rw [hh])
  ⟨cset_other (hne _) h.s, cset_other (hne _) h.k, cset_other (hne _) h.o, cset_other (hne _) h.e, fun j => fset (h.f j)⟩
theorem Scan.setK (h : Scan w b s k o e) (k' : Nat) : Scan (w.setCell ⟨b, 1, none⟩ (.int .i64 k')) b s k' o e :=
  ⟨cset_other (by simp) h.s, cset_same (by rw [h.k]; rfl), cset_other (by simp) h.o, cset_other (by simp) h.e, fun j => fset (h.f j)⟩
theorem Scan.setO (h : Scan w b s k o e) (o' : Bool) : Scan (w.setCell ⟨b, 2, none⟩ (.bool o')) b s k o' e :=
  ⟨cset_other (by simp) h.s, cset_other (by simp) h.k, cset_same (by rw [h.o]; rfl), cset_other (by simp) h.e, fun j => fset (h.f j)⟩
theorem Scan.setE (h : Scan w b s k o e) (e' : Int) : Scan (w.setCell ⟨b, 3, none⟩ (.int .i64 e')) b s k o e' :=
  ⟨cset_other (by simp) h.s, cset_other (by simp) h.k, cset_other (by simp) h.o, cset_same (by rw [h.e]; rfl), fun j => fset (h.f j)⟩
end
/-- A token in block c. -/
structure Tok (w : World) (c : Nat) (K : Int) (x : ByteArray) (at_ : Int) : Prop where
  c0 : w.cell? ⟨c, 0, none⟩ = some (.int .u8 K)
  c1 : w.cell? ⟨c, 1, none⟩ = some (.string x)
  c2 : w.cell? ⟨c, 2, none⟩ = some (.int .i64 at_)
  f : ∀ j, w.frozen? ⟨c, j, none⟩ = false
section
variable {w : World} {c : Nat} {K : Int} {x : ByteArray} {a : Int}
theorem Tok.new (w : World) (K : Int) (x : ByteArray) (a : Int) (T : TypeId) : Tok (w.alloc (.cells #[.int .u8 K, .string x, .int .i64 a] T)) w.heap.size K x a :=
  ⟨World.cell?_alloc_new _ _ _ _, World.cell?_alloc_new _ _ _ _, World.cell?_alloc_new _ _ _ _, fun _ => World.frozen?_alloc_new _ _ _ _⟩
theorem Tok.alloc (h : Tok w c K x a) (o : Obj) : Tok (w.alloc o) c K x a :=
  ⟨calloc h.c0, calloc h.c1, calloc h.c2, fun j => falloc (show c < w.heap.size from cell_lt h.c0) (h.f j)⟩
theorem Tok.drewN (h : Tok w c K x a) (n : Nat) : Tok (w.drewN n) c K x a := ⟨h.c0, h.c1, h.c2, h.f⟩
theorem Tok.far (h : Tok w c K x a) {p : Addr} (hp : p.block ≠ c) (u : Value) : Tok (w.setCell p u) c K x a :=
  have hne : ∀ j, p ≠ ⟨c, j, none⟩ := fun j hh => hp (by rw [hh])
  ⟨cset_other (hne _) h.c0, cset_other (hne _) h.c1, cset_other (hne _) h.c2, fun j => fset (h.f j)⟩
end
/-- What stands before and behind the call that advances the scanner. -/
structure Mid (w w' : World) (b : Nat) (s : ByteArray) (k : Nat) (o : Bool) (at_ : Int) : Prop where
  S : Scan w' b s k o 0
  g : w.grownBy w' (some b)
  R : Tok w' w.heap.size 0 ⟨#[]⟩ 0
  T : Tok w' (w.heap.size + 1) 0 ⟨#[]⟩ at_
theorem Mid.of {w : World} {b : Nat} {s : ByteArray} {k : Nat} {o : Bool} (hS : Scan w b s k o 0) (at_ : Int) (nq : Nat) :
    Mid w (((w.alloc (.cells #[.int .u8 0, .string ⟨#[]⟩, .int .i64 0] 31)).alloc (.cells #[.int .u8 0, .string ⟨#[]⟩, .int .i64 at_] 31)).drewN nq) b s k o at_ :=
  ⟨((hS.alloc _).alloc _).drewN _, only_drewN (only_alloc (only_alloc (only_refl _ _) _) _) _, ((Tok.new w 0 _ 0 31).alloc _).drewN _,
   by have := (Tok.new (w.alloc (.cells #[.int .u8 0, .string ⟨#[]⟩, .int .i64 0] 31)) 0 ⟨#[]⟩ at_ 31).drewN nq; rwa [World.size_alloc] at this⟩
theorem Mid.setK {w w' : World} {b : Nat} {s : ByteArray} {k : Nat} {o : Bool} {at_ : Int} (h : Mid w w' b s k o at_) (hb : b < w.heap.size) (k' n : Nat) : Mid w ((w'.setCell ⟨b, 1, none⟩ (.int .i64 k')).drewN n) b s k' o at_ :=
  ⟨(h.S.setK _).drewN _, only_drewN (only_setCell h.g (.inl rfl) _) _, (h.R.far (by show b ≠ _; omega) _).drewN _, (h.T.far (by show b ≠ _; omega) _).drewN _⟩

set_option maxHeartbeats 800000 in
theorem next_blank_true (b : Nat) (s : ByteArray) (k : Nat) (w : World) (hS : Scan w b s k true 0) (hmax : s.size ≤ 4611686018427387904) (hlt : k < s.size) (hc : clsB s[k].toNat = 1) :
    Calls Tryd.prog 43 #[.pointer (some ⟨b, 0, none⟩)] w fun e w' => e = .returned (.agg #[.int .u8 0, .string ⟨#[]⟩, .int .i64 k]) ∧ Scan w' b s (spanEnd (fun b => isBlanks (clsB b)) s.data.toList k) true 0 ∧ w.grownBy w' (some b) := by
  have hb := hS.lt
  have hs := hS.s
  have hk := hS.k
  have ho := hS.o
  have he := hS.e
  have f1 := hS.f 1
  have h0 : 0 ≤ (k : Int) := by omega
  have hd : decide ((k : Int) < (s.size : Int)) = true := by simp; omega
  go_enter Tryd.func43, Tryd.ntmps43
  go_wp2
  go_quiet ((go_at_call 30; exact Calls.quiet_of_same ((of_any _ _).mono (fun e w' h => ⟨h.1, h.2.symm⟩))))
  have M := Mid.of hS k nq
  go_wp2_with fail
  refine (while_blanks0 s b k _ M.S.s M.S.k (M.S.f 1) (by omega) (by omega)).mono ?_
  rintro e W ⟨rfl, n, hW⟩
  have M1 := M.setK hb (spanEnd (fun b => isBlanks (clsB b)) s.data.toList k) n
  rw [← hW] at M1
  clear hW M hs hk ho he f1
  have hs := M1.S.s
  have hk := M1.S.k
  have ho := M1.S.o
  have he := M1.S.e
  have f2 := M1.S.f 2
  have t0 := M1.T.c0
  have t1 := M1.T.c1
  have t2 := M1.T.c2
  have r0 := M1.R.c0
  have r1 := M1.R.c1
  have r2 := M1.R.c2
  have q0 := M1.R.f 0
  have q1 := M1.R.f 1
  have q2 := M1.R.f 2
  go_wp2
  refine bodyPost_ret (v := .agg #[.int .u8 0, .string ⟨#[]⟩, .int .i64 k]) (by simp [results, Tryd.results43, go_sem, r0, r1, r2]) rfl ⟨rfl, ?_, ?_⟩
  · have hne0 : w.heap.size ≠ b := by omega
    exact (((M1.S.setO _).far hne0 _).far hne0 _).far hne0 _
  · exact only_setCell (only_setCell (only_setCell (only_setCell M1.g (.inl rfl) _) (.inr (Nat.le_refl _)) _) (.inr (Nat.le_refl _)) _) (.inr (Nat.le_refl _)) _

set_option maxHeartbeats 800000 in
theorem next_blank_false (b : Nat) (s : ByteArray) (k : Nat) (w : World) (hS : Scan w b s k false 0) (hmax : s.size ≤ 4611686018427387904) (hlt : k < s.size) (hc : clsB s[k].toNat = 1) :
    Calls Tryd.prog 43 #[.pointer (some ⟨b, 0, none⟩)] w fun e w' => e = .returned (.agg #[.int .u8 0, .string ⟨#[]⟩, .int .i64 k]) ∧ Scan w' b s (spanEnd (fun b => isBlanks (clsB b)) s.data.toList k) false 0 ∧ w.grownBy w' (some b) := by
  have hb := hS.lt
  have hs := hS.s
  have hk := hS.k
  have ho := hS.o
  have he := hS.e
  have f1 := hS.f 1
  have h0 : 0 ≤ (k : Int) := by omega
  have hd : decide ((k : Int) < (s.size : Int)) = true := by simp; omega
  go_enter Tryd.func43, Tryd.ntmps43
  go_wp2
  go_quiet ((go_at_call 30; exact Calls.quiet_of_same ((of_any _ _).mono (fun e w' h => ⟨h.1, h.2.symm⟩))))
  have M := Mid.of hS k nq
  go_wp2_with fail
  refine (while_blanks0 s b k _ M.S.s M.S.k (M.S.f 1) (by omega) (by omega)).mono ?_
  rintro e W ⟨rfl, n, hW⟩
  have M1 := M.setK hb (spanEnd (fun b => isBlanks (clsB b)) s.data.toList k) n
  rw [← hW] at M1
  clear hW M hs hk ho he f1
  have hs := M1.S.s
  have hk := M1.S.k
  have ho := M1.S.o
  have he := M1.S.e
  have f2 := M1.S.f 2
  have t0 := M1.T.c0
  have t1 := M1.T.c1
  have t2 := M1.T.c2
  have r0 := M1.R.c0
  have r1 := M1.R.c1
  have r2 := M1.R.c2
  have q0 := M1.R.f 0
  have q1 := M1.R.f 1
  have q2 := M1.R.f 2
  go_wp2
  refine bodyPost_ret (v := .agg #[.int .u8 0, .string ⟨#[]⟩, .int .i64 k]) (by simp [results, Tryd.results43, go_sem, r0, r1, r2]) rfl ⟨rfl, ?_, ?_⟩
  · have hne0 : w.heap.size ≠ b := by omega
    exact (((M1.S.setO _).far hne0 _).far hne0 _).far hne0 _
  · exact only_setCell (only_setCell (only_setCell (only_setCell M1.g (.inl rfl) _) (.inr (Nat.le_refl _)) _) (.inr (Nat.le_refl _)) _) (.inr (Nat.le_refl _)) _

set_option maxHeartbeats 800000 in
theorem next_remark_true (b : Nat) (s : ByteArray) (k : Nat) (w : World) (hS : Scan w b s k true 0) (hmax : s.size ≤ 4611686018427387904) (hlt : k < s.size) (hc : clsB s[k].toNat = 6) :
    Calls Tryd.prog 43 #[.pointer (some ⟨b, 0, none⟩)] w fun e w' => e = .returned (.agg #[.int .u8 0, .string ⟨#[]⟩, .int .i64 k]) ∧ Scan w' b s (spanEnd (fun b => isRemark (clsB b)) s.data.toList k) true 0 ∧ w.grownBy w' (some b) := by
  have hb := hS.lt
  have hs := hS.s
  have hk := hS.k
  have ho := hS.o
  have he := hS.e
  have f1 := hS.f 1
  have h0 : 0 ≤ (k : Int) := by omega
  have hd : decide ((k : Int) < (s.size : Int)) = true := by simp; omega
  go_enter Tryd.func43, Tryd.ntmps43
  go_wp2
  go_quiet ((go_at_call 30; exact Calls.quiet_of_same ((of_any _ _).mono (fun e w' h => ⟨h.1, h.2.symm⟩))))
  have M := Mid.of hS k nq
  go_wp2_with fail
  refine (while_remark0 s b k _ M.S.s M.S.k (M.S.f 1) (by omega) (by omega)).mono ?_
  rintro e W ⟨rfl, n, hW⟩
  have M1 := M.setK hb (spanEnd (fun b => isRemark (clsB b)) s.data.toList k) n
  rw [← hW] at M1
  clear hW M hs hk ho he f1
  have hs := M1.S.s
  have hk := M1.S.k
  have ho := M1.S.o
  have he := M1.S.e
  have f2 := M1.S.f 2
  have t0 := M1.T.c0
  have t1 := M1.T.c1
  have t2 := M1.T.c2
  have r0 := M1.R.c0
  have r1 := M1.R.c1
  have r2 := M1.R.c2
  have q0 := M1.R.f 0
  have q1 := M1.R.f 1
  have q2 := M1.R.f 2
  go_wp2
  refine bodyPost_ret (v := .agg #[.int .u8 0, .string ⟨#[]⟩, .int .i64 k]) (by simp [results, Tryd.results43, go_sem, r0, r1, r2]) rfl ⟨rfl, ?_, ?_⟩
  · have hne0 : w.heap.size ≠ b := by omega
    exact (((M1.S.setO _).far hne0 _).far hne0 _).far hne0 _
  · exact only_setCell (only_setCell (only_setCell (only_setCell M1.g (.inl rfl) _) (.inr (Nat.le_refl _)) _) (.inr (Nat.le_refl _)) _) (.inr (Nat.le_refl _)) _

set_option maxHeartbeats 800000 in
theorem next_remark_false (b : Nat) (s : ByteArray) (k : Nat) (w : World) (hS : Scan w b s k false 0) (hmax : s.size ≤ 4611686018427387904) (hlt : k < s.size) (hc : clsB s[k].toNat = 6) :
    Calls Tryd.prog 43 #[.pointer (some ⟨b, 0, none⟩)] w fun e w' => e = .returned (.agg #[.int .u8 0, .string ⟨#[]⟩, .int .i64 k]) ∧ Scan w' b s (spanEnd (fun b => isRemark (clsB b)) s.data.toList k) false 0 ∧ w.grownBy w' (some b) := by
  have hb := hS.lt
  have hs := hS.s
  have hk := hS.k
  have ho := hS.o
  have he := hS.e
  have f1 := hS.f 1
  have h0 : 0 ≤ (k : Int) := by omega
  have hd : decide ((k : Int) < (s.size : Int)) = true := by simp; omega
  go_enter Tryd.func43, Tryd.ntmps43
  go_wp2
  go_quiet ((go_at_call 30; exact Calls.quiet_of_same ((of_any _ _).mono (fun e w' h => ⟨h.1, h.2.symm⟩))))
  have M := Mid.of hS k nq
  go_wp2_with fail
  refine (while_remark0 s b k _ M.S.s M.S.k (M.S.f 1) (by omega) (by omega)).mono ?_
  rintro e W ⟨rfl, n, hW⟩
  have M1 := M.setK hb (spanEnd (fun b => isRemark (clsB b)) s.data.toList k) n
  rw [← hW] at M1
  clear hW M hs hk ho he f1
  have hs := M1.S.s
  have hk := M1.S.k
  have ho := M1.S.o
  have he := M1.S.e
  have f2 := M1.S.f 2
  have t0 := M1.T.c0
  have t1 := M1.T.c1
  have t2 := M1.T.c2
  have r0 := M1.R.c0
  have r1 := M1.R.c1
  have r2 := M1.R.c2
  have q0 := M1.R.f 0
  have q1 := M1.R.f 1
  have q2 := M1.R.f 2
  go_wp2
  refine bodyPost_ret (v := .agg #[.int .u8 0, .string ⟨#[]⟩, .int .i64 k]) (by simp [results, Tryd.results43, go_sem, r0, r1, r2]) rfl ⟨rfl, ?_, ?_⟩
  · have hne0 : w.heap.size ≠ b := by omega
    exact (((M1.S.setO _).far hne0 _).far hne0 _).far hne0 _
  · exact only_setCell (only_setCell (only_setCell (only_setCell M1.g (.inl rfl) _) (.inr (Nat.le_refl _)) _) (.inr (Nat.le_refl _)) _) (.inr (Nat.le_refl _)) _
end Go.Proofs.YtgpndifkkaomcaaDoor
