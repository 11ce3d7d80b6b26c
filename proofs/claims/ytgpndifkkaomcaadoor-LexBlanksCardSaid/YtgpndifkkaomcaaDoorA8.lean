/- The scanner's next token, the other classes. -/
import Derived.Test.YtgpndifkkaomcaaDoorA7
namespace Go.Proofs.YtgpndifkkaomcaaDoor
open Go.RowKit

set_option maxHeartbeats 1000000 in
theorem next_line_true (b : Nat) (s : ByteArray) (k : Nat) (w : World) (hS : Scan w b s k true 0) (hmax : s.size ≤ 4611686018427387904) (hlt : k < s.size) (hc : clsB s[k].toNat = 2) :
    Calls Tryd.prog 43 #[.pointer (some ⟨b, 0, none⟩)] w fun e w' => e = .returned (.agg #[.int .u8 4, .string ⟨#[]⟩, .int .i64 k]) ∧ Scan w' b s (k + 1) false 0 ∧ w.grownBy w' (some b) := by
  have hb := hS.lt
  have hs := hS.s
  have hk := hS.k
  have ho := hS.o
  have he := hS.e
  have f1 := hS.f 1
  have h0 : 0 ≤ (k : Int) := by omega
  have hd : decide ((k : Int) < (s.size : Int)) = true := by simp; omega
  go_enter Tryd.func43, Tryd.ntmps43
  go_wp2
  go_quiet ((go_at_call 30; exact Calls.quiet_of_same ((of_any _ _).mono (fun e w' h => ⟨h.1, h.2.symm⟩))))
  have M := Mid.of hS k nq
  obtain ⟨W, hW⟩ : ∃ W, ((w.alloc (.cells #[.int .u8 0, .string ⟨#[]⟩, .int .i64 0] 31)).alloc (.cells #[.int .u8 0, .string ⟨#[]⟩, .int .i64 k] 31)).drewN nq = W := ⟨_, rfl⟩
  rw [hW] at M ⊢
  clear hW hs hk ho he f1
  have M1 := M
  have hs := M1.S.s
  have hk := M1.S.k
  have ho := M1.S.o
  have he := M1.S.e
  have f1 := M1.S.f 1
  have f2 := M1.S.f 2
  have f3 := M1.S.f 3
  have t0 := M1.T.c0
  have t1 := M1.T.c1
  have t2 := M1.T.c2
  have p0 := M1.T.f 0
  have p1 := M1.T.f 1
  have r0 := M1.R.c0
  have r1 := M1.R.c1
  have r2 := M1.R.c2
  have q0 := M1.R.f 0
  have q1 := M1.R.f 1
  have q2 := M1.R.f 2
  go_wp2
  refine bodyPost_ret (v := .agg #[.int .u8 4, .string ⟨#[]⟩, .int .i64 k]) (by simp [results, Tryd.results43, go_sem, r0, r1, r2]) rfl ⟨rfl, ?_, ?_⟩
  · have hne0 : w.heap.size ≠ b := by omega
    have hne1 : w.heap.size + 1 ≠ b := by omega
    exact (((((M1.S.setK (k + 1)).far hne1 _).setO _).far hne0 _).far hne0 _).far hne0 _
  · exact only_setCell (only_setCell (only_setCell (only_setCell (only_setCell (only_setCell (M1.g) (.inl rfl) _) (.inr (Nat.le_succ _)) _) (.inl rfl) _) (.inr (Nat.le_refl _)) _) (.inr (Nat.le_refl _)) _) (.inr (Nat.le_refl _)) _

set_option maxHeartbeats 1000000 in
theorem next_line_false (b : Nat) (s : ByteArray) (k : Nat) (w : World) (hS : Scan w b s k false 0) (hmax : s.size ≤ 4611686018427387904) (hlt : k < s.size) (hc : clsB s[k].toNat = 2) :
    Calls Tryd.prog 43 #[.pointer (some ⟨b, 0, none⟩)] w fun e w' => e = .returned (.agg #[.int .u8 0, .string ⟨#[]⟩, .int .i64 k]) ∧ Scan w' b s (k + 1) false 0 ∧ w.grownBy w' (some b) := by
  have hb := hS.lt
  have hs := hS.s
  have hk := hS.k
  have ho := hS.o
  have he := hS.e
  have f1 := hS.f 1
  have h0 : 0 ≤ (k : Int) := by omega
  have hd : decide ((k : Int) < (s.size : Int)) = true := by simp; omega
  go_enter Tryd.func43, Tryd.ntmps43
  go_wp2
  go_quiet ((go_at_call 30; exact Calls.quiet_of_same ((of_any _ _).mono (fun e w' h => ⟨h.1, h.2.symm⟩))))
  have M := Mid.of hS k nq
  obtain ⟨W, hW⟩ : ∃ W, ((w.alloc (.cells #[.int .u8 0, .string ⟨#[]⟩, .int .i64 0] 31)).alloc (.cells #[.int .u8 0, .string ⟨#[]⟩, .int .i64 k] 31)).drewN nq = W := ⟨_, rfl⟩
  rw [hW] at M ⊢
  clear hW hs hk ho he f1
  have M1 := M
  have hs := M1.S.s
  have hk := M1.S.k
  have ho := M1.S.o
  have he := M1.S.e
  have f1 := M1.S.f 1
  have f2 := M1.S.f 2
  have f3 := M1.S.f 3
  have t0 := M1.T.c0
  have t1 := M1.T.c1
  have t2 := M1.T.c2
  have p0 := M1.T.f 0
  have p1 := M1.T.f 1
  have r0 := M1.R.c0
  have r1 := M1.R.c1
  have r2 := M1.R.c2
  have q0 := M1.R.f 0
  have q1 := M1.R.f 1
  have q2 := M1.R.f 2
  go_wp2
  refine bodyPost_ret (v := .agg #[.int .u8 0, .string ⟨#[]⟩, .int .i64 k]) (by simp [results, Tryd.results43, go_sem, r0, r1, r2]) rfl ⟨rfl, ?_, ?_⟩
  · have hne0 : w.heap.size ≠ b := by omega
    have hne1 : w.heap.size + 1 ≠ b := by omega
    exact ((((M1.S.setK (k + 1)).setO _).far hne0 _).far hne0 _).far hne0 _
  · exact only_setCell (only_setCell (only_setCell (only_setCell (only_setCell (M1.g) (.inl rfl) _) (.inl rfl) _) (.inr (Nat.le_refl _)) _) (.inr (Nat.le_refl _)) _) (.inr (Nat.le_refl _)) _

set_option maxHeartbeats 1000000 in
theorem next_other_true (b : Nat) (s : ByteArray) (k : Nat) (w : World) (hS : Scan w b s k true 0) (_hmax : s.size ≤ 4611686018427387904) (hlt : k < s.size) (hc : clsB s[k].toNat = 0) :
    Calls Tryd.prog 43 #[.pointer (some ⟨b, 0, none⟩)] w fun e w' => e = .returned (.agg #[.int .u8 0, .string ⟨#[]⟩, .int .i64 k]) ∧ Scan w' b s (k) true 40 ∧ w.grownBy w' (some b) := by
  have hb := hS.lt
  have hs := hS.s
  have hk := hS.k
  have ho := hS.o
  have he := hS.e
  have f1 := hS.f 1
  have h0 : 0 ≤ (k : Int) := by omega
  have hd : decide ((k : Int) < (s.size : Int)) = true := by simp; omega
  go_enter Tryd.func43, Tryd.ntmps43
  go_wp2
  go_quiet ((go_at_call 30; exact Calls.quiet_of_same ((of_any _ _).mono (fun e w' h => ⟨h.1, h.2.symm⟩))))
  have M := Mid.of hS k nq
  obtain ⟨W, hW⟩ : ∃ W, ((w.alloc (.cells #[.int .u8 0, .string ⟨#[]⟩, .int .i64 0] 31)).alloc (.cells #[.int .u8 0, .string ⟨#[]⟩, .int .i64 k] 31)).drewN nq = W := ⟨_, rfl⟩
  rw [hW] at M ⊢
  clear hW hs hk ho he f1
  have M1 := M
  have hs := M1.S.s
  have hk := M1.S.k
  have ho := M1.S.o
  have he := M1.S.e
  have f1 := M1.S.f 1
  have f2 := M1.S.f 2
  have f3 := M1.S.f 3
  have t0 := M1.T.c0
  have t1 := M1.T.c1
  have t2 := M1.T.c2
  have p0 := M1.T.f 0
  have p1 := M1.T.f 1
  have r0 := M1.R.c0
  have r1 := M1.R.c1
  have r2 := M1.R.c2
  have q0 := M1.R.f 0
  have q1 := M1.R.f 1
  have q2 := M1.R.f 2
  go_wp2
  refine bodyPost_ret (v := .agg #[.int .u8 0, .string ⟨#[]⟩, .int .i64 k]) (by simp [results, Tryd.results43, go_sem, r0, r1, r2]) rfl ⟨rfl, ?_, ?_⟩
  · have hne0 : w.heap.size ≠ b := by omega
    have hne1 : w.heap.size + 1 ≠ b := by omega
    exact ((((M1.S.setE 40).setO _).far hne0 _).far hne0 _).far hne0 _
  · exact only_setCell (only_setCell (only_setCell (only_setCell (only_setCell (M1.g) (.inl rfl) _) (.inl rfl) _) (.inr (Nat.le_refl _)) _) (.inr (Nat.le_refl _)) _) (.inr (Nat.le_refl _)) _

set_option maxHeartbeats 1000000 in
theorem next_mark_true (b : Nat) (s : ByteArray) (k : Nat) (w : World) (hS : Scan w b s k true 0) (hmax : s.size ≤ 4611686018427387904) (hlt : k < s.size) (hc : clsB s[k].toNat = 7) :
    Calls Tryd.prog 43 #[.pointer (some ⟨b, 0, none⟩)] w fun e w' => e = .returned (.agg #[.int .u8 3, .string (s.extract k (k + signLen s.data.toList k)), .int .i64 k]) ∧ Scan w' b s (k + signLen s.data.toList k) true 0 ∧ w.grownBy w' (some b) := by
  have hb := hS.lt
  have hs := hS.s
  have hk := hS.k
  have ho := hS.o
  have he := hS.e
  have f1 := hS.f 1
  have h0 : 0 ≤ (k : Int) := by omega
  have hd : decide ((k : Int) < (s.size : Int)) = true := by simp; omega
  go_enter Tryd.func43, Tryd.ntmps43
  go_wp2
  go_quiet ((go_at_call 30; exact Calls.quiet_of_same ((of_any _ _).mono (fun e w' h => ⟨h.1, h.2.symm⟩))))
  have M := Mid.of hS k nq
  go_wp2_with fail
  refine (sign_any0 s b k _ M.S.s M.S.k (M.S.f 1) hlt hmax).mono ?_
  rintro e W ⟨rfl, n, hW⟩
  have M1 := M.setK hb (k + signLen s.data.toList k) n
  rw [← hW] at M1
  clear hW M hs hk ho he f1
  have hs := M1.S.s
  have hk := M1.S.k
  have ho := M1.S.o
  have he := M1.S.e
  have f1 := M1.S.f 1
  have f2 := M1.S.f 2
  have f3 := M1.S.f 3
  have t0 := M1.T.c0
  have t1 := M1.T.c1
  have t2 := M1.T.c2
  have p0 := M1.T.f 0
  have p1 := M1.T.f 1
  have r0 := M1.R.c0
  have r1 := M1.R.c1
  have r2 := M1.R.c2
  have q0 := M1.R.f 0
  have q1 := M1.R.f 1
  have q2 := M1.R.f 2
  go_wp2
  refine bodyPost_ret (v := .agg #[.int .u8 3, .string (s.extract k (k + signLen s.data.toList k)), .int .i64 k]) (by simp [results, Tryd.results43, go_sem, r0, r1, r2]) rfl ⟨rfl, ?_, ?_⟩
  · have hne0 : w.heap.size ≠ b := by omega
    have hne1 : w.heap.size + 1 ≠ b := by omega
    exact (((((M1.S.far hne1 _).far hne1 _).setO _).far hne0 _).far hne0 _).far hne0 _
  · exact only_setCell (only_setCell (only_setCell (only_setCell (only_setCell (only_setCell (M1.g) (.inr (Nat.le_succ _)) _) (.inr (Nat.le_succ _)) _) (.inl rfl) _) (.inr (Nat.le_refl _)) _) (.inr (Nat.le_refl _)) _) (.inr (Nat.le_refl _)) _

set_option maxHeartbeats 1000000 in
theorem next_word_true (b : Nat) (s : ByteArray) (k : Nat) (w : World) (hS : Scan w b s k true 0) (hmax : s.size ≤ 4611686018427387904) (hlt : k < s.size) (hc : clsB s[k].toNat = 3) (hx : spanEnd (fun b => isWord (clsB b)) s.data.toList k - k ≤ 16) :
    Calls Tryd.prog 43 #[.pointer (some ⟨b, 0, none⟩)] w fun e w' => e = .returned (.agg #[.int .u8 1, .string (s.extract k (spanEnd (fun b => isWord (clsB b)) s.data.toList k)), .int .i64 k]) ∧ Scan w' b s (spanEnd (fun b => isWord (clsB b)) s.data.toList k) true 0 ∧ w.grownBy w' (some b) := by
  have hb := hS.lt
  have hs := hS.s
  have hk := hS.k
  have ho := hS.o
  have he := hS.e
  have f1 := hS.f 1
  have h0 : 0 ≤ (k : Int) := by omega
  have hd : decide ((k : Int) < (s.size : Int)) = true := by simp; omega
  go_enter Tryd.func43, Tryd.ntmps43
  go_wp2
  go_quiet ((go_at_call 30; exact Calls.quiet_of_same ((of_any _ _).mono (fun e w' h => ⟨h.1, h.2.symm⟩))))
  have M := Mid.of hS k nq
  go_wp2_with fail
  refine (while_word0 s b k _ M.S.s M.S.k (M.S.f 1) (by omega) (by omega)).mono ?_
  rintro e W ⟨rfl, n, hW⟩
  have M1 := M.setK hb (spanEnd (fun b => isWord (clsB b)) s.data.toList k) n
  rw [← hW] at M1
  clear hW M hs hk ho he f1
  have hs := M1.S.s
  have hk := M1.S.k
  have ho := M1.S.o
  have he := M1.S.e
  have f1 := M1.S.f 1
  have f2 := M1.S.f 2
  have f3 := M1.S.f 3
  have t0 := M1.T.c0
  have t1 := M1.T.c1
  have t2 := M1.T.c2
  have p0 := M1.T.f 0
  have p1 := M1.T.f 1
  have r0 := M1.R.c0
  have r1 := M1.R.c1
  have r2 := M1.R.c2
  have q0 := M1.R.f 0
  have q1 := M1.R.f 1
  have q2 := M1.R.f 2
  have hle := spanEnd_le (p := fun b => isWord (clsB b)) (l := s.data.toList) (k := k) (by simp; omega)
  have hsz : s.data.toList.length = s.size := by simp
  go_wp2
  refine bodyPost_ret (v := .agg #[.int .u8 1, .string (s.extract k (spanEnd (fun b => isWord (clsB b)) s.data.toList k)), .int .i64 k]) (by simp [results, Tryd.results43, go_sem, r0, r1, r2]) rfl ⟨rfl, ?_, ?_⟩
  · have hne0 : w.heap.size ≠ b := by omega
    have hne1 : w.heap.size + 1 ≠ b := by omega
    exact (((((M1.S.far hne1 _).far hne1 _).setO _).far hne0 _).far hne0 _).far hne0 _
  · exact only_setCell (only_setCell (only_setCell (only_setCell (only_setCell (only_setCell (M1.g) (.inr (Nat.le_succ _)) _) (.inr (Nat.le_succ _)) _) (.inl rfl) _) (.inr (Nat.le_refl _)) _) (.inr (Nat.le_refl _)) _) (.inr (Nat.le_refl _)) _

set_option maxHeartbeats 1000000 in
theorem next_wordlong_true (b : Nat) (s : ByteArray) (k : Nat) (w : World) (hS : Scan w b s k true 0) (hmax : s.size ≤ 4611686018427387904) (hlt : k < s.size) (hc : clsB s[k].toNat = 3) (hx : 16 < spanEnd (fun b => isWord (clsB b)) s.data.toList k - k) :
    Calls Tryd.prog 43 #[.pointer (some ⟨b, 0, none⟩)] w fun e w' => e = .returned (.agg #[.int .u8 1, .string (s.extract k (spanEnd (fun b => isWord (clsB b)) s.data.toList k)), .int .i64 k]) ∧ Scan w' b s (spanEnd (fun b => isWord (clsB b)) s.data.toList k) true 42 ∧ w.grownBy w' (some b) := by
  have hb := hS.lt
  have hs := hS.s
  have hk := hS.k
  have ho := hS.o
  have he := hS.e
  have f1 := hS.f 1
  have h0 : 0 ≤ (k : Int) := by omega
  have hd : decide ((k : Int) < (s.size : Int)) = true := by simp; omega
  go_enter Tryd.func43, Tryd.ntmps43
  go_wp2
  go_quiet ((go_at_call 30; exact Calls.quiet_of_same ((of_any _ _).mono (fun e w' h => ⟨h.1, h.2.symm⟩))))
  have M := Mid.of hS k nq
  go_wp2_with fail
  refine (while_word0 s b k _ M.S.s M.S.k (M.S.f 1) (by omega) (by omega)).mono ?_
  rintro e W ⟨rfl, n, hW⟩
  have M1 := M.setK hb (spanEnd (fun b => isWord (clsB b)) s.data.toList k) n
  rw [← hW] at M1
  clear hW M hs hk ho he f1
  have hs := M1.S.s
  have hk := M1.S.k
  have ho := M1.S.o
  have he := M1.S.e
  have f1 := M1.S.f 1
  have f2 := M1.S.f 2
  have f3 := M1.S.f 3
  have t0 := M1.T.c0
  have t1 := M1.T.c1
  have t2 := M1.T.c2
  have p0 := M1.T.f 0
  have p1 := M1.T.f 1
  have r0 := M1.R.c0
  have r1 := M1.R.c1
  have r2 := M1.R.c2
  have q0 := M1.R.f 0
  have q1 := M1.R.f 1
  have q2 := M1.R.f 2
  have hle := spanEnd_le (p := fun b => isWord (clsB b)) (l := s.data.toList) (k := k) (by simp; omega)
  have hsz : s.data.toList.length = s.size := by simp
  go_wp2
  refine bodyPost_ret (v := .agg #[.int .u8 1, .string (s.extract k (spanEnd (fun b => isWord (clsB b)) s.data.toList k)), .int .i64 k]) (by simp [results, Tryd.results43, go_sem, r0, r1, r2]) rfl ⟨rfl, ?_, ?_⟩
  · have hne0 : w.heap.size ≠ b := by omega
    have hne1 : w.heap.size + 1 ≠ b := by omega
    exact ((((((M1.S.far hne1 _).far hne1 _).setE 42).setO _).far hne0 _).far hne0 _).far hne0 _
  · exact only_setCell (only_setCell (only_setCell (only_setCell (only_setCell (only_setCell (only_setCell (M1.g) (.inr (Nat.le_succ _)) _) (.inr (Nat.le_succ _)) _) (.inl rfl) _) (.inl rfl) _) (.inr (Nat.le_refl _)) _) (.inr (Nat.le_refl _)) _) (.inr (Nat.le_refl _)) _

set_option maxHeartbeats 1000000 in
theorem next_other_false (b : Nat) (s : ByteArray) (k : Nat) (w : World) (hS : Scan w b s k false 0) (_hmax : s.size ≤ 4611686018427387904) (hlt : k < s.size) (hc : clsB s[k].toNat = 0) :
    Calls Tryd.prog 43 #[.pointer (some ⟨b, 0, none⟩)] w fun e w' => e = .returned (.agg #[.int .u8 0, .string ⟨#[]⟩, .int .i64 k]) ∧ Scan w' b s (k) false 40 ∧ w.grownBy w' (some b) := by
  have hb := hS.lt
  have hs := hS.s
  have hk := hS.k
  have ho := hS.o
  have he := hS.e
  have f1 := hS.f 1
  have h0 : 0 ≤ (k : Int) := by omega
  have hd : decide ((k : Int) < (s.size : Int)) = true := by simp; omega
  go_enter Tryd.func43, Tryd.ntmps43
  go_wp2
  go_quiet ((go_at_call 30; exact Calls.quiet_of_same ((of_any _ _).mono (fun e w' h => ⟨h.1, h.2.symm⟩))))
  have M := Mid.of hS k nq
  obtain ⟨W, hW⟩ : ∃ W, ((w.alloc (.cells #[.int .u8 0, .string ⟨#[]⟩, .int .i64 0] 31)).alloc (.cells #[.int .u8 0, .string ⟨#[]⟩, .int .i64 k] 31)).drewN nq = W := ⟨_, rfl⟩
  rw [hW] at M ⊢
  clear hW hs hk ho he f1
  have M1 := M
  have hs := M1.S.s
  have hk := M1.S.k
  have ho := M1.S.o
  have he := M1.S.e
  have f1 := M1.S.f 1
  have f2 := M1.S.f 2
  have f3 := M1.S.f 3
  have t0 := M1.T.c0
  have t1 := M1.T.c1
  have t2 := M1.T.c2
  have p0 := M1.T.f 0
  have p1 := M1.T.f 1
  have r0 := M1.R.c0
  have r1 := M1.R.c1
  have r2 := M1.R.c2
  have q0 := M1.R.f 0
  have q1 := M1.R.f 1
  have q2 := M1.R.f 2
  go_wp2
  refine bodyPost_ret (v := .agg #[.int .u8 0, .string ⟨#[]⟩, .int .i64 k]) (by simp [results, Tryd.results43, go_sem, r0, r1, r2]) rfl ⟨rfl, ?_, ?_⟩
  · have hne0 : w.heap.size ≠ b := by omega
    have hne1 : w.heap.size + 1 ≠ b := by omega
    exact ((((M1.S.setE 40).setO _).far hne0 _).far hne0 _).far hne0 _
  · exact only_setCell (only_setCell (only_setCell (only_setCell (only_setCell (M1.g) (.inl rfl) _) (.inl rfl) _) (.inr (Nat.le_refl _)) _) (.inr (Nat.le_refl _)) _) (.inr (Nat.le_refl _)) _

set_option maxHeartbeats 1000000 in
theorem next_mark_false (b : Nat) (s : ByteArray) (k : Nat) (w : World) (hS : Scan w b s k false 0) (hmax : s.size ≤ 4611686018427387904) (hlt : k < s.size) (hc : clsB s[k].toNat = 7) :
    Calls Tryd.prog 43 #[.pointer (some ⟨b, 0, none⟩)] w fun e w' => e = .returned (.agg #[.int .u8 3, .string (s.extract k (k + signLen s.data.toList k)), .int .i64 k]) ∧ Scan w' b s (k + signLen s.data.toList k) true 0 ∧ w.grownBy w' (some b) := by
  have hb := hS.lt
  have hs := hS.s
  have hk := hS.k
  have ho := hS.o
  have he := hS.e
  have f1 := hS.f 1
  have h0 : 0 ≤ (k : Int) := by omega
  have hd : decide ((k : Int) < (s.size : Int)) = true := by simp; omega
  go_enter Tryd.func43, Tryd.ntmps43
  go_wp2
  go_quiet ((go_at_call 30; exact Calls.quiet_of_same ((of_any _ _).mono (fun e w' h => ⟨h.1, h.2.symm⟩))))
  have M := Mid.of hS k nq
  go_wp2_with fail
  refine (sign_any0 s b k _ M.S.s M.S.k (M.S.f 1) hlt hmax).mono ?_
  rintro e W ⟨rfl, n, hW⟩
  have M1 := M.setK hb (k + signLen s.data.toList k) n
  rw [← hW] at M1
  clear hW M hs hk ho he f1
  have hs := M1.S.s
  have hk := M1.S.k
  have ho := M1.S.o
  have he := M1.S.e
  have f1 := M1.S.f 1
  have f2 := M1.S.f 2
  have f3 := M1.S.f 3
  have t0 := M1.T.c0
  have t1 := M1.T.c1
  have t2 := M1.T.c2
  have p0 := M1.T.f 0
  have p1 := M1.T.f 1
  have r0 := M1.R.c0
  have r1 := M1.R.c1
  have r2 := M1.R.c2
  have q0 := M1.R.f 0
  have q1 := M1.R.f 1
  have q2 := M1.R.f 2
  go_wp2
  refine bodyPost_ret (v := .agg #[.int .u8 3, .string (s.extract k (k + signLen s.data.toList k)), .int .i64 k]) (by simp [results, Tryd.results43, go_sem, r0, r1, r2]) rfl ⟨rfl, ?_, ?_⟩
  · have hne0 : w.heap.size ≠ b := by omega
    have hne1 : w.heap.size + 1 ≠ b := by omega
    exact (((((M1.S.far hne1 _).far hne1 _).setO _).far hne0 _).far hne0 _).far hne0 _
  · exact only_setCell (only_setCell (only_setCell (only_setCell (only_setCell (only_setCell (M1.g) (.inr (Nat.le_succ _)) _) (.inr (Nat.le_succ _)) _) (.inl rfl) _) (.inr (Nat.le_refl _)) _) (.inr (Nat.le_refl _)) _) (.inr (Nat.le_refl _)) _

set_option maxHeartbeats 1000000 in
theorem next_word_false (b : Nat) (s : ByteArray) (k : Nat) (w : World) (hS : Scan w b s k false 0) (hmax : s.size ≤ 4611686018427387904) (hlt : k < s.size) (hc : clsB s[k].toNat = 3) (hx : spanEnd (fun b => isWord (clsB b)) s.data.toList k - k ≤ 16) :
    Calls Tryd.prog 43 #[.pointer (some ⟨b, 0, none⟩)] w fun e w' => e = .returned (.agg #[.int .u8 1, .string (s.extract k (spanEnd (fun b => isWord (clsB b)) s.data.toList k)), .int .i64 k]) ∧ Scan w' b s (spanEnd (fun b => isWord (clsB b)) s.data.toList k) true 0 ∧ w.grownBy w' (some b) := by
  have hb := hS.lt
  have hs := hS.s
  have hk := hS.k
  have ho := hS.o
  have he := hS.e
  have f1 := hS.f 1
  have h0 : 0 ≤ (k : Int) := by omega
  have hd : decide ((k : Int) < (s.size : Int)) = true := by simp; omega
  go_enter Tryd.func43, Tryd.ntmps43
  go_wp2
  go_quiet ((go_at_call 30; exact Calls.quiet_of_same ((of_any _ _).mono (fun e w' h => ⟨h.1, h.2.symm⟩))))
  have M := Mid.of hS k nq
  go_wp2_with fail
  refine (while_word0 s b k _ M.S.s M.S.k (M.S.f 1) (by omega) (by omega)).mono ?_
  rintro e W ⟨rfl, n, hW⟩
  have M1 := M.setK hb (spanEnd (fun b => isWord (clsB b)) s.data.toList k) n
  rw [← hW] at M1
  clear hW M hs hk ho he f1
  have hs := M1.S.s
  have hk := M1.S.k
  have ho := M1.S.o
  have he := M1.S.e
  have f1 := M1.S.f 1
  have f2 := M1.S.f 2
  have f3 := M1.S.f 3
  have t0 := M1.T.c0
  have t1 := M1.T.c1
  have t2 := M1.T.c2
  have p0 := M1.T.f 0
  have p1 := M1.T.f 1
  have r0 := M1.R.c0
  have r1 := M1.R.c1
  have r2 := M1.R.c2
  have q0 := M1.R.f 0
  have q1 := M1.R.f 1
  have q2 := M1.R.f 2
  have hle := spanEnd_le (p := fun b => isWord (clsB b)) (l := s.data.toList) (k := k) (by simp; omega)
  have hsz : s.data.toList.length = s.size := by simp
  go_wp2
  refine bodyPost_ret (v := .agg #[.int .u8 1, .string (s.extract k (spanEnd (fun b => isWord (clsB b)) s.data.toList k)), .int .i64 k]) (by simp [results, Tryd.results43, go_sem, r0, r1, r2]) rfl ⟨rfl, ?_, ?_⟩
  · have hne0 : w.heap.size ≠ b := by omega
    have hne1 : w.heap.size + 1 ≠ b := by omega
    exact (((((M1.S.far hne1 _).far hne1 _).setO _).far hne0 _).far hne0 _).far hne0 _
  · exact only_setCell (only_setCell (only_setCell (only_setCell (only_setCell (only_setCell (M1.g) (.inr (Nat.le_succ _)) _) (.inr (Nat.le_succ _)) _) (.inl rfl) _) (.inr (Nat.le_refl _)) _) (.inr (Nat.le_refl _)) _) (.inr (Nat.le_refl _)) _

set_option maxHeartbeats 1000000 in
theorem next_wordlong_false (b : Nat) (s : ByteArray) (k : Nat) (w : World) (hS : Scan w b s k false 0) (hmax : s.size ≤ 4611686018427387904) (hlt : k < s.size) (hc : clsB s[k].toNat = 3) (hx : 16 < spanEnd (fun b => isWord (clsB b)) s.data.toList k - k) :
    Calls Tryd.prog 43 #[.pointer (some ⟨b, 0, none⟩)] w fun e w' => e = .returned (.agg #[.int .u8 1, .string (s.extract k (spanEnd (fun b => isWord (clsB b)) s.data.toList k)), .int .i64 k]) ∧ Scan w' b s (spanEnd (fun b => isWord (clsB b)) s.data.toList k) true 42 ∧ w.grownBy w' (some b) := by
  have hb := hS.lt
  have hs := hS.s
  have hk := hS.k
  have ho := hS.o
  have he := hS.e
  have f1 := hS.f 1
  have h0 : 0 ≤ (k : Int) := by omega
  have hd : decide ((k : Int) < (s.size : Int)) = true := by simp; omega
  go_enter Tryd.func43, Tryd.ntmps43
  go_wp2
  go_quiet ((go_at_call 30; exact Calls.quiet_of_same ((of_any _ _).mono (fun e w' h => ⟨h.1, h.2.symm⟩))))
  have M := Mid.of hS k nq
  go_wp2_with fail
  refine (while_word0 s b k _ M.S.s M.S.k (M.S.f 1) (by omega) (by omega)).mono ?_
  rintro e W ⟨rfl, n, hW⟩
  have M1 := M.setK hb (spanEnd (fun b => isWord (clsB b)) s.data.toList k) n
  rw [← hW] at M1
  clear hW M hs hk ho he f1
  have hs := M1.S.s
  have hk := M1.S.k
  have ho := M1.S.o
  have he := M1.S.e
  have f1 := M1.S.f 1
  have f2 := M1.S.f 2
  have f3 := M1.S.f 3
  have t0 := M1.T.c0
  have t1 := M1.T.c1
  have t2 := M1.T.c2
  have p0 := M1.T.f 0
  have p1 := M1.T.f 1
  have r0 := M1.R.c0
  have r1 := M1.R.c1
  have r2 := M1.R.c2
  have q0 := M1.R.f 0
  have q1 := M1.R.f 1
  have q2 := M1.R.f 2
  have hle := spanEnd_le (p := fun b => isWord (clsB b)) (l := s.data.toList) (k := k) (by simp; omega)
  have hsz : s.data.toList.length = s.size := by simp
  go_wp2
  refine bodyPost_ret (v := .agg #[.int .u8 1, .string (s.extract k (spanEnd (fun b => isWord (clsB b)) s.data.toList k)), .int .i64 k]) (by simp [results, Tryd.results43, go_sem, r0, r1, r2]) rfl ⟨rfl, ?_, ?_⟩
  · have hne0 : w.heap.size ≠ b := by omega
    have hne1 : w.heap.size + 1 ≠ b := by omega
    exact ((((((M1.S.far hne1 _).far hne1 _).setE 42).setO _).far hne0 _).far hne0 _).far hne0 _
  · exact only_setCell (only_setCell (only_setCell (only_setCell (only_setCell (only_setCell (only_setCell (M1.g) (.inr (Nat.le_succ _)) _) (.inr (Nat.le_succ _)) _) (.inl rfl) _) (.inl rfl) _) (.inr (Nat.le_refl _)) _) (.inr (Nat.le_refl _)) _) (.inr (Nat.le_refl _)) _

set_option maxHeartbeats 1000000 in
theorem next_low_true (b : Nat) (s : ByteArray) (k : Nat) (w : World) (hS : Scan w b s k true 0) (_hmax : s.size ≤ 4611686018427387904) (hlt : k < s.size) (hc : clsB s[k].toNat = 5) :
    Calls Tryd.prog 43 #[.pointer (some ⟨b, 0, none⟩)] w fun e w' => e = .returned (.agg #[.int .u8 0, .string ⟨#[]⟩, .int .i64 k]) ∧ Scan w' b s (k) true 40 ∧ w.grownBy w' (some b) := by
  have hb := hS.lt
  have hs := hS.s
  have hk := hS.k
  have ho := hS.o
  have he := hS.e
  have f1 := hS.f 1
  have h0 : 0 ≤ (k : Int) := by omega
  have hd : decide ((k : Int) < (s.size : Int)) = true := by simp; omega
  go_enter Tryd.func43, Tryd.ntmps43
  go_wp2
  go_quiet ((go_at_call 30; exact Calls.quiet_of_same ((of_any _ _).mono (fun e w' h => ⟨h.1, h.2.symm⟩))))
  have M := Mid.of hS k nq
  obtain ⟨W, hW⟩ : ∃ W, ((w.alloc (.cells #[.int .u8 0, .string ⟨#[]⟩, .int .i64 0] 31)).alloc (.cells #[.int .u8 0, .string ⟨#[]⟩, .int .i64 k] 31)).drewN nq = W := ⟨_, rfl⟩
  rw [hW] at M ⊢
  clear hW hs hk ho he f1
  have M1 := M
  have hs := M1.S.s
  have hk := M1.S.k
  have ho := M1.S.o
  have he := M1.S.e
  have f1 := M1.S.f 1
  have f2 := M1.S.f 2
  have f3 := M1.S.f 3
  have t0 := M1.T.c0
  have t1 := M1.T.c1
  have t2 := M1.T.c2
  have p0 := M1.T.f 0
  have p1 := M1.T.f 1
  have r0 := M1.R.c0
  have r1 := M1.R.c1
  have r2 := M1.R.c2
  have q0 := M1.R.f 0
  have q1 := M1.R.f 1
  have q2 := M1.R.f 2
  go_wp2
  refine bodyPost_ret (v := .agg #[.int .u8 0, .string ⟨#[]⟩, .int .i64 k]) (by simp [results, Tryd.results43, go_sem, r0, r1, r2]) rfl ⟨rfl, ?_, ?_⟩
  · have hne0 : w.heap.size ≠ b := by omega
    have hne1 : w.heap.size + 1 ≠ b := by omega
    exact ((((M1.S.setE 40).setO _).far hne0 _).far hne0 _).far hne0 _
  · exact only_setCell (only_setCell (only_setCell (only_setCell (only_setCell (M1.g) (.inl rfl) _) (.inl rfl) _) (.inr (Nat.le_refl _)) _) (.inr (Nat.le_refl _)) _) (.inr (Nat.le_refl _)) _

set_option maxHeartbeats 1000000 in
theorem next_low_false (b : Nat) (s : ByteArray) (k : Nat) (w : World) (hS : Scan w b s k false 0) (_hmax : s.size ≤ 4611686018427387904) (hlt : k < s.size) (hc : clsB s[k].toNat = 5) :
    Calls Tryd.prog 43 #[.pointer (some ⟨b, 0, none⟩)] w fun e w' => e = .returned (.agg #[.int .u8 0, .string ⟨#[]⟩, .int .i64 k]) ∧ Scan w' b s (k) false 40 ∧ w.grownBy w' (some b) := by
  have hb := hS.lt
  have hs := hS.s
  have hk := hS.k
  have ho := hS.o
  have he := hS.e
  have f1 := hS.f 1
  have h0 : 0 ≤ (k : Int) := by omega
  have hd : decide ((k : Int) < (s.size : Int)) = true := by simp; omega
  go_enter Tryd.func43, Tryd.ntmps43
  go_wp2
  go_quiet ((go_at_call 30; exact Calls.quiet_of_same ((of_any _ _).mono (fun e w' h => ⟨h.1, h.2.symm⟩))))
  have M := Mid.of hS k nq
  obtain ⟨W, hW⟩ : ∃ W, ((w.alloc (.cells #[.int .u8 0, .string ⟨#[]⟩, .int .i64 0] 31)).alloc (.cells #[.int .u8 0, .string ⟨#[]⟩, .int .i64 k] 31)).drewN nq = W := ⟨_, rfl⟩
  rw [hW] at M ⊢
  clear hW hs hk ho he f1
  have M1 := M
  have hs := M1.S.s
  have hk := M1.S.k
  have ho := M1.S.o
  have he := M1.S.e
  have f1 := M1.S.f 1
  have f2 := M1.S.f 2
  have f3 := M1.S.f 3
  have t0 := M1.T.c0
  have t1 := M1.T.c1
  have t2 := M1.T.c2
  have p0 := M1.T.f 0
  have p1 := M1.T.f 1
  have r0 := M1.R.c0
  have r1 := M1.R.c1
  have r2 := M1.R.c2
  have q0 := M1.R.f 0
  have q1 := M1.R.f 1
  have q2 := M1.R.f 2
  go_wp2
  refine bodyPost_ret (v := .agg #[.int .u8 0, .string ⟨#[]⟩, .int .i64 k]) (by simp [results, Tryd.results43, go_sem, r0, r1, r2]) rfl ⟨rfl, ?_, ?_⟩
  · have hne0 : w.heap.size ≠ b := by omega
    have hne1 : w.heap.size + 1 ≠ b := by omega
    exact ((((M1.S.setE 40).setO _).far hne0 _).far hne0 _).far hne0 _
  · exact only_setCell (only_setCell (only_setCell (only_setCell (only_setCell (M1.g) (.inl rfl) _) (.inl rfl) _) (.inr (Nat.le_refl _)) _) (.inr (Nat.le_refl _)) _) (.inr (Nat.le_refl _)) _
end Go.Proofs.YtgpndifkkaomcaaDoor
