/- The iterator over the tokens. -/
import Derived.Test.YtgpndifkkaomcaaDoorA10
import Derived.Test.YtgpndifkkaomcaaDoorRange
namespace Go.Proofs.YtgpndifkkaomcaaDoor
open Go.RowKit
attribute [local go_sem] Oper.semAt_some
/-- A token. -/
structure Tk where
  K : Int
  x : ByteArray
  a : Nat
def Tk.val (t : Tk) : Value := .agg #[.int .u8 t.K, .string t.x, .int .i64 t.a]
/-- The lexer: the tokens, the place of an error, the error. -/
def lexRun (s : ByteArray) : Nat → Nat → Bool → List Tk → List Tk × Nat × Int
  | 0, _, _, _ => ([], 0, 0)
  | f + 1, k, o, acc =>
    if k < s.size then
      if (nx s k o).e ≠ 0 then ([], k, (nx s k o).e)
      else lexRun s f (nx s k o).j (nx s k o).o (if 0 < (nx s k o).K then acc ++ [⟨(nx s k o).K, (nx s k o).x, k⟩] else acc)
    else (if o then acc ++ [⟨4, ⟨#[]⟩, s.size⟩] else acc, 0, 0)
theorem spanEnd_gt {p : Int → Bool} {s : ByteArray} {k : Nat} (h : k < s.size) (hp : p s[k].toNat = true) : k < spanEnd p s.data.toList k ∧ spanEnd p s.data.toList k ≤ s.size := by
  rw [spanEnd_lt h hp]
  have := spanEnd_le (p := p) (l := s.data.toList) (k := k + 1) (by simp; omega)
  simp at this
  omega
theorem clsAt_eq {s : ByteArray} {k : Nat} (hlt : k < s.size) : clsAt s.data.toList k = clsB s[k].toNat := by
  unfold clsAt
  have : s.data.toList[k]? = some s[k] := by
    have hl : k < s.data.toList.length := by simpa using hlt
    rw [List.getElem?_eq_getElem hl]; rfl
  rw [this]; rfl
theorem signLen_bound {s : ByteArray} {k : Nat} (hlt : k < s.size) : 1 ≤ signLen s.data.toList k ∧ k + signLen s.data.toList k ≤ s.size := by
  unfold signLen
  split
  · rename_i h
    have : 2 ≤ (s.data.toList.drop k).length := by
      rcases h with h | h
      · exact hasPrefix_len h
      · exact hasPrefix_len h
    simp at this
    omega
  · omega
theorem nx_step {s : ByteArray} {k : Nat} {o : Bool} (hlt : k < s.size) (he : (nx s k o).e = 0) : k < (nx s k o).j ∧ (nx s k o).j ≤ s.size := by
  unfold nx at he ⊢
  rw [clsAt_eq hlt] at he ⊢
  rcases clsB_cases s[k].toNat with h | h | h | h | h | h | h | h <;> simp only [h] at he ⊢
  · cases he
  · exact spanEnd_gt (p := fun b => isBlanks (clsB b)) hlt (show isBlanks (clsB _) = true by rw [h]; rfl)
  · exact ⟨Nat.lt_succ_self _, hlt⟩
  · exact spanEnd_gt (p := fun b => isWord (clsB b)) hlt (show isWord (clsB _) = true by rw [h]; rfl)
  · exact spanEnd_gt (p := fun b => isDigits (clsB b)) hlt (show isDigits (clsB _) = true by rw [h]; rfl)
  · cases he
  · exact spanEnd_gt (p := fun b => isRemark (clsB b)) hlt (show isRemark (clsB _) = true by rw [h]; rfl)
  · have := signLen_bound hlt
    exact ⟨show k < k + signLen s.data.toList k by omega, this.2⟩
/-- The state of the iteration. -/
structure AllSt (Core : List Tk → World → Prop) (s : ByteArray) (b c : Nat) (ts : List Tk) (k : Nat) (o : Bool) (e : Int) (W : World) : Prop where
  core : Core ts W
  S : Scan W b s k o e
  c : W.cell? ⟨c, 0, none⟩ = some (.pointer (some ⟨b, 0, none⟩))
  G : Glob W
theorem AllSt.grown {Core : List Tk → World → Prop} {b : Nat} (hcore : ∀ ts W W', Core ts W → W.grownBy W' (some b) → Core ts W') {s : ByteArray} {c : Nat} {ts : List Tk} {k : Nat} {o : Bool} {e : Int} {W W' : World}
    (h : AllSt Core s b c ts k o e W) (hcb : c ≠ b) (hb3 : 3 ≤ b) (hg : W.grownBy W' (some b)) {k' : Nat} {o' : Bool} {e' : Int} (hS : Scan W' b s k' o' e') : AllSt Core s b c ts k' o' e' W' :=
  ⟨hcore _ _ _ h.core hg, hS, hg.cell h.c (by intro he; injection he with he; exact hcb he), h.G.only hg hb3⟩
set_option maxHeartbeats 1000000 in
set_option maxRecDepth 100000 in
theorem all1_any (Core : List Tk → World → Prop) (X : Nat → Int → World → Prop) (s : ByteArray) (b c l m : Nat) (hcb : c ≠ b) (hb3 : 3 ≤ b) (hmax : s.size ≤ 281474976710656)
    (hcore : ∀ ts W W', Core ts W → W.grownBy W' (some b) → Core ts W')
    (hok : ∀ (ts : List Tk) (t : Tk) (k : Nat) (o : Bool) (W : World), ts.length ≤ s.size → AllSt Core s b c ts k o 0 W → YieldAt Fence.wide m Tryd.prog l #[t.val] W fun e W' => e = .returned (.bool true) ∧ AllSt Core s b c (ts ++ [t]) k o 0 W')
    (herr : ∀ (ts : List Tk) (t : Tk) (k : Nat) (o : Bool) (e : Int) (W : World), e ≠ 0 → AllSt Core s b c ts k o e W → YieldAt Fence.wide m Tryd.prog l #[t.val] W fun e' W' => e' = .returned (.bool false) ∧ X t.a e W')
    (W : World) (h0 : AllSt Core s b c [] 0 false 0 W) :
    CallsIn Fence.wide (m + 1) Tryd.prog 42 #[.func (.yield l) #[] #[], .pointer (some ⟨c, 0, none⟩)] W fun e W' => (∃ v, e = .returned v) ∧
      (((lexRun s (s.size + 1) 0 false []).2.2 = 0 ∧ ∃ k o, AllSt Core s b c (lexRun s (s.size + 1) 0 false []).1 k o 0 W') ∨
       ((lexRun s (s.size + 1) 0 false []).2.2 ≠ 0 ∧ X (lexRun s (s.size + 1) 0 false []).2.1 (lexRun s (s.size + 1) 0 false []).2.2 W')) := by
  refine callsIn_of_wp Tryd.func42 rfl trivial ?_
  simp only [Tryd.ntmps42, List.size_toArray, List.length_cons, List.length_nil, Nat.reduceAdd, Nat.reduceSub, Array.replicate_succ, Array.replicate_zero, List.push_toArray, List.append_toArray, List.nil_append, List.cons_append]
  gi_wp2
  gi_loopg [] s.size (fun g wr => ∃ (k : Nat) (o : Bool) (ts : List Tk), k ≤ s.size ∧ ts.length ≤ k ∧ s.size - k ≤ g ∧ Hid (AllSt Core s b c ts k o 0 wr) ∧ Hid (lexRun s (g + 1) k o ts = lexRun s (s.size + 1) 0 false []))
  case atStart => exact ⟨0, false, [], by omega, by simp, by omega, Lib.hid h0, Lib.hid rfl⟩
  case round =>
    obtain ⟨k, o, ts, hk, hlen, hg, HA, HL⟩ := hrel
    have c0 := HA.out.c
    have s0 := HA.out.S.s
    have k0 := HA.out.S.k
    have o0 := HA.out.S.o
    by_cases hlt : k < s.size
    · have hd : decide ((k : Int) < (s.size : Int)) = true := by simp; omega
      gi_wp2
      gi_quiet (fail)
      gi_wp2_with fail
      refine ⟨trivial, (callsIn_wide.2 (next_any b s k o (wr.drewN nq) (HA.out.S.drewN _) (HA.out.G.drew _) hb3 hmax hlt)).mono ?_⟩
      rintro e' W1 ⟨rfl, hS1, hg1⟩
      have A1 := Lib.hid (HA.out.grown hcore hcb hb3 (only_trans (only_drewN (only_refl _ _) nq) hg1) hS1)
      have HL1 : Hid ((if (nx s k o).e ≠ 0 then ([], k, (nx s k o).e) else lexRun s gk (nx s k o).j (nx s k o).o (if 0 < (nx s k o).K then ts ++ [⟨(nx s k o).K, (nx s k o).x, k⟩] else ts)) = lexRun s (s.size + 1) 0 false []) := by
        have := HL.out; rw [lexRun, if_pos hlt] at this; exact this
      have hst := nx_step (o := o) hlt
      clear HA HL hS1 hg1 c0 s0 k0 o0 hd
      generalize nx s k o = N at *
      obtain ⟨K, x, j, o', e⟩ := N
      simp only at A1 HL1 hst
      have c1 := A1.out.c
      have e1 := A1.out.S.e
      have hcl := cell_lt c1
      have hbl := cell_lt e1
      simp only at hcl hbl
      by_cases he : e = 0
      · obtain rfl := he
        have hst' := hst rfl
        have HL2 : Hid (lexRun s gk j o' (if 0 < K then ts ++ [⟨K, x, k⟩] else ts) = lexRun s (s.size + 1) 0 false []) := by have := HL1.out; rw [if_neg (by decide)] at this; exact this
        by_cases hK : 0 < K
        · have A2 : AllSt Core s b c ts j o' 0 (W1.alloc (.cells #[.int .u8 K, .string x, .int .i64 k] 31)) := A1.out.grown hcore hcb hb3 (only_alloc (only_refl _ _) _) (A1.out.S.alloc _)
          obtain ⟨fn, tmps, assign, body, hy, hR⟩ := hok ts ⟨K, x, k⟩ j o' _ (by omega) A2
          dsimp only [Tk.val] at hy
          have HL3 := Lib.hid (by have := HL2.out; rw [if_pos hK] at this; exact this : lexRun s gk j o' (ts ++ [⟨K, x, k⟩]) = lexRun s (s.size + 1) 0 false [])
          clear HL1 HL2 A1 A2 hst
          gi_wp2
          refine hR.mono ?_
          rintro e' W3 ⟨rfl, A3⟩
          have c3 := A3.c
          have e3 := A3.S.e
          have HA3 := Lib.hid A3
          clear A3 hy hR
          gi_wp2
          gi_roundg (gk - 1)
          case measure => omega
          case rel => exact ⟨j, o', ts ++ [⟨K, x, k⟩], by omega, by simp; omega, by omega, HA3, by rw [show gk - 1 + 1 = gk from by omega]; exact HL3⟩
        · have hK2 : decide (0 < K) = false := by simp; omega
          have HL3 := Lib.hid (by have := HL2.out; rw [if_neg hK] at this; exact this : lexRun s gk j o' ts = lexRun s (s.size + 1) 0 false [])
          have A2 : Hid (AllSt Core s b c ts j o' 0 (W1.alloc (.cells #[.int .u8 K, .string x, .int .i64 k] 31))) := Lib.hid (A1.out.grown hcore hcb hb3 (only_alloc (only_refl _ _) _) (A1.out.S.alloc _))
          clear HL1 HL2 A1 hst
          gi_wp2
          refine ⟨fun _ h => (by cases h), ?_⟩
          gi_wp2
          gi_roundg (gk - 1)
          case measure => omega
          case rel => exact ⟨j, o', ts, by omega, by omega, by omega, A2, by rw [show gk - 1 + 1 = gk from by omega]; exact HL3⟩
      · have he2 : (e != 0) = true := by rw [bne_iff_ne]; exact he
        have A2 : AllSt Core s b c ts j o' e (W1.alloc (.cells #[.int .u8 K, .string x, .int .i64 k] 31)) := A1.out.grown hcore hcb hb3 (only_alloc (only_refl _ _) _) (A1.out.S.alloc _)
        obtain ⟨fn, tmps, assign, body, hy, hR⟩ := herr ts ⟨K, x, k⟩ j o' e _ he A2
        dsimp only [Tk.val] at hy
        have HL3 := Lib.hid (by have := HL1.out; rw [if_pos he] at this; exact this.symm : lexRun s (s.size + 1) 0 false [] = ([], k, e))
        clear HL1 A1 A2 hst
        by_cases hK : 0 < K
        · gi_wp2
          refine hR.mono ?_
          rintro e' W3 ⟨rfl, X3⟩
          gi_wp2
          refine bodyPost_ret (results_none rfl _ _ _) rfl ⟨⟨_, rfl⟩, .inr ?_⟩
          rw [HL3.out]
          exact ⟨he, X3⟩
        · have hK2 : decide (0 < K) = false := by simp; omega
          gi_wp2
          refine hR.mono ?_
          rintro e' W3 ⟨rfl, X3⟩
          gi_wp2
          refine bodyPost_ret (results_none rfl _ _ _) rfl ⟨⟨_, rfl⟩, .inr ?_⟩
          rw [HL3.out]
          exact ⟨he, X3⟩
    · have hd : decide ((k : Int) < (s.size : Int)) = false := by simp; omega
      have hke : k = s.size := by omega
      subst hke
      have HL1 : Hid ((if o then ts ++ [⟨4, ⟨#[]⟩, s.size⟩] else ts, 0, 0) = lexRun s (s.size + 1) 0 false []) := by
        have := HL.out; rw [lexRun, if_neg hlt] at this; exact this
      cases o
      · gi_wp2
        gi_quiet (fail)
        gi_wp2
        go_end0
        rw [← HL1.out]
        exact ⟨⟨_, rfl⟩, .inl ⟨rfl, _, _, HA.out.grown hcore hcb hb3 (only_drewN (only_refl _ _) nq) (HA.out.S.drewN nq)⟩⟩
      · gi_wp2
        gi_quiet (fail)
        obtain ⟨fn, tmps, assign, body, hy, hR⟩ := hok ts ⟨4, ⟨#[]⟩, s.size⟩ s.size true (wr.drewN nq) hlen (HA.out.grown hcore hcb hb3 (only_drewN (only_refl _ _) nq) (HA.out.S.drewN nq))
        dsimp only [Tk.val] at hy
        gi_wp2
        refine hR.mono ?_
        rintro e' W3 ⟨rfl, A3⟩
        gi_wp2
        go_end0
        rw [← HL1.out]
        exact ⟨⟨_, rfl⟩, .inl ⟨rfl, _, _, A3⟩⟩
end Go.Proofs.YtgpndifkkaomcaaDoor
