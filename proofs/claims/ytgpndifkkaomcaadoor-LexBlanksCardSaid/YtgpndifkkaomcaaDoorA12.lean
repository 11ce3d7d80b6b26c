/- Lex: what stands in memory while it runs. -/
import Derived.Test.YtgpndifkkaomcaaDoorA11
import Derived.Maps.AppendAt
namespace Go.Proofs.YtgpndifkkaomcaaDoor
open Go.RowKit
/-- The cells of a list of tokens. -/
def tkCells (ts : List Tk) : List Value := ts.flatMap fun t => [.int .u8 t.K, .string t.x, .int .i64 t.a]
theorem tkCells_snoc (ts : List Tk) (t : Tk) : tkCells (ts ++ [t]) = tkCells ts ++ [.int .u8 t.K, .string t.x, .int .i64 t.a] := by
  unfold tkCells; simp
/-- What stands beside the scanner while Lex runs: the results, the variable x, the block of deferred calls, the tokens so far. -/
structure LexCells (w : World) (p e : Int) (v : Value) (ts : List Tk) (W : World) : Prop where
  l : W.cell? ⟨w.heap.size, 0, none⟩ = some v
  row : W.ownsRow (w.heap.size + 8) 31 3 v ts.length (tkCells ts)
  fl : W.frozen? ⟨w.heap.size, 0, none⟩ = false
  p : W.cell? ⟨w.heap.size + 1, 0, none⟩ = some (.int .i64 p)
  fp : W.frozen? ⟨w.heap.size + 1, 0, none⟩ = false
  e : W.cell? ⟨w.heap.size + 1 + 1, 0, none⟩ = some (.int .i64 e)
  fe : W.frozen? ⟨w.heap.size + 1 + 1, 0, none⟩ = false
  x : W.cell? ⟨w.heap.size + 1 + 1 + 1 + 1, 0, none⟩ = some (.pointer (some ⟨w.heap.size + 1 + 1 + 1, 0, none⟩))
  d : W.heap[w.heap.size + 6]? = some (.deferred (some []))
  b : Below w.heap.size w W
theorem LexCells.kept {w : World} {p e : Int} {v : Value} {ts : List Tk} {W W' : World} {r : Nat} (h : LexCells w p e v ts W) (hg : W.grownBy W' (some r))
    (hr : r = w.heap.size + 3 ∨ r = w.heap.size + 5 ∨ r = w.heap.size + 7 ∨ W.heap.size ≤ r) : LexCells w p e v ts W' := by
  have hd : w.heap.size + 6 < W.heap.size := (Array.getElem?_eq_some_iff.1 h.d).1
  have hne : ∀ i, (i = 0 ∨ i = 1 ∨ i = 2 ∨ i = 4 ∨ i = 6) → some (w.heap.size + i) ≠ some r := by
    intro i hi he; injection he with he; omega
  have hrow : v.ownBlock = none ∨ v.ownBlock ≠ some r := by
    rcases hv : v.ownBlock with _ | g
    · exact .inl rfl
    · have := h.row.lt g hv
      exact .inr (by intro he; injection he with he; omega)
  exact ⟨hg.cell h.l (hne 0 (by omega)), h.row.kept hg hrow, (World.frozen?_of_block (w := W) (hg.block w.heap.size (by omega) (hne 0 (by omega)))).trans h.fl,
    hg.cell h.p (hne 1 (by omega)), (World.frozen?_of_block (w := W) (hg.block (w.heap.size + 1) (by omega) (hne 1 (by omega)))).trans h.fp,
    hg.cell h.e (hne 2 (by omega)), (World.frozen?_of_block (w := W) (hg.block (w.heap.size + 1 + 1) (by omega) (hne 2 (by omega)))).trans h.fe,
    hg.cell h.x (hne 4 (by omega)), (hg.block (w.heap.size + 6) hd (hne 6 (by omega))).trans h.d,
    h.b.grown hg h.b.size (fun k hk => by injection hk with hk; omega)⟩
theorem only_below {a b : World} {r B : Nat} (h : a.grownBy b (some r)) (hr : B ≤ r) (hB : B ≤ a.heap.size := by omega) : Below B a b :=
  ⟨h.os, h.tape, h.output, h.size, fun i hi => h.block i (by omega) (by intro e; injection e with e; omega)⟩
theorem Scan.kept {W W' : World} {b r : Nat} {s : ByteArray} {k : Nat} {o : Bool} {e : Int} (h : Scan W b s k o e) (hg : W.grownBy W' (some r)) (hr : r ≠ b) : Scan W' b s k o e :=
  have hne : some b ≠ some r := fun he => hr (Option.some.inj he).symm
  ⟨hg.cell h.s hne, hg.cell h.k hne, hg.cell h.o hne, hg.cell h.e hne, fun j => (World.frozen?_of_block (w := W) (hg.block b h.lt hne)).trans (h.f j)⟩
theorem Tok.kept {W W' : World} {c r : Nat} {K : Int} {x : ByteArray} {a : Int} (h : Tok W c K x a) (hg : W.grownBy W' (some r)) (hr : r ≠ c) : Tok W' c K x a :=
  have hne : some c ≠ some r := fun he => hr (Option.some.inj he).symm
  ⟨hg.cell h.c0 hne, hg.cell h.c1 hne, hg.cell h.c2 hne, fun j => (World.frozen?_of_block (w := W) (hg.block c (cell_lt h.c0) hne)).trans (h.f j)⟩
theorem Scan.keptO {W W' : World} {b : Nat} {row : Option Nat} {s : ByteArray} {k : Nat} {o : Bool} {e : Int} (h : Scan W b s k o e) (hg : W.grownBy W' row) (hne : some b ≠ row) : Scan W' b s k o e :=
  ⟨hg.cell h.s hne, hg.cell h.k hne, hg.cell h.o hne, hg.cell h.e hne, fun j => (World.frozen?_of_block (w := W) (hg.block b h.lt hne)).trans (h.f j)⟩
theorem LexCells.far {w : World} {p e : Int} {v : Value} {ts : List Tk} {W : World} (h : LexCells w p e v ts W) {i : Nat} (hi : i < w.heap.size + 8) : some i ≠ v.ownBlock := by
  intro he
  have := h.row.lt i he.symm
  omega
theorem LexCells.append {w : World} {p e : Int} {v v' : Value} {ts : List Tk} {W W' : World} {o : Obj} (t : Tk) (h : LexCells w p e v ts W)
    (hown : W'.ownsRow (w.heap.size + 8) 31 3 v' (ts.length + 1) (tkCells ts ++ [.int .u8 t.K, .string t.x, .int .i64 t.a])) (hg : (W.alloc o).grownBy W' v.ownBlock) :
    LexCells w p e v' (ts ++ [t]) (W'.setCell ⟨w.heap.size, 0, none⟩ v') := by
  have hd : w.heap.size + 6 < W.heap.size := (Array.getElem?_eq_some_iff.1 h.d).1
  have hd' : w.heap.size + 6 < (W.alloc o).heap.size := by simp; omega
  have hf : ∀ i, i < 7 → (W'.frozen? ⟨w.heap.size + i, 0, none⟩ = W.frozen? ⟨w.heap.size + i, 0, none⟩) := fun i hi =>
    (World.frozen?_of_block (w := W.alloc o) (hg.block (w.heap.size + i) (by omega) (h.far (by omega)))).trans (World.frozen?_of_block (Below.heap_alloc W o (w.heap.size + i) (by omega)))
  refine ⟨cset_same (by rw [hg.cell (calloc h.l) (h.far (by show w.heap.size < _; omega))]; rfl), ?_, fset ((hf 0 (by omega)).trans h.fl),
    cset_other (by simp) (hg.cell (calloc h.p) (h.far (by show w.heap.size + 1 < _; omega))), fset ((hf 1 (by omega)).trans h.fp),
    cset_other (by simp) (hg.cell (calloc h.e) (h.far (by show w.heap.size + 1 + 1 < _; omega))), fset ((hf 2 (by omega)).trans h.fe),
    cset_other (by simp) (hg.cell (calloc h.x) (h.far (by show w.heap.size + 1 + 1 + 1 + 1 < _; omega))), ?_, ?_⟩
  · rw [tkCells_snoc, List.length_append]
    exact ownsRow_setCell_below hown (show w.heap.size < _ by omega) _
  · rw [Below.heap_setCell _ _ _ _ (by show w.heap.size + 6 ≠ w.heap.size; omega)]
    exact (hg.block (w.heap.size + 6) hd' (h.far (by omega))).trans ((Below.heap_alloc W o _ hd).trans h.d)
  · exact ((h.b.alloc h.b.size o).grown hg (by have := h.b.size; simp; omega) (fun k hk => by have := h.row.lt k hk; omega)).setCell (p := ⟨w.heap.size, 0, none⟩) (Nat.le_refl _) _
theorem LexCells.err {w : World} {p e : Int} {v : Value} {ts : List Tk} {W : World} (h : LexCells w p e v ts W) (a e' : Int) :
    LexCells w a e' (.slice none 0 0) [] (((W.setCell ⟨w.heap.size, 0, none⟩ (.slice none 0 0)).setCell ⟨w.heap.size + 1, 0, none⟩ (.int .i64 a)).setCell ⟨w.heap.size + 1 + 1, 0, none⟩ (.int .i64 e')).drew := by
  refine ⟨cset_other (by simp) (cset_other (by simp) (cset_same (by rw [h.l]; rfl))), ⟨rfl, .inl ⟨rfl, rfl⟩⟩, fset (fset (fset h.fl)),
    cset_other (by simp) (cset_same (by rw [cset_other (by simp) h.p]; rfl)), fset (fset (fset h.fp)), cset_same (by rw [cset_other (by simp) (cset_other (by simp) h.e)]; rfl), fset (fset (fset h.fe)),
    cset_other (by simp) (cset_other (by simp) (cset_other (by simp) h.x)), ?_, ?_⟩
  · exact (Below.heap_setCell _ _ _ _ (by show w.heap.size + 6 ≠ w.heap.size + 1 + 1; omega)).trans ((Below.heap_setCell _ _ _ _ (by show w.heap.size + 6 ≠ w.heap.size + 1; omega)).trans ((Below.heap_setCell _ _ _ _ (by show w.heap.size + 6 ≠ w.heap.size; omega)).trans h.d))
  · exact (((h.b.setCell (p := ⟨w.heap.size, 0, none⟩) (Nat.le_refl _) _).setCell (p := ⟨w.heap.size + 1, 0, none⟩) (Nat.le_succ _) _).setCell (p := ⟨w.heap.size + 1 + 1, 0, none⟩) (by show w.heap.size ≤ w.heap.size + 1 + 1; omega) _).drew
theorem heap_err {W : World} {l b : Nat} {o : Obj} {x y z : Value} (h : W.heap[l]? = some o) (hl : l ≠ b ∧ l ≠ b + 1 ∧ l ≠ b + 1 + 1) :
    (((W.setCell ⟨b, 0, none⟩ x).setCell ⟨b + 1, 0, none⟩ y).setCell ⟨b + 1 + 1, 0, none⟩ z).drew.heap[l]? = some o :=
  (Below.heap_setCell _ _ _ _ hl.2.2).trans ((Below.heap_setCell _ _ _ _ hl.2.1).trans ((Below.heap_setCell _ _ _ _ hl.1).trans h))
theorem row_le {w : World} {b b' n size : Nat} {e : TypeId} {v : Value} {xs : List Value} (h : w.ownsRow b e size v n xs) (hb : b' ≤ b) : w.ownsRow b' e size v n xs :=
  ⟨h.1, h.2.imp id (fun ⟨g, cap, cur, x, y, z⟩ => ⟨g, cap, cur, x, Nat.le_trans hb y, z⟩)⟩
theorem lexRun_err (s : ByteArray) : ∀ (f k : Nat) (o : Bool) (acc : List Tk), (lexRun s f k o acc).2.2 ≠ 0 → (lexRun s f k o acc).1 = []
  | 0, _, _, _, _ => rfl
  | f + 1, k, o, acc, h => by
    rw [lexRun] at h ⊢
    split
    · split
      · rfl
      · rename_i h1 h2; rw [if_pos h1, if_neg h2] at h; exact lexRun_err s f _ _ _ h
    · rename_i h1; rw [if_neg h1] at h; exact absurd rfl h
theorem lexRun_ok (s : ByteArray) : ∀ (f k : Nat) (o : Bool) (acc : List Tk), (lexRun s f k o acc).2.2 = 0 → (lexRun s f k o acc).2.1 = 0
  | 0, _, _, _, _ => rfl
  | f + 1, k, o, acc, h => by
    rw [lexRun] at h ⊢
    split
    · split
      · rename_i h1 h2; rw [if_pos h1, if_pos h2] at h; exact absurd h h2
      · rename_i h1 h2; rw [if_pos h1, if_neg h2] at h; exact lexRun_ok s f _ _ _ h
    · rfl
theorem cells_new3 (W : World) (a b c : Value) (T : TypeId) : ∀ (j : Nat) (u : Value), [a, b, c][j]? = some u → (W.alloc (.cells #[a, b, c] T)).cell? ((⟨W.heap.size, 0, none⟩ : Addr).add j) = some u := by
  intro j u hj
  rw [Lib.add_plain, World.cell?_alloc_new]
  simpa using hj
theorem tokInfo : (Tryd.prog.info? 31).map (fun i => (i.zero, i.size, i.bytes)) = some (some (.agg #[.int .u8 0, .string ⟨#[]⟩, .int .i64 0]), 3, 32) := by kernel_rfl
theorem all_any (p : Option Addr) (w : World) :
    Calls Tryd.prog 27 #[.pointer p] w fun e w' => e = .returned (.func (.func 42) #[] #[.pointer (some ⟨w.heap.size, 0, none⟩)]) ∧ w.alloc (.cells #[.pointer p] 45) = w' := by
  go_enter Tryd.func27, Tryd.ntmps27
  go_wp2
  go_ret
  exact ⟨rfl, rfl⟩
/-- The world where the loop begins. -/
def lexWorld (w : World) (s : ByteArray) : World :=
  (((((w.alloc (.cells #[.slice none 0 0] 25)).alloc (.cells #[.int .i64 0] 3)).alloc (.cells #[.int .i64 0] 26)).alloc (.cells #[.string s, .int .i64 0, .bool false, .int .i64 0] 49)).alloc
    (.cells #[.pointer (some ⟨w.heap.size + 1 + 1 + 1, 0, none⟩)] 45)).alloc (.cells #[.pointer (some ⟨w.heap.size + 1 + 1 + 1, 0, none⟩)] 45)
theorem lexWorld_size (w : World) (s : ByteArray) : (lexWorld w s).heap.size = w.heap.size + 6 := by
  unfold lexWorld; simp only [World.size_alloc]
theorem heap_alloc_get (w : World) (o : Obj) (i : Nat) : (w.alloc o).heap[i]? = if i = w.heap.size then some o else w.heap[i]? := by
  show (w.heap.push o)[i]? = _
  rw [Array.getElem?_push]
theorem lexStart (w : World) (s : ByteArray) (o : Obj) : LexCells w 0 0 (.slice none 0 0) [] (((lexWorld w s).alloc (.deferred (some []))).alloc o) ∧
    Scan (((lexWorld w s).alloc (.deferred (some []))).alloc o) (w.heap.size + 1 + 1 + 1) s 0 false 0 ∧
    (((lexWorld w s).alloc (.deferred (some []))).alloc o).cell? ⟨w.heap.size + 1 + 1 + 1 + 1 + 1, 0, none⟩ = some (.pointer (some ⟨w.heap.size + 1 + 1 + 1, 0, none⟩)) ∧
    (((lexWorld w s).alloc (.deferred (some []))).alloc o).heap[w.heap.size + 7]? = some o := by
  have hb : Below w.heap.size w (((lexWorld w s).alloc (.deferred (some []))).alloc o) := by
    have h6 := lexWorld_size w s
    have : Below w.heap.size w (lexWorld w s) := by
      unfold lexWorld
      exact ((((((Below.refl _ w).alloc (Nat.le_refl _) _).alloc (by simp) _).alloc (by simp; omega) _).alloc (by simp; omega) _).alloc (by simp; omega) _).alloc (by simp; omega) _
    exact (this.alloc (by omega) _).alloc (by simp; omega) _
  refine ⟨⟨?_, ⟨rfl, .inl ⟨rfl, rfl⟩⟩, ?_, ?_, ?_, ?_, ?_, ?_, ?_, hb⟩, ⟨?_, ?_, ?_, ?_, ?_⟩, ?_, ?_⟩
  all_goals unfold lexWorld
  all_goals (try intro j)
  all_goals simp only [World.cell?, World.frozen?, heap_alloc_get, World.size_alloc]
  all_goals repeat (first | rw [if_pos (by omega)] | rw [if_neg (by omega)])
  all_goals (try rfl)
  all_goals simp
end Go.Proofs.YtgpndifkkaomcaaDoor
