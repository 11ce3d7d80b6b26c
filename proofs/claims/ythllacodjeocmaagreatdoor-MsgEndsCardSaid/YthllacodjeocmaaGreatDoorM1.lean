/- A message's text: the words. -/
import Derived.Test.YthllacodjeocmaaGreatDoorM0
import Derived.Deep.RegionHeld3
import Derived.Deep.AppendLies
import Derived.Deep.DeepCutAuto
import Derived.OwnWalk
import Derived.Tactics2
namespace Go.Proofs.YthllacodjeocmaaGreatDoor
open Go.RowKit
/-- The table of kinds. -/
def needsCells : List Value := [.int .i64 0, .int .u8 0, .string ⟨#[]⟩, .int .i64 5, .int .u8 1, .string ⟨#[71, 101, 116, 83]⟩, .int .i64 5, .int .u8 1, .string ⟨#[71, 101, 116, 77]⟩, .int .i64 133, .int .u8 1, .string ⟨#[80, 117, 116]⟩,
  .int .i64 5, .int .u8 3, .string ⟨#[68, 111, 110, 101]⟩, .int .i64 133, .int .u8 3, .string ⟨#[67, 111, 112, 121]⟩, .int .i64 26, .int .u8 2, .string ⟨#[70, 119, 100, 83]⟩, .int .i64 58, .int .u8 2, .string ⟨#[70, 119, 100, 77]⟩,
  .int .i64 26, .int .u8 2, .string ⟨#[73, 110, 118]⟩, .int .i64 10, .int .u8 2, .string ⟨#[80, 117, 116, 65, 99, 107]⟩, .int .i64 235, .int .u8 3, .string ⟨#[86, 97, 108, 117, 101]⟩, .int .i64 42, .int .u8 3, .string ⟨#[71, 114, 97, 110, 116]⟩,
  .int .i64 9, .int .u8 3, .string ⟨#[73, 110, 118, 65, 99, 107]⟩]
def Needs (w : World) : Prop := ∀ (i : Nat) (v : Value), needsCells[i]? = some v → w.cell? ⟨0, i, none⟩ = some v
structure GlobM (w : World) : Prop where
  g : Glob w
  n : Needs w
  mx : ∃ x, w.cell? ⟨3, 0, none⟩ = some (.int .i64 x)
theorem GlobM.below {B : Nat} {w w' : World} (h : GlobM w) (hb : Below B w w') (hB : 5 ≤ B) : GlobM w' := ⟨h.g.below hb hB, fun i v hv => (hb.cell (p := ⟨0, i, none⟩) (by show 0 < B; omega)).trans (h.n i v hv), by
  obtain ⟨x, hx⟩ := h.mx
  exact ⟨x, (hb.cell (p := ⟨3, 0, none⟩) (by show 3 < B; omega)).trans hx⟩⟩
theorem GlobM.next {w w' : World} (h : GlobM w) (hb : Below w.heap.size w w') : GlobM w' := h.below hb h.g.size
def nameOf (k : Nat) : ByteArray := match needsCells[k * 3 + 2]? with
  | some (.string s) => s
  | _ => ⟨#[]⟩
def bitsOf (k : Nat) : Int := match needsCells[k * 3]? with
  | some (.int .i64 n) => n
  | _ => 0
def classOf (k : Nat) : Int := match needsCells[k * 3 + 1]? with
  | some (.int .u8 n) => n
  | _ => 0
theorem needs_table : ∀ k : Fin 13, needsCells[k.val * 3]? = some (.int .i64 (bitsOf k.val)) ∧ needsCells[k.val * 3 + 1]? = some (.int .u8 (classOf k.val)) ∧ needsCells[k.val * 3 + 2]? = some (.string (nameOf k.val)) := by
  intro k
  match k with
  | 0 => exact ⟨rfl, rfl, rfl⟩
  | 1 => exact ⟨rfl, rfl, rfl⟩
  | 2 => exact ⟨rfl, rfl, rfl⟩
  | 3 => exact ⟨rfl, rfl, rfl⟩
  | 4 => exact ⟨rfl, rfl, rfl⟩
  | 5 => exact ⟨rfl, rfl, rfl⟩
  | 6 => exact ⟨rfl, rfl, rfl⟩
  | 7 => exact ⟨rfl, rfl, rfl⟩
  | 8 => exact ⟨rfl, rfl, rfl⟩
  | 9 => exact ⟨rfl, rfl, rfl⟩
  | 10 => exact ⟨rfl, rfl, rfl⟩
  | 11 => exact ⟨rfl, rfl, rfl⟩
  | 12 => exact ⟨rfl, rfl, rfl⟩
theorem Needs.at {w : World} (h : Needs w) {k : Nat} (hk : k < 13) : w.cell? ⟨0, k * 3, none⟩ = some (.int .i64 (bitsOf k)) ∧ w.cell? ⟨0, k * 3 + 1, none⟩ = some (.int .u8 (classOf k)) ∧ w.cell? ⟨0, k * 3 + 2, none⟩ = some (.string (nameOf k)) := by
  have ht := needs_table ⟨k, hk⟩
  exact ⟨h _ _ ht.1, h _ _ ht.2.1, h _ _ ht.2.2⟩
def strv (l : List UInt8) : Value := .string ⟨l.toArray⟩
/-- The words so far. -/
structure TxSt (w : World) (C : Array Value) (v : Value) (ws : List (List UInt8)) (W : World) : Prop where
  row : W.ownsRow (w.heap.size + 2) 9 1 v ws.length (ws.map strv)
  box : W.heap[w.heap.size]? = some (.cells C 27)
  b : Below w.heap.size w W
  big : w.heap.size + 2 ≤ W.heap.size
theorem TxSt.next {w W W' : World} {C : Array Value} {v : Value} {ws : List (List UInt8)} (h : TxSt w C v ws W) (hb : Below W.heap.size W W') : TxSt w C v ws W' :=
  ⟨h.row.kept (only_of_below hb none) (by cases hv : v.ownBlock <;> simp), by rw [hb.block _ (by have := h.big; omega)]; exact h.box, h.b.trans (hb.mono h.b.size), Nat.le_trans h.big hb.size⟩
theorem TxSt.alloc {w W : World} {C : Array Value} {v : Value} {ws : List (List UInt8)} (h : TxSt w C v ws W) (o : Obj) : TxSt w C v ws (W.alloc o) := h.next ((Below.refl _ _).alloc (Nat.le_refl _) o)
theorem TxSt.form {w W : World} {C : Array Value} {v : Value} {ws : List (List UInt8)} (h : TxSt w C v ws W) : ∃ ao cap, v = .slice ao ws.length cap := by
  rcases h.row.2 with ⟨hv, h0⟩ | ⟨g, cap, cur, hv, _⟩
  · exact ⟨none, 0, by rw [hv, h0]⟩
  · exact ⟨_, _, hv⟩
theorem TxSt.cell {w W : World} {C : Array Value} {v : Value} {ws : List (List UInt8)} (h : TxSt w C v ws W) (i : Nat) : W.cell? ⟨w.heap.size, i, none⟩ = C[i]? := by
  unfold World.cell?; rw [h.box]; rfl
theorem TxSt.append {w W W' : World} {C : Array Value} {v v' : Value} {ws news : List (List UInt8)} {o : Obj} (h : TxSt w C v ws W)
    (hown : W'.ownsRow (w.heap.size + 2) 9 1 v' (ws.length + news.length) (ws.map strv ++ news.map strv)) (hg : (W.alloc o).grownBy W' v.ownBlock) : TxSt w C v' (ws ++ news) W' :=
  ⟨by rw [List.length_append, List.map_append]; exact hown,
   by
    have hne : some w.heap.size ≠ v.ownBlock := fun e => by have := (h.row.lt _ e.symm).1; omega
    rw [hg.block _ (by have := h.big; simp; omega) hne, Below.heap_alloc W o _ (by have := h.big; omega)]
    exact h.box,
   (h.b.alloc h.b.size o).grown hg (by have := h.b.size; simp; omega) (fun k hk => by have := (h.row.lt k hk).1; omega),
   by have := hg.size; have h2 := h.big; simp at this; omega⟩
/-- The message's box, ahead of the words. -/
structure TxBase (w : World) (C : Array Value) (W : World) : Prop where
  box : W.heap[w.heap.size]? = some (.cells C 27)
  b : Below w.heap.size w W
  big : w.heap.size + 2 ≤ W.heap.size
theorem TxBase.start (w : World) (C D : Array Value) : TxBase w C ((w.alloc (.cells C 27)).alloc (.cells D 42)) :=
  ⟨by rw [Below.heap_alloc _ _ _ (by simp)]; exact heap_alloc_new w _, ((Below.refl _ w).alloc (Nat.le_refl _) _).alloc (by simp) _, by simp⟩
theorem TxBase.next {w W W' : World} {C : Array Value} (h : TxBase w C W) (hb : Below W.heap.size W W') : TxBase w C W' :=
  ⟨by rw [hb.block _ (by have := h.big; omega)]; exact h.box, h.b.trans (hb.mono h.b.size), Nat.le_trans h.big hb.size⟩
theorem TxBase.alloc {w W : World} {C : Array Value} (h : TxBase w C W) (o : Obj) : TxBase w C (W.alloc o) := h.next ((Below.refl _ _).alloc (Nat.le_refl _) o)
theorem TxBase.cell {w W : World} {C : Array Value} (h : TxBase w C W) (i : Nat) : W.cell? ⟨w.heap.size, i, none⟩ = C[i]? := by
  unfold World.cell?; rw [h.box]; rfl
theorem TxBase.lit {w W : World} {C S : Array Value} {ws : List (List UInt8)} {n : Nat} (h : TxBase w C W) (hn : n = ws.length) (hS : S.toList = ws.map strv) (hm : ws.length ≤ 10) : TxSt w C (.slice (some ⟨W.heap.size, 0, none⟩) n n) ws (W.alloc (.cells S 9)) := by
  subst hn
  have hs : S.size = ws.length * 1 := by rw [← Array.length_toList, hS]; simp
  have h1 := World.ownsRow_lit (e := 9) (size := 1) (base := w.heap.size + 2) W S ws.length h.big (by unfold maxLen; omega) hs
  rw [hS] at h1
  have ha := h.alloc (.cells S 9)
  exact ⟨h1, ha.box, ha.b, ha.big⟩
theorem bcell {W w1 : World} (hb : Below W.heap.size W w1) : (∀ b o, b < W.heap.size → w1.cell? ⟨b, o, none⟩ = W.cell? ⟨b, o, none⟩) ∧ (∀ b o, b < W.heap.size → w1.frozen? ⟨b, o, none⟩ = W.frozen? ⟨b, o, none⟩) :=
  ⟨fun b o h => hb.cell (p := ⟨b, o, none⟩) h, fun b o h => hb.frozen (p := ⟨b, o, none⟩) h⟩
theorem known_any (m : Mg) (w : World) : Calls Tryz.prog 20 #[m.val] w fun e w' => e = .returned (.bool (knownB m.k)) ∧ Below w.heap.size w w' := by
  cases h : knownB m.k
  · exact known_no m w h
  · exact known_yes m w h
theorem TxSt.slice {w W : World} {C : Array Value} {v : Value} {ws : List (List UInt8)} (h : TxSt w C v ws W) (h0 : 0 < ws.length) :
    ∃ g cap, v = .slice (some ⟨g, 0, none⟩) ws.length cap ∧ ws.length ≤ cap ∧ g < W.heap.size ∧ ∀ (j : Nat) (x : ByteArray), (ws.map fun l => (⟨l.toArray⟩ : ByteArray))[j]? = some x → W.cell? ⟨g, 0 + j, none⟩ = some (.string x) := by
  rcases h.row.2 with ⟨_, h1⟩ | ⟨g, cap, cur, hv, _, hh, hn, _⟩
  · omega
  · subst hv
    have hlt : g < W.heap.size := by
      rcases Nat.lt_or_ge g W.heap.size with h' | h'
      · exact h'
      · rw [Array.getElem?_eq_none h'] at hh; cases hh
    refine ⟨g, cap, rfl, hn, hlt, fun j x hx => ?_⟩
    have hj : j < ws.length := by
      rcases Nat.lt_or_ge j ws.length with h' | h'
      · exact h'
      · rw [List.getElem?_eq_none (by simpa using h')] at hx; cases hx
    rw [Nat.zero_add, h.row.cellAt j (by omega)]
    rw [List.getElem?_map, List.getElem?_eq_getElem hj] at hx ⊢
    simp only [Option.map_some, Option.some.injEq] at hx ⊢
    rw [← hx]; rfl
theorem map_back (ws : List (List UInt8)) : (ws.map fun l => (⟨l.toArray⟩ : ByteArray)).map (fun x => x.data.toList) = ws := by
  rw [List.map_map]
  conv => rhs; rw [← List.map_id ws]
  apply List.map_congr_left
  intro x _
  rfl
theorem idx_data0 (W : World) (a b c d : Int) : Sem.run Tryz.prog (Instr.index 25 (.agg #[.int .u8 a, .int .u8 b, .int .u8 c, .int .u8 d]) (.int .i64 0)) W = .ok (.int .u8 a) W := by kernel_rfl
theorem idx_data1 (W : World) (a b c d : Int) : Sem.run Tryz.prog (Instr.index 25 (.agg #[.int .u8 a, .int .u8 b, .int .u8 c, .int .u8 d]) (.int .i64 1)) W = .ok (.int .u8 b) W := by kernel_rfl
theorem idx_data2 (W : World) (a b c d : Int) : Sem.run Tryz.prog (Instr.index 25 (.agg #[.int .u8 a, .int .u8 b, .int .u8 c, .int .u8 d]) (.int .i64 2)) W = .ok (.int .u8 c) W := by kernel_rfl
theorem idx_data3 (W : World) (a b c d : Int) : Sem.run Tryz.prog (Instr.index 25 (.agg #[.int .u8 a, .int .u8 b, .int .u8 c, .int .u8 d]) (.int .i64 3)) W = .ok (.int .u8 d) W := by kernel_rfl
theorem join_len (sep : List UInt8) (L : Nat) : ∀ ws : List (List UInt8), (∀ x ∈ ws, x.length ≤ L) → (Lib.join ws sep).length ≤ ws.length * (L + sep.length) := by
  intro ws h
  cases ws with
  | nil => rw [Lib.join_nil]; simp
  | cons a r =>
    rw [Lib.join_cons, List.length_append]
    have ha := h a (by simp)
    have hr : ∀ r : List (List UInt8), (∀ x ∈ r, x.length ≤ L) → (Lib.joinTail sep r).length ≤ r.length * (L + sep.length) := by
      intro r
      induction r with
      | nil => intro _; simp [Lib.joinTail]
      | cons b r ih =>
        intro h
        have hb := h b (by simp)
        have := ih (fun x hx => h x (by simp [hx]))
        unfold Lib.joinTail at this ⊢
        rw [List.map_cons, List.flatten_cons, List.length_append, List.length_append, List.length_cons, Nat.succ_mul]
        omega
    have := hr r (fun x hx => h x (by simp [hx]))
    rw [List.length_cons, Nat.succ_mul]
    omega
theorem num_st {w W : World} {C : Array Value} {v : Value} {ws : List (List UInt8)} (hG : GlobM w) (h : Hid (TxSt w C v ws W)) (n : UInt8) : Calls Tryz.prog 27 #[.int .u8 n.toNat] W fun e w' => e = .returned (.string ⟨(dec n).toArray⟩) ∧ Hid (TxSt w C v ws w') :=
  (num_any n W (hG.next h.out.b).g).mono fun _ _ ⟨he, hb⟩ => ⟨he, Lib.hid (h.out.next hb)⟩
theorem TxSt.drew {w W : World} {C : Array Value} {v : Value} {ws : List (List UInt8)} (h : TxSt w C v ws W) : TxSt w C v ws W.drew := ⟨h.row, h.box, ⟨h.b.os, h.b.tape, h.b.output, h.b.size, h.b.block⟩, h.big⟩
theorem dec_table : ∀ n : Fin 256, (Lib.itoa (n.val : Int)).length ≤ 3 := by decide +kernel
theorem dec_len (n : UInt8) : (dec n).length ≤ 3 := dec_table ⟨n.toNat, n.toNat_lt⟩
theorem strInfo : (Tryz.prog.info? 9).map (fun i => (i.zero, i.size, i.bytes)) = some (some (.string ⟨#[]⟩), 1, 16) := by kernel_rfl
end Go.Proofs.YthllacodjeocmaaGreatDoor
