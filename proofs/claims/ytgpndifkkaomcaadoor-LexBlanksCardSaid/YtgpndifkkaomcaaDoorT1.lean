/- lex.Type. -/
import Derived.Test.YtgpndifkkaomcaaDoorA12
import Derived.Test.YtgpndifkkaomcaaDoorBuilder
namespace Go.Proofs.YtgpndifkkaomcaaDoor
open Go.RowKit
/-- A row of tokens that can be read. -/
def TkRow (W : World) (v : Value) (ts : List Tk) : Prop :=
  (v = .slice none 0 0 ∧ ts = []) ∨ ∃ g cap, v = .slice (some ⟨g, 0, none⟩) ts.length cap ∧ ∀ j u, (tkCells ts)[j]? = some u → W.cell? ⟨g, j, none⟩ = some u
theorem tkCells_len (ts : List Tk) : (tkCells ts).length = ts.length * 3 := by
  induction ts with
  | nil => rfl
  | cons t r ih => unfold tkCells at *; simp [ih]; omega
theorem TkRow.of_owns {W : World} {b : Nat} {v : Value} {ts : List Tk} (h : W.ownsRow b 31 3 v ts.length (tkCells ts)) : TkRow W v ts := by
  rcases h.2 with ⟨hv, h0⟩ | ⟨g, cap, cur, hv, _⟩
  · exact .inl ⟨hv, List.eq_nil_of_length_eq_zero h0⟩
  · subst hv
    refine .inr ⟨g, cap, rfl, fun j u hu => ?_⟩
    have hj : j < (tkCells ts).length := by
      rcases Nat.lt_or_ge j (tkCells ts).length with h' | h'
      · exact h'
      · rw [List.getElem?_eq_none h'] at hu; cases hu
    rw [h.cellAt j (by rw [← tkCells_len]; exact hj)]
    exact hu
theorem TkRow.below {W W' : World} {v : Value} {ts : List Tk} (h : TkRow W v ts) (hb : Below W.heap.size W W') : TkRow W' v ts := by
  rcases h with h | ⟨g, cap, hv, hc⟩
  · exact .inl h
  · refine .inr ⟨g, cap, hv, fun j u hu => ?_⟩
    have h1 := hc j u hu
    exact (World.cell?_of_block (w := W) (hb.block g (cell_lt h1))).trans h1
theorem tkCells_at (ts : List Tk) (k : Nat) (h : k < ts.length) : (tkCells ts)[k * 3]? = some (.int .u8 ts[k].K) ∧ (tkCells ts)[k * 3 + 1]? = some (.string ts[k].x) ∧ (tkCells ts)[k * 3 + 2]? = some (.int .i64 ts[k].a) := by
  induction ts generalizing k with
  | nil => simp at h
  | cons t r ih =>
    have hc : tkCells (t :: r) = [.int .u8 t.K, .string t.x, .int .i64 t.a] ++ tkCells r := rfl
    cases k with
    | zero => rw [hc]; exact ⟨rfl, rfl, rfl⟩
    | succ k =>
      have := ih k (by simpa using h)
      rw [hc, show (k + 1) * 3 = k * 3 + 3 from by omega]
      simpa using this
theorem TkRow.at {W : World} {g cap : Nat} {ts : List Tk} (h : TkRow W (.slice (some ⟨g, 0, none⟩) ts.length cap) ts) (k : Nat) (hk : k < ts.length) :
    W.cell? ⟨g, k * 3, none⟩ = some (.int .u8 ts[k].K) ∧ W.cell? ⟨g, k * 3 + 1, none⟩ = some (.string ts[k].x) ∧ W.cell? ⟨g, k * 3 + 2, none⟩ = some (.int .i64 ts[k].a) := by
  rcases h with ⟨h, _⟩ | ⟨g', cap', hv, hc⟩
  · simp at h
  · simp only [Value.slice.injEq, Option.some.injEq, Addr.mk.injEq, and_true, true_and] at hv
    obtain ⟨rfl, rfl⟩ := hv
    have ht := tkCells_at ts k hk
    exact ⟨hc _ _ ht.1, hc _ _ ht.2.1, hc _ _ ht.2.2⟩
def typeGo : List Tk → Bool → List UInt8
  | [], _ => []
  | t :: r, o => if t.K = 4 then 10 :: typeGo r false else (if o then 32 :: t.x.data.toList else t.x.data.toList) ++ typeGo r true
theorem Builder_below {T e : TypeId} {B b : Nat} {bs : List Value} {W W' : World} (h : Lib.IsBuilderF T e B b bs W) (hb : Below W.heap.size W W') : Lib.IsBuilderF T e B b bs W' := by
  have h1 : ∀ p, Lib.BuilderAtF T e B b p bs W → Lib.BuilderAtF T e B b p bs W' := by
    rintro p ⟨hB, v, hv, hown, hne⟩
    have hlt := Lib.BuilderAtF.lt (⟨hB, v, hv, hown, hne⟩ : Lib.BuilderAtF T e B b p bs W)
    exact ⟨hB, v, (hb.block b hlt).trans hv, hown.kept (only_of_below hb none) (by cases hv : v.ownBlock <;> simp), hne⟩
  exact h.elim (fun x => .inl (h1 _ x)) (fun x => .inr (h1 _ x))
structure TySt (w : World) (bs : List UInt8) (W : World) : Prop where
  bu : Lib.IsBuilderF 66 5 w.heap.size w.heap.size (Lib.byteCells bs) W
  b : Below w.heap.size w W
theorem TySt.alloc {w : World} {bs : List UInt8} {W : World} (h : TySt w bs W) (o : Obj) : TySt w bs (W.alloc o) := ⟨h.bu.alloc o, h.b.alloc h.b.size o⟩
theorem TySt.lt {w : World} {bs : List UInt8} {W : World} (h : TySt w bs W) : w.heap.size < W.heap.size := h.bu.elim (fun x => x.lt) (fun x => x.lt)
theorem TySt.byte {w : World} {bs : List UInt8} {W : World} (h : TySt w bs W) (c : UInt8) (hlen : bs.length + 1 ≤ 140737488355328) :
    Calls Tryd.prog 35 #[.pointer (some ⟨w.heap.size, 0, none⟩), .int .u8 c.toNat] W fun e w' => e = .returned .nilIface ∧ TySt w (bs ++ [c]) w' ∧ Lib.OthersKept 5 (some w.heap.size) W w' := by
  refine (writeByte_k w.heap.size w.heap.size (Lib.byteCells bs) c.toNat W h.bu (by rw [Lib.byteCells_length]; exact hlen) h.b.size).mono ?_
  rintro e w' ⟨rfl, h1, h2, h3⟩
  exact ⟨rfl, ⟨.inr (by rw [Lib.byteCells_append]; exact h1), h.b.trans h2⟩, h3⟩
theorem TySt.str {w : World} {bs : List UInt8} {W : World} (h : TySt w bs W) (x : ByteArray) (hlen : bs.length + x.size ≤ 140737488355328) :
    Calls Tryd.prog 36 #[.pointer (some ⟨w.heap.size, 0, none⟩), .string x] W fun e w' => e = .returned (.tuple #[.int .i64 x.size, .nilIface]) ∧ TySt w (bs ++ x.data.toList) w' ∧ Lib.OthersKept 5 (some w.heap.size) W w' := by
  refine (writeString_k w.heap.size w.heap.size (Lib.byteCells bs) x W h.bu (by rw [Lib.byteCells_length]; exact hlen) h.b.size).mono ?_
  rintro e w' ⟨rfl, h1, h2, h3⟩
  exact ⟨rfl, ⟨.inr (by rw [Lib.byteCells_append]; exact h1), h.b.trans h2⟩, h3⟩
theorem kept_new {wr w' : World} {cs : Array Value} {b : Nat} (hb : b < wr.heap.size) (h : Lib.OthersKept 5 (some b) (wr.alloc (.cells cs 31)) w') : w'.heap[wr.heap.size]? = some (.cells cs 31) :=
  h _ _ (heap_alloc_new wr _) (by intro e; injection e with e; omega) (by intro c fz e; injection e with _ e _; revert e; decide)
theorem kept_old {W w' : World} {cs : Array Value} {b k : Nat} (hb : k ≠ b) (hk : W.heap[k]? = some (.cells cs 31)) (h : Lib.OthersKept 5 (some b) W w') : w'.heap[k]? = some (.cells cs 31) :=
  h _ _ hk (by intro e; injection e with e; exact hb e) (by intro c fz e; injection e with _ e _; revert e; decide)
theorem cell3 {W : World} {b : Nat} {x y z : Value} (h : W.heap[b]? = some (.cells #[x, y, z] 31)) : W.cell? ⟨b, 0, none⟩ = some x ∧ W.cell? ⟨b, 1, none⟩ = some y ∧ W.cell? ⟨b, 2, none⟩ = some z := by
  refine ⟨?_, ?_, ?_⟩ <;> simp [World.cell?, h]
set_option maxHeartbeats 2000000 in
theorem type_any (v : Value) (ts : List Tk) (w : World) (hT : TkRow w v ts) (hlen : (typeGo ts false).length ≤ 140737488355328) (hn : ts.length ≤ 140737488355328) :
    Calls Tryd.prog 19 #[v] w fun e w' => e = .returned (.string ⟨(typeGo ts false).toArray⟩) ∧ Below w.heap.size w w' := by
  obtain ⟨ao, cap, rfl⟩ : ∃ ao cap, v = .slice ao ts.length cap := by
    rcases hT with ⟨h, h0⟩ | ⟨g, cap, h, _⟩
    · exact ⟨none, 0, by rw [h, h0]; rfl⟩
    · exact ⟨_, _, h⟩
  have HT := Lib.hid hT
  clear hT
  go_enter Tryd.func19, Tryd.ntmps19
  go_wp2
  go_loopg [4, 9] ts.length (fun g o i wr => ∃ (k : Nat) (ob : Bool) (bs : List UInt8), k ≤ ts.length ∧ ts.length - k ≤ g ∧ i = .int .i64 k ∧ o = .bool ob ∧ Hid (TySt w bs wr) ∧ Hid (bs ++ typeGo (ts.drop k) ob = typeGo ts false))
  case atStart => exact ⟨0, false, [], by omega, by omega, rfl, rfl, Lib.hid ⟨.inl ⟨Nat.le_refl _, _, Array.getElem?_push_size, ⟨rfl, .inl ⟨rfl, rfl⟩⟩, by simp [Value.ownBlock]⟩, (Below.refl _ _).alloc (Nat.le_refl _) _⟩, Lib.hid rfl⟩
  case round =>
    obtain ⟨k, ob, bs, hk, hg, rfl, rfl, HA, HL⟩ := hrel
    by_cases hlt : k < ts.length
    · have hd : decide ((k : Int) < (ts.length : Int)) = true := by simp; omega
      have hi0 : (k : Int) < (ts.length : Int) := by omega
      have hgk : 1 ≤ gk := by omega
      obtain ⟨g, rfl⟩ : ∃ g, ao = some ⟨g, 0, none⟩ := by
        rcases HT.out with ⟨_, h0⟩ | ⟨g, c, h, _⟩
        · rw [h0] at hlt; simp at hlt
        · exact ⟨g, by simp at h; exact h.1⟩
      obtain ⟨c0, c1, c2⟩ := (HT.out.below HA.out.b).at k hlt
      have HL0 := HL.out
      rw [List.drop_eq_getElem_cons hlt] at HL0
      obtain ⟨t, ht⟩ : ∃ t, ts[k] = t := ⟨_, rfl⟩
      rw [ht] at c0 c1 c2 HL0
      clear ht HL
      by_cases h4 : t.K = 4
      · have q4 : (t.K == 4) = true := by rw [beq_iff_eq]; exact h4
        have q5 : (t.K != 4) = false := by rw [bne_eq_false_iff_eq]; exact h4
        have HL1 := Lib.hid (by rw [typeGo, if_pos h4] at HL0; simpa using HL0 : (bs ++ [10]) ++ typeGo (ts.drop (k + 1)) false = typeGo ts false)
        have hl : bs.length + 1 ≤ 140737488355328 := by rw [← HL1.out] at hlen; simp at hlen; omega
        clear HL0 h4
        go_wp2_with (first | (go_at_call 35; refine ((HA.out.alloc _).byte 10 (by omega)).mono ?_; rintro e w1 ⟨rfl, hs, hkp⟩; have HS := Lib.hid hs; have hb1 := kept_new HA.out.lt hkp; obtain ⟨d0, d1, d2⟩ := cell3 hb1; have HB := Lib.hid hb1; clear hs hkp hb1) | fail)
        go_roundg (gk - 1)
        case measure => omega
        case rel => exact ⟨k + 1, false, bs ++ [10], by omega, by omega, by go_num, rfl, HS, HL1⟩
      · have q4 : (t.K == 4) = false := by rw [beq_eq_false_iff_ne]; exact h4
        have q5 : (t.K != 4) = true := by rw [bne_iff_ne]; exact h4
        rw [typeGo, if_neg h4] at HL0
        have hxs : t.x.data.toList.length = t.x.size := by simp
        cases ob
        · have HL1 := Lib.hid (by simpa using HL0 : (bs ++ t.x.data.toList) ++ typeGo (ts.drop (k + 1)) true = typeGo ts false)
          have hl : bs.length + t.x.size ≤ 140737488355328 := by rw [← HL1.out, List.length_append, List.length_append] at hlen; omega
          clear HL0 h4
          go_wp2_with (first | (go_at_call 36; refine ((HA.out.alloc _).str t.x (by omega)).mono ?_; rintro e w2 ⟨rfl, hs, hkp⟩; have HS := Lib.hid hs; have hb1 := kept_new HA.out.lt hkp; obtain ⟨d0, d1, d2⟩ := cell3 hb1; clear hs hkp hb1) | fail)
          go_roundg (gk - 1)
          case measure => omega
          case rel => exact ⟨k + 1, true, bs ++ t.x.data.toList, by omega, by omega, by go_num, rfl, HS, HL1⟩
        · have HL1 := Lib.hid (by simpa using HL0 : (bs ++ [32] ++ t.x.data.toList) ++ typeGo (ts.drop (k + 1)) true = typeGo ts false)
          have hl : bs.length + 1 + t.x.size ≤ 140737488355328 := by rw [← HL1.out, List.length_append, List.length_append, List.length_append] at hlen; simp at hlen; omega
          clear HL0 h4
          go_wp2_with (first | (go_at_call 35; refine ((HA.out.alloc _).byte 32 (by omega)).mono ?_; rintro e w1 ⟨rfl, hs, hkp⟩; have HS := Lib.hid hs; have hb1 := kept_new HA.out.lt hkp; obtain ⟨d0, d1, d2⟩ := cell3 hb1; have HB := Lib.hid hb1; clear hs hkp hb1) | (go_at_call 36; refine (HS.out.str t.x (by simp; omega)).mono ?_; rintro e w2 ⟨rfl, hs, hkp⟩; have HS2 := Lib.hid hs; have hb1 := kept_old (Nat.ne_of_gt HA.out.lt) HB.out hkp; obtain ⟨f0, f1, f2⟩ := cell3 hb1; clear hs hkp hb1) | fail)
          go_roundg (gk - 1)
          case measure => omega
          case rel => exact ⟨k + 1, true, bs ++ [32] ++ t.x.data.toList, by omega, by omega, by go_num, rfl, HS2, HL1⟩
    · obtain rfl : k = ts.length := by omega
      have hd : decide ((ts.length : Int) < (ts.length : Int)) = false := by simp
      have HL1 := Lib.hid (by have := HL.out; rw [List.drop_length] at this; simpa [typeGo] using this : bs = typeGo ts false)
      clear HL hlt
      go_wp2_with (first | (go_at_call 37; refine (Tryd.Builder_String_any_k w.heap.size w.heap.size bs _ HA.out.bu HA.out.b.size).mono ?_; rintro e w2 ⟨rfl, _, hb2, _⟩) | fail)
      go_ret
      rw [← HL1.out]
      exact ⟨rfl, HA.out.b.trans hb2⟩

end Go.Proofs.YtgpndifkkaomcaaDoor
