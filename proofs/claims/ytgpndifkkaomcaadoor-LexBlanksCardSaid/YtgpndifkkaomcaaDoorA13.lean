/- Lex. -/
import Derived.Test.YtgpndifkkaomcaaDoorA12
namespace Go.Proofs.YtgpndifkkaomcaaDoor
open Go.RowKit
attribute [local go_sem] Oper.semAt_some
set_option maxHeartbeats 2000000 in
set_option maxRecDepth 100000 in
theorem lex_short (s : ByteArray) (w : World) (hG : Glob w) (hs : s.size ≤ 16384) :
    Calls Tryd.prog 12 #[.string s] w fun e w' => ∃ v, e = .returned (.tuple #[v, .int .i64 (lexRun s (s.size + 1) 0 false []).2.1, .int .i64 (lexRun s (s.size + 1) 0 false []).2.2]) ∧
      w'.ownsRow w.heap.size 31 3 v (lexRun s (s.size + 1) 0 false []).1.length (tkCells (lexRun s (s.size + 1) 0 false []).1) ∧ Below w.heap.size w w' := by
  have hsd : decide ((16384 : Int) < (s.size : Int)) = false := by simp; omega
  have hG3 := hG.size
  refine (callsIn_wide (n := 3)).1 ?_
  refine callsIn_of_wp_marks Tryd.func12 rfl trivial ?_
  simp only [Tryd.ntmps12, List.size_toArray, List.length_cons, List.length_nil, Nat.reduceAdd, Nat.reduceSub, Array.replicate_succ, Array.replicate_zero, List.push_toArray, List.append_toArray, List.nil_append, List.cons_append]
  gi_wp2_with fail
  refine ⟨trivial, (callsIn_wide.2 (all_any _ _)).mono ?_⟩
  rintro e W ⟨rfl, rfl⟩
  gi_wp2
  refine range_rec (w := lexWorld w s) (gf := 42) (lb := #[.pointer (some ⟨w.heap.size + 1 + 1 + 1 + 1 + 1, 0, none⟩)]) (by simp [Act.eval]) (enters_of Tryd.func42 (by kernel_rfl) rfl) ?_
  intro fn rec hrec
  have HG := Lib.hid hG
  have hz := lexWorld_size w s
  obtain ⟨i0, hi, hz0, hz1, hz2⟩ := info_parts tokInfo
  have hst := lexStart w s (rec .ready none)
  have hcells : ∀ st pe, (rec st pe).isCells = false := fun st pe => by rw [hrec]; rfl
  rw [hz] at hrec ⊢
  refine (callsIn_wide.1 (all1_any (m := 2) (fun ts W => ∃ v, LexCells w 0 0 v ts W ∧ W.heap[w.heap.size + 7]? = some (rec .ready none))
    (fun a e W => LexCells w a e (.slice none 0 0) [] W ∧ W.heap[w.heap.size + 7]? = some (rec .done (some .ret))) s (w.heap.size + 1 + 1 + 1) (w.heap.size + 1 + 1 + 1 + 1 + 1) (w.heap.size + 7) (by omega) (by omega) (by omega) ?core ?ok ?err _
    ⟨⟨_, hst.1, hst.2.2.2⟩, hst.2.1, hst.2.2.1, hG.below hst.1.b hG3⟩)).mono ?fin
  case core =>
    rintro ts W W' ⟨v, hc, hr⟩ hg
    have hlt := (Array.getElem?_eq_some_iff.1 hr).1
    exact ⟨v, hc.kept hg (.inl rfl), (hg.block _ hlt (by intro he; injection he with he; omega)).trans hr⟩
  case ok =>
    rintro ts t k o W hlen A
    obtain ⟨v, hc, hr⟩ := A.core
    refine yield_rec hrec hr rfl ?_
    dsimp only [Tk.val]
    have S := A.S
    have C := A.c
    clear A hrec hst hG
    gi_wp2
    refine ⟨(Below.heap_alloc W _ _ (Array.getElem?_eq_some_iff.1 hr).1).trans hr, ?_⟩
    obtain ⟨W2, hW2⟩ : ∃ W2, (W.alloc (.cells #[.int .u8 t.K, .string t.x, .int .i64 t.a] 31)) = W2 := ⟨_, rfl⟩
    have T2 : Tok W2 W.heap.size t.K t.x t.a := by rw [← hW2]; exact Tok.new W _ _ _ _
    have g2 : W.grownBy W2 (some W.heap.size) := by rw [← hW2]; exact only_alloc (only_refl _ _) _
    have S2 : Scan W2 (w.heap.size + 1 + 1 + 1) s k o 0 := by rw [← hW2]; exact S.alloc _
    have hc2 := hc.kept g2 (.inr (.inr (.inr (Nat.le_refl _))))
    have hr2 : W2.heap[w.heap.size + 7]? = some (rec .ready none) := by rw [← hW2]; exact (Below.heap_alloc W _ _ (Array.getElem?_eq_some_iff.1 hr).1).trans hr
    rw [hW2]
    have hL2 := (Array.getElem?_eq_some_iff.1 hr2).1
    have hWl : w.heap.size + 7 < W.heap.size := (Array.getElem?_eq_some_iff.1 hr).1
    clear hW2
    obtain ⟨W3, hW3⟩ : ∃ W3, W2.putObj (w.heap.size + 7) (rec .busy none) = W3 := ⟨_, rfl⟩
    have g3 : W2.grownBy W3 (some (w.heap.size + 7)) := by rw [← hW3]; exact grownBy_putObj' _ _ _
    have hr3 : W3.heap[w.heap.size + 7]? = some (rec .busy none) := by rw [← hW3]; exact World.putObj_heap_same hL2
    have T3 := T2.kept g3 (by omega)
    have S3 := S2.kept g3 (by omega)
    have hc3 := hc2.kept g3 (.inr (.inr (.inl rfl)))
    have C3 := g3.cell (g2.cell C (by intro he; injection he with he; simp at he; omega)) (by intro he; injection he with he; simp at he)
    have hl3 := Nat.le_trans g2.size g3.size
    rw [hW3]
    clear hW3 g2 g3 T2 S2 hc2 hr2 hc hr S C hL2
    have x3 := hc3.x
    have e3 := S3.e
    have l3 := hc3.l
    have fl3 := hc3.fl
    have t0 := T3.c0
    have t1 := T3.c1
    have t2 := T3.c2
    have hb3 := hc3.b.size
    gi_wp2_with (gi_at_builtin; refine wpListIn_append_own _ rfl _ _ 25 rfl (w.heap.size + 8) 31 i0 (.agg #[.int .u8 0, .string ⟨#[]⟩, .int .i64 0]) 3 32 Tryd.underlying25 hi hz0 hz1 hz2 rfl (by decide) _ _ _ rfl (hc3.row.alloc _) ⟨W3.heap.size, 0, none⟩ 1 1 [.int .u8 t.K, .string t.x, .int .i64 t.a] rfl rfl ?c1 ?c2 ?c3 ?c4 ?c5 ?_)
    case c1 => exact cells_new3 W3 _ _ _ 31
    case c2 => intro u hu; simp at hu; rcases hu with rfl | rfl | rfl <;> rfl
    case c3 => unfold maxLen; omega
    case c4 => omega
    case c5 => simp; omega
    intro v' W4 hown4 hg4 _
    have l4 := hg4.cell (calloc (o := .cells #[.int .u8 t.K, .string t.x, .int .i64 t.a] 31) l3) (hc3.far (by show w.heap.size < _; omega))
    have f4 := (World.frozen?_of_block (w := W3.alloc (.cells #[.int .u8 t.K, .string t.x, .int .i64 t.a] 31)) (a := ⟨w.heap.size, 0, none⟩) (hg4.block w.heap.size (by simp; omega) (hc3.far (by omega)))).trans (falloc (o := .cells #[.int .u8 t.K, .string t.x, .int .i64 t.a] 31) (by show w.heap.size < _; omega) fl3)
    have hr4 := (hg4.block (w.heap.size + 7) (by simp; omega) (hc3.far (by omega))).trans ((Below.heap_alloc W3 (.cells #[.int .u8 t.K, .string t.x, .int .i64 t.a] 31) (w.heap.size + 7) (by omega)).trans hr3)
    have hc5 := hc3.append t hown4 hg4
    have S4 := (S3.alloc (.cells #[.int .u8 t.K, .string t.x, .int .i64 t.a] 31)).keptO hg4 (hc3.far (by omega))
    have C4 := hg4.cell (calloc (o := .cells #[.int .u8 t.K, .string t.x, .int .i64 t.a] 31) C3) (hc3.far (by show w.heap.size + 1 + 1 + 1 + 1 + 1 < _; omega))
    have hform : ∃ g cap, v' = .slice (some ⟨g, 0, none⟩) (ts.length + 1) cap := by
      rcases hown4.2 with ⟨_, h0⟩ | ⟨g, cap, cur, hv, _⟩
      · omega
      · exact ⟨g, cap, hv⟩
    obtain ⟨g, cap, rfl⟩ := hform
    have F := Lib.hid (And.intro hr4 (And.intro hc5 (And.intro S4 C4)))
    clear hr4 hc5 S4 C4 hown4 hr3 C3 T3 S3 t0 t1 t2 x3 e3
    gi_wp2
    obtain ⟨hr4, hc5, S4, C4⟩ := F.out
    have hr5 : (W4.setCell ⟨w.heap.size, 0, none⟩ (.slice (some ⟨g, 0, none⟩) (ts.length + 1) cap)).heap[w.heap.size + 7]? = some (rec .busy none) :=
      (Below.heap_setCell _ _ _ _ (by show w.heap.size + 7 ≠ w.heap.size; omega)).trans hr4
    have g6 := grownBy_putObj' (W4.setCell ⟨w.heap.size, 0, none⟩ (.slice (some ⟨g, 0, none⟩) (ts.length + 1) cap)) (w.heap.size + 7) (rec .ready none)
    have hc6 := hc5.kept g6 (.inr (.inr (.inl rfl)))
    exact ⟨hr5, rfl, ⟨_, hc6, World.putObj_heap_same (Array.getElem?_eq_some_iff.1 hr5).1⟩, (S4.far (by show w.heap.size ≠ _; omega) _).kept g6 (by omega), g6.cell (cset_other (by simp) C4) (by intro he; injection he with he; simp at he), HG.out.below hc6.b hG3⟩
  case err =>
    rintro ts t k o e W he A
    have he2 : (e != 0) = true := by rw [bne_iff_ne]; exact he
    clear he
    obtain ⟨v, hc, hr⟩ := A.core
    refine yield_rec hrec hr rfl ?_
    dsimp only [Tk.val]
    have S := A.S
    have C := A.c
    clear A hrec hst hG
    gi_wp2
    refine ⟨(Below.heap_alloc W _ _ (Array.getElem?_eq_some_iff.1 hr).1).trans hr, ?_⟩
    obtain ⟨W2, hW2⟩ : ∃ W2, (W.alloc (.cells #[.int .u8 t.K, .string t.x, .int .i64 t.a] 31)) = W2 := ⟨_, rfl⟩
    have T2 : Tok W2 W.heap.size t.K t.x t.a := by rw [← hW2]; exact Tok.new W _ _ _ _
    have g2 : W.grownBy W2 (some W.heap.size) := by rw [← hW2]; exact only_alloc (only_refl _ _) _
    have S2 : Scan W2 (w.heap.size + 1 + 1 + 1) s k o e := by rw [← hW2]; exact S.alloc _
    have hc2 := hc.kept g2 (.inr (.inr (.inr (Nat.le_refl _))))
    have hr2 : W2.heap[w.heap.size + 7]? = some (rec .ready none) := by rw [← hW2]; exact (Below.heap_alloc W _ _ (Array.getElem?_eq_some_iff.1 hr).1).trans hr
    rw [hW2]
    have hL2 := (Array.getElem?_eq_some_iff.1 hr2).1
    have hWl : w.heap.size + 7 < W.heap.size := (Array.getElem?_eq_some_iff.1 hr).1
    clear hW2
    obtain ⟨W3, hW3⟩ : ∃ W3, W2.putObj (w.heap.size + 7) (rec .busy none) = W3 := ⟨_, rfl⟩
    have g3 : W2.grownBy W3 (some (w.heap.size + 7)) := by rw [← hW3]; exact grownBy_putObj' _ _ _
    have hr3 : W3.heap[w.heap.size + 7]? = some (rec .busy none) := by rw [← hW3]; exact World.putObj_heap_same hL2
    have T3 := T2.kept g3 (by omega)
    have S3 := S2.kept g3 (by omega)
    have hc3 := hc2.kept g3 (.inr (.inr (.inl rfl)))
    have C3 := g3.cell (g2.cell C (by intro he; injection he with he; simp at he; omega)) (by intro he; injection he with he; simp at he)
    have hl3 := Nat.le_trans g2.size g3.size
    rw [hW3]
    clear hW3 g2 g3 T2 S2 hc2 hr2 hc hr S C hL2
    have x3 := hc3.x
    have e3 := S3.e
    have l3 := hc3.l
    have fl3 := hc3.fl
    have p3 := hc3.p
    have fp3 := hc3.fp
    have q3 := hc3.e
    have fq3 := hc3.fe
    have t2 := T3.c2
    have hb3 := hc3.b.size
    have nl3 : W.heap.size ≠ w.heap.size := by omega
    have nl4 : W.heap.size ≠ w.heap.size + 1 := by omega
    have nl5 : W.heap.size ≠ w.heap.size + 1 + 1 := by omega
    gi_wp2
    refine region_inv (by kernel_rfl) (fun k L a V => ∃ x y z : Nat, x ≤ 2 ∧ y ≤ 4 ∧ z ≤ 3 ∧ (2 ≤ z → x = 2) ∧ (3 ≤ z → y = 4) ∧ k + x + y + z = 9 ∧
      L = #[decide (1 ≤ x), decide (2 ≤ x), decide (1 ≤ y), decide (2 ≤ y), decide (3 ≤ y), decide (4 ≤ y), decide (1 ≤ z), decide (2 ≤ z), decide (3 ≤ z)] ∧
      a = { tmps := #[.string s, undef, .pointer (some ⟨w.heap.size, 0, none⟩), .pointer (some ⟨w.heap.size + 1, 0, none⟩), .pointer (some ⟨w.heap.size + 1 + 1, 0, none⟩), .pointer (some ⟨w.heap.size + 1 + 1 + 1 + 1, 0, none⟩),
        .pointer (some ⟨W.heap.size, 0, none⟩), .string s, .int .i64 s.size, .bool false, .string s, .agg #[.string s, .int .i64 0], .agg #[.string s, .int .i64 0, .bool false, .int .i64 0], .pointer (some ⟨w.heap.size + 1 + 1 + 1, 0, none⟩), .pointer (some ⟨w.heap.size + 1 + 1 + 1, 0, none⟩),
        .func (.func 42) #[] #[.pointer (some ⟨w.heap.size + 1 + 1 + 1 + 1 + 1, 0, none⟩)], .agg #[.int .u8 t.K, .string t.x, .int .i64 t.a], .pointer (some ⟨w.heap.size + 1 + 1 + 1, 0, none⟩), .pointer (some ⟨w.heap.size + 1 + 1 + 1, 0, none⟩), .pointer (some ⟨w.heap.size + 1 + 1 + 1, 3, none⟩), .int .i64 e, .bool true,
        if 1 ≤ x then .pointer (some ⟨W.heap.size, 2, none⟩) else undef, if 2 ≤ x then .int .i64 t.a else undef,
        if 1 ≤ y then .pointer (some ⟨w.heap.size + 1 + 1 + 1, 0, none⟩) else undef, if 2 ≤ y then .pointer (some ⟨w.heap.size + 1 + 1 + 1, 0, none⟩) else undef, if 3 ≤ y then .pointer (some ⟨w.heap.size + 1 + 1 + 1, 3, none⟩) else undef, if 4 ≤ y then .int .i64 e else undef,
        undef, undef, undef, undef, undef], defers := [] } ∧
      V = (if 3 ≤ z then (((W3.setCell ⟨w.heap.size, 0, none⟩ (.slice none 0 0)).setCell ⟨w.heap.size + 1, 0, none⟩ (.int .i64 t.a)).setCell ⟨w.heap.size + 1 + 1, 0, none⟩ (.int .i64 e))
        else if 2 ≤ z then ((W3.setCell ⟨w.heap.size, 0, none⟩ (.slice none 0 0)).setCell ⟨w.heap.size + 1, 0, none⟩ (.int .i64 t.a))
        else if 1 ≤ z then (W3.setCell ⟨w.heap.size, 0, none⟩ (.slice none 0 0)) else W3).drew) ?i0 ?iz ?is
    case i0 => exact ⟨0, 0, 0, by omega, by omega, by omega, by omega, by omega, rfl, rfl, rfl, rfl⟩
    case iz =>
      rintro L a V ⟨x, y, z, hx, hy, hz, h1, h2, h3, rfl, rfl, rfl⟩
      obtain rfl : x = 2 := by omega
      obtain rfl : y = 4 := by omega
      obtain rfl : z = 3 := by omega
      refine ⟨by decide +kernel, ?_⟩
      simp only [Nat.le_refl, Nat.reduceLeDiff, if_true]
      gi_wp2
      have hr6 := heap_err (x := .slice none 0 0) (y := .int .i64 t.a) (z := .int .i64 e) hr3 (b := w.heap.size) (by omega)
      have hc6 := (hc3.err t.a e).kept (grownBy_putObj' _ (w.heap.size + 7) (rec .done (some .ret))) (.inr (.inr (.inl rfl)))
      exact ⟨hr6, rfl, hc6, World.putObj_heap_same (Array.getElem?_eq_some_iff.1 hr6).1⟩
    case is =>
      rintro k L a V ⟨x, y, z, hx, hy, hz, h1, h2, h3, rfl, rfl, rfl⟩
      obtain ⟨X, hX⟩ : ∃ X, X = x := ⟨_, rfl⟩
      obtain ⟨Y, hY⟩ : ∃ Y, Y = y := ⟨_, rfl⟩
      obtain ⟨Z, hZ⟩ : ∃ Z, Z = z := ⟨_, rfl⟩
      have hnx : x ≤ 2 := hx
      have ex : x = 0 ∨ x = 1 ∨ x = 2 := by omega
      have ey : y = 0 ∨ y = 1 ∨ y = 2 ∨ y = 3 ∨ y = 4 := by omega
      have ez : z = 0 ∨ z = 1 ∨ z = 2 ∨ z = 3 := by omega
      rcases ex with rfl | rfl | rfl <;> rcases ey with rfl | rfl | rfl | rfl | rfl <;> rcases ez with rfl | rfl | rfl | rfl
      all_goals first | (exfalso; omega) | skip
      all_goals refine ⟨by decide +kernel, ?_⟩
      all_goals intro i hi K hK
      all_goals
        have hlt : i < 9 := by
          have := (List.mem_filter.1 hi).1
          simpa using this
      all_goals have hc : i = 0 ∨ i = 1 ∨ i = 2 ∨ i = 3 ∨ i = 4 ∨ i = 5 ∨ i = 6 ∨ i = 7 ∨ i = 8 := by omega
      all_goals rcases hc with rfl | rfl | rfl | rfl | rfl | rfl | rfl | rfl | rfl
      all_goals first | (exact absurd hi (by decide +kernel)) | skip
      all_goals clear hlt hi
      all_goals simp only [Nat.le_refl, Nat.reduceLeDiff, if_true, if_false]
      all_goals refine wpOpIn_step rfl (fun K' hK' => ?_)
      all_goals have HX := Lib.hid hX
      all_goals have HY := Lib.hid hY
      all_goals have HZ := Lib.hid hZ
      all_goals clear hX hY hZ
      all_goals go_simp
      all_goals refine hK' _ _ (hK _ _ ?_)
      all_goals first
        | (refine ⟨X + 1, Y, Z, ?_⟩; have q1 := HX.out; have q2 := HY.out; have q3 := HZ.out; subst q1 q2 q3; exact ⟨by omega, by omega, by omega, by omega, by omega, by omega, rfl, rfl, rfl⟩)
        | (refine ⟨X, Y + 1, Z, ?_⟩; have q1 := HX.out; have q2 := HY.out; have q3 := HZ.out; subst q1 q2 q3; exact ⟨by omega, by omega, by omega, by omega, by omega, by omega, rfl, rfl, rfl⟩)
        | (refine ⟨X, Y, Z + 1, ?_⟩; have q1 := HX.out; have q2 := HY.out; have q3 := HZ.out; subst q1 q2 q3; exact ⟨by omega, by omega, by omega, by omega, by omega, by omega, rfl, rfl, rfl⟩)
  case fin =>
    rintro e W2 ⟨hv, h⟩
    refine ⟨hv, ?_⟩
    have hend : ∀ (W3 : World) (v : Value) (p e : Int) (ts : List Tk), LexCells w p e v ts W3 → (W3.putObj (w.heap.size + 6) (.deferred none)).cell? ⟨w.heap.size, 0, none⟩ = some v ∧
        (W3.putObj (w.heap.size + 6) (.deferred none)).cell? ⟨w.heap.size + 1, 0, none⟩ = some (.int .i64 p) ∧ (W3.putObj (w.heap.size + 6) (.deferred none)).cell? ⟨w.heap.size + 1 + 1, 0, none⟩ = some (.int .i64 e) ∧
        (W3.putObj (w.heap.size + 6) (.deferred none)).ownsRow w.heap.size 31 3 v ts.length (tkCells ts) ∧ Below w.heap.size w (W3.putObj (w.heap.size + 6) (.deferred none)) := by
      intro W3 v p e ts hc
      have hB : Below w.heap.size w (W3.putObj (w.heap.size + 6) (.deferred none)) := hc.b.grown (grownBy_putObj' W3 (w.heap.size + 6) (.deferred none)) hc.b.size (fun k hk => by injection hk with hk; omega)
      exact ⟨put_cell hc.l hc.d rfl, put_cell hc.p hc.d rfl, put_cell hc.e hc.d rfl, row_le (hc.row.kept (grownBy_putObj' W3 (w.heap.size + 6) (.deferred none)) (.inr (fun h => hc.far (i := w.heap.size + 6) (by omega) h.symm))) (by omega), hB⟩
    have HE := Lib.hid hend
    clear hend
    rcases h with ⟨h0, k, o, A⟩ | ⟨h0, hc, hr⟩
    · obtain ⟨v, hc, hr⟩ := A.core
      refine .inl ⟨hr, ?_⟩
      have hc2 := hc.kept (grownBy_putObj' W2 (w.heap.size + 7) (rec .exhausted none)) (.inr (.inr (.inl rfl)))
      obtain ⟨W3, hW3⟩ : ∃ W3, W2.putObj (w.heap.size + 7) (rec .exhausted none) = W3 := ⟨_, rfl⟩
      rw [hW3] at hc2 ⊢
      clear hW3 hrec hst A hc hr
      have HX := Lib.hid h0
      have hpl : (lexRun s (s.size + 1) 0 false []).2.1 = 0 := lexRun_ok s _ _ _ _ h0
      have HP := Lib.hid hpl
      clear h0 hpl
      obtain ⟨ts, hts⟩ : ∃ ts, (lexRun s (s.size + 1) 0 false []).1 = ts := ⟨_, rfl⟩
      rw [hts] at hc2
      have HT := Lib.hid hts
      clear hts
      obtain ⟨ao, cap, rfl⟩ : ∃ ao cap, v = .slice ao ts.length cap := by
        rcases hc2.row.2 with ⟨hv, h0⟩ | ⟨g, cap, cur, hv, _⟩
        · exact ⟨none, 0, by rw [hv, h0]⟩
        · exact ⟨_, _, hv⟩
      have l3 := hc2.l
      have fl3 := hc2.fl
      have p3 := hc2.p
      have fp3 := hc2.fp
      have q3 := hc2.e
      have fq3 := hc2.fe
      gi_wp2
      rw [setCell_self l3, setCell_self p3, setCell_self q3]
      refine ⟨by simp, .inl ⟨_, _, rfl, run_takeDeferred hc2.d, ?_⟩⟩
      obtain ⟨l6, p6, q6, r6, b6⟩ := HE.out _ _ _ _ _ hc2
      rw [HX.out, HP.out, HT.out]
      refine ⟨.tuple #[.slice ao ts.length cap, .int .i64 0, .int .i64 0], ?_, _, rfl, r6, b6⟩
      simp [results, Tryd.f12, go_sem, l6, p6, q6]
    · refine .inr ⟨_, hr, ?_⟩
      have hc2 := hc.kept (grownBy_putObj' W2 (w.heap.size + 7) (rec .exhausted (some .ret))) (.inr (.inr (.inl rfl)))
      obtain ⟨W3, hW3⟩ : ∃ W3, W2.putObj (w.heap.size + 7) (rec .exhausted (some .ret)) = W3 := ⟨_, rfl⟩
      rw [hW3] at hc2 ⊢
      clear hW3 hrec hst
      gi_wp2
      refine ⟨by simp, .inl ⟨_, _, rfl, run_takeDeferred hc2.d, ?_⟩⟩
      obtain ⟨l6, p6, q6, r6, b6⟩ := HE.out _ _ _ _ _ hc2
      have hnil : (lexRun s (s.size + 1) 0 false []).1 = [] := lexRun_err s _ _ _ _ h0
      rw [hnil]
      refine ⟨.tuple #[.slice none 0 0, .int .i64 (lexRun s (s.size + 1) 0 false []).2.1, .int .i64 (lexRun s (s.size + 1) 0 false []).2.2], ?_, _, rfl, r6, b6⟩
      simp [results, Tryd.f12, go_sem, l6, p6, q6]
end Go.Proofs.YtgpndifkkaomcaaDoor
