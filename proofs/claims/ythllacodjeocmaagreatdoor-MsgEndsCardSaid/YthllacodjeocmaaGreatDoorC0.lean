/- From the rows' condition on the library's variables to what the walks ask; the witness' world. -/
import Derived.Test.YthllacodjeocmaaGreatDoorRows
import Derived.Test.YthllacodjeocmaaGreatDoorM1
import Derived.Test.YthllacodjeocmaaGreatDoorO1
import Derived.HandedShaped
import Derived.LaidMore
import Derived.Stop.Joined
import Derived.Stop.LaidErr
import Derived.Lib.LaidTab
import Derived.Shelf.Vars
import Derived.Lay
namespace Go.Proofs.YthllacodjeocmaaGreatDoor
open Go.ChangeShapes Go.WideShapes Go.ChangeAt Go.RowKit
theorem own : ownKnob Tryz.prog.godebug = none := by kernel_rfl
theorem gSyn : Tryz.prog.globalNamed "strconv.ErrSyntax" = some 1 := by kernel_rfl
theorem gRng : Tryz.prog.globalNamed "strconv.ErrRange" = some 2 := by kernel_rfl
theorem gTab : Tryz.prog.globalNamed "internal/strconv.uint64pow10" = some 4 := by kernel_rfl
theorem gNeed : Tryz.prog.globalNamed "seisin/msg.needs" = some 0 := by kernel_rfl
theorem gSynT : (Tryz.prog.globals[1]?).map (·.type) = some 58 := by kernel_rfl
theorem gRngT : (Tryz.prog.globals[2]?).map (·.type) = some 58 := by kernel_rfl
theorem gTabT : (Tryz.prog.globals[4]?).map (·.type) = some 122 := by kernel_rfl
theorem gNeedT : (Tryz.prog.globals[0]?).map (·.type) = some 48 := by kernel_rfl
theorem cells9 : Tryz.prog.cellsOf 9 = 1 := by kernel_rfl
theorem cells3 : Tryz.prog.cellsOf 3 = 1 := by kernel_rfl
theorem cells128 : Tryz.prog.cellsOf 122 = 20 := by kernel_rfl
theorem cells114 : Tryz.prog.cellsOf 117 = 1 := by kernel_rfl
theorem cells52 : Tryz.prog.cellsOf 56 = 1 := by kernel_rfl
theorem cells58 : Tryz.prog.cellsOf 47 = 3 := by kernel_rfl
theorem cells59 : Tryz.prog.cellsOf 48 = 39 := by kernel_rfl
theorem star : "*" ++ "errors.errorString" = "*errors.errorString" := by decide
theorem row112 (u : TypeId) (h : Tryz.prog.typeName? 3 u = some "*errors.errorString") : u = 115 :=
  typeName_ptr_named (nm := "errors.errorString") (by rw [star]; kernel_rfl) (by kernel_rfl) (by decide) u (by rw [star]; exact h)
theorem pow10_eq : Rows.laid_internal_strconv_uint64pow10 (H := Unit) = Lib.tabData .u64 Lib.pow10Tab := by kernel_rfl
/-- The wrap with both: the rows' condition and the world's shape. -/
theorem change_and_shaped {H : Type} {enc : TypeId × Value → H} {a : Assume} {C : Checked} {os : Os} {f : FuncId} {fn : Func} {s : ChangeSpec} {conds : List PathCond} {apart fresh handsOn again : Bool} {X : World → Array Value → Prop}
    (hX : ∀ (w w' : World) (args : Array Value), w.heap = w'.heap → X w args → X w' args)
    (own : ownKnob C.prog.godebug = none) (started : os.Started) (noInit : C.prog.inits.idxOf? f = none) (hfn : C.prog.funcs[f]? = some fn)
    (witness : ∃ (w : World) (tape : Tape) (i : Input), w.os = os ∧ (w.forCall tape i).Shaped C.prog ∧ i.vars = [] ∧ Input.okWide C.prog (w.forCall tape i) .any w.heap.size f i ∧
      ((s.pre enc C.prog fn conds apart (w.forCall tape i).memory i.args ∧ X (w.forCall tape i).memory i.args) ∧ sizedMet enc C.prog fn (OpenSpec.ofChange s) apart (w.forCall tape i).memory i.args) ∧ a.holds C.prog (lone (Frame.enter C.prog f i.args .normal) [] (w.forCall tape i)))
    (contract : ∀ (W : World) (base : Nat) (args : Array Value) (ds gs : List (DataW H)) (before : List MemPlace),
      (∀ (j : Nat) t v, fn.params[j]? = some t → args[j]? = some v → Value.okWide C.prog W .any base t v) →
      DataW.Whole enc C.prog fn.params.toList s.vars apart W args.toList ds gs before → W.ShapedOpen C.prog → X W args →
      Calls C.prog f args W fun e W' => ∃ v, e = .returned v ∧ s.post enc C.prog fn apart fresh handsOn again W args v W') :
    ReturnsInHanded a C os f .any (fun w args => (s.pre enc C.prog fn conds apart w args ∧ X w args) ∧ sizedMet enc C.prog fn (OpenSpec.ofChange s) apart w args) (s.post enc C.prog fn apart fresh handsOn again) := by
  refine returnsInHanded_of_calls own started noInit witness ?_
  intro w tape i _ hsh _ hok hpre _
  obtain ⟨_, _, _, fn', hfn', _, _, _, _, hval⟩ := hok
  have e : fn' = fn := Option.some.inj (hfn'.symm.trans hfn)
  subst e
  obtain ⟨⟨⟨ds, gs, before, hw, _⟩, hx⟩, _⟩ := hpre
  have hw' := DataW.Whole.of_heap (w' := w.forCall tape i) (by rfl) hw
  refine (contract (w.forCall tape i) w.heap.size i.args ds gs before hval hw' hsh (hX _ _ _ (by rfl) hx)).mono fun e W' ⟨v, he, hp⟩ => ?_
  subst he
  exact ChangeSpec.post_blind hp
section
variable {w : World} {base : Nat} {spare : Nat → Bool} {held : Bool}
theorem list3 {α : Type} {l : List α} (h : l.length = 3) : ∃ a b c, l = [a, b, c] := by
  match l, h with
  | [a, b, c], _ => exact ⟨a, b, c, rfl⟩
set_option maxRecDepth 100000 in
/-- One row of the table out of its reading. -/
theorem need_row {n : Nat} {cs : List Value} {y : DataW Unit × List MemPlace} {a b : Int} {s : ByteArray}
    (h : DataW.trod (fun _ => ()) Tryz.prog w base spare held n 47 cs = some y) (hy : y.1 = .agg [.lit (.int .i64 a), .lit (.int .u8 b), .lit (.string s.data.toList)]) :
    cs = [.int .i64 a, .int .u8 b, .string s] := by
  obtain ⟨xs, m, _, hx, hl, hlen, hat⟩ := DataW.trod_struct Tryz.underlying47 h
  rw [cells58] at hl
  obtain ⟨c0, c1, c2, rfl⟩ := list3 hl
  obtain ⟨y0, y1, y2, rfl⟩ := list3 (l := xs) hlen
  have h0 : DataW.trod (fun _ => ()) Tryz.prog w base spare held m 3 [c0] = some y0 := hat 0 _ rfl
  have h1 : DataW.trod (fun _ => ()) Tryz.prog w base spare held m 5 [c1] = some y1 := hat 1 _ rfl
  have h2 : DataW.trod (fun _ => ()) Tryz.prog w base spare held m 9 [c2] = some y2 := hat 2 _ rfl
  obtain ⟨k0, e0, rfl, _⟩ := DataW.trod_int Tryz.underlying3 h0
  obtain ⟨k1, e1, rfl, _⟩ := DataW.trod_int Tryz.underlying5 h1
  obtain ⟨k2, e2, rfl, _⟩ := DataW.trod_string Tryz.underlying9 h2
  subst hx
  simp only [List.map_cons, List.map_nil, DataW.agg.injEq, List.cons.injEq, DataW.lit.injEq, Lit.int.injEq, Lit.string.injEq, true_and, and_true] at hy
  obtain ⟨rfl, rfl, h3⟩ := hy
  obtain rfl : k2 = s := ByteArray.ext (Array.toList_inj.1 h3)
  simp only [List.cons.injEq, and_true] at e0 e1 e2
  subst e0 e1 e2
  rfl
end
def needData : List (DataW Unit) := (List.range 13).map fun i => .agg [.lit (.int .i64 (bitsOf i)), .lit (.int .u8 (classOf i)), .lit (.string (nameOf i).data.toList)]
theorem needs_eq : Rows.laid_seisin_msg_needs (H := Unit) = .agg needData := by kernel_rfl
theorem needs_row : ∀ i : Fin 13, (needsCells.drop (i.val * 3)).take 3 = [.int .i64 (bitsOf i.val), .int .u8 (classOf i.val), .string (nameOf i.val)] := by
  intro i
  match i with
  | 0 => rfl
  | 1 => rfl
  | 2 => rfl
  | 3 => rfl
  | 4 => rfl
  | 5 => rfl
  | 6 => rfl
  | 7 => rfl
  | 8 => rfl
  | 9 => rfl
  | 10 => rfl
  | 11 => rfl
  | 12 => rfl
theorem needsCells_len : needsCells.length = 39 := rfl
theorem needs_of_laid {W : World} {r : List (String × DataW Unit)} (h : laidMet Tryz.prog (("seisin/msg.needs", Rows.laid_seisin_msg_needs) :: r) W) : Needs W := by
  obtain ⟨ps, ⟨g0, t0, cs, f0, p0, q0, hg0, ht0, hv0, hd0, _, _⟩, _, _⟩ := h
  obtain rfl := Option.some.inj (gNeed.symm.trans hg0)
  obtain rfl := Option.some.inj (gNeedT.symm.trans ht0)
  rw [needs_eq] at hd0
  obtain ⟨xs, m, _, hx, hl, hlen, hat⟩ := DataW.trod_array Tryz.underlying48 hd0
  rw [cells59] at hl
  simp only [Prod.mk.injEq, DataW.agg.injEq] at hx
  have hxs := hx.1
  have hrow : ∀ i : Nat, i < 13 → (cs.toList.drop (i * 3)).take 3 = (needsCells.drop (i * 3)).take 3 := fun i hi => by
    have h1 := hat i hi
    rw [cells58] at h1
    obtain ⟨y, hy⟩ : ∃ y, xs[i]? = some y := ⟨_, List.getElem?_eq_getElem (by omega)⟩
    rw [hy] at h1
    have h2 : (xs.map (·.1))[i]? = some y.1 := by rw [List.getElem?_map, hy]; rfl
    rw [← hxs] at h2
    have h3 : needData[i]? = some (.agg [.lit (.int .i64 (bitsOf i)), .lit (.int .u8 (classOf i)), .lit (.string (nameOf i).data.toList)]) := by
      unfold needData
      rw [List.getElem?_map, List.getElem?_range hi]; rfl
    rw [h3] at h2
    rw [need_row h1 (Option.some.inj h2).symm]
    exact (needs_row ⟨i, hi⟩).symm
  have he : cs.toList = needsCells := by
    apply List.ext_getElem?
    intro j
    rcases Nat.lt_or_ge j 39 with hj | hj
    · have := congrArg (fun l => l[j % 3]?) (hrow (j / 3) (by omega))
      simp only [List.getElem?_take, List.getElem?_drop, Nat.mod_lt j (show 0 < 3 by decide), if_true] at this
      rwa [show j / 3 * 3 + j % 3 = j by omega] at this
    · rw [List.getElem?_eq_none (by omega), List.getElem?_eq_none (by rw [needsCells_len]; omega)]
  intro i v hv
  rw [World.var?_cell gNeed hv0 i, ← hv, ← he, Array.getElem?_toList]
theorem max_len {W : World} (h : W.ShapedOpen Tryz.prog) : ∃ x, W.cell? ⟨3, 0, none⟩ = some (.int .i64 x) :=
  Go.Proofs.cell_of_shapedOpen_int (zero := #[.int .i64 0]) (t := 3) h (of_decide_eq_true (by kernel_rfl)) (by kernel_rfl) rfl (by kernel_rfl) (by kernel_rfl) Tryz.underlying3
theorem glob_of_laid {W : World} (h : laidMetH Tryz.prog Rows.msgEndsRow.laid W) (hs : W.ShapedOpen Tryz.prog) : GlobM W := by
  rw [MakeChecks.laidMetH_plain _ _ _ (by kernel_rfl)] at h
  have h2 : laidMet Tryz.prog [("internal/strconv.uint64pow10", Rows.laid_internal_strconv_uint64pow10), ("unicode/utf8.acceptRanges", Rows.laid_unicode_utf8_acceptRanges), ("strconv.ErrRange", Rows.laid_strconv_ErrRange), ("strconv.ErrSyntax", Rows.laid_strconv_ErrSyntax), ("seisin/msg.needs", Rows.laid_seisin_msg_needs), ("unicode/utf8.first", Rows.laid_unicode_utf8_first)] W := h.tail.tail
  have h3 := h2.tail.tail
  have h4 := h3.tail
  have h5 := h4.tail
  obtain ⟨a1, s1, v1, _⟩ := laid_sentinel h3 gRng gRngT Tryz.underlying58 row112 Tryz.underlying115 Tryz.underlying117 rfl rfl Tryz.underlying9 cells114 cells9
  obtain ⟨a2, s2, v2, _⟩ := laid_sentinel h4 gSyn gSynT Tryz.underlying58 row112 Tryz.underlying115 Tryz.underlying117 rfl rfl Tryz.underlying9 cells114 cells9
  rw [pow10_eq] at h2
  have ht := Lib.tabIs_of_head gTab gTabT Tryz.underlying122 Tryz.underlying56 cells52 cells128 h2
  have hc := ht.cell gTab 0 (by decide)
  exact ⟨⟨ht, ⟨_, _, by simpa using World.var?_cell gSyn v2 0⟩, ⟨_, _, by simpa using World.var?_cell gRng v1 0⟩, cell_lt hc⟩, needs_of_laid h5, max_len hs⟩
/-- The witness' world meets the condition. -/
theorem laid_met (os : Os) (args : Array Value) : laidMetH Tryz.prog Rows.msgEndsRow.laid ((World.laidAll Tryz.prog os Rows.msgEndsRow.laid).forCall (fun _ _ => 0) ⟨#[], args, []⟩).memory := by
  rw [MakeChecks.laidMetH_plain _ _ _ (by kernel_rfl)]
  exact laidMet_laidAll _ (by kernel_rfl) (by kernel_rfl)
end Go.Proofs.YthllacodjeocmaaGreatDoor
