/- A range over a function in one goroutine, at the wide fence: the statement, and one round. Over any program. -/
import Derived.RangeFuncNested
import Derived.RangeFuncBound
import Derived.RangeFuncCalls
import Derived.RangeFuncLeaves
import Derived.Shelf.Abstract
import Derived.Shelf.RegionOpen
import Derived.WalkKit
import Derived.OwnWalkIn
import Derived.TacticsInMore
import Derived.LoopNIn
import Derived.LoopIn
import Derived.Sort.LoopGhostIn
import Derived.Sort.QuietIn
import Derived.Sort.CutIn
namespace Go.Proofs.YtgpndifkkaomcaaDoor
open Go.RowKit
/-- The record of a loop. -/
def recOf (fn : FuncId) (tmps : Array Value) (ps : Array Tmp) (assign body : Code) (D : Nat) (st : LoopState) (pe : Option Code) : Obj :=
  .loop { state := st, pending := pe, fn, tmps, params := ps, assign, body, defers := D }
/-- How a round may be left, and what is then handed to the iterator. -/
def roundOut (l : Nat) (rec : LoopState → Option Code → Obj) (R : Ending → World → Prop) : Exit → Act → World → Prop
  | .normal, _, W => W.heap[l]? = some (rec .busy none) ∧ R (.returned (.bool true)) (W.putObj l (rec .ready none))
  | .ret, _, W => W.heap[l]? = some (rec .busy none) ∧ R (.returned (.bool false)) (W.putObj l (rec .done (some .ret)))
  | .exit id, _, W => W.heap[l]? = some (rec .busy none) ∧ R (.returned (.bool false)) (W.putObj l (rec .done (some (.exit id))))
  | .goto t, _, W => W.heap[l]? = some (rec .busy none) ∧ R (.returned (.bool false)) (W.putObj l (rec .done (some (.goto t))))
  | .panic _, _, _ => False
  | .outgrown, _, _ => False
theorem yield_wide {P : Program} {fn : FuncId} {tmps : Array Value} {ps : Array Tmp} {assign body : Code} {D l m : Nat} {args : Array Value} {W : World} {R : Ending → World → Prop}
    (hl : W.heap[l]? = some (recOf fn tmps ps assign body D .ready none)) (hs : args.size = ps.size)
    (h : assign.wpIn (Fence.wide.inRound l) m P (Exit.then (fun a1 W1 => W1.heap[l]? = some (recOf fn tmps ps assign body D .ready none) ∧
        body.wpIn (Fence.wide.inRound l) m P (roundOut l (recOf fn tmps ps assign body D) R) a1 (W1.putObj l (recOf fn tmps ps assign body D .busy none))) (fun _ _ _ => False))
      { tmps := (ps.zip args).foldl (fun t (p, v) => t.setIfInBounds p v) tmps, defers := [] } W) :
    YieldAt Fence.wide m P l args W R := by
  have hy := run_yield (P := P) (args := args) hl hs
  refine ⟨fn, _, assign, body, hy, roundIn_of_wpIn trivial (wpIn_mono h ?_)⟩
  intro e a1 W1 hq
  cases e with
  | normal =>
    obtain ⟨hl1, hb⟩ := hq
    refine ⟨_, run_beginRound hl1 rfl, wpIn_mono hb ?_⟩
    intro e a3 W3 hp
    cases e with
    | normal => exact ⟨_, _, run_endRound none hp.1, hp.2⟩
    | ret => exact ⟨_, _, run_endRound (some .ret) hp.1, hp.2⟩
    | exit id => exact ⟨_, _, run_endRound (some (.exit id)) hp.1, hp.2⟩
    | goto t => exact ⟨_, _, run_endRound (some (.goto t)) hp.1, hp.2⟩
    | panic ch => exact hp.elim
    | outgrown => exact hp.elim
  | ret => exact hq.elim
  | exit id => exact hq.elim
  | goto t => exact hq.elim
  | panic ch => exact hq.elim
  | outgrown => exact hq.elim
/-- One round, the record under a name. -/
theorem yield_rec {P : Program} {fn : FuncId} {tmps : Array Value} {ps : Array Tmp} {assign body : Code} {D l m : Nat} {rec : LoopState → Option Code → Obj} {args : Array Value} {W : World} {R : Ending → World → Prop}
    (hrec : rec = recOf fn tmps ps assign body D) (hl : W.heap[l]? = some (rec .ready none)) (hs : args.size = ps.size)
    (h : assign.wpIn (Fence.wide.inRound l) m P (Exit.then (fun a1 W1 => W1.heap[l]? = some (rec .ready none) ∧
        body.wpIn (Fence.wide.inRound l) m P (roundOut l rec R) a1 (W1.putObj l (rec .busy none))) (fun _ _ _ => False))
      { tmps := (ps.zip args).foldl (fun t (p, v) => t.setIfInBounds p v) tmps, defers := [] } W) :
    YieldAt Fence.wide m P l args W R := by
  subst hrec
  exact yield_wide hl hs h
theorem endLoop_rec {P : Program} {fn : FuncId} {tmps : Array Value} {ps : Array Tmp} {assign body : Code} {D l : Nat} {st : LoopState} {pe : Option Code} {W : World} (h : W.heap[l]? = some (recOf fn tmps ps assign body D st pe)) (hb : st ≠ .busy) :
    (Instr.endLoop l).run P W = .ok pe (W.putObj l (recOf fn tmps ps assign body D .exhausted pe)) :=
  run_endLoop (r := { state := st, pending := pe, fn, tmps, params := ps, assign, body, defers := D }) h hb
theorem range_wide {P : Program} {n : Nat} {g : Operand} {ps : Array Tmp} {assign body : Code} {Q : Exit → Act → World → Prop} {a : Act} {w : World}
    {gf : Nat} {lb : Array Value} (hg : a.eval g = .func (.func gf) #[] lb) (eg : ∀ args w, (callFunc gf args).run P w = .ok (.enter gf args) w)
    (hcall : ∀ fn, Calls P gf (#[.func (.yield (w.heap.size + 1)) #[] #[]] ++ lb) ((w.alloc (.deferred (some []))).alloc (recOf fn a.tmps ps assign body w.heap.size .ready none)) (fun e W2 => (∃ v, e = .returned v) ∧
      ((W2.heap[w.heap.size + 1]? = some (recOf fn a.tmps ps assign body w.heap.size .ready none) ∧
        Q .normal { a with defers := { target := .collected w.heap.size, args := #[] } :: a.defers } (W2.putObj (w.heap.size + 1) (recOf fn a.tmps ps assign body w.heap.size .exhausted none))) ∨
       ∃ c, W2.heap[w.heap.size + 1]? = some (recOf fn a.tmps ps assign body w.heap.size .done (some c)) ∧
        c.wpIn Fence.wide n P Q { a with defers := { target := .collected w.heap.size, args := #[] } :: a.defers } (W2.putObj (w.heap.size + 1) (recOf fn a.tmps ps assign body w.heap.size .exhausted (some c)))))) :
    (Code.rangeFunc g ps assign body).wpIn Fence.wide n P Q a w := by
  refine wpIn_rangeFunc ?_
  intro fn _
  have hc := hcall fn
  obtain ⟨W1, hW1⟩ : ∃ W1, (w.alloc (.deferred (some []))).alloc (recOf fn a.tmps ps assign body w.heap.size .ready none) = W1 := ⟨_, rfl⟩
  rw [hW1] at hc
  refine ⟨w.heap.size + 1, [{ target := .collected w.heap.size, args := #[] }], W1, { target := .fn (.func gf) lb, args := #[.func (.yield (w.heap.size + 1)) #[] #[]] }, W1, gf,
    #[.func (.yield (w.heap.size + 1)) #[] #[]] ++ lb, W1, ?_, ?_, ?_, ?_, ?_, ?_⟩
  · rw [← hW1]; exact run_enterLoop_outer _ _ _ _ _
  · simp only [resolve, hg]
    simp [go_sem]
  · intro f' hf'; exact trivial
  · simp [invoke, go_sem, eg]
  · intro h; cases h
  · refine callsIn_wide.2 (hc.mono ?_)
    rintro e W2 ⟨⟨v, rfl⟩, (⟨hl, hq⟩ | ⟨c, hl, hq⟩)⟩
    · exact ⟨none, _, endLoop_rec hl (by decide), hq⟩
    · exact ⟨some c, _, endLoop_rec hl (by decide), hq⟩
/-- The statement, the record under a name. -/
theorem range_rec {P : Program} {n : Nat} {g : Operand} {ps : Array Tmp} {assign body : Code} {Q : Exit → Act → World → Prop} {a : Act} {w : World}
    {gf : Nat} {lb : Array Value} (hg : a.eval g = .func (.func gf) #[] lb) (eg : ∀ args w, (callFunc gf args).run P w = .ok (.enter gf args) w)
    (hcall : ∀ fn rec, rec = recOf fn a.tmps ps assign body w.heap.size → Calls P gf (#[.func (.yield (w.heap.size + 1)) #[] #[]] ++ lb) ((w.alloc (.deferred (some []))).alloc (rec .ready none)) (fun e W2 => (∃ v, e = .returned v) ∧
      ((W2.heap[w.heap.size + 1]? = some (rec .ready none) ∧
        Q .normal { a with defers := { target := .collected w.heap.size, args := #[] } :: a.defers } (W2.putObj (w.heap.size + 1) (rec .exhausted none))) ∨
       ∃ c, W2.heap[w.heap.size + 1]? = some (rec .done (some c)) ∧
        c.wpIn Fence.wide n P Q { a with defers := { target := .collected w.heap.size, args := #[] } :: a.defers } (W2.putObj (w.heap.size + 1) (rec .exhausted (some c)))))) :
    (Code.rangeFunc g ps assign body).wpIn Fence.wide n P Q a w :=
  range_wide hg eg (fun fn => hcall fn _ rfl)
/-- A region that draws its order, by what holds at each stage whatever the order. -/
theorem wpAnyIn_inv {F : Fence} {n : Nat} {P : Program} {ops : Array Oper} {Q : Exit → Act → World → Prop} (I : Nat → Array Bool → Act → World → Prop)
    (hz : ∀ L a w, I 0 L a w → Region.ready .any ops L = [] ∧ Q .normal a w)
    (hs : ∀ k L a w, I (k + 1) L a w → Region.ready .any ops L ≠ [] ∧ ∀ i ∈ Region.ready .any ops L, ∀ K : Act → World → Prop, (∀ a w, I k (L.setIfInBounds i true) a w → K a w) → wpOpIn F n P ops Q i K a w) :
    ∀ k L a w, I k L a w → wpAnyIn F n P .any ops Q k L a w := by
  intro k
  induction k with
  | zero => exact fun L a w h => hz L a w h
  | succ k ih =>
    intro L a w h
    obtain ⟨h1, h2⟩ := hs k L a w h
    exact ⟨fun e => absurd e h1, fun i hi => h2 i hi _ (fun a w hI => ih _ a w hI)⟩
theorem region_inv {F : Fence} {n : Nat} {P : Program} {id : Nat} {ops : Array Oper} {Q : Exit → Act → World → Prop} {a : Act} {w : World} (hm : P.follows .mixedOrders = true) (I : Nat → Array Bool → Act → World → Prop)
    (h0 : I ops.size (Array.replicate ops.size false) a w.drew)
    (hz : ∀ L a w, I 0 L a w → Region.ready .any ops L = [] ∧ Q .normal a w)
    (hs : ∀ k L a w, I (k + 1) L a w → Region.ready .any ops L ≠ [] ∧ ∀ i ∈ Region.ready .any ops L, ∀ K : Act → World → Prop, (∀ a w, I k (L.setIfInBounds i true) a w → K a w) → wpOpIn F n P ops Q i K a w) :
    (Code.region id ops true).wpIn F n P Q a w :=
  wpIn_region_any hm (wpAnyIn_inv I hz hs _ _ _ _ h0)
/-- The same outside a fence. -/
theorem wpAny_inv {P : Program} {ops : Array Oper} {Q : Exit → Act → World → Prop} (I : Nat → Array Bool → Act → World → Prop)
    (hz : ∀ L a w, I 0 L a w → Region.ready .any ops L = [] ∧ Q .normal a w)
    (hs : ∀ k L a w, I (k + 1) L a w → Region.ready .any ops L ≠ [] ∧ ∀ i ∈ Region.ready .any ops L, ∀ K : Act → World → Prop, (∀ a w, I k (L.setIfInBounds i true) a w → K a w) → wpOp P ops Q i K a w) :
    ∀ k L a w, I k L a w → wpAny P .any ops Q k L a w := by
  intro k
  induction k with
  | zero => exact fun L a w h => hz L a w h
  | succ k ih =>
    intro L a w h
    obtain ⟨h1, h2⟩ := hs k L a w h
    exact ⟨fun e => absurd e h1, fun i hi => h2 i hi _ (fun a w hI => ih _ a w hI)⟩
theorem wp_region_inv {P : Program} {id : Nat} {ops : Array Oper} {Q : Exit → Act → World → Prop} {a : Act} {w : World} (hm : P.follows .mixedOrders = true) (I : Nat → Array Bool → Act → World → Prop)
    (h0 : I ops.size (Array.replicate ops.size false) a w.drew)
    (hz : ∀ L a w, I 0 L a w → Region.ready .any ops L = [] ∧ Q .normal a w)
    (hs : ∀ k L a w, I (k + 1) L a w → Region.ready .any ops L ≠ [] ∧ ∀ i ∈ Region.ready .any ops L, ∀ K : Act → World → Prop, (∀ a w, I k (L.setIfInBounds i true) a w → K a w) → wpOp P ops Q i K a w) :
    (Code.region id ops true).wp P Q a w :=
  wp_region_any hm (wpAny_inv I hz hs _ _ _ _ h0)
/-- A cell stands while an object that is no row of cells is put. -/
theorem put_cell {W : World} {r : Nat} {o o' : Obj} {a : Addr} {v : Value} (h : W.cell? a = some v) (hr : W.heap[r]? = some o) (ho : o.isCells = false) : (W.putObj r o').cell? a = some v :=
  cell_kept h (grownBy_putObj' W r o') (fun _ e => by cases e; exact ⟨o, hr, ho⟩)
theorem put_frozen {W : World} {r : Nat} {o o' : Obj} {a : Addr} {v : Value} {f : Bool} (h : W.cell? a = some v) (hf : W.frozen? a = f) (hr : W.heap[r]? = some o) (ho : o.isCells = false) : (W.putObj r o').frozen? a = f :=
  (frozen_kept h (grownBy_putObj' W r o') (fun _ e => by cases e; exact ⟨o, hr, ho⟩)).trans hf
end Go.Proofs.YtgpndifkkaomcaaDoor
