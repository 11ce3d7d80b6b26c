/- Blocks that are known whole, carried as one state; the laws that load and store whole blocks; facts for regions. -/
import Derived.Test.YthllacodjeocmaaGreatDoorR2
import Derived.Test.YthllacodjeocmaaGreatDoorExt
import Derived.Deep.MidRow
namespace Go.Proofs.YthllacodjeocmaaGreatDoor
open Go.RowKit
/-- What is known of a world: the library's variables, the frame, and some blocks whole. -/
structure St (bs : List (Nat × Array Value × TypeId)) (w W : World) : Prop where
  g : GlobM W
  b : Below w.heap.size w W
  h : ∀ x ∈ bs, W.heap[x.1]? = some (.cells x.2.1 x.2.2)
theorem blk_lt {W : World} {b : Nat} {o : Obj} (h : W.heap[b]? = some o) : b < W.heap.size := by
  rcases Nat.lt_or_ge b W.heap.size with h' | h'
  · exact h'
  · rw [Array.getElem?_eq_none h'] at h; cases h
theorem blk_next {W W' : World} {b : Nat} {o : Obj} (h : W.heap[b]? = some o) (hb : Below W.heap.size W W') : W'.heap[b]? = some o := (hb.block b (blk_lt h)).trans h
section
variable {bs : List (Nat × Array Value × TypeId)} {w W W' : World}
theorem St.start (hG : GlobM w) : St [] w w := ⟨hG, Below.refl _ _, fun _ h => by cases h⟩
theorem St.next (h : St bs w W) (hb : Below W.heap.size W W') : St bs w W' := ⟨h.g.next hb, h.b.trans (hb.mono h.b.size), fun x hx => blk_next (h.h x hx) hb⟩
theorem St.drew (h : St bs w W) : St bs w W.drew := h.next ⟨rfl, rfl, rfl, Nat.le_refl _, fun _ _ => rfl⟩
theorem St.allocO (h : St bs w W) (o : Obj) : St bs w (W.alloc o) := h.next ((Below.refl _ _).alloc (Nat.le_refl _) o)
theorem St.alloc (h : St bs w W) (C : Array Value) (T : TypeId) : St ((W.heap.size, C, T) :: bs) w (W.alloc (.cells C T)) :=
  ⟨(h.allocO _).g, (h.allocO _).b, fun x hx => by
    rcases List.mem_cons.1 hx with rfl | hx
    · exact heap_alloc_new W _
    · exact (h.allocO _).h x hx⟩
theorem St.sub {bs' : List (Nat × Array Value × TypeId)} (h : St bs w W) (hs : ∀ x ∈ bs', x ∈ bs) : St bs' w W := ⟨h.g, h.b, fun x hx => h.h x (hs x hx)⟩
theorem St.only {b : Nat} {C C' : Array Value} {T : TypeId} (h : St ((b, C, T) :: bs) w W) (ho : OnlyC b W W') (hb : w.heap.size ≤ b) (h7 : 5 ≤ b) (hne : ∀ x ∈ bs, x.1 ≠ b) (hn : W'.heap[b]? = some (.cells C' T)) : St ((b, C', T) :: bs) w W' := by
  have hB := ho.below (B := b) (Nat.le_refl _)
  refine ⟨h.g.below hB h7, h.b.trans (hB.mono hb), fun x hx => ?_⟩
  rcases List.mem_cons.1 hx with rfl | hx
  · exact hn
  · exact (ho.block _ (hne x hx)).trans (h.h x (by simp [hx]))
end
theorem setCells_only (b o : Nat) : ∀ (vs : List Value) (W : World), OnlyC b W (W.setCells b o vs)
  | vs, W => by
    induction vs generalizing o W with
    | nil => exact ⟨rfl, rfl, rfl, rfl, fun _ _ => rfl⟩
    | cons v vs ih =>
      have h := ih (o + 1) (W.setCell ⟨b, o, none⟩ v)
      exact ⟨h.os, h.tape, h.output, h.size.trans (by simp [World.setCell]), fun k hk => (h.block k hk).trans (Below.heap_setCell _ _ _ _ hk)⟩
theorem setCells_heap (b : Nat) (T : TypeId) : ∀ (vs : List Value) (o : Nat) (pre old : List Value) (W : World), pre.length = o → old.length = vs.length → W.heap[b]? = some (.cells (pre ++ old).toArray T) → (W.setCells b o vs).heap[b]? = some (.cells (pre ++ vs).toArray T)
  | [], o, pre, old, W, _, hl, h => by
    have : old = [] := List.eq_nil_of_length_eq_zero hl
    subst this
    exact h
  | v :: vs, o, pre, [], W, _, hl, h => by simp at hl
  | v :: vs, o, pre, x :: old, W, hp, hl, h => by
    have h1 := heap_set (i := o) h v
    have h2 : ((pre ++ x :: old).toArray.setIfInBounds o v) = ((pre ++ [v]) ++ old).toArray := by
      subst hp
      apply Array.toList_inj.1
      simp
    rw [h2] at h1
    have h3 := setCells_heap b T vs (o + 1) (pre ++ [v]) old _ (by simp [hp]) (by simpa using hl) h1
    rw [show (pre ++ [v]) ++ vs = pre ++ v :: vs by simp] at h3
    exact h3
section
variable {P : Program} {ops : Array Oper} {rest : List Oper} {o : Oper} {a : Act} {W : World} {Q : Exit → Act → World → Prop}
/-- A store into a block that is known whole. -/
theorem wpl_store (hgd : o.guard = none) (T : TypeId) (x y : Operand) (ho : o.op = .store T x y) (b : Nat) (C C' : Array Value) (hx : a.eval x = .pointer (some ⟨b, 0, none⟩)) (hy : a.eval y = .agg C')
    (hW : W.heap[b]? = some (.cells C T)) (hs : C.size = C'.size) (hi : (P.info? T).map (·.size) = some C'.size) (h1 : C'.all (·.oneCell') = true)
    (k : ∀ W', OnlyC b W W' → W'.heap[b]? = some (.cells C' T) → wpList P ops Q rest (a.put o.dst undef) W') : wpList P ops Q (o :: rest) a W := by
  refine wpList_store_mid hgd T x y ho b 0 C' hx hy (fun j hj => ⟨?_, ?_⟩) hi h1 (k _ (setCells_only b 0 _ W) ?_)
  · rw [cell_of_heap hW, Nat.zero_add, Array.getElem?_eq_getElem (by omega)]; rfl
  · exact free_of_heap hW
  · have := setCells_heap b T C'.toList 0 [] C.toList W rfl (by simpa using hs) (by simpa using hW)
    simpa using this
end
/-- What is known of a value in a world, whatever is made beside it. -/
structure Fact where
  p : Value → World → Prop
  st : ∀ v w w', Below w.heap.size w w' → p v w → p v w'
def isV (c : Value) : Fact := ⟨fun v _ => v = c, fun _ _ _ _ h => h⟩
def anyF : Fact := ⟨fun _ _ => True, fun _ _ _ _ h => h⟩
def bytesF (l : List UInt8) : Fact := ⟨fun v W => ∃ g cap, v = .slice (some ⟨g, 0, none⟩) l.length cap ∧ BytesAt W g l, fun _ _ _ hb ⟨g, cap, e, h⟩ => ⟨g, cap, e, h.below hb⟩⟩
def FF (fs : List Fact) (i : Nat) (v : Value) (w : World) : Prop := (fs.getD i anyF).p v w
theorem FF_st (fs : List Fact) (S : World → Prop) : ∀ i v w w', S w → S w' → Below w.heap.size w w' → FF fs i v w → FF fs i v w' := fun i v w w' _ _ hb h => (fs.getD i anyF).st v w w' hb h
section
variable {P : Program} {Q : Exit → Act → World → Prop} {base : Array Value} {ds : List Deferred} {D : List Bool} {S : World → Prop} {fs : List Fact} {u : Nat → Value} {w : World} {i : Nat} {o : Oper}
abbrev RB (w w' : World) : Prop := Below w.heap.size w w'
/-- An operation that gives a value and leaves the world. -/
theorem ext_val {v : Value} (hS : S w) (h : (execOp (⟨frm base D u, ds⟩ : Act).eval o).run P w = .ok (.value v) w) (hF : FO (FF fs) i o v w) : o.wp P ⟨frm base D u, ds⟩ w (StepK base ds D S RB (FF fs) u w i o) Q := by
  unfold Oper.wp
  rw [h]
  exact ⟨v, rfl, hF, hS, Below.refl _ _⟩
/-- An operation that gives a value and makes memory. -/
theorem ext_new {v : Value} {w' : World} (h : (execOp (⟨frm base D u, ds⟩ : Act).eval o).run P w = .ok (.value v) w') (hS : S w') (hb : Below w.heap.size w w') (hF : FO (FF fs) i o v w') : o.wp P ⟨frm base D u, ds⟩ w (StepK base ds D S RB (FF fs) u w i o) Q := by
  unfold Oper.wp
  rw [h]
  exact ⟨v, rfl, hF, hS, hb⟩
/-- A call. -/
theorem ext_call {f : FuncId} {args : Array Value} (h : (execOp (⟨frm base D u, ds⟩ : Act).eval o).run P w = .ok (.enter f args) w)
    (hc : Calls P f args w fun e w' => ∃ v, e = .returned v ∧ FO (FF fs) i o v w' ∧ S w' ∧ Below w.heap.size w w') : o.wp P ⟨frm base D u, ds⟩ w (StepK base ds D S RB (FF fs) u w i o) Q := by
  unfold Oper.wp
  rw [h]
  refine Calls.mono hc ?_
  rintro e w' ⟨v, rfl, hF, hS, hb⟩
  exact ⟨v, rfl, hF, hS, hb⟩
theorem eval_in {t n : Nat} (h : D.getD t false = true) (hn : base.size = n) (hs : decide (t < n) = true) : (⟨frm base D u, ds⟩ : Act).eval (.tmp t) = u t := by
  show (frm base D u).getD t undef = u t
  have hs := of_decide_eq_true hs
  rw [Array.getD_eq_getD_getElem?, frm_at, if_pos h, Array.getElem?_eq_getElem (by omega)]
  rfl
theorem eval_out {t : Nat} (h : D.getD t false = false) : (⟨frm base D u, ds⟩ : Act).eval (.tmp t) = base.getD t undef := by
  show (frm base D u).getD t undef = _
  rw [Array.getD_eq_getD_getElem?, frm_at, if_neg (fun e => by rw [h] at e; cases e), Array.getD_eq_getD_getElem?]
theorem wanted_free {ops : Array Oper} (hg : o.guard = none) : Region.wanted o (yielded ops (frm base D u)) = true := by
  unfold Region.wanted
  rw [hg]
theorem yielded_in {ops : Array Oper} {j d n : Nat} {b : Bool} (hj : (ops[j]?).bind (·.dst) = some d) (h : D.getD d false = true) (hn : base.size = n) (hs : decide (d < n) = true) (hu : u d = .bool b) : yielded ops (frm base D u) j = some b := by
  have hs := of_decide_eq_true hs
  unfold yielded
  rw [hj, Option.bind_some, frm_at, if_pos h, Array.getElem?_eq_getElem (by omega)]
  simp [hu]
theorem wanted_on {ops : Array Oper} {j d n : Nat} {b : Bool} (hg : o.guard = some (j, b)) (hj : (ops[j]?).bind (·.dst) = some d) (h : D.getD d false = true) (hn : base.size = n) (hs : decide (d < n) = true) (hu : u d = .bool b) :
    Region.wanted o (yielded ops (frm base D u)) = true := by
  unfold Region.wanted
  rw [hg]
  show (yielded ops (frm base D u) j == some b) = true
  rw [yielded_in hj h hn hs hu]
  cases b <;> rfl
theorem wanted_off {ops : Array Oper} {j d n : Nat} {b : Bool} (hg : o.guard = some (j, b)) (hj : (ops[j]?).bind (·.dst) = some d) (h : D.getD d false = true) (hn : base.size = n) (hs : decide (d < n) = true) (hu : u d = .bool (!b)) :
    ¬ Region.wanted o (yielded ops (frm base D u)) = true := by
  unfold Region.wanted
  rw [hg]
  show ¬ (yielded ops (frm base D u) j == some b) = true
  rw [yielded_in hj h hn hs hu]
  cases b <;> decide
theorem steps_nil {ops : Array Oper} {R : World → World → Prop} {F : Nat → Value → World → Prop} : Steps P ops Q base ds D S R F i [] := trivial
theorem steps_cons {ops : Array Oper} {R : World → World → Prop} {F : Nat → Value → World → Prop} {l : List Oper} (h : StepOk P ops Q base ds D S R F i o) (hl : Steps P ops Q base ds D S R F (i + 1) l) : Steps P ops Q base ds D S R F i (o :: l) := ⟨h, hl⟩
end
section
variable {P : Program} {ev : Operand → Value} {o : Oper} {w w' : World}
theorem run_mv {x : Operand} {v : Value} (ho : o.op = .move x) (hx : ev x = v) : (execOp ev o).run P w = .ok (.value v) w := by unfold execOp; simp only [ho, hx]; rfl
theorem run_asg {x : Operand} {v : Value} (ho : o.op = .assign x) (hx : ev x = v) : (execOp ev o).run P w = .ok (.value v) w := by unfold execOp; simp only [ho, hx]; rfl
theorem run_pick {c x y : Operand} {b : Bool} {v : Value} (ho : o.op = .pick c x y) (hc : ev c = .bool b) (hv : (if b then ev x else ev y) = v) : (execOp ev o).run P w = .ok (.value v) w := by
  unfold execOp; simp only [ho, hc, ← hv]; rfl
theorem run_pickT {c x y : Operand} {v : Value} (ho : o.op = .pick c x y) (hc : ev c = .bool true) (hv : ev x = v) : (execOp ev o).run P w = .ok (.value v) w := by
  unfold execOp; simp only [ho, hc, ← hv]; rfl
theorem run_pickF {c x y : Operand} {v : Value} (ho : o.op = .pick c x y) (hc : ev c = .bool false) (hv : ev y = v) : (execOp ev o).run P w = .ok (.value v) w := by
  unfold execOp; simp only [ho, hc, ← hv]; rfl
theorem map0 : (#[] : Array Operand).map ev = #[] := by simp
theorem map1 {x : Operand} {a : Value} (h : ev x = a) : (#[x] : Array Operand).map ev = #[a] := by simp [h]
theorem map2 {x y : Operand} {a b : Value} (h : ev x = a) (h2 : ev y = b) : (#[x, y] : Array Operand).map ev = #[a, b] := by simp [h, h2]
theorem map3 {x y z : Operand} {a b c : Value} (h : ev x = a) (h2 : ev y = b) (h3 : ev z = c) : (#[x, y, z] : Array Operand).map ev = #[a, b, c] := by simp [h, h2, h3]
theorem run_bin {op : BinOp} {T T2 : TypeId} {x y : Operand} {a b v : Value} (ho : o.op = .binOp op T x y T2) (hx : ev x = a) (hy : ev y = b) (hg : (eqGuard op T x y a b).run P w = .ok () w) (hb : (binOp op T a b).run P w = .ok v w) : (execOp ev o).run P w = .ok (.value v) w := by
  unfold execOp; simp only [ho, hx, hy, Sem.run_bind, hg, hb, Result.andThen_ok, Sem.run_pure]
theorem run_un {op : UnOp} {T : TypeId} {x : Operand} {a v : Value} (ho : o.op = .unOp op T x) (hx : ev x = a) (hb : (Op.unary op a).run P w = .ok v w) : (execOp ev o).run P w = .ok (.value v) w := by
  unfold execOp; simp only [ho, hx, Sem.run_bind, hb, Result.andThen_ok, Sem.run_pure]
theorem run_conv {S T : TypeId} {x : Operand} {a v : Value} (ho : o.op = .convert S T x) (hx : ev x = a) (hb : (convert S T a).run P w = .ok v w) : (execOp ev o).run P w = .ok (.value v) w := by
  unfold execOp; simp only [ho, hx, Sem.run_bind, hb, Result.andThen_ok, Sem.run_pure]
theorem run_ld {T : TypeId} {x : Operand} {p : Addr} {v : Value} (ho : o.op = .load T x) (hx : ev x = .pointer (some p)) (hb : (loadVar T p).run P w = .ok v w) : (execOp ev o).run P w = .ok (.value v) w := by
  unfold execOp; simp only [ho, hx, Instr.loadAt, Instr.sureAddr, Sem.run_bind, Sem.run_pure, hb, Result.andThen_ok]
theorem run_bld {T : TypeId} {ps : Array (Nat × Operand)} {v : Value} (ho : o.op = .build T ps) (hb : (Instr.build T (ps.map fun (i, x) => (i, ev x))).run P w = .ok v w) : (execOp ev o).run P w = .ok (.value v) w := by
  unfold execOp; simp only [ho, Sem.run_bind, hb, Result.andThen_ok, Sem.run_pure]
theorem run_fa {T : TypeId} {x : Operand} {n : Nat} {a v : Value} (ho : o.op = .fieldAddr T x n) (hx : ev x = a) (hb : (Instr.fieldAt T a n).run P w = .ok v w) : (execOp ev o).run P w = .ok (.value v) w := by
  unfold execOp; simp only [ho, hx, Sem.run_bind, hb, Result.andThen_ok, Sem.run_pure]
theorem run_ia {T : TypeId} {x i : Operand} {a b v : Value} (ho : o.op = .indexAddr T x i) (hx : ev x = a) (hy : ev i = b) (hb : (Instr.indexAt T a b).run P w = .ok v w) : (execOp ev o).run P w = .ok (.value v) w := by
  unfold execOp; simp only [ho, hx, hy, Sem.run_bind, hb, Result.andThen_ok, Sem.run_pure]
theorem run_call {f : FuncId} {args : Array Operand} {ts : Array TypeId} {vs : Array Value} {fn : Func} (ho : o.op = .call { callee := .value (.func f), args := args, argTypes := ts }) (hev : ev (.func f) = .func (.func f) #[] #[]) (ha : args.map ev = vs)
    (hf : P.funcs[f]? = some fn) (h1 : (fn.name == "runtime.NumGoroutine") = false) (h2 : fn.body.isNone = false) : (execOp ev o).run P w = .ok (.enter f vs) w := by
  unfold execOp
  simp only [ho, resolve, hev, ha, Deferred.ofValue, Sem.run_bind, Sem.run_pure, Result.andThen_ok, invoke, callFunc]
  have h1' : ¬ fn.name = "runtime.NumGoroutine" := beq_eq_false_iff_ne.1 h1
  have h2' : ¬ fn.body = none := fun e => by rw [e] at h2; cases h2
  simp [go_sem, hf, h1', h2']
end
/-- One operation of a plain region that gives a value and leaves the world. -/
theorem wpl_val {P : Program} {ops : Array Oper} {rest : List Oper} {o : Oper} {a : Act} {W : World} {Q : Exit → Act → World → Prop} {v : Value} (hw : Region.wanted o (yielded ops a.tmps) = true) (h : (execOp a.eval o).run P W = .ok (.value v) W) (k : wpList P ops Q rest (a.put o.dst v) W) : wpList P ops Q (o :: rest) a W := by
  unfold wpList
  rw [if_pos hw]
  refine .inl ?_
  unfold Oper.wp
  rw [h]
  exact k
theorem step_on {p a b : Prop} [Decidable p] (h : p) (ha : a) : if p then a else b := by rw [if_pos h]; exact ha
theorem step_off {p a b : Prop} [Decidable p] (h : ¬ p) (hb : b) : if p then a else b := by rw [if_neg h]; exact hb
end Go.Proofs.YthllacodjeocmaaGreatDoor
