/- A region that draws its order, by what each operation gives whatever ran before it: one obligation an operation. Over any program. -/
import Derived.Orders
import Derived.Tactics
namespace Go.Proofs.YthllacodjeocmaaGreatDoor
/-- The frame in which the slots of the mask are letters. -/
def frmL (u : Nat → Value) : Nat → List Bool → List Value → List Value
  | i, true :: ds, _ :: l => u i :: frmL u (i + 1) ds l
  | i, false :: ds, b :: l => b :: frmL u (i + 1) ds l
  | _, [], l => l
  | _, _ :: _, [] => []
def frm (base : Array Value) (D : List Bool) (u : Nat → Value) : Array Value := (frmL u 0 D base.toList).toArray
def upd (u : Nat → Value) (d : Nat) (v : Value) : Nat → Value := fun t => if t = d then v else u t
theorem frmL_at (u : Nat → Value) : ∀ (D : List Bool) (l : List Value) (i j : Nat), (frmL u i D l)[j]? = if D.getD j false = true then (l[j]?).map (fun _ => u (i + j)) else l[j]?
  | [], l, i, j => by cases l <;> simp [frmL]
  | d :: D, [], i, j => by cases d <;> simp [frmL]
  | true :: D, b :: l, i, 0 => by simp [frmL]
  | false :: D, b :: l, i, 0 => by simp [frmL]
  | true :: D, b :: l, i, j + 1 => by
    have := frmL_at u D l (i + 1) j
    simp only [frmL, List.getElem?_cons_succ, List.getD_cons_succ, this]
    rw [show i + 1 + j = i + (j + 1) by omega]
  | false :: D, b :: l, i, j + 1 => by
    have := frmL_at u D l (i + 1) j
    simp only [frmL, List.getElem?_cons_succ, List.getD_cons_succ, this]
    rw [show i + 1 + j = i + (j + 1) by omega]
theorem frm_at (base : Array Value) (D : List Bool) (u : Nat → Value) (j : Nat) : (frm base D u)[j]? = if D.getD j false = true then (base[j]?).map (fun _ => u j) else base[j]? := by
  unfold frm
  rw [List.getElem?_toArray, frmL_at, Nat.zero_add, Array.getElem?_toList]
theorem frm_put {base : Array Value} {D : List Bool} {u : Nat → Value} {d : Nat} (v : Value) (hd : D.getD d false = true) : (frm base D u).setIfInBounds d v = frm base D (upd u d v) := by
  apply Array.ext_getElem?
  intro i
  rw [Array.getElem?_setIfInBounds, frm_at, frm_at]
  by_cases h : d = i
  · subst h
    rw [if_pos rfl, if_pos hd]
    have hsz : (frm base D u).size = base.size := by
      have := frm_at base D u
      apply Nat.le_antisymm
      · rcases Nat.lt_or_ge base.size (frm base D u).size with h | h
        · have h1 := this base.size
          rw [Array.getElem?_eq_getElem h, Array.getElem?_eq_none (Nat.le_refl _)] at h1
          simp at h1
        · exact h
      · rcases Nat.lt_or_ge (frm base D u).size base.size with h | h
        · have h1 := this (frm base D u).size
          rw [Array.getElem?_eq_getElem h, Array.getElem?_eq_none (Nat.le_refl _)] at h1
          split at h1 <;> simp at h1
        · exact h
    rw [hsz]
    by_cases hb : d < base.size
    · rw [if_pos hb, Array.getElem?_eq_getElem hb]; simp [upd]
    · rw [if_neg hb, Array.getElem?_eq_none (by omega)]; rfl
  · have h' : ¬ i = d := fun e => h e.symm
    simp only [if_neg h, upd, if_neg h']
/-- The edges that bind. -/
def pred (o : Oper) : List Edge := o.after.toList.filter fun e => Region.binds .any e
section
variable (P : Program) (ops : Array Oper) (Q : Exit → Act → World → Prop) (base : Array Value) (ds : List Deferred) (D : List Bool)
variable (S : World → Prop) (R : World → World → Prop) (F : Nat → Value → World → Prop)
/-- What the direct predecessors have given. -/
def Pre (u : Nat → Value) (w : World) : List Edge → Prop
  | [] => True
  | e :: es => (match (ops[e.on]?).bind (·.dst) with | some d => F e.on (u d) w | none => True) ∧ Pre u w es
def FO (i : Nat) (o : Oper) (v : Value) (w : World) : Prop := match o.dst with | some _ => F i v w | none => True
def StepK (u : Nat → Value) (w : World) (i : Nat) (o : Oper) (a' : Act) (w' : World) : Prop := ∃ v, a' = (⟨frm base D u, ds⟩ : Act).put o.dst v ∧ FO F i o v w' ∧ S w' ∧ R w w'
def StepOk (i : Nat) (o : Oper) : Prop := ∀ u w, S w → Pre ops F u w (pred o) →
  if Region.wanted o (yielded ops (frm base D u)) = true then o.wp P ⟨frm base D u, ds⟩ w (StepK base ds D S R F u w i o) Q else FO F i o undef w
def Steps : Nat → List Oper → Prop
  | _, [] => True
  | i, o :: l => StepOk P ops Q base ds D S R F i o ∧ Steps (i + 1) l
def AllF (u : Nat → Value) (w : World) : Nat → List Oper → Prop
  | _, [] => True
  | i, o :: l => (match o.dst with | some d => F i (u d) w | none => True) ∧ AllF u w (i + 1) l
end
/-- What the tables of the region must be, reckoned. -/
def extOk (ops : Array Oper) (D : List Bool) (m : Nat) : Bool :=
  ((List.range ops.size).all fun i => match ops[i]? with
    | some o => ((pred o).all fun e => decide (e.on < i)) &&
        (decide (m ≤ i) || match o.dst with
          | some d => D.getD d false && (List.range m).all fun j => j == i || (ops[j]?).bind (·.dst) != some d
          | none => true) &&
        (decide (i ≤ m) || (pred o).any fun e => e.on == i - 1) &&
        (decide (m ≤ i) || decide (ops.size ≤ m) || (List.range (m + 1)).any fun k => decide (i < k) && match ops[k]? with | some o' => (pred o').any fun e => e.on == i | none => false)
    | none => true) && decide (m ≤ ops.size)
theorem steps_at {P : Program} {ops : Array Oper} {Q : Exit → Act → World → Prop} {base : Array Value} {ds : List Deferred} {D : List Bool} {S : World → Prop} {R : World → World → Prop} {F : Nat → Value → World → Prop} :
    ∀ (l : List Oper) (k : Nat), Steps P ops Q base ds D S R F k l → ∀ j o, l[j]? = some o → StepOk P ops Q base ds D S R F (k + j) o
  | [], _, _, j, o, h => by simp at h
  | x :: l, k, hs, 0, o, h => by simp at h; subst h; exact hs.1
  | x :: l, k, hs, j + 1, o, h => by
    have := steps_at l (k + 1) hs.2 j o (by simpa using h)
    rwa [show k + 1 + j = k + (j + 1) by omega] at this
theorem allF_of {F : Nat → Value → World → Prop} {u : Nat → Value} {w : World} : ∀ (l : List Oper) (k : Nat), (∀ j o d, l[j]? = some o → o.dst = some d → F (k + j) (u d) w) → AllF F u w k l
  | [], _, _ => trivial
  | x :: l, k, h => by
    refine ⟨?_, allF_of l (k + 1) fun j o d ho hd => ?_⟩
    · cases hx : x.dst with
      | none => trivial
      | some d => exact h 0 x d rfl hx
    · have := h (j + 1) o d (by simpa using ho) hd
      rwa [show k + 1 + j = k + (j + 1) by omega]
theorem pre_of {ops : Array Oper} {F : Nat → Value → World → Prop} {u : Nat → Value} {w : World} : ∀ (l : List Edge), (∀ e ∈ l, ∀ o d, ops[e.on]? = some o → o.dst = some d → F e.on (u d) w) → Pre ops F u w l
  | [], _ => trivial
  | e :: l, h => by
    refine ⟨?_, pre_of l fun e' he' => h e' (by simp [he'])⟩
    cases ho : ops[e.on]? with
    | none => simp
    | some o =>
      cases hd : o.dst with
      | none => simp [hd]
      | some d => simpa [hd] using h e (by simp) o d ho hd
def cntF (n : Nat) (L : Array Bool) : Nat := ((List.range n).filter fun i => !L.getD i true).length
theorem filter_lt {p q : Nat → Bool} : ∀ (l : List Nat) (_ : ∀ i, q i = true → p i = true) (i : Nat) (_ : i ∈ l) (_ : p i = true) (_ : q i = false), (l.filter q).length < (l.filter p).length
  | [], _, i, h, _, _ => by simp at h
  | x :: l, hpq, i, h, hp, hq => by
    have hle : ∀ l : List Nat, (l.filter q).length ≤ (l.filter p).length := fun l => by
      induction l with
      | nil => simp
      | cons y l ih =>
        by_cases hy : q y = true
        · rw [List.filter_cons_of_pos hy, List.filter_cons_of_pos (hpq y hy)]; simpa using ih
        · rw [List.filter_cons_of_neg hy]
          by_cases hy' : p y = true
          · rw [List.filter_cons_of_pos hy']; simp; omega
          · rw [List.filter_cons_of_neg hy']; exact ih
    rcases List.mem_cons.1 h with rfl | h'
    · rw [List.filter_cons_of_neg (by simp [hq]), List.filter_cons_of_pos hp]
      have := hle l
      simp; omega
    · have ih := filter_lt l hpq i h' hp hq
      by_cases hx : q x = true
      · rw [List.filter_cons_of_pos hx, List.filter_cons_of_pos (hpq x hx)]; simpa using ih
      · rw [List.filter_cons_of_neg hx]
        by_cases hx' : p x = true
        · rw [List.filter_cons_of_pos hx']; simp; omega
        · rw [List.filter_cons_of_neg hx']; exact ih
theorem getD_set (L : Array Bool) (i j : Nat) (b : Bool) (hi : i < L.size) : (L.setIfInBounds i true).getD j b = if i = j then true else L.getD j b := by
  simp only [Array.getD_eq_getD_getElem?, Array.getElem?_setIfInBounds]
  by_cases h : i = j
  · subst h; simp [hi]
  · simp [h]
theorem cnt_set {n : Nat} {L : Array Bool} {i : Nat} (hi : i < n) (hL : L.size = n) (h : L.getD i true = false) : cntF n (L.setIfInBounds i true) < cntF n L := by
  unfold cntF
  refine filter_lt _ (fun j hj => ?_) i (by simpa using hi) (by simp only [h]; rfl) ?_
  · rw [getD_set L i j true (by omega)] at hj
    by_cases e : i = j
    · simp [e] at hj
    · simpa [e] using hj
  · simp only [getD_set L i i true (by omega)]
    simp
section
variable {P : Program} {ops : Array Oper} {Q : Exit → Act → World → Prop} {D : List Bool} {m : Nat}
theorem ext_at (h : extOk ops D m = true) {i : Nat} {o : Oper} (ho : ops[i]? = some o) :
    (∀ e ∈ pred o, e.on < i) ∧
    (i < m → ∀ d, o.dst = some d → D.getD d false = true ∧ ∀ j, j < m → j ≠ i → (ops[j]?).bind (·.dst) ≠ some d) ∧
    (m < i → ∃ e ∈ pred o, e.on = i - 1) ∧
    (i < m → m < ops.size → ∃ k o', i < k ∧ k ≤ m ∧ ops[k]? = some o' ∧ ∃ e ∈ pred o', e.on = i) := by
  unfold extOk at h
  rw [Bool.and_eq_true] at h
  have hi : i < ops.size := by
    rcases Nat.lt_or_ge i ops.size with h' | h'
    · exact h'
    · rw [Array.getElem?_eq_none h'] at ho; cases ho
  have h1 := List.all_eq_true.1 h.1 i (by simpa using hi)
  simp only [ho, Bool.and_eq_true] at h1
  obtain ⟨⟨⟨a, b⟩, c⟩, d⟩ := h1
  refine ⟨fun e he => ?_, fun him dd hd => ?_, fun hmi => ?_, fun him hms => ?_⟩
  · have := List.all_eq_true.1 a e he
    rw [decide_eq_true_eq] at this
    exact this
  · rw [Bool.or_eq_true, decide_eq_true_eq] at b
    rcases b with b | b
    · omega
    · rw [hd] at b
      simp only [Bool.and_eq_true] at b
      refine ⟨b.1, fun j hj hne e => ?_⟩
      have := List.all_eq_true.1 b.2 j (by simpa using hj)
      rw [Bool.or_eq_true] at this
      rcases this with h' | h'
      · exact hne (by simpa using h')
      · rw [e] at h'; simp at h'
  · rw [Bool.or_eq_true, decide_eq_true_eq] at c
    rcases c with c | c
    · omega
    · obtain ⟨e, he, h'⟩ := List.any_eq_true.1 c
      exact ⟨e, he, by simpa using h'⟩
  · rw [Bool.or_eq_true, Bool.or_eq_true, decide_eq_true_eq, decide_eq_true_eq] at d
    rcases d with (d | d) | d
    · omega
    · omega
    · obtain ⟨k, hk, h'⟩ := List.any_eq_true.1 d
      rw [Bool.and_eq_true, decide_eq_true_eq] at h'
      cases hk' : ops[k]? with
      | none => rw [hk'] at h'; simp at h'
      | some o' =>
        rw [hk'] at h'
        obtain ⟨e, he, h''⟩ := List.any_eq_true.1 h'.2
        exact ⟨k, o', h'.1, by simp at hk; omega, hk', e, he, by simpa using h''⟩
theorem mem_ready {L : Array Bool} {i : Nat} (h : i ∈ Region.ready .any ops L) : ∃ o, ops[i]? = some o ∧ i < ops.size ∧ L.getD i true = false ∧ ∀ e ∈ pred o, L.getD e.on false = true := by
  unfold Region.ready at h
  rw [List.mem_filter, Bool.and_eq_true] at h
  obtain ⟨h1, h2, h3⟩ := h
  have hi : i < ops.size := by simpa using h1
  refine ⟨ops[i], Array.getElem?_eq_getElem hi, hi, by simpa using h2, fun e he => ?_⟩
  rw [Array.getElem?_eq_getElem hi] at h3
  simp only [Option.map_some, Option.getD_some] at h3
  rw [← Array.all_toList] at h3
  unfold pred at he
  rw [List.mem_filter] at he
  have := List.all_eq_true.1 h3 e he.1
  simpa [he.2] using this
theorem ready_of {L : Array Bool} {i : Nat} {o : Oper} (ho : ops[i]? = some o) (hL : L.getD i true = false) (h : ∀ e ∈ pred o, L.getD e.on false = true) : i ∈ Region.ready .any ops L := by
  have hi : i < ops.size := by
    rcases Nat.lt_or_ge i ops.size with h' | h'
    · exact h'
    · rw [Array.getElem?_eq_none h'] at ho; cases ho
  unfold Region.ready
  rw [List.mem_filter, Bool.and_eq_true]
  refine ⟨by simpa using hi, by simp only [hL]; rfl, ?_⟩
  rw [ho]
  simp only [Option.map_some, Option.getD_some]
  rw [← Array.all_toList, List.all_eq_true]
  intro e he
  by_cases hb : Region.binds .any e = true
  · rw [h e (by unfold pred; rw [List.mem_filter]; exact ⟨he, hb⟩)]; simp
  · simp only [Bool.not_eq_true] at hb
    rw [hb]; rfl
/-- Nothing ready: all is done. -/
theorem done_of_nil (h : extOk ops D m = true) {L : Array Bool} (hL : L.size = ops.size) (hn : Region.ready .any ops L = []) : ∀ i, i < ops.size → L.getD i true = true := by
  intro i
  induction i using Nat.strongRecOn with
  | ind i ih =>
    intro hi
    cases hd : L.getD i true with
    | true => rfl
    | false =>
      exfalso
      have ho : ops[i]? = some ops[i] := Array.getElem?_eq_getElem hi
      have := ready_of ho hd fun e he => by
        have hlt := (ext_at h ho).1 e he
        have := ih e.on hlt (by omega)
        simpa [Array.getD_eq_getD_getElem?, Array.getElem?_eq_getElem (show e.on < L.size by omega)] using this
      rw [hn] at this
      simp at this
theorem getD_tf {L : Array Bool} {i : Nat} (h : i < L.size) : L.getD i true = L.getD i false := by
  simp [Array.getD_eq_getD_getElem?, Array.getElem?_eq_getElem h]
/-- The tail, one after the other. -/
theorem ext_tail (h : extOk ops D m = true) : ∀ (k t : Nat) (L : Array Bool) (a : Act) (w : World), L.size = ops.size → cntF ops.size L ≤ k → m ≤ t → (∀ i, i < ops.size → (L.getD i true = true ↔ i < t)) → wpList P ops Q (ops.toList.drop t) a w → wpAny P .any ops Q k L a w := by
  intro k
  induction k with
  | zero =>
    intro t L a w hs hc hmt hL hw
    have hall : ∀ i, i < ops.size → L.getD i true = true := fun i hi => by
      cases hd : L.getD i true with
      | true => rfl
      | false =>
        exfalso
        have hz : cntF ops.size L = 0 := by omega
        have he : (List.range ops.size).filter (fun i => !L.getD i true) = [] := List.eq_nil_of_length_eq_zero hz
        have hmem : i ∈ (List.range ops.size).filter (fun i => !L.getD i true) := by rw [List.mem_filter]; exact ⟨by simpa using hi, by simp only [hd]; rfl⟩
        rw [he] at hmem; simp at hmem
    have ht : ops.size ≤ t := by
      rcases Nat.lt_or_ge t ops.size with h' | h'
      · have := (hL t h').1 (hall t h'); omega
      · exact h'
    refine ⟨?_, ?_⟩
    · cases hr : Region.ready .any ops L with
      | nil => rfl
      | cons i l =>
        obtain ⟨o, _, hi, hd, _⟩ := mem_ready (ops := ops) (L := L) (i := i) (by rw [hr]; simp)
        rw [hall i hi] at hd; cases hd
    · rw [List.drop_of_length_le (by simpa using ht)] at hw
      exact hw
  | succ k ih =>
    intro t L a w hs hc hmt hL hw
    refine ⟨fun hn => ?_, fun i hi => ?_⟩
    · have hall := done_of_nil h hs hn
      have ht : ops.size ≤ t := by
        rcases Nat.lt_or_ge t ops.size with h' | h'
        · have := (hL t h').1 (hall t h'); omega
        · exact h'
      rw [List.drop_of_length_le (by simpa using ht)] at hw
      exact hw
    · obtain ⟨o, ho, his, hd, he⟩ := mem_ready hi
      have hti : t ≤ i := by
        rcases Nat.lt_or_ge i t with h' | h'
        · rw [(hL i his).2 h'] at hd; cases hd
        · exact h'
      have hit : i = t := by
        rcases Nat.eq_or_lt_of_le hti with h' | h'
        · exact h'.symm
        · exfalso
          obtain ⟨e, hem, hon⟩ := (ext_at h ho).2.2.1 (by omega)
          have h1 := he e hem
          rw [← getD_tf (by omega)] at h1
          have := (hL e.on (by omega)).1 h1
          omega
      subst hit
      have hdrop : ops.toList.drop i = o :: ops.toList.drop (i + 1) := by
        have hl : i < ops.toList.length := by simpa using his
        rw [List.drop_eq_getElem_cons hl]
        have : ops.toList[i] = o := by
          rw [Array.getElem_toList]
          rw [Array.getElem?_eq_getElem his] at ho
          exact Option.some.inj ho
        rw [this]
      rw [hdrop] at hw
      have hK : ∀ a w, wpList P ops Q (ops.toList.drop (i + 1)) a w → wpAny P .any ops Q k (L.setIfInBounds i true) a w := fun a w hw' =>
        ih (i + 1) _ a w (by simpa using hs) (by have := cnt_set (n := ops.size) his hs hd; omega) (by omega) (fun j hj => by
          rw [getD_set L i j true (by omega)]
          by_cases e : i = j
          · subst e; simp
          · simp only [if_neg e, hL j hj]; omega) hw'
      refine wpOp_mono hK ?_
      unfold wpOp
      rw [ho]
      exact hw
end
section
variable {P : Program} {ops : Array Oper} {Q : Exit → Act → World → Prop} {base : Array Value} {ds : List Deferred} {D : List Bool} {m : Nat}
variable {S : World → Prop} {R : World → World → Prop} {F : Nat → Value → World → Prop}
theorem ext_any (h : extOk ops D m = true) (hst : ∀ i v w w', S w → S w' → R w w' → F i v w → F i v w')
    (hsteps : Steps P ops Q base ds D S R F 0 (ops.toList.take m))
    (hend : ∀ u w, S w → AllF F u w 0 (ops.toList.take m) → wpList P ops Q (ops.toList.drop m) ⟨frm base D u, ds⟩ w) :
    ∀ (k : Nat) (L : Array Bool) (u : Nat → Value) (w : World), L.size = ops.size → cntF ops.size L ≤ k → S w →
      (∀ i o, i < ops.size → ops[i]? = some o → L.getD i true = true → ∀ e ∈ pred o, L.getD e.on false = true) →
      (∀ i, m ≤ i → i < ops.size → L.getD i true = false) →
      (∀ i o d, i < m → ops[i]? = some o → L.getD i true = true → o.dst = some d → F i (u d) w) →
      wpAny P .any ops Q k L ⟨frm base D u, ds⟩ w := by
  have hms : m ≤ ops.size := by
    unfold extOk at h
    rw [Bool.and_eq_true, decide_eq_true_eq] at h
    exact h.2
  intro k
  induction k with
  | zero =>
    intro L u w hs hc hS hcl hno hF
    refine ext_tail h 0 m L _ w hs hc (Nat.le_refl _) (fun i hi => ?_) (hend u w hS (allF_of _ _ fun j o d hj hd => ?_))
    · rcases Nat.lt_or_ge i m with h' | h'
      · refine ⟨fun _ => h', fun _ => ?_⟩
        cases hd : L.getD i true with
        | true => rfl
        | false =>
          exfalso
          have he : (List.range ops.size).filter (fun i => !L.getD i true) = [] := List.eq_nil_of_length_eq_zero (by unfold cntF at hc; omega)
          have hmem : i ∈ (List.range ops.size).filter (fun i => !L.getD i true) := by rw [List.mem_filter]; exact ⟨by simpa using hi, by simp only [hd]; rfl⟩
          rw [he] at hmem; simp at hmem
      · rw [hno i h' hi]; simp; omega
    · have hjm : j < m := by
        rcases Nat.lt_or_ge j m with h' | h'
        · exact h'
        · rw [List.getElem?_take, if_neg (by omega)] at hj; cases hj
      rw [List.getElem?_take, if_pos hjm, Array.getElem?_toList] at hj
      rw [Nat.zero_add]
      refine hF j o d hjm hj ?_ hd
      cases hd' : L.getD j true with
      | true => rfl
      | false =>
        exfalso
        have he : (List.range ops.size).filter (fun i => !L.getD i true) = [] := List.eq_nil_of_length_eq_zero (by unfold cntF at hc; omega)
        have hmem : j ∈ (List.range ops.size).filter (fun i => !L.getD i true) := by rw [List.mem_filter]; exact ⟨by simp; omega, by simp only [hd']; rfl⟩
        rw [he] at hmem; simp at hmem
  | succ k ih =>
    intro L u w hs hc hS hcl hno hF
    by_cases hall : ∀ i, i < m → L.getD i true = true
    · refine ext_tail h (k + 1) m L _ w hs hc (Nat.le_refl _) (fun i hi => ?_) (hend u w hS (allF_of _ _ fun j o d hj hd => ?_))
      · rcases Nat.lt_or_ge i m with h' | h'
        · exact ⟨fun _ => h', fun _ => hall i h'⟩
        · rw [hno i h' hi]; simp; omega
      · have hjm : j < m := by
          rcases Nat.lt_or_ge j m with h' | h'
          · exact h'
          · rw [List.getElem?_take, if_neg (by omega)] at hj; cases hj
        rw [List.getElem?_take, if_pos hjm, Array.getElem?_toList] at hj
        rw [Nat.zero_add]
        exact hF j o d hjm hj (hall j hjm) hd
    · refine ⟨fun hn => absurd (fun i hi => done_of_nil h hs hn i (by omega)) hall, fun i hi => ?_⟩
      obtain ⟨o, ho, his, hd, he⟩ := mem_ready hi
      have hea : ∀ e ∈ pred o, L.getD e.on false = true := he
      -- an operation of the tail waits for all before it
      have hdown : m < ops.size → (∀ o', ops[m]? = some o' → ∀ e ∈ pred o', L.getD e.on false = true) → ∀ n j, j + n = m → 0 < n → L.getD j true = true := by
        intro hms' hm' n
        induction n using Nat.strongRecOn with
        | ind n ihn =>
          intro j hj hn
          have hjs : j < ops.size := by omega
          obtain ⟨k', o', h1, h2, h3, e, he1, he2⟩ := (ext_at h (Array.getElem?_eq_getElem hjs)).2.2.2 (by omega) hms'
          rcases Nat.eq_or_lt_of_le h2 with h2' | h2'
          · subst h2'
            have := hm' o' h3 e he1
            rw [he2] at this
            rw [getD_tf (by omega)]; exact this
          · have hk := ihn (m - k') (by omega) k' (by omega) (by omega)
            have := hcl k' o' (by omega) h3 hk e he1
            rw [he2] at this
            rw [getD_tf (by omega)]; exact this
      have him : i < m := by
        rcases Nat.lt_or_ge i m with h' | h'
        · exact h'
        · exfalso
          rcases Nat.eq_or_lt_of_le h' with h'' | h''
          · subst h''
            exact hall fun j hj => hdown his (fun o' ho' => by rw [ho] at ho'; cases ho'; exact hea) (m - j) j (by omega) (by omega)
          · obtain ⟨e, hem, hon⟩ := (ext_at h ho).2.2.1 h''
            have h1 := hea e hem
            rw [← getD_tf (by omega)] at h1
            rw [hno e.on (by omega) (by omega)] at h1
            cases h1
      have hstep := steps_at _ _ hsteps i o (by rw [List.getElem?_take, if_pos him, Array.getElem?_toList]; exact ho)
      rw [Nat.zero_add] at hstep
      have hpre : Pre ops F u w (pred o) := pre_of _ fun e hem o' d ho' hd' => by
        have h1 := hea e hem
        have hlt := (ext_at h ho).1 e hem
        rw [← getD_tf (by omega)] at h1
        exact hF e.on o' d (by omega) ho' h1 hd'
      have hs1 := hstep u w hS hpre
      have hnext : ∀ v w', FO F i o v w' → S w' → R w w' ∨ w = w' → wpAny P .any ops Q k (L.setIfInBounds i true) ((⟨frm base D u, ds⟩ : Act).put o.dst v) w' := by
        intro v w' hv hS' hR
        have hF' : ∀ i o d, i < m → ops[i]? = some o → L.getD i true = true → o.dst = some d → F i (u d) w' := fun j oj d h1 h2 h3 h4 => by
          have h0 := hF j oj d h1 h2 h3 h4
          rcases hR with hR | rfl
          · exact hst _ _ _ _ hS hS' hR h0
          · exact h0
        have hact : ∃ u', (⟨frm base D u, ds⟩ : Act).put o.dst v = ⟨frm base D u', ds⟩ ∧ (∀ j oj d, j < m → ops[j]? = some oj → (L.setIfInBounds i true).getD j true = true → oj.dst = some d → F j (u' d) w') := by
          cases hd' : o.dst with
          | none =>
            refine ⟨u, rfl, fun j oj d h1 h2 h3 h4 => ?_⟩
            rw [getD_set L i j true (by omega)] at h3
            by_cases e : i = j
            · subst e; rw [ho] at h2; cases h2; rw [hd'] at h4; cases h4
            · rw [if_neg e] at h3; exact hF' j oj d h1 h2 h3 h4
          | some d' =>
            obtain ⟨hD, huni⟩ := (ext_at h ho).2.1 him d' hd'
            refine ⟨upd u d' v, ?_, fun j oj d h1 h2 h3 h4 => ?_⟩
            · show (⟨(frm base D u).setIfInBounds d' v, ds⟩ : Act) = _
              rw [frm_put v hD]
            · rw [getD_set L i j true (by omega)] at h3
              by_cases e : i = j
              · subst e
                rw [ho] at h2; cases h2
                rw [hd'] at h4; cases h4
                unfold FO at hv
                rw [hd'] at hv
                simpa [upd] using hv
              · rw [if_neg e] at h3
                have hne : d ≠ d' := fun e' => huni j h1 (fun e2 => e e2.symm) (by rw [h2]; simp only [Option.bind_some]; rw [h4, e'])
                have := hF' j oj d h1 h2 h3 h4
                simpa [upd, hne] using this
        obtain ⟨u', hu, hFn⟩ := hact
        rw [hu]
        refine ih _ u' w' (by simpa using hs) (by have := cnt_set (n := ops.size) his hs hd; omega) hS' ?_ ?_ hFn
        · intro j oj hj hoj hLj e hem
          rw [getD_set L i e.on false (by omega)]
          split
          · rfl
          · rw [getD_set L i j true (by omega)] at hLj
            by_cases e' : i = j
            · subst e'; rw [ho] at hoj; cases hoj; exact hea e hem
            · rw [if_neg e'] at hLj; exact hcl j oj hj hoj hLj e hem
        · intro j hj hjs
          rw [getD_set L i j true (by omega), if_neg (by omega)]
          exact hno j hj hjs
      unfold wpOp
      rw [ho]
      show (if Region.wanted o (yielded ops (frm base D u)) = true then _ else _)
      by_cases hw : Region.wanted o (yielded ops (frm base D u)) = true
      · rw [if_pos hw] at hs1 ⊢
        refine Or.inl (Oper.wp_mono (fun a' w' hk => ?_) hs1)
        obtain ⟨v, rfl, hv, hS', hR⟩ := hk
        exact hnext v w' hv hS' (.inl hR)
      · rw [if_neg hw] at hs1 ⊢
        exact hnext undef w hs1 hS (.inr rfl)
theorem frm_id (base : Array Value) (D : List Bool) : frm base D (fun t => base.getD t undef) = base := by
  apply Array.ext_getElem?
  intro i
  rw [frm_at]
  split
  · by_cases hb : i < base.size
    · simp [Array.getElem?_eq_getElem hb]
    · rw [Array.getElem?_eq_none (by omega)]; rfl
  · rfl
/-- A region that draws its order. -/
theorem region_ext {id : Nat} {w : World} (hm : P.follows .mixedOrders = true) (h : extOk ops D m = true) (hst : ∀ i v w w', S w → S w' → R w w' → F i v w → F i v w') (hS : S w.drew)
    (hsteps : Steps P ops Q base ds D S R F 0 (ops.toList.take m))
    (hend : ∀ u w, S w → AllF F u w 0 (ops.toList.take m) → wpList P ops Q (ops.toList.drop m) ⟨frm base D u, ds⟩ w) :
    (Code.region id ops true).wp P Q ⟨base, ds⟩ w := by
  refine wp_region_any hm ?_
  have h0 : ∀ i, (Array.replicate ops.size false).getD i true = true → ¬ i < ops.size := fun i hi hlt => by
    simp [Array.getD_eq_getD_getElem?, hlt] at hi
  have := ext_any (base := base) (ds := ds) h hst hsteps hend ops.size (Array.replicate ops.size false) (fun t => base.getD t undef) w.drew (by simp) (by unfold cntF; exact Nat.le_trans (List.length_filter_le _ _) (by simp)) hS
    (fun i o hi _ hL => absurd hi (h0 i hL)) (fun i _ hi => by simp [Array.getD_eq_getD_getElem?, hi]) (fun i o d him ho hL => by
      have hi : i < ops.size := by
        rcases Nat.lt_or_ge i ops.size with h' | h'
        · exact h'
        · rw [Array.getElem?_eq_none h'] at ho; cases ho
      exact absurd hi (h0 i hL))
  rw [frm_id] at this
  exact this
/-- The same, the frame's size handed to the steps; every operation in the free part. -/
theorem region_all {id : Nat} {w : World} {n : Nat} (hn : base.size = n) (hm : P.follows .mixedOrders = true) (h : extOk ops D ops.size = true) (hst : ∀ i v w w', S w → S w' → R w w' → F i v w → F i v w') (hS : S w.drew)
    (hsteps : base.size = n → Steps P ops Q base ds D S R F 0 ops.toList)
    (hend : ∀ u w, S w → AllF F u w 0 ops.toList → Q .normal ⟨frm base D u, ds⟩ w) :
    (Code.region id ops true).wp P Q ⟨base, ds⟩ w := by
  have ht : ops.toList.take ops.size = ops.toList := List.take_of_length_le (by simp)
  have hd : ops.toList.drop ops.size = [] := List.drop_of_length_le (by simp)
  refine region_ext (m := ops.size) hm h hst hS (by rw [ht]; exact hsteps hn) (fun u w hS hF => ?_)
  rw [ht] at hF
  rw [hd]
  exact hend u w hS hF
/-- The same, the last operations one after the other. -/
theorem region_m {id : Nat} {w : World} {n : Nat} (hn : base.size = n) (hm : P.follows .mixedOrders = true) (h : extOk ops D m = true) (hst : ∀ i v w w', S w → S w' → R w w' → F i v w → F i v w') (hS : S w.drew)
    (hsteps : base.size = n → Steps P ops Q base ds D S R F 0 (ops.toList.take m))
    (hend : ∀ u w, S w → AllF F u w 0 (ops.toList.take m) → wpList P ops Q (ops.toList.drop m) ⟨frm base D u, ds⟩ w) :
    (Code.region id ops true).wp P Q ⟨base, ds⟩ w := region_ext hm h hst hS (hsteps hn) hend
end
end Go.Proofs.YthllacodjeocmaaGreatDoor
