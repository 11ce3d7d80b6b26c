/- A region that does not draw, by the same obligations. -/
import Derived.Test.YthllacodjeocmaaGreatDoorG1
namespace Go.Proofs.YthllacodjeocmaaGreatDoor
section
variable {P : Program} {ops : Array Oper} {Q : Exit → Act → World → Prop} {base : Array Value} {ds : List Deferred} {D : List Bool} {m : Nat}
variable {S : World → Prop} {R : World → World → Prop} {F : Nat → Value → World → Prop}
/-- A region in the order of its text, by the same obligations. -/
theorem seq_any (h : extOk ops D m = true) (hst : ∀ i v w w', S w → S w' → R w w' → F i v w → F i v w') (hsteps : Steps P ops Q base ds D S R F 0 (ops.toList.take m))
    (hend : ∀ u w, S w → AllF F u w 0 (ops.toList.take m) → wpList P ops Q (ops.toList.drop m) ⟨frm base D u, ds⟩ w) :
    ∀ (n j : Nat) (u : Nat → Value) (w : World), j + n = m → S w → (∀ i o d, i < j → ops[i]? = some o → o.dst = some d → F i (u d) w) → wpList P ops Q (ops.toList.drop j) ⟨frm base D u, ds⟩ w := by
  have hms : m ≤ ops.size := by
    unfold extOk at h
    rw [Bool.and_eq_true, decide_eq_true_eq] at h
    exact h.2
  intro n
  induction n with
  | zero =>
    intro j u w hj hS hF
    have hjm : j = m := by omega
    subst hjm
    refine hend u w hS (allF_of _ _ fun i o d hi hd => ?_)
    have him : i < j := by
      rcases Nat.lt_or_ge i j with h' | h'
      · exact h'
      · rw [List.getElem?_take, if_neg (by omega)] at hi; cases hi
    rw [List.getElem?_take, if_pos him, Array.getElem?_toList] at hi
    rw [Nat.zero_add]
    exact hF i o d him hi hd
  | succ n ih =>
    intro j u w hj hS hF
    have hjs : j < ops.size := by omega
    have ho : ops[j]? = some ops[j] := Array.getElem?_eq_getElem hjs
    generalize ops[j] = o at ho
    have hdrop : ops.toList.drop j = o :: ops.toList.drop (j + 1) := by
      have hl : j < ops.toList.length := by simpa using hjs
      rw [List.drop_eq_getElem_cons hl]
      have : ops.toList[j] = o := by
        rw [Array.getElem_toList]
        rw [Array.getElem?_eq_getElem hjs] at ho
        exact Option.some.inj ho
      rw [this]
    have hstep := steps_at _ _ hsteps j o (by rw [List.getElem?_take, if_pos (by omega), Array.getElem?_toList]; exact ho)
    rw [Nat.zero_add] at hstep
    have hpre : Pre ops F u w (pred o) := pre_of _ fun e hem o' d ho' hd' => hF e.on o' d ((ext_at h ho).1 e hem) ho' hd'
    have hs1 := hstep u w hS hpre
    have hnext : ∀ v w', FO F j o v w' → S w' → R w w' ∨ w = w' → wpList P ops Q (ops.toList.drop (j + 1)) ((⟨frm base D u, ds⟩ : Act).put o.dst v) w' := by
      intro v w' hv hS' hR
      have hF' : ∀ i o d, i < j → ops[i]? = some o → o.dst = some d → F i (u d) w' := fun i oi d h1 h2 h4 => by
        have h0 := hF i oi d h1 h2 h4
        rcases hR with hR | rfl
        · exact hst _ _ _ _ hS hS' hR h0
        · exact h0
      cases hd' : o.dst with
      | none =>
        refine ih (j + 1) u w' (by omega) hS' fun i oi d h1 h2 h4 => ?_
        rcases Nat.lt_or_ge i j with h' | h'
        · exact hF' i oi d h' h2 h4
        · obtain rfl : i = j := by omega
          rw [ho] at h2; cases h2; rw [hd'] at h4; cases h4
      | some d' =>
        obtain ⟨hD, huni⟩ := (ext_at h ho).2.1 (by omega) d' hd'
        show wpList P ops Q (ops.toList.drop (j + 1)) ⟨(frm base D u).setIfInBounds d' v, ds⟩ w'
        rw [frm_put v hD]
        refine ih (j + 1) (upd u d' v) w' (by omega) hS' fun i oi d h1 h2 h4 => ?_
        rcases Nat.lt_or_ge i j with h' | h'
        · have hne : d ≠ d' := fun e' => huni i (by omega) (by omega) (by rw [h2]; simp only [Option.bind_some]; rw [h4, e'])
          have := hF' i oi d h' h2 h4
          simpa [upd, hne] using this
        · obtain rfl : i = j := by omega
          rw [ho] at h2; cases h2
          rw [hd'] at h4; cases h4
          unfold FO at hv
          rw [hd'] at hv
          simpa [upd] using hv
    rw [hdrop]
    unfold wpList
    show (if Region.wanted o (yielded ops (frm base D u)) = true then _ else _)
    by_cases hw : Region.wanted o (yielded ops (frm base D u)) = true
    · rw [if_pos hw] at hs1 ⊢
      refine Or.inl (Oper.wp_mono (fun a' w' hk => ?_) hs1)
      obtain ⟨v, rfl, hv, hS', hR⟩ := hk
      exact hnext v w' hv hS' (.inl hR)
    · rw [if_neg hw] at hs1 ⊢
      exact hnext undef w hs1 hS (.inr rfl)
theorem region_seq {id : Nat} {w : World} {n : Nat} (hn : base.size = n) (h : extOk ops D ops.size = true) (hst : ∀ i v w w', S w → S w' → R w w' → F i v w → F i v w') (hS : S w)
    (hsteps : base.size = n → Steps P ops Q base ds D S R F 0 ops.toList)
    (hend : ∀ u w, S w → AllF F u w 0 ops.toList → Q .normal ⟨frm base D u, ds⟩ w) :
    (Code.region id ops false).wp P Q ⟨base, ds⟩ w := by
  have ht : ops.toList.take ops.size = ops.toList := List.take_of_length_le (by simp)
  have hd : ops.toList.drop ops.size = [] := List.drop_of_length_le (by simp)
  have := seq_any (m := ops.size) (base := base) (ds := ds) h hst (by rw [ht]; exact hsteps hn) (fun u w hS hF => by
    rw [ht] at hF
    rw [hd]
    exact hend u w hS hF) ops.size 0 (fun t => base.getD t undef) w (by omega) hS (fun i o d hi => by omega)
  rw [frm_id] at this
  exact wp_region_list this
end
section
variable {Q : Exit → Act → World → Prop} {base : Array Value} {ds : List Deferred} {D : List Bool} {u : Nat → Value} {o : Oper}
theorem wanted_undef {ops : Array Oper} {j d n : Nat} {b : Bool} (hg : o.guard = some (j, b)) (hj : (ops[j]?).bind (·.dst) = some d) (h : D.getD d false = true) (hn : base.size = n) (hs : decide (d < n) = true) (hu : u d = undef) :
    ¬ Region.wanted o (yielded ops (frm base D u)) = true := by
  have hs := of_decide_eq_true hs
  unfold Region.wanted
  rw [hg]
  have : yielded ops (frm base D u) j = none := by
    unfold yielded
    rw [hj, Option.bind_some, frm_at, if_pos h, Array.getElem?_eq_getElem (by omega)]
    simp [hu, undef]
  show ¬ (yielded ops (frm base D u) j == some b) = true
  rw [this]
  cases b <;> decide
end
end Go.Proofs.YthllacodjeocmaaGreatDoor
