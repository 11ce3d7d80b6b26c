/- Rows of laws that answer true and turn nothing: the arguments are carried whole. -/
import Derived.Test.YthllacodjeocmaaGreatDoorC0
import Derived.Test.YthllacodjeocmaaGreatDoorR1
import Derived.Carry
import Derived.ChangeSlices
namespace Go.Proofs.YthllacodjeocmaaGreatDoor
open Go.ChangeShapes Go.WideShapes Go.ChangeAt Go.RowKit
theorem laidOut : laidOutB Tryz.prog = true := by kernel_rfl
/-- All arguments read as they did. -/
theorem carry_all {H : Type} {enc : TypeId × Value → H} {P : Program} (hl : laidOutB P = true) {W W' : World} (hb : Below W.heap.size W W') : ∀ {ts : List TypeId} {vs : List Value} {ds : List (DataW H)} {ps : List MemPlace}, (ts.all fun t => P.readableRec t && decide (t < P.types.size)) = true →
    DataW.TrodAll enc P W 0 (fun _ => true) true ts vs ds ps → (∀ x ∈ ps, x.block < W.heap.size) → DataW.TrodAll enc P W' 0 (fun b => decide (b < W.heap.size)) true ts vs ds ps
  | [], [], [], ps, _, h, _ => h
  | t :: ts, v :: vs, d :: ds, ps, hr, h, hlt => by
    obtain ⟨p, q, h1, h2, rfl⟩ := h
    rw [List.all_cons, Bool.and_eq_true, Bool.and_eq_true, decide_eq_true_eq] at hr
    exact ⟨p, q, Below.trod hl hr.1.1 hr.1.2 h1 hb (fun x hx => hlt x (by simp [hx])), carry_all hl hb hr.2 h2 (fun x hx => hlt x (by simp [hx])), rfl⟩
  | [], _ :: _, _, _, _, h, _ => h.elim
  | [], [], _ :: _, _, _, h, _ => h.elim
  | _ :: _, [], _, _, _, h, _ => h.elim
  | _ :: _, _ :: _, [], _, _, h, _ => h.elim
section
variable {H : Type} {enc : TypeId × Value → H} {W : World} {base : Nat} {held : Bool}
set_option maxRecDepth 100000 in
/-- A slice of bytes out of an argument's reading. -/
theorem open_bts {r : Reach} {b0 : Nat} {v : Value} {d : DataW H} {p : List MemPlace} (hv : Value.okWide Tryz.prog W r b0 33 v) (h : DataW.Trod enc Tryz.prog W base (fun _ => true) held 33 v d p) : ∃ l : List UInt8, Bts W v l ∧ l.length ≤ maxLen := by
  obtain ⟨fuel, hf⟩ := h
  obtain ⟨a0, len, cap, rfl⟩ := okWide_slice Tryz.underlying33 hv
  rcases open_ints Tryz.underlying33 Tryz.underlying5 cells5 hf with ⟨hcs, hx⟩ | ⟨a, len', cap', zs, hcs, _, hl, hm, hz, hx, hcell, hwz⟩
  · simp [Value.cells] at hcs
    obtain ⟨rfl, rfl, rfl⟩ := hcs
    exact ⟨[], ⟨none, 0, rfl, Nat.le_refl _, fun h => by simp at h⟩, by simp⟩
  · simp [Value.cells] at hcs
    obtain ⟨rfl, rfl, rfl⟩ := hcs
    rw [if_pos rfl] at hz
    have hll : ((zs.take len).map fun z => UInt8.ofNat z.toNat).length = len := by simp; omega
    have hcell' : ∀ (j : Nat) (u : UInt8), ((zs.take len).map fun z => UInt8.ofNat z.toNat)[j]? = some u → W.cell? (a.add j) = some (u8v u) := fun j u hu => by
      have hj : j < len := by
        rcases Nat.lt_or_ge j len with h | h
        · exact h
        · rw [List.getElem?_eq_none (by omega)] at hu; cases hu
      have hjz : j < zs.length := by omega
      rw [List.getElem?_map, List.getElem?_take, if_pos hj, List.getElem?_eq_getElem hjz] at hu
      have hw := hwz zs[j] (List.getElem_mem hjz)
      obtain ⟨b, hb⟩ := u8_of hw
      rw [hcell j hjz, List.getD_eq_getElem?_getD, List.getElem?_eq_getElem hjz]
      simp only [Option.map_some, Option.some.injEq] at hu
      subst hu
      simp only [Option.getD_some]
      rw [hb]
      simp [u8v]
    refine ⟨(zs.take len).map fun z => UInt8.ofNat z.toNat, ⟨some a, cap, by rw [hll], by omega, fun h0 => ?_⟩, by omega⟩
    obtain ⟨b, o, s⟩ := a
    have hs : s = none := by
      have h1 := hcell' 0 _ (List.getElem?_eq_getElem h0)
      cases s with
      | none => rfl
      | some s => simp only [Addr.add, World.cell?] at h1; split at h1 <;> simp_all
    subst hs
    refine ⟨b, o, rfl, fun j u hu => ?_⟩
    have h1 := hcell' j u hu
    have : (⟨b, o, none⟩ : Addr).add j = ⟨b, o + j, none⟩ := by unfold Addr.add; split <;> simp_all
    rw [this] at h1
    exact h1
set_option maxRecDepth 100000 in
/-- The same, and a slice without an address has no room. -/
theorem open_bts2 {r : Reach} {b0 : Nat} {v : Value} {d : DataW H} {p : List MemPlace} (hv : Value.okWide Tryz.prog W r b0 33 v) (h : DataW.Trod enc Tryz.prog W base (fun _ => true) held 33 v d p) : ∃ l : List UInt8, Bts W v l ∧ l.length ≤ maxLen ∧ ∀ n c, v = .slice none n c → c = 0 := by
  obtain ⟨l, h1, h2⟩ := open_bts hv h
  refine ⟨l, h1, h2, fun n c hvc => ?_⟩
  obtain ⟨fuel, hf⟩ := h
  subst hvc
  rcases open_ints Tryz.underlying33 Tryz.underlying5 cells5 hf with ⟨hcs, _⟩ | ⟨a, _, _, _, hcs, _⟩
  · simp [Value.cells] at hcs
    exact hcs.2
  · simp [Value.cells] at hcs
end
end Go.Proofs.YthllacodjeocmaaGreatDoor
