/- Kept of both sides. -/
import Derived.Test.YtgpndifkkaomcaaDoorA1
namespace Go.Proofs.YtgpndifkkaomcaaDoor
open Go.RowKit
/-- The keywords. -/
def keptWords : List ByteArray := [⟨#[116, 101, 115, 116]⟩, ⟨#[105, 110, 105, 116]⟩, ⟨#[116, 104, 114, 101, 97, 100]⟩, ⟨#[115, 111, 109, 101]⟩, ⟨#[110, 111, 110, 101]⟩, ⟨#[97, 108, 108]⟩, ⟨#[97, 99, 113]⟩, ⟨#[114, 101, 108]⟩, ⟨#[115, 119, 97, 112]⟩, ⟨#[102, 101, 116, 99, 104]⟩, ⟨#[99, 97, 115]⟩, ⟨#[102, 101, 110, 99, 101]⟩, ⟨#[108, 111, 97, 100, 115]⟩, ⟨#[115, 116, 111, 114, 101, 115]⟩, ⟨#[115, 107, 105, 112]⟩, ⟨#[105, 102]⟩, ⟨#[116, 114, 117, 101]⟩]
def keptB (s : ByteArray) : Bool := Lib.containsS keptWords s
theorem kept_cells (w : World) (t : TypeId) : ∀ j, j < keptWords.length → (w.alloc (.cells (keptWords.map Value.string).toArray t)).cell? ⟨w.heap.size, 0 + j, none⟩ = some (.string (keptWords.getD j ByteArray.empty)) := by
  intro j hj
  rw [Nat.zero_add, World.cell?_alloc_new]
  simp only [List.getElem?_toArray, List.getElem?_map, List.getD_eq_getElem?_getD]
  rw [List.getElem?_eq_getElem hj]; rfl
set_option maxHeartbeats 400000 in
theorem kept_any (s : ByteArray) (w : World) :
    Calls Tryd.prog 18 #[.string s] w fun e w' => e = .returned (.bool (keptB s)) ∧ Below w.heap.size w w' := by
  have hc := kept_cells w 9
  go_enter Tryd.func18, Tryd.ntmps18
  go_wp2_with (go_at_call 34; refine (Tryd.slices_Contains_string w.heap.size 0 17 17 keptWords s _ (by decide) (by decide) hc).mono ?_; rintro e w' ⟨rfl, rfl⟩)
  go_ret
  exact ⟨rfl, (Below.refl _ _).alloc (Nat.le_refl _) _⟩
theorem containsS_cons (a : ByteArray) (l : List ByteArray) (s : ByteArray) : Lib.containsS (a :: l) s = ((a.toList == s.toList) || Lib.containsS l s) := by
  rw [Bool.eq_iff_iff, Lib.containsS_iff, Bool.or_eq_true, Lib.containsS_iff, List.mem_cons, str_eq]
  constructor
  · rintro (h | h)
    · exact .inl h.symm
    · exact .inr h
  · rintro (h | h)
    · exact .inl h.symm
    · exact .inr h
theorem rkept_any (s : ByteArray) (w : World) :
    Calls Tryd.prog 22 #[.string s] w fun e w' => e = .returned (.bool (keptB s)) ∧ Below w.heap.size w w' := by
  have hc := kept_cells w 9
  go_enter Tryd.func22, Tryd.ntmps22
  go_wp2
  obtain ⟨W, hW⟩ : ∃ W, w.alloc (.cells (keptWords.map Value.string).toArray 9) = W := ⟨_, rfl⟩
  change Code.wp _ _ _ _ (w.alloc (.cells (keptWords.map Value.string).toArray 9))
  have hB : Below w.heap.size w W := by rw [← hW]; exact (Below.refl _ _).alloc (Nat.le_refl _) _
  rw [hW] at hc ⊢
  have HB := Lib.hid hB
  clear hW hB
  go_loop [4] (fun i => ∃ k : Nat, k ≤ 17 ∧ i = .int .i64 k ∧ Hid (Lib.containsS keptWords s = Lib.containsS (keptWords.drop k) s)) (fun i => 17 - (intOf i).toNat)
  case atStart => exact ⟨0, by omega, rfl, Lib.hid rfl⟩
  case round =>
    obtain ⟨k, hk, rfl, hin⟩ := hrel
    by_cases hlt : k < 17
    · have hcell := hc k hlt
      rw [Nat.zero_add] at hcell
      clear hc
      obtain ⟨x, hx⟩ : ∃ x, keptWords.getD k ByteArray.empty = x := ⟨_, rfl⟩
      rw [hx] at hcell
      have hd : keptWords.drop k = x :: keptWords.drop (k + 1) := by
        have h17 : k < keptWords.length := hlt
        rw [List.drop_eq_getElem_cons h17, ← hx, List.getD_eq_getElem?_getD, List.getElem?_eq_getElem h17]; rfl
      have HI := Lib.hid (hin.out.trans (by rw [hd, containsS_cons]) : Lib.containsS keptWords s = ((x.toList == s.toList) || Lib.containsS (keptWords.drop (k + 1)) s))
      clear hd hx hin
      go_wp2
      · have hh : (x.toList == s.toList) = true := by assumption
        go_ret
        exact ⟨ret_bool (by unfold keptB; rw [HI.out, hh]; rfl), HB.out⟩
      · have hh : (x.toList == s.toList) = false := by assumption
        go_round
        case rel => exact ⟨k + 1, by omega, by go_num, by rw [HI.out, hh]; exact Lib.hid rfl⟩
        case measure => simp [intOf]; omega
    · have hk17 : k = 17 := by omega
      subst hk17
      clear hlt hc
      have HI := Lib.hid (hin.out.trans (show Lib.containsS (List.drop 17 keptWords) s = false from rfl))
      clear hin
      go_wp2
      go_ret
      exact ⟨ret_bool (by unfold keptB; rw [HI.out]), HB.out⟩
end Go.Proofs.YtgpndifkkaomcaaDoor
