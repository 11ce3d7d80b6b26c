/- The reference's Type. -/
import Derived.Test.YtgpndifkkaomcaaDoorR3
import Derived.Test.YtgpndifkkaomcaaDoorT1
namespace Go.Proofs.YtgpndifkkaomcaaDoor
open Go.RowKit
/-- A row of the reference's tokens that can be read. -/
def RTkRow (W : World) (v : Value) (ts : List Tk) : Prop :=
  (v = .slice none 0 0 ∧ ts = []) ∨ ∃ g cap, v = .slice (some ⟨g, 0, none⟩) ts.length cap ∧ ∀ j u, (rtkCells ts)[j]? = some u → W.cell? ⟨g, j, none⟩ = some u
theorem RTkRow.of_owns {W : World} {b : Nat} {v : Value} {ts : List Tk} (h : W.ownsRow b 73 3 v ts.length (rtkCells ts)) : RTkRow W v ts := by
  rcases h.2 with ⟨hv, h0⟩ | ⟨g, cap, cur, hv, _⟩
  · exact .inl ⟨hv, List.eq_nil_of_length_eq_zero h0⟩
  · subst hv
    refine .inr ⟨g, cap, rfl, fun j u hu => ?_⟩
    have hj : j < (rtkCells ts).length := by
      rcases Nat.lt_or_ge j (rtkCells ts).length with h' | h'
      · exact h'
      · rw [List.getElem?_eq_none h'] at hu; cases hu
    rw [h.cellAt j (by rw [← rtkCells_len]; exact hj)]
    exact hu
theorem RTkRow.below {W W' : World} {v : Value} {ts : List Tk} (h : RTkRow W v ts) (hb : Below W.heap.size W W') : RTkRow W' v ts := by
  rcases h with h | ⟨g, cap, hv, hc⟩
  · exact .inl h
  · refine .inr ⟨g, cap, hv, fun j u hu => ?_⟩
    have h1 := hc j u hu
    exact (World.cell?_of_block (w := W) (hb.block g (cell_lt h1))).trans h1
theorem rtkCells_at (ts : List Tk) (k : Nat) (h : k < ts.length) : (rtkCells ts)[k * 3]? = some (.int .i64 ts[k].K) ∧ (rtkCells ts)[k * 3 + 1]? = some (.string ts[k].x) ∧ (rtkCells ts)[k * 3 + 2]? = some (.int .i64 ts[k].a) := by
  induction ts generalizing k with
  | nil => simp at h
  | cons t r ih =>
    have hc : rtkCells (t :: r) = [.int .i64 t.K, .string t.x, .int .i64 t.a] ++ rtkCells r := rfl
    cases k with
    | zero => rw [hc]; exact ⟨rfl, rfl, rfl⟩
    | succ k =>
      have := ih k (by simpa using h)
      rw [hc, show (k + 1) * 3 = k * 3 + 3 from by omega]
      simpa using this
theorem RTkRow.at {W : World} {g cap : Nat} {ts : List Tk} (h : RTkRow W (.slice (some ⟨g, 0, none⟩) ts.length cap) ts) (k : Nat) (hk : k < ts.length) :
    W.cell? ⟨g, k * 3, none⟩ = some (.int .i64 ts[k].K) ∧ W.cell? ⟨g, k * 3 + 1, none⟩ = some (.string ts[k].x) ∧ W.cell? ⟨g, k * 3 + 2, none⟩ = some (.int .i64 ts[k].a) := by
  rcases h with ⟨h, _⟩ | ⟨g', cap', hv, hc⟩
  · simp at h
  · simp only [Value.slice.injEq, Option.some.injEq, Addr.mk.injEq, and_true, true_and] at hv
    obtain ⟨rfl, rfl⟩ := hv
    have ht := rtkCells_at ts k hk
    exact ⟨hc _ _ ht.1, hc _ _ ht.2.1, hc _ _ ht.2.2⟩
set_option maxHeartbeats 2000000 in
theorem rtype_any (v : Value) (ts : List Tk) (w : World) (hT : RTkRow w v ts) (hlen : (typeGo ts false).length ≤ 140737488355328) (hn : ts.length ≤ 140737488355328) :
    Calls Tryd.prog 26 #[v] w fun e w' => e = .returned (.string ⟨(typeGo ts false).toArray⟩) ∧ w = w' := by
  obtain ⟨ao, cap, rfl⟩ : ∃ ao cap, v = .slice ao ts.length cap := by
    rcases hT with ⟨h, h0⟩ | ⟨g, cap, h, _⟩
    · exact ⟨none, 0, by rw [h, h0]; rfl⟩
    · exact ⟨_, _, h⟩
  have HT := Lib.hid hT
  clear hT
  go_enter Tryd.func26, Tryd.ntmps26
  go_wp2
  go_loop [3, 4] (fun o i => ∃ (k : Nat) (ob : Bool) (X : ByteArray), k ≤ ts.length ∧ i = .int .i64 k ∧ o = .string X ∧ Hid (X.data.toList ++ typeGo (ts.drop k) ob = typeGo ts false) ∧ (k = 0 → ob = false) ∧ Hid (∀ K, (tkCells ts)[k * 3 - 3]? = some (.int .u8 K) → 0 < k → ob = decide (K ≠ 4))) (fun _ i => ts.length - (intOf i).toNat)
  case atStart => exact ⟨0, false, ⟨#[]⟩, by omega, rfl, rfl, Lib.hid rfl, fun _ => rfl, Lib.hid (fun _ _ h => by omega)⟩
  case round =>
    obtain ⟨k, ob, X, hk, rfl, rfl, HL, h00, HO⟩ := hrel
    by_cases hlt : k < ts.length
    · have hd : decide ((k : Int) < (ts.length : Int)) = true := by simp; omega
      have hi0 : (k : Int) < (ts.length : Int) := by omega
      obtain ⟨g, rfl⟩ : ∃ g, ao = some ⟨g, 0, none⟩ := by
        rcases HT.out with ⟨_, h0⟩ | ⟨g, c, h, _⟩
        · rw [h0] at hlt; simp at hlt
        · exact ⟨g, by simp at h; exact h.1⟩
      obtain ⟨c0, c1, _⟩ := HT.out.at k hlt
      obtain ⟨tc, _⟩ := tkCells_at ts k hlt
      have HL0 := HL.out
      rw [List.drop_eq_getElem_cons hlt] at HL0
      obtain ⟨t, ht⟩ : ∃ t, ts[k] = t := ⟨_, rfl⟩
      rw [ht] at c0 c1 HL0 tc
      have HN : ∀ b : Bool, b = decide (t.K ≠ 4) → Hid (∀ K, (tkCells ts)[(k + 1) * 3 - 3]? = some (.int .u8 K) → 0 < k + 1 → b = decide (K ≠ 4)) := fun b hb => Lib.hid (fun K hK _ => by
        rw [show (k + 1) * 3 - 3 = k * 3 from by omega, tc] at hK
        simp only [Option.some.injEq, Value.int.injEq, true_and] at hK
        rw [hb, hK])
      clear ht HL tc
      by_cases h4 : t.K = 4
      · have q4 : (t.K == 4) = true := by rw [beq_iff_eq]; exact h4
        have HL1 := Lib.hid (by rw [typeGo, if_pos h4] at HL0; simpa using HL0 : (X ++ ⟨#[10]⟩).data.toList ++ typeGo (ts.drop (k + 1)) false = typeGo ts false)
        have HO1 := HN false (by simp [h4])
        have hl : X.size + 1 ≤ 140737488355328 := by rw [← HL1.out] at hlen; simp at hlen; omega
        clear HL0 h4 HN HO
        go_wp2
        go_round
        case rel => exact ⟨k + 1, false, _, by omega, by go_num, rfl, HL1, fun h => by omega, HO1⟩
        case measure => simp [intOf]; omega
      · have q4 : (t.K == 4) = false := by rw [beq_eq_false_iff_ne]; exact h4
        have HO1 := HN true (by simp [h4])
        rw [typeGo, if_neg h4] at HL0
        clear h4 HN
        by_cases hk0 : k = 0
        · have h0b := h00 hk0
          subst h0b
          subst hk0
          have HL1 := Lib.hid (by simpa using HL0 : (X ++ t.x).data.toList ++ typeGo (ts.drop (0 + 1)) true = typeGo ts false)
          have hl : X.size + t.x.size ≤ 140737488355328 := by rw [← HL1.out] at hlen; simp at hlen; omega
          clear HL0 HO h00
          go_wp2
          go_round
          case rel => exact ⟨0 + 1, true, _, by omega, by go_num, rfl, HL1, fun h => by omega, HO1⟩
          case measure => simp [intOf]; omega
        · have hk1 : decide ((0 : Int) < (k : Int)) = true := by simp; omega
          have hk2 : (0 : Int) < (k : Int) := by omega
          have hkl : k - 1 < ts.length := by omega
          obtain ⟨p0, _⟩ := HT.out.at (k - 1) hkl
          obtain ⟨pc, _⟩ := tkCells_at ts (k - 1) hkl
          obtain ⟨p, hp⟩ : ∃ p, ts[k - 1].K = p := ⟨_, rfl⟩
          rw [hp] at p0 pc
          have hob := HO.out p (by rw [show k * 3 - 3 = (k - 1) * 3 from by omega]; exact pc) (by omega)
          clear hp HO pc h00 hk0
          cases ob
          · have q5 : (p != 4) = false := by rw [bne_eq_false_iff_eq]; simpa using hob
            have HL1 := Lib.hid (by simpa using HL0 : (X ++ t.x).data.toList ++ typeGo (ts.drop (k + 1)) true = typeGo ts false)
            have hl : X.size + t.x.size ≤ 140737488355328 := by rw [← HL1.out] at hlen; simp at hlen; omega
            clear HL0 hob
            go_wp2
            go_round
            case rel => exact ⟨k + 1, true, _, by omega, by go_num, rfl, HL1, fun h => by omega, HO1⟩
            case measure => simp [intOf]; omega
          · have q5 : (p != 4) = true := by rw [bne_iff_ne]; simpa using hob
            have HL1 := Lib.hid (by simpa using HL0 : (X ++ ⟨#[32]⟩ ++ t.x).data.toList ++ typeGo (ts.drop (k + 1)) true = typeGo ts false)
            have hl : X.size + 1 + t.x.size ≤ 140737488355328 := by rw [← HL1.out] at hlen; simp at hlen; omega
            have hl1 : (X ++ ⟨#[32]⟩ : ByteArray).size = X.size + 1 := by simp; rfl
            clear HL0 hob
            go_wp2
            go_round
            case rel => exact ⟨k + 1, true, _, by omega, by go_num, rfl, HL1, fun h => by omega, HO1⟩
            case measure => simp [intOf]; omega
    · obtain rfl : k = ts.length := by omega
      have hd : decide ((ts.length : Int) < (ts.length : Int)) = false := by simp
      have HL1 := Lib.hid (by have := HL.out; rw [List.drop_length] at this; simpa [typeGo] using this : X.data.toList = typeGo ts false)
      clear HL hlt HO h00
      go_wp2
      go_ret
      rw [← HL1.out]
      exact ⟨rfl, rfl⟩
end Go.Proofs.YtgpndifkkaomcaaDoor
