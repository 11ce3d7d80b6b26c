/- kinds, walked. -/
import Derived.Test.YtgpndifkkaomcaaDoorS1
import Derived.Test.YtgpndifkkaomcaaDoorR4
import Derived.Deep.RegionHeld3
import Derived.Deep.AppendLies
import Derived.OwnWalk
import Derived.Tactics2
import Derived.IntWalk
namespace Go.Proofs.YtgpndifkkaomcaaDoor
open Go.RowKit
def kz (t : Tk) : Tk := ⟨t.K, t.x, 0⟩
structure KSt (w : World) (v : Value) (ts : List Tk) (W : World) : Prop where
  row : W.ownsRow w.heap.size 31 3 v ts.length (tkCells ts)
  b : Below w.heap.size w W
theorem KSt.form {w : World} {v : Value} {ts : List Tk} {W : World} (h : KSt w v ts W) : ∃ ao cap, v = .slice ao ts.length cap := by
  rcases h.row.2 with ⟨hv, h0⟩ | ⟨g, cap, cur, hv, _⟩
  · exact ⟨none, 0, by rw [hv, h0]⟩
  · exact ⟨_, _, hv⟩
theorem KSt.append {w : World} {v v' : Value} {ts : List Tk} {W W' : World} {o : Obj} (t : Tk) (h : KSt w v ts W)
    (hown : W'.ownsRow w.heap.size 31 3 v' (ts.length + 1) (tkCells ts ++ [.int .u8 t.K, .string t.x, .int .i64 t.a])) (hg : (W.alloc o).grownBy W' v.ownBlock) : KSt w v' (ts ++ [t]) W' :=
  ⟨by rw [show tkCells (ts ++ [t]) = tkCells ts ++ [.int .u8 t.K, .string t.x, .int .i64 t.a] from by unfold tkCells; simp, List.length_append]; exact hown, (h.b.alloc h.b.size o).grown hg (by have := h.b.size; simp; omega) (fun k hk => (h.row.lt k hk).1)⟩
set_option maxHeartbeats 1000000 in
theorem kinds_any (v : Value) (ts : List Tk) (w : World) (hT : TkRow w v ts) (hn : ts.length ≤ 20000) :
    Calls Tryd.prog 14 #[v] w fun e w' => ∃ v', e = .returned v' ∧ TkRow w' v' (ts.map kz) ∧ Below w.heap.size w w' := by
  obtain ⟨ao, cap, rfl⟩ := hT.form
  have HT := Lib.hid hT
  obtain ⟨i0, hi, hz0, hz1, hz2⟩ := info_parts tokInfo
  clear hT
  go_enter Tryd.func14, Tryd.ntmps14
  go_wp2
  go_loopg [3, 4] ts.length (fun g o i wr => ∃ k : Nat, k ≤ ts.length ∧ ts.length - k ≤ g ∧ i = .int .i64 k ∧ Hid (KSt w o ((ts.take k).map kz) wr))
  case atStart => exact ⟨0, by omega, by omega, rfl, Lib.hid ⟨⟨rfl, .inl ⟨rfl, rfl⟩⟩, Below.refl _ _⟩⟩
  case round =>
    obtain ⟨k, hk, hg, rfl, HA⟩ := hrel
    by_cases hlt : k < ts.length
    · have hd : decide ((k : Int) < (ts.length : Int)) = true := by simp; omega
      have hi0 : (k : Int) < (ts.length : Int) := by omega
      have hgk : 1 ≤ gk := by omega
      obtain ⟨g, rfl⟩ := HT.out.here hlt
      obtain ⟨c0, c1, c2⟩ := (HT.out.below HA.out.b).at k hlt
      obtain ⟨t, ht⟩ : ∃ t, ts[k] = t := ⟨_, rfl⟩
      rw [ht] at c0 c1 c2
      have HN := Lib.hid (show (ts.take (k + 1)).map kz = (ts.take k).map kz ++ [kz t] by rw [List.take_succ_eq_append_getElem hlt, ht]; simp)
      have HL := Lib.hid (show ((ts.take k).map kz).length = k by simp; omega)
      clear ht
      have hgw : g < w.heap.size := by
        obtain ⟨d0, _, _⟩ := HT.out.at k hlt
        exact cell_lt d0
      obtain ⟨ao, cp, rfl⟩ := HA.out.form
      have hrow := HA.out.row
      rw [HL.out] at hrow ⊢
      have HR := Lib.hid hrow
      have hno : (Value.slice ao k cp).ownBlock ≠ some g := fun e => by
        have := (hrow.lt g e).1
        omega
      have hgl : g < wr.heap.size := by have := HA.out.b.size; omega
      have hbs : w.heap.size ≤ wr.heap.size := HA.out.b.size
      have hki : (0 : Int) ≤ (k : Int) := by omega
      clear c2 HT hrow
      go_wp2_with fail
      go_region_held3 (fun w' => w'.cell? ⟨g, k * 3, none⟩ = some (.int .u8 t.K) ∧ w'.cell? ⟨g, k * 3 + 1, none⟩ = some (.string t.x))
        (first
          | go_keep
          | (go_split_ands
             refine ⟨?_, ?_⟩
             · (rw [hgrow.cell_far _ (by simp; omega) (Ne.symm hno)]; assumption)
             · (rw [hgrow.cell_far _ (by simp; omega) (Ne.symm hno)]; assumption)))
        ((refine step_append_lies _ (by rfl) _ _ _ (by rfl) w.heap.size 31 i0 _ 3 32 Tryd.underlying25 hi hz0 hz1 hz2 rfl (by omega) _ _ _ (by rfl) ((HR.out.alloc _).drew)
            ⟨wr.heap.size, 0, none⟩ 1 1 [.int .u8 t.K, .string t.x, .int .i64 0] (by rfl) (by rfl) (World.news_of_block (cs := #[.int .u8 t.K, .string t.x, .int .i64 0]) (t := 31) (fr := (0, 0)) (heap_alloc_new wr _)) (by simp [Value.oneCell'])
            (by omega) (by unfold maxLen; omega) (by omega) (by simp; omega) (wr.heap.size + 1) (by simp) ?_; intro gg cap w1 hown1 hgrow hat hlt1))
      have HA2 := Lib.hid (HA.out.append (kz t) (by rw [HL.out]; exact hown1) (o := .cells #[.int .u8 t.K, .string t.x, .int .i64 0] 31) (by rw [HL.out]; exact ⟨hgrow.os, hgrow.tape, hgrow.output, hgrow.size, hgrow.block⟩))
      rw [← HN.out] at HA2
      clear hown1 hgrow hat
      go_wp2
      go_roundg (gk - 1)
      case measure => omega
      case rel => exact ⟨k + 1, by omega, by omega, by go_num, HA2⟩
    · obtain rfl : k = ts.length := by omega
      have hd : decide ((ts.length : Int) < (ts.length : Int)) = false := by simp
      rw [List.take_length] at HA
      have HA2 := HA
      clear HA
      obtain ⟨ao2, cp, rfl⟩ := HA2.out.form
      go_wp2
      go_ret
      exact ⟨_, rfl, TkRow.of_owns HA2.out.row, HA2.out.b⟩
end Go.Proofs.YtgpndifkkaomcaaDoor
