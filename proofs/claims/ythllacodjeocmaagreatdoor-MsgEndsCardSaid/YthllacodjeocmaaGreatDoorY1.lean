/- Runs of single operations: slices of strings, the least of two, a slice of strings. The wrong encodings of a message. Runs of single operations, and a plain region's first operations. MsgEnds, walked. -/
import Derived.Test.YthllacodjeocmaaGreatDoorZ0
import Derived.Test.YthllacodjeocmaaGreatDoorT10
import Derived.Test.YthllacodjeocmaaGreatDoorU19
namespace Go.Proofs.YthllacodjeocmaaGreatDoor
open Go.RowKit
attribute [local go_sem] Oper.semAt_some
section
variable {ev : Operand → Value} {o : Oper} {w : World}
theorem run_sl_hi {x y : Operand} {s : ByteArray} {j : Nat} (ho : o.op = .slice 9 x none (some y) none) (hx : ev x = .string s) (hy : ev y = .int .i64 j) (h : j ≤ s.size) : (execOp ev o).run Tryz.prog w = .ok (.value (.string (s.extract 0 j))) w := by
  have hb : (Instr.sliceAt 9 (.string s) none (some (.int .i64 j)) none).run Tryz.prog w = .ok (.string (s.extract 0 j)) w := by
    rw [run_sliceAt_string w 9 _ _ _ _ Tryz.underlying9]
    exact run_slice_string_h w 9 s Tryz.underlying9 .i64 j (by omega) (by omega)
  unfold execOp; simp only [ho, hx, hy, Option.map_some, Option.map_none, Sem.run_bind, hb, Result.andThen_ok, Sem.run_pure]
theorem run_sl_lo {x y : Operand} {s : ByteArray} {j : Nat} (ho : o.op = .slice 9 x (some y) none none) (hx : ev x = .string s) (hy : ev y = .int .i64 j) (h : j ≤ s.size) : (execOp ev o).run Tryz.prog w = .ok (.value (.string (s.extract j s.size))) w := by
  have hb : (Instr.sliceAt 9 (.string s) (some (.int .i64 j)) none none).run Tryz.prog w = .ok (.string (s.extract j s.size)) w := by
    rw [run_sliceAt_string w 9 _ _ _ _ Tryz.underlying9]
    exact run_slice_string_l w 9 s Tryz.underlying9 .i64 j (by omega) (by omega)
  unfold execOp; simp only [ho, hx, hy, Option.map_some, Option.map_none, Sem.run_bind, hb, Result.andThen_ok, Sem.run_pure]
theorem run_lens {x : Operand} {s : ByteArray} (ho : o.op = .call { callee := .builtin .len, args := #[x], argTypes := #[9] }) (hx : ev x = .string s) : (execOp ev o).run Tryz.prog w = .ok (.value (.int .i64 s.size)) w := by
  unfold execOp
  simp [ho, resolve, hx, invoke, builtin, go_sem, Tryz.underlying9]
theorem run_min {x y : Operand} {a b : Int} (ho : o.op = .call { callee := .builtin .min, args := #[x, y], argTypes := #[3, 3] }) (hx : ev x = .int .i64 a) (hy : ev y = .int .i64 b) : (execOp ev o).run Tryz.prog w = .ok (.value (.int .i64 (if b < a then b else a))) w := by
  unfold execOp
  simp [ho, resolve, hx, hy, invoke, builtin, go_sem, Builtin.min_, Builtin.min2]
theorem bsl5 (a b c d e : ByteArray) (W : World) : (Instr.buildSlice 36 5 #[(0, .string a), (1, .string b), (2, .string c), (3, .string d), (4, .string e)]).run Tryz.prog W = .ok (.slice (some ⟨W.heap.size, 0, none⟩) 5 5) (W.alloc (.cells #[.string a, .string b, .string c, .string d, .string e] 9)) := by kernel_rfl
theorem run_bsl5 {x0 x1 x2 x3 x4 : Operand} {a b c d e : ByteArray} (ho : o.op = .buildSlice 36 5 #[(0, x0), (1, x1), (2, x2), (3, x3), (4, x4)]) (h0 : ev x0 = .string a) (h1 : ev x1 = .string b) (h2 : ev x2 = .string c) (h3 : ev x3 = .string d) (h4 : ev x4 = .string e) : (execOp ev o).run Tryz.prog w = .ok (.value (.slice (some ⟨w.heap.size, 0, none⟩) 5 5)) (w.alloc (.cells #[.string a, .string b, .string c, .string d, .string e] 9)) := by
  unfold execOp; simp only [ho, List.map_toArray, List.map_cons, List.map_nil, h0, h1, h2, h3, h4, Sem.run_bind, bsl5, Result.andThen_ok, Sem.run_pure]
end
end Go.Proofs.YthllacodjeocmaaGreatDoor
namespace Go.Proofs.YthllacodjeocmaaGreatDoor
open Go.RowKit
attribute [local go_sem] Oper.semAt_some
theorem nmz4 : (Tryz.f4.name == "runtime.NumGoroutine") = false := by kernel_rfl
theorem bdz4 : Tryz.f4.body.isNone = false := by kernel_rfl
theorem nmz5 : (Tryz.f5.name == "runtime.NumGoroutine") = false := by kernel_rfl
theorem bdz5 : Tryz.f5.body.isNone = false := by kernel_rfl
theorem nmz6 : (Tryz.f6.name == "runtime.NumGoroutine") = false := by kernel_rfl
theorem bdz6 : Tryz.f6.body.isNone = false := by kernel_rfl
theorem nmz7 : (Tryz.f7.name == "runtime.NumGoroutine") = false := by kernel_rfl
theorem bdz7 : Tryz.f7.body.isNone = false := by kernel_rfl
theorem nmz16 : (Tryz.f16.name == "runtime.NumGoroutine") = false := by kernel_rfl
theorem bdz16 : Tryz.f16.body.isNone = false := by kernel_rfl
theorem run_minr {ev : Operand → Value} {o : Oper} {w : World} {x y : Operand} {a b r : Int} (ho : o.op = .call { callee := .builtin .min, args := #[x, y], argTypes := #[3, 3] }) (hx : ev x = .int .i64 a) (hy : ev y = .int .i64 b) (h : (if b < a then b else a) = r) : (execOp ev o).run Tryz.prog w = .ok (.value (.int .i64 r)) w := by rw [← h]; exact run_min ho hx hy
theorem textS_small (m : Mg) : (textS m).size ≤ 200 := by
  have h1 := join_len [32] 7 (wordsOf m) (words_len m)
  have h2 := opt_le m
  have h3 : (textS m).size = (textOf m).length := by show (textOf m).toArray.size = _; simp
  rw [h3]
  unfold textOf
  simp at h1
  omega
structure WS (w : World) (g : Nat) (l : List UInt8) (W : World) : Prop where
  st : St [] w W
  row : BytesAt W g l
theorem WS.next {w W W' : World} {g : Nat} {l : List UInt8} (h : WS w g l W) (hb : Below W.heap.size W W') : WS w g l W' := ⟨h.st.next hb, h.row.below hb⟩
theorem WS.drew {w W : World} {g : Nat} {l : List UInt8} (h : WS w g l W) : WS w g l W.drew := h.next ⟨rfl, rfl, rfl, Nat.le_refl _, fun _ _ => rfl⟩
def S5 (C : Array Value) : Fact := ⟨fun v W => ∃ g, v = .slice (some ⟨g, 0, none⟩) 5 5 ∧ W.heap[g]? = some (.cells C 9), fun _ _ _ hb ⟨g, e, h⟩ => ⟨g, e, blk_next h hb⟩⟩
def P5 (C : Array Value) (i : Nat) : Fact := ⟨fun v W => ∃ g, v = .pointer (some ⟨g, i, none⟩) ∧ W.heap[g]? = some (.cells C 9), fun _ _ _ hb ⟨g, e, h⟩ => ⟨g, e, blk_next h hb⟩⟩
theorem p5 {C : Array Value} {g i : Nat} {W : World} (h : W.heap[g]? = some (.cells C 9)) : (P5 C i).p (.pointer (some ⟨g, 0 + i, none⟩)) W := ⟨g, by rw [Nat.zero_add], h⟩
theorem pick5 (a b c d e : ByteArray) {i : Nat} (hi : i < 5) (ha : a.size ≤ 1000) (hb : b.size ≤ 1000) (hc : c.size ≤ 1000) (hd : d.size ≤ 1000) (he : e.size ≤ 1000) : ∃ t : ByteArray, (#[.string a, .string b, .string c, .string d, .string e] : Array Value)[i]? = some (.string t) ∧ t.size ≤ 1000 := by
  obtain rfl | rfl | rfl | rfl | rfl : i = 0 ∨ i = 1 ∨ i = 2 ∨ i = 3 ∨ i = 4 := by omega
  · exact ⟨a, rfl, ha⟩
  · exact ⟨b, rfl, hb⟩
  · exact ⟨c, rfl, hc⟩
  · exact ⟨d, rfl, hd⟩
  · exact ⟨e, rfl, he⟩
theorem run_slb {ev : Operand → Value} {o : Oper} {w : World} {x y : Operand} {g k : Nat} (ho : o.op = .slice 33 x none (some y) none) (hx : ev x = .slice (some ⟨g, 0, none⟩) 11 11) (hy : ev y = .int .i64 k) (h : k ≤ 11) : (execOp ev o).run Tryz.prog w = .ok (.value (.slice (some ⟨g, 0, none⟩) k 11)) w := by
  have hb : (Instr.sliceAt 33 (.slice (some ⟨g, 0, none⟩) 11 11) none (some (.int .i64 k)) none).run Tryz.prog w = .ok (.slice (some ⟨g, 0, none⟩) k 11) w := by
    have e : Tryz.prog.underlying 33 = some (.slice (Tryz.prog.elem 33)) := by kernel_rfl
    have hz : (sizeOf (Tryz.prog.elem 33)).run Tryz.prog w = .ok 1 w := by kernel_rfl
    rw [run_sliceAt_slice w 33 _ _ _ _ e, run_slice_h w 33 _ _ _ e .i64 k (by omega) (by omega), hz]
    have ek : ((k : Int)).toNat = k := by omega
    simp [sliced, Result.andThen, ek]
    unfold Addr.add
    simp
  unfold execOp; simp only [ho, hx, hy, Option.map_some, Option.map_none, Sem.run_bind, hb, Result.andThen_ok, Sem.run_pure]
theorem bts_take {W : World} {g k : Nat} {l : List UInt8} (h : BytesAt W g l) (hk : k ≤ l.length) (h11 : l.length = 11) : Bts W (.slice (some ⟨g, 0, none⟩) k 11) (l.take k) := by
  have e : (l.take k).length = k := by rw [List.length_take]; omega
  refine ⟨some ⟨g, 0, none⟩, 11, by rw [e], by omega, fun _ => ⟨g, 0, rfl, fun j u hu => ?_⟩⟩
  rw [Nat.zero_add]
  rw [List.getElem?_take] at hu
  split at hu
  · exact h j u hu
  · cases hu
structure WT (w : World) (g : Nat) (l : List UInt8) (vc : Value) (lc : List UInt8) (vd : Value) (ld : List UInt8) (W : World) : Prop where
  ws : WS w g l W
  c : Bts W vc lc
  d : Bts W vd ld
theorem WT.next {w W W' : World} {g : Nat} {l lc ld : List UInt8} {vc vd : Value} (h : WT w g l vc lc vd ld W) (hb : Below W.heap.size W W') : WT w g l vc lc vd ld W' := ⟨h.ws.next hb, h.c.below hb, h.d.below hb⟩
theorem bts_all {W : World} {g : Nat} {l : List UInt8} (h : BytesAt W g l) (h11 : l.length = 11) : Bts W (.slice (some ⟨g, 0, none⟩) 11 11) l := by
  have := Bts.of (cap := 11) h (by omega)
  rw [h11] at this
  exact this
theorem row_cur {W : World} {base g cap : Nat} {l : List UInt8} (h : W.ownsRow base 5 1 (.slice (some ⟨g, 0, none⟩) (0 + 11) cap) (0 + 11) ([] ++ l.map u8v)) : ∃ cur : Array Value, 11 ≤ cap ∧ base ≤ g ∧ W.heap[g]? = some (.cells cur 5) ∧ cur.toList.take 11 = l.map u8v := by
  rcases h.2 with ⟨e, _⟩ | ⟨g', cap', cur, e, hb, hh, hn, _, _, ht⟩
  · cases e
  · injection e with e1 _ e3
    injection e1 with e1
    injection e1 with e1
    subst e1 e3
    exact ⟨cur, by omega, hb, hh, by simpa using ht⟩
theorem cur_at {cur : Array Value} {l : List UInt8} (h : cur.toList.take 11 = l.map u8v) (hl : l.length = 11) {j : Nat} (hj : j < 11) : ∃ x, cur[j]? = some (u8v x) := by
  have h1 : (cur.toList.take 11)[j]? = (l.map u8v)[j]? := by rw [h]
  rw [List.getElem?_take, if_pos hj, List.getElem?_map, Array.getElem?_toList] at h1
  rw [h1, List.getElem?_eq_getElem (by omega)]
  exact ⟨_, rfl⟩
theorem bts_set {W : World} {g cap : Nat} {cur : Array Value} {l : List UInt8} (hh : W.heap[g]? = some (.cells cur 5)) (hl : l.length = 11) (ht : cur.toList.take 11 = l.map u8v) (hc : 11 ≤ cap) : Bts (W.setCell ⟨g, 6, none⟩ (.int .u8 2)) (.slice (some ⟨g, 0, none⟩) 11 cap) (l.set 6 2) := by
  refine ⟨some ⟨g, 0, none⟩, cap, by rw [List.length_set, hl], by rw [List.length_set, hl]; exact hc, fun _ => ⟨g, 0, rfl, fun j u hu => ?_⟩⟩
  rw [Nat.zero_add, cell_of_heap (heap_set hh _), Array.getElem?_setIfInBounds]
  have hj : j < 11 := by
    rcases Nat.lt_or_ge j 11 with h | h
    · exact h
    · rw [List.getElem?_eq_none (by rw [List.length_set]; omega)] at hu; cases hu
  by_cases h6 : 6 = j
  · subst h6
    rw [List.getElem?_set_self (by omega)] at hu
    obtain rfl := Option.some.inj hu
    obtain ⟨x, hx⟩ := cur_at ht hl (j := 6) (by omega)
    have : 6 < cur.size := by
      rcases Nat.lt_or_ge 6 cur.size with h | h
      · exact h
      · rw [Array.getElem?_eq_none h] at hx; cases hx
    rw [if_pos rfl, if_pos this]
    rfl
  · rw [if_neg h6]
    rw [List.getElem?_set_ne h6] at hu
    have h1 : (cur.toList.take 11)[j]? = (l.map u8v)[j]? := by rw [ht]
    rw [List.getElem?_take, if_pos hj, List.getElem?_map, Array.getElem?_toList, hu] at h1
    exact h1
theorem u8_one (l : List UInt8) : ∀ u ∈ l.map u8v, u.oneCell' = true := by
  intro u hu
  obtain ⟨x, _, rfl⟩ := List.mem_map.1 hu
  rfl
theorem news_row {W : World} {g : Nat} {l : List UInt8} (h : BytesAt W g l) (o : Obj) : ∀ j u, (l.map u8v)[j]? = some u → (W.alloc o).cell? ((⟨g, 0, none⟩ : Addr).add j) = some u := by
  intro j u hu
  rw [List.getElem?_map] at hu
  cases hj : l[j]? with
  | none => rw [hj] at hu; cases hu
  | some x =>
    rw [hj] at hu
    simp only [Option.map_some, Option.some.injEq] at hu
    subst hu
    have : (⟨g, 0, none⟩ : Addr).add j = ⟨g, j, none⟩ := by unfold Addr.add; split <;> simp_all
    rw [this]
    exact calloc (h j x hj)
theorem run_sl_hi2 {ev : Operand → Value} {o : Oper} {w : World} {x y : Operand} {s p : ByteArray} {j : Nat} (ho : o.op = .slice 9 x none (some y) none) (hx : ev x = .string s) (hy : ev y = .int .i64 j) (h : j ≤ s.size) (hp : s.extract 0 j = p) : (execOp ev o).run Tryz.prog w = .ok (.value (.string p)) w := by rw [← hp]; exact run_sl_hi ho hx hy h
theorem run_sl_lo2 {ev : Operand → Value} {o : Oper} {w : World} {x y : Operand} {s p : ByteArray} {j : Nat} (ho : o.op = .slice 9 x (some y) none none) (hx : ev x = .string s) (hy : ev y = .int .i64 j) (h : j ≤ s.size) (hp : s.extract j s.size = p) : (execOp ev o).run Tryz.prog w = .ok (.value (.string p)) w := by rw [← hp]; exact run_sl_lo ho hx hy h
theorem wrap64 {n : Int} (h0 : -9223372036854775808 ≤ n) (h1 : n ≤ 9223372036854775807) : IntKind.i64.wrap n = n := IntWalk.i64_in n ⟨by omega, by omega⟩
set_option maxHeartbeats 8000000 in
set_option maxRecDepth 100000 in
theorem wrong_any (m : Mg) (nn : Nat) (hnn : nn < 1000) (w : World) (hG : GlobM w) : Calls Tryz.prog 6 #[.agg (boxOf m), .int .i64 nn] w fun e w' => e = .returned (.bool true) ∧ Below w.heap.size w w' := by
  obtain ⟨i0, hi, hz0, hz1, hz2⟩ := info_parts byteInfoU
  have HS0 := Lib.hid ((St.start hG).boxT (boxOf m) 27 rfl)
  obtain ⟨bA, hbA⟩ : ∃ b, w.heap.size = b := ⟨_, rfl⟩
  rw [hbA] at HS0
  have HBA := Lib.hid hbA
  have HBSZ := Lib.hid hG.g.size
  clear hG
  obtain ⟨s, hs⟩ : ∃ s, textS m = s := ⟨_, rfl⟩
  have hsz : s.size ≤ 200 := by rw [← hs]; exact textS_small m
  have HSS := Lib.hid hs
  obtain ⟨l, hl⟩ : ∃ l, bytesOf m = l := ⟨_, rfl⟩
  have HLL : Hid (l.length = 11) := Lib.hid (by rw [← hl]; exact bytesOf_len m)
  have HL := Lib.hid hl
  clear hs hl
  go_enter Tryz.func6, Tryz.ntmps6
  go_wp2_with (first | (refine wpl_box rfl 27 (.tmp 0) rfl (boxOf m) rfl ?_; rw [hbA]; intro w0 hw0; have HS1 := (show Hid (St [(bA, boxOf m, 27)] w w0) from by rw [hw0.out]; exact HS0); clear hw0 HS0 hbA) | (refine wpl_ld25 rfl (.tmp 2) rfl bA m rfl (HS1.out.h (bA, boxOf m, 27) (by simp)) ?_) | fail)
  go_at_call 15
  refine (text_ref m _ HS1.out.g).mono ?_
  rw [HSS.out]
  rintro e w1 ⟨rfl, hb⟩
  have HS2 := Lib.hid (HS1.out.next hb)
  clear hb HS1
  go_wp2_with (first | (refine wpl_ld25 rfl (.tmp 2) rfl bA m rfl (HS2.out.h (bA, boxOf m, 27) (by simp)) ?_) | fail)
  go_at_call 13
  refine (rbytes_any m _).mono ?_
  rw [HL.out]
  rintro e w2 ⟨g, rfl, hrow, hb⟩
  have HW : Hid (WS w g l w2) := Lib.hid ⟨(HS2.out.next hb).sub (fun _ h => by cases h), hrow⟩
  clear hb hrow HS2
  go_upto_block 0 with fail
  go_cut [] (fun wx => Hid (WS w g l wx))
  case first =>
    go_wp2_with fail
    go_loopw [7] (fun i wr => ∃ j : Nat, j ≤ s.size + 1 ∧ i = .int .i64 j ∧ Hid (WS w g l wr)) (fun i _ => s.size + 1 - (intOf i).toNat)
    case atStart => exact ⟨0, by omega, rfl, HW⟩
    case round =>
      clear HW
      obtain ⟨j, hj, rfl, HW⟩ := hrel
      by_cases hlt : j ≤ s.size
      · have q1 : decide ((j : Int) ≤ (s.size : Int)) = true := by simp; omega
        go_upto_region 6 with fail
        obtain ⟨p, hp⟩ : ∃ p, s.extract 0 j = p := ⟨_, rfl⟩
        obtain ⟨q, hq⟩ : ∃ p, s.extract j s.size = p := ⟨_, rfl⟩
        obtain ⟨mn, hmn, hmz⟩ : ∃ mn : Nat, (if ((s.size : Nat) : Int) < ((j + 1 : Nat) : Int) then ((s.size : Nat) : Int) else ((j + 1 : Nat) : Int)) = (mn : Int) ∧ mn ≤ s.size := by
          by_cases h : ((s.size : Nat) : Int) < ((j + 1 : Nat) : Int)
          · exact ⟨s.size, if_pos h, Nat.le_refl _⟩
          · exact ⟨j + 1, if_neg h, by omega⟩
        obtain ⟨r, hr⟩ : ∃ p, s.extract mn s.size = p := ⟨_, rfl⟩
        have zp : p.size ≤ 200 := by rw [← hp, ByteArray.size_extract]; omega
        have zq : q.size ≤ 200 := by rw [← hq, ByteArray.size_extract]; omega
        have zr : r.size ≤ 200 := by rw [← hr, ByteArray.size_extract]; omega
        have x1 : (⟨#[32]⟩ : ByteArray).size = 1 := rfl
        have x2 : (⟨#[48]⟩ : ByteArray).size = 1 := rfl
        have x3 : (⟨#[62]⟩ : ByteArray).size = 1 := rfl
        have a1 : IntKind.i64.wrap ((j : Int) + 1) = ((j + 1 : Nat) : Int) := by rw [wrap64 (by omega) (by omega)]; omega
        have a2 : IntKind.i64.wrap ((j : Int) + (nn : Int)) = ((j + nn : Nat) : Int) := by rw [wrap64 (by omega) (by omega)]; omega
        obtain ⟨t, hc5, ht⟩ := pick5 (p ++ ⟨#[32]⟩ ++ q) p (p ++ ⟨#[48]⟩ ++ q) (p ++ ⟨#[62]⟩ ++ q) (p ++ r) (Nat.mod_lt (j + nn) (by omega : 0 < 5)) (by simp only [sizes, x1]; omega) (by omega) (by simp only [sizes, x2]; omega) (by simp only [sizes, x3]; omega) (by simp only [sizes]; omega)
        obtain ⟨C, hC⟩ : ∃ C : Array Value, #[.string (p ++ ⟨#[32]⟩ ++ q), .string p, .string (p ++ ⟨#[48]⟩ ++ q), .string (p ++ ⟨#[62]⟩ ++ q), .string (p ++ r)] = C := ⟨_, rfl⟩
        rw [hC] at hc5
        refine region_all (D := [false, false, false, false, false, false, false, false, true, false, false, false, false, false, false, false, false, false, false, false, false, true, true, true, true, true, true, true, true, true, true, true, true, true, true, true, true, true, true, true, true, true, true, true, true, true, true, true, true, true, true, true, true, true, true, true, true, true, true, true, true, true, true, true, true, true]) (S := WS w g l) (R := RB) (F := FF [isV (.string s), isV (.int .i64 j), isV (.string p), isV (.string (p ++ ⟨#[32]⟩)), isV (.string s), isV (.int .i64 j), isV (.string q), isV (.string (p ++ ⟨#[32]⟩ ++ q)), isV (.string s), isV (.int .i64 j), isV (.string p), isV (.string s), isV (.int .i64 j), isV (.string p), isV (.string (p ++ ⟨#[48]⟩)), isV (.string s), isV (.int .i64 j), isV (.string q), isV (.string (p ++ ⟨#[48]⟩ ++ q)), isV (.string s), isV (.int .i64 j), isV (.string p), isV (.string (p ++ ⟨#[62]⟩)), isV (.string s), isV (.int .i64 j), isV (.string q), isV (.string (p ++ ⟨#[62]⟩ ++ q)), isV (.string s), isV (.int .i64 j), isV (.string p), isV (.string s), isV (.int .i64 j), isV (.int .i64 ((j + 1 : Nat) : Int)), isV (.string s), isV (.int .i64 s.size), isV (.int .i64 mn), isV (.string r), isV (.string (p ++ r)), S5 C, isV (.int .i64 j), isV (.int .i64 nn), isV (.int .i64 ((j + nn : Nat) : Int)), isV (.int .i64 (((j + nn) % 5 : Nat) : Int)), P5 C ((j + nn) % 5), isV (.string t), isV (.string t)]) rfl mo (by kernel_rfl) (FF_st _ _) HW.out.drew (fun hN => ?_) (fun u W hS hF => ?_)
        · refine steps_cons ?_ ?_
          · intro u W hS hp
            exact step_on (wanted_free rfl) (ext_val hS (run_mv rfl ((eval_out rfl).trans rfl)) rfl)
          refine steps_cons ?_ ?_
          · intro u W hS hp
            exact step_on (wanted_free rfl) (ext_val hS (run_mv rfl ((eval_out rfl).trans rfl)) rfl)
          refine steps_cons ?_ ?_
          · intro u W hS hp
            obtain ⟨q0, q1, _⟩ := hp
            have p21 : u 21 = .string s := q0
            have p22 : u 22 = .int .i64 j := q1
            exact step_on (wanted_free rfl) (ext_val hS (run_sl_hi2 rfl ((eval_in rfl hN rfl).trans p21) ((eval_in rfl hN rfl).trans p22) hlt hp) rfl)
          refine steps_cons ?_ ?_
          · intro u W hS hp
            obtain ⟨q0, _⟩ := hp
            have p23 : u 23 = .string p := q0
            exact step_on (wanted_free rfl) (ext_val hS (run_bin rfl ((eval_in rfl hN rfl).trans p23) rfl rfl (str_add (by rw [x1]; omega))) rfl)
          refine steps_cons ?_ ?_
          · intro u W hS hp
            exact step_on (wanted_free rfl) (ext_val hS (run_mv rfl ((eval_out rfl).trans rfl)) rfl)
          refine steps_cons ?_ ?_
          · intro u W hS hp
            exact step_on (wanted_free rfl) (ext_val hS (run_mv rfl ((eval_out rfl).trans rfl)) rfl)
          refine steps_cons ?_ ?_
          · intro u W hS hp
            obtain ⟨q0, q1, _⟩ := hp
            have p25 : u 25 = .string s := q0
            have p26 : u 26 = .int .i64 j := q1
            exact step_on (wanted_free rfl) (ext_val hS (run_sl_lo2 rfl ((eval_in rfl hN rfl).trans p25) ((eval_in rfl hN rfl).trans p26) hlt hq) rfl)
          refine steps_cons ?_ ?_
          · intro u W hS hp
            obtain ⟨q0, q1, _⟩ := hp
            have p24 : u 24 = .string (p ++ ⟨#[32]⟩) := q0
            have p27 : u 27 = .string q := q1
            exact step_on (wanted_free rfl) (ext_val hS (run_bin rfl ((eval_in rfl hN rfl).trans p24) ((eval_in rfl hN rfl).trans p27) rfl (str_add (by rw [sizes, x1]; omega))) rfl)
          refine steps_cons ?_ ?_
          · intro u W hS hp
            exact step_on (wanted_free rfl) (ext_val hS (run_mv rfl ((eval_out rfl).trans rfl)) rfl)
          refine steps_cons ?_ ?_
          · intro u W hS hp
            exact step_on (wanted_free rfl) (ext_val hS (run_mv rfl ((eval_out rfl).trans rfl)) rfl)
          refine steps_cons ?_ ?_
          · intro u W hS hp
            obtain ⟨q0, q1, _⟩ := hp
            have p29 : u 29 = .string s := q0
            have p30 : u 30 = .int .i64 j := q1
            exact step_on (wanted_free rfl) (ext_val hS (run_sl_hi2 rfl ((eval_in rfl hN rfl).trans p29) ((eval_in rfl hN rfl).trans p30) hlt hp) rfl)
          refine steps_cons ?_ ?_
          · intro u W hS hp
            exact step_on (wanted_free rfl) (ext_val hS (run_mv rfl ((eval_out rfl).trans rfl)) rfl)
          refine steps_cons ?_ ?_
          · intro u W hS hp
            exact step_on (wanted_free rfl) (ext_val hS (run_mv rfl ((eval_out rfl).trans rfl)) rfl)
          refine steps_cons ?_ ?_
          · intro u W hS hp
            obtain ⟨q0, q1, _⟩ := hp
            have p32 : u 32 = .string s := q0
            have p33 : u 33 = .int .i64 j := q1
            exact step_on (wanted_free rfl) (ext_val hS (run_sl_hi2 rfl ((eval_in rfl hN rfl).trans p32) ((eval_in rfl hN rfl).trans p33) hlt hp) rfl)
          refine steps_cons ?_ ?_
          · intro u W hS hp
            obtain ⟨q0, _⟩ := hp
            have p34 : u 34 = .string p := q0
            exact step_on (wanted_free rfl) (ext_val hS (run_bin rfl ((eval_in rfl hN rfl).trans p34) rfl rfl (str_add (by rw [x2]; omega))) rfl)
          refine steps_cons ?_ ?_
          · intro u W hS hp
            exact step_on (wanted_free rfl) (ext_val hS (run_mv rfl ((eval_out rfl).trans rfl)) rfl)
          refine steps_cons ?_ ?_
          · intro u W hS hp
            exact step_on (wanted_free rfl) (ext_val hS (run_mv rfl ((eval_out rfl).trans rfl)) rfl)
          refine steps_cons ?_ ?_
          · intro u W hS hp
            obtain ⟨q0, q1, _⟩ := hp
            have p36 : u 36 = .string s := q0
            have p37 : u 37 = .int .i64 j := q1
            exact step_on (wanted_free rfl) (ext_val hS (run_sl_lo2 rfl ((eval_in rfl hN rfl).trans p36) ((eval_in rfl hN rfl).trans p37) hlt hq) rfl)
          refine steps_cons ?_ ?_
          · intro u W hS hp
            obtain ⟨q0, q1, _⟩ := hp
            have p35 : u 35 = .string (p ++ ⟨#[48]⟩) := q0
            have p38 : u 38 = .string q := q1
            exact step_on (wanted_free rfl) (ext_val hS (run_bin rfl ((eval_in rfl hN rfl).trans p35) ((eval_in rfl hN rfl).trans p38) rfl (str_add (by rw [sizes, x2]; omega))) rfl)
          refine steps_cons ?_ ?_
          · intro u W hS hp
            exact step_on (wanted_free rfl) (ext_val hS (run_mv rfl ((eval_out rfl).trans rfl)) rfl)
          refine steps_cons ?_ ?_
          · intro u W hS hp
            exact step_on (wanted_free rfl) (ext_val hS (run_mv rfl ((eval_out rfl).trans rfl)) rfl)
          refine steps_cons ?_ ?_
          · intro u W hS hp
            obtain ⟨q0, q1, _⟩ := hp
            have p40 : u 40 = .string s := q0
            have p41 : u 41 = .int .i64 j := q1
            exact step_on (wanted_free rfl) (ext_val hS (run_sl_hi2 rfl ((eval_in rfl hN rfl).trans p40) ((eval_in rfl hN rfl).trans p41) hlt hp) rfl)
          refine steps_cons ?_ ?_
          · intro u W hS hp
            obtain ⟨q0, _⟩ := hp
            have p42 : u 42 = .string p := q0
            exact step_on (wanted_free rfl) (ext_val hS (run_bin rfl ((eval_in rfl hN rfl).trans p42) rfl rfl (str_add (by rw [x3]; omega))) rfl)
          refine steps_cons ?_ ?_
          · intro u W hS hp
            exact step_on (wanted_free rfl) (ext_val hS (run_mv rfl ((eval_out rfl).trans rfl)) rfl)
          refine steps_cons ?_ ?_
          · intro u W hS hp
            exact step_on (wanted_free rfl) (ext_val hS (run_mv rfl ((eval_out rfl).trans rfl)) rfl)
          refine steps_cons ?_ ?_
          · intro u W hS hp
            obtain ⟨q0, q1, _⟩ := hp
            have p44 : u 44 = .string s := q0
            have p45 : u 45 = .int .i64 j := q1
            exact step_on (wanted_free rfl) (ext_val hS (run_sl_lo2 rfl ((eval_in rfl hN rfl).trans p44) ((eval_in rfl hN rfl).trans p45) hlt hq) rfl)
          refine steps_cons ?_ ?_
          · intro u W hS hp
            obtain ⟨q0, q1, _⟩ := hp
            have p43 : u 43 = .string (p ++ ⟨#[62]⟩) := q0
            have p46 : u 46 = .string q := q1
            exact step_on (wanted_free rfl) (ext_val hS (run_bin rfl ((eval_in rfl hN rfl).trans p43) ((eval_in rfl hN rfl).trans p46) rfl (str_add (by rw [sizes, x3]; omega))) rfl)
          refine steps_cons ?_ ?_
          · intro u W hS hp
            exact step_on (wanted_free rfl) (ext_val hS (run_mv rfl ((eval_out rfl).trans rfl)) rfl)
          refine steps_cons ?_ ?_
          · intro u W hS hp
            exact step_on (wanted_free rfl) (ext_val hS (run_mv rfl ((eval_out rfl).trans rfl)) rfl)
          refine steps_cons ?_ ?_
          · intro u W hS hp
            obtain ⟨q0, q1, _⟩ := hp
            have p48 : u 48 = .string s := q0
            have p49 : u 49 = .int .i64 j := q1
            exact step_on (wanted_free rfl) (ext_val hS (run_sl_hi2 rfl ((eval_in rfl hN rfl).trans p48) ((eval_in rfl hN rfl).trans p49) hlt hp) rfl)
          refine steps_cons ?_ ?_
          · intro u W hS hp
            exact step_on (wanted_free rfl) (ext_val hS (run_mv rfl ((eval_out rfl).trans rfl)) rfl)
          refine steps_cons ?_ ?_
          · intro u W hS hp
            exact step_on (wanted_free rfl) (ext_val hS (run_mv rfl ((eval_out rfl).trans rfl)) rfl)
          refine steps_cons ?_ ?_
          · intro u W hS hp
            obtain ⟨q0, _⟩ := hp
            have p52 : u 52 = .int .i64 j := q0
            exact step_on (wanted_free rfl) (ext_val hS (run_bin rfl ((eval_in rfl hN rfl).trans p52) rfl rfl (i_add a1)) rfl)
          refine steps_cons ?_ ?_
          · intro u W hS hp
            exact step_on (wanted_free rfl) (ext_val hS (run_mv rfl ((eval_out rfl).trans rfl)) rfl)
          refine steps_cons ?_ ?_
          · intro u W hS hp
            obtain ⟨q0, _⟩ := hp
            have p54 : u 54 = .string s := q0
            exact step_on (wanted_free rfl) (ext_val hS (run_lens rfl ((eval_in rfl hN rfl).trans p54)) rfl)
          refine steps_cons ?_ ?_
          · intro u W hS hp
            obtain ⟨q0, q1, _⟩ := hp
            have p53 : u 53 = .int .i64 ((j + 1 : Nat) : Int) := q0
            have p55 : u 55 = .int .i64 s.size := q1
            exact step_on (wanted_free rfl) (ext_val hS (run_minr rfl ((eval_in rfl hN rfl).trans p53) ((eval_in rfl hN rfl).trans p55) hmn) rfl)
          refine steps_cons ?_ ?_
          · intro u W hS hp
            obtain ⟨q0, q1, _⟩ := hp
            have p51 : u 51 = .string s := q0
            have p56 : u 56 = .int .i64 mn := q1
            exact step_on (wanted_free rfl) (ext_val hS (run_sl_lo2 rfl ((eval_in rfl hN rfl).trans p51) ((eval_in rfl hN rfl).trans p56) hmz hr) rfl)
          refine steps_cons ?_ ?_
          · intro u W hS hp
            obtain ⟨q0, q1, _⟩ := hp
            have p50 : u 50 = .string p := q0
            have p57 : u 57 = .string r := q1
            exact step_on (wanted_free rfl) (ext_val hS (run_bin rfl ((eval_in rfl hN rfl).trans p50) ((eval_in rfl hN rfl).trans p57) rfl (str_add (by omega))) rfl)
          refine steps_cons ?_ ?_
          · intro u W hS hp
            obtain ⟨q0, q1, q2, q3, q4, _⟩ := hp
            have p28 : u 28 = .string (p ++ ⟨#[32]⟩ ++ q) := q0
            have p31 : u 31 = .string p := q1
            have p39 : u 39 = .string (p ++ ⟨#[48]⟩ ++ q) := q2
            have p47 : u 47 = .string (p ++ ⟨#[62]⟩ ++ q) := q3
            have p58 : u 58 = .string (p ++ r) := q4
            exact step_on (wanted_free rfl) (ext_new (run_bsl5 rfl ((eval_in rfl hN rfl).trans p28) ((eval_in rfl hN rfl).trans p31) ((eval_in rfl hN rfl).trans p39) ((eval_in rfl hN rfl).trans p47) ((eval_in rfl hN rfl).trans p58)) (hS.next ((Below.refl _ _).alloc (Nat.le_refl _) _)) ((Below.refl _ _).alloc (Nat.le_refl _) _) ⟨W.heap.size, rfl, by rw [← hC]; exact heap_alloc_new _ _⟩)
          refine steps_cons ?_ ?_
          · intro u W hS hp
            exact step_on (wanted_free rfl) (ext_val hS (run_mv rfl ((eval_out rfl).trans rfl)) rfl)
          refine steps_cons ?_ ?_
          · intro u W hS hp
            exact step_on (wanted_free rfl) (ext_val hS (run_mv rfl ((eval_out rfl).trans rfl)) rfl)
          refine steps_cons ?_ ?_
          · intro u W hS hp
            obtain ⟨q0, q1, _⟩ := hp
            have p60 : u 60 = .int .i64 j := q0
            have p61 : u 61 = .int .i64 nn := q1
            exact step_on (wanted_free rfl) (ext_val hS (run_bin rfl ((eval_in rfl hN rfl).trans p60) ((eval_in rfl hN rfl).trans p61) rfl (i_add a2)) rfl)
          refine steps_cons ?_ ?_
          · intro u W hS hp
            obtain ⟨q0, _⟩ := hp
            have p62 : u 62 = .int .i64 ((j + nn : Nat) : Int) := q0
            exact step_on (wanted_free rfl) (ext_val hS (run_bin rfl ((eval_in rfl hN rfl).trans p62) rfl rfl (i_rem (b := 5) (by omega))) rfl)
          refine steps_cons ?_ ?_
          · intro u W hS hp
            obtain ⟨q0, q1, _⟩ := hp
            obtain ⟨g59, p59, hN59⟩ := q0
            have p63 : u 63 = .int .i64 (((j + nn) % 5 : Nat) : Int) := q1
            exact step_on (wanted_free rfl) (ext_val hS (run_ia rfl ((eval_in rfl hN rfl).trans p59) ((eval_in rfl hN rfl).trans p63) (idx49 (Nat.mod_lt _ (by omega)))) (p5 hN59))
          refine steps_cons ?_ ?_
          · intro u W hS hp
            obtain ⟨q0, _⟩ := hp
            obtain ⟨g64, p64, hN64⟩ := q0
            exact step_on (wanted_free rfl) (ext_val hS (run_ld rfl ((eval_in rfl hN rfl).trans p64) (ld_str ((cell_of_heap hN64).trans hc5))) rfl)
          refine steps_cons ?_ ?_
          · intro u W hS hp
            obtain ⟨q0, q1, q2, q3, q4, q5, q6, q7, q8, q9, q10, q11, q12, q13, q14, q15, q16, q17, q18, q19, q20, q21, q22, q23, q24, q25, q26, q27, q28, q29, q30, q31, q32, q33, q34, q35, q36, q37, q38, q39, q40, q41, q42, q43, q44, q45, _⟩ := hp
            have p65 : u 65 = .string t := q0
            have p21 : u 21 = .string s := q1
            have p22 : u 22 = .int .i64 j := q2
            have p23 : u 23 = .string p := q3
            have p24 : u 24 = .string (p ++ ⟨#[32]⟩) := q4
            have p25 : u 25 = .string s := q5
            have p26 : u 26 = .int .i64 j := q6
            have p27 : u 27 = .string q := q7
            have p28 : u 28 = .string (p ++ ⟨#[32]⟩ ++ q) := q8
            have p29 : u 29 = .string s := q9
            have p30 : u 30 = .int .i64 j := q10
            have p31 : u 31 = .string p := q11
            have p32 : u 32 = .string s := q12
            have p33 : u 33 = .int .i64 j := q13
            have p34 : u 34 = .string p := q14
            have p35 : u 35 = .string (p ++ ⟨#[48]⟩) := q15
            have p36 : u 36 = .string s := q16
            have p37 : u 37 = .int .i64 j := q17
            have p38 : u 38 = .string q := q18
            have p39 : u 39 = .string (p ++ ⟨#[48]⟩ ++ q) := q19
            have p40 : u 40 = .string s := q20
            have p41 : u 41 = .int .i64 j := q21
            have p42 : u 42 = .string p := q22
            have p43 : u 43 = .string (p ++ ⟨#[62]⟩) := q23
            have p44 : u 44 = .string s := q24
            have p45 : u 45 = .int .i64 j := q25
            have p46 : u 46 = .string q := q26
            have p47 : u 47 = .string (p ++ ⟨#[62]⟩ ++ q) := q27
            have p48 : u 48 = .string s := q28
            have p49 : u 49 = .int .i64 j := q29
            have p50 : u 50 = .string p := q30
            have p51 : u 51 = .string s := q31
            have p52 : u 52 = .int .i64 j := q32
            have p53 : u 53 = .int .i64 ((j + 1 : Nat) : Int) := q33
            have p54 : u 54 = .string s := q34
            have p55 : u 55 = .int .i64 s.size := q35
            have p56 : u 56 = .int .i64 mn := q36
            have p57 : u 57 = .string r := q37
            have p58 : u 58 = .string (p ++ r) := q38
            obtain ⟨g59, p59, hN59⟩ := q39
            have p60 : u 60 = .int .i64 j := q40
            have p61 : u 61 = .int .i64 nn := q41
            have p62 : u 62 = .int .i64 ((j + nn : Nat) : Int) := q42
            have p63 : u 63 = .int .i64 (((j + nn) % 5 : Nat) : Int) := q43
            obtain ⟨g64, p64, hN64⟩ := q44
            exact step_on (wanted_free rfl) (ext_val hS (run_asg rfl ((eval_in rfl hN rfl).trans p65)) rfl)
          exact steps_nil
        · obtain ⟨q0, q1, q2, q3, q4, q5, q6, q7, q8, q9, q10, q11, q12, q13, q14, q15, q16, q17, q18, q19, q20, q21, q22, q23, q24, q25, q26, q27, q28, q29, q30, q31, q32, q33, q34, q35, q36, q37, q38, q39, q40, q41, q42, q43, q44, q45, _⟩ := hF
          have p21 : u 21 = .string s := q0
          have p22 : u 22 = .int .i64 j := q1
          have p23 : u 23 = .string p := q2
          have p24 : u 24 = .string (p ++ ⟨#[32]⟩) := q3
          have p25 : u 25 = .string s := q4
          have p26 : u 26 = .int .i64 j := q5
          have p27 : u 27 = .string q := q6
          have p28 : u 28 = .string (p ++ ⟨#[32]⟩ ++ q) := q7
          have p29 : u 29 = .string s := q8
          have p30 : u 30 = .int .i64 j := q9
          have p31 : u 31 = .string p := q10
          have p32 : u 32 = .string s := q11
          have p33 : u 33 = .int .i64 j := q12
          have p34 : u 34 = .string p := q13
          have p35 : u 35 = .string (p ++ ⟨#[48]⟩) := q14
          have p36 : u 36 = .string s := q15
          have p37 : u 37 = .int .i64 j := q16
          have p38 : u 38 = .string q := q17
          have p39 : u 39 = .string (p ++ ⟨#[48]⟩ ++ q) := q18
          have p40 : u 40 = .string s := q19
          have p41 : u 41 = .int .i64 j := q20
          have p42 : u 42 = .string p := q21
          have p43 : u 43 = .string (p ++ ⟨#[62]⟩) := q22
          have p44 : u 44 = .string s := q23
          have p45 : u 45 = .int .i64 j := q24
          have p46 : u 46 = .string q := q25
          have p47 : u 47 = .string (p ++ ⟨#[62]⟩ ++ q) := q26
          have p48 : u 48 = .string s := q27
          have p49 : u 49 = .int .i64 j := q28
          have p50 : u 50 = .string p := q29
          have p51 : u 51 = .string s := q30
          have p52 : u 52 = .int .i64 j := q31
          have p53 : u 53 = .int .i64 ((j + 1 : Nat) : Int) := q32
          have p54 : u 54 = .string s := q33
          have p55 : u 55 = .int .i64 s.size := q34
          have p56 : u 56 = .int .i64 mn := q35
          have p57 : u 57 = .string r := q36
          have p58 : u 58 = .string (p ++ r) := q37
          obtain ⟨g59, p59, hN59⟩ := q38
          have p60 : u 60 = .int .i64 j := q39
          have p61 : u 61 = .int .i64 nn := q40
          have p62 : u 62 = .int .i64 ((j + nn : Nat) : Int) := q41
          have p63 : u 63 = .int .i64 (((j + nn) % 5 : Nat) : Int) := q42
          obtain ⟨g64, p64, hN64⟩ := q43
          have p65 : u 65 = .string t := q44
          have p8 : u 8 = .string t := q45
          simp only [frm, frmL, Nat.reduceAdd, p21, p22, p23, p24, p25, p26, p27, p28, p29, p30, p31, p32, p33, p34, p35, p36, p37, p38, p39, p40, p41, p42, p43, p44, p45, p46, p47, p48, p49, p50, p51, p52, p53, p54, p55, p56, p57, p58, p59, p60, p61, p62, p63, p64, p65, p8]
          clear p21 p22 p23 p24 p25 p26 p27 p28 p29 p30 p31 p32 p33 p34 p35 p36 p37 p38 p39 p40 p41 p42 p43 p44 p45 p46 p47 p48 p49 p50 p51 p52 p53 p54 p55 p56 p57 p58 p59 p60 p61 p62 p63 p64 p65 p8
          have hlen := HLL.out
          clear hc5 hC hp hq hr hmn hmz zp zq zr x1 x2 x3 a1 a2 HW
          go_upto_region 7 with fail
          refine region_seq (D := [false, false, false, false, false, false, false, false, false, false, false, false, false, false, false, false, false, false, false, false, false, false, false, false, false, false, false, false, false, false, false, false, false, false, false, false, false, false, false, false, false, false, false, false, false, false, false, false, false, false, false, false, false, false, false, false, false, false, false, false, false, false, false, false, false, false, true, true, true, true, true, true, true, true, true, true, true]) (S := WS w g l) (R := RB) (F := FF [isV (.slice (some ⟨g, 0, none⟩) 11 11), isV (.int .i64 j), isV (.int .i64 ((j % 12 : Nat) : Int)), isV (.slice (some ⟨g, 0, none⟩) 11 11), isV (.int .i64 11), isV (.int .i64 12), isV (.int .i64 ((j % 12 % 12 : Nat) : Int)), isV (.slice (some ⟨g, 0, none⟩) (j % 12 % 12) 11), isV (.string t), isV (.bool true), isV (.bool false)]) rfl (by kernel_rfl) (FF_st _ _) hS (fun hN => ?_) (fun u W hS hF => ?_)
          · refine steps_cons ?_ ?_
            · intro u W hS hp
              exact step_on (wanted_free rfl) (ext_val hS (run_mv rfl ((eval_out rfl).trans rfl)) rfl)
            refine steps_cons ?_ ?_
            · intro u W hS hp
              exact step_on (wanted_free rfl) (ext_val hS (run_mv rfl ((eval_out rfl).trans rfl)) rfl)
            refine steps_cons ?_ ?_
            · intro u W hS hp
              obtain ⟨q0, _⟩ := hp
              have p67 : u 67 = .int .i64 j := q0
              exact step_on (wanted_free rfl) (ext_val hS (run_bin rfl ((eval_in rfl hN rfl).trans p67) rfl rfl (i_rem (b := 12) (by omega))) rfl)
            refine steps_cons ?_ ?_
            · intro u W hS hp
              exact step_on (wanted_free rfl) (ext_val hS (run_mv rfl ((eval_out rfl).trans rfl)) rfl)
            refine steps_cons ?_ ?_
            · intro u W hS hp
              obtain ⟨q0, _⟩ := hp
              have p69 : u 69 = .slice (some ⟨g, 0, none⟩) 11 11 := q0
              exact step_on (wanted_free rfl) (ext_val hS (run_len rfl ((eval_in rfl hN rfl).trans p69) Tryz.underlying33) rfl)
            refine steps_cons ?_ ?_
            · intro u W hS hp
              obtain ⟨q0, _⟩ := hp
              have p70 : u 70 = .int .i64 11 := q0
              exact step_on (wanted_free rfl) (ext_val hS (run_bin rfl ((eval_in rfl hN rfl).trans p70) rfl rfl (i_add rfl)) rfl)
            refine steps_cons ?_ ?_
            · intro u W hS hp
              obtain ⟨q0, q1, _⟩ := hp
              have p68 : u 68 = .int .i64 ((j % 12 : Nat) : Int) := q0
              have p71 : u 71 = .int .i64 12 := q1
              exact step_on (wanted_free rfl) (ext_val hS (run_bin rfl ((eval_in rfl hN rfl).trans p68) ((eval_in rfl hN rfl).trans p71) rfl (i_rem (b := 12) (by omega))) rfl)
            refine steps_cons ?_ ?_
            · intro u W hS hp
              obtain ⟨q0, q1, _⟩ := hp
              have p66 : u 66 = .slice (some ⟨g, 0, none⟩) 11 11 := q0
              have p72 : u 72 = .int .i64 ((j % 12 % 12 : Nat) : Int) := q1
              exact step_on (wanted_free rfl) (ext_val hS (run_slb rfl ((eval_in rfl hN rfl).trans p66) ((eval_in rfl hN rfl).trans p72) (by omega)) rfl)
            refine steps_cons ?_ ?_
            · intro u W hS hp
              exact step_on (wanted_free rfl) (ext_val hS (run_mv rfl ((eval_out rfl).trans rfl)) rfl)
            refine steps_cons ?_ ?_
            · intro u W hS hp
              obtain ⟨q0, q1, _⟩ := hp
              have p73 : u 73 = .slice (some ⟨g, 0, none⟩) (j % 12 % 12) 11 := q0
              have p74 : u 74 = .string t := q1
              exact step_on (wanted_free rfl) (ext_call (run_call rfl rfl (map2 ((eval_in rfl hN rfl).trans p73) ((eval_in rfl hN rfl).trans p74)) Tryz.func16 nmz16 bdz16) ((reads_any _ (l.take (j % 12 % 12)) t W hS.st.g (bts_take hS.row (by rw [hlen]; omega) hlen) (by rw [List.length_take]; omega) ht).mono fun _ _ ⟨e, h⟩ => ⟨_, e, rfl, hS.next h, h⟩))
            refine steps_cons ?_ ?_
            · intro u W hS hp
              obtain ⟨q0, _⟩ := hp
              have p75 : u 75 = .bool true := q0
              exact step_on (wanted_free rfl) (ext_val hS (run_un rfl ((eval_in rfl hN rfl).trans p75) rfl) rfl)
            exact steps_nil
          · obtain ⟨_, _, _, _, _, _, _, _, _, _, q10, _⟩ := hF
            have p76 : u 76 = .bool false := q10
            simp only [frm, frmL, Nat.reduceAdd, p76]
            clear p76
            have HW2 := Lib.hid hS
            clear hS hlen ht
            go_wp2_with fail
            exact ⟨⟨j + 1, by omega, by go_num, HW2⟩, by simp [intOf]; omega⟩
      · obtain rfl : j = s.size + 1 := by omega
        have q1 : decide (((s.size + 1 : Nat) : Int) ≤ (s.size : Int)) = false := by simp; omega
        go_wp2_with fail
        go_meet
        exact HW
  case rest =>
    clear HW
    have HW := hcut
    clear hcut
    have hlen := HLL.out
    have H7 : Hid (5 ≤ wc.heap.size) := Lib.hid HW.out.st.g.g.size
    have HO : Hid ((wc.alloc (.cells #[] 5)).ownsRow wc.heap.size 5 1 (.slice (some ⟨wc.heap.size, 0, none⟩) 0 0) 0 []) := Lib.hid (World.ownsRow_lit wc #[] 0 (Nat.le_refl _) (by unfold maxLen; omega) rfl)
    have HN : Hid (∀ j u, (l.map u8v)[j]? = some u → (wc.alloc (.cells #[] 5)).cell? ((⟨g, 0, none⟩ : Addr).add j) = some u) := Lib.hid (news_row (HW.out.row) _)
    have H1 : Hid (∀ u ∈ l.map u8v, u.oneCell' = true) := Lib.hid (u8_one l)
    have HB0 : Hid (Below wc.heap.size wc (wc.alloc (.cells #[] 5))) := Lib.hid ((Below.refl _ wc).alloc (Nat.le_refl _) _)
    go_upto_region 10 with (first | (at_builtin; refine wpList_append_lies _ rfl _ _ _ rfl wc.heap.size 5 i0 (.int .u8 0) 1 1 Tryz.underlying33 hi hz0 hz1 hz2 rfl (by decide) _ 0 [] rfl HO.out ⟨g, 0, none⟩ 11 11 (l.map u8v) rfl (by rw [List.length_map, HLL.out]) HN.out H1.out (by omega) (by unfold maxLen; omega) (by omega) (by simp) _ rfl ?_; intro g1 cap1 w3 hown1 hgr1 _ _; have HO1 := Lib.hid hown1; have HB1 : Hid (Below wc.heap.size wc w3) := Lib.hid (HB0.out.grown hgr1 (by simp) (fun k hk => by have h : some wc.heap.size = some k := hk; injection h with h; omega)); clear hown1 hgr1) | (at_builtin; refine wpList_append_lies _ rfl _ _ _ rfl wc.heap.size 5 i0 (.int .u8 0) 1 1 Tryz.underlying33 hi hz0 hz1 hz2 rfl (by decide) _ (0 + 11) _ rfl (HO1.out.alloc _) ⟨_, 0, none⟩ 1 1 ([(0 : UInt8)].map u8v) rfl rfl (World.news_of_block (t := 5) (fr := (0, 0)) (heap_alloc_new _ _)) (u8_one _) (by omega) (by unfold maxLen; omega) (by omega) (by have := HB1.out.size; simp; omega) _ rfl ?_; intro g2 cap2 w4 hown2 hgr2 _ _; have HC := Lib.hid (bts_own (l := l ++ [0]) (by rw [List.length_append, HLL.out, List.map_append]; exact hown2)); have HB2 : Hid (Below wc.heap.size wc w4) := Lib.hid ((HB1.out.alloc HB1.out.size (.cells #[.int .u8 0] 5)).grown hgr2 (by have := HB1.out.size; simp; omega) (fun k hk => (HO1.out.lt k hk).1)); clear hown2 hgr2) | fail)
    have HW4 := Lib.hid (HW.out.next HB2.out)
    clear HO HN HB0 HO1 HB1 HB2 H7 HW
    have H7 : Hid (5 ≤ w4.heap.size) := Lib.hid HW4.out.st.g.g.size
    have HO : Hid ((w4.alloc (.cells #[] 5)).ownsRow w4.heap.size 5 1 (.slice (some ⟨w4.heap.size, 0, none⟩) 0 0) 0 []) := Lib.hid (World.ownsRow_lit w4 #[] 0 (Nat.le_refl _) (by unfold maxLen; omega) rfl)
    have HN : Hid (∀ j u, (l.map u8v)[j]? = some u → (w4.alloc (.cells #[] 5)).cell? ((⟨g, 0, none⟩ : Addr).add j) = some u) := Lib.hid (news_row (HW4.out.row) _)
    have HB0 : Hid (Below w4.heap.size w4 (w4.alloc (.cells #[] 5))) := Lib.hid ((Below.refl _ w4).alloc (Nat.le_refl _) _)
    go_upto_region 11 with (first | (at_builtin; refine wpList_append_lies _ rfl _ _ _ rfl w4.heap.size 5 i0 (.int .u8 0) 1 1 Tryz.underlying33 hi hz0 hz1 hz2 rfl (by decide) _ 0 [] rfl HO.out ⟨g, 0, none⟩ 11 11 (l.map u8v) rfl (by rw [List.length_map, HLL.out]) HN.out H1.out (by omega) (by unfold maxLen; omega) (by omega) (by simp) _ rfl ?_; intro g3 cap3 w5 hown3 hgr3 _ _; have HO3 := Lib.hid hown3; have HB3 : Hid (Below w4.heap.size w4 w5) := Lib.hid (HB0.out.grown hgr3 (by simp) (fun k hk => by have h : some w4.heap.size = some k := hk; injection h with h; omega)); clear hown3 hgr3) | fail)
    obtain ⟨cur, hcap, hg3, hcur, htk⟩ := row_cur HO3.out
    have hx6 := cur_at htk hlen (j := 6) (by omega)
    obtain ⟨x6, hx6⟩ := hx6
    have c6 : w5.cell? ⟨g3, 6, none⟩ = some (u8v x6) := (cell_of_heap hcur).trans hx6
    have f6 := free_of_heap (i := 6) hcur
    have HCU := Lib.hid (And.intro hcap (And.intro hg3 (And.intro hcur htk)))
    clear hcap hg3 hcur htk hx6 HO HN HB0 HO3 H1
    go_upto_region 12 with fail
    obtain ⟨hcap, hg3, hcur, htk⟩ := HCU.out
    have hb6 : Below w4.heap.size w4 (w5.setCell ⟨g3, 6, none⟩ (.int .u8 2)) := HB3.out.trans ((setCells_only g3 6 [.int .u8 2] w5).below hg3)
    have HD := Lib.hid (bts_set hcur hlen htk hcap)
    generalize w5.setCell ⟨g3, 6, none⟩ (.int .u8 2) = W6 at hb6 HD ⊢
    have HWT : Hid (WT w g l (.slice (some ⟨g2, 0, none⟩) 12 cap2) (l ++ [0]) (.slice (some ⟨g3, 0, none⟩) 11 cap3) (l.set 6 2) W6) := Lib.hid ⟨HW4.out.next hb6, HC.out.below hb6, HD.out⟩
    clear hb6 HD HC HW4 HB3 c6 f6 HCU hcap hg3 hcur htk H7
    have x1 : (⟨#[32]⟩ : ByteArray).size = 1 := rfl
    refine region_seq (D := [false, false, false, false, true, false, false, false, false, false, false, false, false, false, false, false, false, false, false, false, false, false, false, false, false, false, false, false, false, false, false, false, false, false, false, false, false, false, false, false, false, false, false, false, false, false, false, false, false, false, false, false, false, false, false, false, false, false, false, false, false, false, false, false, false, false, false, false, false, false, false, false, false, false, false, false, false, false, false, false, false, false, false, false, false, false, false, true, true, true, true, true, true, true, true, true, true, true, true, true, true, true, true, true, true]) (S := WT w g l (.slice (some ⟨g2, 0, none⟩) 12 cap2) (l ++ [0]) (.slice (some ⟨g3, 0, none⟩) 11 cap3) (l.set 6 2)) (R := RB) (F := FF [isV (.slice (some ⟨g, 0, none⟩) 11 11), isV (.string s), isV (.bool true), isV (.bool true), isV (.slice (some ⟨g2, 0, none⟩) 12 cap2), isV (.string s), isV (.string (s ++ ⟨#[32]⟩)), isV (.bool true), isV (.bool true), isV (.bool true), isV (.slice (some ⟨g3, 0, none⟩) 11 cap3), isV (.string s), isV (.string (⟨#[32]⟩ ++ s)), isV (.bool true), isV (.bool true), isV (.bool true), isV (.bool true), isV (.bool true), isV (.bool true)]) rfl (by kernel_rfl) (FF_st _ _) HWT.out (fun hN => ?_) (fun u W hS hF => ?_)
    · refine steps_cons ?_ ?_
      · intro u W hS hp
        exact step_on (wanted_free rfl) (ext_val hS (run_mv rfl ((eval_out rfl).trans rfl)) rfl)
      refine steps_cons ?_ ?_
      · intro u W hS hp
        exact step_on (wanted_free rfl) (ext_val hS (run_mv rfl ((eval_out rfl).trans rfl)) rfl)
      refine steps_cons ?_ ?_
      · intro u W hS hp
        obtain ⟨q0, q1, _⟩ := hp
        have p87 : u 87 = .slice (some ⟨g, 0, none⟩) 11 11 := q0
        have p88 : u 88 = .string s := q1
        exact step_on (wanted_free rfl) (ext_call (run_call rfl rfl (map2 ((eval_in rfl hN rfl).trans p87) ((eval_in rfl hN rfl).trans p88)) Tryz.func16 nmz16 bdz16) ((reads_any _ (l) _ W hS.ws.st.g (bts_all hS.ws.row hlen) (by omega) (by omega)).mono fun _ _ ⟨e, h⟩ => ⟨_, e, rfl, hS.next h, h⟩))
      refine steps_cons ?_ ?_
      · intro u W hS hp
        obtain ⟨q0, q1, _⟩ := hp
        have p89 : u 89 = .bool true := q0
        exact step_on (wanted_free rfl) (ext_val hS (run_mv rfl ((eval_in rfl hN rfl).trans p89)) rfl)
      refine steps_cons ?_ ?_
      · intro u W hS hp
        obtain ⟨q0, _⟩ := hp
        have p90 : u 90 = .bool true := q0
        exact step_on (wanted_on rfl rfl rfl hN rfl p90) (ext_val hS (run_mv rfl ((eval_out rfl).trans rfl)) rfl)
      refine steps_cons ?_ ?_
      · intro u W hS hp
        obtain ⟨q0, _⟩ := hp
        have p90 : u 90 = .bool true := q0
        exact step_on (wanted_on rfl rfl rfl hN rfl p90) (ext_val hS (run_mv rfl ((eval_out rfl).trans rfl)) rfl)
      refine steps_cons ?_ ?_
      · intro u W hS hp
        obtain ⟨q0, q1, _⟩ := hp
        have p92 : u 92 = .string s := q0
        have p90 : u 90 = .bool true := q1
        exact step_on (wanted_on rfl rfl rfl hN rfl p90) (ext_val hS (run_bin rfl ((eval_in rfl hN rfl).trans p92) rfl rfl (str_add (by rw [x1]; omega))) rfl)
      refine steps_cons ?_ ?_
      · intro u W hS hp
        obtain ⟨q0, q1, q2, q3, _⟩ := hp
        have p91 : u 91 = .slice (some ⟨g2, 0, none⟩) 12 cap2 := q0
        have p93 : u 93 = .string (s ++ ⟨#[32]⟩) := q1
        have p90 : u 90 = .bool true := q2
        exact step_on (wanted_on rfl rfl rfl hN rfl p90) (ext_call (run_call rfl rfl (map2 ((eval_in rfl hN rfl).trans p91) ((eval_in rfl hN rfl).trans p93)) Tryz.func16 nmz16 bdz16) ((reads_any _ (l ++ [0]) _ W hS.ws.st.g hS.c (by rw [List.length_append, hlen]; decide) (by rw [sizes, x1]; omega)).mono fun _ _ ⟨e, h⟩ => ⟨_, e, rfl, hS.next h, h⟩))
      refine steps_cons ?_ ?_
      · intro u W hS hp
        obtain ⟨q0, q1, _⟩ := hp
        have p90 : u 90 = .bool true := q0
        have p94 : u 94 = .bool true := q1
        exact step_on (wanted_free rfl) (ext_val hS (run_pickT rfl ((eval_in rfl hN rfl).trans p90) ((eval_in rfl hN rfl).trans p94)) rfl)
      refine steps_cons ?_ ?_
      · intro u W hS hp
        obtain ⟨q0, q1, _⟩ := hp
        have p95 : u 95 = .bool true := q0
        have p94 : u 94 = .bool true := q1
        exact step_on (wanted_free rfl) (ext_val hS (run_mv rfl ((eval_in rfl hN rfl).trans p95)) rfl)
      refine steps_cons ?_ ?_
      · intro u W hS hp
        obtain ⟨q0, _⟩ := hp
        have p96 : u 96 = .bool true := q0
        exact step_on (wanted_on rfl rfl rfl hN rfl p96) (ext_val hS (run_mv rfl ((eval_out rfl).trans rfl)) rfl)
      refine steps_cons ?_ ?_
      · intro u W hS hp
        obtain ⟨q0, _⟩ := hp
        have p96 : u 96 = .bool true := q0
        exact step_on (wanted_on rfl rfl rfl hN rfl p96) (ext_val hS (run_mv rfl ((eval_out rfl).trans rfl)) rfl)
      refine steps_cons ?_ ?_
      · intro u W hS hp
        obtain ⟨q0, q1, _⟩ := hp
        have p98 : u 98 = .string s := q0
        have p96 : u 96 = .bool true := q1
        exact step_on (wanted_on rfl rfl rfl hN rfl p96) (ext_val hS (run_bin rfl rfl ((eval_in rfl hN rfl).trans p98) rfl (str_add (by rw [x1]; omega))) rfl)
      refine steps_cons ?_ ?_
      · intro u W hS hp
        obtain ⟨q0, q1, q2, q3, _⟩ := hp
        have p97 : u 97 = .slice (some ⟨g3, 0, none⟩) 11 cap3 := q0
        have p99 : u 99 = .string (⟨#[32]⟩ ++ s) := q1
        have p96 : u 96 = .bool true := q2
        exact step_on (wanted_on rfl rfl rfl hN rfl p96) (ext_call (run_call rfl rfl (map2 ((eval_in rfl hN rfl).trans p97) ((eval_in rfl hN rfl).trans p99)) Tryz.func16 nmz16 bdz16) ((reads_any _ (l.set 6 2) _ W hS.ws.st.g hS.d (by rw [List.length_set, hlen]; decide) (by rw [sizes, x1]; omega)).mono fun _ _ ⟨e, h⟩ => ⟨_, e, rfl, hS.next h, h⟩))
      refine steps_cons ?_ ?_
      · intro u W hS hp
        obtain ⟨q0, q1, _⟩ := hp
        have p96 : u 96 = .bool true := q0
        have p100 : u 100 = .bool true := q1
        exact step_on (wanted_free rfl) (ext_val hS (run_pickT rfl ((eval_in rfl hN rfl).trans p96) ((eval_in rfl hN rfl).trans p100)) rfl)
      refine steps_cons ?_ ?_
      · intro u W hS hp
        obtain ⟨q0, q1, _⟩ := hp
        have p101 : u 101 = .bool true := q0
        have p100 : u 100 = .bool true := q1
        exact step_on (wanted_free rfl) (ext_val hS (run_mv rfl ((eval_in rfl hN rfl).trans p101)) rfl)
      refine steps_cons ?_ ?_
      · intro u W hS hp
        obtain ⟨q0, q1, _⟩ := hp
        have p102 : u 102 = .bool true := q0
        exact step_on (wanted_on rfl rfl rfl hN rfl p102) (ext_call (run_call rfl rfl (map2 rfl rfl) Tryz.func16 nmz16 bdz16) ((reads_any _ ([]) _ W hS.ws.st.g ⟨none, 0, rfl, Nat.le_refl _, fun h => by simp at h⟩ (by simp) (by decide)).mono fun _ _ ⟨e, h⟩ => ⟨_, e, rfl, hS.next h, h⟩))
      refine steps_cons ?_ ?_
      · intro u W hS hp
        obtain ⟨q0, q1, _⟩ := hp
        have p102 : u 102 = .bool true := q0
        have p103 : u 103 = .bool true := q1
        exact step_on (wanted_free rfl) (ext_val hS (run_pickT rfl ((eval_in rfl hN rfl).trans p102) ((eval_in rfl hN rfl).trans p103)) rfl)
      refine steps_cons ?_ ?_
      · intro u W hS hp
        obtain ⟨q0, q1, q2, q3, q4, q5, q6, q7, q8, q9, q10, q11, q12, q13, q14, q15, q16, q17, q18, q19, _⟩ := hp
        have p104 : u 104 = .bool true := q0
        have p103 : u 103 = .bool true := q1
        have p87 : u 87 = .slice (some ⟨g, 0, none⟩) 11 11 := q2
        have p88 : u 88 = .string s := q3
        have p89 : u 89 = .bool true := q4
        have p90 : u 90 = .bool true := q5
        have p91 : u 91 = .slice (some ⟨g2, 0, none⟩) 12 cap2 := q6
        have p92 : u 92 = .string s := q7
        have p93 : u 93 = .string (s ++ ⟨#[32]⟩) := q8
        have p94 : u 94 = .bool true := q9
        have p95 : u 95 = .bool true := q10
        have p96 : u 96 = .bool true := q11
        have p97 : u 97 = .slice (some ⟨g3, 0, none⟩) 11 cap3 := q12
        have p98 : u 98 = .string s := q13
        have p99 : u 99 = .string (⟨#[32]⟩ ++ s) := q14
        have p100 : u 100 = .bool true := q15
        have p101 : u 101 = .bool true := q16
        have p102 : u 102 = .bool true := q17
        exact step_on (wanted_free rfl) (ext_val hS (run_asg rfl ((eval_in rfl hN rfl).trans p104)) rfl)
      exact steps_nil
    · obtain ⟨q0, q1, q2, q3, q4, q5, q6, q7, q8, q9, q10, q11, q12, q13, q14, q15, q16, q17, q18, _⟩ := hF
      have p87 : u 87 = .slice (some ⟨g, 0, none⟩) 11 11 := q0
      have p88 : u 88 = .string s := q1
      have p89 : u 89 = .bool true := q2
      have p90 : u 90 = .bool true := q3
      have p91 : u 91 = .slice (some ⟨g2, 0, none⟩) 12 cap2 := q4
      have p92 : u 92 = .string s := q5
      have p93 : u 93 = .string (s ++ ⟨#[32]⟩) := q6
      have p94 : u 94 = .bool true := q7
      have p95 : u 95 = .bool true := q8
      have p96 : u 96 = .bool true := q9
      have p97 : u 97 = .slice (some ⟨g3, 0, none⟩) 11 cap3 := q10
      have p98 : u 98 = .string s := q11
      have p99 : u 99 = .string (⟨#[32]⟩ ++ s) := q12
      have p100 : u 100 = .bool true := q13
      have p101 : u 101 = .bool true := q14
      have p102 : u 102 = .bool true := q15
      have p103 : u 103 = .bool true := q16
      have p104 : u 104 = .bool true := q17
      have p4 : u 4 = .bool true := q18
      simp only [frm, frmL, Nat.reduceAdd, p87, p88, p89, p90, p91, p92, p93, p94, p95, p96, p97, p98, p99, p100, p101, p102, p103, p104, p4]
      clear p87 p88 p89 p90 p91 p92 p93 p94 p95 p96 p97 p98 p99 p100 p101 p102 p103 p104 p4
      go_wp2
      go_ret
      exact ⟨rfl, hS.ws.st.b⟩
end Go.Proofs.YthllacodjeocmaaGreatDoor
namespace Go.Proofs.YthllacodjeocmaaGreatDoor
open Go.RowKit
attribute [local go_sem] Oper.semAt_some
theorem i_quo {P : Program} {T : TypeId} {a b : Nat} {W : World} (hb : 0 < b) (h : a < 256) : (binOp .quo T (.int .u8 a) (.int .u8 b)).run P W = .ok (.int .u8 ((a / b : Nat) : Int)) W := by
  have h0 : ¬ b = 0 := by omega
  have e : (a : Int).tdiv (b : Int) = ((a / b : Nat) : Int) := by rw [Int.tdiv_eq_ediv_of_nonneg (by omega)]; rfl
  have hl : a / b ≤ a := Nat.div_le_self a b
  have hw : IntKind.u8.wrap ((a / b : Nat) : Int) = ((a / b : Nat) : Int) := by
    have hl2 : a / b < 256 := Nat.lt_of_le_of_lt hl h
    generalize a / b = q at hl2 ⊢
    exact wrap8 (by omega) (by omega)
  have hw2 : IntKind.u8.wrap ((a : Int) / (b : Int)) = ((a : Int) / (b : Int)) := by rw [← Int.natCast_ediv]; exact hw
  simp [binOp, Op.intDiv, go_sem, h0, e, hw2]
theorem conv35 (x : Nat) {W : World} : (convert 3 5 (.int .i64 x)).run Tryz.prog W = .ok (.int .u8 (UInt8.ofNat x).toNat) W := by
  have h : IntKind.u8.wrap (x : Int) = ((UInt8.ofNat x).toNat : Int) := by
    rw [UInt8.toNat_ofNat']
    simp [IntKind.wrap, IntKind.signed, IntKind.bits]
  have h2 : IntKind.u8.wrap (x : Int) = (x : Int) % 256 := by simp [IntKind.wrap, IntKind.signed, IntKind.bits]
  simp [convert, go_sem, h2]
theorem bend_z (m : Mg) (p : Nat) (hp : p < 11) {q z : Int} (u : UInt8) (hq : (p : Int) = q) (hz : (u.toNat : Int) = z) (w : World) (hG : GlobM w) : Calls Tryz.prog 5 #[.agg (boxOf m), .int .i64 q, .int .u8 z] w fun e w' => ∃ m' : Mg, e = .returned (.agg (boxOf m')) ∧ Below w.heap.size w w' := by
  subst hq hz
  exact bend_any m p hp u w hG
def MsgF : Fact := ⟨fun v _ => ∃ m : Mg, v = .agg (boxOf m), fun _ _ _ _ h => h⟩
theorem bldM (k f t l a : UInt8) (W : World) : (Instr.build 27 #[(0, .int .u8 k.toNat), (1, .int .u8 f.toNat), (2, .int .u8 t.toNat), (3, .int .u8 l.toNat), (4, .int .u8 a.toNat)]).run Tryz.prog W = .ok (.agg (boxOf ⟨k, f, t, l, a, 0, false, 0, 0, 0, 0⟩)) W := by kernel_rfl
theorem run_bldM {ev : Operand → Value} {o : Oper} {w : World} {x0 x1 x2 x3 x4 : Operand} {k f t l a : UInt8} (ho : o.op = .build 27 #[(0, x0), (1, x1), (2, x2), (3, x3), (4, x4)]) (h0 : ev x0 = .int .u8 k.toNat) (h1 : ev x1 = .int .u8 f.toNat) (h2 : ev x2 = .int .u8 t.toNat) (h3 : ev x3 = .int .u8 l.toNat) (h4 : ev x4 = .int .u8 a.toNat) : (execOp ev o).run Tryz.prog w = .ok (.value (.agg (boxOf ⟨k, f, t, l, a, 0, false, 0, 0, 0, 0⟩))) w := by
  refine run_bld ho ?_
  simp only [List.map_toArray, List.map_cons, List.map_nil, h0, h1, h2, h3, h4]
  exact bldM k f t l a w
theorem geo_one (g : Ge) : g.arr.all (·.oneCell') = true := by unfold Ge.arr; simp [Value.oneCell']
theorem wpl_store_geo {ops : Array Oper} {rest : List Oper} {o : Oper} {a : Act} {W : World} {Q : Exit → Act → World → Prop} (hgd : o.guard = none) (x y : Operand) (ho : o.op = .store 23 x y) (b : Nat) (C : Array Value) {c h ww s yy : Int} (hx : a.eval x = .pointer (some ⟨b, 0, none⟩)) (hy : a.eval y = .agg #[.int .i64 c, .int .i64 h, .int .i64 ww, .int .i64 s, .int .i64 yy])
    (hW : W.heap[b]? = some (.cells C 23)) (hs : C.size = 5) (k : ∀ (g : Ge) (W' : World), OnlyC b W W' → W'.heap[b]? = some (.cells g.arr 23) → wpList Tryz.prog ops Q rest (a.put o.dst undef) W') : wpList Tryz.prog ops Q (o :: rest) a W :=
  wpl_store hgd 23 x y ho b C (Ge.arr ⟨c, h, ww, s, yy⟩) hx hy hW hs (by rw [geoSize]; rfl) (geo_one _) (fun W' h1 h2 => k ⟨c, h, ww, s, yy⟩ W' h1 h2)
theorem alloc27 (W : World) : (Instr.alloc 27 true (.tuple #[])).run Tryz.prog W = .ok (.pointer (some ⟨W.heap.size, 0, none⟩)) (W.alloc (.cells (boxOf zeroM) 27)) := by kernel_rfl
theorem run_alloc27 {ev : Operand → Value} {o : Oper} {w : World} (ho : o.op = .alloc 27) : (execOp ev o).run Tryz.prog w = .ok (.value (.pointer (some ⟨w.heap.size, 0, none⟩))) (w.alloc (.cells (boxOf zeroM) 27)) := by
  unfold execOp; simp only [ho, Sem.run_bind, alloc27, Result.andThen_ok, Sem.run_pure]
def NewF (w : World) (b2 : Nat) : Fact := ⟨fun v W => ∃ b, v = .pointer (some ⟨b, 0, none⟩) ∧ W.heap[b]? = some (.cells (boxOf zeroM) 27) ∧ b2 ≠ b ∧ w.heap.size ≤ b ∧ 5 ≤ b, fun _ _ _ hb ⟨b, e, h, r⟩ => ⟨b, e, blk_next h hb, r⟩⟩
theorem St.add {bs : List (Nat × Array Value × TypeId)} {w W : World} {b : Nat} {C : Array Value} {T : TypeId} (h : St bs w W) (hb : W.heap[b]? = some (.cells C T)) : St ((b, C, T) :: bs) w W := ⟨h.g, h.b, fun x hx => by
  rcases List.mem_cons.1 hx with rfl | hx
  · exact hb
  · exact h.h x hx⟩
section
variable {P : Program} {ops : Array Oper} {Q : Exit → Act → World → Prop} {base : Array Value} {ds : List Deferred} {D : List Bool} {m : Nat}
variable {S : World → Prop} {R : World → World → Prop} {F : Nat → Value → World → Prop}
theorem region_seqm {id : Nat} {w : World} {n : Nat} (hn : base.size = n) (h : extOk ops D m = true) (hst : ∀ i v w w', S w → S w' → R w w' → F i v w → F i v w') (hS : S w)
    (hsteps : base.size = n → Steps P ops Q base ds D S R F 0 (ops.toList.take m))
    (hend : ∀ u w, S w → AllF F u w 0 (ops.toList.take m) → wpList P ops Q (ops.toList.drop m) ⟨frm base D u, ds⟩ w) :
    (Code.region id ops false).wp P Q ⟨base, ds⟩ w := by
  have := seq_any (m := m) (base := base) (ds := ds) h hst (hsteps hn) hend m 0 (fun t => base.getD t undef) w (by omega) hS (fun i o d hi => by omega)
  rw [frm_id] at this
  exact wp_region_list this
end
end Go.Proofs.YthllacodjeocmaaGreatDoor
namespace Go.Proofs.YthllacodjeocmaaGreatDoor
open Go.RowKit
attribute [local go_sem] Oper.semAt_some
theorem u8_of_nat {k : Nat} (h : k < 256) : ∃ u : UInt8, u.toNat = k := ⟨UInt8.ofNat k, by rw [UInt8.toNat_ofNat']; omega⟩
set_option maxHeartbeats 8000000 in
set_option maxRecDepth 100000 in
theorem msgEnds_any (w : World) (hG : GlobM w) : Calls Tryz.prog 3 #[] w fun e w' => e = .returned (.bool true) ∧ Below w.heap.size w w' := by
  have HS := Lib.hid (St.start hG)
  have H5 := Lib.hid hG.g.size
  clear hG
  go_enter Tryz.func3, Tryz.ntmps3
  go_wp2_with fail
  go_loopg [1] 17 (fun gh i wr => ∃ n : Nat, n ≤ 16 ∧ 16 - n ≤ gh ∧ i = .int .i64 n ∧ Hid (St [] w wr))
  case atStart => exact ⟨0, by omega, by omega, rfl, HS⟩
  case round =>
    clear HS
    obtain ⟨n, hn, hgh, rfl, HS⟩ := hrel
    by_cases hlt : n < 16
    · have zq1 : decide ((n : Int) < 16) = true := by simp; omega
      have HB : Hid (wr.heap.size = wr.heap.size) := Lib.hid rfl
      go_upto_region 5 with (first | (refine wpl_store_geo rfl (.tmp 2) (.tmp 24) rfl wr.heap.size _ rfl rfl (heap_alloc_new wr _) rfl ?_; intro g w2 ho hg; have HS2 := Lib.hid (HS.out.newboxT ho hg); clear ho hg) | fail)
      obtain ⟨b2, hb2⟩ : ∃ b, wr.heap.size = b := ⟨_, rfl⟩
      have HX : Hid (w.heap.size ≤ b2 ∧ 5 ≤ b2 ∧ ∀ x ∈ ([] : List (Nat × Array Value × TypeId)), x.1 ≠ b2) := Lib.hid ⟨by rw [← hb2]; exact HS.out.b.size, by rw [← hb2]; exact HS.out.g.g.size, fun x hx => by cases hx⟩
      rw [hb2] at HS2 ⊢
      clear hb2 HS HB
      have cy := cell_of_heap (i := 4) (HS2.out.h (b2, g.arr, 23) (by simp))
      rw [show g.arr[4]? = some (.int .i64 g.y) from rfl] at cy
      have fy := free_of_heap (i := 4) (HS2.out.h (b2, g.arr, 23) (by simp))
      obtain ⟨z15, hz15⟩ : ∃ b, decide ((n : Int) < 15) = b := ⟨_, rfl⟩
      go_upto_if 26 with fail
      go_cut [] (fun wx => ∃ g : Ge, Hid (St [(b2, g.arr, 23)] w wx))
      case first =>
        cases z15
        · go_wp2_with fail
          go_meet
          exact ⟨g, HS2⟩
        · go_wp2_with fail
          go_meet
          exact ⟨⟨g.c, g.h, g.w, g.s, 1⟩, St.put (o := 4) (vs := [.int .i64 1]) HS2 HX (heap_set (i := 4) (HS2.out.h (b2, g.arr, 23) (by simp)) _)⟩
      case rest =>
        clear cy fy hz15 HS2 HX
        obtain ⟨g, HS2⟩ := hcut
        go_wp2_with fail
        go_loopg [3] 15 (fun gh v wr => ∃ k : Nat, k ≤ 14 ∧ 14 - k ≤ gh ∧ v = .int .u8 k ∧ Hid (St [(b2, g.arr, 23)] w wr))
        case atStart => exact ⟨0, by omega, by omega, rfl, HS2⟩
        case round =>
          clear HS2
          obtain ⟨k, hk, hgk, rfl, HS2⟩ := hrel
          obtain ⟨uk, rfl⟩ := u8_of_nat (k := k) (by omega)
          by_cases hlk : uk.toNat < 14
          · have zq2 : decide ((uk.toNat : Int) < 14) = true := by simp; omega
            go_wp2_with fail
            go_loopg [4] 26 (fun gh v wr => ∃ i : Nat, i ≤ 25 ∧ 25 - i ≤ gh ∧ v = .int .u8 i ∧ Hid (St [(b2, g.arr, 23)] w wr))
            case atStart => exact ⟨0, by omega, by omega, rfl, HS2⟩
            case round =>
              clear HS2
              obtain ⟨i, hi, hgi, rfl, HS2⟩ := hrel
              obtain ⟨ui, rfl⟩ := u8_of_nat (k := i) (by omega)
              by_cases hli : ui.toNat < 25
              · have zq3 : decide ((ui.toNat : Int) < 25) = true := by simp; omega
                go_upto_region 13 with fail
                obtain ⟨un, hun⟩ := u8_of_nat (k := n) (by omega)
                obtain ⟨uf, hf⟩ := u8_of_nat (k := ui.toNat % 5) (by omega)
                obtain ⟨ut, ht⟩ := u8_of_nat (k := ui.toNat / 5) (by omega)
                obtain ⟨ul, hl⟩ := u8_of_nat (k := n % 3) (by omega)
                have hlt4 : (ui.toNat + uk.toNat) % 4 * (uk.toNat / 6 % 2) < 256 := by
                  have x1 : (ui.toNat + uk.toNat) % 4 < 4 := Nat.mod_lt _ (by omega)
                  have x2 : uk.toNat / 6 % 2 < 2 := Nat.mod_lt _ (by omega)
                  generalize (ui.toNat + uk.toNat) % 4 = x at x1 ⊢
                  generalize uk.toNat / 6 % 2 = y at x2 ⊢
                  have := Nat.mul_le_mul (show x ≤ 3 by omega) (show y ≤ 1 by omega)
                  omega
                obtain ⟨ua, hua⟩ := u8_of_nat hlt4
                have ha : IntKind.u8.wrap ((((ui.toNat + uk.toNat) % 4 : Nat) : Int) * ((uk.toNat / 6 % 2 : Nat) : Int)) = ua.toNat := by
                  rw [hua, ← Int.natCast_mul]
                  generalize (ui.toNat + uk.toNat) % 4 * (uk.toNat / 6 % 2) = z at hlt4 ⊢
                  exact wrap8 (by omega) (by omega)
                have hs : IntKind.u8.wrap ((ui.toNat : Int) + (uk.toNat : Int)) = ((ui.toNat + uk.toNat : Nat) : Int) := by rw [wrap8 (by omega) (by omega)]; omega
                have h17 : IntKind.i64.wrap ((n : Int) * 17) = ((n * 17 : Nat) : Int) := by rw [wrap64 (by omega) (by omega)]; omega
                have h18 : IntKind.i64.wrap (1 + ((n * 17 : Nat) : Int)) = ((1 + n * 17 : Nat) : Int) := by rw [wrap64 (by omega) (by omega)]; omega
                have h7 : IntKind.i64.wrap (((uk.toNat % 4 : Nat) : Int) + 7) = ((uk.toNat % 4 + 7 : Nat) : Int) := by rw [wrap64 (by omega) (by omega)]; omega
                obtain ⟨m, hm⟩ : ∃ m : Mg, ⟨uk, uf, ut, ul, ua, 0, false, 0, 0, 0, 0⟩ = m := ⟨_, rfl⟩
                refine region_seqm (m := 18) (D := [false, false, false, false, false, true, false, false, false, false, false, false, false, false, false, false, false, false, false, false, false, false, false, false, false, false, false, false, false, false, false, false, false, false, false, false, true, true, true, true, true, true, true, true, true, true, true, true, true, true, true, true, true]) (S := fun W => St [(b2, g.arr, 23)] w W) (R := RB) (F := FF [isV (.int .u8 uk.toNat), isV (.int .u8 ui.toNat), isV (.int .u8 uf.toNat), isV (.int .u8 ui.toNat), isV (.int .u8 ut.toNat), isV (.int .i64 n), isV (.int .i64 ((n % 3 : Nat) : Int)), isV (.int .u8 ul.toNat), isV (.int .u8 ui.toNat), isV (.int .u8 uk.toNat), isV (.int .u8 ((ui.toNat + uk.toNat : Nat) : Int)), isV (.int .u8 (((ui.toNat + uk.toNat) % 4 : Nat) : Int)), isV (.int .u8 uk.toNat), isV (.int .u8 ((uk.toNat / 6 : Nat) : Int)), isV (.int .u8 ((uk.toNat / 6 % 2 : Nat) : Int)), isV (.int .u8 ua.toNat), isV (.agg (boxOf m)), NewF w b2]) rfl (by kernel_rfl) (FF_st _ _) HS2.out (fun hN => ?_) (fun u W hS hF => ?_)
                · refine steps_cons ?_ ?_
                  · intro u W hS hp
                    exact step_on (wanted_free rfl) (ext_val hS (run_mv rfl ((eval_out rfl).trans rfl)) rfl)
                  refine steps_cons ?_ ?_
                  · intro u W hS hp
                    exact step_on (wanted_free rfl) (ext_val hS (run_mv rfl ((eval_out rfl).trans rfl)) rfl)
                  refine steps_cons ?_ ?_
                  · intro u W hS hp
                    obtain ⟨q0, _⟩ := hp
                    have p37 : u 37 = .int .u8 ui.toNat := q0
                    exact step_on (wanted_free rfl) (ext_val hS (run_bin rfl ((eval_in rfl hN rfl).trans p37) rfl rfl (by rw [hf]; exact i_rem (b := 5) (by omega))) rfl)
                  refine steps_cons ?_ ?_
                  · intro u W hS hp
                    exact step_on (wanted_free rfl) (ext_val hS (run_mv rfl ((eval_out rfl).trans rfl)) rfl)
                  refine steps_cons ?_ ?_
                  · intro u W hS hp
                    obtain ⟨q0, _⟩ := hp
                    have p39 : u 39 = .int .u8 ui.toNat := q0
                    exact step_on (wanted_free rfl) (ext_val hS (run_bin rfl ((eval_in rfl hN rfl).trans p39) rfl rfl (by rw [ht]; exact i_quo (b := 5) (by omega) (by omega))) rfl)
                  refine steps_cons ?_ ?_
                  · intro u W hS hp
                    exact step_on (wanted_free rfl) (ext_val hS (run_mv rfl ((eval_out rfl).trans rfl)) rfl)
                  refine steps_cons ?_ ?_
                  · intro u W hS hp
                    obtain ⟨q0, _⟩ := hp
                    have p41 : u 41 = .int .i64 n := q0
                    exact step_on (wanted_free rfl) (ext_val hS (run_bin rfl ((eval_in rfl hN rfl).trans p41) rfl rfl (i_rem (b := 3) (by omega))) rfl)
                  refine steps_cons ?_ ?_
                  · intro u W hS hp
                    obtain ⟨q0, _⟩ := hp
                    have p42 : u 42 = .int .i64 ((n % 3 : Nat) : Int) := q0
                    exact step_on (wanted_free rfl) (ext_val hS (run_conv rfl ((eval_in rfl hN rfl).trans p42) (by rw [hl]; exact i64_u8 (by omega) (by omega))) rfl)
                  refine steps_cons ?_ ?_
                  · intro u W hS hp
                    exact step_on (wanted_free rfl) (ext_val hS (run_mv rfl ((eval_out rfl).trans rfl)) rfl)
                  refine steps_cons ?_ ?_
                  · intro u W hS hp
                    exact step_on (wanted_free rfl) (ext_val hS (run_mv rfl ((eval_out rfl).trans rfl)) rfl)
                  refine steps_cons ?_ ?_
                  · intro u W hS hp
                    obtain ⟨q0, q1, _⟩ := hp
                    have p44 : u 44 = .int .u8 ui.toNat := q0
                    have p45 : u 45 = .int .u8 uk.toNat := q1
                    exact step_on (wanted_free rfl) (ext_val hS (run_bin rfl ((eval_in rfl hN rfl).trans p44) ((eval_in rfl hN rfl).trans p45) rfl (i_add hs)) rfl)
                  refine steps_cons ?_ ?_
                  · intro u W hS hp
                    obtain ⟨q0, _⟩ := hp
                    have p46 : u 46 = .int .u8 ((ui.toNat + uk.toNat : Nat) : Int) := q0
                    exact step_on (wanted_free rfl) (ext_val hS (run_bin rfl ((eval_in rfl hN rfl).trans p46) rfl rfl (i_rem (b := 4) (by omega))) rfl)
                  refine steps_cons ?_ ?_
                  · intro u W hS hp
                    exact step_on (wanted_free rfl) (ext_val hS (run_mv rfl ((eval_out rfl).trans rfl)) rfl)
                  refine steps_cons ?_ ?_
                  · intro u W hS hp
                    obtain ⟨q0, _⟩ := hp
                    have p48 : u 48 = .int .u8 uk.toNat := q0
                    exact step_on (wanted_free rfl) (ext_val hS (run_bin rfl ((eval_in rfl hN rfl).trans p48) rfl rfl (i_quo (b := 6) (by omega) (by omega))) rfl)
                  refine steps_cons ?_ ?_
                  · intro u W hS hp
                    obtain ⟨q0, _⟩ := hp
                    have p49 : u 49 = .int .u8 ((uk.toNat / 6 : Nat) : Int) := q0
                    exact step_on (wanted_free rfl) (ext_val hS (run_bin rfl ((eval_in rfl hN rfl).trans p49) rfl rfl (i_rem (b := 2) (by omega))) rfl)
                  refine steps_cons ?_ ?_
                  · intro u W hS hp
                    obtain ⟨q0, q1, _⟩ := hp
                    have p47 : u 47 = .int .u8 (((ui.toNat + uk.toNat) % 4 : Nat) : Int) := q0
                    have p50 : u 50 = .int .u8 ((uk.toNat / 6 % 2 : Nat) : Int) := q1
                    exact step_on (wanted_free rfl) (ext_val hS (run_bin rfl ((eval_in rfl hN rfl).trans p47) ((eval_in rfl hN rfl).trans p50) rfl (i_mul ha)) rfl)
                  refine steps_cons ?_ ?_
                  · intro u W hS hp
                    obtain ⟨q0, q1, q2, q3, q4, _⟩ := hp
                    have p36 : u 36 = .int .u8 uk.toNat := q0
                    have p38 : u 38 = .int .u8 uf.toNat := q1
                    have p40 : u 40 = .int .u8 ut.toNat := q2
                    have p43 : u 43 = .int .u8 ul.toNat := q3
                    have p51 : u 51 = .int .u8 ua.toNat := q4
                    exact step_on (wanted_free rfl) (ext_val hS (by rw [← hm]; exact run_bldM rfl ((eval_in rfl hN rfl).trans p36) ((eval_in rfl hN rfl).trans p38) ((eval_in rfl hN rfl).trans p40) ((eval_in rfl hN rfl).trans p43) ((eval_in rfl hN rfl).trans p51)) rfl)
                  refine steps_cons ?_ ?_
                  · intro u W hS hp
                    exact step_on (wanted_free rfl) (ext_new (run_alloc27 rfl) (hS.next ((Below.refl _ _).alloc (Nat.le_refl _) _)) ((Below.refl _ _).alloc (Nat.le_refl _) _) ⟨W.heap.size, rfl, heap_alloc_new _ _, Nat.ne_of_lt (blk_lt (hS.h (b2, g.arr, 23) (by simp))), hS.b.size, hS.g.g.size⟩)
                  exact steps_nil
                · obtain ⟨q0, q1, q2, q3, q4, q5, q6, q7, q8, q9, q10, q11, q12, q13, q14, q15, q16, q17, _⟩ := hF
                  have p36 : u 36 = .int .u8 uk.toNat := q0
                  have p37 : u 37 = .int .u8 ui.toNat := q1
                  have p38 : u 38 = .int .u8 uf.toNat := q2
                  have p39 : u 39 = .int .u8 ui.toNat := q3
                  have p40 : u 40 = .int .u8 ut.toNat := q4
                  have p41 : u 41 = .int .i64 n := q5
                  have p42 : u 42 = .int .i64 ((n % 3 : Nat) : Int) := q6
                  have p43 : u 43 = .int .u8 ul.toNat := q7
                  have p44 : u 44 = .int .u8 ui.toNat := q8
                  have p45 : u 45 = .int .u8 uk.toNat := q9
                  have p46 : u 46 = .int .u8 ((ui.toNat + uk.toNat : Nat) : Int) := q10
                  have p47 : u 47 = .int .u8 (((ui.toNat + uk.toNat) % 4 : Nat) : Int) := q11
                  have p48 : u 48 = .int .u8 uk.toNat := q12
                  have p49 : u 49 = .int .u8 ((uk.toNat / 6 : Nat) : Int) := q13
                  have p50 : u 50 = .int .u8 ((uk.toNat / 6 % 2 : Nat) : Int) := q14
                  have p51 : u 51 = .int .u8 ua.toNat := q15
                  have p52 : u 52 = .agg (boxOf m) := q16
                  obtain ⟨b5, p5, hN5, hne5, hge5, h55⟩ := q17
                  show wpList _ _ _ [_] _ _
                  simp only [frm, frmL, Nat.reduceAdd, p36, p37, p38, p39, p40, p41, p42, p43, p44, p45, p46, p47, p48, p49, p50, p51, p52, p5]
                  clear p36 p37 p38 p39 p40 p41 p42 p43 p44 p45 p46 p47 p48 p49 p50 p51 p52 p5
                  have HS2b := Lib.hid hS
                  clear hS
                  have HNB := Lib.hid (And.intro hN5 (And.intro hne5 (And.intro hge5 h55)))
                  clear hN5 hne5 hge5 h55
                  go_upto_region 14 with (first | (refine wpl_store rfl 27 (.tmp 5) (.tmp 52) rfl b5 _ (boxOf m) rfl rfl HNB.out.1 rfl msgSize (box_one m) ?_; intro w3 ho hn3; have HS3 := Lib.hid ((HS2b.out.add HNB.out.1).only ho HNB.out.2.2.1 HNB.out.2.2.2 (fun x hx => by rw [List.mem_singleton] at hx; subst hx; exact HNB.out.2.1) hn3); clear ho hn3) | fail)
                  clear HS2b HNB
                  refine region_all (D := [false, false, false, false, false, false, false, false, false, false, false, false, false, false, false, false, false, false, false, false, false, false, false, false, false, false, false, false, false, false, false, false, false, false, false, false, false, false, false, false, false, false, false, false, false, false, false, false, false, false, false, false, false, true, true, true, true, true, true, true, true, true, true, true, true, true, true, true, true, true, true, true, true, true, true, true, true, true, true, true, true, true, true, true, true, true, true, true, true]) (S := fun W => St [(b5, boxOf m, 27), (b2, g.arr, 23)] w W) (R := RB) (F := FF [isV (.agg g.arr), isV (.agg (boxOf m)), isV (.bool true), isV (.bool false), isV (.bool false), isV (.agg g.arr), isV (.agg (boxOf m)), isV (.int .u8 ui.toNat), isV (.int .i64 ui.toNat), isV (.int .i64 ((ui.toNat % 11 : Nat) : Int)), isV (.int .i64 n), isV (.int .u8 un.toNat), MsgF, isV (.bool true), isV (.bool false), isV (.bool false), isV (.bool false), isV (.agg g.arr), isV (.agg (boxOf m)), isV (.int .u8 ui.toNat), isV (.int .u8 uk.toNat), isV (.int .u8 ((ui.toNat + uk.toNat : Nat) : Int)), isV (.int .i64 ((ui.toNat + uk.toNat : Nat) : Int)), isV (.int .i64 (((ui.toNat + uk.toNat) % 11 : Nat) : Int)), MsgF, isV (.bool true), isV (.bool false), isV (.bool false), isV (.bool false), isV (.agg g.arr), isV (.agg (boxOf m)), MsgF, MsgF, isV (.bool true), isV (.bool false), isV (.bool false)]) rfl mo (by kernel_rfl) (FF_st _ _) HS3.out.drew (fun hN => ?_) (fun u W hS hF => ?_)
                  · refine steps_cons ?_ ?_
                    · intro u W hS hp
                      exact step_on (wanted_free rfl) (ext_val hS (run_ld rfl ((eval_out rfl).trans rfl) (ld39 (hS.h (b2, g.arr, 23) (by simp)))) rfl)
                    refine steps_cons ?_ ?_
                    · intro u W hS hp
                      exact step_on (wanted_free rfl) (ext_val hS (run_ld rfl ((eval_out rfl).trans rfl) (ld25 (hS.h (b5, boxOf m, 27) (by simp)))) rfl)
                    refine steps_cons ?_ ?_
                    · intro u W hS hp
                      obtain ⟨q0, q1, _⟩ := hp
                      have p53 : u 53 = .agg g.arr := q0
                      have p54 : u 54 = .agg (boxOf m) := q1
                      exact step_on (wanted_free rfl) (ext_call (run_call rfl rfl (map2 ((eval_in rfl hN rfl).trans p53) ((eval_in rfl hN rfl).trans p54)) Tryz.func4 nmz4 bdz4) ((same_any m g W hS.g).mono fun _ _ ⟨e, h⟩ => ⟨_, e, rfl, hS.next h, h⟩))
                    refine steps_cons ?_ ?_
                    · intro u W hS hp
                      obtain ⟨q0, _⟩ := hp
                      have p55 : u 55 = .bool true := q0
                      exact step_on (wanted_free rfl) (ext_val hS (run_un rfl ((eval_in rfl hN rfl).trans p55) rfl) rfl)
                    refine steps_cons ?_ ?_
                    · intro u W hS hp
                      obtain ⟨q0, q1, _⟩ := hp
                      have p56 : u 56 = .bool false := q0
                      have p55 : u 55 = .bool true := q1
                      exact step_on (wanted_free rfl) (ext_val hS (run_mv rfl ((eval_in rfl hN rfl).trans p56)) rfl)
                    refine steps_cons ?_ ?_
                    · intro u W hS hp
                      obtain ⟨q0, _⟩ := hp
                      have p57 : u 57 = .bool false := q0
                      exact step_on (wanted_on rfl rfl rfl hN rfl p57) (ext_val hS (run_ld rfl ((eval_out rfl).trans rfl) (ld39 (hS.h (b2, g.arr, 23) (by simp)))) rfl)
                    refine steps_cons ?_ ?_
                    · intro u W hS hp
                      obtain ⟨q0, _⟩ := hp
                      have p57 : u 57 = .bool false := q0
                      exact step_on (wanted_on rfl rfl rfl hN rfl p57) (ext_val hS (run_ld rfl ((eval_out rfl).trans rfl) (ld25 (hS.h (b5, boxOf m, 27) (by simp)))) rfl)
                    refine steps_cons ?_ ?_
                    · intro u W hS hp
                      obtain ⟨q0, _⟩ := hp
                      have p57 : u 57 = .bool false := q0
                      exact step_on (wanted_on rfl rfl rfl hN rfl p57) (ext_val hS (run_mv rfl ((eval_out rfl).trans rfl)) rfl)
                    refine steps_cons ?_ ?_
                    · intro u W hS hp
                      obtain ⟨q0, q1, _⟩ := hp
                      have p60 : u 60 = .int .u8 ui.toNat := q0
                      have p57 : u 57 = .bool false := q1
                      exact step_on (wanted_on rfl rfl rfl hN rfl p57) (ext_val hS (run_conv rfl ((eval_in rfl hN rfl).trans p60) (conv53 (by omega) (by omega))) rfl)
                    refine steps_cons ?_ ?_
                    · intro u W hS hp
                      obtain ⟨q0, q1, _⟩ := hp
                      have p61 : u 61 = .int .i64 ui.toNat := q0
                      have p57 : u 57 = .bool false := q1
                      exact step_on (wanted_on rfl rfl rfl hN rfl p57) (ext_val hS (run_bin rfl ((eval_in rfl hN rfl).trans p61) rfl rfl (i_rem (b := 11) (by omega))) rfl)
                    refine steps_cons ?_ ?_
                    · intro u W hS hp
                      obtain ⟨q0, _⟩ := hp
                      have p57 : u 57 = .bool false := q0
                      exact step_on (wanted_on rfl rfl rfl hN rfl p57) (ext_val hS (run_mv rfl ((eval_out rfl).trans rfl)) rfl)
                    refine steps_cons ?_ ?_
                    · intro u W hS hp
                      obtain ⟨q0, q1, _⟩ := hp
                      have p63 : u 63 = .int .i64 n := q0
                      have p57 : u 57 = .bool false := q1
                      exact step_on (wanted_on rfl rfl rfl hN rfl p57) (ext_val hS (run_conv rfl ((eval_in rfl hN rfl).trans p63) (by rw [hun]; exact i64_u8 (by omega) (by omega))) rfl)
                    refine steps_cons ?_ ?_
                    · intro u W hS hp
                      obtain ⟨q0, q1, q2, q3, q4, _⟩ := hp
                      have p59 : u 59 = .agg (boxOf m) := q0
                      have p62 : u 62 = .int .i64 ((ui.toNat % 11 : Nat) : Int) := q1
                      have p64 : u 64 = .int .u8 un.toNat := q2
                      have p57 : u 57 = .bool false := q3
                      exact step_on (wanted_on rfl rfl rfl hN rfl p57) (ext_call (run_call rfl rfl (map3 ((eval_in rfl hN rfl).trans p59) ((eval_in rfl hN rfl).trans p62) ((eval_in rfl hN rfl).trans p64)) Tryz.func5 nmz5 bdz5) ((bend_z m (ui.toNat % 11) (Nat.mod_lt _ (by omega)) un rfl rfl W hS.g).mono fun _ _ ⟨m', e, h⟩ => ⟨_, e, ⟨m', rfl⟩, hS.next h, h⟩))
                    refine steps_cons ?_ ?_
                    · intro u W hS hp
                      obtain ⟨q0, q1, q2, q3, _⟩ := hp
                      have p58 : u 58 = .agg g.arr := q0
                      obtain ⟨m65, p65⟩ := q1
                      have p57 : u 57 = .bool false := q3
                      exact step_on (wanted_on rfl rfl rfl hN rfl p57) (ext_call (run_call rfl rfl (map2 ((eval_in rfl hN rfl).trans p58) ((eval_in rfl hN rfl).trans p65)) Tryz.func4 nmz4 bdz4) ((same_any m65 g W hS.g).mono fun _ _ ⟨e, h⟩ => ⟨_, e, rfl, hS.next h, h⟩))
                    refine steps_cons ?_ ?_
                    · intro u W hS hp
                      obtain ⟨q0, q1, _⟩ := hp
                      have p66 : u 66 = .bool true := q0
                      have p57 : u 57 = .bool false := q1
                      exact step_on (wanted_on rfl rfl rfl hN rfl p57) (ext_val hS (run_un rfl ((eval_in rfl hN rfl).trans p66) rfl) rfl)
                    refine steps_cons ?_ ?_
                    · intro u W hS hp
                      obtain ⟨q0, q1, _⟩ := hp
                      have p57 : u 57 = .bool false := q0
                      have p67 : u 67 = .bool false := q1
                      exact step_on (wanted_free rfl) (ext_val hS (run_pickF rfl ((eval_in rfl hN rfl).trans p57) ((eval_in rfl hN rfl).trans p67)) rfl)
                    refine steps_cons ?_ ?_
                    · intro u W hS hp
                      obtain ⟨q0, q1, _⟩ := hp
                      have p68 : u 68 = .bool false := q0
                      have p66 : u 66 = .bool true := q1
                      exact step_on (wanted_free rfl) (ext_val hS (run_mv rfl ((eval_in rfl hN rfl).trans p68)) rfl)
                    refine steps_cons ?_ ?_
                    · intro u W hS hp
                      obtain ⟨q0, _⟩ := hp
                      have p69 : u 69 = .bool false := q0
                      exact step_on (wanted_on rfl rfl rfl hN rfl p69) (ext_val hS (run_ld rfl ((eval_out rfl).trans rfl) (ld39 (hS.h (b2, g.arr, 23) (by simp)))) rfl)
                    refine steps_cons ?_ ?_
                    · intro u W hS hp
                      obtain ⟨q0, _⟩ := hp
                      have p69 : u 69 = .bool false := q0
                      exact step_on (wanted_on rfl rfl rfl hN rfl p69) (ext_val hS (run_ld rfl ((eval_out rfl).trans rfl) (ld25 (hS.h (b5, boxOf m, 27) (by simp)))) rfl)
                    refine steps_cons ?_ ?_
                    · intro u W hS hp
                      obtain ⟨q0, _⟩ := hp
                      have p69 : u 69 = .bool false := q0
                      exact step_on (wanted_on rfl rfl rfl hN rfl p69) (ext_val hS (run_mv rfl ((eval_out rfl).trans rfl)) rfl)
                    refine steps_cons ?_ ?_
                    · intro u W hS hp
                      obtain ⟨q0, _⟩ := hp
                      have p69 : u 69 = .bool false := q0
                      exact step_on (wanted_on rfl rfl rfl hN rfl p69) (ext_val hS (run_mv rfl ((eval_out rfl).trans rfl)) rfl)
                    refine steps_cons ?_ ?_
                    · intro u W hS hp
                      obtain ⟨q0, q1, q2, _⟩ := hp
                      have p72 : u 72 = .int .u8 ui.toNat := q0
                      have p73 : u 73 = .int .u8 uk.toNat := q1
                      have p69 : u 69 = .bool false := q2
                      exact step_on (wanted_on rfl rfl rfl hN rfl p69) (ext_val hS (run_bin rfl ((eval_in rfl hN rfl).trans p72) ((eval_in rfl hN rfl).trans p73) rfl (i_add hs)) rfl)
                    refine steps_cons ?_ ?_
                    · intro u W hS hp
                      obtain ⟨q0, q1, _⟩ := hp
                      have p74 : u 74 = .int .u8 ((ui.toNat + uk.toNat : Nat) : Int) := q0
                      have p69 : u 69 = .bool false := q1
                      exact step_on (wanted_on rfl rfl rfl hN rfl p69) (ext_val hS (run_conv rfl ((eval_in rfl hN rfl).trans p74) (conv53 (by omega) (by omega))) rfl)
                    refine steps_cons ?_ ?_
                    · intro u W hS hp
                      obtain ⟨q0, q1, _⟩ := hp
                      have p75 : u 75 = .int .i64 ((ui.toNat + uk.toNat : Nat) : Int) := q0
                      have p69 : u 69 = .bool false := q1
                      exact step_on (wanted_on rfl rfl rfl hN rfl p69) (ext_val hS (run_bin rfl ((eval_in rfl hN rfl).trans p75) rfl rfl (i_rem (b := 11) (by omega))) rfl)
                    refine steps_cons ?_ ?_
                    · intro u W hS hp
                      obtain ⟨q0, q1, q2, q3, _⟩ := hp
                      have p71 : u 71 = .agg (boxOf m) := q0
                      have p76 : u 76 = .int .i64 (((ui.toNat + uk.toNat) % 11 : Nat) : Int) := q1
                      have p69 : u 69 = .bool false := q2
                      exact step_on (wanted_on rfl rfl rfl hN rfl p69) (ext_call (run_call rfl rfl (map3 ((eval_in rfl hN rfl).trans p71) ((eval_in rfl hN rfl).trans p76) rfl) Tryz.func5 nmz5 bdz5) ((bend_z m ((ui.toNat + uk.toNat) % 11) (Nat.mod_lt _ (by omega)) 255 rfl rfl W hS.g).mono fun _ _ ⟨m', e, h⟩ => ⟨_, e, ⟨m', rfl⟩, hS.next h, h⟩))
                    refine steps_cons ?_ ?_
                    · intro u W hS hp
                      obtain ⟨q0, q1, q2, q3, _⟩ := hp
                      have p70 : u 70 = .agg g.arr := q0
                      obtain ⟨m77, p77⟩ := q1
                      have p69 : u 69 = .bool false := q3
                      exact step_on (wanted_on rfl rfl rfl hN rfl p69) (ext_call (run_call rfl rfl (map2 ((eval_in rfl hN rfl).trans p70) ((eval_in rfl hN rfl).trans p77)) Tryz.func4 nmz4 bdz4) ((same_any m77 g W hS.g).mono fun _ _ ⟨e, h⟩ => ⟨_, e, rfl, hS.next h, h⟩))
                    refine steps_cons ?_ ?_
                    · intro u W hS hp
                      obtain ⟨q0, q1, _⟩ := hp
                      have p78 : u 78 = .bool true := q0
                      have p69 : u 69 = .bool false := q1
                      exact step_on (wanted_on rfl rfl rfl hN rfl p69) (ext_val hS (run_un rfl ((eval_in rfl hN rfl).trans p78) rfl) rfl)
                    refine steps_cons ?_ ?_
                    · intro u W hS hp
                      obtain ⟨q0, q1, _⟩ := hp
                      have p69 : u 69 = .bool false := q0
                      have p79 : u 79 = .bool false := q1
                      exact step_on (wanted_free rfl) (ext_val hS (run_pickF rfl ((eval_in rfl hN rfl).trans p69) ((eval_in rfl hN rfl).trans p79)) rfl)
                    refine steps_cons ?_ ?_
                    · intro u W hS hp
                      obtain ⟨q0, q1, _⟩ := hp
                      have p80 : u 80 = .bool false := q0
                      have p78 : u 78 = .bool true := q1
                      exact step_on (wanted_free rfl) (ext_val hS (run_mv rfl ((eval_in rfl hN rfl).trans p80)) rfl)
                    refine steps_cons ?_ ?_
                    · intro u W hS hp
                      obtain ⟨q0, _⟩ := hp
                      have p81 : u 81 = .bool false := q0
                      exact step_on (wanted_on rfl rfl rfl hN rfl p81) (ext_val hS (run_ld rfl ((eval_out rfl).trans rfl) (ld39 (hS.h (b2, g.arr, 23) (by simp)))) rfl)
                    refine steps_cons ?_ ?_
                    · intro u W hS hp
                      obtain ⟨q0, _⟩ := hp
                      have p81 : u 81 = .bool false := q0
                      exact step_on (wanted_on rfl rfl rfl hN rfl p81) (ext_val hS (run_ld rfl ((eval_out rfl).trans rfl) (ld25 (hS.h (b5, boxOf m, 27) (by simp)))) rfl)
                    refine steps_cons ?_ ?_
                    · intro u W hS hp
                      obtain ⟨q0, q1, q2, _⟩ := hp
                      have p83 : u 83 = .agg (boxOf m) := q0
                      have p81 : u 81 = .bool false := q1
                      exact step_on (wanted_on rfl rfl rfl hN rfl p81) (ext_call (run_call rfl rfl (map3 ((eval_in rfl hN rfl).trans p83) rfl rfl) Tryz.func5 nmz5 bdz5) ((bend_z m (7) (by omega) 3 rfl rfl W hS.g).mono fun _ _ ⟨m', e, h⟩ => ⟨_, e, ⟨m', rfl⟩, hS.next h, h⟩))
                    refine steps_cons ?_ ?_
                    · intro u W hS hp
                      obtain ⟨q0, q1, q2, _⟩ := hp
                      obtain ⟨m84, p84⟩ := q0
                      have p81 : u 81 = .bool false := q2
                      exact step_on (wanted_on rfl rfl rfl hN rfl p81) (ext_call (run_call rfl rfl (map3 ((eval_in rfl hN rfl).trans p84) rfl rfl) Tryz.func5 nmz5 bdz5) ((bend_z m84 (5) (by omega) 1 rfl rfl W hS.g).mono fun _ _ ⟨m', e, h⟩ => ⟨_, e, ⟨m', rfl⟩, hS.next h, h⟩))
                    refine steps_cons ?_ ?_
                    · intro u W hS hp
                      obtain ⟨q0, q1, q2, q3, _⟩ := hp
                      have p82 : u 82 = .agg g.arr := q0
                      obtain ⟨m85, p85⟩ := q1
                      have p81 : u 81 = .bool false := q3
                      exact step_on (wanted_on rfl rfl rfl hN rfl p81) (ext_call (run_call rfl rfl (map2 ((eval_in rfl hN rfl).trans p82) ((eval_in rfl hN rfl).trans p85)) Tryz.func4 nmz4 bdz4) ((same_any m85 g W hS.g).mono fun _ _ ⟨e, h⟩ => ⟨_, e, rfl, hS.next h, h⟩))
                    refine steps_cons ?_ ?_
                    · intro u W hS hp
                      obtain ⟨q0, q1, _⟩ := hp
                      have p86 : u 86 = .bool true := q0
                      have p81 : u 81 = .bool false := q1
                      exact step_on (wanted_on rfl rfl rfl hN rfl p81) (ext_val hS (run_un rfl ((eval_in rfl hN rfl).trans p86) rfl) rfl)
                    refine steps_cons ?_ ?_
                    · intro u W hS hp
                      obtain ⟨q0, q1, _⟩ := hp
                      have p81 : u 81 = .bool false := q0
                      have p87 : u 87 = .bool false := q1
                      exact step_on (wanted_free rfl) (ext_val hS (run_pickF rfl ((eval_in rfl hN rfl).trans p81) ((eval_in rfl hN rfl).trans p87)) rfl)
                    exact steps_nil
                  · obtain ⟨q0, q1, q2, q3, q4, q5, q6, q7, q8, q9, q10, q11, q12, q13, q14, q15, q16, q17, q18, q19, q20, q21, q22, q23, q24, q25, q26, q27, q28, q29, q30, q31, q32, q33, q34, q35, _⟩ := hF
                    have p53 : u 53 = .agg g.arr := q0
                    have p54 : u 54 = .agg (boxOf m) := q1
                    have p55 : u 55 = .bool true := q2
                    have p56 : u 56 = .bool false := q3
                    have p57 : u 57 = .bool false := q4
                    have p58 : u 58 = .agg g.arr := q5
                    have p59 : u 59 = .agg (boxOf m) := q6
                    have p60 : u 60 = .int .u8 ui.toNat := q7
                    have p61 : u 61 = .int .i64 ui.toNat := q8
                    have p62 : u 62 = .int .i64 ((ui.toNat % 11 : Nat) : Int) := q9
                    have p63 : u 63 = .int .i64 n := q10
                    have p64 : u 64 = .int .u8 un.toNat := q11
                    obtain ⟨m65, p65⟩ := q12
                    have p66 : u 66 = .bool true := q13
                    have p67 : u 67 = .bool false := q14
                    have p68 : u 68 = .bool false := q15
                    have p69 : u 69 = .bool false := q16
                    have p70 : u 70 = .agg g.arr := q17
                    have p71 : u 71 = .agg (boxOf m) := q18
                    have p72 : u 72 = .int .u8 ui.toNat := q19
                    have p73 : u 73 = .int .u8 uk.toNat := q20
                    have p74 : u 74 = .int .u8 ((ui.toNat + uk.toNat : Nat) : Int) := q21
                    have p75 : u 75 = .int .i64 ((ui.toNat + uk.toNat : Nat) : Int) := q22
                    have p76 : u 76 = .int .i64 (((ui.toNat + uk.toNat) % 11 : Nat) : Int) := q23
                    obtain ⟨m77, p77⟩ := q24
                    have p78 : u 78 = .bool true := q25
                    have p79 : u 79 = .bool false := q26
                    have p80 : u 80 = .bool false := q27
                    have p81 : u 81 = .bool false := q28
                    have p82 : u 82 = .agg g.arr := q29
                    have p83 : u 83 = .agg (boxOf m) := q30
                    obtain ⟨m84, p84⟩ := q31
                    obtain ⟨m85, p85⟩ := q32
                    have p86 : u 86 = .bool true := q33
                    have p87 : u 87 = .bool false := q34
                    have p88 : u 88 = .bool false := q35
                    simp only [frm, frmL, Nat.reduceAdd, p53, p54, p55, p56, p57, p58, p59, p60, p61, p62, p63, p64, p65, p66, p67, p68, p69, p70, p71, p72, p73, p74, p75, p76, p77, p78, p79, p80, p81, p82, p83, p84, p85, p86, p87, p88]
                    clear p53 p54 p55 p56 p57 p58 p59 p60 p61 p62 p63 p64 p65 p66 p67 p68 p69 p70 p71 p72 p73 p74 p75 p76 p77 p78 p79 p80 p81 p82 p83 p84 p85 p86 p87 p88
                    have HS4 := Lib.hid hS
                    clear hS HS3 HS2
                    go_upto_region 16 with fail
                    by_cases he5 : ui.toNat % 5 = 0
                    · have he : (((ui.toNat % 5 : Nat) : Int) == 0) = true := by rw [he5]; rfl
                      refine region_seq (D := [false, false, false, false, false, false, false, false, false, false, false, false, false, false, false, false, false, false, false, false, false, false, false, false, false, false, false, false, false, false, false, false, false, false, false, false, false, false, false, false, false, false, false, false, false, false, false, false, false, false, false, false, false, false, false, false, false, false, false, false, false, false, false, false, false, false, false, false, false, false, false, false, false, false, false, false, false, false, false, false, false, false, false, false, false, false, false, false, false, true, true, true, true, true, true, true, true, true, true, true, true, true, true, true, true, true, true, true, true, true, true, true, true, true, true]) (S := fun W => St [(b5, boxOf m, 27), (b2, g.arr, 23)] w W) (R := RB) (F := FF [isV (.int .u8 ui.toNat), isV (.int .u8 ((ui.toNat % 5 : Nat) : Int)), isV (.bool true), isV (.bool true), isV (.agg (boxOf m)), isV (.int .u8 ui.toNat), isV (.int .u8 uk.toNat), isV (.int .u8 ((ui.toNat + uk.toNat : Nat) : Int)), isV (.int .i64 ((ui.toNat + uk.toNat : Nat) : Int)), isV (.int .i64 (((ui.toNat + uk.toNat) % 11 : Nat) : Int)), isV (.int .i64 n), isV (.int .i64 ((n * 17 : Nat) : Int)), isV (.int .i64 ((1 + n * 17 : Nat) : Int)), isV (.int .u8 (UInt8.ofNat (1 + n * 17)).toNat), MsgF, isV (.int .u8 uk.toNat), isV (.int .i64 uk.toNat), isV (.int .i64 ((uk.toNat % 4 : Nat) : Int)), isV (.int .i64 ((uk.toNat % 4 + 7 : Nat) : Int)), isV (.int .u8 ui.toNat), MsgF, isV (.int .u8 ui.toNat), isV (.int .i64 ui.toNat), isV (.bool true), isV (.bool false), isV (.bool false)]) rfl (by kernel_rfl) (FF_st _ _) HS4.out (fun hN => ?_) (fun u W hS hF => ?_)
                      · refine steps_cons ?_ ?_
                        · intro u W hS hp
                          exact step_on (wanted_free rfl) (ext_val hS (run_mv rfl ((eval_out rfl).trans rfl)) rfl)
                        refine steps_cons ?_ ?_
                        · intro u W hS hp
                          obtain ⟨q0, _⟩ := hp
                          have p89 : u 89 = .int .u8 ui.toNat := q0
                          exact step_on (wanted_free rfl) (ext_val hS (run_bin rfl ((eval_in rfl hN rfl).trans p89) rfl rfl (i_rem (b := 5) (by omega))) rfl)
                        refine steps_cons ?_ ?_
                        · intro u W hS hp
                          obtain ⟨q0, _⟩ := hp
                          have p90 : u 90 = .int .u8 ((ui.toNat % 5 : Nat) : Int) := q0
                          exact step_on (wanted_free rfl) (ext_val hS (run_bin rfl ((eval_in rfl hN rfl).trans p90) rfl rfl (i_eql he)) rfl)
                        refine steps_cons ?_ ?_
                        · intro u W hS hp
                          obtain ⟨q0, _⟩ := hp
                          have p91 : u 91 = .bool true := q0
                          exact step_on (wanted_free rfl) (ext_val hS (run_mv rfl ((eval_in rfl hN rfl).trans p91)) rfl)
                        refine steps_cons ?_ ?_
                        · intro u W hS hp
                          obtain ⟨q0, _⟩ := hp
                          have p92 : u 92 = .bool true := q0
                          exact step_on (wanted_on rfl rfl rfl hN rfl p92) (ext_val hS (run_ld rfl ((eval_out rfl).trans rfl) (ld25 (hS.h (b5, boxOf m, 27) (by simp)))) rfl)
                        refine steps_cons ?_ ?_
                        · intro u W hS hp
                          obtain ⟨q0, _⟩ := hp
                          have p92 : u 92 = .bool true := q0
                          exact step_on (wanted_on rfl rfl rfl hN rfl p92) (ext_val hS (run_mv rfl ((eval_out rfl).trans rfl)) rfl)
                        refine steps_cons ?_ ?_
                        · intro u W hS hp
                          obtain ⟨q0, _⟩ := hp
                          have p92 : u 92 = .bool true := q0
                          exact step_on (wanted_on rfl rfl rfl hN rfl p92) (ext_val hS (run_mv rfl ((eval_out rfl).trans rfl)) rfl)
                        refine steps_cons ?_ ?_
                        · intro u W hS hp
                          obtain ⟨q0, q1, q2, _⟩ := hp
                          have p94 : u 94 = .int .u8 ui.toNat := q0
                          have p95 : u 95 = .int .u8 uk.toNat := q1
                          have p92 : u 92 = .bool true := q2
                          exact step_on (wanted_on rfl rfl rfl hN rfl p92) (ext_val hS (run_bin rfl ((eval_in rfl hN rfl).trans p94) ((eval_in rfl hN rfl).trans p95) rfl (i_add hs)) rfl)
                        refine steps_cons ?_ ?_
                        · intro u W hS hp
                          obtain ⟨q0, q1, _⟩ := hp
                          have p96 : u 96 = .int .u8 ((ui.toNat + uk.toNat : Nat) : Int) := q0
                          have p92 : u 92 = .bool true := q1
                          exact step_on (wanted_on rfl rfl rfl hN rfl p92) (ext_val hS (run_conv rfl ((eval_in rfl hN rfl).trans p96) (conv53 (by omega) (by omega))) rfl)
                        refine steps_cons ?_ ?_
                        · intro u W hS hp
                          obtain ⟨q0, q1, _⟩ := hp
                          have p97 : u 97 = .int .i64 ((ui.toNat + uk.toNat : Nat) : Int) := q0
                          have p92 : u 92 = .bool true := q1
                          exact step_on (wanted_on rfl rfl rfl hN rfl p92) (ext_val hS (run_bin rfl ((eval_in rfl hN rfl).trans p97) rfl rfl (i_rem (b := 11) (by omega))) rfl)
                        refine steps_cons ?_ ?_
                        · intro u W hS hp
                          obtain ⟨q0, _⟩ := hp
                          have p92 : u 92 = .bool true := q0
                          exact step_on (wanted_on rfl rfl rfl hN rfl p92) (ext_val hS (run_mv rfl ((eval_out rfl).trans rfl)) rfl)
                        refine steps_cons ?_ ?_
                        · intro u W hS hp
                          obtain ⟨q0, q1, _⟩ := hp
                          have p99 : u 99 = .int .i64 n := q0
                          have p92 : u 92 = .bool true := q1
                          exact step_on (wanted_on rfl rfl rfl hN rfl p92) (ext_val hS (run_bin rfl ((eval_in rfl hN rfl).trans p99) rfl rfl (i_mul h17)) rfl)
                        refine steps_cons ?_ ?_
                        · intro u W hS hp
                          obtain ⟨q0, q1, _⟩ := hp
                          have p100 : u 100 = .int .i64 ((n * 17 : Nat) : Int) := q0
                          have p92 : u 92 = .bool true := q1
                          exact step_on (wanted_on rfl rfl rfl hN rfl p92) (ext_val hS (run_bin rfl rfl ((eval_in rfl hN rfl).trans p100) rfl (i_add h18)) rfl)
                        refine steps_cons ?_ ?_
                        · intro u W hS hp
                          obtain ⟨q0, q1, _⟩ := hp
                          have p101 : u 101 = .int .i64 ((1 + n * 17 : Nat) : Int) := q0
                          have p92 : u 92 = .bool true := q1
                          exact step_on (wanted_on rfl rfl rfl hN rfl p92) (ext_val hS (run_conv rfl ((eval_in rfl hN rfl).trans p101) (conv35 _)) rfl)
                        refine steps_cons ?_ ?_
                        · intro u W hS hp
                          obtain ⟨q0, q1, q2, q3, q4, _⟩ := hp
                          have p93 : u 93 = .agg (boxOf m) := q0
                          have p98 : u 98 = .int .i64 (((ui.toNat + uk.toNat) % 11 : Nat) : Int) := q1
                          have p102 : u 102 = .int .u8 (UInt8.ofNat (1 + n * 17)).toNat := q2
                          have p92 : u 92 = .bool true := q3
                          exact step_on (wanted_on rfl rfl rfl hN rfl p92) (ext_call (run_call rfl rfl (map3 ((eval_in rfl hN rfl).trans p93) ((eval_in rfl hN rfl).trans p98) ((eval_in rfl hN rfl).trans p102)) Tryz.func5 nmz5 bdz5) ((bend_z m ((ui.toNat + uk.toNat) % 11) (Nat.mod_lt _ (by omega)) (UInt8.ofNat (1 + n * 17)) rfl rfl W hS.g).mono fun _ _ ⟨m', e, h⟩ => ⟨_, e, ⟨m', rfl⟩, hS.next h, h⟩))
                        refine steps_cons ?_ ?_
                        · intro u W hS hp
                          obtain ⟨q0, _⟩ := hp
                          have p92 : u 92 = .bool true := q0
                          exact step_on (wanted_on rfl rfl rfl hN rfl p92) (ext_val hS (run_mv rfl ((eval_out rfl).trans rfl)) rfl)
                        refine steps_cons ?_ ?_
                        · intro u W hS hp
                          obtain ⟨q0, q1, _⟩ := hp
                          have p104 : u 104 = .int .u8 uk.toNat := q0
                          have p92 : u 92 = .bool true := q1
                          exact step_on (wanted_on rfl rfl rfl hN rfl p92) (ext_val hS (run_conv rfl ((eval_in rfl hN rfl).trans p104) (conv53 (by omega) (by omega))) rfl)
                        refine steps_cons ?_ ?_
                        · intro u W hS hp
                          obtain ⟨q0, q1, _⟩ := hp
                          have p105 : u 105 = .int .i64 uk.toNat := q0
                          have p92 : u 92 = .bool true := q1
                          exact step_on (wanted_on rfl rfl rfl hN rfl p92) (ext_val hS (run_bin rfl ((eval_in rfl hN rfl).trans p105) rfl rfl (i_rem (b := 4) (by omega))) rfl)
                        refine steps_cons ?_ ?_
                        · intro u W hS hp
                          obtain ⟨q0, q1, _⟩ := hp
                          have p106 : u 106 = .int .i64 ((uk.toNat % 4 : Nat) : Int) := q0
                          have p92 : u 92 = .bool true := q1
                          exact step_on (wanted_on rfl rfl rfl hN rfl p92) (ext_val hS (run_bin rfl ((eval_in rfl hN rfl).trans p106) rfl rfl (i_add h7)) rfl)
                        refine steps_cons ?_ ?_
                        · intro u W hS hp
                          obtain ⟨q0, _⟩ := hp
                          have p92 : u 92 = .bool true := q0
                          exact step_on (wanted_on rfl rfl rfl hN rfl p92) (ext_val hS (run_mv rfl ((eval_out rfl).trans rfl)) rfl)
                        refine steps_cons ?_ ?_
                        · intro u W hS hp
                          obtain ⟨q0, q1, q2, q3, q4, _⟩ := hp
                          obtain ⟨m103, p103⟩ := q0
                          have p107 : u 107 = .int .i64 ((uk.toNat % 4 + 7 : Nat) : Int) := q1
                          have p108 : u 108 = .int .u8 ui.toNat := q2
                          have p92 : u 92 = .bool true := q4
                          exact step_on (wanted_on rfl rfl rfl hN rfl p92) (ext_call (run_call rfl rfl (map3 ((eval_in rfl hN rfl).trans p103) ((eval_in rfl hN rfl).trans p107) ((eval_in rfl hN rfl).trans p108)) Tryz.func5 nmz5 bdz5) ((bend_z m103 (uk.toNat % 4 + 7) (by omega) ui rfl rfl W hS.g).mono fun _ _ ⟨m', e, h⟩ => ⟨_, e, ⟨m', rfl⟩, hS.next h, h⟩))
                        refine steps_cons ?_ ?_
                        · intro u W hS hp
                          obtain ⟨q0, _⟩ := hp
                          have p92 : u 92 = .bool true := q0
                          exact step_on (wanted_on rfl rfl rfl hN rfl p92) (ext_val hS (run_mv rfl ((eval_out rfl).trans rfl)) rfl)
                        refine steps_cons ?_ ?_
                        · intro u W hS hp
                          obtain ⟨q0, q1, _⟩ := hp
                          have p110 : u 110 = .int .u8 ui.toNat := q0
                          have p92 : u 92 = .bool true := q1
                          exact step_on (wanted_on rfl rfl rfl hN rfl p92) (ext_val hS (run_conv rfl ((eval_in rfl hN rfl).trans p110) (conv53 (by omega) (by omega))) rfl)
                        refine steps_cons ?_ ?_
                        · intro u W hS hp
                          obtain ⟨q0, q1, q2, q3, _⟩ := hp
                          obtain ⟨m109, p109⟩ := q0
                          have p111 : u 111 = .int .i64 ui.toNat := q1
                          have p92 : u 92 = .bool true := q3
                          exact step_on (wanted_on rfl rfl rfl hN rfl p92) (ext_call (run_call rfl rfl (map2 ((eval_in rfl hN rfl).trans p109) ((eval_in rfl hN rfl).trans p111)) Tryz.func6 nmz6 bdz6) ((wrong_any m109 ui.toNat (by omega) W hS.g).mono fun _ _ ⟨e, h⟩ => ⟨_, e, rfl, hS.next h, h⟩))
                        refine steps_cons ?_ ?_
                        · intro u W hS hp
                          obtain ⟨q0, q1, _⟩ := hp
                          have p112 : u 112 = .bool true := q0
                          have p92 : u 92 = .bool true := q1
                          exact step_on (wanted_on rfl rfl rfl hN rfl p92) (ext_val hS (run_un rfl ((eval_in rfl hN rfl).trans p112) rfl) rfl)
                        refine steps_cons ?_ ?_
                        · intro u W hS hp
                          obtain ⟨q0, q1, _⟩ := hp
                          have p92 : u 92 = .bool true := q0
                          have p113 : u 113 = .bool false := q1
                          exact step_on (wanted_free rfl) (ext_val hS (run_pickT rfl ((eval_in rfl hN rfl).trans p92) ((eval_in rfl hN rfl).trans p113)) rfl)
                        exact steps_nil
                      · obtain ⟨q0, q1, q2, q3, q4, q5, q6, q7, q8, q9, q10, q11, q12, q13, q14, q15, q16, q17, q18, q19, q20, q21, q22, q23, q24, q25, _⟩ := hF
                        have p89 : u 89 = .int .u8 ui.toNat := q0
                        have p90 : u 90 = .int .u8 ((ui.toNat % 5 : Nat) : Int) := q1
                        have p91 : u 91 = .bool true := q2
                        have p92 : u 92 = .bool true := q3
                        have p93 : u 93 = .agg (boxOf m) := q4
                        have p94 : u 94 = .int .u8 ui.toNat := q5
                        have p95 : u 95 = .int .u8 uk.toNat := q6
                        have p96 : u 96 = .int .u8 ((ui.toNat + uk.toNat : Nat) : Int) := q7
                        have p97 : u 97 = .int .i64 ((ui.toNat + uk.toNat : Nat) : Int) := q8
                        have p98 : u 98 = .int .i64 (((ui.toNat + uk.toNat) % 11 : Nat) : Int) := q9
                        have p99 : u 99 = .int .i64 n := q10
                        have p100 : u 100 = .int .i64 ((n * 17 : Nat) : Int) := q11
                        have p101 : u 101 = .int .i64 ((1 + n * 17 : Nat) : Int) := q12
                        have p102 : u 102 = .int .u8 (UInt8.ofNat (1 + n * 17)).toNat := q13
                        obtain ⟨m103, p103⟩ := q14
                        have p104 : u 104 = .int .u8 uk.toNat := q15
                        have p105 : u 105 = .int .i64 uk.toNat := q16
                        have p106 : u 106 = .int .i64 ((uk.toNat % 4 : Nat) : Int) := q17
                        have p107 : u 107 = .int .i64 ((uk.toNat % 4 + 7 : Nat) : Int) := q18
                        have p108 : u 108 = .int .u8 ui.toNat := q19
                        obtain ⟨m109, p109⟩ := q20
                        have p110 : u 110 = .int .u8 ui.toNat := q21
                        have p111 : u 111 = .int .i64 ui.toNat := q22
                        have p112 : u 112 = .bool true := q23
                        have p113 : u 113 = .bool false := q24
                        have p114 : u 114 = .bool false := q25
                        simp only [frm, frmL, Nat.reduceAdd, p89, p90, p91, p92, p93, p94, p95, p96, p97, p98, p99, p100, p101, p102, p103, p104, p105, p106, p107, p108, p109, p110, p111, p112, p113, p114]
                        clear p89 p90 p91 p92 p93 p94 p95 p96 p97 p98 p99 p100 p101 p102 p103 p104 p105 p106 p107 p108 p109 p110 p111 p112 p113 p114
                        have HSE : Hid (St [(b2, g.arr, 23)] w W) := Lib.hid (hS.sub (fun x hx => List.mem_cons_of_mem _ hx))
                        clear hS he he5 HS4
                        go_wp2_with fail
                        go_roundg (24 - ui.toNat)
                        case measure => omega
                        case rel => exact ⟨ui.toNat + 1, by omega, by omega, by go_num, HSE⟩
                    · have he : (((ui.toNat % 5 : Nat) : Int) == 0) = false := by rw [beq_eq_false_iff_ne]; omega
                      refine region_seq (D := [false, false, false, false, false, false, false, false, false, false, false, false, false, false, false, false, false, false, false, false, false, false, false, false, false, false, false, false, false, false, false, false, false, false, false, false, false, false, false, false, false, false, false, false, false, false, false, false, false, false, false, false, false, false, false, false, false, false, false, false, false, false, false, false, false, false, false, false, false, false, false, false, false, false, false, false, false, false, false, false, false, false, false, false, false, false, false, false, false, true, true, true, true, true, true, true, true, true, true, true, true, true, true, true, true, true, true, true, true, true, true, true, true, true, true]) (S := fun W => St [(b5, boxOf m, 27), (b2, g.arr, 23)] w W) (R := RB) (F := FF [isV (.int .u8 ui.toNat), isV (.int .u8 ((ui.toNat % 5 : Nat) : Int)), isV (.bool false), isV (.bool false), isV undef, isV undef, isV undef, isV undef, isV undef, isV undef, isV undef, isV undef, isV undef, isV undef, isV undef, isV undef, isV undef, isV undef, isV undef, isV undef, isV undef, isV undef, isV undef, isV undef, isV undef, isV (Value.bool false)]) rfl (by kernel_rfl) (FF_st _ _) HS4.out (fun hN => ?_) (fun u W hS hF => ?_)
                      · refine steps_cons ?_ ?_
                        · intro u W hS hp
                          exact step_on (wanted_free rfl) (ext_val hS (run_mv rfl ((eval_out rfl).trans rfl)) rfl)
                        refine steps_cons ?_ ?_
                        · intro u W hS hp
                          obtain ⟨q0, _⟩ := hp
                          have p89 : u 89 = .int .u8 ui.toNat := q0
                          exact step_on (wanted_free rfl) (ext_val hS (run_bin rfl ((eval_in rfl hN rfl).trans p89) rfl rfl (i_rem (b := 5) (by omega))) rfl)
                        refine steps_cons ?_ ?_
                        · intro u W hS hp
                          obtain ⟨q0, _⟩ := hp
                          have p90 : u 90 = .int .u8 ((ui.toNat % 5 : Nat) : Int) := q0
                          exact step_on (wanted_free rfl) (ext_val hS (run_bin rfl ((eval_in rfl hN rfl).trans p90) rfl rfl (i_eql he)) rfl)
                        refine steps_cons ?_ ?_
                        · intro u W hS hp
                          obtain ⟨q0, _⟩ := hp
                          have p91 : u 91 = .bool false := q0
                          exact step_on (wanted_free rfl) (ext_val hS (run_mv rfl ((eval_in rfl hN rfl).trans p91)) rfl)
                        refine steps_cons ?_ ?_
                        · intro u W hS hp
                          obtain ⟨q0, _⟩ := hp
                          have p92 : u 92 = .bool false := q0
                          exact step_off (wanted_off rfl rfl rfl hN rfl p92) rfl
                        refine steps_cons ?_ ?_
                        · intro u W hS hp
                          obtain ⟨q0, _⟩ := hp
                          have p92 : u 92 = .bool false := q0
                          exact step_off (wanted_off rfl rfl rfl hN rfl p92) rfl
                        refine steps_cons ?_ ?_
                        · intro u W hS hp
                          obtain ⟨q0, _⟩ := hp
                          have p92 : u 92 = .bool false := q0
                          exact step_off (wanted_off rfl rfl rfl hN rfl p92) rfl
                        refine steps_cons ?_ ?_
                        · intro u W hS hp
                          obtain ⟨q0, q1, q2, _⟩ := hp
                          have p94 : u 94 = undef := q0
                          have p95 : u 95 = undef := q1
                          have p92 : u 92 = .bool false := q2
                          exact step_off (wanted_off rfl rfl rfl hN rfl p92) rfl
                        refine steps_cons ?_ ?_
                        · intro u W hS hp
                          obtain ⟨q0, q1, _⟩ := hp
                          have p96 : u 96 = undef := q0
                          have p92 : u 92 = .bool false := q1
                          exact step_off (wanted_off rfl rfl rfl hN rfl p92) rfl
                        refine steps_cons ?_ ?_
                        · intro u W hS hp
                          obtain ⟨q0, q1, _⟩ := hp
                          have p97 : u 97 = undef := q0
                          have p92 : u 92 = .bool false := q1
                          exact step_off (wanted_off rfl rfl rfl hN rfl p92) rfl
                        refine steps_cons ?_ ?_
                        · intro u W hS hp
                          obtain ⟨q0, _⟩ := hp
                          have p92 : u 92 = .bool false := q0
                          exact step_off (wanted_off rfl rfl rfl hN rfl p92) rfl
                        refine steps_cons ?_ ?_
                        · intro u W hS hp
                          obtain ⟨q0, q1, _⟩ := hp
                          have p99 : u 99 = undef := q0
                          have p92 : u 92 = .bool false := q1
                          exact step_off (wanted_off rfl rfl rfl hN rfl p92) rfl
                        refine steps_cons ?_ ?_
                        · intro u W hS hp
                          obtain ⟨q0, q1, _⟩ := hp
                          have p100 : u 100 = undef := q0
                          have p92 : u 92 = .bool false := q1
                          exact step_off (wanted_off rfl rfl rfl hN rfl p92) rfl
                        refine steps_cons ?_ ?_
                        · intro u W hS hp
                          obtain ⟨q0, q1, _⟩ := hp
                          have p101 : u 101 = undef := q0
                          have p92 : u 92 = .bool false := q1
                          exact step_off (wanted_off rfl rfl rfl hN rfl p92) rfl
                        refine steps_cons ?_ ?_
                        · intro u W hS hp
                          obtain ⟨q0, q1, q2, q3, q4, _⟩ := hp
                          have p93 : u 93 = undef := q0
                          have p98 : u 98 = undef := q1
                          have p102 : u 102 = undef := q2
                          have p92 : u 92 = .bool false := q3
                          exact step_off (wanted_off rfl rfl rfl hN rfl p92) rfl
                        refine steps_cons ?_ ?_
                        · intro u W hS hp
                          obtain ⟨q0, _⟩ := hp
                          have p92 : u 92 = .bool false := q0
                          exact step_off (wanted_off rfl rfl rfl hN rfl p92) rfl
                        refine steps_cons ?_ ?_
                        · intro u W hS hp
                          obtain ⟨q0, q1, _⟩ := hp
                          have p104 : u 104 = undef := q0
                          have p92 : u 92 = .bool false := q1
                          exact step_off (wanted_off rfl rfl rfl hN rfl p92) rfl
                        refine steps_cons ?_ ?_
                        · intro u W hS hp
                          obtain ⟨q0, q1, _⟩ := hp
                          have p105 : u 105 = undef := q0
                          have p92 : u 92 = .bool false := q1
                          exact step_off (wanted_off rfl rfl rfl hN rfl p92) rfl
                        refine steps_cons ?_ ?_
                        · intro u W hS hp
                          obtain ⟨q0, q1, _⟩ := hp
                          have p106 : u 106 = undef := q0
                          have p92 : u 92 = .bool false := q1
                          exact step_off (wanted_off rfl rfl rfl hN rfl p92) rfl
                        refine steps_cons ?_ ?_
                        · intro u W hS hp
                          obtain ⟨q0, _⟩ := hp
                          have p92 : u 92 = .bool false := q0
                          exact step_off (wanted_off rfl rfl rfl hN rfl p92) rfl
                        refine steps_cons ?_ ?_
                        · intro u W hS hp
                          obtain ⟨q0, q1, q2, q3, q4, _⟩ := hp
                          have p103 : u 103 = undef := q0
                          have p107 : u 107 = undef := q1
                          have p108 : u 108 = undef := q2
                          have p92 : u 92 = .bool false := q4
                          exact step_off (wanted_off rfl rfl rfl hN rfl p92) rfl
                        refine steps_cons ?_ ?_
                        · intro u W hS hp
                          obtain ⟨q0, _⟩ := hp
                          have p92 : u 92 = .bool false := q0
                          exact step_off (wanted_off rfl rfl rfl hN rfl p92) rfl
                        refine steps_cons ?_ ?_
                        · intro u W hS hp
                          obtain ⟨q0, q1, _⟩ := hp
                          have p110 : u 110 = undef := q0
                          have p92 : u 92 = .bool false := q1
                          exact step_off (wanted_off rfl rfl rfl hN rfl p92) rfl
                        refine steps_cons ?_ ?_
                        · intro u W hS hp
                          obtain ⟨q0, q1, q2, q3, _⟩ := hp
                          have p109 : u 109 = undef := q0
                          have p111 : u 111 = undef := q1
                          have p92 : u 92 = .bool false := q3
                          exact step_off (wanted_off rfl rfl rfl hN rfl p92) rfl
                        refine steps_cons ?_ ?_
                        · intro u W hS hp
                          obtain ⟨q0, q1, _⟩ := hp
                          have p112 : u 112 = undef := q0
                          have p92 : u 92 = .bool false := q1
                          exact step_off (wanted_off rfl rfl rfl hN rfl p92) rfl
                        refine steps_cons ?_ ?_
                        · intro u W hS hp
                          obtain ⟨q0, q1, _⟩ := hp
                          have p92 : u 92 = .bool false := q0
                          have p113 : u 113 = undef := q1
                          exact step_on (wanted_free rfl) (ext_val hS (run_pickF rfl ((eval_in rfl hN rfl).trans p92) rfl) rfl)
                        exact steps_nil
                      · obtain ⟨q0, q1, q2, q3, q4, q5, q6, q7, q8, q9, q10, q11, q12, q13, q14, q15, q16, q17, q18, q19, q20, q21, q22, q23, q24, q25, _⟩ := hF
                        have p89 : u 89 = .int .u8 ui.toNat := q0
                        have p90 : u 90 = .int .u8 ((ui.toNat % 5 : Nat) : Int) := q1
                        have p91 : u 91 = .bool false := q2
                        have p92 : u 92 = .bool false := q3
                        have p93 : u 93 = undef := q4
                        have p94 : u 94 = undef := q5
                        have p95 : u 95 = undef := q6
                        have p96 : u 96 = undef := q7
                        have p97 : u 97 = undef := q8
                        have p98 : u 98 = undef := q9
                        have p99 : u 99 = undef := q10
                        have p100 : u 100 = undef := q11
                        have p101 : u 101 = undef := q12
                        have p102 : u 102 = undef := q13
                        have p103 : u 103 = undef := q14
                        have p104 : u 104 = undef := q15
                        have p105 : u 105 = undef := q16
                        have p106 : u 106 = undef := q17
                        have p107 : u 107 = undef := q18
                        have p108 : u 108 = undef := q19
                        have p109 : u 109 = undef := q20
                        have p110 : u 110 = undef := q21
                        have p111 : u 111 = undef := q22
                        have p112 : u 112 = undef := q23
                        have p113 : u 113 = undef := q24
                        have p114 : u 114 = Value.bool false := q25
                        simp only [frm, frmL, Nat.reduceAdd, p89, p90, p91, p92, p93, p94, p95, p96, p97, p98, p99, p100, p101, p102, p103, p104, p105, p106, p107, p108, p109, p110, p111, p112, p113, p114]
                        clear p89 p90 p91 p92 p93 p94 p95 p96 p97 p98 p99 p100 p101 p102 p103 p104 p105 p106 p107 p108 p109 p110 p111 p112 p113 p114
                        have HSE : Hid (St [(b2, g.arr, 23)] w W) := Lib.hid (hS.sub (fun x hx => List.mem_cons_of_mem _ hx))
                        clear hS he he5 HS4
                        go_wp2_with fail
                        go_roundg (24 - ui.toNat)
                        case measure => omega
                        case rel => exact ⟨ui.toNat + 1, by omega, by omega, by go_num, HSE⟩
              · have hi25 : ui.toNat = 25 := by omega
                have zq3 : decide ((ui.toNat : Int) < 25) = false := by simp; omega
                clear hi25
                go_wp2_with fail
                go_roundg (13 - uk.toNat)
                case measure => omega
                case rel => exact ⟨uk.toNat + 1, by omega, by omega, by go_num, HS2⟩
          · have zq2 : decide ((uk.toNat : Int) < 14) = false := by simp; omega
            go_wp2_with fail
            go_roundg (15 - n)
            case measure => omega
            case rel => exact ⟨n + 1, by omega, by omega, by go_num, Lib.hid (HS2.out.sub (fun _ h => by cases h))⟩
    · obtain rfl : n = 16 := by omega
      have zq1 : decide (((16 : Nat) : Int) < 16) = false := by simp
      go_wp2_with fail
      go_at_call 7
      refine (awake_any _ HS.out.g).mono ?_
      rintro e w9 ⟨rfl, hb⟩
      have HS9 := Lib.hid (HS.out.next hb)
      clear hb
      go_wp2
      go_ret
      exact ⟨rfl, HS9.out.b⟩
end Go.Proofs.YthllacodjeocmaaGreatDoor
