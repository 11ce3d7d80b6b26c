/- MsgReads, walked. -/
import Derived.Test.YthllacodjeocmaaGreatDoorT9
import Derived.Laws.AppendOwnNone
namespace Go.Proofs.YthllacodjeocmaaGreatDoor
open Go.RowKit
attribute [local go_sem] Oper.semAt_some
theorem eql_self (m : Mg) (W : World) : (binOp .eql 27 (.agg (boxOf m)) (.agg (boxOf m))).run Tryz.prog W = .ok (.bool true) W := eqlM ((eqB_iff m m).2 rfl)
section
variable {bs : List (Nat × Array Value × TypeId)} {w W : World}
theorem rread_st (v : Value) (l : List UInt8) (hl : l.length < 9223372036854775808) (hv : Bts W v l) (h : Hid (St bs w W)) : Calls Tryz.prog 32 #[v] W fun e w' => e = .returned (.tuple #[.agg (boxOf (readOf l).1), .bool (readOf l).2]) ∧ Hid (St bs w w') :=
  (rread_any v l hl W hv).mono fun _ _ ⟨e, hb⟩ => ⟨e, Lib.hid (h.out.next hb)⟩
theorem rparse_st (s : ByteArray) (hs : s.size ≤ 1000) (h : Hid (St bs w W)) : Calls Tryz.prog 33 #[.string s] W fun e w' => e = .returned (.tuple #[.agg (boxOf (parseOf s).1), .int .i64 (parseOf s).2]) ∧ Hid (St bs w w') :=
  (rparse_any s W h.out.g hs).mono fun _ _ ⟨e, hb⟩ => ⟨by rw [e, rparse_eq]; rfl, Lib.hid (h.out.next hb)⟩
end
set_option maxHeartbeats 4000000 in
set_option maxRecDepth 100000 in
theorem reads_any (v : Value) (l : List UInt8) (s : ByteArray) (w : World) (hG : GlobM w) (hv : Bts w v l) (hl : l.length ≤ 1000) (hs : s.size ≤ 1000) :
    Calls Tryz.prog 16 #[v, .string s] w fun e w' => e = .returned (.bool true) ∧ Below w.heap.size w w' := by
  have HB := Lib.hid hv
  obtain ⟨A, cap, rfl⟩ := bts_form hv
  have HS : Hid (St [] w w) := Lib.hid (St.start hG)
  have hlr : l.length < 9223372036854775808 := by omega
  have hsr : s.size ≤ 10000 := by omega
  have HR1 := Lib.hid (fun (bs : List (Nat × Array Value × TypeId)) (W : World) (h : Hid (St bs w W)) => read_st2 (.slice A l.length cap) l hlr (HB.out.below h.out.b) h)
  have HR2 := Lib.hid (fun (bs : List (Nat × Array Value × TypeId)) (W : World) (h : Hid (St bs w W)) => rread_st (.slice A l.length cap) l hlr (HB.out.below h.out.b) h)
  have HP1 := Lib.hid (fun (bs : List (Nat × Array Value × TypeId)) (W : World) (h : Hid (St bs w W)) => parse_st2 s hsr h)
  have HP2 := Lib.hid (fun (bs : List (Nat × Array Value × TypeId)) (W : World) (h : Hid (St bs w W)) => rparse_st s hs h)
  generalize (readOf l).1 = m at HR1 HR2
  generalize (readOf l).2 = is at HR1 HR2
  generalize (parseOf s).1 = pm at HP1 HP2
  generalize (parseOf s).2 = er at HP1 HP2
  clear hv hG HB hlr hsr hl hs
  go_enter Tryz.func16, Tryz.ntmps16
  go_wp2_with fail
  go_at_call 31
  refine (HR1.out _ _ HS).mono ?_
  rintro e w2 ⟨rfl, HSa⟩
  clear HS HR1
  go_wp2_with (first | (refine wpl_store rfl 27 (.tmp 5) (.tmp 16) rfl w2.heap.size _ (boxOf m) rfl rfl (heap_alloc_new w2 _) rfl msgSize (box_one m) ?_; intro w3 ho hn; have HSb := Lib.hid (HSa.out.newbox m ho hn); clear ho hn) | (fail) | fail)
  generalize w2.heap.size = b5 at HSb ⊢
  clear HSa
  go_at_call 32
  refine (HR2.out _ _ HSb).mono ?_
  rintro e w4 ⟨rfl, HSa⟩
  clear HSb HR2
  go_wp2_with (first | (refine wpl_store rfl 27 (.tmp 7) (.tmp 21) rfl w4.heap.size _ (boxOf m) rfl rfl (heap_alloc_new w4 _) rfl msgSize (box_one m) ?_; intro w5 ho hn; have HSb := Lib.hid (HSa.out.newbox m ho hn); clear ho hn) | (fail) | fail)
  generalize w4.heap.size = b7 at HSb ⊢
  clear HSa
  go_at_call 17
  refine (HP1.out _ _ HSb).mono ?_
  rintro e w6 ⟨rfl, HSa⟩
  clear HSb HP1
  go_wp2_with (first | (refine wpl_store rfl 27 (.tmp 9) (.tmp 26) rfl w6.heap.size _ (boxOf pm) rfl rfl (heap_alloc_new w6 _) rfl msgSize (box_one pm) ?_; intro w7 ho hn; have HSb := Lib.hid (HSa.out.newbox pm ho hn); clear ho hn) | (fail) | fail)
  generalize w6.heap.size = b9 at HSb ⊢
  clear HSa
  go_at_call 33
  refine (HP2.out _ _ HSb).mono ?_
  rintro e w8 ⟨rfl, HSa⟩
  clear HSb HP2
  go_wp2_with (first | (refine wpl_store rfl 27 (.tmp 11) (.tmp 31) rfl w8.heap.size _ (boxOf pm) rfl rfl (heap_alloc_new w8 _) rfl msgSize (box_one pm) ?_; intro w9 ho hn; have HSb := Lib.hid (HSa.out.newbox pm ho hn); clear ho hn) | (refine wpl_ld25 rfl (.tmp 5) rfl b5 m rfl (HSb.out.h (b5, boxOf m, 27) (by simp)) ?_) | (refine wpl_ld25 rfl (.tmp 7) rfl b7 m rfl (HSb.out.h (b7, boxOf m, 27) (by simp)) ?_) | (refine wpl_ld25 rfl (.tmp 9) rfl b9 pm rfl (HSb.out.h (b9, boxOf pm, 27) (by simp)) ?_) | (refine wpl_ld25 rfl (.tmp 11) rfl w8.heap.size pm rfl (HSb.out.h (w8.heap.size, boxOf pm, 27) (by simp)) ?_) | (refine wpl_val rfl (run_bin (op := .eql) (T := 27) (x := .tmp 33) (y := .tmp 34) rfl rfl rfl (eg25 ..) (eql_self m _)) ?_) | (refine wpl_val rfl (run_bin (op := .eql) (T := 27) (x := .tmp 42) (y := .tmp 43) rfl rfl rfl (eg25 ..) (eql_self pm _)) ?_) | fail)
  go_ret
  exact ⟨rfl, HSb.out.b⟩
theorem bts_own {W : World} {base : Nat} {v : Value} {l : List UInt8} (h : W.ownsRow base 5 1 v l.length (l.map u8v)) : Bts W v l := by
  rcases h.2 with ⟨rfl, h0⟩ | ⟨g, cap, cur, rfl, _, hh, hn, _⟩
  · exact ⟨none, 0, by rw [h0], by rw [h0]; exact Nat.le_refl _, fun h => by omega⟩
  · refine ⟨_, cap, rfl, hn, fun _ => ⟨g, 0, rfl, fun j u hu => ?_⟩⟩
    have h1 := h.cells (g := g) rfl j (u8v u) (by rw [List.getElem?_map, hu]; rfl)
    have : (⟨g, 0, none⟩ : Addr).add j = ⟨g, 0 + j, none⟩ := by unfold Addr.add; split <;> simp_all
    rw [this] at h1
    exact h1
theorem byteInfo : (Tryz.prog.info? 5).map (fun i => (i.zero, i.size, i.bytes)) = some (some (.int .u8 0), 1, 1) := by kernel_rfl
end Go.Proofs.YthllacodjeocmaaGreatDoor
