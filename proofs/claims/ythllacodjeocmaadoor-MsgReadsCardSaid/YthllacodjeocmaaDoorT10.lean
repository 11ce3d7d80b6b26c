/- MsgReads, walked. -/
import Derived.Test.YthllacodjeocmaaDoorT9
import Derived.Laws.AppendOwnNone
namespace Go.Proofs.YthllacodjeocmaaDoor
open Go.RowKit
attribute [local go_sem] Oper.semAt_some
theorem eql_self (m : Mg) (W : World) : (binOp .eql 25 (.agg (boxOf m)) (.agg (boxOf m))).run Tryd.prog W = .ok (.bool true) W := eqlM ((eqB_iff m m).2 rfl)
section
variable {bs : List (Nat × Array Value × TypeId)} {w W : World}
theorem rread_st (v : Value) (l : List UInt8) (hl : l.length < 9223372036854775808) (hv : Bts W v l) (h : Hid (St bs w W)) : Calls Tryd.prog 26 #[v] W fun e w' => e = .returned (.tuple #[.agg (boxOf (readOf l).1), .bool (readOf l).2]) ∧ Hid (St bs w w') :=
  (rread_any v l hl W hv).mono fun _ _ ⟨e, hb⟩ => ⟨e, Lib.hid (h.out.next hb)⟩
theorem rparse_st (s : ByteArray) (hs : s.size ≤ 1000) (h : Hid (St bs w W)) : Calls Tryd.prog 27 #[.string s] W fun e w' => e = .returned (.tuple #[.agg (boxOf (parseOf s).1), .int .i64 (parseOf s).2]) ∧ Hid (St bs w w') :=
  (rparse_any s W h.out.g hs).mono fun _ _ ⟨e, hb⟩ => ⟨by rw [e, rparse_eq]; rfl, Lib.hid (h.out.next hb)⟩
end
set_option maxHeartbeats 4000000 in
set_option maxRecDepth 100000 in
theorem reads_any (v : Value) (l : List UInt8) (s : ByteArray) (w : World) (hG : GlobM w) (hv : Bts w v l) (hl : l.length ≤ 1000) (hs : s.size ≤ 1000) :
    Calls Tryd.prog 11 #[v, .string s] w fun e w' => e = .returned (.bool true) ∧ Below w.heap.size w w' := by
  have HB := Lib.hid hv
  obtain ⟨A, cap, rfl⟩ := bts_form hv
  have HS : Hid (St [] w w) := Lib.hid (St.start hG)
  have hlr : l.length < 9223372036854775808 := by omega
  have hsr : s.size ≤ 10000 := by omega
  have HR1 := Lib.hid (fun (bs : List (Nat × Array Value × TypeId)) (W : World) (h : Hid (St bs w W)) => read_st2 (.slice A l.length cap) l hlr (HB.out.below h.out.b) h)
  have HR2 := Lib.hid (fun (bs : List (Nat × Array Value × TypeId)) (W : World) (h : Hid (St bs w W)) => rread_st (.slice A l.length cap) l hlr (HB.out.below h.out.b) h)
  have HP1 := Lib.hid (fun (bs : List (Nat × Array Value × TypeId)) (W : World) (h : Hid (St bs w W)) => parse_st2 s hsr h)
  have HP2 := Lib.hid (fun (bs : List (Nat × Array Value × TypeId)) (W : World) (h : Hid (St bs w W)) => rparse_st s hs h)
  generalize (readOf l).1 = m at HR1 HR2
  generalize (readOf l).2 = is at HR1 HR2
  generalize (parseOf s).1 = pm at HP1 HP2
  generalize (parseOf s).2 = er at HP1 HP2
  clear hv hG HB hlr hsr hl hs
  go_enter Tryd.func11, Tryd.ntmps11
  go_wp2_with fail
  go_at_call 12
  refine (HR1.out _ _ HS).mono ?_
  rintro e w2 ⟨rfl, HSa⟩
  clear HS HR1
  go_wp2_with (first | (refine wpl_store rfl 25 (.tmp 5) (.tmp 16) rfl w2.heap.size _ (boxOf m) rfl rfl (heap_alloc_new w2 _) rfl msgSize (box_one m) ?_; intro w3 ho hn; have HSb := Lib.hid (HSa.out.newbox m ho hn); clear ho hn) | (fail) | fail)
  generalize w2.heap.size = b5 at HSb ⊢
  clear HSa
  go_at_call 26
  refine (HR2.out _ _ HSb).mono ?_
  rintro e w4 ⟨rfl, HSa⟩
  clear HSb HR2
  go_wp2_with (first | (refine wpl_store rfl 25 (.tmp 7) (.tmp 21) rfl w4.heap.size _ (boxOf m) rfl rfl (heap_alloc_new w4 _) rfl msgSize (box_one m) ?_; intro w5 ho hn; have HSb := Lib.hid (HSa.out.newbox m ho hn); clear ho hn) | (fail) | fail)
  generalize w4.heap.size = b7 at HSb ⊢
  clear HSa
  go_at_call 13
  refine (HP1.out _ _ HSb).mono ?_
  rintro e w6 ⟨rfl, HSa⟩
  clear HSb HP1
  go_wp2_with (first | (refine wpl_store rfl 25 (.tmp 9) (.tmp 26) rfl w6.heap.size _ (boxOf pm) rfl rfl (heap_alloc_new w6 _) rfl msgSize (box_one pm) ?_; intro w7 ho hn; have HSb := Lib.hid (HSa.out.newbox pm ho hn); clear ho hn) | (fail) | fail)
  generalize w6.heap.size = b9 at HSb ⊢
  clear HSa
  go_at_call 27
  refine (HP2.out _ _ HSb).mono ?_
  rintro e w8 ⟨rfl, HSa⟩
  clear HSb HP2
  go_wp2_with (first | (refine wpl_store rfl 25 (.tmp 11) (.tmp 31) rfl w8.heap.size _ (boxOf pm) rfl rfl (heap_alloc_new w8 _) rfl msgSize (box_one pm) ?_; intro w9 ho hn; have HSb := Lib.hid (HSa.out.newbox pm ho hn); clear ho hn) | (refine wpl_ld25 rfl (.tmp 5) rfl b5 m rfl (HSb.out.h (b5, boxOf m, 25) (by simp)) ?_) | (refine wpl_ld25 rfl (.tmp 7) rfl b7 m rfl (HSb.out.h (b7, boxOf m, 25) (by simp)) ?_) | (refine wpl_ld25 rfl (.tmp 9) rfl b9 pm rfl (HSb.out.h (b9, boxOf pm, 25) (by simp)) ?_) | (refine wpl_ld25 rfl (.tmp 11) rfl w8.heap.size pm rfl (HSb.out.h (w8.heap.size, boxOf pm, 25) (by simp)) ?_) | (refine wpl_val rfl (run_bin (op := .eql) (T := 25) (x := .tmp 33) (y := .tmp 34) rfl rfl rfl (eg25 ..) (eql_self m _)) ?_) | (refine wpl_val rfl (run_bin (op := .eql) (T := 25) (x := .tmp 42) (y := .tmp 43) rfl rfl rfl (eg25 ..) (eql_self pm _)) ?_) | fail)
  go_ret
  exact ⟨rfl, HSb.out.b⟩
theorem bts_own {W : World} {base : Nat} {v : Value} {l : List UInt8} (h : W.ownsRow base 5 1 v l.length (l.map u8v)) : Bts W v l := by
  rcases h.2 with ⟨rfl, h0⟩ | ⟨g, cap, cur, rfl, _, hh, hn, _⟩
  · exact ⟨none, 0, by rw [h0], by rw [h0]; exact Nat.le_refl _, fun h => by omega⟩
  · refine ⟨_, cap, rfl, hn, fun _ => ⟨g, 0, rfl, fun j u hu => ?_⟩⟩
    have h1 := h.cells (g := g) rfl j (u8v u) (by rw [List.getElem?_map, hu]; rfl)
    have : (⟨g, 0, none⟩ : Addr).add j = ⟨g, 0 + j, none⟩ := by unfold Addr.add; split <;> simp_all
    rw [this] at h1
    exact h1
theorem byteInfo : (Tryd.prog.info? 5).map (fun i => (i.zero, i.size, i.bytes)) = some (some (.int .u8 0), 1, 1) := by kernel_rfl
set_option maxHeartbeats 4000000 in
set_option maxRecDepth 100000 in
theorem mreads_short (b : Value) (l : List UInt8) (s : ByteArray) (w : World) (hG : GlobM w) (hb : Bts w b l) (hz : ∀ n c, b = .slice none n c → c = 0) (hl : l.length ≤ 1000) (hs : s.size ≤ 1000) :
    Calls Tryd.prog 4 #[b, .string s] w fun e w' => e = .returned (.bool true) ∧ Below w.heap.size w w' := by
  have HB := Lib.hid hb
  obtain ⟨i0, hi, hz0, hz1, hz2⟩ := info_parts byteInfo
  obtain ⟨A, cap, rfl⟩ := bts_form hb
  obtain ⟨_, _, e0, _, hcells⟩ := hb
  have hA : 0 < l.length → ∃ b o, A = some ⟨b, o, none⟩ ∧ BytesO w b o l := by
    injection e0 with e1 _ e2
    subst e1
    exact hcells
  have q1 : decide ((1000 : Int) < (l.length : Int)) = false := by simp; omega
  have q2 : decide ((1000 : Int) < (s.size : Int)) = false := by simp; omega
  have HS : Hid (St [] w (w.alloc (.cells #[] 5))) := Lib.hid ((St.start hG).allocO _)
  have hown : (w.alloc (.cells #[] 5)).ownsRow w.heap.size 5 1 (.slice (some ⟨w.heap.size, 0, none⟩) 0 0) 0 [] := World.ownsRow_lit w #[] 0 (Nat.le_refl _) (by unfold maxLen; omega) rfl
  have HO := Lib.hid hown
  have HRd := Lib.hid (fun (v : Value) (W : World) (hW : St [] w W) (h : Bts W v l) => reads_any v l s W hW.g h hl hs)
  have HG := Lib.hid hG
  clear hown e0 hcells hG
  cases A with
  | none =>
    obtain rfl : cap = 0 := hz _ _ rfl
    have hl0 : l = [] := by
      rcases Nat.eq_zero_or_pos l.length with h | h
      · exact List.eq_nil_of_length_eq_zero h
      · obtain ⟨_, _, e, _⟩ := hA h; cases e
    subst hl0
    have HBt : Hid (Bts (w.alloc (.cells #[] 5)) (.slice (some ⟨w.heap.size, 0, none⟩) 0 0) []) := Lib.hid (bts_own (l := []) HO.out)
    clear hA hz
    go_enter Tryd.func4, Tryd.ntmps4
    go_wp2_with (first | (at_builtin; refine wpList_append_own_none rfl _ _ _ rfl w.heap.size 5 i0 1 Tryd.underlying29 hi _ 0 [] rfl HO.out rfl ?_) | fail)
    go_at_call 11
    refine (HRd.out _ _ HS.out HBt.out).mono ?_
    rintro e w3 ⟨rfl, hb3⟩
    have HS3 := Lib.hid (HS.out.next hb3)
    have c1 := conv_empty (some ⟨w.heap.size, 0, none⟩) 0 w3
    have c2 := conv_empty none 0 w3
    clear HBt hb3
    go_wp2_with fail
    go_at_call 9
    refine (awake_st HS3).mono ?_
    rintro e w4 ⟨rfl, HS4⟩
    clear c1 c2
    go_wp2
    go_ret
    exact ⟨rfl, HS4.out.b⟩
  | some a =>
    have HN : Hid (∀ j u, (l.map u8v)[j]? = some u → (w.alloc (.cells #[] 5)).cell? (a.add j) = some u) := by
      intro j u hu
      rw [List.getElem?_map] at hu
      cases hj : l[j]? with
      | none => rw [hj] at hu; cases hu
      | some x =>
        rw [hj] at hu
        simp only [Option.map_some, Option.some.injEq] at hu
        subst hu
        have hpos : 0 < l.length := by
          rcases Nat.lt_or_ge j l.length with h | h
          · omega
          · rw [List.getElem?_eq_none h] at hj; cases hj
        obtain ⟨b, o, e, hBy⟩ := hA hpos
        injection e with e
        subst e
        have : (⟨b, o, none⟩ : Addr).add j = ⟨b, o + j, none⟩ := by unfold Addr.add; split <;> simp_all
        rw [this]
        exact calloc (hBy j x hj)
    have H1 : Hid (∀ u ∈ l.map u8v, u.oneCell' = true) := by
      intro u hu
      obtain ⟨x, _, rfl⟩ := List.mem_map.1 hu
      rfl
    clear hA hz
    go_enter Tryd.func4, Tryd.ntmps4
    go_wp2_with (first | (at_builtin; refine wpList_append_own _ rfl _ _ _ rfl w.heap.size 5 i0 (.int .u8 0) 1 1 Tryd.underlying29 hi hz0 hz1 hz2 rfl (by decide) _ 0 [] rfl HO.out a l.length cap (l.map u8v) rfl (by simp) HN.out H1.out (by unfold maxLen; omega) (by omega) (by simp) ?_; intro v' w2 hown2 hg2 _; have HO2 := Lib.hid hown2; have HG2 := Lib.hid hg2; clear hown2 hg2) | fail)
    have HBt : Hid (Bts w2 v' l) := by
      have h := HO2.out
      rw [Nat.zero_add, List.nil_append] at h
      exact Lib.hid (bts_own h)
    have hb2 : Below w.heap.size w w2 := ((Below.refl _ w).alloc (Nat.le_refl _) _).grown HG2.out (by simp) (fun k hk => by have h : some w.heap.size = some k := hk; injection h with h; omega)
    have HS2 : Hid (St [] w w2) := Lib.hid ((St.start HG.out).next hb2)
    clear HO2 HG2 hb2 HS
    go_at_call 11
    refine (HRd.out _ _ HS2.out HBt.out).mono ?_
    rintro e w3 ⟨rfl, hb3⟩
    have HS3 := Lib.hid (HS2.out.next hb3)
    have c1 := bts_str (HBt.out.below hb3)
    have c2 := bts_str (HB.out.below HS3.out.b)
    clear HBt hb3
    go_wp2_with fail
    go_at_call 9
    refine (awake_st HS3).mono ?_
    rintro e w4 ⟨rfl, HS4⟩
    clear c1 c2
    go_wp2
    go_ret
    exact ⟨rfl, HS4.out.b⟩
theorem mreads_long (b : Value) (l : List UInt8) (s : ByteArray) (w : World) (hG : GlobM w) (hb : Bts w b l) (h : 1000 < l.length ∨ 1000 < s.size) (hl : l.length < 9223372036854775808) (hs : s.size < 9223372036854775808) :
    Calls Tryd.prog 4 #[b, .string s] w fun e w' => e = .returned (.bool true) ∧ Below w.heap.size w w' := by
  obtain ⟨A, cap, rfl⟩ := bts_form hb
  have HS : Hid (St [] w w) := Lib.hid (St.start hG)
  clear hb hG
  by_cases h1 : 1000 < l.length
  · have q1 : decide ((1000 : Int) < (l.length : Int)) = true := by simp; omega
    go_enter Tryd.func4, Tryd.ntmps4
    go_wp2_with fail
    go_at_call 9
    refine (awake_st HS).mono ?_
    rintro e w1 ⟨rfl, HS1⟩
    go_wp2
    go_ret
    exact ⟨rfl, HS1.out.b⟩
  · have q1 : decide ((1000 : Int) < (l.length : Int)) = false := by simp; omega
    have q2 : decide ((1000 : Int) < (s.size : Int)) = true := by simp; omega
    go_enter Tryd.func4, Tryd.ntmps4
    go_wp2_with fail
    go_at_call 9
    refine (awake_st HS).mono ?_
    rintro e w1 ⟨rfl, HS1⟩
    go_wp2
    go_ret
    exact ⟨rfl, HS1.out.b⟩
theorem msgReads_any (b : Value) (l : List UInt8) (s : ByteArray) (w : World) (hG : GlobM w) (hb : Bts w b l) (hl : l.length ≤ maxLen) (hz : ∀ n c, b = .slice none n c → c = 0) (hs : s.size ≤ maxLen) :
    Calls Tryd.prog 4 #[b, .string s] w fun e w' => e = .returned (.bool true) ∧ Below w.heap.size w w' := by
  unfold maxLen at hl hs
  by_cases h : l.length ≤ 1000 ∧ s.size ≤ 1000
  · exact mreads_short b l s w hG hb hz h.1 h.2
  · exact mreads_long b l s w hG hb (by omega) (by omega) (by omega)
end Go.Proofs.YthllacodjeocmaaDoor
