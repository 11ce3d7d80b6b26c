/- The reference's reading of bytes. -/
import Derived.Test.YthllacodjeocmaaGreatDoorT3
namespace Go.Proofs.YthllacodjeocmaaGreatDoor
open Go.RowKit
attribute [local go_sem] Oper.semAt_some
theorem run_bld4 {P : Program} {ev : Operand → Value} {o : Oper} {w : World} {T : TypeId} {x0 x1 x2 x3 : Operand} {v0 v1 v2 v3 v : Value} (ho : o.op = .build T #[(0, x0), (1, x1), (2, x2), (3, x3)]) (h0 : ev x0 = v0) (h1 : ev x1 = v1) (h2 : ev x2 = v2) (h3 : ev x3 = v3)
    (hb : (Instr.build T #[(0, v0), (1, v1), (2, v2), (3, v3)]).run P w = .ok v w) : (execOp ev o).run P w = .ok (.value v) w := by
  refine run_bld ho ?_
  simp only [List.map_toArray, List.map_cons, List.map_nil, h0, h1, h2, h3]
  exact hb
theorem run_bld8 {P : Program} {ev : Operand → Value} {o : Oper} {w : World} {T : TypeId} {x0 x1 x2 x3 x4 x5 x6 x7 : Operand} {v0 v1 v2 v3 v4 v5 v6 v7 v : Value} (ho : o.op = .build T #[(0, x0), (1, x1), (2, x2), (3, x3), (4, x4), (5, x5), (6, x6), (7, x7)]) (h0 : ev x0 = v0) (h1 : ev x1 = v1) (h2 : ev x2 = v2) (h3 : ev x3 = v3) (h4 : ev x4 = v4) (h5 : ev x5 = v5) (h6 : ev x6 = v6) (h7 : ev x7 = v7)
    (hb : (Instr.build T #[(0, v0), (1, v1), (2, v2), (3, v3), (4, v4), (5, v5), (6, v6), (7, v7)]).run P w = .ok v w) : (execOp ev o).run P w = .ok (.value v) w := by
  refine run_bld ho ?_
  simp only [List.map_toArray, List.map_cons, List.map_nil, h0, h1, h2, h3, h4, h5, h6, h7]
  exact hb
theorem bld_data (a b c d : Int) (W : World) : (Instr.build 25 #[(0, .int .u8 a), (1, .int .u8 b), (2, .int .u8 c), (3, .int .u8 d)]).run Tryz.prog W = .ok (.agg #[.int .u8 a, .int .u8 b, .int .u8 c, .int .u8 d]) W := by kernel_rfl
theorem bld_msg (m : Mg) (W : World) : (Instr.build 27 #[(0, .int .u8 m.k.toNat), (1, .int .u8 m.f.toNat), (2, .int .u8 m.t.toNat), (3, .int .u8 m.l.toNat), (4, .int .u8 m.a.toNat), (5, .int .u8 m.c.toNat), (6, .bool m.al), (7, .agg #[.int .u8 m.d0.toNat, .int .u8 m.d1.toNat, .int .u8 m.d2.toNat, .int .u8 m.d3.toNat])]).run Tryz.prog W = .ok (.agg (boxOf m)) W := by kernel_rfl
theorem idx29 {W : World} {g o n c : Nat} {k : IntKind} {i : Nat} (h : i < n) : (Instr.indexAt 33 (.slice (some ⟨g, o, none⟩) n c) (.int k i)).run Tryz.prog W = .ok (.pointer (some ⟨g, o + i, none⟩)) W := by
  simp [Instr.indexAt, go_sem, h]
theorem results26_run (tmps : Array Value) (W : World) (rb : Nat) (m : Mg) (bo : Bool) (h2 : tmps.getD 2 undef = .pointer (some ⟨rb, 0, none⟩)) (h3 : tmps.getD 3 undef = .bool bo) (h : W.heap[rb]? = some (.cells (boxOf m) 27)) :
    (results Tryz.f32 tmps).run Tryz.prog W = .ok (.tuple #[m.val, .bool bo]) W := by
  have hl := load_msg W rb m h
  have h2' : tmps[2]?.getD undef = .pointer (some ⟨rb, 0, none⟩) := by simpa using h2
  have h3' : tmps[3]?.getD undef = .bool bo := by simpa using h3
  simp [results, Tryz.results32, h2', h3', asAddr, hl]
set_option maxHeartbeats 2000000 in
set_option maxRecDepth 100000 in
theorem rread_short (A : Option Addr) (n cap : Nat) (_ : n < 9223372036854775808) (h : ¬ (n : Int) = 11) (w : World) : Calls Tryz.prog 32 #[.slice A n cap] w fun e w' => e = .returned (.tuple #[zeroM.val, .bool false]) ∧ Below w.heap.size w w' := by
  have hq : ((n : Int) != 11) = true := by rw [bne_iff_ne]; exact h
  go_enter Tryz.func32, Tryz.ntmps32
  go_wp2
  exact bodyPost_ret (v := .tuple #[zeroM.val, .bool false]) (results26_run _ _ w.heap.size zeroM false rfl rfl (heap_alloc_new w (.cells (boxOf zeroM) 27))) rfl ⟨rfl, (Below.refl _ w).alloc (Nat.le_refl _) _⟩
/-- What stands while the bytes are read. -/
structure Rd (w : World) (b o : Nat) (l : List UInt8) (W : World) : Prop where
  bl : Below w.heap.size w W
  r : W.heap[w.heap.size]? = some (.cells #[.int .u8 0, .int .u8 0, .int .u8 0, .int .u8 0, .int .u8 0, .int .u8 0, .bool false, .int .u8 0, .int .u8 0, .int .u8 0, .int .u8 0] 27)
  c : BytesO W b o l
theorem Rd.next {w W W' : World} {b o : Nat} {l : List UInt8} (h : Rd w b o l W) (hb : Below W.heap.size W W') : Rd w b o l W' := ⟨h.bl.trans (hb.mono h.bl.size), blk_next h.r hb, h.c.below hb⟩
set_option maxHeartbeats 4000000 in
set_option maxRecDepth 100000 in
theorem rread_full (b o cap : Nat) (k f t ln a c x d0 d1 d2 d3 : UInt8) (w : World) (hB : Hid (BytesO w b o [k, f, t, ln, a, c, x, d0, d1, d2, d3])) :
    Calls Tryz.prog 32 #[.slice (some ⟨b, o, none⟩) 11 cap] w fun e w' => e = .returned (.tuple #[(readOf [k, f, t, ln, a, c, x, d0, d1, d2, d3]).1.val, .bool (readOf [k, f, t, ln, a, c, x, d0, d1, d2, d3]).2]) ∧ Below w.heap.size w w' := by
  have hR0 : Hid (Rd w b o [k, f, t, ln, a, c, x, d0, d1, d2, d3] (w.alloc (.cells #[.int .u8 0, .int .u8 0, .int .u8 0, .int .u8 0, .int .u8 0, .int .u8 0, .bool false, .int .u8 0, .int .u8 0, .int .u8 0, .int .u8 0] 27))) := Lib.hid ⟨(Below.refl _ w).alloc (Nat.le_refl _) _, heap_alloc_new w _, hB.out.below ((Below.refl _ w).alloc (Nat.le_refl _) _)⟩
  have e6 : (w.alloc (.cells #[.int .u8 0, .int .u8 0, .int .u8 0, .int .u8 0, .int .u8 0, .int .u8 0, .bool false, .int .u8 0, .int .u8 0, .int .u8 0, .int .u8 0] 27)).cell? ⟨b, o + 6, none⟩ = some (.int .u8 x.toNat) := hR0.out.c 6 x rfl
  have hx := x.toNat_lt
  by_cases hx1 : x.toNat ≤ 1
  · have q1 : decide ((1 : Int) < (x.toNat : Int)) = false := by simp; omega
    obtain ⟨q, hq⟩ : ∃ q, ((x.toNat : Int) == 1) = q := ⟨_, rfl⟩
    have HR : Hid (readOf [k, f, t, ln, a, c, x, d0, d1, d2, d3] = (⟨k, f, t, ln, a, c, q, d0, d1, d2, d3⟩, true)) := by
      show _ = _
      rw [readOf_full, hq]
      have : x = 0 ∨ x = 1 := by
        rcases Nat.eq_zero_or_pos x.toNat with h | h
        · exact .inl (UInt8.toNat_inj.1 h)
        · exact .inr (UInt8.toNat_inj.1 (by show x.toNat = 1; omega))
      rcases this with rfl | rfl
      · subst hq; simp [bytesOf]
      · subst hq; simp [bytesOf]
    obtain ⟨m, hm⟩ : ∃ m : Mg, (⟨k, f, t, ln, a, c, q, d0, d1, d2, d3⟩ : Mg) = m := ⟨_, rfl⟩
    have hbm : Hid (boxOf ⟨k, f, t, ln, a, c, q, d0, d1, d2, d3⟩ = boxOf m) := by rw [hm]; exact rfl
    rw [hm] at HR
    clear hm hx1
    go_enter Tryz.func32, Tryz.ntmps32
    go_wp2_with fail
    clear e6 q1
    refine region_m (m := 36) (D := [false, false, false, false, false, false, false, false, false, false, false, false, false, false, true, true, true, true, true, true, true, true, true, true, true, true, true, true, true, true, true, true, true, true, true, true, true, true, true, true, true, true, true, true, true, true, true, true, true, true]) (S := Rd w b o [k, f, t, ln, a, c, x, d0, d1, d2, d3]) (R := RB) (F := FF [isV (.slice (some ⟨b, o, none⟩) 11 cap), isV (.pointer (some ⟨b, o + 0, none⟩)), isV (.int .u8 k.toNat), isV (.slice (some ⟨b, o, none⟩) 11 cap), isV (.pointer (some ⟨b, o + 1, none⟩)), isV (.int .u8 f.toNat), isV (.slice (some ⟨b, o, none⟩) 11 cap), isV (.pointer (some ⟨b, o + 2, none⟩)), isV (.int .u8 t.toNat), isV (.slice (some ⟨b, o, none⟩) 11 cap), isV (.pointer (some ⟨b, o + 3, none⟩)), isV (.int .u8 ln.toNat), isV (.slice (some ⟨b, o, none⟩) 11 cap), isV (.pointer (some ⟨b, o + 4, none⟩)), isV (.int .u8 a.toNat), isV (.slice (some ⟨b, o, none⟩) 11 cap), isV (.pointer (some ⟨b, o + 5, none⟩)), isV (.int .u8 c.toNat), isV (.slice (some ⟨b, o, none⟩) 11 cap), isV (.pointer (some ⟨b, o + 6, none⟩)), isV (.int .u8 x.toNat), isV (.bool q), isV (.slice (some ⟨b, o, none⟩) 11 cap), isV (.pointer (some ⟨b, o + 7, none⟩)), isV (.int .u8 d0.toNat), isV (.slice (some ⟨b, o, none⟩) 11 cap), isV (.pointer (some ⟨b, o + 8, none⟩)), isV (.int .u8 d1.toNat), isV (.slice (some ⟨b, o, none⟩) 11 cap), isV (.pointer (some ⟨b, o + 9, none⟩)), isV (.int .u8 d2.toNat), isV (.slice (some ⟨b, o, none⟩) 11 cap), isV (.pointer (some ⟨b, o + 10, none⟩)), isV (.int .u8 d3.toNat), isV (.agg #[.int .u8 d0.toNat, .int .u8 d1.toNat, .int .u8 d2.toNat, .int .u8 d3.toNat]), isV (.agg (boxOf (⟨k, f, t, ln, a, c, q, d0, d1, d2, d3⟩ : Mg)))]) rfl mo (by kernel_rfl) (FF_st _ _) (hR0.out.next ⟨rfl, rfl, rfl, Nat.le_refl _, fun _ _ => rfl⟩) (fun hN => ?_) (fun u W hS hF => ?_)
    · refine steps_cons ?_ ?_
      · intro u W hS hp
        exact step_on (wanted_free rfl) (ext_val hS (run_mv rfl ((eval_out rfl).trans rfl)) rfl)
      refine steps_cons ?_ ?_
      · intro u W hS hp
        obtain ⟨q0, _⟩ := hp
        have p14 : u 14 = .slice (some ⟨b, o, none⟩) 11 cap := q0
        exact step_on (wanted_free rfl) (ext_val hS (run_ia rfl ((eval_in rfl hN rfl).trans p14) rfl (idx29 (by decide))) rfl)
      refine steps_cons ?_ ?_
      · intro u W hS hp
        obtain ⟨q0, _⟩ := hp
        have p15 : u 15 = .pointer (some ⟨b, o + 0, none⟩) := q0
        exact step_on (wanted_free rfl) (ext_val hS (run_ld rfl ((eval_in rfl hN rfl).trans p15) (ld_u8 (hS.c 0 k rfl))) rfl)
      refine steps_cons ?_ ?_
      · intro u W hS hp
        exact step_on (wanted_free rfl) (ext_val hS (run_mv rfl ((eval_out rfl).trans rfl)) rfl)
      refine steps_cons ?_ ?_
      · intro u W hS hp
        obtain ⟨q0, _⟩ := hp
        have p17 : u 17 = .slice (some ⟨b, o, none⟩) 11 cap := q0
        exact step_on (wanted_free rfl) (ext_val hS (run_ia rfl ((eval_in rfl hN rfl).trans p17) rfl (idx29 (by decide))) rfl)
      refine steps_cons ?_ ?_
      · intro u W hS hp
        obtain ⟨q0, _⟩ := hp
        have p18 : u 18 = .pointer (some ⟨b, o + 1, none⟩) := q0
        exact step_on (wanted_free rfl) (ext_val hS (run_ld rfl ((eval_in rfl hN rfl).trans p18) (ld_u8 (hS.c 1 f rfl))) rfl)
      refine steps_cons ?_ ?_
      · intro u W hS hp
        exact step_on (wanted_free rfl) (ext_val hS (run_mv rfl ((eval_out rfl).trans rfl)) rfl)
      refine steps_cons ?_ ?_
      · intro u W hS hp
        obtain ⟨q0, _⟩ := hp
        have p20 : u 20 = .slice (some ⟨b, o, none⟩) 11 cap := q0
        exact step_on (wanted_free rfl) (ext_val hS (run_ia rfl ((eval_in rfl hN rfl).trans p20) rfl (idx29 (by decide))) rfl)
      refine steps_cons ?_ ?_
      · intro u W hS hp
        obtain ⟨q0, _⟩ := hp
        have p21 : u 21 = .pointer (some ⟨b, o + 2, none⟩) := q0
        exact step_on (wanted_free rfl) (ext_val hS (run_ld rfl ((eval_in rfl hN rfl).trans p21) (ld_u8 (hS.c 2 t rfl))) rfl)
      refine steps_cons ?_ ?_
      · intro u W hS hp
        exact step_on (wanted_free rfl) (ext_val hS (run_mv rfl ((eval_out rfl).trans rfl)) rfl)
      refine steps_cons ?_ ?_
      · intro u W hS hp
        obtain ⟨q0, _⟩ := hp
        have p23 : u 23 = .slice (some ⟨b, o, none⟩) 11 cap := q0
        exact step_on (wanted_free rfl) (ext_val hS (run_ia rfl ((eval_in rfl hN rfl).trans p23) rfl (idx29 (by decide))) rfl)
      refine steps_cons ?_ ?_
      · intro u W hS hp
        obtain ⟨q0, _⟩ := hp
        have p24 : u 24 = .pointer (some ⟨b, o + 3, none⟩) := q0
        exact step_on (wanted_free rfl) (ext_val hS (run_ld rfl ((eval_in rfl hN rfl).trans p24) (ld_u8 (hS.c 3 ln rfl))) rfl)
      refine steps_cons ?_ ?_
      · intro u W hS hp
        exact step_on (wanted_free rfl) (ext_val hS (run_mv rfl ((eval_out rfl).trans rfl)) rfl)
      refine steps_cons ?_ ?_
      · intro u W hS hp
        obtain ⟨q0, _⟩ := hp
        have p26 : u 26 = .slice (some ⟨b, o, none⟩) 11 cap := q0
        exact step_on (wanted_free rfl) (ext_val hS (run_ia rfl ((eval_in rfl hN rfl).trans p26) rfl (idx29 (by decide))) rfl)
      refine steps_cons ?_ ?_
      · intro u W hS hp
        obtain ⟨q0, _⟩ := hp
        have p27 : u 27 = .pointer (some ⟨b, o + 4, none⟩) := q0
        exact step_on (wanted_free rfl) (ext_val hS (run_ld rfl ((eval_in rfl hN rfl).trans p27) (ld_u8 (hS.c 4 a rfl))) rfl)
      refine steps_cons ?_ ?_
      · intro u W hS hp
        exact step_on (wanted_free rfl) (ext_val hS (run_mv rfl ((eval_out rfl).trans rfl)) rfl)
      refine steps_cons ?_ ?_
      · intro u W hS hp
        obtain ⟨q0, _⟩ := hp
        have p29 : u 29 = .slice (some ⟨b, o, none⟩) 11 cap := q0
        exact step_on (wanted_free rfl) (ext_val hS (run_ia rfl ((eval_in rfl hN rfl).trans p29) rfl (idx29 (by decide))) rfl)
      refine steps_cons ?_ ?_
      · intro u W hS hp
        obtain ⟨q0, _⟩ := hp
        have p30 : u 30 = .pointer (some ⟨b, o + 5, none⟩) := q0
        exact step_on (wanted_free rfl) (ext_val hS (run_ld rfl ((eval_in rfl hN rfl).trans p30) (ld_u8 (hS.c 5 c rfl))) rfl)
      refine steps_cons ?_ ?_
      · intro u W hS hp
        exact step_on (wanted_free rfl) (ext_val hS (run_mv rfl ((eval_out rfl).trans rfl)) rfl)
      refine steps_cons ?_ ?_
      · intro u W hS hp
        obtain ⟨q0, _⟩ := hp
        have p32 : u 32 = .slice (some ⟨b, o, none⟩) 11 cap := q0
        exact step_on (wanted_free rfl) (ext_val hS (run_ia rfl ((eval_in rfl hN rfl).trans p32) rfl (idx29 (by decide))) rfl)
      refine steps_cons ?_ ?_
      · intro u W hS hp
        obtain ⟨q0, _⟩ := hp
        have p33 : u 33 = .pointer (some ⟨b, o + 6, none⟩) := q0
        exact step_on (wanted_free rfl) (ext_val hS (run_ld rfl ((eval_in rfl hN rfl).trans p33) (ld_u8 (hS.c 6 x rfl))) rfl)
      refine steps_cons ?_ ?_
      · intro u W hS hp
        obtain ⟨q0, _⟩ := hp
        have p34 : u 34 = .int .u8 x.toNat := q0
        exact step_on (wanted_free rfl) (ext_val hS (run_bin rfl ((eval_in rfl hN rfl).trans p34) rfl rfl (i_eql hq)) rfl)
      refine steps_cons ?_ ?_
      · intro u W hS hp
        exact step_on (wanted_free rfl) (ext_val hS (run_mv rfl ((eval_out rfl).trans rfl)) rfl)
      refine steps_cons ?_ ?_
      · intro u W hS hp
        obtain ⟨q0, _⟩ := hp
        have p36 : u 36 = .slice (some ⟨b, o, none⟩) 11 cap := q0
        exact step_on (wanted_free rfl) (ext_val hS (run_ia rfl ((eval_in rfl hN rfl).trans p36) rfl (idx29 (by decide))) rfl)
      refine steps_cons ?_ ?_
      · intro u W hS hp
        obtain ⟨q0, _⟩ := hp
        have p37 : u 37 = .pointer (some ⟨b, o + 7, none⟩) := q0
        exact step_on (wanted_free rfl) (ext_val hS (run_ld rfl ((eval_in rfl hN rfl).trans p37) (ld_u8 (hS.c 7 d0 rfl))) rfl)
      refine steps_cons ?_ ?_
      · intro u W hS hp
        exact step_on (wanted_free rfl) (ext_val hS (run_mv rfl ((eval_out rfl).trans rfl)) rfl)
      refine steps_cons ?_ ?_
      · intro u W hS hp
        obtain ⟨q0, _⟩ := hp
        have p39 : u 39 = .slice (some ⟨b, o, none⟩) 11 cap := q0
        exact step_on (wanted_free rfl) (ext_val hS (run_ia rfl ((eval_in rfl hN rfl).trans p39) rfl (idx29 (by decide))) rfl)
      refine steps_cons ?_ ?_
      · intro u W hS hp
        obtain ⟨q0, _⟩ := hp
        have p40 : u 40 = .pointer (some ⟨b, o + 8, none⟩) := q0
        exact step_on (wanted_free rfl) (ext_val hS (run_ld rfl ((eval_in rfl hN rfl).trans p40) (ld_u8 (hS.c 8 d1 rfl))) rfl)
      refine steps_cons ?_ ?_
      · intro u W hS hp
        exact step_on (wanted_free rfl) (ext_val hS (run_mv rfl ((eval_out rfl).trans rfl)) rfl)
      refine steps_cons ?_ ?_
      · intro u W hS hp
        obtain ⟨q0, _⟩ := hp
        have p42 : u 42 = .slice (some ⟨b, o, none⟩) 11 cap := q0
        exact step_on (wanted_free rfl) (ext_val hS (run_ia rfl ((eval_in rfl hN rfl).trans p42) rfl (idx29 (by decide))) rfl)
      refine steps_cons ?_ ?_
      · intro u W hS hp
        obtain ⟨q0, _⟩ := hp
        have p43 : u 43 = .pointer (some ⟨b, o + 9, none⟩) := q0
        exact step_on (wanted_free rfl) (ext_val hS (run_ld rfl ((eval_in rfl hN rfl).trans p43) (ld_u8 (hS.c 9 d2 rfl))) rfl)
      refine steps_cons ?_ ?_
      · intro u W hS hp
        exact step_on (wanted_free rfl) (ext_val hS (run_mv rfl ((eval_out rfl).trans rfl)) rfl)
      refine steps_cons ?_ ?_
      · intro u W hS hp
        obtain ⟨q0, _⟩ := hp
        have p45 : u 45 = .slice (some ⟨b, o, none⟩) 11 cap := q0
        exact step_on (wanted_free rfl) (ext_val hS (run_ia rfl ((eval_in rfl hN rfl).trans p45) rfl (idx29 (by decide))) rfl)
      refine steps_cons ?_ ?_
      · intro u W hS hp
        obtain ⟨q0, _⟩ := hp
        have p46 : u 46 = .pointer (some ⟨b, o + 10, none⟩) := q0
        exact step_on (wanted_free rfl) (ext_val hS (run_ld rfl ((eval_in rfl hN rfl).trans p46) (ld_u8 (hS.c 10 d3 rfl))) rfl)
      refine steps_cons ?_ ?_
      · intro u W hS hp
        obtain ⟨q0, q1, q2, q3, _⟩ := hp
        have p38 : u 38 = .int .u8 d0.toNat := q0
        have p41 : u 41 = .int .u8 d1.toNat := q1
        have p44 : u 44 = .int .u8 d2.toNat := q2
        have p47 : u 47 = .int .u8 d3.toNat := q3
        exact step_on (wanted_free rfl) (ext_val hS (run_bld4 rfl ((eval_in rfl hN rfl).trans p38) ((eval_in rfl hN rfl).trans p41) ((eval_in rfl hN rfl).trans p44) ((eval_in rfl hN rfl).trans p47) (bld_data _ _ _ _ W)) rfl)
      refine steps_cons ?_ ?_
      · intro u W hS hp
        obtain ⟨q0, q1, q2, q3, q4, q5, q6, q7, _⟩ := hp
        have p16 : u 16 = .int .u8 k.toNat := q0
        have p19 : u 19 = .int .u8 f.toNat := q1
        have p22 : u 22 = .int .u8 t.toNat := q2
        have p25 : u 25 = .int .u8 ln.toNat := q3
        have p28 : u 28 = .int .u8 a.toNat := q4
        have p31 : u 31 = .int .u8 c.toNat := q5
        have p35 : u 35 = .bool q := q6
        have p48 : u 48 = .agg #[.int .u8 d0.toNat, .int .u8 d1.toNat, .int .u8 d2.toNat, .int .u8 d3.toNat] := q7
        exact step_on (wanted_free rfl) (ext_val hS (run_bld8 rfl ((eval_in rfl hN rfl).trans p16) ((eval_in rfl hN rfl).trans p19) ((eval_in rfl hN rfl).trans p22) ((eval_in rfl hN rfl).trans p25) ((eval_in rfl hN rfl).trans p28) ((eval_in rfl hN rfl).trans p31) ((eval_in rfl hN rfl).trans p35) ((eval_in rfl hN rfl).trans p48) (bld_msg (⟨k, f, t, ln, a, c, q, d0, d1, d2, d3⟩ : Mg) W)) rfl)
      exact steps_nil
    · obtain ⟨q0, q1, q2, q3, q4, q5, q6, q7, q8, q9, q10, q11, q12, q13, q14, q15, q16, q17, q18, q19, q20, q21, q22, q23, q24, q25, q26, q27, q28, q29, q30, q31, q32, q33, q34, q35, _⟩ := hF
      have p14 : u 14 = .slice (some ⟨b, o, none⟩) 11 cap := q0
      have p15 : u 15 = .pointer (some ⟨b, o + 0, none⟩) := q1
      have p16 : u 16 = .int .u8 k.toNat := q2
      have p17 : u 17 = .slice (some ⟨b, o, none⟩) 11 cap := q3
      have p18 : u 18 = .pointer (some ⟨b, o + 1, none⟩) := q4
      have p19 : u 19 = .int .u8 f.toNat := q5
      have p20 : u 20 = .slice (some ⟨b, o, none⟩) 11 cap := q6
      have p21 : u 21 = .pointer (some ⟨b, o + 2, none⟩) := q7
      have p22 : u 22 = .int .u8 t.toNat := q8
      have p23 : u 23 = .slice (some ⟨b, o, none⟩) 11 cap := q9
      have p24 : u 24 = .pointer (some ⟨b, o + 3, none⟩) := q10
      have p25 : u 25 = .int .u8 ln.toNat := q11
      have p26 : u 26 = .slice (some ⟨b, o, none⟩) 11 cap := q12
      have p27 : u 27 = .pointer (some ⟨b, o + 4, none⟩) := q13
      have p28 : u 28 = .int .u8 a.toNat := q14
      have p29 : u 29 = .slice (some ⟨b, o, none⟩) 11 cap := q15
      have p30 : u 30 = .pointer (some ⟨b, o + 5, none⟩) := q16
      have p31 : u 31 = .int .u8 c.toNat := q17
      have p32 : u 32 = .slice (some ⟨b, o, none⟩) 11 cap := q18
      have p33 : u 33 = .pointer (some ⟨b, o + 6, none⟩) := q19
      have p34 : u 34 = .int .u8 x.toNat := q20
      have p35 : u 35 = .bool q := q21
      have p36 : u 36 = .slice (some ⟨b, o, none⟩) 11 cap := q22
      have p37 : u 37 = .pointer (some ⟨b, o + 7, none⟩) := q23
      have p38 : u 38 = .int .u8 d0.toNat := q24
      have p39 : u 39 = .slice (some ⟨b, o, none⟩) 11 cap := q25
      have p40 : u 40 = .pointer (some ⟨b, o + 8, none⟩) := q26
      have p41 : u 41 = .int .u8 d1.toNat := q27
      have p42 : u 42 = .slice (some ⟨b, o, none⟩) 11 cap := q28
      have p43 : u 43 = .pointer (some ⟨b, o + 9, none⟩) := q29
      have p44 : u 44 = .int .u8 d2.toNat := q30
      have p45 : u 45 = .slice (some ⟨b, o, none⟩) 11 cap := q31
      have p46 : u 46 = .pointer (some ⟨b, o + 10, none⟩) := q32
      have p47 : u 47 = .int .u8 d3.toNat := q33
      have p48 : u 48 = .agg #[.int .u8 d0.toNat, .int .u8 d1.toNat, .int .u8 d2.toNat, .int .u8 d3.toNat] := q34
      have p49 : u 49 = .agg (boxOf (⟨k, f, t, ln, a, c, q, d0, d1, d2, d3⟩ : Mg)) := q35
      show wpList _ _ _ [_, _] _ _
      simp only [frm, frmL, Nat.reduceAdd, p14, p15, p16, p17, p18, p19, p20, p21, p22, p23, p24, p25, p26, p27, p28, p29, p30, p31, p32, p33, p34, p35, p36, p37, p38, p39, p40, p41, p42, p43, p44, p45, p46, p47, p48, p49]
      clear p14 p15 p16 p17 p18 p19 p20 p21 p22 p23 p24 p25 p26 p27 p28 p29 p30 p31 p32 p33 p34 p35 p36 p37 p38 p39 p40 p41 p42 p43 p44 p45 p46 p47 p48 p49
      rw [hbm.out]
      have HS := Lib.hid hS
      have hlt := blk_lt hS.r
      clear hS hq hB hR0
      go_wp2_with (first | (refine wpl_store rfl 27 (.tmp 2) (.tmp 49) rfl w.heap.size _ (boxOf m) rfl rfl HS.out.r rfl msgSize (box_one m) ?_; intro w4 ho4 hn4) | fail)
      exact bodyPost_ret (v := .tuple #[m.val, .bool true]) (results26_run _ _ w.heap.size m true rfl rfl hn4) rfl ⟨by rw [HR.out], HS.out.bl.trans (ho4.below (Nat.le_refl _))⟩
  · have q1 : decide ((1 : Int) < (x.toNat : Int)) = true := by simp; omega
    have HR : Hid (readOf [k, f, t, ln, a, c, x, d0, d1, d2, d3] = (zeroM, false)) := by
      show _ = _
      unfold readOf
      have h0 : ¬ x = 0 := fun h => by rw [h] at hx1; exact hx1 (by decide)
      have h1 : ¬ x = 1 := fun h => by rw [h] at hx1; exact hx1 (by decide)
      simp only [h0, h1, if_false]
    clear hx1
    go_enter Tryz.func32, Tryz.ntmps32
    go_wp2
    exact bodyPost_ret (v := .tuple #[zeroM.val, .bool false]) (results26_run _ _ w.heap.size zeroM false rfl rfl (heap_alloc_new w (.cells (boxOf zeroM) 27))) rfl ⟨by rw [HR.out], (Below.refl _ w).alloc (Nat.le_refl _) _⟩
/-- The reference's Read, for every slice of bytes. -/
theorem rread_any (v : Value) (l : List UInt8) (hl : l.length < 9223372036854775808) (W : World) (hv : Bts W v l) : Calls Tryz.prog 32 #[v] W fun e w' => e = .returned (.tuple #[(readOf l).1.val, .bool (readOf l).2]) ∧ Below W.heap.size W w' := by
  obtain ⟨A, cap, rfl, hc, hB⟩ := hv
  by_cases h : l.length = 11
  · obtain ⟨b, o, rfl, hB2⟩ := hB (by omega)
    obtain ⟨k, f, t, ln, a, c, x, d0, d1, d2, d3, rfl⟩ := list11 h
    exact rread_full b o cap k f t ln a c x d0 d1 d2 d3 W (Lib.hid hB2)
  · rw [readOf_short h]
    exact rread_short A l.length cap hl (by omega) W
end Go.Proofs.YthllacodjeocmaaGreatDoor
