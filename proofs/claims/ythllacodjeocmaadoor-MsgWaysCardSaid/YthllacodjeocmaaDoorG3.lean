/- MsgOnly, walked. -/
import Derived.Test.YthllacodjeocmaaDoorG2
namespace Go.Proofs.YthllacodjeocmaaDoor
open Go.RowKit
attribute [local go_sem] Oper.semAt_some
theorem nm14 : (Tryd.f14.name == "runtime.NumGoroutine") = false := by kernel_rfl
theorem bd14 : Tryd.f14.body.isNone = false := by kernel_rfl
theorem bts_form {W : World} {v : Value} {l : List UInt8} (h : Bts W v l) : ∃ A cap, v = .slice A l.length cap := by
  obtain ⟨A, cap, e, _⟩ := h
  exact ⟨A, cap, e⟩
theorem conv_empty (A : Option Addr) (cap : Nat) (W : World) : Sem.run Tryd.prog (convert 29 9 (.slice A 0 cap)) W = .ok (.string ⟨#[]⟩) W := by
  cases A <;> kernel_rfl
theorem bts_str {W : World} {v : Value} {l : List UInt8} (h : Bts W v l) : Sem.run Tryd.prog (convert 29 9 v) W = .ok (.string ⟨l.toArray⟩) W := by
  obtain ⟨A, cap, rfl, _, hB⟩ := h
  by_cases h0 : 0 < l.length
  · obtain ⟨b, o, rfl, h⟩ := hB h0
    exact bytesO_str h rfl
  · have : l = [] := List.eq_nil_of_length_eq_zero (by omega)
    subst this
    exact conv_empty A cap W
theorem eg25 (op : BinOp) (x y : Operand) (A B : Array Value) (W : World) : (eqGuard op 25 x y (.agg A) (.agg B)).run Tryd.prog W = .ok () W := by
  have h : Tryd.prog.eqGuardType Tryd.prog.depth 25 = false := by kernel_rfl
  cases op <;> simp [eqGuard, go_sem, h]
theorem eql25 (m o : Mg) (W : World) : (binOp .eql 25 (.agg (boxOf m)) (.agg (boxOf o))).run Tryd.prog W = .ok (.bool (m.eqB o)) W := by
  have h : Sem.run Tryd.prog (Op.equalIn Op.maxDepth 25 (.agg (boxOf m)) (.agg (boxOf o))) W = .ok (m.eqB o) W := eq_msg W m o
  generalize boxOf m = v at h ⊢
  generalize boxOf o = v' at h ⊢
  simp [binOp, Op.equal, go_sem, h]
theorem neq25 (m o : Mg) (W : World) : (binOp .neq 25 (.agg (boxOf m)) (.agg (boxOf o))).run Tryd.prog W = .ok (.bool (!m.eqB o)) W := by
  have h : Sem.run Tryd.prog (Op.equalIn Op.maxDepth 25 (.agg (boxOf m)) (.agg (boxOf o))) W = .ok (m.eqB o) W := eq_msg W m o
  generalize boxOf m = v at h ⊢
  generalize boxOf o = v' at h ⊢
  simp [binOp, Op.equal, go_sem, h]
theorem ld25 {W : World} {b : Nat} {m : Mg} (h : W.heap[b]? = some (.cells (boxOf m) 25)) : (loadVar 25 ⟨b, 0, none⟩).run Tryd.prog W = .ok (.agg (boxOf m)) W := load_msg W b m h
theorem box_one (m : Mg) : (boxOf m).all (·.oneCell') = true := by unfold boxOf; simp [Value.oneCell']
theorem mo : Tryd.prog.follows .mixedOrders = true := by kernel_rfl
theorem wpl_ld25 {ops : Array Oper} {rest : List Oper} {o : Oper} {a : Act} {W : World} {Q : Exit → Act → World → Prop} (hw : Region.wanted o (yielded ops a.tmps) = true) (x : Operand) (ho : o.op = .load 25 x) (b : Nat) (m : Mg) (hx : a.eval x = .pointer (some ⟨b, 0, none⟩)) (h : W.heap[b]? = some (.cells (boxOf m) 25)) (k : wpList Tryd.prog ops Q rest (a.put o.dst (.agg (boxOf m))) W) : wpList Tryd.prog ops Q (o :: rest) a W := by
  unfold wpList
  rw [if_pos hw]
  exact .inl (wp_load_row 25 x ho b hx 25 (boxOf m) (0, 0) _ h Tryd.underlying25 rfl msgSize k)
theorem eqZ (W : World) : Sem.run Tryd.prog (binOp .eql 25 (.agg (boxOf zeroM)) (.agg #[.int .u8 0, .int .u8 0, .int .u8 0, .int .u8 0, .int .u8 0, .int .u8 0, .bool false, .int .u8 0, .int .u8 0, .int .u8 0, .int .u8 0])) W = .ok (.bool true) W := eql25 zeroM zeroM W
theorem neqS (l : List UInt8) (W : World) : (binOp .neq 9 (.string ⟨l.toArray⟩) (.string ⟨l.toArray⟩)).run Tryd.prog W = .ok (.bool false) W := by
  simp [binOp, Op.stringOp, go_sem]
theorem neqZ (W : World) : (binOp .neq 25 (.agg (boxOf zeroM)) (.agg (boxOf zeroM))).run Tryd.prog W = .ok (.bool false) W := by
  rw [neq25]
  rfl
theorem bld25 (f : Nat × Operand → Nat × Value) (W : World) : (Instr.build 25 (#[].map f)).run Tryd.prog W = .ok (.agg (boxOf zeroM)) W := by kernel_rfl
theorem only_long (b : Value) (l : List UInt8) (s : ByteArray) (w : World) (hG : GlobM w) (hb : Bts w b l) (h : 1000 < l.length ∨ 1000 < s.size) (hl : l.length < 9223372036854775808) (hs : s.size < 9223372036854775808) :
    Calls Tryd.prog 5 #[b, .string s] w fun e w' => e = .returned (.bool true) ∧ Below w.heap.size w w' := by
  obtain ⟨A, cap, rfl⟩ := bts_form hb
  have HS : Hid (St [] w w) := Lib.hid (St.start hG)
  clear hb hG
  by_cases h1 : 1000 < l.length
  · have q1 : decide ((1000 : Int) < (l.length : Int)) = true := by simp; omega
    go_enter Tryd.func5, Tryd.ntmps5
    go_wp2_with fail
    go_at_call 9
    refine (awake_st HS).mono ?_
    rintro e w1 ⟨rfl, HS1⟩
    go_wp2
    go_ret
    exact ⟨rfl, HS1.out.b⟩
  · have q1 : decide ((1000 : Int) < (l.length : Int)) = false := by simp; omega
    have q2 : decide ((1000 : Int) < (s.size : Int)) = true := by simp; omega
    go_enter Tryd.func5, Tryd.ntmps5
    go_wp2_with fail
    go_at_call 9
    refine (awake_st HS).mono ?_
    rintro e w1 ⟨rfl, HS1⟩
    go_wp2
    go_ret
    exact ⟨rfl, HS1.out.b⟩
set_option maxHeartbeats 4000000 in
set_option maxRecDepth 100000 in
theorem only_short (b : Value) (l : List UInt8) (s : ByteArray) (w : World) (hG : GlobM w) (hb : Bts w b l) (hl : l.length ≤ 1000) (hs : s.size ≤ 1000) :
    Calls Tryd.prog 5 #[b, .string s] w fun e w' => e = .returned (.bool true) ∧ Below w.heap.size w w' := by
  have HB := Lib.hid hb
  obtain ⟨A, cap, rfl⟩ := bts_form hb
  have HS : Hid (St [] w w) := Lib.hid (St.start hG)
  have q1 : decide ((1000 : Int) < (l.length : Int)) = false := by simp; omega
  have q2 : decide ((1000 : Int) < (s.size : Int)) = false := by simp; omega
  have RO := Lib.hid (read_only l)
  have PO := Lib.hid (parse_only s)
  have hlr : l.length < 9223372036854775808 := by omega
  have hsr : s.size ≤ 10000 := by omega
  have HR := Lib.hid (fun (W : World) (h : Hid (St [] w W)) => read_st2 (.slice A l.length cap) l hlr (HB.out.below h.out.b) h)
  obtain ⟨m, hm⟩ : ∃ m, (readOf l).1 = m := ⟨_, rfl⟩
  obtain ⟨is, his⟩ : ∃ is, (readOf l).2 = is := ⟨_, rfl⟩
  rw [hm, his] at HR RO
  clear hm his hb hG
  go_enter Tryd.func5, Tryd.ntmps5
  go_wp2_with fail
  go_at_call 9
  refine (awake_st HS).mono ?_
  rintro e w1 ⟨rfl, HS1⟩
  go_wp2_with fail
  go_at_call 12
  refine (HR.out _ HS1).mono ?_
  rintro e w2 ⟨rfl, HS2⟩
  have HS2a := HS2.out.alloc #[.int .u8 0, .int .u8 0, .int .u8 0, .int .u8 0, .int .u8 0, .int .u8 0, .bool false, .int .u8 0, .int .u8 0, .int .u8 0, .int .u8 0] 25
  have hno : ∀ x ∈ ([] : List (Nat × Array Value × TypeId)), x.1 ≠ w2.heap.size := fun x hx => by cases hx
  have h7 : 7 ≤ w2.heap.size := HS2.out.g.g.size
  have HS2b := Lib.hid (fun (w3 : World) (h1 : OnlyC w2.heap.size (w2.alloc (.cells #[.int .u8 0, .int .u8 0, .int .u8 0, .int .u8 0, .int .u8 0, .int .u8 0, .bool false, .int .u8 0, .int .u8 0, .int .u8 0, .int .u8 0] 25)) w3) (h2 : w3.heap[w2.heap.size]? = some (.cells (boxOf m) 25)) => HS2a.only h1 HS2.out.b.size h7 hno h2)
  clear HS2a hno
  go_wp2_with (first | (refine wpl_store rfl 25 (.tmp 5) (.tmp 22) rfl w2.heap.size _ (boxOf m) rfl rfl (heap_alloc_new w2 _) rfl msgSize (box_one m) ?_; intro w3 ho3 hn3; have HS3 := Lib.hid (HS2b.out w3 ho3 hn3); clear ho3 hn3) | fail)
  obtain ⟨pm, hpm⟩ : ∃ pm, (parseOf s).1 = pm := ⟨_, rfl⟩
  obtain ⟨er, her⟩ : ∃ er, (parseOf s).2 = er := ⟨_, rfl⟩
  have HP := Lib.hid (parse_st2 s hsr HS3)
  rw [hpm, her] at HP PO
  clear hpm her
  go_at_call 13
  refine HP.out.mono ?_
  rintro e w4 ⟨rfl, HS4⟩
  have HS4a := HS4.out.alloc #[.int .u8 0, .int .u8 0, .int .u8 0, .int .u8 0, .int .u8 0, .int .u8 0, .bool false, .int .u8 0, .int .u8 0, .int .u8 0, .int .u8 0] 25
  have hlt : w2.heap.size < w4.heap.size := blk_lt (HS4.out.h _ (List.mem_cons_self ..))
  have hno : ∀ x ∈ [(w2.heap.size, boxOf m, 25)], x.1 ≠ w4.heap.size := fun x hx => by rw [List.mem_singleton] at hx; subst hx; show w2.heap.size ≠ _; omega
  have h74 : 7 ≤ w4.heap.size := HS4.out.g.g.size
  have HS4b := Lib.hid (fun (w5 : World) (h1 : OnlyC w4.heap.size (w4.alloc (.cells #[.int .u8 0, .int .u8 0, .int .u8 0, .int .u8 0, .int .u8 0, .int .u8 0, .bool false, .int .u8 0, .int .u8 0, .int .u8 0, .int .u8 0] 25)) w5) (h2 : w5.heap[w4.heap.size]? = some (.cells (boxOf pm) 25)) => HS4a.only h1 HS4.out.b.size h74 hno h2)
  clear HS4a hno HP
  go_wp2_with (first | (refine wpl_store rfl 25 (.tmp 7) (.tmp 27) rfl w4.heap.size _ (boxOf pm) rfl rfl (heap_alloc_new w4 _) rfl msgSize (box_one pm) ?_; intro w5 ho5 hn5; have HS5 := Lib.hid (HS4b.out w5 ho5 hn5); clear ho5 hn5) | fail)
  clear HS4b HS4 HS3 HS2b HS2 HS1 HR q1 q2 hlt h74 h7
  generalize w4.heap.size = b7 at HS5 ⊢
  generalize w2.heap.size = b5 at HS5 ⊢
  have HM := Lib.hid RO.out.1
  cases is
  · have hz := RO.out.2 rfl
    subst hz
    clear HM RO
    refine region_all (D := [false, false, false, false, false, false, false, false, false, false, false, false, false, false, false, false, false, false, false, false, false, false, false, false, false, false, false, false, false, true, true, true, true, true, true, true, true, true, true, true, true, true, true, true, true, true, true]) (S := fun W => St [(b7, boxOf pm, 25), (b5, boxOf zeroM, 25)] w W) (R := RB) (F := FF [isV (.bool false), isV (.bool false), isV undef, isV undef, isV undef, isV undef, isV undef, isV undef, isV (Value.bool false), isV (Value.bool false), isV (.bool false), isV (.bool true), isV (.bool true), isV (.agg (boxOf zeroM)), isV (.agg (boxOf zeroM)), isV (.bool false), isV (.bool false), isV (.bool false)]) rfl mo (by kernel_rfl) (FF_st _ _) HS5.out.drew (fun hN => ?_) (fun u W hS hF => ?_)
    · refine steps_cons ?_ ?_
      · intro u W hS hp
        exact step_on (wanted_free rfl) (ext_val hS (run_mv rfl ((eval_out rfl).trans rfl)) rfl)
      refine steps_cons ?_ ?_
      · intro u W hS hp
        obtain ⟨q0, _⟩ := hp
        have p29 : u 29 = .bool false := q0
        exact step_on (wanted_free rfl) (ext_val hS (run_mv rfl ((eval_in rfl hN rfl).trans p29)) rfl)
      refine steps_cons ?_ ?_
      · intro u W hS hp
        obtain ⟨q0, _⟩ := hp
        have p30 : u 30 = .bool false := q0
        exact step_off (wanted_off rfl rfl rfl hN rfl p30) rfl
      refine steps_cons ?_ ?_
      · intro u W hS hp
        obtain ⟨q0, q1, q2, _⟩ := hp
        have p31 : u 31 = undef := q0
        have p30 : u 30 = .bool false := q1
        exact step_off (wanted_off rfl rfl rfl hN rfl p30) rfl
      refine steps_cons ?_ ?_
      · intro u W hS hp
        obtain ⟨q0, q1, _⟩ := hp
        have p32 : u 32 = undef := q0
        have p30 : u 30 = .bool false := q1
        exact step_off (wanted_off rfl rfl rfl hN rfl p30) rfl
      refine steps_cons ?_ ?_
      · intro u W hS hp
        obtain ⟨q0, _⟩ := hp
        have p30 : u 30 = .bool false := q0
        exact step_off (wanted_off rfl rfl rfl hN rfl p30) rfl
      refine steps_cons ?_ ?_
      · intro u W hS hp
        obtain ⟨q0, q1, _⟩ := hp
        have p34 : u 34 = undef := q0
        have p30 : u 30 = .bool false := q1
        exact step_off (wanted_off rfl rfl rfl hN rfl p30) rfl
      refine steps_cons ?_ ?_
      · intro u W hS hp
        obtain ⟨q0, q1, q2, _⟩ := hp
        have p33 : u 33 = undef := q0
        have p35 : u 35 = undef := q1
        have p30 : u 30 = .bool false := q2
        exact step_off (wanted_off rfl rfl rfl hN rfl p30) rfl
      refine steps_cons ?_ ?_
      · intro u W hS hp
        obtain ⟨q0, q1, _⟩ := hp
        have p30 : u 30 = .bool false := q0
        have p36 : u 36 = undef := q1
        exact step_on (wanted_free rfl) (ext_val hS (run_pickF rfl ((eval_in rfl hN rfl).trans p30) rfl) rfl)
      refine steps_cons ?_ ?_
      · intro u W hS hp
        obtain ⟨q0, q1, _⟩ := hp
        have p37 : u 37 = Value.bool false := q0
        have p32 : u 32 = undef := q1
        exact step_on (wanted_free rfl) (ext_val hS (run_mv rfl ((eval_in rfl hN rfl).trans p37)) rfl)
      refine steps_cons ?_ ?_
      · intro u W hS hp
        obtain ⟨q0, _⟩ := hp
        have p38 : u 38 = Value.bool false := q0
        exact step_on (wanted_on rfl rfl rfl hN rfl p38) (ext_val hS (run_mv rfl ((eval_out rfl).trans rfl)) rfl)
      refine steps_cons ?_ ?_
      · intro u W hS hp
        obtain ⟨q0, q1, _⟩ := hp
        have p39 : u 39 = .bool false := q0
        have p38 : u 38 = Value.bool false := q1
        exact step_on (wanted_on rfl rfl rfl hN rfl p38) (ext_val hS (run_un rfl ((eval_in rfl hN rfl).trans p39) rfl) rfl)
      refine steps_cons ?_ ?_
      · intro u W hS hp
        obtain ⟨q0, q1, q2, _⟩ := hp
        have p40 : u 40 = .bool true := q0
        have p38 : u 38 = Value.bool false := q1
        exact step_on (wanted_on rfl rfl rfl hN rfl p38) (ext_val hS (run_mv rfl ((eval_in rfl hN rfl).trans p40)) rfl)
      refine steps_cons ?_ ?_
      · intro u W hS hp
        obtain ⟨q0, _⟩ := hp
        have p41 : u 41 = .bool true := q0
        exact step_on (wanted_on rfl rfl rfl hN rfl p41) (ext_val hS (run_ld rfl ((eval_out rfl).trans rfl) (ld25 (hS.h (b5, boxOf zeroM, 25) (by simp)))) rfl)
      refine steps_cons ?_ ?_
      · intro u W hS hp
        obtain ⟨q0, _⟩ := hp
        have p41 : u 41 = .bool true := q0
        exact step_on (wanted_on rfl rfl rfl hN rfl p41) (ext_val hS (run_bld rfl (bld25 _ W)) rfl)
      refine steps_cons ?_ ?_
      · intro u W hS hp
        obtain ⟨q0, q1, q2, _⟩ := hp
        have p42 : u 42 = .agg (boxOf zeroM) := q0
        have p43 : u 43 = .agg (boxOf zeroM) := q1
        have p41 : u 41 = .bool true := q2
        exact step_on (wanted_on rfl rfl rfl hN rfl p41) (ext_val hS (run_bin rfl ((eval_in rfl hN rfl).trans p42) ((eval_in rfl hN rfl).trans p43) (eg25 ..) (neqZ W)) rfl)
      refine steps_cons ?_ ?_
      · intro u W hS hp
        obtain ⟨q0, q1, q2, _⟩ := hp
        have p41 : u 41 = .bool true := q0
        have p44 : u 44 = .bool false := q1
        have p38 : u 38 = Value.bool false := q2
        exact step_on (wanted_on rfl rfl rfl hN rfl p38) (ext_val hS (run_pickT rfl ((eval_in rfl hN rfl).trans p41) ((eval_in rfl hN rfl).trans p44)) rfl)
      refine steps_cons ?_ ?_
      · intro u W hS hp
        obtain ⟨q0, q1, _⟩ := hp
        have p38 : u 38 = Value.bool false := q0
        have p45 : u 45 = .bool false := q1
        exact step_on (wanted_free rfl) (ext_val hS (run_pickF rfl ((eval_in rfl hN rfl).trans p38) ((eval_in rfl hN rfl).trans p45)) rfl)
      exact steps_nil
    · obtain ⟨q0, q1, q2, q3, q4, q5, q6, q7, q8, q9, q10, q11, q12, q13, q14, q15, q16, q17, _⟩ := hF
      have p29 : u 29 = .bool false := q0
      have p30 : u 30 = .bool false := q1
      have p31 : u 31 = undef := q2
      have p32 : u 32 = undef := q3
      have p33 : u 33 = undef := q4
      have p34 : u 34 = undef := q5
      have p35 : u 35 = undef := q6
      have p36 : u 36 = undef := q7
      have p37 : u 37 = Value.bool false := q8
      have p38 : u 38 = Value.bool false := q9
      have p39 : u 39 = .bool false := q10
      have p40 : u 40 = .bool true := q11
      have p41 : u 41 = .bool true := q12
      have p42 : u 42 = .agg (boxOf zeroM) := q13
      have p43 : u 43 = .agg (boxOf zeroM) := q14
      have p44 : u 44 = .bool false := q15
      have p45 : u 45 = .bool false := q16
      have p46 : u 46 = .bool false := q17
      simp only [frm, frmL, Nat.reduceAdd, p29, p30, p31, p32, p33, p34, p35, p36, p37, p38, p39, p40, p41, p42, p43, p44, p45, p46]
      clear p29 p30 p31 p32 p33 p34 p35 p36 p37 p38 p39 p40 p41 p42 p43 p44 p45 p46
      by_cases he : er = 0
      · obtain rfl : textS pm = s := PO.out.1 he
        have q8 : (er != 0) = false := by rw [bne_eq_false_iff_eq]; exact he
        have HS6 := Lib.hid hS
        clear PO he hS
        go_wp2_with (first | (refine wpl_ld25 rfl (.tmp 7) rfl b7 pm rfl (HS6.out.h (b7, boxOf pm, 25) (by simp)) ?_) | (go_at_call 15; refine (text_st2 pm HS6).mono ?_; rintro e w7 ⟨rfl, HS7⟩) | fail)
        go_ret
        exact ⟨rfl, HS7.out.b⟩
      · obtain ⟨rfl, rfl⟩ := PO.out.2 he
        have HS6 := Lib.hid hS
        clear PO he hS
        go_wp2_with (first | (refine wpl_ld25 rfl (.tmp 7) rfl b7 zeroM rfl (HS6.out.h (b7, boxOf zeroM, 25) (by simp)) ?_) | (refine wpl_val rfl (run_bin (op := .eql) (T := 25) (x := .tmp 52) (y := .tmp 53) rfl rfl rfl (eg25 ..) (eqZ W)) ?_) | fail)
        go_ret
        exact ⟨rfl, HS6.out.b⟩
  · have HM := Lib.hid (RO.out.1 rfl)
    clear RO
    refine region_all (D := [false, false, false, false, false, false, false, false, false, false, false, false, false, false, false, false, false, false, false, false, false, false, false, false, false, false, false, false, false, true, true, true, true, true, true, true, true, true, true, true, true, true, true, true, true, true, true]) (S := fun W => St [(b7, boxOf pm, 25), (b5, boxOf m, 25)] w W) (R := RB) (F := FF [isV (.bool true), isV (.bool true), isV (.agg (boxOf m)), bytesF (bytesOf m), isV (.string ⟨l.toArray⟩), isV (.slice A l.length cap), isV (.string ⟨l.toArray⟩), isV (.bool false), isV (.bool false), isV (.bool false), isV (.bool true), isV (.bool false), isV (.bool false), isV undef, isV undef, isV undef, isV (Value.bool false), isV (Value.bool false)]) rfl mo (by kernel_rfl) (FF_st _ _) HS5.out.drew (fun hN => ?_) (fun u W hS hF => ?_)
    · refine steps_cons ?_ ?_
      · intro u W hS hp
        exact step_on (wanted_free rfl) (ext_val hS (run_mv rfl ((eval_out rfl).trans rfl)) rfl)
      refine steps_cons ?_ ?_
      · intro u W hS hp
        obtain ⟨q0, _⟩ := hp
        have p29 : u 29 = .bool true := q0
        exact step_on (wanted_free rfl) (ext_val hS (run_mv rfl ((eval_in rfl hN rfl).trans p29)) rfl)
      refine steps_cons ?_ ?_
      · intro u W hS hp
        obtain ⟨q0, _⟩ := hp
        have p30 : u 30 = .bool true := q0
        exact step_on (wanted_on rfl rfl rfl hN rfl p30) (ext_val hS (run_ld rfl ((eval_out rfl).trans rfl) (ld25 (hS.h (b5, boxOf m, 25) (by simp)))) rfl)
      refine steps_cons ?_ ?_
      · intro u W hS hp
        obtain ⟨q0, q1, q2, _⟩ := hp
        have p31 : u 31 = .agg (boxOf m) := q0
        have p30 : u 30 = .bool true := q1
        exact step_on (wanted_on rfl rfl rfl hN rfl p30) (ext_call (run_call rfl rfl (map1 ((eval_in rfl hN rfl).trans p31)) Tryd.func14 nm14 bd14) ((bytes_any m W).mono fun _ _ ⟨g, cp, e, hA, hb⟩ => ⟨_, e, ⟨g, cp, rfl, hA⟩, hS.next hb, hb⟩))
      refine steps_cons ?_ ?_
      · intro u W hS hp
        obtain ⟨q0, q1, _⟩ := hp
        obtain ⟨gg, cg, p32, hA32⟩ := q0
        have p30 : u 30 = .bool true := q1
        exact step_on (wanted_on rfl rfl rfl hN rfl p30) (ext_val hS (run_conv rfl ((eval_in rfl hN rfl).trans p32) (by have h := bytes_str (c := cg) (n := 11) hA32 rfl; rw [HM.out] at h; exact h)) rfl)
      refine steps_cons ?_ ?_
      · intro u W hS hp
        obtain ⟨q0, _⟩ := hp
        have p30 : u 30 = .bool true := q0
        exact step_on (wanted_on rfl rfl rfl hN rfl p30) (ext_val hS (run_mv rfl ((eval_out rfl).trans rfl)) rfl)
      refine steps_cons ?_ ?_
      · intro u W hS hp
        obtain ⟨q0, q1, _⟩ := hp
        have p34 : u 34 = .slice A l.length cap := q0
        have p30 : u 30 = .bool true := q1
        exact step_on (wanted_on rfl rfl rfl hN rfl p30) (ext_val hS (run_conv rfl ((eval_in rfl hN rfl).trans p34) (bts_str (HB.out.below hS.b))) rfl)
      refine steps_cons ?_ ?_
      · intro u W hS hp
        obtain ⟨q0, q1, q2, _⟩ := hp
        have p33 : u 33 = .string ⟨l.toArray⟩ := q0
        have p35 : u 35 = .string ⟨l.toArray⟩ := q1
        have p30 : u 30 = .bool true := q2
        exact step_on (wanted_on rfl rfl rfl hN rfl p30) (ext_val hS (run_bin rfl ((eval_in rfl hN rfl).trans p33) ((eval_in rfl hN rfl).trans p35) rfl (neqS l W)) rfl)
      refine steps_cons ?_ ?_
      · intro u W hS hp
        obtain ⟨q0, q1, _⟩ := hp
        have p30 : u 30 = .bool true := q0
        have p36 : u 36 = .bool false := q1
        exact step_on (wanted_free rfl) (ext_val hS (run_pickT rfl ((eval_in rfl hN rfl).trans p30) ((eval_in rfl hN rfl).trans p36)) rfl)
      refine steps_cons ?_ ?_
      · intro u W hS hp
        obtain ⟨q0, q1, _⟩ := hp
        have p37 : u 37 = .bool false := q0
        obtain ⟨gg, cg, p32, hA32⟩ := q1
        exact step_on (wanted_free rfl) (ext_val hS (run_mv rfl ((eval_in rfl hN rfl).trans p37)) rfl)
      refine steps_cons ?_ ?_
      · intro u W hS hp
        obtain ⟨q0, _⟩ := hp
        have p38 : u 38 = .bool false := q0
        exact step_on (wanted_on rfl rfl rfl hN rfl p38) (ext_val hS (run_mv rfl ((eval_out rfl).trans rfl)) rfl)
      refine steps_cons ?_ ?_
      · intro u W hS hp
        obtain ⟨q0, q1, _⟩ := hp
        have p39 : u 39 = .bool true := q0
        have p38 : u 38 = .bool false := q1
        exact step_on (wanted_on rfl rfl rfl hN rfl p38) (ext_val hS (run_un rfl ((eval_in rfl hN rfl).trans p39) rfl) rfl)
      refine steps_cons ?_ ?_
      · intro u W hS hp
        obtain ⟨q0, q1, q2, _⟩ := hp
        have p40 : u 40 = .bool false := q0
        have p38 : u 38 = .bool false := q1
        exact step_on (wanted_on rfl rfl rfl hN rfl p38) (ext_val hS (run_mv rfl ((eval_in rfl hN rfl).trans p40)) rfl)
      refine steps_cons ?_ ?_
      · intro u W hS hp
        obtain ⟨q0, _⟩ := hp
        have p41 : u 41 = .bool false := q0
        exact step_off (wanted_off rfl rfl rfl hN rfl p41) rfl
      refine steps_cons ?_ ?_
      · intro u W hS hp
        obtain ⟨q0, _⟩ := hp
        have p41 : u 41 = .bool false := q0
        exact step_off (wanted_off rfl rfl rfl hN rfl p41) rfl
      refine steps_cons ?_ ?_
      · intro u W hS hp
        obtain ⟨q0, q1, q2, _⟩ := hp
        have p42 : u 42 = undef := q0
        have p43 : u 43 = undef := q1
        have p41 : u 41 = .bool false := q2
        exact step_off (wanted_off rfl rfl rfl hN rfl p41) rfl
      refine steps_cons ?_ ?_
      · intro u W hS hp
        obtain ⟨q0, q1, q2, _⟩ := hp
        have p41 : u 41 = .bool false := q0
        have p44 : u 44 = undef := q1
        have p38 : u 38 = .bool false := q2
        exact step_on (wanted_on rfl rfl rfl hN rfl p38) (ext_val hS (run_pickF rfl ((eval_in rfl hN rfl).trans p41) rfl) rfl)
      refine steps_cons ?_ ?_
      · intro u W hS hp
        obtain ⟨q0, q1, _⟩ := hp
        have p38 : u 38 = .bool false := q0
        have p45 : u 45 = Value.bool false := q1
        exact step_on (wanted_free rfl) (ext_val hS (run_pickF rfl ((eval_in rfl hN rfl).trans p38) ((eval_in rfl hN rfl).trans p45)) rfl)
      exact steps_nil
    · obtain ⟨q0, q1, q2, q3, q4, q5, q6, q7, q8, q9, q10, q11, q12, q13, q14, q15, q16, q17, _⟩ := hF
      have p29 : u 29 = .bool true := q0
      have p30 : u 30 = .bool true := q1
      have p31 : u 31 = .agg (boxOf m) := q2
      obtain ⟨gg, cg, p32, hA32⟩ := q3
      have p33 : u 33 = .string ⟨l.toArray⟩ := q4
      have p34 : u 34 = .slice A l.length cap := q5
      have p35 : u 35 = .string ⟨l.toArray⟩ := q6
      have p36 : u 36 = .bool false := q7
      have p37 : u 37 = .bool false := q8
      have p38 : u 38 = .bool false := q9
      have p39 : u 39 = .bool true := q10
      have p40 : u 40 = .bool false := q11
      have p41 : u 41 = .bool false := q12
      have p42 : u 42 = undef := q13
      have p43 : u 43 = undef := q14
      have p44 : u 44 = undef := q15
      have p45 : u 45 = Value.bool false := q16
      have p46 : u 46 = Value.bool false := q17
      simp only [frm, frmL, Nat.reduceAdd, p29, p30, p31, p32, p33, p34, p35, p36, p37, p38, p39, p40, p41, p42, p43, p44, p45, p46]
      clear p29 p30 p31 p32 p33 p34 p35 p36 p37 p38 p39 p40 p41 p42 p43 p44 p45 p46
      by_cases he : er = 0
      · obtain rfl : textS pm = s := PO.out.1 he
        have q8 : (er != 0) = false := by rw [bne_eq_false_iff_eq]; exact he
        have HS6 := Lib.hid hS
        clear PO he hS
        go_wp2_with (first | (refine wpl_ld25 rfl (.tmp 7) rfl b7 pm rfl (HS6.out.h (b7, boxOf pm, 25) (by simp)) ?_) | (go_at_call 15; refine (text_st2 pm HS6).mono ?_; rintro e w7 ⟨rfl, HS7⟩) | fail)
        go_ret
        exact ⟨rfl, HS7.out.b⟩
      · obtain ⟨rfl, rfl⟩ := PO.out.2 he
        have HS6 := Lib.hid hS
        clear PO he hS
        go_wp2_with (first | (refine wpl_ld25 rfl (.tmp 7) rfl b7 zeroM rfl (HS6.out.h (b7, boxOf zeroM, 25) (by simp)) ?_) | (refine wpl_val rfl (run_bin (op := .eql) (T := 25) (x := .tmp 52) (y := .tmp 53) rfl rfl rfl (eg25 ..) (eqZ W)) ?_) | fail)
        go_ret
        exact ⟨rfl, HS6.out.b⟩
theorem msgOnly_any (b : Value) (l : List UInt8) (s : ByteArray) (w : World) (hG : GlobM w) (hb : Bts w b l) (hl : l.length ≤ maxLen) (hs : s.size ≤ maxLen) :
    Calls Tryd.prog 5 #[b, .string s] w fun e w' => e = .returned (.bool true) ∧ Below w.heap.size w w' := by
  unfold maxLen at hl hs
  by_cases h : l.length ≤ 1000 ∧ s.size ≤ 1000
  · exact only_short b l s w hG hb h.1 h.2
  · exact only_long b l s w hG hb (by omega) (by omega) (by omega)
end Go.Proofs.YthllacodjeocmaaDoor
