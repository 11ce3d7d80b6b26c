/- The reference's text, walked. -/
import Derived.Test.YthllacodjeocmaaGreatDoorT3
import Derived.Test.YthllacodjeocmaaGreatDoorB1
namespace Go.Proofs.YthllacodjeocmaaGreatDoor
open Go.RowKit
attribute [local go_sem] Oper.semAt_some
/-- A string that is these words, joined. -/
def Jn (ws : List (List UInt8)) (n : Nat) (v : Value) : Prop := ∃ s : ByteArray, v = .string s ∧ Hid (s.data.toList = Lib.join ws [32]) ∧ s.size ≤ n
theorem Jn.of {ws : List (List UInt8)} {n : Nat} {s : ByteArray} (h : s.data.toList = Lib.join ws [32]) (hn : s.size ≤ n) : Jn ws n (.string s) := ⟨s, rfl, h, hn⟩
theorem wpl_box {P : Program} {ops : Array Oper} {rest : List Oper} {o : Oper} {a : Act} {W : World} {Q : Exit → Act → World → Prop} (hgd : o.guard = none) (T : TypeId) (x : Operand) (ho : o.op = .box T x) (C : Array Value) (hx : a.eval x = .agg C)
    (k : ∀ W', Hid (W' = W.alloc (.cells C T)) → wpList P ops Q rest (a.put o.dst (.pointer (some ⟨W.heap.size, 0, none⟩))) W') : wpList P ops Q (o :: rest) a W :=
  wpList_plain hgd fun K hK => by
    unfold Oper.wp execOp
    simp only [ho, hx]
    refine (show K _ _ from hK _ _ (k _ (Lib.hid rfl)))
theorem kcell {bs : List (Nat × Array Value × TypeId)} {w W : World} {b : Nat} {m : Mg} (h : Hid (St bs w W)) (hm : (b, boxOf m, 27) ∈ bs) (i : Nat) : W.cell? ⟨b, i, none⟩ = (boxOf m)[i]? := cell_of_heap (h.out.h _ hm)
def kindB : ByteArray := ⟨#[107, 105, 110, 100, 32]⟩
theorem sizes (a b : ByteArray) : (a ++ b).size = a.size + b.size := ByteArray.size_append
theorem dsz (n : UInt8) : (decS n).size ≤ 3 := dec_size n
theorem lit_size (l : Array UInt8) : (⟨l⟩ : ByteArray).size = l.size := rfl
theorem name_size : ∀ k : Fin 13, (nameOf k.val).size ≤ 7 := by decide +kernel
def spB : ByteArray := ⟨#[32]⟩
theorem spB_size : spB.size = 1 := rfl
def gtB : ByteArray := ⟨#[62]⟩
theorem gtB_size : gtB.size = 1 := rfl
def lineB : ByteArray := ⟨#[32, 108, 105, 110, 101, 32]⟩
theorem lineB_size : lineB.size = 6 := rfl
def askerB : ByteArray := ⟨#[32, 97, 115, 107, 101, 114, 32]⟩
theorem askerB_size : askerB.size = 7 := rfl
def acksB : ByteArray := ⟨#[32, 97, 99, 107, 115, 32]⟩
theorem acksB_size : acksB.size = 6 := rfl
def aloneB : ByteArray := ⟨#[32, 97, 108, 111, 110, 101]⟩
theorem aloneB_size : aloneB.size = 6 := rfl
def dataB : ByteArray := ⟨#[32, 100, 97, 116, 97]⟩
theorem dataB_size : dataB.size = 5 := rfl
def NamesPF (i : Nat) : Fact := ⟨fun v W => ∃ g, v = .pointer (some ⟨g, i, none⟩) ∧ W.heap[g]? = some (.cells namesC 9), fun _ _ _ hb ⟨g, e, h⟩ => ⟨g, e, blk_next h hb⟩⟩
theorem npf {g i : Nat} {W : World} (h : W.heap[g]? = some (.cells namesC 9)) : (NamesPF i).p (.pointer (some ⟨g, 0 + i, none⟩)) W := ⟨g, by rw [Nat.zero_add], h⟩
theorem head_ne (k : UInt8) : headW k ≠ [] := by unfold headW; split <;> simp
theorem kind_jn {k : UInt8} (h : knownB k = false) : (kindB ++ decS k).data.toList = Lib.join (headW k) [32] := by
  unfold headW
  rw [h, if_neg (by decide), join_two, Lib.join_one, cat_data]
  rfl
theorem name_jn {k : UInt8} (h : knownB k = true) : (nameOf k.toNat).data.toList = Lib.join (headW k) [32] := by
  unfold headW
  rw [h, if_pos rfl, Lib.join_one]
theorem ft_jn {ws : List (List UInt8)} {s : ByteArray} (f t l : UInt8) (h0 : ws ≠ []) (h : s.data.toList = Lib.join ws [32]) : (s ++ spB ++ decS f ++ gtB ++ decS t ++ lineB ++ decS l).data.toList = Lib.join (ws ++ [dec f ++ [62] ++ dec t, wLine, dec l]) [32] := by
  rw [show ws ++ [dec f ++ [62] ++ dec t, wLine, dec l] = ((ws ++ [dec f ++ [62] ++ dec t]) ++ [wLine]) ++ [dec l] by simp, join_snoc _ _ (by simp), join_snoc _ _ (by simp), join_snoc _ _ h0]
  simp only [cat_data, h]
  show _ ++ [32] ++ dec f ++ [62] ++ dec t ++ (32 :: wLine ++ [32]) ++ dec l = _
  simp
theorem one_jn {ws : List (List UInt8)} {s c : ByteArray} (x : List UInt8) (n : UInt8) (h0 : ws ≠ []) (h : s.data.toList = Lib.join ws [32]) (hc : c.data.toList = 32 :: x ++ [32]) : (s ++ c ++ decS n).data.toList = Lib.join (ws ++ [x, dec n]) [32] := by
  rw [show ws ++ [x, dec n] = (ws ++ [x]) ++ [dec n] by simp, join_snoc _ _ (by simp), join_snoc _ _ h0]
  simp only [cat_data, h, hc]
  show _ ++ _ ++ dec n = _
  simp
theorem lit_jn {ws : List (List UInt8)} {s c : ByteArray} (x : List UInt8) (h0 : ws ≠ []) (h : s.data.toList = Lib.join ws [32]) (hc : c.data.toList = 32 :: x) : (s ++ c).data.toList = Lib.join (ws ++ [x]) [32] := by
  rw [join_snoc _ _ h0]
  simp only [cat_data, h, hc]
theorem num_jn {ws : List (List UInt8)} {s : ByteArray} (n : UInt8) (h0 : ws ≠ []) (h : s.data.toList = Lib.join ws [32]) : (s ++ spB ++ decS n).data.toList = Lib.join (ws ++ [dec n]) [32] := by
  rw [join_snoc _ _ h0]
  simp only [cat_data, h]
  show _ ++ [32] ++ dec n = _
  simp
set_option maxHeartbeats 8000000 in
set_option maxRecDepth 100000 in
theorem text_ref (m : Mg) (w : World) (hG : GlobM w) : Calls Tryz.prog 15 #[.agg (boxOf m)] w fun e w' => e = .returned (.string (textS m)) ∧ Below w.heap.size w w' := by
  have HS0 := Lib.hid ((St.start hG).boxed (boxOf m) rfl)
  have HT := Lib.hid (fun (s : ByteArray) (h : s.data.toList = Lib.join (wordsOf m) [32]) => (list_inj0 h : s = textS m))
  have HW : Hid (wordsOf m = headW m.k ++ [dec m.f ++ [62] ++ dec m.t, wLine, dec m.l] ++ (if m.a.toNat = 0 then [] else [wAsker, dec m.a]) ++ (if m.c.toNat = 0 then [] else [wAcks, dec m.c]) ++ (if m.al = false then [] else [wAlone]) ++
    (if decide (m.d0 = 0 ∧ m.d1 = 0 ∧ m.d2 = 0 ∧ m.d3 = 0) = true then [] else [wData, dec m.d0, dec m.d1, dec m.d2, dec m.d3])) := Lib.hid rfl
  generalize wordsOf m = WS at HT HW
  generalize textS m = TX at HT ⊢
  generalize hbA : w.heap.size = bA at HS0
  clear hG
  go_enter Tryz.func15, Tryz.ntmps15
  go_wp2_with (first | (refine wpl_box rfl 27 (.tmp 0) rfl (boxOf m) rfl ?_; rw [hbA]; intro w0 hw0; have HS := (show Hid (St [(bA, boxOf m, 27)] w w0) from by rw [hw0.out]; exact HS0); clear hw0 HS0; have b0 : w0.cell? ⟨bA, 0, none⟩ = some (.int .u8 m.k.toNat) := kcell HS (by simp) 0) | fail)
  have HBA := Lib.hid hbA
  clear hbA
  have dk := dsz m.k
  have dk2 : ¬ 9223372036854775807 < 5 + (decS m.k).size := by omega
  go_at_call 29
  refine (number_st2 m.k HS).mono ?_
  rintro e w1 ⟨rfl, HS1⟩
  clear HS b0
  have hk256 := m.k.toNat_lt
  obtain ⟨kn, hkn⟩ : ∃ kn, knownB m.k = kn := ⟨_, rfl⟩
  have hs5 : (⟨#[107, 105, 110, 100, 32]⟩ ++ decS m.k).size ≤ 20 := by have h5 : (⟨#[107, 105, 110, 100, 32]⟩ : ByteArray).size = 5 := rfl; rw [sizes, h5]; omega
  have hj0 := kind_jn (k := m.k)
  unfold kindB at hj0
  have HJ0 := Lib.hid hj0
  clear hj0
  go_upto_region 2 with fail
  go_cut [3, 19] (fun s3 s19 wx => s3 = .string (⟨#[107, 105, 110, 100, 32]⟩ ++ decS m.k) ∧ s19 = .bool kn ∧ Hid (St [(bA, boxOf m, 27)] w wx))
  case first =>
    clear dk2 HJ0 hs5
    by_cases h0 : m.k.toNat = 0
    · have hk1 : decide ((1 : Int) ≤ (m.k.toNat : Int)) = false := by simp; omega
      obtain rfl : kn = false := by rw [← hkn]; unfold knownB; simp; omega
      clear hkn
      refine region_all (D := [false, false, false, false, false, false, false, false, false, true, true, true, true, true, true, true, true, true, true, true]) (S := fun W => St [(bA, boxOf m, 27)] w W) (R := RB) (F := FF [isV (.pointer (some ⟨bA, 0, none⟩)), isV (.int .u8 m.k.toNat), isV (.bool false), isV (.bool false), isV undef, isV undef, isV undef, isV undef, isV undef, isV undef, isV (Value.bool false)]) rfl mo (by kernel_rfl) (FF_st _ _) HS1.out.drew (fun hN => ?_) (fun u W hS hF => ?_)
      · refine steps_cons ?_ ?_
        · intro u W hS hp
          exact step_on (wanted_free rfl) (ext_val hS (run_fa rfl ((eval_out rfl).trans rfl) (fa25_0 bA)) rfl)
        refine steps_cons ?_ ?_
        · intro u W hS hp
          obtain ⟨q0, _⟩ := hp
          have p9 : u 9 = .pointer (some ⟨bA, 0, none⟩) := q0
          exact step_on (wanted_free rfl) (ext_val hS (run_ld rfl ((eval_in rfl hN rfl).trans p9) (ld_u8 ((cell_of_heap (hS.h (bA, boxOf m, 27) (by simp))).trans (rfl : (boxOf m)[0]? = some _)))) rfl)
        refine steps_cons ?_ ?_
        · intro u W hS hp
          obtain ⟨q0, _⟩ := hp
          have p10 : u 10 = .int .u8 m.k.toNat := q0
          exact step_on (wanted_free rfl) (ext_val hS (run_bin rfl ((eval_in rfl hN rfl).trans p10) rfl rfl (i_geq hk1)) rfl)
        refine steps_cons ?_ ?_
        · intro u W hS hp
          obtain ⟨q0, _⟩ := hp
          have p11 : u 11 = .bool false := q0
          exact step_on (wanted_free rfl) (ext_val hS (run_mv rfl ((eval_in rfl hN rfl).trans p11)) rfl)
        refine steps_cons ?_ ?_
        · intro u W hS hp
          obtain ⟨q0, _⟩ := hp
          have p12 : u 12 = .bool false := q0
          exact step_off (wanted_off rfl rfl rfl hN rfl p12) rfl
        refine steps_cons ?_ ?_
        · intro u W hS hp
          obtain ⟨q0, q1, _⟩ := hp
          have p13 : u 13 = undef := q0
          have p12 : u 12 = .bool false := q1
          exact step_off (wanted_off rfl rfl rfl hN rfl p12) rfl
        refine steps_cons ?_ ?_
        · intro u W hS hp
          obtain ⟨q0, q1, _⟩ := hp
          have p14 : u 14 = undef := q0
          have p12 : u 12 = .bool false := q1
          exact step_off (wanted_off rfl rfl rfl hN rfl p12) rfl
        refine steps_cons ?_ ?_
        · intro u W hS hp
          obtain ⟨q0, q1, _⟩ := hp
          have p12 : u 12 = .bool false := q0
          exact step_off (wanted_off rfl rfl rfl hN rfl p12) rfl
        refine steps_cons ?_ ?_
        · intro u W hS hp
          obtain ⟨q0, q1, _⟩ := hp
          have p16 : u 16 = undef := q0
          have p12 : u 12 = .bool false := q1
          exact step_off (wanted_off rfl rfl rfl hN rfl p12) rfl
        refine steps_cons ?_ ?_
        · intro u W hS hp
          obtain ⟨q0, q1, q2, _⟩ := hp
          have p15 : u 15 = undef := q0
          have p17 : u 17 = undef := q1
          have p12 : u 12 = .bool false := q2
          exact step_off (wanted_off rfl rfl rfl hN rfl p12) rfl
        refine steps_cons ?_ ?_
        · intro u W hS hp
          obtain ⟨q0, q1, _⟩ := hp
          have p12 : u 12 = .bool false := q0
          have p18 : u 18 = undef := q1
          exact step_on (wanted_free rfl) (ext_val hS (run_pickF rfl ((eval_in rfl hN rfl).trans p12) rfl) rfl)
        exact steps_nil
      · obtain ⟨q0, q1, q2, q3, q4, q5, q6, q7, q8, q9, q10, _⟩ := hF
        have p9 : u 9 = .pointer (some ⟨bA, 0, none⟩) := q0
        have p10 : u 10 = .int .u8 m.k.toNat := q1
        have p11 : u 11 = .bool false := q2
        have p12 : u 12 = .bool false := q3
        have p13 : u 13 = undef := q4
        have p14 : u 14 = undef := q5
        have p15 : u 15 = undef := q6
        have p16 : u 16 = undef := q7
        have p17 : u 17 = undef := q8
        have p18 : u 18 = undef := q9
        have p19 : u 19 = Value.bool false := q10
        simp only [frm, frmL, Nat.reduceAdd, p9, p10, p11, p12, p13, p14, p15, p16, p17, p18, p19]
        clear p9 p10 p11 p12 p13 p14 p15 p16 p17 p18 p19
        go_wp2_with fail
        go_meet
        exact ⟨rfl, rfl, Lib.hid hS⟩
    · have hk1 : decide ((1 : Int) ≤ (m.k.toNat : Int)) = true := by simp; omega
      by_cases h13 : m.k.toNat ≤ 12
      · have hk2 : decide ((m.k.toNat : Int) ≤ 12) = true := by simp; omega
        obtain rfl : kn = true := by rw [← hkn]; unfold knownB; simp; omega
        clear hkn
        refine region_all (D := [false, false, false, false, false, false, false, false, false, true, true, true, true, true, true, true, true, true, true, true]) (S := fun W => St [(bA, boxOf m, 27)] w W) (R := RB) (F := FF [isV (.pointer (some ⟨bA, 0, none⟩)), isV (.int .u8 m.k.toNat), isV (.bool true), isV (.bool true), isV (.pointer (some ⟨bA, 0, none⟩)), isV (.int .u8 m.k.toNat), isV (.int .i64 m.k.toNat), NamesF, isV (.int .i64 12), isV (.bool true), isV (.bool true)]) rfl mo (by kernel_rfl) (FF_st _ _) HS1.out.drew (fun hN => ?_) (fun u W hS hF => ?_)
        · refine steps_cons ?_ ?_
          · intro u W hS hp
            exact step_on (wanted_free rfl) (ext_val hS (run_fa rfl ((eval_out rfl).trans rfl) (fa25_0 bA)) rfl)
          refine steps_cons ?_ ?_
          · intro u W hS hp
            obtain ⟨q0, _⟩ := hp
            have p9 : u 9 = .pointer (some ⟨bA, 0, none⟩) := q0
            exact step_on (wanted_free rfl) (ext_val hS (run_ld rfl ((eval_in rfl hN rfl).trans p9) (ld_u8 ((cell_of_heap (hS.h (bA, boxOf m, 27) (by simp))).trans (rfl : (boxOf m)[0]? = some _)))) rfl)
          refine steps_cons ?_ ?_
          · intro u W hS hp
            obtain ⟨q0, _⟩ := hp
            have p10 : u 10 = .int .u8 m.k.toNat := q0
            exact step_on (wanted_free rfl) (ext_val hS (run_bin rfl ((eval_in rfl hN rfl).trans p10) rfl rfl (i_geq hk1)) rfl)
          refine steps_cons ?_ ?_
          · intro u W hS hp
            obtain ⟨q0, _⟩ := hp
            have p11 : u 11 = .bool true := q0
            exact step_on (wanted_free rfl) (ext_val hS (run_mv rfl ((eval_in rfl hN rfl).trans p11)) rfl)
          refine steps_cons ?_ ?_
          · intro u W hS hp
            obtain ⟨q0, _⟩ := hp
            have p12 : u 12 = .bool true := q0
            exact step_on (wanted_on rfl rfl rfl hN rfl p12) (ext_val hS (run_fa rfl ((eval_out rfl).trans rfl) (fa25_0 bA)) rfl)
          refine steps_cons ?_ ?_
          · intro u W hS hp
            obtain ⟨q0, q1, _⟩ := hp
            have p13 : u 13 = .pointer (some ⟨bA, 0, none⟩) := q0
            have p12 : u 12 = .bool true := q1
            exact step_on (wanted_on rfl rfl rfl hN rfl p12) (ext_val hS (run_ld rfl ((eval_in rfl hN rfl).trans p13) (ld_u8 ((cell_of_heap (hS.h (bA, boxOf m, 27) (by simp))).trans (rfl : (boxOf m)[0]? = some _)))) rfl)
          refine steps_cons ?_ ?_
          · intro u W hS hp
            obtain ⟨q0, q1, _⟩ := hp
            have p14 : u 14 = .int .u8 m.k.toNat := q0
            have p12 : u 12 = .bool true := q1
            exact step_on (wanted_on rfl rfl rfl hN rfl p12) (ext_val hS (run_conv rfl ((eval_in rfl hN rfl).trans p14) (conv53 (by omega) (by omega))) rfl)
          refine steps_cons ?_ ?_
          · intro u W hS hp
            obtain ⟨q0, q1, _⟩ := hp
            have p12 : u 12 = .bool true := q0
            exact step_on (wanted_on rfl rfl rfl hN rfl p12) (ext_call (run_call rfl rfl (map0 ) Tryz.func30 nm55 bd55) ((names_ext W).mono fun _ _ ⟨g, e, hg, hb⟩ => ⟨_, e, ⟨g, rfl, hg⟩, hS.next hb, hb⟩))
          refine steps_cons ?_ ?_
          · intro u W hS hp
            obtain ⟨q0, q1, _⟩ := hp
            obtain ⟨gn16, p16, hN16⟩ := q0
            have p12 : u 12 = .bool true := q1
            exact step_on (wanted_on rfl rfl rfl hN rfl p12) (ext_val hS (run_len rfl ((eval_in rfl hN rfl).trans p16) Tryz.underlying36) rfl)
          refine steps_cons ?_ ?_
          · intro u W hS hp
            obtain ⟨q0, q1, q2, _⟩ := hp
            have p15 : u 15 = .int .i64 m.k.toNat := q0
            have p17 : u 17 = .int .i64 12 := q1
            have p12 : u 12 = .bool true := q2
            exact step_on (wanted_on rfl rfl rfl hN rfl p12) (ext_val hS (run_bin rfl ((eval_in rfl hN rfl).trans p15) ((eval_in rfl hN rfl).trans p17) rfl (i_leq hk2)) rfl)
          refine steps_cons ?_ ?_
          · intro u W hS hp
            obtain ⟨q0, q1, _⟩ := hp
            have p12 : u 12 = .bool true := q0
            have p18 : u 18 = .bool true := q1
            exact step_on (wanted_free rfl) (ext_val hS (run_pickT rfl ((eval_in rfl hN rfl).trans p12) ((eval_in rfl hN rfl).trans p18)) rfl)
          exact steps_nil
        · obtain ⟨q0, q1, q2, q3, q4, q5, q6, q7, q8, q9, q10, _⟩ := hF
          have p9 : u 9 = .pointer (some ⟨bA, 0, none⟩) := q0
          have p10 : u 10 = .int .u8 m.k.toNat := q1
          have p11 : u 11 = .bool true := q2
          have p12 : u 12 = .bool true := q3
          have p13 : u 13 = .pointer (some ⟨bA, 0, none⟩) := q4
          have p14 : u 14 = .int .u8 m.k.toNat := q5
          have p15 : u 15 = .int .i64 m.k.toNat := q6
          obtain ⟨gn16, p16, hN16⟩ := q7
          have p17 : u 17 = .int .i64 12 := q8
          have p18 : u 18 = .bool true := q9
          have p19 : u 19 = .bool true := q10
          simp only [frm, frmL, Nat.reduceAdd, p9, p10, p11, p12, p13, p14, p15, p16, p17, p18, p19]
          clear p9 p10 p11 p12 p13 p14 p15 p16 p17 p18 p19
          go_wp2_with fail
          go_meet
          exact ⟨rfl, rfl, Lib.hid hS⟩
      · have hk2 : decide ((m.k.toNat : Int) ≤ 12) = false := by simp; omega
        obtain rfl : kn = false := by rw [← hkn]; unfold knownB; simp; omega
        clear hkn
        refine region_all (D := [false, false, false, false, false, false, false, false, false, true, true, true, true, true, true, true, true, true, true, true]) (S := fun W => St [(bA, boxOf m, 27)] w W) (R := RB) (F := FF [isV (.pointer (some ⟨bA, 0, none⟩)), isV (.int .u8 m.k.toNat), isV (.bool true), isV (.bool true), isV (.pointer (some ⟨bA, 0, none⟩)), isV (.int .u8 m.k.toNat), isV (.int .i64 m.k.toNat), NamesF, isV (.int .i64 12), isV (.bool false), isV (.bool false)]) rfl mo (by kernel_rfl) (FF_st _ _) HS1.out.drew (fun hN => ?_) (fun u W hS hF => ?_)
        · refine steps_cons ?_ ?_
          · intro u W hS hp
            exact step_on (wanted_free rfl) (ext_val hS (run_fa rfl ((eval_out rfl).trans rfl) (fa25_0 bA)) rfl)
          refine steps_cons ?_ ?_
          · intro u W hS hp
            obtain ⟨q0, _⟩ := hp
            have p9 : u 9 = .pointer (some ⟨bA, 0, none⟩) := q0
            exact step_on (wanted_free rfl) (ext_val hS (run_ld rfl ((eval_in rfl hN rfl).trans p9) (ld_u8 ((cell_of_heap (hS.h (bA, boxOf m, 27) (by simp))).trans (rfl : (boxOf m)[0]? = some _)))) rfl)
          refine steps_cons ?_ ?_
          · intro u W hS hp
            obtain ⟨q0, _⟩ := hp
            have p10 : u 10 = .int .u8 m.k.toNat := q0
            exact step_on (wanted_free rfl) (ext_val hS (run_bin rfl ((eval_in rfl hN rfl).trans p10) rfl rfl (i_geq hk1)) rfl)
          refine steps_cons ?_ ?_
          · intro u W hS hp
            obtain ⟨q0, _⟩ := hp
            have p11 : u 11 = .bool true := q0
            exact step_on (wanted_free rfl) (ext_val hS (run_mv rfl ((eval_in rfl hN rfl).trans p11)) rfl)
          refine steps_cons ?_ ?_
          · intro u W hS hp
            obtain ⟨q0, _⟩ := hp
            have p12 : u 12 = .bool true := q0
            exact step_on (wanted_on rfl rfl rfl hN rfl p12) (ext_val hS (run_fa rfl ((eval_out rfl).trans rfl) (fa25_0 bA)) rfl)
          refine steps_cons ?_ ?_
          · intro u W hS hp
            obtain ⟨q0, q1, _⟩ := hp
            have p13 : u 13 = .pointer (some ⟨bA, 0, none⟩) := q0
            have p12 : u 12 = .bool true := q1
            exact step_on (wanted_on rfl rfl rfl hN rfl p12) (ext_val hS (run_ld rfl ((eval_in rfl hN rfl).trans p13) (ld_u8 ((cell_of_heap (hS.h (bA, boxOf m, 27) (by simp))).trans (rfl : (boxOf m)[0]? = some _)))) rfl)
          refine steps_cons ?_ ?_
          · intro u W hS hp
            obtain ⟨q0, q1, _⟩ := hp
            have p14 : u 14 = .int .u8 m.k.toNat := q0
            have p12 : u 12 = .bool true := q1
            exact step_on (wanted_on rfl rfl rfl hN rfl p12) (ext_val hS (run_conv rfl ((eval_in rfl hN rfl).trans p14) (conv53 (by omega) (by omega))) rfl)
          refine steps_cons ?_ ?_
          · intro u W hS hp
            obtain ⟨q0, q1, _⟩ := hp
            have p12 : u 12 = .bool true := q0
            exact step_on (wanted_on rfl rfl rfl hN rfl p12) (ext_call (run_call rfl rfl (map0 ) Tryz.func30 nm55 bd55) ((names_ext W).mono fun _ _ ⟨g, e, hg, hb⟩ => ⟨_, e, ⟨g, rfl, hg⟩, hS.next hb, hb⟩))
          refine steps_cons ?_ ?_
          · intro u W hS hp
            obtain ⟨q0, q1, _⟩ := hp
            obtain ⟨gn16, p16, hN16⟩ := q0
            have p12 : u 12 = .bool true := q1
            exact step_on (wanted_on rfl rfl rfl hN rfl p12) (ext_val hS (run_len rfl ((eval_in rfl hN rfl).trans p16) Tryz.underlying36) rfl)
          refine steps_cons ?_ ?_
          · intro u W hS hp
            obtain ⟨q0, q1, q2, _⟩ := hp
            have p15 : u 15 = .int .i64 m.k.toNat := q0
            have p17 : u 17 = .int .i64 12 := q1
            have p12 : u 12 = .bool true := q2
            exact step_on (wanted_on rfl rfl rfl hN rfl p12) (ext_val hS (run_bin rfl ((eval_in rfl hN rfl).trans p15) ((eval_in rfl hN rfl).trans p17) rfl (i_leq hk2)) rfl)
          refine steps_cons ?_ ?_
          · intro u W hS hp
            obtain ⟨q0, q1, _⟩ := hp
            have p12 : u 12 = .bool true := q0
            have p18 : u 18 = .bool false := q1
            exact step_on (wanted_free rfl) (ext_val hS (run_pickT rfl ((eval_in rfl hN rfl).trans p12) ((eval_in rfl hN rfl).trans p18)) rfl)
          exact steps_nil
        · obtain ⟨q0, q1, q2, q3, q4, q5, q6, q7, q8, q9, q10, _⟩ := hF
          have p9 : u 9 = .pointer (some ⟨bA, 0, none⟩) := q0
          have p10 : u 10 = .int .u8 m.k.toNat := q1
          have p11 : u 11 = .bool true := q2
          have p12 : u 12 = .bool true := q3
          have p13 : u 13 = .pointer (some ⟨bA, 0, none⟩) := q4
          have p14 : u 14 = .int .u8 m.k.toNat := q5
          have p15 : u 15 = .int .i64 m.k.toNat := q6
          obtain ⟨gn16, p16, hN16⟩ := q7
          have p17 : u 17 = .int .i64 12 := q8
          have p18 : u 18 = .bool false := q9
          have p19 : u 19 = .bool false := q10
          simp only [frm, frmL, Nat.reduceAdd, p9, p10, p11, p12, p13, p14, p15, p16, p17, p18, p19]
          clear p9 p10 p11 p12 p13 p14 p15 p16 p17 p18 p19
          go_wp2_with fail
          go_meet
          exact ⟨rfl, rfl, Lib.hid hS⟩
  case rest =>
    obtain ⟨rfl, rfl, HS⟩ := hcut
    generalize (⟨#[107, 105, 110, 100, 32]⟩ ++ decS m.k : ByteArray) = s0 at hs5 HJ0 ⊢
    clear HS1 dk dk2
    have HKN := Lib.hid hkn
    clear hkn
    go_upto_if 19 with fail
    go_cut [3] (fun s3 wx => Jn (headW m.k) 20 s3 ∧ Hid (St [(bA, boxOf m, 27)] w wx))
    case first =>
      cases kn
      · have HH := HJ0.out HKN.out
        go_wp2_with fail
        go_meet
        exact ⟨Jn.of HH hs5, HS⟩
      · have hkn := HKN.out
        have hkr := of_decide_eq_true hkn
        have hs1 : IntKind.u8.wrap ((m.k.toNat : Int) - 1) = ((m.k.toNat - 1 : Nat) : Int) := by rw [wrap8 (by omega) (by omega)]; omega
        have hs2 : m.k.toNat - 1 < 12 := by omega
        have hs3 : 1 ≤ m.k.toNat := by omega
        have hs4 : m.k.toNat ≤ 12 := by omega
        have hnz : (nameOf m.k.toNat).size ≤ 7 := name_size ⟨m.k.toNat, by omega⟩
        have HH := Lib.hid (And.intro hs1 hkn)
        clear hs1 hkr hkn HJ0 HKN
        go_wp2_with fail
        have hs1 := HH.out.1
        have hkn := HH.out.2
        refine region_all (D := [false, false, false, true, false, false, false, false, false, false, false, false, false, false, false, false, false, false, false, false, true, true, true, true, true, true]) (S := fun W => St [(bA, boxOf m, 27)] w W) (R := RB) (F := FF [NamesF, isV (.pointer (some ⟨bA, 0, none⟩)), isV (.int .u8 m.k.toNat), isV (.int .u8 ((m.k.toNat - 1 : Nat) : Int)), NamesPF (m.k.toNat - 1), isV (.string (nameOf m.k.toNat)), isV (.string (nameOf m.k.toNat))]) rfl mo (by kernel_rfl) (FF_st _ _) HS.out.drew (fun hN => ?_) (fun u W hS hF => ?_)
        · refine steps_cons ?_ ?_
          · intro u W hS hp
            exact step_on (wanted_free rfl) (ext_call (run_call rfl rfl (map0 ) Tryz.func30 nm55 bd55) ((names_ext W).mono fun _ _ ⟨g, e, hg, hb⟩ => ⟨_, e, ⟨g, rfl, hg⟩, hS.next hb, hb⟩))
          refine steps_cons ?_ ?_
          · intro u W hS hp
            exact step_on (wanted_free rfl) (ext_val hS (run_fa rfl ((eval_out rfl).trans rfl) (fa25_0 bA)) rfl)
          refine steps_cons ?_ ?_
          · intro u W hS hp
            obtain ⟨q0, _⟩ := hp
            have p21 : u 21 = .pointer (some ⟨bA, 0, none⟩) := q0
            exact step_on (wanted_free rfl) (ext_val hS (run_ld rfl ((eval_in rfl hN rfl).trans p21) (ld_u8 ((cell_of_heap (hS.h (bA, boxOf m, 27) (by simp))).trans (rfl : (boxOf m)[0]? = some _)))) rfl)
          refine steps_cons ?_ ?_
          · intro u W hS hp
            obtain ⟨q0, _⟩ := hp
            have p22 : u 22 = .int .u8 m.k.toNat := q0
            exact step_on (wanted_free rfl) (ext_val hS (run_bin rfl ((eval_in rfl hN rfl).trans p22) rfl rfl (i_sub hs1)) rfl)
          refine steps_cons ?_ ?_
          · intro u W hS hp
            obtain ⟨q0, q1, _⟩ := hp
            obtain ⟨gn20, p20, hN20⟩ := q0
            have p23 : u 23 = .int .u8 ((m.k.toNat - 1 : Nat) : Int) := q1
            exact step_on (wanted_free rfl) (ext_val hS (run_ia rfl ((eval_in rfl hN rfl).trans p20) ((eval_in rfl hN rfl).trans p23) (idx49 hs2)) (npf hN20))
          refine steps_cons ?_ ?_
          · intro u W hS hp
            obtain ⟨q0, _⟩ := hp
            obtain ⟨gp24, p24, hN24⟩ := q0
            exact step_on (wanted_free rfl) (ext_val hS (run_ld rfl ((eval_in rfl hN rfl).trans p24) (ld_str (names_at hN24 hs3 hs4))) rfl)
          refine steps_cons ?_ ?_
          · intro u W hS hp
            obtain ⟨q0, q1, q2, q3, q4, q5, q6, q7, _⟩ := hp
            have p25 : u 25 = .string (nameOf m.k.toNat) := q0
            obtain ⟨gn20, p20, hN20⟩ := q1
            have p21 : u 21 = .pointer (some ⟨bA, 0, none⟩) := q3
            have p22 : u 22 = .int .u8 m.k.toNat := q4
            have p23 : u 23 = .int .u8 ((m.k.toNat - 1 : Nat) : Int) := q5
            obtain ⟨gp24, p24, hN24⟩ := q6
            exact step_on (wanted_free rfl) (ext_val hS (run_asg rfl ((eval_in rfl hN rfl).trans p25)) rfl)
          exact steps_nil
        · obtain ⟨q0, q1, q2, q3, q4, q5, q6, _⟩ := hF
          obtain ⟨gn20, p20, hN20⟩ := q0
          have p21 : u 21 = .pointer (some ⟨bA, 0, none⟩) := q1
          have p22 : u 22 = .int .u8 m.k.toNat := q2
          have p23 : u 23 = .int .u8 ((m.k.toNat - 1 : Nat) : Int) := q3
          obtain ⟨gp24, p24, hN24⟩ := q4
          have p25 : u 25 = .string (nameOf m.k.toNat) := q5
          have p3 : u 3 = .string (nameOf m.k.toNat) := q6
          simp only [frm, frmL, Nat.reduceAdd, p20, p21, p22, p23, p24, p25, p3]
          clear p20 p21 p22 p23 p24 p25 p3
          go_wp2
          go_meet
          exact ⟨Jn.of (name_jn hkn) (by omega), Lib.hid hS⟩
    case rest =>
      clear hs5 HJ0 HKN HS
      obtain ⟨⟨s, rfl, hj, hsz⟩, HS⟩ := hcut
      have df := dsz m.f
      have dt := dsz m.t
      have dl := dsz m.l
      have Sne := head_ne m.k
      go_upto_region 4 with fail
      go_cut [3] (fun s3 wx => Jn (headW m.k ++ [dec m.f ++ [62] ++ dec m.t, wLine, dec m.l]) 50 s3 ∧ Hid (St [(bA, boxOf m, 27)] w wx))
      case first =>
        refine region_m (m := 16) (D := [false, false, false, false, false, false, false, false, false, false, false, false, false, false, false, false, false, false, false, false, false, false, false, false, false, false, true, true, true, true, true, true, true, true, true, true, true, true, true, true, true, true]) (S := fun W => St [(bA, boxOf m, 27)] w W) (R := RB) (F := FF [isV (.string s), isV (.string (s ++ spB)), isV (.pointer (some ⟨bA, 1, none⟩)), isV (.int .u8 m.f.toNat), isV (.string (decS m.f)), isV (.string (s ++ spB ++ decS m.f)), isV (.string (s ++ spB ++ decS m.f ++ gtB)), isV (.pointer (some ⟨bA, 2, none⟩)), isV (.int .u8 m.t.toNat), isV (.string (decS m.t)), isV (.string (s ++ spB ++ decS m.f ++ gtB ++ decS m.t)), isV (.string (s ++ spB ++ decS m.f ++ gtB ++ decS m.t ++ lineB)), isV (.pointer (some ⟨bA, 3, none⟩)), isV (.int .u8 m.l.toNat), isV (.string (decS m.l)), isV (.string (s ++ spB ++ decS m.f ++ gtB ++ decS m.t ++ lineB ++ decS m.l))]) rfl mo (by kernel_rfl) (FF_st _ _) HS.out.drew (fun hN => ?_) (fun u W hS hF => ?_)
        · refine steps_cons ?_ ?_
          · intro u W hS hp
            exact step_on (wanted_free rfl) (ext_val hS (run_mv rfl ((eval_out rfl).trans rfl)) rfl)
          refine steps_cons ?_ ?_
          · intro u W hS hp
            obtain ⟨q0, _⟩ := hp
            have p26 : u 26 = .string s := q0
            exact step_on (wanted_free rfl) (ext_val hS (run_bin rfl ((eval_in rfl hN rfl).trans p26) rfl rfl (str_add (by simp only [lit_size, List.size_toArray, List.length_cons, List.length_nil]; omega))) rfl)
          refine steps_cons ?_ ?_
          · intro u W hS hp
            exact step_on (wanted_free rfl) (ext_val hS (run_fa rfl ((eval_out rfl).trans rfl) (fa25_1 bA)) rfl)
          refine steps_cons ?_ ?_
          · intro u W hS hp
            obtain ⟨q0, _⟩ := hp
            have p28 : u 28 = .pointer (some ⟨bA, 1, none⟩) := q0
            exact step_on (wanted_free rfl) (ext_val hS (run_ld rfl ((eval_in rfl hN rfl).trans p28) (ld_u8 ((cell_of_heap (hS.h (bA, boxOf m, 27) (by simp))).trans (rfl : (boxOf m)[1]? = some _)))) rfl)
          refine steps_cons ?_ ?_
          · intro u W hS hp
            obtain ⟨q0, _⟩ := hp
            have p29 : u 29 = .int .u8 m.f.toNat := q0
            exact step_on (wanted_free rfl) (ext_call (run_call rfl rfl (map1 ((eval_in rfl hN rfl).trans p29)) Tryz.func29 nm68 bd68) ((number_ref m.f W).mono fun _ _ ⟨e, hb⟩ => ⟨_, e, rfl, hS.next hb, hb⟩))
          refine steps_cons ?_ ?_
          · intro u W hS hp
            obtain ⟨q0, q1, _⟩ := hp
            have p27 : u 27 = .string (s ++ spB) := q0
            have p30 : u 30 = .string (decS m.f) := q1
            exact step_on (wanted_free rfl) (ext_val hS (run_bin rfl ((eval_in rfl hN rfl).trans p27) ((eval_in rfl hN rfl).trans p30) rfl (str_add (by simp only [sizes, spB_size]; omega))) rfl)
          refine steps_cons ?_ ?_
          · intro u W hS hp
            obtain ⟨q0, _⟩ := hp
            have p31 : u 31 = .string (s ++ spB ++ decS m.f) := q0
            exact step_on (wanted_free rfl) (ext_val hS (run_bin rfl ((eval_in rfl hN rfl).trans p31) rfl rfl (str_add (by simp only [sizes, lit_size, List.size_toArray, List.length_cons, List.length_nil, spB_size]; omega))) rfl)
          refine steps_cons ?_ ?_
          · intro u W hS hp
            exact step_on (wanted_free rfl) (ext_val hS (run_fa rfl ((eval_out rfl).trans rfl) (fa25_2 bA)) rfl)
          refine steps_cons ?_ ?_
          · intro u W hS hp
            obtain ⟨q0, _⟩ := hp
            have p33 : u 33 = .pointer (some ⟨bA, 2, none⟩) := q0
            exact step_on (wanted_free rfl) (ext_val hS (run_ld rfl ((eval_in rfl hN rfl).trans p33) (ld_u8 ((cell_of_heap (hS.h (bA, boxOf m, 27) (by simp))).trans (rfl : (boxOf m)[2]? = some _)))) rfl)
          refine steps_cons ?_ ?_
          · intro u W hS hp
            obtain ⟨q0, q1, _⟩ := hp
            have p34 : u 34 = .int .u8 m.t.toNat := q0
            have p30 : u 30 = .string (decS m.f) := q1
            exact step_on (wanted_free rfl) (ext_call (run_call rfl rfl (map1 ((eval_in rfl hN rfl).trans p34)) Tryz.func29 nm68 bd68) ((number_ref m.t W).mono fun _ _ ⟨e, hb⟩ => ⟨_, e, rfl, hS.next hb, hb⟩))
          refine steps_cons ?_ ?_
          · intro u W hS hp
            obtain ⟨q0, q1, _⟩ := hp
            have p32 : u 32 = .string (s ++ spB ++ decS m.f ++ gtB) := q0
            have p35 : u 35 = .string (decS m.t) := q1
            exact step_on (wanted_free rfl) (ext_val hS (run_bin rfl ((eval_in rfl hN rfl).trans p32) ((eval_in rfl hN rfl).trans p35) rfl (str_add (by simp only [sizes, spB_size, gtB_size]; omega))) rfl)
          refine steps_cons ?_ ?_
          · intro u W hS hp
            obtain ⟨q0, _⟩ := hp
            have p36 : u 36 = .string (s ++ spB ++ decS m.f ++ gtB ++ decS m.t) := q0
            exact step_on (wanted_free rfl) (ext_val hS (run_bin rfl ((eval_in rfl hN rfl).trans p36) rfl rfl (str_add (by simp only [sizes, lit_size, List.size_toArray, List.length_cons, List.length_nil, spB_size, gtB_size]; omega))) rfl)
          refine steps_cons ?_ ?_
          · intro u W hS hp
            exact step_on (wanted_free rfl) (ext_val hS (run_fa rfl ((eval_out rfl).trans rfl) (fa25_3 bA)) rfl)
          refine steps_cons ?_ ?_
          · intro u W hS hp
            obtain ⟨q0, _⟩ := hp
            have p38 : u 38 = .pointer (some ⟨bA, 3, none⟩) := q0
            exact step_on (wanted_free rfl) (ext_val hS (run_ld rfl ((eval_in rfl hN rfl).trans p38) (ld_u8 ((cell_of_heap (hS.h (bA, boxOf m, 27) (by simp))).trans (rfl : (boxOf m)[3]? = some _)))) rfl)
          refine steps_cons ?_ ?_
          · intro u W hS hp
            obtain ⟨q0, q1, _⟩ := hp
            have p39 : u 39 = .int .u8 m.l.toNat := q0
            have p35 : u 35 = .string (decS m.t) := q1
            exact step_on (wanted_free rfl) (ext_call (run_call rfl rfl (map1 ((eval_in rfl hN rfl).trans p39)) Tryz.func29 nm68 bd68) ((number_ref m.l W).mono fun _ _ ⟨e, hb⟩ => ⟨_, e, rfl, hS.next hb, hb⟩))
          refine steps_cons ?_ ?_
          · intro u W hS hp
            obtain ⟨q0, q1, _⟩ := hp
            have p37 : u 37 = .string (s ++ spB ++ decS m.f ++ gtB ++ decS m.t ++ lineB) := q0
            have p40 : u 40 = .string (decS m.l) := q1
            exact step_on (wanted_free rfl) (ext_val hS (run_bin rfl ((eval_in rfl hN rfl).trans p37) ((eval_in rfl hN rfl).trans p40) rfl (str_add (by simp only [sizes, spB_size, gtB_size, lineB_size]; omega))) rfl)
          exact steps_nil
        · obtain ⟨q0, q1, q2, q3, q4, q5, q6, q7, q8, q9, q10, q11, q12, q13, q14, q15, _⟩ := hF
          have p26 : u 26 = .string s := q0
          have p27 : u 27 = .string (s ++ spB) := q1
          have p28 : u 28 = .pointer (some ⟨bA, 1, none⟩) := q2
          have p29 : u 29 = .int .u8 m.f.toNat := q3
          have p30 : u 30 = .string (decS m.f) := q4
          have p31 : u 31 = .string (s ++ spB ++ decS m.f) := q5
          have p32 : u 32 = .string (s ++ spB ++ decS m.f ++ gtB) := q6
          have p33 : u 33 = .pointer (some ⟨bA, 2, none⟩) := q7
          have p34 : u 34 = .int .u8 m.t.toNat := q8
          have p35 : u 35 = .string (decS m.t) := q9
          have p36 : u 36 = .string (s ++ spB ++ decS m.f ++ gtB ++ decS m.t) := q10
          have p37 : u 37 = .string (s ++ spB ++ decS m.f ++ gtB ++ decS m.t ++ lineB) := q11
          have p38 : u 38 = .pointer (some ⟨bA, 3, none⟩) := q12
          have p39 : u 39 = .int .u8 m.l.toNat := q13
          have p40 : u 40 = .string (decS m.l) := q14
          have p41 : u 41 = .string (s ++ spB ++ decS m.f ++ gtB ++ decS m.t ++ lineB ++ decS m.l) := q15
          show wpList _ _ _ [_] _ _
          simp only [frm, frmL, Nat.reduceAdd, p26, p27, p28, p29, p30, p31, p32, p33, p34, p35, p36, p37, p38, p39, p40, p41]
          clear p26 p27 p28 p29 p30 p31 p32 p33 p34 p35 p36 p37 p38 p39 p40 p41
          go_wp2_with fail
          go_meet
          exact ⟨Jn.of (ft_jn m.f m.t m.l (head_ne _) hj.out) (by simp only [sizes, spB_size, gtB_size, lineB_size]; omega), Lib.hid hS⟩
      case rest =>
        clear hj hsz HS df dt dl Sne
        obtain ⟨⟨s, rfl, hj, hsz⟩, HS⟩ := hcut
        obtain ⟨S0, hS0⟩ : ∃ X, headW m.k ++ [dec m.f ++ [62] ++ dec m.t, wLine, dec m.l] = X := ⟨_, rfl⟩
        have Sne : S0 ≠ [] := by rw [← hS0]; simp
        rw [hS0] at hj HW
        have Sne := Lib.hid Sne
        clear hS0
        have bq : wc.cell? ⟨bA, 4, none⟩ = some (.int .u8 m.a.toNat) := kcell HS (by simp) 4
        go_upto_if 44 with fail
        go_cut [3] (fun s3 wx => Jn (S0 ++ (if m.a.toNat = 0 then [] else [wAsker, dec m.a])) 70 s3 ∧ Hid (St [(bA, boxOf m, 27)] w wx))
        case first =>
          by_cases ha : m.a.toNat = 0
          · have hq : ((m.a.toNat : Int) != 0) = false := by simp [ha]
            have HE : Hid (Jn (S0 ++ (if m.a.toNat = 0 then [] else [wAsker, dec m.a])) 70 (.string s)) := by rw [if_pos ha, List.append_nil]; exact Jn.of hj.out (by omega)
            clear ha
            go_wp2_with fail
            go_meet
            exact ⟨HE, HS⟩
          · have hq : ((m.a.toNat : Int) != 0) = true := by rw [bne_iff_ne]; omega
            have HE : Hid ((if m.a.toNat = 0 then [] else [wAsker, dec m.a]) = [wAsker, dec m.a]) := Lib.hid (if_neg ha)
            have d1 := dsz m.a
            have z1 : ¬ 9223372036854775807 < s.size + 7 := by omega
            have z2 : ¬ 9223372036854775807 < s.size + 7 + (decS m.a).size := by omega
            have HJ := Lib.hid (one_jn wAsker m.a Sne.out hj.out (c := askerB) rfl)
            clear ha
            go_wp2_with (first | (go_at_call 29; refine (number_st2 m.a HS).mono ?_; rintro e w' ⟨rfl, HS2⟩) | fail)
            go_meet
            exact ⟨by rw [HE.out]; exact Jn.of HJ.out (by simp only [sizes, lit_size, List.size_toArray, List.length_cons, List.length_nil]; omega), HS2⟩
        case rest =>
          clear hj hsz HS bq
          obtain ⟨⟨s, rfl, hj, hsz⟩, HS⟩ := hcut
          obtain ⟨S1, hS1⟩ : ∃ X, S0 ++ (if m.a.toNat = 0 then [] else [wAsker, dec m.a]) = X := ⟨_, rfl⟩
          have Sne : S1 ≠ [] := by rw [← hS1]; have := Sne.out; simp [this]
          rw [hS1] at hj HW
          have Sne := Lib.hid Sne
          clear hS1
          have bq : wc.cell? ⟨bA, 5, none⟩ = some (.int .u8 m.c.toNat) := kcell HS (by simp) 5
          go_upto_if 53 with fail
          go_cut [3] (fun s3 wx => Jn (S1 ++ (if m.c.toNat = 0 then [] else [wAcks, dec m.c])) 90 s3 ∧ Hid (St [(bA, boxOf m, 27)] w wx))
          case first =>
            by_cases ha : m.c.toNat = 0
            · have hq : ((m.c.toNat : Int) != 0) = false := by simp [ha]
              have HE : Hid (Jn (S1 ++ (if m.c.toNat = 0 then [] else [wAcks, dec m.c])) 90 (.string s)) := by rw [if_pos ha, List.append_nil]; exact Jn.of hj.out (by omega)
              clear ha
              go_wp2_with fail
              go_meet
              exact ⟨HE, HS⟩
            · have hq : ((m.c.toNat : Int) != 0) = true := by rw [bne_iff_ne]; omega
              have HE : Hid ((if m.c.toNat = 0 then [] else [wAcks, dec m.c]) = [wAcks, dec m.c]) := Lib.hid (if_neg ha)
              have d1 := dsz m.c
              have z1 : ¬ 9223372036854775807 < s.size + 6 := by omega
              have z2 : ¬ 9223372036854775807 < s.size + 6 + (decS m.c).size := by omega
              have HJ := Lib.hid (one_jn wAcks m.c Sne.out hj.out (c := acksB) rfl)
              clear ha
              go_wp2_with (first | (go_at_call 29; refine (number_st2 m.c HS).mono ?_; rintro e w' ⟨rfl, HS2⟩) | fail)
              go_meet
              exact ⟨by rw [HE.out]; exact Jn.of HJ.out (by simp only [sizes, lit_size, List.size_toArray, List.length_cons, List.length_nil]; omega), HS2⟩
          case rest =>
            clear hj hsz HS bq
            obtain ⟨⟨s, rfl, hj, hsz⟩, HS⟩ := hcut
            obtain ⟨S2, hS2⟩ : ∃ X, S1 ++ (if m.c.toNat = 0 then [] else [wAcks, dec m.c]) = X := ⟨_, rfl⟩
            have Sne : S2 ≠ [] := by rw [← hS2]; have := Sne.out; simp [this]
            rw [hS2] at hj HW
            have Sne := Lib.hid Sne
            clear hS2
            obtain ⟨al, hal⟩ : ∃ al, m.al = al := ⟨_, rfl⟩
            have bq : wc.cell? ⟨bA, 6, none⟩ = some (.bool al) := by rw [← hal]; exact kcell HS (by simp) 6
            rw [hal] at HW
            clear hal
            go_upto_if 61 with fail
            go_cut [3] (fun s3 wx => Jn (S2 ++ (if al = false then [] else [wAlone])) 100 s3 ∧ Hid (St [(bA, boxOf m, 27)] w wx))
            case first =>
              cases al
              · have HE : Hid (Jn (S2 ++ (if false = false then [] else [wAlone])) 100 (.string s)) := by rw [if_pos rfl, List.append_nil]; exact Jn.of hj.out (by omega)
                go_wp2_with fail
                go_meet
                exact ⟨HE, HS⟩
              · have z1 : ¬ 9223372036854775807 < s.size + 6 := by omega
                have HJ := Lib.hid (lit_jn wAlone Sne.out hj.out (c := aloneB) rfl)
                go_wp2_with fail
                go_meet
                exact ⟨by rw [if_neg (by decide)]; exact Jn.of HJ.out (by simp only [sizes, lit_size, List.size_toArray, List.length_cons, List.length_nil]; omega), HS⟩
            case rest =>
              clear hj hsz HS bq
              obtain ⟨⟨s, rfl, hj, hsz⟩, HS⟩ := hcut
              obtain ⟨S3, hS3⟩ : ∃ X, S2 ++ (if al = false then [] else [wAlone]) = X := ⟨_, rfl⟩
              have Sne : S3 ≠ [] := by rw [← hS3]; have := Sne.out; simp [this]
              rw [hS3] at hj HW
              have Sne := Lib.hid Sne
              clear hS3
              have b7 : wc.cell? ⟨bA, 7, none⟩ = some (.int .u8 m.d0.toNat) := kcell HS (by simp) 7
              have b8 : wc.cell? ⟨bA, 8, none⟩ = some (.int .u8 m.d1.toNat) := kcell HS (by simp) 8
              have b9 : wc.cell? ⟨bA, 9, none⟩ = some (.int .u8 m.d2.toNat) := kcell HS (by simp) 9
              have b10 : wc.cell? ⟨bA, 10, none⟩ = some (.int .u8 m.d3.toNat) := kcell HS (by simp) 10
              obtain ⟨z, hz⟩ : ∃ z, decide (m.d0 = 0 ∧ m.d1 = 0 ∧ m.d2 = 0 ∧ m.d3 = 0) = z := ⟨_, rfl⟩
              have hq : Sem.run Tryz.prog (Op.equalIn 10000 25 (.agg #[.int .u8 m.d0.toNat, .int .u8 m.d1.toNat, .int .u8 m.d2.toNat, .int .u8 m.d3.toNat]) (.agg #[.int .u8 0, .int .u8 0, .int .u8 0, .int .u8 0])) wc = .ok z wc := by rw [← hz]; exact eq_data wc m.d0 m.d1 m.d2 m.d3 0 0 0 0
              rw [hz] at HW
              clear hz
              go_upto_if 67 with fail
              clear hq
              go_cut [3] (fun s3 wx => Jn (S3 ++ (if z = true then [] else [wData, dec m.d0, dec m.d1, dec m.d2, dec m.d3])) 140 s3 ∧ Hid (St [(bA, boxOf m, 27)] w wx))
              case first =>
                clear b7 b8 b9 b10
                cases z
                · have HE : Hid ((if false = true then [] else [wData, dec m.d0, dec m.d1, dec m.d2, dec m.d3]) = [wData] ++ ([dec m.d0, dec m.d1, dec m.d2, dec m.d3] : List (List UInt8))) := Lib.hid rfl
                  have z1 : ¬ 9223372036854775807 < s.size + 5 := by omega
                  have HJ := Lib.hid (lit_jn wData Sne.out hj.out (c := dataB) rfl)
                  have hz2 : (s ++ dataB).size ≤ 105 := by simp only [sizes, dataB_size]; omega
                  go_wp2_with fail
                  go_loopg [3, 4] 4 (fun g s3 i wr => ∃ j : Nat, j ≤ 4 ∧ 4 - j ≤ g ∧ i = .int .i64 j ∧ Jn (S3 ++ [wData] ++ [dec m.d0, dec m.d1, dec m.d2, dec m.d3].take j) (105 + 4 * j) s3 ∧ Hid (St [(bA, boxOf m, 27)] w wr))
                  case atStart => exact ⟨0, by omega, by omega, rfl, by rw [List.take_zero, List.append_nil]; exact Jn.of HJ.out hz2, HS⟩
                  case round =>
                    clear HJ hz2 hj hsz z1 HS
                    obtain ⟨j, hj4, hg, rfl, ⟨s, rfl, hj, hsz⟩, HS⟩ := hrel
                    obtain ⟨S5, hS5⟩ : ∃ X, S3 ++ [wData] ++ [dec m.d0, dec m.d1, dec m.d2, dec m.d3].take j = X := ⟨_, rfl⟩
                    by_cases hlt : j < 4
                    · have hgk : 1 ≤ gk := by omega
                      have S5ne : S5 ≠ [] := by rw [← hS5]; simp
                      obtain rfl | rfl | rfl | rfl : j = 0 ∨ j = 1 ∨ j = 2 ∨ j = 3 := by omega
                      · have HE5 := Lib.hid (show S3 ++ [wData] ++ [dec m.d0, dec m.d1, dec m.d2, dec m.d3].take (0 + 1) = S5 ++ [dec m.d0] by rw [← hS5]; simp)
                        rw [hS5] at hj
                        have HJ := Lib.hid (num_jn m.d0 S5ne hj.out)
                        have d1 := dsz m.d0
                        have bj : wr.cell? ⟨bA, 7, none⟩ = some (.int .u8 m.d0.toNat) := kcell HS (by simp) 7
                        have z1 : ¬ 9223372036854775807 < s.size + 1 := by omega
                        have z2 : ¬ 9223372036854775807 < s.size + 1 + (decS m.d0).size := by omega
                        clear hS5 S5ne
                        go_wp2_with (first | (go_at_call 29; refine (number_st2 m.d0 HS).mono ?_; rintro e w' ⟨rfl, HS2⟩) | fail)
                        go_roundg (gk - 1)
                        case measure => omega
                        case rel => exact ⟨0 + 1, by omega, by omega, rfl, by rw [HE5.out]; exact Jn.of HJ.out (by simp only [sizes, lit_size, List.size_toArray, List.length_cons, List.length_nil]; omega), HS2⟩
                      · have HE5 := Lib.hid (show S3 ++ [wData] ++ [dec m.d0, dec m.d1, dec m.d2, dec m.d3].take (1 + 1) = S5 ++ [dec m.d1] by rw [← hS5]; simp)
                        rw [hS5] at hj
                        have HJ := Lib.hid (num_jn m.d1 S5ne hj.out)
                        have d1 := dsz m.d1
                        have bj : wr.cell? ⟨bA, 8, none⟩ = some (.int .u8 m.d1.toNat) := kcell HS (by simp) 8
                        have z1 : ¬ 9223372036854775807 < s.size + 1 := by omega
                        have z2 : ¬ 9223372036854775807 < s.size + 1 + (decS m.d1).size := by omega
                        clear hS5 S5ne
                        go_wp2_with (first | (go_at_call 29; refine (number_st2 m.d1 HS).mono ?_; rintro e w' ⟨rfl, HS2⟩) | fail)
                        go_roundg (gk - 1)
                        case measure => omega
                        case rel => exact ⟨1 + 1, by omega, by omega, rfl, by rw [HE5.out]; exact Jn.of HJ.out (by simp only [sizes, lit_size, List.size_toArray, List.length_cons, List.length_nil]; omega), HS2⟩
                      · have HE5 := Lib.hid (show S3 ++ [wData] ++ [dec m.d0, dec m.d1, dec m.d2, dec m.d3].take (2 + 1) = S5 ++ [dec m.d2] by rw [← hS5]; simp)
                        rw [hS5] at hj
                        have HJ := Lib.hid (num_jn m.d2 S5ne hj.out)
                        have d1 := dsz m.d2
                        have bj : wr.cell? ⟨bA, 9, none⟩ = some (.int .u8 m.d2.toNat) := kcell HS (by simp) 9
                        have z1 : ¬ 9223372036854775807 < s.size + 1 := by omega
                        have z2 : ¬ 9223372036854775807 < s.size + 1 + (decS m.d2).size := by omega
                        clear hS5 S5ne
                        go_wp2_with (first | (go_at_call 29; refine (number_st2 m.d2 HS).mono ?_; rintro e w' ⟨rfl, HS2⟩) | fail)
                        go_roundg (gk - 1)
                        case measure => omega
                        case rel => exact ⟨2 + 1, by omega, by omega, rfl, by rw [HE5.out]; exact Jn.of HJ.out (by simp only [sizes, lit_size, List.size_toArray, List.length_cons, List.length_nil]; omega), HS2⟩
                      · have HE5 := Lib.hid (show S3 ++ [wData] ++ [dec m.d0, dec m.d1, dec m.d2, dec m.d3].take (3 + 1) = S5 ++ [dec m.d3] by rw [← hS5]; simp)
                        rw [hS5] at hj
                        have HJ := Lib.hid (num_jn m.d3 S5ne hj.out)
                        have d1 := dsz m.d3
                        have bj : wr.cell? ⟨bA, 10, none⟩ = some (.int .u8 m.d3.toNat) := kcell HS (by simp) 10
                        have z1 : ¬ 9223372036854775807 < s.size + 1 := by omega
                        have z2 : ¬ 9223372036854775807 < s.size + 1 + (decS m.d3).size := by omega
                        clear hS5 S5ne
                        go_wp2_with (first | (go_at_call 29; refine (number_st2 m.d3 HS).mono ?_; rintro e w' ⟨rfl, HS2⟩) | fail)
                        go_roundg (gk - 1)
                        case measure => omega
                        case rel => exact ⟨3 + 1, by omega, by omega, rfl, by rw [HE5.out]; exact Jn.of HJ.out (by simp only [sizes, lit_size, List.size_toArray, List.length_cons, List.length_nil]; omega), HS2⟩
                    · obtain rfl : j = 4 := by omega
                      clear hS5
                      go_wp2_with fail
                      go_meet
                      exact ⟨by rw [HE.out, ← List.append_assoc]; exact Jn.of hj.out (by omega), HS⟩
                · have HE : Hid (Jn (S3 ++ (if true = true then [] else [wData, dec m.d0, dec m.d1, dec m.d2, dec m.d3])) 140 (.string s)) := by rw [if_pos rfl, List.append_nil]; exact Jn.of hj.out (by omega)
                  go_wp2_with fail
                  go_meet
                  exact ⟨HE, HS⟩
              case rest =>
                clear hj hsz HS b7 b8 b9 b10
                obtain ⟨⟨s, rfl, hj, hsz⟩, HS⟩ := hcut
                rw [← HW.out] at hj
                obtain rfl := HT.out s hj.out
                go_wp2
                go_ret
                exact ⟨rfl, by rw [← HBA.out]; exact HS.out.b⟩
end Go.Proofs.YthllacodjeocmaaGreatDoor
