/- Parse, walked. -/
import Derived.Test.YthllacodjeocmaaGreatDoorN1
namespace Go.Proofs.YthllacodjeocmaaGreatDoor
open Go.RowKit
def needsAgg : Value := .agg needsCells.toArray
theorem needsSize : (Tryz.prog.info? 48).map (·.size) = some 39 := by kernel_rfl
theorem run_loadNeeds (W : World) (h : Needs W) : (loadVar 48 ⟨0, 0, none⟩).run Tryz.prog W = .ok needsAgg W := by
  have hl : (loadCells ⟨0, 0, none⟩ 39).run Tryz.prog W = .ok needsCells.toArray W :=
    run_loadCells_list (P := Tryz.prog) W ⟨0, 0, none⟩ needsCells (fun j v hv => by
      have hadd : (⟨0, 0, none⟩ : Addr).add j = ⟨0, j, none⟩ := by unfold Addr.add; split <;> simp_all
      rw [hadd]; exact h j v hv)
  cases hq : Tryz.prog.info? 48 with
  | none => have := needsSize; rw [hq] at this; cases this
  | some i =>
    have hs : i.size = 39 := by have := needsSize; rw [hq] at this; simpa using this
    have hagg : (isAgg 48).run Tryz.prog W = .ok true W := by
      unfold isAgg
      rw [Sem.run_bind, run_underlying Tryz.underlying48 W]
      rfl
    have hN : needsAgg = .agg needsCells.toArray := rfl
    rw [hN]
    generalize needsCells.toArray = NC at hl ⊢
    simp [loadVar, Sem.run_bind, hagg, sizeOf, typeInfo, hq, hs, hl]
theorem wpList_load_needs {ops : Array Oper} {rest : List Oper} {o : Oper} {a : Act} {w : World} {Q : Exit → Act → World → Prop} (hgd : o.guard = none) (ho : o.op = .load 48 (.global 0)) (hN : Needs w)
    (h : wpList Tryz.prog ops Q rest (a.put o.dst needsAgg) w) : wpList Tryz.prog ops Q (o :: rest) a w :=
  wpList_plain hgd fun K hK => by
    unfold Oper.wp execOp
    have hx : a.eval (.global 0) = .pointer (some ⟨0, 0, none⟩) := rfl
    simp only [ho, hx, Instr.loadAt, Instr.sureAddr, Sem.run_bind, Sem.run_pure, Result.andThen_ok, run_loadNeeds w hN]
    exact hK _ _ h
theorem idx_needs0 (W : World) : Sem.run Tryz.prog (Instr.index 48 needsAgg (.int .i64 0)) W = .ok (.agg #[.int .i64 (bitsOf 0), .int .u8 (classOf 0), .string (nameOf 0)]) W := by kernel_rfl
theorem idx_needs1 (W : World) : Sem.run Tryz.prog (Instr.index 48 needsAgg (.int .i64 1)) W = .ok (.agg #[.int .i64 (bitsOf 1), .int .u8 (classOf 1), .string (nameOf 1)]) W := by kernel_rfl
theorem idx_needs2 (W : World) : Sem.run Tryz.prog (Instr.index 48 needsAgg (.int .i64 2)) W = .ok (.agg #[.int .i64 (bitsOf 2), .int .u8 (classOf 2), .string (nameOf 2)]) W := by kernel_rfl
theorem idx_needs3 (W : World) : Sem.run Tryz.prog (Instr.index 48 needsAgg (.int .i64 3)) W = .ok (.agg #[.int .i64 (bitsOf 3), .int .u8 (classOf 3), .string (nameOf 3)]) W := by kernel_rfl
theorem idx_needs4 (W : World) : Sem.run Tryz.prog (Instr.index 48 needsAgg (.int .i64 4)) W = .ok (.agg #[.int .i64 (bitsOf 4), .int .u8 (classOf 4), .string (nameOf 4)]) W := by kernel_rfl
theorem idx_needs5 (W : World) : Sem.run Tryz.prog (Instr.index 48 needsAgg (.int .i64 5)) W = .ok (.agg #[.int .i64 (bitsOf 5), .int .u8 (classOf 5), .string (nameOf 5)]) W := by kernel_rfl
theorem idx_needs6 (W : World) : Sem.run Tryz.prog (Instr.index 48 needsAgg (.int .i64 6)) W = .ok (.agg #[.int .i64 (bitsOf 6), .int .u8 (classOf 6), .string (nameOf 6)]) W := by kernel_rfl
theorem idx_needs7 (W : World) : Sem.run Tryz.prog (Instr.index 48 needsAgg (.int .i64 7)) W = .ok (.agg #[.int .i64 (bitsOf 7), .int .u8 (classOf 7), .string (nameOf 7)]) W := by kernel_rfl
theorem idx_needs8 (W : World) : Sem.run Tryz.prog (Instr.index 48 needsAgg (.int .i64 8)) W = .ok (.agg #[.int .i64 (bitsOf 8), .int .u8 (classOf 8), .string (nameOf 8)]) W := by kernel_rfl
theorem idx_needs9 (W : World) : Sem.run Tryz.prog (Instr.index 48 needsAgg (.int .i64 9)) W = .ok (.agg #[.int .i64 (bitsOf 9), .int .u8 (classOf 9), .string (nameOf 9)]) W := by kernel_rfl
theorem idx_needs10 (W : World) : Sem.run Tryz.prog (Instr.index 48 needsAgg (.int .i64 10)) W = .ok (.agg #[.int .i64 (bitsOf 10), .int .u8 (classOf 10), .string (nameOf 10)]) W := by kernel_rfl
theorem idx_needs11 (W : World) : Sem.run Tryz.prog (Instr.index 48 needsAgg (.int .i64 11)) W = .ok (.agg #[.int .i64 (bitsOf 11), .int .u8 (classOf 11), .string (nameOf 11)]) W := by kernel_rfl
theorem idx_needs12 (W : World) : Sem.run Tryz.prog (Instr.index 48 needsAgg (.int .i64 12)) W = .ok (.agg #[.int .i64 (bitsOf 12), .int .u8 (classOf 12), .string (nameOf 12)]) W := by kernel_rfl
theorem idx_needs (W : World) (k : Nat) (hk : k < 13) : Sem.run Tryz.prog (Instr.index 48 needsAgg (.int .i64 k)) W = .ok (.agg #[.int .i64 (bitsOf k), .int .u8 (classOf k), .string (nameOf k)]) W := by
  have h : k = 0 ∨ k = 1 ∨ k = 2 ∨ k = 3 ∨ k = 4 ∨ k = 5 ∨ k = 6 ∨ k = 7 ∨ k = 8 ∨ k = 9 ∨ k = 10 ∨ k = 11 ∨ k = 12 := by omega
  rcases h with rfl | rfl | rfl | rfl | rfl | rfl | rfl | rfl | rfl | rfl | rfl | rfl | rfl
  · exact idx_needs0 W
  · exact idx_needs1 W
  · exact idx_needs2 W
  · exact idx_needs3 W
  · exact idx_needs4 W
  · exact idx_needs5 W
  · exact idx_needs6 W
  · exact idx_needs7 W
  · exact idx_needs8 W
  · exact idx_needs9 W
  · exact idx_needs10 W
  · exact idx_needs11 W
  · exact idx_needs12 W
def dset (m : Mg) : Nat → UInt8 → Mg
  | 0, v => { m with d0 := v }
  | 1, v => { m with d1 := v }
  | 2, v => { m with d2 := v }
  | _, v => { m with d3 := v }
def tl (r : List ByteArray) : Nat → List ByteArray
  | 0 => r
  | j + 1 => (tl r j).tail
def mD (m : Mg) (r : List ByteArray) : Nat → Mg
  | 0 => m
  | j + 1 => dset (mD m r j) j (numB (hd (tl r j)))
theorem list_inj {s t : ByteArray} (h : s.data.toList = t.data.toList) : s = t := by
  obtain ⟨⟨x⟩⟩ := s
  obtain ⟨⟨y⟩⟩ := t
  exact congrArg (fun l => ByteArray.mk (Array.mk l)) h
theorem hd_sz {w W : World} {rb c mb : Nat} {m : Mg} {r : List ByteArray} (h : Hid (PSt w rb c mb m r W)) : (hd r).size ≤ 10000 := hd_size h.out.sz
set_option maxHeartbeats 8000000 in
set_option maxRecDepth 100000 in
theorem parse_any (s : ByteArray) (w : World) (hG : GlobM w) (hs : s.size ≤ 10000) :
    Calls Tryz.prog 17 #[.string s] w fun e w' => e = .returned (.tuple #[(parseOf s).1.val, .int .i64 (parseOf s).2]) ∧ Below w.heap.size w w' := by
  obtain ⟨mx, hmx⟩ := hG.mx
  have hlt1 : 3 < w.heap.size := cell_lt hmx
  have hcnt := Lib.countB_le ⟨#[32]⟩ (by decide) s.size s (Nat.le_refl _)
  have hwl : (wsOf s).length = Lib.countB s ⟨#[32]⟩ + 1 := Lib.splitB_all ⟨#[32]⟩ (by decide) 0 (Lib.countB s ⟨#[32]⟩) s rfl
  have hsz : ∀ x ∈ wsOf s, x.size ≤ 10000 := fun x hx => Nat.le_trans (split_sizes ⟨#[32]⟩ (Lib.countB s ⟨#[32]⟩) s x hx) hs
  have HP : Hid (PSt w w.heap.size (w.heap.size + 1 + 1) (w.heap.size + 1 + 1 + 1) zeroM (wsOf s) ((((w.alloc (.cells #[.int .u8 0, .int .u8 0, .int .u8 0, .int .u8 0, .int .u8 0, .int .u8 0, .bool false, .int .u8 0, .int .u8 0, .int .u8 0, .int .u8 0] 27)).alloc (.cells ((wsOf s).map Value.string).toArray 9)).alloc (.cells #[.slice (some ⟨w.heap.size + 1, 0, none⟩) (Lib.countB s ⟨#[32]⟩ + 1) (Lib.countB s ⟨#[32]⟩ + 1)] 36)).alloc (.cells #[.int .u8 0, .int .u8 0, .int .u8 0, .int .u8 0, .int .u8 0, .int .u8 0, .bool false, .int .u8 0, .int .u8 0, .int .u8 0, .int .u8 0] 27))) :=
    Lib.hid (PSt.start w (wsOf s) (by omega) (by omega) hsz (Lib.countB s ⟨#[32]⟩ + 1) hwl.symm)
  have HS := Tryz.strings_Split s ⟨#[32]⟩ mx (w.alloc (.cells #[.int .u8 0, .int .u8 0, .int .u8 0, .int .u8 0, .int .u8 0, .int .u8 0, .bool false, .int .u8 0, .int .u8 0, .int .u8 0, .int .u8 0] 27)) (by omega) (by simp [World.cell?_alloc_lt, hlt1, hmx]) (by decide)
  have HS := Lib.hid HS
  have HQ : Hid (parseOf s = if textOf (candP (wsOf s)) = s.data.toList then (candP (wsOf s), 0) else (zeroM, 170)) := Lib.hid rfl
  clear hwl hcnt hsz hmx hlt1
  go_enter Tryz.func17, Tryz.ntmps17
  go_wp2_with fail
  go_at_call 34
  refine HS.out.mono ?_
  rintro e w1 ⟨rfl, rfl⟩
  rw [show Lib.splitB ⟨#[32]⟩ 0 (Lib.countB s ⟨#[32]⟩) s = wsOf s from rfl]
  clear HS
  go_wp2_with fail
  generalize ((((w.alloc (.cells #[.int .u8 0, .int .u8 0, .int .u8 0, .int .u8 0, .int .u8 0, .int .u8 0, .bool false, .int .u8 0, .int .u8 0, .int .u8 0, .int .u8 0] 27)).alloc (.cells ((wsOf s).map Value.string).toArray 9)).alloc (.cells #[.slice (some ⟨w.heap.size + 1, 0, none⟩) (Lib.countB s ⟨#[32]⟩ + 1) (Lib.countB s ⟨#[32]⟩ + 1)] 36)).alloc (.cells #[.int .u8 0, .int .u8 0, .int .u8 0, .int .u8 0, .int .u8 0, .int .u8 0, .bool false, .int .u8 0, .int .u8 0, .int .u8 0, .int .u8 0] 27)) = W0 at HP ⊢
  generalize w.heap.size + 1 + 1 + 1 = mb at HP ⊢
  generalize w.heap.size + 1 + 1 = c at HP ⊢
  generalize hws : wsOf s = ws at HP HQ ⊢
  obtain ⟨RES, hRES⟩ : ∃ RES, parseOf s = RES := ⟨_, rfl⟩
  rw [hRES] at HQ
  have HRES := Lib.hid hRES
  clear hRES
  generalize hrb : w.heap.size = rb at HP ⊢
  clear hws
  go_at_call 35
  refine (next_st HP).mono ?_
  rintro e w1 ⟨rfl, HP1⟩
  clear HP
  have HRB := Lib.hid hrb
  clear hrb
  obtain ⟨kb, hkb⟩ : ∃ kb, isW (hd ws) wKind = kb := ⟨_, rfl⟩
  have q : ((hd ws).toList == [107, 105, 110, 100]) = kb := hkb
  have HKB := Lib.hid hkb
  clear hkb
  obtain ⟨K0, hK0⟩ : ∃ K0, (if isW (hd ws) wKind = true then numB (hd ws.tail) else 0) = K0 := ⟨_, rfl⟩
  obtain ⟨R2, hR2⟩ : ∃ R2, (if isW (hd ws) wKind = true then ws.tail.tail else ws.tail) = R2 := ⟨_, rfl⟩
  have HK0 := Lib.hid hK0
  have HR2 := Lib.hid hR2
  obtain ⟨CF, hCF⟩ : ∃ CF, candP ws = CF := ⟨_, rfl⟩
  have HCF := Lib.hid hCF
  rw [hCF] at HQ
  clear hK0 hR2 hCF
  go_upto_if 21 with fail
  clear q
  go_cut [] (fun wx => Hid (PSt w rb c mb { zeroM with k := K0 } R2 wx))
  case first =>
    cases kb
    · have HE : Hid (PSt w rb c mb { zeroM with k := K0 } R2 w1) := by
        rw [← HK0.out, ← HR2.out, HKB.out]; exact HP1
      go_wp2
      go_meet
      exact HE
    · have hK : numB (hd ws.tail) = K0 := by rw [← HK0.out, HKB.out]; rfl
      have hR : ws.tail.tail = R2 := by rw [← HR2.out, HKB.out]; rfl
      have HK := Lib.hid hK
      have HR := Lib.hid hR
      clear hK hR
      have z1 := Lib.hid (hd_sz HP1)
      go_wp2_with fail
      go_at_call 35
      refine (next_st HP1).mono ?_
      rintro e w2 ⟨rfl, HP2⟩
      clear HP1
      go_wp2_with fail
      go_at_call 36
      refine (number_st hG HP2 _ z1.out).mono ?_
      rintro e w3 ⟨rfl, HP3⟩
      clear HP2
      rw [HK.out]
      rw [HR.out] at HP3
      have f0 : w3.cell? ⟨mb, 0, none⟩ = some (.int .u8 0) := HP3.out.cell 0
      have f1 := HP3.out.free 0
      have HP4 := Lib.hid (HP3.out.store (m' := { zeroM with k := K0 }) 0 (.int .u8 K0.toNat) rfl)
      go_wp2
      go_meet
      exact HP4
  case rest =>
    clear HP1
    have HP1 := hcut
    clear hcut
    have HNd := Lib.hid (hG.next HP1.out.b).n
    go_wp2_with (first | (with_reducible refine wpList_load_needs (by rfl) (by rfl) HNd.out ?_) | fail)
    obtain ⟨KF, hKF⟩ : ∃ KF, kindLoop (hd ws) 12 K0 = KF := ⟨_, rfl⟩
    have HKF := Lib.hid hKF
    clear hKF HNd
    go_loopg [28] 13 (fun g i wr => ∃ (j : Nat) (kl : UInt8), j ≤ 13 ∧ 13 - j ≤ g ∧ i = .int .i64 j ∧ Hid (kindLoop (hd ws) (min 12 (13 - j)) kl = KF) ∧ Hid (PSt w rb c mb { zeroM with k := kl } R2 wr))
    case atStart => exact ⟨0, K0, by omega, by omega, rfl, HKF, HP1⟩
    case round =>
      clear HP1
      obtain ⟨j, kl, hj, hg, rfl, HKL, HP1⟩ := hrel
      by_cases hlt : j < 13
      · have hd1 : decide ((j : Int) < 13) = true := by simp; omega
        have hgk : 1 ≤ gk := by omega
        have hj0 : (0 : Int) ≤ (j : Int) := by omega
        have hj12 : (j : Int) ≤ 12 := by omega
        have iq := idx_needs wr j hlt
        have HPa := Lib.hid (HP1.out.next ((Below.refl _ _).alloc (Nat.le_refl _) (.cells #[.int .i64 (bitsOf j), .int .u8 (classOf j), .string (nameOf j)] 47)))
        have f0 : (wr.alloc (.cells #[.int .i64 (bitsOf j), .int .u8 (classOf j), .string (nameOf j)] 47)).cell? ⟨mb, 0, none⟩ = some (.int .u8 kl.toNat) := HPa.out.cell 0
        have f1 := HPa.out.free 0
        by_cases h0 : j = 0
        · subst h0
          have iq0 := idx_needs0 wr
          have HK2 : Hid (kindLoop (hd ws) (min 12 (13 - (0 + 1))) kl = KF) := HKL
          go_wp2
          go_roundg (gk - 1)
          case measure => omega
          case rel => exact ⟨0 + 1, kl, by omega, by omega, rfl, HK2, HPa⟩
        · have hjp : decide ((0 : Int) < (j : Int)) = true := by simp; omega
          have hjp2 : (0 : Int) < (j : Int) := by omega
          have HK3 : Hid (kindLoop (hd ws) (12 - j + 1) kl = KF) := by
            have := HKL.out
            rw [show min 12 (13 - j) = 12 - j + 1 from by omega] at this
            exact Lib.hid this
          obtain ⟨nb, hnb⟩ : ∃ nb, ((nameOf j).toList == (hd ws).toList) = nb := ⟨_, rfl⟩
          have HNB : Hid (isW (nameOf (12 - (12 - j))) (hd ws).toList = nb) := Lib.hid (by rw [show 12 - (12 - j) = j from by omega]; exact hnb)
          cases nb
          · have HK2 : Hid (kindLoop (hd ws) (min 12 (13 - (j + 1))) kl = KF) := Lib.hid (by
              have := HK3.out
              unfold kindLoop at this
              rw [HNB.out] at this
              rw [show min 12 (13 - (j + 1)) = 12 - j from by omega]
              exact this)
            clear h0 HK3
            go_wp2
            go_roundg (gk - 1)
            case measure => omega
            case rel => exact ⟨j + 1, kl, by omega, by omega, by go_num, HK2, HPa⟩
          · have hju : ((UInt8.ofNat j).toNat : Int) = (j : Int) := by rw [UInt8.toNat_ofNat']; omega
            have HK2 : Hid (kindLoop (hd ws) (min 12 (13 - (j + 1))) (UInt8.ofNat j) = KF) := Lib.hid (by
              have := HK3.out
              unfold kindLoop at this
              rw [HNB.out, show 12 - (12 - j) = j from by omega] at this
              rw [show min 12 (13 - (j + 1)) = 12 - j from by omega]
              exact this)
            have HPb := Lib.hid (HPa.out.store (m' := { zeroM with k := UInt8.ofNat j }) 0 (.int .u8 (UInt8.ofNat j).toNat) rfl)
            rw [hju] at HPb
            clear h0 HK3 hju
            go_wp2
            go_roundg (gk - 1)
            case measure => omega
            case rel => exact ⟨j + 1, UInt8.ofNat j, by omega, by omega, by go_num, HK2, HPb⟩
      · obtain rfl : j = 13 := by omega
        have hkl : kl = KF := HKL.out
        subst hkl
        have z1 := Lib.hid (hd_sz HP1)
        clear HKL
        go_wp2_with fail
        go_at_call 35
        refine (next_st HP1).mono ?_
        rintro e w2 ⟨rfl, HP2⟩
        clear HP1
        go_wp2_with fail
        go_at_call 38
        refine (cut_st hG HP2 _ z1.out).mono ?_
        rintro e w3 ⟨rfl, HP3⟩
        clear HP2
        have hcz := cut_sizes (hd R2)
        have z2 := Lib.hid (Nat.le_trans hcz.1 z1.out)
        have z3 := Lib.hid (Nat.le_trans hcz.2 z1.out)
        clear hcz
        obtain ⟨CT, hCT⟩ : ∃ CT, Lib.cut (hd R2).data.toList [62] = CT := ⟨_, rfl⟩
        have HCT := Lib.hid hCT
        rw [hCT] at z2 z3 ⊢
        clear hCT
        obtain ⟨ct1, ct2, ct3⟩ := CT
        simp only at z2 z3
        go_wp2_with fail
        go_at_call 36
        refine (number_st hG HP3 _ z2.out).mono ?_
        rintro e w4 ⟨rfl, HP4⟩
        clear HP3
        go_wp2_with fail
        go_at_call 36
        refine (number_st hG HP4 _ z3.out).mono ?_
        rintro e w5 ⟨rfl, HP5⟩
        clear HP4
        have f0 : w5.cell? ⟨mb, 1, none⟩ = some (.int .u8 0) := HP5.out.cell 1
        have f1 := HP5.out.free 1
        have HP6 := Lib.hid (HP5.out.store (m' := { zeroM with k := kl, f := numB ⟨ct1.toArray⟩ }) 1 (.int .u8 (numB ⟨ct1.toArray⟩).toNat) rfl)
        have f2 : (w5.setCell ⟨mb, 1, none⟩ (.int .u8 (numB ⟨ct1.toArray⟩).toNat)).cell? ⟨mb, 2, none⟩ = some (.int .u8 0) := HP6.out.cell 2
        have f3 := HP6.out.free 2
        have HP7 := Lib.hid (HP6.out.store (m' := { zeroM with k := kl, f := numB ⟨ct1.toArray⟩, t := numB ⟨ct2.toArray⟩ }) 2 (.int .u8 (numB ⟨ct2.toArray⟩).toNat) rfl)
        go_wp2
        obtain ⟨M0, hM0⟩ : ∃ M0, ({ zeroM with k := kl, f := numB ⟨ct1.toArray⟩, t := numB ⟨ct2.toArray⟩ } : Mg) = M0 := ⟨_, rfl⟩
        have HLC : Hid (loopC R2.tail.length M0 R2.tail = CF) := Lib.hid (by
          rw [← HCF.out, ← hM0]
          unfold candP
          simp only [HR2.out, HK0.out, HKF.out, HCT.out])
        rw [hM0] at HP7
        clear hM0 HP6 HP5 f0 f1 f2 f3 z1 z2 z3 HKF HCT HK0 HR2 HKB HCF
        generalize R2.tail = R3 at HLC HP7 ⊢
        generalize (w5.setCell ⟨mb, 1, none⟩ (.int .u8 (numB ⟨ct1.toArray⟩).toNat)).setCell ⟨mb, 2, none⟩ (.int .u8 (numB ⟨ct2.toArray⟩).toNat) = w6 at HP7 ⊢
        go_loopg [] R3.length (fun g wr => ∃ (m : Mg) (r : List ByteArray), r.length ≤ g ∧ Hid (loopC g m r = CF) ∧ Hid (PSt w rb c mb m r wr))
        case atStart => exact ⟨M0, R3, Nat.le_refl _, HLC, HP7⟩
        case round =>
          clear HP7 HLC
          obtain ⟨m, r, hrl, HLC, HP⟩ := hrel
          obtain ⟨ao, cp, hc, _⟩ := HP.out.lst.v
          have hr1 := HP.out.len
          cases r with
          | nil =>
            have c0 : wr.cell? ⟨c, 0, none⟩ = some (.slice ao 0 cp) := cell_of_heap hc
            clear hc
            obtain rfl : m = CF := by
              have := HLC.out
              cases gk <;> exact this
            have p0 : wr.cell? ⟨mb, 0, none⟩ = some (.int .u8 m.k.toNat) := HP.out.cell 0
            have p1 : wr.cell? ⟨mb, 1, none⟩ = some (.int .u8 m.f.toNat) := HP.out.cell 1
            have p2 : wr.cell? ⟨mb, 2, none⟩ = some (.int .u8 m.t.toNat) := HP.out.cell 2
            have p3 : wr.cell? ⟨mb, 3, none⟩ = some (.int .u8 m.l.toNat) := HP.out.cell 3
            have p4 : wr.cell? ⟨mb, 4, none⟩ = some (.int .u8 m.a.toNat) := HP.out.cell 4
            have p5 : wr.cell? ⟨mb, 5, none⟩ = some (.int .u8 m.c.toNat) := HP.out.cell 5
            have p6 : wr.cell? ⟨mb, 6, none⟩ = some (.bool m.al) := HP.out.cell 6
            have p7 : wr.cell? ⟨mb, 7, none⟩ = some (.int .u8 m.d0.toNat) := HP.out.cell 7
            have p8 : wr.cell? ⟨mb, 8, none⟩ = some (.int .u8 m.d1.toNat) := HP.out.cell 8
            have p9 : wr.cell? ⟨mb, 9, none⟩ = some (.int .u8 m.d2.toNat) := HP.out.cell 9
            have p10 : wr.cell? ⟨mb, 10, none⟩ = some (.int .u8 m.d3.toNat) := HP.out.cell 10
            have HTX := Lib.hid (text_st hG HP)
            clear HLC HP
            go_wp2_with fail
            go_at_call 14
            refine HTX.out.mono ?_
            rintro e w7 ⟨rfl, HP1⟩
            clear p0 p1 p2 p3 p4 p5 p6 p7 p8 p9 p10 c0 HTX
            obtain ⟨eb, q1⟩ : ∃ eb, (textOf m == s.toList) = eb := ⟨_, rfl⟩
            have HE : Hid (RES = if eb = true then (m, 0) else (zeroM, 170)) := Lib.hid (by
              rw [HQ.out]
              rw [ByteArray.toList_eq] at q1
              cases eb
              · rw [if_neg (by simpa using q1), if_neg (by decide)]
              · rw [if_pos (by simpa using q1), if_pos rfl])
            have r0 : w7.cell? ⟨rb, 0, none⟩ = some (.int .u8 0) := cell_of_heap (i := 0) HP1.out.res
            have g0 : w7.frozen? ⟨rb, 0, none⟩ = false := free_of_heap (i := 0) HP1.out.res
            have r1 : w7.cell? ⟨rb, 1, none⟩ = some (.int .u8 0) := cell_of_heap (i := 1) HP1.out.res
            have g1 : w7.frozen? ⟨rb, 1, none⟩ = false := free_of_heap (i := 1) HP1.out.res
            have r2 : w7.cell? ⟨rb, 2, none⟩ = some (.int .u8 0) := cell_of_heap (i := 2) HP1.out.res
            have g2 : w7.frozen? ⟨rb, 2, none⟩ = false := free_of_heap (i := 2) HP1.out.res
            have r3 : w7.cell? ⟨rb, 3, none⟩ = some (.int .u8 0) := cell_of_heap (i := 3) HP1.out.res
            have g3 : w7.frozen? ⟨rb, 3, none⟩ = false := free_of_heap (i := 3) HP1.out.res
            have r4 : w7.cell? ⟨rb, 4, none⟩ = some (.int .u8 0) := cell_of_heap (i := 4) HP1.out.res
            have g4 : w7.frozen? ⟨rb, 4, none⟩ = false := free_of_heap (i := 4) HP1.out.res
            have r5 : w7.cell? ⟨rb, 5, none⟩ = some (.int .u8 0) := cell_of_heap (i := 5) HP1.out.res
            have g5 : w7.frozen? ⟨rb, 5, none⟩ = false := free_of_heap (i := 5) HP1.out.res
            have r6 : w7.cell? ⟨rb, 6, none⟩ = some (.bool false) := cell_of_heap (i := 6) HP1.out.res
            have g6 : w7.frozen? ⟨rb, 6, none⟩ = false := free_of_heap (i := 6) HP1.out.res
            have r7 : w7.cell? ⟨rb, 7, none⟩ = some (.int .u8 0) := cell_of_heap (i := 7) HP1.out.res
            have g7 : w7.frozen? ⟨rb, 7, none⟩ = false := free_of_heap (i := 7) HP1.out.res
            have r8 : w7.cell? ⟨rb, 8, none⟩ = some (.int .u8 0) := cell_of_heap (i := 8) HP1.out.res
            have g8 : w7.frozen? ⟨rb, 8, none⟩ = false := free_of_heap (i := 8) HP1.out.res
            have r9 : w7.cell? ⟨rb, 9, none⟩ = some (.int .u8 0) := cell_of_heap (i := 9) HP1.out.res
            have g9 : w7.frozen? ⟨rb, 9, none⟩ = false := free_of_heap (i := 9) HP1.out.res
            have r10 : w7.cell? ⟨rb, 10, none⟩ = some (.int .u8 0) := cell_of_heap (i := 10) HP1.out.res
            have g10 : w7.frozen? ⟨rb, 10, none⟩ = false := free_of_heap (i := 10) HP1.out.res
            cases eb
            · go_wp2
              have hw1 := stored11 HP1.out.res (.int .u8 zeroM.k.toNat) (.int .u8 zeroM.f.toNat) (.int .u8 zeroM.t.toNat) (.int .u8 zeroM.l.toNat) (.int .u8 zeroM.a.toNat) (.int .u8 zeroM.c.toNat) (.bool zeroM.al) (.int .u8 zeroM.d0.toNat) (.int .u8 zeroM.d1.toNat) (.int .u8 zeroM.d2.toNat) (.int .u8 zeroM.d3.toNat)
              have hw2 := below11 HP1.out.b HP1.out.o1 (.int .u8 zeroM.k.toNat) (.int .u8 zeroM.f.toNat) (.int .u8 zeroM.t.toNat) (.int .u8 zeroM.l.toNat) (.int .u8 zeroM.a.toNat) (.int .u8 zeroM.c.toNat) (.bool zeroM.al) (.int .u8 zeroM.d0.toNat) (.int .u8 zeroM.d1.toNat) (.int .u8 zeroM.d2.toNat) (.int .u8 zeroM.d3.toNat)
              exact bodyPost_ret (v := .tuple #[zeroM.val, .int .i64 170]) (results13_run _ _ rb zeroM 170 rfl rfl hw1) rfl ⟨by rw [HRES.out, HE.out]; rfl, hw2⟩
            · have p0 : w7.cell? ⟨mb, 0, none⟩ = some (.int .u8 m.k.toNat) := HP1.out.cell 0
              have p1 : w7.cell? ⟨mb, 1, none⟩ = some (.int .u8 m.f.toNat) := HP1.out.cell 1
              have p2 : w7.cell? ⟨mb, 2, none⟩ = some (.int .u8 m.t.toNat) := HP1.out.cell 2
              have p3 : w7.cell? ⟨mb, 3, none⟩ = some (.int .u8 m.l.toNat) := HP1.out.cell 3
              have p4 : w7.cell? ⟨mb, 4, none⟩ = some (.int .u8 m.a.toNat) := HP1.out.cell 4
              have p5 : w7.cell? ⟨mb, 5, none⟩ = some (.int .u8 m.c.toNat) := HP1.out.cell 5
              have p6 : w7.cell? ⟨mb, 6, none⟩ = some (.bool m.al) := HP1.out.cell 6
              have p7 : w7.cell? ⟨mb, 7, none⟩ = some (.int .u8 m.d0.toNat) := HP1.out.cell 7
              have p8 : w7.cell? ⟨mb, 8, none⟩ = some (.int .u8 m.d1.toNat) := HP1.out.cell 8
              have p9 : w7.cell? ⟨mb, 9, none⟩ = some (.int .u8 m.d2.toNat) := HP1.out.cell 9
              have p10 : w7.cell? ⟨mb, 10, none⟩ = some (.int .u8 m.d3.toNat) := HP1.out.cell 10
              go_wp2
              have hw1 := stored11 HP1.out.res (.int .u8 m.k.toNat) (.int .u8 m.f.toNat) (.int .u8 m.t.toNat) (.int .u8 m.l.toNat) (.int .u8 m.a.toNat) (.int .u8 m.c.toNat) (.bool m.al) (.int .u8 m.d0.toNat) (.int .u8 m.d1.toNat) (.int .u8 m.d2.toNat) (.int .u8 m.d3.toNat)
              have hw2 := below11 HP1.out.b HP1.out.o1 (.int .u8 m.k.toNat) (.int .u8 m.f.toNat) (.int .u8 m.t.toNat) (.int .u8 m.l.toNat) (.int .u8 m.a.toNat) (.int .u8 m.c.toNat) (.bool m.al) (.int .u8 m.d0.toNat) (.int .u8 m.d1.toNat) (.int .u8 m.d2.toNat) (.int .u8 m.d3.toNat)
              exact bodyPost_ret (v := .tuple #[m.val, .int .i64 0]) (results13_run _ _ rb m 0 rfl rfl hw1) rfl ⟨by rw [HRES.out, HE.out]; rfl, hw2⟩
          | cons x r =>
            have c0 : wr.cell? ⟨c, 0, none⟩ = some (.slice ao (r.length + 1) cp) := cell_of_heap hc
            have hpos : (0 : Int) < (r.length : Int) + 1 := by omega
            clear hc
            obtain ⟨g1, rfl⟩ : ∃ g1, gk = g1 + 1 := ⟨gk - 1, by simp at hrl; omega⟩
            have hrg : r.length ≤ g1 := by simpa using hrl
            have hr2 : r.length ≤ 10000 := by simpa using hr1
            clear hrl hr1
            obtain ⟨wo, rfl⟩ : ∃ wo : World, wo = wr := ⟨_, rfl⟩
            obtain ⟨b1, q1⟩ : ∃ b1, (x.toList == [108, 105, 110, 101]) = b1 := ⟨_, rfl⟩
            obtain ⟨b2, q2⟩ : ∃ b2, (x.toList == [97, 115, 107, 101, 114]) = b2 := ⟨_, rfl⟩
            obtain ⟨b3, q3⟩ : ∃ b3, (x.toList == [97, 99, 107, 115]) = b3 := ⟨_, rfl⟩
            obtain ⟨b4, q4⟩ : ∃ b4, (x.toList == [97, 108, 111, 110, 101]) = b4 := ⟨_, rfl⟩
            obtain ⟨b5, q5⟩ : ∃ b5, (x.toList == [100, 97, 116, 97]) = b5 := ⟨_, rfl⟩
            have HL2 : Hid ((if b1 = true then loopC g1 { m with l := numB (hd r) } r.tail
              else if b2 = true then loopC g1 { m with a := numB (hd r) } r.tail
              else if b3 = true then loopC g1 { m with c := numB (hd r) } r.tail
              else if b4 = true then loopC g1 { m with al := true } r
              else if b5 = true then loopC g1 { m with d0 := numB (hd r), d1 := numB (hd r.tail), d2 := numB (hd r.tail.tail), d3 := numB (hd r.tail.tail.tail) } r.tail.tail.tail.tail
              else loopC g1 m r) = CF) := Lib.hid (by
                have := HLC.out
                unfold loopC isW at this
                rw [show (x.toList == wLine) = b1 from q1, show (x.toList == wAsker) = b2 from q2, show (x.toList == wAcks) = b3 from q3, show (x.toList == wAlone) = b4 from q4, show (x.toList == wData) = b5 from q5] at this
                exact this)
            have ht1 : r.tail.length ≤ g1 := by simp; omega
            have ht4 : r.tail.tail.tail.tail.length ≤ g1 := by simp; omega
            have hx : hd (x :: r) = x := rfl
            clear HLC
            go_wp2_with fail
            go_at_call 35
            refine (next_st HP).mono ?_
            rintro e w7 ⟨rfl, HP1⟩
            rw [hx]
            have HP1 : Hid (PSt w rb c mb m r w7) := HP1
            have z1 := Lib.hid (hd_sz HP1)
            clear HP c0 hpos hx
            cases b1
            · cases b2
              · cases b3
                · cases b4
                  · cases b5
                    · go_wp2
                      go_roundg g1
                      case measure => omega
                      case rel => exact ⟨m, r, hrg, HL2, HP1⟩
                    · go_wp2
                      go_loopg [90] 4 (fun g2 i wr => ∃ j : Nat, j ≤ 4 ∧ 4 - j ≤ g2 ∧ i = .int .i64 j ∧ Hid (PSt w rb c mb (mD m r j) (tl r j) wr))
                      case atStart => exact ⟨0, by omega, by omega, rfl, HP1⟩
                      case round =>
                        clear HP1 z1
                        obtain ⟨j, hj, hg2, rfl, HP1⟩ := hrel
                        have z1 := Lib.hid (hd_sz HP1)
                        by_cases hlt : j < 4
                        · have hgk : 1 ≤ gk := by omega
                          have h4 : j = 0 ∨ j = 1 ∨ j = 2 ∨ j = 3 := by omega
                          obtain ⟨MJ, hMJ⟩ : ∃ MJ, mD m r j = MJ := ⟨_, rfl⟩
                          obtain ⟨TJ, hTJ⟩ : ∃ TJ, tl r j = TJ := ⟨_, rfl⟩
                          have HMJ := Lib.hid hMJ
                          have HTJ := Lib.hid hTJ
                          rw [hMJ, hTJ] at HP1
                          rw [hTJ] at z1
                          clear hMJ hTJ hlt hj
                          rcases h4 with rfl | rfl | rfl | rfl
                          · go_wp2_with fail
                            go_at_call 35
                            refine (next_st HP1).mono ?_
                            rintro e w8 ⟨rfl, HP2⟩
                            clear HP1
                            go_wp2_with fail
                            go_at_call 36
                            refine (number_st hG HP2 _ z1.out).mono ?_
                            rintro e w9 ⟨rfl, HP3⟩
                            clear HP2
                            have f0 : w9.cell? ⟨mb, 7, none⟩ = some (.int .u8 MJ.d0.toNat) := HP3.out.cell 7
                            have f1 := HP3.out.free 7
                            have HP4 : Hid (PSt w rb c mb (mD m r (0 + 1)) (tl r (0 + 1)) _) := Lib.hid (HP3.out.store (m' := dset MJ 0 (numB (hd TJ))) 7 (.int .u8 (numB (hd TJ)).toNat) rfl |> fun h => by rw [show mD m r (0 + 1) = dset MJ 0 (numB (hd TJ)) by rw [← HMJ.out, ← HTJ.out]; rfl, show tl r (0 + 1) = TJ.tail by rw [← HTJ.out]; rfl]; exact h)
                            go_wp2
                            go_roundg (gk - 1)
                            case measure => omega
                            case rel => exact ⟨0 + 1, by omega, by omega, rfl, HP4⟩
                          · go_wp2_with fail
                            go_at_call 35
                            refine (next_st HP1).mono ?_
                            rintro e w8 ⟨rfl, HP2⟩
                            clear HP1
                            go_wp2_with fail
                            go_at_call 36
                            refine (number_st hG HP2 _ z1.out).mono ?_
                            rintro e w9 ⟨rfl, HP3⟩
                            clear HP2
                            have f0 : w9.cell? ⟨mb, 8, none⟩ = some (.int .u8 MJ.d1.toNat) := HP3.out.cell 8
                            have f1 := HP3.out.free 8
                            have HP4 : Hid (PSt w rb c mb (mD m r (1 + 1)) (tl r (1 + 1)) _) := Lib.hid (HP3.out.store (m' := dset MJ 1 (numB (hd TJ))) 8 (.int .u8 (numB (hd TJ)).toNat) rfl |> fun h => by rw [show mD m r (1 + 1) = dset MJ 1 (numB (hd TJ)) by rw [← HMJ.out, ← HTJ.out]; rfl, show tl r (1 + 1) = TJ.tail by rw [← HTJ.out]; rfl]; exact h)
                            go_wp2
                            go_roundg (gk - 1)
                            case measure => omega
                            case rel => exact ⟨1 + 1, by omega, by omega, rfl, HP4⟩
                          · go_wp2_with fail
                            go_at_call 35
                            refine (next_st HP1).mono ?_
                            rintro e w8 ⟨rfl, HP2⟩
                            clear HP1
                            go_wp2_with fail
                            go_at_call 36
                            refine (number_st hG HP2 _ z1.out).mono ?_
                            rintro e w9 ⟨rfl, HP3⟩
                            clear HP2
                            have f0 : w9.cell? ⟨mb, 9, none⟩ = some (.int .u8 MJ.d2.toNat) := HP3.out.cell 9
                            have f1 := HP3.out.free 9
                            have HP4 : Hid (PSt w rb c mb (mD m r (2 + 1)) (tl r (2 + 1)) _) := Lib.hid (HP3.out.store (m' := dset MJ 2 (numB (hd TJ))) 9 (.int .u8 (numB (hd TJ)).toNat) rfl |> fun h => by rw [show mD m r (2 + 1) = dset MJ 2 (numB (hd TJ)) by rw [← HMJ.out, ← HTJ.out]; rfl, show tl r (2 + 1) = TJ.tail by rw [← HTJ.out]; rfl]; exact h)
                            go_wp2
                            go_roundg (gk - 1)
                            case measure => omega
                            case rel => exact ⟨2 + 1, by omega, by omega, rfl, HP4⟩
                          · go_wp2_with fail
                            go_at_call 35
                            refine (next_st HP1).mono ?_
                            rintro e w8 ⟨rfl, HP2⟩
                            clear HP1
                            go_wp2_with fail
                            go_at_call 36
                            refine (number_st hG HP2 _ z1.out).mono ?_
                            rintro e w9 ⟨rfl, HP3⟩
                            clear HP2
                            have f0 : w9.cell? ⟨mb, 10, none⟩ = some (.int .u8 MJ.d3.toNat) := HP3.out.cell 10
                            have f1 := HP3.out.free 10
                            have HP4 : Hid (PSt w rb c mb (mD m r (3 + 1)) (tl r (3 + 1)) _) := Lib.hid (HP3.out.store (m' := dset MJ 3 (numB (hd TJ))) 10 (.int .u8 (numB (hd TJ)).toNat) rfl |> fun h => by rw [show mD m r (3 + 1) = dset MJ 3 (numB (hd TJ)) by rw [← HMJ.out, ← HTJ.out]; rfl, show tl r (3 + 1) = TJ.tail by rw [← HTJ.out]; rfl]; exact h)
                            go_wp2
                            go_roundg (gk - 1)
                            case measure => omega
                            case rel => exact ⟨3 + 1, by omega, by omega, rfl, HP4⟩
                        · obtain rfl : j = 4 := by omega
                          go_wp2
                          go_roundg g1
                          case measure => omega
                          case rel => exact ⟨{ m with d0 := numB (hd r), d1 := numB (hd r.tail), d2 := numB (hd r.tail.tail), d3 := numB (hd r.tail.tail.tail) }, r.tail.tail.tail.tail, ht4, HL2, HP1⟩
                  · have f0 : w7.cell? ⟨mb, 6, none⟩ = some (.bool m.al) := HP1.out.cell 6
                    have f1 := HP1.out.free 6
                    have HP2 := Lib.hid (HP1.out.store (m' := { m with al := true }) 6 (.bool true) rfl)
                    go_wp2
                    go_roundg g1
                    case measure => omega
                    case rel => exact ⟨{ m with al := true }, r, hrg, HL2, HP2⟩
                · go_wp2_with fail
                  go_at_call 35
                  refine (next_st HP1).mono ?_
                  rintro e w8 ⟨rfl, HP2⟩
                  clear HP1
                  go_wp2_with fail
                  go_at_call 36
                  refine (number_st hG HP2 _ z1.out).mono ?_
                  rintro e w9 ⟨rfl, HP3⟩
                  clear HP2
                  have f0 : w9.cell? ⟨mb, 5, none⟩ = some (.int .u8 m.c.toNat) := HP3.out.cell 5
                  have f1 := HP3.out.free 5
                  have HP4 := Lib.hid (HP3.out.store (m' := { m with c := numB (hd r) }) 5 (.int .u8 (numB (hd r)).toNat) rfl)
                  go_wp2
                  go_roundg g1
                  case measure => omega
                  case rel => exact ⟨{ m with c := numB (hd r) }, r.tail, ht1, HL2, HP4⟩
              · go_wp2_with fail
                go_at_call 35
                refine (next_st HP1).mono ?_
                rintro e w8 ⟨rfl, HP2⟩
                clear HP1
                go_wp2_with fail
                go_at_call 36
                refine (number_st hG HP2 _ z1.out).mono ?_
                rintro e w9 ⟨rfl, HP3⟩
                clear HP2
                have f0 : w9.cell? ⟨mb, 4, none⟩ = some (.int .u8 m.a.toNat) := HP3.out.cell 4
                have f1 := HP3.out.free 4
                have HP4 := Lib.hid (HP3.out.store (m' := { m with a := numB (hd r) }) 4 (.int .u8 (numB (hd r)).toNat) rfl)
                go_wp2
                go_roundg g1
                case measure => omega
                case rel => exact ⟨{ m with a := numB (hd r) }, r.tail, ht1, HL2, HP4⟩
            · go_wp2_with fail
              go_at_call 35
              refine (next_st HP1).mono ?_
              rintro e w8 ⟨rfl, HP2⟩
              clear HP1
              go_wp2_with fail
              go_at_call 36
              refine (number_st hG HP2 _ z1.out).mono ?_
              rintro e w9 ⟨rfl, HP3⟩
              clear HP2
              have f0 : w9.cell? ⟨mb, 3, none⟩ = some (.int .u8 m.l.toNat) := HP3.out.cell 3
              have f1 := HP3.out.free 3
              have HP4 := Lib.hid (HP3.out.store (m' := { m with l := numB (hd r) }) 3 (.int .u8 (numB (hd r)).toNat) rfl)
              go_wp2
              go_roundg g1
              case measure => omega
              case rel => exact ⟨{ m with l := numB (hd r) }, r.tail, ht1, HL2, HP4⟩
end Go.Proofs.YthllacodjeocmaaGreatDoor
