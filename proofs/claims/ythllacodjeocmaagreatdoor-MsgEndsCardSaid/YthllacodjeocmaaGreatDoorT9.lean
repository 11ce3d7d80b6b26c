/- The reference's Parse, walked. -/
import Derived.Test.YthllacodjeocmaaGreatDoorT4
import Derived.Test.YthllacodjeocmaaGreatDoorT7
import Derived.Test.YthllacodjeocmaaGreatDoorY2
namespace Go.Proofs.YthllacodjeocmaaGreatDoor
open Go.RowKit
attribute [local go_sem] Oper.semAt_some
def StrAt (W : World) (g o : Nat) (L : List (List UInt8)) : Prop := ∀ j x, L[j]? = some x → W.cell? ⟨g, o + j, none⟩ = some (.string (wb x))
theorem fa25_7 (b : Nat) (W : World) : (Instr.fieldAt 27 (.pointer (some ⟨b, 0, none⟩)) 7).run Tryz.prog W = .ok (.pointer (some ⟨b, 7, none⟩)) W := by kernel_rfl
theorem nm54 : (Tryz.f53.name == "runtime.NumGoroutine") = false := by kernel_rfl
theorem bd54 : Tryz.f53.body.isNone = false := by kernel_rfl
structure PR (w : World) (rb mb g o : Nat) (L : List (List UInt8)) (m : Mg) (W : World) : Prop where
  st : St [(mb, boxOf m, 27), (rb, boxOf zeroM, 27)] w W
  c : StrAt W g o L
  d1 : g < mb
  d2 : rb < g
  o1 : w.heap.size ≤ rb
  h7 : 5 ≤ mb
section
variable {w W W' : World} {rb mb g o : Nat} {L : List (List UInt8)} {m m' : Mg}
theorem PR.next (h : PR w rb mb g o L m W) (hb : Below W.heap.size W W') : PR w rb mb g o L m W' :=
  ⟨h.st.next hb, fun j x hx => by
    have h1 := h.c j x hx
    exact (World.cell?_of_block (w := W) (hb.block g (cell_lt h1))).trans h1, h.d1, h.d2, h.o1, h.h7⟩
theorem only_set (b i : Nat) (v : Value) (W : World) : OnlyC b W (W.setCell ⟨b, i, none⟩ v) := ⟨rfl, rfl, rfl, by simp [World.setCell], fun k hk => heap_set_other hk v⟩
theorem PR.store (h : PR w rb mb g o L m W) (i : Nat) (v : Value) (he : (boxOf m).setIfInBounds i v = boxOf m') : PR w rb mb g o L m' (W.setCell ⟨mb, i, none⟩ v) := by
  have hb := h.st.h (mb, boxOf m, 27) (by simp)
  have hn := heap_set (i := i) hb v
  rw [he] at hn
  refine ⟨h.st.only (only_set mb i v W) (by have := h.o1; have := h.d1; have := h.d2; omega) h.h7 (fun x hx => ?_) hn, fun j x hx => ?_, h.d1, h.d2, h.o1, h.h7⟩
  · rw [List.mem_singleton] at hx; subst hx; show rb ≠ mb; have := h.d1; have := h.d2; omega
  · have h1 := h.c j x hx
    rw [World.cell?_of_block (w := W) (heap_set_other (by show g ≠ mb; have := h.d1; omega) v)]
    exact h1
theorem PR.cell (h : Hid (PR w rb mb g o L m W)) (i : Nat) : W.cell? ⟨mb, i, none⟩ = (boxOf m)[i]? := cell_of_heap (h.out.st.h (mb, boxOf m, 27) (by simp))
theorem PR.free (h : Hid (PR w rb mb g o L m W)) (i : Nat) : W.frozen? ⟨mb, i, none⟩ = false := free_of_heap (h.out.st.h (mb, boxOf m, 27) (by simp))
theorem PR.tail {x : List UInt8} (h : PR w rb mb g o (x :: L) m W) : PR w rb mb g (o + 1) L m W :=
  ⟨h.st, fun j y hy => by have := h.c (j + 1) y (by simpa using hy); rwa [show o + 1 + j = o + (j + 1) by omega], h.d1, h.d2, h.o1, h.h7⟩
theorem wst_at {wr : World} {ws : List (List UInt8)} {g n cap : Nat} (h : WSt wr (.slice (some ⟨g, 0, none⟩) n cap) ws W) : StrAt W g 0 ws := fun j x hx => by
  have h1 := h.row.cells (g := g) rfl j (strv x) (by rw [List.getElem?_map, hx]; rfl)
  have : (⟨g, 0, none⟩ : Addr).add j = ⟨g, 0 + j, none⟩ := by unfold Addr.add; split <;> simp_all
  rw [this] at h1
  exact h1
theorem wst_form {wr : World} {ws : List (List UInt8)} {g n cap : Nat} (h : WSt wr (.slice (some ⟨g, 0, none⟩) n cap) ws W) : n = ws.length ∧ n ≤ cap ∧ wr.heap.size ≤ g ∧ g < W.heap.size := by
  rcases h.row.2 with ⟨hv, _⟩ | ⟨g', cap', cur, hv, hg, hh, hn, _⟩
  · cases hv
  · injection hv with h1 h2 h3
    injection h1 with h1
    injection h1 with h1
    subst h1 h3
    exact ⟨h2, by omega, hg, blk_lt hh⟩
end
theorem wb_list (x : List UInt8) : (wb x).toList = x := by rw [ByteArray.toList_eq]; rfl
theorem wb_size (x : List UInt8) : (wb x).size = x.length := by show x.toArray.size = _; simp
theorem val_st (x : List UInt8) (hx : x.length ≤ 10000) (W : World) : Calls Tryz.prog 53 #[.string (wb x)] W fun e w' => e = .returned (.int .u8 (valL x).toNat) ∧ W = w' := value_any (wb x) W (by rw [wb_size]; exact hx)
theorem results27_run (tmps : Array Value) (W : World) (rb : Nat) (m : Mg) (er : Int) (h2 : tmps.getD 2 undef = .pointer (some ⟨rb, 0, none⟩)) (h3 : tmps.getD 3 undef = .int .i64 er) (h : W.heap[rb]? = some (.cells (boxOf m) 27)) :
    (results Tryz.f33 tmps).run Tryz.prog W = .ok (.tuple #[m.val, .int .i64 er]) W := by
  have hl := load_msg W rb m h
  have h2' : tmps[2]?.getD undef = .pointer (some ⟨rb, 0, none⟩) := by simpa using h2
  have h3' : tmps[3]?.getD undef = .int .i64 er := by simpa using h3
  simp [results, Tryz.results33, h2', h3', asAddr, hl]
set_option maxHeartbeats 16000000 in
set_option maxRecDepth 100000 in
theorem rparse_any (s : ByteArray) (w : World) (hG : GlobM w) (hs : s.size ≤ 1000) : Calls Tryz.prog 33 #[.string s] w fun e w' => e = .returned (.tuple #[(rparseOf s).1.val, .int .i64 (rparseOf s).2]) ∧ Below w.heap.size w w' := by
  have HW0 := Lib.hid (fun W => words_any s W hs)
  have HSt : Hid (St [(w.heap.size, boxOf zeroM, 27)] w (w.alloc (.cells (boxOf zeroM) 27))) := Lib.hid ((St.start hG).boxed (boxOf zeroM) rfl)
  have HRP : Hid (rparseOf s = if textOf (candR (wsplit s.data.toList [])) = s.data.toList then (candR (wsplit s.data.toList []), 0) else (zeroM, 170)) := Lib.hid rfl
  have hsz := wsplit_sizes s.data.toList [] 1000 (by simpa using hs)
  have hne := wsplit_ne s.data.toList []
  generalize wsplit s.data.toList [] = WL at HW0 HRP hsz hne
  obtain ⟨RES, hRES⟩ : ∃ RES, rparseOf s = RES := ⟨_, rfl⟩
  rw [hRES] at HRP
  have HRES := Lib.hid hRES
  clear hRES hG
  obtain ⟨x0, r, rfl⟩ : ∃ x r, WL = x :: r := by
    cases WL with
    | nil => exact absurd rfl hne
    | cons x r => exact ⟨x, r, rfl⟩
  clear hne
  have Hsz := Lib.hid hsz
  clear hsz
  obtain ⟨CD, hCD⟩ : ∃ CD, candR (x0 :: r) = CD := ⟨_, rfl⟩
  rw [hCD] at HRP
  have HCD := Lib.hid hCD
  clear hCD
  go_enter Tryz.func33, Tryz.ntmps33
  go_wp2_with fail
  go_at_call 52
  refine (HW0.out _).mono ?_
  rintro e w1 ⟨g, cap, rfl, hlen, HW1⟩
  clear HW0
  obtain ⟨_, hcap, hg1, hg2⟩ := wst_form HW1.out
  simp at hg1
  have HP : Hid (PR w w.heap.size w1.heap.size g 0 (x0 :: r) zeroM (w1.alloc (.cells #[.int .u8 0, .int .u8 0, .int .u8 0, .int .u8 0, .int .u8 0, .int .u8 0, .bool false, .int .u8 0, .int .u8 0, .int .u8 0, .int .u8 0] 27))) := Lib.hid (by
    show PR w w.heap.size w1.heap.size g 0 (x0 :: r) zeroM (w1.alloc (.cells (boxOf zeroM) 27))
    have h1 := (HSt.out.next HW1.out.b)
    refine ⟨h1.boxed (boxOf zeroM) rfl, fun j x hx => ?_, hg2, by omega, Nat.le_refl _, h1.g.g.size⟩
    exact calloc (wst_at HW1.out j x hx))
  have hx0 : w1.cell? ⟨g, 0, none⟩ = some (.string (wb x0)) := wst_at HW1.out 0 x0 rfl
  clear HW1 HSt hg1
  obtain ⟨n, hn⟩ : ∃ n, (x0 :: r).length = n := ⟨_, rfl⟩
  have hn1 : n = r.length + 1 := by rw [← hn]; rfl
  rw [hn]
  have Hn := Lib.hid hn1
  have hn2 : 1 ≤ n := by omega
  have hn3 : n ≤ 1001 := by rw [← hn]; exact hlen
  have hn4 : n ≤ cap := by omega
  clear hcap hlen hn hn1
  obtain ⟨kb, hkb⟩ : ∃ kb, decide (x0 = wKind ∧ 1 ≤ r.length) = kb := ⟨_, rfl⟩
  go_upto_region 3 with fail
  go_cut [20] (fun s20 wx => s20 = .bool kb ∧ Hid (PR w w.heap.size w1.heap.size g 0 (x0 :: r) zeroM wx))
  case first =>
    have hpos : 0 < n := by omega
    have hn1 := Hn.out
    by_cases h1 : x0 = wKind
    · have q : ((wb x0).toList == [107, 105, 110, 100]) = true := by rw [wb_list, h1]; rfl
      by_cases h2 : 1 < n
      · have q2 : decide ((1 : Int) < (n : Int)) = true := by simp; omega
        obtain rfl : kb = true := by rw [← hkb]; exact decide_eq_true ⟨h1, by omega⟩
        clear hkb h1 hn1
        go_wp2
        go_meet
        exact ⟨rfl, HP⟩
      · have q2 : decide ((1 : Int) < (n : Int)) = false := by simp; omega
        obtain rfl : kb = false := by rw [← hkb]; exact decide_eq_false (fun h => by omega)
        clear hkb h1 hn1
        go_wp2
        go_meet
        exact ⟨rfl, HP⟩
    · have q : ((wb x0).toList == [107, 105, 110, 100]) = false := by rw [wb_list, beq_eq_false_iff_ne]; exact h1
      obtain rfl : kb = false := by rw [← hkb]; exact decide_eq_false (fun h => h1 h.1)
      clear hkb h1 hn1
      go_wp2
      go_meet
      exact ⟨rfl, HP⟩
  case rest =>
    clear hx0 HP
    obtain ⟨rfl, HP⟩ := hcut
    generalize hrb : w.heap.size = rb at HP ⊢
    have HRB := Lib.hid hrb
    clear hrb
    generalize w1.heap.size = mb at HP hg2 ⊢
    have HKB := Lib.hid hkb
    clear hkb
    go_upto_if 20 with fail
    go_cut [4] (fun s4 wx => ∃ (o n' cap' : Nat) (y : List UInt8) (L' : List (List UInt8)) (K0 : UInt8), s4 = .slice (some ⟨g, o, none⟩) n' cap' ∧ n' = L'.length + 1 ∧ n' ≤ 1001 ∧ n' ≤ cap' ∧ Hid (CD = runW 1 L' { zeroM with k := kindR y 12 K0 }) ∧ Hid (∀ x ∈ y :: L', x.length ≤ 1000) ∧ Hid (PR w rb mb g o (y :: L') { zeroM with k := K0 } wx))
    case first =>
      cases kb
      · have hc := HCD.out
        have hk := of_decide_eq_false HKB.out
        unfold candR at hc
        simp only at hc
        rw [if_neg hk] at hc
        have HC := Lib.hid hc.symm
        clear hc hk
        go_wp2
        go_meet
        exact ⟨0, n, cap, x0, r, 0, rfl, Hn.out, hn3, hn4, HC, Hsz, HP⟩
      · have hk := of_decide_eq_true HKB.out
        have hc := HCD.out
        unfold candR at hc
        simp only at hc
        rw [if_pos hk] at hc
        obtain ⟨y, L', rfl⟩ : ∃ y L', r = y :: L' := by
          cases r with
          | nil => simp at hk
          | cons y z => exact ⟨y, z, rfl⟩
        simp only at hc
        have HC := Lib.hid hc.symm
        have h2 := Hn.out
        have hx1 : wc.cell? ⟨g, 1, none⟩ = some (.string (wb y)) := HP.out.c 1 y rfl
        have b0 : wc.cell? ⟨mb, 0, none⟩ = some (.int .u8 0) := PR.cell HP 0
        have f0 : wc.frozen? ⟨mb, 0, none⟩ = false := PR.free HP 0
        have HY := Lib.hid (val_st y (by have := Hsz.out y (by simp); omega))
        have hn5 : 1 < n := by simp at h2; omega
        have hn6 : ¬ cap = 1 := by omega
        have HP2 := Lib.hid (HP.out.tail.store (m' := { zeroM with k := valL y }) 0 (.int .u8 (valL y).toNat) rfl)
        clear hc hk h2
        go_wp2_with (first | (go_at_call 53; refine (HY.out _).mono ?_; rintro e w' ⟨rfl, rfl⟩) | fail)
        go_meet
        exact ⟨1, n - 1, cap - 1, y, L', valL y, by first | rfl | (congr 1; omega), by have := Hn.out; simp only [List.length_cons] at this; omega, by omega, by omega, HC, Lib.hid (fun x hx => Hsz.out x (by simp only [List.mem_cons] at hx ⊢; exact .inr hx)), HP2⟩
    case rest =>
      clear HP Hsz Hn HKB HCD hn2 hn3 hn4 hg2
      obtain ⟨o, n, cap, y, L', K0, rfl, hn1, hn3, hn4, HC, Hsz, HP⟩ := hcut
      have Hn := Lib.hid hn1
      have hpos : 0 < n := by omega
      clear hn1
      go_wp2_with fail
      go_loopg [6] 12 (fun gh i wr => ∃ k : Nat, k ≤ 12 ∧ 12 - k ≤ gh ∧ i = .int .i64 k ∧ Hid (PR w rb mb g o (y :: L') { zeroM with k := kindR y k K0 } wr))
      case atStart => exact ⟨0, by omega, by omega, rfl, HP⟩
      case round =>
        clear HP
        obtain ⟨k, hk, hg, rfl, HP⟩ := hrel
        by_cases hlt : k < 12
        · have hgk : 1 ≤ gk := by omega
          have q1 : decide ((k : Int) < 12) = true := by simp; omega
          obtain ⟨bq, hbq⟩ : ∃ bq, ((wb y).toList == (nameOf (k + 1)).toList) = bq := ⟨_, rfl⟩
          have HK : Hid (kindR y (k + 1) K0 = if bq = true then UInt8.ofNat (k + 1) else kindR y k K0) := by
            show _ = _
            rw [kindR, ← hbq, wb_list, ByteArray.toList_eq]
            by_cases h : y = (nameOf (k + 1)).data.toList
            · rw [if_pos h, if_pos (by rw [beq_iff_eq]; exact h)]
            · rw [if_neg h, if_neg (by rw [beq_iff_eq]; exact h)]
          go_wp2_with (first | (go_at_call 30; refine (names_ext _).mono ?_; rintro e w3 ⟨g3, rfl, hg3, hb3⟩; have HP3 := Lib.hid (HP.out.next hb3); clear hg3 hb3) | fail)
          clear HP
          refine region_all (D := [false, false, false, false, false, false, false, false, false, false, false, false, false, false, false, false, false, false, false, false, false, false, false, false, false, false, false, false, false, false, false, false, false, false, true, true, true, true, true, true, true, true]) (S := PR w rb mb g o (y :: L') { zeroM with k := kindR y k K0 }) (R := RB) (F := FF [isV (.slice (some ⟨g, o, none⟩) n cap), isV (.pointer (some ⟨g, o + 0, none⟩)), isV (.string (wb y)), NamesF, isV (.int .i64 k), NamesPF k, isV (.string (nameOf (k + 1))), isV (.bool bq)]) rfl mo (by kernel_rfl) (FF_st _ _) (HP3.out.next ⟨rfl, rfl, rfl, Nat.le_refl _, fun _ _ => rfl⟩) (fun hN => ?_) (fun u W hS hF => ?_)
          · refine steps_cons ?_ ?_
            · intro u W hS hp
              exact step_on (wanted_free rfl) (ext_val hS (run_mv rfl ((eval_out rfl).trans rfl)) rfl)
            refine steps_cons ?_ ?_
            · intro u W hS hp
              obtain ⟨q0, _⟩ := hp
              have p34 : u 34 = .slice (some ⟨g, o, none⟩) n cap := q0
              exact step_on (wanted_free rfl) (ext_val hS (run_ia rfl ((eval_in rfl hN rfl).trans p34) rfl (idx49 hpos)) rfl)
            refine steps_cons ?_ ?_
            · intro u W hS hp
              obtain ⟨q0, _⟩ := hp
              have p35 : u 35 = .pointer (some ⟨g, o + 0, none⟩) := q0
              exact step_on (wanted_free rfl) (ext_val hS (run_ld rfl ((eval_in rfl hN rfl).trans p35) (ld_str (hS.c 0 y rfl))) rfl)
            refine steps_cons ?_ ?_
            · intro u W hS hp
              exact step_on (wanted_free rfl) (ext_call (run_call rfl rfl (map0 ) Tryz.func30 nm55 bd55) ((names_ext W).mono fun _ _ ⟨g, e, hg, hb⟩ => ⟨_, e, ⟨g, rfl, hg⟩, hS.next hb, hb⟩))
            refine steps_cons ?_ ?_
            · intro u W hS hp
              exact step_on (wanted_free rfl) (ext_val hS (run_mv rfl ((eval_out rfl).trans rfl)) rfl)
            refine steps_cons ?_ ?_
            · intro u W hS hp
              obtain ⟨q0, q1, _⟩ := hp
              obtain ⟨gn37, p37, hN37⟩ := q0
              have p38 : u 38 = .int .i64 k := q1
              exact step_on (wanted_free rfl) (ext_val hS (run_ia rfl ((eval_in rfl hN rfl).trans p37) ((eval_in rfl hN rfl).trans p38) (idx49 hlt)) (npf hN37))
            refine steps_cons ?_ ?_
            · intro u W hS hp
              obtain ⟨q0, _⟩ := hp
              obtain ⟨gp39, p39, hN39⟩ := q0
              exact step_on (wanted_free rfl) (ext_val hS (run_ld rfl ((eval_in rfl hN rfl).trans p39) (ld_str (names_at (k := k + 1) hN39 (by omega) (by omega)))) rfl)
            refine steps_cons ?_ ?_
            · intro u W hS hp
              obtain ⟨q0, q1, _⟩ := hp
              have p36 : u 36 = .string (wb y) := q0
              have p40 : u 40 = .string (nameOf (k + 1)) := q1
              exact step_on (wanted_free rfl) (ext_val hS (run_bin rfl ((eval_in rfl hN rfl).trans p36) ((eval_in rfl hN rfl).trans p40) rfl (str_eql hbq)) rfl)
            exact steps_nil
          · obtain ⟨q0, q1, q2, q3, q4, q5, q6, q7, _⟩ := hF
            have p34 : u 34 = .slice (some ⟨g, o, none⟩) n cap := q0
            have p35 : u 35 = .pointer (some ⟨g, o + 0, none⟩) := q1
            have p36 : u 36 = .string (wb y) := q2
            obtain ⟨gn37, p37, hN37⟩ := q3
            have p38 : u 38 = .int .i64 k := q4
            obtain ⟨gp39, p39, hN39⟩ := q5
            have p40 : u 40 = .string (nameOf (k + 1)) := q6
            have p41 : u 41 = .bool bq := q7
            simp only [frm, frmL, Nat.reduceAdd, p34, p35, p36, p37, p38, p39, p40, p41]
            clear p34 p35 p36 p37 p38 p39 p40 p41
            have HS := Lib.hid hS
            clear hS hbq
            cases bq
            · have HE : Hid (kindR y k K0 = kindR y (k + 1) K0) := by show _ = _; rw [HK.out]; rfl
              go_wp2_with fail
              go_roundg (gk - 1)
              case measure => omega
              case rel => exact ⟨k + 1, by omega, by omega, by go_num, by rw [← HE.out]; exact HS⟩
            · have HE : Hid (UInt8.ofNat (k + 1) = kindR y (k + 1) K0) := by show _ = _; rw [HK.out]; rfl
              have b0 : W.cell? ⟨mb, 0, none⟩ = some (.int .u8 (kindR y k K0).toNat) := PR.cell HS 0
              have f0 : W.frozen? ⟨mb, 0, none⟩ = false := PR.free HS 0
              have hw : IntKind.u8.wrap ((k : Int) + 1) = ((UInt8.ofNat (k + 1)).toNat : Int) := by rw [UInt8.toNat_ofNat', wrap8 (by omega) (by omega)]; omega
              have HP4 := Lib.hid (HS.out.store (m' := { zeroM with k := UInt8.ofNat (k + 1) }) 0 (.int .u8 (UInt8.ofNat (k + 1)).toNat) rfl)
              generalize UInt8.ofNat (k + 1) = kk at HE hw HP4
              go_wp2_with fail
              go_roundg (gk - 1)
              case measure => omega
              case rel => exact ⟨k + 1, by omega, by omega, by go_num, by rw [← HE.out]; exact HP4⟩
        · obtain rfl : k = 12 := by omega
          have q1 : decide (((12 : Nat) : Int) < 12) = false := by simp
          go_wp2_with (first | (go_at_call 30; refine (names_ext _).mono ?_; rintro e w3 ⟨g3, rfl, hg3, hb3⟩; have HP3 := Lib.hid (HP.out.next hb3); clear hg3 hb3) | fail)
          clear HP
          obtain ⟨M0, hM0⟩ : ∃ M0 : Mg, { zeroM with k := kindR y 12 K0 } = M0 := ⟨_, rfl⟩
          rw [hM0] at HC HP3
          clear hM0
          go_loopg [7] n (fun gh i wr => ∃ (j : Nat) (m : Mg), 1 ≤ j ∧ j ≤ n ∧ n - j ≤ gh ∧ i = .int .i64 j ∧ Hid (CD = runW j ((y :: L').drop j) m) ∧ Hid (PR w rb mb g o (y :: L') m wr))
          case atStart => exact ⟨1, M0, by omega, by omega, by omega, rfl, HC, HP3⟩
          case round =>
            clear HP3 HC
            obtain ⟨j, m, hj1, hjn, hg, rfl, HC, HP⟩ := hrel
            by_cases hlt : j < n
            · have hgk : 1 ≤ gk := by omega
              obtain ⟨x, hx⟩ : ∃ x, (y :: L')[j]? = some x := ⟨_, List.getElem?_eq_getElem (by have := Hn.out; simp only [List.length_cons]; omega)⟩
              obtain ⟨r, hr⟩ : ∃ r, (y :: L').drop (j + 1) = r := ⟨_, rfl⟩
              have hd : (y :: L').drop j = x :: r := by
                rw [← hr]
                obtain ⟨hjl, he⟩ := List.getElem?_eq_some_iff.1 hx
                rw [List.drop_eq_getElem_cons hjl, he]
              have hrl : r.length = n - j - 1 := by rw [← hr, List.length_drop]; have := Hn.out; simp only [List.length_cons]; omega
              have hrx : ∀ i z, r[i]? = some z → (y :: L')[j + 1 + i]? = some z := fun i z hz => by rw [← hr, List.getElem?_drop] at hz; exact hz
              have hxs : x.length ≤ 1000 := Hsz.out x (List.mem_of_getElem? hx)
              have hC2 := HC.out
              rw [hd, runW] at hC2
              have HC2 := Lib.hid hC2
              have HR := Lib.hid (And.intro hrl hrx)
              have cj : wr.cell? ⟨g, o + j, none⟩ = some (.string (wb x)) := HP.out.c j x hx
              have HRR := Lib.hid hr
              have HXJ := Lib.hid hx
              clear hC2 hrl hrx hd hr hx HC
              go_upto_if 60 with fail
              go_cut [9] (fun s9 wx => s9 = .int .u8 (hdV r).toNat ∧ Hid (PR w rb mb g o (y :: L') m wx))
              case first =>
                clear cj
                by_cases h2 : j + 1 < n
                · have q2 : decide ((j : Int) + 1 < (n : Int)) = true := by simp; omega
                  obtain ⟨z, r', rfl⟩ : ∃ z r', r = z :: r' := by
                    have := HR.out.1
                    cases r with
                    | nil => simp at this; omega
                    | cons z r' => exact ⟨z, r', rfl⟩
                  have hz := HR.out.2 0 z rfl
                  have c2 : wr.cell? ⟨g, o + (j + 1), none⟩ = some (.string (wb z)) := HP.out.c (j + 1) z hz
                  have HY := Lib.hid (val_st z (by have := Hsz.out z (List.mem_of_getElem? hz); omega))
                  clear hz
                  go_wp2_with (first | (go_at_call 53; refine (HY.out _).mono ?_; rintro e w' ⟨rfl, rfl⟩) | fail)
                  go_meet
                  exact ⟨rfl, HP⟩
                · have q2 : decide ((j : Int) + 1 < (n : Int)) = false := by simp; omega
                  obtain rfl : r = [] := by
                    have := HR.out.1
                    exact List.eq_nil_of_length_eq_zero (by omega)
                  go_wp2_with fail
                  go_meet
                  exact ⟨rfl, HP⟩
              case rest =>
                clear HP cj
                obtain ⟨rfl, HP⟩ := hcut
                have HX := Lib.hid (val_st x (by omega))
                by_cases h1 : j = 1
                · have q1 : ((j : Int) == 1) = true := by rw [beq_iff_eq]; omega
                  have b1 : wc.cell? ⟨mb, 1, none⟩ = some (.int .u8 m.f.toNat) := PR.cell HP 1
                  have f1 : wc.frozen? ⟨mb, 1, none⟩ = false := PR.free HP 1
                  have b2 : wc.cell? ⟨mb, 2, none⟩ = some (.int .u8 m.t.toNat) := PR.cell HP 2
                  have f2 : wc.frozen? ⟨mb, 2, none⟩ = false := PR.free HP 2
                  have HP2 := Lib.hid ((HP.out.store (m' := { m with f := valL x }) 1 (.int .u8 (valL x).toNat) rfl).store (m' := { m with f := valL x, t := hdV r }) 2 (.int .u8 (hdV r).toNat) rfl)
                  have HC3 : Hid (CD = runW (j + 1) r { m with f := valL x, t := hdV r }) := by
                    have := HC2.out
                    unfold stepW at this
                    rw [if_pos h1] at this
                    exact this
                  clear h1
                  go_wp2_with (first | (go_at_call 53; refine (HX.out _).mono ?_; rintro e w' ⟨rfl, rfl⟩) | fail)
                  go_roundg (gk - 1)
                  case measure => omega
                  case rel => exact ⟨j + 1, _, by omega, by omega, by omega, by go_num, by rw [HRR.out]; exact HC3, HP2⟩
                · have q1 : ((j : Int) == 1) = false := by rw [beq_eq_false_iff_ne]; omega
                  have hC3 := HC2.out
                  unfold stepW at hC3
                  rw [if_neg h1] at hC3
                  clear h1 HC2
                  by_cases hk0 : x = wLine
                  · rw [if_pos hk0] at hC3
                    have HC3 := Lib.hid hC3
                    have qk0 : ((wb x).toList == [108, 105, 110, 101]) = true := by rw [wb_list, hk0]; rfl
                    have b1 : wc.cell? ⟨mb, 3, none⟩ = some (.int .u8 m.l.toNat) := PR.cell HP 3
                    have f1 : wc.frozen? ⟨mb, 3, none⟩ = false := PR.free HP 3
                    have HP2 := Lib.hid (HP.out.store (m' := { m with l := hdV r }) 3 (.int .u8 (hdV r).toNat) rfl)
                    clear hC3 hk0
                    go_wp2_with fail
                    go_roundg (gk - 1)
                    case measure => omega
                    case rel => exact ⟨j + 1, _, by omega, by omega, by omega, by go_num, by rw [HRR.out]; exact HC3, HP2⟩
                  · rw [if_neg hk0] at hC3
                    have qk0 : ((wb x).toList == [108, 105, 110, 101]) = false := by rw [wb_list, beq_eq_false_iff_ne]; exact hk0
                    clear hk0
                    by_cases hk1 : x = wAsker
                    · rw [if_pos hk1] at hC3
                      have HC3 := Lib.hid hC3
                      have qk1 : ((wb x).toList == [97, 115, 107, 101, 114]) = true := by rw [wb_list, hk1]; rfl
                      have b1 : wc.cell? ⟨mb, 4, none⟩ = some (.int .u8 m.a.toNat) := PR.cell HP 4
                      have f1 : wc.frozen? ⟨mb, 4, none⟩ = false := PR.free HP 4
                      have HP2 := Lib.hid (HP.out.store (m' := { m with a := hdV r }) 4 (.int .u8 (hdV r).toNat) rfl)
                      clear hC3 hk1
                      go_wp2_with fail
                      go_roundg (gk - 1)
                      case measure => omega
                      case rel => exact ⟨j + 1, _, by omega, by omega, by omega, by go_num, by rw [HRR.out]; exact HC3, HP2⟩
                    · rw [if_neg hk1] at hC3
                      have qk1 : ((wb x).toList == [97, 115, 107, 101, 114]) = false := by rw [wb_list, beq_eq_false_iff_ne]; exact hk1
                      clear hk1
                      by_cases hk2 : x = wAcks
                      · rw [if_pos hk2] at hC3
                        have HC3 := Lib.hid hC3
                        have qk2 : ((wb x).toList == [97, 99, 107, 115]) = true := by rw [wb_list, hk2]; rfl
                        have b1 : wc.cell? ⟨mb, 5, none⟩ = some (.int .u8 m.c.toNat) := PR.cell HP 5
                        have f1 : wc.frozen? ⟨mb, 5, none⟩ = false := PR.free HP 5
                        have HP2 := Lib.hid (HP.out.store (m' := { m with c := hdV r }) 5 (.int .u8 (hdV r).toNat) rfl)
                        clear hC3 hk2
                        go_wp2_with fail
                        go_roundg (gk - 1)
                        case measure => omega
                        case rel => exact ⟨j + 1, _, by omega, by omega, by omega, by go_num, by rw [HRR.out]; exact HC3, HP2⟩
                      · rw [if_neg hk2] at hC3
                        have qk2 : ((wb x).toList == [97, 99, 107, 115]) = false := by rw [wb_list, beq_eq_false_iff_ne]; exact hk2
                        clear hk2
                        by_cases hk3 : x = wAlone
                        · rw [if_pos hk3] at hC3
                          have HC3 := Lib.hid hC3
                          have qk3 : ((wb x).toList == [97, 108, 111, 110, 101]) = true := by rw [wb_list, hk3]; rfl
                          have b1 : wc.cell? ⟨mb, 6, none⟩ = some (.bool m.al) := PR.cell HP 6
                          have f1 : wc.frozen? ⟨mb, 6, none⟩ = false := PR.free HP 6
                          have HP2 := Lib.hid (HP.out.store (m' := { m with al := true }) 6 (.bool true) rfl)
                          clear hC3 hk3
                          go_wp2_with fail
                          go_roundg (gk - 1)
                          case measure => omega
                          case rel => exact ⟨j + 1, _, by omega, by omega, by omega, by go_num, by rw [HRR.out]; exact HC3, HP2⟩
                        · rw [if_neg hk3] at hC3
                          have qk3 : ((wb x).toList == [97, 108, 111, 110, 101]) = false := by rw [wb_list, beq_eq_false_iff_ne]; exact hk3
                          clear hk3
                          by_cases hd : x = wData ∧ 4 ≤ r.length
                          · rw [if_pos hd] at hC3
                            have HC3 := Lib.hid hC3
                            have qd : ((wb x).toList == [100, 97, 116, 97]) = true := by rw [wb_list, hd.1]; rfl
                            have q4 : decide ((j : Int) + 4 < (n : Int)) = true := by have := HR.out.1; have := hd.2; simp; omega
                            obtain ⟨z1, z2, z3, z4, r', rfl⟩ : ∃ z1 z2 z3 z4 r', r = z1 :: z2 :: z3 :: z4 :: r' := by
                              match r, hd.2 with
                              | z1 :: z2 :: z3 :: z4 :: r', _ => exact ⟨z1, z2, z3, z4, r', rfl⟩
                            have hz2 := HR.out.2 1 z2 rfl
                            have hz3 := HR.out.2 2 z3 rfl
                            have hz4 := HR.out.2 3 z4 rfl
                            have hl2 : z2.length ≤ 10000 := by have := Hsz.out z2 (List.mem_of_getElem? hz2); omega
                            have hl3 : z3.length ≤ 10000 := by have := Hsz.out z3 (List.mem_of_getElem? hz3); omega
                            have hl4 : z4.length ≤ 10000 := by have := Hsz.out z4 (List.mem_of_getElem? hz4); omega
                            have hw2 : IntKind.i64.wrap ((j : Int) + 2) = ((j + 2 : Nat) : Int) := by rw [IntWalk.i64_in _ (by omega)]; omega
                            have hw3 : IntKind.i64.wrap ((j : Int) + 3) = ((j + 3 : Nat) : Int) := by rw [IntWalk.i64_in _ (by omega)]; omega
                            have hw4 : IntKind.i64.wrap ((j : Int) + 4) = ((j + 4 : Nat) : Int) := by rw [IntWalk.i64_in _ (by omega)]; omega
                            have hrl := HR.out.1
                            simp only [List.length_cons] at hrl
                            have hn2 : j + 2 < n := by omega
                            have hn3' : j + 3 < n := by omega
                            have hn4' : j + 4 < n := by omega
                            have HH := Lib.hid (And.intro hw2 (And.intro hw3 (And.intro hw4 (And.intro hz2 (And.intro hz3 hz4)))))
                            clear hC3 hd hw2 hw3 hw4 hz2 hz3 hz4 hrl
                            go_wp2_with fail
                            obtain ⟨hw2, hw3, hw4, hz2, hz3, hz4⟩ := HH.out
                            refine region_m (m := 21) (D := [false, false, false, false, false, false, false, false, false, false, false, false, false, false, false, false, false, false, false, false, false, false, false, false, false, false, false, false, false, false, false, false, false, false, false, false, false, false, false, false, false, false, false, false, false, false, false, false, false, false, false, false, false, false, false, false, false, false, false, false, false, false, false, false, false, false, false, false, false, false, false, false, false, false, false, false, false, false, false, false, false, false, false, false, false, false, false, false, false, false, false, false, false, false, false, false, false, false, false, false, false, false, false, false, true, true, true, true, true, true, true, true, true, true, true, true, true, true, true, true, true, true, true, true, true]) (S := PR w rb mb g o (y :: L') m) (R := RB) (F := FF [isV (.int .u8 (valL z1).toNat), isV (.slice (some ⟨g, o, none⟩) n cap), isV (.int .i64 j), isV (.int .i64 ((j + 2 : Nat) : Int)), isV (.pointer (some ⟨g, o + (j + 2), none⟩)), isV (.string (wb z2)), isV (.int .u8 (valL z2).toNat), isV (.slice (some ⟨g, o, none⟩) n cap), isV (.int .i64 j), isV (.int .i64 ((j + 3 : Nat) : Int)), isV (.pointer (some ⟨g, o + (j + 3), none⟩)), isV (.string (wb z3)), isV (.int .u8 (valL z3).toNat), isV (.slice (some ⟨g, o, none⟩) n cap), isV (.int .i64 j), isV (.int .i64 ((j + 4 : Nat) : Int)), isV (.pointer (some ⟨g, o + (j + 4), none⟩)), isV (.string (wb z4)), isV (.int .u8 (valL z4).toNat), isV (.agg #[.int .u8 (valL z1).toNat, .int .u8 (valL z2).toNat, .int .u8 (valL z3).toNat, .int .u8 (valL z4).toNat]), isV (.pointer (some ⟨mb, 7, none⟩))]) rfl mo (by kernel_rfl) (FF_st _ _) (HP.out.next ⟨rfl, rfl, rfl, Nat.le_refl _, fun _ _ => rfl⟩) (fun hN => ?_) (fun u W hS hF => ?_)
                            · refine steps_cons ?_ ?_
                              · intro u W hS hp
                                exact step_on (wanted_free rfl) (ext_val hS (run_mv rfl ((eval_out rfl).trans rfl)) rfl)
                              refine steps_cons ?_ ?_
                              · intro u W hS hp
                                exact step_on (wanted_free rfl) (ext_val hS (run_mv rfl ((eval_out rfl).trans rfl)) rfl)
                              refine steps_cons ?_ ?_
                              · intro u W hS hp
                                exact step_on (wanted_free rfl) (ext_val hS (run_mv rfl ((eval_out rfl).trans rfl)) rfl)
                              refine steps_cons ?_ ?_
                              · intro u W hS hp
                                obtain ⟨q0, _⟩ := hp
                                have p106 : u 106 = .int .i64 j := q0
                                exact step_on (wanted_free rfl) (ext_val hS (run_bin rfl ((eval_in rfl hN rfl).trans p106) rfl rfl (i_add hw2)) rfl)
                              refine steps_cons ?_ ?_
                              · intro u W hS hp
                                obtain ⟨q0, q1, _⟩ := hp
                                have p105 : u 105 = .slice (some ⟨g, o, none⟩) n cap := q0
                                have p107 : u 107 = .int .i64 ((j + 2 : Nat) : Int) := q1
                                exact step_on (wanted_free rfl) (ext_val hS (run_ia rfl ((eval_in rfl hN rfl).trans p105) ((eval_in rfl hN rfl).trans p107) (idx49 hn2)) rfl)
                              refine steps_cons ?_ ?_
                              · intro u W hS hp
                                obtain ⟨q0, _⟩ := hp
                                have p108 : u 108 = .pointer (some ⟨g, o + (j + 2), none⟩) := q0
                                exact step_on (wanted_free rfl) (ext_val hS (run_ld rfl ((eval_in rfl hN rfl).trans p108) (ld_str (hS.c (j + 2) z2 hz2))) rfl)
                              refine steps_cons ?_ ?_
                              · intro u W hS hp
                                obtain ⟨q0, _⟩ := hp
                                have p109 : u 109 = .string (wb z2) := q0
                                exact step_on (wanted_free rfl) (ext_call (run_call rfl rfl (map1 ((eval_in rfl hN rfl).trans p109)) Tryz.func53 nm54 bd54) ((val_st z2 hl2 W).mono fun _ _ ⟨e, h⟩ => ⟨_, e, rfl, by rw [← h]; exact hS, by rw [← h]; exact Below.refl _ _⟩))
                              refine steps_cons ?_ ?_
                              · intro u W hS hp
                                exact step_on (wanted_free rfl) (ext_val hS (run_mv rfl ((eval_out rfl).trans rfl)) rfl)
                              refine steps_cons ?_ ?_
                              · intro u W hS hp
                                exact step_on (wanted_free rfl) (ext_val hS (run_mv rfl ((eval_out rfl).trans rfl)) rfl)
                              refine steps_cons ?_ ?_
                              · intro u W hS hp
                                obtain ⟨q0, _⟩ := hp
                                have p112 : u 112 = .int .i64 j := q0
                                exact step_on (wanted_free rfl) (ext_val hS (run_bin rfl ((eval_in rfl hN rfl).trans p112) rfl rfl (i_add hw3)) rfl)
                              refine steps_cons ?_ ?_
                              · intro u W hS hp
                                obtain ⟨q0, q1, _⟩ := hp
                                have p111 : u 111 = .slice (some ⟨g, o, none⟩) n cap := q0
                                have p113 : u 113 = .int .i64 ((j + 3 : Nat) : Int) := q1
                                exact step_on (wanted_free rfl) (ext_val hS (run_ia rfl ((eval_in rfl hN rfl).trans p111) ((eval_in rfl hN rfl).trans p113) (idx49 hn3')) rfl)
                              refine steps_cons ?_ ?_
                              · intro u W hS hp
                                obtain ⟨q0, _⟩ := hp
                                have p114 : u 114 = .pointer (some ⟨g, o + (j + 3), none⟩) := q0
                                exact step_on (wanted_free rfl) (ext_val hS (run_ld rfl ((eval_in rfl hN rfl).trans p114) (ld_str (hS.c (j + 3) z3 hz3))) rfl)
                              refine steps_cons ?_ ?_
                              · intro u W hS hp
                                obtain ⟨q0, q1, _⟩ := hp
                                have p115 : u 115 = .string (wb z3) := q0
                                have p110 : u 110 = .int .u8 (valL z2).toNat := q1
                                exact step_on (wanted_free rfl) (ext_call (run_call rfl rfl (map1 ((eval_in rfl hN rfl).trans p115)) Tryz.func53 nm54 bd54) ((val_st z3 hl3 W).mono fun _ _ ⟨e, h⟩ => ⟨_, e, rfl, by rw [← h]; exact hS, by rw [← h]; exact Below.refl _ _⟩))
                              refine steps_cons ?_ ?_
                              · intro u W hS hp
                                exact step_on (wanted_free rfl) (ext_val hS (run_mv rfl ((eval_out rfl).trans rfl)) rfl)
                              refine steps_cons ?_ ?_
                              · intro u W hS hp
                                exact step_on (wanted_free rfl) (ext_val hS (run_mv rfl ((eval_out rfl).trans rfl)) rfl)
                              refine steps_cons ?_ ?_
                              · intro u W hS hp
                                obtain ⟨q0, _⟩ := hp
                                have p118 : u 118 = .int .i64 j := q0
                                exact step_on (wanted_free rfl) (ext_val hS (run_bin rfl ((eval_in rfl hN rfl).trans p118) rfl rfl (i_add hw4)) rfl)
                              refine steps_cons ?_ ?_
                              · intro u W hS hp
                                obtain ⟨q0, q1, _⟩ := hp
                                have p117 : u 117 = .slice (some ⟨g, o, none⟩) n cap := q0
                                have p119 : u 119 = .int .i64 ((j + 4 : Nat) : Int) := q1
                                exact step_on (wanted_free rfl) (ext_val hS (run_ia rfl ((eval_in rfl hN rfl).trans p117) ((eval_in rfl hN rfl).trans p119) (idx49 hn4')) rfl)
                              refine steps_cons ?_ ?_
                              · intro u W hS hp
                                obtain ⟨q0, _⟩ := hp
                                have p120 : u 120 = .pointer (some ⟨g, o + (j + 4), none⟩) := q0
                                exact step_on (wanted_free rfl) (ext_val hS (run_ld rfl ((eval_in rfl hN rfl).trans p120) (ld_str (hS.c (j + 4) z4 hz4))) rfl)
                              refine steps_cons ?_ ?_
                              · intro u W hS hp
                                obtain ⟨q0, q1, _⟩ := hp
                                have p121 : u 121 = .string (wb z4) := q0
                                have p116 : u 116 = .int .u8 (valL z3).toNat := q1
                                exact step_on (wanted_free rfl) (ext_call (run_call rfl rfl (map1 ((eval_in rfl hN rfl).trans p121)) Tryz.func53 nm54 bd54) ((val_st z4 hl4 W).mono fun _ _ ⟨e, h⟩ => ⟨_, e, rfl, by rw [← h]; exact hS, by rw [← h]; exact Below.refl _ _⟩))
                              refine steps_cons ?_ ?_
                              · intro u W hS hp
                                obtain ⟨q0, q1, q2, q3, _⟩ := hp
                                have p104 : u 104 = .int .u8 (valL z1).toNat := q0
                                have p110 : u 110 = .int .u8 (valL z2).toNat := q1
                                have p116 : u 116 = .int .u8 (valL z3).toNat := q2
                                have p122 : u 122 = .int .u8 (valL z4).toNat := q3
                                exact step_on (wanted_free rfl) (ext_val hS (run_bld4 rfl ((eval_in rfl hN rfl).trans p104) ((eval_in rfl hN rfl).trans p110) ((eval_in rfl hN rfl).trans p116) ((eval_in rfl hN rfl).trans p122) (bld_data _ _ _ _ W)) rfl)
                              refine steps_cons ?_ ?_
                              · intro u W hS hp
                                obtain ⟨q0, q1, q2, q3, q4, q5, q6, q7, q8, q9, q10, q11, q12, q13, q14, q15, q16, q17, q18, q19, _⟩ := hp
                                have p104 : u 104 = .int .u8 (valL z1).toNat := q0
                                have p105 : u 105 = .slice (some ⟨g, o, none⟩) n cap := q1
                                have p106 : u 106 = .int .i64 j := q2
                                have p107 : u 107 = .int .i64 ((j + 2 : Nat) : Int) := q3
                                have p108 : u 108 = .pointer (some ⟨g, o + (j + 2), none⟩) := q4
                                have p109 : u 109 = .string (wb z2) := q5
                                have p110 : u 110 = .int .u8 (valL z2).toNat := q6
                                have p111 : u 111 = .slice (some ⟨g, o, none⟩) n cap := q7
                                have p112 : u 112 = .int .i64 j := q8
                                have p113 : u 113 = .int .i64 ((j + 3 : Nat) : Int) := q9
                                have p114 : u 114 = .pointer (some ⟨g, o + (j + 3), none⟩) := q10
                                have p115 : u 115 = .string (wb z3) := q11
                                have p116 : u 116 = .int .u8 (valL z3).toNat := q12
                                have p117 : u 117 = .slice (some ⟨g, o, none⟩) n cap := q13
                                have p118 : u 118 = .int .i64 j := q14
                                have p119 : u 119 = .int .i64 ((j + 4 : Nat) : Int) := q15
                                have p120 : u 120 = .pointer (some ⟨g, o + (j + 4), none⟩) := q16
                                have p121 : u 121 = .string (wb z4) := q17
                                have p122 : u 122 = .int .u8 (valL z4).toNat := q18
                                have p123 : u 123 = .agg #[.int .u8 (valL z1).toNat, .int .u8 (valL z2).toNat, .int .u8 (valL z3).toNat, .int .u8 (valL z4).toNat] := q19
                                exact step_on (wanted_free rfl) (ext_val hS (run_fa rfl ((eval_out rfl).trans rfl) (fa25_7 mb W)) rfl)
                              exact steps_nil
                            · obtain ⟨q0, q1, q2, q3, q4, q5, q6, q7, q8, q9, q10, q11, q12, q13, q14, q15, q16, q17, q18, q19, q20, _⟩ := hF
                              have p104 : u 104 = .int .u8 (valL z1).toNat := q0
                              have p105 : u 105 = .slice (some ⟨g, o, none⟩) n cap := q1
                              have p106 : u 106 = .int .i64 j := q2
                              have p107 : u 107 = .int .i64 ((j + 2 : Nat) : Int) := q3
                              have p108 : u 108 = .pointer (some ⟨g, o + (j + 2), none⟩) := q4
                              have p109 : u 109 = .string (wb z2) := q5
                              have p110 : u 110 = .int .u8 (valL z2).toNat := q6
                              have p111 : u 111 = .slice (some ⟨g, o, none⟩) n cap := q7
                              have p112 : u 112 = .int .i64 j := q8
                              have p113 : u 113 = .int .i64 ((j + 3 : Nat) : Int) := q9
                              have p114 : u 114 = .pointer (some ⟨g, o + (j + 3), none⟩) := q10
                              have p115 : u 115 = .string (wb z3) := q11
                              have p116 : u 116 = .int .u8 (valL z3).toNat := q12
                              have p117 : u 117 = .slice (some ⟨g, o, none⟩) n cap := q13
                              have p118 : u 118 = .int .i64 j := q14
                              have p119 : u 119 = .int .i64 ((j + 4 : Nat) : Int) := q15
                              have p120 : u 120 = .pointer (some ⟨g, o + (j + 4), none⟩) := q16
                              have p121 : u 121 = .string (wb z4) := q17
                              have p122 : u 122 = .int .u8 (valL z4).toNat := q18
                              have p123 : u 123 = .agg #[.int .u8 (valL z1).toNat, .int .u8 (valL z2).toNat, .int .u8 (valL z3).toNat, .int .u8 (valL z4).toNat] := q19
                              have p124 : u 124 = .pointer (some ⟨mb, 7, none⟩) := q20
                              show wpList _ _ _ [_] _ _
                              simp only [frm, frmL, Nat.reduceAdd, p104, p105, p106, p107, p108, p109, p110, p111, p112, p113, p114, p115, p116, p117, p118, p119, p120, p121, p122, p123, p124]
                              clear p104 p105 p106 p107 p108 p109 p110 p111 p112 p113 p114 p115 p116 p117 p118 p119 p120 p121 p122 p123 p124
                              have HS := Lib.hid hS
                              have b7 : W.cell? ⟨mb, 7, none⟩ = some (.int .u8 m.d0.toNat) := PR.cell HS 7
                              have b8 : W.cell? ⟨mb, 8, none⟩ = some (.int .u8 m.d1.toNat) := PR.cell HS 8
                              have b9 : W.cell? ⟨mb, 9, none⟩ = some (.int .u8 m.d2.toNat) := PR.cell HS 9
                              have b10 : W.cell? ⟨mb, 10, none⟩ = some (.int .u8 m.d3.toNat) := PR.cell HS 10
                              have f7 : W.frozen? ⟨mb, 7, none⟩ = false := PR.free HS 7
                              have f8 : W.frozen? ⟨mb, 8, none⟩ = false := PR.free HS 8
                              have f9 : W.frozen? ⟨mb, 9, none⟩ = false := PR.free HS 9
                              have f10 : W.frozen? ⟨mb, 10, none⟩ = false := PR.free HS 10
                              have HP2 := Lib.hid ((((HS.out.store (m' := { m with d0 := valL z1 }) 7 (.int .u8 (valL z1).toNat) rfl).store (m' := { m with d0 := valL z1, d1 := valL z2 }) 8 (.int .u8 (valL z2).toNat) rfl).store (m' := { m with d0 := valL z1, d1 := valL z2, d2 := valL z3 }) 9 (.int .u8 (valL z3).toNat) rfl).store (m' := { m with d0 := valL z1, d1 := valL z2, d2 := valL z3, d3 := valL z4 }) 10 (.int .u8 (valL z4).toNat) rfl)
                              clear hS hw2 hw3 hw4 hz2 hz3 hz4
                              go_wp2_with fail
                              go_roundg (gk - 1)
                              case measure => omega
                              case rel => exact ⟨j + 1, _, by omega, by omega, by omega, by go_num, by rw [HRR.out]; exact HC3, HP2⟩
                          · rw [if_neg hd] at hC3
                            have HC3 := Lib.hid hC3
                            clear hC3
                            by_cases hd1 : x = wData
                            · have qd : ((wb x).toList == [100, 97, 116, 97]) = true := by rw [wb_list, hd1]; rfl
                              have q4 : decide ((j : Int) + 4 < (n : Int)) = false := by
                                have h1 := HR.out.1
                                have h2 : ¬ 4 ≤ r.length := fun h => hd ⟨hd1, h⟩
                                simp; omega
                              clear hd hd1
                              go_wp2_with fail
                              go_roundg (gk - 1)
                              case measure => omega
                              case rel => exact ⟨j + 1, _, by omega, by omega, by omega, by go_num, by rw [HRR.out]; exact HC3, HP⟩
                            · have qd : ((wb x).toList == [100, 97, 116, 97]) = false := by rw [wb_list, beq_eq_false_iff_ne]; exact hd1
                              clear hd hd1
                              go_wp2_with fail
                              go_roundg (gk - 1)
                              case measure => omega
                              case rel => exact ⟨j + 1, _, by omega, by omega, by omega, by go_num, by rw [HRR.out]; exact HC3, HP⟩
            · obtain rfl : j = n := by omega
              have HCF : Hid (CD = m) := by
                show _ = _
                rw [HC.out, List.drop_of_length_le (by have := Hn.out; simp only [List.length_cons]; omega)]
                rfl
              have hq : decide (n < n) = false := by simp
              obtain ⟨eb, heb⟩ : ∃ eb, ((textS m).toList == s.toList) = eb := ⟨_, rfl⟩
              have HE : Hid (RES = if eb = true then (m, 0) else (zeroM, 170)) := by
                show _ = _
                rw [HRP.out, HCF.out, ← heb, textS_list, ByteArray.toList_eq]
                by_cases h : textOf m = s.data.toList
                · rw [if_pos h, if_pos (by rw [beq_iff_eq]; exact h)]
                · rw [if_neg h, if_neg (by rw [beq_iff_eq]; exact h)]
              have HT := Lib.hid (text_ref m)
              clear HC HCF
              go_wp2_with (first | (refine wpl_ld25 rfl (.tmp 5) rfl mb m rfl (HP.out.st.h (mb, boxOf m, 27) (by simp)) ?_) | fail)
              go_at_call 15
              refine (HT.out _ HP.out.st.g).mono ?_
              rintro e w5 ⟨rfl, hb5⟩
              have HP5 := Lib.hid (HP.out.next hb5)
              clear HP hb5 HT
              have HFB := Lib.hid (fun (W' : World) (h : OnlyC rb w5 W') => HP5.out.st.b.trans (h.below HP5.out.o1))
              cases eb
              · go_wp2_with (first | (refine wpl_store rfl 27 (.tmp 2) (.tmp 129) rfl rb _ (boxOf zeroM) rfl rfl (HP5.out.st.h (rb, boxOf zeroM, 27) (by simp)) rfl msgSize (box_one zeroM) ?_; intro w6 ho6 hn6) | fail)
                exact bodyPost_ret (v := .tuple #[zeroM.val, .int .i64 170]) (results27_run _ _ rb zeroM 170 rfl rfl hn6) rfl ⟨by rw [HRES.out, HE.out]; rfl, HFB.out _ ho6⟩
              · go_wp2_with (first | (refine wpl_ld25 rfl (.tmp 5) rfl mb m rfl (HP5.out.st.h (mb, boxOf m, 27) (by simp)) ?_) | (refine wpl_store rfl 27 (.tmp 2) (.tmp 130) rfl rb _ (boxOf m) rfl rfl (HP5.out.st.h (rb, boxOf zeroM, 27) (by simp)) rfl msgSize (box_one m) ?_; intro w6 ho6 hn6) | fail)
                exact bodyPost_ret (v := .tuple #[m.val, .int .i64 0]) (results27_run _ _ rb m 0 rfl rfl hn6) rfl ⟨by rw [HRES.out, HE.out]; rfl, HFB.out _ ho6⟩
end Go.Proofs.YthllacodjeocmaaGreatDoor
