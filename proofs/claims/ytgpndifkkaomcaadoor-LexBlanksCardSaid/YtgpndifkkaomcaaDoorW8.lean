/- LexBlanks, walked. -/
import Derived.Test.YtgpndifkkaomcaaDoorW5
import Derived.Test.YtgpndifkkaomcaaDoorK1
import Derived.Test.YtgpndifkkaomcaaDoorP9
namespace Go.Proofs.YtgpndifkkaomcaaDoor
open Go.RowKit
attribute [local go_sem] Oper.semAt_some
theorem outL_len (rm : List UInt8) (q : Nat → Bool) (hr : rm.length ≤ 20) : ∀ (ts : List Tk) (i : Nat), (∀ t ∈ ts, t.x.size ≤ 16) → (outL rm q i ts).length ≤ ts.length * 43
  | [], _, _ => by simp [outL]
  | t :: r, i, h => by
    have ht := h t (by simp)
    have hs : t.x.data.toList.length = t.x.size := by simp
    have ih := outL_len rm q hr r (i + 1) (fun u hu => h u (by simp [hu]))
    unfold outL tailB
    simp only [List.length_append, List.length_cons]
    have h1 : (if t.K = 4 then 9 :: 35 :: (rm ++ [10, 10]) else ([] : List UInt8)).length ≤ 24 := by
      split
      · simp; omega
      · simp
    have h2 : (if q i = true then [9, 32] else ([] : List UInt8)).length ≤ 2 := by
      split <;> simp
    omega
set_option maxHeartbeats 1000000 in
set_option maxRecDepth 100000 in
theorem lex_long2 (s : ByteArray) (w : World) (hs : 16384 < s.size) (hmax : s.size ≤ 9223372036854775807) :
    Calls Tryd.prog 12 #[.string s] w fun e w' => e = .returned (.tuple #[.slice none 0 0, .int .i64 0, .int .i64 3]) ∧ Below w.heap.size w w' := by
  have hsd : decide ((16384 : Int) < (s.size : Int)) = true := by simp; omega
  go_enter Tryd.func12, Tryd.ntmps12
  go_wp2
  refine bodyPost_ret (v := .tuple #[.slice none 0 0, .int .i64 0, .int .i64 3]) (by simp [results, Tryd.f12, go_sem]) rfl ⟨rfl, ?_⟩
  exact (((Below.refl _ w).alloc (Nat.le_refl _) _).alloc (by simp) _).alloc (by simp; omega) _
theorem lex_row2 (s : ByteArray) (L : List Tk) (p : Nat) (er : Int) (h : lexOf s = (L, p, er)) (w : World) (hG : Glob w) (hmax : s.size ≤ 9223372036854775807) :
    Calls Tryd.prog 12 #[.string s] w fun e w' => ∃ ao cap, e = .returned (.tuple #[.slice ao L.length cap, .int .i64 p, .int .i64 er]) ∧ TkRow w' (.slice ao L.length cap) L ∧ Glob w' ∧ Below w.heap.size w w' := by
  rcases Nat.lt_or_ge 16384 s.size with hs | hs
  · unfold lexOf at h
    rw [if_pos hs] at h
    obtain ⟨rfl, rfl, rfl⟩ : [] = L ∧ 0 = p ∧ 3 = er := by simpa using h
    refine (lex_long2 s w hs hmax).mono ?_
    rintro e w' ⟨rfl, hb⟩
    exact ⟨none, 0, rfl, .inl ⟨rfl, rfl⟩, hG.next hb, hb⟩
  · exact lex_row s L p er _ h rfl w hG (by omega)
theorem kz_row {ts us : List Tk} (h : us.map kx = ts.map kx) : (us.map kz).length = (ts.map kz).length ∧ ∀ (k : Nat) (h : k < (ts.map kz).length) (h' : k < (us.map kz).length), (us.map kz)[k].K = (ts.map kz)[k].K ∧ (us.map kz)[k].x = (ts.map kz)[k].x := by
  have hl : us.length = ts.length := by have := congrArg List.length h; simpa using this
  refine ⟨by simp [hl], fun k h1 h2 => ?_⟩
  have h3 : k < us.length := by simpa using h2
  have h4 : k < ts.length := by simpa using h1
  have h5 : (us.map kx)[k]'(by simpa using h3) = (ts.map kx)[k]'(by simpa using h4) := by simp only [h]
  rw [List.getElem_map, List.getElem_map] at h5
  simp only [List.getElem_map]
  unfold kx at h5
  simp only [Prod.mk.injEq] at h5
  exact h5
def qOf (n : Int) (i : Nat) : Bool := ((i : Int) + n.tmod 3) % 3 == 0
theorem out_bound {X : ByteArray} {l F : List UInt8} {m : Nat} (h : X.data.toList ++ l = [10, 32, 9] ++ F) (hF : F.length ≤ m * 43) (hm : m ≤ 500) : X.size ≤ 22000 := by
  have h1 := congrArg List.length h
  simp only [List.length_append, List.length_cons, List.length_nil] at h1
  have h2 : X.data.toList.length = X.size := by simp
  omega
set_option maxHeartbeats 4000000 in
set_option maxRecDepth 100000 in
theorem blanks_walk (a rk : ByteArray) (n : Int) (w : World) (hG : Glob w) (hr : rk.size ≤ 20) (hamax : a.size ≤ 9223372036854775807) (ts : List Tk) (p : Nat) (hLa : lexOf a = (ts, p, 0)) (hts : ts.length ≤ 500) :
    Calls Tryd.prog 5 #[.string a, .string rk, .int .i64 n] w fun e w' => e = .returned (.bool true) ∧ Below w.heap.size w w' := by
  have hrb : decide ((20 : Int) < (rk.size : Int)) = false := by simp; omega
  have htb : decide ((500 : Int) < (ts.length : Int)) = false := by simp; omega
  have hGood : Good false ts := by have := lexOf_good a (by rw [hLa]); rw [hLa] at this; exact this
  have HGood := Lib.hid hGood
  have HSz := Lib.hid (fun t ht => (Good.all hGood t ht).size : ∀ t ∈ ts, t.x.size ≤ 16)
  have HLa := Lib.hid hLa
  clear hGood hLa
  go_enter Tryd.func5, Tryd.ntmps5
  go_wp2_with fail
  go_at_call 8
  refine (awake_any _ hG).mono ?_
  rintro e w1 ⟨rfl, hb1⟩
  have hG1 := hG.next hb1
  go_wp2_with fail
  go_at_call 12
  refine (lex_row2 a _ _ _ HLa.out _ hG1 hamax).mono ?_
  rintro e w2 ⟨ao1, cap1, rfl, hT1, hG2, hb2⟩
  have c2 := hb1.trans (hb2.mono hb1.size)
  have T1 := Lib.hid hT1
  clear hb1 hb2 hG hG1 hT1
  go_wp2
  go_loop [10, 11] (fun r i => ∃ (k : Nat) (R : ByteArray), k ≤ rk.size ∧ i = .int .i64 k ∧ r = .string R ∧ R.size ≤ k ∧ Hid (R.data.toList = (rk.data.toList.take k).filter (fun b => decide (b ≠ 10)))) (fun _ i => rk.size - (intOf i).toNat)
  case atStart => exact ⟨0, ⟨#[]⟩, by omega, rfl, rfl, Nat.le_refl _, Lib.hid rfl⟩
  case round =>
    obtain ⟨k, R, hk, rfl, rfl, hR, HR⟩ := hrel
    by_cases hlt : k < rk.size
    · have hd : decide ((k : Int) < (rk.size : Int)) = true := by simp; omega
      have hi0 : (k : Int) < (rk.size : Int) := by omega
      have hts2 : rk.data.toList.take (k + 1) = rk.data.toList.take k ++ [rk[k]] := take_snoc rk k hlt
      by_cases hb : rk[k].toNat = 10
      · have q1 : (((rk[k]).toNat : Int) != 10) = false := by simp [hb]
        have HR2 := Lib.hid (show R.data.toList = (rk.data.toList.take (k + 1)).filter (fun b => decide (b ≠ 10)) by
          rw [hts2, List.filter_append, HR.out]
          have : rk[k] = 10 := UInt8.toNat_inj.1 hb
          rw [this]; simp)
        clear hts2 hb
        go_wp2
        go_round
        case rel => exact ⟨k + 1, R, by omega, by go_num, rfl, by omega, HR2⟩
        case measure => simp [intOf]; omega
      · have q1 : (((rk[k]).toNat : Int) != 10) = true := by rw [bne_iff_ne]; omega
        have HR2 := Lib.hid (show (R ++ rk.extract k (k + 1)).data.toList = (rk.data.toList.take (k + 1)).filter (fun b => decide (b ≠ 10)) by
          have hne : rk[k] ≠ 10 := fun e => hb (by rw [e]; rfl)
          rw [hts2, List.filter_append, ← HR.out, List.filter_cons, if_pos (by simpa using hne), List.filter_nil, ByteArray.data_append, Array.toList_append, extract_list]
          congr 1
          show (rk.data.toList.take (k + 1)).drop k = _
          rw [hts2, List.drop_append_of_le_length (by simp; omega)]
          simp)
        have hR2 : (R ++ rk.extract k (k + 1)).size ≤ k + 1 := by rw [ByteArray.size_append, ByteArray.size_extract]; omega
        clear hts2 hb
        go_wp2
        go_round
        case rel => exact ⟨k + 1, _, by omega, by go_num, rfl, hR2, HR2⟩
        case measure => simp [intOf]; omega
    · obtain rfl : k = rk.size := by omega
      have hd : decide ((rk.size : Int) < (rk.size : Int)) = false := by simp
      have hRm : ∀ b ∈ R.data.toList, b ≠ 10 := by
        rw [HR.out]
        intro b hb
        simpa using (List.mem_filter.1 hb).2
      have HRm := Lib.hid hRm
      have hRl : R.data.toList.length ≤ 20 := by simp; omega
      have HB := Lib.hid (outL_len R.data.toList (qOf n) hRl ts 0 HSz.out)
      have hR20 : R.size ≤ 20 := by omega
      clear hRm hRl HR
      have ht1 : -2 ≤ n.tmod 3 := by have := Int.lt_tmod_of_pos n (b := 3) (by decide); omega
      have ht2 : n.tmod 3 ≤ 2 := by have := Int.tmod_lt_of_pos n (b := 3) (by decide); omega
      go_wp2
      go_loop [12, 13] (fun o i => ∃ (k : Nat) (X : ByteArray), k ≤ ts.length ∧ i = .int .i64 k ∧ o = .string X ∧ X.size ≤ 22000 ∧ Hid (X.data.toList ++ outL R.data.toList (qOf n) k (ts.drop k) = [10, 32, 9] ++ outL R.data.toList (qOf n) 0 ts)) (fun _ i => ts.length - (intOf i).toNat)
      case atStart => exact ⟨0, ⟨#[10, 32, 9]⟩, by omega, rfl, rfl, by decide, Lib.hid rfl⟩
      case round =>
        obtain ⟨k, X, hk, rfl, rfl, hX, HX⟩ := hrel
        by_cases hlt : k < ts.length
        · have hd : decide ((k : Int) < (ts.length : Int)) = true := by simp; omega
          have hi0 : (k : Int) < (ts.length : Int) := by omega
          obtain ⟨g, rfl⟩ := T1.out.here hlt
          obtain ⟨c0, c1, _⟩ := T1.out.at k hlt
          have hx16 := HSz.out ts[k] (List.getElem_mem hlt)
          have HX1 := HX.out
          rw [List.drop_eq_getElem_cons hlt, outL] at HX1
          obtain ⟨t, ht⟩ : ∃ t, ts[k] = t := ⟨_, rfl⟩
          rw [ht] at c0 c1 hx16 HX1
          have HX2 := Lib.hid HX1
          clear ht HX1 HX
          have hl1 : X.size + t.x.size ≤ 30000 := by omega
          have hl2 : X.size + t.x.size + 1 ≤ 30000 := by omega
          by_cases h4 : t.K = 4
          · have q4 : (t.K == 4) = true := by rw [beq_iff_eq]; exact h4
            cases hq : (((k : Int) + n.tmod 3) % 3 == 0)
            · have HX3 := Lib.hid (by
                have h := HX2.out
                rw [tailB, if_pos h4, show qOf n k = false from hq] at h
                simpa using h : (X ++ t.x ++ ⟨#[32]⟩ ++ ⟨#[9, 35]⟩ ++ R ++ ⟨#[10, 10]⟩ : ByteArray).data.toList ++ outL R.data.toList (qOf n) (k + 1) (ts.drop (k + 1)) = [10, 32, 9] ++ outL R.data.toList (qOf n) 0 ts)
              have hX3 := out_bound HX3.out HB.out hts
              have hX4 := Lib.hid hX3
              clear h4 hX3 HX2
              go_wp2
              go_round
              case rel => exact ⟨k + 1, _, by clear hl1 hl2; omega, by go_num, rfl, hX4.out, HX3⟩
              case measure => simp [intOf]; omega
            · have HX3 := Lib.hid (by
                have h := HX2.out
                rw [tailB, if_pos h4, show qOf n k = true from hq] at h
                simpa using h : (X ++ t.x ++ ⟨#[32]⟩ ++ ⟨#[9, 35]⟩ ++ R ++ ⟨#[10, 10]⟩ ++ ⟨#[9, 32]⟩ : ByteArray).data.toList ++ outL R.data.toList (qOf n) (k + 1) (ts.drop (k + 1)) = [10, 32, 9] ++ outL R.data.toList (qOf n) 0 ts)
              have hX3 := out_bound HX3.out HB.out hts
              have hX4 := Lib.hid hX3
              clear h4 hX3 HX2
              go_wp2
              go_round
              case rel => exact ⟨k + 1, _, by clear hl1 hl2; omega, by go_num, rfl, hX4.out, HX3⟩
              case measure => simp [intOf]; omega
          · have q4 : (t.K == 4) = false := by rw [beq_eq_false_iff_ne]; exact h4
            cases hq : (((k : Int) + n.tmod 3) % 3 == 0)
            · have HX3 := Lib.hid (by
                have h := HX2.out
                rw [tailB, if_neg h4, show qOf n k = false from hq] at h
                simpa using h : (X ++ t.x ++ ⟨#[32]⟩ : ByteArray).data.toList ++ outL R.data.toList (qOf n) (k + 1) (ts.drop (k + 1)) = [10, 32, 9] ++ outL R.data.toList (qOf n) 0 ts)
              have hX3 := out_bound HX3.out HB.out hts
              have hX4 := Lib.hid hX3
              clear h4 hX3 HX2
              go_wp2
              go_round
              case rel => exact ⟨k + 1, _, by clear hl1 hl2; omega, by go_num, rfl, hX4.out, HX3⟩
              case measure => simp [intOf]; omega
            · have HX3 := Lib.hid (by
                have h := HX2.out
                rw [tailB, if_neg h4, show qOf n k = true from hq] at h
                simpa using h : (X ++ t.x ++ ⟨#[32]⟩ ++ ⟨#[9, 32]⟩ : ByteArray).data.toList ++ outL R.data.toList (qOf n) (k + 1) (ts.drop (k + 1)) = [10, 32, 9] ++ outL R.data.toList (qOf n) 0 ts)
              have hX3 := out_bound HX3.out HB.out hts
              have hX4 := Lib.hid hX3
              clear h4 hX3 HX2
              go_wp2
              go_round
              case rel => exact ⟨k + 1, _, by clear hl1 hl2; omega, by go_num, rfl, hX4.out, HX3⟩
              case measure => simp [intOf]; omega
        · obtain rfl : k = ts.length := by omega
          have hd : decide ((ts.length : Int) < (ts.length : Int)) = false := by simp
          have hXf : X.data.toList = [10, 32, 9] ++ outL R.data.toList (qOf n) 0 ts := by
            have := HX.out
            rw [List.drop_length] at this
            simpa [outL] using this
          rcases Nat.lt_or_ge 16384 X.size with hbig | hsm
          · have hb1 : decide ((16384 : Int) < (X.size : Int)) = true := by simp; omega
            have hLX : lexOf X = ([], 0, 3) := by unfold lexOf; rw [if_pos hbig]
            have HLX := Lib.hid hLX
            clear hXf HX hLX
            go_wp2_with fail
            go_at_call 12
            refine (lex_row2 X _ _ _ HLX.out _ hG2 (by omega)).mono ?_
            rintro e w3 ⟨ao3, cap3, rfl, _, _, hb3⟩
            have c3 := c2.trans (hb3.mono c2.size)
            clear hb3 c2
            go_wp2
            go_ret
            exact ⟨rfl, c3⟩
          · have hb1 : decide ((16384 : Int) < (X.size : Int)) = false := by simp; omega
            obtain ⟨us, hLX, hus⟩ := blanks_law HGood.out (qOf n) HRm.out hXf hsm
            have hul : us.length = ts.length := by have := congrArg List.length hus; simpa using this
            have HLX := Lib.hid hLX
            have HU := Lib.hid (kz_row hus)
            have hu20 : us.length ≤ 20000 := by omega
            have ht20 : ts.length ≤ 20000 := by omega
            have hk20 : (ts.map kz).length ≤ 140737488355328 := by rw [List.length_map]; omega
            have HK20 := Lib.hid hk20
            clear hXf HX hLX hus hul hk20
            go_wp2_with fail
            go_at_call 12
            refine (lex_row2 X _ _ _ HLX.out _ hG2 (by omega)).mono ?_
            rintro e w3 ⟨ao3, cap3, rfl, hT3, _, hb3⟩
            have c3 := c2.trans (hb3.mono c2.size)
            have T13 := Lib.hid (T1.out.below hb3)
            have T3 := Lib.hid hT3
            clear hb3 c2 hT3 T1
            go_wp2_with fail
            go_at_call 14
            refine (kinds_any _ ts _ T13.out ht20).mono ?_
            rintro e w4 ⟨v4, rfl, hT4, hb4⟩
            have c4 := c3.trans (hb4.mono c3.size)
            have T34 := Lib.hid (T3.out.below hb4)
            have T4 := Lib.hid hT4
            clear hb4 c3 hT4 T13 T3
            go_wp2_with fail
            go_at_call 14
            refine (kinds_any _ us _ T34.out hu20).mono ?_
            rintro e w5 ⟨v5, rfl, hT5, hb5⟩
            have c5 := c4.trans (hb5.mono c4.size)
            have T45 := Lib.hid (T4.out.below hb5)
            have T5 := Lib.hid hT5
            clear hb5 c4 hT5 T4 T34
            go_wp2_with fail
            go_at_call 13
            refine (alike_any _ _ _ _ _ T45.out T5.out HU.out.1 HU.out.2 HK20.out).mono ?_
            rintro e w' ⟨rfl, n6, rfl⟩
            have c6 := below_drewN c5 n6
            go_wp2
            go_ret
            exact ⟨rfl, c6⟩
set_option maxHeartbeats 1000000 in
theorem LexBlanks_any (a rk : ByteArray) (n : Int) (w : World) (hG : Glob w) (hamax : a.size ≤ 9223372036854775807) :
    Calls Tryd.prog 5 #[.string a, .string rk, .int .i64 n] w fun e w' => e = .returned (.bool true) ∧ Below w.heap.size w w' := by
  obtain ⟨⟨ts, p, ea⟩, hLa⟩ : ∃ L, lexOf a = L := ⟨_, rfl⟩
  by_cases he : ea = 0
  · subst he
    by_cases hts : ts.length ≤ 500
    · by_cases hr : rk.size ≤ 20
      · exact blanks_walk a rk n w hG hr hamax ts p hLa hts
      · have HLa := Lib.hid hLa
        have htb : decide ((500 : Int) < (ts.length : Int)) = false := by simp; omega
        have hrb : decide ((20 : Int) < (rk.size : Int)) = true := by simp; omega
        clear hLa
        go_enter Tryd.func5, Tryd.ntmps5
        go_wp2_with fail
        go_at_call 8
        refine (awake_any _ hG).mono ?_
        rintro e w1 ⟨rfl, hb1⟩
        have hG1 := hG.next hb1
        go_wp2_with fail
        go_at_call 12
        refine (lex_row2 a _ _ _ HLa.out _ hG1 hamax).mono ?_
        rintro e w2 ⟨ao1, cap1, rfl, _, _, hb2⟩
        have c2 := hb1.trans (hb2.mono hb1.size)
        clear hb1 hb2 hG hG1
        go_wp2
        go_ret
        exact ⟨rfl, c2⟩
    · have HLa := Lib.hid hLa
      have htb : decide ((500 : Int) < (ts.length : Int)) = true := by simp; omega
      clear hLa
      go_enter Tryd.func5, Tryd.ntmps5
      go_wp2_with fail
      go_at_call 8
      refine (awake_any _ hG).mono ?_
      rintro e w1 ⟨rfl, hb1⟩
      have hG1 := hG.next hb1
      go_wp2_with fail
      go_at_call 12
      refine (lex_row2 a _ _ _ HLa.out _ hG1 hamax).mono ?_
      rintro e w2 ⟨ao1, cap1, rfl, _, _, hb2⟩
      have c2 := hb1.trans (hb2.mono hb1.size)
      clear hb1 hb2 hG hG1
      go_wp2
      go_ret
      exact ⟨rfl, c2⟩
  · have q1 : (ea != 0) = true := by rw [bne_iff_ne]; exact he
    have HLa := Lib.hid hLa
    clear he hLa
    go_enter Tryd.func5, Tryd.ntmps5
    go_wp2_with fail
    go_at_call 8
    refine (awake_any _ hG).mono ?_
    rintro e w1 ⟨rfl, hb1⟩
    have hG1 := hG.next hb1
    go_wp2_with fail
    go_at_call 12
    refine (lex_row2 a _ _ _ HLa.out _ hG1 hamax).mono ?_
    rintro e w2 ⟨ao1, cap1, rfl, _, _, hb2⟩
    have c2 := hb1.trans (hb2.mono hb1.size)
    clear hb1 hb2 hG hG1
    go_wp2
    go_ret
    exact ⟨rfl, c2⟩
end Go.Proofs.YtgpndifkkaomcaaDoor
