/- Text, walked. -/
import Derived.Test.YthllacodjeocmaaGreatDoorE0
namespace Go.Proofs.YthllacodjeocmaaGreatDoor
open Go.RowKit
def wKind : List UInt8 := [107, 105, 110, 100]
def wLine : List UInt8 := [108, 105, 110, 101]
def wAsker : List UInt8 := [97, 115, 107, 101, 114]
def wAcks : List UInt8 := [97, 99, 107, 115]
def wAlone : List UInt8 := [97, 108, 111, 110, 101]
def wData : List UInt8 := [100, 97, 116, 97]
def headW (k : UInt8) : List (List UInt8) := if knownB k = true then [(nameOf k.toNat).data.toList] else [wKind, dec k]
def boxOf (m : Mg) : Array Value := #[.int .u8 m.k.toNat, .int .u8 m.f.toNat, .int .u8 m.t.toNat, .int .u8 m.l.toNat, .int .u8 m.a.toNat, .int .u8 m.c.toNat, .bool m.al, .int .u8 m.d0.toNat, .int .u8 m.d1.toNat, .int .u8 m.d2.toNat, .int .u8 m.d3.toNat]
def wordsOf (m : Mg) : List (List UInt8) := headW m.k ++ [dec m.f ++ [62] ++ dec m.t, wLine, dec m.l] ++ (if m.a.toNat = 0 then [] else [wAsker, dec m.a]) ++ (if m.c.toNat = 0 then [] else [wAcks, dec m.c]) ++ (if m.al = false then [] else [wAlone]) ++
  (if decide (m.d0 = 0 ∧ m.d1 = 0 ∧ m.d2 = 0 ∧ m.d3 = 0) = true then [] else [wData, dec m.d0, dec m.d1, dec m.d2, dec m.d3])
def textOf (m : Mg) : List UInt8 := Lib.join (wordsOf m) [32]
theorem words_pos (m : Mg) : 0 < (wordsOf m).length := by
  unfold wordsOf
  simp only [List.length_append, List.length_cons]
  omega
theorem name_table : ∀ k : Fin 13, (nameOf k.val).data.toList.length ≤ 7 := by decide +kernel
theorem words_len (m : Mg) : ∀ x ∈ wordsOf m, x.length ≤ 7 := by
  intro x hx
  unfold wordsOf at hx
  rcases List.mem_append.1 hx with hx | hx
  · rcases List.mem_append.1 hx with hx | hx
    · rcases List.mem_append.1 hx with hx | hx
      · rcases List.mem_append.1 hx with hx | hx
        · rcases List.mem_append.1 hx with hx | hx
          · unfold headW at hx
            split at hx
            · rename_i h
              have := of_decide_eq_true h
              rw [List.mem_singleton] at hx
              subst hx
              exact name_table ⟨m.k.toNat, this.2⟩
            · simp only [List.mem_cons, List.not_mem_nil, or_false] at hx
              rcases hx with rfl | rfl
              · decide
              · have := dec_len m.k; omega
          · simp only [List.mem_cons, List.not_mem_nil, or_false] at hx
            rcases hx with rfl | rfl | rfl
            · have h1 := dec_len m.f; have h2 := dec_len m.t; simp; omega
            · decide
            · have := dec_len m.l; omega
        · split at hx
          · simp at hx
          · simp only [List.mem_cons, List.not_mem_nil, or_false] at hx
            rcases hx with rfl | rfl
            · decide
            · have := dec_len m.a; omega
      · split at hx
        · simp at hx
        · simp only [List.mem_cons, List.not_mem_nil, or_false] at hx
          rcases hx with rfl | rfl
          · decide
          · have := dec_len m.c; omega
    · split at hx
      · simp at hx
      · rw [List.mem_singleton] at hx; subst hx; decide
  · split at hx
    · simp at hx
    · simp only [List.mem_cons, List.not_mem_nil, or_false] at hx
      rcases hx with rfl | rfl | rfl | rfl | rfl
      · decide
      · have := dec_len m.d0; omega
      · have := dec_len m.d1; omega
      · have := dec_len m.d2; omega
      · have := dec_len m.d3; omega
set_option maxHeartbeats 2000000 in
set_option maxRecDepth 100000 in
theorem text_any (m : Mg) (w : World) (hG : GlobM w) : Calls Tryz.prog 14 #[m.val] w fun e w' => e = .returned (.string ⟨(textOf m).toArray⟩) ∧ Below w.heap.size w w' := by
  obtain ⟨i0, hi, hz0, hz1, hz2⟩ := info_parts strInfo
  have HN := fun (n : UInt8) (W : World) (h : GlobM W) => num_any n W h.g
  have HN := Lib.hid HN
  have HK := Lib.hid (fun W => known_any m W)
  obtain ⟨k, f, t, l, a, c, al, d0, d1, d2, d3⟩ := m
  unfold Mg.val at HK ⊢
  simp only at HK ⊢
  have HB : Hid (TxBase w (boxOf ⟨k, f, t, l, a, c, al, d0, d1, d2, d3⟩) ((w.alloc (.cells #[.int .u8 k.toNat, .int .u8 f.toNat, .int .u8 t.toNat, .int .u8 l.toNat, .int .u8 a.toNat, .int .u8 c.toNat, .bool al, .int .u8 d0.toNat, .int .u8 d1.toNat, .int .u8 d2.toNat, .int .u8 d3.toNat] 27)).alloc (.cells #[.int .u8 k.toNat, .int .u8 f.toNat, .int .u8 t.toNat, .int .u8 l.toNat, .int .u8 a.toNat, .int .u8 c.toNat, .bool al, .int .u8 d0.toNat, .int .u8 d1.toNat, .int .u8 d2.toNat, .int .u8 d3.toNat] 42))) :=
    Lib.hid (TxBase.start w (boxOf ⟨k, f, t, l, a, c, al, d0, d1, d2, d3⟩) (boxOf ⟨k, f, t, l, a, c, al, d0, d1, d2, d3⟩))
  have HC : Hid (boxOf ⟨k, f, t, l, a, c, al, d0, d1, d2, d3⟩ = #[.int .u8 k.toNat, .int .u8 f.toNat, .int .u8 t.toNat, .int .u8 l.toNat, .int .u8 a.toNat, .int .u8 c.toNat, .bool al, .int .u8 d0.toNat, .int .u8 d1.toNat, .int .u8 d2.toNat, .int .u8 d3.toNat]) := Lib.hid rfl
  generalize boxOf ⟨k, f, t, l, a, c, al, d0, d1, d2, d3⟩ = C at HB HC
  have hG1 := hG.next (((Below.refl _ w).alloc (Nat.le_refl _) (.cells #[.int .u8 k.toNat, .int .u8 f.toNat, .int .u8 t.toNat, .int .u8 l.toNat, .int .u8 a.toNat, .int .u8 c.toNat, .bool al, .int .u8 d0.toNat, .int .u8 d1.toNat, .int .u8 d2.toNat, .int .u8 d3.toNat] 27)).alloc (by simp) (.cells #[.int .u8 k.toNat, .int .u8 f.toNat, .int .u8 t.toNat, .int .u8 l.toNat, .int .u8 a.toNat, .int .u8 c.toNat, .bool al, .int .u8 d0.toNat, .int .u8 d1.toNat, .int .u8 d2.toNat, .int .u8 d3.toNat] 42))
  go_enter Tryz.func14, Tryz.ntmps14
  go_wp2_with fail
  go_at_call 27
  refine (HN.out _ _ hG1).mono ?_
  rintro e w1 ⟨rfl, hb1⟩
  obtain ⟨hc1, hf1⟩ := bcell hb1
  have hz1 : w.heap.size + 1 < w1.heap.size := by have := hb1.size; simp at this; omega
  have HB1 := Lib.hid (HB.out.next hb1)
  have hG2 := hG1.next hb1
  clear hb1 HB hG1
  go_wp2_with fail
  go_at_call 20
  refine (HK.out _).mono ?_
  rintro e w2 ⟨rfl, hb2⟩
  have hG3 := (hG2.next ((Below.refl _ _).alloc (Nat.le_refl _) _)).next hb2
  have HT := Lib.hid ((HB1.out.lit (n := 2) (ws := [wKind, dec k]) rfl rfl (by simp)).next hb2)
  have HB2 := Lib.hid ((HB1.out.alloc _).next hb2)
  clear hb2 hc1 hf1 hz1 HB1 hG2
  go_upto_if 14 with fail
  go_cut [4] (fun s4 wx => Hid (TxSt w C s4 (headW k) wx))
  case first =>
    cases hK : knownB k
    · have HT2 : Hid (TxSt w C (.slice (some ⟨w1.heap.size, 0, none⟩) 2 2) (headW k) w2) := by
        have : headW k = [wKind, dec k] := by unfold headW; rw [hK]; rfl
        rw [this]; exact HT
      go_wp2
      go_meet
      exact HT2
    · have hk13 := (of_decide_eq_true hK)
      obtain ⟨_, _, n2⟩ := hG3.n.at hk13.2
      have b0 : w2.cell? ⟨w.heap.size, 0, none⟩ = some (.int .u8 k.toNat) := by rw [HB2.out.cell, HC.out]; rfl
      have HT2 := Lib.hid (HB2.out.lit (n := 1) (S := #[.string (nameOf k.toNat)]) (ws := headW k) (by unfold headW; rw [hK]; rfl) (by unfold headW; rw [hK]; rfl) (by unfold headW; rw [hK]; simp))
      have hk0 : (0 : Int) ≤ k.toNat := by omega
      have hk1 : (k.toNat : Int) < 13 := by omega
      clear hk13 hK
      go_wp2
      go_meet
      exact HT2
  case rest =>
    clear HB2 HT hG3 HK
    have HT := hcut
    clear hcut
    obtain ⟨ao, cp, rfl⟩ := HT.out.form
    have b1 : wc.cell? ⟨w.heap.size, 1, none⟩ = some (.int .u8 f.toNat) := by rw [HT.out.cell, HC.out]; rfl
    have b2 : wc.cell? ⟨w.heap.size, 2, none⟩ = some (.int .u8 t.toNat) := by rw [HT.out.cell, HC.out]; rfl
    have b3 : wc.cell? ⟨w.heap.size, 3, none⟩ = some (.int .u8 l.toNat) := by rw [HT.out.cell, HC.out]; rfl
    have HTd : Hid (TxSt w C (.slice ao (headW k).length cp) (headW k) wc.drew) := Lib.hid HT.out.drew
    have df := dec_len f
    have dt := dec_len t
    have df1 : ¬ 9223372036854775807 < (dec f).length + 1 := by omega
    have df2 : ¬ 9223372036854775807 < (dec f).length + 1 + (dec t).length := by omega
    clear df dt
    have hbig : w.heap.size < wc.heap.size := by have := HT.out.big; omega
    have hno : (Value.slice ao (headW k).length cp).ownBlock ≠ some w.heap.size := fun e => by have := (HT.out.row.lt _ e).1; omega
    have hlen : (headW k).length ≤ 2 := by unfold headW; split <;> simp
    go_upto_region 5 with fail
    go_cut [4] (fun s4 wx => Hid (TxSt w C s4 (headW k ++ [dec f ++ [62] ++ dec t, wLine, dec l]) wx))
    case first =>
      go_region_held3 (fun w' => w'.cell? ⟨w.heap.size, 1, none⟩ = some (.int .u8 f.toNat) ∧ w'.cell? ⟨w.heap.size, 2, none⟩ = some (.int .u8 t.toNat) ∧ w'.cell? ⟨w.heap.size, 3, none⟩ = some (.int .u8 l.toNat))
        (first
          | go_keep
          | exact ⟨by rw [hs.out.cell, HC.out]; rfl, by rw [hs.out.cell, HC.out]; rfl, by rw [hs.out.cell, HC.out]; rfl⟩
          | exact ⟨by rw [(hs.out.alloc _).cell, HC.out]; rfl, by rw [(hs.out.alloc _).cell, HC.out]; rfl, by rw [(hs.out.alloc _).cell, HC.out]; rfl⟩
          | exact ⟨by rw [(hs2.out).cell, HC.out]; rfl, by rw [(hs2.out).cell, HC.out]; rfl, by rw [(hs2.out).cell, HC.out]; rfl⟩)
        (first
          | (go_at_call 27; (with_reducible refine (num_st hG (by assumption) _).mono ?_); rintro e w' ⟨rfl, hs⟩)
          | (refine step_append_lies _ (by rfl) _ _ _ (by rfl) (w.heap.size + 2) 9 i0 _ 1 16 Tryz.underlying36 hi hz0 hz1 hz2 rfl (by omega) _ _ _ (by rfl) (hs.out.alloc _).row
              ⟨_, 0, none⟩ 3 3 ([dec f ++ [62] ++ dec t, wLine, dec l].map strv) (by rfl) (by rfl) (World.news_of_block (t := 9) (fr := (0, 0)) (heap_alloc_new _ _)) (by simp [Value.oneCell', strv])
              (by omega) (by unfold maxLen; omega) (by omega) (by have := hs.out.big; simp; omega) _ rfl ?_; intro gg cap w1' hown1 hgrow hat hlt1; have hs2 := Lib.hid (hs.out.append (news := [dec f ++ [62] ++ dec t, wLine, dec l]) hown1 hgrow)))
      go_wp2_with fail
      go_meet
      exact hs2
    case rest =>
      have HT := hcut
      clear hcut
      obtain ⟨ao, cp, rfl⟩ := HT.out.form
      obtain ⟨S0, hS0⟩ : ∃ X, headW k ++ [dec f ++ [62] ++ dec t, wLine, dec l] = X := ⟨_, rfl⟩
      have hLS0 : S0.length ≤ 5 := by rw [← hS0, List.length_append]; simp; omega
      have HS0 := Lib.hid hS0
      rw [hS0] at HT ⊢
      clear hS0 df1 df2 hlen hno b1 b2 b3 hbig HTd
      have bq : wc.cell? ⟨w.heap.size, 4, none⟩ = some (.int .u8 a.toNat) := by rw [HT.out.cell, HC.out]; rfl
      go_upto_if 37 with fail
      go_cut [4] (fun s4 wx => Hid (TxSt w C s4 (S0 ++ (if a.toNat = 0 then [] else [wAsker, dec a])) wx))
      case first =>
        by_cases ha : a.toNat = 0
        · have hq : ((a.toNat : Int) != 0) = false := by simp [ha]
          have HE : Hid (TxSt w C (.slice ao S0.length cp) (S0 ++ (if a.toNat = 0 then [] else [wAsker, dec a])) wc) := by rw [if_pos ha, List.append_nil]; exact HT
          clear ha
          go_wp2
          go_meet
          exact HE
        · have hq : ((a.toNat : Int) != 0) = true := by rw [bne_iff_ne]; omega
          have HE : Hid ((if a.toNat = 0 then [] else [wAsker, dec a]) = [wAsker, dec a]) := Lib.hid (if_neg ha)
          clear ha
          go_wp2_with (first | (go_at_call 27; refine (num_st hG HT a).mono ?_; rintro e w' ⟨rfl, hs⟩) | (at_builtin; refine wpList_append_lies _ rfl _ _ _ rfl (w.heap.size + 2) 9 i0 _ 1 16 Tryz.underlying36 hi hz0 hz1 hz2 rfl (by omega) _ _ _ rfl (hs.out.alloc _).row ⟨_, 0, none⟩ 2 2 ([wAsker, dec a].map strv) rfl rfl (World.news_of_block (t := 9) (fr := (0, 0)) (heap_alloc_new _ _)) (by simp [Value.oneCell', strv]) (by omega) (by unfold maxLen; omega) (by omega) (by have := hs.out.big; simp; omega) _ rfl ?_; intro gg cap w1' hown1 hgrow hat hlt1; have hs2 := Lib.hid (hs.out.append (news := [wAsker, dec a]) hown1 hgrow); clear hown1 hgrow hat hlt1) | fail)
          go_meet
          exact (by rw [HE.out]; exact hs2)
      case rest =>
        have HT := hcut
        clear hcut
        obtain ⟨ao, cp, rfl⟩ := HT.out.form
        obtain ⟨S1, hS1⟩ : ∃ X, S0 ++ (if a.toNat = 0 then [] else [wAsker, dec a]) = X := ⟨_, rfl⟩
        have hLS1 : S1.length ≤ 7 := by rw [← hS1, List.length_append]; split <;> simp <;> omega
        have HS1 := Lib.hid hS1
        rw [hS1] at HT ⊢
        clear hS1 bq
        have bq : wc.cell? ⟨w.heap.size, 5, none⟩ = some (.int .u8 c.toNat) := by rw [HT.out.cell, HC.out]; rfl
        go_upto_if 46 with fail
        go_cut [4] (fun s4 wx => Hid (TxSt w C s4 (S1 ++ (if c.toNat = 0 then [] else [wAcks, dec c])) wx))
        case first =>
          by_cases ha : c.toNat = 0
          · have hq : ((c.toNat : Int) != 0) = false := by simp [ha]
            have HE : Hid (TxSt w C (.slice ao S1.length cp) (S1 ++ (if c.toNat = 0 then [] else [wAcks, dec c])) wc) := by rw [if_pos ha, List.append_nil]; exact HT
            clear ha
            go_wp2
            go_meet
            exact HE
          · have hq : ((c.toNat : Int) != 0) = true := by rw [bne_iff_ne]; omega
            have HE : Hid ((if c.toNat = 0 then [] else [wAcks, dec c]) = [wAcks, dec c]) := Lib.hid (if_neg ha)
            clear ha
            go_wp2_with (first | (go_at_call 27; refine (num_st hG HT c).mono ?_; rintro e w' ⟨rfl, hs⟩) | (at_builtin; refine wpList_append_lies _ rfl _ _ _ rfl (w.heap.size + 2) 9 i0 _ 1 16 Tryz.underlying36 hi hz0 hz1 hz2 rfl (by omega) _ _ _ rfl (hs.out.alloc _).row ⟨_, 0, none⟩ 2 2 ([wAcks, dec c].map strv) rfl rfl (World.news_of_block (t := 9) (fr := (0, 0)) (heap_alloc_new _ _)) (by simp [Value.oneCell', strv]) (by omega) (by unfold maxLen; omega) (by omega) (by have := hs.out.big; simp; omega) _ rfl ?_; intro gg cap w1' hown1 hgrow hat hlt1; have hs2 := Lib.hid (hs.out.append (news := [wAcks, dec c]) hown1 hgrow); clear hown1 hgrow hat hlt1) | fail)
            go_meet
            exact (by rw [HE.out]; exact hs2)
        case rest =>
          have HT := hcut
          clear hcut
          obtain ⟨ao, cp, rfl⟩ := HT.out.form
          obtain ⟨S2, hS2⟩ : ∃ X, S1 ++ (if c.toNat = 0 then [] else [wAcks, dec c]) = X := ⟨_, rfl⟩
          have hLS2 : S2.length ≤ 9 := by rw [← hS2, List.length_append]; split <;> simp <;> omega
          have HS2 := Lib.hid hS2
          rw [hS2] at HT ⊢
          clear hS2 bq
          have bq : wc.cell? ⟨w.heap.size, 6, none⟩ = some (.bool al) := by rw [HT.out.cell, HC.out]; rfl
          go_upto_if 54 with fail
          go_cut [4] (fun s4 wx => Hid (TxSt w C s4 (S2 ++ (if al = false then [] else [wAlone])) wx))
          case first =>
            cases al
            · have HE : Hid (TxSt w C (.slice ao S2.length cp) (S2 ++ (if false = false then [] else [wAlone])) wc) := by rw [if_pos rfl, List.append_nil]; exact HT
              go_wp2
              go_meet
              exact HE
            · go_wp2_with (first | (at_builtin; refine wpList_append_lies _ rfl _ _ _ rfl (w.heap.size + 2) 9 i0 _ 1 16 Tryz.underlying36 hi hz0 hz1 hz2 rfl (by omega) _ _ _ rfl (HT.out.alloc _).row ⟨_, 0, none⟩ 1 1 ([wAlone].map strv) rfl rfl (World.news_of_block (t := 9) (fr := (0, 0)) (heap_alloc_new _ _)) (by simp [Value.oneCell', strv]) (by omega) (by unfold maxLen; omega) (by omega) (by have := HT.out.big; simp; omega) _ rfl ?_; intro gg cap w1' hown1 hgrow hat hlt1; have hs2 := Lib.hid (HT.out.append (news := [wAlone]) hown1 hgrow); clear hown1 hgrow hat hlt1) | fail)
              go_meet
              exact (by rw [if_neg (by decide)]; exact hs2)
          case rest =>
            have HT := hcut
            clear hcut
            obtain ⟨ao, cp, rfl⟩ := HT.out.form
            obtain ⟨S3, hS3⟩ : ∃ X, S2 ++ (if al = false then [] else [wAlone]) = X := ⟨_, rfl⟩
            have hLS3 : S3.length ≤ 10 := by rw [← hS3, List.length_append]; split <;> simp <;> omega
            have HS3 := Lib.hid hS3
            rw [hS3] at HT ⊢
            clear hS3 bq
            have b7 : wc.cell? ⟨w.heap.size, 7, none⟩ = some (.int .u8 d0.toNat) := by rw [HT.out.cell, HC.out]; rfl
            have b8 : wc.cell? ⟨w.heap.size, 8, none⟩ = some (.int .u8 d1.toNat) := by rw [HT.out.cell, HC.out]; rfl
            have b9 : wc.cell? ⟨w.heap.size, 9, none⟩ = some (.int .u8 d2.toNat) := by rw [HT.out.cell, HC.out]; rfl
            have b10 : wc.cell? ⟨w.heap.size, 10, none⟩ = some (.int .u8 d3.toNat) := by rw [HT.out.cell, HC.out]; rfl
            obtain ⟨z, hz⟩ : ∃ z, decide (d0 = 0 ∧ d1 = 0 ∧ d2 = 0 ∧ d3 = 0) = z := ⟨_, rfl⟩
            have hq : Sem.run Tryz.prog (Op.equalIn 10000 25 (.agg #[.int .u8 d0.toNat, .int .u8 d1.toNat, .int .u8 d2.toNat, .int .u8 d3.toNat]) (.agg #[.int .u8 0, .int .u8 0, .int .u8 0, .int .u8 0])) wc = .ok z wc := by rw [← hz]; exact eq_data wc d0 d1 d2 d3 0 0 0 0
            have HZ := Lib.hid hz
            clear hz
            go_upto_if 61 with fail
            clear hq
            go_cut [4] (fun s4 wx => Hid (TxSt w C s4 (S3 ++ (if z = true then [] else [wData, dec d0, dec d1, dec d2, dec d3])) wx))
            case first =>
              cases z
              · have HE : Hid ((if false = true then [] else [wData, dec d0, dec d1, dec d2, dec d3]) = [wData] ++ ([dec d0, dec d1, dec d2, dec d3] : List (List UInt8))) := Lib.hid rfl
                go_wp2_with (first | (at_builtin; refine wpList_append_lies _ rfl _ _ _ rfl (w.heap.size + 2) 9 i0 _ 1 16 Tryz.underlying36 hi hz0 hz1 hz2 rfl (by omega) _ _ _ rfl (HT.out.alloc _).row ⟨_, 0, none⟩ 1 1 ([wData].map strv) rfl rfl (World.news_of_block (t := 9) (fr := (0, 0)) (heap_alloc_new _ _)) (by simp [Value.oneCell', strv]) (by omega) (by unfold maxLen; omega) (by omega) (by have := HT.out.big; simp; omega) _ rfl ?_; intro gg cap w1' hown1 hgrow hat hlt1; have hs2 := Lib.hid (HT.out.append (news := [wData]) hown1 hgrow); clear hown1 hgrow hat hlt1; have c7 : w1'.cell? ⟨w.heap.size, 7, none⟩ = some (.int .u8 d0.toNat) := (by rw [hs2.out.cell, HC.out]; rfl); have c8 : w1'.cell? ⟨w.heap.size, 8, none⟩ = some (.int .u8 d1.toNat) := (by rw [hs2.out.cell, HC.out]; rfl); have c9 : w1'.cell? ⟨w.heap.size, 9, none⟩ = some (.int .u8 d2.toNat) := (by rw [hs2.out.cell, HC.out]; rfl); have c10 : w1'.cell? ⟨w.heap.size, 10, none⟩ = some (.int .u8 d3.toNat) := (by rw [hs2.out.cell, HC.out]; rfl)) | fail)
                have HT4 := hs2
                clear hs2 c7 c8 c9 c10 b7 b8 b9 b10
                go_loopg [4, 67] 4 (fun g s4 i wr => ∃ j : Nat, j ≤ 4 ∧ 4 - j ≤ g ∧ i = .int .i64 j ∧ Hid (TxSt w C s4 (S3 ++ [wData] ++ [dec d0, dec d1, dec d2, dec d3].take j) wr))
                case atStart => exact ⟨0, by omega, by omega, rfl, by rw [List.take_zero, List.append_nil]; exact HT4⟩
                case round =>
                  clear HT4
                  obtain ⟨j, hj, hg, rfl, HT5⟩ := hrel
                  obtain ⟨ao5, cp5, rfl⟩ := HT5.out.form
                  obtain ⟨S5, hS5⟩ : ∃ X, S3 ++ [wData] ++ [dec d0, dec d1, dec d2, dec d3].take j = X := ⟨_, rfl⟩
                  have hL5 : S5.length ≤ 15 := by rw [← hS5]; simp; omega
                  by_cases hlt : j < 4
                  · have hgk : 1 ≤ gk := by omega
                    obtain rfl | rfl | rfl | rfl : j = 0 ∨ j = 1 ∨ j = 2 ∨ j = 3 := by omega
                    · have HE5 := Lib.hid (show S3 ++ [wData] ++ [dec d0, dec d1, dec d2, dec d3].take (0 + 1) = S5 ++ [dec d0] by rw [← hS5]; simp)
                      rw [hS5] at HT5 ⊢
                      clear hS5
                      have iq := idx_data0 wr d0.toNat d1.toNat d2.toNat d3.toNat
                      go_wp2_with (first | (go_at_call 27; refine (num_st hG HT5 d0).mono ?_; rintro e w' ⟨rfl, hs⟩) | (at_builtin; refine wpList_append_lies _ rfl _ _ _ rfl (w.heap.size + 2) 9 i0 _ 1 16 Tryz.underlying36 hi hz0 hz1 hz2 rfl (by omega) _ _ _ rfl (hs.out.alloc _).row ⟨_, 0, none⟩ 1 1 ([dec d0].map strv) rfl rfl (World.news_of_block (t := 9) (fr := (0, 0)) (heap_alloc_new _ _)) (by simp [Value.oneCell', strv]) (by omega) (by unfold maxLen; omega) (by omega) (by have := hs.out.big; simp; omega) _ rfl ?_; intro gg cap w1' hown1 hgrow hat hlt1; have hs2 := Lib.hid (hs.out.append (news := [dec d0]) hown1 hgrow); clear hown1 hgrow hat hlt1) | fail)
                      go_roundg (gk - 1)
                      case measure => omega
                      case rel => exact ⟨0 + 1, by omega, by omega, rfl, by rw [HE5.out]; exact hs2⟩
                    · have HE5 := Lib.hid (show S3 ++ [wData] ++ [dec d0, dec d1, dec d2, dec d3].take (1 + 1) = S5 ++ [dec d1] by rw [← hS5]; simp)
                      rw [hS5] at HT5 ⊢
                      clear hS5
                      have iq := idx_data1 wr d0.toNat d1.toNat d2.toNat d3.toNat
                      go_wp2_with (first | (go_at_call 27; refine (num_st hG HT5 d1).mono ?_; rintro e w' ⟨rfl, hs⟩) | (at_builtin; refine wpList_append_lies _ rfl _ _ _ rfl (w.heap.size + 2) 9 i0 _ 1 16 Tryz.underlying36 hi hz0 hz1 hz2 rfl (by omega) _ _ _ rfl (hs.out.alloc _).row ⟨_, 0, none⟩ 1 1 ([dec d1].map strv) rfl rfl (World.news_of_block (t := 9) (fr := (0, 0)) (heap_alloc_new _ _)) (by simp [Value.oneCell', strv]) (by omega) (by unfold maxLen; omega) (by omega) (by have := hs.out.big; simp; omega) _ rfl ?_; intro gg cap w1' hown1 hgrow hat hlt1; have hs2 := Lib.hid (hs.out.append (news := [dec d1]) hown1 hgrow); clear hown1 hgrow hat hlt1) | fail)
                      go_roundg (gk - 1)
                      case measure => omega
                      case rel => exact ⟨1 + 1, by omega, by omega, rfl, by rw [HE5.out]; exact hs2⟩
                    · have HE5 := Lib.hid (show S3 ++ [wData] ++ [dec d0, dec d1, dec d2, dec d3].take (2 + 1) = S5 ++ [dec d2] by rw [← hS5]; simp)
                      rw [hS5] at HT5 ⊢
                      clear hS5
                      have iq := idx_data2 wr d0.toNat d1.toNat d2.toNat d3.toNat
                      go_wp2_with (first | (go_at_call 27; refine (num_st hG HT5 d2).mono ?_; rintro e w' ⟨rfl, hs⟩) | (at_builtin; refine wpList_append_lies _ rfl _ _ _ rfl (w.heap.size + 2) 9 i0 _ 1 16 Tryz.underlying36 hi hz0 hz1 hz2 rfl (by omega) _ _ _ rfl (hs.out.alloc _).row ⟨_, 0, none⟩ 1 1 ([dec d2].map strv) rfl rfl (World.news_of_block (t := 9) (fr := (0, 0)) (heap_alloc_new _ _)) (by simp [Value.oneCell', strv]) (by omega) (by unfold maxLen; omega) (by omega) (by have := hs.out.big; simp; omega) _ rfl ?_; intro gg cap w1' hown1 hgrow hat hlt1; have hs2 := Lib.hid (hs.out.append (news := [dec d2]) hown1 hgrow); clear hown1 hgrow hat hlt1) | fail)
                      go_roundg (gk - 1)
                      case measure => omega
                      case rel => exact ⟨2 + 1, by omega, by omega, rfl, by rw [HE5.out]; exact hs2⟩
                    · have HE5 := Lib.hid (show S3 ++ [wData] ++ [dec d0, dec d1, dec d2, dec d3].take (3 + 1) = S5 ++ [dec d3] by rw [← hS5]; simp)
                      rw [hS5] at HT5 ⊢
                      clear hS5
                      have iq := idx_data3 wr d0.toNat d1.toNat d2.toNat d3.toNat
                      go_wp2_with (first | (go_at_call 27; refine (num_st hG HT5 d3).mono ?_; rintro e w' ⟨rfl, hs⟩) | (at_builtin; refine wpList_append_lies _ rfl _ _ _ rfl (w.heap.size + 2) 9 i0 _ 1 16 Tryz.underlying36 hi hz0 hz1 hz2 rfl (by omega) _ _ _ rfl (hs.out.alloc _).row ⟨_, 0, none⟩ 1 1 ([dec d3].map strv) rfl rfl (World.news_of_block (t := 9) (fr := (0, 0)) (heap_alloc_new _ _)) (by simp [Value.oneCell', strv]) (by omega) (by unfold maxLen; omega) (by omega) (by have := hs.out.big; simp; omega) _ rfl ?_; intro gg cap w1' hown1 hgrow hat hlt1; have hs2 := Lib.hid (hs.out.append (news := [dec d3]) hown1 hgrow); clear hown1 hgrow hat hlt1) | fail)
                      go_roundg (gk - 1)
                      case measure => omega
                      case rel => exact ⟨3 + 1, by omega, by omega, rfl, by rw [HE5.out]; exact hs2⟩
                  · obtain rfl : j = 4 := by omega
                    rw [hS5] at HT5
                    rw [← hS5] at HT5
                    clear hS5
                    go_wp2
                    go_meet
                    exact (by rw [HE.out, ← List.append_assoc]; exact HT5)
              · have HE : Hid (TxSt w C (.slice ao S3.length cp) (S3 ++ (if true = true then [] else [wData, dec d0, dec d1, dec d2, dec d3])) wc) := by rw [if_pos rfl, List.append_nil]; exact HT
                go_wp2
                go_meet
                exact HE
            case rest =>
              have HT := hcut
              clear hcut
              obtain ⟨S4, hS4⟩ : ∃ X, S3 ++ (if z = true then [] else [wData, dec d0, dec d1, dec d2, dec d3]) = X := ⟨_, rfl⟩
              have hL4 : S4.length ≤ 15 := by rw [← hS4, List.length_append]; split <;> simp <;> omega
              have hW : S4 = wordsOf ⟨k, f, t, l, a, c, al, d0, d1, d2, d3⟩ := by rw [← hS4, ← HS3.out, ← HS2.out, ← HS1.out, ← HS0.out, ← HZ.out]; rfl
              have hP : 0 < S4.length := by rw [hW]; exact words_pos _
              have hJ := join_len [32] 7 S4 (by rw [hW]; exact words_len _)
              have HW := Lib.hid hW
              rw [hS4] at HT
              clear hS4 hW
              obtain ⟨g, cp4, rfl, hcap, hgl, hcells⟩ := HT.out.slice hP
              have HJ := Lib.hid (Tryz.strings_Join g 0 cp4 (S4.map fun l => (⟨l.toArray⟩ : ByteArray)) ⟨#[32]⟩ wc hcells hgl (by simp; omega) (by simpa using hcap) (by rw [map_back]; simp at hJ ⊢; omega))
              rw [List.length_map, map_back] at HJ
              clear hcells hcap hgl hJ hP hL4
              go_wp2_with fail
              go_at_call 28
              refine HJ.out.mono ?_
              rintro e w5 ⟨rfl, hb5⟩
              go_wp2
              go_ret
              exact ⟨congrArg (fun l => Ending.returned (.string ⟨(Lib.join l [32]).toArray⟩)) HW.out, HT.out.b.trans (hb5.mono HT.out.b.size)⟩
end Go.Proofs.YthllacodjeocmaaGreatDoor
