/- sizes, walked. -/
import Derived.Test.YtgpndifkkaomcaaDoorW5
import Derived.Test.YtgpndifkkaomcaaDoorW2
import Derived.Laws.BytesArg
namespace Go.Proofs.YtgpndifkkaomcaaDoor
open Go.RowKit
theorem sz_app {a b : ByteArray} {n m : Nat} (ha : a.size ≤ n) (hb : b.size ≤ m) : (a ++ b).size ≤ n + m := by
  rw [ByteArray.size_append]; omega
theorem sz_ext {a : ByteArray} {i j n : Nat} (ha : a.size ≤ n) : (a.extract i j).size ≤ n := by
  rw [ByteArray.size_extract]; omega
theorem sz_mono {a : ByteArray} {n m : Nat} (ha : a.size ≤ n) (h : n ≤ m) : a.size ≤ m := Nat.le_trans ha h
theorem sz_lit (l : Array UInt8) : (⟨l⟩ : ByteArray).size ≤ l.size := Nat.le_refl _
/-- What the laws' loops keep. -/
def St (w W : World) : Prop := Glob W ∧ Below w.heap.size w W
theorem St.next {w W W' : World} (h : St w W) (hb : Below W.heap.size W W') : St w W' := ⟨h.1.next hb, h.2.trans (hb.mono h.2.size)⟩
theorem St.alloc {w W : World} (h : St w W) (o : Obj) : St w (W.alloc o) := h.next ((Below.refl _ _).alloc (Nat.le_refl _) o)
theorem words_st {w W : World} (h : St w W) (s : ByteArray) (hs : s.size ≤ 20000) : Calls Tryd.prog 9 #[.string s] W fun e w' => e = .returned (.bool true) ∧ Hid (St w w') :=
  (words_any s W h.1 (by omega)).mono fun _ _ ⟨he, hb⟩ => ⟨he, Lib.hid (h.next hb)⟩
theorem lexes_st {w W : World} (h : St w W) (s : ByteArray) (hs : s.size ≤ 20000) : Calls Tryd.prog 10 #[.string s] W fun e w' => e = .returned (.bool true) ∧ Hid (St w w') :=
  (lexes_any s W h.1 (by omega)).mono fun _ _ ⟨he, hb⟩ => ⟨he, Lib.hid (h.next hb)⟩
/-- A row of strings in memory. -/
def Strs (W : World) (B n m : Nat) (F : Nat → ByteArray) : Prop := ∀ i, i < n → (F i).size ≤ m ∧ W.cell? ⟨B, i, none⟩ = some (.string (F i))
def strAt (C : Array Value) (i : Nat) : ByteArray := match C[i]? with
  | some (.string X) => X
  | _ => ⟨#[]⟩
def isStr (m : Nat) : Value → Bool
  | .string X => decide (X.size ≤ m)
  | _ => false
theorem Strs.new {W : World} {C : Array Value} {T : TypeId} {n m : Nat} (hC : C.size = n) (ha : C.toList.all (isStr m) = true) : Strs (W.alloc (.cells C T)) W.heap.size n m (strAt C) := by
  intro i hi
  have hi' : i < C.size := by omega
  have h1 : (W.alloc (.cells C T)).cell? ⟨W.heap.size, i, none⟩ = C[i]? := by
    have : (W.alloc (.cells C T)).heap[W.heap.size]? = some (.cells C T) := by
      show (W.heap.push (.cells C T))[W.heap.size]? = _
      simp
    unfold World.cell?
    rw [this]
    rfl
  unfold strAt
  rw [h1, Array.getElem?_eq_getElem hi']
  have h2 := List.all_eq_true.1 ha C[i] (by simp)
  revert h2
  cases C[i] with
  | string X => intro h2; exact ⟨of_decide_eq_true h2, rfl⟩
  | _ => intro h2; cases h2
theorem Strs.below {W W' : World} {B n m : Nat} {F : Nat → ByteArray} (h : Strs W B n m F) (hb : Below W.heap.size W W') : Strs W' B n m F := fun i hi => by
  obtain ⟨hX, hc⟩ := h i hi
  exact ⟨hX, (World.cell?_of_block (w := W) (hb.block B (cell_lt hc))).trans hc⟩
def St2 (w : World) (B n m : Nat) (F : Nat → ByteArray) (W : World) : Prop := St w W ∧ Strs W B n m F
theorem words_st2 {w W : World} {B n m : Nat} {F : Nat → ByteArray} (h : St2 w B n m F W) (s : ByteArray) (hs : s.size ≤ 20000) : Calls Tryd.prog 9 #[.string s] W fun e w' => e = .returned (.bool true) ∧ Hid (St2 w B n m F w') :=
  (words_any s W h.1.1 (by omega)).mono fun _ _ ⟨he, hb⟩ => ⟨he, Lib.hid ⟨h.1.next hb, h.2.below hb⟩⟩
theorem new3 (W : World) (a b c : Int) : (Sem.run Tryd.prog (convert 24 9 (.slice (some ⟨W.heap.size, 0, none⟩) 3 3)) (W.alloc (.cells #[.int .u8 a, .int .u8 b, .int .u8 c] 5))) = .ok (.string (strOfNums [a, b, c])) (W.alloc (.cells #[.int .u8 a, .int .u8 b, .int .u8 c] 5)) :=
  run_convert_bytes_arg _ 24 5 Tryd.underlying24 Tryd.underlying5 _ 0 3 3 [a, b, c] rfl (fun i hi => by
    have := cells_new3 W (.int .u8 a) (.int .u8 b) (.int .u8 c) 5 i
    rw [show (0 + i) = i from by omega]
    match i, hi with
    | 0, _ => exact this _ rfl
    | 1, _ => exact this _ rfl
    | 2, _ => exact this _ rfl) 9 Tryd.underlying9
/-- A block of 16385 bytes of the call's own. -/
def BRow (W : World) (B : Nat) : Prop := ∃ xs : List Int, xs.length = 16385 ∧ W.heap[B]? = some (.cells (xs.map (Value.int .u8)).toArray 5)
theorem BRow.set {W : World} {B i : Nat} (h : BRow W B) (v : Int) : BRow (W.setCell ⟨B, i, none⟩ (.int .u8 v)) B := by
  obtain ⟨xs, hl, hx⟩ := h
  refine ⟨xs.set i v, by simpa using hl, ?_⟩
  show (W.heap.modify B _)[B]? = _
  rw [Array.getElem?_modify, if_pos rfl, hx]
  simp
theorem BRow.cell {W : World} {B i : Nat} (h : BRow W B) (hi : i < 16385) : (∃ v, W.cell? ⟨B, i, none⟩ = some (.int .u8 v)) ∧ W.frozen? ⟨B, i, none⟩ = false := by
  obtain ⟨xs, hl, hx⟩ := h
  constructor
  · refine ⟨xs[i]'(by omega), ?_⟩
    unfold World.cell?
    rw [hx]
    simp [hl, hi]
  · unfold World.frozen?
    rw [hx]
    simp
theorem BRow.below {W W' : World} {B : Nat} (h : BRow W B) (hb : Below W.heap.size W W') : BRow W' B := by
  obtain ⟨xs, hl, hx⟩ := h
  have hlt : B < W.heap.size := by
    rcases Nat.lt_or_ge B W.heap.size with h' | h'
    · exact h'
    · rw [Array.getElem?_eq_none h'] at hx; cases hx
  exact ⟨xs, hl, by rw [hb.block B hlt]; exact hx⟩
theorem BRow.str {W : World} {B o n c : Nat} (h : BRow W B) (ho : o + n ≤ 16385) : ∃ X : ByteArray, X.size = n ∧ Sem.run Tryd.prog (convert 24 9 (.slice (some ⟨B, o, none⟩) n c)) W = .ok (.string X) W := by
  obtain ⟨xs, hl, hx⟩ := h
  refine ⟨strOfNums ((xs.drop o).take n), by rw [strOfNums_size]; simp; omega, ?_⟩
  refine run_convert_bytes_arg W 24 5 Tryd.underlying24 Tryd.underlying5 B o n c ((xs.drop o).take n) (by simp; omega) (fun i hi => ?_) 9 Tryd.underlying9
  unfold World.cell?
  rw [hx]
  simp [hl, hi, show o + i < 16385 by omega]
def zeros : Array Value := madeCells #[.int .u8 0] 16385
theorem make_run (W : World) : Sem.run Tryd.prog (Instr.makeSlice 24 (.int .i64 16385) (.int .i64 16385)) W = .ok (.slice (some ⟨W.heap.size, 0, none⟩) 16385 16385) (W.alloc (.cells zeros 5)) := by
  obtain ⟨i0, hi, hz0, hz1, hz2⟩ := info_parts byteInfo
  have h := run_make (P := Tryd.prog) W 24 5 i0 _ Tryd.underlying24 hi hz0 .i64 .i64 16385 16385 (by decide) (by decide) (by rw [hz2]; decide) (by decide)
  rw [hz1] at h
  exact h
theorem made_one (z : Value) (n : Nat) : madeCells #[z] n = (List.replicate n z).toArray := by
  apply Array.ext
  · simp [madeCells]
  · intro i h1 h2
    simp [madeCells, Nat.mod_one]
theorem zeros_row (W : World) : BRow (W.alloc (.cells zeros 5)) W.heap.size := by
  refine ⟨List.replicate 16385 0, List.length_replicate, ?_⟩
  have h1 : ∀ C, (W.alloc (.cells C 5)).heap[W.heap.size]? = some (.cells C 5) := fun C => by
    show (W.heap.push (.cells C 5))[W.heap.size]? = _
    simp
  rw [h1, List.map_replicate]
  congr 2
  exact made_one _ _
def St3 (w w5 : World) (W : World) : Prop := St w w5 ∧ Below w5.heap.size w5 W ∧ BRow W w5.heap.size
theorem St3.st {w w5 W : World} (h : St3 w w5 W) : St w W := h.1.next h.2.1
theorem lexes_st3 {w w5 W : World} (h : St3 w w5 W) (s : ByteArray) (hs : s.size ≤ 20000) : Calls Tryd.prog 10 #[.string s] W fun e w' => e = .returned (.bool true) ∧ Hid (St3 w w5 w') :=
  (lexes_any s W h.st.1 (by omega)).mono fun _ _ ⟨he, hb⟩ => ⟨he, Lib.hid ⟨h.1, h.2.1.trans (hb.mono h.2.1.size), h.2.2.below hb⟩⟩
theorem St3.set {w w5 W : World} (h : St3 w w5 W) (i : Nat) (v : Int) : St3 w w5 (W.setCell ⟨w5.heap.size, i, none⟩ (.int .u8 v)) := ⟨h.1, h.2.1.setCell (Nat.le_refl _) _, h.2.2.set v⟩
set_option maxHeartbeats 2000000 in
set_option maxRecDepth 100000 in
theorem sizes_any (w : World) (hG : Glob w) : Calls Tryd.prog 11 #[] w fun e w' => e = .returned (.bool true) ∧ Below w.heap.size w w' := by
  go_enter Tryd.func11, Tryd.ntmps11
  go_wp2
  go_loopg [1] 300 (fun g i wr => ∃ k : Nat, k ≤ 300 ∧ 300 - k ≤ g ∧ i = .int .i64 k ∧ Hid (St w wr))
  case atStart => exact ⟨0, by omega, by omega, rfl, Lib.hid ⟨hG, Below.refl _ _⟩⟩
  case round =>
    obtain ⟨k, hk, hg, rfl, HS⟩ := hrel
    by_cases hlt : k < 300
    · have hd : decide ((k : Int) < 300) = true := by simp; omega
      have hgk : 1 ≤ gk := by omega
      obtain ⟨X, hX⟩ : ∃ X, strOfNums [48 + (k : Int) / 100, 48 + (k : Int) / 10 % 10, 48 + (k : Int) % 10] = X := ⟨_, rfl⟩
      have hXs : X.size = 3 := by rw [← hX]; exact strOfNums_size _
      have cv := new3 wr (48 + (k : Int) / 100) (48 + (k : Int) / 10 % 10) (48 + (k : Int) % 10)
      rw [hX] at cv
      clear hX
      obtain ⟨g1, rfl⟩ : ∃ g1 : Nat, g1 = gk := ⟨_, rfl⟩
      obtain ⟨wo, rfl⟩ : ∃ wo : World, wo = wr := ⟨_, rfl⟩
      go_wp2
      have HS1 := Lib.hid (HS.out.alloc (.cells #[.int .u8 (48 + (k : Int) / 100), .int .u8 (48 + (k : Int) / 10 % 10), .int .u8 (48 + (k : Int) % 10)] 5))
      clear HS cv
      generalize wo.alloc _ = wp at HS1 ⊢
      go_loopg [3] 3 (fun g i wr => ∃ j : Nat, j ≤ 3 ∧ 3 - j ≤ g ∧ i = .int .i64 j ∧ Hid (St w wr))
      case atStart => exact ⟨0, by omega, by omega, rfl, HS1⟩
      case round =>
        obtain ⟨j, hj, hgj, rfl, HS⟩ := hrel
        clear HS1
        by_cases hlj : j < 3
        · have hd : decide ((j : Int) < 3) = true := by simp; omega
          have hgk : 1 ≤ gk := by omega
          have hX3 : X.size ≤ 3 := by omega
          go_wp2_with fail
          go_at_call 9
          refine (words_st HS.out _ (sz_mono (sz_ext hX3) (by decide))).mono ?_
          rintro e w1 ⟨rfl, HS1⟩
          clear HS
          go_wp2_with fail
          go_at_call 10
          refine (lexes_st HS1.out _ (sz_mono (sz_app (sz_lit #[120, 61]) (sz_ext hX3)) (by decide))).mono ?_
          rintro e w2 ⟨rfl, HS2⟩
          clear HS1
          go_wp2_with fail
          go_at_call 9
          refine (words_st HS2.out _ (sz_mono (sz_app (sz_lit #[114]) (sz_ext hX3)) (by decide))).mono ?_
          rintro e w3 ⟨rfl, HS3⟩
          clear HS2
          go_wp2_with fail
          go_at_call 9
          refine (words_st HS3.out _ (sz_mono (sz_app (sz_ext hX3) (sz_lit #[97])) (by decide))).mono ?_
          rintro e w4 ⟨rfl, HS4⟩
          clear HS3
          go_wp2
          go_roundg (gk - 1)
          case measure => omega
          case rel => exact ⟨j + 1, by omega, by omega, by go_num, HS4⟩
        · obtain rfl : j = 3 := by omega
          go_wp2
          go_roundg (g1 - 1)
          case measure => omega
          case rel => exact ⟨k + 1, by omega, by omega, by go_num, HS⟩
    · obtain rfl : k = 300 := by omega
      go_wp2
      go_loopg [5] 6 (fun g i wr => ∃ k : Nat, 14 ≤ k ∧ k ≤ 20 ∧ 20 - k ≤ g ∧ i = .int .i64 k ∧ Hid (St w wr))
      case atStart => exact ⟨14, by omega, by omega, by omega, rfl, HS⟩
      case round =>
        clear HS
        obtain ⟨k, hk0, hk, hg, rfl, HS⟩ := hrel
        by_cases hlt : k < 20
        · have hd : decide ((k : Int) < 20) = true := by simp; omega
          have hgk : 1 ≤ gk := by omega
          go_wp2_with fail
          go_at_call 9
          refine (words_st HS.out _ (sz_mono (sz_ext (sz_lit _)) (by decide))).mono ?_
          rintro e w1 ⟨rfl, HS1⟩
          clear HS
          go_wp2_with fail
          go_at_call 10
          refine (lexes_st HS1.out _ (sz_mono (sz_ext (sz_lit _)) (by decide))).mono ?_
          rintro e w2 ⟨rfl, HS2⟩
          clear HS1
          go_wp2_with fail
          go_at_call 10
          refine (lexes_st HS2.out _ (sz_mono (sz_app (sz_ext (sz_lit _)) (sz_lit #[32, 36])) (by decide))).mono ?_
          rintro e w3 ⟨rfl, HS3⟩
          clear HS2
          go_wp2_with fail
          go_at_call 9
          refine (words_st HS3.out _ (sz_mono (sz_ext (sz_lit _)) (by decide))).mono ?_
          rintro e w4 ⟨rfl, HS4⟩
          clear HS3
          go_wp2
          go_roundg (gk - 1)
          case measure => omega
          case rel => exact ⟨k + 1, by omega, by omega, by omega, by go_num, HS4⟩
        · obtain rfl : k = 20 := by omega
          go_wp2
          have key : ∀ (C : Array Value) (T : TypeId), C.size = 20 → C.toList.all (isStr 6) = true → ∃ F, Hid (St2 w wr.heap.size 20 6 F (wr.alloc (.cells C T))) := fun C T h1 h2 => ⟨strAt C, Lib.hid ⟨HS.out.alloc _, Strs.new h1 h2⟩⟩
          generalize hwp : wr.alloc (.cells _ _) = wp
          obtain ⟨F, HS2⟩ : ∃ F, Hid (St2 w wr.heap.size 20 6 F wp) := by rw [← hwp]; exact key _ _ rfl (by decide +kernel)
          clear key HS hwp
          generalize wr.heap.size = B at HS2 ⊢
          go_loopg [7] 20 (fun g i wr => ∃ k : Nat, k ≤ 20 ∧ 20 - k ≤ g ∧ i = .int .i64 k ∧ Hid (St2 w B 20 6 F wr))
          case atStart => exact ⟨0, by omega, by omega, rfl, HS2⟩
          case round =>
            clear HS2
            obtain ⟨k, hk, hg, rfl, HS⟩ := hrel
            by_cases hlt : k < 20
            · have hd : decide ((k : Int) < 20) = true := by simp; omega
              have hgk : 1 ≤ gk := by omega
              have hi0 : (k : Int) < 20 := by omega
              obtain ⟨g1, rfl⟩ : ∃ g1 : Nat, g1 = gk := ⟨_, rfl⟩
              obtain ⟨wo, rfl⟩ : ∃ wo : World, wo = wr := ⟨_, rfl⟩
              go_wp2
              go_loopg [8] 7 (fun g i wr => ∃ j : Nat, j ≤ 7 ∧ 7 - j ≤ g ∧ i = .int .i64 j ∧ Hid (St2 w B 20 6 F wr))
              case atStart => exact ⟨0, by omega, by omega, rfl, HS⟩
              case round =>
                clear HS
                obtain ⟨j, hj, hgj, rfl, HS⟩ := hrel
                obtain ⟨hX, hc⟩ := HS.out.2 k hlt
                by_cases hlj : j ≤ (F k).size
                · have hdj : decide ((j : Int) ≤ ((F k).size : Int)) = true := by simp; omega
                  have hij : (j : Int) ≤ ((F k).size : Int) := by omega
                  have hgk : 1 ≤ gk := by omega
                  go_wp2_with fail
                  go_at_call 9
                  refine (words_st2 HS.out _ (sz_mono (sz_ext hX) (by decide))).mono ?_
                  rintro e w1 ⟨rfl, HS1⟩
                  clear hc HS
                  obtain ⟨_, hc⟩ := HS1.out.2 k hlt
                  go_wp2_with fail
                  go_at_call 9
                  refine (words_st2 HS1.out _ (sz_mono (sz_app (sz_ext hX) (sz_lit #[115])) (by decide))).mono ?_
                  rintro e w2 ⟨rfl, HS2⟩
                  clear hc HS1
                  go_wp2
                  go_roundg (gk - 1)
                  case measure => omega
                  case rel => exact ⟨j + 1, by omega, by omega, by go_num, HS2⟩
                · have hdj : decide ((j : Int) ≤ ((F k).size : Int)) = false := by simp; omega
                  go_wp2
                  go_roundg (g1 - 1)
                  case measure => omega
                  case rel => exact ⟨k + 1, by omega, by omega, by go_num, HS⟩
            · obtain rfl : k = 20 := by omega
              have hmk := make_run wr
              go_wp2
              have HS3 : Hid (St3 w wr (wr.alloc (.cells zeros 5))) := Lib.hid ⟨HS.out.1, (Below.refl _ _).alloc (Nat.le_refl _) _, zeros_row wr⟩
              clear hmk HS
              obtain ⟨w5, hw5⟩ : ∃ w5 : World, w5 = wr := ⟨_, rfl⟩
              rw [← hw5] at HS3 ⊢
              clear hw5
              generalize w5.alloc (.cells zeros 5) = wq at HS3 ⊢
              go_loopg [10] 16385 (fun g i wr => ∃ k : Nat, k ≤ 16385 ∧ 16385 - k ≤ g ∧ i = .int .i64 k ∧ Hid (St3 w w5 wr))
              case atStart => exact ⟨0, by omega, by omega, rfl, HS3⟩
              case round =>
                clear HS3
                obtain ⟨k, hk, hg, rfl, HS⟩ := hrel
                by_cases hlt : k < 16385
                · have hd : decide ((k : Int) < 16385) = true := by simp; omega
                  have hgk : 1 ≤ gk := by omega
                  have hi0 : (k : Int) < 16385 := by omega
                  obtain ⟨⟨v, hc⟩, hf⟩ := HS.out.2.2.cell hlt
                  have HS1 := Lib.hid (HS.out.set k 32)
                  go_wp2
                  go_roundg (gk - 1)
                  case measure => omega
                  case rel => exact ⟨k + 1, by omega, by omega, by go_num, HS1⟩
                · obtain rfl : k = 16385 := by omega
                  obtain ⟨⟨v, hc⟩, hf⟩ := HS.out.2.2.cell (i := 16383) (by decide)
                  have HS1 := Lib.hid (HS.out.set 16383 120)
                  obtain ⟨X, hX, cv⟩ := HS1.out.2.2.str (o := 0) (n := 16385) (c := 16385) (by decide)
                  have hX' : X.size ≤ 16385 := by omega
                  clear HS hX
                  go_wp2_with fail
                  go_at_call 10
                  refine (lexes_st3 HS1.out _ (sz_mono hX' (by decide))).mono ?_
                  rintro e w1 ⟨rfl, HS2⟩
                  clear cv hX' HS1 hc hf
                  obtain ⟨Y, hY, cv⟩ := HS2.out.2.2.str (o := 0) (n := 16384) (c := 16385) (by decide)
                  have hY' : Y.size ≤ 16384 := by omega
                  clear hY
                  go_wp2_with fail
                  go_at_call 10
                  refine (lexes_st3 HS2.out _ (sz_mono hY' (by decide))).mono ?_
                  rintro e w2 ⟨rfl, HS3⟩
                  clear cv hY' HS2
                  obtain ⟨Z, hZ, cv⟩ := HS3.out.2.2.str (o := 1) (n := 16384) (c := 16384) (by decide)
                  have hZ' : Z.size ≤ 16384 := by omega
                  clear hZ
                  go_wp2_with fail
                  go_at_call 10
                  refine (lexes_st3 HS3.out _ (sz_mono hZ' (by decide))).mono ?_
                  rintro e w3 ⟨rfl, HS4⟩
                  clear cv hZ' HS3
                  go_wp2
                  go_ret
                  exact ⟨rfl, HS4.out.st.2⟩
end Go.Proofs.YtgpndifkkaomcaaDoor
