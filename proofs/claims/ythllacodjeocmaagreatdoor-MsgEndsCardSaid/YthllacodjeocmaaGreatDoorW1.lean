/- awake: the chapter's examples. -/
import Derived.Test.YthllacodjeocmaaGreatDoorM6
import Derived.Test.YthllacodjeocmaaGreatDoorL2
import Derived.Test.YthllacodjeocmaaGreatDoorM3
import Derived.Laws.BytesArg
namespace Go.Proofs.YthllacodjeocmaaGreatDoor
open Go.RowKit
attribute [local go_sem] Oper.semAt_some
def exS : ByteArray := ⟨#[86, 97, 108, 117, 101, 32, 50, 62, 48, 32, 108, 105, 110, 101, 32, 49, 32, 97, 99, 107, 115, 32, 49, 32, 100, 97, 116, 97, 32, 55, 32, 48, 32, 48, 32, 48]⟩
def exM : Mg := ⟨10, 2, 0, 1, 0, 1, false, 7, 0, 0, 0⟩
theorem ex_text : textOf exM = exS.data.toList := by decide +kernel
def zS : ByteArray := ⟨#[107, 105, 110, 100, 32, 48, 32, 48, 62, 48, 32, 108, 105, 110, 101, 32, 48]⟩
theorem zero_text : textOf zeroM = zS.data.toList := by decide +kernel
theorem ex_parse (w : World) (hG : GlobM w) : Calls Tryz.prog 17 #[.string exS] w fun e w' => e = .returned (.tuple #[.agg #[.int .u8 10, .int .u8 2, .int .u8 0, .int .u8 1, .int .u8 0, .int .u8 1, .bool false, .int .u8 7, .int .u8 0, .int .u8 0, .int .u8 0], .int .i64 0]) ∧ Below w.heap.size w w' := by
  refine (parse_any exS w hG (by decide)).mono ?_
  rintro e w' ⟨rfl, hb⟩
  rw [parse_text exS exM ex_text.symm]
  exact ⟨rfl, hb⟩
theorem ex_texts (w : World) (hG : GlobM w) : Calls Tryz.prog 14 #[.agg #[.int .u8 10, .int .u8 2, .int .u8 0, .int .u8 1, .int .u8 0, .int .u8 1, .bool false, .int .u8 7, .int .u8 0, .int .u8 0, .int .u8 0]] w fun e w' => e = .returned (.string exS) ∧ Below w.heap.size w w' := by
  refine (text_any exM w hG).mono ?_
  rintro e w' ⟨rfl, hb⟩
  exact ⟨congrArg (fun l => Ending.returned (.string ⟨l.toArray⟩)) ex_text, hb⟩
theorem zero_texts (w : World) (hG : GlobM w) : Calls Tryz.prog 14 #[.agg #[.int .u8 0, .int .u8 0, .int .u8 0, .int .u8 0, .int .u8 0, .int .u8 0, .bool false, .int .u8 0, .int .u8 0, .int .u8 0, .int .u8 0]] w fun e w' => e = .returned (.string zS) ∧ Below w.heap.size w w' := by
  refine (text_any zeroM w hG).mono ?_
  rintro e w' ⟨rfl, hb⟩
  exact ⟨congrArg (fun l => Ending.returned (.string ⟨l.toArray⟩)) zero_text, hb⟩
theorem bytes_str {W : World} {g c : Nat} {l : List UInt8} (h : BytesAt W g l) {n : Nat} (hn : n = l.length) : Sem.run Tryz.prog (convert 33 9 (.slice (some ⟨g, 0, none⟩) n c)) W = .ok (.string ⟨l.toArray⟩) W := by
  have h1 := run_convert_bytes_arg (P := Tryz.prog) W 33 5 Tryz.underlying33 Tryz.underlying5 g 0 n c (l.map fun u => (u.toNat : Int)) (by simp [hn]) (fun i hi => by
    have hi2 : i < l.length := by omega
    rw [Nat.zero_add, h i l[i] (List.getElem?_eq_getElem hi2)]
    simp [List.getD, List.getElem?_eq_getElem hi2, u8v]) 9 Tryz.underlying9
  have h2 : strOfNums (l.map fun u => (u.toNat : Int)) = ⟨l.toArray⟩ := list_inj0 (by
    rw [strOfNums_data, List.map_map]
    show _ = l
    conv => rhs; rw [← List.map_id l]
    apply List.map_congr_left
    intro x _
    simp)
  rw [h1, h2]
theorem ex_bytes (w : World) : Calls Tryz.prog 12 #[.agg #[.int .u8 10, .int .u8 2, .int .u8 0, .int .u8 1, .int .u8 0, .int .u8 1, .bool false, .int .u8 7, .int .u8 0, .int .u8 0, .int .u8 0]] w fun e w' => ∃ g cap, e = .returned (.slice (some ⟨g, 0, none⟩) 11 cap) ∧ Hid (BytesAt w' g [10, 2, 0, 1, 0, 1, 0, 7, 0, 0, 0]) ∧ Below w.heap.size w w' := by
  refine (bytes_any exM w).mono ?_
  rintro e w' ⟨g, cap, rfl, h, hb⟩
  exact ⟨g, cap, rfl, Lib.hid h, hb⟩
theorem ex_eq (w : World) : Sem.run Tryz.prog (Op.equalIn 9999 25 (.agg #[.int .u8 7, .int .u8 0, .int .u8 0, .int .u8 0]) (.agg #[.int .u8 7, .int .u8 0, .int .u8 0, .int .u8 0])) w = .ok true w := eq_data9 w 7 0 0 0 7 0 0 0
set_option maxHeartbeats 2000000 in
set_option maxRecDepth 100000 in
theorem awake_any (w : World) (hG : GlobM w) : Calls Tryz.prog 7 #[] w fun e w' => e = .returned (.bool true) ∧ Below w.heap.size w w' := by
  have hx : exS.toList = [86, 97, 108, 117, 101, 32, 50, 62, 48, 32, 108, 105, 110, 101, 32, 49, 32, 97, 99, 107, 115, 32, 49, 32, 100, 97, 116, 97, 32, 55, 32, 48, 32, 48, 32, 48] := by rw [ByteArray.toList_eq]; rfl
  have hz0 : zS.toList = [107, 105, 110, 100, 32, 48, 32, 48, 62, 48, 32, 108, 105, 110, 101, 32, 48] := by rw [ByteArray.toList_eq]; rfl
  have hG0 := hG.next ((Below.refl _ w).alloc (Nat.le_refl _) (.cells #[.int .u8 10, .int .u8 2, .int .u8 0, .int .u8 1, .int .u8 0, .int .u8 1, .bool false, .int .u8 7, .int .u8 0, .int .u8 0, .int .u8 0] 27))
  have hb0 := (Below.refl _ w).alloc (Nat.le_refl _) (.cells #[.int .u8 10, .int .u8 2, .int .u8 0, .int .u8 1, .int .u8 0, .int .u8 1, .bool false, .int .u8 7, .int .u8 0, .int .u8 0, .int .u8 0] 27)
  go_enter Tryz.func7, Tryz.ntmps7
  go_wp2_with fail
  go_at_call 17
  refine (ex_parse _ hG0).mono ?_
  rintro e w1 ⟨rfl, hb1⟩
  obtain ⟨hc1, _⟩ := bcell hb1
  have hz1 : w.heap.size < w1.heap.size := by have := hb1.size; simp at this; omega
  have hG1 := hG0.next hb1
  have c1 := hb0.trans (hb1.mono hb0.size)
  clear hG0 hb0 hb1
  have hG2 := hG1.next ((Below.refl _ w1).alloc (Nat.le_refl _) (.cells #[.int .u8 10, .int .u8 2, .int .u8 0, .int .u8 1, .int .u8 0, .int .u8 1, .bool false, .int .u8 7, .int .u8 0, .int .u8 0, .int .u8 0] 27))
  have c2 := c1.trans (((Below.refl _ w1).alloc (Nat.le_refl _) (.cells #[.int .u8 10, .int .u8 2, .int .u8 0, .int .u8 1, .int .u8 0, .int .u8 1, .bool false, .int .u8 7, .int .u8 0, .int .u8 0, .int .u8 0] 27)).mono c1.size)
  clear hG1 c1
  go_wp2_with fail
  go_at_call 14
  refine (ex_texts _ hG2).mono ?_
  rintro e w2 ⟨rfl, hb2⟩
  obtain ⟨hc2, _⟩ := bcell hb2
  have hz2 : w1.heap.size < w2.heap.size := by have := hb2.size; simp at this; omega
  have hz2' : w.heap.size < w2.heap.size := by omega
  have hz1' : w.heap.size < w1.heap.size + 1 := by omega
  have hG3 := hG2.next hb2
  have c3 := c2.trans (hb2.mono (by have := c2.size; simp at this ⊢; omega))
  clear hG2 c2 hb2
  go_wp2_with fail
  go_at_call 12
  refine (ex_bytes _).mono ?_
  rintro e w3 ⟨g3, cap3, rfl, hB3, hb3⟩
  obtain ⟨hc3, _⟩ := bcell hb3
  have hz3 : w1.heap.size < w3.heap.size := by have := hb3.size; omega
  have hG4 := hG3.next hb3
  have c4 := c3.trans (hb3.mono c3.size)
  clear hG3 c3 hb3
  have cv := bytes_str (c := cap3) (n := 11) hB3.out rfl
  have eq := ex_eq w3
  go_wp2_with fail
  go_at_call 14
  refine (zero_texts _ hG4).mono ?_
  rintro e w4 ⟨rfl, hb4⟩
  have c5 := c4.trans (hb4.mono c4.size)
  clear hG4 c4 hb4 cv eq
  go_wp2
  go_ret
  exact ⟨rfl, c5⟩
end Go.Proofs.YthllacodjeocmaaGreatDoor
