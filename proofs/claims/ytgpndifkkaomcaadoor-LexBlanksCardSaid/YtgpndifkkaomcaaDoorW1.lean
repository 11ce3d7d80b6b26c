/- The examples of the chapter. -/
import Derived.Test.YtgpndifkkaomcaaDoorA14
import Derived.Test.YtgpndifkkaomcaaDoorT1
namespace Go.Proofs.YtgpndifkkaomcaaDoor
open Go.RowKit
instance : DecidableEq Tk := fun a b => decidable_of_iff (a.K = b.K ∧ a.x = b.x ∧ a.a = b.a) (by cases a; cases b; simp)
def S1 : ByteArray := ⟨#[114, 49, 32, 61, 32, 120, 32, 35, 32, 103, 101, 116, 10, 48, 58, 114, 49, 33, 61, 50]⟩
def S2 : ByteArray := ⟨#[120, 32, 61, 32, 48, 55]⟩
def S3 : ByteArray := ⟨#[120, 32, 36]⟩
def T1 : List Tk := [⟨1, ⟨#[114, 49]⟩, 0⟩, ⟨3, ⟨#[61]⟩, 3⟩, ⟨1, ⟨#[120]⟩, 5⟩, ⟨4, ⟨#[]⟩, 12⟩, ⟨2, ⟨#[48]⟩, 13⟩, ⟨3, ⟨#[58]⟩, 14⟩, ⟨1, ⟨#[114, 49]⟩, 15⟩, ⟨3, ⟨#[33, 61]⟩, 17⟩, ⟨2, ⟨#[50]⟩, 19⟩, ⟨4, ⟨#[]⟩, 20⟩]
theorem ex1 : lexOf S1 = (T1, 0, 0) := by decide +kernel
theorem ex2 : lexOf S2 = ([], 4, 41) := by decide +kernel
theorem ex3 : lexOf S3 = ([], 2, 40) := by decide +kernel
theorem ex4 : typeGo T1 false = [114, 49, 32, 61, 32, 120, 10, 48, 32, 58, 32, 114, 49, 32, 33, 61, 32, 50, 10] := by decide +kernel
theorem ex5 : nameB ⟨#[114, 49, 48]⟩ = false := by decide +kernel
theorem ex6 : nameB ⟨#[120]⟩ = true := by decide +kernel
theorem lex1 (w : World) (hG : Glob w) : Calls Tryd.prog 12 #[.string S1] w fun e w' => ∃ g cap, e = .returned (.tuple #[.slice (some ⟨g, 0, none⟩) 10 cap, .int .i64 0, .int .i64 0]) ∧ TkRow w' (.slice (some ⟨g, 0, none⟩) 10 cap) T1 ∧ Glob w' ∧ Below w.heap.size w w' := by
  refine (lex_any S1 w hG (by decide)).mono ?_
  rintro e w' ⟨v, rfl, h, hb⟩
  rw [ex1] at h ⊢
  have ht := TkRow.of_owns h
  rcases ht with ⟨_, h0⟩ | ⟨g, cap, rfl, hc⟩
  · cases h0
  · exact ⟨g, cap, rfl, .inr ⟨g, cap, rfl, hc⟩, hG.next hb, hb⟩
theorem lex2 (w : World) (hG : Glob w) : Calls Tryd.prog 12 #[.string S2] w fun e w' => ∃ v, e = .returned (.tuple #[v, .int .i64 4, .int .i64 41]) ∧ Glob w' ∧ Below w.heap.size w w' := by
  refine (lex_any S2 w hG (by decide)).mono ?_
  rintro e w' ⟨v, rfl, h, hb⟩
  rw [ex2]
  exact ⟨v, rfl, hG.next hb, hb⟩
theorem lex3 (w : World) (hG : Glob w) : Calls Tryd.prog 12 #[.string S3] w fun e w' => ∃ v, e = .returned (.tuple #[v, .int .i64 2, .int .i64 40]) ∧ Glob w' ∧ Below w.heap.size w w' := by
  refine (lex_any S3 w hG (by decide)).mono ?_
  rintro e w' ⟨v, rfl, h, hb⟩
  rw [ex3]
  exact ⟨v, rfl, hG.next hb, hb⟩
theorem reg7 (w : World) : Calls Tryd.prog 15 #[.string ⟨#[114, 55]⟩] w fun e w' => e = .returned (.tuple #[.int .u8 7, .bool true]) ∧ w = w' := reg_any _ _
theorem reg8 (w : World) : Calls Tryd.prog 15 #[.string ⟨#[114, 56]⟩] w fun e w' => e = .returned (.tuple #[.int .u8 0, .bool false]) ∧ w = w' := reg_any _ _
theorem name1 (w : World) : Calls Tryd.prog 17 #[.string ⟨#[114, 49, 48]⟩] w fun e w' => e = .returned (.bool false) ∧ Below w.heap.size w w' := by
  have h := name_any ⟨#[114, 49, 48]⟩ w (by decide)
  rw [ex5] at h
  exact h
theorem name2 (w : World) : Calls Tryd.prog 17 #[.string ⟨#[120]⟩] w fun e w' => e = .returned (.bool true) ∧ Below w.heap.size w w' := by
  have h := name_any ⟨#[120]⟩ w (by decide)
  rw [ex6] at h
  exact h
theorem type1 (w : World) (g cap : Nat) (hT : TkRow w (.slice (some ⟨g, 0, none⟩) 10 cap) T1) : Calls Tryd.prog 19 #[.slice (some ⟨g, 0, none⟩) 10 cap] w fun e w' => e = .returned (.string ⟨#[114, 49, 32, 61, 32, 120, 10, 48, 32, 58, 32, 114, 49, 32, 33, 61, 32, 50, 10]⟩) ∧ Below w.heap.size w w' := by
  have h := type_any _ T1 w hT (by rw [ex4]; decide) (by decide)
  rw [ex4] at h
  exact h
set_option maxHeartbeats 2000000 in
set_option maxRecDepth 100000 in
theorem awake_any (w : World) (hG : Glob w) : Calls Tryd.prog 8 #[] w fun e w' => e = .returned (.bool true) ∧ Below w.heap.size w w' := by
  go_enter Tryd.func8, Tryd.ntmps8
  go_wp2_with fail
  go_at_call 12
  refine (lex1 _ hG).mono ?_
  rintro e w1 ⟨g, cap, rfl, hT1, hG1, hb1⟩
  go_wp2_with fail
  go_at_call 12
  refine (lex2 _ hG1).mono ?_
  rintro e w2 ⟨v2, rfl, hG2, hb2⟩
  have hT2 := hT1.below hb2
  have hc2 := hb1.trans (hb2.mono hb1.size)
  clear hT1 hb1 hb2 hG1
  go_wp2_with fail
  go_at_call 12
  refine (lex3 _ hG2).mono ?_
  rintro e w3 ⟨v3, rfl, hG3, hb3⟩
  have hT3 := hT2.below hb3
  have hc3 := hc2.trans (hb3.mono hc2.size)
  clear hT2 hb3 hG2 hc2 hG3
  have HT := Lib.hid hT3
  clear hT3
  go_wp2_with fail
  go_at_call 15
  refine (reg7 _).mono ?_
  rintro e w' ⟨rfl, rfl⟩
  go_wp2_with fail
  go_at_call 15
  refine (reg8 _).mono ?_
  rintro e w' ⟨rfl, rfl⟩
  go_wp2_with fail
  go_at_call 17
  refine (name1 _).mono ?_
  rintro e w4 ⟨rfl, hb4⟩
  have hT4 := Lib.hid (HT.out.below hb4)
  have hc4 := hc3.trans (hb4.mono hc3.size)
  clear HT hb4 hc3
  go_wp2_with fail
  go_at_call 17
  refine (name2 _).mono ?_
  rintro e w5 ⟨rfl, hb5⟩
  have hT5 := hT4.out.below hb5
  have hc5 := hc4.trans (hb5.mono hc4.size)
  clear hT4 hb5 hc4
  have h3 := TkRow.at (ts := T1) hT5 3 (by decide)
  have h7 := TkRow.at (ts := T1) hT5 7 (by decide)
  have h9 := TkRow.at (ts := T1) hT5 9 (by decide)
  simp [T1] at h3 h7 h9
  obtain ⟨a0, a1, a2⟩ := h3
  obtain ⟨b0, b1, b2⟩ := h7
  obtain ⟨d0, d1, d2⟩ := h9
  have HT := Lib.hid hT5
  clear hT5
  go_wp2_with fail
  go_at_call 19
  refine (type1 _ g cap HT.out).mono ?_
  rintro e w6 ⟨rfl, hb6⟩
  go_wp2
  go_ret
  exact ⟨rfl, hc5.trans (hb6.mono hc5.size)⟩
end Go.Proofs.YtgpndifkkaomcaaDoor
