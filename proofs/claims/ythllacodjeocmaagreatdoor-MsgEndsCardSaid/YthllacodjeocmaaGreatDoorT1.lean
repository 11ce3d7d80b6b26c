/- The reference's numbers and names. -/
import Derived.Test.YthllacodjeocmaaGreatDoorG3
namespace Go.Proofs.YthllacodjeocmaaGreatDoor
open Go.RowKit
attribute [local go_sem] Oper.semAt_some
def up (m : Nat) : List UInt8 := if m ≤ 9 then [] else Lib.itoa ((m / 10 : Nat) : Int)
theorem up_table : ∀ m : Fin 256, Lib.itoa (m.val : Int) = up m.val ++ [UInt8.ofNat (48 + m.val % 10)] := by decide +kernel
theorem up_at (m : Nat) (h : m < 256) : Lib.itoa (m : Int) = up m ++ [UInt8.ofNat (48 + m % 10)] := up_table ⟨m, h⟩
theorem up_step (m : Nat) (h : m < 256) (h9 : 9 < m) : up m = up (m / 10) ++ [UInt8.ofNat (48 + m / 10 % 10)] := by
  conv => lhs; unfold up
  rw [if_neg (by omega)]
  exact up_at (m / 10) (by omega)
theorem conv1 (W : World) (z : Int) (h0 : 0 ≤ z) (h1 : z < 256) : Sem.run Tryz.prog (convert 33 9 (.slice (some ⟨W.heap.size, 0, none⟩) 1 1)) (W.alloc (.cells #[.int .u8 z] 5)) = .ok (.string ⟨#[UInt8.ofNat z.toNat]⟩) (W.alloc (.cells #[.int .u8 z] 5)) := by
  obtain ⟨n, rfl⟩ := Int.eq_ofNat_of_zero_le h0
  have hn : (UInt8.ofNat n).toNat = n := by rw [UInt8.toNat_ofNat']; omega
  have hA : BytesAt (W.alloc (.cells #[.int .u8 (n : Int)] 5)) W.heap.size [UInt8.ofNat n] := fun j u hu => by
    match j with
    | 0 =>
      simp only [List.getElem?_cons_zero, Option.some.injEq] at hu
      subst hu
      rw [World.cell?_alloc_new]
      simp [u8v, hn]
    | j + 1 => simp at hu
  have := bytes_str (c := 1) (n := 1) hA rfl
  rw [this]
  simp
def decS (n : UInt8) : ByteArray := ⟨(dec n).toArray⟩
theorem cat_data (a b : ByteArray) : (a ++ b).data.toList = a.data.toList ++ b.data.toList := by
  rw [ByteArray.data_append, Array.toList_append]
set_option maxHeartbeats 1000000 in
set_option maxRecDepth 100000 in
theorem number_ref (n : UInt8) (w : World) : Calls Tryz.prog 29 #[.int .u8 n.toNat] w fun e w' => e = .returned (.string (decS n)) ∧ Below w.heap.size w w' := by
  have hn := n.toNat_lt
  have HD : Hid (dec n = up n.toNat ++ [UInt8.ofNat (48 + n.toNat % 10)]) := Lib.hid (up_at n.toNat hn)
  have hF : ∀ s : ByteArray, s.data.toList = dec n → s = decS n := fun s h => list_inj0 h
  have HF := Lib.hid hF
  clear hF
  generalize dec n = dn at HD HF
  generalize decS n = ds at HF ⊢
  generalize n.toNat = k at hn HD ⊢
  have c1 := conv1 w (48 + (k : Int) % 10) (by omega) (by omega)
  have e1 : UInt8.ofNat (48 + (k : Int) % 10).toNat = UInt8.ofNat (48 + k % 10) := by congr 1
  rw [e1] at c1
  generalize UInt8.ofNat (48 + k % 10) = c at c1 HD
  clear e1
  go_enter Tryz.func29, Tryz.ntmps29
  go_wp2
  clear c1
  go_loopw [0, 3] (fun v s wr => ∃ (m : Nat) (t : ByteArray), m < 256 ∧ t.size ≤ 256 - m ∧ v = .int .u8 m ∧ s = .string t ∧ Hid (dn = up m ++ t.data.toList) ∧ Below w.heap.size w wr) (fun v _ _ => (intOf v).toNat)
  case atStart => exact ⟨k, _, hn, by show 1 ≤ _; omega, rfl, rfl, HD, (Below.refl _ w).alloc (Nat.le_refl _) _⟩
  case round =>
    obtain ⟨m, t, hm, ht, rfl, rfl, HR, hb⟩ := hrel
    by_cases h9 : 9 < m
    · have q : decide ((9 : Int) < (m : Int)) = true := by simp; omega
      have q2 : ¬ (9223372036854775807 < 1 + t.size) := by omega
      have c2 := conv1 wr (48 + (m : Int) / 10 % 10) (by omega) (by omega)
      have e1 : UInt8.ofNat (48 + (m : Int) / 10 % 10).toNat = UInt8.ofNat (48 + m / 10 % 10) := by congr 1
      have HU := up_step m hm h9
      rw [e1] at c2
      generalize UInt8.ofNat (48 + m / 10 % 10) = c at c2 HU
      have HU := Lib.hid HU
      clear e1
      go_wp2
      exact ⟨⟨m / 10, _, by omega, by rw [ByteArray.size_append]; show 1 + t.size ≤ _; omega, rfl, rfl, Lib.hid (by rw [cat_data, HR.out, HU.out, List.append_assoc]), hb.alloc hb.size _⟩, by simp [intOf]; omega⟩
    · have q : decide ((9 : Int) < (m : Int)) = false := by simp; omega
      go_wp2
      go_ret
      have hz : up m = [] := by unfold up; rw [if_pos (by omega)]
      have he := HR.out
      rw [hz, List.nil_append] at he
      rw [HF.out t he.symm]
      exact ⟨rfl, hb⟩
end Go.Proofs.YthllacodjeocmaaGreatDoor
