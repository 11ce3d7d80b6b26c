/- The comparisons of rows of tokens: same, alike. -/
import Derived.Test.YtgpndifkkaomcaaDoorT1
import Derived.Test.YtgpndifkkaomcaaDoorT2
namespace Go.Proofs.YtgpndifkkaomcaaDoor
open Go.RowKit
theorem TkRow.form {W : World} {v : Value} {ts : List Tk} (h : TkRow W v ts) : ∃ ao cap, v = .slice ao ts.length cap := by
  rcases h with ⟨h, h0⟩ | ⟨g, cap, h, _⟩
  · exact ⟨none, 0, by rw [h, h0]; rfl⟩
  · exact ⟨_, _, h⟩
theorem TkRow.here {W : World} {ao : Option Addr} {n cap : Nat} {ts : List Tk} (h : TkRow W (.slice ao n cap) ts) {k : Nat} (hk : k < ts.length) : ∃ g, ao = some ⟨g, 0, none⟩ := by
  rcases h with ⟨_, h0⟩ | ⟨g, c, h, _⟩
  · rw [h0] at hk; simp at hk
  · exact ⟨g, by simp at h; exact h.1⟩
theorem RTkRow.form {W : World} {v : Value} {ts : List Tk} (h : RTkRow W v ts) : ∃ ao cap, v = .slice ao ts.length cap := by
  rcases h with ⟨h, h0⟩ | ⟨g, cap, h, _⟩
  · exact ⟨none, 0, by rw [h, h0]; rfl⟩
  · exact ⟨_, _, h⟩
theorem RTkRow.here {W : World} {ao : Option Addr} {n cap : Nat} {ts : List Tk} (h : RTkRow W (.slice ao n cap) ts) {k : Nat} (hk : k < ts.length) : ∃ g, ao = some ⟨g, 0, none⟩ := by
  rcases h with ⟨_, h0⟩ | ⟨g, c, h, _⟩
  · rw [h0] at hk; simp at hk
  · exact ⟨g, by simp at h; exact h.1⟩
set_option maxHeartbeats 1000000 in
theorem same_any (v v' : Value) (ts : List Tk) (w : World) (hT : TkRow w v ts) (hR : RTkRow w v' ts) (hK : ∀ t ∈ ts, 1 ≤ t.K ∧ t.K ≤ 4) (hn : ts.length ≤ 140737488355328) :
    Calls Tryd.prog 25 #[v, v'] w fun e w' => e = .returned (.bool true) ∧ ∃ n, w' = w.drewN n := by
  obtain ⟨ao, cap, rfl⟩ := hT.form
  obtain ⟨ao', cap', rfl⟩ := hR.form
  have HT := Lib.hid hT
  have HR := Lib.hid hR
  have HK := Lib.hid hK
  clear hT hR hK
  go_enter Tryd.func25, Tryd.ntmps25
  go_wp2
  go_loopg [5] ts.length (fun g i wr => ∃ (k n : Nat), k ≤ ts.length ∧ ts.length - k ≤ g ∧ i = .int .i64 k ∧ wr = w.drewN n)
  case atStart => exact ⟨0, 0, by omega, by omega, rfl, rfl⟩
  case round =>
    obtain ⟨k, n, hk, hg, rfl, rfl⟩ := hrel
    by_cases hlt : k < ts.length
    · have hd : decide ((k : Int) < (ts.length : Int)) = true := by simp; omega
      have hi0 : (k : Int) < (ts.length : Int) := by omega
      have hgk : 1 ≤ gk := by omega
      obtain ⟨g, rfl⟩ := HT.out.here hlt
      obtain ⟨g', rfl⟩ := HR.out.here hlt
      obtain ⟨c0, c1, c2⟩ := HT.out.at k hlt
      obtain ⟨e0, e1, e2⟩ := HR.out.at k hlt
      have hKt := HK.out ts[k] (List.getElem_mem hlt)
      obtain ⟨t, ht⟩ : ∃ t, ts[k] = t := ⟨_, rfl⟩
      rw [ht] at c0 c1 c2 e0 e1 e2 hKt
      clear ht
      obtain ⟨hK1, hK4⟩ := hKt
      go_wp2
      go_quiet (fail)
      go_wp2
      go_roundg (gk - 1)
      case measure => omega
      case rel => exact ⟨k + 1, n + nq, by omega, by omega, by go_num, rfl⟩
    · obtain rfl : k = ts.length := by omega
      have hd : decide ((ts.length : Int) < (ts.length : Int)) = false := by simp
      go_wp2
      go_ret
      exact ⟨rfl, _, rfl⟩
set_option maxHeartbeats 1000000 in
theorem alike_any (v v' : Value) (ts us : List Tk) (w : World) (hT : TkRow w v ts) (hU : TkRow w v' us) (hl : us.length = ts.length) (hK : ∀ (k : Nat) (h : k < ts.length) (h' : k < us.length), us[k].K = ts[k].K ∧ us[k].x = ts[k].x) (hn : ts.length ≤ 140737488355328) :
    Calls Tryd.prog 13 #[v, v'] w fun e w' => e = .returned (.bool true) ∧ ∃ n, w' = w.drewN n := by
  obtain ⟨ao, cap, rfl⟩ := hT.form
  obtain ⟨ao', cap', rfl⟩ := hU.form
  have HU : Hid (TkRow w (.slice ao' us.length cap') us) := Lib.hid hU
  have HL := Lib.hid hl
  have HT := Lib.hid hT
  have HK := Lib.hid hK
  rw [hl]
  clear hT hU hK hl
  go_enter Tryd.func13, Tryd.ntmps13
  go_wp2
  go_loopg [5] ts.length (fun g i wr => ∃ (k n : Nat), k ≤ ts.length ∧ ts.length - k ≤ g ∧ i = .int .i64 k ∧ wr = w.drewN n)
  case atStart => exact ⟨0, 0, by omega, by omega, rfl, rfl⟩
  case round =>
    obtain ⟨k, n, hk, hg, rfl, rfl⟩ := hrel
    by_cases hlt : k < ts.length
    · have hd : decide ((k : Int) < (ts.length : Int)) = true := by simp; omega
      have hi0 : (k : Int) < (ts.length : Int) := by omega
      have hgk : 1 ≤ gk := by omega
      have hlu : k < us.length := by rw [HL.out]; exact hlt
      obtain ⟨g, rfl⟩ := HT.out.here hlt
      obtain ⟨g', rfl⟩ := HU.out.here hlu
      obtain ⟨c0, c1, c2⟩ := HT.out.at k hlt
      obtain ⟨e0, e1, e2⟩ := HU.out.at k hlu
      rw [(HK.out k hlt hlu).1] at e0
      rw [(HK.out k hlt hlu).2] at e1
      obtain ⟨t, ht⟩ : ∃ t, ts[k] = t := ⟨_, rfl⟩
      rw [ht] at c0 c1 c2 e0 e1
      clear ht e2 c2 hlu
      go_wp2
      go_quiet (fail)
      go_wp2
      go_roundg (gk - 1)
      case measure => omega
      case rel => exact ⟨k + 1, n + nq, by omega, by omega, by go_num, rfl⟩
    · obtain rfl : k = ts.length := by omega
      have hd : decide ((ts.length : Int) < (ts.length : Int)) = false := by simp
      go_wp2
      go_ret
      exact ⟨rfl, _, rfl⟩
end Go.Proofs.YtgpndifkkaomcaaDoor
