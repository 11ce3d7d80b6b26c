/- Validity is the reference's. -/
import Derived.Test.YthllacodjeocmaaGreatDoorU17
import Derived.Test.YthllacodjeocmaaGreatDoorU15
namespace Go.Proofs.YthllacodjeocmaaGreatDoor
open Go.RowKit
theorem u8z (n : UInt8) : ((n.toNat : Int) == 0) = decide (n = 0) := by
  rw [Bool.eq_iff_iff, beq_iff_eq, decide_eq_true_eq, ← UInt8.toNat_inj]
  have : (0 : UInt8).toNat = 0 := rfl
  omega
theorem bz (x : Bool) (a : UInt8) : ((bif x then (0 : UInt8) else a) = 0) ↔ (x || decide (a = 0)) = true := by cases x <;> simp
theorem bf (x : Bool) (a : Bool) : ((bif x then false else a) = false) ↔ (x || !a) = true := by cases x <;> cases a <;> simp
def zzB (m : Mg) (b : Bool) (n : Nat) : Bool := ((((b && decide (1 ≤ n)) || decide (m.d0 = 0)) && ((b && decide (2 ≤ n)) || decide (m.d1 = 0))) && ((b && decide (3 ≤ n)) || decide (m.d2 = 0))) && ((b && decide (4 ≤ n)) || decide (m.d3 = 0))
theorem bare_eq (m : Mg) (g : Ge) : (m.bare g).eqB m.way = ((((mayB m.k 16 || ((m.a.toNat : Int) == 0)) && ((mayB m.k 32 && decide ((m.c.toNat : Int) < g.c)) || ((m.c.toNat : Int) == 0))) && ((mayB m.k 64 && !g.isCache m.f.toNat) || !m.al)) && zzB m (mayB m.k 128) g.w.toNat) := by
  rw [Bool.eq_iff_iff, eqB_iff]
  unfold Mg.bare Mg.noA Mg.noC Mg.noAl Mg.noD Mg.way zzB
  simp only [Mg.mk.injEq, true_and, bz, bf, u8z, Bool.and_eq_true, and_assoc]
theorem data_law (m : Mg) (b : Bool) {n : Nat} (h1 : 1 ≤ n) (h4 : n ≤ 4) : ((decide (m.d0 = 0 ∧ m.d1 = 0 ∧ m.d2 = 0 ∧ m.d3 = 0) || b) && m.zr n 4) = zzB m b n := by
  unfold zzB
  have e : m.zr n 4 = ((((decide (0 < n) || ((m.d0.toNat : Int) == 0)) && (decide (1 < n) || ((m.d1.toNat : Int) == 0))) && (decide (2 < n) || ((m.d2.toNat : Int) == 0))) && (decide (3 < n) || ((m.d3.toNat : Int) == 0))) := by
    show ((((true && _) && _) && _) && _) = _
    rw [Bool.true_and]
    rfl
  rw [e]
  simp only [u8z]
  have hz : decide (m.d0 = 0 ∧ m.d1 = 0 ∧ m.d2 = 0 ∧ m.d3 = 0) = (((decide (m.d0 = 0) && decide (m.d1 = 0)) && decide (m.d2 = 0)) && decide (m.d3 = 0)) := by simp only [Bool.decide_and, Bool.and_assoc]
  rw [hz]
  generalize decide (m.d0 = 0) = y0
  generalize decide (m.d1 = 0) = y1
  generalize decide (m.d2 = 0) = y2
  generalize decide (m.d3 = 0) = y3
  obtain rfl | rfl | rfl | rfl : n = 1 ∨ n = 2 ∨ n = 3 ∨ n = 4 := by omega
  all_goals (revert b y0 y1 y2 y3; decide)
theorem cache_home {g : Ge} {n l : Nat} (h : g.isCache n = true) (h2 : ((n : Int) == (g.home l : Int)) = true) : False := by
  unfold Ge.isCache at h
  rw [Bool.and_eq_true, decide_eq_true_eq] at h
  rw [beq_iff_eq] at h2
  unfold Ge.home at h2
  rw [if_pos h.1] at h2
  have := ok_bounds h.1
  omega
theorem kind1 : ∀ cf ct ca qf qt ne na a0 c0 lc al dz : Bool, ((cf && qf) = false) → ((ct && qt) = false) → ((cf && qt && !ne) = false) → ((qf && ct && !ne) = false) → ((((true && cf) || (false && qf)) && ((true && qt) || (false && ct)) && ne) && (!(false && (!ca || !na)) && ((((false || a0) && ((false && lc) || c0)) && ((false && !cf) || !al)) && dz))) = (((((bif true && true then (cf && qt) else bif ((false && true) || false) then (qf && ct) else bif false then ((qf && ct) || ((cf && ct) && ne)) else (false && ((cf && ct) && ne))) && (bif false && true then (ca && na) else a0)) && (c0 || (lc && ((false || false) || false)))) && (!al || (false && (qf && ct)))) && dz) := by decide +kernel
theorem kind2 : ∀ cf ct ca qf qt ne na a0 c0 lc al dz : Bool, ((cf && qf) = false) → ((ct && qt) = false) → ((cf && qt && !ne) = false) → ((qf && ct && !ne) = false) → ((((true && cf) || (false && qf)) && ((true && qt) || (false && ct)) && ne) && (!(false && (!ca || !na)) && ((((false || a0) && ((false && lc) || c0)) && ((false && !cf) || !al)) && dz))) = (((((bif true && true then (cf && qt) else bif ((false && true) || false) then (qf && ct) else bif false then ((qf && ct) || ((cf && ct) && ne)) else (false && ((cf && ct) && ne))) && (bif false && true then (ca && na) else a0)) && (c0 || (lc && ((false || false) || false)))) && (!al || (false && (qf && ct)))) && dz) := by decide +kernel
theorem kind3 : ∀ cf ct ca qf qt ne na a0 c0 lc al dz : Bool, ((cf && qf) = false) → ((ct && qt) = false) → ((cf && qt && !ne) = false) → ((qf && ct && !ne) = false) → ((((true && cf) || (false && qf)) && ((true && qt) || (false && ct)) && ne) && (!(false && (!ca || !na)) && ((((false || a0) && ((false && lc) || c0)) && ((false && !cf) || !al)) && dz))) = (((((bif true && true then (cf && qt) else bif ((false && true) || false) then (qf && ct) else bif false then ((qf && ct) || ((cf && ct) && ne)) else (false && ((cf && ct) && ne))) && (bif false && true then (ca && na) else a0)) && (c0 || (lc && ((false || false) || false)))) && (!al || (false && (qf && ct)))) && dz) := by decide +kernel
theorem kind4 : ∀ cf ct ca qf qt ne na a0 c0 lc al dz : Bool, ((cf && qf) = false) → ((ct && qt) = false) → ((cf && qt && !ne) = false) → ((qf && ct && !ne) = false) → ((((true && cf) || (false && qf)) && ((true && qt) || (false && ct)) && ne) && (!(false && (!ca || !na)) && ((((false || a0) && ((false && lc) || c0)) && ((false && !cf) || !al)) && dz))) = (((((bif true && true then (cf && qt) else bif ((false && true) || false) then (qf && ct) else bif false then ((qf && ct) || ((cf && ct) && ne)) else (false && ((cf && ct) && ne))) && (bif false && true then (ca && na) else a0)) && (c0 || (lc && ((false || false) || false)))) && (!al || (false && (qf && ct)))) && dz) := by decide +kernel
theorem kind5 : ∀ cf ct ca qf qt ne na a0 c0 lc al dz : Bool, ((cf && qf) = false) → ((ct && qt) = false) → ((cf && qt && !ne) = false) → ((qf && ct && !ne) = false) → ((((true && cf) || (false && qf)) && ((true && qt) || (false && ct)) && ne) && (!(false && (!ca || !na)) && ((((false || a0) && ((false && lc) || c0)) && ((false && !cf) || !al)) && dz))) = (((((bif true && true then (cf && qt) else bif ((false && true) || false) then (qf && ct) else bif false then ((qf && ct) || ((cf && ct) && ne)) else (false && ((cf && ct) && ne))) && (bif false && true then (ca && na) else a0)) && (c0 || (lc && ((false || false) || false)))) && (!al || (false && (qf && ct)))) && dz) := by decide +kernel
theorem kind6 : ∀ cf ct ca qf qt ne na a0 c0 lc al dz : Bool, ((cf && qf) = false) → ((ct && qt) = false) → ((cf && qt && !ne) = false) → ((qf && ct && !ne) = false) → ((((false && cf) || (true && qf)) && ((false && qt) || (true && ct)) && ne) && (!(true && (!ca || !na)) && ((((true || a0) && ((false && lc) || c0)) && ((false && !cf) || !al)) && dz))) = (((((bif true && false then (cf && qt) else bif ((true && true) || false) then (qf && ct) else bif false then ((qf && ct) || ((cf && ct) && ne)) else (false && ((cf && ct) && ne))) && (bif true && true then (ca && na) else a0)) && (c0 || (lc && ((false || false) || false)))) && (!al || (false && (qf && ct)))) && dz) := by decide +kernel
theorem kind7 : ∀ cf ct ca qf qt ne na a0 c0 lc al dz : Bool, ((cf && qf) = false) → ((ct && qt) = false) → ((cf && qt && !ne) = false) → ((qf && ct && !ne) = false) → ((((false && cf) || (true && qf)) && ((false && qt) || (true && ct)) && ne) && (!(true && (!ca || !na)) && ((((true || a0) && ((true && lc) || c0)) && ((false && !cf) || !al)) && dz))) = (((((bif true && false then (cf && qt) else bif ((true && true) || false) then (qf && ct) else bif false then ((qf && ct) || ((cf && ct) && ne)) else (false && ((cf && ct) && ne))) && (bif true && true then (ca && na) else a0)) && (c0 || (lc && ((true || false) || false)))) && (!al || (false && (qf && ct)))) && dz) := by decide +kernel
theorem kind8 : ∀ cf ct ca qf qt ne na a0 c0 lc al dz : Bool, ((cf && qf) = false) → ((ct && qt) = false) → ((cf && qt && !ne) = false) → ((qf && ct && !ne) = false) → ((((false && cf) || (true && qf)) && ((false && qt) || (true && ct)) && ne) && (!(true && (!ca || !na)) && ((((true || a0) && ((false && lc) || c0)) && ((false && !cf) || !al)) && dz))) = (((((bif true && false then (cf && qt) else bif ((true && true) || false) then (qf && ct) else bif false then ((qf && ct) || ((cf && ct) && ne)) else (false && ((cf && ct) && ne))) && (bif true && true then (ca && na) else a0)) && (c0 || (lc && ((false || false) || false)))) && (!al || (false && (qf && ct)))) && dz) := by decide +kernel
theorem kind9 : ∀ cf ct ca qf qt ne na a0 c0 lc al dz : Bool, ((cf && qf) = false) → ((ct && qt) = false) → ((cf && qt && !ne) = false) → ((qf && ct && !ne) = false) → ((((false && cf) || (true && qf)) && ((false && qt) || (true && ct)) && ne) && (!(false && (!ca || !na)) && ((((false || a0) && ((false && lc) || c0)) && ((false && !cf) || !al)) && dz))) = (((((bif true && false then (cf && qt) else bif ((true && true) || false) then (qf && ct) else bif false then ((qf && ct) || ((cf && ct) && ne)) else (false && ((cf && ct) && ne))) && (bif true && false then (ca && na) else a0)) && (c0 || (lc && ((false || false) || false)))) && (!al || (false && (qf && ct)))) && dz) := by decide +kernel
theorem kind10 : ∀ cf ct ca qf qt ne na a0 c0 lc al dz : Bool, ((cf && qf) = false) → ((ct && qt) = false) → ((cf && qt && !ne) = false) → ((qf && ct && !ne) = false) → ((((true && cf) || (true && qf)) && ((false && qt) || (true && ct)) && ne) && (!(false && (!ca || !na)) && ((((false || a0) && ((true && lc) || c0)) && ((true && !cf) || !al)) && dz))) = (((((bif true && false then (cf && qt) else bif ((true && false) || false) then (qf && ct) else bif true then ((qf && ct) || ((cf && ct) && ne)) else (false && ((cf && ct) && ne))) && (bif true && false then (ca && na) else a0)) && (c0 || (lc && ((false || true) || false)))) && (!al || (true && (qf && ct)))) && dz) := by decide +kernel
theorem kind11 : ∀ cf ct ca qf qt ne na a0 c0 lc al dz : Bool, ((cf && qf) = false) → ((ct && qt) = false) → ((cf && qt && !ne) = false) → ((qf && ct && !ne) = false) → ((((false && cf) || (true && qf)) && ((false && qt) || (true && ct)) && ne) && (!(false && (!ca || !na)) && ((((false || a0) && ((true && lc) || c0)) && ((false && !cf) || !al)) && dz))) = (((((bif true && false then (cf && qt) else bif ((true && false) || true) then (qf && ct) else bif false then ((qf && ct) || ((cf && ct) && ne)) else (false && ((cf && ct) && ne))) && (bif true && false then (ca && na) else a0)) && (c0 || (lc && ((false || false) || true)))) && (!al || (false && (qf && ct)))) && dz) := by decide +kernel
theorem kind12 : ∀ cf ct ca qf qt ne na a0 c0 lc al dz : Bool, ((cf && qf) = false) → ((ct && qt) = false) → ((cf && qt && !ne) = false) → ((qf && ct && !ne) = false) → ((((true && cf) || (false && qf)) && ((false && qt) || (true && ct)) && ne) && (!(false && (!ca || !na)) && ((((false || a0) && ((false && lc) || c0)) && ((false && !cf) || !al)) && dz))) = (((((bif true && false then (cf && qt) else bif ((true && false) || false) then (qf && ct) else bif false then ((qf && ct) || ((cf && ct) && ne)) else (true && ((cf && ct) && ne))) && (bif true && false then (ca && na) else a0)) && (c0 || (lc && ((false || false) || false)))) && (!al || (false && (qf && ct)))) && dz) := by decide +kernel
def mayN (j bit : Nat) : Bool := bits .and .i64 (bitsOf j) bit != 0
theorem may_of {k : UInt8} {j bit : Nat} {b : Bool} (h : k.toNat = j) (e : mayN j bit = b) : mayB k bit = b := by unfold mayB; rw [h]; exact e
theorem right_law (m : Mg) (g : Ge) : rightB m g = rrightB m g := by
  unfold rightB rrightB restB
  cases hok : g.ok
  · rfl
  obtain ⟨_, _, hw1, hw4⟩ := ok_bounds hok
  rw [show decide (((g.lines : Nat) : Int) ≤ (m.l.toNat : Int)) = !decide ((m.l.toNat : Int) < ((g.lines : Nat) : Int)) by rw [← decide_not]; exact decide_eq_decide.2 (by omega)]
  generalize decide ((m.l.toNat : Int) < ((g.lines : Nat) : Int)) = ll
  cases ll
  · rfl
  show (((true && knownB m.k) && wayB m g) && _) = (true && _)
  rw [Bool.true_and, Bool.true_and, bare_eq]
  have f1 : (g.isCache m.f.toNat && ((m.f.toNat : Int) == (g.home m.l.toNat : Int))) = false := by
    rw [Bool.eq_false_iff]
    intro h
    rw [Bool.and_eq_true] at h
    exact cache_home h.1 h.2
  have f2 : (g.isCache m.t.toNat && ((m.t.toNat : Int) == (g.home m.l.toNat : Int))) = false := by
    rw [Bool.eq_false_iff]
    intro h
    rw [Bool.and_eq_true] at h
    exact cache_home h.1 h.2
  have f3 : (g.isCache m.f.toNat && ((m.t.toNat : Int) == (g.home m.l.toNat : Int)) && !((m.f.toNat : Int) != (m.t.toNat : Int))) = false := by
    rw [Bool.eq_false_iff]
    intro h
    simp only [Bool.and_eq_true, Bool.not_eq_true', bne_eq_false_iff_eq] at h
    exact cache_home h.1.1 (by rw [h.2]; exact h.1.2)
  have f4 : (((m.f.toNat : Int) == (g.home m.l.toNat : Int)) && g.isCache m.t.toNat && !((m.f.toNat : Int) != (m.t.toNat : Int))) = false := by
    rw [Bool.eq_false_iff]
    intro h
    simp only [Bool.and_eq_true, Bool.not_eq_true', bne_eq_false_iff_eq] at h
    exact cache_home h.1.2 (by rw [← h.2]; exact h.1.1)
  have hqa : ((m.a.toNat : Int) == (m.t.toNat : Int)) = !((m.a.toNat : Int) != (m.t.toNat : Int)) := by simp [bne]
  rw [hqa]
  unfold wayB rwayB raskerB racksB raloneB rcacheB rfromB rbetweenB
  have hd : ∀ b, ((((decide (m.d0 = 0 ∧ m.d1 = 0 ∧ m.d2 = 0 ∧ m.d3 = 0) || ((m.k.toNat : Int) == 3)) || ((m.k.toNat : Int) == 5)) || ((m.k.toNat : Int) == 10)) = (decide (m.d0 = 0 ∧ m.d1 = 0 ∧ m.d2 = 0 ∧ m.d3 = 0) || b)) → (rdata0 m && m.zr g.w.toNat 4) = zzB m b g.w.toNat := by
    intro b hb
    unfold rdata0
    rw [hb]
    exact data_law m b (by omega) (by omega)
  by_cases hk : knownB m.k = true
  · rw [hk]
    have hr := of_decide_eq_true hk
    obtain h | h | h | h | h | h | h | h | h | h | h | h : m.k.toNat = 1 ∨ m.k.toNat = 2 ∨ m.k.toNat = 3 ∨ m.k.toNat = 4 ∨ m.k.toNat = 5 ∨ m.k.toNat = 6 ∨ m.k.toNat = 7 ∨ m.k.toNat = 8 ∨ m.k.toNat = 9 ∨ m.k.toNat = 10 ∨ m.k.toNat = 11 ∨ m.k.toNat = 12 := by omega
    · have z := hd false (by rw [h]; generalize decide (m.d0 = 0 ∧ m.d1 = 0 ∧ m.d2 = 0 ∧ m.d3 = 0) = z; cases z <;> rfl)
      rw [z, may_of (bit := 1) (b := true) h rfl, may_of (bit := 2) (b := false) h rfl, may_of (bit := 4) (b := true) h rfl, may_of (bit := 8) (b := false) h rfl, may_of (bit := 16) (b := false) h rfl, may_of (bit := 32) (b := false) h rfl, may_of (bit := 64) (b := false) h rfl, may_of (bit := 128) (b := false) h rfl, h]
      exact kind1 _ _ _ _ _ _ _ _ _ _ _ _ f1 f2 f3 f4
    · have z := hd false (by rw [h]; generalize decide (m.d0 = 0 ∧ m.d1 = 0 ∧ m.d2 = 0 ∧ m.d3 = 0) = z; cases z <;> rfl)
      rw [z, may_of (bit := 1) (b := true) h rfl, may_of (bit := 2) (b := false) h rfl, may_of (bit := 4) (b := true) h rfl, may_of (bit := 8) (b := false) h rfl, may_of (bit := 16) (b := false) h rfl, may_of (bit := 32) (b := false) h rfl, may_of (bit := 64) (b := false) h rfl, may_of (bit := 128) (b := false) h rfl, h]
      exact kind2 _ _ _ _ _ _ _ _ _ _ _ _ f1 f2 f3 f4
    · have z := hd true (by rw [h]; generalize decide (m.d0 = 0 ∧ m.d1 = 0 ∧ m.d2 = 0 ∧ m.d3 = 0) = z; cases z <;> rfl)
      rw [z, may_of (bit := 1) (b := true) h rfl, may_of (bit := 2) (b := false) h rfl, may_of (bit := 4) (b := true) h rfl, may_of (bit := 8) (b := false) h rfl, may_of (bit := 16) (b := false) h rfl, may_of (bit := 32) (b := false) h rfl, may_of (bit := 64) (b := false) h rfl, may_of (bit := 128) (b := true) h rfl, h]
      exact kind3 _ _ _ _ _ _ _ _ _ _ _ _ f1 f2 f3 f4
    · have z := hd false (by rw [h]; generalize decide (m.d0 = 0 ∧ m.d1 = 0 ∧ m.d2 = 0 ∧ m.d3 = 0) = z; cases z <;> rfl)
      rw [z, may_of (bit := 1) (b := true) h rfl, may_of (bit := 2) (b := false) h rfl, may_of (bit := 4) (b := true) h rfl, may_of (bit := 8) (b := false) h rfl, may_of (bit := 16) (b := false) h rfl, may_of (bit := 32) (b := false) h rfl, may_of (bit := 64) (b := false) h rfl, may_of (bit := 128) (b := false) h rfl, h]
      exact kind4 _ _ _ _ _ _ _ _ _ _ _ _ f1 f2 f3 f4
    · have z := hd true (by rw [h]; generalize decide (m.d0 = 0 ∧ m.d1 = 0 ∧ m.d2 = 0 ∧ m.d3 = 0) = z; cases z <;> rfl)
      rw [z, may_of (bit := 1) (b := true) h rfl, may_of (bit := 2) (b := false) h rfl, may_of (bit := 4) (b := true) h rfl, may_of (bit := 8) (b := false) h rfl, may_of (bit := 16) (b := false) h rfl, may_of (bit := 32) (b := false) h rfl, may_of (bit := 64) (b := false) h rfl, may_of (bit := 128) (b := true) h rfl, h]
      exact kind5 _ _ _ _ _ _ _ _ _ _ _ _ f1 f2 f3 f4
    · have z := hd false (by rw [h]; generalize decide (m.d0 = 0 ∧ m.d1 = 0 ∧ m.d2 = 0 ∧ m.d3 = 0) = z; cases z <;> rfl)
      rw [z, may_of (bit := 1) (b := false) h rfl, may_of (bit := 2) (b := true) h rfl, may_of (bit := 4) (b := false) h rfl, may_of (bit := 8) (b := true) h rfl, may_of (bit := 16) (b := true) h rfl, may_of (bit := 32) (b := false) h rfl, may_of (bit := 64) (b := false) h rfl, may_of (bit := 128) (b := false) h rfl, h]
      exact kind6 _ _ _ _ _ _ _ _ _ _ _ _ f1 f2 f3 f4
    · have z := hd false (by rw [h]; generalize decide (m.d0 = 0 ∧ m.d1 = 0 ∧ m.d2 = 0 ∧ m.d3 = 0) = z; cases z <;> rfl)
      rw [z, may_of (bit := 1) (b := false) h rfl, may_of (bit := 2) (b := true) h rfl, may_of (bit := 4) (b := false) h rfl, may_of (bit := 8) (b := true) h rfl, may_of (bit := 16) (b := true) h rfl, may_of (bit := 32) (b := true) h rfl, may_of (bit := 64) (b := false) h rfl, may_of (bit := 128) (b := false) h rfl, h]
      exact kind7 _ _ _ _ _ _ _ _ _ _ _ _ f1 f2 f3 f4
    · have z := hd false (by rw [h]; generalize decide (m.d0 = 0 ∧ m.d1 = 0 ∧ m.d2 = 0 ∧ m.d3 = 0) = z; cases z <;> rfl)
      rw [z, may_of (bit := 1) (b := false) h rfl, may_of (bit := 2) (b := true) h rfl, may_of (bit := 4) (b := false) h rfl, may_of (bit := 8) (b := true) h rfl, may_of (bit := 16) (b := true) h rfl, may_of (bit := 32) (b := false) h rfl, may_of (bit := 64) (b := false) h rfl, may_of (bit := 128) (b := false) h rfl, h]
      exact kind8 _ _ _ _ _ _ _ _ _ _ _ _ f1 f2 f3 f4
    · have z := hd false (by rw [h]; generalize decide (m.d0 = 0 ∧ m.d1 = 0 ∧ m.d2 = 0 ∧ m.d3 = 0) = z; cases z <;> rfl)
      rw [z, may_of (bit := 1) (b := false) h rfl, may_of (bit := 2) (b := true) h rfl, may_of (bit := 4) (b := false) h rfl, may_of (bit := 8) (b := true) h rfl, may_of (bit := 16) (b := false) h rfl, may_of (bit := 32) (b := false) h rfl, may_of (bit := 64) (b := false) h rfl, may_of (bit := 128) (b := false) h rfl, h]
      exact kind9 _ _ _ _ _ _ _ _ _ _ _ _ f1 f2 f3 f4
    · have z := hd true (by rw [h]; generalize decide (m.d0 = 0 ∧ m.d1 = 0 ∧ m.d2 = 0 ∧ m.d3 = 0) = z; cases z <;> rfl)
      rw [z, may_of (bit := 1) (b := true) h rfl, may_of (bit := 2) (b := true) h rfl, may_of (bit := 4) (b := false) h rfl, may_of (bit := 8) (b := true) h rfl, may_of (bit := 16) (b := false) h rfl, may_of (bit := 32) (b := true) h rfl, may_of (bit := 64) (b := true) h rfl, may_of (bit := 128) (b := true) h rfl, h]
      exact kind10 _ _ _ _ _ _ _ _ _ _ _ _ f1 f2 f3 f4
    · have z := hd false (by rw [h]; generalize decide (m.d0 = 0 ∧ m.d1 = 0 ∧ m.d2 = 0 ∧ m.d3 = 0) = z; cases z <;> rfl)
      rw [z, may_of (bit := 1) (b := false) h rfl, may_of (bit := 2) (b := true) h rfl, may_of (bit := 4) (b := false) h rfl, may_of (bit := 8) (b := true) h rfl, may_of (bit := 16) (b := false) h rfl, may_of (bit := 32) (b := true) h rfl, may_of (bit := 64) (b := false) h rfl, may_of (bit := 128) (b := false) h rfl, h]
      exact kind11 _ _ _ _ _ _ _ _ _ _ _ _ f1 f2 f3 f4
    · have z := hd false (by rw [h]; generalize decide (m.d0 = 0 ∧ m.d1 = 0 ∧ m.d2 = 0 ∧ m.d3 = 0) = z; cases z <;> rfl)
      rw [z, may_of (bit := 1) (b := true) h rfl, may_of (bit := 2) (b := false) h rfl, may_of (bit := 4) (b := false) h rfl, may_of (bit := 8) (b := true) h rfl, may_of (bit := 16) (b := false) h rfl, may_of (bit := 32) (b := false) h rfl, may_of (bit := 64) (b := false) h rfl, may_of (bit := 128) (b := false) h rfl, h]
      exact kind12 _ _ _ _ _ _ _ _ _ _ _ _ f1 f2 f3 f4
  · have hkf : knownB m.k = false := by simpa using hk
    rw [hkf]
    have hn : m.k.toNat = 0 ∨ 13 ≤ m.k.toNat := by
      unfold knownB at hkf
      rw [decide_eq_false_iff_not] at hkf
      omega
    rw [show ((m.k.toNat : Int) == 10) = false by rw [beq_eq_false_iff_ne]; omega, show ((m.k.toNat : Int) == 11) = false by rw [beq_eq_false_iff_ne]; omega, show ((m.k.toNat : Int) == 12) = false by rw [beq_eq_false_iff_ne]; omega]
    have h5 : (decide ((1 : Int) ≤ (m.k.toNat : Int)) && decide ((m.k.toNat : Int) ≤ 5)) = false := by rw [← Bool.decide_and, decide_eq_false_iff_not]; omega
    have h9 : (decide ((6 : Int) ≤ (m.k.toNat : Int)) && decide ((m.k.toNat : Int) ≤ 9)) = false := by rw [← Bool.decide_and, decide_eq_false_iff_not]; omega
    rw [h5, h9]
    rfl
end Go.Proofs.YthllacodjeocmaaGreatDoor
