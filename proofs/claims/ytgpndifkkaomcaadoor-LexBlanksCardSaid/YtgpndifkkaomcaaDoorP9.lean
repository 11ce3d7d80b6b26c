/- A source with blanks, comments and empty lines between the tokens of another: the same tokens. -/
import Derived.Test.YtgpndifkkaomcaaDoorP8
import Derived.Test.YtgpndifkkaomcaaDoorP4
import Derived.Test.YtgpndifkkaomcaaDoorP7
namespace Go.Proofs.YtgpndifkkaomcaaDoor
open Go.RowKit
def kx (t : Tk) : Int × ByteArray := (t.K, t.x)
def tailB (rm : List UInt8) (t : Tk) (q : Bool) : List UInt8 := 32 :: ((if t.K = 4 then 9 :: 35 :: (rm ++ [10, 10]) else []) ++ (if q then [9, 32] else []))
def outL (rm : List UInt8) (q : Nat → Bool) : Nat → List Tk → List UInt8
  | _, [] => []
  | i, t :: r => t.x.data.toList ++ (tailB rm t (q i) ++ outL rm q (i + 1) r)
def RL (c : ByteArray) (k : Nat) (acc : List Tk) : List Tk × Nat × Int := rlex c (c.size + 1) k acc
theorem drop_lt {c : ByteArray} {k : Nat} {b : UInt8} {rest : List UInt8} (h : c.data.toList.drop k = b :: rest) : k < c.size := by
  rcases Nat.lt_or_ge k c.size with h' | h'
  · exact h'
  · rw [List.drop_of_length_le (by simpa using h')] at h; cases h
theorem drop_first {l : List UInt8} {k : Nat} {b : UInt8} {rest : List UInt8} (h : l.drop k = b :: rest) : l[k]?.getD 0 = b := by
  have : (l.drop k)[0]? = some b := by rw [h]; rfl
  rw [List.getElem?_drop, Nat.add_zero] at this
  rw [this]; rfl
theorem drop_second {l : List UInt8} {k : Nat} {b d : UInt8} {rest : List UInt8} (h : l.drop k = b :: d :: rest) : l[k + 1]?.getD 0 = d := by
  have : (l.drop k)[1]? = some d := by rw [h]; rfl
  rw [List.getElem?_drop] at this
  rw [this]; rfl
theorem clsAt_drop {l : List UInt8} {k : Nat} {b : UInt8} {rest : List UInt8} (h : l.drop k = b :: rest) : clsAt l k = clsB b.toNat := by
  unfold clsAt; rw [drop_first h]
theorem drop_add {l a b : List UInt8} {k : Nat} (h : l.drop k = a ++ b) : l.drop (k + a.length) = b := by
  rw [← List.drop_drop, h, List.drop_left]
theorem RL_blank {c : ByteArray} {k : Nat} {b : UInt8} {rest : List UInt8} (acc : List Tk) (h : c.data.toList.drop k = b :: rest) (hb : b = 32 ∨ b = 9) : RL c k acc = RL c (k + 1) acc := by
  have hk := drop_lt h
  have hc : clsAt c.data.toList k = 1 := by rw [clsAt_drop h]; rcases hb with rfl | rfl <;> decide
  unfold RL
  rw [rlex, if_pos hk, if_pos hc]
  exact rlex_fuel c _ (by omega) _ _ _ (by omega) (by omega)
theorem RL_blanks {c : ByteArray} (acc : List Tk) : ∀ (bs : List UInt8) (k : Nat) (rest : List UInt8), (∀ b ∈ bs, b = 32 ∨ b = 9) → c.data.toList.drop k = bs ++ rest → RL c k acc = RL c (k + bs.length) acc
  | [], _, _, _, _ => rfl
  | b :: bs, k, rest, hb, h => by
    rw [RL_blank acc h (hb b (by simp)), RL_blanks acc bs (k + 1) rest (fun x hx => hb x (by simp [hx])) (drop_add (a := [b]) h)]
    congr 1
    simp; omega
theorem RL_line {c : ByteArray} {k : Nat} {rest : List UInt8} (acc : List Tk) (h : c.data.toList.drop k = 10 :: rest) : RL c k acc = RL c (k + [(10 : UInt8)].length) (if openOf acc then acc ++ [⟨4, ⟨#[]⟩, k⟩] else acc) := by
  have hk := drop_lt h
  have hc : clsAt c.data.toList k = 2 := by rw [clsAt_drop h]; decide
  unfold RL
  rw [rlex, if_pos hk, if_neg (by rw [hc]; decide), if_pos hc]
  exact rlex_fuel c _ (by omega) _ _ _ (by omega) (by omega)
theorem takeWhile_upto {p : UInt8 → Bool} {x rest : List UInt8} {b : UInt8} (hx : x.all p = true) (hb : p b = false) : (x ++ b :: rest).takeWhile p = x := by
  rw [List.takeWhile_append_of_pos (by simpa using hx), List.takeWhile_cons, hb]
  simp
theorem span_upto {p : Int → Bool} {l x rest : List UInt8} {b : UInt8} {k : Nat} (h : l.drop k = x ++ b :: rest) (hx : x.all (fun b => p b.toNat) = true) (hb : p b.toNat = false) : spanEnd p l k = k + x.length := by
  unfold spanEnd
  rw [h, takeWhile_upto hx hb]
theorem RL_remark {c : ByteArray} {k : Nat} {rm rest : List UInt8} (acc : List Tk) (hrm : ∀ b ∈ rm, b ≠ 10) (h : c.data.toList.drop k = 35 :: (rm ++ 10 :: rest)) : RL c k acc = RL c (k + (35 :: rm).length) acc := by
  have hk := drop_lt h
  have hc : clsAt c.data.toList k = 6 := by rw [clsAt_drop h]; decide
  have hs : spanEnd (fun b => decide (b ≠ 10)) c.data.toList k = k + (35 :: rm).length := span_upto (x := 35 :: rm) h (by
    rw [List.all_cons]
    simp only [Bool.and_eq_true, List.all_eq_true, decide_eq_true_eq]
    refine ⟨by decide, fun b hb he => hrm b hb ?_⟩
    apply UInt8.toNat_inj.1
    have h10 : (10 : UInt8).toNat = 10 := rfl
    omega) (by decide)
  have hl := congrArg List.length h
  simp at hl
  unfold RL
  rw [rlex, if_pos hk, if_neg (by rw [hc]; decide), if_neg (by rw [hc]; decide), if_pos hc, hs]
  have hlc : (35 :: rm).length = rm.length + 1 := rfl
  exact rlex_fuel c _ (by omega) _ _ _ (by omega) (by omega)
theorem text_at {c x : ByteArray} {k : Nat} {rest : List UInt8} (h : c.data.toList.drop k = x.data.toList ++ rest) : c.extract k (k + x.data.toList.length) = x := by
  apply list_inj
  rw [extract_list]
  show (c.data.toList.take (k + x.data.toList.length)).drop k = _
  rw [List.drop_take, Nat.add_sub_cancel_left, h, List.take_left]
theorem RL_tok {c : ByteArray} {k : Nat} {rest : List UInt8} (acc : List Tk) {t : Tk} (ht : TokOK t) (h4 : t.K ≠ 4) (h : c.data.toList.drop k = t.x.data.toList ++ 32 :: rest) : RL c k acc = RL c (k + t.x.data.toList.length) (acc ++ [⟨t.K, t.x, k⟩]) := by
  have hx := text_at h
  have hl := congrArg List.length h
  simp at hl
  have hxs : t.x.data.toList.length = t.x.size := by simp
  obtain ⟨K, x, a⟩ := t
  simp only at *
  rcases ht with ⟨rfl, h1, h16, hf, ha⟩ | ⟨rfl, hn⟩ | ⟨rfl, hs⟩ | ⟨rfl, _⟩
  · have hd : x.data.toList = (x.data.toList[0]?.getD 0) :: x.data.toList.drop 1 := by
      simp only at h1
      have := drop_at (s := x) (k := 0) h1
      rw [List.drop_zero] at this
      rw [at_eq h1, ← this]
    have hh := h
    rw [hd, List.cons_append] at hh
    have hk := drop_lt hh
    have hc : clsAt c.data.toList k = 3 := by
      rw [clsAt_drop hh]
      have := letter_eq (x.data.toList[0]?.getD 0)
      simp only at hf
      rw [hf] at this; exact of_decide_eq_true this
    have hs := span_upto (p := goesB) h ha (by decide)
    simp only at h16
    unfold RL
    rw [rlex, if_pos hk, if_neg (by rw [hc]; decide), if_neg (by rw [hc]; decide), if_neg (by rw [hc]; decide), if_pos hc, hs, if_neg (by omega), hx]
    simp only at h1
    exact rlex_fuel c _ (by omega) _ _ _ (by omega) (by omega)
  · simp only at hn
    have h1 := (lex_number x hn).1
    have h2 := (lex_number x hn).2.1
    have hall : x.data.toList.all (fun b => digitB b.toNat) = true := by
      unfold rnumOf at hn
      split at hn
      · rename_i hh; exact hh.1
      · cases hn
    have hd : x.data.toList = (x.data.toList[0]?.getD 0) :: x.data.toList.drop 1 := by
      have := drop_at (s := x) (k := 0) h1
      rw [List.drop_zero] at this
      rw [at_eq h1, ← this]
    have hh := h
    rw [hd, List.cons_append] at hh
    have hk := drop_lt hh
    have hc : clsAt c.data.toList k = 4 := by
      rw [clsAt_drop hh]
      have := digits_eq (x.data.toList[0]?.getD 0)
      rw [h2] at this; exact of_decide_eq_true this
    have hs := span_upto (p := digitB) h hall (by decide)
    unfold RL
    rw [rlex, if_pos hk, if_neg (by rw [hc]; decide), if_neg (by rw [hc]; decide), if_neg (by rw [hc]; decide), if_neg (by rw [hc]; decide), if_pos hc, hs, hx, if_neg (by rw [hn]; decide)]
    exact rlex_fuel c _ (by omega) _ _ _ (by omega) (by omega)
  · obtain ⟨b, l', hd, hb7⟩ : ∃ (b : UInt8) (l' : List UInt8), x.data.toList = b :: l' ∧ clsB b.toNat = 7 := by
      rcases hs with ⟨a, b, hxx, ha, _⟩ | ⟨a, hxx, hi⟩
      · simp only at hxx; subst hxx
        refine ⟨a, [b], rfl, ?_⟩
        rcases ha with ha | ha
        · rw [ha]; decide
        · rw [ha]; decide
      · simp only at hxx; subst hxx
        rw [sign_cls] at hi
        exact ⟨a, [], rfl, of_decide_eq_true hi⟩
    have hrs : rsign c.data.toList k = x.data.toList.length := by
      unfold rsign
      rcases hs with ⟨a, b, hxx, ha, hb⟩ | ⟨a, hxx, hi⟩
      · simp only at hxx; subst hxx
        have ht : twoAt c.data.toList k = true := by
          unfold twoAt
          have hh : c.data.toList.drop k = a :: b :: (32 :: rest) := h
          have hlen := congrArg List.length hh
          simp at hlen
          rw [drop_first hh, drop_second hh, hb]
          have : k + 1 < c.data.toList.length := by simp; omega
          rw [decide_eq_true this]
          rcases ha with ha | ha <;> simp [ha]
        rw [if_pos ht]; rfl
      · simp only at hxx; subst hxx
        have hh : c.data.toList.drop k = a :: 32 :: rest := h
        have ht : ¬ twoAt c.data.toList k = true := by
          unfold twoAt
          rw [drop_second hh]
          simp
        rw [if_neg ht, drop_first hh, if_pos hi]; rfl
    have hh := h
    rw [hd, List.cons_append] at hh
    have hk := drop_lt hh
    have hc : clsAt c.data.toList k = 7 := by rw [clsAt_drop hh]; exact hb7
    have hpos : 0 < x.data.toList.length := by rw [hd]; simp
    unfold RL
    rw [rlex, if_pos hk, if_neg (by rw [hc]; decide), if_neg (by rw [hc]; decide), if_neg (by rw [hc]; decide), if_neg (by rw [hc]; decide), if_neg (by rw [hc]; decide), hrs, if_neg (by omega), hx]
    exact rlex_fuel c _ (by omega) _ _ _ (by omega) (by omega)
  · exact absurd rfl h4
theorem out_lex (c : ByteArray) (rm : List UInt8) (q : Nat → Bool) (hrm : ∀ b ∈ rm, b ≠ 10) : ∀ (ts : List Tk) (i k : Nat) (acc : List Tk), Good (openOf acc) ts → c.data.toList.drop k = outL rm q i ts → k ≤ c.size →
    ∃ us, RL c k acc = (acc ++ us, 0, 0) ∧ us.map kx = ts.map kx
  | [], _, k, acc, hg, h, hk => by
    refine ⟨[], ?_, rfl⟩
    have hl := congrArg List.length h
    simp [outL] at hl
    have ho : openOf acc = false := hg
    unfold RL
    rw [rlex, if_neg (by omega), ho]
    simp
  | t :: r, i, k, acc, hg, h, hk => by
    obtain ⟨ht, ho, hr⟩ := hg
    have hq : ∀ b ∈ (if q i then [(9 : UInt8), 32] else []), b = 32 ∨ b = 9 := by
      intro b hb
      split at hb
      · simp at hb; rcases hb with rfl | rfl <;> simp
      · simp at hb
    by_cases h4 : t.K = 4
    · have hx : t.x = ⟨#[]⟩ := by
        rcases ht with h | h | h | h
        · have := h.1; omega
        · have := h.1; omega
        · have := h.1; omega
        · exact h.2
      have hop := ho h4
      rw [decide_eq_false (by simpa using h4)] at hr
      rw [outL, tailB, if_pos h4, hx] at h
      have h0 : c.data.toList.drop k = [32, 9] ++ (35 :: (rm ++ 10 :: ([10] ++ ((if q i then [9, 32] else []) ++ outL rm q (i + 1) r)))) := by
        rw [h]; simp
      have h1 := drop_add h0
      have h2 := drop_add (a := 35 :: rm) (b := 10 :: ([10] ++ ((if q i then [9, 32] else []) ++ outL rm q (i + 1) r))) h1
      have h3 := drop_add (a := [10]) h2
      have h5 := drop_add (a := [10]) h3
      have h6 := drop_add h5
      rw [RL_blanks acc [32, 9] k _ (by simp) h0, RL_remark acc hrm h1]
      rw [RL_line acc h2, hop, if_pos rfl, RL_line _ h3, openOf_end]
      rw [show (decide ((⟨4, ⟨#[]⟩, k + [(32 : UInt8), 9].length + (35 :: rm).length⟩ : Tk).K ≠ 4)) = false from rfl, if_neg (by decide)]
      rw [RL_blanks _ _ _ _ hq h5]
      have hle : k + [(32 : UInt8), 9].length + (35 :: rm).length + [(10 : UInt8)].length + [(10 : UInt8)].length + (if q i then [(9 : UInt8), 32] else []).length ≤ c.size := by
        have hlen := congrArg List.length h0
        simp at hlen ⊢
        omega
      obtain ⟨us, hu, hm⟩ := out_lex c rm q hrm r (i + 1) _ (acc ++ [⟨4, ⟨#[]⟩, k + [(32 : UInt8), 9].length + (35 :: rm).length⟩]) (by rw [openOf_end]; exact hr) h6 hle
      refine ⟨⟨4, ⟨#[]⟩, k + [(32 : UInt8), 9].length + (35 :: rm).length⟩ :: us, ?_, ?_⟩
      · refine Eq.trans ?_ (hu.trans ?_)
        · rfl
        · simp
      · rw [List.map_cons, List.map_cons, hm]
        congr 1
        unfold kx
        rw [h4, hx]
    · rw [outL, tailB, if_neg h4, List.nil_append] at h
      have h0 : c.data.toList.drop k = t.x.data.toList ++ (32 :: ((if q i then [9, 32] else []) ++ outL rm q (i + 1) r)) := by
        rw [h]; simp
      have h1 := drop_add h0
      have h2 : c.data.toList.drop (k + t.x.data.toList.length) = (32 :: (if q i then [9, 32] else [])) ++ outL rm q (i + 1) r := h1
      have h3 := drop_add h2
      rw [RL_tok acc ht h4 h0, RL_blanks _ _ _ _ (by
        intro b hb
        rcases List.mem_cons.1 hb with rfl | hb
        · simp
        · exact hq b hb) h2]
      have hle : k + t.x.data.toList.length + (32 :: (if q i then [(9 : UInt8), 32] else [])).length ≤ c.size := by
        have hlen := congrArg List.length h0
        simp at hlen ⊢
        omega
      obtain ⟨us, hu, hm⟩ := out_lex c rm q hrm r (i + 1) _ (acc ++ [⟨t.K, t.x, k⟩]) (by rw [openOf_end]; exact hr) h3 hle
      refine ⟨⟨t.K, t.x, k⟩ :: us, ?_, ?_⟩
      · exact hu.trans (by simp)
      · rw [List.map_cons, List.map_cons, hm]; rfl
/-- The laws' long source lexes to the same tokens. -/
theorem blanks_law {ts : List Tk} (hg : Good false ts) {rm : List UInt8} (q : Nat → Bool) (hrm : ∀ b ∈ rm, b ≠ 10) {c : ByteArray} (hc : c.data.toList = [10, 32, 9] ++ outL rm q 0 ts) (hs : c.size ≤ 16384) :
    ∃ us, lexOf c = (us, 0, 0) ∧ us.map kx = ts.map kx := by
  have h0 : c.data.toList.drop 0 = 10 :: ([32, 9] ++ outL rm q 0 ts) := by rw [List.drop_zero, hc]; rfl
  have h1 := drop_add (a := [10]) h0
  have h2 := drop_add (a := [32, 9]) h1
  have hle : 0 + [(10 : UInt8)].length + [(32 : UInt8), 9].length ≤ c.size := by
    have hlen := congrArg List.length hc
    simp at hlen ⊢
    omega
  obtain ⟨us, hu, hm⟩ := out_lex c rm q hrm ts 0 _ [] hg h2 hle
  refine ⟨us, ?_, hm⟩
  rw [lex_eq]
  unfold rlexOf
  rw [if_neg (by omega)]
  show RL c 0 [] = _
  rw [RL_line [] h0, openOf_nil, if_neg (by decide), RL_blanks [] [32, 9] _ _ (by simp) h1]
  exact hu
end Go.Proofs.YtgpndifkkaomcaaDoor
