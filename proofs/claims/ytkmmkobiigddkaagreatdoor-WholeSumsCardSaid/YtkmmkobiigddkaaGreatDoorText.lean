import Derived.Test.YtkmmkobiigddkaaGreatDoorNum
import Derived.Lib.ItoaNum
import Derived.Lib.ItoaMem
import Derived.Lib.AtoiAll
import Derived.Lib.AtoiAllCases
import Derived.Lib.ParseIntB
/-! Plain facts on decimal texts. No program in sight. -/
set_option linter.unusedVariables false
set_option linter.unusedSimpArgs false
namespace Go.Proofs.YtkmmkobiigddkaaGreatDoor
open Go.Lib

def chr (d : Nat) : UInt8 := UInt8.ofNat (48 + d)
theorem chr_nat {d : Nat} (h : d < 10) : (chr d).toNat = 48 + d := by unfold chr; simp; omega
def IsDig (c : UInt8) : Prop := 48 ≤ c.toNat ∧ c.toNat ≤ 57
theorem chr_dig {d : Nat} (h : d < 10) : IsDig (chr d) := by unfold IsDig; rw [chr_nat h]; omega
theorem chr_of {c : UInt8} (h : IsDig c) : chr (c.toNat - 48) = c := by
  have := h.1
  unfold chr
  rw [show 48 + (c.toNat - 48) = c.toNat by omega, UInt8.ofNat_toNat]
/-- The number that digits spell. -/
def dval (l : List UInt8) : Nat := l.foldl (fun a c => a * 10 + (c.toNat - 48)) 0
theorem dval_from (l : List UInt8) : ∀ a, l.foldl (fun a c => a * 10 + (c.toNat - 48)) a = a * 10 ^ l.length + dval l := by
  induction l with
  | nil => intro a; simp [dval]
  | cons c r ih =>
    intro a
    rw [List.foldl_cons, ih]
    have e : dval (c :: r) = (c.toNat - 48) * 10 ^ r.length + dval r := by
      unfold dval; rw [List.foldl_cons, ih]; simp [dval]
    rw [e, List.length_cons, Nat.pow_succ, Nat.add_mul, Nat.mul_assoc, Nat.mul_comm 10]; omega
theorem dval_nil : dval [] = 0 := rfl
theorem dval_append (l r : List UInt8) : dval (l ++ r) = dval l * 10 ^ r.length + dval r := by
  unfold dval; rw [List.foldl_append, dval_from]; rfl
theorem dval_snoc (l : List UInt8) (c : UInt8) : dval (l ++ [c]) = dval l * 10 + (c.toNat - 48) := by rw [dval_append]; simp [dval]
theorem dval_one (c : UInt8) : dval [c] = c.toNat - 48 := by simp [dval]
theorem snoc_cases {P : List UInt8 → Prop} (h0 : P []) (h1 : ∀ l c, P l → P (l ++ [c])) (l : List UInt8) : P l := by
  rw [← List.reverse_reverse l]
  induction l.reverse with
  | nil => exact h0
  | cons c r ih => rw [List.reverse_cons]; exact h1 _ _ ih
theorem dval_lt (l : List UInt8) : (∀ c ∈ l, IsDig c) → dval l < 10 ^ l.length := by
  refine snoc_cases (P := fun l => (∀ c ∈ l, IsDig c) → dval l < 10 ^ l.length) (by simp [dval]) (fun l c ih h => ?_) l
  have h1 := ih fun d hd => h d (by simp [hd])
  have h2 := (h c (by simp)).2
  have h3 := (h c (by simp)).1
  rw [dval_snoc, List.length_append, List.length_singleton, Nat.pow_succ]; omega
theorem dec_small {n : Nat} (h : n < 10) : decDigits n = [chr n] := decDigits_one h
theorem dec_big {n : Nat} (h : 10 ≤ n) : decDigits n = decDigits (n / 10) ++ [chr (n % 10)] := by rw [decDigits, dif_neg (by omega)]; rfl
theorem dval_dec (n : Nat) : dval (decDigits n) = n := by
  induction n using Nat.strongRecOn with
  | ind n ih =>
    by_cases h : n < 10
    · rw [dec_small h, dval_one, chr_nat h]; omega
    · rw [dec_big (by omega), dval_snoc, ih _ (by omega), chr_nat (by omega)]; omega
theorem dec_dig (n : Nat) : ∀ c ∈ decDigits n, IsDig c := by
  induction n using Nat.strongRecOn with
  | ind n ih =>
    by_cases h : n < 10
    · rw [dec_small h]; intro c hc; rw [List.mem_singleton] at hc; subst hc; exact chr_dig h
    · rw [dec_big (by omega)]
      intro c hc
      rcases List.mem_append.1 hc with hc | hc
      · exact ih _ (by omega) c hc
      · rw [List.mem_singleton] at hc; subst hc; exact chr_dig (by omega)
theorem dec_ne (n : Nat) : decDigits n ≠ [] := by
  intro h
  have h1 := decDigits_length n
  rw [h] at h1
  unfold nDigits at h1
  split at h1 <;> simp at h1
theorem nDigits_pos (n : Nat) : 0 < nDigits n := by rw [← decDigits_length]; exact List.length_pos_iff.2 (dec_ne n)
theorem dec_head (n : Nat) (h : 0 < n) : ∃ c r, decDigits n = c :: r ∧ 49 ≤ c.toNat ∧ c.toNat ≤ 57 := by
  induction n using Nat.strongRecOn with
  | ind n ih =>
    by_cases h1 : n < 10
    · exact ⟨chr n, [], dec_small h1, by rw [chr_nat h1]; omega, by rw [chr_nat h1]; omega⟩
    · obtain ⟨c, r, e, h2, h3⟩ := ih (n / 10) (by omega) (by omega)
      exact ⟨c, r ++ [chr (n % 10)], by rw [dec_big (by omega), e]; rfl, h2, h3⟩
/-- A list of digits without a needless 0 ahead is a numeral. -/
theorem dec_of (l : List UInt8) : l ≠ [] → (∀ c ∈ l, IsDig c) → (∀ c r, l = c :: r → c.toNat = 48 → r = []) → l = decDigits (dval l) := by
  refine snoc_cases (P := fun l => l ≠ [] → (∀ c ∈ l, IsDig c) → (∀ c r, l = c :: r → c.toNat = 48 → r = []) → l = decDigits (dval l)) (fun h => absurd rfl h) (fun l c ih _ hd hz => ?_) l
  have hc := hd c (by simp)
  cases l with
  | nil => 
    have : c.toNat - 48 < 10 := by have := hc.2; omega
    rw [List.nil_append, dval_one, dec_small this, chr_of hc]
  | cons e r =>
    have he : e.toNat ≠ 48 := fun h => by have := hz e (r ++ [c]) rfl h; simp at this
    have h1 := ih (by simp) (fun d h => hd d (by rw [List.mem_append]; exact .inl h)) (fun c' r' h h48 => by
      simp only [List.cons.injEq] at h; obtain ⟨rfl, rfl⟩ := h; exact absurd h48 he)
    have hpos : 0 < dval (e :: r) := Nat.pos_of_ne_zero fun h0 => by
      rw [h0, dec_small (by omega)] at h1
      simp only [List.cons.injEq] at h1
      rw [h1.1] at he
      exact he (by rw [chr_nat (by omega)])
    have h2 := hc.1
    have h3 := hc.2
    rw [dval_snoc, dec_big (by omega), show (dval (e :: r) * 10 + (c.toNat - 48)) / 10 = dval (e :: r) by omega, show (dval (e :: r) * 10 + (c.toNat - 48)) % 10 = c.toNat - 48 by omega, chr_of hc, ← h1]
/-- The k lowest digits. -/
def pad : Nat → Nat → List UInt8
  | 0, _ => []
  | k + 1, r => pad k (r / 10) ++ [chr (r % 10)]
theorem pad_length (k : Nat) : ∀ r, (pad k r).length = k := by
  induction k with
  | zero => intro r; rfl
  | succ k ih => intro r; simp [pad, ih]
theorem dec_split (k : Nat) : ∀ q r, 0 < q → r < 10 ^ k → decDigits (q * 10 ^ k + r) = decDigits q ++ pad k r := by
  induction k with
  | zero => intro q r hq hr; have : r = 0 := by simp at hr; exact hr
            subst this; simp [pad]
  | succ k ih =>
    intro q r hq hr
    rw [Nat.pow_succ] at hr ⊢
    have h1 : 1 ≤ 10 ^ k := Nat.pos_of_ne_zero (by simp)
    have h2 : 1 ≤ q * 10 ^ k := Nat.mul_pos hq h1
    rw [← Nat.mul_assoc, dec_big (by omega), show (q * 10 ^ k * 10 + r) / 10 = q * 10 ^ k + r / 10 by omega, show (q * 10 ^ k * 10 + r) % 10 = r % 10 by omega, ih q (r / 10) hq (by omega), pad, List.append_assoc]
theorem pad_zero (k : Nat) : pad k 0 = List.replicate k 48 := by
  induction k with
  | zero => rfl
  | succ k ih =>
    have e : chr (0 % 10) = 48 := rfl
    rw [pad, Nat.zero_div, ih, e, List.replicate_succ']
theorem pad_eq (k : Nat) : ∀ r, 0 < k → r < 10 ^ k → pad k r = List.replicate (k - nDigits r) 48 ++ decDigits r := by
  induction k with
  | zero => intro r h; omega
  | succ k ih =>
    intro r _ hr
    by_cases h : r < 10
    · rw [pad, dec_small h, nDigits_small h, Nat.div_eq_of_lt h, Nat.mod_eq_of_lt h, pad_zero]; rfl
    · have hk : 0 < k := Nat.pos_of_ne_zero fun h0 => by subst h0; simp at hr; omega
      rw [Nat.pow_succ] at hr
      rw [pad, ih (r / 10) hk (by omega), dec_big (n := r) (by omega), nDigits_big h, ← List.append_assoc, show k + 1 - (nDigits (r / 10) + 1) = k - nDigits (r / 10) by omega]
theorem nDigits_split {q r k : Nat} (hq : 0 < q) (hr : r < 10 ^ k) : nDigits (q * 10 ^ k + r) = nDigits q + k := by
  rw [← decDigits_length, dec_split k q r hq hr, List.length_append, decDigits_length, pad_length]
theorem nDigits_le {n k : Nat} (hk : 0 < k) : nDigits n ≤ k ↔ n < 10 ^ k := by
  constructor
  · intro h
    have h1 := lt_pow_nDigits n
    exact Nat.lt_of_lt_of_le h1 (Nat.pow_le_pow_right (by omega) h)
  · intro h
    refine Nat.le_of_not_lt fun h1 => ?_
    have h2 := pad_length k n
    rw [pad_eq k n hk h, List.length_append, List.length_replicate, decDigits_length] at h2
    omega
/-! ### Signed texts -/
def txt (z : Int) : ByteArray := ⟨(itoa z).toArray⟩
/-- The text of a valid whole number. -/
def Wh (s : ByteArray) (z : Int) : Prop := s = txt z ∧ nDigits z.natAbs ≤ 600
theorem itoa_pos {z : Int} (h : 0 ≤ z) : itoa z = decDigits z.natAbs := by unfold itoa; rw [if_neg (by omega)]; congr 1; omega
theorem itoa_below {z : Int} (h : z < 0) : itoa z = 45 :: decDigits z.natAbs := by unfold itoa; rw [if_pos h]
/-- What stands behind a minus sign. -/
def body : List UInt8 → List UInt8
  | [] => []
  | c :: r => if c = 45 then r else c :: r
def signed : List UInt8 → Bool
  | [] => false
  | c :: r => decide (c = 45)
theorem dig_ne {c : UInt8} (h : IsDig c) : c ≠ 45 := by rintro rfl; exact absurd h.1 (by decide)
theorem body_dec (n : Nat) : body (decDigits n) = decDigits n := by
  have h := dec_dig n
  cases e : decDigits n with
  | nil => rfl
  | cons c r => rw [body, if_neg (dig_ne (h c (by rw [e]; simp)))]
theorem signed_dec (n : Nat) : signed (decDigits n) = false := by
  have h := dec_dig n
  cases e : decDigits n with
  | nil => rfl
  | cons c r => rw [signed]; exact decide_eq_false (dig_ne (h c (by rw [e]; simp)))
theorem body_itoa (z : Int) : body (itoa z) = decDigits z.natAbs := by
  rcases Int.lt_or_le z 0 with h | h
  · rw [itoa_below h]; rfl
  · rw [itoa_pos h, body_dec]
theorem signed_itoa (z : Int) : signed (itoa z) = decide (z < 0) := by
  rcases Int.lt_or_le z 0 with h | h
  · rw [itoa_below h]; simp [signed, h]
  · rw [itoa_pos h, signed_dec]; simp; omega
theorem itoa_inj {x y : Int} (h : itoa x = itoa y) : x = y := by
  have h1 := congrArg body h
  have h2 := congrArg signed h
  rw [body_itoa, body_itoa] at h1
  rw [signed_itoa, signed_itoa] at h2
  have h3 := congrArg dval h1
  rw [dval_dec, dval_dec] at h3
  have h4 : (x < 0) ↔ (y < 0) := by simpa using h2
  omega
theorem txt_inj {x y : Int} (h : txt x = txt y) : x = y := by
  unfold txt at h
  have := congrArg (fun b : ByteArray => b.data.toList) h
  simp at this
  exact itoa_inj this
theorem Wh.uniq {s : ByteArray} {x y : Int} (h : Wh s x) (k : Wh s y) : x = y := txt_inj (h.1.symm.trans k.1)
/-- The signs that make a valid whole number. -/
structure Good (l : List UInt8) : Prop where
  ne : body l ≠ []
  len : (body l).length ≤ 600
  dig : ∀ c ∈ body l, IsDig c
  zero : ∀ c r, body l = c :: r → c.toNat = 48 → r = [] ∧ l.length = 1
theorem good_of {z : Int} (h : nDigits z.natAbs ≤ 600) : Good (itoa z) := by
  refine ⟨by rw [body_itoa]; exact dec_ne _, by rw [body_itoa, decDigits_length]; exact h, by rw [body_itoa]; exact dec_dig _, fun c r e h48 => ?_⟩
  rw [body_itoa] at e
  rcases Nat.eq_zero_or_pos z.natAbs with h0 | h0
  · obtain rfl : z = 0 := by omega
    rw [show (0 : Int).natAbs = 0 from rfl, dec_small (by omega)] at e
    simp only [List.cons.injEq] at e
    exact ⟨e.2.symm, by rw [show itoa 0 = [chr 0] from by rw [itoa_pos (by omega)]; exact dec_small (by omega)]; rfl⟩
  · obtain ⟨c', r', e', h1, _⟩ := dec_head _ h0
    rw [e] at e'
    simp only [List.cons.injEq] at e'
    rw [e'.1] at h48
    omega
theorem wh_of {l : List UInt8} (h : Good l) : ∃ z, l = itoa z ∧ nDigits z.natAbs ≤ 600 := by
  have e := dec_of (body l) h.ne h.dig fun c r e h48 => (h.zero c r e h48).1
  have hl : nDigits (dval (body l)) ≤ 600 := by rw [← decDigits_length, ← e]; exact h.len
  by_cases hs : ∃ r, l = 45 :: r
  · obtain ⟨r, rfl⟩ := hs
    have hb : body (45 :: r) = r := rfl
    rw [hb] at e hl
    have hp : 0 < dval r := Nat.pos_of_ne_zero fun h0 => by
      rw [h0, dec_small (by omega)] at e
      have := (h.zero (chr 0) [] (by rw [hb]; exact e) (chr_nat (by omega))).2
      rw [e] at this; simp at this
    refine ⟨-(dval r : Int), ?_, by simpa using hl⟩
    rw [itoa_below (by omega)]
    congr 1
    rw [show (-(dval r : Int)).natAbs = dval r by omega]; exact e
  · have hb : body l = l := by
      cases l with
      | nil => rfl
      | cons c r => rw [body, if_neg fun h => hs ⟨r, by rw [h]⟩]
    rw [hb] at e hl
    exact ⟨(dval l : Int), by rw [itoa_pos (by omega)]; simpa using e, by simpa using hl⟩
theorem wh_iff (s : ByteArray) : (∃ z, Wh s z) ↔ Good s.data.toList := by
  constructor
  · rintro ⟨z, rfl, h⟩
    simpa [txt] using good_of h
  · intro h
    obtain ⟨z, e, h1⟩ := wh_of h
    refine ⟨z, ?_, h1⟩
    unfold txt
    rw [← e]
/-! ### Parsing -/
theorem parseM_dig : ∀ (l : List UInt8) (acc : Nat), (∀ c ∈ l, IsDig c) → acc < 18446744073709551616 →
    parseUint10 acc l = if acc * 10 ^ l.length + dval l < 18446744073709551616 then .ok (acc * 10 ^ l.length + dval l) else .range
  | [], acc, _, h => by simp [parseUint10, dval, h]
  | c :: r, acc, hd, h => by
    have hc := hd c (by simp)
    have h1 := hc.1
    have h2 := hc.2
    have e : acc * 10 ^ (c :: r).length + dval (c :: r) = (acc * 10 + (c.toNat - 48)) * 10 ^ r.length + dval r := by
      have := dval_append [c] r
      rw [List.singleton_append, dval_one] at this
      rw [this, List.length_cons, Nat.pow_succ, Nat.add_mul, Nat.mul_comm (10 ^ r.length) 10, Nat.mul_assoc]; omega
    have hp : 1 ≤ 10 ^ r.length := Nat.pos_of_ne_zero (by simp)
    have hge : acc * 10 + (c.toNat - 48) ≤ (acc * 10 + (c.toNat - 48)) * 10 ^ r.length + dval r := by
      have := Nat.le_mul_of_pos_right (acc * 10 + (c.toNat - 48)) (show 0 < 10 ^ r.length by omega)
      omega
    rw [e]
    unfold parseUint10
    rw [if_pos ⟨h1, h2⟩]
    by_cases ha : 1844674407370955162 ≤ acc
    · rw [if_pos ha, if_neg (by omega)]
    · rw [if_neg ha]
      by_cases hb : 18446744073709551616 ≤ acc * 10 + (c.toNat - 48)
      · rw [if_pos hb, if_neg (by omega)]
      · rw [if_neg hb, parseM_dig r _ (fun d hd' => hd d (by simp [hd'])) (by omega)]
theorem parseUintM_dig : ∀ (l : List UInt8) (acc : Nat), (∀ c ∈ l, IsDig c) → acc * 10 ^ l.length + dval l < 1000000000000000000 → parseUintM 18446744073709551615 acc l = .ok (acc * 10 ^ l.length + dval l)
  | [], acc, _, h => by simp [parseUintM, dval]
  | c :: r, acc, hd, h => by
    have hc := hd c (by simp)
    have h1 := hc.1
    have h2 := hc.2
    have e : acc * 10 ^ (c :: r).length + dval (c :: r) = (acc * 10 + (c.toNat - 48)) * 10 ^ r.length + dval r := by
      have := dval_append [c] r
      rw [List.singleton_append, dval_one] at this
      rw [this, List.length_cons, Nat.pow_succ, Nat.add_mul, Nat.mul_comm (10 ^ r.length) 10, Nat.mul_assoc]; omega
    have hge : acc * 10 + (c.toNat - 48) ≤ (acc * 10 + (c.toNat - 48)) * 10 ^ r.length + dval r := by
      have := Nat.le_mul_of_pos_right (acc * 10 + (c.toNat - 48)) (show 0 < 10 ^ r.length from Nat.pos_of_ne_zero (by simp))
      omega
    rw [e] at h ⊢
    unfold parseUintM
    rw [if_pos ⟨h1, h2⟩, if_neg (by omega), if_neg (by omega)]
    exact parseUintM_dig r _ (fun d hd' => hd d (by simp [hd'])) h
theorem parse18 (l : List UInt8) (hne : l ≠ []) (hd : ∀ c ∈ l, IsDig c) (hl : l.length ≤ 18) : parseUintB 64 l = .ok (dval l) := by
  have h := dval_lt l hd
  have h1 : 10 ^ l.length ≤ 10 ^ 18 := Nat.pow_le_pow_right (by omega) hl
  have := parseUintM_dig l 0 hd (by omega)
  unfold parseUintB
  rw [if_neg hne]
  simpa using this
theorem atoi_itoa (z : Int) : atoiAll (itoa z) = if -9223372036854775808 ≤ z ∧ z ≤ 9223372036854775807 then .ok z else .range := by
  have hm : parseMag (decDigits z.natAbs) = if z.natAbs < 18446744073709551616 then .ok z.natAbs else .range := by
    unfold parseMag
    rw [if_neg (dec_ne _), parseM_dig _ 0 (dec_dig _) (by omega), dval_dec]
    simp
  rcases Int.lt_or_le z 0 with h | h
  · rw [itoa_below h, atoiAll]
    simp only [show (45 : UInt8).toNat = 45 from rfl, show ((45 : Nat) = 43) = False from by decide, false_or, or_true, if_true, hm]
    by_cases h1 : z.natAbs < 18446744073709551616
    · rw [if_pos h1]
      simp only [not_true_eq_false, false_and, if_false, true_and, if_true]
      by_cases h2 : 9223372036854775808 < z.natAbs
      · rw [if_pos h2, if_neg (by omega)]
      · rw [if_neg h2, if_pos (by omega)]; congr 1; omega
    · rw [if_neg h1, if_neg (by omega)]
  · rw [itoa_pos h]
    obtain ⟨c, r, e⟩ : ∃ c r, decDigits z.natAbs = c :: r := by
      cases hh : decDigits z.natAbs with
      | nil => exact absurd hh (dec_ne _)
      | cons c r => exact ⟨c, r, rfl⟩
    have hc := dec_dig z.natAbs c (by rw [e]; simp)
    have h43 : c.toNat ≠ 43 := by have := hc.1; omega
    have h45 : c.toNat ≠ 45 := by have := hc.1; omega
    rw [e] at hm ⊢
    rw [atoiAll]
    simp only [h43, h45, or_self, if_false, hm]
    by_cases h1 : z.natAbs < 18446744073709551616
    · rw [if_pos h1]
      simp only [not_false_eq_true, true_and, false_and, if_false]
      by_cases h2 : 9223372036854775808 ≤ z.natAbs
      · rw [if_pos h2, if_neg (by omega)]
      · rw [if_neg h2, if_pos (by omega)]; congr 1; omega
    · rw [if_neg h1, if_neg (by omega)]
/-! ### Digits to the base 10^k -/
theorem gn_digs {b : Nat} (hb : 2 ≤ b) (k : Nat) : ∀ n, gn (digs b n) k = n / b ^ k % b := by
  induction k with
  | zero =>
    intro n
    rcases Nat.eq_zero_or_pos n with h | h
    · subst h; rw [digs_zero]; simp [gn]
    · rw [digs_pos hb h]; simp [gn]
  | succ k ih =>
    intro n
    rcases Nat.eq_zero_or_pos n with h | h
    · subst h; rw [digs_zero]; simp [gn]
    · rw [digs_pos hb h]
      have : gn (n % b :: digs b (n / b)) (k + 1) = gn (digs b (n / b)) k := by simp [gn]
      rw [this, ih, Nat.div_div_eq_div_mul, Nat.pow_succ, Nat.mul_comm]
theorem div_top {b n : Nat} (hb : 2 ≤ b) (hn : 0 < n) : 0 < n / b ^ (dl b n - 1) ∧ n / b ^ (dl b n - 1) < b ∧ n / b ^ dl b n = 0 := by
  have h0 := dl_pos hb hn
  have h1 : b ^ (dl b n - 1) ≤ n := pow_le_of_dl hb (by omega)
  have h2 := lt_pow_dl hb n
  refine ⟨Nat.div_pos h1 (Nat.pow_pos (by omega)), ?_, Nat.div_eq_of_lt h2⟩
  rw [Nat.div_lt_iff_lt_mul (Nat.pow_pos (by omega)), Nat.mul_comm, ← Nat.pow_succ]
  rwa [show (dl b n - 1).succ = dl b n by omega]
/-- The numeral down to the k-th digit to the base 10^c. -/
def head10 (c n k : Nat) : List UInt8 := if n / (10 ^ c) ^ k = 0 then [] else decDigits (n / (10 ^ c) ^ k)
theorem head10_top {c n : Nat} (hc : 0 < c) (hn : 0 < n) : head10 c n (dl (10 ^ c) n) = [] := by
  have hb : 2 ≤ 10 ^ c := by have : 10 ^ 1 ≤ 10 ^ c := Nat.pow_le_pow_right (by omega) hc
                             omega
  unfold head10; rw [if_pos (div_top hb hn).2.2]
theorem head10_step {c n k : Nat} (hc : 0 < c) (hn : 0 < n) (hk : k < dl (10 ^ c) n) :
    head10 c n k = head10 c n (k + 1) ++ (if k + 1 = dl (10 ^ c) n then decDigits (gn (digs (10 ^ c) n) k) else pad c (gn (digs (10 ^ c) n) k)) := by
  have hb : 2 ≤ 10 ^ c := by have : 10 ^ 1 ≤ 10 ^ c := Nat.pow_le_pow_right (by omega) hc
                             omega
  have ht := div_top hb hn
  have hkp : 0 < n / (10 ^ c) ^ k := by
    have h1 : (10 ^ c) ^ k ≤ n := pow_le_of_dl hb hk
    exact Nat.div_pos h1 (Nat.pow_pos (by omega))
  have hm : gn (digs (10 ^ c) n) k < 10 ^ c := gn_mem_lt (by omega) (digs_lt hb n) k
  have hs : n / (10 ^ c) ^ k = n / (10 ^ c) ^ (k + 1) * 10 ^ c + gn (digs (10 ^ c) n) k := by
    rw [gn_digs hb, Nat.pow_succ, ← Nat.div_div_eq_div_mul, Nat.mul_comm]
    exact (Nat.div_add_mod _ _).symm
  unfold head10
  rw [if_neg (by omega)]
  by_cases h : k + 1 = dl (10 ^ c) n
  · rw [if_pos h, h, if_pos ht.2.2, List.nil_append]
    rw [h, ht.2.2, Nat.zero_mul, Nat.zero_add] at hs
    rw [hs]
  · have hp : 0 < n / (10 ^ c) ^ (k + 1) := by
      have h1 : (10 ^ c) ^ (k + 1) ≤ n := pow_le_of_dl hb (by omega)
      exact Nat.div_pos h1 (Nat.pow_pos (by omega))
    rw [if_neg h, if_neg (by omega), ← dec_split c _ _ hp hm, ← hs]
theorem head10_end (c n : Nat) (hn : 0 < n) : head10 c n 0 = decDigits n := by unfold head10; rw [Nat.pow_zero, Nat.div_one, if_neg (by omega)]
theorem nDigits_digs {c n : Nat} (hc : 0 < c) (hn : 0 < n) : nDigits n = c * (dl (10 ^ c) n - 1) + nDigits (gn (digs (10 ^ c) n) (dl (10 ^ c) n - 1)) := by
  have hb : 2 ≤ 10 ^ c := by have : 10 ^ 1 ≤ 10 ^ c := Nat.pow_le_pow_right (by omega) hc
                             omega
  have ht := div_top hb hn
  have e : gn (digs (10 ^ c) n) (dl (10 ^ c) n - 1) = n / (10 ^ c) ^ (dl (10 ^ c) n - 1) := by rw [gn_digs hb, Nat.mod_eq_of_lt ht.2.1]
  have hs := Nat.div_add_mod n ((10 ^ c) ^ (dl (10 ^ c) n - 1))
  have hm := Nat.mod_lt n (show 0 < (10 ^ c) ^ (dl (10 ^ c) n - 1) from Nat.pow_pos (by omega))
  rw [e]
  have h := nDigits_split (q := n / (10 ^ c) ^ (dl (10 ^ c) n - 1)) (r := n % (10 ^ c) ^ (dl (10 ^ c) n - 1)) (k := c * (dl (10 ^ c) n - 1)) ht.1 (by rw [Nat.pow_mul]; exact hm)
  rw [Nat.pow_mul, Nat.mul_comm, hs] at h
  omega
end Go.Proofs.YtkmmkobiigddkaaGreatDoor
