import Derived.Test.YtkmmkobiigddkaaGreatDoorProg
import Derived.Test.YtkmmkobiigddkaaGreatDoorKit
import Derived.Test.YtkmmkobiigddkaaGreatDoorShelf
/-! The walk of math/bits.Div64. -/
set_option linter.unusedVariables false
set_option linter.unusedSimpArgs false
set_option maxRecDepth 100000
namespace Go.Proofs.YtkmmkobiigddkaaGreatDoor
open Go.RowKit

set_option maxHeartbeats 1000000 in
theorem div64_zero (lo y : Int) (w : World) (h0 : 0 ≤ lo) (h1 : 0 < y) (h2 : lo ≤ 18446744073709551615) :
    Calls Tryz.prog 122 #[.int .u64 0, .int .u64 lo, .int .u64 y] w (Ret w (.tuple #[.int .u64 (lo / y), .int .u64 (lo % y)])) := by
  have hy : (y == 0) = false := by simp; omega
  have hy1 : ¬ y ≤ 0 := by omega
  have hy2 : ¬ y = 0 := by omega
  have hq0 : 0 ≤ lo / y := Int.ediv_nonneg h0 (by omega)
  have hq1 : lo / y ≤ lo := Int.ediv_le_self y h0
  go_enter Tryz.func122, Tryz.ntmps122
  go_wp2
  go_quiet (fail)
  go_wp2
  go_ret2
  exact ⟨rfl, inferInstance⟩

theorem bitLen_bounds : ∀ (n x : Nat), x ≤ n → 0 < x → x < 18446744073709551616 → 2 ^ (Lib.bitLen x - 1) ≤ x ∧ x < 2 ^ Lib.bitLen x ∧ 0 < Lib.bitLen x
  | 0, x, h, h0, _ => by omega
  | n + 1, x, h, h0, h1 => by
    have e := Lib.bitLen_half x (by omega) h1
    by_cases hx : x = 1
    · subst hx; decide
    · obtain ⟨i1, i2, i3⟩ := bitLen_bounds n (x / 2) (by omega) (by omega) (by omega)
      rw [e, show 1 + Lib.bitLen (x / 2) - 1 = (Lib.bitLen (x / 2) - 1) + 1 by omega, show 1 + Lib.bitLen (x / 2) = Lib.bitLen (x / 2) + 1 by omega, Nat.pow_succ, Nat.pow_succ]
      omega
/-- The shift that brings y's highest bit to the top. -/
theorem lead_zeros (y : Nat) (h0 : 0 < y) (h1 : y < 18446744073709551616) : ∃ s : Nat, (64 - (Lib.bitLen y : Int)) = (s : Int) ∧ s ≤ 63 ∧ 9223372036854775808 ≤ y * 2 ^ s ∧ y * 2 ^ s < 18446744073709551616 := by
  obtain ⟨i1, i2, i3⟩ := bitLen_bounds y y (Nat.le_refl _) h0 h1
  have hle : Lib.bitLen y ≤ 64 := by
    refine Nat.not_lt.1 fun hlt => ?_
    have : 2 ^ 64 ≤ 2 ^ (Lib.bitLen y - 1) := Nat.pow_le_pow_right (by omega) (by omega)
    omega
  refine ⟨64 - Lib.bitLen y, by omega, by omega, ?_, ?_⟩
  · have e : 2 ^ (Lib.bitLen y - 1) * 2 ^ (64 - Lib.bitLen y) = 9223372036854775808 := by
      rw [← Nat.pow_add, show Lib.bitLen y - 1 + (64 - Lib.bitLen y) = 63 by omega]
    have := Nat.mul_le_mul_right (2 ^ (64 - Lib.bitLen y)) i1
    omega
  · have e : 2 ^ Lib.bitLen y * 2 ^ (64 - Lib.bitLen y) = 18446744073709551616 := by
      rw [← Nat.pow_add, show Lib.bitLen y + (64 - Lib.bitLen y) = 64 by omega]
    have := Nat.mul_lt_mul_of_pos_right i2 (Nat.two_pow_pos (64 - Lib.bitLen y))
    omega

/-- One digit of the quotient, guessed: T is 2^32, V = V1 T + V0 the divisor, U T + u what is divided. -/
structure Guess (T V1 V0 U u q r : Int) : Prop where
  eq : r + q * V1 = U
  ge : U * T + u < q * V1 * T + q * V0 + V1 * T + V0
  top : q ≤ T + 1
  r0 : 0 ≤ r
  q0 : 0 ≤ q
structure Divs (T V1 V0 U u : Int) : Prop where
  t : 2 ≤ T
  v1 : T ≤ 2 * V1
  v1t : V1 < T
  v0 : 0 ≤ V0
  v0t : V0 < T
  u0 : 0 ≤ u
  ut : u < T
  U0 : 0 ≤ U
  lt : U < V1 * T + V0
theorem Guess.start {T V1 V0 U u : Int} (d : Divs T V1 V0 U u) : Guess T V1 V0 U u (U / V1) (U - U / V1 * V1) := by
  have hv1 : 0 < V1 := by have := d.t; have := d.v1; omega
  have e := Int.mul_ediv_add_emod U V1
  have r0 := Int.emod_nonneg U (show V1 ≠ 0 by omega)
  have r1 := Int.emod_lt_of_pos U hv1
  have q0 : 0 ≤ U / V1 := Int.ediv_nonneg d.U0 (by omega)
  have e2 : U / V1 * V1 = V1 * (U / V1) := Int.mul_comm _ _
  refine ⟨by omega, ?_, ?_, by omega, q0⟩
  · have h1 : 0 ≤ U / V1 * V0 := Int.mul_nonneg q0 d.v0
    have h2 : U + 1 ≤ U / V1 * V1 + V1 := by omega
    have h3 := Int.mul_le_mul_of_nonneg_right h2 (show 0 ≤ T by have := d.t; omega)
    rw [Int.add_mul, Int.add_mul] at h3
    have := d.ut; have := d.v0
    omega
  · refine Int.not_lt.1 fun hlt => ?_
    have h1 : T + 2 ≤ U / V1 := by omega
    have h2 := Int.mul_le_mul_of_nonneg_right h1 (show 0 ≤ V1 by omega)
    rw [Int.add_mul, Int.mul_comm T V1] at h2
    have := d.lt; have := d.v0t; have := d.v1
    omega
theorem Guess.low {T V1 V0 U u q r : Int} (d : Divs T V1 V0 U u) (g : Guess T V1 V0 U u q r) (h : T ≤ q ∨ T * r + u < q * V0) :
    U * T + u < q * V1 * T + q * V0 := by
  have e := g.eq
  have eT : r * T + q * V1 * T = U * T := by rw [← Int.add_mul, e]
  have hv : 0 ≤ V1 * T + V0 := by have := d.U0; have := d.lt; omega
  rcases h with h | h
  · have h1 := Int.mul_le_mul_of_nonneg_right h hv
    have e1 : q * (V1 * T + V0) = q * V1 * T + q * V0 := by rw [Int.mul_add, Int.mul_assoc]
    have h2 : U + 1 ≤ V1 * T + V0 := d.lt
    have h3 := Int.mul_le_mul_of_nonneg_left h2 (show 0 ≤ T by have := d.t; omega)
    have e3 : T * (U + 1) = U * T + T := by rw [Int.mul_add, Int.mul_comm]; omega
    have := d.ut
    omega
  · have e2 : T * r = r * T := Int.mul_comm _ _
    omega
theorem Guess.step {T V1 V0 U u q r : Int} (d : Divs T V1 V0 U u) (g : Guess T V1 V0 U u q r) (h : T ≤ q ∨ T * r + u < q * V0) :
    Guess T V1 V0 U u (q - 1) (r + V1) ∧ q - 1 ≤ T := by
  have l := g.low d h
  have hv1 : 0 < V1 := by have := d.t; have := d.v1; omega
  have e := g.eq
  have e1 : (q - 1) * V1 = q * V1 - V1 := by rw [Int.sub_mul]; omega
  have e2 : (q - 1) * V1 * T = q * V1 * T - V1 * T := by rw [e1, Int.sub_mul]
  have e3 : (q - 1) * V0 = q * V0 - V0 := by rw [Int.sub_mul]; omega
  have hq : 1 ≤ q := by
    rcases h with h | h
    · have := d.t; omega
    · refine Int.not_lt.1 fun hlt => ?_
      have hq0 : q = 0 := by have := g.q0; omega
      subst hq0
      have : 0 ≤ T * r := Int.mul_nonneg (by have := d.t; omega) g.r0
      have := d.u0
      omega
  have := g.r0; have := g.top
  exact ⟨⟨by omega, by omega, by omega, by omega, by omega⟩, by omega⟩
/-- The digit is right. -/
structure Digit (T V1 V0 U u q : Int) : Prop where
  q0 : 0 ≤ q
  qt : q < T
  le : q * V1 * T + q * V0 ≤ U * T + u
  lt : U * T + u < q * V1 * T + q * V0 + V1 * T + V0
theorem Digit.of {T V1 V0 U u q r : Int} (d : Divs T V1 V0 U u) (g : Guess T V1 V0 U u q r) (h : q * V1 * T + q * V0 ≤ U * T + u) : Digit T V1 V0 U u q := by
  refine ⟨g.q0, ?_, h, g.ge⟩
  refine Int.not_le.1 fun hle => ?_
  have := g.low d (.inl hle)
  omega
theorem Digit.done {T V1 V0 U u q r : Int} (d : Divs T V1 V0 U u) (g : Guess T V1 V0 U u q r) (h : ¬ T * r + u < q * V0) : Digit T V1 V0 U u q := by
  refine Digit.of d g ?_
  have eT : r * T + q * V1 * T = U * T := by rw [← Int.add_mul, g.eq]
  have e2 : T * r = r * T := Int.mul_comm _ _
  omega
theorem Digit.out {T V1 V0 U u q r : Int} (d : Divs T V1 V0 U u) (g : Guess T V1 V0 U u q r) (hq : q ≤ T) (h : T ≤ r) : Digit T V1 V0 U u q := by
  refine Digit.of d g ?_
  have eT : r * T + q * V1 * T = U * T := by rw [← Int.add_mul, g.eq]
  have hT := d.t
  have h1 := Int.mul_le_mul_of_nonneg_right h (show 0 ≤ T by omega)
  have h2 := Int.mul_le_mul hq (show V0 ≤ T by have := d.v0t; omega) d.v0 (show 0 ≤ T by omega)
  have := d.u0
  omega
/-- What is left. -/
theorem Digit.rest {T V1 V0 U u q : Int} (g : Digit T V1 V0 U u q) : 0 ≤ U * T + u - q * (V1 * T + V0) ∧ U * T + u - q * (V1 * T + V0) < V1 * T + V0 := by
  have e1 : q * (V1 * T + V0) = q * V1 * T + q * V0 := by rw [Int.mul_add, Int.mul_assoc]
  have := g.le; have := g.lt
  omega

theorem wraps_u64 (n : Int) (h₀ : 0 ≤ n) (h₁ : n < 2 ^ 64) : IntKind.u64.wrap n = n := by
  rw [IntKind.wrap_u64]; exact Int.emod_eq_of_lt h₀ h₁
/-- The numbers that Div64 makes of hi, lo and y. -/
structure Shifted (a b v p V V1 V0 U W W1 W0 : Int) : Prop where
  d : Divs 4294967296 V1 V0 U W1
  ev : V = V1 * 4294967296 + V0
  ew : W = W1 * 4294967296 + W0
  w0 : 0 ≤ W0
  w0t : W0 < 4294967296
  vp : V = v * p
  up : U * 18446744073709551616 + W = (a * 18446744073709551616 + b) * p
theorem div_setup (a b v : Int) (s : Nat) (hs : s ≤ 63) (a0 : 0 < a) (a1 : a < v) (b0 : 0 ≤ b) (b1 : b < 18446744073709551616) (l1 : 9223372036854775808 ≤ v * 2 ^ s) (l2 : v * 2 ^ s < 18446744073709551616) :
    ∃ V V1 V0 U W W1 W0 : Int, IntKind.u64.wrap (v * 2 ^ s) = V ∧ V / 4294967296 = V1 ∧ bits .and .u64 V 4294967295 = V0 ∧
      bits .or .u64 (IntKind.u64.wrap (a * 2 ^ s)) (b / 2 ^ (64 - s)) = U ∧ IntKind.u64.wrap (b * 2 ^ s) = W ∧ W / 4294967296 = W1 ∧ bits .and .u64 W 4294967295 = W0 ∧
      Shifted a b v (2 ^ s) V V1 V0 U W W1 W0 := by
  have hp : (0 : Int) < 2 ^ s := Int.pow_pos (by omega)
  have hp' : (0 : Int) < 2 ^ (64 - s) := Int.pow_pos (by omega)
  have hpp : (2 : Int) ^ (64 - s) * 2 ^ s = 18446744073709551616 := by
    rw [← Int.pow_add, show 64 - s + s = 64 by omega]; rfl
  have mask : ∀ x : Int, 0 ≤ x → x < 18446744073709551616 → bits .and .u64 x 4294967295 = x % 4294967296 := fun x h0 h1 =>
    bits_mask .u64 64 (by decide) wraps_u64 32 (by decide) x h0 h1
  generalize hP : (2 : Int) ^ s = p at *
  generalize hP' : (2 : Int) ^ (64 - s) = p' at *
  have ap : a * p + p ≤ v * p := by
    have := Int.mul_le_mul_of_nonneg_right (show a + 1 ≤ v by omega) (show 0 ≤ p by omega)
    rw [Int.add_mul] at this; omega
  have a0p : 0 ≤ a * p := Int.mul_nonneg (by omega) (by omega)
  have b0p : 0 ≤ b * p := Int.mul_nonneg b0 (by omega)
  have v0 : 0 ≤ v * p := by omega
  have ew : IntKind.u64.wrap (a * p) = a * p := wraps_u64 _ a0p (by show a * p < 18446744073709551616; omega)
  have hb : b / p' < p := by
    refine Int.ediv_lt_of_lt_mul hp' ?_
    rw [Int.mul_comm, hpp]; exact b1
  have hb0 : 0 ≤ b / p' := Int.ediv_nonneg b0 (by omega)
  have pl : p ≤ 18446744073709551616 := by
    have := Int.mul_le_mul_of_nonneg_right (show 1 ≤ p' by omega) (show 0 ≤ p by omega)
    omega
  have eo : bits .or .u64 (a * p) (b / p') = a * p + b / p' :=
    bits_join .u64 64 (by decide) wraps_u64 s _ _ a0p (by rw [hP]; exact Int.mul_emod_left a p) (by show a * p < 18446744073709551616; omega) hb0 (by rw [hP]; exact hb) (by show b / p' < 18446744073709551616; omega)
  have eW : IntKind.u64.wrap (b * p) = b * p % 18446744073709551616 := IntKind.wrap_u64 _
  have ediv : b * p / 18446744073709551616 = b / p' := by rw [← hpp]; exact Int.mul_ediv_mul_of_pos_left b p' hp
  have hW := Int.mul_ediv_add_emod (b * p) 18446744073709551616
  rw [ediv] at hW
  have hW0 := Int.emod_nonneg (b * p) (show (18446744073709551616 : Int) ≠ 0 by omega)
  have hW1 := Int.emod_lt_of_pos (b * p) (show (0 : Int) < 18446744073709551616 by omega)
  refine ⟨v * p, _, _, a * p + b / p', b * p % 18446744073709551616, _, _, wraps_u64 _ v0 (by show v * p < 18446744073709551616; omega), rfl, rfl, by rw [ew, eo], eW, rfl, rfl, ?_⟩
  rw [mask _ v0 l2, mask _ hW0 hW1]
  generalize b * p % 18446744073709551616 = W at *
  refine ⟨⟨by omega, by omega, by omega, by omega, by omega, by omega, by omega, by omega, ?_⟩, by omega, by omega, by omega, by omega, rfl, ?_⟩
  · omega
  · rw [Int.add_mul (a * 18446744073709551616) b p, Int.mul_assoc a, Int.mul_comm 18446744073709551616 p, ← Int.mul_assoc]
    omega
theorem div_result {a b v p V V1 V0 U W W1 W0 q1 q0 : Int} (h : Shifted a b v p V V1 V0 U W W1 W0) (hp : 0 < p) (hv : 0 < v) (g1 : Digit 4294967296 V1 V0 U W1 q1)
    (g0 : Digit 4294967296 V1 V0 (U * 4294967296 + W1 - q1 * V) W0 q0) :
    q1 * 4294967296 + q0 = (a * 18446744073709551616 + b) / v ∧ ((U * 4294967296 + W1 - q1 * V) * 4294967296 + W0 - q0 * V) / p = (a * 18446744073709551616 + b) % v := by
  have e := h.ev
  have r0 := g0.rest
  rw [← e] at r0
  generalize hR1 : U * 4294967296 + W1 - q1 * V = R1 at *
  generalize hR0 : R1 * 4294967296 + W0 - q0 * V = R0 at *
  have hup := h.up
  have hw := h.ew
  have key : (a * 18446744073709551616 + b) * p = (q1 * 4294967296 + q0) * v * p + R0 := by
    have e1 : (q1 * 4294967296 + q0) * v * p = q1 * V * 4294967296 + q0 * V := by
      rw [Int.mul_assoc, ← h.vp, Int.add_mul, Int.mul_assoc q1, Int.mul_comm 4294967296 V, ← Int.mul_assoc]
    rw [e1, ← hup]
    omega
  have hd : R0 = (a * 18446744073709551616 + b - (q1 * 4294967296 + q0) * v) * p := by rw [Int.sub_mul]; omega
  have hq : R0 / p = a * 18446744073709551616 + b - (q1 * 4294967296 + q0) * v := by rw [hd]; exact Int.mul_ediv_cancel _ (by omega)
  generalize a * 18446744073709551616 + b = X at *
  generalize q1 * 4294967296 + q0 = Q at *
  have b0 : 0 ≤ X - Q * v := by
    refine Int.not_lt.1 fun hlt => ?_
    have := Int.mul_le_mul_of_nonneg_right (show X - Q * v ≤ -1 by omega) (show 0 ≤ p by omega)
    omega
  have b1 : X - Q * v < v := by
    refine Int.not_le.1 fun hle => ?_
    have := Int.mul_le_mul_of_nonneg_right hle (show 0 ≤ p by omega)
    have e2 := h.vp
    omega
  have u := Int.ediv_emod_unique (a := X) (b := v) (r := X - Q * v) (q := Q) hv
  have e4 : v * Q = Q * v := Int.mul_comm _ _
  have u2 := u.2 ⟨by omega, b0, b1⟩
  exact ⟨u2.1.symm, by rw [hq, u2.2]⟩

def two64 : Int := 18446744073709551616
set_option maxHeartbeats 2000000 in
theorem div64_pos (a b v : Int) (w : World) (a0 : 0 < a) (a1 : a < v) (v1 : v ≤ 18446744073709551615) (b0 : 0 ≤ b) (b1 : b ≤ 18446744073709551615) :
    Calls Tryz.prog 122 #[.int .u64 a, .int .u64 b, .int .u64 v] w (Ret w (.tuple #[.int .u64 ((a * two64 + b) / v), .int .u64 ((a * two64 + b) % v)])) := by
  obtain ⟨s, hs, s1, s2, s3⟩ := lead_zeros v.toNat (by omega) (by omega)
  have es : v * 2 ^ s = ((v.toNat * 2 ^ s : Nat) : Int) := by
    rw [Int.natCast_mul, Int.toNat_of_nonneg (by omega), Int.natCast_pow]; rfl
  obtain ⟨V, V1, V0, U, W, W1, W0, f1, f2, f3, f4, f5, f6, f7, hS⟩ := div_setup a b v s s1 a0 a1 b0 (by omega) (by rw [es]; omega) (by rw [es]; omega)
  have HS := Lib.hid hS
  have HZ := Lib.hid hs
  have a2 : ¬ v ≤ a := by omega
  have hy : (v == 0) = false := by simp; omega
  have hz : (a == 0) = false := by simp; omega
  have v0 : 0 ≤ v := by omega
  have d1 := hS.d.v1
  have d2 := hS.d.v1t
  have d3 := hS.d.v0
  have d4 := hS.d.v0t
  have d5 := hS.d.u0
  have d6 := hS.d.ut
  have d7 := hS.d.U0
  have d8 : U < V := by have := hS.d.lt; have := hS.ev; omega
  have d9 : V ≤ 18446744073709551615 := by have := hS.ev; omega
  have d10 := hS.w0
  have d11 := hS.w0t
  have hV1 : ¬ V1 = 0 := by omega
  clear hS s2 s3 es hs
  have e1 : IntKind.u64.wrap (U.tdiv V1) = U / V1 := by
    rw [Int.tdiv_eq_ediv_of_nonneg d7]
    exact wraps_u64 _ (Int.ediv_nonneg d7 (by omega)) (by have := Int.ediv_le_self V1 d7; show U / V1 < 18446744073709551616; omega)
  have G := Lib.hid (Guess.start HS.out.d)
  have e2 : IntKind.u64.wrap (U - IntKind.u64.wrap (U / V1 * V1)) = U - U / V1 * V1 := by
    have h1 := G.out.r0
    have h2 : 0 ≤ U / V1 * V1 := Int.mul_nonneg G.out.q0 (by omega)
    rw [wraps_u64 (U / V1 * V1) h2 (by show U / V1 * V1 < 18446744073709551616; omega)]
    exact wraps_u64 _ h1 (by show U - U / V1 * V1 < 18446744073709551616; omega)
  have E : Hid (U / V1 ≤ 4294967297 ∧ U - U / V1 * V1 < V1) := Lib.hid ⟨G.out.top, by
    have e := Int.mul_ediv_add_emod U V1
    have r1 := Int.emod_lt_of_pos U (show 0 < V1 by omega)
    rw [Int.mul_comm] at e; omega⟩
  go_enter Tryz.func122, Tryz.ntmps122
  go_upto_block 0 with (go_at_call 138; refine (Tryz.bits_LeadingZeros64 v _ v0 v1).mono ?_; rintro e w' ⟨rfl, hw⟩; obtain rfl := hw.symm; rw [HZ.out])
  go_cut [15] (fun x wx => ∃ q : Int, x = .int .u64 q ∧ Hid (Digit 4294967296 V1 V0 U W1 q) ∧ Ext w wx)
  case first =>
    go_wp2_with fail
    go_loop [15, 16] (fun x y => ∃ q r : Int, x = .int .u64 q ∧ y = .int .u64 r ∧ Hid (Guess 4294967296 V1 V0 U W1 q r) ∧ 0 ≤ r ∧ r ≤ 4294967295 ∧ 0 ≤ q ∧ q ≤ 4294967297) (fun x _ => (intOf x).toNat)
    case atStart => exact ⟨_, _, rfl, rfl, G, by have := G.out.r0; have := G.out.q0; have := E.out; omega⟩
    case round =>
      clear E e1 e2
      obtain ⟨q, r, rfl, rfl, g, r0, r1, q0, q1⟩ := hrel
      clear G
      by_cases hq : 4294967296 ≤ q
      · have st := (g.out.step HS.out.d (.inl hq))
        have ST := Lib.hid st
        clear st
        go_wp2
        · go_meet
          have hb : 4294967296 ≤ r + V1 := by assumption
          exact ⟨_, rfl, Lib.hid (Digit.out HS.out.d ST.out.1 ST.out.2 hb), inferInstance⟩
        · have hb : r + V1 < 4294967296 := by assumption
          exact ⟨⟨_, _, rfl, rfl, Lib.hid ST.out.1, by omega⟩, by simp [intOf]; omega⟩
      · have m0 : 0 ≤ q * V0 := Int.mul_nonneg q0 d3
        have m1 : q * V0 ≤ 4294967295 * 4294967295 := Int.mul_le_mul (by omega) (by omega) d3 (by omega)
        obtain ⟨M, hM⟩ : ∃ M : Int, q * V0 = M := ⟨_, rfl⟩
        rw [hM] at m0 m1
        have HM := Lib.hid hM
        by_cases hc : 4294967296 * r + W1 < M
        · have st := (g.out.step HS.out.d (.inr (by rw [hM]; exact hc)))
          have q2 : 0 ≤ q - 1 := st.1.q0
          have ST := Lib.hid st
          clear st
          go_wp2
          · go_meet
            have hb : 4294967296 ≤ r + V1 := by assumption
            exact ⟨_, rfl, Lib.hid (Digit.out HS.out.d ST.out.1 ST.out.2 hb), inferInstance⟩
          · have hb : r + V1 < 4294967296 := by assumption
            exact ⟨⟨_, _, rfl, rfl, Lib.hid ST.out.1, by omega⟩, by simp [intOf]; omega⟩
        · have dg := Digit.done HS.out.d g.out (by rw [hM]; exact hc)
          have DG := Lib.hid dg
          clear dg
          go_wp2
          go_meet
          exact ⟨_, rfl, DG, inferInstance⟩
  case rest =>
    obtain ⟨q1, rfl, DG, hx⟩ := hcut
    clear G E e1 e2
    have rs := DG.out.rest
    rw [← HS.out.ev] at rs
    obtain ⟨R1, hR1⟩ : ∃ R : Int, U * 4294967296 + W1 - q1 * V = R := ⟨_, rfl⟩
    rw [hR1] at rs
    have R10 : 0 ≤ R1 := rs.1
    have R11 : R1 < V := rs.2
    have HR1 := Lib.hid hR1
    clear rs hR1
    have e3 : IntKind.u64.wrap (IntKind.u64.wrap (IntKind.u64.wrap (U * 4294967296) + W1) - IntKind.u64.wrap (q1 * V)) = R1 := by
      rw [IntKind.wrap_u64, IntKind.wrap_u64, IntKind.wrap_u64, IntKind.wrap_u64]
      have := HR1.out
      omega
    have D2 : Divs 4294967296 V1 V0 R1 W0 := ⟨by omega, HS.out.d.v1, HS.out.d.v1t, d3, d4, d10, d11, R10, by rw [← HS.out.ev]; exact R11⟩
    have e1 : IntKind.u64.wrap (R1.tdiv V1) = R1 / V1 := by
      rw [Int.tdiv_eq_ediv_of_nonneg R10]
      exact wraps_u64 _ (Int.ediv_nonneg R10 (by omega)) (by have := Int.ediv_le_self V1 R10; show R1 / V1 < 18446744073709551616; omega)
    have G := Lib.hid (Guess.start D2)
    have e2 : IntKind.u64.wrap (R1 - IntKind.u64.wrap (R1 / V1 * V1)) = R1 - R1 / V1 * V1 := by
      have h1 := G.out.r0
      have h2 : 0 ≤ R1 / V1 * V1 := Int.mul_nonneg G.out.q0 (by omega)
      rw [wraps_u64 (R1 / V1 * V1) h2 (by show R1 / V1 * V1 < 18446744073709551616; omega)]
      exact wraps_u64 _ h1 (by show R1 - R1 / V1 * V1 < 18446744073709551616; omega)
    have E : Hid (R1 / V1 ≤ 4294967297 ∧ R1 - R1 / V1 * V1 < V1) := Lib.hid ⟨G.out.top, by
      have e := Int.mul_ediv_add_emod R1 V1
      have r1 := Int.emod_lt_of_pos R1 (show 0 < V1 by omega)
      rw [Int.mul_comm] at e; omega⟩
    have HD2 := Lib.hid D2
    clear D2
    go_upto_block 2 with fail
    go_cut [18] (fun x wx => ∃ q : Int, x = .int .u64 q ∧ Hid (Digit 4294967296 V1 V0 R1 W0 q) ∧ Ext w wx)
    case first =>
      go_wp2_with fail
      go_loop [18, 16] (fun x y => ∃ q r : Int, x = .int .u64 q ∧ y = .int .u64 r ∧ Hid (Guess 4294967296 V1 V0 R1 W0 q r) ∧ 0 ≤ r ∧ r ≤ 4294967295 ∧ 0 ≤ q ∧ q ≤ 4294967297) (fun x _ => (intOf x).toNat)
      case atStart => exact ⟨_, _, rfl, rfl, G, by have := G.out.r0; have := G.out.q0; have := E.out; omega⟩
      case round =>
        clear E e1 e2
        obtain ⟨q, r, rfl, rfl, g, r0, r1, q0, q1⟩ := hrel
        clear G
        by_cases hq : 4294967296 ≤ q
        · have st := (g.out.step HD2.out (.inl hq))
          have ST := Lib.hid st
          clear st
          go_wp2
          · go_meet
            have hb : 4294967296 ≤ r + V1 := by assumption
            exact ⟨_, rfl, Lib.hid (Digit.out HD2.out ST.out.1 ST.out.2 hb), inferInstance⟩
          · have hb : r + V1 < 4294967296 := by assumption
            exact ⟨⟨_, _, rfl, rfl, Lib.hid ST.out.1, by omega⟩, by simp [intOf]; omega⟩
        · have m0 : 0 ≤ q * V0 := Int.mul_nonneg q0 d3
          have m1 : q * V0 ≤ 4294967295 * 4294967295 := Int.mul_le_mul (by omega) (by omega) d3 (by omega)
          obtain ⟨M, hM⟩ : ∃ M : Int, q * V0 = M := ⟨_, rfl⟩
          rw [hM] at m0 m1
          have HM := Lib.hid hM
          by_cases hc : 4294967296 * r + W0 < M
          · have st := (g.out.step HD2.out (.inr (by rw [hM]; exact hc)))
            have q2 : 0 ≤ q - 1 := st.1.q0
            have ST := Lib.hid st
            clear st
            go_wp2
            · go_meet
              have hb : 4294967296 ≤ r + V1 := by assumption
              exact ⟨_, rfl, Lib.hid (Digit.out HD2.out ST.out.1 ST.out.2 hb), inferInstance⟩
            · have hb : r + V1 < 4294967296 := by assumption
              exact ⟨⟨_, _, rfl, rfl, Lib.hid ST.out.1, by omega⟩, by simp [intOf]; omega⟩
          · have dg := Digit.done HD2.out g.out (by rw [hM]; exact hc)
            have DG := Lib.hid dg
            clear dg
            go_wp2
            go_meet
            exact ⟨_, rfl, DG, inferInstance⟩
    case rest =>
      obtain ⟨q0, rfl, DG2, hx2⟩ := hcut
      clear G E e1 e2
      have rs := DG2.out.rest
      rw [← HS.out.ev] at rs
      obtain ⟨R0, hR0⟩ : ∃ R : Int, R1 * 4294967296 + W0 - q0 * V = R := ⟨_, rfl⟩
      rw [hR0] at rs
      have R00 : 0 ≤ R0 := rs.1
      have R01 : R0 < V := rs.2
      have HR0 := Lib.hid hR0
      have p0 := DG.out.q0
      have p1 := DG.out.qt
      have p2 := DG2.out.q0
      have p3 := DG2.out.qt
      have hp : (0 : Int) < 2 ^ s := Int.pow_pos (by omega)
      have fin := div_result HS.out hp (by omega) DG.out (by rw [HR1.out]; exact DG2.out)
      rw [HR1.out, hR0] at fin
      have FIN := Lib.hid fin
      clear rs hR0 hp fin
      have e4 : IntKind.u64.wrap (IntKind.u64.wrap (IntKind.u64.wrap (R1 * 4294967296) + W0) - IntKind.u64.wrap (q0 * V)) = R0 := by
        rw [IntKind.wrap_u64, IntKind.wrap_u64, IntKind.wrap_u64, IntKind.wrap_u64]
        have := HR0.out
        omega
      go_wp2
      go_ret2
      refine ⟨?_, inferInstance⟩
      have h1 := FIN.out.1
      have h2 := FIN.out.2
      unfold two64
      rw [← h1, ← h2]
      rfl
end Go.Proofs.YtkmmkobiigddkaaGreatDoor
