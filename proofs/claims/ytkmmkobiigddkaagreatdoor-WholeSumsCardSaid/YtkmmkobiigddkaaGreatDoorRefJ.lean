import Derived.Test.YtkmmkobiigddkaaGreatDoorProg
import Derived.Test.YtkmmkobiigddkaaGreatDoorRefI
import Derived.IntWalk
/-! The walks of the reference's whole numbers: Integral, Int, Sign, Cmp. -/
set_option linter.unusedVariables false
set_option linter.unusedSimpArgs false
set_option maxRecDepth 100000
namespace Go.Proofs.YtkmmkobiigddkaaGreatDoor
open Go.RowKit

theorem sign_ways (d : Int) : (0 < d ∧ d.sign = 1) ∨ (d = 0 ∧ d.sign = 0) ∨ (d < 0 ∧ d.sign = -1) := by
  rcases Int.lt_trichotomy d 0 with h | h | h
  · exact .inr (.inr ⟨h, Int.sign_eq_neg_one_of_neg h⟩)
  · exact .inr (.inl ⟨h, by rw [h]; rfl⟩)
  · exact .inl ⟨h, Int.sign_eq_one_of_pos h⟩
theorem ord4_lit (A B : Option Addr) (c d : Nat) (x y : Int) (p q : Bool) (m n : Nat) (w : World) (hp : neg x = p) (hq : neg y = q) (hm : dl B4 x.natAbs = m) (hn : dl B4 y.natAbs = n) (ha : Num B4 .i64 w A c x.natAbs) (hb : Num B4 .i64 w B d y.natAbs) (h1 : m ≤ 1099511627776) (h2 : n ≤ 1099511627776)
    (s : Int) (hs : (x - y).sign = s) : Calls Tryz.prog 52 #[.agg #[.bool p, .slice A m c], .agg #[.bool q, .slice B n d]] w (Ret w (.int .i64 s)) := by
  subst hp hq hm hn hs
  exact ord4_spec A B c d x y w ha hb h1 h2
theorem integer_lit (n : Int) (p : Bool) (m : Nat) (hp : neg n = p) (hm : dl B4 n.natAbs = m) (h0 : -9223372036854775808 ≤ n) (h1 : n ≤ 9223372036854775807) (w : World) :
    Calls Tryz.prog 45 #[.int .i64 n] w (fun e w' => ∃ O oc, e = .returned (.agg #[.bool p, .slice O m oc]) ∧ Num B4 .i64 w' O oc n.natAbs ∧ Ext w w') := by
  subst hp hm
  exact integer_spec n h0 h1 w
theorem div_down {m k : Nat} : m / B4 ^ (k + 1) * B4 + gn (digs B4 m) k = m / B4 ^ k := by
  rw [gn_digs b42, Nat.pow_succ, ← Nat.div_div_eq_div_mul]
  exact Nat.div_add_mod' _ _
def iV (x : Int) : Int := if -9223372036854775808 ≤ x ∧ x ≤ 9223372036854775807 then x else 0
def iE (x : Int) : Int := if -9223372036854775808 ≤ x ∧ x ≤ 9223372036854775807 then 0 else 6
set_option maxHeartbeats 4000000 in
theorem integral_spec (A : Option Addr) (c : Nat) (x : Int) (w : World) (ha : Num B4 .i64 w A c x.natAbs) (hd : dl B4 x.natAbs ≤ 1099511627776) :
    Calls Tryz.prog 48 #[.agg #[.bool (neg x), .slice A (dl B4 x.natAbs) c]] w (Ret w (.tuple #[.int .i64 (iV x), .int .i64 (iE x)])) := by
  have HA := Lib.hid ha
  obtain ⟨a, ha'⟩ : ∃ a : Int, -9223372036854775808 = a := ⟨_, rfl⟩
  obtain ⟨p1, hp1⟩ : ∃ p, neg (-9223372036854775808) = p := ⟨_, rfl⟩
  obtain ⟨p2, hp2⟩ : ∃ p, neg 9223372036854775807 = p := ⟨_, rfl⟩
  obtain ⟨m1, hm1⟩ : ∃ m, dl B4 (-9223372036854775808 : Int).natAbs = m := ⟨_, rfl⟩
  obtain ⟨m2, hm2⟩ : ∃ m, dl B4 (9223372036854775807 : Int).natAbs = m := ⟨_, rfl⟩
  have hb1 : m1 ≤ 5 := by rw [← hm1]; exact dl_le b42 5 _ (by decide)
  have hb2 : m2 ≤ 5 := by rw [← hm2]; exact dl_le b42 5 _ (by decide)
  obtain ⟨s1, hs1⟩ : ∃ s, (x - (-9223372036854775808)).sign = s := ⟨_, rfl⟩
  obtain ⟨s2, hs2⟩ : ∃ s, (x - 9223372036854775807).sign = s := ⟨_, rfl⟩
  obtain ⟨p, hp⟩ : ∃ p, neg x = p := ⟨_, rfl⟩
  obtain ⟨m, hm⟩ : ∃ m, dl B4 x.natAbs = m := ⟨_, rfl⟩
  rw [hm] at hd
  rw [hp, hm]
  obtain ⟨v, hv⟩ : ∃ v, iV x = v := ⟨_, rfl⟩
  obtain ⟨r, hr⟩ : ∃ v, iE x = v := ⟨_, rfl⟩
  rw [hv, hr]
  have hS1 := sign_ways (x - (-9223372036854775808))
  have hS2 := sign_ways (x - 9223372036854775807)
  rw [hs1] at hS1
  rw [hs2] at hS2
  have C1 := Lib.hid (fun w : World => integer_lit (-9223372036854775808) p1 m1 hp1 hm1 (by omega) (by omega) w)
  have C2 := Lib.hid (fun w : World => integer_lit 9223372036854775807 p2 m2 hp2 hm2 (by omega) (by omega) w)
  have D1 := Lib.hid (fun (B : Option Addr) (d : Nat) (W : World) (ha : Num B4 .i64 W A c x.natAbs) (hb : Num B4 .i64 W B d (-9223372036854775808 : Int).natAbs) => ord4_lit A B c d x (-9223372036854775808) p p1 m m1 W hp hp1 hm hm1 ha hb hd (by omega) s1 hs1)
  have D2 := Lib.hid (fun (B : Option Addr) (d : Nat) (W : World) (ha : Num B4 .i64 W A c x.natAbs) (hb : Num B4 .i64 W B d (9223372036854775807 : Int).natAbs) => ord4_lit A B c d x 9223372036854775807 p p2 m m2 W hp hp2 hm hm2 ha hb hd (by omega) s2 hs2)
  have hcase : (s1 < 0 ∧ v = 0 ∧ r = 6) ∨ (¬ s1 < 0 ∧ 0 < s2 ∧ v = 0 ∧ r = 6) ∨ (¬ s1 < 0 ∧ ¬ 0 < s2 ∧ v = x ∧ r = 0 ∧ -9223372036854775808 ≤ x ∧ x ≤ 9223372036854775807) := by
    unfold iV at hv
    unfold iE at hr
    by_cases h1 : -9223372036854775808 ≤ x
    · by_cases h2 : x ≤ 9223372036854775807
      · rw [if_pos ⟨h1, h2⟩] at hv hr
        exact .inr (.inr ⟨by omega, by omega, by omega, by omega, h1, h2⟩)
      · rw [if_neg (fun h => h2 h.2)] at hv hr
        exact .inr (.inl ⟨by omega, by omega, by omega, by omega⟩)
    · rw [if_neg (fun h => h1 h.1)] at hv hr
      exact .inl ⟨by omega, by omega, by omega⟩
  have HP := Lib.hid hp
  have HM := Lib.hid hm
  have HX := Lib.hid (Ext.rf (w.alloc (.cells #[.bool p, .slice A m c] 69)))
  clear ha ha' hp1 hp2 hm1 hm2 hs1 hs2 hp hm hv hr hS1 hS2 hb1 hb2
  rcases hcase with ⟨h1, rfl, rfl⟩ | ⟨h1, h2, rfl, rfl⟩ | ⟨h1, h2, rfl, rfl, hx0, hx1⟩
  · go_enter Tryz.func48, Tryz.ntmps48
    go_wp2_with fail
    have q0 := boxN HX.out 0
    have q1 := boxN HX.out 1
    go_region_with (first
      | (go_at_call 45; (with_reducible refine (C1.out _).mono ?_); rintro e w5 ⟨O, oc, rfl, hO, hx⟩; (try (replace hx := hx.undrew)); have HO := Lib.hid hO; replace HX := Lib.hid (Ext.tr (h := HX.out) hx); clear hO hx q0 q1; have q0 := boxN HX.out 0; have q1 := boxN HX.out 1)
      | (go_at_call 45; (with_reducible refine (C2.out _).mono ?_); rintro e w5 ⟨O2, oc2, rfl, hO, hx⟩; (try (replace hx := hx.undrew)); have HO2 := Lib.hid hO; replace HX := Lib.hid (Ext.tr (h := HX.out) hx); clear hO hx q0 q1; have q0 := boxN HX.out 0; have q1 := boxN HX.out 1)
      | (go_at_call 52; (with_reducible refine (D1.out _ _ _ (HA.out.ext (x := Ext.tr (h := Ext.al _ _ _ (h := Ext.rf w)) HX.out)) HO.out).mono ?_); rintro e w6 ⟨rfl, hx⟩; replace HX := Lib.hid (Ext.tr (h := HX.out) hx); clear hx q0 q1; have q0 := boxN HX.out 0; have q1 := boxN HX.out 1)
      | (go_at_call 52; (with_reducible refine (D2.out _ _ _ (HA.out.ext (x := Ext.tr (h := Ext.al _ _ _ (h := Ext.rf w)) HX.out)) HO2.out).mono ?_); rintro e w6 ⟨rfl, hx⟩; replace HX := Lib.hid (Ext.tr (h := HX.out) hx); clear hx q0 q1; have q0 := boxN HX.out 0; have q1 := boxN HX.out 1))
    all_goals
      go_wp2_with fail
      go_ret2
      exact ⟨rfl, Ext.tr (h := Ext.al _ _ _ (h := Ext.rf w)) HX.out⟩
  · have g1 : decide (s1 < 0) = false := decide_eq_false h1
    go_enter Tryz.func48, Tryz.ntmps48
    go_wp2_with fail
    have q0 := boxN HX.out 0
    have q1 := boxN HX.out 1
    go_region_with (first
      | (go_at_call 45; (with_reducible refine (C1.out _).mono ?_); rintro e w5 ⟨O, oc, rfl, hO, hx⟩; (try (replace hx := hx.undrew)); have HO := Lib.hid hO; replace HX := Lib.hid (Ext.tr (h := HX.out) hx); clear hO hx q0 q1; have q0 := boxN HX.out 0; have q1 := boxN HX.out 1)
      | (go_at_call 45; (with_reducible refine (C2.out _).mono ?_); rintro e w5 ⟨O2, oc2, rfl, hO, hx⟩; (try (replace hx := hx.undrew)); have HO2 := Lib.hid hO; replace HX := Lib.hid (Ext.tr (h := HX.out) hx); clear hO hx q0 q1; have q0 := boxN HX.out 0; have q1 := boxN HX.out 1)
      | (go_at_call 52; (with_reducible refine (D1.out _ _ _ (HA.out.ext (x := Ext.tr (h := Ext.al _ _ _ (h := Ext.rf w)) HX.out)) HO.out).mono ?_); rintro e w6 ⟨rfl, hx⟩; replace HX := Lib.hid (Ext.tr (h := HX.out) hx); clear hx q0 q1; have q0 := boxN HX.out 0; have q1 := boxN HX.out 1)
      | (go_at_call 52; (with_reducible refine (D2.out _ _ _ (HA.out.ext (x := Ext.tr (h := Ext.al _ _ _ (h := Ext.rf w)) HX.out)) HO2.out).mono ?_); rintro e w6 ⟨rfl, hx⟩; replace HX := Lib.hid (Ext.tr (h := HX.out) hx); clear hx q0 q1; have q0 := boxN HX.out 0; have q1 := boxN HX.out 1))
    all_goals
      go_wp2_with fail
      go_ret2
      exact ⟨rfl, Ext.tr (h := Ext.al _ _ _ (h := Ext.rf w)) HX.out⟩
  · obtain ⟨N, hN⟩ : ∃ N, v.natAbs = N := ⟨_, rfl⟩
    have HN := Lib.hid hN
    have hv : v = if p then -(N : Int) else (N : Int) := by
      have := HP.out
      rcases Int.lt_or_le v 0 with h | h
      · rw [neg_true h] at this; rw [← this]; simp; omega
      · rw [neg_false h] at this; rw [← this]; simp; omega
    have HV := Lib.hid hv
    have hbn : ∀ k, N / B4 ^ k ≤ 9223372036854775808 := fun k => Nat.le_trans (Nat.div_le_self _ _) (by omega)
    have HBN := Lib.hid hbn
    have hp1 : p = false → N ≤ 9223372036854775807 := fun h => by rw [h] at hv; simp at hv; omega
    have HP1 := Lib.hid hp1
    clear hN hv hbn hp1 hx0 hx1
    have g1 : decide (s1 < 0) = false := decide_eq_false h1
    have g2 : decide (0 < s2) = false := decide_eq_false h2
    go_enter Tryz.func48, Tryz.ntmps48
    go_wp2_with fail
    have q0 := boxN HX.out 0
    have q1 := boxN HX.out 1
    go_region_with (first
      | (go_at_call 45; (with_reducible refine (C1.out _).mono ?_); rintro e w5 ⟨O, oc, rfl, hO, hx⟩; (try (replace hx := hx.undrew)); have HO := Lib.hid hO; replace HX := Lib.hid (Ext.tr (h := HX.out) hx); clear hO hx q0 q1; have q0 := boxN HX.out 0; have q1 := boxN HX.out 1)
      | (go_at_call 45; (with_reducible refine (C2.out _).mono ?_); rintro e w5 ⟨O2, oc2, rfl, hO, hx⟩; (try (replace hx := hx.undrew)); have HO2 := Lib.hid hO; replace HX := Lib.hid (Ext.tr (h := HX.out) hx); clear hO hx q0 q1; have q0 := boxN HX.out 0; have q1 := boxN HX.out 1)
      | (go_at_call 52; (with_reducible refine (D1.out _ _ _ (HA.out.ext (x := Ext.tr (h := Ext.al _ _ _ (h := Ext.rf w)) HX.out)) HO.out).mono ?_); rintro e w6 ⟨rfl, hx⟩; replace HX := Lib.hid (Ext.tr (h := HX.out) hx); clear hx q0 q1; have q0 := boxN HX.out 0; have q1 := boxN HX.out 1)
      | (go_at_call 52; (with_reducible refine (D2.out _ _ _ (HA.out.ext (x := Ext.tr (h := Ext.al _ _ _ (h := Ext.rf w)) HX.out)) HO2.out).mono ?_); rintro e w6 ⟨rfl, hx⟩; replace HX := Lib.hid (Ext.tr (h := HX.out) hx); clear hx q0 q1; have q0 := boxN HX.out 0; have q1 := boxN HX.out 1))
    all_goals
      go_wp2_with fail
      have HRW := Lib.hid (HA.out.ext (x := Ext.tr (h := Ext.al _ _ _ (h := Ext.rf w)) HX.out))
      rw [HN.out] at HRW HM
      have h00 : (0 : Int) = -((N / B4 ^ m : Nat) : Int) := by
        rw [Nat.div_eq_of_lt (by rw [← HM.out]; exact lt_pow_dl b42 N)]; rfl
      have H00 := Lib.hid h00
      clear h00
      go_loop [4, 5] (fun nv iv => ∃ (k : Nat) (u : Int), iv = .int .i64 ((k : Int) - 1) ∧ nv = .int .i64 u ∧ k ≤ m ∧ -9223372036854775808 ≤ u ∧ u ≤ 0 ∧ Hid (u = -((N / B4 ^ k : Nat) : Int))) (fun _ iv => ((intOf iv) + 1).toNat)
      case atStart => exact ⟨m, 0, rfl, rfl, Nat.le_refl _, by omega, by omega, H00⟩
      case round =>
        obtain ⟨k, u, rfl, rfl, hk, hu0, hu1, HU⟩ := hrel
        rcases Nat.eq_zero_or_pos k with hk0 | hk0
        · subst hk0
          have hu := HU.out
          rw [Nat.pow_zero, Nat.div_one] at hu
          have hvn := HV.out
          cases p
          · have hvu : -u = v := by simp at hvn; omega
            have hpn := HP1.out rfl
            have hb1 : -u ≤ 9223372036854775807 := by omega
            clear hu hvn hpn
            go_wp2_with fail
            go_ret2
            exact ⟨rfl, Ext.tr (h := Ext.al _ _ _ (h := Ext.rf w)) HX.out⟩
          · have hvu : u = v := by simp at hvn; omega
            clear hu hvn
            subst hvu
            go_wp2_with fail
            go_ret2
            exact ⟨rfl, Ext.tr (h := Ext.al _ _ _ (h := Ext.rf w)) HX.out⟩
        · obtain ⟨j, rfl⟩ : ∃ j, k = j + 1 := ⟨k - 1, by omega⟩
          obtain ⟨ad, hA, hca⟩ := (show Row _ _ _ _ _ from HRW.out).cell (by show 0 < dl B4 N; rw [HM.out]; omega)
          have h4 := hca j (by show j < dl B4 N; rw [HM.out]; omega)
          have hA' := q1
          rw [hA] at hA'
          have hgb : gn (digs B4 N) j < 10000 := gn_mem_lt (by have := b42; omega) (digs_lt b42 N) j
          have hst := @div_down N j
          have hub := HBN.out j
          have hu := HU.out
          obtain ⟨t, ht⟩ : ∃ t : Int, ((gn (digs B4 N) j : Nat) : Int) = t := ⟨_, rfl⟩
          rw [ht] at h4
          have ht0 : 0 ≤ t := by omega
          have ht1 : t < 10000 := by omega
          have hnew : u * 10000 - t = -((N / B4 ^ j : Nat) : Int) := by
            obtain ⟨a1, ea⟩ : ∃ a, N / B4 ^ (j + 1) = a := ⟨_, rfl⟩
            obtain ⟨a2, eb⟩ : ∃ a, N / B4 ^ j = a := ⟨_, rfl⟩
            obtain ⟨a3, ec⟩ : ∃ a, gn (digs B4 N) j = a := ⟨_, rfl⟩
            rw [ea] at hu
            rw [ea, eb, ec, B4_eq] at hst
            rw [ec] at ht
            rw [eb]
            omega
          have hn0 : -9223372036854775808 ≤ u * 10000 - t := by omega
          have HNEW := Lib.hid hnew
          have hq1 := q1
          clear hca hA' hgb hst hub hu ht hnew
          go_wp2_with fail
          exact ⟨⟨j, u * 10000 - t, by simp, rfl, by omega, by omega, by omega, HNEW⟩, by simp [intOf]⟩
end Go.Proofs.YtkmmkobiigddkaaGreatDoor
