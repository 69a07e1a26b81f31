import Derived.Test.YtkmmkobiigddkaaGreatDoorProg
import Derived.Test.YtkmmkobiigddkaaGreatDoorApiB
/-! The walks of package whole's exported functions: Gcd, Div, Pow, Root. -/
set_option linter.unusedVariables false
set_option linter.unusedSimpArgs false
set_option maxRecDepth 100000
namespace Go.Proofs.YtkmmkobiigddkaaGreatDoor
open Go.RowKit

def gcdz (x y : Int) : Int := ((Nat.gcd x.natAbs y.natAbs : Nat) : Int)
theorem nd_lt {m n k : Nat} (hk : 0 < k) (h : m ≤ n) (hn : Lib.nDigits n ≤ k) : Lib.nDigits m ≤ k :=
  (nDigits_le hk).2 (Nat.lt_of_le_of_lt h ((nDigits_le hk).1 hn))
theorem gcd_nd {x y : Int} (hx : Lib.nDigits x.natAbs ≤ 600) (hy : Lib.nDigits y.natAbs ≤ 600) : Lib.nDigits (gcdz x y).natAbs ≤ 600 := by
  unfold gcdz
  rw [Int.natAbs_natCast]
  rcases Nat.eq_zero_or_pos x.natAbs with h | h
  · rw [h, Nat.gcd_zero_left]; exact hy
  · exact nd_lt (by omega) (Nat.gcd_le_left _ h) hx
theorem field1 (b : Bool) (A : Option Addr) (n c : Nat) (w : World) : (Instr.field 63 (.agg #[.bool b, .slice A n c]) 1).run Tryz.prog w = .ok (.slice A n c) w := by kernel_rfl
set_option maxHeartbeats 1000000 in
theorem gcd_spec (s t : ByteArray) (w : World) [ht : Tab w] :
    Calls Tryz.prog 27 #[.string s, .string t] w (Ret w (.tuple #[.string (twoS gcdz s t), .int .i64 (twoE gcdz s t)])) := by
  rcases pz_or s with ⟨x, hx, hp⟩ | ⟨hx, hp⟩
  · have HX0 := Lib.hid hx
    have hdx := hx.dl
    rcases pz_or t with ⟨y, hy, hq⟩ | ⟨hy, hq⟩
    · rw [(two_some _ hp hq).1, (two_some _ hp hq).2]
      have HY0 := Lib.hid hy
      have hdy := hy.dl
      have hg6 := gcd_nd hx.2 hy.2
      obtain ⟨g, hg⟩ : ∃ g, Nat.gcd x.natAbs y.natAbs = g := ⟨_, rfl⟩
      have hgz : gcdz x y = (g : Int) := by unfold gcdz; rw [hg]
      rw [hgz] at hg6 ⊢
      have hgd := dl_600 hg6
      have HGN := Lib.hid (show ((g : Nat) : Int).natAbs = g from Int.natAbs_natCast _)
      have HGF := Lib.hid (neg_false (Int.natCast_nonneg g))
      have HG := Lib.hid hg
      have hfl := field1
      clear hx hp hy hq hg hgz hg6
      go_enter Tryz.func27, Tryz.ntmps27
      go_wp2_with fail
      refine (check_wh s x HX0.out _).mono ?_
      rintro e w' ⟨rfl, hx⟩
      have HX := Lib.hid hx
      clear hx
      go_wp2_with fail
      refine (check_wh t y HY0.out _).mono ?_
      rintro e w' ⟨rfl, hx⟩
      replace HX := Lib.hid (Ext.tr (h := HX.out) hx)
      clear hx
      go_wp2_with fail
      refine (read_spec s x HX0.out _).mono ?_
      rintro e w' ⟨A, c, rfl, hA, hx⟩
      have HA := Lib.hid hA
      clear hA
      replace HX := Lib.hid (Ext.tr (h := HX.out) hx)
      clear hx
      go_wp2_with fail
      refine (read_spec t y HY0.out _).mono ?_
      rintro e w' ⟨B, d, rfl, hB, hx⟩
      have HB := Lib.hid hB
      replace HA := Lib.hid (HA.out.ext (x := hx))
      clear hB
      replace HX := Lib.hid (Ext.tr (h := HX.out) hx)
      clear hx
      go_wp2_with fail
      refine (common_spec _ _ _ _ x.natAbs y.natAbs _ HA.out HB.out (by omega) (by omega)).mono ?_
      rintro e w' ⟨D, q, rfl, hD, hx⟩
      rw [HG.out] at hD ⊢
      have HD := Lib.hid hD
      clear hD
      have ht2 := ht.to (Ext.tr (h := HX.out) hx)
      replace HX := Lib.hid (Ext.tr (h := HX.out) hx)
      clear hx
      go_wp2_with fail
      have ct := told_spec D q (g : Int) _ (by rw [HGN.out]; exact HD.out) (by rw [HGN.out]; rw [HGN.out] at hgd; omega)
      rw [HGN.out, HGF.out] at ct
      refine (ct).mono ?_
      rintro e w' ⟨rfl, hx⟩
      rw [told_eq]
      replace HX := Lib.hid (Ext.tr (h := HX.out) hx)
      clear hx
      go_wp2_with fail
      go_ret2
      exact ⟨rfl, HX.out⟩
    · rw [(two_none2 _ s hq).1, (two_none2 _ s hq).2]
      have HY0 := Lib.hid hy
      clear hx hp hy hq
      go_enter Tryz.func27, Tryz.ntmps27
      go_wp2_with fail
      refine (check_wh s x HX0.out _).mono ?_
      rintro e w' ⟨rfl, hx⟩
      have HX := Lib.hid hx
      clear hx
      go_wp2_with fail
      refine (check_none t HY0.out _).mono ?_
      rintro e w' ⟨rfl, hx⟩
      replace HX := Lib.hid (Ext.tr (h := HX.out) hx)
      clear hx
      go_wp2_with fail
      go_ret2
      exact ⟨rfl, HX.out⟩
  · rw [(two_none1 _ t hp).1, (two_none1 _ t hp).2]
    have HX0 := Lib.hid hx
    clear hx hp
    go_enter Tryz.func27, Tryz.ntmps27
    go_wp2_with fail
    refine (check_none s HX0.out _).mono ?_
    rintro e w' ⟨rfl, hx⟩
    have HX := Lib.hid hx
    clear hx
    go_wp2_with fail
    go_ret2
    exact ⟨rfl, HX.out⟩

noncomputable def powS (s : ByteArray) (n : Int) : ByteArray := match pz s with | some x => if n < 0 ∨ 40 < n then ⟨#[]⟩ else tS (x ^ n.toNat) | none => ⟨#[]⟩
noncomputable def powE (s : ByteArray) (n : Int) : Int := match pz s with | some x => if n < 0 ∨ 40 < n then 2 else tE (x ^ n.toNat) | none => 10
theorem natAbs_pow (x : Int) (k : Nat) : (x ^ k).natAbs = x.natAbs ^ k := Int.natAbs_pow x k
theorem pow_neg_sign (x : Int) (k : Nat) : neg (x ^ k) = (neg x && decide (k % 2 = 1)) := by
  have step : ∀ j, x ^ (2 * j) = (x ^ j) * (x ^ j) := fun j => by rw [show 2 * j = j + j by omega, Int.pow_add]
  have hsq : ∀ j, 0 ≤ x ^ (2 * j) := fun j => by rw [step, ← Int.natAbs_mul_self]; exact Int.natCast_nonneg _
  rcases Nat.mod_two_eq_zero_or_one k with h | h
  · obtain ⟨j, rfl⟩ : ∃ j, k = 2 * j := ⟨k / 2, by omega⟩
    rw [neg_false (hsq j)]
    have : ¬ (2 * j) % 2 = 1 := by omega
    simp [this]
  · obtain ⟨j, rfl⟩ : ∃ j, k = 2 * j + 1 := ⟨k / 2, by omega⟩
    have h1 : (2 * j + 1) % 2 = 1 := by omega
    rw [decide_eq_true h1, Bool.and_true, Int.pow_succ]
    rcases Int.lt_or_le x 0 with hx | hx
    · rw [neg_true hx]
      have : 0 < x ^ (2 * j) := by
        have h2 := hsq j
        have h3 : x ^ (2 * j) ≠ 0 := Int.pow_ne_zero (by omega)
        omega
      exact neg_true (Int.mul_neg_of_pos_of_neg this hx)
    · rw [neg_false hx]; exact neg_false (Int.mul_nonneg (hsq j) hx)
set_option maxHeartbeats 1000000 in
theorem pow_spec (s : ByteArray) (n : Int) (w : World) [ht : Tab w] :
    Calls Tryz.prog 30 #[.string s, .int .i64 n] w (Ret w (.tuple #[.string (powS s n), .int .i64 (powE s n)])) := by
  unfold powS powE
  rcases pz_or s with ⟨x, hx, hp⟩ | ⟨hx, hp⟩
  · rw [hp]
    have HX0 := Lib.hid hx
    have hdx := hx.dl
    show Calls _ _ _ _ (Ret w (.tuple #[.string (if n < 0 ∨ 40 < n then ⟨#[]⟩ else tS (x ^ n.toNat)), .int .i64 (if n < 0 ∨ 40 < n then 2 else tE (x ^ n.toNat))]))
    by_cases hn : n < 0
    · rw [if_pos (.inl hn), if_pos (.inl hn)]
      clear hx hp
      go_enter Tryz.func30, Tryz.ntmps30
      go_wp2_with fail
      refine (check_wh s x HX0.out _).mono ?_
      rintro e w' ⟨rfl, hx⟩
      have HX := Lib.hid hx
      clear hx
      go_wp2_with fail
      go_ret2
      exact ⟨rfl, HX.out⟩
    · by_cases hn4 : 40 < n
      · rw [if_pos (.inr hn4), if_pos (.inr hn4)]
        clear hx hp
        go_enter Tryz.func30, Tryz.ntmps30
        go_wp2_with fail
        refine (check_wh s x HX0.out _).mono ?_
        rintro e w' ⟨rfl, hx⟩
        have HX := Lib.hid hx
        clear hx
        go_wp2_with fail
        go_ret2
        exact ⟨rfl, HX.out⟩
      · rw [if_neg (by omega), if_neg (by omega)]
        obtain ⟨k, rfl⟩ : ∃ k : Nat, n = k := ⟨n.toNat, by omega⟩
        rw [Int.toNat_natCast]
        obtain ⟨u, hu⟩ : ∃ u, x ^ k = u := ⟨_, rfl⟩
        have hua : u.natAbs = x.natAbs ^ k := by rw [← hu, natAbs_pow]
        have hus : neg u = (neg x && decide (k % 2 = 1)) := by rw [← hu, pow_neg_sign]
        rw [hu]
        have hk : k ≤ 40 := by omega
        have hkd : k * dl Big x.natAbs ≤ 40 * 600 := Nat.mul_le_mul hk hdx
        have hud : dl Big u.natAbs ≤ 24001 := by rw [hua]; have := dl_pow big2 x.natAbs k; omega
        have HUA := Lib.hid hua
        clear hx hp hu hua
        have hk2 : (k : Int) % 2 = ((k % 2 : Nat) : Int) := by omega
        rcases Nat.mod_two_eq_zero_or_one k with h2 | h2
        all_goals
          rw [h2] at hk2
          have hb2 : ((k : Int) % 2 == 1) = decide (k % 2 = 1) := by rw [hk2, h2]; rfl
          rw [h2] at hb2 hus
          have HUS := Lib.hid hus
          clear hus h2 hk2
          rcases Int.lt_or_le x 0 with h3 | h3
          all_goals
            first | rw [neg_true h3] at HUS | rw [neg_false h3] at HUS
            have HN3 : Hid (neg x = decide (x < 0)) := Lib.hid rfl
            go_enter Tryz.func30, Tryz.ntmps30
            go_wp2_with fail
            refine (check_wh s x HX0.out _).mono ?_
            rintro e w' ⟨rfl, hx⟩
            have HX := Lib.hid hx
            clear hx
            go_wp2_with fail
            refine (read_spec s x HX0.out _).mono ?_
            rintro e w' ⟨A, c, rfl, hA, hx⟩
            first | rw [neg_true h3] | rw [neg_false h3]
            have HA := Lib.hid hA
            clear hA
            replace HX := Lib.hid (Ext.tr (h := HX.out) hx)
            obtain ⟨hc, hf, hs⟩ := hx.cells
            clear hx
            go_wp2_with fail
            refine (raised_spec _ _ x.natAbs k _ HA.out.ext (by omega) (by omega) (by omega)).mono ?_
            rintro e w5 ⟨D, q, rfl, hD, hx⟩
            rw [← HUA.out] at hD ⊢
            have HD := Lib.hid hD
            have hx5 := Ext.tr (h := HX.out) (Ext.tr (h := inferInstance) hx)
            have ht5 := ht.to hx5
            replace HX := Lib.hid hx5
            clear hx hD hx5 hc hf hs
            go_wp2_with fail
            have hus2 := HUS.out
            simp only [Bool.true_and, Bool.false_and] at hus2
            first | rw [decide_eq_false (show ¬ (0 : Nat) = 1 by omega)] at hus2 | rw [decide_eq_true (show (1 : Nat) = 1 from rfl)] at hus2 | skip
            have ct := told_spec D q u _ HD.out (by omega)
            rw [hus2] at ct
            clear hus2
            refine ct.mono ?_
            rintro e w6 ⟨rfl, hx⟩
            rw [told_eq]
            replace HX := Lib.hid (Ext.tr (h := HX.out) hx)
            clear hx
            go_wp2_with fail
            go_ret2
            exact ⟨rfl, HX.out⟩
  · rw [hp]
    have HX0 := Lib.hid hx
    clear hx hp
    go_enter Tryz.func30, Tryz.ntmps30
    go_wp2_with fail
    refine (check_none s HX0.out _).mono ?_
    rintro e w' ⟨rfl, hx⟩
    have HX := Lib.hid hx
    clear hx
    go_wp2_with fail
    go_ret2
    exact ⟨rfl, HX.out⟩
end Go.Proofs.YtkmmkobiigddkaaGreatDoor
