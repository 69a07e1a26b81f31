import Derived.Test.YtkmmkobiigddkaaGreatDoorProg
import Derived.Test.YtkmmkobiigddkaaGreatDoorLawD
/-! The walk of the laws of divisors. -/
set_option linter.unusedVariables false
set_option linter.unusedSimpArgs false
set_option maxRecDepth 100000
namespace Go.Proofs.YtkmmkobiigddkaaGreatDoor
open Go.RowKit

theorem gcdz_dvd (x y : Int) : gcdz x y ∣ x ∧ gcdz x y ∣ y := ⟨Int.gcd_dvd_left .., Int.gcd_dvd_right ..⟩
theorem gcdz_zero {x y : Int} (h : gcdz x y = 0) : x = 0 ∧ y = 0 := by
  have h1 : Nat.gcd x.natAbs y.natAbs = 0 := by unfold gcdz at h; omega
  have := Nat.gcd_eq_zero_iff.1 h1
  omega
theorem gcdz_one {x y : Int} (h : gcdz x y ≠ 0) : gcdz (x / gcdz x y) (y / gcdz x y) = 1 := by
  have h0 : 0 < Int.gcd x y := Nat.pos_of_ne_zero (fun e => h (by show ((Int.gcd x y : Nat) : Int) = 0; omega))
  show ((Int.gcd (x / ((Int.gcd x y : Nat) : Int)) (y / ((Int.gcd x y : Nat) : Int)) : Nat) : Int) = 1
  rw [Int.gcd_ediv_gcd_ediv_gcd h0]; rfl
theorem gcd_nd2 {x y : Int} {k : Nat} (hx : Lib.nDigits x.natAbs ≤ k) (hy : Lib.nDigits y.natAbs ≤ k) : Lib.nDigits (gcdz x y).natAbs ≤ k := by
  by_cases h : x = 0
  · refine nd_le (y := y) ?_ hy
    subst h
    unfold gcdz
    rw [Int.natAbs_natCast, Int.natAbs_zero, Nat.gcd_zero_left]
    exact Nat.le_refl _
  · refine nd_le (y := x) ?_ hx
    unfold gcdz
    rw [Int.natAbs_natCast]
    exact Nat.le_of_dvd (by omega) (Nat.gcd_dvd_left _ _)
theorem gcdz_mul (x y z : Int) : gcdz (x * z) (y * z) = ((((gcdz x y) * z).natAbs : Nat) : Int) := by
  unfold gcdz
  rw [Int.natAbs_mul, Int.natAbs_mul, Int.natAbs_mul, Nat.gcd_mul_right, Int.natAbs_natCast]

set_option maxHeartbeats 4000000 in
theorem divides_walk (b b' b2 : Bool) (G G' G2 : Option Addr) (gc gc' gc2 z z' z2 : Nat) (L L' L2 : List Nat) (w : World) [ht : Tab w] [he : Errs w] (hG : Row w .u16 G gc L) (hL : ∀ x ∈ L, x < 65536) (hz : z < 65536) (hG' : Row w .u16 G' gc' L') (hL' : ∀ x ∈ L', x < 65536) (hz' : z' < 65536) (hG2 : Row w .u16 G2 gc2 L2) (hL2 : ∀ x ∈ L2, x < 65536) (hz2 : z2 < 65536) :
    Calls Tryz.prog 5 #[.agg #[.bool b, .slice G L.length gc, .int .u16 (z : Int)], .agg #[.bool b', .slice G' L'.length gc', .int .u16 (z' : Int)], .agg #[.bool b2, .slice G2 L2.length gc2, .int .u16 (z2 : Int)]] w (Ret w (.bool true)) := by
  have HG := Lib.hid hG
  have HL := Lib.hid hL
  obtain ⟨X, hv⟩ : ∃ X, dz b L (z % 150) = X := ⟨_, rfl⟩
  have ndX := short_nd b L z
  rw [hv] at ndX
  obtain ⟨SA, hSA⟩ : ∃ S, txt X = S := ⟨_, rfl⟩
  have whX : Wh SA X := hSA ▸ txt_wh (by omega)
  have CX := Lib.hid (fun (w : World) (hr : Row w .u16 G gc L) => (by have h := short_spec b G gc z L w hr HL.out hz; rw [hv, hSA] at h; exact h : Calls _ _ _ w (Ret w (.string SA))))
  have HG' := Lib.hid hG'
  have HL' := Lib.hid hL'
  obtain ⟨Y, hv'⟩ : ∃ Y, dz b' L' (z' % 150) = Y := ⟨_, rfl⟩
  have ndY := short_nd b' L' z'
  rw [hv'] at ndY
  obtain ⟨SB, hSB⟩ : ∃ S, txt Y = S := ⟨_, rfl⟩
  have whY : Wh SB Y := hSB ▸ txt_wh (by omega)
  have CY := Lib.hid (fun (w : World) (hr : Row w .u16 G' gc' L') => (by have h := short_spec b' G' gc' z' L' w hr HL'.out hz'; rw [hv', hSB] at h; exact h : Calls _ _ _ w (Ret w (.string SB))))
  have HG2 := Lib.hid hG2
  have HL2 := Lib.hid hL2
  obtain ⟨Z, hv2⟩ : ∃ Z, dz b2 L2 (z2 % 150) = Z := ⟨_, rfl⟩
  have ndZ := short_nd b2 L2 z2
  rw [hv2] at ndZ
  obtain ⟨SC, hSC⟩ : ∃ S, txt Z = S := ⟨_, rfl⟩
  have whZ : Wh SC Z := hSC ▸ txt_wh (by omega)
  have CZ := Lib.hid (fun (w : World) (hr : Row w .u16 G2 gc2 L2) => (by have h := short_spec b2 G2 gc2 z2 L2 w hr HL2.out hz2; rw [hv2, hSC] at h; exact h : Calls _ _ _ w (Ret w (.string SC))))
  have hgd := gcdz_dvd X Y
  have hgz := @gcdz_zero X Y
  have hg1 := @gcdz_one X Y
  have hgm := gcdz_mul X Y Z
  have hz0 := zero_text whX; have hz1 := zero_text whY
  obtain ⟨K, eK⟩ : ∃ z, gcdz X Y = z := ⟨_, rfl⟩
  have ndK : Lib.nDigits K.natAbs ≤ 185 := eK ▸ gcd_nd2 ndX ndY
  obtain ⟨SK, hSK⟩ : ∃ S, txt K = S := ⟨_, rfl⟩
  have whK : Wh SK K := hSK ▸ txt_wh (by omega)
  rw [eK] at hgd hgz hg1 hgm
  have F1 := Lib.hid (wh_two (f := gcdz) whX whY eK (by omega))
  have hz2 := zero_text whK
  have wh0 : Wh ⟨#[48]⟩ 0 := ⟨by kernel_rfl, by rw [Lib.nDigits_small (by decide)]; omega⟩
  have wh1 : Wh ⟨#[49]⟩ 1 := ⟨by kernel_rfl, by rw [Lib.nDigits_small (by decide)]; omega⟩
  obtain ⟨P, eP⟩ : ∃ z, X / K = z := ⟨_, rfl⟩
  have ndP : Lib.nDigits P.natAbs ≤ 185 := eP ▸ nd_le (ediv_le X K) ndX
  obtain ⟨SP, hSP⟩ : ∃ S, txt P = S := ⟨_, rfl⟩
  have whP : Wh SP P := hSP ▸ txt_wh (by omega)
  obtain ⟨Q, eQ⟩ : ∃ z, Y / K = z := ⟨_, rfl⟩
  have ndQ : Lib.nDigits Q.natAbs ≤ 185 := eQ ▸ nd_le (ediv_le Y K) ndY
  obtain ⟨SQ, hSQ⟩ : ∃ S, txt Q = S := ⟨_, rfl⟩
  have whQ : Wh SQ Q := hSQ ▸ txt_wh (by omega)
  rw [eP, eQ] at hg1
  have F2 := Lib.hid (fun h0 : K ≠ 0 => wh_div whX whK h0 eP (Int.emod_eq_zero_of_dvd hgd.1))
  have F3 := Lib.hid (fun h0 : K ≠ 0 => wh_div whY whK h0 eQ (Int.emod_eq_zero_of_dvd hgd.2))
  have F4 := Lib.hid (fun h0 : K ≠ 0 => wh_two (f := gcdz) whP whQ (hg1 h0) (by rw [Lib.nDigits_small (by decide)]; omega))
  obtain ⟨M, eM⟩ : ∃ z, X * Z = z := ⟨_, rfl⟩
  have ndM : Lib.nDigits M.natAbs ≤ 370 := eM ▸ nd_mul (by omega) (by omega) ndX ndZ
  obtain ⟨SM, hSM⟩ : ∃ S, txt M = S := ⟨_, rfl⟩
  have whM : Wh SM M := hSM ▸ txt_wh (by omega)
  obtain ⟨N, eN⟩ : ∃ z, Y * Z = z := ⟨_, rfl⟩
  have ndN : Lib.nDigits N.natAbs ≤ 370 := eN ▸ nd_mul (by omega) (by omega) ndY ndZ
  obtain ⟨SN, hSN⟩ : ∃ S, txt N = S := ⟨_, rfl⟩
  have whN : Wh SN N := hSN ▸ txt_wh (by omega)
  obtain ⟨U, eU⟩ : ∃ z, K * Z = z := ⟨_, rfl⟩
  have ndU : Lib.nDigits U.natAbs ≤ 370 := eU ▸ nd_mul (by omega) (by omega) ndK ndZ
  obtain ⟨SU, hSU⟩ : ∃ S, txt U = S := ⟨_, rfl⟩
  have whU : Wh SU U := hSU ▸ txt_wh (by omega)
  obtain ⟨W, eW⟩ : ∃ z, ((U.natAbs : Nat) : Int) = z := ⟨_, rfl⟩
  have ndW : Lib.nDigits W.natAbs ≤ 370 := eW ▸ (by rw [nd_abs]; exact ndU)
  obtain ⟨SW, hSW⟩ : ∃ S, txt W = S := ⟨_, rfl⟩
  have whW : Wh SW W := hSW ▸ txt_wh (by omega)
  rw [eM, eN, eU, eW] at hgm
  have F5 := Lib.hid (wh_two (f := (· * ·)) whX whZ eM (by omega))
  have F6 := Lib.hid (wh_two (f := (· * ·)) whY whZ eN (by omega))
  have F7 := Lib.hid (wh_two (f := gcdz) whM whN hgm (by omega))
  have F8 := Lib.hid (wh_two (f := (· * ·)) whK whZ eU (by omega))
  have F9 := Lib.hid (wh_one (f := fun z => ((z.natAbs : Nat) : Int)) whU eW (by omega))
  rw [hSK] at F1; rw [hSP, show txt 0 = ⟨#[48]⟩ from wh0.1.symm] at F2; rw [hSQ, show txt 0 = ⟨#[48]⟩ from wh0.1.symm] at F3; rw [show txt 1 = ⟨#[49]⟩ from wh1.1.symm] at F4; rw [hSM] at F5; rw [hSN] at F6; rw [hSW] at F7; rw [hSU] at F8; rw [hSW] at F9
  clear hgd hg1 hgm hG hL hv hG' hL' hv' hG2 hL2 hv2 ndX ndY ndZ ndK ndP ndQ ndM ndN ndU ndW whX whY whZ whK whP whQ whM whN whU whW wh0 wh1 hSA hSB hSC hSK hSP hSQ hSM hSN hSU hSW eK eP eQ eM eN eU eW
  go_enter Tryz.func5, Tryz.ntmps5
  go_wp2_with fail
  have hb0 : Ext w (((w.alloc (.cells #[.bool b, .slice G L.length gc, .int .u16 (z : Int)] 25)).alloc (.cells #[.bool b', .slice G' L'.length gc', .int .u16 (z' : Int)] 25)).alloc (.cells #[.bool b2, .slice G2 L2.length gc2, .int .u16 (z2 : Int)] 25)) := inferInstance
  have HB := Lib.hid hb0
  have ht0 := ht.to hb0
  have he0 := he.to hb0
  refine (works_spec _).mono ?_
  rintro e w0 ⟨rfl, hx⟩
  obtain ⟨⟨q0, q1, q2⟩, ⟨q3, q4, q5⟩, q6, q7, q8⟩ := boxT hx
  have HX := Lib.hid hx
  clear hx ht0 he0 hb0
  go_wp2_with fail
  go_region_held3 (fun w' => (w'.cell? ⟨w.heap.size, 0, none⟩ = some (.bool b) ∧ w'.cell? ⟨w.heap.size, 1, none⟩ = some (.slice G L.length gc) ∧ w'.cell? ⟨w.heap.size, 2, none⟩ = some (.int .u16 (z : Int))) ∧ (w'.cell? ⟨w.heap.size + 1, 0, none⟩ = some (.bool b') ∧ w'.cell? ⟨w.heap.size + 1, 1, none⟩ = some (.slice G' L'.length gc') ∧ w'.cell? ⟨w.heap.size + 1, 2, none⟩ = some (.int .u16 (z' : Int))) ∧ (w'.cell? ⟨w.heap.size + 2, 0, none⟩ = some (.bool b2) ∧ w'.cell? ⟨w.heap.size + 2, 1, none⟩ = some (.slice G2 L2.length gc2) ∧ w'.cell? ⟨w.heap.size + 2, 2, none⟩ = some (.int .u16 (z2 : Int)))) (go_keep) (first
    | (go_at_call 21; (with_reducible refine (CX.out _ (by exact (HG.out.ext (x := Ext.tr (h := HB.out) HX.out)).ext)).mono ?_); rintro e w5 ⟨rfl, hx⟩; (try (replace hx := hx.undrew)); replace HX := Lib.hid (Ext.tr (h := HX.out) hx); clear hx q0 q1 q2 q3 q4 q5 q6 q7 q8; obtain ⟨⟨q0, q1, q2⟩, ⟨q3, q4, q5⟩, q6, q7, q8⟩ := boxT HX.out)
    | (go_at_call 21; (with_reducible refine (CY.out _ (by exact (HG'.out.ext (x := Ext.tr (h := HB.out) HX.out)).ext)).mono ?_); rintro e w5 ⟨rfl, hx⟩; (try (replace hx := hx.undrew)); replace HX := Lib.hid (Ext.tr (h := HX.out) hx); clear hx q0 q1 q2 q3 q4 q5 q6 q7 q8; obtain ⟨⟨q0, q1, q2⟩, ⟨q3, q4, q5⟩, q6, q7, q8⟩ := boxT HX.out)
    | (go_at_call 21; (with_reducible refine (CZ.out _ (by exact (HG2.out.ext (x := Ext.tr (h := HB.out) HX.out)).ext)).mono ?_); rintro e w5 ⟨rfl, hx⟩; (try (replace hx := hx.undrew)); replace HX := Lib.hid (Ext.tr (h := HX.out) hx); clear hx q0 q1 q2 q3 q4 q5 q6 q7 q8; obtain ⟨⟨q0, q1, q2⟩, ⟨q3, q4, q5⟩, q6, q7, q8⟩ := boxT HX.out))
  all_goals
    clear q0 q1 q2 q3 q4 q5 q6 q7 q8
    replace HX := Lib.hid (Ext.tr (h := HB.out) HX.out)
    go_wp2_with fail
    have ht1 := ht.to HX.out
    refine (gcd_spec SA SB _).mono ?_
    rintro e w1 ⟨rfl, hx⟩
    rw [F1.out.1, F1.out.2]
    clear ht1
    replace HX := Lib.hid (Ext.tr (h := HX.out) hx); clear hx
    by_cases h0 : K = 0
    · have hz2' : (SK.toList == [48]) = true := hz2.trans (decide_eq_true h0)
      have hz0' : (SA.toList == [48]) = true := hz0.trans (decide_eq_true (hgz h0).1)
      have hz1' : (SB.toList == [48]) = true := hz1.trans (decide_eq_true (hgz h0).2)
      clear hz0 hz1 hz2 h0 hgz
      go_wp2_with fail
      go_ret
      exact ⟨rfl, HX.out⟩
    have hz2' : (SK.toList == [48]) = false := hz2.trans (decide_eq_false h0)
    replace F2 := Lib.hid (F2.out h0); replace F3 := Lib.hid (F3.out h0); replace F4 := Lib.hid (F4.out h0)
    clear hz0 hz1 hz2 h0 hgz
    go_wp2_with fail
    have ht2 := ht.to HX.out
    refine (div_spec SA SK _).mono ?_
    rintro e w2 ⟨rfl, hx⟩
    rw [F2.out.1, F2.out.2.1, F2.out.2.2]
    clear ht2
    replace HX := Lib.hid (Ext.tr (h := HX.out) hx); clear hx
    go_wp2_with fail
    have ht3 := ht.to HX.out
    refine (div_spec SB SK _).mono ?_
    rintro e w3 ⟨rfl, hx⟩
    rw [F3.out.1, F3.out.2.1, F3.out.2.2]
    clear ht3
    replace HX := Lib.hid (Ext.tr (h := HX.out) hx); clear hx
    go_wp2_with fail
    have ht4 := ht.to HX.out
    refine (gcd_spec SP SQ _).mono ?_
    rintro e w4 ⟨rfl, hx⟩
    rw [F4.out.1, F4.out.2]
    clear ht4
    replace HX := Lib.hid (Ext.tr (h := HX.out) hx); clear hx
    go_wp2_with fail
    have ht5 := ht.to HX.out
    refine (mulw_spec SA SC _).mono ?_
    rintro e w5 ⟨rfl, hx⟩
    rw [F5.out.1, F5.out.2]
    clear ht5
    replace HX := Lib.hid (Ext.tr (h := HX.out) hx); clear hx
    go_wp2_with fail
    have ht6 := ht.to HX.out
    refine (mulw_spec SB SC _).mono ?_
    rintro e w6 ⟨rfl, hx⟩
    rw [F6.out.1, F6.out.2]
    clear ht6
    replace HX := Lib.hid (Ext.tr (h := HX.out) hx); clear hx
    go_wp2_with fail
    have ht7 := ht.to HX.out
    refine (gcd_spec SM SN _).mono ?_
    rintro e w7 ⟨rfl, hx⟩
    rw [F7.out.1, F7.out.2]
    clear ht7
    replace HX := Lib.hid (Ext.tr (h := HX.out) hx); clear hx
    go_wp2_with fail
    have ht8 := ht.to HX.out
    refine (mulw_spec SK SC _).mono ?_
    rintro e w8 ⟨rfl, hx⟩
    rw [F8.out.1, F8.out.2]
    clear ht8
    replace HX := Lib.hid (Ext.tr (h := HX.out) hx); clear hx
    go_wp2_with fail
    refine (abs_spec SU _).mono ?_
    rintro e w9 ⟨rfl, hx⟩
    rw [F9.out.1, F9.out.2]
    replace HX := Lib.hid (Ext.tr (h := HX.out) hx); clear hx
    go_wp2_with fail
    go_ret
    exact ⟨rfl, HX.out⟩
end Go.Proofs.YtkmmkobiigddkaaGreatDoor
