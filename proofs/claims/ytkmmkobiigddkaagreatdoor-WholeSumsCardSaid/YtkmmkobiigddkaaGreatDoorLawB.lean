import Derived.Test.YtkmmkobiigddkaaGreatDoorProg
import Derived.Test.YtkmmkobiigddkaaGreatDoorLawA
/-! The walk of the examples. -/
set_option linter.unusedVariables false
set_option linter.unusedSimpArgs false
set_option maxRecDepth 100000
namespace Go.Proofs.YtkmmkobiigddkaaGreatDoor
open Go.RowKit

theorem int_ok {l : List UInt8} (h : goodB l = true) {z : Int} (hz : zval l = z) (h0 : -9223372036854775808 ≤ z) (h1 : z ≤ 9223372036854775807) : intV (bs l) = z ∧ intE (bs l) = 0 := by
  unfold intV intE
  rw [pz_some (wh_lit h), hz]
  exact ⟨if_pos ⟨h0, h1⟩, if_pos ⟨h0, h1⟩⟩
theorem int_big {l : List UInt8} (h : goodB l = true) {z : Int} (hz : zval l = z) (h1 : 9223372036854775807 < z) : intV (bs l) = 0 ∧ intE (bs l) = 6 := by
  unfold intV intE
  rw [pz_some (wh_lit h), hz]
  exact ⟨if_neg (by omega), if_neg (by omega)⟩
theorem litdiv {s t q r : List UInt8} (hs : goodB s = true) (ht : goodB t = true) (hq : goodB q = true) (hr : goodB r = true) (h0 : zval t ≠ 0) (h1 : zval q = zval s / zval t) (h2 : zval r = zval s % zval t) :
    divQ (bs s) (bs t) = bs q ∧ divR (bs s) (bs t) = bs r ∧ divE (bs s) (bs t) = 0 := by
  unfold divQ divR divE
  rw [pz_some (wh_lit hs), pz_some (wh_lit ht)]
  simp only [if_neg h0, ← h1, ← h2]
  exact ⟨(wh_lit hq).1.symm, (wh_lit hr).1.symm, by trivial⟩
theorem litzero {s t : List UInt8} (hs : goodB s = true) (ht : goodB t = true) (h0 : zval t = 0) :
    divQ (bs s) (bs t) = ⟨#[]⟩ ∧ divR (bs s) (bs t) = ⟨#[]⟩ ∧ divE (bs s) (bs t) = 7 := by
  unfold divQ divR divE
  rw [pz_some (wh_lit hs), pz_some (wh_lit ht)]
  simp only [if_pos h0]
  exact ⟨by trivial, by trivial, by trivial⟩
theorem litcmp {s t : List UInt8} {v : Int} (hs : goodB s = true) (ht : goodB t = true) (h0 : (zval s - zval t).sign = v) : cmpV (bs s) (bs t) = v ∧ cmpE (bs s) (bs t) = 0 := by
  unfold cmpV cmpE
  rw [pz_some (wh_lit hs), pz_some (wh_lit ht)]
  exact ⟨h0, rfl⟩
theorem litpow {s r : List UInt8} {k : Int} (hs : goodB s = true) (hr : goodB r = true) (h0 : 0 ≤ k) (h1 : k ≤ 40) (h : zval r = zval s ^ k.toNat) : powS (bs s) k = bs r ∧ powE (bs s) k = 0 := by
  unfold powS powE
  rw [pz_some (wh_lit hs)]
  simp only [if_neg (show ¬ (k < 0 ∨ 40 < k) by omega)]
  exact told_lit hr h
theorem litpow2 {s : List UInt8} {k : Int} (hs : goodB s = true) (h : k < 0 ∨ 40 < k) : powS (bs s) k = ⟨#[]⟩ ∧ powE (bs s) k = 2 := by
  unfold powS powE
  rw [pz_some (wh_lit hs)]
  exact ⟨if_pos h, if_pos h⟩
theorem litroot {s r : List UInt8} {k : Int} {n : Nat} (hs : goodB s = true) (hr : goodB r = true) (h0 : 1 ≤ k) (h1 : k ≤ 12) (h2 : ¬ zval s < 0) (h3 : n ^ k.toNat ≤ (zval s).natAbs) (h4 : (zval s).natAbs < (n + 1) ^ k.toNat) (h5 : zval r = (n : Int)) : rootS (bs s) k = bs r ∧ rootE (bs s) k = 0 := by
  unfold rootS rootE
  rw [pz_some (wh_lit hs)]
  simp only [if_neg (show ¬ (k < 1 ∨ 12 < k ∨ zval s < 0) by omega)]
  rw [iroot_eq (by omega) (⟨h3, h4⟩ : IsRoot k.toNat (zval s).natAbs n), ← h5]
  exact ⟨(wh_lit hr).1.symm, by trivial⟩
theorem litroot2 {s : List UInt8} {k : Int} (hs : goodB s = true) (h : k < 1 ∨ 12 < k ∨ zval s < 0) : rootS (bs s) k = ⟨#[]⟩ ∧ rootE (bs s) k = 2 := by
  unfold rootS rootE
  rw [pz_some (wh_lit hs)]
  exact ⟨if_pos h, if_pos h⟩

set_option maxHeartbeats 8000000 in
theorem works_spec (w : World) [ht : Tab w] [he : Errs w] :
    Calls Tryz.prog 9 #[] w (Ret w (.bool true)) := by
  have HX := Lib.hid (Ext.rf w)
  go_enter Tryz.func9, Tryz.ntmps9
  go_wp2_with fail
  have ht1 := ht.to HX.out
  refine (check_none _ (none_lit (l := [48, 49, 55]) (by kernel_rfl)) _).mono ?_
  rintro e w1 ⟨rfl, hx⟩
  clear ht1
  replace HX := Lib.hid (Ext.tr (h := HX.out) hx); clear hx
  go_wp2_with fail
  have ht2 := ht.to HX.out
  refine (check_none _ (none_lit (l := [45, 48]) (by kernel_rfl)) _).mono ?_
  rintro e w2 ⟨rfl, hx⟩
  clear ht2
  replace HX := Lib.hid (Ext.tr (h := HX.out) hx); clear hx
  go_wp2_with fail
  have ht3 := ht.to HX.out
  refine (check_none _ (none_lit (l := []) (by kernel_rfl)) _).mono ?_
  rintro e w3 ⟨rfl, hx⟩
  clear ht3
  replace HX := Lib.hid (Ext.tr (h := HX.out) hx); clear hx
  go_wp2_with fail
  have ht4 := ht.to HX.out
  refine (check_wh _ _ (wh_lit (l := [45, 49, 55]) (by kernel_rfl)) _).mono ?_
  rintro e w4 ⟨rfl, hx⟩
  clear ht4
  replace HX := Lib.hid (Ext.tr (h := HX.out) hx); clear hx
  go_wp2_with fail
  have ht5 := ht.to HX.out
  refine (of_spec (-9223372036854775808) (by omega) (by omega) _).mono ?_
  rintro e w5 ⟨rfl, hx⟩
  rw [show txt (-9223372036854775808) = ⟨#[45, 57, 50, 50, 51, 51, 55, 50, 48, 51, 54, 56, 53, 52, 55, 55, 53, 56, 48, 56]⟩ from (wh_lit (l := [45, 57, 50, 50, 51, 51, 55, 50, 48, 51, 54, 56, 53, 52, 55, 55, 53, 56, 48, 56]) (by kernel_rfl)).1.symm]
  clear ht5
  replace HX := Lib.hid (Ext.tr (h := HX.out) hx); clear hx
  go_wp2_with fail
  have ht6 := ht.to HX.out
  refine (says_spec (-9223372036854775808) _).mono ?_
  rintro e w6 ⟨g, rfl, hcl, hx⟩
  clear ht6
  replace HX := Lib.hid (Ext.tr (h := HX.out) hx); clear hx
  go_wp2_with fail
  have ht7 := ht.to HX.out
  have he7 := he.to HX.out
  refine (int_spec ⟨#[45, 57, 50, 50, 51, 51, 55, 50, 48, 51, 54, 56, 53, 52, 55, 55, 53, 56, 48, 56]⟩ _).mono ?_
  rintro e w7 ⟨rfl, hx⟩
  rw [show intV ⟨#[45, 57, 50, 50, 51, 51, 55, 50, 48, 51, 54, 56, 53, 52, 55, 55, 53, 56, 48, 56]⟩ = (-9223372036854775808) from (int_ok (l := [45, 57, 50, 50, 51, 51, 55, 50, 48, 51, 54, 56, 53, 52, 55, 55, 53, 56, 48, 56]) (by kernel_rfl) (by kernel_rfl) (by omega) (by omega)).1]
  rw [show intE ⟨#[45, 57, 50, 50, 51, 51, 55, 50, 48, 51, 54, 56, 53, 52, 55, 55, 53, 56, 48, 56]⟩ = 0 from (int_ok (l := [45, 57, 50, 50, 51, 51, 55, 50, 48, 51, 54, 56, 53, 52, 55, 55, 53, 56, 48, 56]) (by kernel_rfl) (z := (-9223372036854775808)) (by kernel_rfl) (by omega) (by omega)).2]
  replace hcl := hx.keep hcl
  clear ht7
  clear he7
  replace HX := Lib.hid (Ext.tr (h := HX.out) hx); clear hx
  go_wp2_with fail
  have ht8 := ht.to HX.out
  refine (saysd_spec (-9223372036854775808) g _ hcl).mono ?_
  rintro e w8 ⟨rfl, hx⟩
  clear ht8
  replace HX := Lib.hid (Ext.tr (h := HX.out) hx); clear hx
  clear hcl
  go_wp2_with fail
  have ht9 := ht.to HX.out
  refine (stops_spec (6) _).mono ?_
  rintro e w9 ⟨g, rfl, hcl, hx⟩
  clear ht9
  replace HX := Lib.hid (Ext.tr (h := HX.out) hx); clear hx
  go_wp2_with fail
  have ht10 := ht.to HX.out
  have he10 := he.to HX.out
  refine (int_spec ⟨#[57, 50, 50, 51, 51, 55, 50, 48, 51, 54, 56, 53, 52, 55, 55, 53, 56, 48, 56]⟩ _).mono ?_
  rintro e w10 ⟨rfl, hx⟩
  rw [show intV ⟨#[57, 50, 50, 51, 51, 55, 50, 48, 51, 54, 56, 53, 52, 55, 55, 53, 56, 48, 56]⟩ = 0 from (int_big (l := [57, 50, 50, 51, 51, 55, 50, 48, 51, 54, 56, 53, 52, 55, 55, 53, 56, 48, 56]) (by kernel_rfl) (z := 9223372036854775808) (by kernel_rfl) (by omega)).1]
  rw [show intE ⟨#[57, 50, 50, 51, 51, 55, 50, 48, 51, 54, 56, 53, 52, 55, 55, 53, 56, 48, 56]⟩ = 6 from (int_big (l := [57, 50, 50, 51, 51, 55, 50, 48, 51, 54, 56, 53, 52, 55, 55, 53, 56, 48, 56]) (by kernel_rfl) (z := 9223372036854775808) (by kernel_rfl) (by omega)).2]
  replace hcl := hx.keep hcl
  clear ht10
  clear he10
  replace HX := Lib.hid (Ext.tr (h := HX.out) hx); clear hx
  go_wp2_with fail
  have ht11 := ht.to HX.out
  refine (stopsd_spec (6) g _ hcl).mono ?_
  rintro e w11 ⟨rfl, hx⟩
  clear ht11
  replace HX := Lib.hid (Ext.tr (h := HX.out) hx); clear hx
  clear hcl
  go_wp2_with fail
  have ht12 := ht.to HX.out
  refine (is_spec ⟨#[45, 50]⟩ _).mono ?_
  rintro e w12 ⟨g, rfl, hcl, hx⟩
  clear ht12
  replace HX := Lib.hid (Ext.tr (h := HX.out) hx); clear hx
  go_wp2_with fail
  have ht13 := ht.to HX.out
  refine (addw_spec ⟨#[45, 53]⟩ ⟨#[51]⟩ _).mono ?_
  rintro e w13 ⟨rfl, hx⟩
  rw [show twoS (· + ·) ⟨#[45, 53]⟩ ⟨#[51]⟩ = ⟨#[45, 50]⟩ from (lit2 (· + ·) (s := [45, 53]) (t := [51]) (r := [45, 50]) (by kernel_rfl) (by kernel_rfl) (by kernel_rfl) (by kernel_rfl)).1]
  rw [show twoE (· + ·) ⟨#[45, 53]⟩ ⟨#[51]⟩ = 0 from (lit2 (· + ·) (s := [45, 53]) (t := [51]) (r := [45, 50]) (by kernel_rfl) (by kernel_rfl) (by kernel_rfl) (by kernel_rfl)).2]
  replace hcl := hx.keep hcl
  clear ht13
  replace HX := Lib.hid (Ext.tr (h := HX.out) hx); clear hx
  go_wp2_with fail
  have ht14 := ht.to HX.out
  refine (isd_spec ⟨#[45, 50]⟩ g _ hcl).mono ?_
  rintro e w14 ⟨rfl, hx⟩
  clear ht14
  replace HX := Lib.hid (Ext.tr (h := HX.out) hx); clear hx
  clear hcl
  go_wp2_with fail
  have ht15 := ht.to HX.out
  refine (is_spec ⟨#[45, 50]⟩ _).mono ?_
  rintro e w15 ⟨g, rfl, hcl, hx⟩
  clear ht15
  replace HX := Lib.hid (Ext.tr (h := HX.out) hx); clear hx
  go_wp2_with fail
  have ht16 := ht.to HX.out
  refine (subw_spec ⟨#[51]⟩ ⟨#[53]⟩ _).mono ?_
  rintro e w16 ⟨rfl, hx⟩
  rw [show twoS (· - ·) ⟨#[51]⟩ ⟨#[53]⟩ = ⟨#[45, 50]⟩ from (lit2 (· - ·) (s := [51]) (t := [53]) (r := [45, 50]) (by kernel_rfl) (by kernel_rfl) (by kernel_rfl) (by kernel_rfl)).1]
  rw [show twoE (· - ·) ⟨#[51]⟩ ⟨#[53]⟩ = 0 from (lit2 (· - ·) (s := [51]) (t := [53]) (r := [45, 50]) (by kernel_rfl) (by kernel_rfl) (by kernel_rfl) (by kernel_rfl)).2]
  replace hcl := hx.keep hcl
  clear ht16
  replace HX := Lib.hid (Ext.tr (h := HX.out) hx); clear hx
  go_wp2_with fail
  have ht17 := ht.to HX.out
  refine (isd_spec ⟨#[45, 50]⟩ g _ hcl).mono ?_
  rintro e w17 ⟨rfl, hx⟩
  clear ht17
  replace HX := Lib.hid (Ext.tr (h := HX.out) hx); clear hx
  clear hcl
  go_wp2_with fail
  have ht18 := ht.to HX.out
  refine (is_spec ⟨#[45, 49, 48, 48, 48, 48, 48, 48, 48, 48, 48, 48, 48, 48, 48, 48, 48, 48, 48, 48, 48, 48, 48, 48, 48, 48, 48, 48, 48, 48, 48, 48, 48, 48, 48, 48, 48, 48]⟩ _).mono ?_
  rintro e w18 ⟨g, rfl, hcl, hx⟩
  clear ht18
  replace HX := Lib.hid (Ext.tr (h := HX.out) hx); clear hx
  go_wp2_with fail
  have ht19 := ht.to HX.out
  refine (mulw_spec ⟨#[45, 49, 48, 48, 48, 48, 48, 48, 48, 48, 48, 48, 48, 48, 48, 48, 48, 48, 48, 48]⟩ ⟨#[49, 48, 48, 48, 48, 48, 48, 48, 48, 48, 48, 48, 48, 48, 48, 48, 48, 48, 48]⟩ _).mono ?_
  rintro e w19 ⟨rfl, hx⟩
  rw [show twoS (· * ·) ⟨#[45, 49, 48, 48, 48, 48, 48, 48, 48, 48, 48, 48, 48, 48, 48, 48, 48, 48, 48, 48]⟩ ⟨#[49, 48, 48, 48, 48, 48, 48, 48, 48, 48, 48, 48, 48, 48, 48, 48, 48, 48, 48]⟩ = ⟨#[45, 49, 48, 48, 48, 48, 48, 48, 48, 48, 48, 48, 48, 48, 48, 48, 48, 48, 48, 48, 48, 48, 48, 48, 48, 48, 48, 48, 48, 48, 48, 48, 48, 48, 48, 48, 48, 48]⟩ from (lit2 (· * ·) (s := [45, 49, 48, 48, 48, 48, 48, 48, 48, 48, 48, 48, 48, 48, 48, 48, 48, 48, 48, 48]) (t := [49, 48, 48, 48, 48, 48, 48, 48, 48, 48, 48, 48, 48, 48, 48, 48, 48, 48, 48]) (r := [45, 49, 48, 48, 48, 48, 48, 48, 48, 48, 48, 48, 48, 48, 48, 48, 48, 48, 48, 48, 48, 48, 48, 48, 48, 48, 48, 48, 48, 48, 48, 48, 48, 48, 48, 48, 48, 48]) (by kernel_rfl) (by kernel_rfl) (by kernel_rfl) (by kernel_rfl)).1]
  rw [show twoE (· * ·) ⟨#[45, 49, 48, 48, 48, 48, 48, 48, 48, 48, 48, 48, 48, 48, 48, 48, 48, 48, 48, 48]⟩ ⟨#[49, 48, 48, 48, 48, 48, 48, 48, 48, 48, 48, 48, 48, 48, 48, 48, 48, 48, 48]⟩ = 0 from (lit2 (· * ·) (s := [45, 49, 48, 48, 48, 48, 48, 48, 48, 48, 48, 48, 48, 48, 48, 48, 48, 48, 48, 48]) (t := [49, 48, 48, 48, 48, 48, 48, 48, 48, 48, 48, 48, 48, 48, 48, 48, 48, 48, 48]) (r := [45, 49, 48, 48, 48, 48, 48, 48, 48, 48, 48, 48, 48, 48, 48, 48, 48, 48, 48, 48, 48, 48, 48, 48, 48, 48, 48, 48, 48, 48, 48, 48, 48, 48, 48, 48, 48, 48]) (by kernel_rfl) (by kernel_rfl) (by kernel_rfl) (by kernel_rfl)).2]
  replace hcl := hx.keep hcl
  clear ht19
  replace HX := Lib.hid (Ext.tr (h := HX.out) hx); clear hx
  go_wp2_with fail
  have ht20 := ht.to HX.out
  refine (isd_spec ⟨#[45, 49, 48, 48, 48, 48, 48, 48, 48, 48, 48, 48, 48, 48, 48, 48, 48, 48, 48, 48, 48, 48, 48, 48, 48, 48, 48, 48, 48, 48, 48, 48, 48, 48, 48, 48, 48, 48]⟩ g _ hcl).mono ?_
  rintro e w20 ⟨rfl, hx⟩
  clear ht20
  replace HX := Lib.hid (Ext.tr (h := HX.out) hx); clear hx
  clear hcl
  go_wp2_with fail
  have ht21 := ht.to HX.out
  refine (parts_spec1 ⟨#[45, 52]⟩ ⟨#[49]⟩ _).mono ?_
  rintro e w21 ⟨g, g2, rfl, hcl, hcl2, hx⟩
  clear ht21
  replace HX := Lib.hid (Ext.tr (h := HX.out) hx); clear hx
  go_wp2_with fail
  have ht22 := ht.to HX.out
  refine (div_spec ⟨#[45, 55]⟩ ⟨#[50]⟩ _).mono ?_
  rintro e w22 ⟨rfl, hx⟩
  rw [show divQ ⟨#[45, 55]⟩ ⟨#[50]⟩ = ⟨#[45, 52]⟩ from (litdiv (s := [45, 55]) (t := [50]) (q := [45, 52]) (r := [49]) (by kernel_rfl) (by kernel_rfl) (by kernel_rfl) (by kernel_rfl) (by decide) (by kernel_rfl) (by kernel_rfl)).1]
  rw [show divR ⟨#[45, 55]⟩ ⟨#[50]⟩ = ⟨#[49]⟩ from (litdiv (s := [45, 55]) (t := [50]) (q := [45, 52]) (r := [49]) (by kernel_rfl) (by kernel_rfl) (by kernel_rfl) (by kernel_rfl) (by decide) (by kernel_rfl) (by kernel_rfl)).2.1]
  rw [show divE ⟨#[45, 55]⟩ ⟨#[50]⟩ = 0 from (litdiv (s := [45, 55]) (t := [50]) (q := [45, 52]) (r := [49]) (by kernel_rfl) (by kernel_rfl) (by kernel_rfl) (by kernel_rfl) (by decide) (by kernel_rfl) (by kernel_rfl)).2.2]
  replace hcl := hx.keep hcl
  replace hcl2 := hx.keep hcl2
  clear ht22
  replace HX := Lib.hid (Ext.tr (h := HX.out) hx); clear hx
  go_wp2_with fail
  have ht23 := ht.to HX.out
  refine (partsd_spec ⟨#[45, 52]⟩ ⟨#[49]⟩ g g2 _ hcl hcl2).mono ?_
  rintro e w23 ⟨rfl, hx⟩
  clear ht23
  replace HX := Lib.hid (Ext.tr (h := HX.out) hx); clear hx
  clear hcl hcl2
  go_wp2_with fail
  have ht24 := ht.to HX.out
  refine (parts_spec1 ⟨#[45, 51]⟩ ⟨#[49]⟩ _).mono ?_
  rintro e w24 ⟨g, g2, rfl, hcl, hcl2, hx⟩
  clear ht24
  replace HX := Lib.hid (Ext.tr (h := HX.out) hx); clear hx
  go_wp2_with fail
  have ht25 := ht.to HX.out
  refine (div_spec ⟨#[55]⟩ ⟨#[45, 50]⟩ _).mono ?_
  rintro e w25 ⟨rfl, hx⟩
  rw [show divQ ⟨#[55]⟩ ⟨#[45, 50]⟩ = ⟨#[45, 51]⟩ from (litdiv (s := [55]) (t := [45, 50]) (q := [45, 51]) (r := [49]) (by kernel_rfl) (by kernel_rfl) (by kernel_rfl) (by kernel_rfl) (by decide) (by kernel_rfl) (by kernel_rfl)).1]
  rw [show divR ⟨#[55]⟩ ⟨#[45, 50]⟩ = ⟨#[49]⟩ from (litdiv (s := [55]) (t := [45, 50]) (q := [45, 51]) (r := [49]) (by kernel_rfl) (by kernel_rfl) (by kernel_rfl) (by kernel_rfl) (by decide) (by kernel_rfl) (by kernel_rfl)).2.1]
  rw [show divE ⟨#[55]⟩ ⟨#[45, 50]⟩ = 0 from (litdiv (s := [55]) (t := [45, 50]) (q := [45, 51]) (r := [49]) (by kernel_rfl) (by kernel_rfl) (by kernel_rfl) (by kernel_rfl) (by decide) (by kernel_rfl) (by kernel_rfl)).2.2]
  replace hcl := hx.keep hcl
  replace hcl2 := hx.keep hcl2
  clear ht25
  replace HX := Lib.hid (Ext.tr (h := HX.out) hx); clear hx
  go_wp2_with fail
  have ht26 := ht.to HX.out
  refine (partsd_spec ⟨#[45, 51]⟩ ⟨#[49]⟩ g g2 _ hcl hcl2).mono ?_
  rintro e w26 ⟨rfl, hx⟩
  clear ht26
  replace HX := Lib.hid (Ext.tr (h := HX.out) hx); clear hx
  clear hcl hcl2
  go_wp2_with fail
  have ht27 := ht.to HX.out
  refine (parts_spec1 ⟨#[52]⟩ ⟨#[49]⟩ _).mono ?_
  rintro e w27 ⟨g, g2, rfl, hcl, hcl2, hx⟩
  clear ht27
  replace HX := Lib.hid (Ext.tr (h := HX.out) hx); clear hx
  go_wp2_with fail
  have ht28 := ht.to HX.out
  refine (div_spec ⟨#[45, 55]⟩ ⟨#[45, 50]⟩ _).mono ?_
  rintro e w28 ⟨rfl, hx⟩
  rw [show divQ ⟨#[45, 55]⟩ ⟨#[45, 50]⟩ = ⟨#[52]⟩ from (litdiv (s := [45, 55]) (t := [45, 50]) (q := [52]) (r := [49]) (by kernel_rfl) (by kernel_rfl) (by kernel_rfl) (by kernel_rfl) (by decide) (by kernel_rfl) (by kernel_rfl)).1]
  rw [show divR ⟨#[45, 55]⟩ ⟨#[45, 50]⟩ = ⟨#[49]⟩ from (litdiv (s := [45, 55]) (t := [45, 50]) (q := [52]) (r := [49]) (by kernel_rfl) (by kernel_rfl) (by kernel_rfl) (by kernel_rfl) (by decide) (by kernel_rfl) (by kernel_rfl)).2.1]
  rw [show divE ⟨#[45, 55]⟩ ⟨#[45, 50]⟩ = 0 from (litdiv (s := [45, 55]) (t := [45, 50]) (q := [52]) (r := [49]) (by kernel_rfl) (by kernel_rfl) (by kernel_rfl) (by kernel_rfl) (by decide) (by kernel_rfl) (by kernel_rfl)).2.2]
  replace hcl := hx.keep hcl
  replace hcl2 := hx.keep hcl2
  clear ht28
  replace HX := Lib.hid (Ext.tr (h := HX.out) hx); clear hx
  go_wp2_with fail
  have ht29 := ht.to HX.out
  refine (partsd_spec ⟨#[52]⟩ ⟨#[49]⟩ g g2 _ hcl hcl2).mono ?_
  rintro e w29 ⟨rfl, hx⟩
  clear ht29
  replace HX := Lib.hid (Ext.tr (h := HX.out) hx); clear hx
  clear hcl hcl2
  go_wp2_with fail
  have ht30 := ht.to HX.out
  refine (div_spec ⟨#[49]⟩ ⟨#[48]⟩ _).mono ?_
  rintro e w30 ⟨rfl, hx⟩
  rw [show divQ ⟨#[49]⟩ ⟨#[48]⟩ = ⟨#[]⟩ from (litzero (s := [49]) (t := [48]) (by kernel_rfl) (by kernel_rfl) (by kernel_rfl)).1]
  rw [show divR ⟨#[49]⟩ ⟨#[48]⟩ = ⟨#[]⟩ from (litzero (s := [49]) (t := [48]) (by kernel_rfl) (by kernel_rfl) (by kernel_rfl)).2.1]
  rw [show divE ⟨#[49]⟩ ⟨#[48]⟩ = 7 from (litzero (s := [49]) (t := [48]) (by kernel_rfl) (by kernel_rfl) (by kernel_rfl)).2.2]
  clear ht30
  replace HX := Lib.hid (Ext.tr (h := HX.out) hx); clear hx
  go_wp2_with fail
  have ht31 := ht.to HX.out
  refine (is_spec ⟨#[54]⟩ _).mono ?_
  rintro e w31 ⟨g, rfl, hcl, hx⟩
  clear ht31
  replace HX := Lib.hid (Ext.tr (h := HX.out) hx); clear hx
  go_wp2_with fail
  have ht32 := ht.to HX.out
  refine (gcd_spec ⟨#[45, 49, 50]⟩ ⟨#[49, 56]⟩ _).mono ?_
  rintro e w32 ⟨rfl, hx⟩
  rw [show twoS gcdz ⟨#[45, 49, 50]⟩ ⟨#[49, 56]⟩ = ⟨#[54]⟩ from (lit2 gcdz (s := [45, 49, 50]) (t := [49, 56]) (r := [54]) (by kernel_rfl) (by kernel_rfl) (by kernel_rfl) (by kernel_rfl)).1]
  rw [show twoE gcdz ⟨#[45, 49, 50]⟩ ⟨#[49, 56]⟩ = 0 from (lit2 gcdz (s := [45, 49, 50]) (t := [49, 56]) (r := [54]) (by kernel_rfl) (by kernel_rfl) (by kernel_rfl) (by kernel_rfl)).2]
  replace hcl := hx.keep hcl
  clear ht32
  replace HX := Lib.hid (Ext.tr (h := HX.out) hx); clear hx
  go_wp2_with fail
  have ht33 := ht.to HX.out
  refine (isd_spec ⟨#[54]⟩ g _ hcl).mono ?_
  rintro e w33 ⟨rfl, hx⟩
  clear ht33
  replace HX := Lib.hid (Ext.tr (h := HX.out) hx); clear hx
  clear hcl
  go_wp2_with fail
  have ht34 := ht.to HX.out
  refine (is_spec ⟨#[48]⟩ _).mono ?_
  rintro e w34 ⟨g, rfl, hcl, hx⟩
  clear ht34
  replace HX := Lib.hid (Ext.tr (h := HX.out) hx); clear hx
  go_wp2_with fail
  have ht35 := ht.to HX.out
  refine (gcd_spec ⟨#[48]⟩ ⟨#[48]⟩ _).mono ?_
  rintro e w35 ⟨rfl, hx⟩
  rw [show twoS gcdz ⟨#[48]⟩ ⟨#[48]⟩ = ⟨#[48]⟩ from (lit2 gcdz (s := [48]) (t := [48]) (r := [48]) (by kernel_rfl) (by kernel_rfl) (by kernel_rfl) (by kernel_rfl)).1]
  rw [show twoE gcdz ⟨#[48]⟩ ⟨#[48]⟩ = 0 from (lit2 gcdz (s := [48]) (t := [48]) (r := [48]) (by kernel_rfl) (by kernel_rfl) (by kernel_rfl) (by kernel_rfl)).2]
  replace hcl := hx.keep hcl
  clear ht35
  replace HX := Lib.hid (Ext.tr (h := HX.out) hx); clear hx
  go_wp2_with fail
  have ht36 := ht.to HX.out
  refine (isd_spec ⟨#[48]⟩ g _ hcl).mono ?_
  rintro e w36 ⟨rfl, hx⟩
  clear ht36
  replace HX := Lib.hid (Ext.tr (h := HX.out) hx); clear hx
  clear hcl
  go_wp2_with fail
  have ht37 := ht.to HX.out
  refine (says_spec (-1) _).mono ?_
  rintro e w37 ⟨g, rfl, hcl, hx⟩
  clear ht37
  replace HX := Lib.hid (Ext.tr (h := HX.out) hx); clear hx
  go_wp2_with fail
  have ht38 := ht.to HX.out
  refine (cmpw_spec ⟨#[45, 49, 48]⟩ ⟨#[57]⟩ _).mono ?_
  rintro e w38 ⟨rfl, hx⟩
  rw [show cmpV ⟨#[45, 49, 48]⟩ ⟨#[57]⟩ = -1 from (litcmp (s := [45, 49, 48]) (t := [57]) (by kernel_rfl) (by kernel_rfl) (by kernel_rfl)).1]
  rw [show cmpE ⟨#[45, 49, 48]⟩ ⟨#[57]⟩ = 0 from (litcmp (s := [45, 49, 48]) (t := [57]) (v := -1) (by kernel_rfl) (by kernel_rfl) (by kernel_rfl)).2]
  replace hcl := hx.keep hcl
  clear ht38
  replace HX := Lib.hid (Ext.tr (h := HX.out) hx); clear hx
  go_wp2_with fail
  have ht39 := ht.to HX.out
  refine (saysd_spec (-1) g _ hcl).mono ?_
  rintro e w39 ⟨rfl, hx⟩
  clear ht39
  replace HX := Lib.hid (Ext.tr (h := HX.out) hx); clear hx
  clear hcl
  go_wp2_with fail
  have ht40 := ht.to HX.out
  refine (says_spec (0) _).mono ?_
  rintro e w40 ⟨g, rfl, hcl, hx⟩
  clear ht40
  replace HX := Lib.hid (Ext.tr (h := HX.out) hx); clear hx
  go_wp2_with fail
  have ht41 := ht.to HX.out
  refine (sign_spec ⟨#[48]⟩ _).mono ?_
  rintro e w41 ⟨rfl, hx⟩
  rw [show pz ⟨#[48]⟩ = some 0 from pz_some (wh_lit (l := [48]) (by kernel_rfl))]
  replace hcl := hx.keep hcl
  clear ht41
  replace HX := Lib.hid (Ext.tr (h := HX.out) hx); clear hx
  go_wp2_with fail
  have ht42 := ht.to HX.out
  refine (saysd_spec (0) g _ hcl).mono ?_
  rintro e w42 ⟨rfl, hx⟩
  clear ht42
  replace HX := Lib.hid (Ext.tr (h := HX.out) hx); clear hx
  clear hcl
  go_wp2_with fail
  have ht43 := ht.to HX.out
  refine (is_spec ⟨#[45, 50, 55]⟩ _).mono ?_
  rintro e w43 ⟨g, rfl, hcl, hx⟩
  clear ht43
  replace HX := Lib.hid (Ext.tr (h := HX.out) hx); clear hx
  go_wp2_with fail
  have ht44 := ht.to HX.out
  refine (pow_spec ⟨#[45, 51]⟩ (3) _).mono ?_
  rintro e w44 ⟨rfl, hx⟩
  rw [show powS ⟨#[45, 51]⟩ 3 = ⟨#[45, 50, 55]⟩ from (litpow (s := [45, 51]) (r := [45, 50, 55]) (k := 3) (by kernel_rfl) (by kernel_rfl) (by omega) (by omega) (by kernel_rfl)).1]
  rw [show powE ⟨#[45, 51]⟩ 3 = 0 from (litpow (s := [45, 51]) (r := [45, 50, 55]) (k := 3) (by kernel_rfl) (by kernel_rfl) (by omega) (by omega) (by kernel_rfl)).2]
  replace hcl := hx.keep hcl
  clear ht44
  replace HX := Lib.hid (Ext.tr (h := HX.out) hx); clear hx
  go_wp2_with fail
  have ht45 := ht.to HX.out
  refine (isd_spec ⟨#[45, 50, 55]⟩ g _ hcl).mono ?_
  rintro e w45 ⟨rfl, hx⟩
  clear ht45
  replace HX := Lib.hid (Ext.tr (h := HX.out) hx); clear hx
  clear hcl
  go_wp2_with fail
  have ht46 := ht.to HX.out
  refine (is_spec ⟨#[49]⟩ _).mono ?_
  rintro e w46 ⟨g, rfl, hcl, hx⟩
  clear ht46
  replace HX := Lib.hid (Ext.tr (h := HX.out) hx); clear hx
  go_wp2_with fail
  have ht47 := ht.to HX.out
  refine (pow_spec ⟨#[48]⟩ (0) _).mono ?_
  rintro e w47 ⟨rfl, hx⟩
  rw [show powS ⟨#[48]⟩ 0 = ⟨#[49]⟩ from (litpow (s := [48]) (r := [49]) (k := 0) (by kernel_rfl) (by kernel_rfl) (by omega) (by omega) (by kernel_rfl)).1]
  rw [show powE ⟨#[48]⟩ 0 = 0 from (litpow (s := [48]) (r := [49]) (k := 0) (by kernel_rfl) (by kernel_rfl) (by omega) (by omega) (by kernel_rfl)).2]
  replace hcl := hx.keep hcl
  clear ht47
  replace HX := Lib.hid (Ext.tr (h := HX.out) hx); clear hx
  go_wp2_with fail
  have ht48 := ht.to HX.out
  refine (isd_spec ⟨#[49]⟩ g _ hcl).mono ?_
  rintro e w48 ⟨rfl, hx⟩
  clear ht48
  replace HX := Lib.hid (Ext.tr (h := HX.out) hx); clear hx
  clear hcl
  go_wp2_with fail
  have ht49 := ht.to HX.out
  refine (fails_spec (2) _).mono ?_
  rintro e w49 ⟨g, rfl, hcl, hx⟩
  clear ht49
  replace HX := Lib.hid (Ext.tr (h := HX.out) hx); clear hx
  go_wp2_with fail
  have ht50 := ht.to HX.out
  refine (pow_spec ⟨#[50]⟩ 41 _).mono ?_
  rintro e w50 ⟨rfl, hx⟩
  rw [show powS ⟨#[50]⟩ 41 = ⟨#[]⟩ from (litpow2 (s := [50]) (k := 41) (by kernel_rfl) (by omega)).1]
  rw [show powE ⟨#[50]⟩ 41 = 2 from (litpow2 (s := [50]) (k := 41) (by kernel_rfl) (by omega)).2]
  replace hcl := hx.keep hcl
  clear ht50
  replace HX := Lib.hid (Ext.tr (h := HX.out) hx); clear hx
  go_wp2_with fail
  have ht51 := ht.to HX.out
  refine (failsd_spec (2) g _ hcl).mono ?_
  rintro e w51 ⟨rfl, hx⟩
  clear ht51
  replace HX := Lib.hid (Ext.tr (h := HX.out) hx); clear hx
  clear hcl
  go_wp2_with fail
  have ht52 := ht.to HX.out
  refine (is_spec ⟨#[50]⟩ _).mono ?_
  rintro e w52 ⟨g, rfl, hcl, hx⟩
  clear ht52
  replace HX := Lib.hid (Ext.tr (h := HX.out) hx); clear hx
  go_wp2_with fail
  have ht53 := ht.to HX.out
  refine (rootw_spec ⟨#[56, 48]⟩ 4 _).mono ?_
  rintro e w53 ⟨rfl, hx⟩
  rw [show rootS ⟨#[56, 48]⟩ 4 = ⟨#[50]⟩ from (litroot (s := [56, 48]) (r := [50]) (k := 4) (n := 2) (by kernel_rfl) (by kernel_rfl) (by omega) (by omega) (by decide) (by decide) (by decide) (by kernel_rfl)).1]
  rw [show rootE ⟨#[56, 48]⟩ 4 = 0 from (litroot (s := [56, 48]) (r := [50]) (k := 4) (n := 2) (by kernel_rfl) (by kernel_rfl) (by omega) (by omega) (by decide) (by decide) (by decide) (by kernel_rfl)).2]
  replace hcl := hx.keep hcl
  clear ht53
  replace HX := Lib.hid (Ext.tr (h := HX.out) hx); clear hx
  go_wp2_with fail
  have ht54 := ht.to HX.out
  refine (isd_spec ⟨#[50]⟩ g _ hcl).mono ?_
  rintro e w54 ⟨rfl, hx⟩
  clear ht54
  replace HX := Lib.hid (Ext.tr (h := HX.out) hx); clear hx
  clear hcl
  go_wp2_with fail
  have ht55 := ht.to HX.out
  refine (is_spec ⟨#[51]⟩ _).mono ?_
  rintro e w55 ⟨g, rfl, hcl, hx⟩
  clear ht55
  replace HX := Lib.hid (Ext.tr (h := HX.out) hx); clear hx
  go_wp2_with fail
  have ht56 := ht.to HX.out
  refine (rootw_spec ⟨#[56, 49]⟩ 4 _).mono ?_
  rintro e w56 ⟨rfl, hx⟩
  rw [show rootS ⟨#[56, 49]⟩ 4 = ⟨#[51]⟩ from (litroot (s := [56, 49]) (r := [51]) (k := 4) (n := 3) (by kernel_rfl) (by kernel_rfl) (by omega) (by omega) (by decide) (by decide) (by decide) (by kernel_rfl)).1]
  rw [show rootE ⟨#[56, 49]⟩ 4 = 0 from (litroot (s := [56, 49]) (r := [51]) (k := 4) (n := 3) (by kernel_rfl) (by kernel_rfl) (by omega) (by omega) (by decide) (by decide) (by decide) (by kernel_rfl)).2]
  replace hcl := hx.keep hcl
  clear ht56
  replace HX := Lib.hid (Ext.tr (h := HX.out) hx); clear hx
  go_wp2_with fail
  have ht57 := ht.to HX.out
  refine (isd_spec ⟨#[51]⟩ g _ hcl).mono ?_
  rintro e w57 ⟨rfl, hx⟩
  clear ht57
  replace HX := Lib.hid (Ext.tr (h := HX.out) hx); clear hx
  clear hcl
  go_wp2_with fail
  have ht58 := ht.to HX.out
  refine (fails_spec (2) _).mono ?_
  rintro e w58 ⟨g, rfl, hcl, hx⟩
  clear ht58
  replace HX := Lib.hid (Ext.tr (h := HX.out) hx); clear hx
  go_wp2_with fail
  have ht59 := ht.to HX.out
  refine (rootw_spec ⟨#[45, 49]⟩ 1 _).mono ?_
  rintro e w59 ⟨rfl, hx⟩
  rw [show rootS ⟨#[45, 49]⟩ 1 = ⟨#[]⟩ from (litroot2 (s := [45, 49]) (k := 1) (by kernel_rfl) (by decide)).1]
  rw [show rootE ⟨#[45, 49]⟩ 1 = 2 from (litroot2 (s := [45, 49]) (k := 1) (by kernel_rfl) (by decide)).2]
  replace hcl := hx.keep hcl
  clear ht59
  replace HX := Lib.hid (Ext.tr (h := HX.out) hx); clear hx
  go_wp2_with fail
  have ht60 := ht.to HX.out
  refine (failsd_spec (2) g _ hcl).mono ?_
  rintro e w60 ⟨rfl, hx⟩
  clear ht60
  replace HX := Lib.hid (Ext.tr (h := HX.out) hx); clear hx
  clear hcl
  go_wp2_with fail
  have ht61 := ht.to HX.out
  refine (fails_spec (2) _).mono ?_
  rintro e w61 ⟨g, rfl, hcl, hx⟩
  clear ht61
  replace HX := Lib.hid (Ext.tr (h := HX.out) hx); clear hx
  go_wp2_with fail
  have ht62 := ht.to HX.out
  refine (rootw_spec ⟨#[53]⟩ 13 _).mono ?_
  rintro e w62 ⟨rfl, hx⟩
  rw [show rootS ⟨#[53]⟩ 13 = ⟨#[]⟩ from (litroot2 (s := [53]) (k := 13) (by kernel_rfl) (by decide)).1]
  rw [show rootE ⟨#[53]⟩ 13 = 2 from (litroot2 (s := [53]) (k := 13) (by kernel_rfl) (by decide)).2]
  replace hcl := hx.keep hcl
  clear ht62
  replace HX := Lib.hid (Ext.tr (h := HX.out) hx); clear hx
  go_wp2_with fail
  have ht63 := ht.to HX.out
  refine (failsd_spec (2) g _ hcl).mono ?_
  rintro e w63 ⟨rfl, hx⟩
  clear ht63
  replace HX := Lib.hid (Ext.tr (h := HX.out) hx); clear hx
  clear hcl
  go_wp2_with fail
  go_ret
  exact ⟨rfl, HX.out⟩
end Go.Proofs.YtkmmkobiigddkaaGreatDoor
