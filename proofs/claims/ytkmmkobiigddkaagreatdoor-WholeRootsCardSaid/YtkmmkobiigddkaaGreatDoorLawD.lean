import Derived.Test.YtkmmkobiigddkaaGreatDoorProg
import Derived.Test.YtkmmkobiigddkaaGreatDoorLawC
/-! The walk of the laws of the ring. -/
set_option linter.unusedVariables false
set_option linter.unusedSimpArgs false
set_option maxRecDepth 100000
namespace Go.Proofs.YtkmmkobiigddkaaGreatDoor
open Go.RowKit

theorem wh_two {f : Int → Int → Int} {s t : ByteArray} {x y z : Int} (hs : Wh s x) (ht : Wh t y) (hz : f x y = z) (h : Lib.nDigits z.natAbs ≤ 600) : twoS f s t = txt z ∧ twoE f s t = 0 := by
  rw [(two_some f (pz_some hs) (pz_some ht)).1, (two_some f (pz_some hs) (pz_some ht)).2, hz]
  exact ⟨tS_ok h, tE_ok h⟩
theorem wh_one {f : Int → Int} {s : ByteArray} {x z : Int} (hs : Wh s x) (hz : f x = z) (h : Lib.nDigits z.natAbs ≤ 600) : oneS f s = txt z ∧ oneE f s = 0 := by
  rw [(one_some f (pz_some hs)).1, (one_some f (pz_some hs)).2, hz]
  exact ⟨tS_ok h, tE_ok h⟩
theorem wh_div {s t : ByteArray} {x y q r : Int} (hs : Wh s x) (ht : Wh t y) (h0 : y ≠ 0) (hq : x / y = q) (hr : x % y = r) : divQ s t = txt q ∧ divR s t = txt r ∧ divE s t = 0 := by
  rw [(div_some (pz_some hs) (pz_some ht)).1, (div_some (pz_some hs) (pz_some ht)).2.1, (div_some (pz_some hs) (pz_some ht)).2.2, if_neg h0, if_neg h0, if_neg h0, hq, hr]
  exact ⟨rfl, rfl, rfl⟩
theorem nd_le {x y : Int} {k : Nat} (h : x.natAbs ≤ y.natAbs) (hy : Lib.nDigits y.natAbs ≤ k) : Lib.nDigits x.natAbs ≤ k := by
  have h1 : Lib.nDigits x.natAbs ≤ Lib.nDigits y.natAbs := (nDigits_le (nDigits_pos _)).2 (Nat.lt_of_le_of_lt h ((nDigits_le (nDigits_pos _)).1 (Nat.le_refl _)))
  omega
theorem nd_add {x y : Int} {k : Nat} (hk : 0 < k) (hx : Lib.nDigits x.natAbs ≤ k) (hy : Lib.nDigits y.natAbs ≤ k) : Lib.nDigits (x + y).natAbs ≤ k + 1 := by
  refine ndz_lt (by omega) ?_
  have h1 := lt_nd hk hx
  have h2 := lt_nd hk hy
  rw [Nat.pow_succ]
  generalize 10 ^ k = p at *
  omega
theorem nd_mul {x y : Int} {a b : Nat} (ha : 0 < a) (hb : 0 < b) (hx : Lib.nDigits x.natAbs ≤ a) (hy : Lib.nDigits y.natAbs ≤ b) : Lib.nDigits (x * y).natAbs ≤ a + b := by
  refine ndz_lt (by omega) ?_
  rw [Int.natAbs_mul, Nat.pow_add]
  exact Nat.lt_of_le_of_lt (Nat.mul_le_mul_left _ (Nat.le_of_lt (lt_nd hb hy))) (Nat.mul_lt_mul_of_pos_right (lt_nd ha hx) (Nat.pow_pos (by omega)))
theorem boxT {w W : World} {b b' b2 : Bool} {G G' G2 : Option Addr} {l l' l2 gc gc' gc2 : Nat} {z z' z2 : Int} {T T' T2 : TypeId} (x : Ext (((w.alloc (.cells #[.bool b, .slice G l gc, .int .u16 z] T)).alloc (.cells #[.bool b', .slice G' l' gc', .int .u16 z'] T')).alloc (.cells #[.bool b2, .slice G2 l2 gc2, .int .u16 z2] T2)) W) :
    (W.cell? ⟨w.heap.size, 0, none⟩ = some (.bool b) ∧ W.cell? ⟨w.heap.size, 1, none⟩ = some (.slice G l gc) ∧ W.cell? ⟨w.heap.size, 2, none⟩ = some (.int .u16 z)) ∧
    (W.cell? ⟨w.heap.size + 1, 0, none⟩ = some (.bool b') ∧ W.cell? ⟨w.heap.size + 1, 1, none⟩ = some (.slice G' l' gc') ∧ W.cell? ⟨w.heap.size + 1, 2, none⟩ = some (.int .u16 z')) ∧
    (W.cell? ⟨w.heap.size + 2, 0, none⟩ = some (.bool b2) ∧ W.cell? ⟨w.heap.size + 2, 1, none⟩ = some (.slice G2 l2 gc2) ∧ W.cell? ⟨w.heap.size + 2, 2, none⟩ = some (.int .u16 z2)) := by
  have h1 := boxD (Ext.tr (h := Ext.al _ _ _ (h := Ext.rf _)) x)
  have hg : ((w.alloc (.cells #[.bool b, .slice G l gc, .int .u16 z] T)).alloc (.cells #[.bool b', .slice G' l' gc', .int .u16 z'] T')).heap.size = w.heap.size + 2 := by simp only [World.alloc, Array.size_push]
  have k := fun j => boxN x j
  rw [hg] at k
  exact ⟨h1.1, h1.2, k 0, k 1, k 2⟩

set_option maxHeartbeats 4000000 in
theorem ring_walk (b b' b2 : Bool) (G G' G2 : Option Addr) (gc gc' gc2 z z' z2 : Nat) (L L' L2 : List Nat) (w : World) [ht : Tab w] [he : Errs w] (hG : Row w .u16 G gc L) (hL : ∀ x ∈ L, x < 65536) (hz : z < 65536) (hG' : Row w .u16 G' gc' L') (hL' : ∀ x ∈ L', x < 65536) (hz' : z' < 65536) (hG2 : Row w .u16 G2 gc2 L2) (hL2 : ∀ x ∈ L2, x < 65536) (hz2 : z2 < 65536) :
    Calls Tryz.prog 4 #[.agg #[.bool b, .slice G L.length gc, .int .u16 (z : Int)], .agg #[.bool b', .slice G' L'.length gc', .int .u16 (z' : Int)], .agg #[.bool b2, .slice G2 L2.length gc2, .int .u16 (z2 : Int)]] w (Ret w (.bool true)) := by
  have HG := Lib.hid hG
  have HL := Lib.hid hL
  obtain ⟨X, hv⟩ : ∃ X, dz b L (z % 150) = X := ⟨_, rfl⟩
  have ndX := short_nd b L z
  rw [hv] at ndX
  obtain ⟨SA, hSA⟩ : ∃ S, txt X = S := ⟨_, rfl⟩
  have whX : Wh SA X := hSA ▸ txt_wh (by omega)
  have CX := Lib.hid (fun (w : World) (hr : Row w .u16 G gc L) => (by have h := short_spec b G gc z L w hr HL.out hz; rw [hv, hSA] at h; exact h : Calls _ _ _ w (Ret w (.string SA))))
  have HG' := Lib.hid hG'
  have HL' := Lib.hid hL'
  obtain ⟨Y, hv'⟩ : ∃ Y, dz b' L' (z' % 150) = Y := ⟨_, rfl⟩
  have ndY := short_nd b' L' z'
  rw [hv'] at ndY
  obtain ⟨SB, hSB⟩ : ∃ S, txt Y = S := ⟨_, rfl⟩
  have whY : Wh SB Y := hSB ▸ txt_wh (by omega)
  have CY := Lib.hid (fun (w : World) (hr : Row w .u16 G' gc' L') => (by have h := short_spec b' G' gc' z' L' w hr HL'.out hz'; rw [hv', hSB] at h; exact h : Calls _ _ _ w (Ret w (.string SB))))
  have HG2 := Lib.hid hG2
  have HL2 := Lib.hid hL2
  obtain ⟨Z, hv2⟩ : ∃ Z, dz b2 L2 (z2 % 150) = Z := ⟨_, rfl⟩
  have ndZ := short_nd b2 L2 z2
  rw [hv2] at ndZ
  obtain ⟨SC, hSC⟩ : ∃ S, txt Z = S := ⟨_, rfl⟩
  have whZ : Wh SC Z := hSC ▸ txt_wh (by omega)
  have CZ := Lib.hid (fun (w : World) (hr : Row w .u16 G2 gc2 L2) => (by have h := short_spec b2 G2 gc2 z2 L2 w hr HL2.out hz2; rw [hv2, hSC] at h; exact h : Calls _ _ _ w (Ret w (.string SC))))
  obtain ⟨T, eT⟩ : ∃ z, X + Y = z := ⟨_, rfl⟩
  have ndT : Lib.nDigits T.natAbs ≤ 186 := eT ▸ nd_add (by omega) ndX ndY
  obtain ⟨ST, hST⟩ : ∃ S, txt T = S := ⟨_, rfl⟩
  have whT : Wh ST T := hST ▸ txt_wh (by omega)
  have F1 := Lib.hid (wh_two (f := (· + ·)) whX whY eT (by omega))
  have F2 := Lib.hid (wh_two (f := (· + ·)) whY whX (z := T) (by show Y + X = T; omega) (by omega))
  have F3 := Lib.hid (wh_two (f := (· - ·)) whT whY (z := X) (by show T - Y = X; omega) (by omega))
  obtain ⟨P, eP⟩ : ∃ z, X * Z = z := ⟨_, rfl⟩
  have ndP : Lib.nDigits P.natAbs ≤ 370 := eP ▸ nd_mul (by omega) (by omega) ndX ndZ
  obtain ⟨SP, hSP⟩ : ∃ S, txt P = S := ⟨_, rfl⟩
  have whP : Wh SP P := hSP ▸ txt_wh (by omega)
  obtain ⟨R, eR⟩ : ∃ z, Y * Z = z := ⟨_, rfl⟩
  have ndR : Lib.nDigits R.natAbs ≤ 370 := eR ▸ nd_mul (by omega) (by omega) ndY ndZ
  obtain ⟨SR, hSR⟩ : ∃ S, txt R = S := ⟨_, rfl⟩
  have whR : Wh SR R := hSR ▸ txt_wh (by omega)
  obtain ⟨U, eU⟩ : ∃ z, P + R = z := ⟨_, rfl⟩
  have ndU : Lib.nDigits U.natAbs ≤ 371 := eU ▸ nd_add (by omega) ndP ndR
  obtain ⟨SU, hSU⟩ : ∃ S, txt U = S := ⟨_, rfl⟩
  have whU : Wh SU U := hSU ▸ txt_wh (by omega)
  have F4 := Lib.hid (wh_two (f := (· * ·)) whX whZ eP (by omega))
  have F5 := Lib.hid (wh_two (f := (· * ·)) whZ whX (z := P) ((Int.mul_comm Z X).trans eP) (by omega))
  have F6 := Lib.hid (wh_two (f := (· * ·)) whY whZ eR (by omega))
  have F7 := Lib.hid (wh_two (f := (· + ·)) whP whR eU (by omega))
  have F8 := Lib.hid (wh_two (f := (· * ·)) whT whZ (z := U) (by show T * Z = U; rw [← eT, ← eU, ← eP, ← eR, Int.add_mul]) (by omega))
  have hzt := zero_text whZ
  have wh0 : Wh ⟨#[48]⟩ 0 := ⟨by kernel_rfl, by rw [Lib.nDigits_small (by decide)]; omega⟩
  have F9 := Lib.hid (fun h0 : Z ≠ 0 => wh_div whP whZ h0 (q := X) (r := 0) (by rw [← eP]; exact Int.mul_ediv_cancel _ h0) (by rw [← eP]; exact Int.mul_emod_left _ _))
  obtain ⟨M, eM⟩ : ∃ z, ((Z.natAbs : Nat) : Int) = z := ⟨_, rfl⟩
  have ndM : Lib.nDigits M.natAbs ≤ 185 := eM ▸ (by rw [nd_abs]; exact ndZ)
  obtain ⟨SM, hSM⟩ : ∃ S, txt M = S := ⟨_, rfl⟩
  have whM : Wh SM M := hSM ▸ txt_wh (by omega)
  have F10 := Lib.hid (wh_one (f := fun z => ((z.natAbs : Nat) : Int)) whZ eM (by omega))
  obtain ⟨Q, eQ⟩ : ∃ z, X / Z = z := ⟨_, rfl⟩
  have ndQ : Lib.nDigits Q.natAbs ≤ 185 := eQ ▸ nd_le (ediv_le X Z) ndX
  obtain ⟨SQ, hSQ⟩ : ∃ S, txt Q = S := ⟨_, rfl⟩
  have whQ : Wh SQ Q := hSQ ▸ txt_wh (by omega)
  obtain ⟨D, eD⟩ : ∃ z, X % Z = z := ⟨_, rfl⟩
  have F11 := Lib.hid (fun h0 : Z ≠ 0 => wh_div whX whZ h0 eQ eD)
  have ndD : Z ≠ 0 → Lib.nDigits D.natAbs ≤ 185 := fun h0 => nd_le (by have := emod_lt X h0; rw [eD] at this; omega) ndZ
  obtain ⟨SD, hSD⟩ : ∃ S, txt D = S := ⟨_, rfl⟩
  have whD : Z ≠ 0 → Wh SD D := fun h0 => hSD ▸ txt_wh (by have := ndD h0; omega)
  obtain ⟨W, eW⟩ : ∃ z, Q * Z = z := ⟨_, rfl⟩
  have ndW : Lib.nDigits W.natAbs ≤ 370 := eW ▸ nd_mul (by omega) (by omega) ndQ ndZ
  obtain ⟨SW, hSW⟩ : ∃ S, txt W = S := ⟨_, rfl⟩
  have whW : Wh SW W := hSW ▸ txt_wh (by omega)
  have F12 := Lib.hid (wh_two (f := (· * ·)) whQ whZ eW (by omega))
  have F13 := Lib.hid (fun h0 : Z ≠ 0 => wh_two (f := (· + ·)) whW (whD h0) (z := X) (by show W + D = X; rw [← eW, ← eQ, ← eD]; exact Int.ediv_mul_add_emod X Z) (by omega))
  have F14 := Lib.hid (fun h0 : Z ≠ 0 => pz_some (whD h0))
  have F15 := Lib.hid (fun h0 : Z ≠ 0 => wh_cmp (whD h0) whM)
  have U1 : Z ≠ 0 → 0 ≤ D.sign := fun h0 => by have h := Int.emod_nonneg X h0; rw [eD] at h; rcases sign_cases D with ⟨_, h2⟩ | ⟨_, h2⟩ | ⟨_, h2⟩ <;> omega
  have U2 : Z ≠ 0 → (D - M).sign < 0 := fun h0 => by have h := Int.emod_lt X h0; rw [eD] at h; rcases sign_cases (D - M) with ⟨_, h2⟩ | ⟨_, h2⟩ | ⟨_, h2⟩ <;> omega
  rw [hST] at F1 F2; rw [hSA] at F3; rw [hSP] at F4 F5; rw [hSR] at F6; rw [hSU] at F7 F8
  rw [hSA] at F9 F13; rw [hSM] at F10; rw [hSQ, hSD] at F11; rw [hSW] at F12
  rw [show txt 0 = ⟨#[48]⟩ from wh0.1.symm] at F9
  clear hG hL hv hG' hL' hv' hG2 hL2 hv2 ndX ndY ndZ ndT ndP ndR ndU ndM ndQ ndD ndW whX whY whZ whT whP whR whU whM whQ whD whW wh0 hSA hSB hSC hST hSP hSR hSU hSM hSQ hSD hSW eT eP eR eU eM eQ eD eW
  go_enter Tryz.func4, Tryz.ntmps4
  go_wp2_with fail
  have hb0 : Ext w (((w.alloc (.cells #[.bool b, .slice G L.length gc, .int .u16 (z : Int)] 25)).alloc (.cells #[.bool b', .slice G' L'.length gc', .int .u16 (z' : Int)] 25)).alloc (.cells #[.bool b2, .slice G2 L2.length gc2, .int .u16 (z2 : Int)] 25)) := inferInstance
  have HB := Lib.hid hb0
  have ht0 := ht.to hb0
  have he0 := he.to hb0
  refine (works_spec _).mono ?_
  rintro e w0 ⟨rfl, hx⟩
  obtain ⟨⟨q0, q1, q2⟩, ⟨q3, q4, q5⟩, q6, q7, q8⟩ := boxT hx
  have HX := Lib.hid hx
  clear hx ht0 he0 hb0
  go_wp2_with fail
  go_region_held3 (fun w' => (w'.cell? ⟨w.heap.size, 0, none⟩ = some (.bool b) ∧ w'.cell? ⟨w.heap.size, 1, none⟩ = some (.slice G L.length gc) ∧ w'.cell? ⟨w.heap.size, 2, none⟩ = some (.int .u16 (z : Int))) ∧ (w'.cell? ⟨w.heap.size + 1, 0, none⟩ = some (.bool b') ∧ w'.cell? ⟨w.heap.size + 1, 1, none⟩ = some (.slice G' L'.length gc') ∧ w'.cell? ⟨w.heap.size + 1, 2, none⟩ = some (.int .u16 (z' : Int))) ∧ (w'.cell? ⟨w.heap.size + 2, 0, none⟩ = some (.bool b2) ∧ w'.cell? ⟨w.heap.size + 2, 1, none⟩ = some (.slice G2 L2.length gc2) ∧ w'.cell? ⟨w.heap.size + 2, 2, none⟩ = some (.int .u16 (z2 : Int)))) (go_keep) (first
    | (go_at_call 21; (with_reducible refine (CX.out _ (by exact (HG.out.ext (x := Ext.tr (h := HB.out) HX.out)).ext)).mono ?_); rintro e w5 ⟨rfl, hx⟩; (try (replace hx := hx.undrew)); replace HX := Lib.hid (Ext.tr (h := HX.out) hx); clear hx q0 q1 q2 q3 q4 q5 q6 q7 q8; obtain ⟨⟨q0, q1, q2⟩, ⟨q3, q4, q5⟩, q6, q7, q8⟩ := boxT HX.out)
    | (go_at_call 21; (with_reducible refine (CY.out _ (by exact (HG'.out.ext (x := Ext.tr (h := HB.out) HX.out)).ext)).mono ?_); rintro e w5 ⟨rfl, hx⟩; (try (replace hx := hx.undrew)); replace HX := Lib.hid (Ext.tr (h := HX.out) hx); clear hx q0 q1 q2 q3 q4 q5 q6 q7 q8; obtain ⟨⟨q0, q1, q2⟩, ⟨q3, q4, q5⟩, q6, q7, q8⟩ := boxT HX.out)
    | (go_at_call 21; (with_reducible refine (CZ.out _ (by exact (HG2.out.ext (x := Ext.tr (h := HB.out) HX.out)).ext)).mono ?_); rintro e w5 ⟨rfl, hx⟩; (try (replace hx := hx.undrew)); replace HX := Lib.hid (Ext.tr (h := HX.out) hx); clear hx q0 q1 q2 q3 q4 q5 q6 q7 q8; obtain ⟨⟨q0, q1, q2⟩, ⟨q3, q4, q5⟩, q6, q7, q8⟩ := boxT HX.out))
  all_goals
    clear q0 q1 q2 q3 q4 q5 q6 q7 q8
    replace HX := Lib.hid (Ext.tr (h := HB.out) HX.out)
    go_wp2_with fail
    have ht1 := ht.to HX.out
    refine (addw_spec SA SB _).mono ?_
    rintro e w1 ⟨rfl, hx⟩
    rw [F1.out.1, F1.out.2]
    clear ht1
    replace HX := Lib.hid (Ext.tr (h := HX.out) hx); clear hx
    go_wp2_with fail
    have ht2 := ht.to HX.out
    refine (addw_spec SB SA _).mono ?_
    rintro e w2 ⟨rfl, hx⟩
    rw [F2.out.1, F2.out.2]
    clear ht2
    replace HX := Lib.hid (Ext.tr (h := HX.out) hx); clear hx
    go_wp2_with fail
    have ht3 := ht.to HX.out
    refine (subw_spec ST SB _).mono ?_
    rintro e w3 ⟨rfl, hx⟩
    rw [F3.out.1, F3.out.2]
    clear ht3
    replace HX := Lib.hid (Ext.tr (h := HX.out) hx); clear hx
    go_wp2_with fail
    have ht4 := ht.to HX.out
    refine (mulw_spec SA SC _).mono ?_
    rintro e w4 ⟨rfl, hx⟩
    rw [F4.out.1, F4.out.2]
    clear ht4
    replace HX := Lib.hid (Ext.tr (h := HX.out) hx); clear hx
    go_wp2_with fail
    have ht5 := ht.to HX.out
    refine (mulw_spec SC SA _).mono ?_
    rintro e w5 ⟨rfl, hx⟩
    rw [F5.out.1, F5.out.2]
    clear ht5
    replace HX := Lib.hid (Ext.tr (h := HX.out) hx); clear hx
    go_wp2_with fail
    have ht6 := ht.to HX.out
    refine (mulw_spec SB SC _).mono ?_
    rintro e w6 ⟨rfl, hx⟩
    rw [F6.out.1, F6.out.2]
    clear ht6
    replace HX := Lib.hid (Ext.tr (h := HX.out) hx); clear hx
    go_wp2_with fail
    have ht7 := ht.to HX.out
    refine (addw_spec SP SR _).mono ?_
    rintro e w7 ⟨rfl, hx⟩
    rw [F7.out.1, F7.out.2]
    clear ht7
    replace HX := Lib.hid (Ext.tr (h := HX.out) hx); clear hx
    go_wp2_with fail
    have ht8 := ht.to HX.out
    refine (mulw_spec ST SC _).mono ?_
    rintro e w8 ⟨rfl, hx⟩
    rw [F8.out.1, F8.out.2]
    clear ht8
    replace HX := Lib.hid (Ext.tr (h := HX.out) hx); clear hx
    by_cases h0 : Z = 0
    · have hzt2 : (SC.toList == [48]) = true := hzt.trans (decide_eq_true h0)
      clear hzt h0 U1 U2
      go_wp2_with fail
      go_ret
      exact ⟨rfl, HX.out⟩
    have hzt2 : (SC.toList == [48]) = false := hzt.trans (decide_eq_false h0)
    have HZ0 := Lib.hid h0
    obtain ⟨lo, hlo⟩ : ∃ lo, D.sign = lo := ⟨_, rfl⟩
    obtain ⟨hi, hhi⟩ : ∃ lo, (D - M).sign = lo := ⟨_, rfl⟩
    have g1 := U1 h0; have g2 := U2 h0
    rw [hlo] at g1; rw [hhi] at g2
    have HLO := Lib.hid hlo; have HHI := Lib.hid hhi
    clear hzt h0 U1 U2 hlo hhi
    go_wp2_with fail
    replace F9 := Lib.hid (F9.out HZ0.out); replace F11 := Lib.hid (F11.out HZ0.out); replace F13 := Lib.hid (F13.out HZ0.out); replace F14 := Lib.hid (F14.out HZ0.out); replace F15 := Lib.hid (F15.out HZ0.out)
    have ht9 := ht.to HX.out
    refine (div_spec SP SC _).mono ?_
    rintro e w9 ⟨rfl, hx⟩
    rw [F9.out.1, F9.out.2.1, F9.out.2.2]
    clear ht9
    replace HX := Lib.hid (Ext.tr (h := HX.out) hx); clear hx
    go_wp2_with fail
    refine (abs_spec SC _).mono ?_
    rintro e w10 ⟨rfl, hx⟩
    rw [F10.out.1, F10.out.2]
    replace HX := Lib.hid (Ext.tr (h := HX.out) hx); clear hx
    go_wp2_with fail
    have ht11 := ht.to HX.out
    refine (div_spec SA SC _).mono ?_
    rintro e w11 ⟨rfl, hx⟩
    rw [F11.out.1, F11.out.2.1, F11.out.2.2]
    clear ht11
    replace HX := Lib.hid (Ext.tr (h := HX.out) hx); clear hx
    go_wp2_with fail
    have ht12 := ht.to HX.out
    refine (mulw_spec SQ SC _).mono ?_
    rintro e w12 ⟨rfl, hx⟩
    rw [F12.out.1, F12.out.2]
    clear ht12
    replace HX := Lib.hid (Ext.tr (h := HX.out) hx); clear hx
    go_wp2_with fail
    have ht13 := ht.to HX.out
    refine (addw_spec SW SD _).mono ?_
    rintro e w13 ⟨rfl, hx⟩
    rw [F13.out.1, F13.out.2]
    clear ht13
    replace HX := Lib.hid (Ext.tr (h := HX.out) hx); clear hx
    go_wp2_with fail
    refine (sign_spec SD _).mono ?_
    rintro e w14 ⟨rfl, hx⟩
    rw [F14.out]
    dsimp only
    rw [HLO.out]
    replace HX := Lib.hid (Ext.tr (h := HX.out) hx); clear hx
    go_wp2_with fail
    refine (cmpw_spec SD SM _).mono ?_
    rintro e w15 ⟨rfl, hx⟩
    rw [F15.out.1, F15.out.2, HHI.out]
    replace HX := Lib.hid (Ext.tr (h := HX.out) hx); clear hx
    go_wp2_with fail
    go_ret
    exact ⟨rfl, HX.out⟩
end Go.Proofs.YtkmmkobiigddkaaGreatDoor
