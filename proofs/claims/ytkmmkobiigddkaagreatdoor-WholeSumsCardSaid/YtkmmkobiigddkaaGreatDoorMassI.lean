import Derived.Test.YtkmmkobiigddkaaGreatDoorProg
import Derived.Test.YtkmmkobiigddkaaGreatDoorMassH
/-! The walk of package whole's root; the plain facts on Newton's steps. -/
set_option linter.unusedVariables false
set_option linter.unusedSimpArgs false
set_option maxRecDepth 100000
namespace Go.Proofs.YtkmmkobiigddkaaGreatDoor
open Go.RowKit

/-- r is the k-th root of m, rounded down. -/
def IsRoot (k m r : Nat) : Prop := r ^ k ≤ m ∧ m < (r + 1) ^ k
theorem amgm (r x : Nat) : ∀ k : Nat, (k + 1) * r * x ^ k ≤ r ^ (k + 1) + k * x ^ (k + 1)
  | 0 => by simp
  | k + 1 => by
    have ih := Nat.mul_le_mul_left r (amgm r x k)
    have h2 : 2 * (r * x) ≤ r * r + x * x := by
      have sq : ∀ a d : Nat, (a + d) * (a + d) = a * a + 2 * (a * d) + d * d := fun a d => by rw [Nat.add_mul, Nat.mul_add, Nat.mul_add, Nat.mul_comm d a]; omega
      rcases Nat.le_total r x with h | h
      · obtain ⟨d, rfl⟩ := Nat.exists_eq_add_of_le h
        rw [sq, Nat.mul_add]; omega
      · obtain ⟨d, rfl⟩ := Nat.exists_eq_add_of_le h
        rw [sq, Nat.add_mul, Nat.mul_comm d x]; omega
    have h3 := Nat.mul_le_mul_left ((k + 1) * x ^ k) h2
    have e1 : r * ((k + 1) * r * x ^ k) = (k + 1) * x ^ k * (r * r) := by
      rw [Nat.mul_right_comm (k + 1) r, Nat.mul_left_comm]
    have e2 : (k + 1) * x ^ k * (x * x) = (k + 1) * x ^ (k + 2) := by rw [Nat.pow_succ, Nat.pow_succ, Nat.mul_assoc, Nat.mul_assoc]
    have e3 : (k + 1) * x ^ k * (2 * (r * x)) = 2 * ((k + 1) * (r * x ^ (k + 1))) := by
      rw [Nat.pow_succ, Nat.mul_left_comm _ 2, Nat.mul_assoc (k + 1), Nat.mul_left_comm (x ^ k) r]
    have e4 : r * (r ^ (k + 1) + k * x ^ (k + 1)) = r ^ (k + 2) + k * (r * x ^ (k + 1)) := by
      rw [Nat.mul_add, Nat.pow_succ r (k + 1), Nat.mul_comm (r ^ (k + 1)) r, Nat.mul_left_comm]
    have e5 : (k + 1 + 1) * r * x ^ (k + 1) = (k + 1) * (r * x ^ (k + 1)) + r * x ^ (k + 1) := by rw [Nat.mul_assoc, Nat.add_mul, Nat.one_mul]
    have e6 : (k + 1) * (r * x ^ (k + 1)) = k * (r * x ^ (k + 1)) + r * x ^ (k + 1) := by rw [Nat.add_mul, Nat.one_mul]
    rw [Nat.mul_add] at h3
    rw [e1, e4] at ih
    rw [e2, e3] at h3
    show (k + 1 + 1) * r * x ^ (k + 1) ≤ r ^ (k + 2) + (k + 1) * x ^ (k + 2)
    rw [e5]
    rw [e6] at h3 ⊢
    clear e1 e2 e3 e4 e5 e6
    generalize r * x ^ (k + 1) = W at *
    generalize (k + 1) * x ^ k * (r * r) = S at *
    generalize (k + 1) * x ^ (k + 2) = U at *
    generalize r ^ (k + 2) = R at *
    generalize k * W = V at *
    omega
theorem newton_ge {k m r x : Nat} (hx : 0 < x) (h : r ^ (k + 1) ≤ m) : r ≤ (x * k + m / x ^ k) / (k + 1) := by
  have hp : 0 < x ^ k := Nat.pow_pos hx
  rw [Nat.le_div_iff_mul_le (by omega)]
  have h1 := amgm r x k
  have h2 : (k + 1) * r * x ^ k ≤ m + x ^ k * (x * k) := by
    have e : k * x ^ (k + 1) = x ^ k * (x * k) := by rw [Nat.pow_succ, Nat.mul_comm k, Nat.mul_assoc]
    omega
  have h3 := (Nat.le_div_iff_mul_le hp).2 h2
  rw [Nat.add_mul_div_left _ _ hp, Nat.mul_comm (k + 1)] at h3
  omega
theorem newton_stop {k m x : Nat} (hx : 0 < x) (h : x ≤ (x * k + m / x ^ k) / (k + 1)) : x ^ (k + 1) ≤ m := by
  have hp : 0 < x ^ k := Nat.pow_pos hx
  rw [Nat.le_div_iff_mul_le (by omega), Nat.mul_add] at h
  have h1 : x ≤ m / x ^ k := by omega
  have h2 := (Nat.le_div_iff_mul_le hp).1 h1
  rwa [Nat.pow_succ, Nat.mul_comm]
theorem root_le {k m r x : Nat} (hr : IsRoot (k + 1) m r) (h : x ^ (k + 1) ≤ m) : x ≤ r := by
  refine Nat.le_of_not_lt fun hlt => ?_
  have := Nat.pow_le_pow_left (show r + 1 ≤ x from hlt) (k + 1)
  have := hr.2
  omega
theorem root_start {k m r : Nat} (hr : IsRoot (k + 1) m r) : r ≤ Big ^ ((dl Big m + (k + 1) - 1) / (k + 1)) := by
  refine Nat.le_of_not_lt fun hlt => ?_
  have h1 := Nat.pow_le_pow_left (Nat.le_of_lt hlt) (k + 1)
  rw [← Nat.pow_mul] at h1
  have h2 : dl Big m ≤ (dl Big m + (k + 1) - 1) / (k + 1) * (k + 1) := by
    have := Nat.div_add_mod (dl Big m + (k + 1) - 1) (k + 1)
    have := Nat.mod_lt (dl Big m + (k + 1) - 1) (show 0 < k + 1 by omega)
    rw [Nat.mul_comm]; omega
  have h3 : Big ^ dl Big m ≤ Big ^ ((dl Big m + (k + 1) - 1) / (k + 1) * (k + 1)) := Nat.pow_le_pow_right (by have := big2; omega) h2
  have h4 := lt_pow_dl big2 m
  have := hr.1
  omega
theorem digs_bigpow (j : Nat) : (List.replicate (j + 1) 0).set j 1 = digs Big (Big ^ j) := by
  have h := digs_shift_pos big2 1 j (by omega)
  have h1 : digs Big 1 = [1] := by rw [digs_pos big2 (by omega), Nat.div_eq_of_lt (by unfold Big; omega), digs_zero]; rfl
  rw [h1, Nat.one_mul] at h
  rw [← h, List.replicate_succ']
  rw [List.set_append_right _ _ (by simp)]
  simp
theorem dl_bigpow (j : Nat) : dl Big (Big ^ j) = j + 1 := by
  unfold dl; rw [← digs_bigpow]; simp

set_option maxHeartbeats 1000000 in
theorem root_easy (A : Option Addr) (c m k r : Nat) (w : World) (ha : Num Big .u64 w A c m) (hr : IsRoot k m r) (hk : 1 ≤ k) (h : m = 0 ∨ k = 1) :
    Calls Tryz.prog 65 #[.slice A (dl Big m) c, .int .i64 (k : Int)] w (RetNum Big .u64 w r) := by
  have hrm : r = m := by
    rcases h with h | h
    · subst h
      obtain ⟨j, rfl⟩ := Nat.exists_eq_add_of_le hk
      rw [Nat.add_comm] at hr
      rcases Nat.eq_zero_or_pos r with h0 | h0
      · exact h0
      · have := Nat.pow_pos (n := j + 1) h0; have := hr.1; omega
    · subst h
      have := hr.1; have := hr.2; simp at *; omega
  subst hrm
  have HA := Lib.hid ha
  clear ha hr
  by_cases h0 : r = 0
  · have hz : ((dl Big r : Int) == 0) = true := by rw [h0, dl_zero]; rfl
    have HK := Lib.hid h
    clear h h0
    go_enter Tryz.func65, Tryz.ntmps65
    go_wp2_with fail
    go_ret
    exact ⟨A, c, rfl, HA.out.ext, inferInstance⟩
  · have hz : ((dl Big r : Int) == 0) = false := by have := dl_pos big2 (show 0 < r by omega); simp; omega
    have hk1 : ((k : Int) == 1) = true := by simp; omega
    clear h h0
    go_enter Tryz.func65, Tryz.ntmps65
    go_wp2_with fail
    go_ret
    exact ⟨A, c, rfl, HA.out.ext, inferInstance⟩

set_option maxHeartbeats 2000000 in
theorem root_main (A : Option Addr) (c m k r : Nat) (w : World) (ha : Num Big .u64 w A c m) (hr : IsRoot (k + 1) m r) (hk : 1 ≤ k) (hk2 : k ≤ 63) (hm : 0 < m) (hd : dl Big m ≤ 1073741824) :
    Calls Tryz.prog 65 #[.slice A (dl Big m) c, .int .i64 ((k + 1 : Nat) : Int)] w (RetNum Big .u64 w r) := by
  have hr0 : 1 ≤ r := by
    rcases Nat.eq_zero_or_pos r with h0 | h0
    · have := hr.2; rw [h0] at this; simp at this; omega
    · exact h0
  have hst := root_start hr
  obtain ⟨q, hq⟩ : ∃ q, (dl Big m + (k + 1) - 1) / (k + 1) = q := ⟨_, rfl⟩
  have hq1 : q ≤ dl Big m := by
    rw [← hq]
    refine Nat.lt_succ_iff.1 ((Nat.div_lt_iff_lt_mul (by omega)).2 ?_)
    have := dl_pos big2 hm
    have e : (dl Big m).succ * (k + 1) = dl Big m * k + dl Big m + (k + 1) := by rw [Nat.succ_mul, Nat.mul_add, Nat.mul_one]
    omega
  have hqi : ((dl Big m : Int) + ((k : Int) + 1) - 1) / ((k : Int) + 1) = (q : Int) := by
    rw [← hq]
    have e : ((dl Big m : Int) + ((k : Int) + 1) - 1) = ((dl Big m + (k + 1) - 1 : Nat) : Int) := by omega
    rw [e, Int.natCast_ediv]; rfl
  rw [hq] at hst
  have HR := Lib.hid hr
  have HST := Lib.hid hst
  have HA := Lib.hid ha
  have hz : ((dl Big m : Int) == 0) = false := by have := dl_pos big2 hm; simp; omega
  have hk1 : (((k : Int) + 1) == 1) = false := by simp; omega
  have hk3 : (0 : Int) ≤ (k : Int) := by omega
  have hq0 : (0 : Int) ≤ (q : Int) := by omega
  rw [show ((k + 1 : Nat) : Int) = (k : Int) + 1 by omega]
  clear ha hr hst hq
  go_enter Tryz.func65, Tryz.ntmps65
  go_wp2_with (at_make; refine wp_make (w0 := w) rfl (.tmp 25) 61 100 .u64 rfl Tryz.underlying61 el_u64 .i64 _ (q + 1) rfl (by omega) (by omega) inferInstance ?_; intro w1 hA; have h2 := hA.cell (j := q) (by simp); have h3 := hA.frozen q; have HX := Lib.hid hA; clear hA)
  have hs := (HX.out.set q 1).row
  rw [digs_bigpow] at hs
  have hxs := (HX.out.set q 1).ext
  have HS := Lib.hid hs
  have HXS := Lib.hid hxs
  have hdb := dl_bigpow q
  have HDB := Lib.hid hdb
  clear hs hxs h2 h3 hdb
  go_loopg [5] (Big ^ q) (fun g x wr => ∃ (v : Nat) (P : Option Addr) (pc : Nat), x = .slice P (dl Big v) pc ∧ v ≤ g ∧ dl Big v ≤ q + 1 ∧ r ≤ v ∧ Hid (Num Big .u64 wr P pc v) ∧ Hid (Ext w wr))
  case atStart => exact ⟨Big ^ q, _, q + 1, by rw [HDB.out], Nat.le_refl _, by rw [HDB.out]; omega, HST.out, HS, HXS⟩
  case round =>
    clear HS HXS HX
    obtain ⟨v, P, pc, rfl, hg, hdv, hrv, HP, HX⟩ := hrel
    have hkd : k * dl Big v ≤ 63 * 1073741825 := Nat.mul_le_mul hk2 (by omega)
    go_wp2_with fail
    refine (raised_spec _ _ v k _ HP.out (by omega) (by omega) (by omega)).mono ?_
    rintro e w2 ⟨O, oc, rfl, hO, hx⟩
    have HO := Lib.hid hO
    have HX2 := Lib.hid (Ext.tr (h := HX.out) hx)
    have HP2 := Lib.hid (HP.out.ext (x := hx))
    clear hO hx HP HX
    have hvp : 0 < v ^ k := Nat.pow_pos (by omega)
    go_wp2_with fail
    refine (over_spec _ _ _ _ m (v ^ k) _ (HA.out.ext (x := HX2.out)) HO.out hvp (by omega)).mono ?_
    rintro e w3 ⟨C, cq, D, cr, rfl, hC, hD, hx⟩
    have HC := Lib.hid hC
    have HX3 := Lib.hid (Ext.tr (h := HX2.out) hx)
    have HP3 := Lib.hid (HP2.out.ext (x := hx))
    clear hC hD hx HP2 HX2 HO
    go_wp2_with fail
    refine (one_spec _ k rfl (by unfold Big; omega) _).mono ?_
    rintro e w4 ⟨F, cf, rfl, hF, hx⟩
    have HF := Lib.hid hF
    have HX4 := Lib.hid (Ext.tr (h := HX3.out) hx)
    have HP4 := Lib.hid (HP3.out.ext (x := hx))
    have HC4 := Lib.hid (HC.out.ext (x := hx))
    clear hF hx HP3 HX3 HC
    have hdk : dl Big k ≤ 1 := dl_le big2 1 k (by rw [Nat.pow_one]; unfold Big; omega)
    go_wp2_with fail
    refine (times_spec _ _ _ _ v k _ HP4.out HF.out (by omega) (by omega)).mono ?_
    rintro e w5 ⟨G, cg, rfl, hG, hx⟩
    have HG := Lib.hid hG
    have HX5 := Lib.hid (Ext.tr (h := HX4.out) hx)
    have HP5 := Lib.hid (HP4.out.ext (x := hx))
    have HC5 := Lib.hid (HC4.out.ext (x := hx))
    clear hG hx HP4 HX4 HC4 HF
    have hdvk := dl_mul big2 v k
    have hdq : dl Big (m / v ^ k) ≤ dl Big m := dl_mono big2 (Nat.div_le_self _ _)
    go_wp2_with fail
    refine (plus_spec _ _ _ _ (v * k) (m / v ^ k) _ HG.out HC5.out (by omega) (by omega)).mono ?_
    rintro e w6 ⟨H, ch, rfl, hH, hx⟩
    have HH := Lib.hid hH
    have HX6 := Lib.hid (Ext.tr (h := HX5.out) hx)
    have HP6 := Lib.hid (HP5.out.ext (x := hx))
    clear hH hx HP5 HX5 HC5 HG
    have hds := dl_add big2 (v * k) (m / v ^ k)
    go_wp2_with fail
    refine (by_spec _ _ (v * k + m / v ^ k) (k + 1) _ HH.out (by omega) (by omega) (by omega)).mono ?_
    rintro e w7 ⟨Y, cy, rfl, hY, hx⟩
    have HY := Lib.hid hY
    have HX7 := Lib.hid (Ext.tr (h := HX6.out) hx)
    have HP7 := Lib.hid (HP6.out.ext (x := hx))
    clear hY hx HP6 HX6 HH
    have hge := newton_ge (k := k) (show 0 < v by omega) HR.out.1
    obtain ⟨y, hy⟩ : ∃ y, (v * k + m / v ^ k) / (k + 1) = y := ⟨_, rfl⟩
    have HYY := Lib.hid hy
    rw [hy] at HY hge ⊢
    clear hy
    go_wp2_with fail
    refine (cmp_spec _ _ _ _ y v _ HY.out HP7.out).mono ?_
    rintro e w8 ⟨rfl, hx⟩
    have HX8 := Lib.hid (Ext.tr (h := HX7.out) hx)
    have HP8 := Lib.hid (HP7.out.ext (x := hx))
    have HY8 := Lib.hid (HY.out.ext (x := hx))
    clear hx HP7 HX7 HY
    by_cases hc : v ≤ y
    · have hc2 : cmpN y v ≥ 0 := (cmpN_ge _ _).2 hc
      have hvr := root_le HR.out (newton_stop (show 0 < v by omega) (by rw [HYY.out]; exact hc))
      go_wp2_with fail
      go_ret
      obtain rfl : v = r := by omega
      exact ⟨P, pc, rfl, HP8.out, HX8.out⟩
    · have hc2 : ¬ cmpN y v ≥ 0 := fun h => hc ((cmpN_ge _ _).1 h)
      have hdy : dl Big y ≤ dl Big v := dl_mono big2 (by omega)
      go_wp2_with fail
      go_roundg y
      case measure => omega
      case rel => exact ⟨y, Y, cy, rfl, Nat.le_refl _, by omega, hge, HY8, HX8⟩
theorem root_spec (A : Option Addr) (c m k r : Nat) (w : World) (ha : Num Big .u64 w A c m) (hr : IsRoot k m r) (hk : 1 ≤ k) (hk2 : k ≤ 64) (hd : dl Big m ≤ 1073741824) :
    Calls Tryz.prog 65 #[.slice A (dl Big m) c, .int .i64 (k : Int)] w (RetNum Big .u64 w r) := by
  by_cases h : m = 0 ∨ k = 1
  · exact root_easy A c m k r w ha hr hk h
  · obtain ⟨j, rfl⟩ := Nat.exists_eq_add_of_le hk
    rw [Nat.add_comm] at hr h ⊢
    exact root_main A c m j r w ha hr (by omega) (by omega) (by omega) hd
end Go.Proofs.YtkmmkobiigddkaaGreatDoor
