import Derived.Test.YtkmmkobiigddkaaGreatDoorProg
import Derived.Test.YtkmmkobiigddkaaGreatDoorMassG
import Derived.Laws.BitsAllLaws
import Derived.Laws.BitsLemmas
/-! The walks of package whole's magnitudes: Common, Raised. -/
set_option linter.unusedVariables false
set_option linter.unusedSimpArgs false
set_option maxRecDepth 100000
namespace Go.Proofs.YtkmmkobiigddkaaGreatDoor
open Go.RowKit

set_option maxHeartbeats 1000000 in
theorem common_spec (A B : Option Addr) (c d m n : Nat) (w : World) (ha : Num Big .u64 w A c m) (hb : Num Big .u64 w B d n) (hm : dl Big m ≤ 274877906944) (hn : dl Big n ≤ 274877906944) :
    Calls Tryz.prog 60 #[.slice A (dl Big m) c, .slice B (dl Big n) d] w (RetNum Big .u64 w (Nat.gcd m n)) := by
  have HA := Lib.hid ha
  have HB := Lib.hid hb
  clear ha hb
  go_enter Tryz.func60, Tryz.ntmps60
  go_wp2_with fail
  go_loopg [0, 1] n (fun g x y wr => ∃ (m' n' : Nat) (A' B' : Option Addr) (c' d' : Nat), x = .slice A' (dl Big m') c' ∧ y = .slice B' (dl Big n') d' ∧ n' ≤ g ∧ dl Big m' ≤ 274877906944 ∧ dl Big n' ≤ 274877906944 ∧
    Hid (Nat.gcd m' n' = Nat.gcd m n) ∧ Hid (Num Big .u64 wr A' c' m') ∧ Hid (Num Big .u64 wr B' d' n') ∧ Hid (Ext w wr))
  case atStart => exact ⟨m, n, A, B, c, d, rfl, rfl, Nat.le_refl _, hm, hn, Lib.hid rfl, HA, HB, Lib.hid inferInstance⟩
  case round =>
    clear HA HB
    obtain ⟨m', n', A', B', c', d', rfl, rfl, hg, hm', hn', HG, HA, HB, HX⟩ := hrel
    by_cases h0 : n' = 0
    · subst h0
      have hz : dl Big 0 = 0 := dl_zero Big
      have HZ := Lib.hid hz
      have hz2 : decide ((dl Big 0 : Int) > 0) = false := by rw [hz]; rfl
      have hz3 : ¬ (dl Big 0 : Int) > 0 := by omega
      clear hz hz2
      go_wp2_with fail
      go_ret
      have e := HG.out
      rw [Nat.gcd_zero_right] at e
      subst e
      exact ⟨A', c', rfl, HA.out, HX.out⟩
    · have hp := dl_pos big2 (show 0 < n' by omega)
      have hp1 : (0 : Int) < (dl Big n' : Int) := by omega
      have hmod : m' % n' < n' := Nat.mod_lt _ (by omega)
      have hdm : dl Big (m' % n') ≤ dl Big n' := dl_mono big2 (Nat.le_of_lt hmod)
      go_wp2_with fail
      refine (over_spec _ _ _ _ m' n' _ HA.out HB.out (by omega) hm').mono ?_
      rintro e w2 ⟨C, q, D, r, rfl, hC, hD, hx⟩
      have hC2 := Lib.hid hC
      have hD2 := Lib.hid hD
      have hB2 := Lib.hid (HB.out.ext (x := hx))
      have hX2 := Lib.hid (Ext.tr (h := HX.out) hx)
      clear hC hD HB HA HX hx
      go_wp2_with fail
      go_roundg (m' % n')
      case measure => omega
      case rel =>
        refine ⟨n', m' % n', B', D, d', r, rfl, rfl, Nat.le_refl _, hn', by omega, Lib.hid ?_, hB2, hD2, hX2⟩
        rw [← HG.out, Nat.gcd_comm n', ← Nat.gcd_rec, Nat.gcd_comm]

theorem dl_one : dl Big 1 = 1 := by unfold dl; rw [digs_pos big2 (by omega), Nat.div_eq_of_lt (by unfold Big; omega), digs_zero]; rfl
theorem dl_pow {b : Nat} (hb : 2 ≤ b) (m e : Nat) : dl b (m ^ e) ≤ e * dl b m + 1 := by
  refine dl_le hb _ _ ?_
  have h := lt_pow_dl hb m
  have h1 : m ^ e ≤ (b ^ dl b m) ^ e := Nat.pow_le_pow_left (Nat.le_of_lt h) e
  rw [← Nat.pow_mul, Nat.mul_comm] at h1
  have h2 : b ^ (e * dl b m) < b ^ (e * dl b m + 1) := Nat.pow_lt_pow_right (by omega) (by omega)
  omega
theorem bitLenAux_lt : ∀ k x : Nat, x < 2 ^ k → x < 2 ^ Lib.bitLenAux k x ∧ Lib.bitLenAux k x ≤ k
  | 0, x, h => by simp at h; subst h; simp [Lib.bitLenAux]
  | k + 1, x, h => by
    unfold Lib.bitLenAux
    split
    · rename_i h0; subst h0; exact ⟨by simp, by omega⟩
    · have h1 := bitLenAux_lt k (x / 2) (by rw [Nat.pow_succ] at h; omega)
      refine ⟨?_, by omega⟩
      rw [Nat.add_comm, Nat.pow_succ]; omega
theorem lt_two_bitLen (x : Nat) (h : x < 18446744073709551616) : x < 2 ^ Lib.bitLen x ∧ Lib.bitLen x ≤ 64 := bitLenAux_lt 64 x (by omega)
theorem and_one (x : Nat) (h : x < 9223372036854775808) : bits .and .i64 (x : Int) 1 = ((x % 2 : Nat) : Int) := by
  have h1 : bits .and .i64 (x : Int) ((1 : Nat) : Int) = ((x &&& 1 : Nat) : Int) := by
    have hx : x &&& 1 < 2 ^ 63 := Nat.and_lt_two_pow _ (by omega)
    have o : ∀ a : Nat, a < 9223372036854775808 → (BitVec.ofInt 64 (a : Int)).toNat = a := fun a ha => by
      rw [BitVec.ofInt_natCast, BitVec.toNat_ofNat]; exact Nat.mod_eq_of_lt (by omega)
    show IntKind.i64.wrap ((BitVec.ofInt 64 (x : Int) &&& BitVec.ofInt 64 ((1 : Nat) : Int)).toNat : Int) = _
    rw [BitVec.toNat_and, o x h, o 1 (by omega), IntKind.wrap_i64]
    omega
  rw [Nat.and_one_is_mod] at h1
  exact h1

set_option maxHeartbeats 1000000 in
theorem raised_spec (A : Option Addr) (c m n : Nat) (w : World) (ha : Num Big .u64 w A c m) (hm : n * dl Big m ≤ 137438953472) (hn : n ≤ 1099511627776) (hm1 : dl Big m ≤ 137438953472) :
    Calls Tryz.prog 66 #[.slice A (dl Big m) c, .int .i64 (n : Int)] w (RetNum Big .u64 w (m ^ n)) := by
  have HA := Lib.hid ha
  obtain ⟨hl, hl2⟩ := lt_two_bitLen n (by omega)
  obtain ⟨L, hL⟩ : ∃ L, Lib.bitLen n = L := ⟨_, rfl⟩
  rw [hL] at hl hl2
  have HL := Lib.hid hL
  have hD := Lib.hid hl
  have hL0 : (0 : Int) ≤ (L : Int) := by omega
  clear ha hL hl
  go_enter Tryz.func66, Tryz.ntmps66
  go_wp2_with fail
  refine (one_spec _ 1 rfl (by unfold Big; omega) _).mono ?_
  rintro e w2 ⟨O, oc, rfl, hO, hx⟩
  have HO := Lib.hid hO
  have HX := Lib.hid hx
  clear hO hx
  go_wp2_with fail
  refine (Tryz.bits_Len (n : Int) _ (by omega) (by omega)).mono ?_
  rintro e w' ⟨rfl, hw⟩
  obtain rfl := hw.symm
  rw [Int.toNat_natCast, HL.out]
  clear hw
  go_wp2_with fail
  go_loopw [5, 6] (fun x i wr => ∃ (k r : Nat) (P : Option Addr) (pc : Nat), k ≤ L ∧ i = .int .i64 ((k : Int) - 1) ∧ x = .slice P (dl Big r) pc ∧ Hid (r = m ^ (n / 2 ^ k)) ∧ Hid (Num Big .u64 wr P pc r) ∧ Hid (Ext w wr)) (fun _ i _ => (intOf i + 1).toNat)
  case atStart => exact ⟨L, 1, O, oc, Nat.le_refl _, rfl, rfl, Lib.hid (by rw [Nat.div_eq_of_lt hD.out]; rfl), HO, HX⟩
  case round =>
    clear HO HX
    obtain ⟨k, r, P, pc, hk, rfl, rfl, HR, HP, HX⟩ := hrel
    rcases k with _ | k
    · go_wp2_with fail
      go_ret
      have e := HR.out
      rw [Nat.pow_zero, Nat.div_one] at e
      subst e
      exact ⟨P, pc, rfl, HP.out, HX.out⟩
    · rw [show ((k + 1 : Nat) : Int) - 1 = (k : Int) by omega]
      have hd : dl Big r ≤ 137438953473 := by
        rw [HR.out]
        have h1 := dl_pow big2 m (n / 2 ^ (k + 1))
        have h2 : n / 2 ^ (k + 1) * dl Big m ≤ n * dl Big m := Nat.mul_le_mul_right _ (Nat.div_le_self _ _)
        omega
      go_wp2_with fail
      refine (times_spec _ _ _ _ r r _ HP.out HP.out (by omega) (by omega)).mono ?_
      rintro e w3 ⟨S, sc, rfl, hS, hx⟩
      have HS := Lib.hid hS
      have HX3 := Lib.hid (Ext.tr (h := HX.out) hx)
      clear hS hx
      obtain ⟨y, hy⟩ : ∃ y, n / 2 ^ k = y := ⟨_, rfl⟩
      have hlt : y < 9223372036854775808 := by rw [← hy]; exact Nat.lt_of_le_of_lt (Nat.div_le_self _ _) (by omega)
      have hk63 : (k : Int) ≤ 64 := by omega
      have hk0 : (0 : Int) ≤ (k : Int) := by omega
      have hand := and_one y hlt
      have hyi : (y : Int) = (n : Int) / 2 ^ k := by rw [← hy, Int.natCast_ediv]; norm_cast
      rw [hyi] at hand
      have hr2 : r = m ^ (y / 2) := by rw [HR.out, ← hy, Nat.div_div_eq_div_mul, Nat.pow_succ]
      have HR2 := Lib.hid hr2
      have HY := Lib.hid hy
      clear hr2 hy hyi
      by_cases hb : y % 2 = 1
      · rw [hb] at hand
        have HB := Lib.hid hb
        clear hb
        go_wp2_with fail
        refine (times_spec _ _ _ _ (r * r) m _ HS.out (HA.out.ext (x := HX3.out)) (by have := dl_mul big2 r r; omega) (by omega)).mono ?_
        rintro e w4 ⟨T, tc, rfl, hT, hx⟩
        have HT := Lib.hid hT
        have HX4 := Lib.hid (Ext.tr (h := HX3.out) hx)
        clear hT hx
        go_wp2_with fail
        refine ⟨⟨k, r * r * m, T, tc, by omega, rfl, rfl, Lib.hid ?_, HT, HX4⟩, by simp [intOf]⟩
        rw [HR2.out, HY.out, ← Nat.pow_add, ← Nat.pow_succ]
        congr 1
        have := HB.out; omega
      · have hb0 : y % 2 = 0 := by omega
        rw [hb0] at hand
        have HB := Lib.hid hb0
        clear hb hb0
        go_wp2_with fail
        refine ⟨⟨k, r * r, S, sc, by omega, rfl, rfl, Lib.hid ?_, HS, HX3⟩, by simp [intOf]⟩
        rw [HR2.out, HY.out, ← Nat.pow_add]
        congr 1
        have := HB.out; omega
end Go.Proofs.YtkmmkobiigddkaaGreatDoor
