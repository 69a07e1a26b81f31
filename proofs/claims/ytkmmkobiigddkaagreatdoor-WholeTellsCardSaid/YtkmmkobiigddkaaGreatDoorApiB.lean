import Derived.Test.YtkmmkobiigddkaaGreatDoorProg
import Derived.Test.YtkmmkobiigddkaaGreatDoorApi
/-! The walks of package whole's exported functions: Int, Cmp, Gcd, Pow, Root. -/
set_option linter.unusedVariables false
set_option linter.unusedSimpArgs false
set_option maxRecDepth 100000
namespace Go.Proofs.YtkmmkobiigddkaaGreatDoor
open Go.RowKit

theorem atoi_ok (s : ByteArray) (z : Int) (hz : Wh s z) (h : -9223372036854775808 ≤ z ∧ z ≤ 9223372036854775807) (w : World) :
    Calls Tryz.prog 46 #[.string s] w (Ret w (.tuple #[.int .i64 z, .nilIface])) := by
  have hs : s.data.toList = Lib.itoa z := by rw [hz.1]; exact List.toList_toArray
  have hl : s.size ≤ 601 := by
    have h1 : s.size = s.data.toList.length := Array.length_toList.symm
    rw [h1, hs]
    rcases Int.lt_or_le z 0 with h2 | h2
    · rw [itoa_below h2, List.length_cons, Lib.decDigits_length]; have := hz.2; omega
    · rw [itoa_pos h2, Lib.decDigits_length]; have := hz.2; omega
  refine (Tryz.strconv_Atoi_ok s (by omega) z (by rw [hs, atoi_itoa, if_pos h]) w).mono fun e w' k => ⟨k.1, ?_⟩
  rcases k.2 with rfl | ⟨t, rfl⟩
  · exact Ext.rf _
  · exact ⟨Joins.below_bytesWorld _ _ _ _ (Nat.le_refl _)⟩
/-- Atoi's answer at a number that is none of 64 bits. -/
def RetErr (w : World) (e : Ending) (w' : World) : Prop := ∃ (n : Int) (N : Nat), e = .returned (.tuple #[.int .i64 n, .iface 137 (.pointer (some ⟨N, 0, none⟩))]) ∧ Ext w w'
theorem atoi_big (s : ByteArray) (z : Int) (hz : Wh s z) (h : ¬ (-9223372036854775808 ≤ z ∧ z ≤ 9223372036854775807)) (w : World) [he : Errs w] :
    Calls Tryz.prog 46 #[.string s] w (RetErr w) := by
  have hs : s.data.toList = Lib.itoa z := by rw [hz.1]; exact List.toList_toArray
  have hl : s.size ≤ 601 := by
    have h1 : s.size = s.data.toList.length := Array.length_toList.symm
    rw [h1, hs]
    rcases Int.lt_or_le z 0 with h2 | h2
    · rw [itoa_below h2, List.length_cons, Lib.decDigits_length]; have := hz.2; omega
    · rw [itoa_pos h2, Lib.decDigits_length]; have := hz.2; omega
  obtain ⟨tp, p, hv⟩ := he.rng
  refine (Tryz.strconv_Atoi_range_var s (by omega) (by rw [hs, atoi_itoa, if_neg h]) tp p w hv).mono fun e w' k => ?_
  obtain ⟨N, h1, _, _, h4⟩ := k
  exact ⟨_, N, h1, ⟨h4⟩⟩
set_option maxHeartbeats 1000000 in
theorem int_spec (s : ByteArray) (w : World) [he : Errs w] :
    Calls Tryz.prog 13 #[.string s] w (Ret w (.tuple #[.int .i64 (intV s), .int .i64 (intE s)])) := by
  unfold intV intE
  rcases pz_or s with ⟨z, hz, hp⟩ | ⟨hz, hp⟩
  · rw [hp]
    have HZ := Lib.hid hz
    by_cases hr : -9223372036854775808 ≤ z ∧ z ≤ 9223372036854775807
    · show Calls _ _ _ _ (Ret w (.tuple #[.int .i64 (if -9223372036854775808 ≤ z ∧ z ≤ 9223372036854775807 then z else 0), .int .i64 (if -9223372036854775808 ≤ z ∧ z ≤ 9223372036854775807 then 0 else 6)]))
      rw [if_pos hr, if_pos hr]
      have HR := Lib.hid hr
      clear hz hp hr
      go_enter Tryz.func13, Tryz.ntmps13
      go_wp2_with fail
      refine (check_wh s z HZ.out _).mono ?_
      rintro e w1 ⟨rfl, hx⟩
      have HX := Lib.hid hx
      clear hx
      go_wp2_with fail
      refine (atoi_ok s z HZ.out HR.out _).mono ?_
      rintro e w2 ⟨rfl, hx⟩
      replace HX := Lib.hid (Ext.tr (h := HX.out) hx)
      clear hx
      go_wp2_with fail
      go_ret2
      exact ⟨rfl, HX.out⟩
    · show Calls _ _ _ _ (Ret w (.tuple #[.int .i64 (if -9223372036854775808 ≤ z ∧ z ≤ 9223372036854775807 then z else 0), .int .i64 (if -9223372036854775808 ≤ z ∧ z ≤ 9223372036854775807 then 0 else 6)]))
      rw [if_neg hr, if_neg hr]
      have HR := Lib.hid hr
      clear hz hp hr
      go_enter Tryz.func13, Tryz.ntmps13
      go_wp2_with fail
      refine (check_wh s z HZ.out _).mono ?_
      rintro e w1 ⟨rfl, hx⟩
      have HX := Lib.hid hx
      have he1 := he.to hx
      clear hx
      go_wp2_with fail
      refine (atoi_big s z HZ.out HR.out _).mono ?_
      rintro e w2 ⟨n, N, rfl, hx⟩
      replace HX := Lib.hid (Ext.tr (h := HX.out) hx)
      clear hx
      go_wp2_with fail
      go_ret2
      exact ⟨rfl, HX.out⟩
  · rw [hp]
    have HZ := Lib.hid hz
    clear hz hp
    go_enter Tryz.func13, Tryz.ntmps13
    go_wp2_with fail
    refine (check_none s HZ.out _).mono ?_
    rintro e w1 ⟨rfl, hx⟩
    have HX := Lib.hid hx
    clear hx
    go_wp2_with fail
    go_ret2
    exact ⟨rfl, HX.out⟩
noncomputable def cmpV (s t : ByteArray) : Int := match pz s, pz t with | some x, some y => (x - y).sign | _, _ => 0
noncomputable def cmpE (s t : ByteArray) : Int := match pz s, pz t with | some x, some y => 0 | _, _ => 10
set_option maxHeartbeats 1000000 in
theorem cmpw_spec (s t : ByteArray) (w : World) :
    Calls Tryz.prog 17 #[.string s, .string t] w (Ret w (.tuple #[.int .i64 (cmpV s t), .int .i64 (cmpE s t)])) := by
  unfold cmpV cmpE
  rcases pz_or s with ⟨x, hx, hp⟩ | ⟨hx, hp⟩
  · rw [hp]
    have HX0 := Lib.hid hx
    have hdx := hx.dl
    rcases pz_or t with ⟨y, hy, hq⟩ | ⟨hy, hq⟩
    · rw [hq]
      have HY0 := Lib.hid hy
      have hdy := hy.dl
      obtain ⟨g, hg⟩ : ∃ g, (x - y).sign = g := ⟨_, rfl⟩
      show Calls _ _ _ _ (Ret w (.tuple #[.int .i64 (x - y).sign, .int .i64 0]))
      rw [hg]
      have HG := Lib.hid hg
      clear hx hp hy hq hg
      go_enter Tryz.func17, Tryz.ntmps17
      go_wp2_with fail
      refine (check_wh s x HX0.out _).mono ?_
      rintro e w1 ⟨rfl, hx⟩
      have HX := Lib.hid hx
      clear hx
      go_wp2_with fail
      refine (check_wh t y HY0.out _).mono ?_
      rintro e w2 ⟨rfl, hx⟩
      replace HX := Lib.hid (Ext.tr (h := HX.out) hx)
      clear hx
      go_wp2_with fail
      refine (read_spec s x HX0.out _).mono ?_
      rintro e w3 ⟨A, c, rfl, hA, hx⟩
      replace HX := Lib.hid (Ext.tr (h := HX.out) hx)
      have HA := Lib.hid hA
      clear hx hA
      go_wp2_with fail
      refine (read_spec t y HY0.out _).mono ?_
      rintro e w4 ⟨B, d, rfl, hB, hx⟩
      replace HX := Lib.hid (Ext.tr (h := HX.out) hx)
      replace HA := Lib.hid (HA.out.ext (x := hx))
      have HB := Lib.hid hB
      clear hx hB
      go_wp2_with fail
      refine (order_spec _ _ _ _ x y _ HA.out HB.out (by omega) (by omega)).mono ?_
      rintro e w5 ⟨rfl, hx⟩
      rw [HG.out]
      replace HX := Lib.hid (Ext.tr (h := HX.out) hx)
      clear hx
      go_wp2_with fail
      go_ret2
      exact ⟨rfl, HX.out⟩
    · rw [hq]
      have HY0 := Lib.hid hy
      clear hx hp hy hq
      go_enter Tryz.func17, Tryz.ntmps17
      go_wp2_with fail
      refine (check_wh s x HX0.out _).mono ?_
      rintro e w1 ⟨rfl, hx⟩
      have HX := Lib.hid hx
      clear hx
      go_wp2_with fail
      refine (check_none t HY0.out _).mono ?_
      rintro e w2 ⟨rfl, hx⟩
      replace HX := Lib.hid (Ext.tr (h := HX.out) hx)
      clear hx
      go_wp2_with fail
      go_ret2
      exact ⟨rfl, HX.out⟩
  · rw [hp]
    have HX0 := Lib.hid hx
    clear hx hp
    go_enter Tryz.func17, Tryz.ntmps17
    go_wp2_with fail
    refine (check_none s HX0.out _).mono ?_
    rintro e w1 ⟨rfl, hx⟩
    have HX := Lib.hid hx
    clear hx
    go_wp2_with fail
    go_ret2
    exact ⟨rfl, HX.out⟩
end Go.Proofs.YtkmmkobiigddkaaGreatDoor
