import Derived.Test.YtkmmkobiigddkaaGreatDoorProg
import Derived.Test.YtkmmkobiigddkaaGreatDoorApiC
/-! The walks of package whole's exported functions: Root, Div. -/
set_option linter.unusedVariables false
set_option linter.unusedSimpArgs false
set_option maxRecDepth 100000
namespace Go.Proofs.YtkmmkobiigddkaaGreatDoor
open Go.RowKit

theorem IsRoot.ex (k : Nat) : ∀ m, ∃ r, IsRoot (k + 1) m r
  | 0 => ⟨0, by simp, by simp⟩
  | m + 1 => by
    obtain ⟨r, h1, h2⟩ := IsRoot.ex k m
    by_cases h : m + 1 < (r + 1) ^ (k + 1)
    · exact ⟨r, by omega, h⟩
    · refine ⟨r + 1, by omega, ?_⟩
      have : (r + 1) ^ (k + 1) < (r + 1 + 1) ^ (k + 1) := Nat.pow_lt_pow_left (by omega) (by omega)
      omega
theorem IsRoot.uniq {k m r q : Nat} (h : IsRoot (k + 1) m r) (g : IsRoot (k + 1) m q) : r = q := by
  have h1 := root_le h g.1
  have h2 := root_le g h.1
  omega
/-- The k-th root, rounded down. -/
noncomputable def iroot (k m : Nat) : Nat := by classical exact if h : ∃ r, IsRoot k m r then h.choose else 0
theorem iroot_is {k : Nat} (hk : 0 < k) (m : Nat) : IsRoot k m (iroot k m) := by
  obtain ⟨j, rfl⟩ : ∃ j, k = j + 1 := ⟨k - 1, by omega⟩
  have h := IsRoot.ex j m
  unfold iroot
  rw [dif_pos h]
  exact h.choose_spec
theorem iroot_eq {k m r : Nat} (hk : 0 < k) (h : IsRoot k m r) : iroot k m = r := by
  obtain ⟨j, rfl⟩ : ∃ j, k = j + 1 := ⟨k - 1, by omega⟩
  exact (iroot_is hk m).uniq h
theorem iroot_le {k : Nat} (hk : 0 < k) (m : Nat) : iroot k m ≤ m := by
  have h := (iroot_is hk m).1
  refine Nat.le_trans ?_ h
  rcases Nat.eq_zero_or_pos (iroot k m) with h0 | h0
  · omega
  · exact Nat.le_self_pow (by omega) _
noncomputable def rootS (s : ByteArray) (k : Int) : ByteArray := match pz s with | some x => if k < 1 ∨ 12 < k ∨ x < 0 then ⟨#[]⟩ else txt (iroot k.toNat x.natAbs : Nat) | none => ⟨#[]⟩
noncomputable def rootE (s : ByteArray) (k : Int) : Int := match pz s with | some x => if k < 1 ∨ 12 < k ∨ x < 0 then 2 else 0 | none => 10
set_option maxHeartbeats 1000000 in
theorem rootw_spec (s : ByteArray) (n : Int) (w : World) [ht : Tab w] :
    Calls Tryz.prog 29 #[.string s, .int .i64 n] w (Ret w (.tuple #[.string (rootS s n), .int .i64 (rootE s n)])) := by
  unfold rootS rootE
  rcases pz_or s with ⟨x, hx, hp⟩ | ⟨hx, hp⟩
  · rw [hp]
    have HX0 := Lib.hid hx
    have hdx := hx.dl
    show Calls _ _ _ _ (Ret w (.tuple #[.string (if n < 1 ∨ 12 < n ∨ x < 0 then ⟨#[]⟩ else txt (iroot n.toNat x.natAbs : Nat)), .int .i64 (if n < 1 ∨ 12 < n ∨ x < 0 then 2 else 0)]))
    by_cases hn : n < 1
    · rw [if_pos (.inl hn), if_pos (.inl hn)]
      clear hx hp
      go_enter Tryz.func29, Tryz.ntmps29
      go_wp2_with fail
      refine (check_wh s x HX0.out _).mono ?_
      rintro e w' ⟨rfl, hx⟩
      have HX := Lib.hid hx
      clear hx
      go_wp2_with fail
      refine (read_spec s x HX0.out _).mono ?_
      rintro e w' ⟨A, c, rfl, hA, hx⟩
      have HA := Lib.hid hA
      clear hA
      replace HX := Lib.hid (Ext.tr (h := HX.out) hx)
      clear hx
      go_wp2_with fail
      go_ret2
      exact ⟨rfl, Ext.al _ _ _ (h := HX.out)⟩
    · by_cases hn4 : 12 < n
      · rw [if_pos (.inr (.inl hn4)), if_pos (.inr (.inl hn4))]
        clear hx hp
        go_enter Tryz.func29, Tryz.ntmps29
        go_wp2_with fail
        refine (check_wh s x HX0.out _).mono ?_
        rintro e w' ⟨rfl, hx⟩
        have HX := Lib.hid hx
        clear hx
        go_wp2_with fail
        refine (read_spec s x HX0.out _).mono ?_
        rintro e w' ⟨A, c, rfl, hA, hx⟩
        have HA := Lib.hid hA
        clear hA
        replace HX := Lib.hid (Ext.tr (h := HX.out) hx)
        clear hx
        go_wp2_with fail
        go_ret2
        exact ⟨rfl, Ext.al _ _ _ (h := HX.out)⟩
      · rcases Int.lt_or_le x 0 with h3 | h3
        · rw [if_pos (.inr (.inr h3)), if_pos (.inr (.inr h3))]
          clear hx hp
          go_enter Tryz.func29, Tryz.ntmps29
          go_wp2_with fail
          refine (check_wh s x HX0.out _).mono ?_
          rintro e w' ⟨rfl, hx⟩
          have HX := Lib.hid hx
          clear hx
          go_wp2_with fail
          refine (read_spec s x HX0.out _).mono ?_
          rintro e w' ⟨A, c, rfl, hA, hx⟩
          rw [neg_true h3]
          have HA := Lib.hid hA
          clear hA
          replace HX := Lib.hid (Ext.tr (h := HX.out) hx)
          clear hx
          go_wp2_with fail
          go_ret2
          exact ⟨rfl, Ext.al _ _ _ (h := HX.out)⟩
        · rw [if_neg (by omega), if_neg (by omega)]
          obtain ⟨k, rfl⟩ : ∃ k : Nat, n = k := ⟨n.toNat, by omega⟩
          rw [Int.toNat_natCast]
          have hri := iroot_is (show 0 < k by omega) x.natAbs
          have hrl := iroot_le (show 0 < k by omega) x.natAbs
          obtain ⟨g, hg⟩ : ∃ g, iroot k x.natAbs = g := ⟨_, rfl⟩
          rw [hg] at hri hrl ⊢
          have hg6 : Lib.nDigits ((g : Nat) : Int).natAbs ≤ 600 := by rw [Int.natAbs_natCast]; exact nd_lt (by omega) hrl hx.2
          have hgd := dl_600 hg6
          have HGN := Lib.hid (show ((g : Nat) : Int).natAbs = g from Int.natAbs_natCast _)
          have HGF := Lib.hid (neg_false (Int.natCast_nonneg g))
          have HGT := Lib.hid (show told (g : Int) = .tuple #[.string (txt (g : Int)), .int .i64 0] by unfold told; rw [if_pos hg6])
          have HRI := Lib.hid hri
          clear hx hp hg hg6 hri
          go_enter Tryz.func29, Tryz.ntmps29
          go_wp2_with fail
          refine (check_wh s x HX0.out _).mono ?_
          rintro e w' ⟨rfl, hx⟩
          have HX := Lib.hid hx
          clear hx
          go_wp2_with fail
          refine (read_spec s x HX0.out _).mono ?_
          rintro e w' ⟨A, c, rfl, hA, hx⟩
          rw [neg_false h3]
          have HA := Lib.hid hA
          clear hA
          replace HX := Lib.hid (Ext.tr (h := HX.out) hx)
          clear hx
          go_wp2_with fail
          refine (root_spec _ _ x.natAbs k g _ HA.out.ext HRI.out (by omega) (by omega) (by omega)).mono ?_
          rintro e w' ⟨D, q, rfl, hD, hx⟩
          have HD := Lib.hid hD
          clear hD
          have ht2 := ht.to (Ext.tr (h := Ext.al _ _ _ (h := HX.out)) hx)
          replace HX := Lib.hid (Ext.tr (h := Ext.al _ _ _ (h := HX.out)) hx)
          clear hx
          go_wp2_with fail
          have ct := told_spec D q (g : Int) _ (by rw [HGN.out]; exact HD.out) (by omega)
          rw [HGN.out, HGF.out] at ct
          refine (ct).mono ?_
          rintro e w' ⟨rfl, hx⟩
          rw [HGT.out]
          replace HX := Lib.hid (Ext.tr (h := HX.out) hx)
          clear hx
          go_wp2_with fail
          go_ret2
          exact ⟨rfl, HX.out⟩
  · rw [hp]
    have HX0 := Lib.hid hx
    clear hx hp
    go_enter Tryz.func29, Tryz.ntmps29
    go_wp2_with fail
    refine (check_none s HX0.out _).mono ?_
    rintro e w' ⟨rfl, hx⟩
    have HX := Lib.hid hx
    clear hx
    go_wp2_with fail
    go_ret2
    exact ⟨rfl, HX.out⟩

noncomputable def divQ (s t : ByteArray) : ByteArray := match pz s, pz t with | some x, some y => if y = 0 then ⟨#[]⟩ else txt (x / y) | _, _ => ⟨#[]⟩
noncomputable def divR (s t : ByteArray) : ByteArray := match pz s, pz t with | some x, some y => if y = 0 then ⟨#[]⟩ else txt (x % y) | _, _ => ⟨#[]⟩
noncomputable def divE (s t : ByteArray) : Int := match pz s, pz t with | some x, some y => if y = 0 then 7 else 0 | _, _ => 10
theorem div_some {s t : ByteArray} {x y : Int} (h : pz s = some x) (k : pz t = some y) : divQ s t = (if y = 0 then ⟨#[]⟩ else txt (x / y)) ∧ divR s t = (if y = 0 then ⟨#[]⟩ else txt (x % y)) ∧ divE s t = (if y = 0 then 7 else 0) := by unfold divQ divR divE; rw [h, k]; exact ⟨rfl, rfl, rfl⟩
theorem div_none1 {s : ByteArray} (t : ByteArray) (h : pz s = none) : divQ s t = ⟨#[]⟩ ∧ divR s t = ⟨#[]⟩ ∧ divE s t = 10 := by unfold divQ divR divE; rw [h]; exact ⟨rfl, rfl, rfl⟩
theorem div_none2 (s : ByteArray) {t : ByteArray} (h : pz t = none) : divQ s t = ⟨#[]⟩ ∧ divR s t = ⟨#[]⟩ ∧ divE s t = 10 := by unfold divQ divR divE; rw [h]; cases pz s <;> exact ⟨rfl, rfl, rfl⟩
theorem ediv_le (x y : Int) : (x / y).natAbs ≤ x.natAbs := by
  have key : ∀ (a : Int) (b : Nat), 0 < b → (a / (b : Int)).natAbs ≤ a.natAbs := fun a b hb => by
    rcases Int.lt_or_le a 0 with h | h
    · obtain ⟨m, rfl⟩ : ∃ m : Nat, a = -(m : Int) := ⟨a.natAbs, by omega⟩
      rw [(euc m b hb).1]
      have h1 : m / b ≤ m := Nat.div_le_self _ _
      have h2 := Nat.div_add_mod m b
      split
      · generalize m / b = t at *; omega
      · rename_i h3
        have h4 : m / b + 1 ≤ m := by
          rcases Nat.lt_or_ge b 2 with h5 | h5
          · obtain rfl : b = 1 := by omega
            simp [Nat.mod_one] at h3
          · exact Nat.div_lt_self (by omega) h5
        generalize m / b = t at *; omega
    · obtain ⟨m, rfl⟩ : ∃ m : Nat, a = m := ⟨a.toNat, by omega⟩
      rw [← Int.natCast_ediv, Int.natAbs_natCast, Int.natAbs_natCast]; exact Nat.div_le_self _ _
  rcases Int.lt_trichotomy y 0 with h | h | h
  · have e : y = -((y.natAbs : Nat) : Int) := by omega
    rw [e, Int.ediv_neg, Int.natAbs_neg]; exact key x _ (by omega)
  · subst h; simp
  · have e : y = ((y.natAbs : Nat) : Int) := by omega
    rw [e]; exact key x _ (by omega)
theorem emod_lt (x : Int) {y : Int} (h : y ≠ 0) : (x % y).natAbs < y.natAbs := by
  have h1 := Int.emod_nonneg x h
  have h2 := Int.emod_lt x h
  omega
theorem zero_text {t : ByteArray} {y : Int} (h : Wh t y) : (t.toList == [48]) = decide (y = 0) := by
  rw [ByteArray.toList_eq, h.1]
  show ((Lib.itoa y).toArray.toList == [48]) = _
  rw [List.toList_toArray]
  have h0 : Lib.itoa 0 = [48] := by rw [itoa_pos (by omega)]; exact dec_small (by omega)
  rw [← h0, Bool.eq_iff_iff, beq_iff_eq, decide_eq_true_iff]
  exact ⟨fun h => itoa_inj h, fun h => by rw [h]⟩
set_option maxHeartbeats 2000000 in
theorem div_spec (s t : ByteArray) (w : World) [ht : Tab w] :
    Calls Tryz.prog 25 #[.string s, .string t] w (Ret w (.tuple #[.string (divQ s t), .string (divR s t), .int .i64 (divE s t)])) := by
  rcases pz_or s with ⟨x, hx, hp⟩ | ⟨hx, hp⟩
  · have HX0 := Lib.hid hx
    have hdx := hx.dl
    rcases pz_or t with ⟨y, hy, hq⟩ | ⟨hy, hq⟩
    · rw [(div_some hp hq).1, (div_some hp hq).2.1, (div_some hp hq).2.2]
      have HY0 := Lib.hid hy
      have hdy := hy.dl
      have hzt := zero_text hy
      by_cases h0 : y = 0
      · rw [if_pos h0, if_pos h0, if_pos h0]
        rw [decide_eq_true h0] at hzt
        clear hx hp hy hq h0
        go_enter Tryz.func25, Tryz.ntmps25
        go_wp2_with fail
        refine (check_wh s x HX0.out _).mono ?_
        rintro e w' ⟨rfl, hx⟩
        have HX := Lib.hid hx
        clear hx
        go_wp2_with fail
        refine (check_wh t y HY0.out _).mono ?_
        rintro e w' ⟨rfl, hx⟩
        replace HX := Lib.hid (Ext.tr (h := HX.out) hx)
        clear hx
        go_wp2_with fail
        go_ret3
        exact ⟨rfl, HX.out⟩
      · rw [if_neg h0, if_neg h0, if_neg h0]
        rw [decide_eq_false h0] at hzt
        have hq6 : Lib.nDigits (x / y).natAbs ≤ 600 := nd_lt (by omega) (ediv_le x y) hx.2
        have hr6 : Lib.nDigits (x % y).natAbs ≤ 600 := nd_lt (by omega) (Nat.le_of_lt (emod_lt x h0)) hy.2
        obtain ⟨u, hu⟩ : ∃ u, x / y = u := ⟨_, rfl⟩
        obtain ⟨v, hv⟩ : ∃ v, x % y = v := ⟨_, rfl⟩
        rw [hu] at hq6 ⊢
        rw [hv] at hr6 ⊢
        have hqd := dl_600 hq6
        have hrd := dl_600 hr6
        have HU := Lib.hid hu
        have HV := Lib.hid hv
        have HTU := Lib.hid (show told u = .tuple #[.string (txt u), .int .i64 0] by unfold told; rw [if_pos hq6])
        have HTV := Lib.hid (show told v = .tuple #[.string (txt v), .int .i64 0] by unfold told; rw [if_pos hr6])
        have H0 := Lib.hid h0
        clear hx hp hy hq h0 hu hv hq6 hr6
        go_enter Tryz.func25, Tryz.ntmps25
        go_wp2_with fail
        refine (check_wh s x HX0.out _).mono ?_
        rintro e w' ⟨rfl, hx⟩
        have HX := Lib.hid hx
        clear hx
        go_wp2_with fail
        refine (check_wh t y HY0.out _).mono ?_
        rintro e w' ⟨rfl, hx⟩
        replace HX := Lib.hid (Ext.tr (h := HX.out) hx)
        clear hx
        go_wp2_with fail
        refine (read_spec s x HX0.out _).mono ?_
        rintro e w' ⟨A, c, rfl, hA, hx⟩
        have HA := Lib.hid hA
        clear hA
        replace HX := Lib.hid (Ext.tr (h := HX.out) hx)
        clear hx
        go_wp2_with fail
        refine (read_spec t y HY0.out _).mono ?_
        rintro e w' ⟨B, d, rfl, hB, hx⟩
        have HB := Lib.hid hB
        replace HA := Lib.hid (HA.out.ext (x := hx))
        clear hB
        replace HX := Lib.hid (Ext.tr (h := HX.out) hx)
        clear hx
        go_wp2_with fail
        refine (parts_spec _ _ _ _ x y _ HA.out HB.out (by omega) (by omega) H0.out).mono ?_
        rintro e w' ⟨D, q, E, r, rfl, hD, hE, hx⟩
        rw [HU.out] at hD ⊢
        rw [HV.out] at hE ⊢
        have HD := Lib.hid hD
        have HE := Lib.hid hE
        clear hD hE
        have ht2 := ht.to (Ext.tr (h := HX.out) hx)
        replace HX := Lib.hid (Ext.tr (h := HX.out) hx)
        clear hx
        go_wp2_with fail
        have ht3 : Tab ((w'.alloc (.cells #[.bool (neg u), .slice D (dl Big u.natAbs) q] 63)).alloc (.cells #[.bool (neg v), .slice E (dl Big v.natAbs) r] 63)) := ht2.to inferInstance
        refine (told_spec D q u _ HD.out.ext (by omega)).mono ?_
        rintro e w7 ⟨rfl, hx⟩
        rw [HTU.out]
        obtain ⟨hc, hf, hs⟩ := hx.cells
        have ht4 := ht3.to hx
        have HE7 := Lib.hid ((HE.out.ext (x := Ext.al _ _ _ (h := Ext.al _ _ _ (h := Ext.rf w')))).ext (x := hx))
        replace HX := Lib.hid (Ext.tr (h := Ext.al _ _ _ (h := Ext.al _ _ _ (h := HX.out))) hx)
        clear hx
        go_wp2_with fail
        refine (told_spec E r v _ HE7.out (by omega)).mono ?_
        rintro e w8 ⟨rfl, hx⟩
        rw [HTV.out]
        replace HX := Lib.hid (Ext.tr (h := HX.out) hx)
        clear hx hc hf hs
        go_wp2_with fail
        go_ret3
        exact ⟨rfl, HX.out⟩
    · rw [(div_none2 s hq).1, (div_none2 s hq).2.1, (div_none2 s hq).2.2]
      have HY0 := Lib.hid hy
      clear hx hp hy hq
      go_enter Tryz.func25, Tryz.ntmps25
      go_wp2_with fail
      refine (check_wh s x HX0.out _).mono ?_
      rintro e w' ⟨rfl, hx⟩
      have HX := Lib.hid hx
      clear hx
      go_wp2_with fail
      refine (check_none t HY0.out _).mono ?_
      rintro e w' ⟨rfl, hx⟩
      replace HX := Lib.hid (Ext.tr (h := HX.out) hx)
      clear hx
      go_wp2_with fail
      go_ret3
      exact ⟨rfl, HX.out⟩
  · rw [(div_none1 t hp).1, (div_none1 t hp).2.1, (div_none1 t hp).2.2]
    have HX0 := Lib.hid hx
    clear hx hp
    go_enter Tryz.func25, Tryz.ntmps25
    go_wp2_with fail
    refine (check_none s HX0.out _).mono ?_
    rintro e w' ⟨rfl, hx⟩
    have HX := Lib.hid hx
    clear hx
    go_wp2_with fail
    go_ret3
    exact ⟨rfl, HX.out⟩
end Go.Proofs.YtkmmkobiigddkaaGreatDoor
