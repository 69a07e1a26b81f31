import Derived.Test.YtkmmkobiigddkaaGreatDoorProg
import Derived.Test.YtkmmkobiigddkaaGreatDoorOver
/-! The walk of package whole's long division. -/
set_option linter.unusedVariables false
set_option linter.unusedSimpArgs false
set_option maxRecDepth 100000
namespace Go.Proofs.YtkmmkobiigddkaaGreatDoor
open Go.RowKit

/-- The natural number in a cell. -/
def cellNat (w : World) (g k : Nat) : Nat := match w.cell? ⟨g, k, none⟩ with | some (.int _ z) => z.toNat | _ => 0
theorem cellNat_of {w : World} {g k : Nat} {kd : IntKind} {z : Int} (h : w.cell? ⟨g, k, none⟩ = some (.int kd z)) : cellNat w g k = z.toNat := by unfold cellNat; rw [h]
/-- It returns a quotient and a remainder. -/
def RetDiv (w : World) (q r : Nat) (e : Ending) (w' : World) : Prop :=
  ∃ A c B d, e = .returned (.tuple #[.slice A (dl Big q) c, .slice B (dl Big r) d]) ∧ Num Big .u64 w' A c q ∧ Num Big .u64 w' B d r ∧ Ext w w'

set_option maxHeartbeats 1000000 in
theorem over_less (A B : Option Addr) (c d m n : Nat) (w : World) (ha : Num Big .u64 w A c m) (hb : Num Big .u64 w B d n) (hlt : m < n) :
    Calls Tryz.prog 92 #[.slice A (dl Big m) c, .slice B (dl Big n) d] w (RetDiv w (m / n) (m % n)) := by
  have hc : cmpN m n < 0 := (cmpN_lt m n).2 hlt
  go_enter Tryz.func92, Tryz.ntmps92
  go_wp2_with fail
  refine (cmp_spec _ _ _ _ _ _ _ ha hb).mono ?_
  rintro e w1 ⟨rfl, hx⟩
  go_wp2_with fail
  go_ret2
  refine ⟨none, 0, A, c, ?_, ?_, ?_, hx⟩
  · rw [Nat.div_eq_of_lt hlt, Nat.mod_eq_of_lt hlt, dl_zero]; rfl
  · rw [Nat.div_eq_of_lt hlt]; show Row _ _ _ _ (digs Big 0); rw [digs_zero]; exact Row.nil _ _
  · rw [Nat.mod_eq_of_lt hlt]; exact ha.ext

set_option maxHeartbeats 1000000 in
theorem over_one (A B : Option Addr) (c d m n : Nat) (w : World) (ha : Num Big .u64 w A c m) (hb : Num Big .u64 w B d n) (hlt : n ≤ m) (h1 : dl Big n = 1) (hm : dl Big m ≤ 1099511627776) :
    Calls Tryz.prog 92 #[.slice A (dl Big m) c, .slice B (dl Big n) d] w (RetDiv w (m / n) (m % n)) := by
  have hc : ¬ cmpN m n < 0 := fun h => by have := (cmpN_lt m n).1 h; omega
  have hn : digs Big n = [n] ∧ 0 < n ∧ n < Big := by
    have h0 : 0 < n := Nat.pos_of_ne_zero fun h => by rw [h, dl_zero] at h1; omega
    have h2 := lt_pow_dl big2 n
    rw [h1, Nat.pow_one] at h2
    refine ⟨?_, h0, h2⟩
    rw [digs_pos big2 h0, Nat.mod_eq_of_lt h2, Nat.div_eq_of_lt h2, digs_zero]
  have HN := Lib.hid hn
  have e1 : ((dl Big n : Int) == 1) = true := by rw [h1]; rfl
  obtain ⟨bd, rfl, hcb⟩ := (show Row w .u64 B d (digs Big n) from hb).cell (by rw [hn.1]; simp)
  have h2 : w.cell? bd = some (.int .u64 (n : Int)) := by
    have := hcb 0 (by rw [hn.1]; simp)
    rw [hn.1] at this
    have e : bd.add 0 = bd := by unfold Addr.add; split <;> simp_all
    rw [e] at this
    simpa [gn] using this
  have hn1 : n ≤ 1000000000000000000 := Nat.le_of_lt hn.2.2
  have hn0 := hn.2.1
  have H1 := Lib.hid h1
  have hl0 : (0 : Int) < (dl Big n : Int) := by omega
  have hl1 : 0 < dl Big n := by omega
  clear hcb hn h1
  go_enter Tryz.func92, Tryz.ntmps92
  go_wp2_with fail
  refine (cmp_spec _ _ _ _ m n _ ha hb).mono ?_
  rintro e w1 ⟨rfl, hx1⟩
  have h3 := hx1.keep h2
  go_wp2_with fail
  refine (by_spec _ _ m n _ ha.ext hm hn0 hn1).mono ?_
  rintro e w2 ⟨C, q, rfl, hq, hx2⟩
  have hX2 : Ext w w2 := Ext.tr hx2
  go_wp2_with fail
  refine (one_spec _ (m % n) rfl (Nat.lt_of_lt_of_le (Nat.mod_lt _ hn0) hn1) _).mono ?_
  rintro e w3 ⟨D, r, rfl, hr, hx3⟩
  go_wp2_with fail
  go_ret2
  exact ⟨_, _, _, _, rfl, hq.ext, hr, Ext.tr hx3⟩

set_option maxHeartbeats 4000000 in
theorem over_main (A B : Option Addr) (c d m n : Nat) (w : World) (ha : Num Big .u64 w A c m) (hb : Num Big .u64 w B d n) (hlt : n ≤ m) (h1 : 2 ≤ dl Big n) (hm : dl Big m ≤ 274877906944) :
    Calls Tryz.prog 92 #[.slice A (dl Big m) c, .slice B (dl Big n) d] w (RetDiv w (m / n) (m % n)) := by
  have hc : ¬ cmpN m n < 0 := fun h => by have := (cmpN_lt m n).1 h; omega
  have hNm : dl Big n ≤ dl Big m := dl_mono big2 hlt
  obtain ⟨hs1, hs2⟩ := scale_dl big2 (n := n) rfl (by omega)
  have hb0 : gn (digs Big n) (dl Big n - 1) < 1000000000000000000 := gn_mem_lt (by have := big2; omega) (digs_lt big2 n) _
  obtain ⟨bt, hbt⟩ : ∃ x, gn (digs Big n) (dl Big n - 1) = x := ⟨_, rfl⟩
  rw [hbt] at hs1 hs2 hb0
  obtain ⟨f, hf⟩ : ∃ f, Big / (bt + 1) = f := ⟨_, rfl⟩
  rw [hf] at hs1 hs2
  have hbt1 : 0 < bt := by
    have hne : digs Big n ≠ [] := by intro h; have : dl Big n = 0 := by unfold dl; rw [h]; rfl
                                     omega
    have h0 := digs_trim big2 n hne
    rw [List.getLast_eq_getElem] at h0
    have e := gn_lt (digs Big n) (j := dl Big n - 1) (by show dl Big n - 1 < dl Big n; omega)
    rw [hbt] at e
    rw [e]
    exact Nat.pos_of_ne_zero h0
  have hfB : f < Big := by
    rw [← hf]
    exact Nat.div_lt_self (by have := big2; omega) (by omega)
  obtain ⟨bd, rfl, hcb⟩ := (show Row w .u64 B d (digs Big n) from hb).cell (by show 0 < dl Big n; omega)
  obtain ⟨y, hy⟩ : ∃ y : Int, (bt : Int) = y := ⟨_, rfl⟩
  have h2 : w.cell? (bd.add (dl Big n - 1)) = some (.int .u64 y) := by
    have := hcb (dl Big n - 1) (by show dl Big n - 1 < dl Big n; omega)
    rwa [hbt, hy] at this
  have e1 : ((dl Big n : Int) == 1) = false := by simp; omega
  have hl0 : (0 : Int) ≤ (dl Big n : Int) - 1 := by omega
  have hy0 : 0 ≤ y := by omega
  have hy1 : y ≤ 999999999999999999 := by omega
  have hq : 1000000000000000000 / (y + 1) = (f : Int) := by
    rw [← hy, ← hf, Int.natCast_ediv]; rfl
  have HF := Lib.hid hf
  have HS := Lib.hid hs1
  have HB := Lib.hid hbt
  have HY := Lib.hid hy
  obtain ⟨v, hv⟩ : ∃ v, n * f = v := ⟨_, rfl⟩
  obtain ⟨M, hM⟩ : ∃ M, m * f = M := ⟨_, rfl⟩
  rw [hv] at hs1
  have hv1 : dl Big v ≤ dl Big n := by omega
  have hv2 : dl Big n ≤ dl Big v := by omega
  have hf1 : dl Big f ≤ 1 := dl_le big2 1 f (by rw [Nat.pow_one]; exact hfB)
  have hM1 : dl Big M ≤ dl Big m + 1 := by have := dl_mul big2 m f; rw [hM] at this; omega
  have hst := OverI.start big2 (m := m) (f := f) rfl (show 0 < dl Big n by omega) hNm hs2
  rw [hv, hM] at hst
  have HST := Lib.hid hst
  have HV := Lib.hid hv
  have HM := Lib.hid hM
  have hK0 : (0 : Int) ≤ (dl Big m : Int) - (dl Big n : Int) := by omega
  clear hcb hf hbt hs1 hy hb0 hst hv hM
  go_enter Tryz.func92, Tryz.ntmps92
  go_wp2_with fail
  refine (cmp_spec _ _ _ _ m n _ ha hb).mono ?_
  rintro e w1 ⟨rfl, hx1⟩
  have h3 := hx1.keep h2
  go_wp2_with fail
  refine (one_spec _ f rfl hfB _).mono ?_
  rintro e w2 ⟨F, cf, rfl, hF, hx2⟩
  have hX2 : Ext w w2 := Ext.tr hx2
  go_wp2_with fail
  refine (times_spec _ _ _ _ n f _ hb.ext hF (by omega) (by omega)).mono ?_
  rintro e w3 ⟨D, cd, rfl, hD, hx3⟩
  rw [HV.out] at hD ⊢
  have hX3 : Ext w w3 := Ext.tr hx3
  have hF3 := hF.ext (x := hx3)
  clear hF
  go_wp2_with fail
  refine (times_spec _ _ _ _ m f _ ha.ext hF3 (by omega) (by omega)).mono ?_
  rintro e w4 ⟨R0, cr, rfl, hR, hx4⟩
  rw [HM.out] at hR ⊢
  have hX4 : Ext w w4 := Ext.tr hx4
  have hF4 := hF3.ext (x := hx4)
  have hD4 := hD.ext (x := hx4)
  clear hF3 hD ha hb
  go_wp2_with (at_make; refine wp_make (w0 := w4) rfl (.tmp 57) 61 100 .u64 rfl Tryz.underlying61 el_u64 .i64 _ (dl Big m - dl Big n + 1) rfl (by omega) (by omega) inferInstance ?_; intro w5 hA)
  obtain ⟨K, hK⟩ : ∃ K, dl Big m - dl Big n + 1 = K := ⟨_, rfl⟩
  obtain ⟨gq, hgq⟩ : ∃ g, w4.heap.size = g := ⟨_, rfl⟩
  have hK1 : (dl Big m : Int) - (dl Big n : Int) = (K : Int) - 1 := by omega
  have hK2 : K ≤ 274877906944 := by omega
  rw [hK, hgq] at hA
  rw [hK] at HST
  have hK3 : (dl Big m : Int) - (dl Big n : Int) + 1 = (K : Int) := by omega
  rw [hK, hgq, hK3, hK1]
  have hx5 := hA.ext
  have hR5 := Lib.hid (hR.ext (x := hx5))
  have HOR := Lib.hid (show Off gq R0 (dl Big M) from Row.offOf hR (by omega))
  replace hF4 := Lib.hid hF4
  replace hD4 := Lib.hid hD4
  have HA := Lib.hid hA
  have HX4 := Lib.hid hX4
  clear hK3 hR hA hx1 hx2 hx3 hx4 hx5 hX2 hX3 hX4 h3 h2 hgq hK hK1
  go_loopw [11, 12] (fun x i wr => ∃ (k R : Nat) (P : Option Addr) (pc : Nat) (Q : List Nat), k ≤ K ∧ i = .int .i64 ((k : Int) - 1) ∧ x = .slice P (dl Big R) pc ∧ Hid (OverI Big M v K k R Q) ∧
      Hid (Arr 100 .u64 w4 wr gq K Q) ∧ Hid (Num Big .u64 wr P pc R) ∧ Hid (Off gq P (dl Big R))) (fun _ i _ => (intOf i + 1).toNat)
  case atStart => exact ⟨K, M, R0, cr, _, Nat.le_refl _, rfl, rfl, HST, HA, hR5, HOR⟩
  case round =>
    clear hR5 HA HST HOR
    obtain ⟨k, R, P, pc, Q, hk, rfl, rfl, hI, hA, hR, hOR⟩ := hrel
    have hxr := hA.out.ext
    have hF := Lib.hid (hF4.out.ext (x := hxr))
    have hD := Lib.hid (hD4.out.ext (x := hxr))
    have HX := Lib.hid (Ext.tr (h := HX4.out) hxr)
    rcases k with _ | k
    · have hdf : digs Big f = [f] := by rw [digs_pos big2 hs2, Nat.mod_eq_of_lt hfB, Nat.div_eq_of_lt hfB, digs_zero]
      obtain ⟨fd, rfl, hcf⟩ := (show Row wr .u64 F cf (digs Big f) from hF.out).cell (by rw [hdf]; simp)
      have h2 : wr.cell? fd = some (.int .u64 (f : Int)) := by
        have h3 := hcf 0 (by rw [hdf]; simp)
        rw [hdf] at h3
        have e : fd.add 0 = fd := by unfold Addr.add; split <;> simp_all
        rw [e] at h3
        simpa [gn] using h3
      have hlf : 0 < dl Big f := by unfold dl; rw [hdf]; simp
      have hlf2 : (0 : Int) < (dl Big f : Int) := by omega
      have hdn := OverI.done (m := m) (n := n) big2 hs2 (by rw [HM.out, HV.out]; exact hI.out)
      have hdR : dl Big R ≤ 1099511627776 := by
        have h8 := hI.out.lt
        have h9 : dl Big R ≤ dl Big (v * Big ^ 0) := dl_mono big2 (Nat.le_of_lt h8)
        rw [Nat.pow_zero, Nat.mul_one] at h9
        omega
      have hrow := hA.out.row
      have hc := Row.cutz hrow
      rw [hdn.1] at hc
      have HC := Lib.hid hc
      have HRW := Lib.hid hrow
      have HDN := Lib.hid hdn
      have HQL := Lib.hid (show Q.length = K from hI.out.len)
      have hfL : f ≤ 1000000000000000000 := Nat.le_of_lt hfB
      clear hdf hcf hdn hc hrow
      go_wp2_with fail
      refine (by_spec _ _ R f _ hR.out hdR hs2 hfL).mono ?_
      rintro e w6 ⟨C, qc, rfl, hC, hx6⟩
      go_wp2_with fail
      refine (trim_spec _ _ _ Q _ (HRW.out.ext (x := hx6)) HQL.out).mono ?_
      rintro e w7 ⟨rfl, hx7⟩
      go_wp2_with fail
      go_ret2
      have hX7 : Ext wr w7 := Ext.tr (h := hx6) hx7
      refine ⟨some ⟨gq, 0, none⟩, K, C, qc, ?_, Row.ext (x := hX7) HC.out, ?_, Ext.tr (h := HX.out) hX7⟩
      · rw [← HDN.out.2]
        show Ending.returned (.tuple #[.slice _ (cutz Q).length _, _]) = _
        rw [HDN.out.1]; rfl
      · rw [← HDN.out.2]; exact hC.ext (x := hx7)
    · rw [show ((k + 1 : Nat) : Int) - 1 = (k : Int) by omega]
      by_cases hsk : dl Big R < k + dl Big n
      · have hsk' : (dl Big R : Int) < (k : Int) + (dl Big n : Int) := by omega
        have hlow : R < v * Big ^ k := over_low big2 hv2 (by omega) hsk
        go_wp2_with fail
        exact ⟨⟨k, R, P, pc, Q, by omega, rfl, rfl, Lib.hid (hI.out.skip big2 hlow), hA, hR, hOR⟩, by simp [intOf]⟩
      · have hsk' : ¬ (dl Big R : Int) < (k : Int) + (dl Big n : Int) := by omega
        obtain ⟨rd, rfl, hcr⟩ := (show Row wr .u64 P pc (digs Big R) from hR.out).cell (by show 0 < dl Big R; omega)
        obtain ⟨dd, rfl, hcd⟩ := (show Row wr .u64 D cd (digs Big v) from hD.out).cell (by show 0 < dl Big v; omega)
        have HCR := Lib.hid hcr
        have HCD := Lib.hid hcd
        clear hcr hcd
        go_upto_if 78 with fail
        obtain ⟨tp, htp⟩ : ∃ x, gn (digs Big R) (k + dl Big n) = x := ⟨_, rfl⟩
        go_cut [13] (fun x wx => Hid (x = .int .u64 (tp : Int) ∧ wx = wr))
        case first =>
          -- {{
          by_cases hg : k + dl Big n < dl Big R
          · have hg' : (k : Int) + (dl Big n : Int) < (dl Big R : Int) := by omega
            have h4 := HCR.out (k + dl Big n) hg
            rw [htp] at h4
            clear htp
            go_wp2_with fail
            go_meet
            exact Lib.hid ⟨rfl, rfl⟩
          · have hg' : ¬ (k : Int) + (dl Big n : Int) < (dl Big R : Int) := by omega
            rw [gn_ge _ (show (digs Big R).length ≤ k + dl Big n by show dl Big R ≤ _; omega)] at htp
            subst htp
            go_wp2_with fail
            go_meet
            exact Lib.hid ⟨rfl, rfl⟩
          -- }}
        case rest =>
          obtain ⟨rfl, rfl⟩ := hcut.out
          have HTP := Lib.hid htp
          have htpB : tp < 1000000000000000000 := by rw [← htp]; exact gn_mem_lt (by have := big2; omega) (digs_lt big2 R) _
          clear htp
          obtain ⟨dt, hdt⟩ : ∃ x, gn (digs Big v) (dl Big n - 1) = x := ⟨_, rfl⟩
          have h5 := HCD.out (dl Big n - 1) (by show dl Big n - 1 < dl Big v; omega)
          rw [hdt] at h5
          have HDT := Lib.hid hdt
          have hdB : dt < 1000000000000000000 := by rw [← hdt]; exact gn_mem_lt (by have := big2; omega) (digs_lt big2 v) _
          have hlv : (dl Big n : Int) - 1 < (dl Big v : Int) := by omega
          clear hdt
          go_upto_if 91 with fail
          go_cut [14] (fun x wx => ∃ g : Nat, x = .int .u64 (g : Int) ∧ g ≤ 1000000000000000000 ∧ Hid (∀ t, v * t * Big ^ k ≤ R → t ≤ g) ∧ Ext wc wx)
          case first =>
            -- {{
            by_cases hlt2 : tp < dt
            · obtain ⟨H0, L0, C1, L1, X, eX, eH, eL, eadd, f1, f2, f3, f4, f5⟩ := mul_add_parts tp (gn (digs Big R) (k + dl Big n - 1)) dt hlt2 (Nat.le_of_lt hdB) (gn_mem_lt (by have := big2; omega) (digs_lt big2 R) _)
              have h4 := HCR.out (k + dl Big n - 1) (by show k + dl Big n - 1 < dl Big R; omega)
              have EX := Lib.hid eX
              have EH := Lib.hid eH
              have EL := Lib.hid eL
              clear eX eH eL
              have hi0 : (0 : Int) ≤ (k : Int) + (dl Big n : Int) - 1 := by omega
              have hi1 : (k : Int) + (dl Big n : Int) - 1 < (dl Big R : Int) := by omega
              go_wp2_with (first
                | (go_at_call 120; refine (mul64_big tp _ (by omega)).mono ?_; rintro e w' ⟨rfl, hw⟩; obtain rfl := hw.symm; rw [EH.out, EL.out])
                | (go_at_call 122; refine (div64_spec _ _ _ X _ f5 (by omega) (by omega) (by omega) f3 f4).mono ?_; rintro e w' ⟨rfl, hx⟩))
              go_meet
              refine ⟨X / dt, rfl, ?_, Lib.hid fun t ht => ?_, hx⟩
              · rw [EX.out]
                refine Nat.le_of_lt_succ ((Nat.div_lt_iff_lt_mul (by omega)).2 ?_)
                have := gn_mem_lt (show 0 < Big by have := big2; omega) (digs_lt big2 R) (k + dl Big n - 1)
                have h6 : gn (digs Big R) (k + dl Big n - 1) < 1000000000000000000 := this
                omega
              · have h7 := guess_ge big2 (show 0 < dl Big n by omega) (show dl Big v = dl Big n by omega) hI.out.lt ht
                rw [HTP.out, HDT.out] at h7
                rw [EX.out]; exact h7
            · go_wp2_with fail
              go_meet
              exact ⟨999999999999999999, rfl, by omega, Lib.hid fun t ht => by have h7 := hI.out.top ht; have h8 : t < 1000000000000000000 := h7; omega, inferInstance⟩
            -- }}
          case rest =>
            obtain ⟨g, rfl, hg1, HG, hx6⟩ := hcut
            replace hR := Lib.hid (hR.out.ext (x := hx6))
            replace hF := Lib.hid (hF.out.ext (x := hx6))
            replace hD := Lib.hid (hD.out.ext (x := hx6))
            replace hA := Lib.hid (hA.out.to (x := hx6))
            clear HCR HCD HX hxr
            go_upto_region 23 with fail
            obtain ⟨h, hh⟩ : ∃ h : Nat, min g 999999999999999999 = h := ⟨_, rfl⟩
            have hmn : Builtin.min2 (.int .u64 (g : Int)) (.int .u64 999999999999999999) = pure (.int .u64 (h : Int)) := by rw [← hh]; exact min2_nat .u64 .u64 g 999999999999999999
            have hmn2 := @min_two
            have hhB : h < Big := by have : h < 1000000000000000000 := by omega
                                     exact this
            have hh1 : dl Big h ≤ 1 := dl_le big2 1 h (by rw [Nat.pow_one]; exact hhB)
            have hvh : dl Big (v * h) ≤ dl Big n + 1 := by have := dl_mul big2 v h; omega
            have hkK : k < K := by omega
            have HGH : Hid (∀ t, v * t * Big ^ k ≤ R → t ≤ h) := Lib.hid fun t ht => by
              have h7 := hI.out.top ht
              have h8 := HG.out t ht
              have h9 : t < 1000000000000000000 := h7
              omega
            have HH := Lib.hid hh
            clear hh HG
            obtain ⟨SL, hSL⟩ : ∃ SL, List.replicate k 0 ++ digs Big (v * h) = SL := ⟨_, rfl⟩
            have HSL := Lib.hid hSL
            have HSN : Hid (SL.length = k + dl Big (v * h)) := Lib.hid (by rw [← hSL, List.length_append, List.length_replicate]; rfl)
            clear hSL
            have hgc : gq < wc.heap.size := hA.out.lt
            go_cut [18] (fun x wx => ∃ (S : Option Addr) (sc : Nat), x = .slice S (dl Big (v * h * Big ^ k)) sc ∧ Hid (Num Big .u64 wx S sc (v * h * Big ^ k)) ∧ Hid (New wc S) ∧ Ext wc wx)
            case first =>
              -- {{
              go_region_held3 (fun _ => True) (trivial)
                (first
                  | (refine upon_make (w0 := wc) 61 100 .u64 .i64 Tryz.underlying61 el_u64 k (by omega) (by exact inferInstance) ?_; intro wm hZ hxm; have hxmc : Ext wc wm := hZ.ext; replace hZ := hZ.ownS; rw [List.length_replicate] at hZ; (try replace hO := Num.ext (x := Ext.tr hxm) hO); (try replace hT := Num.ext (x := Ext.tr hxm) hT))
                  | (go_at_call 94; refine (one_spec _ h rfl hhB _).mono ?_; rintro e w7 ⟨O, oc, rfl, hO, hx7⟩; have hx7c : Ext wc w7 := Ext.tr hx7; (try replace hZ := hZ.to (x := Ext.tr hx7)))
                  | (go_at_call 101; refine (times_spec _ _ _ _ v h _ hD.out.ext hO.ext (by omega) (by omega)).mono ?_; rintro e w8 ⟨T, tc, rfl, hT, hx8⟩; have hx8c : Ext wc w8 := Ext.tr hx8; (try replace hZ := hZ.to (x := Ext.tr hx8)))
                  | (refine step_append (w0 := wc) (by rfl) (.tmp 123) (.tmp 128) 61 100 .u64 (by rfl) Tryz.underlying61 el_u64 _ (List.replicate k 0) (by exact hZ.to) T tc (digs Big (v * h)) (by exact hT.ext) (dl Big (v * h)) (by rfl) (by rfl) (by rfl) (by simp; omega) SL HSL.out (k + dl Big (v * h)) HSN.out ?_; intro Sa sac wa hS; have hSc : Ext wc wa := hS.1)
                  | (go_at_call 75; refine (trim_spec _ _ _ SL _ hS.row.ext HSN.out).mono ?_; rintro e w9 ⟨rfl, hx9⟩))
              all_goals (
                have e : (cutz SL).length = dl Big (v * h * Big ^ k) := by rw [← HSL.out, digs_shift big2]; rfl
                have hc : Num Big .u64 wa Sa sac (v * h * Big ^ k) := by
                  have := Row.cutz hS.row
                  rw [← HSL.out, digs_shift big2] at this; exact this
                have HE := Lib.hid e
                clear e
                go_wp2_with fail
                go_meet
                exact ⟨Sa, sac, by rw [← HE.out], Lib.hid (hc.ext (x := hx9)), Lib.hid hS.new, Ext.tr hx9⟩)
              -- }}
            case rest =>
              obtain ⟨S, sc, rfl, hS, hSN, hx7⟩ := hcut
              have hSO : Hid (Off gq S (dl Big (v * h * Big ^ k))) := Lib.hid (hSN.out.off hgc)
              clear hSN hgc
              replace hR := Lib.hid (hR.out.ext (x := hx7))
              replace hF := Lib.hid (hF.out.ext (x := hx7))
              replace hD := Lib.hid (hD.out.ext (x := hx7))
              replace hA := Lib.hid (hA.out.to (x := hx7))
              have hLQ : Q.length = K := hI.out.len
              have hq2 := hA.out.cell (j := k) (by omega)
              have hq3 := hA.out.frozen k
              have HLQ := Lib.hid hLQ
              clear hLQ
              obtain ⟨wo, rfl⟩ : ∃ wo : World, wo = wc := ⟨_, rfl⟩
              go_wp2_with fail
              go_loopw [18] (fun x wr => ∃ (T : Option Addr) (tc t : Nat), x = .slice T (dl Big (v * t * Big ^ k)) tc ∧ t ≤ h ∧ Hid (∀ s, v * s * Big ^ k ≤ R → s ≤ t) ∧ Hid (Num Big .u64 wr T tc (v * t * Big ^ k)) ∧ Hid (Off gq T (dl Big (v * t * Big ^ k))) ∧ Hid (Num Big .u64 wr (some rd) pc R) ∧ Hid (Arr 100 .u64 w4 wr gq K (Q.set k t))) (fun _ wr => cellNat wr gq k)
              case atStart => exact ⟨S, sc, h, rfl, Nat.le_refl _, HGH, Lib.hid (Num.off hS.out hSO.out _ _), hSO, Lib.hid (Num.off hR.out hOR.out _ _), Lib.hid (hA.out.set k h)⟩
              case round =>
                clear hS hSO hR hA HGH
                obtain ⟨T, tc, t, rfl, hth, HGT, hT, hTO, hR, hA⟩ := hrel
                have hA0 := hA
                go_wp2_with fail
                refine (cmp_spec _ _ _ _ R (v * t * Big ^ k) _ hR.out hT.out).mono ?_
                rintro e w5 ⟨rfl, hx5⟩
                replace hR := Lib.hid (hR.out.ext (x := hx5))
                replace hT := Lib.hid (hT.out.ext (x := hx5))
                replace hA := Lib.hid (hA.out.to (x := hx5))
                by_cases hcm : R < v * t * Big ^ k
                · have hc5 : cmpN R (v * t * Big ^ k) < 0 := (cmpN_lt _ _).2 hcm
                  have ht0 : 0 < t := by
                    rcases Nat.eq_zero_or_pos t with h0 | h0
                    · subst h0; simp at hcm
                    · exact h0
                  have hLs : (Q.set k t).length = K := by rw [List.length_set]; exact HLQ.out
                  have h6 := hA.out.cell (j := k) (by omega)
                  have h7 := hA.out.frozen k
                  rw [gn_set _ _ _ _ (by have := HLQ.out; omega), if_pos rfl] at h6
                  obtain ⟨z, hz⟩ : ∃ z : Int, (t : Int) = z := ⟨_, rfl⟩
                  have hz0 : 1 ≤ z := by omega
                  have hz1 : z ≤ 1000000000000000000 := by have : h < 1000000000000000000 := hhB; omega
                  rw [hz] at h6
                  have HZ := Lib.hid hz
                  have HCM := Lib.hid hcm
                  have hA6 : Arr 100 .u64 w4 (w5.setCell ⟨gq, k, none⟩ (.int .u64 (z - 1))) gq K (Q.set k (t - 1)) := by
                    have h8 := hA.out.set k (t - 1)
                    rw [List.set_set, show ((t - 1 : Nat) : Int) = z - 1 by omega] at h8; exact h8
                  have hT6 : Num Big .u64 (w5.setCell ⟨gq, k, none⟩ (.int .u64 (z - 1))) T tc (v * t * Big ^ k) := Num.off hT.out hTO.out _ _
                  have hR6 : Num Big .u64 (w5.setCell ⟨gq, k, none⟩ (.int .u64 (z - 1))) (some rd) pc R := Num.off hR.out hOR.out _ _
                  have hD6 : Num Big .u64 (w5.setCell ⟨gq, k, none⟩ (.int .u64 (z - 1))) (some dd) cd v := hD4.out.ext (x := hA6.ext)
                  have hms : cellNat wr gq k = z.toNat := by
                    have h8 := hA0.out.cell (j := k) (by omega)
                    rw [gn_set _ _ _ _ (by have := HLQ.out; omega), if_pos rfl, hz] at h8
                    exact cellNat_of h8
                  have hv0 : 0 < v := Nat.pos_of_ne_zero fun h0 => by rw [h0, dl_zero] at hv2; omega
                  have hls : List.replicate k 0 ++ digs Big v = digs Big (v * Big ^ k) := digs_shift_pos big2 v k hv0
                  have hle : v * Big ^ k ≤ v * t * Big ^ k := Nat.mul_le_mul_right _ (Nat.le_mul_of_pos_right v ht0)
                  have hsub : v * t * Big ^ k - v * Big ^ k = v * (t - 1) * Big ^ k := by rw [Nat.mul_sub, Nat.sub_mul, Nat.mul_one]
                  have hdt : dl Big (v * t * Big ^ k) ≤ 1099511627776 := by
                    have h8 := dl_mul big2 (v * t) (Big ^ k)
                    have h9 := dl_mul big2 v t
                    have h10 : dl Big t ≤ 1 := dl_le big2 1 t (by rw [Nat.pow_one]; omega)
                    have h11 : dl Big (Big ^ k) ≤ k + 1 := dl_le big2 (k + 1) _ (Nat.pow_lt_pow_right (by have := big2; omega) (by omega))
                    omega
                  have HA6 := Lib.hid hA6
                  have HT6 := Lib.hid hT6
                  have HR6 := Lib.hid hR6
                  have HD6 := Lib.hid hD6
                  have HMS := Lib.hid hms
                  have HLS := Lib.hid hls
                  have HSB := Lib.hid hsub
                  have HLL : Hid ((digs Big (v * Big ^ k)).length = dl Big (v * Big ^ k)) := Lib.hid rfl
                  clear hz hLs hcm hA6 hT6 hR6 hD6 hms hls hsub
                  go_wp2_with (first
                    | (at_make; refine wp_make (w0 := w5.setCell ⟨gq, k, none⟩ (.int .u64 (z - 1))) rfl (.tmp 147) 61 100 .u64 rfl Tryz.underlying61 el_u64 .i64 _ k rfl rfl (by omega) inferInstance ?_; intro w6 hZ; replace hZ := hZ.ownS; rw [List.length_replicate, World.size_setCell] at hZ; have HZZ := Lib.hid hZ; clear hZ)
                    | (at_builtin; go_loud (refine wp_append (w0 := w5.setCell ⟨gq, k, none⟩ (.int .u64 (z - 1))) rfl (.tmp 148) (.tmp 149) 61 100 .u64 rfl Tryz.underlying61 el_u64 _ (List.replicate k 0) HZZ.out (some dd) cd (digs Big v) (Row.ext (x := HZZ.out.ext) HD6.out) (dl Big v) rfl rfl rfl (by simp; omega) ?_); intro v' w7 hO hg; rw [HLS.out] at hO; obtain ⟨S', sc', rfl, hS'⟩ := hO.parts; rw [HLL.out]; clear hO hg)
                    | (go_at_call 95; refine (minus_new _ _ _ _ (v * t * Big ^ k) (v * Big ^ k) _ (HT6.out.ext (x := hS'.1)) hS'.row hle hdt).mono ?_; rintro e w8 ⟨T2, tc2, rfl, hT2, hx8, hn2⟩; rw [HSB.out] at hT2 ⊢; have hX8 : Ext (w5.setCell ⟨gq, k, none⟩ (.int .u64 (z - 1))) w8 := Ext.tr (h := hS'.1) hx8))
                  have hA8 := HA6.out.to (x := hX8)
                  have hA7 := HA6.out.to (x := hS'.1)
                  refine ⟨⟨T2, tc2, t - 1, rfl, by omega, Lib.hid fun s hs => ?_, Lib.hid hT2, Lib.hid (hn2.off hA7.lt), Lib.hid (HR6.out.ext (x := hX8)), Lib.hid hA8⟩, ?_⟩
                  · have h8 := HGT.out s hs
                    rcases Nat.lt_or_ge s t with h9 | h9
                    · omega
                    · have : s = t := by omega
                      subst this
                      have := HCM.out; omega
                  · have h8 := hA8.cell (j := k) (by rw [List.length_set]; have := HLQ.out; omega)
                    rw [gn_set _ _ _ _ (by have := HLQ.out; omega), if_pos rfl] at h8
                    rw [cellNat_of h8, HMS.out]
                    have := HZ.out
                    omega
                · have hc5 : ¬ cmpN R (v * t * Big ^ k) < 0 := fun h => hcm ((cmpN_lt _ _).1 h)
                  have hle : v * t * Big ^ k ≤ R := by omega
                  have hst := OverI.step big2 hI.out hkK t hle (by
                    refine Nat.lt_of_not_le fun h8 => ?_
                    have := HGT.out (t + 1) h8; omega)
                  have HST := Lib.hid hst
                  have HCM := Lib.hid hcm
                  have hdR : dl Big R ≤ 1099511627776 := by
                    have h8 := hI.out.lt
                    have h9 : dl Big R ≤ dl Big (v * Big ^ (k + 1)) := dl_mono big2 (Nat.le_of_lt h8)
                    have h10 := dl_mul big2 v (Big ^ (k + 1))
                    have h11 : dl Big (Big ^ (k + 1)) ≤ k + 2 := dl_le big2 (k + 2) _ (Nat.pow_lt_pow_right (by have := big2; omega) (by omega))
                    omega
                  clear hcm hst
                  go_wp2_with fail
                  refine (minus_new _ _ _ _ R (v * t * Big ^ k) _ hR.out hT.out hle hdR).mono ?_
                  rintro e w8 ⟨P2, pc2, rfl, hP2, hx8, hn2⟩
                  go_wp2_with fail
                  exact ⟨⟨k, R - v * t * Big ^ k, P2, pc2, Q.set k t, by omega, rfl, rfl, HST, Lib.hid (hA.out.to (x := hx8)), Lib.hid hP2, Lib.hid (hn2.off hA.out.lt)⟩, by simp [intOf]⟩
theorem over_spec (A B : Option Addr) (c d m n : Nat) (w : World) (ha : Num Big .u64 w A c m) (hb : Num Big .u64 w B d n) (hn : 0 < n) (hm : dl Big m ≤ 274877906944) :
    Calls Tryz.prog 92 #[.slice A (dl Big m) c, .slice B (dl Big n) d] w (RetDiv w (m / n) (m % n)) := by
  rcases Nat.lt_or_ge m n with h | h
  · exact over_less A B c d m n w ha hb h
  · rcases Nat.lt_or_ge 1 (dl Big n) with h1 | h1
    · exact over_main A B c d m n w ha hb h h1 hm
    · have h2 := dl_pos big2 hn
      exact over_one A B c d m n w ha hb h (by omega) (by omega)
end Go.Proofs.YtkmmkobiigddkaaGreatDoor
