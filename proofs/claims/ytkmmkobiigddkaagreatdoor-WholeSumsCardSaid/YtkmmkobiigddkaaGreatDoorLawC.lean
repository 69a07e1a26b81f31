import Derived.Test.YtkmmkobiigddkaaGreatDoorProg
import Derived.Test.YtkmmkobiigddkaaGreatDoorLawB
/-! The walks of the laws. -/
set_option linter.unusedVariables false
set_option linter.unusedSimpArgs false
set_option maxRecDepth 100000
namespace Go.Proofs.YtkmmkobiigddkaaGreatDoor
open Go.RowKit

set_option maxHeartbeats 1000000 in
theorem short_spec (b : Bool) (G : Option Addr) (gc z : Nat) (L : List Nat) (w : World) (hG : Row w .u16 G gc L) (hL : ∀ x ∈ L, x < 65536) (hz : z < 65536) :
    Calls Tryz.prog 21 #[.agg #[.bool b, .slice G L.length gc, .int .u16 (z : Int)]] w (Ret w (.string (txt (dz b L (z % 150))))) := by
  have HG := Lib.hid hG
  have HL := Lib.hid hL
  obtain ⟨S, hS⟩ : ∃ S, txt (dz b L (z % 150)) = S := ⟨_, rfl⟩
  rw [hS]
  have HS := Lib.hid hS
  obtain ⟨x, hx'⟩ : ∃ x : Int, (z : Int) = x := ⟨_, rfl⟩
  rw [hx']
  have hx1 : 0 ≤ x ∧ x < 65536 := by omega
  obtain ⟨hx1, hx2⟩ := hx1
  have hxz : ((z % 150 : Nat) : Int) = x % 150 := by omega
  have HXZ := Lib.hid hxz
  clear hG hL hS hxz hx'
  go_enter Tryz.func21, Tryz.ntmps21
  go_wp2_with fail
  have hxx : Ext w (w.alloc (.cells #[.bool b, .slice G L.length gc, .int .u16 (x % 150)] 25)) := inferInstance
  have hc := whole4_spec b G gc (z % 150) L _ (HG.out.ext (x := hxx)) HL.out (by omega)
  rw [HXZ.out, HS.out] at hc
  refine hc.mono ?_
  rintro e w2 ⟨rfl, hx⟩
  have HX := Lib.hid (Ext.tr (h := hxx) hx)
  clear hx hc hxx
  go_wp2_with fail
  go_ret
  exact ⟨rfl, HX.out⟩
theorem boxD {w W : World} {b b' : Bool} {G G' : Option Addr} {l l' gc gc' : Nat} {z z' : Int} {T T' : TypeId} (x : Ext ((w.alloc (.cells #[.bool b, .slice G l gc, .int .u16 z] T)).alloc (.cells #[.bool b', .slice G' l' gc', .int .u16 z'] T')) W) :
    (W.cell? ⟨w.heap.size, 0, none⟩ = some (.bool b) ∧ W.cell? ⟨w.heap.size, 1, none⟩ = some (.slice G l gc) ∧ W.cell? ⟨w.heap.size, 2, none⟩ = some (.int .u16 z)) ∧
    (W.cell? ⟨w.heap.size + 1, 0, none⟩ = some (.bool b') ∧ W.cell? ⟨w.heap.size + 1, 1, none⟩ = some (.slice G' l' gc') ∧ W.cell? ⟨w.heap.size + 1, 2, none⟩ = some (.int .u16 z')) := by
  have h1 : Ext (w.alloc (.cells #[.bool b, .slice G l gc, .int .u16 z] T)) W := Ext.tr (h := Ext.al _ _ _ (h := Ext.rf _)) x
  have hg : (w.alloc (.cells #[.bool b, .slice G l gc, .int .u16 z] T)).heap.size = w.heap.size + 1 := by simp only [World.alloc, Array.size_push]
  have k := fun j => boxN x j
  rw [hg] at k
  exact ⟨⟨boxN h1 0, boxN h1 1, boxN h1 2⟩, k 0, k 1, k 2⟩
theorem short_nd (b : Bool) (L : List Nat) (z : Nat) : Lib.nDigits (dz b L (z % 150)).natAbs ≤ 185 := by
  have := dz_nd b L (z % 150); omega
theorem txt_wh {z : Int} (h : Lib.nDigits z.natAbs ≤ 600) : Wh (txt z) z := ⟨rfl, h⟩
theorem txt_eq (x y : Int) : ((txt x).toList == (txt y).toList) = decide (x = y) := by
  rw [ByteArray.toList_eq, ByteArray.toList_eq]
  show ((Lib.itoa x).toArray.toList == (Lib.itoa y).toArray.toList) = _
  rw [List.toList_toArray, List.toList_toArray, Bool.eq_iff_iff, beq_iff_eq, decide_eq_true_iff]
  exact ⟨itoa_inj, fun h => by rw [h]⟩
theorem wh_sub {s t : ByteArray} {x y : Int} (hs : Wh s x) (ht : Wh t y) (h : Lib.nDigits (x - y).natAbs ≤ 600) : twoS (· - ·) s t = txt (x - y) ∧ twoE (· - ·) s t = 0 := by
  rw [(two_some _ (pz_some hs) (pz_some ht)).1, (two_some _ (pz_some hs) (pz_some ht)).2]
  exact ⟨tS_ok h, tE_ok h⟩
theorem wh_neg {s : ByteArray} {x : Int} (hs : Wh s x) : oneS (- ·) s = txt (-x) ∧ oneE (- ·) s = 0 := by
  rw [(one_some _ (pz_some hs)).1, (one_some _ (pz_some hs)).2]
  have h : Lib.nDigits (-x).natAbs ≤ 600 := by rw [Int.natAbs_neg]; exact hs.2
  exact ⟨tS_ok h, tE_ok h⟩
theorem wh_cmp {s t : ByteArray} {x y : Int} (hs : Wh s x) (ht : Wh t y) : cmpV s t = (x - y).sign ∧ cmpE s t = 0 := by
  unfold cmpV cmpE
  rw [pz_some hs, pz_some ht]
  exact ⟨rfl, rfl⟩
theorem wh_int {s : ByteArray} {x : Int} (hs : Wh s x) (h0 : -9223372036854775808 ≤ x) (h1 : x ≤ 9223372036854775807) : intV s = x ∧ intE s = 0 := by
  unfold intV intE
  rw [pz_some hs]
  exact ⟨if_pos ⟨h0, h1⟩, if_pos ⟨h0, h1⟩⟩
/-- Numbers of few digits. -/
theorem ndz_lt {x : Int} {k : Nat} (hk : 0 < k) (h : x.natAbs < 10 ^ k) : Lib.nDigits x.natAbs ≤ k := (nDigits_le hk).2 h
theorem lt_nd {x : Int} {k : Nat} (hk : 0 < k) (h : Lib.nDigits x.natAbs ≤ k) : x.natAbs < 10 ^ k := (nDigits_le hk).1 h
theorem nd_sub {x y : Int} {k : Nat} (hk : 0 < k) (hx : Lib.nDigits x.natAbs ≤ k) (hy : Lib.nDigits y.natAbs ≤ k) : Lib.nDigits (x - y).natAbs ≤ k + 1 := by
  refine ndz_lt (by omega) ?_
  have h1 := lt_nd hk hx
  have h2 := lt_nd hk hy
  rw [Nat.pow_succ]
  generalize 10 ^ k = p at *
  omega
theorem sign_cases (d : Int) : (0 < d ∧ d.sign = 1) ∨ (d = 0 ∧ d.sign = 0) ∨ (d < 0 ∧ d.sign = -1) := by
  rcases Int.lt_trichotomy d 0 with h | h | h
  · exact .inr (.inr ⟨h, Int.sign_eq_neg_one_of_neg h⟩)
  · exact .inr (.inl ⟨h, by rw [h]; rfl⟩)
  · exact .inl ⟨h, Int.sign_eq_one_of_pos h⟩
set_option maxHeartbeats 4000000 in
theorem orders_walk (b b' : Bool) (G G' : Option Addr) (gc gc' z z' : Nat) (L L' : List Nat) (m n : Int) (w : World) [ht : Tab w] [he : Errs w] (hG : Row w .u16 G gc L) (hL : ∀ x ∈ L, x < 65536) (hz : z < 65536)
    (hG' : Row w .u16 G' gc' L') (hL' : ∀ x ∈ L', x < 65536) (hz' : z' < 65536) (hm0 : -9223372036854775808 ≤ m) (hm1 : m ≤ 9223372036854775807) (hn0 : -9223372036854775808 ≤ n) (hn1 : n ≤ 9223372036854775807) :
    Calls Tryz.prog 7 #[.agg #[.bool b, .slice G L.length gc, .int .u16 (z : Int)], .agg #[.bool b', .slice G' L'.length gc', .int .u16 (z' : Int)], .int .i64 m, .int .i64 n] w (Ret w (.bool true)) := by
  have HG := Lib.hid hG
  have HL := Lib.hid hL
  have HG' := Lib.hid hG'
  have HL' := Lib.hid hL'
  obtain ⟨X, hX⟩ : ∃ X, dz b L (z % 150) = X := ⟨_, rfl⟩
  obtain ⟨Y, hY⟩ : ∃ Y, dz b' L' (z' % 150) = Y := ⟨_, rfl⟩
  have ndX := short_nd b L z
  have ndY := short_nd b' L' z'
  rw [hX] at ndX
  rw [hY] at ndY
  obtain ⟨SA, hSA⟩ : ∃ S, txt X = S := ⟨_, rfl⟩
  obtain ⟨SB, hSB⟩ : ∃ S, txt Y = S := ⟨_, rfl⟩
  have whA : Wh SA X := hSA ▸ txt_wh (by omega)
  have whB : Wh SB Y := hSB ▸ txt_wh (by omega)
  obtain ⟨D, hD⟩ : ∃ D, X - Y = D := ⟨_, rfl⟩
  have ndD : Lib.nDigits D.natAbs ≤ 600 := by have := nd_sub (by omega) ndX ndY; rw [hD] at this; omega
  have hcm := wh_cmp whA whB
  have hsb := wh_sub whA whB (by rw [hD]; exact ndD)
  rw [hD] at hcm hsb
  obtain ⟨SD, hSD⟩ : ∃ S, txt D = S := ⟨_, rfl⟩
  have whD : Wh SD D := hSD ▸ txt_wh ndD
  have hng := wh_neg whD
  obtain ⟨N, hN⟩ : ∃ N, -D = N := ⟨_, rfl⟩
  rw [hN] at hng
  obtain ⟨SN, hSN⟩ : ∃ S, txt N = S := ⟨_, rfl⟩
  have whN : Wh SN N := hSN ▸ txt_wh (by rw [← hN, Int.natAbs_neg]; exact ndD)
  rw [hSD] at hsb
  rw [hSN] at hng
  have heq : (SA.toList == SB.toList) = decide (X = Y) := by rw [← hSA, ← hSB]; exact txt_eq X Y
  have CA := Lib.hid (fun (w : World) (hr : Row w .u16 G gc L) => (by have h := short_spec b G gc z L w hr HL.out hz; rw [hX, hSA] at h; exact h : Calls _ _ _ w (Ret w (.string SA))))
  have CB := Lib.hid (fun (w : World) (hr : Row w .u16 G' gc' L') => (by have h := short_spec b' G' gc' z' L' w hr HL'.out hz'; rw [hY, hSB] at h; exact h : Calls _ _ _ w (Ret w (.string SB))))
  have HPD := Lib.hid (pz_some whD)
  have HPN := Lib.hid (pz_some whN)
  have HCM := Lib.hid hcm
  have HSB := Lib.hid hsb
  have HNG := Lib.hid hng
  obtain ⟨cc, hcc⟩ : ∃ cc, D.sign = cc := ⟨_, rfl⟩
  have hcn : N.sign = -cc := by rw [← hN, Int.sign_neg, hcc]
  have hcc0 : -1 ≤ cc ∧ cc ≤ 1 := by rcases sign_cases D with ⟨_, h⟩ | ⟨_, h⟩ | ⟨_, h⟩ <;> omega
  obtain ⟨hcc0, hcc1⟩ := hcc0
  have heq2 : (SA.toList == SB.toList) = (cc == 0) := by
    rw [heq, Bool.eq_iff_iff, beq_iff_eq, decide_eq_true_iff]
    rcases sign_cases D with ⟨_, h⟩ | ⟨_, h⟩ | ⟨_, h⟩ <;> omega
  have HCC := Lib.hid hcc
  have HCN := Lib.hid hcn
  have HEQ := Lib.hid heq2
  have CM := Lib.hid (fun (w : World) [ht : Tab w] => of_spec m hm0 hm1 w)
  have CN := Lib.hid (fun (w : World) [ht : Tab w] => of_spec n hn0 hn1 w)
  have whm : Wh (txt m) m := txt_wh (by have := nd64 hm0 hm1; omega)
  have whn : Wh (txt n) n := txt_wh (by have := nd64 hn0 hn1; omega)
  have hmn := wh_cmp whm whn
  have him := wh_int whm hm0 hm1
  obtain ⟨SM, hSM⟩ : ∃ S, txt m = S := ⟨_, rfl⟩
  obtain ⟨SN', hSN'⟩ : ∃ S, txt n = S := ⟨_, rfl⟩
  rw [hSM] at hmn him CM
  rw [hSN'] at hmn CN
  have HMN := Lib.hid hmn
  have HIM := Lib.hid him
  clear hG hL hG' hL' hX hY ndX ndY hSA hSB whA whB hD ndD hcm hsb hSD whD hng hN hSN whN heq hcc hcn heq2 whm whn hmn him hSM hSN'
  go_enter Tryz.func7, Tryz.ntmps7
  go_wp2_with fail
  have hb0 : Ext w ((w.alloc (.cells #[.bool b, .slice G L.length gc, .int .u16 (z : Int)] 25)).alloc (.cells #[.bool b', .slice G' L'.length gc', .int .u16 (z' : Int)] 25)) := inferInstance
  have HB := Lib.hid hb0
  have ht0 := ht.to hb0
  have he0 := he.to hb0
  refine (works_spec _).mono ?_
  rintro e w1 ⟨rfl, hx⟩
  obtain ⟨⟨q0, q1, q2⟩, q3, q4, q5⟩ := boxD hx
  have HX := Lib.hid hx
  clear hx ht0 he0 hb0
  go_wp2_with fail
  go_region_held3 (fun w' => (w'.cell? ⟨w.heap.size, 0, none⟩ = some (.bool b) ∧ w'.cell? ⟨w.heap.size, 1, none⟩ = some (.slice G L.length gc) ∧ w'.cell? ⟨w.heap.size, 2, none⟩ = some (.int .u16 (z : Int))) ∧ (w'.cell? ⟨w.heap.size + 1, 0, none⟩ = some (.bool b') ∧ w'.cell? ⟨w.heap.size + 1, 1, none⟩ = some (.slice G' L'.length gc') ∧ w'.cell? ⟨w.heap.size + 1, 2, none⟩ = some (.int .u16 (z' : Int)))) (go_keep) (first
    | (go_at_call 21; (with_reducible refine (CA.out _ (by exact (HG.out.ext (x := Ext.tr (h := HB.out) HX.out)).ext)).mono ?_); rintro e w5 ⟨rfl, hx⟩; (try (replace hx := hx.undrew)); replace HX := Lib.hid (Ext.tr (h := HX.out) hx); clear hx q0 q1 q2 q3 q4 q5; obtain ⟨⟨q0, q1, q2⟩, q3, q4, q5⟩ := boxD HX.out)
    | (go_at_call 21; (with_reducible refine (CB.out _ (by exact (HG'.out.ext (x := Ext.tr (h := HB.out) HX.out)).ext)).mono ?_); rintro e w5 ⟨rfl, hx⟩; (try (replace hx := hx.undrew)); replace HX := Lib.hid (Ext.tr (h := HX.out) hx); clear hx q0 q1 q2 q3 q4 q5; obtain ⟨⟨q0, q1, q2⟩, q3, q4, q5⟩ := boxD HX.out))
  all_goals
    clear q0 q1 q2 q3 q4 q5
    replace HX := Lib.hid (Ext.tr (h := HB.out) HX.out)
    go_wp2_with fail
    refine (cmpw_spec SA SB _).mono ?_
    rintro e w6 ⟨rfl, hx⟩
    rw [HCM.out.1, HCM.out.2, HCC.out]
    replace HX := Lib.hid (Ext.tr (h := HX.out) hx); clear hx
    go_wp2_with fail
    have ht6 := ht.to HX.out
    refine (subw_spec SA SB _).mono ?_
    rintro e w7 ⟨rfl, hx⟩
    rw [HSB.out.1, HSB.out.2]
    replace HX := Lib.hid (Ext.tr (h := HX.out) hx); clear hx ht6
    go_wp2_with fail
    refine (sign_spec SD _).mono ?_
    rintro e w8 ⟨rfl, hx⟩
    rw [HPD.out]
    replace HX := Lib.hid (Ext.tr (h := HX.out) hx); clear hx
    dsimp only
    rw [HCC.out]
    go_wp2_with fail
    have ht8 := ht.to HX.out
    refine (neg_spec SD _).mono ?_
    rintro e w9 ⟨rfl, hx⟩
    rw [HNG.out.1, HNG.out.2]
    replace HX := Lib.hid (Ext.tr (h := HX.out) hx); clear hx ht8
    go_wp2_with fail
    refine (sign_spec SN _).mono ?_
    rintro e w10 ⟨rfl, hx⟩
    rw [HPN.out]
    replace HX := Lib.hid (Ext.tr (h := HX.out) hx); clear hx
    dsimp only
    rw [HCN.out]
    have heq := HEQ.out
    rcases Int.lt_trichotomy m n with hlt | hlt | hlt
    · skip
      have HSG := Lib.hid (show (m - n).sign = -1 from Int.sign_eq_neg_one_of_neg (by omega))
      go_wp2_with fail
      refine (says_spec (-1) _).mono ?_
      rintro e w11 ⟨g, rfl, hcl, hx⟩
      replace HX := Lib.hid (Ext.tr (h := HX.out) hx); clear hx
      go_wp2_with fail
      have ht11 := ht.to HX.out
      refine (CM.out _).mono ?_
      rintro e w12 ⟨rfl, hx⟩
      replace hcl := hx.keep hcl
      replace HX := Lib.hid (Ext.tr (h := HX.out) hx); clear hx ht11
      go_wp2_with fail
      have ht12 := ht.to HX.out
      refine (CN.out _).mono ?_
      rintro e w13 ⟨rfl, hx⟩
      replace hcl := hx.keep hcl
      replace HX := Lib.hid (Ext.tr (h := HX.out) hx); clear hx ht12
      go_wp2_with fail
      refine (cmpw_spec SM SN' _).mono ?_
      rintro e w14 ⟨rfl, hx⟩
      rw [HMN.out.1, HMN.out.2, HSG.out]
      replace hcl := hx.keep hcl
      replace HX := Lib.hid (Ext.tr (h := HX.out) hx); clear hx
      go_wp2_with fail
      refine (saysd_spec (-1) g _ hcl).mono ?_
      rintro e w15 ⟨rfl, hx⟩
      replace HX := Lib.hid (Ext.tr (h := HX.out) hx); clear hx hcl
      go_wp2_with fail
      refine (says_spec m _).mono ?_
      rintro e w16 ⟨g, rfl, hcl, hx⟩
      replace HX := Lib.hid (Ext.tr (h := HX.out) hx); clear hx
      go_wp2_with fail
      have ht16 := ht.to HX.out
      refine (CM.out _).mono ?_
      rintro e w17 ⟨rfl, hx⟩
      replace hcl := hx.keep hcl
      replace HX := Lib.hid (Ext.tr (h := HX.out) hx); clear hx ht16
      go_wp2_with fail
      have he17 := he.to HX.out
      refine (int_spec SM _).mono ?_
      rintro e w18 ⟨rfl, hx⟩
      rw [HIM.out.1, HIM.out.2]
      replace hcl := hx.keep hcl
      replace HX := Lib.hid (Ext.tr (h := HX.out) hx); clear hx he17
      go_wp2_with fail
      refine (saysd_spec m g _ hcl).mono ?_
      rintro e w19 ⟨rfl, hx⟩
      replace HX := Lib.hid (Ext.tr (h := HX.out) hx); clear hx hcl
      go_wp2_with fail
      go_ret
      exact ⟨rfl, HX.out⟩
    · skip
      have HSG := Lib.hid (show (m - n).sign = 0 by rw [hlt, Int.sub_self]; rfl)
      have hl1 : ¬ m < n := by omega
      have hl2 : ¬ n < m := by omega
      clear hlt
      go_wp2_with fail
      refine (says_spec (0) _).mono ?_
      rintro e w11 ⟨g, rfl, hcl, hx⟩
      replace HX := Lib.hid (Ext.tr (h := HX.out) hx); clear hx
      go_wp2_with fail
      have ht11 := ht.to HX.out
      refine (CM.out _).mono ?_
      rintro e w12 ⟨rfl, hx⟩
      replace hcl := hx.keep hcl
      replace HX := Lib.hid (Ext.tr (h := HX.out) hx); clear hx ht11
      go_wp2_with fail
      have ht12 := ht.to HX.out
      refine (CN.out _).mono ?_
      rintro e w13 ⟨rfl, hx⟩
      replace hcl := hx.keep hcl
      replace HX := Lib.hid (Ext.tr (h := HX.out) hx); clear hx ht12
      go_wp2_with fail
      refine (cmpw_spec SM SN' _).mono ?_
      rintro e w14 ⟨rfl, hx⟩
      rw [HMN.out.1, HMN.out.2, HSG.out]
      replace hcl := hx.keep hcl
      replace HX := Lib.hid (Ext.tr (h := HX.out) hx); clear hx
      go_wp2_with fail
      refine (saysd_spec (0) g _ hcl).mono ?_
      rintro e w15 ⟨rfl, hx⟩
      replace HX := Lib.hid (Ext.tr (h := HX.out) hx); clear hx hcl
      go_wp2_with fail
      refine (says_spec m _).mono ?_
      rintro e w16 ⟨g, rfl, hcl, hx⟩
      replace HX := Lib.hid (Ext.tr (h := HX.out) hx); clear hx
      go_wp2_with fail
      have ht16 := ht.to HX.out
      refine (CM.out _).mono ?_
      rintro e w17 ⟨rfl, hx⟩
      replace hcl := hx.keep hcl
      replace HX := Lib.hid (Ext.tr (h := HX.out) hx); clear hx ht16
      go_wp2_with fail
      have he17 := he.to HX.out
      refine (int_spec SM _).mono ?_
      rintro e w18 ⟨rfl, hx⟩
      rw [HIM.out.1, HIM.out.2]
      replace hcl := hx.keep hcl
      replace HX := Lib.hid (Ext.tr (h := HX.out) hx); clear hx he17
      go_wp2_with fail
      refine (saysd_spec m g _ hcl).mono ?_
      rintro e w19 ⟨rfl, hx⟩
      replace HX := Lib.hid (Ext.tr (h := HX.out) hx); clear hx hcl
      go_wp2_with fail
      go_ret
      exact ⟨rfl, HX.out⟩
    · skip
      have HSG := Lib.hid (show (m - n).sign = 1 from Int.sign_eq_one_of_pos (by omega))
      have hl1 : ¬ m < n := by omega
      go_wp2_with fail
      refine (says_spec (1) _).mono ?_
      rintro e w11 ⟨g, rfl, hcl, hx⟩
      replace HX := Lib.hid (Ext.tr (h := HX.out) hx); clear hx
      go_wp2_with fail
      have ht11 := ht.to HX.out
      refine (CM.out _).mono ?_
      rintro e w12 ⟨rfl, hx⟩
      replace hcl := hx.keep hcl
      replace HX := Lib.hid (Ext.tr (h := HX.out) hx); clear hx ht11
      go_wp2_with fail
      have ht12 := ht.to HX.out
      refine (CN.out _).mono ?_
      rintro e w13 ⟨rfl, hx⟩
      replace hcl := hx.keep hcl
      replace HX := Lib.hid (Ext.tr (h := HX.out) hx); clear hx ht12
      go_wp2_with fail
      refine (cmpw_spec SM SN' _).mono ?_
      rintro e w14 ⟨rfl, hx⟩
      rw [HMN.out.1, HMN.out.2, HSG.out]
      replace hcl := hx.keep hcl
      replace HX := Lib.hid (Ext.tr (h := HX.out) hx); clear hx
      go_wp2_with fail
      refine (saysd_spec (1) g _ hcl).mono ?_
      rintro e w15 ⟨rfl, hx⟩
      replace HX := Lib.hid (Ext.tr (h := HX.out) hx); clear hx hcl
      go_wp2_with fail
      refine (says_spec m _).mono ?_
      rintro e w16 ⟨g, rfl, hcl, hx⟩
      replace HX := Lib.hid (Ext.tr (h := HX.out) hx); clear hx
      go_wp2_with fail
      have ht16 := ht.to HX.out
      refine (CM.out _).mono ?_
      rintro e w17 ⟨rfl, hx⟩
      replace hcl := hx.keep hcl
      replace HX := Lib.hid (Ext.tr (h := HX.out) hx); clear hx ht16
      go_wp2_with fail
      have he17 := he.to HX.out
      refine (int_spec SM _).mono ?_
      rintro e w18 ⟨rfl, hx⟩
      rw [HIM.out.1, HIM.out.2]
      replace hcl := hx.keep hcl
      replace HX := Lib.hid (Ext.tr (h := HX.out) hx); clear hx he17
      go_wp2_with fail
      refine (saysd_spec m g _ hcl).mono ?_
      rintro e w19 ⟨rfl, hx⟩
      replace HX := Lib.hid (Ext.tr (h := HX.out) hx); clear hx hcl
      go_wp2_with fail
      go_ret
      exact ⟨rfl, HX.out⟩
end Go.Proofs.YtkmmkobiigddkaaGreatDoor
