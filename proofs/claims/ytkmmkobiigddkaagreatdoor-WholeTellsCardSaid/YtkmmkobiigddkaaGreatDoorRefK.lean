import Derived.Test.YtkmmkobiigddkaaGreatDoorProg
import Derived.Test.YtkmmkobiigddkaaGreatDoorRefJ
/-! The walks of the reference's exported functions of whole numbers. -/
set_option linter.unusedVariables false
set_option linter.unusedSimpArgs false
set_option maxRecDepth 100000
namespace Go.Proofs.YtkmmkobiigddkaaGreatDoor
open Go.RowKit

theorem wh_dl4 {s : ByteArray} {z : Int} (h : Wh s z) : dl B4 z.natAbs ≤ 600 := dl_nd4 (by omega) h.2
theorem intV_iV {s : ByteArray} {z : Int} (h : pz s = some z) : iV z = intV s ∧ iE z = intE s := by
  unfold intV intE iV iE; rw [h]; exact ⟨rfl, rfl⟩
theorem dl4_le {x y : Nat} (h : x ≤ y) : dl B4 x ≤ dl B4 y := dl_mono b42 h

set_option maxHeartbeats 1000000 in
theorem check4_wh (s : ByteArray) (z : Int) (hz : Wh s z) (w : World) : Calls Tryz.prog 20 #[.string s] w (Ret w (.int .i64 0)) := by
  go_enter Tryz.func20, Tryz.ntmps20
  have HX := Lib.hid (Ext.rf w)
  go_wp2_with fail
  refine (right_yes s z hz _).mono ?_
  rintro e w1 ⟨rfl, hx⟩
  replace HX := Lib.hid (Ext.tr (h := HX.out) hx); clear hx
  go_wp2_with fail
  go_ret
  exact ⟨rfl, HX.out⟩
set_option maxHeartbeats 1000000 in
theorem check4_none (s : ByteArray) (hz : ¬ ∃ z, Wh s z) (hs : s.size ≤ 1099511627776) (w : World) : Calls Tryz.prog 20 #[.string s] w (Ret w (.int .i64 10)) := by
  go_enter Tryz.func20, Tryz.ntmps20
  have HX := Lib.hid (Ext.rf w)
  go_wp2_with fail
  refine (right_no s hz hs _).mono ?_
  rintro e w2 ⟨rfl, hx⟩
  replace HX := Lib.hid (Ext.tr (h := HX.out) hx); clear hx
  go_wp2_with fail
  go_ret
  exact ⟨rfl, HX.out⟩
set_option maxHeartbeats 1000000 in
theorem of4_spec (n : Int) (h0 : -9223372036854775808 ≤ n) (h1 : n ≤ 9223372036854775807) (w : World) :
    Calls Tryz.prog 11 #[.int .i64 n] w (Ret w (.string (txt n))) := by
  have hnd := nd64 h0 h1
  have hT := tS_ok (show Lib.nDigits n.natAbs ≤ 600 by omega)
  have hE := tE_ok (show Lib.nDigits n.natAbs ≤ 600 by omega)
  have hd : dl B4 n.natAbs ≤ 600 := dl_nd4 (by omega) (by omega)
  have HT := Lib.hid hT
  have HE := Lib.hid hE
  have HI := Lib.hid (fun w : World => integer_spec n h0 h1 w)
  have hd2 : dl B4 n.natAbs ≤ 1099511627776 := by omega
  have HO := Lib.hid (fun (A : Option Addr) (c : Nat) (w : World) (ha : Num B4 .i64 w A c n.natAbs) => out4_spec A c n w ha hd2)
  clear hT hE hnd h0 h1 hd hd2
  go_enter Tryz.func11, Tryz.ntmps11
  have HX := Lib.hid (Ext.rf w)
  go_wp2_with fail
  refine (HI.out _).mono ?_
  rintro e w3 ⟨O, oc, rfl, hO, hx⟩
  have HN := Lib.hid hO; clear hO
  replace HX := Lib.hid (Ext.tr (h := HX.out) hx); clear hx
  go_wp2_with fail
  refine (HO.out _ _ _ HN.out).mono ?_
  rintro e w4 ⟨rfl, hx⟩
  rw [HT.out, HE.out]
  replace HX := Lib.hid (Ext.tr (h := HX.out) hx); clear hx
  go_wp2_with fail
  go_ret
  exact ⟨rfl, HX.out⟩
set_option maxHeartbeats 1000000 in
theorem int4_spec (s : ByteArray) (hs : s.size ≤ 1099511627776) (w : World) :
    Calls Tryz.prog 14 #[.string s] w (Ret w (.tuple #[.int .i64 (intV s), .int .i64 (intE s)])) := by
  rcases pz_or s with ⟨z, hz, hp⟩ | ⟨hz, hp⟩
  · have HZ := Lib.hid hz
    have hdz := (wh_dl4 hz)
    rw [← (intV_iV hp).1, ← (intV_iV hp).2]
    clear hz hp
    go_enter Tryz.func14, Tryz.ntmps14
    have HX := Lib.hid (Ext.rf w)
    go_wp2_with fail
    refine (right_yes s z HZ.out _).mono ?_
    rintro e w5 ⟨rfl, hx⟩
    replace HX := Lib.hid (Ext.tr (h := HX.out) hx); clear hx
    go_wp2_with fail
    refine (in_spec s z HZ.out _).mono ?_
    rintro e w6 ⟨A, c, rfl, hA, hx⟩
    have HA := Lib.hid hA; clear hA
    replace HX := Lib.hid (Ext.tr (h := HX.out) hx); clear hx
    go_wp2_with fail
    refine (integral_spec A c z _ HA.out (by omega)).mono ?_
    rintro e w7 ⟨rfl, hx⟩
    replace HX := Lib.hid (Ext.tr (h := HX.out) hx); clear hx
    go_wp2_with fail
    go_ret2
    exact ⟨rfl, HX.out⟩
  · have HZ := Lib.hid hz
    unfold intV intE; rw [hp]; show Calls _ _ _ _ (Ret w (.tuple #[.int .i64 0, .int .i64 10]))
    clear hz hp
    go_enter Tryz.func14, Tryz.ntmps14
    have HX := Lib.hid (Ext.rf w)
    go_wp2_with fail
    refine (right_no s HZ.out hs _).mono ?_
    rintro e w8 ⟨rfl, hx⟩
    replace HX := Lib.hid (Ext.tr (h := HX.out) hx); clear hx
    go_wp2_with fail
    go_ret2
    exact ⟨rfl, HX.out⟩
set_option maxHeartbeats 1000000 in
theorem sign4_spec (s : ByteArray) (hs : s.size ≤ 1099511627776) (w : World) :
    Calls Tryz.prog 16 #[.string s] w (Ret w (.tuple #[.int .i64 (match pz s with | some x => x.sign | none => 0), .int .i64 (match pz s with | some x => 0 | none => 10)])) := by
  rcases pz_or s with ⟨z, hz, hp⟩ | ⟨hz, hp⟩
  · have HZ := Lib.hid hz
    have hdz := (wh_dl4 hz)
    rw [hp]; show Calls _ _ _ _ (Ret w (.tuple #[.int .i64 z.sign, .int .i64 0]))
    obtain ⟨sg, hsg⟩ : ∃ v, z.sign = v := ⟨_, rfl⟩
    rw [hsg]
    have HS := Lib.hid (show (z - 0).sign = sg by rw [Int.sub_zero]; exact hsg)
    clear hsg
    obtain ⟨p0, hp0⟩ : ∃ p, neg 0 = p := ⟨_, rfl⟩
    obtain ⟨m0, hm0⟩ : ∃ m, dl B4 (0 : Int).natAbs = m := ⟨_, rfl⟩
    have hm1 : m0 ≤ 5 := by rw [← hm0]; exact dl_le b42 5 _ (by decide)
    have HI := Lib.hid (fun w : World => integer_lit 0 p0 m0 hp0 hm0 (by omega) (by omega) w)
    have HO := Lib.hid (fun (A B : Option Addr) (c d : Nat) (W : World) (ha : Num B4 .i64 W A c z.natAbs) (hb : Num B4 .i64 W B d (0 : Int).natAbs) => ord4_lit A B c d z 0 (neg z) p0 (dl B4 z.natAbs) m0 W rfl hp0 rfl hm0 ha hb (by omega) (by omega) sg HS.out)
    clear hp0 hm0 hm1
    clear hz hp
    go_enter Tryz.func16, Tryz.ntmps16
    have HX := Lib.hid (Ext.rf w)
    go_wp2_with fail
    refine (right_yes s z HZ.out _).mono ?_
    rintro e w9 ⟨rfl, hx⟩
    replace HX := Lib.hid (Ext.tr (h := HX.out) hx); clear hx
    go_wp2_with fail
    refine (in_spec s z HZ.out _).mono ?_
    rintro e w10 ⟨A, c, rfl, hA, hx⟩
    have HA := Lib.hid hA; clear hA
    replace HX := Lib.hid (Ext.tr (h := HX.out) hx); clear hx
    go_wp2_with fail
    refine (HI.out _).mono ?_
    rintro e w11 ⟨B, d, rfl, hB, hx⟩
    replace HA := Lib.hid (HA.out.ext (x := hx)); have HB := Lib.hid hB; clear hB
    replace HX := Lib.hid (Ext.tr (h := HX.out) hx); clear hx
    go_wp2_with fail
    refine (HO.out _ _ _ _ _ HA.out HB.out).mono ?_
    rintro e w12 ⟨rfl, hx⟩
    replace HX := Lib.hid (Ext.tr (h := HX.out) hx); clear hx
    go_wp2_with fail
    go_ret2
    exact ⟨rfl, HX.out⟩
  · have HZ := Lib.hid hz
    rw [hp]; show Calls _ _ _ _ (Ret w (.tuple #[.int .i64 0, .int .i64 10]))
    clear hz hp
    go_enter Tryz.func16, Tryz.ntmps16
    have HX := Lib.hid (Ext.rf w)
    go_wp2_with fail
    refine (right_no s HZ.out hs _).mono ?_
    rintro e w13 ⟨rfl, hx⟩
    replace HX := Lib.hid (Ext.tr (h := HX.out) hx); clear hx
    go_wp2_with fail
    go_ret2
    exact ⟨rfl, HX.out⟩
set_option maxHeartbeats 1000000 in
theorem neg4_spec (s : ByteArray) (hs : s.size ≤ 1099511627776) (w : World) :
    Calls Tryz.prog 33 #[.string s] w (Ret w (.tuple #[.string (oneS (- ·) s), .int .i64 (oneE (- ·) s)])) := by
  rcases pz_or s with ⟨z, hz, hp⟩ | ⟨hz, hp⟩
  · have HZ := Lib.hid hz
    have hdz := (wh_dl4 hz)
    rw [(one_some _ hp).1, (one_some _ hp).2]
    obtain ⟨y, hy⟩ : ∃ y, -z = y := ⟨_, rfl⟩
    have hdy : dl B4 y.natAbs ≤ 600 := by rw [← hy, Int.natAbs_neg]; exact hdz
    show Calls _ _ _ _ (Ret w (.tuple #[.string (tS (-z)), .int .i64 (tE (-z))]))
    rw [hy]
    have HY := Lib.hid hy
    clear hy
    clear hz hp
    go_enter Tryz.func33, Tryz.ntmps33
    have HX := Lib.hid (Ext.rf w)
    go_wp2_with fail
    refine (right_yes s z HZ.out _).mono ?_
    rintro e w14 ⟨rfl, hx⟩
    replace HX := Lib.hid (Ext.tr (h := HX.out) hx); clear hx
    go_wp2_with fail
    refine (in_spec s z HZ.out _).mono ?_
    rintro e w15 ⟨A, c, rfl, hA, hx⟩
    have HA := Lib.hid hA; clear hA
    replace HX := Lib.hid (Ext.tr (h := HX.out) hx); clear hx
    go_wp2_with fail
    refine (turn4_spec A c z _ HA.out).mono ?_
    rintro e w16 ⟨B, d, rfl, hB, hx⟩
    rw [HY.out] at hB ⊢
    have HB := Lib.hid hB; clear hB
    replace HX := Lib.hid (Ext.tr (h := HX.out) hx); clear hx
    go_wp2_with fail
    refine (out4_spec B d y _ HB.out (by omega)).mono ?_
    rintro e w17 ⟨rfl, hx⟩
    replace HX := Lib.hid (Ext.tr (h := HX.out) hx); clear hx
    go_wp2_with fail
    go_ret2
    exact ⟨rfl, HX.out⟩
  · have HZ := Lib.hid hz
    rw [(one_none _ hp).1, (one_none _ hp).2]
    clear hz hp
    go_enter Tryz.func33, Tryz.ntmps33
    have HX := Lib.hid (Ext.rf w)
    go_wp2_with fail
    refine (right_no s HZ.out hs _).mono ?_
    rintro e w18 ⟨rfl, hx⟩
    replace HX := Lib.hid (Ext.tr (h := HX.out) hx); clear hx
    go_wp2_with fail
    go_ret2
    exact ⟨rfl, HX.out⟩
set_option maxHeartbeats 1000000 in
theorem abs4_spec (s : ByteArray) (hs : s.size ≤ 1099511627776) (w : World) :
    Calls Tryz.prog 34 #[.string s] w (Ret w (.tuple #[.string (oneS (fun z => ((z.natAbs : Nat) : Int)) s), .int .i64 (oneE (fun z => ((z.natAbs : Nat) : Int)) s)])) := by
  rcases pz_or s with ⟨z, hz, hp⟩ | ⟨hz, hp⟩
  · have HZ := Lib.hid hz
    have hdz := (wh_dl4 hz)
    rw [(one_some _ hp).1, (one_some _ hp).2]
    obtain ⟨y, hy⟩ : ∃ y : Int, ((z.natAbs : Nat) : Int) = y := ⟨_, rfl⟩
    have hya : y.natAbs = z.natAbs := by omega
    have HYN := Lib.hid (show neg y = false from neg_false (by omega))
    show Calls _ _ _ _ (Ret w (.tuple #[.string (tS ((z.natAbs : Nat) : Int)), .int .i64 (tE ((z.natAbs : Nat) : Int))]))
    rw [hy]
    have hdy : dl B4 y.natAbs ≤ 600 := by rw [hya]; exact hdz
    have HO := Lib.hid (fun (A : Option Addr) (c : Nat) (w : World) (ha : Num B4 .i64 w A c z.natAbs) => (by have h := out4_spec A c y w (by rw [hya]; exact ha) (by omega); rw [hya, HYN.out] at h; exact h : Calls _ _ #[.agg #[.bool false, .slice A (dl B4 z.natAbs) c]] w (Ret w (.tuple #[.string (tS y), .int .i64 (tE y)]))))
    have hf := fun (b : Bool) (A : Option Addr) (n c : Nat) (w : World) => (by kernel_rfl : (Instr.field 69 (.agg #[.bool b, .slice A n c]) 1).run Tryz.prog w = .ok (.slice A n c) w)
    clear hy hya
    clear hz hp
    go_enter Tryz.func34, Tryz.ntmps34
    have HX := Lib.hid (Ext.rf w)
    go_wp2_with fail
    refine (right_yes s z HZ.out _).mono ?_
    rintro e w19 ⟨rfl, hx⟩
    replace HX := Lib.hid (Ext.tr (h := HX.out) hx); clear hx
    go_wp2_with fail
    refine (in_spec s z HZ.out _).mono ?_
    rintro e w20 ⟨A, c, rfl, hA, hx⟩
    have HA := Lib.hid hA; clear hA
    replace HX := Lib.hid (Ext.tr (h := HX.out) hx); clear hx
    go_wp2_with fail
    refine (HO.out _ _ _ HA.out).mono ?_
    rintro e w21 ⟨rfl, hx⟩
    replace HX := Lib.hid (Ext.tr (h := HX.out) hx); clear hx
    go_wp2_with fail
    go_ret2
    exact ⟨rfl, HX.out⟩
  · have HZ := Lib.hid hz
    rw [(one_none _ hp).1, (one_none _ hp).2]
    clear hz hp
    go_enter Tryz.func34, Tryz.ntmps34
    have HX := Lib.hid (Ext.rf w)
    go_wp2_with fail
    refine (right_no s HZ.out hs _).mono ?_
    rintro e w22 ⟨rfl, hx⟩
    replace HX := Lib.hid (Ext.tr (h := HX.out) hx); clear hx
    go_wp2_with fail
    go_ret2
    exact ⟨rfl, HX.out⟩
set_option maxHeartbeats 1000000 in
theorem cmp4_spec (s t : ByteArray) (hs : s.size ≤ 1099511627776) (ht : t.size ≤ 1099511627776) (w : World) :
    Calls Tryz.prog 18 #[.string s, .string t] w (Ret w (.tuple #[.int .i64 (cmpV s t), .int .i64 (cmpE s t)])) := by
  rcases pz_or s with ⟨x, hx0, hp⟩ | ⟨hx0, hp⟩
  · have HX0 := Lib.hid hx0
    have hdx := (wh_dl4 hx0)
    rcases pz_or t with ⟨y, hy0, hq⟩ | ⟨hy0, hq⟩
    · have HY0 := Lib.hid hy0
      have hdy := (wh_dl4 hy0)
      unfold cmpV cmpE; rw [hp, hq]; show Calls _ _ _ _ (Ret w (.tuple #[.int .i64 (x - y).sign, .int .i64 0]))
      clear hx0 hp hy0 hq
      go_enter Tryz.func18, Tryz.ntmps18
      have HX := Lib.hid (Ext.rf w)
      go_wp2_with fail
      refine (right_yes s x HX0.out _).mono ?_
      rintro e w23 ⟨rfl, hx⟩
      replace HX := Lib.hid (Ext.tr (h := HX.out) hx); clear hx
      go_wp2_with fail
      refine (right_yes t y HY0.out _).mono ?_
      rintro e w24 ⟨rfl, hx⟩
      replace HX := Lib.hid (Ext.tr (h := HX.out) hx); clear hx
      go_wp2_with fail
      refine (in_spec s x HX0.out _).mono ?_
      rintro e w25 ⟨A, c, rfl, hA, hx⟩
      have HA := Lib.hid hA; clear hA
      replace HX := Lib.hid (Ext.tr (h := HX.out) hx); clear hx
      go_wp2_with fail
      refine (in_spec t y HY0.out _).mono ?_
      rintro e w26 ⟨B, d, rfl, hB, hx⟩
      replace HA := Lib.hid (HA.out.ext (x := hx)); have HB := Lib.hid hB; clear hB
      replace HX := Lib.hid (Ext.tr (h := HX.out) hx); clear hx
      go_wp2_with fail
      refine (ord4_spec A B c d x y _ HA.out HB.out (by omega) (by omega)).mono ?_
      rintro e w27 ⟨rfl, hx⟩
      replace HX := Lib.hid (Ext.tr (h := HX.out) hx); clear hx
      go_wp2_with fail
      go_ret2
      exact ⟨rfl, HX.out⟩
    · have HY0 := Lib.hid hy0
      unfold cmpV cmpE; rw [hp, hq]; show Calls _ _ _ _ (Ret w (.tuple #[.int .i64 0, .int .i64 10]))
      clear hx0 hp hy0 hq
      go_enter Tryz.func18, Tryz.ntmps18
      have HX := Lib.hid (Ext.rf w)
      go_wp2_with fail
      refine (right_yes s x HX0.out _).mono ?_
      rintro e w28 ⟨rfl, hx⟩
      replace HX := Lib.hid (Ext.tr (h := HX.out) hx); clear hx
      go_wp2_with fail
      refine (right_no t HY0.out ht _).mono ?_
      rintro e w29 ⟨rfl, hx⟩
      replace HX := Lib.hid (Ext.tr (h := HX.out) hx); clear hx
      go_wp2_with fail
      go_ret2
      exact ⟨rfl, HX.out⟩
  · have HX0 := Lib.hid hx0
    unfold cmpV cmpE; rw [hp]; show Calls _ _ _ _ (Ret w (.tuple #[.int .i64 0, .int .i64 10]))
    clear hx0 hp
    go_enter Tryz.func18, Tryz.ntmps18
    have HX := Lib.hid (Ext.rf w)
    go_wp2_with fail
    refine (right_no s HX0.out hs _).mono ?_
    rintro e w30 ⟨rfl, hx⟩
    replace HX := Lib.hid (Ext.tr (h := HX.out) hx); clear hx
    go_wp2_with fail
    go_ret2
    exact ⟨rfl, HX.out⟩
set_option maxHeartbeats 1000000 in
theorem add4_spec (s t : ByteArray) (hs : s.size ≤ 1099511627776) (ht : t.size ≤ 1099511627776) (w : World) :
    Calls Tryz.prog 35 #[.string s, .string t] w (Ret w (.tuple #[.string (twoS (· + ·) s t), .int .i64 (twoE (· + ·) s t)])) := by
  rcases pz_or s with ⟨x, hx0, hp⟩ | ⟨hx0, hp⟩
  · have HX0 := Lib.hid hx0
    have hdx := (wh_dl4 hx0)
    rcases pz_or t with ⟨y, hy0, hq⟩ | ⟨hy0, hq⟩
    · have HY0 := Lib.hid hy0
      have hdy := (wh_dl4 hy0)
      rw [(two_some _ hp hq).1, (two_some _ hp hq).2]
      obtain ⟨z, hz⟩ : ∃ z, x + y = z := ⟨_, rfl⟩
      show Calls _ _ _ _ (Ret w (.tuple #[.string (tS (x + y)), .int .i64 (tE (x + y))]))
      have hdz : dl B4 z.natAbs ≤ 2000 := by
        rw [← hz]; have h1 := dl_mono b42 (Int.natAbs_add_le x y); have h2 := dl_add b42 x.natAbs y.natAbs; omega
      rw [hz]
      have HZ := Lib.hid hz
      clear hz
      clear hx0 hp hy0 hq
      go_enter Tryz.func35, Tryz.ntmps35
      have HX := Lib.hid (Ext.rf w)
      go_wp2_with fail
      refine (right_yes s x HX0.out _).mono ?_
      rintro e w31 ⟨rfl, hx⟩
      replace HX := Lib.hid (Ext.tr (h := HX.out) hx); clear hx
      go_wp2_with fail
      refine (right_yes t y HY0.out _).mono ?_
      rintro e w32 ⟨rfl, hx⟩
      replace HX := Lib.hid (Ext.tr (h := HX.out) hx); clear hx
      go_wp2_with fail
      refine (in_spec s x HX0.out _).mono ?_
      rintro e w33 ⟨A, c, rfl, hA, hx⟩
      have HA := Lib.hid hA; clear hA
      replace HX := Lib.hid (Ext.tr (h := HX.out) hx); clear hx
      go_wp2_with fail
      refine (in_spec t y HY0.out _).mono ?_
      rintro e w34 ⟨B, d, rfl, hB, hx⟩
      replace HA := Lib.hid (HA.out.ext (x := hx)); have HB := Lib.hid hB; clear hB
      replace HX := Lib.hid (Ext.tr (h := HX.out) hx); clear hx
      go_wp2_with fail
      refine (plus4_spec A B c d x y _ HA.out HB.out (by omega) (by omega)).mono ?_
      rintro e w35 ⟨R, q, rfl, hR, hx⟩
      rw [HZ.out] at hR ⊢
      have HR := Lib.hid hR; clear hR
      replace HX := Lib.hid (Ext.tr (h := HX.out) hx); clear hx
      go_wp2_with fail
      refine (out4_spec R q z _ HR.out (by omega)).mono ?_
      rintro e w36 ⟨rfl, hx⟩
      replace HX := Lib.hid (Ext.tr (h := HX.out) hx); clear hx
      go_wp2_with fail
      go_ret2
      exact ⟨rfl, HX.out⟩
    · have HY0 := Lib.hid hy0
      rw [(two_none2 _ s hq).1, (two_none2 _ s hq).2]
      clear hx0 hp hy0 hq
      go_enter Tryz.func35, Tryz.ntmps35
      have HX := Lib.hid (Ext.rf w)
      go_wp2_with fail
      refine (right_yes s x HX0.out _).mono ?_
      rintro e w37 ⟨rfl, hx⟩
      replace HX := Lib.hid (Ext.tr (h := HX.out) hx); clear hx
      go_wp2_with fail
      refine (right_no t HY0.out ht _).mono ?_
      rintro e w38 ⟨rfl, hx⟩
      replace HX := Lib.hid (Ext.tr (h := HX.out) hx); clear hx
      go_wp2_with fail
      go_ret2
      exact ⟨rfl, HX.out⟩
  · have HX0 := Lib.hid hx0
    rw [(two_none1 _ t hp).1, (two_none1 _ t hp).2]
    clear hx0 hp
    go_enter Tryz.func35, Tryz.ntmps35
    have HX := Lib.hid (Ext.rf w)
    go_wp2_with fail
    refine (right_no s HX0.out hs _).mono ?_
    rintro e w39 ⟨rfl, hx⟩
    replace HX := Lib.hid (Ext.tr (h := HX.out) hx); clear hx
    go_wp2_with fail
    go_ret2
    exact ⟨rfl, HX.out⟩
set_option maxHeartbeats 1000000 in
theorem sub4_spec (s t : ByteArray) (hs : s.size ≤ 1099511627776) (ht : t.size ≤ 1099511627776) (w : World) :
    Calls Tryz.prog 36 #[.string s, .string t] w (Ret w (.tuple #[.string (twoS (· - ·) s t), .int .i64 (twoE (· - ·) s t)])) := by
  rcases pz_or s with ⟨x, hx0, hp⟩ | ⟨hx0, hp⟩
  · have HX0 := Lib.hid hx0
    have hdx := (wh_dl4 hx0)
    rcases pz_or t with ⟨y, hy0, hq⟩ | ⟨hy0, hq⟩
    · have HY0 := Lib.hid hy0
      have hdy := (wh_dl4 hy0)
      rw [(two_some _ hp hq).1, (two_some _ hp hq).2]
      obtain ⟨z, hz⟩ : ∃ z, x - y = z := ⟨_, rfl⟩
      show Calls _ _ _ _ (Ret w (.tuple #[.string (tS (x - y)), .int .i64 (tE (x - y))]))
      have hdz : dl B4 z.natAbs ≤ 2000 := by
        rw [← hz]; have h1 := dl_mono b42 (show (x - y).natAbs ≤ x.natAbs + y.natAbs by omega); have h2 := dl_add b42 x.natAbs y.natAbs; omega
      rw [hz]
      have HZ := Lib.hid hz
      clear hz
      clear hx0 hp hy0 hq
      go_enter Tryz.func36, Tryz.ntmps36
      have HX := Lib.hid (Ext.rf w)
      go_wp2_with fail
      refine (right_yes s x HX0.out _).mono ?_
      rintro e w40 ⟨rfl, hx⟩
      replace HX := Lib.hid (Ext.tr (h := HX.out) hx); clear hx
      go_wp2_with fail
      refine (right_yes t y HY0.out _).mono ?_
      rintro e w41 ⟨rfl, hx⟩
      replace HX := Lib.hid (Ext.tr (h := HX.out) hx); clear hx
      go_wp2_with fail
      refine (in_spec s x HX0.out _).mono ?_
      rintro e w42 ⟨A, c, rfl, hA, hx⟩
      have HA := Lib.hid hA; clear hA
      replace HX := Lib.hid (Ext.tr (h := HX.out) hx); clear hx
      go_wp2_with fail
      refine (in_spec t y HY0.out _).mono ?_
      rintro e w43 ⟨B, d, rfl, hB, hx⟩
      replace HA := Lib.hid (HA.out.ext (x := hx)); have HB := Lib.hid hB; clear hB
      replace HX := Lib.hid (Ext.tr (h := HX.out) hx); clear hx
      go_wp2_with fail
      refine (minus4_spec A B c d x y _ HA.out HB.out (by omega) (by omega)).mono ?_
      rintro e w44 ⟨R, q, rfl, hR, hx⟩
      rw [HZ.out] at hR ⊢
      have HR := Lib.hid hR; clear hR
      replace HX := Lib.hid (Ext.tr (h := HX.out) hx); clear hx
      go_wp2_with fail
      refine (out4_spec R q z _ HR.out (by omega)).mono ?_
      rintro e w45 ⟨rfl, hx⟩
      replace HX := Lib.hid (Ext.tr (h := HX.out) hx); clear hx
      go_wp2_with fail
      go_ret2
      exact ⟨rfl, HX.out⟩
    · have HY0 := Lib.hid hy0
      rw [(two_none2 _ s hq).1, (two_none2 _ s hq).2]
      clear hx0 hp hy0 hq
      go_enter Tryz.func36, Tryz.ntmps36
      have HX := Lib.hid (Ext.rf w)
      go_wp2_with fail
      refine (right_yes s x HX0.out _).mono ?_
      rintro e w46 ⟨rfl, hx⟩
      replace HX := Lib.hid (Ext.tr (h := HX.out) hx); clear hx
      go_wp2_with fail
      refine (right_no t HY0.out ht _).mono ?_
      rintro e w47 ⟨rfl, hx⟩
      replace HX := Lib.hid (Ext.tr (h := HX.out) hx); clear hx
      go_wp2_with fail
      go_ret2
      exact ⟨rfl, HX.out⟩
  · have HX0 := Lib.hid hx0
    rw [(two_none1 _ t hp).1, (two_none1 _ t hp).2]
    clear hx0 hp
    go_enter Tryz.func36, Tryz.ntmps36
    have HX := Lib.hid (Ext.rf w)
    go_wp2_with fail
    refine (right_no s HX0.out hs _).mono ?_
    rintro e w48 ⟨rfl, hx⟩
    replace HX := Lib.hid (Ext.tr (h := HX.out) hx); clear hx
    go_wp2_with fail
    go_ret2
    exact ⟨rfl, HX.out⟩
set_option maxHeartbeats 1000000 in
theorem mul4_spec (s t : ByteArray) (hs : s.size ≤ 1099511627776) (ht : t.size ≤ 1099511627776) (w : World) :
    Calls Tryz.prog 37 #[.string s, .string t] w (Ret w (.tuple #[.string (twoS (· * ·) s t), .int .i64 (twoE (· * ·) s t)])) := by
  rcases pz_or s with ⟨x, hx0, hp⟩ | ⟨hx0, hp⟩
  · have HX0 := Lib.hid hx0
    have hdx := (wh_dl4 hx0)
    rcases pz_or t with ⟨y, hy0, hq⟩ | ⟨hy0, hq⟩
    · have HY0 := Lib.hid hy0
      have hdy := (wh_dl4 hy0)
      rw [(two_some _ hp hq).1, (two_some _ hp hq).2]
      obtain ⟨z, hz⟩ : ∃ z, x * y = z := ⟨_, rfl⟩
      show Calls _ _ _ _ (Ret w (.tuple #[.string (tS (x * y)), .int .i64 (tE (x * y))]))
      have hdz : dl B4 z.natAbs ≤ 2000 := by
        rw [← hz]; have h2 := dl_mul b42 x.natAbs y.natAbs; rw [Int.natAbs_mul]; omega
      rw [hz]
      have HZ := Lib.hid hz
      clear hz
      clear hx0 hp hy0 hq
      go_enter Tryz.func37, Tryz.ntmps37
      have HX := Lib.hid (Ext.rf w)
      go_wp2_with fail
      refine (right_yes s x HX0.out _).mono ?_
      rintro e w49 ⟨rfl, hx⟩
      replace HX := Lib.hid (Ext.tr (h := HX.out) hx); clear hx
      go_wp2_with fail
      refine (right_yes t y HY0.out _).mono ?_
      rintro e w50 ⟨rfl, hx⟩
      replace HX := Lib.hid (Ext.tr (h := HX.out) hx); clear hx
      go_wp2_with fail
      refine (in_spec s x HX0.out _).mono ?_
      rintro e w51 ⟨A, c, rfl, hA, hx⟩
      have HA := Lib.hid hA; clear hA
      replace HX := Lib.hid (Ext.tr (h := HX.out) hx); clear hx
      go_wp2_with fail
      refine (in_spec t y HY0.out _).mono ?_
      rintro e w52 ⟨B, d, rfl, hB, hx⟩
      replace HA := Lib.hid (HA.out.ext (x := hx)); have HB := Lib.hid hB; clear hB
      replace HX := Lib.hid (Ext.tr (h := HX.out) hx); clear hx
      go_wp2_with fail
      refine (times4_spec A B c d x y _ HA.out HB.out (by omega) (by omega)).mono ?_
      rintro e w53 ⟨R, q, rfl, hR, hx⟩
      rw [HZ.out] at hR ⊢
      have HR := Lib.hid hR; clear hR
      replace HX := Lib.hid (Ext.tr (h := HX.out) hx); clear hx
      go_wp2_with fail
      refine (out4_spec R q z _ HR.out (by omega)).mono ?_
      rintro e w54 ⟨rfl, hx⟩
      replace HX := Lib.hid (Ext.tr (h := HX.out) hx); clear hx
      go_wp2_with fail
      go_ret2
      exact ⟨rfl, HX.out⟩
    · have HY0 := Lib.hid hy0
      rw [(two_none2 _ s hq).1, (two_none2 _ s hq).2]
      clear hx0 hp hy0 hq
      go_enter Tryz.func37, Tryz.ntmps37
      have HX := Lib.hid (Ext.rf w)
      go_wp2_with fail
      refine (right_yes s x HX0.out _).mono ?_
      rintro e w55 ⟨rfl, hx⟩
      replace HX := Lib.hid (Ext.tr (h := HX.out) hx); clear hx
      go_wp2_with fail
      refine (right_no t HY0.out ht _).mono ?_
      rintro e w56 ⟨rfl, hx⟩
      replace HX := Lib.hid (Ext.tr (h := HX.out) hx); clear hx
      go_wp2_with fail
      go_ret2
      exact ⟨rfl, HX.out⟩
  · have HX0 := Lib.hid hx0
    rw [(two_none1 _ t hp).1, (two_none1 _ t hp).2]
    clear hx0 hp
    go_enter Tryz.func37, Tryz.ntmps37
    have HX := Lib.hid (Ext.rf w)
    go_wp2_with fail
    refine (right_no s HX0.out hs _).mono ?_
    rintro e w57 ⟨rfl, hx⟩
    replace HX := Lib.hid (Ext.tr (h := HX.out) hx); clear hx
    go_wp2_with fail
    go_ret2
    exact ⟨rfl, HX.out⟩
end Go.Proofs.YtkmmkobiigddkaaGreatDoor
