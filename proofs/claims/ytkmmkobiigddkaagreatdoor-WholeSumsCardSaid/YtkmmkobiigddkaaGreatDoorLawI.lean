import Derived.Test.YtkmmkobiigddkaaGreatDoorProg
import Derived.Test.YtkmmkobiigddkaaGreatDoorLawG
/-! The walk of WholeSums: the package and its reference agree. -/
set_option linter.unusedVariables false
set_option linter.unusedSimpArgs false
set_option maxRecDepth 100000
namespace Go.Proofs.YtkmmkobiigddkaaGreatDoor
open Go.RowKit

set_option maxHeartbeats 8000000 in
theorem sums_walk (A B : ByteArray) (b b' : Bool) (G G' : Option Addr) (gc gc' z z' : Nat) (L L' : List Nat) (w : World) [ht : Tab w] [he : Errs w] (hA : A.size ≤ 9223372036854775807) (hB : B.size ≤ 9223372036854775807)
    (hG : Row w .u16 G gc L) (hL : ∀ x ∈ L, x < 65536) (hz : z < 65536) (hG' : Row w .u16 G' gc' L') (hL' : ∀ x ∈ L', x < 65536) (hz' : z' < 65536) :
    Calls Tryz.prog 8 #[.agg #[.string A, .string B, .bool b, .slice G L.length gc, .int .u16 (z : Int), .bool b', .slice G' L'.length gc', .int .u16 (z' : Int)]] w (Ret w (.bool true)) := by
  obtain ⟨SA, hSA⟩ : ∃ s, cut620 A = s := ⟨_, rfl⟩
  obtain ⟨SB, hSB⟩ : ∃ s, cut620 B = s := ⟨_, rfl⟩
  obtain ⟨SX, hSX⟩ : ∃ s, txt (dz b L z) = s := ⟨_, rfl⟩
  obtain ⟨SY, hSY⟩ : ∃ s, txt (dz b' L' z') = s := ⟨_, rfl⟩
  have hs1 : SA.size ≤ 1000 := by rw [← hSA]; have := cut620_size A; omega
  have hs2 : SB.size ≤ 1000 := by rw [← hSB]; have := cut620_size B; omega
  have hs3 : SX.size ≤ 1000 := by rw [← hSX, txt_size]; have := dz_nd b L z; split <;> omega
  have hs4 : SY.size ≤ 1000 := by rw [← hSY, txt_size]; have := dz_nd b' L' z'; split <;> omega
  have HG := Lib.hid hG
  have HG' := Lib.hid hG'
  obtain ⟨zI, hzI⟩ : ∃ x : Int, (z : Int) = x := ⟨_, rfl⟩
  obtain ⟨yI, hyI⟩ : ∃ x : Int, (z' : Int) = x := ⟨_, rfl⟩
  rw [hzI, hyI]
  have CP := Lib.hid (fun (w : World) (hr : Row w .u16 G gc L) (hr' : Row w .u16 G' gc' L') => (by have h := pairs_spec A B b b' G G' gc gc' z z' L L' w hA hB hr hL hz hr' hL' hz'; rw [hSA, hSB, hSX, hSY, hzI, hyI] at h; exact h : Calls _ _ _ w (RetPairs w SA SB SX SY)))
  clear hSA hSB hSX hSY hG hG' hL hL' hz hz' hzI hyI hA hB
  go_enter Tryz.func8, Tryz.ntmps8
  go_wp2_with fail
  have hb0 : Ext w (w.alloc (.cells #[.string A, .string B, .bool b, .slice G L.length gc, .int .u16 zI, .bool b', .slice G' L'.length gc', .int .u16 yI] 27)) := inferInstance
  have HB := Lib.hid hb0
  have ht0 := ht.to hb0
  have he0 := he.to hb0
  refine (works_spec _).mono ?_
  rintro e w1 ⟨rfl, hx⟩
  have HX := Lib.hid hx
  obtain ⟨⟨q0, q1⟩, ⟨q2, q3, q4⟩, q5, q6, q7⟩ := boxTwo hx
  clear hx ht0 he0 hb0
  go_wp2_with fail
  refine (CP.out _ (HG.out.ext (x := Ext.tr (h := HB.out) HX.out)) (HG'.out.ext (x := Ext.tr (h := HB.out) HX.out))).mono ?_
  rintro e w2 ⟨g, rfl, hx, hg, hh⟩
  have hg0 : w.heap.size ≤ g := Nat.le_trans (Ext.tr (h := HB.out) HX.out).below.size hg
  have HH := Lib.hid hh; clear hh hg
  replace HX := Lib.hid (Ext.tr (h := HX.out) hx); clear hx
  clear q0 q1 q2 q3 q4 q5 q6 q7
  go_wp2_with fail
  have hcell : ∀ k : Nat, k < 4 → ∃ s t : ByteArray, s.size ≤ 1000 ∧ t.size ≤ 1000 ∧ (eight SA SB SX SY)[k * 2]? = some (.string s) ∧ (eight SA SB SX SY)[k * 2 + 1]? = some (.string t) := by
    intro k hk
    rcases (show k = 0 ∨ k = 1 ∨ k = 2 ∨ k = 3 by omega) with rfl | rfl | rfl | rfl
    · exact ⟨SA, SB, hs1, hs2, rfl, rfl⟩
    · exact ⟨SX, SY, hs3, hs4, rfl, rfl⟩
    · exact ⟨SA, SY, hs1, hs4, rfl, rfl⟩
    · exact ⟨SY, SB, hs4, hs2, rfl, rfl⟩
  generalize eight SA SB SX SY = cur at HH hcell
  replace HX := Lib.hid (Ext.tr (h := HB.out) HX.out)
  have HCL := Lib.hid hcell
  clear hcell hs1 hs2 hs3 hs4 CP HG HG' HB
  have htb := Lib.hid (ht.to HX.out)
  have heb := Lib.hid (he.to HX.out)
  go_loopw [30] (fun iv wr => ∃ k : Nat, k ≤ 4 ∧ iv = .int .i64 (k : Int) ∧ Hid (Ext w2 wr)) (fun iv _ => 4 - (intOf iv).toNat)
  case atStart => exact ⟨0, by omega, rfl, Lib.hid (Ext.rf _)⟩
  case round =>
    obtain ⟨k, hk, rfl, HXR⟩ := hrel
    by_cases hlt : k < 4
    · obtain ⟨s, t, hs, ht', hc0, hc1⟩ := HCL.out k hlt
      have hblk := (HXR.out.below.block g (Array.getElem?_eq_some_iff.1 HH.out).1).trans HH.out
      have c0 : wr.cell? ⟨g, k * 2, none⟩ = some (.string s) := by simp [World.cell?, hblk, hc0]
      have c1 : wr.cell? ⟨g, k * 2 + 1, none⟩ = some (.string t) := by simp [World.cell?, hblk, hc1]
      have hki : (k : Int) < 4 := by omega
      clear hc0 hc1 hblk
      obtain ⟨n1, hn1⟩ : ∃ v, oneS (- ·) s = v := ⟨_, rfl⟩
      have Kn1 := Lib.hid hn1; clear hn1
      obtain ⟨n2, hn2⟩ : ∃ v, oneE (- ·) s = v := ⟨_, rfl⟩
      have Kn2 := Lib.hid hn2; clear hn2
      obtain ⟨a1, ha1⟩ : ∃ v, oneS (fun z => ((z.natAbs : Nat) : Int)) s = v := ⟨_, rfl⟩
      have Ka1 := Lib.hid ha1; clear ha1
      obtain ⟨a2, ha2⟩ : ∃ v, oneE (fun z => ((z.natAbs : Nat) : Int)) s = v := ⟨_, rfl⟩
      have Ka2 := Lib.hid ha2; clear ha2
      obtain ⟨p1, hp1⟩ : ∃ v, twoS (· + ·) s t = v := ⟨_, rfl⟩
      have Kp1 := Lib.hid hp1; clear hp1
      obtain ⟨p2, hp2⟩ : ∃ v, twoE (· + ·) s t = v := ⟨_, rfl⟩
      have Kp2 := Lib.hid hp2; clear hp2
      obtain ⟨d1, hd1⟩ : ∃ v, twoS (· - ·) s t = v := ⟨_, rfl⟩
      have Kd1 := Lib.hid hd1; clear hd1
      obtain ⟨d2, hd2⟩ : ∃ v, twoE (· - ·) s t = v := ⟨_, rfl⟩
      have Kd2 := Lib.hid hd2; clear hd2
      obtain ⟨m1, hm1⟩ : ∃ v, twoS (· * ·) s t = v := ⟨_, rfl⟩
      have Km1 := Lib.hid hm1; clear hm1
      obtain ⟨m2, hm2⟩ : ∃ v, twoE (· * ·) s t = v := ⟨_, rfl⟩
      have Km2 := Lib.hid hm2; clear hm2
      have HXL := Lib.hid (Ext.rf (wr.alloc (.cells #[.string s, .string t] 33)))
      go_wp2_with fail
      have ht3 := htb.out.to (Ext.tr (h := Ext.al _ _ _ (h := HXR.out)) HXL.out)
      refine (neg_spec s _).mono ?_
      rintro e w23 ⟨rfl, hx⟩
      rw [Kn1.out, Kn2.out]
      replace HXL := Lib.hid (Ext.tr (h := HXL.out) hx); clear hx
      clear ht3
      (try clear q0 q1); have q0 := boxN HXL.out 0; have q1 := boxN HXL.out 1
      go_wp2_with fail
      refine (neg4_spec s (by omega) _).mono ?_
      rintro e w24 ⟨rfl, hx⟩
      rw [Kn1.out, Kn2.out]
      replace HXL := Lib.hid (Ext.tr (h := HXL.out) hx); clear hx
      (try clear q0 q1); have q0 := boxN HXL.out 0; have q1 := boxN HXL.out 1
      go_wp2_with fail
      refine (abs_spec s _).mono ?_
      rintro e w25 ⟨rfl, hx⟩
      rw [Ka1.out, Ka2.out]
      replace HXL := Lib.hid (Ext.tr (h := HXL.out) hx); clear hx
      (try clear q0 q1); have q0 := boxN HXL.out 0; have q1 := boxN HXL.out 1
      go_wp2_with fail
      refine (abs4_spec s (by omega) _).mono ?_
      rintro e w26 ⟨rfl, hx⟩
      rw [Ka1.out, Ka2.out]
      replace HXL := Lib.hid (Ext.tr (h := HXL.out) hx); clear hx
      (try clear q0 q1); have q0 := boxN HXL.out 0; have q1 := boxN HXL.out 1
      go_wp2_with fail
      have ht7 := htb.out.to (Ext.tr (h := Ext.al _ _ _ (h := HXR.out)) HXL.out)
      refine (addw_spec s t _).mono ?_
      rintro e w27 ⟨rfl, hx⟩
      rw [Kp1.out, Kp2.out]
      replace HXL := Lib.hid (Ext.tr (h := HXL.out) hx); clear hx
      clear ht7
      (try clear q0 q1); have q0 := boxN HXL.out 0; have q1 := boxN HXL.out 1
      go_wp2_with fail
      refine (add4_spec s t (by omega) (by omega) _).mono ?_
      rintro e w28 ⟨rfl, hx⟩
      rw [Kp1.out, Kp2.out]
      replace HXL := Lib.hid (Ext.tr (h := HXL.out) hx); clear hx
      (try clear q0 q1); have q0 := boxN HXL.out 0; have q1 := boxN HXL.out 1
      go_wp2_with fail
      have ht9 := htb.out.to (Ext.tr (h := Ext.al _ _ _ (h := HXR.out)) HXL.out)
      refine (subw_spec s t _).mono ?_
      rintro e w29 ⟨rfl, hx⟩
      rw [Kd1.out, Kd2.out]
      replace HXL := Lib.hid (Ext.tr (h := HXL.out) hx); clear hx
      clear ht9
      (try clear q0 q1); have q0 := boxN HXL.out 0; have q1 := boxN HXL.out 1
      go_wp2_with fail
      refine (sub4_spec s t (by omega) (by omega) _).mono ?_
      rintro e w30 ⟨rfl, hx⟩
      rw [Kd1.out, Kd2.out]
      replace HXL := Lib.hid (Ext.tr (h := HXL.out) hx); clear hx
      (try clear q0 q1); have q0 := boxN HXL.out 0; have q1 := boxN HXL.out 1
      go_wp2_with fail
      have ht11 := htb.out.to (Ext.tr (h := Ext.al _ _ _ (h := HXR.out)) HXL.out)
      refine (mulw_spec s t _).mono ?_
      rintro e w31 ⟨rfl, hx⟩
      rw [Km1.out, Km2.out]
      replace HXL := Lib.hid (Ext.tr (h := HXL.out) hx); clear hx
      clear ht11
      (try clear q0 q1); have q0 := boxN HXL.out 0; have q1 := boxN HXL.out 1
      go_wp2_with fail
      refine (mul4_spec s t (by omega) (by omega) _).mono ?_
      rintro e w32 ⟨rfl, hx⟩
      rw [Km1.out, Km2.out]
      replace HXL := Lib.hid (Ext.tr (h := HXL.out) hx); clear hx
      (try clear q0 q1); have q0 := boxN HXL.out 0; have q1 := boxN HXL.out 1
      go_wp2_with fail
      exact ⟨⟨k + 1, by omega, by simp, Lib.hid (Ext.tr (h := Ext.al _ _ _ (h := HXR.out)) HXL.out)⟩, by simp [intOf]; omega⟩
    · have hki : ¬ (k : Int) < 4 := by omega
      go_wp2_with fail
      go_ret
      exact ⟨rfl, Ext.tr (h := HX.out) HXR.out⟩
end Go.Proofs.YtkmmkobiigddkaaGreatDoor
