import Derived.Test.YtkmmkobiigddkaaGreatDoorProg
import Derived.Test.YtkmmkobiigddkaaGreatDoorLawE
/-! The walk of the laws of roots. -/
set_option linter.unusedVariables false
set_option linter.unusedSimpArgs false
set_option maxRecDepth 100000
namespace Go.Proofs.YtkmmkobiigddkaaGreatDoor
open Go.RowKit

theorem wh_root {s : ByteArray} {x r : Int} {k : Nat} (hs : Wh s x) (h0 : 0 ≤ x) (h1 : 1 ≤ k) (h2 : k ≤ 12) (hr : ((iroot k x.natAbs : Nat) : Int) = r) : rootS s (k : Int) = txt r ∧ rootE s (k : Int) = 0 := by
  unfold rootS rootE
  rw [pz_some hs]
  have h : ¬ ((k : Int) < 1 ∨ 12 < (k : Int) ∨ x < 0) := by omega
  simp only [if_neg h, Int.toNat_natCast, hr]
  exact ⟨trivial, trivial⟩
theorem wh_pow {s : ByteArray} {x z : Int} {k : Nat} (hs : Wh s x) (h2 : k ≤ 40) (hz : x ^ k = z) (h : Lib.nDigits z.natAbs ≤ 600) : powS s (k : Int) = txt z ∧ powE s (k : Int) = 0 := by
  unfold powS powE
  rw [pz_some hs]
  have hk : ¬ ((k : Int) < 0 ∨ 40 < (k : Int)) := by omega
  simp only [if_neg hk, Int.toNat_natCast, hz]
  exact ⟨tS_ok h, tE_ok h⟩
theorem wh_pow2 {s : ByteArray} {x z : Int} (hs : Wh s x) (hz : x ^ 2 = z) (h : Lib.nDigits z.natAbs ≤ 600) : powS s 2 = txt z ∧ powE s 2 = 0 := by
  unfold powS powE
  rw [pz_some hs]
  have hk : ¬ ((2 : Int) < 0 ∨ 40 < (2 : Int)) := by omega
  simp only [if_neg hk]
  rw [show (2 : Int).toNat = 2 from rfl, hz]
  exact ⟨tS_ok h, tE_ok h⟩
/-- The number of three groups at most. -/
theorem dv3 (L : List Nat) : dv ((L.take (min L.length 3)).take 12) < 10 ^ 9 := by
  have h1 := dv_lt ((L.take (min L.length 3)).take 12)
  have h2 : 1000 ^ ((L.take (min L.length 3)).take 12).length ≤ 1000 ^ 3 := Nat.pow_le_pow_right (by omega) (by rw [List.length_take, List.length_take]; omega)
  exact Nat.lt_of_lt_of_le h1 (Nat.le_trans h2 (by decide))
theorem dz3_nd (b : Bool) (L : List Nat) (z k : Nat) (hk : z % 501 ≤ k) : Lib.nDigits (dz b (L.take (min L.length 3)) z).natAbs ≤ 9 + k := by
  rw [dz_abs, nDigits_le (by omega)]
  unfold dm
  rw [Nat.pow_add]
  exact Nat.lt_of_lt_of_le (Nat.mul_lt_mul_of_pos_right (dv3 L) (Nat.pow_pos (by omega))) (Nat.mul_le_mul_left _ (Nat.pow_le_pow_right (by omega) hk))
theorem nd_pow {x : Int} {a k : Nat} (ha : 0 < a) (hk : 0 < k) (hx : Lib.nDigits x.natAbs ≤ a) : Lib.nDigits (x ^ k).natAbs ≤ a * k := by
  refine ndz_lt (Nat.mul_pos ha hk) ?_
  rw [Int.natAbs_pow, Nat.pow_mul]
  exact Nat.pow_lt_pow_left (lt_nd ha hx) (by omega)
/-- The power of the number behind a root is not much greater. -/
theorem next_pow (r k m : Nat) (hk : k ≤ 12) (h : r ^ k ≤ m) (hm : Lib.nDigits m ≤ 159) : Lib.nDigits ((r + 1) ^ k) ≤ 200 := by
  rw [nDigits_le (by omega)]
  have h1 := (nDigits_le (show 0 < 159 by omega)).1 hm
  have h2 : (r + 1) ^ k ≤ 2 ^ k * (m + 1) := by
    rcases Nat.eq_zero_or_pos r with h0 | h0
    · subst h0
      rw [Nat.zero_add, Nat.one_pow]
      exact Nat.mul_pos (Nat.pow_pos (by omega)) (by omega)
    · have : (r + 1) ^ k ≤ (2 * r) ^ k := Nat.pow_le_pow_left (by omega) k
      rw [Nat.mul_pow] at this
      exact Nat.le_trans this (Nat.mul_le_mul_left _ (by omega))
  have h3 : 2 ^ k ≤ 2 ^ 12 := Nat.pow_le_pow_right (by omega) hk
  have h4 : 2 ^ k * (m + 1) ≤ 2 ^ 12 * 10 ^ 159 := Nat.mul_le_mul h3 (by omega)
  exact Nat.lt_of_le_of_lt h2 (Nat.lt_of_le_of_lt h4 (by decide))
theorem iroot_pow {k : Nat} (hk : 0 < k) (b : Nat) : iroot k (b ^ k) = b :=
  iroot_eq hk ⟨Nat.le_refl _, Nat.pow_lt_pow_left (by omega) (by omega)⟩
/-- Storing at one place leaves the others. -/
theorem set_far (W : World) (b i c j : Nat) (v : Value) (h : b ≠ c ∨ i ≠ j) : (W.setCell ⟨b, i, none⟩ v).cell? ⟨c, j, none⟩ = W.cell? ⟨c, j, none⟩ :=
  World.cell?_setCell_other _ _ _ _ (by intro e; simp only [Addr.mk.injEq] at e; omega)
theorem boxF {w W : World} {cs : Array Value} {T : TypeId} (x : Ext (w.alloc (.cells cs T)) W) (j : Nat) : W.frozen? ⟨w.heap.size, j, none⟩ = false := by
  have h1 : W.heap[w.heap.size]? = some (.cells cs T (0, 0)) := by rw [x.below.block _ (by simp)]; exact heap_alloc_new w _
  simp [World.frozen?, h1]
theorem boxG {w W : World} {cs cs' : Array Value} {T T' : TypeId} (x : Ext ((w.alloc (.cells cs T)).alloc (.cells cs' T')) W) :
    (∀ j, W.frozen? ⟨w.heap.size, j, none⟩ = false) ∧ (∀ j, W.frozen? ⟨w.heap.size + 1, j, none⟩ = false) := by
  have hg : (w.alloc (.cells cs T)).heap.size = w.heap.size + 1 := by simp only [World.alloc, Array.size_push]
  have k := fun j => boxF x j
  rw [hg] at k
  exact ⟨fun j => boxF (Ext.tr (h := Ext.al _ _ _ (h := Ext.rf _)) x) j, k⟩
set_option maxHeartbeats 4000000 in
theorem roots_walk (b b' : Bool) (G G' : Option Addr) (gc gc' z z' k : Nat) (L L' : List Nat) (w : World) [ht : Tab w] [he : Errs w] (hG : Row w .u16 G gc L) (hL : ∀ x ∈ L, x < 65536) (hz : z < 65536)
    (hG' : Row w .u16 G' gc' L') (hL' : ∀ x ∈ L', x < 65536) (hz' : z' < 65536) (hk : k < 256) :
    Calls Tryz.prog 6 #[.agg #[.bool b, .slice G L.length gc, .int .u16 (z : Int)], .agg #[.bool b', .slice G' L'.length gc', .int .u16 (z' : Int)], .int .u8 (k : Int)] w (Ret w (.bool true)) := by
  -- the degree
  obtain ⟨d, hd⟩ : ∃ d : Nat, 1 + k % 12 = d := ⟨_, rfl⟩
  have hd1 : 1 ≤ d := by omega
  have hd12 : d ≤ 12 := by omega
  obtain ⟨kI, hkI⟩ : ∃ x : Int, (k : Int) = x := ⟨_, rfl⟩
  obtain ⟨e0, he0⟩ : ∃ x : Int, kI % 12 = x := ⟨_, rfl⟩
  have hk0 : 0 ≤ kI := by omega
  have hk1 : kI < 256 := by omega
  have e00 : 0 ≤ e0 := by omega
  have e01 : e0 ≤ 11 := by omega
  have hde : (d : Int) = 1 + e0 := by omega
  have htm : kI.tmod 12 = e0 := by rw [Int.tmod_eq_emod_of_nonneg hk0]; exact he0
  -- the zeros
  obtain ⟨qn, hqn⟩ : ∃ q : Nat, 150 / d = q := ⟨_, rfl⟩
  have hq150 : qn ≤ 150 := by rw [← hqn]; exact Nat.div_le_self _ _
  obtain ⟨q, hq⟩ : ∃ x : Int, (qn : Int) = x := ⟨_, rfl⟩
  have hq0 : 0 ≤ q := by omega
  have hq1 : q ≤ 150 := by omega
  have hdiv : (150 : Int) / (1 + e0) = q := by rw [← hde, ← hq, ← hqn]; rfl
  have htd : (150 : Int).tdiv (1 + e0) = q := by rw [Int.tdiv_eq_ediv_of_nonneg (by omega)]; exact hdiv
  obtain ⟨zz, hzz⟩ : ∃ n : Nat, z % (1 + qn) = n := ⟨_, rfl⟩
  have hzz1 : zz ≤ qn := by rw [← hzz]; exact Nat.le_of_lt_succ (by have := Nat.mod_lt z (show 0 < 1 + qn by omega); omega)
  obtain ⟨yy, hyy⟩ : ∃ n : Nat, z' % 8 = n := ⟨_, rfl⟩
  have hyy1 : yy ≤ 7 := by omega
  obtain ⟨zI, hzI⟩ : ∃ x : Int, (z : Int) = x := ⟨_, rfl⟩
  obtain ⟨yI, hyI⟩ : ∃ x : Int, (z' : Int) = x := ⟨_, rfl⟩
  have hz0 : 0 ≤ zI := by omega
  have hz1 : zI < 65536 := by omega
  have hy0 : 0 ≤ yI := by omega
  have hy1 : yI < 65536 := by omega
  have hzm : zI % (1 + q) = (zz : Int) := by rw [← hzI, ← hq, ← hzz]; simp
  have hzt : zI.tmod (1 + q) = (zz : Int) := by rw [Int.tmod_eq_emod_of_nonneg hz0]; exact hzm
  have hym : yI % 8 = (yy : Int) := by omega
  have hyt : yI.tmod 8 = (yy : Int) := by rw [Int.tmod_eq_emod_of_nonneg hy0]; exact hym
  -- the groups
  obtain ⟨l3, hl3⟩ : ∃ n : Nat, min L.length 3 = n := ⟨_, rfl⟩
  obtain ⟨m3, hm3⟩ : ∃ n : Nat, min L'.length 3 = n := ⟨_, rfl⟩
  have hlc : l3 ≤ gc := by have := hG.cap; omega
  have hmc : m3 ≤ gc' := by have := hG'.cap; omega
  have hgx := hG.max
  have hgx' := hG'.max
  have hmn := @min_two
  have hmin : Builtin.min2 (.int .i64 (L.length : Int)) (.int .i64 3) = pure (.int .i64 (l3 : Int)) := by
    simp only [Builtin.min2, gt_iff_lt]; congr 2; split <;> omega
  have hmin' : Builtin.min2 (.int .i64 (L'.length : Int)) (.int .i64 3) = pure (.int .i64 (m3 : Int)) := by
    simp only [Builtin.min2, gt_iff_lt]; congr 2; split <;> omega
  have hlen : (L.take l3).length = l3 := by rw [List.length_take]; omega
  have hlen' : (L'.take m3).length = m3 := by rw [List.length_take]; omega
  have HT := Lib.hid (hG.take l3)
  have HT' := Lib.hid (hG'.take m3)
  have HL := Lib.hid (show ∀ x ∈ L.take l3, x < 65536 from fun x h => hL x (List.mem_of_mem_take h))
  have HL' := Lib.hid (show ∀ x ∈ L'.take m3, x < 65536 from fun x h => hL' x (List.mem_of_mem_take h))
  -- the numbers
  obtain ⟨X, hX⟩ : ∃ X, dz b (L.take l3) zz = X := ⟨_, rfl⟩
  obtain ⟨Y, hY⟩ : ∃ Y, dz b' (L'.take m3) yy = Y := ⟨_, rfl⟩
  have ndX : Lib.nDigits X.natAbs ≤ 159 := by
    have := dz3_nd b L zz 150 (by omega); rw [hl3, hX] at this; omega
  have ndX2 : Lib.nDigits X.natAbs ≤ 9 + qn := by
    have := dz3_nd b L zz qn (by omega); rw [hl3, hX] at this; exact this
  have ndY : Lib.nDigits Y.natAbs ≤ 16 := by
    have := dz3_nd b' L' yy 7 (by omega); rw [hm3, hY] at this; omega
  obtain ⟨SX, hSX⟩ : ∃ S, txt X = S := ⟨_, rfl⟩
  obtain ⟨SY, hSY⟩ : ∃ S, txt Y = S := ⟨_, rfl⟩
  have whX : Wh SX X := hSX ▸ txt_wh (by omega)
  have whY : Wh SY Y := hSY ▸ txt_wh (by omega)
  have CX := Lib.hid (fun (w : World) (hr : Row w .u16 G gc (L.take l3)) => (by have h := whole4_spec b G gc zz (L.take l3) w hr HL.out (by omega); rw [hX, hSX, hlen] at h; exact h : Calls _ _ _ w (Ret w (.string SX))))
  have CY := Lib.hid (fun (w : World) (hr : Row w .u16 G' gc' (L'.take m3)) => (by have h := whole4_spec b' G' gc' yy (L'.take m3) w hr HL'.out (by omega); rw [hY, hSY, hlen'] at h; exact h : Calls _ _ _ w (Ret w (.string SY))))
  obtain ⟨A, eA⟩ : ∃ z : Int, ((X.natAbs : Nat) : Int) = z := ⟨_, rfl⟩
  have ndA : Lib.nDigits A.natAbs ≤ 159 := eA ▸ (by rw [nd_abs]; exact ndX)
  obtain ⟨SA, hSA⟩ : ∃ S, txt A = S := ⟨_, rfl⟩
  have whA : Wh SA A := hSA ▸ txt_wh (by omega)
  obtain ⟨B, eB⟩ : ∃ z : Int, ((Y.natAbs : Nat) : Int) = z := ⟨_, rfl⟩
  have ndB : Lib.nDigits B.natAbs ≤ 16 := eB ▸ (by rw [nd_abs]; exact ndY)
  obtain ⟨SB, hSB⟩ : ∃ S, txt B = S := ⟨_, rfl⟩
  have whB : Wh SB B := hSB ▸ txt_wh (by omega)
  have hA0 : 0 ≤ A := by omega
  have hB0 : 0 ≤ B := by omega
  have F1 := Lib.hid (wh_one (f := fun z => ((z.natAbs : Nat) : Int)) whX eA (by omega))
  have F2 := Lib.hid (wh_one (f := fun z => ((z.natAbs : Nat) : Int)) whY eB (by omega))
  have hroot := iroot_is (show 0 < d by omega) A.natAbs
  have hrle := iroot_le (show 0 < d by omega) A.natAbs
  obtain ⟨R, eR⟩ : ∃ z : Int, ((iroot d A.natAbs : Nat) : Int) = z := ⟨_, rfl⟩
  have ndR : Lib.nDigits R.natAbs ≤ 159 := eR ▸ (nd_le (by rw [Int.natAbs_natCast]; exact hrle) ndA)
  obtain ⟨SR, hSR⟩ : ∃ S, txt R = S := ⟨_, rfl⟩
  have whR : Wh SR R := hSR ▸ txt_wh (by omega)
  have f3 := wh_root whA hA0 hd1 hd12 eR
  have wh1 : Wh ⟨#[49]⟩ 1 := ⟨by kernel_rfl, by rw [Lib.nDigits_small (by decide)]; omega⟩
  obtain ⟨N, eN⟩ : ∃ z : Int, R + 1 = z := ⟨_, rfl⟩
  have ndN : Lib.nDigits N.natAbs ≤ 160 := eN ▸ nd_add (by omega) ndR (by rw [Lib.nDigits_small (by decide)]; omega)
  obtain ⟨SN, hSN⟩ : ∃ S, txt N = S := ⟨_, rfl⟩
  have whN : Wh SN N := hSN ▸ txt_wh (by omega)
  have F4 := Lib.hid (wh_two (f := (· + ·)) whR wh1 eN (by omega))
  have hlowA : R ^ d ≤ A := by
    have h1 := hroot.1
    rw [← eR, ← Int.natCast_pow]; omega
  have hhighA : A < N ^ d := by
    have h1 := hroot.2
    rw [← eN, ← eR, show ((iroot d A.natAbs : Nat) : Int) + 1 = ((iroot d A.natAbs + 1 : Nat) : Int) by omega, ← Int.natCast_pow]; omega
  have hR0 : 0 ≤ R := by omega
  obtain ⟨U, eU⟩ : ∃ z : Int, R ^ d = z := ⟨_, rfl⟩
  have ndU : Lib.nDigits U.natAbs ≤ 159 := eU ▸ nd_le (by have : 0 ≤ R ^ d := Int.pow_nonneg hR0; omega) ndA
  obtain ⟨SU, hSU⟩ : ∃ S, txt U = S := ⟨_, rfl⟩
  have whU : Wh SU U := hSU ▸ txt_wh (by omega)
  have hNn : Lib.nDigits (N ^ d).natAbs ≤ 200 := by
    have h1 := next_pow (iroot d A.natAbs) d A.natAbs hd12 hroot.1 ndA
    rw [Int.natAbs_pow, show N.natAbs = iroot d A.natAbs + 1 by omega]; exact h1
  obtain ⟨V, eV⟩ : ∃ z : Int, N ^ d = z := ⟨_, rfl⟩
  have ndV : Lib.nDigits V.natAbs ≤ 200 := eV ▸ hNn
  obtain ⟨SV, hSV⟩ : ∃ S, txt V = S := ⟨_, rfl⟩
  have whV : Wh SV V := hSV ▸ txt_wh (by omega)
  have f5 := wh_pow whR (show d ≤ 40 by omega) eU (by omega)
  have f6 := wh_pow whN (show d ≤ 40 by omega) eV (by omega)
  have F7 := Lib.hid (wh_cmp whU whA)
  have F8 := Lib.hid (wh_cmp whV whA)
  obtain ⟨un, hun⟩ : ∃ s, (U - A).sign = s := ⟨_, rfl⟩
  obtain ⟨ov, hov⟩ : ∃ s, (V - A).sign = s := ⟨_, rfl⟩
  have hun0 : un ≤ 0 := by rcases sign_cases (U - A) with ⟨_, h⟩ | ⟨_, h⟩ | ⟨_, h⟩ <;> omega
  have hov0 : 0 < ov := by rcases sign_cases (V - A) with ⟨_, h⟩ | ⟨_, h⟩ | ⟨_, h⟩ <;> omega
  have HUN := Lib.hid hun
  have HOV := Lib.hid hov
  obtain ⟨P, eP⟩ : ∃ z : Int, B ^ d = z := ⟨_, rfl⟩
  have ndP : Lib.nDigits P.natAbs ≤ 192 := eP ▸ (Nat.le_trans (nd_pow (by omega) hd1 ndB) (by omega))
  obtain ⟨SP, hSP⟩ : ∃ S, txt P = S := ⟨_, rfl⟩
  have whP : Wh SP P := hSP ▸ txt_wh (by omega)
  have f9 := wh_pow whB (show d ≤ 40 by omega) eP (by omega)
  have f10 := wh_root whP (by rw [← eP]; exact Int.pow_nonneg hB0) hd1 hd12 (r := B) (by rw [← eP, Int.natAbs_pow, iroot_pow hd1]; omega)
  obtain ⟨Q, eQ⟩ : ∃ z : Int, A * B = z := ⟨_, rfl⟩
  have ndQ : Lib.nDigits Q.natAbs ≤ 175 := eQ ▸ nd_mul (by omega) (by omega) ndA ndB
  obtain ⟨SQ, hSQ⟩ : ∃ S, txt Q = S := ⟨_, rfl⟩
  have whQ : Wh SQ Q := hSQ ▸ txt_wh (by omega)
  obtain ⟨M, eM⟩ : ∃ z : Int, Q ^ 2 = z := ⟨_, rfl⟩
  have ndM : Lib.nDigits M.natAbs ≤ 350 := eM ▸ nd_pow (by omega) (by omega) ndQ
  obtain ⟨SM, hSM⟩ : ∃ S, txt M = S := ⟨_, rfl⟩
  have whM : Wh SM M := hSM ▸ txt_wh (by omega)
  obtain ⟨C, eC⟩ : ∃ z : Int, A ^ 2 = z := ⟨_, rfl⟩
  have ndC : Lib.nDigits C.natAbs ≤ 318 := eC ▸ nd_pow (by omega) (by omega) ndA
  obtain ⟨SC, hSC⟩ : ∃ S, txt C = S := ⟨_, rfl⟩
  have whC : Wh SC C := hSC ▸ txt_wh (by omega)
  obtain ⟨D, eD⟩ : ∃ z : Int, B ^ 2 = z := ⟨_, rfl⟩
  have ndD : Lib.nDigits D.natAbs ≤ 32 := eD ▸ nd_pow (by omega) (by omega) ndB
  obtain ⟨SD, hSD⟩ : ∃ S, txt D = S := ⟨_, rfl⟩
  have whD : Wh SD D := hSD ▸ txt_wh (by omega)
  have F11 := Lib.hid (wh_two (f := (· * ·)) whA whB eQ (by omega))
  have f12 := wh_pow whQ (show 2 ≤ 40 by omega) eM (by omega)
  have f13 := wh_pow whA (show 2 ≤ 40 by omega) eC (by omega)
  have f14 := wh_pow whB (show 2 ≤ 40 by omega) eD (by omega)
  have F15 := Lib.hid (wh_two (f := (· * ·)) whC whD (z := M) (by show C * D = M; rw [← eC, ← eD, ← eM, ← eQ, Int.mul_pow]) (by omega))
  rw [hSA] at F1; rw [hSB] at F2; rw [hSR, hde] at f3; rw [hSN] at F4; rw [hSU, hde] at f5; rw [hSV, hde] at f6; rw [hSP, hde] at f9; rw [hSB, hde] at f10; rw [hSQ] at F11; rw [hSM] at f12 F15; rw [hSC] at f13; rw [hSD] at f14
  have F3 := Lib.hid f3
  have F5 := Lib.hid f5
  have F6 := Lib.hid f6
  have F9 := Lib.hid f9
  have F10 := Lib.hid f10
  have F12 := Lib.hid f12
  have F13 := Lib.hid f13
  have F14 := Lib.hid f14
  clear f3 f5 f6 f9 f10 f12 f13 f14
  rw [hkI, hzI, hyI]
  clear ndX ndX2 ndY ndA ndB ndR ndN ndU ndV ndP ndQ ndM ndC ndD whX whY whA whB whR whN whU whV whP whQ whM whC whD hSX hSY hSA hSB hSR hSN hSU hSV hSP hSQ hSM hSC hSD eA eB eR eN eU eV eP eQ eM eC eD wh1 hlowA hhighA hR0 hNn hroot hrle hA0 hB0 hun hov hX hY hd hd1 hd12 hkI he0 hde hqn hq hzz hyy hzI hyI hl3 hm3 hlen hlen' hG hG' hL hL' hz hz' hk
  have n0 := fun (W : World) (j i : Nat) (v : Value) => set_far W w.heap.size i (w.heap.size + 1) j v (.inl (by omega))
  have n1 := fun (W : World) (j i : Nat) (v : Value) => set_far W (w.heap.size + 1) i w.heap.size j v (.inl (by omega))
  have n2 := fun (W : World) (v : Value) => set_far W w.heap.size 2 w.heap.size 1 v (.inr (by omega))
  have n3 := fun (W : World) (v : Value) => set_far W w.heap.size 2 w.heap.size 0 v (.inr (by omega))
  have n4 := fun (W : World) (v : Value) => set_far W w.heap.size 1 w.heap.size 0 v (.inr (by omega))
  have n5 := fun (W : World) (v : Value) => set_far W w.heap.size 1 w.heap.size 2 v (.inr (by omega))
  have n6 := fun (W : World) (v : Value) => set_far W (w.heap.size + 1) 2 (w.heap.size + 1) 1 v (.inr (by omega))
  have n7 := fun (W : World) (v : Value) => set_far W (w.heap.size + 1) 2 (w.heap.size + 1) 0 v (.inr (by omega))
  have n8 := fun (W : World) (v : Value) => set_far W (w.heap.size + 1) 1 (w.heap.size + 1) 0 v (.inr (by omega))
  have n9 := fun (W : World) (v : Value) => set_far W (w.heap.size + 1) 1 (w.heap.size + 1) 2 v (.inr (by omega))
  go_enter Tryz.func6, Tryz.ntmps6
  go_wp2_with fail
  have hb0 : Ext w ((w.alloc (.cells #[.bool b, .slice G L.length gc, .int .u16 zI] 25)).alloc (.cells #[.bool b', .slice G' L'.length gc', .int .u16 yI] 25)) := inferInstance
  have HB := Lib.hid hb0
  have ht0 := ht.to hb0
  have he0 := he.to hb0
  refine (works_spec _).mono ?_
  rintro e w1 ⟨rfl, hx⟩
  obtain ⟨⟨q0, q1, q2⟩, q3, q4, q5⟩ := boxD hx
  obtain ⟨f0, f1⟩ := boxG hx
  have HX := Lib.hid hx
  clear hx ht0 he0 hb0
  go_wp2_with fail
  go_cut [] (fun wx => Hid (wx = ((w1.setCell ⟨w.heap.size, 2, none⟩ (.int .u16 (zz : Int))).setCell ⟨w.heap.size + 1, 2, none⟩ (.int .u16 (yy : Int))).drew))
  case first =>
    go_region
    all_goals
      go_wp2_with fail
      go_meet
      exact Lib.hid rfl
  case rest =>
  obtain rfl := hcut.out
  clear hcut
  go_wp2_with fail
  go_cut [] (fun wx => Hid (wx = ((((w1.setCell ⟨w.heap.size, 2, none⟩ (.int .u16 (zz : Int))).setCell ⟨w.heap.size + 1, 2, none⟩ (.int .u16 (yy : Int))).setCell ⟨w.heap.size, 1, none⟩ (.slice G l3 gc)).setCell ⟨w.heap.size + 1, 1, none⟩ (.slice G' m3 gc')).drew.drew))
  case first =>
    go_region
    all_goals
      go_wp2_with fail
      go_meet
      exact Lib.hid rfl
  case rest =>
  have hxw : Ext w w1 := Ext.tr (h := HB.out) HX.out
  have xw : Ext w wc := by rw [hcut.out]; exact inferInstance
  have r3 : wc.cell? ⟨w.heap.size + 1, 0, none⟩ = some (.bool b') := by rw [hcut.out]; simp [n0, n8, n7, q3, go_sem]
  have r4 : wc.cell? ⟨w.heap.size + 1, 1, none⟩ = some (.slice G' m3 gc') := by rw [hcut.out]; simp [n0, n6, q4, go_sem]
  have r5 : wc.cell? ⟨w.heap.size + 1, 2, none⟩ = some (.int .u16 (yy : Int)) := by rw [hcut.out]; simp [n0, n9, q5, go_sem]
  have s3 : wc.cell? ⟨w.heap.size, 0, none⟩ = some (.bool b) := by rw [hcut.out]; simp [n1, n4, n3, q0, go_sem]
  have s4 : wc.cell? ⟨w.heap.size, 1, none⟩ = some (.slice G l3 gc) := by rw [hcut.out]; simp [n1, n2, q1, go_sem]
  have s5 : wc.cell? ⟨w.heap.size, 2, none⟩ = some (.int .u16 (zz : Int)) := by rw [hcut.out]; simp [n1, n5, q2, go_sem]
  clear hcut hxw HX n0 n1 n2 n3 n4 n5 n6 n7 n8 n9 q0 q1 q2 q3 q4 q5 f0 f1 hmn hmin hmin' hk0 hk1 e00 e01 htm hq150 hq0 hq1 hdiv htd hzz1 hyy1 hz0 hz1 hy0 hy1 hzm hzt hym hyt hlc hmc hgx hgx'
  go_wp2_with fail
  clear s3 s4 s5
  refine (CX.out _ (HT.out.ext (x := xw))).mono ?_
  rintro e w3 ⟨rfl, hx⟩
  replace r3 := hx.keep r3; replace r4 := hx.keep r4; replace r5 := hx.keep r5
  have HX := Lib.hid (Ext.tr (h := xw) hx); clear hx xw
  go_wp2_with fail
  refine (abs_spec SX _).mono ?_
  rintro e w4 ⟨rfl, hx⟩
  rw [F1.out.1, F1.out.2]
  replace r3 := hx.keep r3; replace r4 := hx.keep r4; replace r5 := hx.keep r5
  replace HX := Lib.hid (Ext.tr (h := HX.out) hx); clear hx
  go_wp2_with fail
  refine (CY.out _ (HT'.out.ext (x := HX.out))).mono ?_
  rintro e w5 ⟨rfl, hx⟩
  replace HX := Lib.hid (Ext.tr (h := HX.out) hx); clear hx
  go_wp2_with fail
  clear r3 r4 r5
  refine (abs_spec SY _).mono ?_
  rintro e w6 ⟨rfl, hx⟩
  rw [F2.out.1, F2.out.2]
  replace HX := Lib.hid (Ext.tr (h := HX.out) hx); clear hx
  go_wp2_with fail
  have ht6 := ht.to HX.out
  refine (rootw_spec SA (1 + e0) _).mono ?_
  rintro e w7 ⟨rfl, hx⟩
  rw [F3.out.1, F3.out.2]
  clear ht6
  replace HX := Lib.hid (Ext.tr (h := HX.out) hx); clear hx
  go_wp2_with fail
  have ht7 := ht.to HX.out
  refine (addw_spec SR ⟨#[49]⟩ _).mono ?_
  rintro e w8 ⟨rfl, hx⟩
  rw [F4.out.1, F4.out.2]
  clear ht7
  replace HX := Lib.hid (Ext.tr (h := HX.out) hx); clear hx
  go_wp2_with fail
  have ht8 := ht.to HX.out
  refine (pow_spec SR (1 + e0) _).mono ?_
  rintro e w9 ⟨rfl, hx⟩
  rw [F5.out.1, F5.out.2]
  clear ht8
  replace HX := Lib.hid (Ext.tr (h := HX.out) hx); clear hx
  go_wp2_with fail
  have ht9 := ht.to HX.out
  refine (pow_spec SN (1 + e0) _).mono ?_
  rintro e w10 ⟨rfl, hx⟩
  rw [F6.out.1, F6.out.2]
  clear ht9
  replace HX := Lib.hid (Ext.tr (h := HX.out) hx); clear hx
  go_wp2_with fail
  refine (cmpw_spec SU SA _).mono ?_
  rintro e w11 ⟨rfl, hx⟩
  rw [F7.out.1, F7.out.2, HUN.out]
  replace HX := Lib.hid (Ext.tr (h := HX.out) hx); clear hx
  go_wp2_with fail
  refine (cmpw_spec SV SA _).mono ?_
  rintro e w12 ⟨rfl, hx⟩
  rw [F8.out.1, F8.out.2, HOV.out]
  replace HX := Lib.hid (Ext.tr (h := HX.out) hx); clear hx
  go_wp2_with fail
  have ht12 := ht.to HX.out
  refine (pow_spec SB (1 + e0) _).mono ?_
  rintro e w13 ⟨rfl, hx⟩
  rw [F9.out.1, F9.out.2]
  clear ht12
  replace HX := Lib.hid (Ext.tr (h := HX.out) hx); clear hx
  go_wp2_with fail
  have ht13 := ht.to HX.out
  refine (rootw_spec SP (1 + e0) _).mono ?_
  rintro e w14 ⟨rfl, hx⟩
  rw [F10.out.1, F10.out.2]
  clear ht13
  replace HX := Lib.hid (Ext.tr (h := HX.out) hx); clear hx
  go_wp2_with fail
  have ht14 := ht.to HX.out
  refine (mulw_spec SA SB _).mono ?_
  rintro e w15 ⟨rfl, hx⟩
  rw [F11.out.1, F11.out.2]
  clear ht14
  replace HX := Lib.hid (Ext.tr (h := HX.out) hx); clear hx
  go_wp2_with fail
  have ht15 := ht.to HX.out
  refine (pow_spec SQ 2 _).mono ?_
  rintro e w16 ⟨rfl, hx⟩
  rw [show powS SQ 2 = SM from F12.out.1, show powE SQ 2 = 0 from F12.out.2]
  clear ht15
  replace HX := Lib.hid (Ext.tr (h := HX.out) hx); clear hx
  go_wp2_with fail
  have ht16 := ht.to HX.out
  refine (pow_spec SA 2 _).mono ?_
  rintro e w17 ⟨rfl, hx⟩
  rw [show powS SA 2 = SC from F13.out.1, show powE SA 2 = 0 from F13.out.2]
  clear ht16
  replace HX := Lib.hid (Ext.tr (h := HX.out) hx); clear hx
  go_wp2_with fail
  have ht17 := ht.to HX.out
  refine (pow_spec SB 2 _).mono ?_
  rintro e w18 ⟨rfl, hx⟩
  rw [show powS SB 2 = SD from F14.out.1, show powE SB 2 = 0 from F14.out.2]
  clear ht17
  replace HX := Lib.hid (Ext.tr (h := HX.out) hx); clear hx
  go_wp2_with fail
  have ht18 := ht.to HX.out
  refine (mulw_spec SC SD _).mono ?_
  rintro e w19 ⟨rfl, hx⟩
  rw [F15.out.1, F15.out.2]
  clear ht18
  replace HX := Lib.hid (Ext.tr (h := HX.out) hx); clear hx
  go_wp2_with fail
  go_ret
  exact ⟨rfl, HX.out⟩
end Go.Proofs.YtkmmkobiigddkaaGreatDoor
