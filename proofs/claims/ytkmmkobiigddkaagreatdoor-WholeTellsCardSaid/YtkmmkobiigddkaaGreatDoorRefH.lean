import Derived.Test.YtkmmkobiigddkaaGreatDoorProg
import Derived.Test.YtkmmkobiigddkaaGreatDoorRefG
/-! The walk of the reference's drafts. -/
set_option linter.unusedVariables false
set_option linter.unusedSimpArgs false
set_option maxRecDepth 100000
namespace Go.Proofs.YtkmmkobiigddkaaGreatDoor
open Go.RowKit

theorem list_snoc {P : List Nat → Prop} (h0 : P []) (h1 : ∀ l c, P l → P (l ++ [c])) (l : List Nat) : P l := by
  rw [← List.reverse_reverse l]
  induction l.reverse with
  | nil => exact h0
  | cons c r ih => rw [List.reverse_cons]; exact h1 _ _ ih
/-- The number of groups of three digits. -/
def dv (l : List Nat) : Nat := l.foldl (fun a x => a * 1000 + x % 1000) 0
theorem dv_snoc (l : List Nat) (x : Nat) : dv (l ++ [x]) = dv l * 1000 + x % 1000 := by unfold dv; rw [List.foldl_append]; rfl
theorem dv_take (l : List Nat) (i : Nat) (h : i < l.length) : dv (l.take (i + 1)) = dv (l.take i) * 1000 + gn l i % 1000 := by
  rw [List.take_succ_eq_append_getElem h, dv_snoc, gn_lt _ h]
theorem dv_lt (l : List Nat) : dv l < 1000 ^ l.length := by
  refine list_snoc (P := fun l => dv l < 1000 ^ l.length) (by decide) (fun l x ih => ?_) l
  rw [dv_snoc, List.length_append, List.length_singleton, Nat.pow_succ]; omega
/-- The number of a draft, and its size. -/
def dm (l : List Nat) (z : Nat) : Nat := dv (l.take 12) * 10 ^ (z % 501)
def dz (b : Bool) (l : List Nat) (z : Nat) : Int := if b then -(dm l z : Int) else (dm l z : Int)
theorem dz_abs (b : Bool) (l : List Nat) (z : Nat) : (dz b l z).natAbs = dm l z := by
  unfold dz; cases b <;> simp
theorem dz_neg (b : Bool) (l : List Nat) (z : Nat) : neg (dz b l z) = (b && decide (0 < dm l z)) := by
  unfold dz
  generalize dm l z = m
  cases b
  · simp only [Bool.false_and]; exact neg_false (by simp)
  · rcases Nat.eq_zero_or_pos m with h | h
    · subst h; rfl
    · rw [decide_eq_true h]; exact neg_true (by simp; omega)
theorem dv12 (l : List Nat) : dv (l.take 12) < 10 ^ 36 := by
  have h1 := dv_lt (l.take 12)
  have h2 : 1000 ^ (l.take 12).length ≤ 1000 ^ 12 := Nat.pow_le_pow_right (by omega) (by rw [List.length_take]; omega)
  exact Nat.lt_of_lt_of_le h1 (Nat.le_trans h2 (by decide))
theorem dm_lt (l : List Nat) (z k : Nat) (hk : z % 501 ≤ k) : dm l z < 10 ^ (36 + k) := by
  have h3 : 10 ^ (z % 501) ≤ 10 ^ k := Nat.pow_le_pow_right (by omega) hk
  unfold dm
  rw [Nat.pow_add]
  exact Nat.lt_of_lt_of_le (Nat.mul_lt_mul_of_pos_right (dv12 l) (Nat.pow_pos (by omega))) (Nat.mul_le_mul_left _ h3)
theorem dz_nd (b : Bool) (l : List Nat) (z : Nat) : Lib.nDigits (dz b l z).natAbs ≤ 36 + z % 501 := by
  rw [dz_abs, nDigits_le (by omega)]
  exact dm_lt l z _ (Nat.le_refl _)
theorem dl_nd4 {n k : Nat} (hk : 0 < k) (h : Lib.nDigits n ≤ k) : dl B4 n ≤ k := by
  refine dl_le b42 k n ?_
  exact Nat.lt_of_lt_of_le ((nDigits_le hk).1 h) (Nat.pow_le_pow_left (by unfold B4; omega) k)
set_option maxHeartbeats 16000000 in
theorem whole4_spec (b : Bool) (G : Option Addr) (gc z : Nat) (L : List Nat) (w : World) (hG : Row w .u16 G gc L) (hL : ∀ x ∈ L, x < 65536) (hz : z < 65536) :
    Calls Tryz.prog 28 #[.agg #[.bool b, .slice G L.length gc, .int .u16 (z : Int)]] w (Ret w (.string (txt (dz b L z)))) := by
  have HG := Lib.hid hG
  have HL := Lib.hid hL
  have hLn : L.length ≤ 9223372036854775807 := Nat.le_trans hG.cap hG.max
  obtain ⟨Z, hZ⟩ : ∃ Z, dz b L z = Z := ⟨_, rfl⟩
  rw [hZ]
  have HZ0 := Lib.hid hZ
  clear hG hL hZ
  go_enter Tryz.func28, Tryz.ntmps28
  go_wp2_with fail
  refine (integer_spec 0 (by omega) (by omega) _).mono ?_
  rintro e w1 ⟨O, oc, rfl, hO, hx⟩
  have HX := Lib.hid hx
  have HC := Lib.hid (Cell2.new w1 69 (neg 0) O (dl B4 (0 : Int).natAbs) oc)
  have HO := Lib.hid (hO.ext (x := Ext.al w1 w1 (.cells #[.bool (neg 0), .slice O (dl B4 (0 : Int).natAbs) oc] 69)))
  clear hx hO
  go_wp2_with fail
  go_loopw [4] (fun iv wr => ∃ (i : Nat) (v : Int) (P : Option Addr) (pc : Nat), i ≤ L.length ∧ i ≤ 12 ∧ iv = .int .i64 (i : Int) ∧ 0 ≤ v ∧ Hid (v.natAbs = dv (L.take i)) ∧ Hid (Ext w1 wr) ∧ Hid (Cell2 wr w1.heap.size 69 (neg v) P (dl B4 v.natAbs) pc) ∧ Hid (Num B4 .i64 wr P pc v.natAbs)) (fun i _ => 12 - (intOf i).toNat)
  case atStart => exact ⟨0, 0, O, oc, Nat.zero_le _, by omega, rfl, by omega, Lib.hid rfl, Lib.hid inferInstance, HC, HO⟩
  case round =>
    clear HC HO
    obtain ⟨i, v, P, pc, hi, hi12, rfl, hv0, HV, HX1, HC, HP⟩ := hrel
    obtain ⟨c0, c1⟩ := HC.out.cells
    have hxr := Ext.tr (h := HX.out) HX1.out
    obtain ⟨q0, q1, q2⟩ : _ ∧ _ ∧ _ := ⟨boxN hxr 0, boxN hxr 1, boxN hxr 2⟩
    have HXR := Lib.hid hxr
    clear hxr
    by_cases hlt : i < L.length ∧ i < 12
    · obtain ⟨h1, h2⟩ := hlt
      have h1i : (i : Int) < (L.length : Int) := by omega
      have h2i : (i : Int) < 12 := by omega
      have hrow := HG.out.ext (x := Ext.tr (h := (Ext.al _ _ _ (h := Ext.rf w))) HXR.out)
      obtain ⟨ad, rfl, hca⟩ := hrow.cell (by omega)
      have h26 := hca i h1
      have hoff := HC.out.off hrow ad rfl (by omega)
      have hwb := HX.out.cells.2.2
      simp only [World.alloc, Array.size_push] at hwb
      have hne0 := fun (W : World) (i j : Nat) (v : Value) => World.cell?_setCell_far W ⟨w1.heap.size, i, none⟩ ⟨w.heap.size, j, none⟩ v (show w1.heap.size ≠ w.heap.size by omega)
      have hne1 := fun (W : World) (i j : Nat) (v : Value) => World.cell?_setCell_far W ⟨w1.heap.size, i, none⟩ (ad.add j) v (show w1.heap.size ≠ (ad.add j).block by rw [Addr.add_block]; exact fun h => hoff h.symm)
      have hx0 : gn L i < 65536 := by rw [gn_lt _ h1]; exact HL.out _ (List.getElem_mem _)
      have hst := dv_take L i h1
      have hbnd : dv (L.take i) < 10 ^ 36 := by
        have h3 := dv_lt (L.take i)
        have h4 : 1000 ^ (L.take i).length ≤ 1000 ^ 12 := Nat.pow_le_pow_right (by omega) (by rw [List.length_take]; omega)
        exact Nat.lt_of_lt_of_le h3 (Nat.le_trans h4 (by decide))
      have hdv : dl B4 v.natAbs ≤ 9 := dl_le b42 9 _ (by rw [HV.out]; exact hbnd)
      obtain ⟨u, hu⟩ : ∃ u, v * 1000 = u := ⟨_, rfl⟩
      have hdu : dl B4 u.natAbs ≤ 10 := dl_le b42 10 _ (by
        have h3 := HV.out
        have h4 : B4 ^ 10 = 10 ^ 40 := by decide
        rw [h4]
        have h5 : u.natAbs = v.natAbs * 1000 := by rw [← hu, Int.natAbs_mul]; rfl
        rw [h5, h3]
        exact Nat.lt_of_lt_of_le (Nat.mul_lt_mul_of_pos_right hbnd (by omega)) (by decide))
      obtain ⟨t, ht⟩ : ∃ t : Int, ((gn L i % 1000 : Nat) : Int) = t := ⟨_, rfl⟩
      have ht0 : 0 ≤ t ∧ t < 1000 := by omega
      obtain ⟨ht0, ht1⟩ := ht0
      obtain ⟨x, hx'⟩ : ∃ x : Int, (gn L i : Int) = x := ⟨_, rfl⟩
      have hx1 : 0 ≤ x ∧ x < 65536 := by omega
      obtain ⟨hx1, hx2⟩ := hx1
      have htx : x % 1000 = t := by omega
      have htm : x.tmod 1000 = t := by rw [Int.tmod_eq_emod_of_nonneg hx1]; exact htx
      have hw1 : IntKind.i64.wrap t = t := IntWalk.i64_in _ (by omega)
      obtain ⟨y, hy⟩ : ∃ y, u + t = y := ⟨_, rfl⟩
      have HST := Lib.hid (show 0 ≤ y ∧ y.natAbs = dv (L.take (i + 1)) by have := HV.out; omega)
      have hdt : dl B4 t.natAbs ≤ 1 := dl_le b42 1 _ (by rw [show B4 ^ 1 = 10000 from by decide]; omega)
      have hd1000 : dl B4 (1000 : Int).natAbs ≤ 1 := dl_le b42 1 _ (by decide)
      have HU := Lib.hid hu
      have HY := Lib.hid hy
      have HTX := Lib.hid htx
      rw [hx'] at h26
      have H26 := Lib.hid h26
      have HXL := Lib.hid (Ext.rf wr)
      have fz0 := HC.out.frozen 0
      have fz1 := HC.out.frozen 1
      clear hca hrow hoff hx0 hst hbnd ht hx' hu hy hwb q0 q2
      go_wp2_with fail
      go_region_with (first
        | (go_at_call 45; (with_reducible refine (integer_spec 1000 (by omega) (by omega) _).mono ?_); rintro e w5 ⟨O, oc, rfl, hO, hx⟩; have HO := Lib.hid hO; clear hO; (try (replace hx := hx.undrew)); (try replace HE := Lib.hid (HE.out.ext (x := hx))); replace HXL := Lib.hid (Ext.tr (h := HXL.out) hx); clear hx c0 c1 fz0 fz1 q1 h26; obtain ⟨c0, c1⟩ := (HC.out.ext HXL.out).cells; have fz0 := (HC.out.ext HXL.out).frozen 0; have fz1 := (HC.out.ext HXL.out).frozen 1; have q1 := boxN (Ext.tr (h := HXR.out) HXL.out) 1; have h26 := HXL.out.keep H26.out)
        | (go_at_call 45; refine (integer_spec t (by omega) (by omega) _).mono ?_; rintro e w5 ⟨E, ec, rfl, hE, hx⟩; have HE := Lib.hid hE; clear hE; (try (replace hx := hx.undrew)); (try replace HO := Lib.hid (HO.out.ext (x := hx))); (try replace HR := Lib.hid (HR.out.ext (x := hx))); replace HXL := Lib.hid (Ext.tr (h := HXL.out) hx); clear hx c0 c1 fz0 fz1 q1 h26; obtain ⟨c0, c1⟩ := (HC.out.ext HXL.out).cells; have fz0 := (HC.out.ext HXL.out).frozen 0; have fz1 := (HC.out.ext HXL.out).frozen 1; have q1 := boxN (Ext.tr (h := HXR.out) HXL.out) 1; have h26 := HXL.out.keep H26.out)
        | (go_at_call 62; refine (times4_spec P _ pc _ v 1000 _ (HP.out.ext (x := HXL.out)) HO.out (by omega) (by omega)).mono ?_; rintro e w5 ⟨R, rc, rfl, hR, hx⟩; rw [HU.out] at hR ⊢; have HR := Lib.hid hR; clear hR; (try (replace hx := hx.undrew)); (try replace HE := Lib.hid (HE.out.ext (x := hx))); replace HXL := Lib.hid (Ext.tr (h := HXL.out) hx); clear hx c0 c1 fz0 fz1 q1 h26; obtain ⟨c0, c1⟩ := (HC.out.ext HXL.out).cells; have fz0 := (HC.out.ext HXL.out).frozen 0; have fz1 := (HC.out.ext HXL.out).frozen 1; have q1 := boxN (Ext.tr (h := HXR.out) HXL.out) 1; have h26 := HXL.out.keep H26.out)
        | (go_at_call 61; refine (plus4_spec _ _ _ _ u t _ HR.out HE.out (by omega) (by omega)).mono ?_; rintro e w5 ⟨S, sc, rfl, hS, hx⟩; rw [HY.out] at hS ⊢; have HS := Lib.hid hS; clear hS; (try (replace hx := hx.undrew));  replace HXL := Lib.hid (Ext.tr (h := HXL.out) hx); clear hx c0 c1 fz0 fz1 q1 h26; obtain ⟨c0, c1⟩ := (HC.out.ext HXL.out).cells; have fz0 := (HC.out.ext HXL.out).frozen 0; have fz1 := (HC.out.ext HXL.out).frozen 1; have q1 := boxN (Ext.tr (h := HXR.out) HXL.out) 1; have h26 := HXL.out.keep H26.out))
      all_goals
        clear hne0 hne1
        go_wp2_with fail
        refine ⟨⟨i + 1, y, S, sc, by omega, by omega, by simp, HST.out.1, Lib.hid HST.out.2, Lib.hid ?_, Lib.hid ((HC.out.ext HXL.out).put _ _ _ _), Lib.hid (HS.out.res ((HC.out.ext HXL.out).off HS.out) _ _)⟩, by simp [intOf]; omega⟩
        exact Ext.sc _ _ _ _ _ (h := Ext.sc _ _ _ _ _ (h := Ext.tr (h := HX1.out) HXL.out) (g := Ge.self _)) (g := Ge.self _)
    · have hdone : i = L.length ∨ (i < L.length ∧ i = 12) := by omega
      have HV12 := Lib.hid (show v.natAbs = dv (L.take 12) by
        rcases hdone with h | ⟨_, h⟩
        · rw [HV.out, List.take_of_length_le (by omega), List.take_of_length_le (by omega)]
        · rw [HV.out, h])
      obtain ⟨k, hk⟩ : ∃ k : Nat, z % 501 = k := ⟨_, rfl⟩
      have hk5 : k ≤ 500 := by omega
      have hbnd := dv12 L
      have hdv : dl B4 v.natAbs ≤ 9 := dl_le b42 9 _ (by rw [HV12.out]; exact hbnd)
      have hd10 : dl B4 (10 : Int).natAbs = 1 := by
        have h1 : dl B4 (10 : Int).natAbs ≤ 1 := dl_le b42 1 _ (by decide)
        have h2 := dl_pos b42 (n := (10 : Int).natAbs) (by decide)
        omega
      have hdp : dl B4 ((10 : Int) ^ k).natAbs ≤ 501 := by
        rw [Int.natAbs_pow]
        have := dl_pow b42 (10 : Int).natAbs k
        rw [hd10] at this
        omega
      obtain ⟨y, hy⟩ : ∃ y : Int, v * 10 ^ k = y := ⟨_, rfl⟩
      have hym : y.natAbs = dm L z := by rw [← hy, Int.natAbs_mul, Int.natAbs_pow, HV12.out, dm, hk]; rfl
      have HYM := Lib.hid hym
      have hzd := dz_nd b L z
      rw [hk] at hzd
      have hza := dz_abs b L z
      have HZN := Lib.hid (dz_neg b L z)
      have hdz : dl B4 (dz b L z).natAbs ≤ 537 := dl_nd4 (by omega) (by omega)
      have hyz : y.natAbs = (dz b L z).natAbs := by omega
      have hdy : dl B4 y.natAbs ≤ 537 := by rw [hyz]; exact hdz
      have HYZ := Lib.hid hyz
      have hT := tS_ok (show Lib.nDigits (dz b L z).natAbs ≤ 600 by omega)
      have hE := tE_ok (show Lib.nDigits (dz b L z).natAbs ≤ 600 by omega)
      have hZ := HZ0.out
      rw [hZ] at hT hE hdz hza HYZ HZN
      have HT := Lib.hid hT
      have HE := Lib.hid hE
      have HZA := Lib.hid hza
      obtain ⟨x, hx'⟩ : ∃ x : Int, (z : Int) = x := ⟨_, rfl⟩
      have hx1 : 0 ≤ x ∧ x < 65536 := by omega
      obtain ⟨hx1, hx2⟩ := hx1
      have htx : x % 501 = (k : Int) := by omega
      have htm : x.tmod 501 = (k : Int) := by rw [Int.tmod_eq_emod_of_nonneg hx1]; exact htx
      have hw1 : IntKind.i64.wrap (k : Int) = (k : Int) := IntWalk.i64_in _ (by omega)
      rw [hx'] at q2
      have HY := Lib.hid hy
      have hwb := HX.out.cells.2.2
      simp only [World.alloc, Array.size_push] at hwb
      have hne0 := fun (W : World) (i j : Nat) (v : Value) => World.cell?_setCell_far W ⟨w1.heap.size, i, none⟩ ⟨w.heap.size, j, none⟩ v (show w1.heap.size ≠ w.heap.size by omega)
      have HXL := Lib.hid (Ext.rf wr)
      have fz0 := HC.out.frozen 0
      have fz1 := HC.out.frozen 1
      have hguard : ¬ ((i : Int) < (L.length : Int) ∧ (i : Int) < 12) := by omega
      have hsp : (¬ (i : Int) < (L.length : Int)) ∨ ((i : Int) < (L.length : Int) ∧ ¬ (i : Int) < 12) := by omega
      have HZX := Lib.hid hx'
      have HLN := Lib.hid hdone
      clear hym hyz hT hE hza hZ hx' hy hwb hk hbnd hzd hdone hguard
      rcases hsp with h1i | ⟨h1i, h2i⟩
      all_goals
        go_wp2_with fail
        go_cut [] (fun wx => ∃ (S : Option Addr) (sc : Nat), Hid (Ext w1 wx) ∧ Hid (Cell2 wx w1.heap.size 69 (neg y) S (dl B4 y.natAbs) sc) ∧ Hid (Num B4 .i64 wx S sc y.natAbs))
        case first =>
          go_region_with (first
            | (go_at_call 45; refine (integer_spec 10 (by omega) (by omega) _).mono ?_; rintro e w5 ⟨O, oc, rfl, hO, hx⟩; have HO := Lib.hid hO; clear hO; (try (replace hx := hx.undrew));  replace HXL := Lib.hid (Ext.tr (h := HXL.out) hx); clear hx c0 c1 fz0 fz1 q0 q2; obtain ⟨c0, c1⟩ := (HC.out.ext HXL.out).cells; have fz0 := (HC.out.ext HXL.out).frozen 0; have fz1 := (HC.out.ext HXL.out).frozen 1; have q0 := boxN (Ext.tr (h := HXR.out) HXL.out) 0; have q2 := boxN (Ext.tr (h := HXR.out) HXL.out) 2; rw [HZX.out] at q2)
            | (go_at_call 63; refine (raised4_spec _ _ 10 k _ HO.out (by omega) (by rw [hd10]; omega)).mono ?_; rintro e w5 ⟨R, rc, rfl, hR, hx⟩; have HR := Lib.hid hR; clear hR; (try (replace hx := hx.undrew));  replace HXL := Lib.hid (Ext.tr (h := HXL.out) hx); clear hx c0 c1 fz0 fz1 q0 q2; obtain ⟨c0, c1⟩ := (HC.out.ext HXL.out).cells; have fz0 := (HC.out.ext HXL.out).frozen 0; have fz1 := (HC.out.ext HXL.out).frozen 1; have q0 := boxN (Ext.tr (h := HXR.out) HXL.out) 0; have q2 := boxN (Ext.tr (h := HXR.out) HXL.out) 2; rw [HZX.out] at q2)
            | (go_at_call 62; refine (times4_spec P _ pc _ v (10 ^ k) _ (HP.out.ext (x := HXL.out)) HR.out (by omega) (by omega)).mono ?_; rintro e w5 ⟨S, sc, rfl, hS, hx⟩; rw [HY.out] at hS ⊢; have HS := Lib.hid hS; clear hS; (try (replace hx := hx.undrew));  replace HXL := Lib.hid (Ext.tr (h := HXL.out) hx); clear hx c0 c1 fz0 fz1 q0 q2; obtain ⟨c0, c1⟩ := (HC.out.ext HXL.out).cells; have fz0 := (HC.out.ext HXL.out).frozen 0; have fz1 := (HC.out.ext HXL.out).frozen 1; have q0 := boxN (Ext.tr (h := HXR.out) HXL.out) 0; have q2 := boxN (Ext.tr (h := HXR.out) HXL.out) 2; rw [HZX.out] at q2))
          all_goals
            go_wp2_with fail
            go_meet
            exact ⟨S, sc, Lib.hid (Ext.sc _ _ _ _ _ (h := Ext.sc _ _ _ _ _ (h := Ext.tr (h := HX1.out) HXL.out) (g := Ge.self _)) (g := Ge.self _)), Lib.hid ((HC.out.ext HXL.out).put (neg y) S (dl B4 y.natAbs) sc), Lib.hid (HS.out.res ((HC.out.ext HXL.out).off HS.out) (.bool (neg y)) (.slice S (dl B4 y.natAbs) sc))⟩
        case rest =>
          clear hne0 c0 c1 fz0 fz1 q0 q2
          obtain ⟨S, sc, HX2, HC2, HS2⟩ := hcut
          obtain ⟨c0, c1⟩ := HC2.out.cells
          have fz0 := HC2.out.frozen 0
          have fz1 := HC2.out.frozen 1
          have q0 := boxN (Ext.tr (h := HX.out) HX2.out) 0
          go_wp2_with fail
          refine (made_spec S sc _ (dm L z) b Z (digs B4 y.natAbs) _ HS2.out rfl (by rw [cutz_digs b42, HYM.out]) HZA.out HZN.out).mono ?_
          rintro e w7 ⟨V, vc, rfl, hV, hx⟩
          clear c0 c1 fz0 fz1 q0
          have HC3 := Lib.hid (HC2.out.ext hx)
          obtain ⟨c0, c1⟩ := HC3.out.cells
          have fz0 := HC3.out.frozen 0
          have fz1 := HC3.out.frozen 1
          have HV := Lib.hid hV
          replace HX2 := Lib.hid (Ext.tr (h := HX2.out) hx)
          clear hx hV HC2 HS2
          go_wp2_with fail
          have HC4 := Lib.hid (HC3.out.put (neg Z) V (dl B4 Z.natAbs) vc)
          have HV4 := Lib.hid (HV.out.res (HC3.out.off HV.out) (.bool (neg Z)) (.slice V (dl B4 Z.natAbs) vc))
          replace HX2 := Lib.hid (Ext.sc _ _ _ _ _ (h := Ext.sc _ _ _ _ _ (h := HX2.out) (g := Ge.self _)) (g := Ge.self _) : Ext w1 ((_ : World).setCell ⟨w1.heap.size, 0, none⟩ (.bool (neg Z)) |>.setCell ⟨w1.heap.size, 1, none⟩ (.slice V (dl B4 Z.natAbs) vc)))
          refine (out4_spec V vc Z _ HV4.out (by omega)).mono ?_
          rintro e w8 ⟨rfl, hx⟩
          rw [HT.out, HE.out]
          replace HX2 := Lib.hid (Ext.tr (h := HX2.out) hx)
          clear hx HC3 HC4 c0 c1 fz0 fz1
          go_wp2_with fail
          go_ret
          exact ⟨rfl, Ext.tr (h := Ext.tr (h := Ext.al _ _ _ (h := Ext.rf w)) HX.out) HX2.out⟩
end Go.Proofs.YtkmmkobiigddkaaGreatDoor
