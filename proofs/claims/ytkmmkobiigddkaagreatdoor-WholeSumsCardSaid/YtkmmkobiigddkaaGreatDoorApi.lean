import Derived.Test.YtkmmkobiigddkaaGreatDoorProg
import Derived.Test.YtkmmkobiigddkaaGreatDoorCheck
/-! The walks of package whole's exported functions. -/
set_option linter.unusedVariables false
set_option linter.unusedSimpArgs false
set_option maxRecDepth 100000
namespace Go.Proofs.YtkmmkobiigddkaaGreatDoor
open Go.RowKit

/-- The number of a valid text. -/
noncomputable def pz (s : ByteArray) : Option Int := by classical exact if h : ∃ z, Wh s z then some h.choose else none
theorem pz_some {s : ByteArray} {z : Int} (h : Wh s z) : pz s = some z := by
  unfold pz
  rw [dif_pos ⟨z, h⟩]
  exact congrArg some (Wh.uniq (⟨z, h⟩ : ∃ z, Wh s z).choose_spec h)
theorem pz_none {s : ByteArray} (h : ¬ ∃ z, Wh s z) : pz s = none := by unfold pz; rw [dif_neg h]
theorem wh_of_pz {s : ByteArray} {z : Int} (h : pz s = some z) : Wh s z := by
  by_cases hh : ∃ z, Wh s z
  · obtain ⟨y, hy⟩ := hh
    rw [pz_some hy] at h
    cases h; exact hy
  · rw [pz_none hh] at h; cases h
def tS (z : Int) : ByteArray := if Lib.nDigits z.natAbs ≤ 600 then txt z else ⟨#[]⟩
def tE (z : Int) : Int := if Lib.nDigits z.natAbs ≤ 600 then 0 else 6
theorem told_eq (z : Int) : told z = .tuple #[.string (tS z), .int .i64 (tE z)] := by unfold told tS tE; split <;> rfl
theorem tS_ok {z : Int} (h : Lib.nDigits z.natAbs ≤ 600) : tS z = txt z := by unfold tS; rw [if_pos h]
theorem tE_ok {z : Int} (h : Lib.nDigits z.natAbs ≤ 600) : tE z = 0 := by unfold tE; rw [if_pos h]
theorem dl_nd {n k : Nat} (hk : 0 < k) (h : Lib.nDigits n ≤ k) : dl Big n ≤ k := by
  refine dl_le big2 k n ?_
  have h1 : n < 10 ^ k := (nDigits_le hk).1 h
  have h2 : 10 ^ k ≤ Big ^ k := Nat.pow_le_pow_left (by unfold Big; omega) k
  exact Nat.lt_of_lt_of_le h1 h2
theorem dl_600 {n : Nat} (h : Lib.nDigits n ≤ 600) : dl Big n ≤ 600 := dl_nd (by omega) h
theorem Wh.dl {s : ByteArray} {z : Int} (h : Wh s z) : Go.Proofs.YtkmmkobiigddkaaGreatDoor.dl Big z.natAbs ≤ 600 := dl_600 h.2
/-- What a function of one text returns. -/
noncomputable def oneS (f : Int → Int) (s : ByteArray) : ByteArray := match pz s with | some x => tS (f x) | none => ⟨#[]⟩
noncomputable def oneE (f : Int → Int) (s : ByteArray) : Int := match pz s with | some x => tE (f x) | none => 10
/-- .. of two texts. -/
noncomputable def twoS (f : Int → Int → Int) (s t : ByteArray) : ByteArray := match pz s, pz t with | some x, some y => tS (f x y) | _, _ => ⟨#[]⟩
noncomputable def twoE (f : Int → Int → Int) (s t : ByteArray) : Int := match pz s, pz t with | some x, some y => tE (f x y) | _, _ => 10
theorem one_none (f : Int → Int) {s : ByteArray} (h : pz s = none) : oneS f s = ⟨#[]⟩ ∧ oneE f s = 10 := by unfold oneS oneE; rw [h]; exact ⟨rfl, rfl⟩
theorem one_some (f : Int → Int) {s : ByteArray} {x : Int} (h : pz s = some x) : oneS f s = tS (f x) ∧ oneE f s = tE (f x) := by unfold oneS oneE; rw [h]; exact ⟨rfl, rfl⟩
theorem two_none1 (f : Int → Int → Int) {s : ByteArray} (t : ByteArray) (h : pz s = none) : twoS f s t = ⟨#[]⟩ ∧ twoE f s t = 10 := by unfold twoS twoE; rw [h]; exact ⟨rfl, rfl⟩
theorem two_none2 (f : Int → Int → Int) (s : ByteArray) {t : ByteArray} (h : pz t = none) : twoS f s t = ⟨#[]⟩ ∧ twoE f s t = 10 := by
  unfold twoS twoE; rw [h]; cases pz s <;> exact ⟨rfl, rfl⟩
theorem two_some (f : Int → Int → Int) {s t : ByteArray} {x y : Int} (h : pz s = some x) (k : pz t = some y) : twoS f s t = tS (f x y) ∧ twoE f s t = tE (f x y) := by unfold twoS twoE; rw [h, k]; exact ⟨rfl, rfl⟩
/-- A text is valid, or none. -/
theorem pz_or (s : ByteArray) : (∃ z, Wh s z ∧ pz s = some z) ∨ ((¬ ∃ z, Wh s z) ∧ pz s = none) := by
  by_cases h : ∃ z, Wh s z
  · obtain ⟨z, hz⟩ := h; exact .inl ⟨z, hz, pz_some hz⟩
  · exact .inr ⟨h, pz_none h⟩

theorem nd64 {n : Int} (h0 : -9223372036854775808 ≤ n) (h1 : n ≤ 9223372036854775807) : Lib.nDigits n.natAbs ≤ 19 := (nDigits_le (by omega)).2 (by omega)
set_option maxHeartbeats 1000000 in
theorem of_spec (n : Int) (h0 : -9223372036854775808 ≤ n) (h1 : n ≤ 9223372036854775807) (w : World) [ht : Tab w] :
    Calls Tryz.prog 10 #[.int .i64 n] w (Ret w (.string (txt n))) := by
  have hnd := nd64 h0 h1
  have HT := Lib.hid (show told n = .tuple #[.string (txt n), .int .i64 0] by unfold told; rw [if_pos (by omega)])
  have hd := dl_600 (show Lib.nDigits n.natAbs ≤ 600 by omega)
  clear hnd
  go_enter Tryz.func10, Tryz.ntmps10
  go_wp2_with fail
  refine (from_spec n h0 h1 _).mono ?_
  rintro e w1 ⟨A, c, rfl, hA, hx⟩
  have HA := Lib.hid hA
  have HX := Lib.hid hx
  have ht1 : Tab w1 := ht.to (Ext.tr (h := inferInstance) hx)
  clear hA hx
  go_wp2_with fail
  refine (told_spec _ _ n _ HA.out (by omega)).mono ?_
  rintro e w2 ⟨rfl, hx⟩
  rw [HT.out]
  have HX2 := Lib.hid hx
  clear hx
  go_wp2_with fail
  go_ret
  exact ⟨rfl, Ext.tr (h := HX.out) HX2.out⟩
set_option maxHeartbeats 1000000 in
theorem sign_spec (s : ByteArray) (w : World) :
    Calls Tryz.prog 15 #[.string s] w (Ret w (.tuple #[.int .i64 (match pz s with | some x => x.sign | none => 0), .int .i64 (match pz s with | some x => 0 | none => 10)])) := by
  rcases pz_or s with ⟨z, hz, hp⟩ | ⟨hz, hp⟩
  · rw [hp]
    have HZ := Lib.hid hz
    have hd := hz.dl
    obtain ⟨g, hg⟩ : ∃ g, z.sign = g := ⟨_, rfl⟩
    show Calls _ _ _ _ (Ret w (.tuple #[.int .i64 z.sign, .int .i64 0]))
    rw [hg]
    have HG := Lib.hid hg
    clear hz hp hg
    go_enter Tryz.func15, Tryz.ntmps15
    go_wp2_with fail
    refine (check_wh s z HZ.out _).mono ?_
    rintro e w1 ⟨rfl, hx⟩
    have HX := Lib.hid hx
    clear hx
    go_wp2_with fail
    refine (read_spec s z HZ.out _).mono ?_
    rintro e w2 ⟨A, c, rfl, hA, hx⟩
    have HA := Lib.hid hA
    replace HX := Lib.hid (Ext.tr (h := HX.out) hx)
    clear hA hx
    go_wp2_with fail
    refine (side_spec _ _ z _ HA.out).mono ?_
    rintro e w3 ⟨rfl, hx⟩
    rw [HG.out]
    replace HX := Lib.hid (Ext.tr (h := HX.out) hx)
    clear hx
    go_wp2_with fail
    go_ret2
    exact ⟨rfl, HX.out⟩
  · rw [hp]
    have HZ := Lib.hid hz
    clear hz hp
    go_enter Tryz.func15, Tryz.ntmps15
    go_wp2_with fail
    refine (check_none s HZ.out _).mono ?_
    rintro e w1 ⟨rfl, hx⟩
    have HX := Lib.hid hx
    clear hx
    go_wp2_with fail
    go_ret2
    exact ⟨rfl, HX.out⟩
set_option maxHeartbeats 1000000 in
theorem neg_spec (s : ByteArray) (w : World) [ht : Tab w] :
    Calls Tryz.prog 31 #[.string s] w (Ret w (.tuple #[.string (oneS (- ·) s), .int .i64 (oneE (- ·) s)])) := by
  rcases pz_or s with ⟨z, hz, hp⟩ | ⟨hz, hp⟩
  · rw [(one_some _ hp).1, (one_some _ hp).2]
    have HZ := Lib.hid hz
    have hd := hz.dl
    obtain ⟨u, hu⟩ : ∃ u, -z = u := ⟨_, rfl⟩
    have hdu : dl Big u.natAbs ≤ 600 := by rw [← hu, Int.natAbs_neg]; exact hd
    rw [hu]
    have HU := Lib.hid hu
    clear hz hp hu
    go_enter Tryz.func31, Tryz.ntmps31
    go_wp2_with fail
    refine (check_wh s z HZ.out _).mono ?_
    rintro e w1 ⟨rfl, hx⟩
    have HX := Lib.hid hx
    clear hx
    go_wp2_with fail
    refine (read_spec s z HZ.out _).mono ?_
    rintro e w2 ⟨A, c, rfl, hA, hx⟩
    have HA := Lib.hid hA
    clear hA
    replace HX := Lib.hid (Ext.tr (h := HX.out) hx)
    clear hx
    go_wp2_with fail
    refine (turned_spec _ _ z _ HA.out).mono ?_
    rintro e w2 ⟨B, d, rfl, hB, hx⟩
    rw [HU.out] at hB ⊢
    have HB := Lib.hid hB
    clear hB
    replace HX := Lib.hid (Ext.tr (h := HX.out) hx)
    clear hx
    have ht2 := ht.to HX.out
    go_wp2_with fail
    refine (told_spec _ _ u _ HB.out (by omega)).mono ?_
    rintro e w2 ⟨rfl, hx⟩
    rw [told_eq]
    replace HX := Lib.hid (Ext.tr (h := HX.out) hx)
    clear hx
    go_wp2_with fail
    go_ret2
    exact ⟨rfl, HX.out⟩
  · rw [(one_none _ hp).1, (one_none _ hp).2]
    have HZ := Lib.hid hz
    clear hz hp
    go_enter Tryz.func31, Tryz.ntmps31
    go_wp2_with fail
    refine (check_none s HZ.out _).mono ?_
    rintro e w1 ⟨rfl, hx⟩
    have HX := Lib.hid hx
    clear hx
    go_wp2_with fail
    go_ret2
    exact ⟨rfl, HX.out⟩

theorem nd_abs (z : Int) : ((z.natAbs : Nat) : Int).natAbs = z.natAbs := Int.natAbs_natCast _
set_option maxHeartbeats 1000000 in
theorem abs_spec (s : ByteArray) (w : World) :
    Calls Tryz.prog 26 #[.string s] w (Ret w (.tuple #[.string (oneS (fun z => ((z.natAbs : Nat) : Int)) s), .int .i64 (oneE (fun z => ((z.natAbs : Nat) : Int)) s)])) := by
  rcases pz_or s with ⟨z, hz, hp⟩ | ⟨hz, hp⟩
  · rw [(one_some _ hp).1, (one_some _ hp).2, tS_ok (by rw [nd_abs]; exact hz.2), tE_ok (by rw [nd_abs]; exact hz.2)]
    have HZ := Lib.hid hz
    have hb : body s.data.toList = Lib.decDigits z.natAbs := by rw [hz.1]; show body (Lib.itoa z).toArray.toList = _; rw [List.toList_toArray, body_itoa]
    have HB := Lib.hid hb
    have HF := Lib.hid (show txt ((z.natAbs : Nat) : Int) = ⟨(Lib.decDigits z.natAbs).toArray⟩ by unfold txt; rw [itoa_pos (Int.natCast_nonneg _), nd_abs])
    clear hz hp hb
    go_enter Tryz.func26, Tryz.ntmps26
    go_wp2_with fail
    refine (check_wh s z HZ.out _).mono ?_
    rintro e w1 ⟨rfl, hx⟩
    have HX := Lib.hid hx
    clear hx
    go_wp2_with fail
    refine (trim_body s _).mono ?_
    rintro e w2 ⟨rfl, hx⟩
    rw [HB.out, ← HF.out]
    replace HX := Lib.hid (Ext.tr (h := HX.out) hx)
    clear hx
    go_wp2_with fail
    go_ret2
    exact ⟨rfl, HX.out⟩
  · rw [(one_none _ hp).1, (one_none _ hp).2]
    have HZ := Lib.hid hz
    clear hz hp
    go_enter Tryz.func26, Tryz.ntmps26
    go_wp2_with fail
    refine (check_none s HZ.out _).mono ?_
    rintro e w1 ⟨rfl, hx⟩
    have HX := Lib.hid hx
    clear hx
    go_wp2_with fail
    go_ret2
    exact ⟨rfl, HX.out⟩

noncomputable def intV (s : ByteArray) : Int := match pz s with | some z => if -9223372036854775808 ≤ z ∧ z ≤ 9223372036854775807 then z else 0 | none => 0
noncomputable def intE (s : ByteArray) : Int := match pz s with | some z => if -9223372036854775808 ≤ z ∧ z ≤ 9223372036854775807 then 0 else 6 | none => 10
/-- The library's two errors stand in memory. -/
class Errs (w : World) : Prop where
  rng : ∃ tp p, w.var? Tryz.prog "strconv.ErrRange" = some #[.iface tp p]
theorem Errs.to {w W : World} (h : Errs w) (x : Ext w W) : Errs W := let ⟨tp, p, e⟩ := h.rng; ⟨tp, p, var_ext x e⟩

end Go.Proofs.YtkmmkobiigddkaaGreatDoor
