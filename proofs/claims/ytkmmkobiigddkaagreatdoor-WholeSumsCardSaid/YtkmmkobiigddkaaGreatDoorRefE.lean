import Derived.Test.YtkmmkobiigddkaaGreatDoorProg
import Derived.Test.YtkmmkobiigddkaaGreatDoorRefD
/-! The walks of the reference's whole numbers: Raised; a struct variable. -/
set_option linter.unusedVariables false
set_option linter.unusedSimpArgs false
set_option maxRecDepth 100000
namespace Go.Proofs.YtkmmkobiigddkaaGreatDoor
open Go.RowKit

/-- A variable of two cells: a bool and a slice. -/
def Cell2 (W : World) (g : Nat) (T : TypeId) (b : Bool) (A : Option Addr) (n c : Nat) : Prop := W.heap[g]? = some (.cells #[.bool b, .slice A n c] T (0, 0))
section
variable {W W' : World} {g : Nat} {T : TypeId} {b : Bool} {A : Option Addr} {n c : Nat}
theorem Cell2.lt (h : Cell2 W g T b A n c) : g < W.heap.size := (Array.getElem?_eq_some_iff.1 h).1
theorem Cell2.cells (h : Cell2 W g T b A n c) : W.cell? ⟨g, 0, none⟩ = some (.bool b) ∧ W.cell? ⟨g, 1, none⟩ = some (.slice A n c) := by
  unfold Cell2 at h; exact ⟨by simp [World.cell?, h], by simp [World.cell?, h]⟩
theorem Cell2.frozen (h : Cell2 W g T b A n c) (j : Nat) : W.frozen? ⟨g, j, none⟩ = false := by
  unfold Cell2 at h; simp [World.frozen?, h]
theorem Cell2.ext (h : Cell2 W g T b A n c) (x : Ext W W') : Cell2 W' g T b A n c := by
  unfold Cell2; rw [x.below.block _ h.lt]; exact h
theorem Cell2.put (h : Cell2 W g T b A n c) (b' : Bool) (A' : Option Addr) (n' c' : Nat) : Cell2 ((W.setCell ⟨g, 0, none⟩ (.bool b')).setCell ⟨g, 1, none⟩ (.slice A' n' c')) g T b' A' n' c' := by
  unfold Cell2 at h ⊢; simp [World.setCell, Array.getElem?_modify, h]
theorem Cell2.off (h : Cell2 W g T b A n c) {k : IntKind} {P : Option Addr} {pc : Nat} {l : List Nat} (r : Row W k P pc l) : Off g P l.length := by
  intro ad e h0 hb
  obtain ⟨ad', e', f⟩ := r.cell h0
  obtain rfl : ad = ad' := by rw [e] at e'; exact Option.some.inj e'
  have h1 := f 0 h0
  have e3 : ad.add 0 = ad := by unfold Addr.add; split <;> simp_all
  rw [e3] at h1
  unfold World.cell? at h1
  unfold Cell2 at h
  rw [hb, h] at h1
  rcases ho : ad.off with _ | _ | o <;> simp [ho] at h1
theorem Cell2.new (W : World) (T : TypeId) (b : Bool) (A : Option Addr) (n c : Nat) : Cell2 (W.alloc (.cells #[.bool b, .slice A n c] T)) W.heap.size T b A n c := heap_alloc_new W _
end

set_option maxHeartbeats 2000000 in
theorem raised4_spec (A : Option Addr) (c : Nat) (x : Int) (n : Nat) (w : World) (ha : Num B4 .i64 w A c x.natAbs) (hn : n ≤ 1000000) (hd : (n + 1) * dl B4 x.natAbs ≤ 1000000000) :
    Calls Tryz.prog 63 #[.agg #[.bool (neg x), .slice A (dl B4 x.natAbs) c], .int .i64 (n : Int)] w (RetInt B4 .i64 w (x ^ n)) := by
  have HA := Lib.hid ha
  have hdx : dl B4 x.natAbs ≤ 1099511627776 := by rw [Nat.add_mul] at hd; omega
  have HDX := Lib.hid hd
  clear ha hd
  go_enter Tryz.func63, Tryz.ntmps63
  go_wp2_with fail
  refine (integer_spec 1 (by omega) (by omega) _).mono ?_
  rintro e w1 ⟨O, oc, rfl, hO, hx⟩
  have HX := Lib.hid hx
  have HC := Lib.hid (Cell2.new w1 69 (neg 1) O (dl B4 (1 : Int).natAbs) oc)
  have HO := Lib.hid (hO.ext (x := Ext.al w1 w1 (.cells #[.bool (neg 1), .slice O (dl B4 (1 : Int).natAbs) oc] 69)))
  clear hx hO
  go_wp2_with fail
  go_loopw [6] (fun iv wr => ∃ (i : Nat) (v : Int) (P : Option Addr) (pc : Nat), i ≤ n ∧ iv = .int .i64 (i : Int) ∧ Hid (v = x ^ i) ∧ Hid (Ext w1 wr) ∧ Hid (Cell2 wr w1.heap.size 69 (neg v) P (dl B4 v.natAbs) pc) ∧ Hid (Num B4 .i64 wr P pc v.natAbs)) (fun i _ => n - (intOf i).toNat)
  case atStart => exact ⟨0, 1, O, oc, Nat.zero_le _, rfl, Lib.hid (by simp), Lib.hid inferInstance, HC, HO⟩
  case round =>
    clear HC HO
    obtain ⟨i, v, P, pc, hi, rfl, HV, HX1, HC, HP⟩ := hrel
    obtain ⟨c0, c1⟩ := HC.out.cells
    have hxr := Ext.tr (h := HX.out) HX1.out
    obtain ⟨hc, hf, hs⟩ := hxr.cells
    have HXR := Lib.hid hxr
    clear hxr
    by_cases hlt : i < n
    · have hdv : dl B4 v.natAbs ≤ 1099511627776 := by
        rw [HV.out, Int.natAbs_pow]
        have h1 := dl_pow b42 x.natAbs i
        have h2 : i * dl B4 x.natAbs ≤ (n + 1) * dl B4 x.natAbs := Nat.mul_le_mul_right _ (by omega)
        have := HDX.out
        omega
      obtain ⟨u, hu⟩ : ∃ u, v * x = u := ⟨_, rfl⟩
      have HU := Lib.hid hu
      have fz0 := HC.out.frozen 0
      have fz1 := HC.out.frozen 1
      clear hu
      go_wp2_with fail
      refine (times4_spec _ _ _ _ v x _ HP.out (HA.out.ext (x := Ext.tr (h := inferInstance) HXR.out)) hdv hdx).mono ?_
      rintro e w5 ⟨R, rc, rfl, hR, hx⟩
      rw [HU.out] at hR ⊢
      have HC5 := Lib.hid (HC.out.ext hx)
      obtain ⟨d0, d1⟩ := HC5.out.cells
      have fw0 := HC5.out.frozen 0
      have fw1 := HC5.out.frozen 1
      have HR := Lib.hid hR
      have HX5 := Lib.hid (Ext.tr (h := HX1.out) hx)
      clear hx hR c0 c1 hc hf hs fz0 fz1
      go_wp2_with fail
      refine ⟨⟨i + 1, u, R, rc, by omega, by simp, Lib.hid ?_, Lib.hid ?_, Lib.hid (HC5.out.put _ _ _ _), Lib.hid (HR.out.res (HC5.out.off HR.out) _ _)⟩, by simp [intOf]; omega⟩
      · rw [← HU.out, HV.out, Int.pow_succ]
      · have := HX5.out
        exact Ext.sc _ _ _ _ _ (h := Ext.sc _ _ _ _ _ (h := HX5.out) (g := Ge.self _)) (g := Ge.self _)
    · obtain rfl : i = n := by omega
      go_wp2_with fail
      have r := cells_res HXR.out (g := w.heap.size + 1) (by simp)
      have r1 := fun v0 => (r v0 undef).1
      have r2 := fun v0 v1 => (r v0 v1).2.1
      have r3 := fun v0 v1 => (r v0 v1).2.2
      have hvv := HV.out
      subst hvv
      exact bodyPost_ret (v := .agg #[.bool _, .slice P (dl B4 (x ^ i).natAbs) pc]) (by simp [results, Tryz.results63, go_sem, r1, r2, r3]) rfl
        (ret_cell _ _ HXR.out (by simp) inferInstance rfl HP.out rfl rfl)
end Go.Proofs.YtkmmkobiigddkaaGreatDoor
