import Derived.Test.YtkmmkobiigddkaaGreatDoorProg
import Derived.Test.YtkmmkobiigddkaaGreatDoorRefB
/-! The walks of the reference's whole numbers: Turn, Plus, Minus, Times, Order. -/
set_option linter.unusedVariables false
set_option linter.unusedSimpArgs false
set_option maxRecDepth 100000
namespace Go.Proofs.YtkmmkobiigddkaaGreatDoor
open Go.RowKit

theorem cutz_digs {p : Nat} (hp : 2 ≤ p) (m : Nat) : cutz (digs p m) = digs p m := cutz_of_trim _ (digs_trim hp m)
theorem neg_and (z : Int) : neg z = (neg z && decide (0 < z.natAbs)) := by
  rcases Int.lt_or_le z 0 with h | h
  · rw [neg_true h, decide_eq_true (by omega)]; rfl
  · rw [neg_false h]; rfl
set_option maxHeartbeats 1000000 in
theorem turn4_spec (A : Option Addr) (c : Nat) (x : Int) (w : World) (ha : Num B4 .i64 w A c x.natAbs) :
    Calls Tryz.prog 69 #[.agg #[.bool (neg x), .slice A (dl B4 x.natAbs) c]] w (RetInt B4 .i64 w (-x)) := by
  have HA := Lib.hid ha
  obtain ⟨u, hu⟩ : ∃ u, -x = u := ⟨_, rfl⟩
  rw [hu]
  have HU := Lib.hid (show u.natAbs = x.natAbs by omega)
  have HP := Lib.hid (show neg u = ((!neg x) && decide (0 < x.natAbs)) by
    rcases Int.lt_trichotomy x 0 with h | h | h
    · rw [neg_true h, neg_false (by omega)]; rfl
    · rw [neg_false (show 0 ≤ x by omega), neg_false (by omega), decide_eq_false (by omega)]; rfl
    · rw [neg_false (show 0 ≤ x by omega), neg_true (by omega), decide_eq_true (by omega)]; rfl)
  clear ha hu
  go_enter Tryz.func69, Tryz.ntmps69
  go_wp2_with fail
  refine (made_spec A c _ x.natAbs (!neg x) u (digs B4 x.natAbs) _ HA.out.ext rfl (cutz_digs b42 _) HU.out HP.out).mono ?_
  rintro e w2 ⟨T, tc, rfl, hT, hx⟩
  obtain ⟨hc, hf, hs⟩ := hx.cells
  have HT := Lib.hid hT
  have HX := Lib.hid hx
  clear hT hx
  go_wp2_with fail
  have r := cells_res HX.out (g := w.heap.size + 1) (by simp)
  have r1 := fun v0 => (r v0 undef).1
  have r2 := fun v0 v1 => (r v0 v1).2.1
  have r3 := fun v0 v1 => (r v0 v1).2.2
  exact bodyPost_ret (v := .agg #[.bool _, .slice T (dl B4 u.natAbs) tc]) (by simp [results, Tryz.results69, go_sem, r1, r2, r3]) rfl
    (ret_cell _ _ HX.out (by simp) inferInstance rfl HT.out rfl rfl)
set_option maxHeartbeats 2000000 in
theorem plus4_same (A B : Option Addr) (c d m n : Nat) (p : Bool) (z : Int) (w : World) (ha : Num B4 .i64 w A c m) (hb : Num B4 .i64 w B d n) (hm : dl B4 m ≤ 1099511627776) (hn : dl B4 n ≤ 1099511627776)
    (hz : z.natAbs = m + n) (hp : neg z = (p && decide (0 < m + n))) :
    Calls Tryz.prog 61 #[.agg #[.bool p, .slice A (dl B4 m) c], .agg #[.bool p, .slice B (dl B4 n) d]] w (RetInt B4 .i64 w z) := by
  have HA := Lib.hid ha
  have HB := Lib.hid hb
  have HZ := Lib.hid hz
  have HP := Lib.hid hp
  have hne := fun (W : World) (i j : Nat) (v : Value) => World.cell?_setCell_far W ⟨w.heap.size + 1 + 1, i, none⟩ ⟨w.heap.size, j, none⟩ v (show w.heap.size + 1 + 1 ≠ w.heap.size by omega)
  have hne1 := fun (W : World) (i j : Nat) (v : Value) => World.cell?_setCell_far W ⟨w.heap.size + 1 + 1, i, none⟩ ⟨w.heap.size + 1, j, none⟩ v (show w.heap.size + 1 + 1 ≠ w.heap.size + 1 by omega)
  clear ha hb hz hp
  go_enter Tryz.func61, Tryz.ntmps61
  go_wp2_with fail
  have HX := Lib.hid (Ext.rf (((w.alloc (.cells #[.bool p, .slice A (dl B4 m) c] 69)).alloc (.cells #[.bool p, .slice B (dl B4 n) d] 69)).alloc (.cells #[.bool false, .slice none 0 0] 69)))
  go_region_held3 (fun w' => w'.cell? ⟨w.heap.size, 0, none⟩ = some (.bool p) ∧ w'.cell? ⟨w.heap.size, 1, none⟩ = some (.slice A (dl B4 m) c) ∧ w'.cell? ⟨w.heap.size + 1, 0, none⟩ = some (.bool p) ∧ w'.cell? ⟨w.heap.size + 1, 1, none⟩ = some (.slice B (dl B4 n) d)) (go_keep) (first
    | (go_at_call 96; refine (sum4_spec _ _ _ _ m n _ (by exact HA.out.ext) (by exact HB.out.ext) hm hn).mono ?_; rintro e w7 ⟨L, T, tc, rfl, hT, hcu, hll, hx⟩; replace HX := Lib.hid hx.undrew; have HT := Lib.hid hT; have HCU := Lib.hid hcu; clear hx hT hcu; (try clear hc hf hs q0 q1 q2 q3); obtain ⟨hc, hf, hs⟩ := HX.out.cells; obtain ⟨⟨q0, q1⟩, q2, q3⟩ := box2 HX.out)
    | (go_at_call 64; refine (made_spec T tc L.length (m + n) p z L _ (by exact HT.out.ext) rfl HCU.out HZ.out HP.out).mono ?_; rintro e w8 ⟨R, rc, rfl, hR, hx⟩; replace HX := Lib.hid (Ext.tr (h := HX.out) hx); have HR := Lib.hid hR; clear hx hR; (try clear hc hf hs q0 q1 q2 q3); obtain ⟨hc, hf, hs⟩ := HX.out.cells; obtain ⟨⟨q0, q1⟩, q2, q3⟩ := box2 HX.out))
  go_wp2_with fail
  have r := cells_res HX.out (g := w.heap.size + 2) (by simp)
  have r1 := fun v0 => (r v0 undef).1
  have r2 := fun v0 v1 => (r v0 v1).2.1
  have r3 := fun v0 v1 => (r v0 v1).2.2
  exact bodyPost_ret (v := .agg #[.bool _, .slice R (dl B4 z.natAbs) rc]) (by simp [results, Tryz.results61, go_sem, r1, r2, r3]) rfl
    (ret_cell _ _ HX.out (by simp) inferInstance rfl HR.out rfl rfl)
set_option maxHeartbeats 2000000 in
theorem plus4_ge (A B : Option Addr) (c d m n : Nat) (p q : Bool) (z : Int) (w : World) (ha : Num B4 .i64 w A c m) (hb : Num B4 .i64 w B d n) (hm : dl B4 m ≤ 1099511627776) (hn : dl B4 n ≤ 1099511627776)
    (hpq : (p == q) = false) (hle : n ≤ m) (hz : z.natAbs = m - n) (hp : neg z = (p && decide (0 < m - n))) :
    Calls Tryz.prog 61 #[.agg #[.bool p, .slice A (dl B4 m) c], .agg #[.bool q, .slice B (dl B4 n) d]] w (RetInt B4 .i64 w z) := by
  have HA := Lib.hid ha
  have HB := Lib.hid hb
  have HZ := Lib.hid hz
  have HP := Lib.hid hp
  have hne := fun (W : World) (i j : Nat) (v : Value) => World.cell?_setCell_far W ⟨w.heap.size + 1 + 1, i, none⟩ ⟨w.heap.size, j, none⟩ v (show w.heap.size + 1 + 1 ≠ w.heap.size by omega)
  have hne1 := fun (W : World) (i j : Nat) (v : Value) => World.cell?_setCell_far W ⟨w.heap.size + 1 + 1, i, none⟩ ⟨w.heap.size + 1, j, none⟩ v (show w.heap.size + 1 + 1 ≠ w.heap.size + 1 by omega)
  clear ha hb hz hp
  go_enter Tryz.func61, Tryz.ntmps61
  go_wp2_with fail
  refine (order4_spec _ _ _ _ m n _ HA.out.ext HB.out.ext).mono ?_
  rintro e w1 ⟨v, rfl, hv, hx⟩
  have hv0 : 0 ≤ v := by omega
  have HX := Lib.hid hx
  obtain ⟨hc, hf, hs⟩ := hx.cells
  obtain ⟨⟨q0, q1⟩, q2, q3⟩ := box2 hx
  clear hv hx
  go_wp2_with fail
  go_region_held3 (fun w' => w'.cell? ⟨w.heap.size, 0, none⟩ = some (.bool p) ∧ w'.cell? ⟨w.heap.size, 1, none⟩ = some (.slice A (dl B4 m) c) ∧ w'.cell? ⟨w.heap.size + 1, 0, none⟩ = some (.bool q) ∧ w'.cell? ⟨w.heap.size + 1, 1, none⟩ = some (.slice B (dl B4 n) d)) (go_keep) (first
    | (go_at_call 98; refine (diff4_spec _ _ _ _ m n _ (by exact (HA.out.ext (x := Ext.tr (h := inferInstance) HX.out)).ext) (by exact (HB.out.ext (x := Ext.tr (h := inferInstance) HX.out)).ext) (by omega) (by omega)).mono ?_; rintro e w7 ⟨T, tc, rfl, hT, hx⟩; replace HX := Lib.hid (Ext.tr (h := HX.out) hx.undrew); have HT := Lib.hid hT; clear hx hT; (try clear hc hf hs q0 q1 q2 q3); obtain ⟨hc, hf, hs⟩ := HX.out.cells; obtain ⟨⟨q0, q1⟩, q2, q3⟩ := box2 HX.out)
    | (go_at_call 64; refine (made_spec T tc _ (m - n) p z (digs B4 (m - n)) _ (by exact HT.out.ext) rfl (cutz_digs b42 _) HZ.out HP.out).mono ?_; rintro e w8 ⟨R, rc, rfl, hR, hx⟩; replace HX := Lib.hid (Ext.tr (h := HX.out) hx); have HR := Lib.hid hR; clear hx hR; (try clear hc hf hs q0 q1 q2 q3); obtain ⟨hc, hf, hs⟩ := HX.out.cells; obtain ⟨⟨q0, q1⟩, q2, q3⟩ := box2 HX.out))
  go_wp2_with fail
  have r := cells_res HX.out (g := w.heap.size + 2) (by simp)
  have r1 := fun v0 => (r v0 undef).1
  have r2 := fun v0 v1 => (r v0 v1).2.1
  have r3 := fun v0 v1 => (r v0 v1).2.2
  exact bodyPost_ret (v := .agg #[.bool _, .slice R (dl B4 z.natAbs) rc]) (by simp [results, Tryz.results61, go_sem, r1, r2, r3]) rfl
    (ret_cell _ _ HX.out (by simp) inferInstance rfl HR.out rfl rfl)
set_option maxHeartbeats 2000000 in
theorem plus4_lt (A B : Option Addr) (c d m n : Nat) (p q : Bool) (z : Int) (w : World) (ha : Num B4 .i64 w A c m) (hb : Num B4 .i64 w B d n) (hm : dl B4 m ≤ 1099511627776) (hn : dl B4 n ≤ 1099511627776)
    (hpq : (p == q) = false) (hle : m < n) (hz : z.natAbs = n - m) (hp : neg z = (q && decide (0 < n - m))) :
    Calls Tryz.prog 61 #[.agg #[.bool p, .slice A (dl B4 m) c], .agg #[.bool q, .slice B (dl B4 n) d]] w (RetInt B4 .i64 w z) := by
  have HA := Lib.hid ha
  have HB := Lib.hid hb
  have HZ := Lib.hid hz
  have HP := Lib.hid hp
  have hne := fun (W : World) (i j : Nat) (v : Value) => World.cell?_setCell_far W ⟨w.heap.size + 1 + 1, i, none⟩ ⟨w.heap.size, j, none⟩ v (show w.heap.size + 1 + 1 ≠ w.heap.size by omega)
  have hne1 := fun (W : World) (i j : Nat) (v : Value) => World.cell?_setCell_far W ⟨w.heap.size + 1 + 1, i, none⟩ ⟨w.heap.size + 1, j, none⟩ v (show w.heap.size + 1 + 1 ≠ w.heap.size + 1 by omega)
  clear ha hb hz hp
  go_enter Tryz.func61, Tryz.ntmps61
  go_wp2_with fail
  refine (order4_spec _ _ _ _ m n _ HA.out.ext HB.out.ext).mono ?_
  rintro e w1 ⟨v, rfl, hv, hx⟩
  have hv0 : ¬ 0 ≤ v := by omega
  have HX := Lib.hid hx
  obtain ⟨hc, hf, hs⟩ := hx.cells
  obtain ⟨⟨q0, q1⟩, q2, q3⟩ := box2 hx
  clear hv hx
  go_wp2_with fail
  go_region_held3 (fun w' => w'.cell? ⟨w.heap.size, 0, none⟩ = some (.bool p) ∧ w'.cell? ⟨w.heap.size, 1, none⟩ = some (.slice A (dl B4 m) c) ∧ w'.cell? ⟨w.heap.size + 1, 0, none⟩ = some (.bool q) ∧ w'.cell? ⟨w.heap.size + 1, 1, none⟩ = some (.slice B (dl B4 n) d)) (go_keep) (first
    | (go_at_call 98; refine (diff4_spec _ _ _ _ n m _ (by exact (HB.out.ext (x := Ext.tr (h := inferInstance) HX.out)).ext) (by exact (HA.out.ext (x := Ext.tr (h := inferInstance) HX.out)).ext) (by omega) (by omega)).mono ?_; rintro e w7 ⟨T, tc, rfl, hT, hx⟩; replace HX := Lib.hid (Ext.tr (h := HX.out) hx.undrew); have HT := Lib.hid hT; clear hx hT; (try clear hc hf hs q0 q1 q2 q3); obtain ⟨hc, hf, hs⟩ := HX.out.cells; obtain ⟨⟨q0, q1⟩, q2, q3⟩ := box2 HX.out)
    | (go_at_call 64; refine (made_spec T tc _ (n - m) q z (digs B4 (n - m)) _ (by exact HT.out.ext) rfl (cutz_digs b42 _) HZ.out HP.out).mono ?_; rintro e w8 ⟨R, rc, rfl, hR, hx⟩; replace HX := Lib.hid (Ext.tr (h := HX.out) hx); have HR := Lib.hid hR; clear hx hR; (try clear hc hf hs q0 q1 q2 q3); obtain ⟨hc, hf, hs⟩ := HX.out.cells; obtain ⟨⟨q0, q1⟩, q2, q3⟩ := box2 HX.out))
  go_wp2_with fail
  have r := cells_res HX.out (g := w.heap.size + 2) (by simp)
  have r1 := fun v0 => (r v0 undef).1
  have r2 := fun v0 v1 => (r v0 v1).2.1
  have r3 := fun v0 v1 => (r v0 v1).2.2
  exact bodyPost_ret (v := .agg #[.bool _, .slice R (dl B4 z.natAbs) rc]) (by simp [results, Tryz.results61, go_sem, r1, r2, r3]) rfl
    (ret_cell _ _ HX.out (by simp) inferInstance rfl HR.out rfl rfl)

theorem plus4_spec (A B : Option Addr) (c d : Nat) (x y : Int) (w : World) (ha : Num B4 .i64 w A c x.natAbs) (hb : Num B4 .i64 w B d y.natAbs) (hm : dl B4 x.natAbs ≤ 1099511627776) (hn : dl B4 y.natAbs ≤ 1099511627776) :
    Calls Tryz.prog 61 #[.agg #[.bool (neg x), .slice A (dl B4 x.natAbs) c], .agg #[.bool (neg y), .slice B (dl B4 y.natAbs) d]] w (RetInt B4 .i64 w (x + y)) := by
  by_cases hs : neg x = neg y
  · rw [← hs]
    refine plus4_same A B c d _ _ (neg x) (x + y) w ha hb hm hn ?_ ?_
    · simp [neg] at hs; omega
    · simp only [neg] at hs ⊢
      rcases Int.lt_or_le x 0 with h | h
      · simp only [decide_eq_true h, Bool.true_and]
        rw [decide_eq_true (show x + y < 0 by simp [h] at hs; omega), decide_eq_true (by omega)]
      · simp only [decide_eq_false (show ¬ x < 0 by omega), Bool.false_and]
        rw [decide_eq_false (show ¬ x + y < 0 by simp [show ¬ x < 0 by omega] at hs; omega)]
  · have hq : (neg x == neg y) = false := by revert hs; cases neg x <;> cases neg y <;> simp
    have hs2 : (x < 0 ∧ 0 ≤ y) ∨ (0 ≤ x ∧ y < 0) := by simp [neg] at hs; omega
    rcases Nat.lt_or_ge x.natAbs y.natAbs with h | h
    · refine plus4_lt A B c d _ _ (neg x) (neg y) (x + y) w ha hb hm hn hq h (by omega) ?_
      rcases hs2 with ⟨h1, h2⟩ | ⟨h1, h2⟩
      · rw [neg_false h2, neg_false (by omega)]; rfl
      · rw [neg_true h2, neg_true (by omega), decide_eq_true (by omega)]; rfl
    · refine plus4_ge A B c d _ _ (neg x) (neg y) (x + y) w ha hb hm hn hq h (by omega) ?_
      rcases hs2 with ⟨h1, h2⟩ | ⟨h1, h2⟩
      · rw [neg_true h1]
        by_cases h3 : x + y < 0
        · rw [neg_true h3, decide_eq_true (by omega)]; rfl
        · rw [neg_false (by omega), decide_eq_false (by omega)]; rfl
      · rw [neg_false h1, neg_false (by omega)]; rfl
set_option maxHeartbeats 2000000 in
theorem minus4_spec (A B : Option Addr) (c d : Nat) (x y : Int) (w : World) (ha : Num B4 .i64 w A c x.natAbs) (hb : Num B4 .i64 w B d y.natAbs) (hm : dl B4 x.natAbs ≤ 1099511627776) (hn : dl B4 y.natAbs ≤ 1099511627776) :
    Calls Tryz.prog 70 #[.agg #[.bool (neg x), .slice A (dl B4 x.natAbs) c], .agg #[.bool (neg y), .slice B (dl B4 y.natAbs) d]] w (RetInt B4 .i64 w (x - y)) := by
  have HA := Lib.hid ha
  have HB := Lib.hid hb
  obtain ⟨u, hu⟩ : ∃ u, -y = u := ⟨_, rfl⟩
  have hnu : dl B4 u.natAbs ≤ 1099511627776 := by rw [← hu, Int.natAbs_neg]; exact hn
  obtain ⟨z, hz⟩ : ∃ z, x - y = z := ⟨_, rfl⟩
  rw [hz]
  have HU := Lib.hid hu
  have HZ := Lib.hid (show x + u = z by omega)
  have hne := fun (W : World) (i j : Nat) (v : Value) => World.cell?_setCell_far W ⟨w.heap.size + 1 + 1, i, none⟩ ⟨w.heap.size, j, none⟩ v (show w.heap.size + 1 + 1 ≠ w.heap.size by omega)
  have hne1 := fun (W : World) (i j : Nat) (v : Value) => World.cell?_setCell_far W ⟨w.heap.size + 1 + 1, i, none⟩ ⟨w.heap.size + 1, j, none⟩ v (show w.heap.size + 1 + 1 ≠ w.heap.size + 1 by omega)
  clear ha hb hu hz
  go_enter Tryz.func70, Tryz.ntmps70
  go_wp2_with fail
  have HX := Lib.hid (Ext.rf (((w.alloc (.cells #[.bool (neg x), .slice A (dl B4 x.natAbs) c] 69)).alloc (.cells #[.bool (neg y), .slice B (dl B4 y.natAbs) d] 69)).alloc (.cells #[.bool false, .slice none 0 0] 69)))
  go_region_held3 (fun w' => w'.cell? ⟨w.heap.size, 0, none⟩ = some (.bool (neg x)) ∧ w'.cell? ⟨w.heap.size, 1, none⟩ = some (.slice A (dl B4 x.natAbs) c) ∧ w'.cell? ⟨w.heap.size + 1, 0, none⟩ = some (.bool (neg y)) ∧ w'.cell? ⟨w.heap.size + 1, 1, none⟩ = some (.slice B (dl B4 y.natAbs) d)) (go_keep) (first
    | (go_at_call 69; refine (turn4_spec _ _ y _ (by exact HB.out.ext)).mono ?_; rintro e w7 ⟨T, tc, rfl, hT, hx⟩; rw [HU.out] at hT ⊢; replace HX := Lib.hid hx.undrew; have HT := Lib.hid hT; clear hx hT; (try clear hc hf hs q0 q1 q2 q3); obtain ⟨hc, hf, hs⟩ := HX.out.cells; obtain ⟨⟨q0, q1⟩, q2, q3⟩ := box2 HX.out)
    | (go_at_call 61; refine (plus4_spec _ _ _ _ x u _ (by exact HA.out.ext (x := Ext.tr (h := inferInstance) HX.out)) HT.out hm hnu).mono ?_; rintro e w8 ⟨R, rc, rfl, hR, hx⟩; rw [HZ.out] at hR ⊢; replace HX := Lib.hid (Ext.tr (h := HX.out) hx); have HR := Lib.hid hR; clear hx hR; (try clear hc hf hs q0 q1 q2 q3); obtain ⟨hc, hf, hs⟩ := HX.out.cells; obtain ⟨⟨q0, q1⟩, q2, q3⟩ := box2 HX.out))
  go_wp2_with fail
  have r := cells_res HX.out (g := w.heap.size + 2) (by simp)
  have r1 := fun v0 => (r v0 undef).1
  have r2 := fun v0 v1 => (r v0 v1).2.1
  have r3 := fun v0 v1 => (r v0 v1).2.2
  exact bodyPost_ret (v := .agg #[.bool _, .slice R (dl B4 z.natAbs) rc]) (by simp [results, Tryz.results70, go_sem, r1, r2, r3]) rfl
    (ret_cell _ _ HX.out (by simp) inferInstance rfl HR.out rfl rfl)
set_option maxHeartbeats 2000000 in
theorem times4_spec (A B : Option Addr) (c d : Nat) (x y : Int) (w : World) (ha : Num B4 .i64 w A c x.natAbs) (hb : Num B4 .i64 w B d y.natAbs) (hm : dl B4 x.natAbs ≤ 1099511627776) (hn : dl B4 y.natAbs ≤ 1099511627776) :
    Calls Tryz.prog 62 #[.agg #[.bool (neg x), .slice A (dl B4 x.natAbs) c], .agg #[.bool (neg y), .slice B (dl B4 y.natAbs) d]] w (RetInt B4 .i64 w (x * y)) := by
  have HA := Lib.hid ha
  have HB := Lib.hid hb
  obtain ⟨z, hz⟩ : ∃ z, x * y = z := ⟨_, rfl⟩
  rw [hz]
  have HZ := Lib.hid (show z.natAbs = x.natAbs * y.natAbs by rw [← hz, Int.natAbs_mul])
  have HP := Lib.hid (show neg z = ((neg x != neg y) && decide (0 < x.natAbs * y.natAbs)) by
    rw [← hz, neg_mul]
    cases neg x <;> cases neg y <;> simp)
  have hne := fun (W : World) (i j : Nat) (v : Value) => World.cell?_setCell_far W ⟨w.heap.size + 1 + 1, i, none⟩ ⟨w.heap.size, j, none⟩ v (show w.heap.size + 1 + 1 ≠ w.heap.size by omega)
  have hne1 := fun (W : World) (i j : Nat) (v : Value) => World.cell?_setCell_far W ⟨w.heap.size + 1 + 1, i, none⟩ ⟨w.heap.size + 1, j, none⟩ v (show w.heap.size + 1 + 1 ≠ w.heap.size + 1 by omega)
  clear ha hb hz
  go_enter Tryz.func62, Tryz.ntmps62
  go_wp2_with fail
  have HX := Lib.hid (Ext.rf (((w.alloc (.cells #[.bool (neg x), .slice A (dl B4 x.natAbs) c] 69)).alloc (.cells #[.bool (neg y), .slice B (dl B4 y.natAbs) d] 69)).alloc (.cells #[.bool false, .slice none 0 0] 69)))
  go_region_held3 (fun w' => w'.cell? ⟨w.heap.size, 0, none⟩ = some (.bool (neg x)) ∧ w'.cell? ⟨w.heap.size, 1, none⟩ = some (.slice A (dl B4 x.natAbs) c) ∧ w'.cell? ⟨w.heap.size + 1, 0, none⟩ = some (.bool (neg y)) ∧ w'.cell? ⟨w.heap.size + 1, 1, none⟩ = some (.slice B (dl B4 y.natAbs) d)) (go_keep) (first
    | (go_at_call 99; refine (prod4_spec _ _ _ _ x.natAbs y.natAbs _ (by exact HA.out.ext) (by exact HB.out.ext) hm hn).mono ?_; rintro e w7 ⟨T, tc, rfl, hT, hx⟩; replace HX := Lib.hid hx.undrew; have HT := Lib.hid hT; clear hx hT; (try clear hc hf hs q0 q1 q2 q3); obtain ⟨hc, hf, hs⟩ := HX.out.cells; obtain ⟨⟨q0, q1⟩, q2, q3⟩ := box2 HX.out)
    | (go_at_call 64; refine (made_spec T tc _ (x.natAbs * y.natAbs) (neg x != neg y) z (digs B4 (x.natAbs * y.natAbs)) _ (by exact HT.out.ext) rfl (cutz_digs b42 _) HZ.out HP.out).mono ?_; rintro e w8 ⟨R, rc, rfl, hR, hx⟩; replace HX := Lib.hid (Ext.tr (h := HX.out) hx); have HR := Lib.hid hR; clear hx hR; (try clear hc hf hs q0 q1 q2 q3); obtain ⟨hc, hf, hs⟩ := HX.out.cells; obtain ⟨⟨q0, q1⟩, q2, q3⟩ := box2 HX.out))
  go_wp2_with fail
  have r := cells_res HX.out (g := w.heap.size + 2) (by simp)
  have r1 := fun v0 => (r v0 undef).1
  have r2 := fun v0 v1 => (r v0 v1).2.1
  have r3 := fun v0 v1 => (r v0 v1).2.2
  exact bodyPost_ret (v := .agg #[.bool _, .slice R (dl B4 z.natAbs) rc]) (by simp [results, Tryz.results62, go_sem, r1, r2, r3]) rfl
    (ret_cell _ _ HX.out (by simp) inferInstance rfl HR.out rfl rfl)
set_option maxHeartbeats 2000000 in
theorem ord4_spec (A B : Option Addr) (c d : Nat) (x y : Int) (w : World) (ha : Num B4 .i64 w A c x.natAbs) (hb : Num B4 .i64 w B d y.natAbs) (hm : dl B4 x.natAbs ≤ 1099511627776) (hn : dl B4 y.natAbs ≤ 1099511627776) :
    Calls Tryz.prog 52 #[.agg #[.bool (neg x), .slice A (dl B4 x.natAbs) c], .agg #[.bool (neg y), .slice B (dl B4 y.natAbs) d]] w (Ret w (.int .i64 (x - y).sign)) := by
  have HA := Lib.hid ha
  have HB := Lib.hid hb
  obtain ⟨z, hz⟩ : ∃ z, x - y = z := ⟨_, rfl⟩
  rw [hz]
  have HZ := Lib.hid hz
  clear ha hb hz
  rcases Int.lt_trichotomy z 0 with h | h | h
  · have HG := Lib.hid (Int.sign_eq_neg_one_of_neg h)
    go_enter Tryz.func52, Tryz.ntmps52
    go_wp2_with fail
    refine (minus4_spec _ _ _ _ x y _ HA.out.ext HB.out.ext hm hn).mono ?_
    rintro e w2 ⟨T, tc, rfl, hT, hx⟩
    rw [HZ.out] at hT ⊢
    rw [neg_true h]
    have HX := Lib.hid hx
    clear hT hx
    go_wp2_with fail
    go_ret
    exact ⟨ret_int HG.out.symm, Ext.al _ _ _ (h := Ext.tr (h := inferInstance) HX.out)⟩
  · have HG := Lib.hid (show z.sign = 0 by rw [h]; rfl)
    have hd : ¬ 0 < dl B4 z.natAbs := by rw [h]; simp [dl_zero]
    have hge : 0 ≤ z := by omega
    have hge2 : neg z = false := neg_false hge
    have HGE := Lib.hid hge2
    clear h hge2
    go_enter Tryz.func52, Tryz.ntmps52
    go_wp2_with fail
    refine (minus4_spec _ _ _ _ x y _ HA.out.ext HB.out.ext hm hn).mono ?_
    rintro e w2 ⟨T, tc, rfl, hT, hx⟩
    rw [HZ.out] at hT ⊢
    rw [HGE.out]
    have HX := Lib.hid hx
    clear hT hx
    go_wp2_with fail
    go_ret
    exact ⟨ret_int HG.out.symm, Ext.al _ _ _ (h := Ext.tr (h := inferInstance) HX.out)⟩
  · have HG := Lib.hid (Int.sign_eq_one_of_pos h)
    have hd : 0 < dl B4 z.natAbs := dl_pos b42 (by omega)
    go_enter Tryz.func52, Tryz.ntmps52
    go_wp2_with fail
    refine (minus4_spec _ _ _ _ x y _ HA.out.ext HB.out.ext hm hn).mono ?_
    rintro e w2 ⟨T, tc, rfl, hT, hx⟩
    rw [HZ.out] at hT ⊢
    rw [neg_false (show 0 ≤ z by omega)]
    have HX := Lib.hid hx
    clear hT hx
    go_wp2_with fail
    go_ret
    exact ⟨ret_int HG.out.symm, Ext.al _ _ _ (h := Ext.tr (h := inferInstance) HX.out)⟩
end Go.Proofs.YtkmmkobiigddkaaGreatDoor
