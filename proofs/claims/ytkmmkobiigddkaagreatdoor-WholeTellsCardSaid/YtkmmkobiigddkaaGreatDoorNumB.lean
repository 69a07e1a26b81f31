import Derived.Test.YtkmmkobiigddkaaGreatDoorProg
import Derived.Test.YtkmmkobiigddkaaGreatDoorNumA
/-! The walks of package whole's signed numbers: Turned, Side, Sum, Less, Product, Order, Parts. -/
set_option linter.unusedVariables false
set_option linter.unusedSimpArgs false
set_option maxRecDepth 100000
namespace Go.Proofs.YtkmmkobiigddkaaGreatDoor
open Go.RowKit

theorem neg_true {x : Int} (h : x < 0) : neg x = true := by unfold neg; simpa using h
theorem neg_false {x : Int} (h : 0 ≤ x) : neg x = false := by unfold neg; simpa using h
/-- A signed number in memory. -/
structure Sgn (w : World) (A : Option Addr) (c : Nat) (x : Int) : Prop where
  num : Num Big .u64 w A c x.natAbs
  len : dl Big x.natAbs ≤ 137438953472
set_option maxHeartbeats 1000000 in
theorem turned_spec (A : Option Addr) (c : Nat) (x : Int) (w : World) (ha : Num Big .u64 w A c x.natAbs) :
    Calls Tryz.prog 67 #[.agg #[.bool (neg x), .slice A (dl Big x.natAbs) c]] w (RetInt Big .u64 w (-x)) := by
  have HA := Lib.hid ha
  clear ha
  rcases Int.lt_or_le x 0 with h | h
  · rw [neg_true h]
    have HN := Lib.hid (neg_false (show 0 ≤ -x by omega))
    go_enter Tryz.func67, Tryz.ntmps67
    go_wp2_with fail
    exact bodyPost_ret (v := .agg #[.bool false, .slice A (dl Big x.natAbs) c]) (by simp [results, Tryz.results67, go_sem]) rfl
      ⟨A, c, by rw [HN.out, Int.natAbs_neg], by rw [Int.natAbs_neg]; exact HA.out.ext, inferInstance⟩
  · rw [neg_false h]
    by_cases h0 : x = 0
    · have hz : decide ((dl Big x.natAbs : Int) > 0) = false := by rw [h0]; simp [dl_zero]
      have hz2 : ¬ 0 < dl Big x.natAbs := by rw [h0]; simp [dl_zero]
      have HN := Lib.hid (neg_false (show 0 ≤ -x by omega))
      clear h0
      go_enter Tryz.func67, Tryz.ntmps67
      go_wp2_with fail
      exact bodyPost_ret (v := .agg #[.bool false, .slice A (dl Big x.natAbs) c]) (by simp [results, Tryz.results67, go_sem]) rfl
        ⟨A, c, by rw [HN.out, Int.natAbs_neg], by rw [Int.natAbs_neg]; exact HA.out.ext, inferInstance⟩
    · have hp : 0 < dl Big x.natAbs := dl_pos big2 (by omega)
      have hp2 : (0 : Int) < (dl Big x.natAbs : Int) := by omega
      have HN := Lib.hid (neg_true (show -x < 0 by omega))
      clear h0
      go_enter Tryz.func67, Tryz.ntmps67
      go_wp2_with fail
      exact bodyPost_ret (v := .agg #[.bool true, .slice A (dl Big x.natAbs) c]) (by simp [results, Tryz.results67, go_sem]) rfl
        ⟨A, c, by rw [HN.out, Int.natAbs_neg], by rw [Int.natAbs_neg]; exact HA.out.ext, inferInstance⟩
set_option maxHeartbeats 1000000 in
theorem side_spec (A : Option Addr) (c : Nat) (x : Int) (w : World) (ha : Num Big .u64 w A c x.natAbs) :
    Calls Tryz.prog 51 #[.agg #[.bool (neg x), .slice A (dl Big x.natAbs) c]] w (Ret w (.int .i64 x.sign)) := by
  rcases Int.lt_trichotomy x 0 with h | h | h
  · rw [neg_true h]
    have HN := Lib.hid (Int.sign_eq_neg_one_of_neg h)
    clear ha
    go_enter Tryz.func51, Tryz.ntmps51
    go_wp2_with fail
    go_ret
    exact ⟨ret_int HN.out.symm, inferInstance⟩
  · rw [neg_false (show 0 ≤ x by omega)]
    have hz2 : ¬ 0 < dl Big x.natAbs := by rw [h]; simp [dl_zero]
    have HN := Lib.hid (show x.sign = 0 by rw [h]; rfl)
    clear ha h
    go_enter Tryz.func51, Tryz.ntmps51
    go_wp2_with fail
    go_ret
    exact ⟨ret_int HN.out.symm, inferInstance⟩
  · rw [neg_false (show 0 ≤ x by omega)]
    have hp : 0 < dl Big x.natAbs := dl_pos big2 (by omega)
    have hp2 : (0 : Int) < (dl Big x.natAbs : Int) := by omega
    have HN := Lib.hid (Int.sign_eq_one_of_pos h)
    clear ha h
    go_enter Tryz.func51, Tryz.ntmps51
    go_wp2_with fail
    go_ret
    exact ⟨ret_int HN.out.symm, inferInstance⟩

set_option maxHeartbeats 2000000 in
theorem product_core (A B : Option Addr) (c d m n : Nat) (p q r : Bool) (z : Int) (w : World) (ha : Num Big .u64 w A c m) (hb : Num Big .u64 w B d n) (hm : dl Big m ≤ 1099511627776) (hn : dl Big n ≤ 1099511627776)
    (hz : z.natAbs = m * n) (hr : r = neg z) (hc : r = if p = q then false else decide (0 < m * n)) :
    Calls Tryz.prog 91 #[.agg #[.bool p, .slice A (dl Big m) c], .agg #[.bool q, .slice B (dl Big n) d]] w (RetInt Big .u64 w z) := by
  have HA := Lib.hid ha
  have HB := Lib.hid hb
  have HZ := Lib.hid hz
  have HR := Lib.hid hr
  clear ha hb hz hr
  by_cases h0 : m * n = 0
  · have hz2 : ¬ 0 < dl Big (m * n) := by rw [h0]; simp [dl_zero]
    obtain rfl : r = false := by rw [hc]; split <;> simp [h0]
    clear h0 hc
    cases p <;> cases q
    all_goals
      go_enter Tryz.func91, Tryz.ntmps91
      go_wp2_with fail
      refine (times_spec _ _ _ _ m n _ HA.out.ext HB.out.ext hm hn).mono ?_
      rintro e w2 ⟨T, tc, rfl, hT, hx⟩
      obtain ⟨hc, hf, hs⟩ := hx.cells
      have HT := Lib.hid hT
      have HX := Lib.hid hx
      clear hT hx
      go_wp2_with fail
      have r := fun v0 v1 => cells_res HX.out (g := w.heap.size + 2) (by simp) v0 v1
      exact bodyPost_ret (v := .agg #[.bool _, .slice T (dl Big (m * n)) tc]) (by simp [results, Tryz.results91, go_sem, r]) rfl
        (ret_cell _ _ HX.out (by simp) inferInstance HZ.out HT.out HR.out rfl)
  · have hp : 0 < dl Big (m * n) := dl_pos big2 (by omega)
    have hp2 : (0 : Int) < (dl Big (m * n) : Int) := by omega
    have hd : decide (0 < m * n) = true := decide_eq_true (by omega)
    rw [hd] at hc
    clear hd h0
    cases p <;> cases q
    all_goals
      simp only [if_true, if_false, reduceCtorEq] at hc
      subst hc
      go_enter Tryz.func91, Tryz.ntmps91
      go_wp2_with fail
      refine (times_spec _ _ _ _ m n _ HA.out.ext HB.out.ext hm hn).mono ?_
      rintro e w2 ⟨T, tc, rfl, hT, hx⟩
      obtain ⟨hc, hf, hs⟩ := hx.cells
      have HT := Lib.hid hT
      have HX := Lib.hid hx
      clear hT hx
      go_wp2_with fail
      have r := fun v0 v1 => cells_res HX.out (g := w.heap.size + 2) (by simp) v0 v1
      exact bodyPost_ret (v := .agg #[.bool _, .slice T (dl Big (m * n)) tc]) (by simp [results, Tryz.results91, go_sem, r]) rfl
        (ret_cell _ _ HX.out (by simp) inferInstance HZ.out HT.out HR.out rfl)
theorem neg_mul (x y : Int) : neg (x * y) = if neg x = neg y then false else decide (0 < x.natAbs * y.natAbs) := by
  have hp := @Int.mul_pos x y
  rcases Int.lt_trichotomy x 0 with hx | hx | hx <;> rcases Int.lt_trichotomy y 0 with hy | hy | hy
  all_goals first
    | (subst hx; simp [neg])
    | (subst hy; simp [neg])
    | (rw [neg_true hx, neg_true hy, if_pos rfl]; exact neg_false (Int.le_of_lt (Int.mul_pos_of_neg_of_neg hx hy)))
    | (rw [neg_true hx, neg_false (Int.le_of_lt hy), if_neg (by simp), neg_true (Int.mul_neg_of_neg_of_pos hx hy)]; symm; exact decide_eq_true (Nat.mul_pos (by omega) (by omega)))
    | (rw [neg_false (Int.le_of_lt hx), neg_true hy, if_neg (by simp), neg_true (Int.mul_neg_of_pos_of_neg hx hy)]; symm; exact decide_eq_true (Nat.mul_pos (by omega) (by omega)))
    | (rw [neg_false (Int.le_of_lt hx), neg_false (Int.le_of_lt hy), if_pos rfl]; exact neg_false (Int.le_of_lt (Int.mul_pos hx hy)))
theorem product_spec (A B : Option Addr) (c d : Nat) (x y : Int) (w : World) (ha : Num Big .u64 w A c x.natAbs) (hb : Num Big .u64 w B d y.natAbs) (hm : dl Big x.natAbs ≤ 1099511627776) (hn : dl Big y.natAbs ≤ 1099511627776) :
    Calls Tryz.prog 91 #[.agg #[.bool (neg x), .slice A (dl Big x.natAbs) c], .agg #[.bool (neg y), .slice B (dl Big y.natAbs) d]] w (RetInt Big .u64 w (x * y)) :=
  product_core A B c d _ _ _ _ _ (x * y) w ha hb hm hn (Int.natAbs_mul x y) rfl (neg_mul x y)

theorem Ext.undrew {w W : World} (x : Ext w.drew W) : Ext w W := Ext.tr x
/-- Two boxed structs of two fields, and a result's cell. -/
theorem box2 {w W : World} {a0 a1 b0 b1 : Value} {T1 T2 : TypeId} {o : Obj} (x : Ext (((w.alloc (.cells #[a0, a1] T1)).alloc (.cells #[b0, b1] T2)).alloc o) W) :
    (W.cell? ⟨w.heap.size, 0, none⟩ = some a0 ∧ W.cell? ⟨w.heap.size, 1, none⟩ = some a1) ∧ W.cell? ⟨w.heap.size + 1, 0, none⟩ = some b0 ∧ W.cell? ⟨w.heap.size + 1, 1, none⟩ = some b1 := by
  have h1 : W.heap[w.heap.size]? = some (.cells #[a0, a1] T1 (0, 0)) := by
    rw [x.below.block _ (by simp; omega), Below.heap_alloc _ _ _ (by simp; omega), Below.heap_alloc _ _ _ (by simp)]
    exact heap_alloc_new w _
  have h2 : W.heap[w.heap.size + 1]? = some (.cells #[b0, b1] T2 (0, 0)) := by
    rw [x.below.block _ (by simp), Below.heap_alloc _ _ _ (by simp)]
    have := heap_alloc_new (w.alloc (.cells #[a0, a1] T1)) (.cells #[b0, b1] T2)
    simpa using this
  refine ⟨⟨?_, ?_⟩, ?_, ?_⟩ <;> simp [World.cell?, h1, h2]
/-! The sum: magnitudes and signs. -/
set_option maxHeartbeats 2000000 in
theorem sum_same (A B : Option Addr) (c d m n : Nat) (p : Bool) (z : Int) (w : World) (ha : Num Big .u64 w A c m) (hb : Num Big .u64 w B d n) (hm : dl Big m ≤ 1099511627776) (hn : dl Big n ≤ 1099511627776)
  (hz : z.natAbs = m + n) (hr : p = neg z) :
  Calls Tryz.prog 90 #[.agg #[.bool p, .slice A (dl Big m) c], .agg #[.bool p, .slice B (dl Big n) d]] w (RetInt Big .u64 w z) := by
  have HA := Lib.hid ha
  have HB := Lib.hid hb
  have HZ := Lib.hid hz
  have HR := Lib.hid hr
  clear ha hb hz hr
  go_enter Tryz.func90, Tryz.ntmps90
  go_wp2_with fail
  have hne := fun (W : World) (i j : Nat) (v : Value) => World.cell?_setCell_far W ⟨w.heap.size + 1 + 1, i, none⟩ ⟨w.heap.size, j, none⟩ v (show w.heap.size + 1 + 1 ≠ w.heap.size by omega)
  go_region_held3 (fun w' => w'.cell? ⟨w.heap.size, 0, none⟩ = some (.bool p) ∧ w'.cell? ⟨w.heap.size, 1, none⟩ = some (.slice A (dl Big m) c) ∧ w'.cell? ⟨w.heap.size + 1, 0, none⟩ = some (.bool p) ∧ w'.cell? ⟨w.heap.size + 1, 1, none⟩ = some (.slice B (dl Big n) d)) (go_keep) (first
    | (go_at_call 93; refine (plus_spec _ _ _ _ m n _ (by exact HA.out.ext) (by exact HB.out.ext) hm hn).mono ?_; rintro e w2 ⟨T, tc, rfl, hT, hx⟩; replace hx := hx.undrew; obtain ⟨hc, hf, hs⟩ := hx.cells; obtain ⟨⟨q0, q1⟩, q2, q3⟩ := box2 hx; have HT := Lib.hid hT; have HX := Lib.hid hx; clear hT hx))
  go_wp2_with fail
  have r := fun v0 v1 => cells_res HX.out (g := w.heap.size + 2) (by simp) v0 v1
  exact bodyPost_ret (v := .agg #[.bool _, .slice T (dl Big (m + n)) tc]) (by simp [results, Tryz.results90, go_sem, r]) rfl
    (ret_cell _ _ HX.out (by simp) inferInstance HZ.out HT.out HR.out rfl)
set_option maxHeartbeats 2000000 in
theorem sum_ge (A B : Option Addr) (c d m n : Nat) (p q r : Bool) (z : Int) (w : World) (ha : Num Big .u64 w A c m) (hb : Num Big .u64 w B d n) (hm : dl Big m ≤ 1099511627776)
    (hpq : q = !p) (hle : n ≤ m) (hz : z.natAbs = m - n) (hr : r = neg z) (hc : r = (p && decide (0 < m - n))) :
    Calls Tryz.prog 90 #[.agg #[.bool p, .slice A (dl Big m) c], .agg #[.bool q, .slice B (dl Big n) d]] w (RetInt Big .u64 w z) := by
  have HA := Lib.hid ha
  have HB := Lib.hid hb
  have HZ := Lib.hid hz
  have HR := Lib.hid hr
  have HC := Lib.hid hc
  have hcm := (cmpN_ge m n).2 hle
  have hd0 : (m - n = 0 ∧ ¬ 0 < dl Big (m - n)) ∨ (0 < m - n ∧ 0 < dl Big (m - n)) := by
    rcases Nat.eq_zero_or_pos (m - n) with h | h
    · exact .inl ⟨h, by rw [h]; simp [dl_zero]⟩
    · exact .inr ⟨h, dl_pos big2 h⟩
  clear ha hb hz hr hc
  rcases hd0 with ⟨hd0, hd⟩ | ⟨hd0, hd⟩
  all_goals
    have HD := Lib.hid hd0
    clear hd0
    cases p
    all_goals
      subst hpq
      have hc := HC.out
      simp only [Bool.false_and, Bool.true_and, Bool.and_false, Bool.and_true] at hc
      first | rw [decide_eq_false (show ¬ 0 < m - n by have := HD.out; omega)] at hc | rw [decide_eq_true (show 0 < m - n by have := HD.out; omega)] at hc | skip
      subst hc
      go_enter Tryz.func90, Tryz.ntmps90
      go_wp2_with fail
      refine (cmp_spec _ _ _ _ m n _ HA.out.ext HB.out.ext).mono ?_
      rintro e w1 ⟨rfl, hx1⟩
      obtain ⟨hc1, hf1, hs1⟩ := hx1.cells
      have HX1 := Lib.hid hx1
      clear hx1
      go_wp2_with fail
      refine (minus_spec _ _ _ _ m n _ (HA.out.ext (x := Ext.tr (h := inferInstance) HX1.out)) (HB.out.ext (x := Ext.tr (h := inferInstance) HX1.out)) hle hm).mono ?_
      rintro e w2 ⟨T, tc, rfl, hT, hx⟩
      have HT := Lib.hid hT
      have HX := Lib.hid (Ext.tr (h := HX1.out) hx)
      clear hT hx hc1 hf1 hs1
      obtain ⟨hc, hf, hs⟩ := HX.out.cells
      go_wp2_with fail
      have r := fun v0 v1 => cells_res HX.out (g := w.heap.size + 2) (by simp) v0 v1
      exact bodyPost_ret (v := .agg #[.bool _, .slice T (dl Big (m - n)) tc]) (by simp [results, Tryz.results90, go_sem, r]) rfl
        (ret_cell _ _ HX.out (by simp) inferInstance HZ.out HT.out HR.out rfl)

set_option maxHeartbeats 2000000 in
theorem sum_lt (A B : Option Addr) (c d m n : Nat) (p q r : Bool) (z : Int) (w : World) (ha : Num Big .u64 w A c m) (hb : Num Big .u64 w B d n) (hn : dl Big n ≤ 1099511627776)
    (hpq : q = !p) (hlt : m < n) (hz : z.natAbs = n - m) (hr : r = neg z) (hc : r = q) :
    Calls Tryz.prog 90 #[.agg #[.bool p, .slice A (dl Big m) c], .agg #[.bool q, .slice B (dl Big n) d]] w (RetInt Big .u64 w z) := by
  have HA := Lib.hid ha
  have HB := Lib.hid hb
  have HZ := Lib.hid hz
  have HR := Lib.hid hr
  have HC := Lib.hid (show r = (q && decide (0 < n - m)) by rw [hc, decide_eq_true (by omega), Bool.and_true])
  have hcm : ¬ cmpN m n ≥ 0 := fun h => by have := (cmpN_ge m n).1 h; omega
  clear ha hb hz hr hc
  cases p
  all_goals
    subst hpq
    go_enter Tryz.func90, Tryz.ntmps90
    go_wp2_with fail
    refine (cmp_spec _ _ _ _ m n _ HA.out.ext HB.out.ext).mono ?_
    rintro e w1 ⟨rfl, hx1⟩
    obtain ⟨⟨q0, q1⟩, q2, q3⟩ := box2 hx1
    have HX1 := Lib.hid hx1
    clear hx1
    go_wp2_with fail
    refine (sum_ge _ _ _ _ n m _ _ r z _ (HB.out.ext (x := Ext.tr (h := inferInstance) HX1.out)) (HA.out.ext (x := Ext.tr (h := inferInstance) HX1.out)) hn (by rfl) (Nat.le_of_lt hlt) HZ.out HR.out HC.out).mono ?_
    rintro e w2 ⟨T, tc, rfl, hT, hx⟩
    have HT := Lib.hid hT
    have HX := Lib.hid (Ext.tr (h := HX1.out) hx)
    clear hT hx q0 q1 q2 q3
    obtain ⟨hc, hf, hs⟩ := HX.out.cells
    go_wp2_with fail
    have r := fun v0 v1 => cells_res HX.out (g := w.heap.size + 2) (by simp) v0 v1
    exact bodyPost_ret (v := .agg #[.bool _, .slice T (dl Big z.natAbs) tc]) (by simp [results, Tryz.results90, go_sem, r]) rfl
      (ret_cell _ _ HX.out (by simp) inferInstance rfl HT.out rfl rfl)
theorem sum_spec (A B : Option Addr) (c d : Nat) (x y : Int) (w : World) (ha : Num Big .u64 w A c x.natAbs) (hb : Num Big .u64 w B d y.natAbs) (hm : dl Big x.natAbs ≤ 1099511627776) (hn : dl Big y.natAbs ≤ 1099511627776) :
    Calls Tryz.prog 90 #[.agg #[.bool (neg x), .slice A (dl Big x.natAbs) c], .agg #[.bool (neg y), .slice B (dl Big y.natAbs) d]] w (RetInt Big .u64 w (x + y)) := by
  by_cases hs : neg x = neg y
  · rw [← hs]
    refine sum_same A B c d _ _ (neg x) (x + y) w ha hb hm hn ?_ ?_ <;> simp [neg] at hs ⊢ <;> omega
  · have hq : neg y = !neg x := by revert hs; cases neg x <;> cases neg y <;> simp
    rcases Nat.lt_or_ge x.natAbs y.natAbs with h | h
    · refine sum_lt A B c d _ _ (neg x) (neg y) (neg y) (x + y) w ha hb hn hq h ?_ ?_ rfl <;> simp [neg] at hs ⊢ <;> omega
    · refine sum_ge A B c d _ _ (neg x) (neg y) (neg (x + y)) (x + y) w ha hb hm hq h ?_ rfl ?_
      · simp [neg] at hs ⊢; omega
      · simp only [neg] at hs ⊢
        rcases Int.lt_or_le x 0 with h1 | h1
        · simp only [decide_eq_true h1, Bool.true_and]
          rw [decide_eq_decide]
          simp [h1] at hs; omega
        · have : ¬ x < 0 := by omega
          simp only [decide_eq_false this, Bool.false_and, decide_eq_false_iff_not]
          simp [this] at hs; omega
set_option maxHeartbeats 2000000 in
theorem less_spec (A B : Option Addr) (c d : Nat) (x y : Int) (w : World) (ha : Num Big .u64 w A c x.natAbs) (hb : Num Big .u64 w B d y.natAbs) (hm : dl Big x.natAbs ≤ 1099511627776) (hn : dl Big y.natAbs ≤ 1099511627776) :
    Calls Tryz.prog 87 #[.agg #[.bool (neg x), .slice A (dl Big x.natAbs) c], .agg #[.bool (neg y), .slice B (dl Big y.natAbs) d]] w (RetInt Big .u64 w (x - y)) := by
  have HA := Lib.hid ha
  have HB := Lib.hid hb
  obtain ⟨u, hu⟩ : ∃ u, -y = u := ⟨_, rfl⟩
  have hny : dl Big u.natAbs ≤ 1099511627776 := by rw [← hu, Int.natAbs_neg]; exact hn
  have HU := Lib.hid hu
  have HXU := Lib.hid (show x + u = x - y by omega)
  have hne := fun (W : World) (i j : Nat) (v : Value) => World.cell?_setCell_far W ⟨w.heap.size + 1 + 1, i, none⟩ ⟨w.heap.size, j, none⟩ v (show w.heap.size + 1 + 1 ≠ w.heap.size by omega)
  have hne1 := fun (W : World) (i j : Nat) (v : Value) => World.cell?_setCell_far W ⟨w.heap.size + 1 + 1, i, none⟩ ⟨w.heap.size + 1, j, none⟩ v (show w.heap.size + 1 + 1 ≠ w.heap.size + 1 by omega)
  clear ha hb hu
  go_enter Tryz.func87, Tryz.ntmps87
  go_wp2_with fail
  go_region_held3 (fun w' => w'.cell? ⟨w.heap.size, 0, none⟩ = some (.bool (neg x)) ∧ w'.cell? ⟨w.heap.size, 1, none⟩ = some (.slice A (dl Big x.natAbs) c) ∧ w'.cell? ⟨w.heap.size + 1, 0, none⟩ = some (.bool (neg y)) ∧ w'.cell? ⟨w.heap.size + 1, 1, none⟩ = some (.slice B (dl Big y.natAbs) d)) (go_keep) (first
    | (go_at_call 67; refine (turned_spec _ _ y _ (by exact HB.out.ext)).mono ?_; rintro e w2 ⟨T, tc, rfl, hT, hx⟩; rw [HU.out] at hT ⊢; replace hx := hx.undrew; obtain ⟨hc, hf, hs⟩ := hx.cells; obtain ⟨⟨q0, q1⟩, q2, q3⟩ := box2 hx; have HT := Lib.hid hT; have HX := Lib.hid hx; clear hT hx)
    | (go_at_call 90; refine (sum_spec _ _ _ _ x u _ (by exact (HA.out.ext (x := Ext.tr (h := inferInstance) HX.out))) HT.out hm hny).mono ?_; rintro e w3 ⟨S, sc, rfl, hS, hx⟩; rw [HXU.out] at hS ⊢; replace hx := Ext.tr (h := HX.out) hx; clear hc hf hs q0 q1 q2 q3; obtain ⟨hc, hf, hs⟩ := hx.cells; obtain ⟨⟨q0, q1⟩, q2, q3⟩ := box2 hx; have HS := Lib.hid hS; have HX3 := Lib.hid hx; clear hS hx))
  go_wp2_with fail
  have r := fun v0 v1 => cells_res HX3.out (g := w.heap.size + 2) (by simp) v0 v1
  exact bodyPost_ret (v := .agg #[.bool _, .slice S (dl Big (x - y).natAbs) sc]) (by simp [results, Tryz.results87, go_sem, r]) rfl
    (ret_cell _ _ HX3.out (by simp) inferInstance rfl HS.out rfl rfl)
set_option maxHeartbeats 2000000 in
theorem order_spec (A B : Option Addr) (c d : Nat) (x y : Int) (w : World) (ha : Num Big .u64 w A c x.natAbs) (hb : Num Big .u64 w B d y.natAbs) (hm : dl Big x.natAbs ≤ 1099511627776) (hn : dl Big y.natAbs ≤ 1099511627776) :
    Calls Tryz.prog 53 #[.agg #[.bool (neg x), .slice A (dl Big x.natAbs) c], .agg #[.bool (neg y), .slice B (dl Big y.natAbs) d]] w (Ret w (.int .i64 (x - y).sign)) := by
  have HA := Lib.hid ha
  have HB := Lib.hid hb
  clear ha hb
  obtain ⟨u, hu⟩ : ∃ u, x - y = u := ⟨_, rfl⟩
  rw [hu]
  have HU := Lib.hid hu
  clear hu
  go_enter Tryz.func53, Tryz.ntmps53
  go_wp2_with fail
  refine (less_spec _ _ _ _ x y _ HA.out.ext HB.out.ext hm hn).mono ?_
  rintro e w2 ⟨T, tc, rfl, hT, hx⟩
  rw [HU.out] at hT ⊢
  have HT := Lib.hid hT
  have HX := Lib.hid hx
  clear hT hx
  go_wp2_with fail
  refine (side_spec _ _ u _ HT.out).mono ?_
  rintro e w3 ⟨rfl, hx⟩
  have HX3 := Lib.hid hx
  clear hx
  go_wp2_with fail
  go_ret
  exact ⟨rfl, Ext.tr (h := Ext.tr (h := inferInstance) HX.out) HX3.out⟩
end Go.Proofs.YtkmmkobiigddkaaGreatDoor
