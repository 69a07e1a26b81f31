import Derived.Test.YtkmmkobiigddkaaGreatDoorProg
import Derived.Test.YtkmmkobiigddkaaGreatDoorNumB
/-! The walk of package whole's division of signed numbers. -/
set_option linter.unusedVariables false
set_option linter.unusedSimpArgs false
set_option maxRecDepth 100000
namespace Go.Proofs.YtkmmkobiigddkaaGreatDoor
open Go.RowKit

/-- Two signed numbers are returned. -/
def RetInts (b : Nat) (k : IntKind) (w : World) (y z : Int) (e : Ending) (w' : World) : Prop :=
  ∃ A c B d, e = .returned (.tuple #[.agg #[.bool (neg y), .slice A (dl b y.natAbs) c], .agg #[.bool (neg z), .slice B (dl b z.natAbs) d]]) ∧ Num b k w' A c y.natAbs ∧ Num b k w' B d z.natAbs ∧ Ext w w'
theorem box22 {w W : World} {a0 a1 b0 b1 : Value} {T1 T2 : TypeId} {o o' : Obj} (x : Ext ((((w.alloc (.cells #[a0, a1] T1)).alloc (.cells #[b0, b1] T2)).alloc o).alloc o') W) :
    (W.cell? ⟨w.heap.size, 0, none⟩ = some a0 ∧ W.cell? ⟨w.heap.size, 1, none⟩ = some a1) ∧ W.cell? ⟨w.heap.size + 1, 0, none⟩ = some b0 ∧ W.cell? ⟨w.heap.size + 1, 1, none⟩ = some b1 :=
  box2 (T1 := T1) (T2 := T2) (o := o) (Ext.tr (h := Ext.al _ _ o') x)
theorem pair_res {W0 W : World} {g g2 : Nat} {u0 u1 u2 u3 : Value} {T1 T2 : TypeId} (x : Ext ((W0.alloc (.cells #[u0, u1] T1)).alloc (.cells #[u2, u3] T2)) W) (hg : W0.heap.size = g) (hg2 : g + 1 = g2) (v0 v1 v2 v3 : Value) :
    (W.setCell ⟨g, 0, none⟩ v0).cell? ⟨g, 0, none⟩ = some v0 ∧ ((W.setCell ⟨g, 0, none⟩ v0).setCell ⟨g, 1, none⟩ v1).cell? ⟨g, 1, none⟩ = some v1 ∧
    (((W.setCell ⟨g, 0, none⟩ v0).setCell ⟨g, 1, none⟩ v1).setCell ⟨g2, 0, none⟩ v2).cell? ⟨g2, 0, none⟩ = some v2 ∧
    ((((W.setCell ⟨g, 0, none⟩ v0).setCell ⟨g, 1, none⟩ v1).setCell ⟨g2, 0, none⟩ v2).setCell ⟨g2, 1, none⟩ v3).cell? ⟨g2, 1, none⟩ = some v3 := by
  subst hg hg2
  have h1 : W.heap[W0.heap.size]? = some (.cells #[u0, u1] T1 (0, 0)) := by
    rw [x.below.block _ (by simp; omega), Below.heap_alloc _ _ _ (by simp)]; exact heap_alloc_new W0 _
  have h2 : W.heap[W0.heap.size + 1]? = some (.cells #[u2, u3] T2 (0, 0)) := by
    rw [x.below.block _ (by simp)]
    have := heap_alloc_new (W0.alloc (.cells #[u0, u1] T1)) (.cells #[u2, u3] T2)
    simpa using this
  refine ⟨?_, ?_, ?_, ?_⟩ <;> simp [World.cell?, World.setCell, Array.getElem?_modify, h1, h2]
theorem ret_pair {b : Nat} {k : IntKind} {w W0 W : World} {g : Nat} {b0 b1 : Bool} {a0 a1 : Option Addr} {n0 c0 n1 c1 : Nat} {T1 T2 : TypeId} {A B : Option Addr} {c d : Nat} {y z : Int} (v0 v1 v2 v3 : Value) {q r : Bool} {m n : Nat}
    (x : Ext ((W0.alloc (.cells #[.bool b0, .slice a0 n0 c0] T1)).alloc (.cells #[.bool b1, .slice a1 n1 c1] T2)) W) (hg : W0.heap.size = g) (h0 : Ext w W0) (hm : y.natAbs = m) (hn : z.natAbs = n) (h : Num b k W A c m) (h' : Num b k W B d n) (hq : q = neg y) (hr : r = neg z) :
    RetInts b k w y z (.returned (.tuple #[.agg #[.bool q, .slice A (dl b m) c], .agg #[.bool r, .slice B (dl b n) d]])) ((((W.setCell ⟨g, 0, none⟩ v0).setCell ⟨g, 1, none⟩ v1).setCell ⟨g + 1, 0, none⟩ v2).setCell ⟨g + 1, 1, none⟩ v3) := by
  subst hq hr hm hn
  have hge : Ge w g := ⟨by rw [← hg]; exact h0.below.size⟩
  have hx : Ext w W := Ext.tr (h := inferInstance) x
  have x1 : Ext (W0.alloc (.cells #[.bool b0, .slice a0 n0 c0] T1)) W := Ext.tr (h := inferInstance) x
  have o1 : Off g A (dl b y.natAbs) := Row.offB h x1 hg
  have o2 : Off g B (dl b z.natAbs) := Row.offB h' x1 hg
  have o3 : Off (g + 1) A (dl b y.natAbs) := Row.offB h x (by simp [hg])
  have o4 : Off (g + 1) B (dl b z.natAbs) := Row.offB h' x (by simp [hg])
  exact ⟨A, c, B, d, rfl, (h.res o1 _ _).res o3 _ _, (h'.res o2 _ _).res o4 _ _, inferInstance⟩

set_option maxHeartbeats 2000000 in
theorem parts_a (A B : Option Addr) (c d m n : Nat) (p q r : Bool) (y z : Int) (w : World) (ha : Num Big .u64 w A c m) (hb : Num Big .u64 w B d n) (hm : dl Big m ≤ 274877906944) (hn : 0 < n)
    (hcase : p = false ∨ m % n = 0) (hy : y.natAbs = m / n) (hz : z = (m % n : Nat)) (hr : r = neg y) (hc : r = ((p != q) && decide (0 < m / n))) :
    Calls Tryz.prog 59 #[.agg #[.bool p, .slice A (dl Big m) c], .agg #[.bool q, .slice B (dl Big n) d]] w (RetInts Big .u64 w y z) := by
  have HA := Lib.hid ha
  have HB := Lib.hid hb
  have HY := Lib.hid hy
  have HZ := Lib.hid (show z.natAbs = m % n by omega)
  have HZN := Lib.hid (show false = neg z from (neg_false (by omega)).symm)
  have HR := Lib.hid hr
  have HC := Lib.hid hc
  have HCS := Lib.hid hcase
  have hd0 : (m / n = 0 ∧ ¬ 0 < dl Big (m / n)) ∨ (0 < m / n ∧ 0 < dl Big (m / n)) := by
    rcases Nat.eq_zero_or_pos (m / n) with h | h
    · exact .inl ⟨h, by rw [h]; simp [dl_zero]⟩
    · exact .inr ⟨h, dl_pos big2 h⟩
  have hr0 : (p = false) ∨ (p = true ∧ ¬ 0 < dl Big (m % n)) := by
    cases p
    · exact .inl rfl
    · rcases hcase with h | h
      · cases h
      · exact .inr ⟨rfl, by rw [h]; simp [dl_zero]⟩
  clear ha hb hy hz hr hc hcase
  rcases hd0 with ⟨hd0, hd⟩ | ⟨hd0, hd⟩
  all_goals
    have HD := Lib.hid hd0
    clear hd0
    rcases hr0 with rfl | ⟨rfl, hr0⟩
    all_goals
      cases q
      all_goals
        have hc := HC.out
        simp only [bne_self_eq_false, Bool.false_and, Bool.true_and, Bool.and_false, Bool.and_true, Bool.bne_true, Bool.not_false, Bool.bne_false, Bool.true_bne, Bool.not_true] at hc
        first | rw [decide_eq_false (show ¬ 0 < m / n by have := HD.out; omega)] at hc | rw [decide_eq_true (show 0 < m / n by have := HD.out; omega)] at hc | skip
        subst hc
        go_enter Tryz.func59, Tryz.ntmps59
        go_wp2_with fail
        refine (over_spec _ _ _ _ m n _ HA.out.ext HB.out.ext hn hm).mono ?_
        rintro e w2 ⟨T, tc, S, sc, rfl, hT, hS, hx⟩
        obtain ⟨hc, hf, hs⟩ := hx.cells
        have HT := Lib.hid hT
        have HS := Lib.hid hS
        have HX := Lib.hid hx
        clear hT hS hx
        go_wp2_with fail
        have r := pair_res HX.out (g := w.heap.size + 2) (g2 := w.heap.size + 3) (by simp) rfl
        have r1 := fun v0 => (r v0 undef undef undef).1
        have r2 := fun v0 v1 => (r v0 v1 undef undef).2.1
        have r3 := fun v0 v1 v2 => (r v0 v1 v2 undef).2.2.1
        have r4 := fun v0 v1 v2 v3 => (r v0 v1 v2 v3).2.2.2
        exact bodyPost_ret (v := .tuple #[.agg #[.bool _, .slice T (dl Big (m / n)) tc], .agg #[.bool _, .slice S (dl Big (m % n)) sc]]) (by simp [results, Tryz.results59, go_sem, r1, r2, r3, r4]) rfl
          (ret_pair _ _ _ _ HX.out (by simp) inferInstance HY.out HZ.out HT.out HS.out HR.out HZN.out)

set_option maxHeartbeats 2000000 in
theorem parts_b (A B : Option Addr) (c d m n : Nat) (q : Bool) (y z : Int) (w : World) (ha : Num Big .u64 w A c m) (hb : Num Big .u64 w B d n) (hm : dl Big m ≤ 274877906944) (hnd : dl Big n ≤ 274877906944) (hn : 0 < n)
    (hrest : 0 < m % n) (hy : y.natAbs = m / n + 1) (hz : z = (n - m % n : Nat)) (hr : (!q) = neg y) :
    Calls Tryz.prog 59 #[.agg #[.bool true, .slice A (dl Big m) c], .agg #[.bool q, .slice B (dl Big n) d]] w (RetInts Big .u64 w y z) := by
  have HA := Lib.hid ha
  have HB := Lib.hid hb
  have HY := Lib.hid hy
  have HZ := Lib.hid (show z.natAbs = n - m % n by rw [hz, Int.natAbs_natCast])
  have HZN := Lib.hid (show false = neg z from (neg_false (by rw [hz]; exact Int.natCast_nonneg _)).symm)
  have HR := Lib.hid hr
  have hd : 0 < dl Big (m / n + 1) := dl_pos big2 (Nat.succ_pos _)
  have hd2 : 0 < dl Big (m % n) := dl_pos big2 hrest
  have hdq : dl Big (m / n) ≤ dl Big m := dl_mono big2 (Nat.div_le_self _ _)
  have hd1 := dl_one
  have HD1 := Lib.hid hd1
  have hle : m % n ≤ n := Nat.le_of_lt (Nat.mod_lt _ hn)
  clear ha hb hy hz hr hd1
  cases q
  all_goals
    go_enter Tryz.func59, Tryz.ntmps59
    go_wp2_with fail
    refine (over_spec _ _ _ _ m n _ HA.out.ext HB.out.ext hn hm).mono ?_
    rintro e w2 ⟨T, tc, S, sc, rfl, hT, hS, hx⟩
    have HT := Lib.hid hT
    have HS := Lib.hid hS
    have HX := Lib.hid hx
    clear hT hS hx
    obtain ⟨⟨q0, q1⟩, q2, q3⟩ := box22 HX.out
    go_wp2_with fail
    go_region_held3 (fun w' => w'.cell? ⟨w.heap.size + 1, 1, none⟩ = some (.slice B (dl Big n) d)) (go_keep) (first
      | (go_at_call 94; refine (one_spec _ 1 rfl (by unfold Big; omega) _).mono ?_; rintro e w3 ⟨O, oc, rfl, hO, hx⟩; replace hx : Ext _ w3 := (by first | exact hx.undrew | exact hx); replace HT := Lib.hid (HT.out.ext (x := hx)); replace HS := Lib.hid (HS.out.ext (x := hx)); (try replace HM := Lib.hid (HM.out.ext (x := hx))); replace HX := Lib.hid (Ext.tr (h := HX.out) hx); clear q0 q1 q2 q3; obtain ⟨⟨q0, q1⟩, q2, q3⟩ := box22 HX.out; have HO := Lib.hid hO; clear hO hx)
      | (go_at_call 93; refine (plus_spec _ _ _ _ (m / n) 1 _ HT.out HO.out (by omega) (by rw [HD1.out]; omega)).mono ?_; rintro e w4 ⟨P, pc, rfl, hP, hx⟩; replace HS := Lib.hid (HS.out.ext (x := hx)); (try replace HM := Lib.hid (HM.out.ext (x := hx))); replace HX := Lib.hid (Ext.tr (h := HX.out) hx); clear q0 q1 q2 q3; obtain ⟨⟨q0, q1⟩, q2, q3⟩ := box22 HX.out; have HP := Lib.hid hP; clear hP hx)
      | (go_at_call 95; refine (minus_spec _ _ _ _ n (m % n) _ (by exact (HB.out.ext (x := Ext.tr (h := inferInstance) HX.out)).ext) (by exact HS.out.ext) hle (by omega)).mono ?_; rintro e w5 ⟨M, mc, rfl, hM, hx⟩; replace hx : Ext _ w5 := (by first | exact hx.undrew | exact hx); (try replace HT := Lib.hid (HT.out.ext (x := hx))); (try replace HO := Lib.hid (HO.out.ext (x := hx))); (try replace HP := Lib.hid (HP.out.ext (x := hx))); replace HX := Lib.hid (Ext.tr (h := HX.out) hx); clear q0 q1 q2 q3; obtain ⟨⟨q0, q1⟩, q2, q3⟩ := box22 HX.out; have HM := Lib.hid hM; clear hM hx))
    all_goals
      obtain ⟨hc, hf, hs⟩ := HX.out.cells
      go_wp2_with fail
      have r := pair_res HX.out (g := w.heap.size + 2) (g2 := w.heap.size + 3) (by simp) rfl
      have r1 := fun v0 => (r v0 undef undef undef).1
      have r2 := fun v0 v1 => (r v0 v1 undef undef).2.1
      have r3 := fun v0 v1 v2 => (r v0 v1 v2 undef).2.2.1
      have r4 := fun v0 v1 v2 v3 => (r v0 v1 v2 v3).2.2.2
      exact bodyPost_ret (v := .tuple #[.agg #[.bool _, .slice P (dl Big (m / n + 1)) pc], .agg #[.bool _, .slice M (dl Big (n - m % n)) mc]]) (by simp [results, Tryz.results59, go_sem, r1, r2, r3, r4]) rfl
        (ret_pair _ _ _ _ HX.out (by simp) inferInstance HY.out HZ.out HP.out HM.out HR.out HZN.out)

theorem euc (a b : Nat) (hb : 0 < b) : (-(a : Int)) / (b : Int) = (if a % b = 0 then -((a / b : Nat) : Int) else -((a / b : Nat) : Int) - 1) ∧ (-(a : Int)) % (b : Int) = (if a % b = 0 then 0 else (b : Int) - ((a % b : Nat) : Int)) := by
  have h1 := Nat.div_add_mod a b
  have h2 := Nat.mod_lt a hb
  generalize ht : a / b = t at *
  generalize hu : a % b = u at *
  have h3 : (a : Int) = (b : Int) * (t : Int) + (u : Int) := by rw [← h1]; simp
  refine (Int.ediv_emod_unique (by omega)).2 ?_
  split
  · rename_i h; subst h
    refine ⟨?_, by omega, by omega⟩
    rw [h3, Int.mul_neg]; omega
  · refine ⟨?_, by omega, by omega⟩
    rw [h3, Int.mul_sub, Int.mul_neg]; omega
theorem parts_spec (A B : Option Addr) (c d : Nat) (x y : Int) (w : World) (ha : Num Big .u64 w A c x.natAbs) (hb : Num Big .u64 w B d y.natAbs) (hm : dl Big x.natAbs ≤ 274877906944) (hn : dl Big y.natAbs ≤ 274877906944) (hy : y ≠ 0) :
    Calls Tryz.prog 59 #[.agg #[.bool (neg x), .slice A (dl Big x.natAbs) c], .agg #[.bool (neg y), .slice B (dl Big y.natAbs) d]] w (RetInts Big .u64 w (x / y) (x % y)) := by
  obtain ⟨m, hm'⟩ : ∃ m, x.natAbs = m := ⟨_, rfl⟩
  obtain ⟨n, hn'⟩ : ∃ n, y.natAbs = n := ⟨_, rfl⟩
  rw [hm'] at ha hm ⊢
  rw [hn'] at hb hn ⊢
  have hn0 : 0 < n := by omega
  have e := euc m n hn0
  have e1 : (m : Int) / (n : Int) = ((m / n : Nat) : Int) := (Int.natCast_ediv _ _).symm
  have e2 : (m : Int) % (n : Int) = ((m % n : Nat) : Int) := (Int.natCast_emod _ _).symm
  have hlt := Nat.mod_lt m hn0
  have pa := fun p q r y z => parts_a A B c d m n p q r y z w ha hb hm hn0
  have pb := fun q y z => parts_b A B c d m n q y z w ha hb hm hn hn0
  generalize m / n = t at *
  generalize m % n = u at *
  have hd : ∀ (a : Int), a / y = if 0 < y then a / (n : Int) else -(a / (n : Int)) := fun a => by
    split
    · rw [show y = (n : Int) by omega]
    · rw [show y = -(n : Int) by omega, Int.ediv_neg]
  have hmd : ∀ (a : Int), a % y = a % (n : Int) := fun a => by
    rcases Int.lt_or_le y 0 with h | h
    · rw [show y = -(n : Int) by omega, Int.emod_neg]
    · rw [show y = (n : Int) by omega]
  rcases Int.lt_or_le x 0 with hx | hx
  · obtain rfl : x = -(m : Int) := by omega
    rcases Nat.eq_zero_or_pos u with h0 | h0
    · refine pa _ _ (neg (-(m : Int) / y)) _ _ (.inr h0) ?_ ?_ rfl ?_
      · rw [hd, e.1, if_pos h0]; split <;> omega
      · rw [hmd, e.2, if_pos h0, h0]; rfl
      · rw [hd, e.1, if_pos h0, neg_true hx]
        rcases Int.lt_or_le y 0 with h | h
        · rw [neg_true h, if_neg (by omega)]; simp [neg]
        · rw [neg_false h, if_pos (by omega)]; simp [neg]
    · rw [neg_true hx]
      have hu0 : ¬ u = 0 := by omega
      refine pb _ _ _ h0 ?_ ?_ ?_
      · rw [hd, e.1, if_neg hu0]; split <;> omega
      · rw [hmd, e.2, if_neg hu0]; omega
      · rw [hd, e.1, if_neg hu0]
        rcases Int.lt_or_le y 0 with h | h
        · rw [neg_true h, if_neg (by omega)]; symm; exact neg_false (by omega)
        · rw [neg_false h, if_pos (by omega)]; symm; exact neg_true (by omega)
  · obtain rfl : x = (m : Int) := by omega
    refine pa _ _ (neg ((m : Int) / y)) _ _ (.inl (neg_false hx)) ?_ ?_ rfl ?_
    · rw [hd, e1]; split <;> omega
    · rw [hmd, e2]
    · rw [hd, e1, neg_false hx]
      rcases Int.lt_or_le y 0 with h | h
      · rw [neg_true h, if_neg (by omega)]; simp [neg]
      · rw [neg_false h, if_pos (by omega)]; simp [neg]
end Go.Proofs.YtkmmkobiigddkaaGreatDoor
