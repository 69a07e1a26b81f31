import Derived.Test.YtkmmkobiigddkaaGreatDoorProg
import Derived.Test.YtkmmkobiigddkaaGreatDoorApiD
import Derived.Laws.EntriesVeiled
/-! The walks of package whole's exported functions: Add, Sub, Mul. -/
set_option linter.unusedVariables false
set_option linter.unusedSimpArgs false
set_option maxRecDepth 100000
namespace Go.Proofs.YtkmmkobiigddkaaGreatDoor
open Go.RowKit

/-- The three operations, as an array of structs of one function. -/
def opsV : Value := .agg #[.func (.func 90) #[] #[], .func (.func 87) #[] #[], .func (.func 91) #[] #[]]
theorem operations_spec (w : World) : Calls Tryz.prog 58 #[] w (Ret w opsV) := by
  go_enter Tryz.func58, Tryz.ntmps58
  go_wp2_with fail
  exact bodyPost_ret (v := opsV) (by simp [results, Tryz.results58, go_sem, opsV]) rfl ⟨rfl, inferInstance⟩

theorem boxN {w W : World} {cs : Array Value} {T : TypeId} (x : Ext (w.alloc (.cells cs T)) W) (j : Nat) : W.cell? ⟨w.heap.size, j, none⟩ = cs[j]? := by
  have h1 : W.heap[w.heap.size]? = some (.cells cs T (0, 0)) := by rw [x.below.block _ (by simp)]; exact heap_alloc_new w _
  simp [World.cell?, h1]
/-- What a function of two numbers computes. -/
def Op2 (K : FuncId) (f : Int → Int → Int) : Prop := ∀ (A B : Option Addr) (c d : Nat) (x y : Int) (w : World), Num Big .u64 w A c x.natAbs → Num Big .u64 w B d y.natAbs → dl Big x.natAbs ≤ 600 → dl Big y.natAbs ≤ 600 →
  Calls Tryz.prog K #[.agg #[.bool (neg x), .slice A (dl Big x.natAbs) c], .agg #[.bool (neg y), .slice B (dl Big y.natAbs) d]] w (RetInt Big .u64 w (f x y))
def Small2 (f : Int → Int → Int) : Prop := ∀ x y : Int, dl Big x.natAbs ≤ 600 → dl Big y.natAbs ≤ 600 → dl Big (f x y).natAbs ≤ 1201
set_option maxHeartbeats 2000000 in
theorem both_ok (K : FuncId) (f : Int → Int → Int) (hK : Op2 K f) (hf : Small2 f) (eK : ∀ args w, (callFunc K args).run Tryz.prog w = .ok (.enter K args) w) (s t : ByteArray) (x y : Int) (hs : Wh s x) (hy : Wh t y) (w : World) [ht : Tab w] :
    Calls Tryz.prog 57 #[.string s, .string t, .agg #[.func (.func K) #[] #[]]] w (Ret w (.tuple #[.string (tS (f x y)), .int .i64 (tE (f x y))])) := by
  have HX0 := Lib.hid hs
  have HY0 := Lib.hid hy
  have hdx := hs.dl
  have hdy := hy.dl
  have hfd := hf x y hdx hdy
  have HK := Lib.hid hK
  obtain ⟨z, hz⟩ : ∃ z, f x y = z := ⟨_, rfl⟩
  rw [hz] at hfd ⊢
  have HZ := Lib.hid hz
  clear hs hy hK hz hf
  go_enter Tryz.func57, Tryz.ntmps57
  go_wp2_with fail
  refine (check_wh s x HX0.out _).mono ?_
  rintro e w1 ⟨rfl, hx⟩
  have HX := Lib.hid hx
  clear hx
  go_wp2_with fail
  refine (check_wh t y HY0.out _).mono ?_
  rintro e w2 ⟨rfl, hx⟩
  replace HX := Lib.hid (Ext.tr (h := HX.out) hx)
  clear hx
  go_wp2_with fail
  have q0 : w2.cell? ⟨w.heap.size, 0, none⟩ = some (.func (.func K) #[] #[]) := boxN HX.out 0
  go_region_held3 (fun w' => w'.cell? ⟨w.heap.size, 0, none⟩ = some (.func (.func K) #[] #[])) (go_keep) (first
    | (go_at_call 50; (with_reducible refine (read_spec s x HX0.out _).mono ?_); rintro e w3 ⟨A, c, rfl, hA, hx⟩; replace hx := (show Ext w2 w3 by first | exact hx.undrew | exact hx); replace HX := Lib.hid (Ext.tr (h := HX.out) hx); have HA := Lib.hid hA; clear hx hA q0; have q0 : w3.cell? ⟨w.heap.size, 0, none⟩ = some (.func (.func K) #[] #[]) := boxN HX.out 0)
    | (go_at_call 50; (with_reducible refine (read_spec t y HY0.out _).mono ?_); rintro e w4 ⟨B, d, rfl, hB, hx⟩; replace HX := Lib.hid (Ext.tr (h := HX.out) hx); replace HA := Lib.hid (HA.out.ext (x := hx)); have HB := Lib.hid hB; clear hx hB q0; have q0 : w4.cell? ⟨w.heap.size, 0, none⟩ = some (.func (.func K) #[] #[]) := boxN HX.out 0)
    | (go_at_call 43; refine (told_spec _ _ z _ HR.out (by omega)).mono ?_; rintro e w6 ⟨rfl, hx⟩; rw [told_eq]; replace HX := Lib.hid (Ext.tr (h := HX.out) hx); clear hx q0; have q0 : w6.cell? ⟨w.heap.size, 0, none⟩ = some (.func (.func K) #[] #[]) := boxN HX.out 0)
    | (go_at_fn K; refine (HK.out _ _ _ _ x y _ HA.out HB.out hdx hdy).mono ?_; rintro e w5 ⟨R, q, rfl, hR, hx⟩; rw [HZ.out] at hR ⊢; replace HX := Lib.hid (Ext.tr (h := HX.out) hx); have HR := Lib.hid hR; have ht5 := ht.to (Ext.tr (h := Ext.al _ _ _ (h := Ext.rf w)) HX.out); clear hx hR q0; have q0 : w5.cell? ⟨w.heap.size, 0, none⟩ = some (.func (.func K) #[] #[]) := boxN HX.out 0))
  go_wp2_with fail
  go_ret2
  exact ⟨rfl, Ext.tr (h := Ext.al _ _ _ (h := Ext.rf w)) HX.out⟩

set_option maxHeartbeats 2000000 in
theorem both_spec (K : FuncId) (f : Int → Int → Int) (hK : Op2 K f) (hf : Small2 f) (eK : ∀ args w, (callFunc K args).run Tryz.prog w = .ok (.enter K args) w) (s t : ByteArray) (w : World) [ht : Tab w] :
    Calls Tryz.prog 57 #[.string s, .string t, .agg #[.func (.func K) #[] #[]]] w (Ret w (.tuple #[.string (twoS f s t), .int .i64 (twoE f s t)])) := by
  rcases pz_or s with ⟨x, hx, hp⟩ | ⟨hx, hp⟩
  · rcases pz_or t with ⟨y, hy, hq⟩ | ⟨hy, hq⟩
    · rw [(two_some _ hp hq).1, (two_some _ hp hq).2]
      exact both_ok K f hK hf eK s t x y hx hy w
    · rw [(two_none2 _ s hq).1, (two_none2 _ s hq).2]
      have HX0 := Lib.hid hx
      have HY0 := Lib.hid hy
      clear hx hp hy hq hK hf
      go_enter Tryz.func57, Tryz.ntmps57
      go_wp2_with fail
      refine (check_wh s x HX0.out _).mono ?_
      rintro e w1 ⟨rfl, hx⟩
      have HX := Lib.hid hx
      clear hx
      go_wp2_with fail
      refine (check_none t HY0.out _).mono ?_
      rintro e w2 ⟨rfl, hx⟩
      replace HX := Lib.hid (Ext.tr (h := HX.out) hx)
      clear hx
      go_wp2_with fail
      go_ret2
      exact ⟨rfl, Ext.tr (h := Ext.al _ _ _ (h := Ext.rf w)) HX.out⟩
  · rw [(two_none1 _ t hp).1, (two_none1 _ t hp).2]
    have HX0 := Lib.hid hx
    clear hx hp hK hf
    go_enter Tryz.func57, Tryz.ntmps57
    go_wp2_with fail
    refine (check_none s HX0.out _).mono ?_
    rintro e w1 ⟨rfl, hx⟩
    have HX := Lib.hid hx
    clear hx
    go_wp2_with fail
    go_ret2
    exact ⟨rfl, Ext.tr (h := Ext.al _ _ _ (h := Ext.rf w)) HX.out⟩
theorem add_small : Small2 (· + ·) := fun x y hx hy => by
  have h1 : (x + y).natAbs ≤ x.natAbs + y.natAbs := Int.natAbs_add_le x y
  have := dl_mono big2 h1
  have := dl_add big2 x.natAbs y.natAbs
  show dl Big (x + y).natAbs ≤ 1201
  omega
theorem sub_small : Small2 (· - ·) := fun x y hx hy => by
  have h1 : (x - y).natAbs ≤ x.natAbs + y.natAbs := by omega
  have := dl_mono big2 h1
  have := dl_add big2 x.natAbs y.natAbs
  show dl Big (x - y).natAbs ≤ 1201
  omega
theorem mul_small : Small2 (· * ·) := fun x y hx hy => by
  have := dl_mul big2 x.natAbs y.natAbs
  show dl Big (x * y).natAbs ≤ 1201
  rw [Int.natAbs_mul]; omega
theorem opsV_at0 (w : World) : (Instr.index 89 opsV (.int .i64 0)).run Tryz.prog w = .ok (.agg #[.func (.func 90) #[] #[]]) w := by kernel_rfl
theorem opsV_at1 (w : World) : (Instr.index 89 opsV (.int .i64 1)).run Tryz.prog w = .ok (.agg #[.func (.func 87) #[] #[]]) w := by kernel_rfl
theorem opsV_at2 (w : World) : (Instr.index 89 opsV (.int .i64 2)).run Tryz.prog w = .ok (.agg #[.func (.func 91) #[] #[]]) w := by kernel_rfl
set_option maxHeartbeats 1000000 in
theorem addw_spec (s t : ByteArray) (w : World) [ht : Tab w] :
    Calls Tryz.prog 22 #[.string s, .string t] w (Ret w (.tuple #[.string (twoS (· + ·) s t), .int .i64 (twoE (· + ·) s t)])) := by
  have hb := both_spec 90 (· + ·) (fun A B c d x y w ha hb hm hn => sum_spec A B c d x y w ha hb (by omega) (by omega)) add_small (enters_of Tryz.func90 (by kernel_rfl) rfl) s t
  have HB := Lib.hid hb
  have hi := opsV_at0
  clear hb
  go_enter Tryz.func22, Tryz.ntmps22
  go_wp2_with fail
  refine (operations_spec _).mono ?_
  rintro e w1 ⟨rfl, hx⟩
  have HX := Lib.hid hx
  have ht1 := ht.to hx
  clear hx
  go_wp2_with fail
  refine (HB.out _).mono ?_
  rintro e w2 ⟨rfl, hx⟩
  replace HX := Lib.hid (Ext.tr (h := HX.out) hx)
  clear hx
  go_wp2_with fail
  go_ret2
  exact ⟨rfl, HX.out⟩
set_option maxHeartbeats 1000000 in
theorem subw_spec (s t : ByteArray) (w : World) [ht : Tab w] :
    Calls Tryz.prog 23 #[.string s, .string t] w (Ret w (.tuple #[.string (twoS (· - ·) s t), .int .i64 (twoE (· - ·) s t)])) := by
  have hb := both_spec 87 (· - ·) (fun A B c d x y w ha hb hm hn => less_spec A B c d x y w ha hb (by omega) (by omega)) sub_small (enters_of Tryz.func87 (by kernel_rfl) rfl) s t
  have HB := Lib.hid hb
  have hi := opsV_at1
  clear hb
  go_enter Tryz.func23, Tryz.ntmps23
  go_wp2_with fail
  refine (operations_spec _).mono ?_
  rintro e w1 ⟨rfl, hx⟩
  have HX := Lib.hid hx
  have ht1 := ht.to hx
  clear hx
  go_wp2_with fail
  refine (HB.out _).mono ?_
  rintro e w2 ⟨rfl, hx⟩
  replace HX := Lib.hid (Ext.tr (h := HX.out) hx)
  clear hx
  go_wp2_with fail
  go_ret2
  exact ⟨rfl, HX.out⟩
set_option maxHeartbeats 1000000 in
theorem mulw_spec (s t : ByteArray) (w : World) [ht : Tab w] :
    Calls Tryz.prog 24 #[.string s, .string t] w (Ret w (.tuple #[.string (twoS (· * ·) s t), .int .i64 (twoE (· * ·) s t)])) := by
  have hb := both_spec 91 (· * ·) (fun A B c d x y w ha hb hm hn => product_spec A B c d x y w ha hb (by omega) (by omega)) mul_small (enters_of Tryz.func91 (by kernel_rfl) rfl) s t
  have HB := Lib.hid hb
  have hi := opsV_at2
  clear hb
  go_enter Tryz.func24, Tryz.ntmps24
  go_wp2_with fail
  refine (operations_spec _).mono ?_
  rintro e w1 ⟨rfl, hx⟩
  have HX := Lib.hid hx
  have ht1 := ht.to hx
  clear hx
  go_wp2_with fail
  refine (HB.out _).mono ?_
  rintro e w2 ⟨rfl, hx⟩
  replace HX := Lib.hid (Ext.tr (h := HX.out) hx)
  clear hx
  go_wp2_with fail
  go_ret2
  exact ⟨rfl, HX.out⟩
end Go.Proofs.YtkmmkobiigddkaaGreatDoor
