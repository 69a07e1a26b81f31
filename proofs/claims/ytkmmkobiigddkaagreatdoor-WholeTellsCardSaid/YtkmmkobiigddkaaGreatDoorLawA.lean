import Derived.Test.YtkmmkobiigddkaaGreatDoorProg
import Derived.Test.YtkmmkobiigddkaaGreatDoorRefH
/-! The walks of the closures of the laws, and of the examples. -/
set_option linter.unusedVariables false
set_option linter.unusedSimpArgs false
set_option maxRecDepth 100000
namespace Go.Proofs.YtkmmkobiigddkaaGreatDoor
open Go.RowKit

/-- It returns the closure K over one value that it keeps in a cell of its own. -/
def RetFn (w : World) (K : FuncId) (v : Value) (e : Ending) (w' : World) : Prop := ∃ g : Nat, e = .returned (.func (.func K) #[] #[.pointer (some ⟨g, 0, none⟩)]) ∧ w'.cell? ⟨g, 0, none⟩ = some v ∧ Ext w w'
theorem is_spec (s : ByteArray) (w : World) :
    Calls Tryz.prog 39 #[.string s] w (RetFn w 72 (.string s)) := by
  go_enter Tryz.func39, Tryz.ntmps39
  go_wp2_with fail
  go_ret
  exact ⟨_, rfl, boxN (Ext.rf _) 0, inferInstance⟩
theorem fails_spec (n : Int) (w : World) :
    Calls Tryz.prog 41 #[.int .i64 n] w (RetFn w 74 (.int .i64 n)) := by
  go_enter Tryz.func41, Tryz.ntmps41
  go_wp2_with fail
  go_ret
  exact ⟨_, rfl, boxN (Ext.rf _) 0, inferInstance⟩
theorem says_spec (n : Int) (w : World) :
    Calls Tryz.prog 32 #[.int .i64 n] w (RetFn w 68 (.int .i64 n)) := by
  go_enter Tryz.func32, Tryz.ntmps32
  go_wp2_with fail
  go_ret
  exact ⟨_, rfl, boxN (Ext.rf _) 0, inferInstance⟩
theorem stops_spec (n : Int) (w : World) :
    Calls Tryz.prog 38 #[.int .i64 n] w (RetFn w 71 (.int .i64 n)) := by
  go_enter Tryz.func38, Tryz.ntmps38
  go_wp2_with fail
  go_ret
  exact ⟨_, rfl, boxN (Ext.rf _) 0, inferInstance⟩
def RetFn2 (w : World) (K : FuncId) (u v : Value) (e : Ending) (w' : World) : Prop := ∃ g h : Nat, e = .returned (.func (.func K) #[] #[.pointer (some ⟨g, 0, none⟩), .pointer (some ⟨h, 0, none⟩)]) ∧ w'.cell? ⟨g, 0, none⟩ = some u ∧ w'.cell? ⟨h, 0, none⟩ = some v ∧ Ext w w'
theorem parts_spec1 (s t : ByteArray) (w : World) :
    Calls Tryz.prog 40 #[.string s, .string t] w (RetFn2 w 73 (.string s) (.string t)) := by
  go_enter Tryz.func40, Tryz.ntmps40
  go_wp2_with fail
  go_ret
  exact ⟨_, _, rfl, boxN (T := 29) (cs := #[.string s]) (w := w) inferInstance 0, by have h := boxN (T := 29) (cs := #[.string t]) (w := w.alloc (.cells #[.string s] 29)) (Ext.rf _) 0; have hg : (w.alloc (.cells #[.string s] 29)).heap.size = w.heap.size + 1 := (by simp only [World.alloc, Array.size_push]); rw [hg] at h; exact h, inferInstance⟩
theorem isd_spec (s : ByteArray) (g : Nat) (w : World) (hc : w.cell? ⟨g, 0, none⟩ = some (.string s)) :
    Calls Tryz.prog 72 #[.string s, .int .i64 0, .pointer (some ⟨g, 0, none⟩)] w (Ret w (.bool true)) := by
  go_enter Tryz.func72, Tryz.ntmps72
  go_wp2_with fail
  go_ret
  exact ⟨rfl, inferInstance⟩
theorem failsd_spec (n : Int) (g : Nat) (w : World) (hc : w.cell? ⟨g, 0, none⟩ = some (.int .i64 n)) :
    Calls Tryz.prog 74 #[.string ⟨#[]⟩, .int .i64 n, .pointer (some ⟨g, 0, none⟩)] w (Ret w (.bool true)) := by
  go_enter Tryz.func74, Tryz.ntmps74
  go_wp2_with fail
  go_ret
  exact ⟨rfl, inferInstance⟩
theorem saysd_spec (n : Int) (g : Nat) (w : World) (hc : w.cell? ⟨g, 0, none⟩ = some (.int .i64 n)) :
    Calls Tryz.prog 68 #[.int .i64 n, .int .i64 0, .pointer (some ⟨g, 0, none⟩)] w (Ret w (.bool true)) := by
  go_enter Tryz.func68, Tryz.ntmps68
  go_wp2_with fail
  go_ret
  exact ⟨rfl, inferInstance⟩
theorem stopsd_spec (n : Int) (g : Nat) (w : World) (hc : w.cell? ⟨g, 0, none⟩ = some (.int .i64 n)) :
    Calls Tryz.prog 71 #[.int .i64 0, .int .i64 n, .pointer (some ⟨g, 0, none⟩)] w (Ret w (.bool true)) := by
  go_enter Tryz.func71, Tryz.ntmps71
  go_wp2_with fail
  go_ret
  exact ⟨rfl, inferInstance⟩
theorem partsd_spec (s t : ByteArray) (g h : Nat) (w : World) (hc : w.cell? ⟨g, 0, none⟩ = some (.string s)) (hd : w.cell? ⟨h, 0, none⟩ = some (.string t)) :
    Calls Tryz.prog 73 #[.string s, .string t, .int .i64 0, .pointer (some ⟨g, 0, none⟩), .pointer (some ⟨h, 0, none⟩)] w (Ret w (.bool true)) := by
  go_enter Tryz.func73, Tryz.ntmps73
  go_wp2_with fail
  go_ret
  exact ⟨rfl, inferInstance⟩
/-! ### Literals -/
def goodB (l : List UInt8) : Bool := !(body l).isEmpty && decide ((body l).length ≤ 600) && (body l).all (fun c => decide (48 ≤ c.toNat) && decide (c.toNat ≤ 57)) &&
  (match body l with | c :: r => decide (c.toNat ≠ 48) || (r.isEmpty && decide (l.length = 1)) | [] => true)
def zval (l : List UInt8) : Int := if signed l then -(dval (body l) : Int) else (dval (body l) : Int)
theorem goodB_iff (l : List UInt8) : goodB l = true ↔ Good l := by
  unfold goodB
  constructor
  · intro h
    simp only [Bool.and_eq_true, Bool.not_eq_true', List.isEmpty_eq_false_iff, decide_eq_true_eq, List.all_eq_true] at h
    obtain ⟨⟨⟨h1, h2⟩, h3⟩, h4⟩ := h
    refine ⟨h1, h2, fun c hc => h3 c hc, fun c r e h48 => ?_⟩
    rw [e] at h4
    simp [h48] at h4
    exact h4
  · intro g
    simp only [Bool.and_eq_true, Bool.not_eq_true', List.isEmpty_eq_false_iff, decide_eq_true_eq, List.all_eq_true]
    refine ⟨⟨⟨g.ne, g.len⟩, fun c hc => g.dig c hc⟩, ?_⟩
    cases e : body l with
    | nil => rfl
    | cons c r =>
      by_cases h48 : c.toNat = 48
      · have := g.zero c r e h48
        simp [h48, this]
      · simp [h48]
theorem zval_itoa (z : Int) : zval (Lib.itoa z) = z := by
  unfold zval
  rw [body_itoa, signed_itoa, dval_dec]
  rcases Int.lt_or_le z 0 with h | h
  · rw [decide_eq_true h, if_pos rfl]; omega
  · rw [decide_eq_false (by omega)]; simp; omega
theorem wh_lit {l : List UInt8} (h : goodB l = true) : Wh (bs l) (zval l) := by
  obtain ⟨z, e, h2⟩ := wh_of ((goodB_iff l).1 h)
  subst e
  rw [zval_itoa]
  exact ⟨rfl, h2⟩
theorem none_lit {l : List UInt8} (h : goodB l = false) : ¬ ∃ z, Wh (bs l) z := fun k => by
  have h1 := (goodB_iff l).2 ((wh_iff (bs l)).1 k)
  rw [h] at h1; cases h1
theorem told_lit {l : List UInt8} (h : goodB l = true) {z : Int} (hz : zval l = z) : tS z = bs l ∧ tE z = 0 := by
  have := wh_lit h
  rw [hz] at this
  exact ⟨by rw [tS_ok this.2]; exact this.1.symm, tE_ok this.2⟩
theorem lit1 (f : Int → Int) {s r : List UInt8} (hs : goodB s = true) (hr : goodB r = true) (h : zval r = f (zval s)) : oneS f (bs s) = bs r ∧ oneE f (bs s) = 0 := by
  rw [(one_some f (pz_some (wh_lit hs))).1, (one_some f (pz_some (wh_lit hs))).2]
  exact told_lit hr h
theorem lit2 (f : Int → Int → Int) {s t r : List UInt8} (hs : goodB s = true) (ht : goodB t = true) (hr : goodB r = true) (h : zval r = f (zval s) (zval t)) : twoS f (bs s) (bs t) = bs r ∧ twoE f (bs s) (bs t) = 0 := by
  rw [(two_some f (pz_some (wh_lit hs)) (pz_some (wh_lit ht))).1, (two_some f (pz_some (wh_lit hs)) (pz_some (wh_lit ht))).2]
  exact told_lit hr h
end Go.Proofs.YtkmmkobiigddkaaGreatDoor
