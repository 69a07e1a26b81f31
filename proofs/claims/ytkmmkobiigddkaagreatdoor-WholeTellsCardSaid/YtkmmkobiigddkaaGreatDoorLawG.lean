import Derived.Test.YtkmmkobiigddkaaGreatDoorProg
import Derived.Test.YtkmmkobiigddkaaGreatDoorLawB
import Derived.Test.YtkmmkobiigddkaaGreatDoorRefK
/-! The walk of pairs: the pairs of numbers that the comparisons with the reference go over. -/
set_option linter.unusedVariables false
set_option linter.unusedSimpArgs false
set_option maxRecDepth 100000
namespace Go.Proofs.YtkmmkobiigddkaaGreatDoor
open Go.RowKit

/-- A text cut to at most 620 octets. -/
def cut620 (s : ByteArray) : ByteArray := s.extract 0 (min s.size 620)
theorem cut620_size (s : ByteArray) : (cut620 s).size ≤ 620 := by unfold cut620; rw [ByteArray.size_extract]; omega
/-- The eight texts of the four pairs. -/
def eight (a b x y : ByteArray) : Array Value := #[.string a, .string b, .string x, .string y, .string a, .string y, .string y, .string b]
def RetPairs (w : World) (a b x y : ByteArray) (e : Ending) (w' : World) : Prop :=
  ∃ g, e = .returned (.slice (some ⟨g, 0, none⟩) 4 4) ∧ Ext w w' ∧ w.heap.size ≤ g ∧ w'.heap[g]? = some (.cells (eight a b x y) 33 (0, 0))
/-- The variable that holds the two texts and the two drafts. -/
def twoC (A B : ByteArray) (b b' : Bool) (G G' : Option Addr) (gc gc' l l' : Nat) (z z' : Int) : Array Value :=
  #[.string A, .string B, .bool b, .slice G l gc, .int .u16 z, .bool b', .slice G' l' gc', .int .u16 z']
theorem boxTwo {w W : World} {A B : ByteArray} {b b' : Bool} {G G' : Option Addr} {gc gc' l l' : Nat} {z z' : Int} {T : TypeId} (x : Ext (w.alloc (.cells #[.string A, .string B, .bool b, .slice G l gc, .int .u16 z, .bool b', .slice G' l' gc', .int .u16 z'] T)) W) :
    (W.cell? ⟨w.heap.size, 0, none⟩ = some (.string A) ∧ W.cell? ⟨w.heap.size, 1, none⟩ = some (.string B)) ∧ (W.cell? ⟨w.heap.size, 2, none⟩ = some (.bool b) ∧ W.cell? ⟨w.heap.size, 3, none⟩ = some (.slice G l gc) ∧ W.cell? ⟨w.heap.size, 4, none⟩ = some (.int .u16 z)) ∧
    (W.cell? ⟨w.heap.size, 5, none⟩ = some (.bool b') ∧ W.cell? ⟨w.heap.size, 6, none⟩ = some (.slice G' l' gc') ∧ W.cell? ⟨w.heap.size, 7, none⟩ = some (.int .u16 z')) :=
  ⟨⟨boxN x 0, boxN x 1⟩, ⟨boxN x 2, boxN x 3, boxN x 4⟩, boxN x 5, boxN x 6, boxN x 7⟩
set_option maxHeartbeats 4000000 in
theorem pairs_spec (A B : ByteArray) (b b' : Bool) (G G' : Option Addr) (gc gc' z z' : Nat) (L L' : List Nat) (w : World) (hA : A.size ≤ 9223372036854775807) (hB : B.size ≤ 9223372036854775807)
    (hG : Row w .u16 G gc L) (hL : ∀ x ∈ L, x < 65536) (hz : z < 65536) (hG' : Row w .u16 G' gc' L') (hL' : ∀ x ∈ L', x < 65536) (hz' : z' < 65536) :
    Calls Tryz.prog 12 #[.agg #[.string A, .string B, .bool b, .slice G L.length gc, .int .u16 (z : Int), .bool b', .slice G' L'.length gc', .int .u16 (z' : Int)]] w (RetPairs w (cut620 A) (cut620 B) (txt (dz b L z)) (txt (dz b' L' z'))) := by
  obtain ⟨l, hl⟩ : ∃ l, min A.size 620 = l := ⟨_, rfl⟩
  obtain ⟨m, hm⟩ : ∃ l, min B.size 620 = l := ⟨_, rfl⟩
  have hlA : l ≤ A.size := by omega
  have hmB : m ≤ B.size := by omega
  have hmn := @min_two
  have hmin : Builtin.min2 (.int .i64 (A.size : Int)) (.int .i64 620) = pure (.int .i64 (l : Int)) := by
    simp only [Builtin.min2, gt_iff_lt]; congr 2; split <;> omega
  have hmin' : Builtin.min2 (.int .i64 (B.size : Int)) (.int .i64 620) = pure (.int .i64 (m : Int)) := by
    simp only [Builtin.min2, gt_iff_lt]; congr 2; split <;> omega
  obtain ⟨SA, hSA⟩ : ∃ s, A.extract 0 l = s := ⟨_, rfl⟩
  obtain ⟨SB, hSB⟩ : ∃ s, B.extract 0 m = s := ⟨_, rfl⟩
  have hcA : cut620 A = SA := by unfold cut620; rw [hl]; exact hSA
  have hcB : cut620 B = SB := by unfold cut620; rw [hm]; exact hSB
  rw [hcA, hcB]
  obtain ⟨SX, hSX⟩ : ∃ s, txt (dz b L z) = s := ⟨_, rfl⟩
  obtain ⟨SY, hSY⟩ : ∃ s, txt (dz b' L' z') = s := ⟨_, rfl⟩
  rw [hSX, hSY]
  obtain ⟨zI, hzI⟩ : ∃ x : Int, (z : Int) = x := ⟨_, rfl⟩
  obtain ⟨yI, hyI⟩ : ∃ x : Int, (z' : Int) = x := ⟨_, rfl⟩
  rw [hzI, hyI]
  have CX := Lib.hid (fun (w : World) (hr : Row w .u16 G gc L) => (by have h := whole4_spec b G gc z L w hr hL hz; rw [hSX, hzI] at h; exact h : Calls _ _ _ w (Ret w (.string SX))))
  have CY := Lib.hid (fun (w : World) (hr : Row w .u16 G' gc' L') => (by have h := whole4_spec b' G' gc' z' L' w hr hL' hz'; rw [hSY, hyI] at h; exact h : Calls _ _ _ w (Ret w (.string SY))))
  have HG := Lib.hid hG
  have HG' := Lib.hid hG'
  have HSA := Lib.hid hSA
  have HSB := Lib.hid hSB
  obtain ⟨⟨q0, q1⟩, ⟨q2, q3, q4⟩, q5, q6, q7⟩ := boxTwo (Ext.rf (w.alloc (.cells #[.string A, .string B, .bool b, .slice G L.length gc, .int .u16 zI, .bool b', .slice G' L'.length gc', .int .u16 yI] 27)))
  have HX := Lib.hid (Ext.rf (w.alloc (.cells #[.string A, .string B, .bool b, .slice G L.length gc, .int .u16 zI, .bool b', .slice G' L'.length gc', .int .u16 yI] 27)))
  clear hl hm hcA hcB hSX hSY hG hG' hL hL' hz hz' hzI hyI hSA hSB
  go_enter Tryz.func12, Tryz.ntmps12
  go_wp2_with fail
  go_cut [3, 4] (fun x y wx => Hid (x = .string SA ∧ y = .string SB) ∧ Hid (Ext (w.alloc (.cells #[.string A, .string B, .bool b, .slice G L.length gc, .int .u16 zI, .bool b', .slice G' L'.length gc', .int .u16 yI] 27)) wx))
  case first =>
    go_region
    all_goals
      go_wp2_with fail
      go_meet
      exact ⟨Lib.hid ⟨by rw [← HSA.out], by rw [← HSB.out]⟩, Lib.hid inferInstance⟩
  case rest =>
    obtain ⟨h12, HX⟩ := hcut
    obtain ⟨rfl, rfl⟩ := h12.out
    clear h12 q0 q1 q2 q3 q4 q5 q6 q7
    obtain ⟨⟨q0, q1⟩, ⟨q2, q3, q4⟩, q5, q6, q7⟩ := boxTwo HX.out
    go_wp2_with fail
    go_cut [5, 6] (fun x y wx => Hid (x = .string SX ∧ y = .string SY) ∧ Hid (Ext (w.alloc (.cells #[.string A, .string B, .bool b, .slice G L.length gc, .int .u16 zI, .bool b', .slice G' L'.length gc', .int .u16 yI] 27)) wx))
    case first =>
      go_region_held3 (fun w' => (w'.cell? ⟨w.heap.size, 2, none⟩ = some (.bool b) ∧ w'.cell? ⟨w.heap.size, 3, none⟩ = some (.slice G L.length gc) ∧ w'.cell? ⟨w.heap.size, 4, none⟩ = some (.int .u16 zI)) ∧ (w'.cell? ⟨w.heap.size, 5, none⟩ = some (.bool b') ∧ w'.cell? ⟨w.heap.size, 6, none⟩ = some (.slice G' L'.length gc') ∧ w'.cell? ⟨w.heap.size, 7, none⟩ = some (.int .u16 yI))) (go_keep) (first
        | (go_at_call 28; (with_reducible refine (CX.out _ (by exact (HG.out.ext (x := Ext.tr (h := Ext.al _ _ _ (h := Ext.rf w)) HX.out)).ext)).mono ?_); rintro e w5 ⟨rfl, hx⟩; (try (replace hx := hx.undrew)); replace HX := Lib.hid (Ext.tr (h := HX.out) hx); clear hx q0 q1 q2 q3 q4 q5 q6 q7; obtain ⟨⟨q0, q1⟩, ⟨q2, q3, q4⟩, q5, q6, q7⟩ := boxTwo HX.out)
        | (go_at_call 28; (with_reducible refine (CY.out _ (by exact (HG'.out.ext (x := Ext.tr (h := Ext.al _ _ _ (h := Ext.rf w)) HX.out)).ext)).mono ?_); rintro e w5 ⟨rfl, hx⟩; (try (replace hx := hx.undrew)); replace HX := Lib.hid (Ext.tr (h := HX.out) hx); clear hx q0 q1 q2 q3 q4 q5 q6 q7; obtain ⟨⟨q0, q1⟩, ⟨q2, q3, q4⟩, q5, q6, q7⟩ := boxTwo HX.out))
      all_goals
        go_wp2_with fail
        go_meet
        exact ⟨Lib.hid ⟨rfl, rfl⟩, HX.out⟩
    case rest =>
      obtain ⟨h12, HX2⟩ := hcut
      obtain ⟨rfl, rfl⟩ := h12.out
      clear h12 q0 q1 q2 q3 q4 q5 q6 q7
      go_wp2_with fail
      go_ret
      have hx2 : Ext w wc := Ext.tr (h := Ext.al _ _ _ (h := Ext.rf w)) HX2.out
      exact ⟨_, rfl, inferInstance, hx2.below.size, heap_alloc_new _ _⟩
end Go.Proofs.YtkmmkobiigddkaaGreatDoor
