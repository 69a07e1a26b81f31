import Derived.Test.YtkmmkobiigddkaaGreatDoorProg
import Derived.Test.YtkmmkobiigddkaaGreatDoorRowA
import Derived.ChangeMaps5
/-! The two texts and the two drafts among the arguments, opened. -/
set_option linter.unusedVariables false
set_option linter.unusedSimpArgs false
set_option maxRecDepth 100000
namespace Go.Proofs.YtkmmkobiigddkaaGreatDoor
open Go.ChangeShapes Go.WideShapes Go.ChangeAt Go.RowKit Go.Joins Go.Deep

theorem array8 {α : Type} {cs : Array α} (h : cs.size = 8) : ∃ c0 c1 c2 c3 c4 c5 c6 c7, cs = #[c0, c1, c2, c3, c4, c5, c6, c7] := by
  obtain ⟨l⟩ := cs
  match l, h with
  | [c0, c1, c2, c3, c4, c5, c6, c7], _ => exact ⟨c0, c1, c2, c3, c4, c5, c6, c7, rfl⟩
theorem draft_cells {H : Type} {enc : TypeId × Value → H} {w : World} {base : Nat} {spare : Nat → Bool} {held : Bool} {n : Nat} {v0 v1 v2 : Value} {y : DataW H × List MemPlace}
    (h : DataW.trod enc Tryz.prog w base spare held n 25 [v0, v1, v2] = some y) :
    ∃ (b : Bool) (G : Option Addr) (gc z : Nat) (L : List Nat), v0 = .bool b ∧ v1 = .slice G L.length gc ∧ v2 = .int .u16 (z : Int) ∧ Row w .u16 G gc L ∧ (∀ x ∈ L, x < 65536) ∧ z < 65536 := by
  obtain ⟨y0, y1, y2, m, hx, _, h0, h1, h2⟩ := trod_struct3 Tryz.underlying25 h
  have e0 : Tryz.prog.cellsOf 4 = 1 := by kernel_rfl
  have e1 : Tryz.prog.cellsOf 22 = 1 := by kernel_rfl
  have e2 : Tryz.prog.cellsOf 23 = 1 := by kernel_rfl
  simp only [e0, e1, e2, List.drop_zero, List.drop_succ_cons, List.take_succ_cons, List.take_zero] at h0 h1 h2
  obtain ⟨a, e2, rfl, wa⟩ := DataW.trod_int Tryz.underlying23 h2
  obtain ⟨bb, e0, rfl⟩ := DataW.trod_bool Tryz.underlying4 h0
  obtain rfl : v0 = .bool bb := by simpa using e0
  obtain rfl : v2 = .int .u16 a := by simpa using e2
  have hw : ∀ a : Int, (Lit.int IntKind.u16 a).wf = true → 0 ≤ a ∧ a < 65536 := fun a h => by
    have h1 : IntKind.u16.min ≤ a ∧ a ≤ IntKind.u16.max := by simpa [Lit.wf] using h
    have e1 : IntKind.u16.min = 0 := rfl
    have e2 : IntKind.u16.max = 65535 := rfl
    omega
  have ha := hw a wa
  rcases open_ints Tryz.underlying22 Tryz.underlying23 (by kernel_rfl) h1 with ⟨hcs, hx⟩ | ⟨ad, len, cap, zs, hcs, _, hl, hm, hz, hx, hcell, hwz⟩
  · obtain rfl : v1 = .slice none 0 0 := by simpa using hcs
    refine ⟨bb, none, 0, a.toNat, [], rfl, rfl, by simp; omega, ⟨Nat.le_refl _, by omega, fun _ => rfl, fun h => by simp at h⟩, by simp, by omega⟩
  · obtain rfl : v1 = .slice (some ad) len cap := by simpa using hcs
    have hzl : len ≤ zs.length := by rw [hz]; split <;> omega
    have hlen : ((zs.take len).map Int.toNat).length = len := by rw [List.length_map, List.length_take]; omega
    unfold maxLen at hm
    have hgd : ∀ j (h : j < zs.length), zs.getD j 0 = zs[j] := fun j h => by simp [List.getD, h]
    have hat : ∀ j, j < len → 0 ≤ zs.getD j 0 ∧ zs.getD j 0 < 65536 := fun j hj => by
      rw [hgd j (by omega)]
      exact hw _ (hwz _ (List.getElem_mem _))
    refine ⟨bb, some ad, cap, a.toNat, (zs.take len).map Int.toNat, rfl, by rw [hlen], by simp; omega, ⟨by rw [hlen]; exact hl, by omega, (fun h => by cases h), fun _ => ⟨ad, rfl, fun j hj => ?_⟩⟩, fun x hx => ?_, by omega⟩
    · rw [hlen] at hj
      have h3 := hat j hj
      rw [hcell j (by omega), gn_lt _ (by rw [hlen]; exact hj), List.getElem_map, List.getElem_take]
      rw [hgd j (by omega)] at h3 ⊢
      rw [Int.toNat_of_nonneg h3.1]
    · obtain ⟨u, hu, rfl⟩ := List.mem_map.1 hx
      have := hw u (hwz u (List.mem_of_mem_take hu))
      omega
theorem open_two {H : Type} {enc : TypeId × Value → H} {w : World} {base : Nat} {spare : Nat → Bool} {held : Bool} {r : Reach} {b0 : Nat} {v : Value} {d : DataW H} {p : List MemPlace}
    (hv : Value.okWide Tryz.prog w r b0 27 v) (h : DataW.Trod enc Tryz.prog w base spare held 27 v d p) :
    ∃ (A B : ByteArray) (b b' : Bool) (G G' : Option Addr) (gc gc' z z' : Nat) (L L' : List Nat), v = .agg #[.string A, .string B, .bool b, .slice G L.length gc, .int .u16 (z : Int), .bool b', .slice G' L'.length gc', .int .u16 (z' : Int)] ∧
      A.size ≤ 9223372036854775807 ∧ B.size ≤ 9223372036854775807 ∧ Row w .u16 G gc L ∧ (∀ x ∈ L, x < 65536) ∧ z < 65536 ∧ Row w .u16 G' gc' L' ∧ (∀ x ∈ L', x < 65536) ∧ z' < 65536 := by
  obtain ⟨cs, rfl, hsz⟩ := okWide_struct Tryz.underlying27 hv
  obtain ⟨c0, c1, c2, c3, c4, c5, c6, c7, rfl⟩ := array8 (hsz.trans (by kernel_rfl))
  obtain ⟨fuel, hf⟩ := h
  obtain ⟨y0, y1, y2, y3, n, hx, _, h0, h1, h2, h3⟩ := trod_struct4 Tryz.underlying27 hf
  have e0 : Tryz.prog.cellsOf 9 = 1 := by kernel_rfl
  have e1 : Tryz.prog.cellsOf 25 = 3 := by kernel_rfl
  simp only [e0, e1, Value.cells, List.drop_zero, List.drop_succ_cons, List.take_succ_cons, List.take_zero] at h0 h1 h2 h3
  obtain ⟨A, eA, _, hA⟩ := DataW.trod_string Tryz.underlying9 h0
  obtain ⟨B, eB, _, hB⟩ := DataW.trod_string Tryz.underlying9 h1
  obtain rfl : c0 = .string A := by simpa using eA
  obtain rfl : c1 = .string B := by simpa using eB
  obtain ⟨b, G, gc, z, L, rfl, rfl, rfl, hG, hL, hz⟩ := draft_cells h2
  obtain ⟨b', G', gc', z', L', rfl, rfl, rfl, hG', hL', hz'⟩ := draft_cells h3
  unfold maxLen at hA hB
  exact ⟨A, B, b, b', G, G', gc, gc', z, z', L, L', rfl, by omega, by omega, hG, hL, hz, hG', hL', hz'⟩
end Go.Proofs.YtkmmkobiigddkaaGreatDoor
