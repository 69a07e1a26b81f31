import Derived.Test.YtkmmkobiigddkaaGreatDoorProg
import Derived.Test.YtkmmkobiigddkaaGreatDoorLawC
import Derived.ProofKit
import Derived.Lib.SmallJoins
/-! The drafts among the arguments, opened. -/
set_option linter.unusedVariables false
set_option linter.unusedSimpArgs false
set_option maxRecDepth 100000
namespace Go.Proofs.YtkmmkobiigddkaaGreatDoor
open Go.ChangeShapes Go.WideShapes Go.ChangeAt Go.RowKit Go.Joins

theorem open_draft {H : Type} {enc : TypeId × Value → H} {w : World} {base : Nat} {spare : Nat → Bool} {held : Bool} {r : Reach} {b0 : Nat} {v : Value} {d : DataW H} {p : List MemPlace}
    (hv : Value.okWide Tryz.prog w r b0 25 v) (h : DataW.Trod enc Tryz.prog w base spare held 25 v d p) :
    ∃ (b : Bool) (G : Option Addr) (gc z : Nat) (L : List Nat), v = .agg #[.bool b, .slice G L.length gc, .int .u16 (z : Int)] ∧ Row w .u16 G gc L ∧ (∀ x ∈ L, x < 65536) ∧ z < 65536 := by
  obtain ⟨v0, v1, v2, y0, y1, y2, n, rfl, rfl, rfl, h0, h1, h2⟩ := open_agg3 Tryz.underlying25 (by kernel_rfl) (by kernel_rfl) hv h
  obtain ⟨a, e2, rfl, wa⟩ := DataW.trod_int Tryz.underlying23 h2
  obtain ⟨bb, e0, rfl⟩ := DataW.trod_bool Tryz.underlying4 h0
  obtain rfl : v0 = .bool bb := by simpa using e0
  obtain rfl : v2 = .int .u16 a := by simpa using e2
  have hw : ∀ a : Int, (Lit.int IntKind.u16 a).wf = true → 0 ≤ a ∧ a < 65536 := fun a h => by
    have h1 : IntKind.u16.min ≤ a ∧ a ≤ IntKind.u16.max := by simpa [Lit.wf] using h
    have e1 : IntKind.u16.min = 0 := rfl
    have e2 : IntKind.u16.max = 65535 := rfl
    omega
  have ha := hw a wa
  rcases open_ints Tryz.underlying22 Tryz.underlying23 (by kernel_rfl) h1 with ⟨hcs, hx⟩ | ⟨ad, len, cap, zs, hcs, _, hl, hm, hz, hx, hcell, hwz⟩
  · obtain rfl : v1 = .slice none 0 0 := by simpa using hcs
    refine ⟨bb, none, 0, a.toNat, [], by simp; omega, ⟨Nat.le_refl _, by omega, fun _ => rfl, fun h => by simp at h⟩, by simp, by omega⟩
  · obtain rfl : v1 = .slice (some ad) len cap := by simpa using hcs
    have hzl : len ≤ zs.length := by rw [hz]; split <;> omega
    have hlen : ((zs.take len).map Int.toNat).length = len := by rw [List.length_map, List.length_take]; omega
    unfold maxLen at hm
    have hgd : ∀ j (h : j < zs.length), zs.getD j 0 = zs[j] := fun j h => by simp [List.getD, h]
    have hat : ∀ j, j < len → 0 ≤ zs.getD j 0 ∧ zs.getD j 0 < 65536 := fun j hj => by
      rw [hgd j (by omega)]
      exact hw _ (hwz _ (List.getElem_mem _))
    refine ⟨bb, some ad, cap, a.toNat, (zs.take len).map Int.toNat, by rw [hlen]; simp; omega, ⟨by rw [hlen]; exact hl, by omega, (fun h => by cases h), fun _ => ⟨ad, rfl, fun j hj => ?_⟩⟩, fun x hx => ?_, by omega⟩
    · rw [hlen] at hj
      have h3 := hat j hj
      rw [hcell j (by omega), gn_lt _ (by rw [hlen]; exact hj), List.getElem_map, List.getElem_take]
      rw [hgd j (by omega)] at h3 ⊢
      rw [Int.toNat_of_nonneg h3.1]
    · obtain ⟨u, hu, rfl⟩ := List.mem_map.1 hx
      have := hw u (hwz u (List.mem_of_mem_take hu))
      omega
end Go.Proofs.YtkmmkobiigddkaaGreatDoor
