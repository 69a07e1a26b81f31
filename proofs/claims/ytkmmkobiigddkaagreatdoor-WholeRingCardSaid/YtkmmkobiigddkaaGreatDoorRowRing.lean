/- verdigrislaw01.WholeRing returns true, without a panic, whatever its arguments are, and they read behind the call as they did; the conditions are the given statement's own: the listed package variables hold what the program's start lays in them. -/
import Derived.Test.YtkmmkobiigddkaaGreatDoorProg
import Derived.Test.YtkmmkobiigddkaaGreatDoorChecked
import Derived.Test.YtkmmkobiigddkaaGreatDoorRowD
import Derived.Test.YtkmmkobiigddkaaGreatDoorLawD
import Derived.Test.YtkmmkobiigddkaaGreatDoorTie
import Derived.Test.YtkmmkobiigddkaaGreatDoorCards
import Derived.SevenTiedAt
import Derived.Carry
/-! The statement proved: WholeRing holds of every input (its row and its card). -/
set_option linter.unusedVariables false
set_option linter.unusedSimpArgs false
set_option maxRecDepth 100000
namespace Go.Proofs.YtkmmkobiigddkaaGreatDoor
open Go.ChangeShapes Go.WideShapes Go.ChangeAt Go.RowKit Go.Joins

theorem ring_lifted (os : Os) (started : os.Started) (H : Type) (enc : TypeId × Value → H) :
    ReturnsInHanded {} Tryz.checked os 4 .any (fun w args => (Rows.wholeRingSpec.pre enc Tryz.prog Tryz.f4 [] false w args ∧ laidMetH Tryz.prog laidAll w) ∧ sizedMet enc Tryz.prog Tryz.f4 (OpenSpec.ofChange Rows.wholeRingSpec) false w args)
      (Rows.wholeRingSpec.post enc Tryz.prog Tryz.f4 false true false false) := by
  refine returnsInHanded_of_change_and (C := Tryz.checked) (X := fun w _ => laidMetH Tryz.prog laidAll w) (fun _ _ _ hh h => h.of_heap hh) own started (by kernel_rfl) Tryz.func4
    (ChangeSpec.witness_shaped (enc := enc) (C := Tryz.checked) (os := os) (X := fun w _ => laidMetH Tryz.prog laidAll w) false (World.doorLaid Tryz.prog 400 os) #[noDraft, noDraft, noDraft] 8 rfl (World.shaped_of_RefB (by kernel_rfl) (by kernel_rfl)) (by kernel_rfl) (by kernel_rfl) (by kernel_rfl) (door_met os _)) ?_
  intro W base args ds gs before hval0 hW _ _ hL _
  have hval : ∀ (j : Nat) t v, Tryz.f4.params[j]? = some t → args[j]? = some v → Value.okWide Tryz.prog W .any base t v := hval0
  have hW' := hW
  obtain ⟨p, q, hA0, hV, rfl, hfz, hnd⟩ := hW
  have hA : DataW.TrodAll enc Tryz.prog W 0 (fun _ => true) true Tryz.f4.params.toList args.toList ds p := hA0
  have hA1 := hA
  obtain ⟨rfl, rfl⟩ := trodVars_none hV
  rw [Tryz.params4] at hA hval
  obtain ⟨v0, v1, v2, d0, d1, d2, p0, p1, p2, ha, rfl, hp, h0, h1, h2⟩ := trodAll_three hA
  subst ha
  obtain ⟨b, G, gc, z, L, rfl, hG, hLx, hz⟩ := open_draft (hval 0 _ v0 rfl rfl) h0
  obtain ⟨b', G', gc', z', L', rfl, hG', hL'x, hz'⟩ := open_draft (hval 1 _ v1 rfl rfl) h1
  obtain ⟨b2, G2, gc2, z2, L2, rfl, hG2, hL2x, hz2⟩ := open_draft (hval 2 _ v2 rfl rfl) h2
  have ht := tab_of_laid hL
  have he := errs_of_laid hL
  refine (ring_walk b b' b2 G G' G2 gc gc' gc2 z z' z2 L L' L2 W hG hLx hz hG' hL'x hz' hG2 hL2x hz2).mono ?_
  rintro e W' ⟨rfl, hx⟩
  refine ⟨_, rfl, post_true laidOut (fun t h => ?_) rfl rfl hW' (by rw [List.append_nil]; exact hA1) rfl hx⟩
  rw [Tryz.params4] at h
  simp only [List.mem_cons, List.not_mem_nil, or_false] at h
  rcases h with rfl | rfl | rfl <;> exact ⟨by kernel_rfl, of_decide_eq_true (by kernel_rfl)⟩
theorem wholeRing_row : Rows.WholeRingSaid :=
  OpenClaim.holds_of_wide 4 Tryz.f4 rfl rfl rfl rfl rfl rfl rfl ⟨rfl, rfl, rfl, rfl, rfl⟩ rfl rfl rfl rfl rfl (by kernel_rfl) Tryz.func4 (by kernel_rfl)
    (of_decide_eq_true (by kernel_rfl)) (by unfold Func.isWrapper; first | (rw [if_pos (by decide +kernel)]; kernel_rfl) | (rw [if_neg (by decide +kernel)]; exact ⟨rfl, rfl⟩))
    (fun os started H enc _ => ring_lifted os started H enc)
theorem wholeRing_card : Rows.WholeRingCardSaid :=
  Claim7.holds_tied_plain_at .later [] [.data, .data, .data, .sentinel, .sentinel] true (true, "ab922cb0f423891036635c01c96852a8116860fa692cb8938653b94a5dc973a6") true
    wholeRing_row (fun _ h => by cases h) (by kernel_rfl) (fun _ h => by cases h) wholeRing_row_tie rfl ⟨rfl, rfl⟩ (by kernel_rfl) rfl
    (fun f fn hf hfn => by
      obtain rfl : f = 4 := Option.some.inj ((show Tryz.prog.funcNamed "verdigris/verdigrislaw01.WholeRing" = some 4 by kernel_rfl).symm.trans hf) |>.symm
      obtain rfl : fn = Tryz.f4 := (Option.some.inj (Tryz.func4.symm.trans hfn)).symm
      exact ⟨by kernel_rfl, fun j t ht => by
        rw [Tryz.params4] at ht
        have w1 : Tryz.prog.wantsStandIn 25 = false := by kernel_rfl
        skip
        rcases j with _ | _ | _ | j <;> simp at ht
        · subst ht; exact w1
        · subst ht; exact w1
        · subst ht; exact w1⟩)
    (by kernel_rfl)
end Go.Proofs.YtkmmkobiigddkaaGreatDoor
