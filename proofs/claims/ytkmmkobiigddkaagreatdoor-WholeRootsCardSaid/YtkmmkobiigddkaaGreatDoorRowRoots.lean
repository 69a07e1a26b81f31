/- verdigrislaw01.WholeRoots returns true, without a panic, whatever its arguments are, and they read behind the call as they did; the conditions are the given statement's own: the listed package variables hold what the program's start lays in them. -/
import Derived.Test.YtkmmkobiigddkaaGreatDoorProg
import Derived.Test.YtkmmkobiigddkaaGreatDoorChecked
import Derived.Test.YtkmmkobiigddkaaGreatDoorRowD
import Derived.Test.YtkmmkobiigddkaaGreatDoorLawF
import Derived.Test.YtkmmkobiigddkaaGreatDoorTie
import Derived.Test.YtkmmkobiigddkaaGreatDoorCards
import Derived.SevenTiedAt
import Derived.Carry
/-! The statement proved: WholeRoots holds of every input (its row and its card). -/
set_option linter.unusedVariables false
set_option linter.unusedSimpArgs false
set_option maxRecDepth 100000
namespace Go.Proofs.YtkmmkobiigddkaaGreatDoor
open Go.ChangeShapes Go.WideShapes Go.ChangeAt Go.RowKit Go.Joins

theorem roots_lifted (os : Os) (started : os.Started) (H : Type) (enc : TypeId × Value → H) :
    ReturnsInHanded {} Tryz.checked os 6 .any (fun w args => (Rows.wholeRootsSpec.pre enc Tryz.prog Tryz.f6 [] false w args ∧ laidMetH Tryz.prog laidAll w) ∧ sizedMet enc Tryz.prog Tryz.f6 (OpenSpec.ofChange Rows.wholeRootsSpec) false w args)
      (Rows.wholeRootsSpec.post enc Tryz.prog Tryz.f6 false true false false) := by
  refine returnsInHanded_of_change_and (C := Tryz.checked) (X := fun w _ => laidMetH Tryz.prog laidAll w) (fun _ _ _ hh h => h.of_heap hh) own started (by kernel_rfl) Tryz.func6
    (ChangeSpec.witness_shaped (enc := enc) (C := Tryz.checked) (os := os) (X := fun w _ => laidMetH Tryz.prog laidAll w) false (World.doorLaid Tryz.prog 400 os) #[noDraft, noDraft, .int .u8 0] 8 rfl (World.shaped_of_RefB (by kernel_rfl) (by kernel_rfl)) (by kernel_rfl) (by kernel_rfl) (by kernel_rfl) (door_met os _)) ?_
  intro W base args ds gs before hval0 hW _ _ hL _
  have hval : ∀ (j : Nat) t v, Tryz.f6.params[j]? = some t → args[j]? = some v → Value.okWide Tryz.prog W .any base t v := hval0
  have hW' := hW
  obtain ⟨p, q, hA0, hV, rfl, hfz, hnd⟩ := hW
  have hA : DataW.TrodAll enc Tryz.prog W 0 (fun _ => true) true Tryz.f6.params.toList args.toList ds p := hA0
  have hA1 := hA
  obtain ⟨rfl, rfl⟩ := trodVars_none hV
  rw [Tryz.params6] at hA hval
  obtain ⟨v0, v1, v2, d0, d1, d2, p0, p1, p2, ha, rfl, hp, h0, h1, h2⟩ := trodAll_three hA
  subst ha
  obtain ⟨b, G, gc, z, L, rfl, hG, hLx, hz⟩ := open_draft (hval 0 _ v0 rfl rfl) h0
  obtain ⟨b', G', gc', z', L', rfl, hG', hL'x, hz'⟩ := open_draft (hval 1 _ v1 rfl rfl) h1
  obtain ⟨m, rfl, rfl, rfl, wm⟩ := open_int Tryz.underlying5 (hval 2 _ v2 rfl rfl) h2
  have hm : 0 ≤ m ∧ m < 256 := by
    have h1 : IntKind.u8.min ≤ m ∧ m ≤ IntKind.u8.max := by simpa [Lit.wf] using wm
    have e1 : IntKind.u8.min = 0 := rfl
    have e2 : IntKind.u8.max = 255 := rfl
    omega
  obtain ⟨k, rfl⟩ : ∃ k : Nat, m = (k : Int) := ⟨m.toNat, by omega⟩
  have ht := tab_of_laid hL
  have he := errs_of_laid hL
  refine (roots_walk b b' G G' gc gc' z z' k L L' W hG hLx hz hG' hL'x hz' (by omega)).mono ?_
  rintro e W' ⟨rfl, hx⟩
  refine ⟨_, rfl, post_true laidOut (fun t h => ?_) rfl rfl hW' (by rw [List.append_nil]; exact hA1) rfl hx⟩
  rw [Tryz.params6] at h
  simp only [List.mem_cons, List.not_mem_nil, or_false] at h
  rcases h with rfl | rfl | rfl <;> exact ⟨by kernel_rfl, of_decide_eq_true (by kernel_rfl)⟩
theorem wholeRoots_row : Rows.WholeRootsSaid :=
  OpenClaim.holds_of_wide 6 Tryz.f6 rfl rfl rfl rfl rfl rfl rfl ⟨rfl, rfl, rfl, rfl, rfl⟩ rfl rfl rfl rfl rfl (by kernel_rfl) Tryz.func6 (by kernel_rfl)
    (of_decide_eq_true (by kernel_rfl)) (by unfold Func.isWrapper; first | (rw [if_pos (by decide +kernel)]; kernel_rfl) | (rw [if_neg (by decide +kernel)]; exact ⟨rfl, rfl⟩))
    (fun os started H enc _ => roots_lifted os started H enc)
theorem wholeRoots_card : Rows.WholeRootsCardSaid :=
  Claim7.holds_tied_plain_at .later [] [.data, .data, .data, .sentinel, .sentinel] true (true, "ab922cb0f423891036635c01c96852a8116860fa692cb8938653b94a5dc973a6") true
    wholeRoots_row (fun _ h => by cases h) (by kernel_rfl) (fun _ h => by cases h) wholeRoots_row_tie rfl ⟨rfl, rfl⟩ (by kernel_rfl) rfl
    (fun f fn hf hfn => by
      obtain rfl : f = 6 := Option.some.inj ((show Tryz.prog.funcNamed "verdigris/verdigrislaw01.WholeRoots" = some 6 by kernel_rfl).symm.trans hf) |>.symm
      obtain rfl : fn = Tryz.f6 := (Option.some.inj (Tryz.func6.symm.trans hfn)).symm
      exact ⟨by kernel_rfl, fun j t ht => by
        rw [Tryz.params6] at ht
        have w1 : Tryz.prog.wantsStandIn 25 = false := by kernel_rfl
        have w2 : Tryz.prog.wantsStandIn 5 = false := by kernel_rfl
        rcases j with _ | _ | _ | j <;> simp at ht
        · subst ht; exact w1
        · subst ht; exact w1
        · subst ht; exact w2⟩)
    (by kernel_rfl)
end Go.Proofs.YtkmmkobiigddkaaGreatDoor
