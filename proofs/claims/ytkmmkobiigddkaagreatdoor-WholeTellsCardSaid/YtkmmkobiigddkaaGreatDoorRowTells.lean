/- verdigrislaw01.WholeTells returns true, without a panic, whatever its arguments are, and they read behind the call as they did; the conditions are the given statement's own: the listed package variables hold what the program's start lays in them. -/
import Derived.Test.YtkmmkobiigddkaaGreatDoorProg
import Derived.Test.YtkmmkobiigddkaaGreatDoorChecked
import Derived.Test.YtkmmkobiigddkaaGreatDoorRowD
import Derived.Test.YtkmmkobiigddkaaGreatDoorRowF
import Derived.Test.YtkmmkobiigddkaaGreatDoorLawH
import Derived.Test.YtkmmkobiigddkaaGreatDoorTie
import Derived.Test.YtkmmkobiigddkaaGreatDoorCards
import Derived.SevenTiedAt
import Derived.Carry
/-! The statement proved: WholeTells holds of every input (its row and its card). -/
set_option linter.unusedVariables false
set_option linter.unusedSimpArgs false
set_option maxRecDepth 100000
namespace Go.Proofs.YtkmmkobiigddkaaGreatDoor
open Go.ChangeShapes Go.WideShapes Go.ChangeAt Go.RowKit Go.Joins

theorem tells_lifted (os : Os) (started : os.Started) (H : Type) (enc : TypeId × Value → H) :
    ReturnsInHanded {} Tryz.checked os 3 .any (fun w args => (Rows.wholeTellsSpec.pre enc Tryz.prog Tryz.f3 [] false w args ∧ laidMetH Tryz.prog laidAll w) ∧ sizedMet enc Tryz.prog Tryz.f3 (OpenSpec.ofChange Rows.wholeTellsSpec) false w args)
      (Rows.wholeTellsSpec.post enc Tryz.prog Tryz.f3 false true false false) := by
  refine returnsInHanded_of_change_and (C := Tryz.checked) (X := fun w _ => laidMetH Tryz.prog laidAll w) (fun _ _ _ hh h => h.of_heap hh) own started (by kernel_rfl) Tryz.func3
    (ChangeSpec.witness_shaped (enc := enc) (C := Tryz.checked) (os := os) (X := fun w _ => laidMetH Tryz.prog laidAll w) false (World.doorLaid Tryz.prog 400 os) #[.agg #[.string ⟨#[]⟩, .string ⟨#[]⟩, .bool false, .slice none 0 0, .int .u16 0, .bool false, .slice none 0 0, .int .u16 0], .int .i64 0] 8 rfl (World.shaped_of_RefB (by kernel_rfl) (by kernel_rfl)) (by kernel_rfl) (by kernel_rfl) (by kernel_rfl) (door_met os _)) ?_
  intro W base args ds gs before hval0 hW _ _ hL _
  have hval : ∀ (j : Nat) t v, Tryz.f3.params[j]? = some t → args[j]? = some v → Value.okWide Tryz.prog W .any base t v := hval0
  have hW' := hW
  obtain ⟨p, q, hA0, hV, rfl, hfz, hnd⟩ := hW
  have hA : DataW.TrodAll enc Tryz.prog W 0 (fun _ => true) true Tryz.f3.params.toList args.toList ds p := hA0
  have hA1 := hA
  obtain ⟨rfl, rfl⟩ := trodVars_none hV
  rw [Tryz.params3] at hA hval
  obtain ⟨v0, v1, d0, d1, p0, p1, ha, rfl, hp, h0, h1⟩ := trodAll_two hA
  subst ha
  obtain ⟨A, B, b, b', G, G', gc, gc', z, z', L, L', rfl, hsA, hsB, hG, hLx, hz, hG', hLx', hz'⟩ := open_two (hval 0 _ v0 rfl rfl) h0
  obtain ⟨m, rfl, rfl, rfl, wm⟩ := open_int Tryz.underlying3 (hval 1 _ v1 rfl rfl) h1
  have hm : -9223372036854775808 ≤ m ∧ m ≤ 9223372036854775807 := by
    have h1 : IntKind.i64.min ≤ m ∧ m ≤ IntKind.i64.max := by simpa [Lit.wf] using wm
    have e1 : IntKind.i64.min = -9223372036854775808 := rfl
    have e2 : IntKind.i64.max = 9223372036854775807 := rfl
    omega
  have ht := tab_of_laid hL
  have he := errs_of_laid hL
  refine (tells_walk A B b b' G G' gc gc' z z' L L' m W hsA hsB hG hLx hz hG' hLx' hz' hm.1 hm.2).mono ?_
  rintro e W' ⟨rfl, hx⟩
  refine ⟨_, rfl, post_true laidOut (fun t h => ?_) rfl rfl hW' (by rw [List.append_nil]; exact hA1) rfl hx⟩
  rw [Tryz.params3] at h
  simp only [List.mem_cons, List.not_mem_nil, or_false] at h
  rcases h with rfl | rfl <;> exact ⟨by kernel_rfl, of_decide_eq_true (by kernel_rfl)⟩
theorem wholeTells_row : Rows.WholeTellsSaid :=
  OpenClaim.holds_of_wide 3 Tryz.f3 rfl rfl rfl rfl rfl rfl rfl ⟨rfl, rfl, rfl, rfl, rfl⟩ rfl rfl rfl rfl rfl (by kernel_rfl) Tryz.func3 (by kernel_rfl)
    (of_decide_eq_true (by kernel_rfl)) (by unfold Func.isWrapper; first | (rw [if_pos (by decide +kernel)]; kernel_rfl) | (rw [if_neg (by decide +kernel)]; exact ⟨rfl, rfl⟩))
    (fun os started H enc _ => tells_lifted os started H enc)
theorem wholeTells_card : Rows.WholeTellsCardSaid :=
  Claim7.holds_tied_plain_at .later [] [.data, .data, .data, .sentinel, .sentinel] true (true, "ab922cb0f423891036635c01c96852a8116860fa692cb8938653b94a5dc973a6") true
    wholeTells_row (fun _ h => by cases h) (by kernel_rfl) (fun _ h => by cases h) wholeTells_row_tie rfl ⟨rfl, rfl⟩ (by kernel_rfl) rfl
    (fun f fn hf hfn => by
      obtain rfl : f = 3 := Option.some.inj ((show Tryz.prog.funcNamed "verdigris/verdigrislaw01.WholeTells" = some 3 by kernel_rfl).symm.trans hf) |>.symm
      obtain rfl : fn = Tryz.f3 := (Option.some.inj (Tryz.func3.symm.trans hfn)).symm
      exact ⟨by kernel_rfl, fun j t ht => by
        rw [Tryz.params3] at ht
        have w1 : Tryz.prog.wantsStandIn 27 = false := by kernel_rfl
        have w2 : Tryz.prog.wantsStandIn 3 = false := by kernel_rfl
        rcases j with _ | _ | j <;> simp at ht
        · subst ht; exact w1
        · subst ht; exact w2⟩)
    (by kernel_rfl)
end Go.Proofs.YtkmmkobiigddkaaGreatDoor
