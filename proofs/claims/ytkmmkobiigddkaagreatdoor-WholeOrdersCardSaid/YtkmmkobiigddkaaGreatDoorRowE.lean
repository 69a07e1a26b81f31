/- verdigrislaw01.WholeOrders returns true, without a panic, whatever its arguments are, and they read behind the call as they did; the conditions are the given statement's own: the listed package variables hold what the program's start lays in them. -/
import Derived.Test.YtkmmkobiigddkaaGreatDoorRowD
import Derived.Test.YtkmmkobiigddkaaGreatDoorTie
import Derived.Test.YtkmmkobiigddkaaGreatDoorCards
import Derived.SevenTiedAt
/-! The card of WholeOrders. -/
set_option maxRecDepth 100000
namespace Go.Proofs.YtkmmkobiigddkaaGreatDoor
open Go

theorem wholeOrders_card : Rows.WholeOrdersCardSaid :=
  Claim7.holds_tied_plain_at .later [] [.data, .data, .data, .sentinel, .sentinel] true (true, "ab922cb0f423891036635c01c96852a8116860fa692cb8938653b94a5dc973a6") true
    orders_holds (fun _ h => by cases h) (by kernel_rfl) (fun _ h => by cases h) wholeOrders_row_tie rfl ⟨rfl, rfl⟩ (by kernel_rfl) rfl
    (fun f fn hf hfn => by
      obtain rfl : f = 7 := Option.some.inj ((show Tryz.prog.funcNamed "verdigris/verdigrislaw01.WholeOrders" = some 7 by kernel_rfl).symm.trans hf) |>.symm
      obtain rfl : fn = Tryz.f7 := (Option.some.inj (Tryz.func7.symm.trans hfn)).symm
      exact ⟨by kernel_rfl, fun j t ht => by
        rw [Tryz.params7] at ht
        have w1 : Tryz.prog.wantsStandIn 25 = false := by kernel_rfl
        have w2 : Tryz.prog.wantsStandIn 3 = false := by kernel_rfl
        rcases j with _ | _ | _ | _ | j <;> simp at ht
        · subst ht; exact w1
        · subst ht; exact w1
        · subst ht; exact w2
        · subst ht; exact w2⟩)
    (by kernel_rfl)
end Go.Proofs.YtkmmkobiigddkaaGreatDoor
