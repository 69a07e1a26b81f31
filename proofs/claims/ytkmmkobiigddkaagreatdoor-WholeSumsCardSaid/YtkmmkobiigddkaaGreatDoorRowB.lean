import Derived.Test.YtkmmkobiigddkaaGreatDoorProg
import Derived.Test.YtkmmkobiigddkaaGreatDoorRowA
import Derived.Test.YtkmmkobiigddkaaGreatDoorRows
import Derived.Lib.LaidTab
import Derived.LaidMore
import Derived.LaidSub
import Derived.OpenShut
import Derived.Stop.Joined
/-! What the condition on the listed variables gives the walks. -/
set_option linter.unusedVariables false
set_option linter.unusedSimpArgs false
set_option maxRecDepth 100000
namespace Go.Proofs.YtkmmkobiigddkaaGreatDoor
open Go.ChangeShapes Go.WideShapes Go.ChangeAt Go.RowKit Go.Joins

noncomputable def laidAll : List (String × DataW Unit) := [("math/bits.deBruijn32tab", Rows.laid_math_bits_deBruijn32tab), ("math/bits.deBruijn64tab", Rows.laid_math_bits_deBruijn64tab), ("internal/strconv.uint64pow10", Rows.laid_internal_strconv_uint64pow10), ("strconv.ErrRange", Rows.laid_strconv_ErrRange), ("strconv.ErrSyntax", Rows.laid_strconv_ErrSyntax)]
theorem laid_plain {W : World} (h : laidMetH Tryz.prog laidAll W) : laidMet Tryz.prog laidAll W := by
  rwa [MakeChecks.laidMetH_plain _ _ _ (by kernel_rfl)] at h
theorem tab_of_laid {W : World} (h : laidMetH Tryz.prog laidAll W) : Tab W := by
  have h1 := (laid_plain h).filter (fun x => x.1 == "internal/strconv.uint64pow10")
  have e : (laidAll.filter fun x => x.1 == "internal/strconv.uint64pow10") = [("internal/strconv.uint64pow10", Lib.tabData .u64 Lib.pow10Tab)] := by rfl
  rw [e] at h1
  exact ⟨Lib.tabIs_of_head (n := 20) (e := 100) (g := 4) (t := 163) (by kernel_rfl) (by kernel_rfl) (by kernel_rfl) Tryz.underlying100 (by kernel_rfl) (by kernel_rfl) h1⟩
theorem errs_of_laid {W : World} (h : laidMetH Tryz.prog laidAll W) : Errs W := by
  have h1 := (laid_plain h).filter (fun x => x.1 == "strconv.ErrRange")
  have e : (laidAll.filter fun x => x.1 == "strconv.ErrRange") = [("strconv.ErrRange", Rows.laid_strconv_ErrRange)] := by rfl
  rw [e] at h1
  obtain ⟨ps, ⟨g', t', cs, fuel, p, q, hg', ht', hvar, hd, _, _⟩, _⟩ := h1
  have hg : Tryz.prog.globalNamed "strconv.ErrRange" = some 1 := by kernel_rfl
  obtain rfl := Option.some.inj (hg.symm.trans hg')
  have ht : (Tryz.prog.globals[1]?).map (·.type) = some 72 := by kernel_rfl
  obtain rfl := Option.some.inj (ht.symm.trans ht')
  clear ht ht' hg hg'
  cases fuel with
  | zero => simp [DataW.trod] at hd
  | succ n =>
    simp only [DataW.trod, Tryz.underlying72] at hd
    unfold Rows.laid_strconv_ErrRange at hd
    split at hd
    all_goals first | (simp at hd; done) | skip
    all_goals (rename_i q1 q2; first | (cases q1; done) | (exact ⟨_, _, by rw [hvar]; exact congrArg some (Array.toList_inj.1 q2)⟩))
end Go.Proofs.YtkmmkobiigddkaaGreatDoor
