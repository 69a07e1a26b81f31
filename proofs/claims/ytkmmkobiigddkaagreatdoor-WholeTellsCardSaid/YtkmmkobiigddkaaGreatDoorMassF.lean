import Derived.Test.YtkmmkobiigddkaaGreatDoorProg
import Derived.Test.YtkmmkobiigddkaaGreatDoorMassE
/-! The walks of package whole's magnitudes: one; what Cmp's answer means. -/
set_option linter.unusedVariables false
set_option linter.unusedSimpArgs false
set_option maxRecDepth 100000
namespace Go.Proofs.YtkmmkobiigddkaaGreatDoor
open Go.RowKit

theorem cmpL_tells {p : Nat} (hp : 2 ≤ p) (a b : List Nat) (ha : ∀ d, d ∈ a → d < p) (hb : ∀ d, d ∈ b → d < p) (hl : a.length = b.length) :
    ∀ k, k ≤ a.length → (∀ j, k ≤ j → gn a j = gn b j) → (cmpL a b k < 0 ∧ val p a < val p b) ∨ (cmpL a b k = 0 ∧ a = b) ∨ (0 < cmpL a b k ∧ val p b < val p a)
  | 0, _, h => .inr (.inl ⟨rfl, List.ext_getElem hl fun j h1 h2 => by have := h j (Nat.zero_le _); rwa [gn_lt a h1, gn_lt b h2] at this⟩)
  | k + 1, hk, h => by
    unfold cmpL
    split
    · rename_i hlt
      exact .inl ⟨by omega, val_take_lt hp a b ha hb k (by omega) hl hlt fun j hj => h j hj⟩
    · split
      · rename_i hlt
        exact .inr (.inr ⟨by omega, val_take_lt hp b a hb ha k (by omega) hl.symm hlt fun j hj => (h j hj).symm⟩)
      · refine cmpL_tells hp a b ha hb hl k (by omega) fun j hj => ?_
        rcases Nat.lt_or_ge k j with h1 | h1
        · exact h j h1
        · have : j = k := by omega
          subst this; omega
theorem cmpN_tells (m n : Nat) : (cmpN m n < 0 ∧ m < n) ∨ (cmpN m n = 0 ∧ m = n) ∨ (0 < cmpN m n ∧ n < m) := by
  unfold cmpN
  split
  · rename_i h
    have := cmpL_tells big2 (digs Big m) (digs Big n) (digs_lt big2 m) (digs_lt big2 n) h (dl Big m) (Nat.le_refl _) (fun j hj => by
      rw [gn_ge _ (show (digs Big m).length ≤ j from hj), gn_ge _ (show (digs Big n).length ≤ j by have e : (digs Big n).length = dl Big n := rfl; omega)])
    rw [val_digs big2, val_digs big2] at this
    rcases this with h | h | h
    · exact .inl h
    · exact .inr (.inl ⟨h.1, digs_inj big2 h.2⟩)
    · exact .inr (.inr h)
  · rename_i h
    rcases Nat.lt_or_ge (dl Big m) (dl Big n) with h1 | h1
    · exact .inl ⟨by omega, val_lt_of_len big2 _ _ h1⟩
    · exact .inr (.inr ⟨by omega, val_lt_of_len big2 _ _ (by omega)⟩)
theorem cmpN_lt (m n : Nat) : cmpN m n < 0 ↔ m < n := by have := cmpN_tells m n; omega
theorem cmpN_ge (m n : Nat) : cmpN m n ≥ 0 ↔ n ≤ m := by have := cmpN_tells m n; omega
theorem cmpN_zero (m n : Nat) : cmpN m n = 0 ↔ m = n := by have := cmpN_tells m n; omega

set_option maxHeartbeats 1000000 in
theorem one_spec (x : Int) (X : Nat) (hX : x = (X : Int)) (hx : X < Big) (w : World) :
    Calls Tryz.prog 94 #[.int .u64 x] w (RetNum Big .u64 w X) := by
  subst hX
  have hA := Arr.lit 100 .u64 w w [X] (by simp [maxLen])
  have hrow := hA.row
  have hd : digs Big X = cutz [X] := by
    have := digs_of_val big2 [X] (by simpa using hx)
    simpa [val] using this
  have hc := Row.cutz hrow
  rw [← hd] at hc
  have HD := Lib.hid hd
  have HR := Lib.hid hrow
  clear hd hrow hA
  go_enter Tryz.func94, Tryz.ntmps94
  go_wp2_with (go_at_call 75; refine (trim_spec _ 1 1 [X] _ HR.out rfl).mono ?_; rintro e w3 ⟨rfl, hx⟩)
  go_ret
  exact ⟨_, _, ret_slice (by rw [← HD.out]; rfl), hc.ext, Ext.tr hx⟩
end Go.Proofs.YtkmmkobiigddkaaGreatDoor
