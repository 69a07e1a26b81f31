import Derived.Test.YtkmmkobiigddkaaGreatDoorProg
import Derived.Test.YtkmmkobiigddkaaGreatDoorMassC
import Derived.Test.YtkmmkobiigddkaaGreatDoorDiv
/-! The walks of package whole's magnitudes: by, Times, one. -/
set_option linter.unusedVariables false
set_option linter.unusedSimpArgs false
set_option maxRecDepth 100000
namespace Go.Proofs.YtkmmkobiigddkaaGreatDoor
open Go.RowKit

theorem add64_run (x y : Nat) (w : World) : (callFunc 121 #[.int .u64 (x : Int), .int .u64 (y : Int), .int .u64 0]).run Tryz.prog w =
    .ok (.value (.tuple #[.int .u64 (((x + y) % 18446744073709551616 : Nat) : Int), .int .u64 (((x + y) / 18446744073709551616 : Nat) : Int)])) w := by
  rw [run_callFunc_extern Tryz.func121 (by kernel_rfl) (by kernel_rfl) (by kernel_rfl) (e := add64Entry) (by kernel_rfl), run_add64 x y 0 (by omega) (by omega) (by omega) (by omega)]
  simp only [Result.andThen]
  congr 5 <;> omega

theorem div64_spec (hi lo y : Int) (X : Nat) (w : World) (hX : hi * two64 + lo = (X : Int)) (h0 : 0 ≤ hi) (h1 : hi < y) (h2 : y ≤ 18446744073709551615) (h3 : 0 ≤ lo) (h4 : lo ≤ 18446744073709551615) :
    Calls Tryz.prog 122 #[.int .u64 hi, .int .u64 lo, .int .u64 y] w (Ret w (.tuple #[.int .u64 ((X : Int) / y), .int .u64 ((X : Int) % y)])) := by
  rw [← hX]
  by_cases hz : hi = 0
  · subst hz
    have := div64_zero lo y w h3 h1 h4
    simpa using this
  · exact div64_pos hi lo y w (by omega) h1 h2 h3 h4

/-- The quotient so far by one digit: from the top down to the k-th. -/
structure ByI (p d : Nat) (a : List Nat) (k r : Nat) (L : List Nat) : Prop where
  len : L.length = a.length
  vl : val p (a.drop k) = val p (L.drop k) * d + r
  lt : r < d
  lo : ∀ j, gn L j < p
theorem val_drop {p : Nat} (l : List Nat) {k : Nat} (h : k < l.length) : val p (l.drop k) = gn l k + p * val p (l.drop (k + 1)) := by
  rw [List.drop_eq_getElem_cons h, val, gn_lt l h]
theorem gn_replicate (n j : Nat) : gn (List.replicate n 0) j = 0 := by
  unfold gn; rw [List.getD_eq_getElem?_getD, List.getElem?_replicate]; split <;> rfl
theorem ByI.start {p d : Nat} (a : List Nat) (hp : 2 ≤ p) (hd : 0 < d) : ByI p d a a.length 0 (List.replicate a.length 0) :=
  ⟨by simp, by simp [val], hd, fun j => by rw [gn_replicate]; omega⟩
theorem ByI.step {p d : Nat} {a : List Nat} {k r : Nat} {L : List Nat} (hp : 2 ≤ p) (h : ByI p d a (k + 1) r L) (hk : k < a.length) (ha : ∀ x, x ∈ a → x < p) :
    ByI p d a k ((r * p + gn a k) % d) (L.set k ((r * p + gn a k) / d)) := by
  have hl := h.len
  have hd : 0 < d := by have := h.lt; omega
  have hak := gn_mem_lt (by omega) ha k
  have hq : (r * p + gn a k) / d < p := by
    rw [Nat.div_lt_iff_lt_mul hd]
    have h1 := Nat.mul_le_mul_right p (show r + 1 ≤ d from h.lt)
    rw [Nat.add_mul] at h1
    have : p * d = d * p := Nat.mul_comm _ _
    omega
  refine ⟨by simp [hl], ?_, Nat.mod_lt _ hd, fun j => ?_⟩
  · rw [val_drop a hk, val_drop (L.set k _) (by simp; omega), gn_set _ _ _ _ (by omega), if_pos rfl, List.drop_set_of_lt (by omega), h.vl]
    have e := Nat.div_add_mod (r * p + gn a k) d
    rw [Nat.add_mul, Nat.mul_add]
    have e3 : (r * p + gn a k) / d * d = d * ((r * p + gn a k) / d) := Nat.mul_comm _ _
    have e1 : p * (val p (L.drop (k + 1)) * d) = p * val p (L.drop (k + 1)) * d := by rw [Nat.mul_assoc]
    have e2 : p * r = r * p := Nat.mul_comm _ _
    omega
  · rw [gn_set _ _ _ _ (by omega)]
    split
    · exact hq
    · exact h.lo j
theorem ByI.done {p d m r : Nat} {L : List Nat} (hp : 2 ≤ p) (h : ByI p d (digs p m) 0 r L) : cutz L = digs p (m / d) ∧ r = m % d := by
  have hv := h.vl
  rw [List.drop_zero, List.drop_zero, val_digs hp] at hv
  have hd : 0 < d := by have := h.lt; omega
  have e : m / d = val p L ∧ m % d = r := by
    have h1 := h.lt
    have := (Nat.div_mod_unique hd (a := m) (c := r) (d := val p L)).2 ⟨by rw [hv, Nat.mul_comm]; omega, h1⟩
    exact this
  refine ⟨?_, e.2.symm⟩
  rw [e.1]
  exact (digs_of_val hp L fun x hx => by
    obtain ⟨j, hj, rfl⟩ := List.getElem_of_mem hx
    rw [← gn_lt L hj]; exact h.lo j).symm

theorem mul64_big (r : Nat) (w : World) (hr : r < 18446744073709551616) :
    Calls Tryz.prog 120 #[.int .u64 (r : Int), .int .u64 1000000000000000000] w fun e w' =>
      e = .returned (.tuple #[.int .u64 ((r * 1000000000000000000 / 18446744073709551616 : Nat) : Int), .int .u64 ((r * 1000000000000000000 % 18446744073709551616 : Nat) : Int)]) ∧ w' = w :=
  Tryz.bits_Mul64 r 1000000000000000000 hr (by omega) w
/-- The words of r times the group, and a digit added. -/
theorem mul_add_parts (r x d : Nat) (hr : r < d) (hd : d ≤ 1000000000000000000) (hx : x < 1000000000000000000) :
    ∃ (H0 L0 : Nat) (C1 L1 : Int) (X : Nat), X = r * 1000000000000000000 + x ∧ r * 1000000000000000000 / 18446744073709551616 = H0 ∧ r * 1000000000000000000 % 18446744073709551616 = L0 ∧
      (∀ w, (callFunc 121 #[.int .u64 (L0 : Int), .int .u64 (x : Int), .int .u64 0]).run Tryz.prog w = .ok (.value (.tuple #[.int .u64 L1, .int .u64 C1])) w) ∧
      (0 ≤ C1 ∧ C1 ≤ 1) ∧ (H0 + C1 < d) ∧ 0 ≤ L1 ∧ L1 ≤ 18446744073709551615 ∧ ((H0 : Int) + C1) * two64 + L1 = (X : Int) := by
  refine ⟨_, _, _, _, _, rfl, rfl, rfl, fun w => add64_run _ _ w, ?_⟩
  unfold two64
  omega

/-- It returns a number and a rest. -/
def RetBy (w : World) (q r : Nat) (e : Ending) (w' : World) : Prop :=
  ∃ A c, e = .returned (.tuple #[.slice A (dl Big q) c, .int .u64 (r : Int)]) ∧ Num Big .u64 w' A c q ∧ Ext w w'

set_option maxHeartbeats 2000000 in
theorem by_spec (A : Option Addr) (c m d : Nat) (w : World) (ha : Num Big .u64 w A c m) (hm : dl Big m ≤ 1099511627776) (hd : 0 < d) (hd1 : d ≤ 1000000000000000000) :
    Calls Tryz.prog 102 #[.slice A (dl Big m) c, .int .u64 (d : Int)] w (RetBy w (m / d) (m % d)) := by
  have HDA := Lib.hid (digs_lt big2 m)
  have hra : Row w .u64 A c (digs Big m) := ha
  have HP := Lib.hid big2
  have hm0 : (0 : Int) ≤ (dl Big m : Int) := by omega
  clear ha
  go_enter Tryz.func102, Tryz.ntmps102
  go_wp2_with (at_make; refine wp_make (w0 := w) rfl (.tmp 13) 61 100 .u64 rfl Tryz.underlying61 el_u64 .i64 _ (dl Big m) rfl rfl (by omega) inferInstance ?_; intro w1 hA)
  go_loopw [7, 8] (fun x i wr => ∃ (k r : Nat) (L : List Nat), k ≤ dl Big m ∧ i = .int .i64 ((k : Int) - 1) ∧ x = .int .u64 (r : Int) ∧ Hid (ByI Big d (digs Big m) k r L) ∧ Hid (Arr 100 .u64 w wr w.heap.size (dl Big m) L)) (fun _ i _ => (intOf i + 1).toNat)
  case atStart => exact ⟨dl Big m, 0, _, Nat.le_refl _, rfl, rfl, Lib.hid (ByI.start _ big2 hd), Lib.hid hA⟩
  case round =>
    clear hA
    obtain ⟨k, r, L, hk, rfl, rfl, hI, hA⟩ := hrel
    rcases k with _ | k
    · have hdn := ByI.done HP.out hI.out
      have hLn : L.length = dl Big m := hI.out.len
      have hrow := hA.out.row
      have hc := Row.cutz hrow
      rw [hdn.1] at hc
      have HD := Lib.hid hdn
      have HLn := Lib.hid hLn
      clear hdn hLn
      have hx0 := hA.out.ext
      go_wp2_with (go_at_call 75; refine (trim_spec _ _ _ L _ hrow HLn.out).mono ?_; rintro e w3 ⟨rfl, hx⟩)
      go_ret2
      refine ⟨_, _, ?_, hc.ext, Ext.tr hx⟩
      rw [← HD.out.2]
      show Ending.returned (.tuple #[.slice _ (cutz L).length _, _]) = _
      rw [HD.out.1]; rfl
    · rw [show ((k + 1 : Nat) : Int) - 1 = (k : Int) by omega]
      obtain ⟨ad, rfl, hca⟩ := (hra.ext (x := hA.out.ext)).cell (by show 0 < dl Big m; omega)
      have hkl : k < dl Big m := by omega
      have h1 := hca k hkl
      clear hca
      have hLn : L.length = dl Big m := hI.out.len
      have h2 := hA.out.cell (j := k) (by omega)
      have h3 := hA.out.frozen k
      clear hLn
      have hr := hI.out.lt
      have hak : gn (digs Big m) k < 1000000000000000000 := gn_mem_lt (by have := HP.out; omega) HDA.out k
      obtain ⟨H0, L0, C1, L1, X, eX, eH, eL, eadd, f1, f2, f3, f4, f5⟩ := mul_add_parts r (gn (digs Big m) k) d hr hd1 hak
      have EX := Lib.hid eX
      have EH := Lib.hid eH
      have EL := Lib.hid eL
      clear eX eH eL hak
      have st := ByI.step HP.out hI.out hkl HDA.out
      rw [show r * Big + gn (digs Big m) k = X from EX.out.symm] at st
      have ST := Lib.hid st
      clear st
      go_wp2_with (first
        | (go_at_call 120; refine (mul64_big r _ (by omega)).mono ?_; rintro e w' ⟨rfl, hw⟩; obtain rfl := hw.symm; rw [EH.out, EL.out])
        | (go_at_call 122; refine (div64_spec _ _ _ X _ f5 (by omega) (by omega) (by omega) f3 f4).mono ?_; rintro e w' ⟨rfl, hx⟩; have hA2 := Lib.hid (hA.out.to (x := hx)); have h4 := hA2.out.cell (j := k) (by have : L.length = dl Big m := hI.out.len; omega); have h5 := hA2.out.frozen k))
      refine ⟨⟨k, _, _, by omega, rfl, ?_, ST, Lib.hid ?_⟩, by simp [intOf]⟩
      · rfl
      · exact hA2.out.set k (X / d)
end Go.Proofs.YtkmmkobiigddkaaGreatDoor
