import Derived.Test.YtkmmkobiigddkaaGreatDoorProg
import Derived.Test.YtkmmkobiigddkaaGreatDoorRefC
/-! The walks of the reference's whole numbers: Integer, Raised. -/
set_option linter.unusedVariables false
set_option linter.unusedSimpArgs false
set_option maxRecDepth 100000
namespace Go.Proofs.YtkmmkobiigddkaaGreatDoor
open Go.RowKit

theorem digs_snoc_step {p u u0 : Nat} {L : List Nat} (hp : 2 ≤ p) (h : digs p u0 = L ++ digs p u) (hu : 0 < u) : digs p u0 = (L ++ [u % p]) ++ digs p (u / p) := by
  rw [h, digs_pos hp hu, List.append_assoc]; rfl
set_option maxHeartbeats 1000000 in
theorem integer_pos (n : Nat) (hn : n ≤ 9223372036854775807) (w : World) :
    Calls Tryz.prog 45 #[.int .i64 (n : Int)] w (RetInt B4 .i64 w (n : Int)) := by
  have HP := Lib.hid (show neg (n : Int) = (false && decide (0 < n)) from neg_false (by omega))
  have hz : ¬ (n : Int) < 0 := by omega
  go_enter Tryz.func45, Tryz.ntmps45
  go_wp2_with fail
  go_loopg [0, 3] n (fun g nv dv wr => ∃ (u : Nat) (L : List Nat) (O : Option Addr) (oc : Nat), nv = .int .i64 (u : Int) ∧ dv = .slice O L.length oc ∧ u ≤ g ∧ u ≤ 9223372036854775807 ∧ L.length ≤ 64 ∧ Hid (10000 ^ L.length * u ≤ n) ∧
    Hid (digs B4 n = L ++ digs B4 u) ∧ Hid (OwnA 3 .i64 (w.alloc (.cells #[.bool false, .slice none 0 0] 69)) wr O oc L))
  case atStart => exact ⟨n, [], none, 0, rfl, rfl, Nat.le_refl _, hn, by simp, Lib.hid (by simp), Lib.hid rfl, Lib.hid ⟨Ext.rf _, .inl ⟨rfl, rfl, rfl⟩⟩⟩
  case round =>
    obtain ⟨u, L, O, oc, rfl, rfl, hg, hu1, hL, HB, HD, HO⟩ := hrel
    by_cases h0 : u = 0
    · subst h0
      have hb : (((0 : Nat) : Int) != 0) = false := by rfl
      have hdl : digs B4 n = L := by have := HD.out; rwa [digs_zero, List.append_nil] at this
      have HDL := Lib.hid hdl
      clear hdl
      go_wp2_with fail
      refine (made_spec O oc _ n false (n : Int) L _ HO.out.row rfl (by rw [← HDL.out, cutz_digs b42]) (Int.natAbs_natCast _) HP.out).mono ?_
      rintro e w2 ⟨T, tc, rfl, hT, hx⟩
      replace hx := Ext.tr (h := HO.out.1) hx
      obtain ⟨hc, hf, hs⟩ := hx.cells
      have HT := Lib.hid hT
      have HX := Lib.hid hx
      clear hT hx
      go_wp2_with fail
      have r := cells_res HX.out (g := w.heap.size) rfl
      have r1 := fun v0 => (r v0 undef).1
      have r2 := fun v0 v1 => (r v0 v1).2.1
      have r3 := fun v0 v1 => (r v0 v1).2.2
      have hsm := nd_abs
      exact bodyPost_ret (v := .agg #[.bool _, .slice T (dl B4 ((n : Nat) : Int).natAbs) tc]) (by simp [results, Tryz.results45, go_sem, r1, r2, r3]) rfl
        (ret_cell _ _ HX.out rfl inferInstance rfl HT.out rfl rfl)
    · have hb : ((u : Int) != 0) = true := by simp; omega
      have hu0 : (0 : Int) < (u : Int) := by omega
      have hrm : ¬ (u : Int) % 10000 < 0 := by omega
      have hst := digs_snoc_step b42 HD.out (show 0 < u by omega)
      have HST := Lib.hid hst
      have hrow := fun (W : World) => Row.lit 3 .i64 W W.heap.size rfl [u % B4] #[Value.int .i64 ((u : Int) % 10000)] (by simp [enc, B4]) 1 rfl (by omega)
      have HROW := Lib.hid hrow
      have hL20 : L.length < 64 := by
        refine Nat.lt_of_not_le fun h => ?_
        have h1 : 10000 ^ 64 ≤ 10000 ^ L.length := Nat.pow_le_pow_right (by omega) h
        have h2 := HB.out
        have h3 : 10000 ^ L.length ≤ 10000 ^ L.length * u := Nat.le_mul_of_pos_right _ (by omega)
        omega
      have hB2 : 10000 ^ (L ++ [u % B4]).length * (u / B4) ≤ n := by
        have h2 := HB.out
        rw [List.length_append, List.length_singleton, Nat.pow_succ, Nat.mul_assoc]
        exact Nat.le_trans (Nat.mul_le_mul_left _ (Nat.mul_div_le u B4)) h2
      have HB2 := Lib.hid hB2
      clear hst hrow h0 hB2
      go_wp2_with (at_builtin; refine wp_append (w0 := w.alloc (.cells #[.bool false, .slice none 0 0] 69)) rfl (.tmp 16) (.tmp 18) 67 3 .i64 rfl Tryz.underlying67 el_i64 _ L (HO.out.to (x := inferInstance)).ownS _ 1 [u % B4] (HROW.out _) 1 rfl rfl rfl (by omega) ?_; intro v' w3 hO hg; obtain ⟨O3, c3, rfl, hS⟩ := hO.parts; have HS := Lib.hid hS; clear hO hg hS)
      go_roundg (u / 10000)
      case measure => omega
      case rel => exact ⟨u / B4, L ++ [u % B4], O3, c3, rfl, by simp, Nat.le_refl _, by unfold B4; omega, by simp; omega, HB2, HST, HS⟩
set_option maxHeartbeats 1000000 in
theorem integer_neg (n : Nat) (hn : n ≤ 9223372036854775808) (hn0 : 0 < n) (w : World) :
    Calls Tryz.prog 45 #[.int .i64 (-(n : Int))] w (RetInt B4 .i64 w (-(n : Int))) := by
  have HP := Lib.hid (show neg (-(n : Int)) = (true && decide (0 < n)) by rw [neg_true (by omega), decide_eq_true hn0]; rfl)
  have hz : -(n : Int) < 0 := by omega
  go_enter Tryz.func45, Tryz.ntmps45
  go_wp2_with fail
  go_loopg [0, 3] n (fun g nv dv wr => ∃ (u : Nat) (L : List Nat) (O : Option Addr) (oc : Nat), nv = .int .i64 (-(u : Int)) ∧ dv = .slice O L.length oc ∧ u ≤ g ∧ u ≤ 9223372036854775808 ∧ L.length ≤ 64 ∧ Hid (10000 ^ L.length * u ≤ n) ∧
    Hid (digs B4 n = L ++ digs B4 u) ∧ Hid (OwnA 3 .i64 (w.alloc (.cells #[.bool false, .slice none 0 0] 69)) wr O oc L))
  case atStart => exact ⟨n, [], none, 0, rfl, rfl, Nat.le_refl _, hn, by simp, Lib.hid (by simp), Lib.hid rfl, Lib.hid ⟨Ext.rf _, .inl ⟨rfl, rfl, rfl⟩⟩⟩
  case round =>
    obtain ⟨u, L, O, oc, rfl, rfl, hg, hu1, hL, HB, HD, HO⟩ := hrel
    by_cases h0 : u = 0
    · subst h0
      have hb : ((-((0 : Nat) : Int)) != 0) = false := by rfl
      have hdl : digs B4 n = L := by have := HD.out; rwa [digs_zero, List.append_nil] at this
      have HDL := Lib.hid hdl
      clear hdl
      go_wp2_with fail
      refine (made_spec O oc _ n true (-(n : Int)) L _ HO.out.row rfl (by rw [← HDL.out, cutz_digs b42]) (by omega) HP.out).mono ?_
      rintro e w2 ⟨T, tc, rfl, hT, hx⟩
      replace hx := Ext.tr (h := HO.out.1) hx
      obtain ⟨hc, hf, hs⟩ := hx.cells
      have HT := Lib.hid hT
      have HX := Lib.hid hx
      clear hT hx
      go_wp2_with fail
      have r := cells_res HX.out (g := w.heap.size) rfl
      have r1 := fun v0 => (r v0 undef).1
      have r2 := fun v0 v1 => (r v0 v1).2.1
      have r3 := fun v0 v1 => (r v0 v1).2.2
      have hsm := nd_abs
      exact bodyPost_ret (v := .agg #[.bool _, .slice T (dl B4 (-((n : Nat) : Int)).natAbs) tc]) (by simp [results, Tryz.results45, go_sem, r1, r2, r3]) rfl
        (ret_cell _ _ HX.out rfl inferInstance rfl HT.out rfl rfl)
    · have hb : ((-(u : Int)) != 0) = true := by simp; omega
      have hu0 : (0 : Int) < (u : Int) := by omega
      have htm : (-(u : Int)).tmod 10000 = -((u : Int) % 10000) := by rw [Int.neg_tmod, Int.tmod_eq_emod_of_nonneg (by omega)]
      have htd : (-(u : Int)).tdiv 10000 = -((u : Int) / 10000) := by rw [Int.neg_tdiv, Int.tdiv_eq_ediv_of_nonneg (by omega)]
      have hst := digs_snoc_step b42 HD.out (show 0 < u by omega)
      have HST := Lib.hid hst
      rcases Nat.eq_zero_or_pos (u % 10000) with hr | hr
      · have hri : ¬ (0 : Int) < (u : Int) % 10000 := by omega
        have hrow := fun (W : World) => Row.lit 3 .i64 W W.heap.size rfl [u % B4] #[Value.int .i64 (-((u : Int) % 10000))] (by simp only [enc, List.map_cons, List.map_nil]; congr 3; show -((u : Int) % 10000) = ((u % 10000 : Nat) : Int); omega) 1 rfl (by omega)
        have HROW := Lib.hid hrow
        have hL20 : L.length < 64 := by
          refine Nat.lt_of_not_le fun h => ?_
          have h1 : 10000 ^ 64 ≤ 10000 ^ L.length := Nat.pow_le_pow_right (by omega) h
          have h2 := HB.out
          have h3 : 10000 ^ L.length ≤ 10000 ^ L.length * u := Nat.le_mul_of_pos_right _ (by omega)
          omega
        have hB2 : 10000 ^ (L ++ [u % B4]).length * (u / B4) ≤ n := by
          have h2 := HB.out
          rw [List.length_append, List.length_singleton, Nat.pow_succ, Nat.mul_assoc]
          exact Nat.le_trans (Nat.mul_le_mul_left _ (Nat.mul_div_le u B4)) h2
        have HB2 := Lib.hid hB2
        clear hst hrow h0 hB2 hr
        go_wp2_with (at_builtin; refine wp_append (w0 := w.alloc (.cells #[.bool false, .slice none 0 0] 69)) rfl (.tmp 16) (.tmp 18) 67 3 .i64 rfl Tryz.underlying67 el_i64 _ L (HO.out.to (x := inferInstance)).ownS _ 1 [u % B4] (HROW.out _) 1 rfl rfl rfl (by omega) ?_; intro v' w3 hO hg; obtain ⟨O3, c3, rfl, hS⟩ := hO.parts; have HS := Lib.hid hS; clear hO hg hS)
        go_roundg (u / 10000)
        case measure => omega
        case rel => exact ⟨u / B4, L ++ [u % B4], O3, c3, rfl, by simp, Nat.le_refl _, by unfold B4; omega, by simp; omega, HB2, HST, HS⟩
      · have hri : (0 : Int) < (u : Int) % 10000 := by omega
        have hrow := fun (W : World) => Row.lit 3 .i64 W W.heap.size rfl [u % B4] #[Value.int .i64 ((u : Int) % 10000)] (by simp [enc, B4]) 1 rfl (by omega)
        have HROW := Lib.hid hrow
        have hL20 : L.length < 64 := by
          refine Nat.lt_of_not_le fun h => ?_
          have h1 : 10000 ^ 64 ≤ 10000 ^ L.length := Nat.pow_le_pow_right (by omega) h
          have h2 := HB.out
          have h3 : 10000 ^ L.length ≤ 10000 ^ L.length * u := Nat.le_mul_of_pos_right _ (by omega)
          omega
        have hB2 : 10000 ^ (L ++ [u % B4]).length * (u / B4) ≤ n := by
          have h2 := HB.out
          rw [List.length_append, List.length_singleton, Nat.pow_succ, Nat.mul_assoc]
          exact Nat.le_trans (Nat.mul_le_mul_left _ (Nat.mul_div_le u B4)) h2
        have HB2 := Lib.hid hB2
        clear hst hrow h0 hB2 hr
        go_wp2_with (at_builtin; refine wp_append (w0 := w.alloc (.cells #[.bool false, .slice none 0 0] 69)) rfl (.tmp 16) (.tmp 18) 67 3 .i64 rfl Tryz.underlying67 el_i64 _ L (HO.out.to (x := inferInstance)).ownS _ 1 [u % B4] (HROW.out _) 1 rfl rfl rfl (by omega) ?_; intro v' w3 hO hg; obtain ⟨O3, c3, rfl, hS⟩ := hO.parts; have HS := Lib.hid hS; clear hO hg hS)
        go_roundg (u / 10000)
        case measure => omega
        case rel => exact ⟨u / B4, L ++ [u % B4], O3, c3, rfl, by simp, Nat.le_refl _, by unfold B4; omega, by simp; omega, HB2, HST, HS⟩
theorem integer_spec (n : Int) (h0 : -9223372036854775808 ≤ n) (h1 : n ≤ 9223372036854775807) (w : World) :
    Calls Tryz.prog 45 #[.int .i64 n] w (RetInt B4 .i64 w n) := by
  rcases Int.lt_or_le n 0 with h | h
  · obtain ⟨m, rfl⟩ : ∃ m : Nat, n = -(m : Int) := ⟨n.natAbs, by omega⟩
    exact integer_neg m (by omega) (by omega) w
  · obtain ⟨m, rfl⟩ : ∃ m : Nat, n = (m : Int) := ⟨n.toNat, by omega⟩
    exact integer_pos m (by omega) w
end Go.Proofs.YtkmmkobiigddkaaGreatDoor
