import Derived.Test.YtkmmkobiigddkaaGreatDoorProg
import Derived.Test.YtkmmkobiigddkaaGreatDoorRefH
/-! The walk of the reference's reader of whole numbers. -/
set_option linter.unusedVariables false
set_option linter.unusedSimpArgs false
set_option maxRecDepth 100000
namespace Go.Proofs.YtkmmkobiigddkaaGreatDoor
open Go.RowKit

/-- The digits read so far, from the end: k groups of four. -/
structure InI (D : List UInt8) (k r : Nat) (L : List Nat) : Prop where
  len : L.length = k
  vl : val B4 L + B4 ^ k * dval (D.take r) = dval D
  lo : ∀ d, d ∈ L → d < B4
theorem InI.zero (D : List UInt8) : InI D 0 D.length [] := ⟨rfl, by simp [val], by simp⟩
theorem take_drop_snoc (D : List UInt8) {j lo : Nat} (h : lo ≤ j) (hj : j < D.length) : (D.take (j + 1)).drop lo = (D.take j).drop lo ++ [D[j]] := by
  rw [List.take_succ_eq_append_getElem hj, List.drop_append_of_le_length (by rw [List.length_take]; omega)]
theorem dval_chunk (D : List UInt8) (hD : ∀ c ∈ D, IsDig c) (r lo : Nat) (h : r - lo ≤ 4) : dval ((D.take r).drop lo) < 10000 := by
  have h1 := dval_lt ((D.take r).drop lo) (fun c hc => hD c (List.mem_of_mem_take (List.mem_of_mem_drop hc)))
  have h2 : 10 ^ ((D.take r).drop lo).length ≤ 10 ^ 4 := Nat.pow_le_pow_right (by omega) (by rw [List.length_drop, List.length_take]; omega)
  omega
theorem in_step (D : List UInt8) (r : Nat) (hr : r ≤ D.length) : dval (D.take r) = dval (D.take (r - 4)) * 10000 + dval ((D.take r).drop (r - 4)) := by
  have h1 : D.take r = D.take (r - 4) ++ (D.take r).drop (r - 4) := by
    have := List.take_append_drop (r - 4) (D.take r)
    rw [List.take_take, Nat.min_eq_left (by omega)] at this
    exact this.symm
  have h2 := dval_append (D.take (r - 4)) ((D.take r).drop (r - 4))
  rw [← h1, List.length_drop, List.length_take, Nat.min_eq_left hr] at h2
  rw [h2]
  by_cases h4 : 4 ≤ r
  · rw [show r - (r - 4) = 4 by omega]
  · rw [show r - 4 = 0 by omega]; simp [dval_nil]
theorem InI.step {D : List UInt8} {k r : Nat} {L : List Nat} (hD : ∀ c ∈ D, IsDig c) (h : InI D k r L) (hr : r ≤ D.length) : InI D (k + 1) (r - 4) (L ++ [dval ((D.take r).drop (r - 4))]) := by
  refine ⟨by simp [h.len], ?_, ?_⟩
  · have h1 := h.vl
    rw [in_step D r hr] at h1
    rw [val_append, h.len, Nat.pow_succ]
    simp only [val, Nat.mul_zero, Nat.add_zero]
    rw [show B4 ^ k * B4 * dval (D.take (r - 4)) = B4 ^ k * (dval (D.take (r - 4)) * 10000) by rw [Nat.mul_assoc, Nat.mul_comm B4 (dval _)]; rfl]
    rw [Nat.mul_add] at h1
    omega
  · intro d hd
    rcases List.mem_append.1 hd with hd | hd
    · exact h.lo d hd
    · rw [List.mem_singleton] at hd; rw [hd]; exact dval_chunk D hD r _ (by omega)
theorem InI.done {D : List UInt8} {k : Nat} {L : List Nat} (h : InI D k 0 L) : cutz L = digs B4 (dval D) := by
  have h1 := h.vl
  rw [List.take_zero, dval_nil, Nat.mul_zero, Nat.add_zero] at h1
  rw [← h1]; exact (digs_of_val b42 L h.lo).symm
theorem dval_snoc_at (D : List UInt8) {j lo : Nat} (h : lo ≤ j) (hj : j < D.length) : dval ((D.take (j + 1)).drop lo) = dval ((D.take j).drop lo) * 10 + (D[j].toNat - 48) := by
  rw [take_drop_snoc D h hj, dval_snoc]
set_option maxHeartbeats 4000000 in
theorem in_core0 (D : List UInt8) (s : ByteArray) (z : Int) (w : World) (hsz : s.size = 0 + D.length) (hD1 : 0 < D.length) (hD6 : D.length ≤ 600) (hdig : ∀ c ∈ D, IsDig c)
    (hb : ∀ (j : Nat) (h : j < D.length) (h' : 0 + j < s.size), s[0 + j]'h' = D[j]'h) (h0 : 0 < s.size) (h45 : (((s[0]'h0).toNat : Int) == 45) = false) (hz : z.natAbs = dval D) (hp : neg z = (false && decide (0 < dval D))) :
    Calls Tryz.prog 49 #[.string s] w (RetInt B4 .i64 w z) := by
  have HDG := Lib.hid hdig
  have HBY := Lib.hid hb
  have HZ := Lib.hid hz
  have HP := Lib.hid hp
  obtain ⟨n, hn⟩ : ∃ n, D.length = n := ⟨_, rfl⟩
  rw [hn] at hD1 hD6
  have HN := Lib.hid hn
  have hm2 := @max_two
  have hsn : s.size = 0 + n := by omega
  clear hsz hdig hb hz hp hn
  go_enter Tryz.func49, Tryz.ntmps49
  go_wp2_with fail
  go_loopg [4, 5] n (fun g dv ev wr => ∃ (k r : Nat) (e : Int) (L : List Nat) (O : Option Addr) (oc : Nat), dv = .slice O L.length oc ∧ ev = .int .i64 e ∧ r ≤ g ∧ r ≤ n ∧ Hid ((0 : Int) < e ↔ 0 < r) ∧ Hid (0 < r → e = 0 + (r : Int)) ∧ -8 ≤ e ∧ e ≤ 601 ∧ L.length + r ≤ n ∧ Hid (InI D k r L) ∧
    Hid (OwnA 3 .i64 (w.alloc (.cells #[.bool false, .slice none 0 0] 69)) wr O oc L))
  case atStart => exact ⟨0, n, _, [], none, 0, rfl, rfl, Nat.le_refl _, Nat.le_refl _, Lib.hid (by omega), Lib.hid (by omega), by omega, by omega, by simp, Lib.hid (HN.out ▸ InI.zero D), Lib.hid ⟨Ext.rf _, .inl ⟨rfl, rfl, rfl⟩⟩⟩
  case round =>
    obtain ⟨k, r, e, L, O, oc, rfl, rfl, hg, hrn, HE, HE2, he0, he1, hLr, HI, HO⟩ := hrel
    by_cases hr : 0 < r
    · have he := HE2.out hr
      clear HE HE2 he0 he1
      obtain ⟨lo, hlo⟩ : ∃ lo, r - 4 = lo := ⟨_, rfl⟩
      obtain ⟨E, hE⟩ : ∃ E : Nat, 0 + r = E := ⟨_, rfl⟩
      have he2 : e = (E : Int) := by omega
      clear he
      subst he2
      have hgt : (0 : Int) < (E : Int) := by omega
      have hE6 : E ≤ 601 := by omega
      have hEs : E ≤ s.size := by omega
      obtain ⟨i0, hi0⟩ : ∃ i0 : Nat, 0 + lo = i0 := ⟨_, rfl⟩
      have hmx : Builtin.max2 (.int .i64 ((E : Int) - 4)) (.int .i64 0) = pure (.int .i64 (i0 : Int)) := by
        simp only [Builtin.max2, gt_iff_lt]
        congr 2
        split <;> omega
      have HLO := Lib.hid hlo
      have HE0 := Lib.hid hE
      have HI0 := Lib.hid hi0
      have hi0E : i0 < E := by omega
      clear hlo hE hi0
      go_wp2_with fail
      go_loop [6, 7] (fun mv iv => ∃ (i m : Nat), iv = .int .i64 (i : Int) ∧ mv = .int .i64 (m : Int) ∧ i0 ≤ i ∧ i ≤ E ∧ m ≤ 9999 ∧ Hid (m = dval ((D.take (i - 0)).drop lo))) (fun _ iv => E - (intOf iv).toNat)
      case atStart => exact ⟨i0, 0, rfl, rfl, Nat.le_refl _, by omega, by omega, Lib.hid (by rw [List.drop_eq_nil_of_le (by rw [List.length_take]; have := HI0.out; omega)]; rfl)⟩
      case round =>
        obtain ⟨i, m, rfl, rfl, hi1, hi2, hm9, HM⟩ := hrel
        by_cases hlt : i < E
        · have hlt2 : i < s.size := by omega
          obtain ⟨j, hj⟩ : ∃ j, i - 0 = j := ⟨_, rfl⟩
          have hij : 0 + j = i := by have := HI0.out; omega
          have hjD : j < D.length := by have := HN.out; have := HE0.out; omega
          have hby := HBY.out j hjD (by omega)
          simp only [hij] at hby
          obtain ⟨c, hc⟩ : ∃ c, s[i] = c := ⟨_, rfl⟩
          rw [hc] at hby
          have hcd := HDG.out c (hby ▸ List.getElem_mem _)
          have hc1 := hcd.1
          have hc2 := hcd.2
          have hst := dval_snoc_at D (j := j) (lo := lo) (by have := HI0.out; omega) hjD
          rw [← hby, show dval ((D.take j).drop lo) = m by rw [← hj]; exact HM.out.symm] at hst
          have hck := dval_chunk D HDG.out (j + 1) lo (by have := HI0.out; have := HE0.out; have := HLO.out; omega)
          rw [hst] at hck
          have HC := Lib.hid hc
          obtain ⟨t, ht⟩ : ∃ t : Int, (c.toNat : Int) = t := ⟨_, rfl⟩
          have ht1 : 48 ≤ t := by omega
          have ht2 : t ≤ 57 := by omega
          have HT := Lib.hid ht
          have HST := Lib.hid hst
          have HIJ := Lib.hid hij
          have hci : ((s[i]'hlt2).toNat : Int) = t := by rw [HC.out]; exact ht
          have hcn : ((m : Int) * 10 + (t - 48)) = ((m * 10 + (c.toNat - 48) : Nat) : Int) := by omega
          clear hcd hst hc hj hij hby hjD hc1 hc2 ht
          go_wp2_with fail
          refine ⟨⟨i + 1, m * 10 + (c.toNat - 48), by simp, by simp, by omega, by omega, by omega, Lib.hid ?_⟩, by simp [intOf]; omega⟩
          rw [show i + 1 - 0 = j + 1 by have := HIJ.out; omega]; exact HST.out.symm
        · obtain rfl : i = E := by omega
          have hrw : Row w .i64 none 0 [] := Row.nil w .i64
          have hst := HI.out.step HDG.out (by have := HN.out; omega)
          rw [HLO.out] at hst
          have hmr : dval ((D.take r).drop lo) = m := by rw [HM.out, show i - 0 = r by have := HE0.out; omega]
          rw [hmr] at hst
          have HST := Lib.hid hst
          have hrow := fun (W : World) => Row.lit 3 .i64 W W.heap.size rfl [m] #[Value.int .i64 (m : Int)] (by simp [enc]) 1 rfl (by omega)
          have HROW := Lib.hid hrow
          clear hst hmr hrow hrw
          go_wp2_with (at_builtin; refine wp_append (w0 := w.alloc (.cells #[.bool false, .slice none 0 0] 69)) rfl (.tmp 35) (.tmp 37) 67 3 .i64 rfl Tryz.underlying67 el_i64 _ L (HO.out.to (x := inferInstance)).ownS _ 1 [m] (HROW.out _) 1 rfl rfl rfl (by omega) ?_; intro v' w3 hO hg; obtain ⟨O3, c3, rfl, hS⟩ := hO.parts; have HS := Lib.hid hS; clear hO hg hS)
          have hLn : (L ++ [m]).length = L.length + 1 := by simp
          go_roundg (r - 4)
          case measure => omega
          case rel => exact ⟨k + 1, r - 4, _, L ++ [m], O3, c3, by simp, rfl, Nat.le_refl _, by omega, Lib.hid (by have := HE0.out; omega), Lib.hid (by have := HE0.out; omega), by omega, by omega, by omega, Lib.hid (HLO.out.symm ▸ HST.out), HS⟩
    · have hle : ¬ (0 : Int) < e := fun h => hr (HE.out.1 h)
      obtain rfl : r = 0 := by omega
      have hd := HI.out.done
      have HD := Lib.hid hd
      clear hd HE HE2
      go_wp2_with fail
      refine (made_spec O oc _ (dval D) false z L _ HO.out.row rfl HD.out HZ.out HP.out).mono ?_
      rintro e2 w2 ⟨T, tc, rfl, hT, hx⟩
      replace hx := Ext.tr (h := HO.out.1) hx
      obtain ⟨hc, hf, hs⟩ := hx.cells
      have HT := Lib.hid hT
      have HX := Lib.hid hx
      clear hT hx
      go_wp2_with fail
      have rr := cells_res HX.out (g := w.heap.size) rfl
      have r1 := fun v0 => (rr v0 undef).1
      have r2 := fun v0 v1 => (rr v0 v1).2.1
      have r3 := fun v0 v1 => (rr v0 v1).2.2
      exact bodyPost_ret (v := .agg #[.bool _, .slice T (dl B4 z.natAbs) tc]) (by simp [results, Tryz.results49, go_sem, r1, r2, r3]) rfl
        (ret_cell _ _ HX.out rfl inferInstance rfl HT.out rfl rfl)
set_option maxHeartbeats 4000000 in
theorem in_core1 (D : List UInt8) (s : ByteArray) (z : Int) (w : World) (hsz : s.size = 1 + D.length) (hD1 : 0 < D.length) (hD6 : D.length ≤ 600) (hdig : ∀ c ∈ D, IsDig c)
    (hb : ∀ (j : Nat) (h : j < D.length) (h' : 1 + j < s.size), s[1 + j]'h' = D[j]'h) (h0 : 0 < s.size) (h45 : (((s[0]'h0).toNat : Int) == 45) = true) (hz : z.natAbs = dval D) (hp : neg z = (true && decide (0 < dval D))) :
    Calls Tryz.prog 49 #[.string s] w (RetInt B4 .i64 w z) := by
  have HDG := Lib.hid hdig
  have HBY := Lib.hid hb
  have HZ := Lib.hid hz
  have HP := Lib.hid hp
  obtain ⟨n, hn⟩ : ∃ n, D.length = n := ⟨_, rfl⟩
  rw [hn] at hD1 hD6
  have HN := Lib.hid hn
  have hm2 := @max_two
  have hsn : s.size = 1 + n := by omega
  clear hsz hdig hb hz hp hn
  go_enter Tryz.func49, Tryz.ntmps49
  go_wp2_with fail
  go_loopg [4, 5] n (fun g dv ev wr => ∃ (k r : Nat) (e : Int) (L : List Nat) (O : Option Addr) (oc : Nat), dv = .slice O L.length oc ∧ ev = .int .i64 e ∧ r ≤ g ∧ r ≤ n ∧ Hid ((1 : Int) < e ↔ 0 < r) ∧ Hid (0 < r → e = 1 + (r : Int)) ∧ -8 ≤ e ∧ e ≤ 601 ∧ L.length + r ≤ n ∧ Hid (InI D k r L) ∧
    Hid (OwnA 3 .i64 (w.alloc (.cells #[.bool false, .slice none 0 0] 69)) wr O oc L))
  case atStart => exact ⟨0, n, _, [], none, 0, rfl, rfl, Nat.le_refl _, Nat.le_refl _, Lib.hid (by omega), Lib.hid (by omega), by omega, by omega, by simp, Lib.hid (HN.out ▸ InI.zero D), Lib.hid ⟨Ext.rf _, .inl ⟨rfl, rfl, rfl⟩⟩⟩
  case round =>
    obtain ⟨k, r, e, L, O, oc, rfl, rfl, hg, hrn, HE, HE2, he0, he1, hLr, HI, HO⟩ := hrel
    by_cases hr : 0 < r
    · have he := HE2.out hr
      clear HE HE2 he0 he1
      obtain ⟨lo, hlo⟩ : ∃ lo, r - 4 = lo := ⟨_, rfl⟩
      obtain ⟨E, hE⟩ : ∃ E : Nat, 1 + r = E := ⟨_, rfl⟩
      have he2 : e = (E : Int) := by omega
      clear he
      subst he2
      have hgt : (1 : Int) < (E : Int) := by omega
      have hE6 : E ≤ 601 := by omega
      have hEs : E ≤ s.size := by omega
      obtain ⟨i0, hi0⟩ : ∃ i0 : Nat, 1 + lo = i0 := ⟨_, rfl⟩
      have hmx : Builtin.max2 (.int .i64 ((E : Int) - 4)) (.int .i64 1) = pure (.int .i64 (i0 : Int)) := by
        simp only [Builtin.max2, gt_iff_lt]
        congr 2
        split <;> omega
      have HLO := Lib.hid hlo
      have HE0 := Lib.hid hE
      have HI0 := Lib.hid hi0
      have hi0E : i0 < E := by omega
      clear hlo hE hi0
      go_wp2_with fail
      go_loop [6, 7] (fun mv iv => ∃ (i m : Nat), iv = .int .i64 (i : Int) ∧ mv = .int .i64 (m : Int) ∧ i0 ≤ i ∧ i ≤ E ∧ m ≤ 9999 ∧ Hid (m = dval ((D.take (i - 1)).drop lo))) (fun _ iv => E - (intOf iv).toNat)
      case atStart => exact ⟨i0, 0, rfl, rfl, Nat.le_refl _, by omega, by omega, Lib.hid (by rw [List.drop_eq_nil_of_le (by rw [List.length_take]; have := HI0.out; omega)]; rfl)⟩
      case round =>
        obtain ⟨i, m, rfl, rfl, hi1, hi2, hm9, HM⟩ := hrel
        by_cases hlt : i < E
        · have hlt2 : i < s.size := by omega
          obtain ⟨j, hj⟩ : ∃ j, i - 1 = j := ⟨_, rfl⟩
          have hij : 1 + j = i := by have := HI0.out; omega
          have hjD : j < D.length := by have := HN.out; have := HE0.out; omega
          have hby := HBY.out j hjD (by omega)
          simp only [hij] at hby
          obtain ⟨c, hc⟩ : ∃ c, s[i] = c := ⟨_, rfl⟩
          rw [hc] at hby
          have hcd := HDG.out c (hby ▸ List.getElem_mem _)
          have hc1 := hcd.1
          have hc2 := hcd.2
          have hst := dval_snoc_at D (j := j) (lo := lo) (by have := HI0.out; omega) hjD
          rw [← hby, show dval ((D.take j).drop lo) = m by rw [← hj]; exact HM.out.symm] at hst
          have hck := dval_chunk D HDG.out (j + 1) lo (by have := HI0.out; have := HE0.out; have := HLO.out; omega)
          rw [hst] at hck
          have HC := Lib.hid hc
          obtain ⟨t, ht⟩ : ∃ t : Int, (c.toNat : Int) = t := ⟨_, rfl⟩
          have ht1 : 48 ≤ t := by omega
          have ht2 : t ≤ 57 := by omega
          have HT := Lib.hid ht
          have HST := Lib.hid hst
          have HIJ := Lib.hid hij
          have hci : ((s[i]'hlt2).toNat : Int) = t := by rw [HC.out]; exact ht
          have hcn : ((m : Int) * 10 + (t - 48)) = ((m * 10 + (c.toNat - 48) : Nat) : Int) := by omega
          clear hcd hst hc hj hij hby hjD hc1 hc2 ht
          go_wp2_with fail
          refine ⟨⟨i + 1, m * 10 + (c.toNat - 48), by simp, by simp, by omega, by omega, by omega, Lib.hid ?_⟩, by simp [intOf]; omega⟩
          rw [show i + 1 - 1 = j + 1 by have := HIJ.out; omega]; exact HST.out.symm
        · obtain rfl : i = E := by omega
          have hrw : Row w .i64 none 0 [] := Row.nil w .i64
          have hst := HI.out.step HDG.out (by have := HN.out; omega)
          rw [HLO.out] at hst
          have hmr : dval ((D.take r).drop lo) = m := by rw [HM.out, show i - 1 = r by have := HE0.out; omega]
          rw [hmr] at hst
          have HST := Lib.hid hst
          have hrow := fun (W : World) => Row.lit 3 .i64 W W.heap.size rfl [m] #[Value.int .i64 (m : Int)] (by simp [enc]) 1 rfl (by omega)
          have HROW := Lib.hid hrow
          clear hst hmr hrow hrw
          go_wp2_with (at_builtin; refine wp_append (w0 := w.alloc (.cells #[.bool false, .slice none 0 0] 69)) rfl (.tmp 35) (.tmp 37) 67 3 .i64 rfl Tryz.underlying67 el_i64 _ L (HO.out.to (x := inferInstance)).ownS _ 1 [m] (HROW.out _) 1 rfl rfl rfl (by omega) ?_; intro v' w3 hO hg; obtain ⟨O3, c3, rfl, hS⟩ := hO.parts; have HS := Lib.hid hS; clear hO hg hS)
          have hLn : (L ++ [m]).length = L.length + 1 := by simp
          go_roundg (r - 4)
          case measure => omega
          case rel => exact ⟨k + 1, r - 4, _, L ++ [m], O3, c3, by simp, rfl, Nat.le_refl _, by omega, Lib.hid (by have := HE0.out; omega), Lib.hid (by have := HE0.out; omega), by omega, by omega, by omega, Lib.hid (HLO.out.symm ▸ HST.out), HS⟩
    · have hle : ¬ (1 : Int) < e := fun h => hr (HE.out.1 h)
      obtain rfl : r = 0 := by omega
      have hd := HI.out.done
      have HD := Lib.hid hd
      clear hd HE HE2
      go_wp2_with fail
      refine (made_spec O oc _ (dval D) true z L _ HO.out.row rfl HD.out HZ.out HP.out).mono ?_
      rintro e2 w2 ⟨T, tc, rfl, hT, hx⟩
      replace hx := Ext.tr (h := HO.out.1) hx
      obtain ⟨hc, hf, hs⟩ := hx.cells
      have HT := Lib.hid hT
      have HX := Lib.hid hx
      clear hT hx
      go_wp2_with fail
      have rr := cells_res HX.out (g := w.heap.size) rfl
      have r1 := fun v0 => (rr v0 undef).1
      have r2 := fun v0 v1 => (rr v0 v1).2.1
      have r3 := fun v0 v1 => (rr v0 v1).2.2
      exact bodyPost_ret (v := .agg #[.bool _, .slice T (dl B4 z.natAbs) tc]) (by simp [results, Tryz.results49, go_sem, r1, r2, r3]) rfl
        (ret_cell _ _ HX.out rfl inferInstance rfl HT.out rfl rfl)
theorem byte_at {s : ByteArray} {T : List UInt8} (hT : s.data.toList = T) (k : Nat) (h : k < s.size) (h' : k < T.length) : s[k]'h = T[k]'h' := by
  subst hT
  exact (get_list s k h).symm
theorem in_spec (s : ByteArray) (z : Int) (hz : Wh s z) (w : World) :
    Calls Tryz.prog 49 #[.string s] w (RetInt B4 .i64 w z) := by
  have hT : s.data.toList = Lib.itoa z := by rw [hz.1]; exact List.toList_toArray
  have hsz : s.size = (Lib.itoa z).length := by rw [← hT]; exact Array.length_toList.symm
  have hl : (Lib.decDigits z.natAbs).length = Lib.nDigits z.natAbs := Lib.decDigits_length _
  have hl0 := nDigits_pos z.natAbs
  have hl6 := hz.2
  have hdv : z.natAbs = dval (Lib.decDigits z.natAbs) := (dval_dec _).symm
  have hpn : (decide (0 < dval (Lib.decDigits z.natAbs))) = decide (0 < z.natAbs) := by rw [← hdv]
  rcases Int.lt_or_le z 0 with h | h
  · have hi := itoa_below h
    rw [hi] at hT hsz
    rw [List.length_cons] at hsz
    refine in_core1 (Lib.decDigits z.natAbs) s z w (by omega) (by omega) (by omega) (dec_dig _) (fun j hj h' => ?_) (by omega) ?_ hdv ?_
    · rw [byte_at hT (1 + j) h' (by rw [List.length_cons]; omega)]
      simp only [Nat.add_comm 1 j, List.getElem_cons_succ]
    · rw [byte_at hT 0 (by omega) (by simp)]; rfl
    · rw [hpn, neg_true h, decide_eq_true (by omega)]; rfl
  · have hi := itoa_pos h
    rw [hi] at hT hsz
    refine in_core0 (Lib.decDigits z.natAbs) s z w (by omega) (by omega) (by omega) (dec_dig _) (fun j hj h' => ?_) (by omega) ?_ hdv ?_
    · rw [byte_at hT (0 + j) h' (by omega)]
      simp only [Nat.zero_add]
    · rw [byte_at hT 0 (by omega) (by omega), beq_eq_false_iff_ne]
      have := dec_dig z.natAbs ((Lib.decDigits z.natAbs)[0]'(by omega)) (List.getElem_mem _)
      have := this.1
      omega
    · rw [neg_false h]; rfl
end Go.Proofs.YtkmmkobiigddkaaGreatDoor
