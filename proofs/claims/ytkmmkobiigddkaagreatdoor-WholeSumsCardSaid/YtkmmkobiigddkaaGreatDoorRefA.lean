import Derived.Test.YtkmmkobiigddkaaGreatDoorProg
import Derived.Test.YtkmmkobiigddkaaGreatDoorApiE
/-! The walks of the reference's whole numbers: cut, order, made, sum, difference. -/
set_option linter.unusedVariables false
set_option linter.unusedSimpArgs false
set_option maxRecDepth 100000
namespace Go.Proofs.YtkmmkobiigddkaaGreatDoor
open Go.RowKit

def B4 : Nat := 10000
theorem B4_eq : B4 = 10000 := rfl
theorem b42 : 2 ≤ B4 := by unfold B4; omega
theorem el_i64 : Elem Tryz.prog 3 .i64 := elem_of (b := 8) (by kernel_rfl) (by omega)

set_option maxHeartbeats 400000 in
theorem cut_spec (A : Option Addr) (c n : Nat) (l : List Nat) (w : World) (h : Row w .i64 A c l) (hn : l.length = n) :
    Calls Tryz.prog 100 #[.slice A n c] w (Ret w (.slice A (cutz l).length c)) := by
  subst hn
  have hm := h.len
  have hcap := h.cap
  go_enter Tryz.func100, Tryz.ntmps100
  go_wp2
  go_loopw [3] (fun i wr => ∃ k : Nat, k ≤ l.length ∧ i = .int .i64 k ∧ Hid (cutz l = cutz (l.take k)) ∧ Ext w wr) (fun i _ => (intOf i).toNat)
  case atStart => exact ⟨l.length, Nat.le_refl _, rfl, Lib.hid (by simp), inferInstance⟩
  case round =>
    obtain ⟨k, hk, rfl, he, hx⟩ := hrel
    rcases k with _ | k
    · have hz := take_trim_len hk he.out (.inl rfl)
      have HZ := Lib.hid hz; clear hz
      go_wp2
      go_ret
      exact ⟨ret_slice HZ.out.symm, hx⟩
    · obtain ⟨ad, rfl, hc⟩ := (h.ext (W := wr)).cell (by omega)
      have h1 := hc k (by omega)
      clear hc
      go_wp2
      · rename_i hz
        have hz : gn l k = 0 := by simpa using hz
        exact ⟨⟨k, by omega, rfl, Lib.hid (cutz_take_step hk he.out hz), hx⟩, by simp [intOf]⟩
      · rename_i hz
        have hz : gn l k ≠ 0 := by simpa using hz
        have hz := take_trim_len hk he.out (.inr hz)
        go_ret
        exact ⟨ret_slice hz.symm, hx⟩

/-- It tells which of two numbers is the greater. -/
def RetSgn (w : World) (m n : Nat) (e : Ending) (w' : World) : Prop := ∃ v : Int, e = .returned (.int .i64 v) ∧ ((v < 0 ∧ m < n) ∨ (v = 0 ∧ m = n) ∨ (0 < v ∧ n < m)) ∧ Ext w w'
set_option maxHeartbeats 1000000 in
theorem order4_spec (A B : Option Addr) (c d m n : Nat) (w : World) (ha : Num B4 .i64 w A c m) (hb : Num B4 .i64 w B d n) :
    Calls Tryz.prog 97 #[.slice A (dl B4 m) c, .slice B (dl B4 n) d] w (RetSgn w m n) := by
  have hma : dl B4 m ≤ 9223372036854775807 := ha.len
  have hmb : dl B4 n ≤ 9223372036854775807 := hb.len
  have HDA := Lib.hid (digs_lt b42 m)
  have HDB := Lib.hid (digs_lt b42 n)
  by_cases hl : dl B4 m = dl B4 n
  · have ha : Row w .i64 A c (digs B4 m) := ha
    have hb : Row w .i64 B d (digs B4 n) := hb
    have HL := Lib.hid hl
    rw [← hl]
    have hne : ((dl B4 m : Int) != (dl B4 m : Int)) = false := by simp
    clear hl hmb
    go_enter Tryz.func97, Tryz.ntmps97
    go_wp2
    go_loopw [5] (fun i wr => ∃ k : Nat, k ≤ dl B4 m ∧ i = .int .i64 ((k : Int) - 1) ∧ Hid (∀ j, k ≤ j → gn (digs B4 m) j = gn (digs B4 n) j) ∧ Ext w wr) (fun i _ => (intOf i + 1).toNat)
    case atStart => exact ⟨dl B4 m, Nat.le_refl _, rfl, Lib.hid fun j hj => by rw [gn_ge _ hj, gn_ge _ (show dl B4 n ≤ j by have := HL.out; omega)], inferInstance⟩
    case round =>
      obtain ⟨k, hk, rfl, he, hx⟩ := hrel
      rcases k with _ | k
      · go_wp2
        go_ret
        refine ⟨0, rfl, .inr (.inl ⟨rfl, ?_⟩), hx⟩
        have h1 := digs_inj b42 (m := m) (n := n) (List.ext_getElem (show (digs B4 m).length = (digs B4 n).length from HL.out) fun j h1 h2 => by
          have := he.out j (Nat.zero_le _)
          rwa [gn_lt _ h1, gn_lt _ h2] at this)
        exact h1
      · obtain ⟨ad, rfl, hca⟩ := (ha.ext (W := wr)).cell (by show 0 < dl B4 m; omega)
        obtain ⟨bd, rfl, hcb⟩ := (hb.ext (W := wr)).cell (by show 0 < dl B4 n; have := HL.out; omega)
        have h1 := hca k (by show k < dl B4 m; omega)
        have h2 := hcb k (by show k < dl B4 n; have := HL.out; omega)
        clear hca hcb
        have h3 : k < dl B4 m := by omega
        have b1 : gn (digs B4 m) k < 10000 := gn_mem_lt (by have := b42; omega) HDA.out k
        have b2 : gn (digs B4 n) k < 10000 := gn_mem_lt (by have := b42; omega) HDB.out k
        rw [show ((k + 1 : Nat) : Int) - 1 = (k : Int) by omega]
        obtain ⟨x, hx'⟩ : ∃ x : Int, (gn (digs B4 m) k : Int) = x := ⟨_, rfl⟩
        obtain ⟨y, hy'⟩ : ∃ y : Int, (gn (digs B4 n) k : Int) = y := ⟨_, rfl⟩
        have hx0 : 0 ≤ x ∧ x < 10000 := by omega
        have hy0 : 0 ≤ y ∧ y < 10000 := by omega
        obtain ⟨hx0, hx1⟩ := hx0
        obtain ⟨hy0, hy1⟩ := hy0
        rw [hx'] at h1
        rw [hy'] at h2
        have HXX := Lib.hid hx'
        have HYY := Lib.hid hy'
        clear hx' hy' b1 b2
        by_cases hxy : x = y
        · have hb1 : (x != y) = false := by simp [hxy]
          have HXY := Lib.hid hxy
          clear hxy
          go_wp2
          go_quiet (fail)
          go_wp2
          refine ⟨⟨k, by omega, rfl, Lib.hid fun j hj => ?_, inferInstance⟩, by simp [intOf]⟩
          rcases Nat.lt_or_ge k j with h4 | h4
          · exact he.out j h4
          · have h5 : j = k := by omega
            subst h5
            have := HXX.out; have := HYY.out; have := HXY.out; omega
        · have hb1 : (x != y) = true := by simp [hxy]
          go_wp2
          go_quiet (fail)
          go_wp2
          go_quiet (fail)
          go_wp2
          go_ret
          refine ⟨x - y, rfl, ?_, inferInstance⟩
          have hv := val_take_lt b42 (digs B4 m) (digs B4 n) HDA.out HDB.out k h3 HL.out
          have hv2 := val_take_lt b42 (digs B4 n) (digs B4 m) HDB.out HDA.out k (by show k < dl B4 n; have := HL.out; omega) HL.out.symm
          rw [val_digs b42, val_digs b42] at hv hv2
          have e1 := HXX.out
          have e2 := HYY.out
          rcases Int.lt_or_lt_of_ne hxy with h6 | h6
          · exact .inl ⟨by omega, hv (by omega) fun j hj => he.out j (by omega)⟩
          · exact .inr (.inr ⟨by omega, hv2 (by omega) fun j hj => (he.out j (by omega)).symm⟩)
  · have hne : ((dl B4 m : Int) != (dl B4 n : Int)) = true := by simp; omega
    have HL := Lib.hid hl
    clear hl
    go_enter Tryz.func97, Tryz.ntmps97
    go_wp2
    go_ret
    refine ⟨_, rfl, ?_, inferInstance⟩
    have := HL.out
    rcases Nat.lt_or_ge (dl B4 m) (dl B4 n) with h | h
    · exact .inl ⟨by omega, val_lt_of_len b42 _ _ h⟩
    · exact .inr (.inr ⟨by omega, val_lt_of_len b42 _ _ (by omega)⟩)

set_option maxHeartbeats 1000000 in
theorem made_spec (A : Option Addr) (c n m : Nat) (p : Bool) (z : Int) (l : List Nat) (w : World) (h : Row w .i64 A c l) (hn : l.length = n) (hl : cutz l = digs B4 m) (hz : z.natAbs = m) (hp : neg z = (p && decide (0 < m))) :
    Calls Tryz.prog 64 #[.bool p, .slice A n c] w (RetInt B4 .i64 w z) := by
  have H := Lib.hid h
  have HN := Lib.hid hn
  have HL := Lib.hid hl
  have HZ := Lib.hid hz
  have HP := Lib.hid hp
  have HLL := Lib.hid (show (cutz l).length = dl B4 m by rw [hl]; rfl)
  have hd0 : (m = 0 ∧ ¬ 0 < dl B4 m) ∨ (0 < m ∧ 0 < dl B4 m) := by
    rcases Nat.eq_zero_or_pos m with h | h
    · exact .inl ⟨h, by rw [h]; simp [dl_zero]⟩
    · exact .inr ⟨h, dl_pos b42 h⟩
  clear h hn hl hz hp
  rcases hd0 with ⟨hd0, hd⟩ | ⟨hd0, hd⟩
  all_goals
    have HD := Lib.hid hd0
    clear hd0
    cases p
    all_goals
      go_enter Tryz.func64, Tryz.ntmps64
      go_wp2_with fail
      refine (cut_spec A c n l _ H.out.ext HN.out).mono ?_
      rintro e w2 ⟨rfl, hx⟩
      rw [HLL.out]
      obtain ⟨hc, hf, hs⟩ := hx.cells
      have HX := Lib.hid hx
      clear hx
      go_wp2_with fail
      have hz2 := HP.out
      simp only [Bool.false_and, Bool.true_and] at hz2
      first | rw [decide_eq_false (show ¬ 0 < m by have := HD.out; omega)] at hz2 | rw [decide_eq_true (show 0 < m by have := HD.out; omega)] at hz2 | skip
      have r := cells_res HX.out (g := w.heap.size) rfl
      have r1 := fun v0 => (r v0 undef).1
      have r2 := fun v0 v1 => (r v0 v1).2.1
      have r3 := fun v0 v1 => (r v0 v1).2.2
      exact bodyPost_ret (v := .agg #[.bool _, .slice A (dl B4 m) c]) (by simp [results, Tryz.results64, go_sem, r1, r2, r3]) rfl
        (ret_cell _ _ HX.out rfl inferInstance HZ.out (show Row w2 .i64 A c (digs B4 m) by rw [← HL.out]; exact (Row.cutz H.out).ext (x := Ext.tr (h := inferInstance) HX.out)) hz2.symm rfl)
/-- A list of digits is returned. -/
def RetDigs (w : World) (m : Nat) (e : Ending) (w' : World) : Prop := ∃ (L : List Nat) (A : Option Addr) (c : Nat), e = .returned (.slice A L.length c) ∧ Row w' .i64 A c L ∧ cutz L = digs B4 m ∧ L.length ≤ 4398046511104 ∧ Ext w w'
/-- The sum so far: k digits; r is the carry. -/
structure SumI (p : Nat) (a b : List Nat) (k r : Nat) (L : List Nat) : Prop where
  len : L.length = k
  vl : val p L + p ^ k * r = val p (a.take k) + val p (b.take k)
  lo : ∀ d, d ∈ L → d < p
  one : r ≤ 1
theorem SumI.zero (p : Nat) (a b : List Nat) : SumI p a b 0 0 [] := ⟨rfl, by simp [val], by simp, by omega⟩
theorem SumI.step {p : Nat} {a b : List Nat} {k r : Nat} {L : List Nat} (hp : 2 ≤ p) (h : SumI p a b k r L) (ha : ∀ d, d ∈ a → d < p) (hb : ∀ d, d ∈ b → d < p) (x : Nat) (hx : x = r + gn a k + gn b k) :
    SumI p a b (k + 1) (x / p) (L ++ [x % p]) := by
  have h1 := gn_mem_lt (show 0 < p by omega) ha k
  have h2 := gn_mem_lt (show 0 < p by omega) hb k
  have h3 := h.one
  have hd : x / p ≤ 1 := Nat.lt_succ_iff.1 ((Nat.div_lt_iff_lt_mul (by omega)).2 (by omega))
  refine ⟨by simp [h.len], ?_, ?_, hd⟩
  · rw [val_append, val_take_gn, val_take_gn, h.len]
    have h4 := h.vl
    have e1 : p ^ (k + 1) * (x / p) + p ^ k * (x % p) = p ^ k * x := by rw [Nat.pow_succ, Nat.mul_assoc, ← Nat.mul_add, Nat.div_add_mod]
    have e2 : p ^ k * x = p ^ k * r + p ^ k * gn a k + p ^ k * gn b k := by rw [hx, Nat.mul_add, Nat.mul_add]
    simp only [val, Nat.mul_zero, Nat.add_zero]
    omega
  · intro d hd
    rcases List.mem_append.1 hd with hd | hd
    · exact h.lo d hd
    · rw [List.mem_singleton] at hd; rw [hd]; exact Nat.mod_lt _ (by omega)
theorem SumI.over {p m n k r : Nat} {L : List Nat} (hp : 2 ≤ p) (h : SumI p (digs p m) (digs p n) k r L) (hk : max (dl p m) (dl p n) < k) : r = 0 := by
  have h1 := h.vl
  rw [List.take_of_length_le (show (digs p m).length ≤ k by show dl p m ≤ k; omega), List.take_of_length_le (show (digs p n).length ≤ k by show dl p n ≤ k; omega), val_digs hp, val_digs hp] at h1
  have h2 : m < p ^ max (dl p m) (dl p n) := Nat.lt_of_lt_of_le (lt_pow_dl hp m) (Nat.pow_le_pow_right (by omega) (Nat.le_max_left _ _))
  have h3 : n < p ^ max (dl p m) (dl p n) := Nat.lt_of_lt_of_le (lt_pow_dl hp n) (Nat.pow_le_pow_right (by omega) (Nat.le_max_right _ _))
  have h4 : p ^ (max (dl p m) (dl p n) + 1) ≤ p ^ k := Nat.pow_le_pow_right (by omega) hk
  rw [Nat.pow_succ] at h4
  have h5 := Nat.mul_le_mul_left (p ^ max (dl p m) (dl p n)) hp
  rcases Nat.eq_zero_or_pos r with h6 | h6
  · exact h6
  · have : p ^ k ≤ p ^ k * r := Nat.le_mul_of_pos_right _ h6
    omega
theorem SumI.done {p m n k : Nat} {L : List Nat} (hp : 2 ≤ p) (h : SumI p (digs p m) (digs p n) k 0 L) (hm : dl p m ≤ k) (hn : dl p n ≤ k) : cutz L = digs p (m + n) := by
  have h1 := h.vl
  rw [List.take_of_length_le (show (digs p m).length ≤ k from hm), List.take_of_length_le (show (digs p n).length ≤ k from hn), val_digs hp, val_digs hp, Nat.mul_zero, Nat.add_zero] at h1
  rw [← h1]; exact (digs_of_val hp L h.lo).symm

set_option maxHeartbeats 1000000 in
theorem sum4_spec (A B : Option Addr) (c d m n : Nat) (w : World) (ha : Num B4 .i64 w A c m) (hb : Num B4 .i64 w B d n) (hm : dl B4 m ≤ 1099511627776) (hn : dl B4 n ≤ 1099511627776) :
    Calls Tryz.prog 96 #[.slice A (dl B4 m) c, .slice B (dl B4 n) d] w (RetDigs w (m + n)) := by
  have HDA := Lib.hid (digs_lt b42 m)
  have HDB := Lib.hid (digs_lt b42 n)
  have hra : Row w .i64 A c (digs B4 m) := ha
  have hrb : Row w .i64 B d (digs B4 n) := hb
  have hm0 : (0 : Int) ≤ (dl B4 m : Int) := by omega
  have hn0 : (0 : Int) ≤ (dl B4 n : Int) := by omega
  clear ha hb
  go_enter Tryz.func96, Tryz.ntmps96
  go_wp2_with fail
  go_loopg [5, 6, 7] (max (dl B4 m) (dl B4 n) + 1) (fun g ov cv iv wr => ∃ (k r : Nat) (L : List Nat) (O : Option Addr) (oc : Nat), ov = .slice O L.length oc ∧ cv = .int .i64 (r : Int) ∧ iv = .int .i64 (k : Int) ∧ k + g = max (dl B4 m) (dl B4 n) + 1 ∧ r ≤ 1 ∧
    Hid (SumI B4 (digs B4 m) (digs B4 n) k r L) ∧ Hid (OwnA 3 .i64 w wr O oc L))
  case atStart => exact ⟨0, 0, [], none, 0, rfl, rfl, rfl, by omega, by omega, Lib.hid (SumI.zero _ _ _), Lib.hid ⟨inferInstance, .inl ⟨rfl, rfl, rfl⟩⟩⟩
  case round =>
    obtain ⟨k, r, L, O, oc, rfl, rfl, rfl, hkg, hr1, HI, HO⟩ := hrel
    have hLk : L.length = k := HI.out.len
    have HLK := Lib.hid hLk
    have HKG := Lib.hid hkg
    have hkb : k ≤ 1099511627777 := by omega
    have HL1 := Lib.hid (show ∀ x, (L ++ [x]).length = k + 1 from fun x => by simp [hLk])
    rw [hLk]
    clear hLk hkg
    by_cases h1 : k < dl B4 m
    · obtain ⟨ad, rfl, hca⟩ := (hra.ext (x := HO.out.1)).cell (by show 0 < dl B4 m; omega)
      have ga := hca k h1
      clear hca
      have ba : gn (digs B4 m) k < 10000 := gn_mem_lt (by have := b42; omega) HDA.out k
      by_cases h2 : k < dl B4 n
      · obtain ⟨bd, rfl, hcb⟩ := (hrb.ext (x := HO.out.1)).cell (by show 0 < dl B4 n; omega)
        have gb := hcb k h2
        clear hcb
        have bb : gn (digs B4 n) k < 10000 := gn_mem_lt (by have := b42; omega) HDB.out k
        obtain ⟨x, hx⟩ : ∃ x, r + gn (digs B4 m) k + gn (digs B4 n) k = x := ⟨_, rfl⟩
        have hxi : (r : Int) + (gn (digs B4 m) k : Int) + (gn (digs B4 n) k : Int) = (x : Int) := by omega
        have hx2 : x ≤ 20000 := by omega
        have hst := HI.out.step b42 HDA.out HDB.out x hx.symm
        have HST := Lib.hid hst
        have hgp : 0 < gk := by
          rcases Nat.eq_zero_or_pos gk with h0 | h0
          · have h9 : max (dl B4 m) (dl B4 n) < k := by have := HKG.out; omega
            have := HI.out.over b42 h9
            omega
          · exact h0
        have hrow := fun (W : World) => Row.lit 3 .i64 W W.heap.size rfl [x % B4] #[Value.int .i64 ((x : Int) % 10000)] (by simp [enc, B4]) 1 rfl (by omega)
        have HROW := Lib.hid hrow
        clear hx hst hrow
        go_wp2_with (at_builtin; refine wp_append (w0 := w) rfl (.tmp 44) (.tmp 47) 67 3 .i64 rfl Tryz.underlying67 el_i64 _ L (HO.out.to (x := inferInstance)).ownS _ 1 [x % B4] (HROW.out _) 1 (by rw [HLK.out]; rfl) rfl rfl (by have := HLK.out; omega) ?_; intro v' w3 hO hg; obtain ⟨O3, c3, rfl, hS⟩ := hO.parts; rw [HL1.out]; have HS := Lib.hid hS; clear hO hg hS)
        go_roundg (gk - 1)
        case measure => omega
        case rel => exact ⟨k + 1, x / B4, L ++ [x % B4], O3, c3, by rw [HL1.out], rfl, by simp, by have := HKG.out; omega, HST.out.one, HST, HS⟩
      · have zb : gn (digs B4 n) k = 0 := gn_ge _ (by show dl B4 n ≤ k; omega)
        obtain ⟨x, hx⟩ : ∃ x, r + gn (digs B4 m) k + gn (digs B4 n) k = x := ⟨_, rfl⟩
        have hxi : (r : Int) + (gn (digs B4 m) k : Int) = (x : Int) := by omega
        have hx2 : x ≤ 20000 := by omega
        have hst := HI.out.step b42 HDA.out HDB.out x hx.symm
        have HST := Lib.hid hst
        have hgp : 0 < gk := by
          rcases Nat.eq_zero_or_pos gk with h0 | h0
          · have h9 : max (dl B4 m) (dl B4 n) < k := by have := HKG.out; omega
            have := HI.out.over b42 h9
            omega
          · exact h0
        have hrow := fun (W : World) => Row.lit 3 .i64 W W.heap.size rfl [x % B4] #[Value.int .i64 ((x : Int) % 10000)] (by simp [enc, B4]) 1 rfl (by omega)
        have HROW := Lib.hid hrow
        clear hx hst hrow zb
        go_wp2_with (at_builtin; refine wp_append (w0 := w) rfl (.tmp 44) (.tmp 47) 67 3 .i64 rfl Tryz.underlying67 el_i64 _ L (HO.out.to (x := inferInstance)).ownS _ 1 [x % B4] (HROW.out _) 1 (by rw [HLK.out]; rfl) rfl rfl (by have := HLK.out; omega) ?_; intro v' w3 hO hg; obtain ⟨O3, c3, rfl, hS⟩ := hO.parts; rw [HL1.out]; have HS := Lib.hid hS; clear hO hg hS)
        go_roundg (gk - 1)
        case measure => omega
        case rel => exact ⟨k + 1, x / B4, L ++ [x % B4], O3, c3, by rw [HL1.out], rfl, by simp, by have := HKG.out; omega, HST.out.one, HST, HS⟩
    · have za : gn (digs B4 m) k = 0 := gn_ge _ (by show dl B4 m ≤ k; omega)
      by_cases h2 : k < dl B4 n
      · obtain ⟨bd, rfl, hcb⟩ := (hrb.ext (x := HO.out.1)).cell (by show 0 < dl B4 n; omega)
        have gb := hcb k h2
        clear hcb
        have bb : gn (digs B4 n) k < 10000 := gn_mem_lt (by have := b42; omega) HDB.out k
        obtain ⟨x, hx⟩ : ∃ x, r + gn (digs B4 m) k + gn (digs B4 n) k = x := ⟨_, rfl⟩
        have hxi : (r : Int) + (gn (digs B4 n) k : Int) = (x : Int) := by omega
        have hx2 : x ≤ 20000 := by omega
        have hst := HI.out.step b42 HDA.out HDB.out x hx.symm
        have HST := Lib.hid hst
        have hgp : 0 < gk := by
          rcases Nat.eq_zero_or_pos gk with h0 | h0
          · have h9 : max (dl B4 m) (dl B4 n) < k := by have := HKG.out; omega
            have := HI.out.over b42 h9
            omega
          · exact h0
        have hrow := fun (W : World) => Row.lit 3 .i64 W W.heap.size rfl [x % B4] #[Value.int .i64 ((x : Int) % 10000)] (by simp [enc, B4]) 1 rfl (by omega)
        have HROW := Lib.hid hrow
        clear hx hst hrow za
        go_wp2_with (at_builtin; refine wp_append (w0 := w) rfl (.tmp 44) (.tmp 47) 67 3 .i64 rfl Tryz.underlying67 el_i64 _ L (HO.out.to (x := inferInstance)).ownS _ 1 [x % B4] (HROW.out _) 1 (by rw [HLK.out]; rfl) rfl rfl (by have := HLK.out; omega) ?_; intro v' w3 hO hg; obtain ⟨O3, c3, rfl, hS⟩ := hO.parts; rw [HL1.out]; have HS := Lib.hid hS; clear hO hg hS)
        go_roundg (gk - 1)
        case measure => omega
        case rel => exact ⟨k + 1, x / B4, L ++ [x % B4], O3, c3, by rw [HL1.out], rfl, by simp, by have := HKG.out; omega, HST.out.one, HST, HS⟩
      · have zb : gn (digs B4 n) k = 0 := gn_ge _ (by show dl B4 n ≤ k; omega)
        by_cases h3 : 0 < r
        · have hst := HI.out.step b42 HDA.out HDB.out r (by omega)
          have HST := Lib.hid hst
          have hgp : 0 < gk := by
            rcases Nat.eq_zero_or_pos gk with h0 | h0
            · have h9 : max (dl B4 m) (dl B4 n) < k := by have := HKG.out; omega
              have := HI.out.over b42 h9
              omega
            · exact h0
          have hrow := fun (W : World) => Row.lit 3 .i64 W W.heap.size rfl [r % B4] #[Value.int .i64 ((r : Int) % 10000)] (by simp [enc, B4]) 1 rfl (by omega)
          have HROW := Lib.hid hrow
          clear hst hrow za zb
          go_wp2_with (at_builtin; refine wp_append (w0 := w) rfl (.tmp 44) (.tmp 47) 67 3 .i64 rfl Tryz.underlying67 el_i64 _ L (HO.out.to (x := inferInstance)).ownS _ 1 [r % B4] (HROW.out _) 1 (by rw [HLK.out]; rfl) rfl rfl (by have := HLK.out; omega) ?_; intro v' w3 hO hg; obtain ⟨O3, c3, rfl, hS⟩ := hO.parts; rw [HL1.out]; have HS := Lib.hid hS; clear hO hg hS)
          go_roundg (gk - 1)
          case measure => omega
          case rel => exact ⟨k + 1, r / B4, L ++ [r % B4], O3, c3, by rw [HL1.out], rfl, by simp, by have := HKG.out; omega, HST.out.one, HST, HS⟩
        · obtain rfl : r = 0 := by omega
          have hd := HI.out.done b42 (by omega) (by omega)
          have HD := Lib.hid hd
          clear za zb hd h3
          go_wp2_with fail
          go_ret
          exact ⟨L, O, oc, by rw [HLK.out]; rfl, HO.out.row, HD.out, by have := HLK.out; omega, HO.out.1⟩

end Go.Proofs.YtkmmkobiigddkaaGreatDoor
