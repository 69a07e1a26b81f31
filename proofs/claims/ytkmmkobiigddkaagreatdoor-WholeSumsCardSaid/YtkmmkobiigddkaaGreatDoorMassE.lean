import Derived.Test.YtkmmkobiigddkaaGreatDoorProg
import Derived.Test.YtkmmkobiigddkaaGreatDoorMassD
/-! The walks of package whole's magnitudes: Times, one. -/
set_option linter.unusedVariables false
set_option linter.unusedSimpArgs false
set_option maxRecDepth 100000
namespace Go.Proofs.YtkmmkobiigddkaaGreatDoor
open Go.RowKit

/-- The product so far: i digits of a, and of the next one j digits of b; r is the carry. -/
structure ProdI (p : Nat) (a b : List Nat) (i j r : Nat) (L : List Nat) : Prop where
  len : L.length = a.length + b.length
  vl : val p L + p ^ (i + j) * r = val p (a.take i) * val p b + p ^ i * gn a i * val p (b.take j)
  lo : ∀ k, gn L k < p
  rt : r < p
  hi : ∀ k, i + b.length ≤ k → gn L k = 0
/-- Between two rounds. -/
structure ProdO (p : Nat) (a b : List Nat) (i : Nat) (L : List Nat) : Prop where
  len : L.length = a.length + b.length
  vl : val p L = val p (a.take i) * val p b
  lo : ∀ k, gn L k < p
  hi : ∀ k, i + b.length ≤ k → gn L k = 0
theorem ProdO.start {p : Nat} (hp : 2 ≤ p) (a b : List Nat) : ProdO p a b 0 (List.replicate (a.length + b.length) 0) :=
  ⟨by simp, by simp [val_replicate, val], fun k => by rw [gn_replicate]; omega, fun k _ => gn_replicate _ _⟩
theorem ProdO.begin {p : Nat} {a b : List Nat} {i : Nat} {L : List Nat} (hp : 2 ≤ p) (h : ProdO p a b i L) : ProdI p a b i 0 0 L :=
  ⟨h.len, by simp [h.vl, val], h.lo, by omega, h.hi⟩
theorem ProdI.small {p : Nat} {a b : List Nat} {i j r : Nat} {L : List Nat} (hp : 2 ≤ p) (h : ProdI p a b i j r L) (ha : ∀ d, d ∈ a → d < p) (hb : ∀ d, d ∈ b → d < p) :
    gn a i * gn b j + r + gn L (i + j) < p * p := by
  have h1 := gn_mem_lt (by omega) ha i
  have h2 := gn_mem_lt (by omega) hb j
  have h3 := h.rt
  have h4 := h.lo (i + j)
  have h5 : gn a i * gn b j ≤ (p - 1) * (p - 1) := Nat.mul_le_mul (by omega) (by omega)
  obtain ⟨q, rfl⟩ : ∃ q, p = q + 1 := ⟨p - 1, by omega⟩
  have h6 : (q + 1) * (q + 1) = q * q + 2 * q + 1 := by rw [Nat.add_mul, Nat.mul_add]; omega
  simp only [Nat.add_sub_cancel] at h5
  omega
theorem ProdI.step {p : Nat} {a b : List Nat} {i j r : Nat} {L : List Nat} (hp : 2 ≤ p) (h : ProdI p a b i j r L) (hi : i < a.length) (hj : j < b.length) (ha : ∀ d, d ∈ a → d < p) (hb : ∀ d, d ∈ b → d < p) :
    ProdI p a b i (j + 1) ((gn a i * gn b j + r + gn L (i + j)) / p) (L.set (i + j) ((gn a i * gn b j + r + gn L (i + j)) % p)) := by
  have hs := h.small hp ha hb
  have hl := h.len
  generalize ht : gn a i * gn b j + r + gn L (i + j) = t at *
  have hlt : i + j < L.length := by omega
  refine ⟨by simp [hl], ?_, fun k => ?_, ?_, fun k hk => ?_⟩
  · have hv := val_set p L (i + j) (t % p) hlt
    have h0 := h.vl
    rw [val_take_succ p b j hj]
    have e1 : p ^ (i + (j + 1)) * (t / p) + p ^ (i + j) * (t % p) = p ^ (i + j) * t := by
      have : p ^ (i + (j + 1)) = p ^ (i + j) * p := by rw [← Nat.add_assoc, Nat.pow_succ]
      rw [this, Nat.mul_assoc, ← Nat.mul_add, Nat.div_add_mod]
    have e2 : p ^ (i + j) * t = p ^ (i + j) * (gn a i * gn b j) + p ^ (i + j) * r + p ^ (i + j) * gn L (i + j) := by rw [← ht, Nat.mul_add, Nat.mul_add]
    have e3 : p ^ i * gn a i * (val p (b.take j) + p ^ j * gn b j) = p ^ i * gn a i * val p (b.take j) + p ^ (i + j) * (gn a i * gn b j) := by
      rw [Nat.mul_add, Nat.pow_add]
      congr 1
      rw [Nat.mul_assoc, Nat.mul_assoc, Nat.mul_left_comm (gn a i)]
    rw [e3]
    omega
  · rw [gn_set _ _ _ _ hlt]
    split
    · exact Nat.mod_lt _ (by omega)
    · exact h.lo k
  · rw [Nat.div_lt_iff_lt_mul (by omega)]; exact hs
  · rw [gn_set _ _ _ _ hlt, if_neg (by omega)]; exact h.hi k hk
theorem ProdI.done {p : Nat} {a b : List Nat} {i r : Nat} {L : List Nat} (hp : 2 ≤ p) (h : ProdI p a b i b.length r L) (hi : i < a.length) : ProdO p a b (i + 1) (L.set (i + b.length) r) := by
  have hl := h.len
  have hlt : i + b.length < L.length := by omega
  have h0 := h.hi (i + b.length) (Nat.le_refl _)
  refine ⟨by simp [hl], ?_, fun k => ?_, fun k hk => ?_⟩
  · have hv := val_set p L (i + b.length) r hlt
    have h1 := h.vl
    rw [h0, Nat.mul_zero] at hv
    rw [List.take_length] at h1
    rw [val_take_succ p a i hi, Nat.add_mul]
    omega
  · rw [gn_set _ _ _ _ hlt]
    split
    · exact h.rt
    · exact h.lo k
  · rw [gn_set _ _ _ _ hlt, if_neg (by omega)]; exact h.hi k (by omega)
theorem ProdO.done {p m n : Nat} {L : List Nat} (hp : 2 ≤ p) (h : ProdO p (digs p m) (digs p n) (digs p m).length L) : cutz L = digs p (m * n) := by
  have hv := h.vl
  rw [List.take_length, val_digs hp, val_digs hp] at hv
  rw [← hv]
  exact (digs_of_val hp L fun x hx => by
    obtain ⟨j, hj, rfl⟩ := List.getElem_of_mem hx
    rw [← gn_lt L hj]; exact h.lo j).symm

/-- The words of x y + c + l. -/
theorem mul_parts (x y c l : Nat) (hx : x < 1000000000000000000) (hy : y < 1000000000000000000) (hs : x * y + c + l < 1000000000000000000 * 1000000000000000000) (hc : c < 1000000000000000000) (hl : l < 1000000000000000000) :
    ∃ (H0 L0 L1 : Nat) (C1 C2 L2 : Int) (X : Nat), X = x * y + c + l ∧ x * y / 18446744073709551616 = H0 ∧ x * y % 18446744073709551616 = L0 ∧
      (∀ w, (callFunc 121 #[.int .u64 (L0 : Int), .int .u64 (c : Int), .int .u64 0]).run Tryz.prog w = .ok (.value (.tuple #[.int .u64 (L1 : Int), .int .u64 C1])) w) ∧
      (∀ w, (callFunc 121 #[.int .u64 (L1 : Int), .int .u64 (l : Int), .int .u64 0]).run Tryz.prog w = .ok (.value (.tuple #[.int .u64 L2, .int .u64 C2])) w) ∧
      (0 ≤ C1 ∧ C1 ≤ 1) ∧ (0 ≤ C2 ∧ C2 ≤ 1) ∧ (H0 ≤ 1000000000000000000) ∧ (H0 + C1 + C2 < 1000000000000000000) ∧ 0 ≤ L2 ∧ L2 ≤ 18446744073709551615 ∧ ((H0 : Int) + C1 + C2) * two64 + L2 = (X : Int) := by
  refine ⟨_, _, _, _, _, _, _, rfl, rfl, rfl, fun w => add64_run _ _ w, fun w => add64_run _ _ w, ?_⟩
  unfold two64
  generalize x * y = z at *
  omega

set_option maxHeartbeats 4000000 in
theorem times_spec (A B : Option Addr) (c d m n : Nat) (w : World) (ha : Num Big .u64 w A c m) (hb : Num Big .u64 w B d n) (hm : dl Big m ≤ 1099511627776) (hn : dl Big n ≤ 1099511627776) :
    Calls Tryz.prog 101 #[.slice A (dl Big m) c, .slice B (dl Big n) d] w (RetNum Big .u64 w (m * n)) := by
  have HDA := Lib.hid (digs_lt big2 m)
  have HDB := Lib.hid (digs_lt big2 n)
  have hra : Row w .u64 A c (digs Big m) := ha
  have hrb : Row w .u64 B d (digs Big n) := hb
  have HP := Lib.hid big2
  have hm0 : (0 : Int) ≤ (dl Big m : Int) := by omega
  have hn0 : (0 : Int) ≤ (dl Big n : Int) := by omega
  clear ha hb
  go_enter Tryz.func101, Tryz.ntmps101
  go_wp2_with (at_make; refine wp_make (w0 := w) rfl (.tmp 18) 61 100 .u64 rfl Tryz.underlying61 el_u64 .i64 _ (dl Big m + dl Big n) rfl (by simp) (by omega) inferInstance ?_; intro w1 hA)
  go_loopw [22] (fun u wr => ∃ (i : Nat) (L : List Nat), i ≤ dl Big m ∧ u = .int .i64 (i : Int) ∧ Hid (ProdO Big (digs Big m) (digs Big n) i L) ∧ Hid (Arr 100 .u64 w wr w.heap.size (dl Big m + dl Big n) L)) (fun u _ => dl Big m - (intOf u).toNat)
  case atStart => exact ⟨0, _, Nat.zero_le _, rfl, Lib.hid (ProdO.start big2 _ _), Lib.hid hA⟩
  case round =>
    clear hA
    obtain ⟨i, L, hi, rfl, hI, hA⟩ := hrel
    by_cases hlt : i < dl Big m
    · obtain ⟨ad, rfl, hca⟩ := (hra.ext (x := hA.out.ext)).cell (by show 0 < dl Big m; omega)
      have h1 := hca i hlt
      clear hca
      obtain ⟨wo, rfl⟩ : ∃ wo : World, wo = wr := ⟨_, rfl⟩
      go_wp2
      go_loopw [8, 29] (fun x u wr => ∃ (j r : Nat) (L : List Nat), j ≤ dl Big n ∧ u = .int .i64 (j : Int) ∧ x = .int .u64 (r : Int) ∧ Hid (ProdI Big (digs Big m) (digs Big n) i j r L) ∧ Hid (Arr 100 .u64 w wr w.heap.size (dl Big m + dl Big n) L)) (fun _ u _ => dl Big n - (intOf u).toNat)
      case atStart => exact ⟨0, 0, _, Nat.zero_le _, rfl, rfl, Lib.hid (hI.out.begin big2), hA⟩
      case round =>
        clear hI hA h1
        obtain ⟨j, r, L, hj, rfl, rfl, hI, hA⟩ := hrel
        by_cases hjt : j < dl Big n
        · have hLn : L.length = dl Big m + dl Big n := hI.out.len
          obtain ⟨bd, rfl, hcb⟩ := (hrb.ext (x := hA.out.ext)).cell (by show 0 < dl Big n; omega)
          have h1 := hcb j hjt
          clear hcb
          have h2 := hA.out.cell (j := i + j) (by omega)
          have h3 := hA.out.frozen (i + j)
          clear hLn
          have b1 : gn (digs Big m) i < 1000000000000000000 := gn_mem_lt (by have := HP.out; omega) HDA.out i
          have b2 : gn (digs Big n) j < 1000000000000000000 := gn_mem_lt (by have := HP.out; omega) HDB.out j
          have b3 : r < 1000000000000000000 := hI.out.rt
          have b4 : gn L (i + j) < 1000000000000000000 := hI.out.lo (i + j)
          obtain ⟨H0, L0, L1, C1, C2, L2, X, eX, eH, eL, ad1, ad2, f1, f2, f3, f4, f5, f6, f7⟩ := mul_parts _ _ _ _ b1 b2 (hI.out.small HP.out HDA.out HDB.out) b3 b4
          have EX := Lib.hid eX
          have EH := Lib.hid eH
          have EL := Lib.hid eL
          have B1 := Lib.hid b1
          have B2 := Lib.hid b2
          clear eX eH eL b1 b2 b3 b4
          have st := hI.out.step HP.out hlt hjt HDA.out HDB.out
          rw [← EX.out] at st
          have ST := Lib.hid st
          clear st
          go_wp2_with (first
            | (go_at_call 120; refine (Tryz.bits_Mul64 _ _ (by have := B1.out; omega) (by have := B2.out; omega) _).mono ?_; rintro e w' ⟨rfl, hw⟩; obtain rfl := hw.symm; rw [EH.out, EL.out])
            | (go_at_call 122; refine (div64_spec _ _ _ X _ f7 (by omega) (by omega) (by omega) f5 f6).mono ?_; rintro e w' ⟨rfl, hx⟩; have hA2 := Lib.hid (hA.out.to (x := hx)); have h4 := hA2.out.cell (j := i + j) (by have : L.length = dl Big m + dl Big n := hI.out.len; omega); have h5 := hA2.out.frozen (i + j)))
          refine ⟨⟨j + 1, _, _, by omega, by simp, ?_, ST, Lib.hid ?_⟩, by simp [intOf]; omega⟩
          · rfl
          · exact hA2.out.set (i + j) (X % Big)
        · obtain rfl : j = dl Big n := by omega
          have dn := hI.out.done HP.out hlt
          have DN := Lib.hid dn
          have hLn : L.length = dl Big m + dl Big n := hI.out.len
          have h2 := hA.out.cell (j := i + dl Big n) (by omega)
          have h3 := hA.out.frozen (i + dl Big n)
          clear hLn dn
          go_wp2
          refine ⟨⟨i + 1, _, by omega, by simp, DN, Lib.hid ?_⟩, by simp [intOf]; omega⟩
          exact hA.out.set (i + dl Big n) r
    · obtain rfl : i = dl Big m := by omega
      have hd := ProdO.done HP.out hI.out
      have hrow := hA.out.row
      have hc := Row.cutz hrow
      rw [hd] at hc
      have HD := Lib.hid hd
      have HLn := Lib.hid (show L.length = dl Big m + dl Big n from hI.out.len)
      clear hd
      have hx0 := hA.out.ext
      go_wp2_with (go_at_call 75; refine (trim_spec _ _ _ L _ hrow HLn.out).mono ?_; rintro e w3 ⟨rfl, hx⟩)
      go_ret
      exact ⟨_, _, ret_slice (by rw [HD.out]; rfl), hc.ext, Ext.tr hx⟩
end Go.Proofs.YtkmmkobiigddkaaGreatDoor
