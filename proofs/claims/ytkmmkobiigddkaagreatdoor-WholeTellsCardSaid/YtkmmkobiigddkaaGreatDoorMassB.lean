import Derived.Test.YtkmmkobiigddkaaGreatDoorProg
import Derived.Test.YtkmmkobiigddkaaGreatDoorMassA
/-! The walks of package whole's magnitudes: Plus. -/
set_option linter.unusedVariables false
set_option linter.unusedSimpArgs false
set_option maxRecDepth 100000
namespace Go.Proofs.YtkmmkobiigddkaaGreatDoor
open Go.RowKit

theorem el_u64 : Elem Tryz.prog 100 .u64 := elem_of (b := 8) (by kernel_rfl) (by omega)

/-- The sum so far: the first k digits of b are added. -/
structure PlusA (p : Nat) (a b : List Nat) (n k : Nat) (L : List Nat) : Prop where
  len : L.length = n
  vl : val p L = val p a + val p (b.take k)
  lo : ∀ j, j < k → gn L j ≤ 2 * p - 2
  hi : ∀ j, k ≤ j → gn L j = gn a j
/-- The carries so far. -/
structure PlusB (p v n k : Nat) (L : List Nat) : Prop where
  len : L.length = n
  vl : val p L = v
  lo : ∀ j, j < k → gn L j < p
  mid : gn L k ≤ 2 * p - 1
  hi : ∀ j, k < j → gn L j ≤ 2 * p - 2
  last : gn L (n - 1) ≤ if k + 1 = n then 1 else 0

theorem PlusA.zero (p : Nat) (a b : List Nat) (m : Nat) : PlusA p a b (a.length + m) 0 (a ++ List.replicate m 0) :=
  ⟨by simp, by simp [val_pad, Go.Proofs.YtkmmkobiigddkaaGreatDoor.val], by intro j h; omega, fun j _ => gn_pad a m j⟩
theorem PlusA.step {p : Nat} {a b : List Nat} {n k : Nat} {L : List Nat} (hp : 2 ≤ p) (h : PlusA p a b n k L) (hk : k < b.length) (hn : k < n) (ha : ∀ d, d ∈ a → d < p) (hb : ∀ d, d ∈ b → d < p) :
    PlusA p a b n (k + 1) (L.set k (gn L k + gn b k)) := by
  have e1 := gn_mem_lt (by omega) ha k
  have e2 := gn_mem_lt (by omega) hb k
  have e3 := h.hi k (Nat.le_refl _)
  refine ⟨by simp [h.len], ?_, fun j hj => ?_, fun j hj => ?_⟩
  · have h1 := val_set p L k (gn L k + gn b k) (by rw [h.len]; omega)
    rw [val_take_succ p b k hk]
    have h2 := h.vl
    rw [Nat.mul_add] at h1; omega
  · rw [gn_set _ _ _ _ (by rw [h.len]; omega)]
    split
    · omega
    · exact h.lo j (by omega)
  · rw [gn_set _ _ _ _ (by rw [h.len]; omega), if_neg (by omega)]
    exact h.hi j (by omega)
theorem PlusB.zero {p : Nat} {a b : List Nat} {n : Nat} {L : List Nat} (hp : 2 ≤ p) (h : PlusA p a b n b.length L) (ha : ∀ d, d ∈ a → d < p) (hn : n = max a.length b.length + 1) : PlusB p (val p a + val p b) n 0 L := by
  have all : ∀ j, gn L j ≤ 2 * p - 2 := fun j => by
    by_cases hj : j < b.length
    · exact h.lo j hj
    · rw [h.hi j (by omega)]; have := gn_mem_lt (by omega) ha j; omega
  refine ⟨h.len, by simpa using h.vl, by intro j hj; omega, by have := all 0; omega, fun j _ => all j, ?_⟩
  rw [h.hi (n - 1) (by omega), gn_ge a (by omega)]; omega
theorem PlusB.keep {p v n k : Nat} {L : List Nat} (h : PlusB p v n k L) (hk : k + 1 < n) (hlt : gn L k < p) : PlusB p v n (k + 1) L := by
  refine ⟨h.len, h.vl, fun j hj => ?_, by have := h.hi (k + 1) (by omega); omega, fun j hj => h.hi j (by omega), ?_⟩
  · rcases Nat.lt_or_ge j k with hj' | hj'
    · exact h.lo j hj'
    · have : j = k := by omega
      rw [this]; exact hlt
  · have := h.last; rw [if_neg (by omega)] at this; omega
theorem PlusB.carry {p v n k : Nat} {L : List Nat} (hp : 2 ≤ p) (h : PlusB p v n k L) (hk : k + 1 < n) (hge : p ≤ gn L k) :
    PlusB p v n (k + 1) ((L.set k (gn L k - p)).set (k + 1) (gn L (k + 1) + 1)) := by
  have hl := h.len
  have h0 := h.mid
  have h1 := h.hi (k + 1) (by omega)
  have e1 : gn (L.set k (gn L k - p)) (k + 1) = gn L (k + 1) := by rw [gn_set _ _ _ _ (by omega), if_neg (by omega)]
  have g2 : ∀ j, gn ((L.set k (gn L k - p)).set (k + 1) (gn L (k + 1) + 1)) j = if j = k + 1 then gn L (k + 1) + 1 else if j = k then gn L k - p else gn L j := fun j => by
    rw [gn_set _ _ _ _ (by simp; omega), gn_set _ _ _ _ (by omega)]
  refine ⟨by simp [hl], ?_, fun j hj => ?_, ?_, fun j hj => ?_, ?_⟩
  · have v1 := val_set p L k (gn L k - p) (by omega)
    have v2 := val_set p (L.set k (gn L k - p)) (k + 1) (gn L (k + 1) + 1) (by simp; omega)
    rw [e1] at v2
    have hv := h.vl
    have e : p ^ k * (gn L k - p) + p ^ k * p = p ^ k * gn L k := by rw [← Nat.mul_add]; congr 1; omega
    have e' : p ^ (k + 1) * (gn L (k + 1) + 1) = p ^ (k + 1) * gn L (k + 1) + p ^ k * p := by rw [Nat.mul_add, Nat.pow_succ, Nat.mul_one]
    omega
  · rw [g2]
    split
    · omega
    · split
      · omega
      · exact h.lo j (by omega)
  · rw [g2, if_pos rfl]; omega
  · rw [g2, if_neg (by omega), if_neg (by omega)]; exact h.hi j (by omega)
  · have hlast := h.last
    rw [if_neg (by omega)] at hlast
    rw [g2]
    split
    · rename_i hh
      have : gn L (k + 1) = 0 := by rw [← hh]; omega
      rw [this, if_pos (by omega)]; omega
    · rw [if_neg (by omega)]; omega
theorem PlusB.done {p v n : Nat} {L : List Nat} (hp : 2 ≤ p) (h : PlusB p v n (n - 1) L) (hn : 0 < n) : cutz L = digs p v := by
  rw [← h.vl, digs_of_val hp]
  intro d hd
  obtain ⟨j, hj, rfl⟩ := List.getElem_of_mem hd
  rw [← gn_lt L hj]
  rcases Nat.lt_or_ge j (n - 1) with h1 | h1
  · exact h.lo j h1
  · have e : j = n - 1 := by have := h.len; omega
    have := h.last
    rw [e]; split at this <;> omega


set_option maxHeartbeats 1000000 in
theorem plus_spec (A B : Option Addr) (c d m n : Nat) (w : World) (ha : Num Big .u64 w A c m) (hb : Num Big .u64 w B d n) (hm : dl Big m ≤ 1099511627776) (hn : dl Big n ≤ 1099511627776) :
    Calls Tryz.prog 93 #[.slice A (dl Big m) c, .slice B (dl Big n) d] w (RetNum Big .u64 w (m + n)) := by
  have hm0 : (0 : Int) ≤ (dl Big m : Int) := by omega
  have hn0 : (0 : Int) ≤ (dl Big n : Int) := by omega
  obtain ⟨N, hN⟩ : ∃ N, N = max (dl Big m) (dl Big n) + 1 := ⟨_, rfl⟩
  have HN := Lib.hid hN
  have hN0 : dl Big m < N := by omega
  have hN1 : dl Big n < N := by omega
  have hN2 : N ≤ 1099511627777 := by omega
  have hmx1 := @max2_nat
  have hmx2 := @max_two
  have HDA := Lib.hid (digs_lt big2 m)
  have HDB := Lib.hid (digs_lt big2 n)
  have hra : Row w .u64 A c (digs Big m) := ha
  have hrb : Row w .u64 B d (digs Big n) := hb
  have hp : 2 ≤ Big := big2
  have HP := Lib.hid hp
  clear hN ha hb hp
  go_enter Tryz.func93, Tryz.ntmps93
  go_wp2_with (first
    | (at_make; refine wp_make (w0 := w) rfl (.tmp 14) 61 100 .u64 rfl Tryz.underlying61 el_u64 .i64 _ N rfl (by rw [HN.out]; simp) (by omega) inferInstance ?_; intro w1 hA)
    | (with_reducible refine wp_copy (w0 := w) rfl (.tmp 16) (.tmp 17) 61 61 100 .u64 rfl Tryz.underlying61 el_u64 w.heap.size _ A N c hA (digs Big m) (hra.ext (x := hA.ext)) N (dl Big m) rfl rfl (by simp) rfl (Nat.le_of_lt hN0) ?_; intro w2 hA))
  have hA2 : Arr 100 .u64 w w2 w.heap.size N (digs Big m ++ List.replicate (N - (digs Big m).length) 0) := by simpa using hA
  clear hA
  have hla : (digs Big m).length + (N - (digs Big m).length) = N := by have : (digs Big m).length < N := hN0; omega
  have HL := Lib.hid hla
  clear hla
  go_loopw [21] (fun u wr => ∃ (k : Nat) (L : List Nat), k ≤ dl Big n ∧ u = .int .i64 (k : Int) ∧ Hid (PlusA Big (digs Big m) (digs Big n) N k L) ∧ Hid (Arr 100 .u64 w wr w.heap.size N L)) (fun u _ => dl Big n - (intOf u).toNat)
  case atStart => exact ⟨0, _, Nat.zero_le _, rfl, Lib.hid (by have := PlusA.zero Big (digs Big m) (digs Big n) (N - (digs Big m).length); rwa [HL.out] at this), Lib.hid hA2⟩
  case round =>
    obtain ⟨k, L, hk, rfl, hI, hA⟩ := hrel
    by_cases hlt : k < dl Big n
    · obtain ⟨bd, rfl, hcb⟩ := (hrb.ext (x := hA.out.ext)).cell (by show 0 < dl Big n; omega)
      have h1 := hcb k hlt
      clear hcb
      have hLn : L.length = N := hI.out.len
      have h2 := hA.out.cell (j := k) (by omega)
      have h3 := hA.out.frozen k
      clear hLn
      have b1 := gn_mem_lt (by have := HP.out; omega) HDA.out k
      have b2 := gn_mem_lt (by have := HP.out; omega) HDB.out k
      have b3 : gn L k = gn (digs Big m) k := hI.out.hi k (Nat.le_refl _)
      have b4 : gn L k < 1000000000000000000 := by rw [b3]; exact b1
      have b5 : gn (digs Big n) k < 1000000000000000000 := b2
      clear b1 b2 b3
      go_wp2
      refine ⟨⟨k + 1, L.set k (gn L k + gn (digs Big n) k), by omega, by simp, Lib.hid (PlusA.step HP.out hI.out hlt (by omega) HDA.out HDB.out), Lib.hid ?_⟩, by simp [intOf]; omega⟩
      have h := hA.out.set k (gn L k + gn (digs Big n) k)
      rw [Int.natCast_add] at h
      exact h
    · obtain rfl : k = dl Big n := by omega
      have HB : Hid (PlusB Big (m + n) N 0 L) := Lib.hid (by
        have h := PlusB.zero HP.out hI.out HDA.out HN.out
        rwa [val_digs HP.out, val_digs HP.out] at h)
      clear hI hlt hk
      have hN3 : (0 : Int) ≤ (N : Int) - 1 := by omega
      go_wp2
      go_loopw [37] (fun u wr => ∃ (k : Nat) (L : List Nat), k + 1 ≤ N ∧ u = .int .i64 (k : Int) ∧ Hid (PlusB Big (m + n) N k L) ∧ Hid (Arr 100 .u64 w wr w.heap.size N L)) (fun u _ => N - (intOf u).toNat)
      case atStart => exact ⟨0, L, by omega, rfl, HB, hA⟩
      case round =>
        clear HB hA
        obtain ⟨k, L, hk, rfl, hI, hA⟩ := hrel
        by_cases hlt : k + 1 < N
        · have hlt' : (k : Int) < (N : Int) - 1 := by omega
          have hLn : L.length = N := hI.out.len
          have h2 := hA.out.cell (j := k) (by omega)
          have h3 := hA.out.frozen k
          have h4 := hA.out.cell (j := k + 1) (by omega)
          have h5 := hA.out.frozen (k + 1)
          clear hLn
          have b1 : (gn L k : Int) ≤ 1999999999999999999 := by have : gn L k ≤ 1999999999999999999 := hI.out.mid; omega
          have b2 : (gn L (k + 1) : Int) ≤ 1999999999999999998 := by have : gn L (k + 1) ≤ 1999999999999999998 := hI.out.hi (k + 1) (by omega); omega
          obtain ⟨x, hx⟩ : ∃ x : Int, (gn L k : Int) = x := ⟨_, rfl⟩
          obtain ⟨y, hy⟩ : ∃ y : Int, (gn L (k + 1) : Int) = y := ⟨_, rfl⟩
          have hx0 : 0 ≤ x := by omega
          have hy0 : 0 ≤ y := by omega
          rw [hx] at b1 h2
          rw [hy] at b2 h4
          have HX := Lib.hid hx
          have HY := Lib.hid hy
          clear hx hy
          by_cases hge : 1000000000000000000 ≤ x
          · go_wp2
            have hge' : Big ≤ gn L k := by have := HX.out; unfold Big; omega
            refine ⟨⟨k + 1, _, by omega, by simp, Lib.hid (PlusB.carry HP.out hI.out hlt hge'), Lib.hid ?_⟩, by simp [intOf]; omega⟩
            have h := (hA.out.set k (gn L k - Big)).set (k + 1) (gn L (k + 1) + 1)
            have e1 : ((gn L k - Big : Nat) : Int) = x - 1000000000000000000 := by have := HX.out; unfold Big; omega
            have e2 : ((gn L (k + 1) + 1 : Nat) : Int) = y + 1 := by have := HY.out; omega
            rw [e1, e2] at h
            exact h
          · go_wp2
            have hge' : gn L k < Big := by have := HX.out; unfold Big; omega
            exact ⟨⟨k + 1, _, by omega, by simp, Lib.hid (PlusB.keep hI.out hlt hge'), hA⟩, by simp [intOf]; omega⟩
        · have hlt' : ¬ (k : Int) < (N : Int) - 1 := by omega
          have hkN : k = N - 1 := by omega
          have hd := PlusB.done HP.out (hkN ▸ hI.out) (by omega)
          have hc := Row.cutz (hA.out.row)
          have hrow := hA.out.row
          have hLn := hI.out.len
          rw [hd] at hc
          have HD := Lib.hid hd
          have HLn := Lib.hid hLn
          clear hd hkN hLn
          go_wp2_with (go_at_call 75; refine (trim_spec _ _ _ L _ hrow HLn.out).mono ?_; rintro e w3 ⟨rfl, hx⟩)
          go_ret
          have hx0 := hA.out.ext
          exact ⟨_, _, ret_slice (by rw [HD.out]; rfl), hc.ext, Ext.tr hx⟩
end Go.Proofs.YtkmmkobiigddkaaGreatDoor
