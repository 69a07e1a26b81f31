import Derived.Test.YtkmmkobiigddkaaGreatDoorProg
import Derived.Test.YtkmmkobiigddkaaGreatDoorKit
/-! The walks of package whole's magnitudes: trim, Cmp. -/
set_option linter.unusedVariables false
set_option linter.unusedSimpArgs false
namespace Go.Proofs.YtkmmkobiigddkaaGreatDoor
open Go.RowKit

theorem take_trim_len {l : List Nat} {k : Nat} (hk : k ≤ l.length) (he : cutz l = cutz (l.take k)) (h : k = 0 ∨ gn l (k - 1) ≠ 0) : (cutz l).length = k := by
  rw [he, cutz_of_trim]
  · simp; omega
  · intro hne
    rcases h with h | h
    · subst h; simp at hne
    · rw [List.getLast_eq_getElem]
      simp only [List.length_take, List.getElem_take]
      have hlt : k - 1 < l.length := by
        rcases Nat.eq_zero_or_pos l.length with h0 | h0
        · have : l = [] := List.length_eq_zero_iff.1 h0
          subst this; simp at hne
        · omega
      rw [gn_lt l hlt] at h
      have e : min k l.length - 1 = k - 1 := by omega
      simpa [e] using h
theorem cutz_take_step {l : List Nat} {k : Nat} (hk : k + 1 ≤ l.length) (he : cutz l = cutz (l.take (k + 1))) (h : gn l k = 0) : cutz l = cutz (l.take k) := by
  rw [he, List.take_succ_eq_append_getElem (by omega)]
  rw [gn_lt l (by omega)] at h
  rw [h, cutz_snoc_zero]

set_option maxHeartbeats 400000 in
theorem trim_spec (A : Option Addr) (c n : Nat) (l : List Nat) (w : World) (h : Row w .u64 A c l) (hn : l.length = n) :
    Calls Tryz.prog 75 #[.slice A n c] w (Ret w (.slice A (cutz l).length c)) := by
  subst hn
  have hm := h.len
  have hcap := h.cap
  go_enter Tryz.func75, Tryz.ntmps75
  go_wp2
  go_loopw [3] (fun i wr => ∃ k : Nat, k ≤ l.length ∧ i = .int .i64 k ∧ Hid (cutz l = cutz (l.take k)) ∧ Ext w wr) (fun i _ => (intOf i).toNat)
  case atStart => exact ⟨l.length, Nat.le_refl _, rfl, Lib.hid (by simp), inferInstance⟩
  case round =>
    obtain ⟨k, hk, rfl, he, hx⟩ := hrel
    rcases k with _ | k
    · have hz := take_trim_len hk he.out (.inl rfl)
      have HZ := Lib.hid hz; clear hz
      go_wp2
      go_ret
      exact ⟨ret_slice HZ.out.symm, hx⟩
    · obtain ⟨ad, rfl, hc⟩ := (h.ext (W := wr)).cell (by omega)
      have h1 := hc k (by omega)
      clear hc
      go_wp2
      · rename_i hz
        have hz : gn l k = 0 := by simpa using hz
        exact ⟨⟨k, by omega, rfl, Lib.hid (cutz_take_step hk he.out hz), hx⟩, by simp [intOf]⟩
      · rename_i hz
        have hz : gn l k ≠ 0 := by simpa using hz
        have hz := take_trim_len hk he.out (.inr hz)
        go_ret
        exact ⟨ret_slice hz.symm, hx⟩

/-- The comparison of digits, from the k-th down. -/
def cmpL (a b : List Nat) : Nat → Int
  | 0 => 0
  | k + 1 => if gn a k < gn b k then -1 else if gn b k < gn a k then 1 else cmpL a b k
/-- What Cmp returns. -/
def cmpN (m n : Nat) : Int := if dl Big m = dl Big n then cmpL (digs Big m) (digs Big n) (dl Big m) else (dl Big m : Int) - dl Big n

set_option maxHeartbeats 400000 in
theorem cmp_spec (A B : Option Addr) (c d m n : Nat) (w : World) (ha : Num Big .u64 w A c m) (hb : Num Big .u64 w B d n) :
    Calls Tryz.prog 103 #[.slice A (dl Big m) c, .slice B (dl Big n) d] w (Ret w (.int .i64 (cmpN m n))) := by
  unfold cmpN
  have hma : dl Big m ≤ 9223372036854775807 := ha.len
  have hmb : dl Big n ≤ 9223372036854775807 := hb.len
  by_cases hl : dl Big m = dl Big n
  · rw [if_pos hl]
    have ha : Row w .u64 A c (digs Big m) := ha
    have hb : Row w .u64 B d (digs Big n) := hb
    have HL : Hid ((digs Big m).length = (digs Big n).length) := Lib.hid hl
    have hla : dl Big m = (digs Big m).length := rfl
    rw [← hl, hla]
    rw [hla] at hma
    clear hl hmb hla
    generalize digs Big m = a at *
    generalize digs Big n = b at *
    go_enter Tryz.func103, Tryz.ntmps103
    go_wp2
    go_loopw [5] (fun i wr => ∃ k : Nat, k ≤ a.length ∧ i = .int .i64 ((k : Int) - 1) ∧ Hid (cmpL a b a.length = cmpL a b k) ∧ Ext w wr) (fun i _ => (intOf i + 1).toNat)
    case atStart => exact ⟨a.length, Nat.le_refl _, rfl, Lib.hid rfl, inferInstance⟩
    case round =>
      obtain ⟨k, hk, rfl, he, hx⟩ := hrel
      rcases k with _ | k
      · go_wp2
        go_ret
        exact ⟨ret_int (by rw [he.out]; rfl), hx⟩
      · obtain ⟨ad, rfl, hca⟩ := (ha.ext (W := wr)).cell (by omega)
        obtain ⟨bd, rfl, hcb⟩ := (hb.ext (W := wr)).cell (by have := HL.out; omega)
        have h1 := hca k (by omega)
        have h2 := hcb k (by have := HL.out; omega)
        clear hca hcb
        have h3 : k < a.length := by omega
        rw [show ((k + 1 : Nat) : Int) - 1 = (k : Int) by omega]
        go_wp2
        go_quiet (fail)
        go_wp2
        · rename_i ht
          go_ret
          exact ⟨ret_int (by rw [he.out, cmpL, if_pos (by simpa using ht)]), inferInstance⟩
        · rename_i ht
          go_quiet (fail)
          go_wp2
          · have ht : ¬ gn a k < gn b k := by assumption
            rename_i hu
            go_ret
            exact ⟨ret_int (by rw [he.out, cmpL, if_neg ht, if_pos (by simpa using hu)]), inferInstance⟩
          · have ht : ¬ gn a k < gn b k := by assumption
            have hu : ¬ gn b k < gn a k := by assumption
            exact ⟨⟨k, by omega, rfl, Lib.hid (by rw [he.out, cmpL, if_neg ht, if_neg hu]), inferInstance⟩, by simp [intOf]⟩
  · rw [if_neg hl]
    have hne : ((dl Big m : Int) != (dl Big n : Int)) = true := by simp; omega
    clear hl
    go_enter Tryz.func103, Tryz.ntmps103
    go_wp2
    go_ret
    exact ⟨rfl, inferInstance⟩
end Go.Proofs.YtkmmkobiigddkaaGreatDoor
