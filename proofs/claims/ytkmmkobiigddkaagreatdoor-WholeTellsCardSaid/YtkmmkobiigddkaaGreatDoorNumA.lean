import Derived.Test.YtkmmkobiigddkaaGreatDoorProg
import Derived.Test.YtkmmkobiigddkaaGreatDoorMassI
import Derived.Test.YtkmmkobiigddkaaGreatDoorLibs
import Derived.Test.YtkmmkobiigddkaaGreatDoorText
/-! The walks of package whole's signed numbers: From, Digits. -/
set_option linter.unusedVariables false
set_option linter.unusedSimpArgs false
set_option maxRecDepth 100000
namespace Go.Proofs.YtkmmkobiigddkaaGreatDoor
open Go.RowKit

theorem digs_two (s : Nat) (h : s < 18446744073709551616) : digs Big s = cutz [s % Big, s / Big] := by
  have e : val Big [s % Big, s / Big] = s := by simp only [val, Nat.mul_zero, Nat.add_zero]; exact Nat.mod_add_div s Big
  have h1 : s / Big < Big := by unfold Big; omega
  have h2 : s % Big < Big := Nat.mod_lt _ (by unfold Big; omega)
  rw [← digs_of_val big2 [s % Big, s / Big] (by intro d hd; simp at hd; rcases hd with rfl | rfl <;> assumption), e]
set_option maxHeartbeats 1000000 in
theorem from_spec (n : Int) (h0 : -9223372036854775808 ≤ n) (h1 : n ≤ 9223372036854775807) (w : World) :
    Calls Tryz.prog 42 #[.int .i64 n] w (RetInt Big .u64 w n) := by
  obtain ⟨s, hs⟩ : ∃ s, n.natAbs = s := ⟨_, rfl⟩
  have hs1 : s ≤ 9223372036854775808 := by omega
  have hdd := digs_two s (by omega)
  have HD := Lib.hid hdd
  have HS := Lib.hid hs
  clear hs hdd
  rcases Int.lt_or_le n 0 with hn | hn
  · have hneg : neg n = true := by unfold neg; simpa using hn
    have HN := Lib.hid hneg
    obtain rfl : n = -(s : Int) := by have := HS.out; omega
    have hwr : IntKind.u64.wrap (-IntKind.u64.wrap (-(s : Int))) = (s : Int) := by rw [IntKind.wrap_u64, IntKind.wrap_u64]; omega
    clear hneg
    go_enter Tryz.func42, Tryz.ntmps42
    go_wp2_with fail
    have hA := Row.lit 100 .u64 (w.alloc (Obj.cells #[Value.bool false, Value.slice none 0 0] 63)) (w.heap.size + 1) (by simp) [s % Big, s / Big] #[Value.int IntKind.u64 ((s : Int) % 1000000000000000000), Value.int IntKind.u64 ((s : Int) / 1000000000000000000)] (by simp [enc, Big]) 2 rfl (by omega)
    have hR := Row.cutz hA
    rw [← HD.out] at hR
    have HR := Lib.hid hR
    clear hR
    refine (trim_spec _ _ _ [s % Big, s / Big] _ hA rfl).mono ?_
    rintro e w3 ⟨rfl, hx⟩
    have hl : (cutz [s % Big, s / Big]).length = dl Big s := by rw [← HD.out]; rfl
    rw [hl]
    clear hl hA
    obtain ⟨hc, hf, hz⟩ := hx.cells
    have HX := Lib.hid hx
    clear hx
    go_wp2_with fail
    have hx1 : Ext (w.alloc (.cells #[.bool false, .slice none 0 0] 63)) w3 := Ext.tr (h := inferInstance) HX.out
    have r := cells_res hx1 rfl (.bool true) (.slice (some ⟨w.heap.size + 1, 0, none⟩) (dl Big s) 2)
    exact bodyPost_ret (v := .agg #[.bool true, .slice (some ⟨w.heap.size + 1, 0, none⟩) (dl Big s) 2]) (by simp [results, Tryz.results42, go_sem, r.1, r.2.1, r.2.2]) rfl
      (ret_cell _ _ hx1 rfl inferInstance HS.out (Row.ext (x := HX.out) HR.out) HN.out.symm rfl)
  · have hneg : neg n = false := by unfold neg; simpa using hn
    have HN := Lib.hid hneg
    obtain rfl : n = (s : Int) := by have := HS.out; omega
    clear hneg
    go_enter Tryz.func42, Tryz.ntmps42
    go_wp2_with fail
    have hA := Row.lit 100 .u64 (w.alloc (Obj.cells #[Value.bool false, Value.slice none 0 0] 63)) (w.heap.size + 1) (by simp) [s % Big, s / Big] #[Value.int IntKind.u64 ((s : Int) % 1000000000000000000), Value.int IntKind.u64 ((s : Int) / 1000000000000000000)] (by simp [enc, Big]) 2 rfl (by omega)
    have hR := Row.cutz hA
    rw [← HD.out] at hR
    have HR := Lib.hid hR
    clear hR
    refine (trim_spec _ _ _ [s % Big, s / Big] _ hA rfl).mono ?_
    rintro e w3 ⟨rfl, hx⟩
    have hl : (cutz [s % Big, s / Big]).length = dl Big s := by rw [← HD.out]; rfl
    rw [hl]
    clear hl hA
    obtain ⟨hc, hf, hz⟩ := hx.cells
    have HX := Lib.hid hx
    clear hx
    go_wp2_with fail
    have hx1 : Ext (w.alloc (.cells #[.bool false, .slice none 0 0] 63)) w3 := Ext.tr (h := inferInstance) HX.out
    have r := cells_res hx1 rfl (.bool (decide ((s : Int) < 0))) (.slice (some ⟨w.heap.size + 1, 0, none⟩) (dl Big s) 2)
    exact bodyPost_ret (v := .agg #[.bool (decide ((s : Int) < 0)), .slice (some ⟨w.heap.size + 1, 0, none⟩) (dl Big s) 2]) (by simp [results, Tryz.results42, go_sem, r.1, r.2.1, r.2.2]) rfl
      (ret_cell _ _ hx1 rfl inferInstance HS.out (Row.ext (x := HX.out) HR.out) (by unfold neg; rfl) rfl)

theorem Big_pow : Big = 10 ^ 18 := by unfold Big; rfl
set_option maxHeartbeats 1000000 in
theorem digits_spec (A : Option Addr) (c n : Nat) (w : World) [ht : Tab w] (ha : Num Big .u64 w A c n) (hd : dl Big n ≤ 1099511627776) :
    Calls Tryz.prog 76 #[.slice A (dl Big n) c] w (Ret w (.int .i64 (Lib.nDigits n : Nat))) := by
  by_cases h0 : n = 0
  · have hz : ((dl Big n : Int) == 0) = true := by rw [h0, dl_zero]; rfl
    have hn : Lib.nDigits n = 1 := by rw [h0]; exact Lib.nDigits_small (by omega)
    have HN := Lib.hid hn
    clear h0 hn
    go_enter Tryz.func76, Tryz.ntmps76
    go_wp2_with fail
    go_ret
    exact ⟨ret_int (by rw [HN.out]; rfl), inferInstance⟩
  · have hp := dl_pos big2 (show 0 < n by omega)
    have hz : ((dl Big n : Int) == 0) = false := by simp; omega
    have hn : Lib.nDigits n = 18 * (dl Big n - 1) + Lib.nDigits (gn (digs Big n) (dl Big n - 1)) := by
      have := nDigits_digs (c := 18) (by omega) (show 0 < n by omega)
      rwa [← Big_pow] at this
    have hg : gn (digs Big n) (dl Big n - 1) < 1000000000000000000 := gn_mem_lt (by have := big2; omega) (digs_lt big2 n) _
    obtain ⟨ad, rfl, hc⟩ := (show Row w .u64 A c (digs Big n) from ha).cell hp
    have h1 := hc (dl Big n - 1) (by show dl Big n - 1 < dl Big n; omega)
    obtain ⟨t, ht⟩ : ∃ t, gn (digs Big n) (dl Big n - 1) = t := ⟨_, rfl⟩
    rw [ht] at h1 hn hg
    have HN := Lib.hid hn
    have hl0 : (0 : Int) ≤ (dl Big n : Int) - 1 := by omega
    have hsz : (⟨(Lib.decDigits t).toArray⟩ : ByteArray).size = Lib.nDigits t := by
      show (Lib.decDigits t).toArray.size = _
      simp [Lib.decDigits_length]
    have hnd : Lib.nDigits t ≤ 18 := (nDigits_le (by omega)).2 (by omega)
    have HS := Lib.hid hsz
    have HND := Lib.hid hnd
    clear ht hn hc hsz hnd h0
    go_enter Tryz.func76, Tryz.ntmps76
    go_wp2_with fail
    refine (fmtu_spec t (by omega) _).mono ?_
    rintro e w2 ⟨rfl, hx⟩
    obtain ⟨S, hS⟩ : ∃ S : ByteArray, ⟨(Lib.decDigits t).toArray⟩ = S := ⟨_, rfl⟩
    rw [hS]
    have hSS : S.size ≤ 18 := by rw [← hS, HS.out]; exact HND.out
    have HSS := Lib.hid hS
    clear hS
    go_wp2_with fail
    go_ret
    refine ⟨ret_int ?_, hx⟩
    rw [HN.out, ← HS.out, HSS.out]
    omega
end Go.Proofs.YtkmmkobiigddkaaGreatDoor
