import Derived.Test.YtkmmkobiigddkaaGreatDoorProg
import Derived.Test.YtkmmkobiigddkaaGreatDoorRead
/-! The walk of package whole's check. -/
set_option linter.unusedVariables false
set_option linter.unusedSimpArgs false
set_option maxRecDepth 100000
namespace Go.Proofs.YtkmmkobiigddkaaGreatDoor
open Go.RowKit

def other (x : Nat) : Bool := decide (x < 48 ∨ 57 < x)
theorem decode_low (s : ByteArray) (i : Nat) (h : (s.get! i).toNat < 128) : Utf8.decode s i = ((s.get! i).toNat, 1) := by
  unfold Utf8.decode
  simp only [Nat.add_zero]
  rw [if_pos h]
theorem decode_high (s : ByteArray) (i : Nat) (h : 128 ≤ (s.get! i).toNat) : 128 ≤ (Utf8.decode s i).1 := by
  unfold Utf8.decode
  simp only [Nat.add_zero]
  rw [if_neg (by omega)]
  have hr : 128 ≤ Utf8.runeError := by decide
  repeat' split
  all_goals first | exact hr | (simp_all; try omega)
theorem idx_none (s : ByteArray) : ∀ f pos, (∀ j, pos ≤ j → j < s.size → IsDig (s.get! j)) → Lib.idxFuncFrom other true s f pos = -1
  | 0, _, _ => rfl
  | f + 1, pos, h => by
    unfold Lib.idxFuncFrom
    split
    · rename_i hp
      have h1 := h pos (Nat.le_refl _) hp
      have h2 := h1.1
      have h3 := h1.2
      rw [decode_low s pos (by omega)]
      have : other (s.get! pos).toNat = false := by unfold other; simp; omega
      rw [this, if_neg (by simp)]
      exact idx_none s f (pos + 1) fun j hj => h j (by omega)
    · rfl
theorem idx_some (s : ByteArray) : ∀ f pos j, s.size ≤ pos + f → pos ≤ j → j < s.size → ¬ IsDig (s.get! j) → 0 ≤ Lib.idxFuncFrom other true s f pos
  | 0, pos, j, h1, h2, h3, _ => by omega
  | f + 1, pos, j, h1, h2, h3, h4 => by
    unfold Lib.idxFuncFrom
    rw [if_pos (by omega)]
    by_cases hd : IsDig (s.get! pos)
    · have h5 := hd.1
      have h6 := hd.2
      rw [decode_low s pos (by omega)]
      have : other (s.get! pos).toNat = false := by unfold other; simp; omega
      rw [this, if_neg (by simp)]
      have hne : pos ≠ j := fun e => h4 (e ▸ hd)
      exact idx_some s f (pos + 1) j (by omega) (by omega) h3 h4
    · have : other (Utf8.decode s pos).1 = true := by
        rcases Nat.lt_or_ge (s.get! pos).toNat 128 with h | h
        · rw [decode_low s pos h]
          unfold other IsDig at *
          simp at hd ⊢; omega
        · have := decode_high s pos h
          unfold other
          simp; omega
      rw [this, if_pos rfl]
      omega
theorem check1_spec (x : Nat) (hx : x ≤ 1114111) (w : World) :
    Calls Tryz.prog 55 #[.int .i32 (x : Int)] w fun e w' => e = .returned (.bool (other x)) ∧ ∃ q, w' = w.drewN q := by
  by_cases h1 : x < 48
  · have h : other x = true := by unfold other; simp; omega
    have hi : (x : Int) < 48 := by omega
    have H := Lib.hid h
    clear h
    go_enter Tryz.func55, Tryz.ntmps55
    go_wp2_with fail
    go_ret
    exact ⟨by rw [H.out]; rfl, 0, (World.drewN_zero _).symm⟩
  · by_cases h2 : 57 < x
    · have h : other x = true := by unfold other; simp; omega
      have hi : ¬ (x : Int) < 48 := by omega
      have hj : (57 : Int) < x := by omega
      have H := Lib.hid h
      clear h
      go_enter Tryz.func55, Tryz.ntmps55
      go_wp2_with fail
      go_ret
      exact ⟨by rw [H.out]; rfl, 0, (World.drewN_zero _).symm⟩
    · have h : other x = false := by unfold other; simp; omega
      have hi : ¬ (x : Int) < 48 := by omega
      have hj : ¬ (57 : Int) < x := by omega
      have H := Lib.hid h
      clear h
      go_enter Tryz.func55, Tryz.ntmps55
      go_wp2_with fail
      go_ret
      exact ⟨by rw [H.out]; rfl, 0, (World.drewN_zero _).symm⟩
theorem contains_spec (s : ByteArray) (b : Bool) (hb : b = true ↔ ∃ c ∈ s.data.toList, ¬ IsDig c) (w : World) :
    Calls Tryz.prog 56 #[.string s, .func (.func 55) #[] #[]] w (Ret w (.bool b)) := by
  have h := Tryz.strings_ContainsFunc_runes 55 #[] (enters_of Tryz.func55 (by kernel_rfl) rfl) other s w (fun W x hx _ => check1_spec x hx W)
  refine h.mono fun e w' k => ⟨?_, ⟨k.2⟩⟩
  rw [k.1]
  congr 2
  have hget : ∀ j, j < s.size → s.get! j ∈ s.data.toList := fun j hj => by
    have : s.get! j = s.data[j] := by simp [ByteArray.get!, hj]
    rw [this]; exact Array.getElem_mem_toList _
  rw [Bool.eq_iff_iff, hb, decide_eq_true_iff]
  constructor
  · intro h0
    refine Classical.byContradiction fun hn => ?_
    have := idx_none s s.size 0 fun j _ hj => Classical.byContradiction fun hd => hn ⟨_, hget j hj, hd⟩
    unfold Lib.idxFunc at h0
    omega
  · rintro ⟨c, hc, hd⟩
    obtain ⟨j, hj, e⟩ := List.getElem_of_mem hc
    have hjs : j < s.size := by rw [Array.length_toList] at hj; exact hj
    refine idx_some s s.size 0 j (by omega) (by omega) hjs ?_
    have : s.get! j = c := by
      rw [← e]
      simp [ByteArray.get!, hjs]
    rwa [this]
set_option maxHeartbeats 1000000 in
theorem check_empty (s T : ByteArray) (hT : ⟨(body s.data.toList).toArray⟩ = T) (w : World) (h : T.size = 0) :
    Calls Tryz.prog 19 #[.string s] w (Ret w (.int .i64 10)) := by
  have HT := Lib.hid hT
  have e0 : T.toList.isEmpty = true := by rw [ByteArray.toList_eq, List.isEmpty_iff]; exact List.eq_nil_of_length_eq_zero (by rw [Array.length_toList]; exact h)
  clear h
  clear hT
  go_enter Tryz.func19, Tryz.ntmps19
  go_wp2_with fail
  refine (trim_body s _).mono ?_
  rintro e w1 ⟨rfl, hx⟩
  rw [HT.out]
  have HX := Lib.hid hx
  clear hx
  go_wp2_with fail
  go_ret
  exact ⟨rfl, HX.out⟩
set_option maxHeartbeats 1000000 in
theorem check_long (s T : ByteArray) (hT : ⟨(body s.data.toList).toArray⟩ = T) (w : World) (h : 600 < T.size) :
    Calls Tryz.prog 19 #[.string s] w (Ret w (.int .i64 10)) := by
  have HT := Lib.hid hT
  have e0 : T.toList.isEmpty = false := by rw [ByteArray.toList_eq, List.isEmpty_eq_false_iff]; intro hh; have h9 : T.size = 0 := (by have := congrArg List.length hh; rw [Array.length_toList] at this; exact this); omega
  have hi : (600 : Int) < (T.size : Int) := by omega
  clear hT
  go_enter Tryz.func19, Tryz.ntmps19
  go_wp2_with fail
  refine (trim_body s _).mono ?_
  rintro e w1 ⟨rfl, hx⟩
  rw [HT.out]
  have HX := Lib.hid hx
  clear hx
  go_wp2_with fail
  go_ret
  exact ⟨rfl, HX.out⟩
set_option maxHeartbeats 1000000 in
theorem check_other (s T : ByteArray) (hT : ⟨(body s.data.toList).toArray⟩ = T) (w : World) (h0 : 0 < T.size) (h : T.size ≤ 600) (hb : ∃ c ∈ T.data.toList, ¬ IsDig c) :
    Calls Tryz.prog 19 #[.string s] w (Ret w (.int .i64 10)) := by
  have HT := Lib.hid hT
  have e0 : T.toList.isEmpty = false := by rw [ByteArray.toList_eq, List.isEmpty_eq_false_iff]; intro hh; have h9 : T.size = 0 := (by have := congrArg List.length hh; rw [Array.length_toList] at this; exact this); omega
  have hi : ¬ (600 : Int) < (T.size : Int) := by omega
  have HB := Lib.hid hb
  clear hb
  clear hT
  go_enter Tryz.func19, Tryz.ntmps19
  go_wp2_with fail
  refine (trim_body s _).mono ?_
  rintro e w1 ⟨rfl, hx⟩
  rw [HT.out]
  have HX := Lib.hid hx
  clear hx
  go_wp2_with fail
  refine (contains_spec T true ⟨fun _ => HB.out, fun _ => rfl⟩ _).mono ?_
  rintro e w2 ⟨rfl, hx⟩
  replace HX := Lib.hid (Ext.tr (h := HX.out) hx)
  clear hx
  go_wp2_with fail
  go_ret
  exact ⟨rfl, HX.out⟩
set_option maxHeartbeats 1000000 in
theorem check_zeros (s T : ByteArray) (hT : ⟨(body s.data.toList).toArray⟩ = T) (w : World) (h0 : 0 < T.size) (h : T.size ≤ 600) (hb : ∀ c ∈ T.data.toList, IsDig c) (hz : T[0].toNat = 48) (h1 : 1 < T.size) :
    Calls Tryz.prog 19 #[.string s] w (Ret w (.int .i64 10)) := by
  have HT := Lib.hid hT
  have e0 : T.toList.isEmpty = false := by rw [ByteArray.toList_eq, List.isEmpty_eq_false_iff]; intro hh; have h9 : T.size = 0 := (by have := congrArg List.length hh; rw [Array.length_toList] at this; exact this); omega
  have hi : ¬ (600 : Int) < (T.size : Int) := by omega
  have hi0 : (0 : Int) < (T.size : Int) := by omega
  have HB := Lib.hid hb
  clear hb
  have hg : ((T[0].toNat : Int) == 48) = true := by simp; omega
  clear hz
  have hi1 : (1 : Int) < (T.size : Int) := by omega
  clear hT
  go_enter Tryz.func19, Tryz.ntmps19
  go_wp2_with fail
  refine (trim_body s _).mono ?_
  rintro e w1 ⟨rfl, hx⟩
  rw [HT.out]
  have HX := Lib.hid hx
  clear hx
  go_wp2_with fail
  refine (contains_spec T false ⟨fun h => (by cases h), fun ⟨c, h1, h2⟩ => absurd (HB.out c h1) h2⟩ _).mono ?_
  rintro e w2 ⟨rfl, hx⟩
  replace HX := Lib.hid (Ext.tr (h := HX.out) hx)
  clear hx
  go_wp2_with fail
  go_ret
  exact ⟨rfl, HX.out⟩
set_option maxHeartbeats 1000000 in
theorem check_minus (s T : ByteArray) (hT : ⟨(body s.data.toList).toArray⟩ = T) (w : World) (h0 : 0 < T.size) (h : T.size ≤ 600) (hb : ∀ c ∈ T.data.toList, IsDig c) (hz : T[0].toNat = 48) (h1 : ¬ 1 < T.size) (h2 : 1 < s.size) :
    Calls Tryz.prog 19 #[.string s] w (Ret w (.int .i64 10)) := by
  have HT := Lib.hid hT
  have e0 : T.toList.isEmpty = false := by rw [ByteArray.toList_eq, List.isEmpty_eq_false_iff]; intro hh; have h9 : T.size = 0 := (by have := congrArg List.length hh; rw [Array.length_toList] at this; exact this); omega
  have hi : ¬ (600 : Int) < (T.size : Int) := by omega
  have hi0 : (0 : Int) < (T.size : Int) := by omega
  have HB := Lib.hid hb
  clear hb
  have hg : ((T[0].toNat : Int) == 48) = true := by simp; omega
  clear hz
  have hi1 : ¬ (1 : Int) < (T.size : Int) := by omega
  have hi2 : (1 : Int) < (s.size : Int) := by omega
  clear hT
  go_enter Tryz.func19, Tryz.ntmps19
  go_wp2_with fail
  refine (trim_body s _).mono ?_
  rintro e w1 ⟨rfl, hx⟩
  rw [HT.out]
  have HX := Lib.hid hx
  clear hx
  go_wp2_with fail
  refine (contains_spec T false ⟨fun h => (by cases h), fun ⟨c, h1, h2⟩ => absurd (HB.out c h1) h2⟩ _).mono ?_
  rintro e w2 ⟨rfl, hx⟩
  replace HX := Lib.hid (Ext.tr (h := HX.out) hx)
  clear hx
  go_wp2_with fail
  go_ret
  exact ⟨rfl, HX.out⟩
set_option maxHeartbeats 1000000 in
theorem check_zero (s T : ByteArray) (hT : ⟨(body s.data.toList).toArray⟩ = T) (w : World) (h0 : 0 < T.size) (h : T.size ≤ 600) (hb : ∀ c ∈ T.data.toList, IsDig c) (hz : T[0].toNat = 48) (h1 : ¬ 1 < T.size) (h2 : ¬ 1 < s.size) :
    Calls Tryz.prog 19 #[.string s] w (Ret w (.int .i64 0)) := by
  have HT := Lib.hid hT
  have e0 : T.toList.isEmpty = false := by rw [ByteArray.toList_eq, List.isEmpty_eq_false_iff]; intro hh; have h9 : T.size = 0 := (by have := congrArg List.length hh; rw [Array.length_toList] at this; exact this); omega
  have hi : ¬ (600 : Int) < (T.size : Int) := by omega
  have hi0 : (0 : Int) < (T.size : Int) := by omega
  have HB := Lib.hid hb
  clear hb
  have hg : ((T[0].toNat : Int) == 48) = true := by simp; omega
  clear hz
  have hi1 : ¬ (1 : Int) < (T.size : Int) := by omega
  have hi2 : ¬ (1 : Int) < (s.size : Int) := by omega
  clear hT
  go_enter Tryz.func19, Tryz.ntmps19
  go_wp2_with fail
  refine (trim_body s _).mono ?_
  rintro e w1 ⟨rfl, hx⟩
  rw [HT.out]
  have HX := Lib.hid hx
  clear hx
  go_wp2_with fail
  refine (contains_spec T false ⟨fun h => (by cases h), fun ⟨c, h1, h2⟩ => absurd (HB.out c h1) h2⟩ _).mono ?_
  rintro e w2 ⟨rfl, hx⟩
  replace HX := Lib.hid (Ext.tr (h := HX.out) hx)
  clear hx
  go_wp2_with fail
  go_ret
  exact ⟨rfl, HX.out⟩
set_option maxHeartbeats 1000000 in
theorem check_right (s T : ByteArray) (hT : ⟨(body s.data.toList).toArray⟩ = T) (w : World) (h0 : 0 < T.size) (h : T.size ≤ 600) (hb : ∀ c ∈ T.data.toList, IsDig c) (hz : T[0].toNat ≠ 48) :
    Calls Tryz.prog 19 #[.string s] w (Ret w (.int .i64 0)) := by
  have HT := Lib.hid hT
  have e0 : T.toList.isEmpty = false := by rw [ByteArray.toList_eq, List.isEmpty_eq_false_iff]; intro hh; have h9 : T.size = 0 := (by have := congrArg List.length hh; rw [Array.length_toList] at this; exact this); omega
  have hi : ¬ (600 : Int) < (T.size : Int) := by omega
  have hi0 : (0 : Int) < (T.size : Int) := by omega
  have HB := Lib.hid hb
  clear hb
  have hg : ((T[0].toNat : Int) == 48) = false := by simp; omega
  clear hz
  clear hT
  go_enter Tryz.func19, Tryz.ntmps19
  go_wp2_with fail
  refine (trim_body s _).mono ?_
  rintro e w1 ⟨rfl, hx⟩
  rw [HT.out]
  have HX := Lib.hid hx
  clear hx
  go_wp2_with fail
  refine (contains_spec T false ⟨fun h => (by cases h), fun ⟨c, h1, h2⟩ => absurd (HB.out c h1) h2⟩ _).mono ?_
  rintro e w2 ⟨rfl, hx⟩
  replace HX := Lib.hid (Ext.tr (h := HX.out) hx)
  clear hx
  go_wp2_with fail
  go_ret
  exact ⟨rfl, HX.out⟩
theorem check_good (s : ByteArray) (w : World) (h : Good s.data.toList) : Calls Tryz.prog 19 #[.string s] w (Ret w (.int .i64 0)) := by
  obtain ⟨T, hT⟩ : ∃ T : ByteArray, ⟨(body s.data.toList).toArray⟩ = T := ⟨_, rfl⟩
  have htl : T.data.toList = body s.data.toList := by rw [← hT]
  have hts : T.data.toList.length = T.size := Array.length_toList
  have h0 : 0 < T.size := by rw [← hts, htl]; exact List.length_pos_iff.2 h.ne
  have h6 : T.size ≤ 600 := by rw [← hts, htl]; exact h.len
  have hd : ∀ c ∈ T.data.toList, IsDig c := by rw [htl]; exact h.dig
  by_cases hz : T[0].toNat = 48
  · obtain ⟨c, r, e⟩ : ∃ c r, T.data.toList = c :: r := by
      cases he : T.data.toList with
      | nil => rw [he] at hts; simp at hts; omega
      | cons c r => exact ⟨c, r, rfl⟩
    have hc : T[0] = c := by
      show T.data[0] = c
      rw [← Array.getElem_toList]
      simp only [e]; rfl
    have h1 := h.zero c r (by rw [← htl, e]) (by rw [← hc]; exact hz)
    refine check_zero s T hT w h0 h6 hd hz ?_ ?_
    · rw [← hts, e, h1.1]; simp
    · have : s.data.toList.length = s.size := Array.length_toList
      omega
  · exact check_right s T hT w h0 h6 hd hz
theorem check_bad (s : ByteArray) (w : World) (h : ¬ Good s.data.toList) : Calls Tryz.prog 19 #[.string s] w (Ret w (.int .i64 10)) := by
  obtain ⟨T, hT⟩ : ∃ T : ByteArray, ⟨(body s.data.toList).toArray⟩ = T := ⟨_, rfl⟩
  have htl : T.data.toList = body s.data.toList := by rw [← hT]
  have hts : T.data.toList.length = T.size := Array.length_toList
  have hss : s.data.toList.length = s.size := Array.length_toList
  by_cases h0 : T.size = 0
  · exact check_empty s T hT w h0
  · by_cases h6 : T.size ≤ 600
    · by_cases hd : ∀ c ∈ T.data.toList, IsDig c
      · obtain ⟨c, r, e⟩ : ∃ c r, T.data.toList = c :: r := by
          cases he : T.data.toList with
          | nil => rw [he] at hts; simp at hts; omega
          | cons c r => exact ⟨c, r, rfl⟩
        have hp : 0 < T.size := by omega
        have hc : T[0] = c := by
          show T.data[0] = c
          rw [← Array.getElem_toList]
          simp only [e]; rfl
        have hz : T[0].toNat = 48 := Classical.byContradiction fun hz => h ⟨by rw [← htl, e]; simp, by rw [← htl, hts]; exact h6, by rw [← htl]; exact hd, fun c' r' e' h48 => by
          rw [← htl, e] at e'
          simp only [List.cons.injEq] at e'
          rw [hc, e'.1] at hz; exact absurd h48 hz⟩
        by_cases h1 : 1 < T.size
        · exact check_zeros s T hT w hp h6 hd hz h1
        · by_cases h2 : 1 < s.size
          · exact check_minus s T hT w hp h6 hd hz h1 h2
          · refine absurd ⟨by rw [← htl, e]; simp, by rw [← htl, hts]; exact h6, by rw [← htl]; exact hd, fun c' r' e' _ => ?_⟩ h
            rw [← htl] at e'
            have hl := hts
            rw [e'] at hl
            simp at hl
            refine ⟨List.eq_nil_of_length_eq_zero (by omega), ?_⟩
            have : (body s.data.toList).length ≤ s.data.toList.length := by
              cases s.data.toList with
              | nil => exact Nat.le_refl _
              | cons x y => rw [body]; split <;> simp
            rw [← htl, hts] at this
            omega
      · refine check_other s T hT w (by omega) h6 (Classical.byContradiction fun hn => hd fun c hc => Classical.byContradiction fun hh => hn ⟨c, hc, hh⟩)
    · exact check_long s T hT w (by omega)
theorem check_wh (s : ByteArray) (z : Int) (h : Wh s z) (w : World) : Calls Tryz.prog 19 #[.string s] w (Ret w (.int .i64 0)) := check_good s w ((wh_iff s).1 ⟨z, h⟩)
theorem check_none (s : ByteArray) (h : ¬ ∃ z, Wh s z) (w : World) : Calls Tryz.prog 19 #[.string s] w (Ret w (.int .i64 10)) := check_bad s w fun k => h ((wh_iff s).2 k)
end Go.Proofs.YtkmmkobiigddkaaGreatDoor
