import Derived.Test.YtkmmkobiigddkaaGreatDoorProg
import Derived.Test.YtkmmkobiigddkaaGreatDoorRefE
/-! The walk of the reference's check. -/
set_option linter.unusedVariables false
set_option linter.unusedSimpArgs false
set_option maxRecDepth 100000
namespace Go.Proofs.YtkmmkobiigddkaaGreatDoor
open Go.RowKit

/-- It answers whether the text is a valid whole number. -/
def RetGood (w : World) (l : List UInt8) (e : Ending) (w' : World) : Prop := ∃ b : Bool, e = .returned (.bool b) ∧ (b = true ↔ Good l) ∧ Ext w w'
theorem body_drop (l : List UInt8) (f : Nat) (hf : f = if signed l then 1 else 0) : body l = l.drop f := by
  subst hf
  cases l with
  | nil => rfl
  | cons c r => by_cases h : c = 45 <;> simp [body, signed, h]
theorem get_list (s : ByteArray) (k : Nat) (h : k < s.size) : s.data.toList[k]'(by rw [Array.length_toList]; exact h) = s[k] := by
  rw [Array.getElem_toList]; rfl
theorem not_good (s : ByteArray) (f j : Nat) (hb : body s.data.toList = s.data.toList.drop f) (hj : j < s.size) (hfj : f ≤ j) (hd : ¬ IsDig s[j]) : ¬ Good s.data.toList := fun g => hd (by
  have h := g.dig
  rw [hb] at h
  refine h _ ?_
  rw [List.mem_iff_getElem]
  refine ⟨j - f, by rw [List.length_drop, Array.length_toList]; show j - f < s.size - f; omega, ?_⟩
  rw [List.getElem_drop]
  have e : f + (j - f) = j := by omega
  simp only [e]
  exact get_list s j hj)
theorem good_when (s : ByteArray) (f : Nat) (hb : body s.data.toList = s.data.toList.drop f) (h0 : f < s.size) (h6 : s.size - f ≤ 600) (hd : ∀ j (h : j < s.size), f ≤ j → IsDig s[j]) : Good s.data.toList ↔ (s[f].toNat ≠ 48 ∨ s.size = 1) := by
  have hlen : s.data.toList.length = s.size := Array.length_toList
  have hcons : s.data.toList.drop f = s[f] :: s.data.toList.drop (f + 1) := by
    rw [List.drop_eq_getElem_cons (by rw [hlen]; exact h0), get_list s f h0]
  constructor
  · intro g
    by_cases h48 : s[f].toNat = 48
    · right
      have := (g.zero s[f] (s.data.toList.drop (f + 1)) (by rw [hb, hcons]) h48).2
      omega
    · exact .inl h48
  · intro h
    refine ⟨by rw [hb, hcons]; simp, by rw [hb, List.length_drop, hlen]; exact h6, fun c hc => ?_, fun c r e h48 => ?_⟩
    · rw [hb, List.mem_iff_getElem] at hc
      obtain ⟨j, hj, e⟩ := hc
      rw [List.length_drop, hlen] at hj
      rw [List.getElem_drop, get_list s (f + j) (by omega)] at e
      rw [← e]; exact hd (f + j) (by omega) (by omega)
    · rw [hb, hcons] at e
      simp only [List.cons.injEq] at e
      rcases h with h | h
      · rw [e.1] at h; exact absurd h48 h
      · refine ⟨?_, by omega⟩
        rw [← e.2]
        exact List.drop_eq_nil_of_le (by omega)
set_option maxHeartbeats 2000000 in
theorem right_core (s : ByteArray) (f : Nat) (w : World) (hs : 0 < s.size) (hmax : s.size ≤ 1099511627776) (hf : f = if signed s.data.toList then 1 else 0) (h45 : ((s[0].toNat : Int) == 45) = decide (f = 1)) :
    Calls Tryz.prog 47 #[.string s] w (RetGood w s.data.toList) := by
  have hbd := body_drop s.data.toList f hf
  have hlen : s.data.toList.length = s.size := Array.length_toList
  have hf1 : f ≤ 1 := by rw [hf]; split <;> omega
  have HBD := Lib.hid hbd
  have HLN := Lib.hid hlen
  have hbl : (body s.data.toList).length = s.size - f := by rw [hbd, List.length_drop, hlen]
  have HBL := Lib.hid hbl
  have hs0 : (0 : Int) < (s.size : Int) := by omega
  clear hbd hlen hbl hf
  rcases Nat.lt_or_ge 600 (s.size - f) with hbig | hbig
  · have hb1 : ¬ (s.size : Int) - (f : Int) < 1 := by omega
    have hb2 : (600 : Int) < (s.size : Int) - (f : Int) := by omega
    have hgood : ¬ Good s.data.toList := fun g => by have := g.len; rw [HBL.out] at this; omega
    have HG := Lib.hid hgood
    clear hgood
    rcases (show f = 0 ∨ f = 1 by omega) with rfl | rfl
    all_goals
      go_enter Tryz.func47, Tryz.ntmps47
      go_wp2_with fail
      go_ret
      exact ⟨false, rfl, ⟨fun h => (by cases h), fun h => absurd h HG.out⟩, inferInstance⟩
  · rcases Nat.eq_zero_or_pos (s.size - f) with hz | hz
    · have hb1 : (s.size : Int) - (f : Int) < 1 := by omega
      have hgood : ¬ Good s.data.toList := fun g => by have := List.length_pos_iff.2 g.ne; rw [HBL.out] at this; omega
      have HG := Lib.hid hgood
      clear hgood
      rcases (show f = 0 ∨ f = 1 by omega) with rfl | rfl
      all_goals
        go_enter Tryz.func47, Tryz.ntmps47
        go_wp2_with fail
        first | done | (go_ret; exact ⟨false, rfl, ⟨fun h => (by cases h), fun h => absurd h HG.out⟩, inferInstance⟩)
    · have hb1 : ¬ (s.size : Int) - (f : Int) < 1 := by omega
      have hb2 : ¬ (600 : Int) < (s.size : Int) - (f : Int) := by omega
      have hz2 : 0 < s.size - f := hz
      rcases (show f = 0 ∨ f = 1 by omega) with rfl | rfl
      · go_enter Tryz.func47, Tryz.ntmps47
        go_wp2_with fail
        go_loop [5] (fun iv => ∃ k : Nat, 0 ≤ k ∧ k ≤ s.size ∧ iv = .int .i64 (k : Int) ∧ Hid (∀ j (h : j < s.size), 0 ≤ j → j < k → IsDig s[j])) (fun i => s.size - (intOf i).toNat)
        case atStart => exact ⟨0, Nat.le_refl _, by omega, rfl, Lib.hid fun j _ h1 h2 => by omega⟩
        case round =>
          obtain ⟨k, hk1, hk2, rfl, HD⟩ := hrel
          by_cases hlt : k < s.size
          · by_cases h48 : s[k].toNat < 48
            · have h48i : (s[k].toNat : Int) < 48 := by omega
              have HN := Lib.hid (not_good s 0 k HBD.out hlt hk1 fun h => by have := h.1; omega)
              go_wp2_with fail
              go_ret
              exact ⟨false, rfl, ⟨fun h => (by cases h), fun h => absurd h HN.out⟩, inferInstance⟩
            · have h48i : ¬ (s[k].toNat : Int) < 48 := by omega
              by_cases h57 : 57 < s[k].toNat
              · have h57i : (57 : Int) < (s[k].toNat : Int) := by omega
                have HN := Lib.hid (not_good s 0 k HBD.out hlt hk1 fun h => by have := h.2; omega)
                go_wp2_with fail
                go_ret
                exact ⟨false, rfl, ⟨fun h => (by cases h), fun h => absurd h HN.out⟩, inferInstance⟩
              · have h57i : ¬ (57 : Int) < (s[k].toNat : Int) := by omega
                have HK := Lib.hid (show IsDig s[k] from ⟨by omega, by omega⟩)
                go_wp2_with fail
                refine ⟨⟨k + 1, by omega, by omega, by simp, Lib.hid fun j h h1 h2 => ?_⟩, by simp [intOf]; omega⟩
                rcases Nat.lt_or_ge j k with h3 | h3
                · exact HD.out j h h1 h3
                · have h4 : j = k := by omega
                  subst h4; exact HK.out
          · have hg := good_when s 0 HBD.out (by omega) (by omega) (fun j h h1 => HD.out j h h1 (by omega))
            have HG := Lib.hid hg
            clear hg
            have hlt0 : 0 < s.size := by omega
            by_cases h48 : s[0].toNat = 48
            · have e1 : ((s[0].toNat : Int) != 48) = false := by simp; omega
              have H48 := Lib.hid h48
              clear h48
              by_cases h1 : s.size = 1
              · have e2 : ((s.size : Int) == 1) = true := by simp; omega
                have H1 := Lib.hid h1
                clear h1
                go_wp2_with fail
                first | done | (go_ret; exact ⟨true, rfl, ⟨fun _ => HG.out.2 (.inr H1.out), fun _ => rfl⟩, inferInstance⟩)
              · have e2 : ((s.size : Int) == 1) = false := by simp; omega
                have H1 := Lib.hid h1
                go_wp2_with fail
                first | done | (go_ret; exact ⟨false, rfl, ⟨fun h => (by cases h), fun h => (HG.out.1 h).elim (fun h => absurd H48.out h) fun h => absurd h H1.out⟩, inferInstance⟩)
            · have e1 : ((s[0].toNat : Int) != 48) = true := by simp; omega
              have H48 := Lib.hid h48
              clear h48
              go_wp2_with fail
              first | done | (go_ret; exact ⟨true, rfl, ⟨fun _ => HG.out.2 (.inl H48.out), fun _ => rfl⟩, inferInstance⟩)
      · go_enter Tryz.func47, Tryz.ntmps47
        go_wp2_with fail
        go_loop [5] (fun iv => ∃ k : Nat, 1 ≤ k ∧ k ≤ s.size ∧ iv = .int .i64 (k : Int) ∧ Hid (∀ j (h : j < s.size), 1 ≤ j → j < k → IsDig s[j])) (fun i => s.size - (intOf i).toNat)
        case atStart => exact ⟨1, Nat.le_refl _, by omega, rfl, Lib.hid fun j _ h1 h2 => by omega⟩
        case round =>
          obtain ⟨k, hk1, hk2, rfl, HD⟩ := hrel
          by_cases hlt : k < s.size
          · by_cases h48 : s[k].toNat < 48
            · have h48i : (s[k].toNat : Int) < 48 := by omega
              have HN := Lib.hid (not_good s 1 k HBD.out hlt hk1 fun h => by have := h.1; omega)
              go_wp2_with fail
              go_ret
              exact ⟨false, rfl, ⟨fun h => (by cases h), fun h => absurd h HN.out⟩, inferInstance⟩
            · have h48i : ¬ (s[k].toNat : Int) < 48 := by omega
              by_cases h57 : 57 < s[k].toNat
              · have h57i : (57 : Int) < (s[k].toNat : Int) := by omega
                have HN := Lib.hid (not_good s 1 k HBD.out hlt hk1 fun h => by have := h.2; omega)
                go_wp2_with fail
                go_ret
                exact ⟨false, rfl, ⟨fun h => (by cases h), fun h => absurd h HN.out⟩, inferInstance⟩
              · have h57i : ¬ (57 : Int) < (s[k].toNat : Int) := by omega
                have HK := Lib.hid (show IsDig s[k] from ⟨by omega, by omega⟩)
                go_wp2_with fail
                refine ⟨⟨k + 1, by omega, by omega, by simp, Lib.hid fun j h h1 h2 => ?_⟩, by simp [intOf]; omega⟩
                rcases Nat.lt_or_ge j k with h3 | h3
                · exact HD.out j h h1 h3
                · have h4 : j = k := by omega
                  subst h4; exact HK.out
          · have hg := good_when s 1 HBD.out (by omega) (by omega) (fun j h h1 => HD.out j h h1 (by omega))
            have HG := Lib.hid hg
            clear hg
            have hlt0 : 1 < s.size := by omega
            by_cases h48 : s[1].toNat = 48
            · have e1 : ((s[1].toNat : Int) != 48) = false := by simp; omega
              have H48 := Lib.hid h48
              clear h48
              by_cases h1 : s.size = 1
              · have e2 : ((s.size : Int) == 1) = true := by simp; omega
                have H1 := Lib.hid h1
                clear h1
                go_wp2_with fail
                first | done | (go_ret; exact ⟨true, rfl, ⟨fun _ => HG.out.2 (.inr H1.out), fun _ => rfl⟩, inferInstance⟩)
              · have e2 : ((s.size : Int) == 1) = false := by simp; omega
                have H1 := Lib.hid h1
                go_wp2_with fail
                first | done | (go_ret; exact ⟨false, rfl, ⟨fun h => (by cases h), fun h => (HG.out.1 h).elim (fun h => absurd H48.out h) fun h => absurd h H1.out⟩, inferInstance⟩)
            · have e1 : ((s[1].toNat : Int) != 48) = true := by simp; omega
              have H48 := Lib.hid h48
              clear h48
              go_wp2_with fail
              first | done | (go_ret; exact ⟨true, rfl, ⟨fun _ => HG.out.2 (.inl H48.out), fun _ => rfl⟩, inferInstance⟩)
theorem right_empty (s : ByteArray) (w : World) (hs : s.size = 0) :
    Calls Tryz.prog 47 #[.string s] w (RetGood w s.data.toList) := by
  have hl : s.data.toList = [] := List.eq_nil_of_length_eq_zero (by rw [Array.length_toList]; exact hs)
  have HG := Lib.hid (show ¬ Good s.data.toList from fun g => by have := g.ne; rw [hl] at this; exact this rfl)
  have h0 : ¬ (0 : Int) < (s.size : Int) := by omega
  have h1 : (s.size : Int) < 1 := by omega
  have h2 : ¬ 0 < s.size := by omega
  clear hl hs
  go_enter Tryz.func47, Tryz.ntmps47
  go_wp2_with fail
  go_ret
  exact ⟨false, rfl, ⟨fun h => (by cases h), fun h => absurd h HG.out⟩, inferInstance⟩
theorem right_any (s : ByteArray) (hmax : s.size ≤ 1099511627776) (w : World) :
    Calls Tryz.prog 47 #[.string s] w (RetGood w s.data.toList) := by
  rcases Nat.eq_zero_or_pos s.size with h0 | h0
  · exact right_empty s w h0
  · have hlen : s.data.toList.length = s.size := Array.length_toList
    have hx : ∃ c r, s.data.toList = c :: r ∧ s[0] = c := by
      cases e : s.data.toList with
      | nil => rw [e] at hlen; simp at hlen; omega
      | cons c r =>
        refine ⟨c, r, rfl, ?_⟩
        have := get_list s 0 h0
        simp only [e] at this
        exact this.symm
    obtain ⟨c, r, e, hc⟩ := hx
    refine right_core s (if signed s.data.toList then 1 else 0) w h0 hmax rfl ?_
    rw [hc, e, signed]
    by_cases h : c = 45
    · subst h; rfl
    · have h1 : ((c.toNat : Int) == 45) = false := by
        simp only [beq_eq_false_iff_ne]
        intro h2
        exact h (UInt8.toNat_inj.1 (by show c.toNat = 45; omega))
      rw [h1]; simp [h]
theorem right_yes (s : ByteArray) (z : Int) (hz : Wh s z) (w : World) : Calls Tryz.prog 47 #[.string s] w (Ret w (.bool true)) := by
  have g := (wh_iff s).1 ⟨z, hz⟩
  have hmax : s.size ≤ 1099511627776 := by
    have h1 : s.size = s.data.toList.length := Array.length_toList.symm
    have h2 : s.data.toList = Lib.itoa z := by rw [hz.1]; exact List.toList_toArray
    rw [h1, h2]
    rcases Int.lt_or_le z 0 with h3 | h3
    · rw [itoa_below h3, List.length_cons, Lib.decDigits_length]; have := hz.2; omega
    · rw [itoa_pos h3, Lib.decDigits_length]; have := hz.2; omega
  refine (right_any s hmax w).mono fun e w' h => ?_
  obtain ⟨b, h1, h2, h3⟩ := h
  exact ⟨by rw [h1, h2.2 g], h3⟩
theorem right_no (s : ByteArray) (hz : ¬ ∃ z, Wh s z) (hmax : s.size ≤ 1099511627776) (w : World) : Calls Tryz.prog 47 #[.string s] w (Ret w (.bool false)) := by
  refine (right_any s hmax w).mono fun e w' h => ?_
  obtain ⟨b, h1, h2, h3⟩ := h
  have : b = false := by cases b; rfl; exact absurd ((wh_iff s).2 (h2.1 rfl)) hz
  exact ⟨by rw [h1, this], h3⟩
end Go.Proofs.YtkmmkobiigddkaaGreatDoor
