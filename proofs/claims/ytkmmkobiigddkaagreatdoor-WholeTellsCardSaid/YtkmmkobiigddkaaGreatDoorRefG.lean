import Derived.Test.YtkmmkobiigddkaaGreatDoorProg
import Derived.Test.YtkmmkobiigddkaaGreatDoorRefF
/-! The walks of the reference's texts: four, Text, Out, Of. -/
set_option linter.unusedVariables false
set_option linter.unusedSimpArgs false
set_option maxRecDepth 100000
namespace Go.Proofs.YtkmmkobiigddkaaGreatDoor
open Go.RowKit

def bs (l : List UInt8) : ByteArray := ⟨l.toArray⟩
theorem bs_size (l : List UInt8) : (bs l).size = l.length := by unfold bs; exact List.size_toArray
theorem bs_append (k l : List UInt8) : bs k ++ bs l = bs (k ++ l) := by
  apply ByteArray.ext; simp [bs]
theorem four_eq (n : Nat) : pad 4 n = [chr (n / 1000 % 10), chr (n / 100 % 10), chr (n / 10 % 10), chr (n % 10)] := by
  simp only [pad, List.nil_append, List.cons_append, Nat.div_div_eq_div_mul]
set_option maxHeartbeats 1000000 in
theorem four_spec (n : Nat) (hn : n < 10000) (w : World) :
    Calls Tryz.prog 111 #[.int .i64 (n : Int)] w (Ret w (.string (bs (pad 4 n)))) := by
  have h1 : ∀ d : Nat, d < 10 → ((chr d).toNat : Int) = 48 + (d : Int) := fun d hd => by rw [chr_nat hd]; omega
  have hcv : (convert 103 9 (.slice (some ⟨w.heap.size, 0, none⟩) 4 4)).run Tryz.prog (w.alloc (.cells #[.int .u8 (48 + (n : Int) / 1000), .int .u8 (48 + (n : Int) / 100 % 10), .int .u8 (48 + (n : Int) / 10 % 10), .int .u8 (48 + (n : Int) % 10)] 5)) = .ok (.string (bs (pad 4 n))) (w.alloc (.cells #[.int .u8 (48 + (n : Int) / 1000), .int .u8 (48 + (n : Int) / 100 % 10), .int .u8 (48 + (n : Int) / 10 % 10), .int .u8 (48 + (n : Int) % 10)] 5)) := by
    have e1 : (48 + (n : Int) / 1000) = ((chr (n / 1000 % 10)).toNat : Int) := by rw [h1 _ (by omega)]; omega
    have e2 : (48 + (n : Int) / 100 % 10) = ((chr (n / 100 % 10)).toNat : Int) := by rw [h1 _ (by omega)]; omega
    have e3 : (48 + (n : Int) / 10 % 10) = ((chr (n / 10 % 10)).toNat : Int) := by rw [h1 _ (by omega)]; omega
    have e4 : (48 + (n : Int) % 10) = ((chr (n % 10)).toNat : Int) := by rw [h1 _ (by omega)]; omega
    rw [four_eq, e1, e2, e3, e4]
    refine run_convert_bytes_back (P := Tryz.prog) _ 103 9 5 ⟨w.heap.size, 0, none⟩ 4 [chr (n / 1000 % 10), chr (n / 100 % 10), chr (n / 10 % 10), chr (n % 10)] Tryz.underlying103 Tryz.underlying5 Tryz.underlying9 (fun j hj => ?_)
    rw [Lib.add_plain, World.cell?_alloc_mark]
    simp only [List.length_cons, List.length_nil] at hj
    rcases (show j = 0 ∨ j = 1 ∨ j = 2 ∨ j = 3 by omega) with rfl | rfl | rfl | rfl <;> rfl
  clear h1
  go_enter Tryz.func111, Tryz.ntmps111
  go_wp2_with fail
  go_ret
  exact ⟨rfl, inferInstance⟩
theorem pad_add (j k : Nat) : ∀ r, pad (j + k) r = pad j (r / 10 ^ k) ++ pad k r := by
  induction k with
  | zero => intro r; simp [pad]
  | succ k ih =>
    intro r
    rw [← Nat.add_assoc, pad, ih, pad, List.append_assoc, Nat.pow_succ, Nat.mul_comm, Nat.div_div_eq_div_mul]
theorem pad4_mod (r : Nat) : pad 4 r = pad 4 (r % 10000) := by
  rw [four_eq, four_eq]
  have e : ∀ a b, a = b → chr a = chr b := fun a b h => by rw [h]
  rw [e _ (r % 10000 / 1000 % 10) (by omega), e (r / 100 % 10) (r % 10000 / 100 % 10) (by omega), e (r / 10 % 10) (r % 10000 / 10 % 10) (by omega), e (r % 10) (r % 10000 % 10) (by omega)]
theorem pad_step (j m k : Nat) : pad (4 * j) (m / B4 ^ (k + 1)) ++ pad 4 (gn (digs B4 m) k) = pad (4 * (j + 1)) (m / B4 ^ k) := by
  rw [gn_digs b42, show 4 * (j + 1) = 4 * j + 4 by omega, pad_add, pad4_mod (m / B4 ^ k), Nat.div_div_eq_div_mul, Nat.pow_succ]; rfl
theorem dl_nDigits {m : Nat} (hm : 0 < m) : Lib.nDigits m ≤ 4 * dl B4 m ∧ 0 < dl B4 m := by
  have h1 := dl_pos b42 hm
  refine ⟨(nDigits_le (by omega)).2 ?_, h1⟩
  rw [Nat.pow_mul]
  exact lt_pow_dl b42 m
/-- Its text with the zeros ahead of it. -/
theorem zeros_ahead {m : Nat} (hm : 0 < m) : ∃ Z, Z + Lib.nDigits m = 4 * dl B4 m ∧ pad (4 * dl B4 m) m = List.replicate Z 48 ++ Lib.decDigits m := by
  have h := dl_nDigits hm
  refine ⟨4 * dl B4 m - Lib.nDigits m, by omega, ?_⟩
  exact pad_eq _ _ (by omega) (by rw [Nat.pow_mul]; exact lt_pow_dl b42 m)
theorem bs_get (l : List UInt8) (k : Nat) (h : k < (bs l).size) : (bs l)[k] = l[k]'(by rw [bs_size] at h; exact h) := by
  unfold bs; rfl
theorem bs_extract (k l : List UInt8) (n m : Nat) (hn : n = k.length) (hm : m = (k ++ l).length) : (bs (k ++ l)).extract n m = bs l := by
  subst hn hm
  apply ByteArray.ext
  unfold bs
  simp
set_option maxHeartbeats 1000000 in
theorem text_zero (A : Option Addr) (c : Nat) (w : World) :
    Calls Tryz.prog 83 #[.agg #[.bool false, .slice A 0 c]] w (Ret w (.string (bs [48]))) := by
  go_enter Tryz.func83, Tryz.ntmps83
  go_wp2_with fail
  go_loop [3, 4] (fun sv iv => sv = .string ⟨#[]⟩ ∧ iv = .int .i64 (-1)) (fun _ _ => 0)
  case atStart => exact ⟨rfl, rfl⟩
  case round =>
    obtain ⟨rfl, rfl⟩ := hrel
    go_wp2_with fail
    go_loop [5] (fun iv => iv = .int .i64 0) (fun _ => 0)
    case atStart => rfl
    case round =>
      subst hrel
      go_wp2_with fail
      go_ret
      exact ⟨rfl, inferInstance⟩
def head4 (m k : Nat) : ByteArray := bs (pad (4 * (dl B4 m - k)) (m / B4 ^ k))
theorem head4_top (m : Nat) : head4 m (dl B4 m) = ⟨#[]⟩ := by unfold head4; rw [Nat.sub_self]; rfl
theorem head4_end (m : Nat) : head4 m 0 = bs (pad (4 * dl B4 m) m) := by unfold head4; rw [Nat.sub_zero, Nat.pow_zero, Nat.div_one]
theorem head4_step (m k : Nat) (h : k < dl B4 m) : head4 m (k + 1) ++ bs (pad 4 (gn (digs B4 m) k)) = head4 m k := by
  unfold head4
  rw [bs_append, pad_step, show dl B4 m - (k + 1) + 1 = dl B4 m - k by omega]
theorem head4_size (m k : Nat) : (head4 m k).size = 4 * (dl B4 m - k) := by unfold head4; rw [bs_size, pad_length]
set_option maxHeartbeats 1000000 in
theorem text_some (A : Option Addr) (c m : Nat) (p : Bool) (R : ByteArray) (w : World) (ha : Num B4 .i64 w A c m) (hm : 0 < m) (hd : dl B4 m ≤ 1099511627776) (hR : R = bs (if p then 45 :: Lib.decDigits m else Lib.decDigits m)) :
    Calls Tryz.prog 83 #[.agg #[.bool p, .slice A (dl B4 m) c]] w (Ret w (.string R)) := by
  have HR := Lib.hid hR
  clear hR
  have HDA := Lib.hid (digs_lt b42 m)
  have hdp := dl_pos b42 hm
  obtain ⟨Z, hZ, hpz⟩ := zeros_ahead hm
  have HPZ := Lib.hid hpz
  have HM := Lib.hid hm
  have ha : Row w .i64 A c (digs B4 m) := ha
  clear hpz hm
  go_enter Tryz.func83, Tryz.ntmps83
  go_wp2_with fail
  go_loopw [3, 4] (fun sv i wr => ∃ k : Nat, k ≤ dl B4 m ∧ i = .int .i64 ((k : Int) - 1) ∧ sv = .string (head4 m k) ∧ Hid (Ext (w.alloc (.cells #[.bool p, .slice A (dl B4 m) c] 69)) wr)) (fun _ i _ => (intOf i + 1).toNat)
  case atStart => exact ⟨dl B4 m, Nat.le_refl _, rfl, by rw [head4_top], Lib.hid inferInstance⟩
  case round =>
    obtain ⟨k, hk, rfl, rfl, HX⟩ := hrel
    obtain ⟨c0, c1⟩ := box1 HX.out
    rcases k with _ | k
    · obtain ⟨s, hs⟩ : ∃ s, head4 m 0 = s := ⟨_, rfl⟩
      rw [hs]
      rw [head4_end, HPZ.out] at hs
      obtain ⟨c', r', hcr, hc1, _⟩ := dec_head m HM.out
      have hlen : (List.replicate Z (48 : UInt8) ++ Lib.decDigits m).length = Z + Lib.nDigits m := by rw [List.length_append, List.length_replicate, Lib.decDigits_length]
      have hsz : s.size = Z + Lib.nDigits m := by rw [← hs, bs_size, hlen]
      have hnd := nDigits_pos m
      have hget : ∀ j (h : j < s.size), j < Z → ((s[j].toNat : Int) == 48) = true := fun j h hj => by
        subst hs
        rw [bs_get, List.getElem_append_left (by simpa using hj), List.getElem_replicate]; rfl
      have hgz : ∀ (h : Z < s.size), ((s[Z].toNat : Int) == 48) = false := fun h => by
        subst hs
        rw [bs_get, List.getElem_append_right (by simp)]
        simp [hcr]; omega
      have hex : s.extract Z (4 * dl B4 m) = bs (Lib.decDigits m) := by
        rw [show 4 * dl B4 m = s.size by omega]
        subst hs
        exact bs_extract _ _ _ _ (by simp) (bs_size _)
      have HCR := Lib.hid hcr
      have HG := Lib.hid hget
      have HZ := Lib.hid hgz
      have HE := Lib.hid hex
      clear hget hgz hex hs hcr hlen
      go_wp2_with fail
      go_loop [5] (fun iv => ∃ k : Nat, k ≤ Z ∧ iv = .int .i64 (k : Int)) (fun i => Z - (intOf i).toNat)
      case atStart => exact ⟨0, Nat.zero_le _, rfl⟩
      case round =>
        obtain ⟨k, hk, rfl⟩ := hrel
        by_cases hlt : k < Z
        · have hks : k < s.size := by omega
          have e48 := HG.out k hks hlt
          go_wp2_with fail
          exact ⟨⟨k + 1, by omega, by simp⟩, by simp [intOf]; omega⟩
        · obtain rfl : k = Z := by omega
          have hks : k < s.size := by omega
          have e48 := HZ.out hks
          have hxe : (s.extract k (4 * dl B4 m)).toList.isEmpty = false := by rw [HE.out, ByteArray.toList_eq, HCR.out]; rfl
          have HXW := Lib.hid (Ext.tr (h := (inferInstance : Ext w (w.alloc (.cells #[.bool p, .slice A (dl B4 m) c] 69)))) HX.out)
          cases p
          · go_wp2_with fail
            go_ret
            exact ⟨by rw [HR.out, HE.out]; rfl, HXW.out⟩
          · have hlim2 : ¬ 9223372036854775807 < (⟨#[45]⟩ : ByteArray).size + (s.extract k (4 * dl B4 m)).size := by
              rw [HE.out, bs_size, Lib.decDigits_length]
              have h2 : (⟨#[45]⟩ : ByteArray).size = 1 := rfl
              omega
            have hlim3 : ¬ 9223372036854775807 < 1 + (s.extract k (4 * dl B4 m)).size := by
              rw [HE.out, bs_size, Lib.decDigits_length]
              omega
            go_wp2_with fail
            go_ret
            exact ⟨by rw [HR.out, HE.out, show (⟨#[45]⟩ : ByteArray) = bs [45] from rfl, bs_append]; rfl, HXW.out⟩
    · obtain ⟨ad, rfl, hca⟩ := (ha.ext (x := Ext.tr (h := inferInstance) HX.out)).cell (by show 0 < dl B4 m; omega)
      have h1 := hca k (by show k < dl B4 m; omega)
      clear hca
      have h3 : k < dl B4 m := by omega
      have b1 : gn (digs B4 m) k < 10000 := gn_mem_lt (by have := b42; omega) HDA.out k
      rw [show ((k + 1 : Nat) : Int) - 1 = (k : Int) by omega]
      have hps := head4_step m k h3
      obtain ⟨x, hx'⟩ : ∃ x : Nat, gn (digs B4 m) k = x := ⟨_, rfl⟩
      rw [hx'] at h1 b1 hps
      have HPQ := Lib.hid hps
      have hlim : ¬ (9223372036854775807 : Int) < (((head4 m (k + 1)).size + (bs (pad 4 x)).size : Nat) : Int) := by
        rw [head4_size, bs_size, pad_length]; omega
      have hlim2 : ¬ 9223372036854775807 < (head4 m (k + 1)).size + (bs (pad 4 x)).size := by omega
      clear hx' hps
      go_wp2_with fail
      refine (four_spec x b1 _).mono ?_
      rintro e w5 ⟨rfl, hx⟩
      have HX5 := Lib.hid (Ext.tr (h := HX.out) hx)
      clear hx
      go_wp2_with fail
      rw [HPQ.out]
      exact ⟨⟨k, by omega, rfl, rfl, HX5⟩, by simp [intOf]⟩
theorem txt_bs (z : Int) : txt z = bs (Lib.itoa z) := rfl
theorem text4_spec (A : Option Addr) (c : Nat) (z : Int) (w : World) (ha : Num B4 .i64 w A c z.natAbs) (hd : dl B4 z.natAbs ≤ 1099511627776) :
    Calls Tryz.prog 83 #[.agg #[.bool (neg z), .slice A (dl B4 z.natAbs) c]] w (Ret w (.string (txt z))) := by
  rcases Nat.eq_zero_or_pos z.natAbs with h | h
  · obtain rfl : z = 0 := by omega
    have h1 : neg (0 : Int) = false := neg_false (by omega)
    have h2 : dl B4 (Int.natAbs 0) = 0 := dl_zero B4
    have h3 : txt 0 = bs [48] := by rw [txt_bs, itoa_pos (by omega)]; exact congrArg bs (dec_small (by omega))
    rw [h1, h2, h3]
    exact text_zero A c w
  · refine text_some A c z.natAbs (neg z) (txt z) w ha h hd ?_
    rcases Int.lt_or_le z 0 with h1 | h1
    · rw [neg_true h1, txt_bs, itoa_below h1]; rfl
    · rw [neg_false h1, txt_bs, itoa_pos h1]; rfl
theorem txt_size (z : Int) : (txt z).size = Lib.nDigits z.natAbs + (if neg z then 1 else 0) := by
  rw [txt_bs, bs_size]
  rcases Int.lt_or_le z 0 with h1 | h1
  · rw [neg_true h1, itoa_below h1, List.length_cons, Lib.decDigits_length]; rfl
  · rw [neg_false h1, itoa_pos h1, Lib.decDigits_length]; rfl
theorem text4_spec' (A : Option Addr) (c d : Nat) (z : Int) (w : World) (p : Bool) (S : ByteArray) (hp : neg z = p) (hS : txt z = S) (ha : Num B4 .i64 w A c z.natAbs) (hd : dl B4 z.natAbs ≤ 1099511627776) :
    Calls Tryz.prog 83 #[.agg #[.bool p, .slice A (dl B4 z.natAbs) c]] w (Ret w (.string S)) := by
  subst hp hS
  exact text4_spec A c z w ha hd
set_option maxHeartbeats 1000000 in
theorem out4_spec (A : Option Addr) (c : Nat) (z : Int) (w : World) (ha : Num B4 .i64 w A c z.natAbs) (hd : dl B4 z.natAbs ≤ 1099511627776) :
    Calls Tryz.prog 44 #[.agg #[.bool (neg z), .slice A (dl B4 z.natAbs) c]] w (Ret w (.tuple #[.string (tS z), .int .i64 (tE z)])) := by
  have hsz := txt_size z
  have hnd := nDigits_pos z.natAbs
  have hnd2 : Lib.nDigits z.natAbs ≤ 4398046511104 := by
    rcases Nat.eq_zero_or_pos z.natAbs with h | h
    · rw [h, Lib.nDigits_small (by omega)]; omega
    · have := (dl_nDigits h).1; omega
  have HN := Lib.hid (Iff.rfl : Lib.nDigits z.natAbs ≤ 600 ↔ Lib.nDigits z.natAbs ≤ 600)
  obtain ⟨N, hN⟩ : ∃ N, Lib.nDigits z.natAbs = N := ⟨_, rfl⟩
  have hTS : tS z = if N ≤ 600 then txt z else ⟨#[]⟩ := by unfold tS; rw [hN]
  have hTE : tE z = if N ≤ 600 then 0 else 6 := by unfold tE; rw [hN]
  rw [hN] at hsz hnd hnd2
  have HTS := Lib.hid hTS
  have HTE := Lib.hid hTE
  obtain ⟨p, hp⟩ : ∃ p, neg z = p := ⟨_, rfl⟩
  have HP := Lib.hid hp
  rw [hp] at hsz ⊢
  obtain ⟨S, hS⟩ : ∃ S, txt z = S := ⟨_, rfl⟩
  have HS := Lib.hid hS
  rw [hS] at hsz
  obtain ⟨R, hR⟩ : ∃ R, tS z = R := ⟨_, rfl⟩
  have HR := Lib.hid hR
  obtain ⟨e', hE⟩ : ∃ e', tE z = e' := ⟨_, rfl⟩
  have HE := Lib.hid hE
  rw [hR, hE]
  clear hTS hTE hN hp hS hR hE
  by_cases h600 : N ≤ 600
  · have hTR : R = S := by rw [← HR.out, HTS.out, if_pos h600, HS.out]
    have hEE : e' = 0 := by rw [← HE.out, HTE.out, if_pos h600]
    subst hTR hEE
    cases p
    · have hsz : R.size = N := hsz
      go_enter Tryz.func44, Tryz.ntmps44
      go_wp2_with fail
      refine (text4_spec' A c 0 z _ _ _ HP.out HS.out (ha.ext (x := inferInstance)) hd).mono ?_
      rintro e w2 ⟨rfl, hx⟩
      obtain ⟨c0, c1⟩ := box1 hx
      have HX := Lib.hid hx
      clear hx
      go_wp2_with fail
      go_ret2
      exact ⟨rfl, Ext.tr (h := inferInstance) HX.out⟩
    · have hsz : R.size = N + 1 := hsz
      go_enter Tryz.func44, Tryz.ntmps44
      go_wp2_with fail
      refine (text4_spec' A c 0 z _ _ _ HP.out HS.out (ha.ext (x := inferInstance)) hd).mono ?_
      rintro e w2 ⟨rfl, hx⟩
      obtain ⟨c0, c1⟩ := box1 hx
      have HX := Lib.hid hx
      clear hx
      go_wp2_with fail
      go_ret2
      exact ⟨rfl, Ext.tr (h := inferInstance) HX.out⟩
  · have hTR : R = ⟨#[]⟩ := by rw [← HR.out, HTS.out, if_neg h600]
    have hEE : e' = 6 := by rw [← HE.out, HTE.out, if_neg h600]
    subst hTR hEE
    cases p
    · have hsz : S.size = N := hsz
      go_enter Tryz.func44, Tryz.ntmps44
      go_wp2_with fail
      refine (text4_spec' A c 0 z _ _ _ HP.out HS.out (ha.ext (x := inferInstance)) hd).mono ?_
      rintro e w2 ⟨rfl, hx⟩
      obtain ⟨c0, c1⟩ := box1 hx
      have HX := Lib.hid hx
      clear hx
      go_wp2_with fail
      go_ret2
      exact ⟨rfl, Ext.tr (h := inferInstance) HX.out⟩
    · have hsz : S.size = N + 1 := hsz
      go_enter Tryz.func44, Tryz.ntmps44
      go_wp2_with fail
      refine (text4_spec' A c 0 z _ _ _ HP.out HS.out (ha.ext (x := inferInstance)) hd).mono ?_
      rintro e w2 ⟨rfl, hx⟩
      obtain ⟨c0, c1⟩ := box1 hx
      have HX := Lib.hid hx
      clear hx
      go_wp2_with fail
      go_ret2
      exact ⟨rfl, Ext.tr (h := inferInstance) HX.out⟩
end Go.Proofs.YtkmmkobiigddkaaGreatDoor
