import Derived.Test.YtkmmkobiigddkaaGreatDoorProg
import Derived.Test.YtkmmkobiigddkaaGreatDoorTold
import Derived.Lib.IndexBytes
import Derived.Lib.PathFns
import Derived.Lib.SmallJoins
import Derived.WalkMore
/-! The walk of package whole's reader. -/
set_option linter.unusedVariables false
set_option linter.unusedSimpArgs false
set_option maxRecDepth 100000
namespace Go.Proofs.YtkmmkobiigddkaaGreatDoor
open Go.RowKit

theorem trim_eq (l : List UInt8) : Lib.trimPrefix l [45] = body l := by
  cases l with
  | nil => rfl
  | cons c r =>
    by_cases h : c = 45
    · subst h; simp [Lib.trimPrefix, Lib.hasPrefix, body]
    · simp [Lib.trimPrefix, Lib.hasPrefix, body, h, Ne.symm h]
theorem trim_body (s : ByteArray) (w : World) :
    Calls Tryz.prog 54 #[.string s, .string ⟨#[45]⟩] w (Ret w (.string ⟨(body s.data.toList).toArray⟩)) :=
  (Tryz.strings_TrimPrefix s ⟨#[45]⟩ w).mono fun e w' h => ⟨by rw [h.1, ← trim_eq], by rw [h.2]; exact Ext.rf _⟩
theorem parse_spec (s : ByteArray) (hl : s.size ≤ 18) (hne : s.data.toList ≠ []) (hd : ∀ c ∈ s.data.toList, IsDig c) (w : World) :
    Calls Tryz.prog 86 #[.string s, .int .i64 10, .int .i64 64] w (Ret w (.tuple #[.int .u64 (dval s.data.toList : Nat), .nilIface])) :=
  (Tryz.strconv_ParseUint_10_at64_ok s (by omega) _ (parse18 _ hne hd (by rw [Array.length_toList]; exact hl)) w).mono fun e w' h => ⟨h.1, by
    rcases h.2 with rfl | rfl
    · exact Ext.rf _
    · exact ⟨Joins.below_bytesWorld _ _ _ _ (Nat.le_refl _)⟩⟩
set_option maxHeartbeats 1000000 in
theorem read_core (p : Bool) (D : List UInt8) (s : ByteArray) (w : World) (hs : s.data.toList = if p then 45 :: D else D) (hne : D ≠ []) (hdig : ∀ c ∈ D, IsDig c) (hlen : D.length ≤ 1073741824) (z : Int) (hz : z.natAbs = dval D) (hp : p = neg z) :
    Calls Tryz.prog 50 #[.string s] w (RetInt Big .u64 w z) := by
  have HS := Lib.hid hs
  have hb : body s.data.toList = D := by
    rw [hs]
    cases p
    · cases D with
      | nil => rfl
      | cons c r => rw [if_neg (by simp), body, if_neg (dig_ne (hdig c (by simp)))]
    · rfl
  have HZ := Lib.hid hz
  have HP := Lib.hid hp
  have HD := Lib.hid hdig
  have HNE := Lib.hid hne
  have HB := Lib.hid hb
  clear hs hz hp hdig hne hb
  go_enter Tryz.func50, Tryz.ntmps50
  go_wp2_with fail
  go_step3
  go_wp2_with fail
  refine (trim_body s _).mono ?_
  rintro e w1 ⟨rfl, hx⟩
  rw [HB.out]
  have HX := Lib.hid hx
  clear hx
  obtain ⟨S, hS⟩ : ∃ S : ByteArray, ⟨D.toArray⟩ = S := ⟨_, rfl⟩
  rw [hS]
  have hS2 : S.data.toList = D := by rw [← hS]
  have HSD := Lib.hid hS2
  have hsz : S.size = D.length := by rw [← hS2]; exact Array.length_toList.symm
  have HSZ := Lib.hid hsz
  clear hS hS2 hsz
  go_wp2_with fail
  go_step3
  go_wp2_with fail
  go_loopg [3, 4] D.length (fun g sv mv wr => ∃ (P : ByteArray) (L : List Nat) (A : Option Addr) (c : Nat), sv = .string P ∧ mv = .slice A L.length c ∧ P.size ≤ g ∧ 0 < P.size ∧ L.length + P.size ≤ 1073741824 ∧
    Hid ((∀ d ∈ P.data.toList, IsDig d) ∧ dval D = val Big L + Big ^ L.length * dval P.data.toList ∧ ∀ d ∈ L, d < Big) ∧ Hid (OwnA 100 .u64 w1 wr A c L))
  case atStart =>
    refine ⟨S, [], none, 0, rfl, rfl, by have := HSZ.out; omega, ?_, ?_, Lib.hid ⟨?_, ?_, ?_⟩, Lib.hid ⟨inferInstance, .inl ⟨rfl, rfl, rfl⟩⟩⟩
    · have := HSZ.out; have := List.length_pos_iff.2 HNE.out; omega
    · have := HSZ.out; simp; omega
    · rw [HSD.out]; exact HD.out
    · rw [HSD.out]; simp [val]
    · simp
  case round =>
    clear HSD HSZ
    obtain ⟨P, L, A, c, rfl, rfl, hg, hp0, hlp, HI, HA⟩ := hrel
    obtain ⟨f, hf⟩ : ∃ f, P.size - 18 = f := ⟨_, rfl⟩
    have hmx : Builtin.max2 (.int .i64 ((P.size : Int) - 18)) (.int .i64 0) = pure (.int .i64 (f : Int)) := by
      simp only [Builtin.max2, gt_iff_lt]
      congr 2
      by_cases hh : 18 ≤ P.size
      · rw [if_neg (by omega)]; omega
      · rw [if_pos (by omega)]; omega
    have hm2 := @max_two
    have hfp : f ≤ P.size := by omega
    have hfi : (f : Int) ≤ (P.size : Int) := by omega
    have hsl : P.size ≤ 9223372036854775807 := by omega
    have HF := Lib.hid hf
    clear hf
    have hq : (P.extract f P.size).data.toList = P.data.toList.drop f := Lib.extract_to_end P f
    have hps : P.data.toList.length = P.size := Array.length_toList
    have hqs : (P.extract f P.size).size ≤ 18 := by
      have : (P.extract f P.size).size = (P.extract f P.size).data.toList.length := Array.length_toList.symm
      rw [this, hq, List.length_drop, hps]; have := HF.out; omega
    have hqn : (P.extract f P.size).data.toList ≠ [] := by
      rw [hq]; intro h; have := congrArg List.length h; rw [List.length_drop, hps] at this; simp at this; have := HF.out; omega
    have hqd : ∀ c ∈ (P.extract f P.size).data.toList, IsDig c := fun c hc => HI.out.1 c (by rw [hq] at hc; exact List.mem_of_mem_drop hc)
    have hg18 : dval (P.data.toList.drop f) < Big := by
      have h1 := dval_lt _ hqd
      rw [hq] at h1
      have h2 : 10 ^ (P.data.toList.drop f).length ≤ 10 ^ 18 := Nat.pow_le_pow_right (by omega) (by rw [List.length_drop, hps]; have := HF.out; omega)
      rw [Big_pow]; omega
    have hdv : dval P.data.toList = dval (P.data.toList.take f) * 10 ^ (P.size - f) + dval (P.data.toList.drop f) := by
      have := dval_append (P.data.toList.take f) (P.data.toList.drop f)
      rwa [List.take_append_drop, List.length_drop, hps] at this
    obtain ⟨g, hgd⟩ : ∃ g, dval (P.data.toList.drop f) = g := ⟨_, rfl⟩
    have hpq := parse_spec (P.extract f P.size) hqs hqn hqd
    rw [hq, hgd] at hpq
    rw [hgd] at hg18 hdv
    have HPQ := Lib.hid hpq
    have HDV := Lib.hid hdv
    have HPS := Lib.hid hps
    clear hq hps hqs hqn hqd hgd hpq hdv
    go_wp2_with fail
    refine (HPQ.out _).mono ?_
    rintro e w2 ⟨rfl, hx⟩
    have HA2 := Lib.hid (HA.out.to (x := hx))
    clear hx HA
    have hrow := Row.lit 100 .u64 w2 w2.heap.size rfl [g] #[Value.int .u64 (g : Int)] (by simp [enc]) 1 rfl (by omega)
    have HROW := Lib.hid hrow
    have HLG := Lib.hid (show (L ++ [g]).length = L.length + 1 by simp)
    clear hrow
    by_cases hf0 : f = 0
    · have he : (P.extract 0 f).toList.isEmpty = true := by
        rw [Lib.extract_toList, hf0]; simp
      have HF0 := Lib.hid hf0
      clear hf0
      go_wp2_with (at_builtin; refine wp_append (w0 := w1) rfl (.tmp 21) (.tmp 23) 61 100 .u64 rfl Tryz.underlying61 el_u64 _ L (HA2.out.to (x := inferInstance)).ownS (some ⟨w2.heap.size, 0, none⟩) 1 [g] HROW.out 1 rfl rfl rfl (by omega) ?_; intro v' w3 hO hg; obtain ⟨A3, c3, rfl, hS⟩ := hO.parts; rw [HLG.out]; have HS3 := Lib.hid hS; clear hO hg hS)
      have hx3 : Ext (w.alloc (.cells #[.bool false, .slice none 0 0] 63)) w3 := Ext.tr (h := HX.out) HS3.out.1
      have HX3 := Lib.hid hx3
      have hcl : (w3.cell? ⟨w.heap.size, 0, none⟩ = some (.bool false) ∧ w3.cell? ⟨w.heap.size, 1, none⟩ = some (.slice none 0 0)) := box1 hx3
      clear hx3
      obtain ⟨q0, q1⟩ := hcl
      have hsl2 : s.data.toList.length = s.size := Array.length_toList
      have hs0 : 0 < s.size := by
        rw [← hsl2, HS.out]
        have := List.length_pos_iff.2 HNE.out
        split
        · simp
        · exact this
      have hs1 : s.toList.isEmpty = false := by
        rw [ByteArray.toList_eq, List.isEmpty_eq_false_iff]
        intro h; rw [h] at hsl2; simp at hsl2; omega
      have hs0i : (0 : Int) < (s.size : Int) := by omega
      have hs4 : ((s[0].toNat : Int) == 45) = p := by
        obtain ⟨x, r, e⟩ : ∃ x r, s.data.toList = x :: r := by
          cases h : s.data.toList with
          | nil => rw [h] at hsl2; simp at hsl2; omega
          | cons x r => exact ⟨x, r, rfl⟩
        have hx : s[0] = x := by
          show s.data[0] = x
          rw [← Array.getElem_toList]
          simp only [e]; rfl
        rw [hx]
        have h := HS.out
        rw [e] at h
        cases p
        · rw [if_neg (by simp)] at h
          have := HD.out x (by rw [← h]; simp)
          have := this.1
          simp; omega
        · rw [if_pos rfl] at h
          simp only [List.cons.injEq] at h
          rw [h.1]; rfl
      have hfin : digs Big (dval D) = cutz (L ++ [g]) := by
        have h1 := HI.out.2.1
        have h2 := HDV.out
        rw [HF0.out, List.take_zero] at h2
        rw [dval_nil, Nat.zero_mul, Nat.zero_add] at h2
        have h3 : dval D = val Big (L ++ [g]) := by rw [h1, h2, val_append]; simp [val]
        rw [h3]
        refine digs_of_val big2 _ fun d hd => ?_
        rcases List.mem_append.1 hd with hd | hd
        · exact HI.out.2.2 d hd
        · rw [List.mem_singleton] at hd; rw [hd]; exact hg18
      have HFIN := Lib.hid hfin
      clear hfin hsl2
      go_region_held3 (fun _ => True) (trivial) (first
        | (go_at_call 75; refine (trim_spec _ _ _ (L ++ [g]) _ (by exact HS3.out.row.ext) HLG.out).mono ?_; rintro e w4 ⟨rfl, hx⟩; have HX34 := Lib.hid hx.undrew; have HX4 := Lib.hid (Ext.tr (h := HX3.out) hx.undrew); clear hx q0 q1; obtain ⟨q0, q1⟩ := box1 HX4.out; obtain ⟨hc, hf, hs⟩ := HX4.out.cells))
      all_goals
        go_wp2_with fail
        rw [Exit.noGoto_ret]
        have r := cells_res HX4.out (g := w.heap.size) rfl
        have r1 := fun v0 => (r v0 undef).1
        have r2 := fun v0 v1 => (r v0 v1).2.1
        have r3 := fun v0 v1 => (r v0 v1).2.2
        exact bodyPost_ret (v := .agg #[.bool _, .slice A3 (cutz (L ++ [g])).length c3]) (by simp [results, Tryz.results50, go_sem, r1, r2, r3]) rfl
          (ret_cell _ _ HX4.out rfl inferInstance HZ.out (show Row w4 .u64 A3 c3 (digs Big (dval D)) by rw [HFIN.out]; exact (Row.cutz HS3.out.row).ext (x := HX34.out)) HP.out (by rw [← HFIN.out]; rfl))
    · have he : (P.extract 0 f).toList.isEmpty = false := by
        rw [Lib.extract_toList, List.isEmpty_eq_false_iff]
        intro h
        have := congrArg List.length h
        rw [List.drop_zero, List.length_take, HPS.out, List.length_nil] at this
        omega
      have HF0 := Lib.hid hf0
      clear hf0
      go_wp2_with (at_builtin; refine wp_append (w0 := w1) rfl (.tmp 21) (.tmp 23) 61 100 .u64 rfl Tryz.underlying61 el_u64 _ L (HA2.out.to (x := inferInstance)).ownS (some ⟨w2.heap.size, 0, none⟩) 1 [g] HROW.out 1 rfl rfl rfl (by omega) ?_; intro v' w3 hO hg; obtain ⟨A3, c3, rfl, hS⟩ := hO.parts; rw [HLG.out]; have HS3 := Lib.hid hS; clear hO hg hS)
      have h18 : P.size - f = 18 := by have := HF.out; have := HF0.out; omega
      have hts : (P.extract 0 f).data.toList = P.data.toList.take f := Lib.Pa.extract_upto_list P f
      have hsz : (P.extract 0 f).size = f := Lib.Pa.extract_upto_size P f hfp
      go_roundg f
      case measure => have := HF.out; have := HF0.out; omega
      case rel =>
        refine ⟨P.extract 0 f, L ++ [g], A3, c3, rfl, by rw [HLG.out], by rw [hsz]; exact Nat.le_refl _, by rw [hsz]; have := HF0.out; omega, by rw [hsz, HLG.out]; have := HF.out; omega, Lib.hid ⟨?_, ?_, ?_⟩, HS3⟩
        · rw [hts]; exact fun c hc => HI.out.1 c (List.mem_of_mem_take hc)
        · rw [HI.out.2.1, HDV.out, hts, h18, val_append, List.length_append, ← Big_pow]
          simp only [val, List.length_singleton, Nat.pow_succ, Nat.mul_zero, Nat.add_zero]
          rw [Nat.mul_add, Nat.mul_comm (dval _) Big, Nat.mul_assoc]; omega
        · intro d hd
          rcases List.mem_append.1 hd with hd | hd
          · exact HI.out.2.2 d hd
          · rw [List.mem_singleton] at hd; rw [hd]; exact hg18
theorem read_spec (s : ByteArray) (z : Int) (hs : Wh s z) (w : World) : Calls Tryz.prog 50 #[.string s] w (RetInt Big .u64 w z) := by
  have hl := hs.2
  refine read_core (neg z) (Lib.decDigits z.natAbs) s w ?_ (dec_ne _) (dec_dig _) (by rw [Lib.decDigits_length]; omega) z (dval_dec _).symm rfl
  rw [hs.1]
  show (Lib.itoa z).toArray.toList = _
  rw [List.toList_toArray]
  rcases Int.lt_or_le z 0 with h | h
  · rw [neg_true h, if_pos rfl, itoa_below h]
  · rw [neg_false h, if_neg (by simp), itoa_pos h]
end Go.Proofs.YtkmmkobiigddkaaGreatDoor
