import Derived.Test.YtkmmkobiigddkaaGreatDoorProg
import Derived.Test.YtkmmkobiigddkaaGreatDoorLawG
import Derived.Laws.AppendOwn
/-! The walk of WholeTells: the package and its reference agree. -/
set_option linter.unusedVariables false
set_option linter.unusedSimpArgs false
set_option maxRecDepth 100000
namespace Go.Proofs.YtkmmkobiigddkaaGreatDoor
open Go.RowKit

theorem info2 : ∃ i, Tryz.prog.info? 33 = some i ∧ i.zero = some (.agg #[.string ⟨#[]⟩, .string ⟨#[]⟩]) ∧ i.size = 2 ∧ i.bytes = 32 := by
  have h : (Tryz.prog.info? 33).map (fun i => (i.zero, i.size, i.bytes)) = some (some (.agg #[.string ⟨#[]⟩, .string ⟨#[]⟩]), 2, 32) := by kernel_rfl
  exact info_parts h
theorem neg64 (n : Int) (h0 : -9223372036854775808 ≤ n) (h1 : n ≤ 9223372036854775807) : ∃ m : Int, IntKind.i64.wrap (-n) = m ∧ -9223372036854775808 ≤ m ∧ m ≤ 9223372036854775807 := by
  by_cases h : n = -9223372036854775808
  · subst h
    exact ⟨-9223372036854775808, by decide, by omega, by omega⟩
  · exact ⟨-n, IntWalk.i64_in _ (by omega), by omega, by omega⟩
noncomputable def sgV (s : ByteArray) : Int := match pz s with | some x => x.sign | none => 0
noncomputable def sgE (s : ByteArray) : Int := match pz s with | some _ => 0 | none => 10
theorem signw_spec (s : ByteArray) (w : World) : Calls Tryz.prog 15 #[.string s] w (Ret w (.tuple #[.int .i64 (sgV s), .int .i64 (sgE s)])) := sign_spec s w
theorem signr_spec (s : ByteArray) (hs : s.size ≤ 1099511627776) (w : World) : Calls Tryz.prog 16 #[.string s] w (Ret w (.tuple #[.int .i64 (sgV s), .int .i64 (sgE s)])) := sign4_spec s hs w
theorem wp_append_two {w0 w : World} {ops : Array Oper} {rest : List Oper} {o : Oper} {a : Act} {Q : Exit → Act → World → Prop} (hg : o.guard = none) (x y : Operand)
    (hop : o.op = .call { callee := .builtin .append, args := #[x, y], argTypes := #[31, 31] }) (g : Nat) (cs : Array Value) (hcs : cs.size = 8) (hE : Ext w0 w) (hg0 : w0.heap.size ≤ g) (hh : w.heap[g]? = some (.cells cs 33 (0, 0)))
    (hd : a.eval x = .slice (some ⟨g, 0, none⟩) 4 4) (s t : ByteArray) (b : Nat) (hs : a.eval y = .slice (some ⟨b, 0, none⟩) 1 1) (hb0 : w.cell? ⟨b, 0, none⟩ = some (.string s)) (hb1 : w.cell? ⟨b, 1, none⟩ = some (.string t))
    (hK : ∀ g' cap cur w1, Ext w0 w1 → w0.heap.size ≤ g' → w1.heap[g']? = some (.cells cur 33 (0, 0)) → cur.toList.take 10 = cs.toList ++ [.string s, .string t] → 5 ≤ cap → cap ≤ 9223372036854775807 → wpList Tryz.prog ops Q rest (a.put o.dst (.slice (some ⟨g', 0, none⟩) 5 cap)) w1) :
    wpList Tryz.prog ops Q (o :: rest) a w := by
  obtain ⟨i, hi, hz, hsz, hby⟩ := info2
  refine wpList_append_own w hg x y 31 hop w0.heap.size 33 i (.agg #[.string ⟨#[]⟩, .string ⟨#[]⟩]) 2 32 Tryz.underlying31 hi hz hsz hby rfl (by omega) (.slice (some ⟨g, 0, none⟩) 4 4) 4 cs.toList hd
    ⟨by rw [Array.length_toList]; omega, .inr ⟨g, 4, cs, rfl, hg0, hh, by omega, by unfold maxLen; omega, by omega, List.take_of_length_le (by rw [Array.length_toList]; omega)⟩⟩
    ⟨b, 0, none⟩ 1 1 [.string s, .string t] hs rfl ?_ ?_ (by unfold maxLen; omega) (by omega) hE.below.size ?_
  · intro j u hu
    have e : (⟨b, 0, none⟩ : Addr).add j = ⟨b, j, none⟩ := by unfold Addr.add; split <;> simp_all
    rw [e]
    rcases j with _ | _ | j
    · simp at hu; rw [← hu]; exact hb0
    · simp at hu; rw [← hu]; exact hb1
    · simp at hu
  · intro u hu
    simp only [List.mem_cons, List.not_mem_nil, or_false] at hu
    rcases hu with rfl | rfl <;> rfl
  · intro v' w1 hO hgr _
    rcases hO.2 with ⟨_, h0⟩ | ⟨g', cap, cur, rfl, h1, h2, h3, h4, h5, h6⟩
    · omega
    · unfold maxLen at h4
      exact hK g' cap cur w1 (ext_of_grownBy hE hgr (fun k hk => by simp only [Value.ownBlock, Option.some.injEq] at hk; omega)) h1 h2 h6 h3 (by omega)
noncomputable def ckE (s : ByteArray) : Int := match pz s with | some _ => 0 | none => 10
theorem checkw_spec (s : ByteArray) (w : World) : Calls Tryz.prog 19 #[.string s] w (Ret w (.int .i64 (ckE s))) := by
  unfold ckE
  rcases pz_or s with ⟨z, hz, hp⟩ | ⟨hz, hp⟩
  · rw [hp]; exact check_wh s z hz w
  · rw [hp]; exact check_none s hz w
theorem check4_spec (s : ByteArray) (hs : s.size ≤ 1099511627776) (w : World) : Calls Tryz.prog 20 #[.string s] w (Ret w (.int .i64 (ckE s))) := by
  unfold ckE
  rcases pz_or s with ⟨z, hz, hp⟩ | ⟨hz, hp⟩
  · rw [hp]; exact check4_wh s z hz w
  · rw [hp]; exact check4_none s hz hs w

set_option maxHeartbeats 8000000 in
theorem tells_walk (A B : ByteArray) (b b' : Bool) (G G' : Option Addr) (gc gc' z z' : Nat) (L L' : List Nat) (n : Int) (w : World) [ht : Tab w] [he : Errs w] (hA : A.size ≤ 9223372036854775807) (hB : B.size ≤ 9223372036854775807)
    (hG : Row w .u16 G gc L) (hL : ∀ x ∈ L, x < 65536) (hz : z < 65536) (hG' : Row w .u16 G' gc' L') (hL' : ∀ x ∈ L', x < 65536) (hz' : z' < 65536) (hn0 : -9223372036854775808 ≤ n) (hn1 : n ≤ 9223372036854775807) :
    Calls Tryz.prog 3 #[.agg #[.string A, .string B, .bool b, .slice G L.length gc, .int .u16 (z : Int), .bool b', .slice G' L'.length gc', .int .u16 (z' : Int)], .int .i64 n] w (Ret w (.bool true)) := by
  obtain ⟨SA, hSA⟩ : ∃ s, cut620 A = s := ⟨_, rfl⟩
  obtain ⟨SB, hSB⟩ : ∃ s, cut620 B = s := ⟨_, rfl⟩
  obtain ⟨SX, hSX⟩ : ∃ s, txt (dz b L z) = s := ⟨_, rfl⟩
  obtain ⟨SY, hSY⟩ : ∃ s, txt (dz b' L' z') = s := ⟨_, rfl⟩
  have hs1 : SA.size ≤ 1000 := by rw [← hSA]; have := cut620_size A; omega
  have hs2 : SB.size ≤ 1000 := by rw [← hSB]; have := cut620_size B; omega
  have hs3 : SX.size ≤ 1000 := by rw [← hSX, txt_size]; have := dz_nd b L z; split <;> omega
  have hs4 : SY.size ≤ 1000 := by rw [← hSY, txt_size]; have := dz_nd b' L' z'; split <;> omega
  have HG := Lib.hid hG
  have HG' := Lib.hid hG'
  obtain ⟨zI, hzI⟩ : ∃ x : Int, (z : Int) = x := ⟨_, rfl⟩
  obtain ⟨yI, hyI⟩ : ∃ x : Int, (z' : Int) = x := ⟨_, rfl⟩
  rw [hzI, hyI]
  have CP := Lib.hid (fun (w : World) (hr : Row w .u16 G gc L) (hr' : Row w .u16 G' gc' L') => (by have h := pairs_spec A B b b' G G' gc gc' z z' L L' w hA hB hr hL hz hr' hL' hz'; rw [hSA, hSB, hSX, hSY, hzI, hyI] at h; exact h : Calls _ _ _ w (RetPairs w SA SB SX SY)))
  obtain ⟨n', hn', hn0', hn1'⟩ := neg64 n hn0 hn1
  obtain ⟨SN, hSN⟩ : ∃ s, txt n = s := ⟨_, rfl⟩
  obtain ⟨SM, hSM⟩ : ∃ s, txt n' = s := ⟨_, rfl⟩
  have hs5 : SN.size ≤ 1000 := by rw [← hSN, txt_size]; have := nd64 hn0 hn1; split <;> omega
  have hs6 : SM.size ≤ 1000 := by rw [← hSM, txt_size]; have := nd64 hn0' hn1'; split <;> omega
  have CO := Lib.hid (fun (w : World) [ht : Tab w] => (by have h := of_spec n hn0 hn1 w; rw [hSN] at h; exact h : Calls _ _ _ w (Ret w (.string SN))))
  have CN := Lib.hid (fun (w : World) => (by have h := of4_spec n hn0 hn1 w; rw [hSN] at h; exact h : Calls _ _ _ w (Ret w (.string SN))))
  have CM := Lib.hid (fun (w : World) => (by have h := of4_spec n' hn0' hn1' w; rw [hSM] at h; exact h : Calls _ _ _ w (Ret w (.string SM))))
  clear hSN hSM
  clear hSA hSB hSX hSY hG hG' hL hL' hz hz' hzI hyI hA hB
  go_enter Tryz.func3, Tryz.ntmps3
  go_wp2_with fail
  have hb0 : Ext w (w.alloc (.cells #[.string A, .string B, .bool b, .slice G L.length gc, .int .u16 zI, .bool b', .slice G' L'.length gc', .int .u16 yI] 27)) := inferInstance
  have HB := Lib.hid hb0
  have ht0 := ht.to hb0
  have he0 := he.to hb0
  refine (works_spec _).mono ?_
  rintro e w1 ⟨rfl, hx⟩
  have HX := Lib.hid hx
  obtain ⟨⟨q0, q1⟩, ⟨q2, q3, q4⟩, q5, q6, q7⟩ := boxTwo hx
  clear hx ht0 he0 hb0
  go_wp2_with fail
  have ht2 := ht.to (Ext.tr (h := HB.out) HX.out)
  refine (CO.out _).mono ?_
  rintro e w2 ⟨rfl, hx⟩
  replace HX := Lib.hid (Ext.tr (h := HX.out) hx); clear hx
  clear ht2
  clear q0 q1 q2 q3 q4 q5 q6 q7
  obtain ⟨⟨q0, q1⟩, ⟨q2, q3, q4⟩, q5, q6, q7⟩ := boxTwo HX.out
  go_wp2_with fail
  refine (CN.out _).mono ?_
  rintro e w3 ⟨rfl, hx⟩
  replace HX := Lib.hid (Ext.tr (h := HX.out) hx); clear hx
  clear q0 q1 q2 q3 q4 q5 q6 q7
  obtain ⟨⟨q0, q1⟩, ⟨q2, q3, q4⟩, q5, q6, q7⟩ := boxTwo HX.out
  go_wp2_with fail
  refine (CP.out _ (HG.out.ext (x := Ext.tr (h := HB.out) HX.out)) (HG'.out.ext (x := Ext.tr (h := HB.out) HX.out))).mono ?_
  rintro e w4 ⟨g, rfl, hx, hg, hh⟩
  have hg0 : w.heap.size ≤ g := Nat.le_trans (Ext.tr (h := HB.out) HX.out).below.size hg
  have HH := Lib.hid hh; clear hh hg
  replace HX := Lib.hid (Ext.tr (h := HX.out) hx); clear hx
  clear q0 q1 q2 q3 q4 q5 q6 q7
  go_wp2_with fail
  refine (CN.out _).mono ?_
  rintro e w5 ⟨rfl, hx⟩
  have HH2 := Lib.hid (show _ = some (Obj.cells (eight SA SB SX SY) 33 (0, 0)) from (hx.below.block g (Array.getElem?_eq_some_iff.1 HH.out).1).trans HH.out); replace HH := HH2; clear HH2
  replace HX := Lib.hid (Ext.tr (h := HX.out) hx); clear hx
  go_wp2_with fail
  refine (CM.out _).mono ?_
  rintro e w6 ⟨rfl, hx⟩
  have HH2 := Lib.hid (show _ = some (Obj.cells (eight SA SB SX SY) 33 (0, 0)) from (hx.below.block g (Array.getElem?_eq_some_iff.1 HH.out).1).trans HH.out); replace HH := HH2; clear HH2
  replace HX := Lib.hid (Ext.tr (h := HX.out) hx); clear hx
  go_wp2_with (at_builtin; refine wp_append_two (w0 := w) rfl (.tmp 27) (.tmp 34) rfl g (eight SA SB SX SY) rfl (Ext.al _ _ _ (h := Ext.tr (h := HB.out) HX.out)) hg0 (((Ext.al _ _ _ (h := Ext.rf _)).below.block g (Array.getElem?_eq_some_iff.1 HH.out).1).trans HH.out) rfl SN SM _ rfl (by exact boxN (Ext.rf _) 0) (by exact boxN (Ext.rf _) 1) ?_; intro g2 cap cur w9 hx9 hg9 hh9 htk hc1 hc2)
  clear HH hg0 HX
  have HX := Lib.hid hx9
  have HH := Lib.hid hh9
  have hcell : ∀ k : Nat, k < 5 → ∃ s t : ByteArray, s.size ≤ 1000 ∧ t.size ≤ 1000 ∧ cur[k * 2]? = some (.string s) ∧ cur[k * 2 + 1]? = some (.string t) := by
    have hat : ∀ j, j < 10 → cur[j]? = ((eight SA SB SX SY).toList ++ [Value.string SN, .string SM])[j]? := by
      intro j hj
      rw [← htk, List.getElem?_take, if_pos hj, Array.getElem?_toList]
    intro k hk
    rw [hat (k * 2) (by omega), hat (k * 2 + 1) (by omega)]
    rcases (show k = 0 ∨ k = 1 ∨ k = 2 ∨ k = 3 ∨ k = 4 by omega) with rfl | rfl | rfl | rfl | rfl
    · exact ⟨SA, SB, hs1, hs2, rfl, rfl⟩
    · exact ⟨SX, SY, hs3, hs4, rfl, rfl⟩
    · exact ⟨SA, SY, hs1, hs4, rfl, rfl⟩
    · exact ⟨SY, SB, hs4, hs2, rfl, rfl⟩
    · exact ⟨SN, SM, hs5, hs6, rfl, rfl⟩
  clear htk hx9 hh9 hs5 hs6 CO CN CM
  go_wp2_with fail
  have HCL := Lib.hid hcell
  clear hcell hs1 hs2 hs3 hs4 CP HG HG' HB
  have htb := Lib.hid (ht.to HX.out)
  have heb := Lib.hid (he.to HX.out)
  go_loopw [37] (fun iv wr => ∃ k : Nat, k ≤ 5 ∧ iv = .int .i64 (k : Int) ∧ Hid (Ext w9 wr)) (fun iv _ => 5 - (intOf iv).toNat)
  case atStart => exact ⟨0, by omega, rfl, Lib.hid (Ext.rf _)⟩
  case round =>
    obtain ⟨k, hk, rfl, HXR⟩ := hrel
    by_cases hlt : k < 5
    · obtain ⟨s, t, hs, ht', hc0, hc1⟩ := HCL.out k hlt
      have hblk := (HXR.out.below.block g2 (Array.getElem?_eq_some_iff.1 HH.out).1).trans HH.out
      have c0 : wr.cell? ⟨g2, k * 2, none⟩ = some (.string s) := by simp [World.cell?, hblk, hc0]
      have c1 : wr.cell? ⟨g2, k * 2 + 1, none⟩ = some (.string t) := by simp [World.cell?, hblk, hc1]
      have hki : (k : Int) < 5 := by omega
      clear hc0 hc1 hblk
      obtain ⟨k1, hk1⟩ : ∃ v, intV s = v := ⟨_, rfl⟩
      have Kk1 := Lib.hid hk1; clear hk1
      obtain ⟨k2, hk2⟩ : ∃ v, intE s = v := ⟨_, rfl⟩
      have Kk2 := Lib.hid hk2; clear hk2
      obtain ⟨g1, hg1⟩ : ∃ v, sgV s = v := ⟨_, rfl⟩
      have Kg1 := Lib.hid hg1; clear hg1
      obtain ⟨g2v, hg2v⟩ : ∃ v, sgE s = v := ⟨_, rfl⟩
      have Kg2v := Lib.hid hg2v; clear hg2v
      obtain ⟨v1, hv1⟩ : ∃ v, cmpV s t = v := ⟨_, rfl⟩
      have Kv1 := Lib.hid hv1; clear hv1
      obtain ⟨v2, hv2⟩ : ∃ v, cmpE s t = v := ⟨_, rfl⟩
      have Kv2 := Lib.hid hv2; clear hv2
      obtain ⟨ck, hck⟩ : ∃ v, ckE s = v := ⟨_, rfl⟩
      have Kck := Lib.hid hck; clear hck
      have HXL := Lib.hid (Ext.rf (wr.alloc (.cells #[.string s, .string t] 33)))
      go_wp2_with fail
      have he7 := heb.out.to (Ext.tr (h := Ext.al _ _ _ (h := HXR.out)) HXL.out)
      refine (int_spec s _).mono ?_
      rintro e w27 ⟨rfl, hx⟩
      rw [Kk1.out, Kk2.out]
      replace HXL := Lib.hid (Ext.tr (h := HXL.out) hx); clear hx
      clear he7
      (try clear q0 q1); have q0 := boxN HXL.out 0; have q1 := boxN HXL.out 1
      go_wp2_with fail
      refine (int4_spec s (by omega) _).mono ?_
      rintro e w28 ⟨rfl, hx⟩
      rw [Kk1.out, Kk2.out]
      replace HXL := Lib.hid (Ext.tr (h := HXL.out) hx); clear hx
      (try clear q0 q1); have q0 := boxN HXL.out 0; have q1 := boxN HXL.out 1
      go_wp2_with fail
      refine (signw_spec s _).mono ?_
      rintro e w29 ⟨rfl, hx⟩
      rw [Kg1.out, Kg2v.out]
      replace HXL := Lib.hid (Ext.tr (h := HXL.out) hx); clear hx
      (try clear q0 q1); have q0 := boxN HXL.out 0; have q1 := boxN HXL.out 1
      go_wp2_with fail
      refine (signr_spec s (by omega) _).mono ?_
      rintro e w30 ⟨rfl, hx⟩
      rw [Kg1.out, Kg2v.out]
      replace HXL := Lib.hid (Ext.tr (h := HXL.out) hx); clear hx
      (try clear q0 q1); have q0 := boxN HXL.out 0; have q1 := boxN HXL.out 1
      go_wp2_with fail
      refine (cmpw_spec s t _).mono ?_
      rintro e w31 ⟨rfl, hx⟩
      rw [Kv1.out, Kv2.out]
      replace HXL := Lib.hid (Ext.tr (h := HXL.out) hx); clear hx
      (try clear q0 q1); have q0 := boxN HXL.out 0; have q1 := boxN HXL.out 1
      go_wp2_with fail
      refine (cmp4_spec s t (by omega) (by omega) _).mono ?_
      rintro e w32 ⟨rfl, hx⟩
      rw [Kv1.out, Kv2.out]
      replace HXL := Lib.hid (Ext.tr (h := HXL.out) hx); clear hx
      (try clear q0 q1); have q0 := boxN HXL.out 0; have q1 := boxN HXL.out 1
      go_wp2_with fail
      go_region_held3 (fun w' => w'.cell? ⟨wr.heap.size, 0, none⟩ = some (.string s)) (go_keep) (first
        | (go_at_call 19; (with_reducible refine (checkw_spec s _).mono ?_); rintro e w50 ⟨rfl, hx⟩; rw [Kck.out]; (try (replace hx := hx.undrew)); replace HXL := Lib.hid (Ext.tr (h := HXL.out) hx); clear hx q0 q1; have q0 := boxN HXL.out 0; have q1 := boxN HXL.out 1)
        | (go_at_call 20; (with_reducible refine (check4_spec s (by omega) _).mono ?_); rintro e w51 ⟨rfl, hx⟩; rw [Kck.out]; (try (replace hx := hx.undrew)); replace HXL := Lib.hid (Ext.tr (h := HXL.out) hx); clear hx q0 q1; have q0 := boxN HXL.out 0; have q1 := boxN HXL.out 1))
      all_goals
        go_wp2_with fail
        exact ⟨⟨k + 1, by omega, by simp, Lib.hid (Ext.tr (h := Ext.al _ _ _ (h := HXR.out)) HXL.out)⟩, by simp [intOf]; omega⟩
    · have hki : ¬ (k : Int) < 5 := by omega
      go_wp2_with fail
      go_ret
      exact ⟨rfl, Ext.tr (h := HX.out) HXR.out⟩
end Go.Proofs.YtkmmkobiigddkaaGreatDoor
