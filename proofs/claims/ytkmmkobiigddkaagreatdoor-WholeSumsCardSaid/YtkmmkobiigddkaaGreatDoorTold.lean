import Derived.Test.YtkmmkobiigddkaaGreatDoorProg
import Derived.Test.YtkmmkobiigddkaaGreatDoorNumC
/-! The walks of package whole's texts: Told and its closure; Of. -/
set_option linter.unusedVariables false
set_option linter.unusedSimpArgs false
set_option maxRecDepth 100000
namespace Go.Proofs.YtkmmkobiigddkaaGreatDoor
open Go.RowKit

theorem Bld.to {w0 w W : World} {b : Nat} {l : List UInt8} (h : Bld w0 b l w) (x : Ext w W) : Bld w0 b l W := by
  have h1 := h.ext
  have go : ∀ p, Lib.BuilderAt 105 5 w0.heap.size b p (Lib.byteCells l) w → Lib.BuilderAt 105 5 w0.heap.size b p (Lib.byteCells l) W := fun p ⟨hB, v, hb, hown, hne⟩ =>
    ⟨hB, v, by rw [x.below.block b (Lib.BuilderAt.lt ⟨hB, v, hb, hown, hne⟩)]; exact hb, hown.kept (row := none) ⟨x.below.os, x.below.tape, x.below.output, x.below.size, fun i hi _ => x.below.block i hi⟩ (by cases v.ownBlock <;> simp), hne⟩
  exact ⟨Ext.tr x, h.is.elim (fun k => .inl (go _ k)) fun k => .inr (go _ k)⟩
theorem repeatL_zero (c : Nat) : Lib.repeatL [48] c = List.replicate c 48 := by
  induction c with
  | zero => rfl
  | succ c ih => rw [Lib.repeatL, ih]; rfl
theorem repeat_spec (c : Nat) (w : World) (hc : c ≤ 1099511627776) :
    Calls Tryz.prog 80 #[.string ⟨#[48]⟩, .int .i64 (c : Int)] w (Ret w (.string ⟨(List.replicate c (48 : UInt8)).toArray⟩)) :=
  (Tryz.strings_Repeat ⟨#[48]⟩ c w (by omega) (by show 1 * c ≤ _; omega)).mono fun e w' h => ⟨by rw [h.1]; show Ending.returned (.string ⟨(Lib.repeatL [48] c).toArray⟩) = _; rw [repeatL_zero], ⟨h.2⟩⟩
/-- It returns nothing, and the builder holds l. -/
def RetBld (w0 : World) (b : Nat) (l : List UInt8) (e : Ending) (w' : World) : Prop := e = .returned (.tuple #[]) ∧ Bld w0 b l w'
set_option maxHeartbeats 1000000 in
theorem told1_spec (w0 : World) (b : Nat) (l : List UInt8) (n k : Nat) (w : World) [ht : Tab w] (h : Bld w0 b l w) (hl : l.length ≤ 1099511627776) (hn : n < 18446744073709551616) (hk : k ≤ 18) :
    Calls Tryz.prog 77 #[.int .u64 (n : Int), .int .i64 (k : Int), .pointer (some ⟨b, 0, none⟩)] w (RetBld w0 b (l ++ (List.replicate (k - Lib.nDigits n) 48 ++ Lib.decDigits n))) := by
  have H := Lib.hid h
  obtain ⟨S, hS⟩ : ∃ S : ByteArray, ⟨(Lib.decDigits n).toArray⟩ = S := ⟨_, rfl⟩
  obtain ⟨d, hd⟩ : ∃ d, Lib.nDigits n = d := ⟨_, rfl⟩
  have hsz : S.size = d := by
    rw [← hS, ← hd]
    show (Lib.decDigits n).toArray.size = _
    simp [Lib.decDigits_length]
  have hd20 : d ≤ 20 := by rw [← hd]; exact (nDigits_le (by omega)).2 (by omega)
  have hmx : Builtin.max2 (.int .i64 ((k : Int) - (S.size : Int))) (.int .i64 0) = pure (.int .i64 ((k - d : Nat) : Int)) := by
    simp only [Builtin.max2, gt_iff_lt]
    congr 2
    by_cases hh : d ≤ k
    · rw [if_neg (by omega)]; omega
    · rw [if_pos (by omega)]; omega
  have hm2 := @max_two
  have hs20 : S.size ≤ 20 := by omega
  have HS := Lib.hid hS
  have HD := Lib.hid hd
  have HSZ := Lib.hid hsz
  clear h hS hd hsz
  go_enter Tryz.func77, Tryz.ntmps77
  go_wp2_with fail
  refine (fmtu_spec n hn _).mono ?_
  rintro e w2 ⟨rfl, hx⟩
  rw [HS.out]
  have HX := Lib.hid hx
  clear hx
  go_wp2_with fail
  refine (repeat_spec (k - d) _ (by omega)).mono ?_
  rintro e w3 ⟨rfl, hx⟩
  have HX3 := Lib.hid (Ext.tr (h := HX.out) hx)
  clear hx HX
  go_wp2_with fail
  obtain ⟨Z, hZ⟩ : ∃ Z : ByteArray, ({ data := Array.replicate (k - d) 48 } ++ S : ByteArray) = Z := ⟨_, rfl⟩
  have hz1 : Z.data.toList = List.replicate (k - Lib.nDigits n) 48 ++ Lib.decDigits n := by
    rw [← hZ, ByteArray.data_append, Array.toList_append, ← HS.out, HD.out]
    show (Array.replicate (k - d) 48).toList ++ (Lib.decDigits n).toArray.toList = _
    rw [Array.toList_replicate, List.toList_toArray]
  have hz2 : Z.size ≤ 1099511627776 := by
    have : Z.size = Z.data.toList.length := Array.length_toList.symm
    rw [this, hz1, List.length_append, List.length_replicate, Lib.decDigits_length, HD.out]; omega
  rw [hZ]
  refine (writeString_spec w0 b l Z _ (H.out.to HX3.out) hl hz2).mono ?_
  rintro e w4 ⟨rfl, hB⟩
  rw [hz1] at hB
  have HB := Lib.hid hB
  clear hB hz1 hz2 hZ
  go_wp2_with fail
  go_end0
  exact ⟨rfl, HB.out⟩
/-- What Told returns. -/
def told (z : Int) : Value := if Lib.nDigits z.natAbs ≤ 600 then .tuple #[.string (txt z), .int .i64 0] else .tuple #[.string ⟨#[]⟩, .int .i64 6]
theorem box1 {w W : World} {a0 a1 : Value} {T : TypeId} (x : Ext (w.alloc (.cells #[a0, a1] T)) W) : W.cell? ⟨w.heap.size, 0, none⟩ = some a0 ∧ W.cell? ⟨w.heap.size, 1, none⟩ = some a1 := by
  have h1 : W.heap[w.heap.size]? = some (.cells #[a0, a1] T (0, 0)) := by rw [x.below.block _ (by simp)]; exact heap_alloc_new w _
  exact ⟨by simp [World.cell?, h1], by simp [World.cell?, h1]⟩
set_option maxHeartbeats 1000000 in
theorem told_big (A : Option Addr) (c : Nat) (z : Int) (w : World) [ht : Tab w] (ha : Num Big .u64 w A c z.natAbs) (hd : dl Big z.natAbs ≤ 1099511627776) (hb : ¬ Lib.nDigits z.natAbs ≤ 600) :
    Calls Tryz.prog 43 #[.agg #[.bool (neg z), .slice A (dl Big z.natAbs) c]] w (Ret w (told z)) := by
  have HT := Lib.hid (show told z = .tuple #[.string ⟨#[]⟩, .int .i64 6] by unfold told; rw [if_neg hb])
  obtain ⟨d, hdd⟩ : ∃ d, Lib.nDigits z.natAbs = d := ⟨_, rfl⟩
  rw [hdd] at hb
  have HD := Lib.hid hdd
  have HA := Lib.hid ha
  have hb2 : (600 : Int) < (d : Int) := by omega
  clear ha hdd hb
  go_enter Tryz.func43, Tryz.ntmps43
  go_wp2_with fail
  refine (digits_spec _ _ z.natAbs _ HA.out.ext hd).mono ?_
  rintro e w2 ⟨rfl, hx⟩
  rw [HD.out]
  have HX := Lib.hid hx
  clear hx
  go_wp2_with fail
  go_ret2
  exact ⟨by rw [HT.out]; rfl, Ext.tr (h := inferInstance) HX.out⟩
theorem string_spec (w0 : World) (b : Nat) (l : List UInt8) (w : World) (h : Bld w0 b l w) :
    Calls Tryz.prog 82 #[.pointer (some ⟨b, 0, none⟩)] w fun e w' => e = .returned (.string ⟨l.toArray⟩) ∧ Ext w0 w' :=
  (Tryz.Builder_String_any w0.heap.size b l w h.is h.ext.below.size).mono fun e w' k => ⟨k.1, ⟨h.ext.below.trans k.2⟩⟩
theorem head10_len (c n k : Nat) : (head10 c n k).length ≤ Lib.nDigits n := by
  unfold head10
  split
  · simp
  · rw [Lib.decDigits_length, nDigits_le (nDigits_pos n)]
    exact Nat.lt_of_le_of_lt (Nat.div_le_self _ _) (Lib.lt_pow_nDigits n)
theorem told_step {m k u : Nat} (hk : k < dl Big m) (h1 : k + 1 = dl Big m → u = 1) (h2 : k + 1 < dl Big m → u = 18) :
    head10 18 m (k + 1) ++ (List.replicate (u - Lib.nDigits (gn (digs Big m) k)) 48 ++ Lib.decDigits (gn (digs Big m) k)) = head10 18 m k := by
  have hm : 0 < m := Nat.pos_of_ne_zero fun h => by rw [h, dl_zero] at hk; omega
  have hs := head10_step (c := 18) (k := k) (by omega) hm (by rw [← Big_pow]; exact hk)
  rw [← Big_pow] at hs
  rw [hs]
  congr 1
  have hg : gn (digs Big m) k < 10 ^ 18 := by rw [← Big_pow]; exact gn_mem_lt (by have := big2; omega) (digs_lt big2 m) k
  split
  · rename_i h
    rw [h1 h]
    have := nDigits_pos (gn (digs Big m) k)
    rw [show 1 - Lib.nDigits (gn (digs Big m) k) = 0 by omega]; rfl
  · rename_i h
    rw [h2 (by omega), pad_eq 18 _ (by omega) hg]
set_option maxHeartbeats 2000000 in
theorem told_zero (A : Option Addr) (c m : Nat) (z : Int) (w : World) [ht : Tab w] (ha : Num Big .u64 w A c m) (hd : dl Big m ≤ 1099511627776) (h600 : Lib.nDigits m ≤ 600) (hz : Lib.itoa z = Lib.decDigits 0 ++ head10 18 m 0) (hm : m = 0) :
    Calls Tryz.prog 43 #[.agg #[.bool false, .slice A (dl Big m) c]] w (Ret w (.tuple #[.string (txt z), .int .i64 0])) := by
  have HA := Lib.hid ha
  have HF := Lib.hid (show txt z = ⟨(Lib.decDigits 0 ++ head10 18 m 0).toArray⟩ by unfold txt; rw [hz])
  obtain ⟨d, hdd⟩ : ∃ d, Lib.nDigits m = d := ⟨_, rfl⟩
  have h600' := h600
  rw [hdd] at h600'
  have HD := Lib.hid hdd
  have hl0 : (Lib.decDigits 0 : List UInt8).length ≤ 1 := by simp [Lib.decDigits_length, Lib.nDigits_small (show 0 < 10 by omega)]
  have HL := Lib.hid (show (Lib.decDigits 0 : List UInt8).length + Lib.nDigits m ≤ 1099511627776 by omega)
  clear hl0
  have h6i : ¬ (600 : Int) < (d : Int) := by omega
  subst hm
  have hdz := dl_zero Big
  have hz1 : ((dl Big 0 : Int) == 0) = true := by rw [hdz]; rfl
  clear hdz
  clear ha hdd hz
  go_enter Tryz.func43, Tryz.ntmps43
  go_wp2_with fail
  refine (digits_spec _ _ 0 _ HA.out.ext hd).mono ?_
  rintro e w1 ⟨rfl, hx⟩
  rw [HD.out]
  obtain ⟨q0, q1⟩ := box1 hx
  have hlt : w.heap.size < w1.heap.size := by have := hx.below.size; simp at this; omega
  have HX := Lib.hid hx
  have HB0 : Hid (Bld w1 w1.heap.size [] (w1.alloc (.cells #[.pointer none, .slice none 0 0] 105))) := Lib.hid ⟨inferInstance, Lib.fresh_isBuilder _ _ _⟩
  have ht1 : Tab (w1.alloc (.cells #[.pointer none, .slice none 0 0] 105)) := ht.to (Ext.tr (h := Ext.tr (h := inferInstance) hx) inferInstance)
  clear hx
  go_wp2_with fail
  refine (told1_spec w1 _ [] 0 1 _ HB0.out (by simp) (by omega) (by omega)).mono ?_
  rintro e w2 ⟨rfl, hB⟩
  have hx2 : Ext (w.alloc (.cells #[.bool false, .slice A (dl Big 0) c] 63)) w2 := Ext.tr (h := HX.out) hB.ext
  obtain ⟨q2, q3⟩ := box1 hx2
  have HBS : Hid (Bld w1 w1.heap.size (Lib.decDigits 0 ++ head10 18 0 (dl Big 0)) w2) := Lib.hid (by
    have e : head10 18 0 (dl Big 0) = [] := by unfold head10; simp
    have e2 : List.replicate (1 - Lib.nDigits 0) (48 : UInt8) = [] := by rw [Lib.nDigits_small (by omega)]; rfl
    rw [e, List.append_nil]
    rw [e2, List.nil_append, List.nil_append] at hB
    exact hB)
  clear hB q0 q1 hx2
  go_wp2_with fail
  go_loopw [6, 7] (fun i v wr => ∃ (k u : Nat), k ≤ dl Big 0 ∧ i = .int .i64 ((k : Int) - 1) ∧ v = .int .i64 (u : Int) ∧ u ≤ 18 ∧ Hid ((k = dl Big 0 → u = 1) ∧ (k < dl Big 0 → u = 18)) ∧ Hid (Bld w1 w1.heap.size (Lib.decDigits 0 ++ head10 18 0 k) wr)) (fun i _ _ => (intOf i + 1).toNat)
  case atStart => exact ⟨dl Big 0, 1, Nat.le_refl _, rfl, rfl, by omega, Lib.hid ⟨fun _ => rfl, fun h => absurd h (by omega)⟩, HBS⟩
  case round =>
    clear HBS q2 q3
    obtain ⟨k, u, hk, rfl, rfl, hu, HU, HB⟩ := hrel
    have hxr : Ext (w.alloc (.cells #[.bool false, .slice A (dl Big 0) c] 63)) wr := Ext.tr (h := HX.out) HB.out.ext
    obtain ⟨q4, q5⟩ := box1 hxr
    have HXR := Lib.hid hxr
    clear hxr
    rcases k with _ | k
    · go_wp2_with fail
      refine (string_spec w1 _ _ _ HB.out).mono ?_
      rintro e w5 ⟨rfl, hx5⟩
      have HX5 := Lib.hid hx5
      clear hx5
      go_wp2_with fail
      go_ret2
      refine ⟨?_, Ext.tr (h := Ext.tr (h := inferInstance) HX.out) HX5.out⟩
      rw [HF.out]; rfl
    · rw [show ((k + 1 : Nat) : Int) - 1 = (k : Int) by omega]
      have hkl : k < dl Big 0 := by omega
      obtain ⟨ad, rfl, hca⟩ := (show Row wr .u64 A c (digs Big 0) from HA.out.ext (x := Ext.tr (h := inferInstance) HXR.out)).cell (by show 0 < dl Big 0; omega)
      have h1 := hca k hkl
      have hg : gn (digs Big 0) k < 18446744073709551616 := by have h : gn (digs Big 0) k < 1000000000000000000 := gn_mem_lt (by have := big2; omega) (digs_lt big2 0) k
                                                               omega
      have hst := told_step hkl HU.out.1 HU.out.2
      obtain ⟨g, hgg⟩ : ∃ g, gn (digs Big 0) k = g := ⟨_, rfl⟩
      rw [hgg] at h1 hg hst
      have HST := Lib.hid hst
      have htr : Tab wr := ht.to (Ext.tr (h := inferInstance) HXR.out)
      have hln := head10_len 18 0 (k + 1)
      clear hca hst hgg
      go_wp2_with fail
      refine (told1_spec w1 _ _ g u _ HB.out (by rw [List.length_append]; have := HL.out; omega) hg hu).mono ?_
      rintro e w5 ⟨rfl, hB5⟩
      rw [List.append_assoc, HST.out] at hB5
      have HB5 := Lib.hid hB5
      clear hB5
      go_wp2_with fail
      exact ⟨⟨k, 18, by omega, rfl, rfl, by omega, Lib.hid ⟨fun h => absurd h (by omega), fun _ => rfl⟩, HB5⟩, by simp [intOf]⟩
set_option maxHeartbeats 2000000 in
theorem told_neg (A : Option Addr) (c m : Nat) (z : Int) (w : World) [ht : Tab w] (ha : Num Big .u64 w A c m) (hd : dl Big m ≤ 1099511627776) (h600 : Lib.nDigits m ≤ 600) (hz : Lib.itoa z = [45] ++ head10 18 m 0) (hm : 0 < m) :
    Calls Tryz.prog 43 #[.agg #[.bool true, .slice A (dl Big m) c]] w (Ret w (.tuple #[.string (txt z), .int .i64 0])) := by
  have HA := Lib.hid ha
  have HF := Lib.hid (show txt z = ⟨([45] ++ head10 18 m 0).toArray⟩ by unfold txt; rw [hz])
  obtain ⟨d, hdd⟩ : ∃ d, Lib.nDigits m = d := ⟨_, rfl⟩
  have h600' := h600
  rw [hdd] at h600'
  have HD := Lib.hid hdd
  have hl0 : ([45] : List UInt8).length ≤ 1 := by simp [Lib.decDigits_length, Lib.nDigits_small (show 0 < 10 by omega)]
  have HL := Lib.hid (show ([45] : List UInt8).length + Lib.nDigits m ≤ 1099511627776 by omega)
  clear hl0
  have h6i : ¬ (600 : Int) < (d : Int) := by omega
  have hp : 0 < dl Big m := dl_pos big2 hm
  have hz1 : ((dl Big m : Int) == 0) = false := by simp; omega
  clear ha hdd hz
  go_enter Tryz.func43, Tryz.ntmps43
  go_wp2_with fail
  refine (digits_spec _ _ m _ HA.out.ext hd).mono ?_
  rintro e w1 ⟨rfl, hx⟩
  rw [HD.out]
  obtain ⟨q0, q1⟩ := box1 hx
  have hlt : w.heap.size < w1.heap.size := by have := hx.below.size; simp at this; omega
  have HX := Lib.hid hx
  have HB0 : Hid (Bld w1 w1.heap.size [] (w1.alloc (.cells #[.pointer none, .slice none 0 0] 105))) := Lib.hid ⟨inferInstance, Lib.fresh_isBuilder _ _ _⟩
  have ht1 : Tab (w1.alloc (.cells #[.pointer none, .slice none 0 0] 105)) := ht.to (Ext.tr (h := Ext.tr (h := inferInstance) hx) inferInstance)
  clear hx
  go_wp2_with fail
  refine (writeByte_spec w1 _ [] 45 45 rfl _ HB0.out (by simp)).mono ?_
  rintro e w2 ⟨rfl, hB⟩
  have hx2 : Ext (w.alloc (.cells #[.bool true, .slice A (dl Big m) c] 63)) w2 := Ext.tr (h := HX.out) hB.ext
  obtain ⟨q2, q3⟩ := box1 hx2
  have HBS : Hid (Bld w1 w1.heap.size ([45] ++ head10 18 m (dl Big m)) w2) := Lib.hid (by
    have e := head10_top (c := 18) (by omega) hm
    rw [← Big_pow] at e
    rw [e, List.append_nil]
    exact hB)
  clear hB q0 q1 hx2
  go_wp2_with fail
  go_loopw [6, 7] (fun i v wr => ∃ (k u : Nat), k ≤ dl Big m ∧ i = .int .i64 ((k : Int) - 1) ∧ v = .int .i64 (u : Int) ∧ u ≤ 18 ∧ Hid ((k = dl Big m → u = 1) ∧ (k < dl Big m → u = 18)) ∧ Hid (Bld w1 w1.heap.size ([45] ++ head10 18 m k) wr)) (fun i _ _ => (intOf i + 1).toNat)
  case atStart => exact ⟨dl Big m, 1, Nat.le_refl _, rfl, rfl, by omega, Lib.hid ⟨fun _ => rfl, fun h => absurd h (by omega)⟩, HBS⟩
  case round =>
    clear HBS q2 q3
    obtain ⟨k, u, hk, rfl, rfl, hu, HU, HB⟩ := hrel
    have hxr : Ext (w.alloc (.cells #[.bool true, .slice A (dl Big m) c] 63)) wr := Ext.tr (h := HX.out) HB.out.ext
    obtain ⟨q4, q5⟩ := box1 hxr
    have HXR := Lib.hid hxr
    clear hxr
    rcases k with _ | k
    · go_wp2_with fail
      refine (string_spec w1 _ _ _ HB.out).mono ?_
      rintro e w5 ⟨rfl, hx5⟩
      have HX5 := Lib.hid hx5
      clear hx5
      go_wp2_with fail
      go_ret2
      refine ⟨?_, Ext.tr (h := Ext.tr (h := inferInstance) HX.out) HX5.out⟩
      rw [HF.out]; rfl
    · rw [show ((k + 1 : Nat) : Int) - 1 = (k : Int) by omega]
      have hkl : k < dl Big m := by omega
      obtain ⟨ad, rfl, hca⟩ := (show Row wr .u64 A c (digs Big m) from HA.out.ext (x := Ext.tr (h := inferInstance) HXR.out)).cell (by show 0 < dl Big m; omega)
      have h1 := hca k hkl
      have hg : gn (digs Big m) k < 18446744073709551616 := by have h : gn (digs Big m) k < 1000000000000000000 := gn_mem_lt (by have := big2; omega) (digs_lt big2 m) k
                                                               omega
      have hst := told_step hkl HU.out.1 HU.out.2
      obtain ⟨g, hgg⟩ : ∃ g, gn (digs Big m) k = g := ⟨_, rfl⟩
      rw [hgg] at h1 hg hst
      have HST := Lib.hid hst
      have htr : Tab wr := ht.to (Ext.tr (h := inferInstance) HXR.out)
      have hln := head10_len 18 m (k + 1)
      clear hca hst hgg
      go_wp2_with fail
      refine (told1_spec w1 _ _ g u _ HB.out (by rw [List.length_append]; have := HL.out; omega) hg hu).mono ?_
      rintro e w5 ⟨rfl, hB5⟩
      rw [List.append_assoc, HST.out] at hB5
      have HB5 := Lib.hid hB5
      clear hB5
      go_wp2_with fail
      exact ⟨⟨k, 18, by omega, rfl, rfl, by omega, Lib.hid ⟨fun h => absurd h (by omega), fun _ => rfl⟩, HB5⟩, by simp [intOf]⟩
set_option maxHeartbeats 2000000 in
theorem told_pos (A : Option Addr) (c m : Nat) (z : Int) (w : World) [ht : Tab w] (ha : Num Big .u64 w A c m) (hd : dl Big m ≤ 1099511627776) (h600 : Lib.nDigits m ≤ 600) (hz : Lib.itoa z = [] ++ head10 18 m 0) (hm : 0 < m) :
    Calls Tryz.prog 43 #[.agg #[.bool false, .slice A (dl Big m) c]] w (Ret w (.tuple #[.string (txt z), .int .i64 0])) := by
  have HA := Lib.hid ha
  have HF := Lib.hid (show txt z = ⟨([] ++ head10 18 m 0).toArray⟩ by unfold txt; rw [hz])
  obtain ⟨d, hdd⟩ : ∃ d, Lib.nDigits m = d := ⟨_, rfl⟩
  have h600' := h600
  rw [hdd] at h600'
  have HD := Lib.hid hdd
  have hl0 : ([] : List UInt8).length ≤ 1 := by simp [Lib.decDigits_length, Lib.nDigits_small (show 0 < 10 by omega)]
  have HL := Lib.hid (show ([] : List UInt8).length + Lib.nDigits m ≤ 1099511627776 by omega)
  clear hl0
  have h6i : ¬ (600 : Int) < (d : Int) := by omega
  have hp : 0 < dl Big m := dl_pos big2 hm
  have hz1 : ((dl Big m : Int) == 0) = false := by simp; omega
  clear ha hdd hz
  go_enter Tryz.func43, Tryz.ntmps43
  go_wp2_with fail
  refine (digits_spec _ _ m _ HA.out.ext hd).mono ?_
  rintro e w1 ⟨rfl, hx⟩
  rw [HD.out]
  obtain ⟨q0, q1⟩ := box1 hx
  have hlt : w.heap.size < w1.heap.size := by have := hx.below.size; simp at this; omega
  have HX := Lib.hid hx
  have HB0 : Hid (Bld w1 w1.heap.size [] (w1.alloc (.cells #[.pointer none, .slice none 0 0] 105))) := Lib.hid ⟨inferInstance, Lib.fresh_isBuilder _ _ _⟩
  have ht1 : Tab (w1.alloc (.cells #[.pointer none, .slice none 0 0] 105)) := ht.to (Ext.tr (h := Ext.tr (h := inferInstance) hx) inferInstance)
  clear hx
  go_wp2_with fail
  have HBS : Hid (Bld w1 w1.heap.size ([] ++ head10 18 m (dl Big m)) (w1.alloc (.cells #[.pointer none, .slice none 0 0] 105))) := Lib.hid (by
    have e := head10_top (c := 18) (by omega) hm
    rw [← Big_pow] at e
    rw [e, List.append_nil]
    exact HB0.out)
  go_loopw [6, 7] (fun i v wr => ∃ (k u : Nat), k ≤ dl Big m ∧ i = .int .i64 ((k : Int) - 1) ∧ v = .int .i64 (u : Int) ∧ u ≤ 18 ∧ Hid ((k = dl Big m → u = 1) ∧ (k < dl Big m → u = 18)) ∧ Hid (Bld w1 w1.heap.size ([] ++ head10 18 m k) wr)) (fun i _ _ => (intOf i + 1).toNat)
  case atStart => exact ⟨dl Big m, 1, Nat.le_refl _, rfl, rfl, by omega, Lib.hid ⟨fun _ => rfl, fun h => absurd h (by omega)⟩, HBS⟩
  case round =>
    clear HBS q0 q1
    obtain ⟨k, u, hk, rfl, rfl, hu, HU, HB⟩ := hrel
    have hxr : Ext (w.alloc (.cells #[.bool false, .slice A (dl Big m) c] 63)) wr := Ext.tr (h := HX.out) HB.out.ext
    obtain ⟨q4, q5⟩ := box1 hxr
    have HXR := Lib.hid hxr
    clear hxr
    rcases k with _ | k
    · go_wp2_with fail
      refine (string_spec w1 _ _ _ HB.out).mono ?_
      rintro e w5 ⟨rfl, hx5⟩
      have HX5 := Lib.hid hx5
      clear hx5
      go_wp2_with fail
      go_ret2
      refine ⟨?_, Ext.tr (h := Ext.tr (h := inferInstance) HX.out) HX5.out⟩
      rw [HF.out]; rfl
    · rw [show ((k + 1 : Nat) : Int) - 1 = (k : Int) by omega]
      have hkl : k < dl Big m := by omega
      obtain ⟨ad, rfl, hca⟩ := (show Row wr .u64 A c (digs Big m) from HA.out.ext (x := Ext.tr (h := inferInstance) HXR.out)).cell (by show 0 < dl Big m; omega)
      have h1 := hca k hkl
      have hg : gn (digs Big m) k < 18446744073709551616 := by have h : gn (digs Big m) k < 1000000000000000000 := gn_mem_lt (by have := big2; omega) (digs_lt big2 m) k
                                                               omega
      have hst := told_step hkl HU.out.1 HU.out.2
      obtain ⟨g, hgg⟩ : ∃ g, gn (digs Big m) k = g := ⟨_, rfl⟩
      rw [hgg] at h1 hg hst
      have HST := Lib.hid hst
      have htr : Tab wr := ht.to (Ext.tr (h := inferInstance) HXR.out)
      have hln := head10_len 18 m (k + 1)
      clear hca hst hgg
      go_wp2_with fail
      refine (told1_spec w1 _ _ g u _ HB.out (by rw [List.length_append]; have := HL.out; omega) hg hu).mono ?_
      rintro e w5 ⟨rfl, hB5⟩
      rw [List.append_assoc, HST.out] at hB5
      have HB5 := Lib.hid hB5
      clear hB5
      go_wp2_with fail
      exact ⟨⟨k, 18, by omega, rfl, rfl, by omega, Lib.hid ⟨fun h => absurd h (by omega), fun _ => rfl⟩, HB5⟩, by simp [intOf]⟩
theorem told_spec (A : Option Addr) (c : Nat) (z : Int) (w : World) [ht : Tab w] (ha : Num Big .u64 w A c z.natAbs) (hd : dl Big z.natAbs ≤ 1099511627776) :
    Calls Tryz.prog 43 #[.agg #[.bool (neg z), .slice A (dl Big z.natAbs) c]] w (Ret w (told z)) := by
  by_cases hb : Lib.nDigits z.natAbs ≤ 600
  · have e : told z = .tuple #[.string (txt z), .int .i64 0] := by unfold told; rw [if_pos hb]
    rw [e]
    rcases Int.lt_trichotomy z 0 with h | h | h
    · rw [neg_true h]
      exact told_neg A c _ z w ha hd hb (by rw [itoa_below h, head10_end _ _ (by omega)]; rfl) (by omega)
    · subst h
      rw [neg_false (by omega)]
      exact told_zero A c _ 0 w ha hd hb (by rw [itoa_pos (by omega)]; simp [head10]) rfl
    · rw [neg_false (by omega)]
      exact told_pos A c _ z w ha hd hb (by rw [itoa_pos (by omega), head10_end _ _ (by omega)]; rfl) (by omega)
  · exact told_big A c z w ha hd hb
end Go.Proofs.YtkmmkobiigddkaaGreatDoor
