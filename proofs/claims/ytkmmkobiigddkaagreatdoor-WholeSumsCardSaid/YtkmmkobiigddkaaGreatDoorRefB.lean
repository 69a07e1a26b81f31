import Derived.Test.YtkmmkobiigddkaaGreatDoorProg
import Derived.Test.YtkmmkobiigddkaaGreatDoorRefA
import Derived.IntWalk
/-! The walks of the reference's whole numbers: difference, product. -/
set_option linter.unusedVariables false
set_option linter.unusedSimpArgs false
set_option maxRecDepth 100000
namespace Go.Proofs.YtkmmkobiigddkaaGreatDoor
open Go.RowKit

/-- The difference so far: k digits; r is the borrow. -/
structure DiffI (p : Nat) (a b : List Nat) (k r : Nat) (L : List Nat) : Prop where
  len : L.length = k
  vl : val p L + val p (b.take k) = val p (a.take k) + p ^ k * r
  lo : ∀ d, d ∈ L → d < p
  one : r ≤ 1
theorem DiffI.zero (p : Nat) (a b : List Nat) : DiffI p a b 0 0 [] := ⟨rfl, by simp [val], by simp, by omega⟩
theorem DiffI.step {p : Nat} {a b : List Nat} {k r : Nat} {L : List Nat} (hp : 2 ≤ p) (h : DiffI p a b k r L) (x r' : Nat) (hx : x + (r + gn b k) = gn a k + p * r') (hxp : x < p) (hr : r' ≤ 1) :
    DiffI p a b (k + 1) r' (L ++ [x]) := by
  refine ⟨by simp [h.len], ?_, ?_, hr⟩
  · rw [val_append, val_take_gn, val_take_gn, h.len]
    have h1 := h.vl
    have h2 : p ^ k * (x + (r + gn b k)) = p ^ k * (gn a k + p * r') := by rw [hx]
    have e3 : p ^ k * (p * r') = p ^ (k + 1) * r' := by rw [← Nat.mul_assoc, Nat.pow_succ]
    rw [Nat.mul_add, Nat.mul_add, Nat.mul_add, e3] at h2
    simp only [val, Nat.mul_zero, Nat.add_zero]
    omega
  · intro d hd
    rcases List.mem_append.1 hd with hd | hd
    · exact h.lo d hd
    · rw [List.mem_singleton] at hd; rw [hd]; exact hxp
theorem DiffI.done {p m n r : Nat} {L : List Nat} (hp : 2 ≤ p) (h : DiffI p (digs p m) (digs p n) (dl p m) r L) (hle : n ≤ m) : cutz L = digs p (m - n) := by
  have hdl : dl p n ≤ dl p m := dl_mono hp hle
  have hv := h.vl
  rw [List.take_of_length_le (show (digs p m).length ≤ dl p m from Nat.le_refl _), List.take_of_length_le (show (digs p n).length ≤ dl p m from hdl), val_digs hp, val_digs hp] at hv
  have h1 := val_lt hp L h.lo
  rw [h.len] at h1
  have h0 : r = 0 := by
    rcases Nat.eq_zero_or_pos r with h0 | h0
    · exact h0
    · have := h.one
      have : r = 1 := by omega
      subst this; omega
  subst h0
  have e : val p L = m - n := by omega
  rw [← e, digs_of_val hp L h.lo]

set_option maxHeartbeats 2000000 in
theorem diff4_spec (A B : Option Addr) (c d m n : Nat) (w : World) (ha : Num B4 .i64 w A c m) (hb : Num B4 .i64 w B d n) (hle : n ≤ m) (hm : dl B4 m ≤ 1099511627776) :
    Calls Tryz.prog 98 #[.slice A (dl B4 m) c, .slice B (dl B4 n) d] w (RetNum B4 .i64 w (m - n)) := by
  have HDA := Lib.hid (digs_lt b42 m)
  have HDB := Lib.hid (digs_lt b42 n)
  have hra : Row w .i64 A c (digs B4 m) := ha
  have hrb : Row w .i64 B d (digs B4 n) := hb
  have hn : dl B4 n ≤ dl B4 m := dl_mono b42 hle
  clear ha hb
  go_enter Tryz.func98, Tryz.ntmps98
  go_wp2_with fail
  go_loopw [5, 6, 7] (fun ov rv iv wr => ∃ (k r : Nat) (L : List Nat) (O : Option Addr) (oc : Nat), k ≤ dl B4 m ∧ ov = .slice O L.length oc ∧ rv = .int .i64 (r : Int) ∧ iv = .int .i64 (k : Int) ∧ r ≤ 1 ∧
    Hid (DiffI B4 (digs B4 m) (digs B4 n) k r L) ∧ Hid (OwnA 3 .i64 w wr O oc L)) (fun _ _ i _ => dl B4 m - (intOf i).toNat)
  case atStart => exact ⟨0, 0, [], none, 0, Nat.zero_le _, rfl, rfl, rfl, by omega, Lib.hid (DiffI.zero _ _ _), Lib.hid ⟨inferInstance, .inl ⟨rfl, rfl, rfl⟩⟩⟩
  case round =>
    obtain ⟨k, r, L, O, oc, hk, rfl, rfl, rfl, hr1, HI, HO⟩ := hrel
    have hLk : L.length = k := HI.out.len
    have HLK := Lib.hid hLk
    have HL1 := Lib.hid (show ∀ x, (L ++ [x]).length = k + 1 from fun x => by simp [hLk])
    rw [hLk]
    clear hLk
    by_cases hlt : k < dl B4 m
    · obtain ⟨ad, rfl, hca⟩ := (hra.ext (x := HO.out.1)).cell (by show 0 < dl B4 m; omega)
      have ga := hca k hlt
      clear hca
      have ba : gn (digs B4 m) k < 10000 := gn_mem_lt (by have := b42; omega) HDA.out k
      obtain ⟨x, hx⟩ : ∃ x : Int, (gn (digs B4 m) k : Int) = x := ⟨_, rfl⟩
      have hx0 : 0 ≤ x := by omega
      have hx1 : x < 10000 := by omega
      rw [hx] at ga
      have HX := Lib.hid hx
      obtain ⟨s, hs⟩ : ∃ s : Int, (r : Int) = s := ⟨_, rfl⟩
      have hs0 : 0 ≤ s := by omega
      have hs1 : s ≤ 1 := by omega
      rw [hs]
      have HS0 := Lib.hid hs
      clear hx hs ba
      by_cases hbk : k < dl B4 n
      · obtain ⟨bd, rfl, hcb⟩ := (hrb.ext (x := HO.out.1)).cell (by show 0 < dl B4 n; omega)
        have gb := hcb k hbk
        clear hcb
        have bb : gn (digs B4 n) k < 10000 := gn_mem_lt (by have := b42; omega) HDB.out k
        obtain ⟨y, hy⟩ : ∃ y : Int, (gn (digs B4 n) k : Int) = y := ⟨_, rfl⟩
        have hy0 : 0 ≤ y := by omega
        have hy1 : y < 10000 := by omega
        rw [hy] at gb
        have HY := Lib.hid hy
        clear hy bb
        by_cases hc : x - s - y < 0
        · have hst := HI.out.step b42 (gn (digs B4 m) k + B4 - (r + gn (digs B4 n) k)) 1 (by have := HX.out; have := HY.out; have := HS0.out; have := B4_eq; omega) (by have := HX.out; have := HY.out; have := HS0.out; have := B4_eq; omega) (by omega)
          have HST := Lib.hid hst
          have hrow := fun (W : World) => Row.lit 3 .i64 W W.heap.size rfl [gn (digs B4 m) k + B4 - (r + gn (digs B4 n) k)] #[Value.int .i64 (x - s - y + 10000)] (by simp only [enc, List.map_cons, List.map_nil]; congr 3; have := HX.out; have := HY.out; have := HS0.out; have := B4_eq; omega) 1 rfl (by omega)
          have HROW := Lib.hid hrow
          clear hst hrow
          go_wp2_with (at_builtin; refine wp_append (w0 := w) rfl (.tmp 35) (.tmp 37) 67 3 .i64 rfl Tryz.underlying67 el_i64 _ L (HO.out.to (x := inferInstance)).ownS _ 1 [gn (digs B4 m) k + B4 - (r + gn (digs B4 n) k)] (HROW.out _) 1 (by rw [HLK.out]; rfl) rfl rfl (by have := HLK.out; omega) ?_; intro v' w3 hO hg; obtain ⟨O3, c3, rfl, hS⟩ := hO.parts; rw [HL1.out]; have HS := Lib.hid hS; clear hO hg hS)
          exact ⟨⟨k + 1, 1, _, O3, c3, by omega, by rw [HL1.out], rfl, by simp, by omega, HST, HS⟩, by simp [intOf]; omega⟩
        · have hst := HI.out.step b42 (gn (digs B4 m) k - (r + gn (digs B4 n) k)) 0 (by have := HX.out; have := HY.out; have := HS0.out; have := B4_eq; omega) (by have := HX.out; have := HY.out; have := HS0.out; have := B4_eq; omega) (by omega)
          have HST := Lib.hid hst
          have hrow := fun (W : World) => Row.lit 3 .i64 W W.heap.size rfl [gn (digs B4 m) k - (r + gn (digs B4 n) k)] #[Value.int .i64 (x - s - y)] (by simp only [enc, List.map_cons, List.map_nil]; congr 3; have := HX.out; have := HY.out; have := HS0.out; have := B4_eq; omega) 1 rfl (by omega)
          have HROW := Lib.hid hrow
          clear hst hrow
          go_wp2_with (at_builtin; refine wp_append (w0 := w) rfl (.tmp 35) (.tmp 37) 67 3 .i64 rfl Tryz.underlying67 el_i64 _ L (HO.out.to (x := inferInstance)).ownS _ 1 [gn (digs B4 m) k - (r + gn (digs B4 n) k)] (HROW.out _) 1 (by rw [HLK.out]; rfl) rfl rfl (by have := HLK.out; omega) ?_; intro v' w3 hO hg; obtain ⟨O3, c3, rfl, hS⟩ := hO.parts; rw [HL1.out]; have HS := Lib.hid hS; clear hO hg hS)
          exact ⟨⟨k + 1, 0, _, O3, c3, by omega, by rw [HL1.out], rfl, by simp, by omega, HST, HS⟩, by simp [intOf]; omega⟩
      · have HY := Lib.hid (show gn (digs B4 n) k = 0 from gn_ge _ (by show dl B4 n ≤ k; omega))
        by_cases hc : x - s < 0
        · have hst := HI.out.step b42 (gn (digs B4 m) k + B4 - (r + gn (digs B4 n) k)) 1 (by have := HX.out; have := HY.out; have := HS0.out; have := B4_eq; omega) (by have := HX.out; have := HY.out; have := HS0.out; have := B4_eq; omega) (by omega)
          have HST := Lib.hid hst
          have hrow := fun (W : World) => Row.lit 3 .i64 W W.heap.size rfl [gn (digs B4 m) k + B4 - (r + gn (digs B4 n) k)] #[Value.int .i64 (x - s + 10000)] (by simp only [enc, List.map_cons, List.map_nil]; congr 3; have := HX.out; have := HY.out; have := HS0.out; have := B4_eq; omega) 1 rfl (by omega)
          have HROW := Lib.hid hrow
          clear hst hrow
          go_wp2_with (at_builtin; refine wp_append (w0 := w) rfl (.tmp 35) (.tmp 37) 67 3 .i64 rfl Tryz.underlying67 el_i64 _ L (HO.out.to (x := inferInstance)).ownS _ 1 [gn (digs B4 m) k + B4 - (r + gn (digs B4 n) k)] (HROW.out _) 1 (by rw [HLK.out]; rfl) rfl rfl (by have := HLK.out; omega) ?_; intro v' w3 hO hg; obtain ⟨O3, c3, rfl, hS⟩ := hO.parts; rw [HL1.out]; have HS := Lib.hid hS; clear hO hg hS)
          exact ⟨⟨k + 1, 1, _, O3, c3, by omega, by rw [HL1.out], rfl, by simp, by omega, HST, HS⟩, by simp [intOf]; omega⟩
        · have hst := HI.out.step b42 (gn (digs B4 m) k - (r + gn (digs B4 n) k)) 0 (by have := HX.out; have := HY.out; have := HS0.out; have := B4_eq; omega) (by have := HX.out; have := HY.out; have := HS0.out; have := B4_eq; omega) (by omega)
          have HST := Lib.hid hst
          have hrow := fun (W : World) => Row.lit 3 .i64 W W.heap.size rfl [gn (digs B4 m) k - (r + gn (digs B4 n) k)] #[Value.int .i64 (x - s)] (by simp only [enc, List.map_cons, List.map_nil]; congr 3; have := HX.out; have := HY.out; have := HS0.out; have := B4_eq; omega) 1 rfl (by omega)
          have HROW := Lib.hid hrow
          clear hst hrow
          go_wp2_with (at_builtin; refine wp_append (w0 := w) rfl (.tmp 35) (.tmp 37) 67 3 .i64 rfl Tryz.underlying67 el_i64 _ L (HO.out.to (x := inferInstance)).ownS _ 1 [gn (digs B4 m) k - (r + gn (digs B4 n) k)] (HROW.out _) 1 (by rw [HLK.out]; rfl) rfl rfl (by have := HLK.out; omega) ?_; intro v' w3 hO hg; obtain ⟨O3, c3, rfl, hS⟩ := hO.parts; rw [HL1.out]; have HS := Lib.hid hS; clear hO hg hS)
          exact ⟨⟨k + 1, 0, _, O3, c3, by omega, by rw [HL1.out], rfl, by simp, by omega, HST, HS⟩, by simp [intOf]; omega⟩
    · have hkm : k = dl B4 m := by omega
      have hd := DiffI.done b42 (hkm ▸ HI.out) hle
      have HD := Lib.hid hd
      have hrow := HO.out.row
      have HROW := Lib.hid hrow
      clear hd hkm hrow
      go_wp2_with fail
      refine (cut_spec _ _ _ L _ HROW.out HLK.out).mono ?_
      rintro e w3 ⟨rfl, hx⟩
      have HX := Lib.hid hx
      clear hx
      go_wp2_with fail
      go_ret
      have hx0 := HO.out.1
      refine ⟨O, oc, ret_slice (by rw [HD.out]; rfl), ?_, Ext.tr HX.out⟩
      have h9 := Row.cutz HROW.out
      rw [HD.out] at h9
      exact Row.ext (x := HX.out) h9

set_option maxHeartbeats 4000000 in
theorem prod4_spec (A B : Option Addr) (c d m n : Nat) (w : World) (ha : Num B4 .i64 w A c m) (hb : Num B4 .i64 w B d n) (hm : dl B4 m ≤ 1099511627776) (hn : dl B4 n ≤ 1099511627776) :
    Calls Tryz.prog 99 #[.slice A (dl B4 m) c, .slice B (dl B4 n) d] w (RetNum B4 .i64 w (m * n)) := by
  have HDA := Lib.hid (digs_lt b42 m)
  have HDB := Lib.hid (digs_lt b42 n)
  have hra : Row w .i64 A c (digs B4 m) := ha
  have hrb : Row w .i64 B d (digs B4 n) := hb
  have HP := Lib.hid b42
  have hm0 : (0 : Int) ≤ (dl B4 m : Int) := by omega
  have hn0 : (0 : Int) ≤ (dl B4 n : Int) := by omega
  clear ha hb
  go_enter Tryz.func99, Tryz.ntmps99
  go_wp2_with (at_make; refine wp_make (w0 := w) rfl (.tmp 13) 67 3 .i64 rfl Tryz.underlying67 el_i64 .i64 _ (dl B4 m + dl B4 n) rfl (by simp) (by omega) inferInstance ?_; intro w1 hA)
  go_loopw [6] (fun u wr => ∃ (i : Nat) (L : List Nat), i ≤ dl B4 m ∧ u = .int .i64 (i : Int) ∧ Hid (ProdO B4 (digs B4 m) (digs B4 n) i L) ∧ Hid (Arr 3 .i64 w wr w.heap.size (dl B4 m + dl B4 n) L)) (fun u _ => dl B4 m - (intOf u).toNat)
  case atStart => exact ⟨0, _, Nat.zero_le _, rfl, Lib.hid (ProdO.start b42 _ _), Lib.hid hA⟩
  case round =>
    clear hA
    obtain ⟨i, L, hi, rfl, hI, hA⟩ := hrel
    by_cases hlt : i < dl B4 m
    · obtain ⟨ad, rfl, hca⟩ := (hra.ext (x := hA.out.ext)).cell (by show 0 < dl B4 m; omega)
      obtain ⟨wo, rfl⟩ : ∃ wo : World, wo = wr := ⟨_, rfl⟩
      clear hca
      go_wp2
      go_loopw [7, 8] (fun x u wr => ∃ (j r : Nat) (L : List Nat), j ≤ dl B4 n ∧ u = .int .i64 (j : Int) ∧ x = .int .i64 (r : Int) ∧ Hid (ProdI B4 (digs B4 m) (digs B4 n) i j r L) ∧ Hid (Arr 3 .i64 w wr w.heap.size (dl B4 m + dl B4 n) L)) (fun _ u _ => dl B4 n - (intOf u).toNat)
      case atStart => exact ⟨0, 0, _, Nat.zero_le _, rfl, rfl, Lib.hid (hI.out.begin b42), hA⟩
      case round =>
        clear hI hA
        obtain ⟨j, r, L, hj, rfl, rfl, hI, hA⟩ := hrel
        by_cases hjt : j < dl B4 n
        · have hLn : L.length = dl B4 m + dl B4 n := hI.out.len
          obtain ⟨bd, rfl, hcb⟩ := (hrb.ext (x := hA.out.ext)).cell (by show 0 < dl B4 n; omega)
          have h1 := hcb j hjt
          obtain ⟨ad', had, hca⟩ := (hra.ext (x := hA.out.ext)).cell (by show 0 < dl B4 m; omega)
          obtain rfl : ad = ad' := Option.some.inj had
          have h0 := hca i hlt
          clear hcb hca had
          have h2 := hA.out.cell (j := i + j) (by omega)
          have h3 := hA.out.frozen (i + j)
          clear hLn
          have b1 : gn (digs B4 m) i < 10000 := gn_mem_lt (by have := HP.out; omega) HDA.out i
          have b2 : gn (digs B4 n) j < 10000 := gn_mem_lt (by have := HP.out; omega) HDB.out j
          have b3 : r < 10000 := hI.out.rt
          have b4 : gn L (i + j) < 10000 := hI.out.lo (i + j)
          have b5 : gn (digs B4 m) i * gn (digs B4 n) j ≤ 9999 * 9999 := Nat.mul_le_mul (by omega) (by omega)
          have st := hI.out.step HP.out hlt hjt HDA.out HDB.out
          obtain ⟨T, hT⟩ : ∃ T, gn (digs B4 m) i * gn (digs B4 n) j + r + gn L (i + j) = T := ⟨_, rfl⟩
          rw [hT] at st
          have hTi : (r : Int) + (gn L (i + j) : Int) + (gn (digs B4 m) i : Int) * (gn (digs B4 n) j : Int) = (T : Int) := by rw [← hT, Int.natCast_add, Int.natCast_add, Int.natCast_mul]; omega
          have hT2 : T ≤ 100000000 := by omega
          have hp0 : 0 ≤ (gn (digs B4 m) i : Int) * (gn (digs B4 n) j : Int) := by rw [← Int.natCast_mul]; omega
          have hp1 : (gn (digs B4 m) i : Int) * (gn (digs B4 n) j : Int) ≤ 99980001 := by rw [← Int.natCast_mul]; omega
          have ST := Lib.hid st
          clear st hT
          have v1 : IntKind.i64.wrap ((i : Int) + (j : Int)) = (i : Int) + (j : Int) := IntWalk.i64_in _ (by omega)
          have v2 : IntKind.i64.wrap ((r : Int) + (gn L (i + j) : Int)) = (r : Int) + (gn L (i + j) : Int) := IntWalk.i64_in _ (by omega)
          have v3 : IntKind.i64.wrap ((gn (digs B4 m) i : Int) * (gn (digs B4 n) j : Int)) = (gn (digs B4 m) i : Int) * (gn (digs B4 n) j : Int) := IntWalk.i64_in _ (by omega)
          have v4 : IntKind.i64.wrap ((T : Int)) = (T : Int) := IntWalk.i64_in _ (by omega)
          have v5 : (0 : Int) ≤ (i : Int) + (j : Int) := by omega
          have v6 : ((i : Int) + (j : Int)).toNat = i + j := by omega
          go_wp2
          go_quiet (fail)
          go_wp2
          refine ⟨⟨j + 1, T / B4, L.set (i + j) (T % B4), by omega, by simp, rfl, ST, Lib.hid ?_⟩, by simp [intOf]; omega⟩
          exact (hA.out.to (x := Ext.drn _ _ _)).set (i + j) (T % B4)
        · obtain rfl : j = dl B4 n := by omega
          have dn := hI.out.done HP.out hlt
          have DN := Lib.hid dn
          have hLn : L.length = dl B4 m + dl B4 n := hI.out.len
          have h2 := hA.out.cell (j := i + dl B4 n) (by omega)
          have h3 := hA.out.frozen (i + dl B4 n)
          clear hLn dn
          go_wp2
          refine ⟨⟨i + 1, _, by omega, by simp, DN, Lib.hid ?_⟩, by simp [intOf]; omega⟩
          exact hA.out.set (i + dl B4 n) r
    · obtain rfl : i = dl B4 m := by omega
      have hd := ProdO.done HP.out hI.out
      have hrow := hA.out.row
      have hc := Row.cutz hrow
      rw [hd] at hc
      have HD := Lib.hid hd
      have HLn := Lib.hid (show L.length = dl B4 m + dl B4 n from hI.out.len)
      clear hd
      have hx0 := hA.out.ext
      go_wp2_with (go_at_call 100; refine (cut_spec _ _ _ L _ hrow HLn.out).mono ?_; rintro e w3 ⟨rfl, hx⟩)
      go_ret
      exact ⟨_, _, ret_slice (by rw [HD.out]; rfl), hc.ext, Ext.tr hx⟩
end Go.Proofs.YtkmmkobiigddkaaGreatDoor
