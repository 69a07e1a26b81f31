import Derived.Test.YtkmmkobiigddkaaGreatDoorProg
import Derived.Test.YtkmmkobiigddkaaGreatDoorMassB
import Derived.Lib.SliceRun
/-! The walks of package whole's magnitudes: Minus. -/
set_option linter.unusedVariables false
set_option linter.unusedSimpArgs false
set_option maxRecDepth 100000
namespace Go.Proofs.YtkmmkobiigddkaaGreatDoor
open Go.RowKit

def RetOwn (t : TypeId) (k : IntKind) (w : World) (l : List Nat) (e : Ending) (w' : World) : Prop := ∃ v, e = .returned v ∧ OwnS t k w w' v l

theorem eql_nil (w : World) (a : Option Addr) (n c n' c' : Nat) : (binOp .eql 61 (.slice a n c) (.slice none n' c')).run Tryz.prog w = .ok (.bool a.isNone) w :=
  Lib.run_eql_slice_nil w 61 100 a n c n' c' Tryz.underlying61

set_option maxHeartbeats 400000 in
theorem clone_spec (A : Option Addr) (c n : Nat) (l : List Nat) (w : World) (h : Row w .u64 A c l) (hn : l.length = n) (hm : n ≤ 1099511627776) :
    Calls Tryz.prog 123 #[.slice A n c] w (RetOwn 100 .u64 w l) := by
  subst hn
  have q := eql_nil
  rcases A with _ | A
  · have h0 : l = [] := by
      rcases Nat.eq_zero_or_pos l.length with h0 | h0
      · exact List.length_eq_zero_iff.1 h0
      · obtain ⟨ad, e, _⟩ := h.cell h0; cases e
    subst h0
    go_enter Tryz.func123, Tryz.ntmps123
    go_wp2
    go_ret
    exact ⟨_, rfl, OwnS.nil inferInstance⟩
  · go_enter Tryz.func123, Tryz.ntmps123
    go_wp2_with (at_builtin; refine wp_append (w0 := w) rfl (.tmp 5) (.tmp 6) 61 100 .u64 rfl Tryz.underlying61 el_u64 _ [] (Arr.lit 100 .u64 w w [] (by simp)).ownS (some A) c l h.ext l.length rfl rfl rfl (by simp; omega) ?_; intro v w1 hO hg)
    go_ret
    exact ⟨v, rfl, hO⟩

/-- The difference so far: the first k digits; r is the borrow. -/
structure MinusI (p : Nat) (a b : List Nat) (k r : Nat) (L : List Nat) : Prop where
  len : L.length = a.length
  one : r ≤ 1
  vl : val p (L.take k) + val p (b.take k) = val p (a.take k) + p ^ k * r
  lo : ∀ j, j < k → gn L j < p
  hi : ∀ j, k ≤ j → gn L j = gn a j
theorem MinusI.zero (p : Nat) (a b : List Nat) : MinusI p a b 0 0 a := ⟨rfl, by omega, by simp [val], by intro j h; omega, fun _ _ => rfl⟩
theorem val_take_gn (p : Nat) (b : List Nat) (k : Nat) : val p (b.take (k + 1)) = val p (b.take k) + p ^ k * gn b k := by
  by_cases h : k < b.length
  · exact val_take_succ p b k h
  · rw [List.take_of_length_le (by omega), List.take_of_length_le (by omega), gn_ge b (by omega)]; omega
theorem take_set_lt (L : List Nat) (k x : Nat) : (L.set k x).take k = L.take k := by
  rw [List.take_set]; exact List.set_eq_of_length_le (by simp; omega)
theorem MinusI.step {p : Nat} {a b : List Nat} {k r : Nat} {L : List Nat} (hp : 2 ≤ p) (h : MinusI p a b k r L) (hk : k < a.length) (ha : ∀ d, d ∈ a → d < p) (hb : ∀ d, d ∈ b → d < p) (x r' : Nat)
    (hx : x + (r + gn b k) = gn L k + p * r') (hxp : x < p) (hr : r' ≤ 1) : MinusI p a b (k + 1) r' (L.set k x) := by
  have hl := h.len
  have e0 := h.hi k (Nat.le_refl _)
  refine ⟨by simp [hl], hr, ?_, fun j hj => ?_, fun j hj => ?_⟩
  · rw [val_take_succ p (L.set k x) k (by simp; omega), val_take_gn, val_take_succ p a k hk, take_set_lt, gn_set _ _ _ _ (by omega), if_pos rfl]
    have h1 := h.vl
    have h2 : p ^ k * (x + (r + gn b k)) = p ^ k * (gn L k + p * r') := by rw [hx]
    have e3 : p ^ k * (p * r') = p ^ (k + 1) * r' := by rw [← Nat.mul_assoc, Nat.pow_succ]
    rw [Nat.mul_add, Nat.mul_add, Nat.mul_add, e3, e0] at h2
    omega
  · rw [gn_set _ _ _ _ (by omega)]
    split
    · exact hxp
    · exact h.lo j (by omega)
  · rw [gn_set _ _ _ _ (by omega), if_neg (by omega)]
    exact h.hi j (by omega)
theorem MinusI.done {p : Nat} {m n r : Nat} {L : List Nat} (hp : 2 ≤ p) (h : MinusI p (digs p m) (digs p n) (digs p m).length r L) (hle : n ≤ m) : cutz L = digs p (m - n) := by
  have hdl : dl p n ≤ dl p m := dl_mono hp hle
  have hv := h.vl
  have hl := h.len
  rw [List.take_of_length_le (by omega), List.take_of_length_le (Nat.le_refl _), List.take_of_length_le (show (digs p n).length ≤ (digs p m).length from hdl), val_digs hp, val_digs hp] at hv
  have hlt : ∀ d, d ∈ L → d < p := fun d hd => by
    obtain ⟨j, hj, rfl⟩ := List.getElem_of_mem hd
    rw [← gn_lt L hj]; exact h.lo j (by omega)
  have h1 := val_lt hp L hlt
  rw [hl] at h1
  have hr := h.one
  have h0 : r = 0 := by
    rcases Nat.eq_zero_or_pos r with h0 | h0
    · exact h0
    · have : r = 1 := by omega
      subst this
      omega
  subst h0
  have e : val p L = m - n := by omega
  rw [← e, digs_of_val hp L hlt]

set_option maxHeartbeats 1000000 in
theorem minus_new (A B : Option Addr) (c d m n : Nat) (w : World) (ha : Num Big .u64 w A c m) (hb : Num Big .u64 w B d n) (hle : n ≤ m) (hm : dl Big m ≤ 1099511627776) :
    Calls Tryz.prog 95 #[.slice A (dl Big m) c, .slice B (dl Big n) d] w (RetNew Big .u64 w (m - n)) := by
  have hn : dl Big n ≤ dl Big m := dl_mono big2 hle
  have HDA := Lib.hid (digs_lt big2 m)
  have HDB := Lib.hid (digs_lt big2 n)
  have hra : Row w .u64 A c (digs Big m) := ha
  have hrb : Row w .u64 B d (digs Big n) := hb
  have HP := Lib.hid big2
  clear ha hb
  go_enter Tryz.func95, Tryz.ntmps95
  go_wp2_with (go_at_call 123; refine (clone_spec _ _ (dl Big m) _ _ hra rfl hm).mono ?_; rintro e w1 ⟨v, rfl, hO⟩; obtain ⟨O, q, rfl, hS⟩ := hO.parts)
  clear hO
  have hl0 : (digs Big m).length = dl Big m := rfl
  rw [hl0]
  clear hl0
  go_loopw [6, 13] (fun b u wr => ∃ (k r : Nat) (L : List Nat), k ≤ dl Big m ∧ u = .int .i64 (k : Int) ∧ b = .int .u64 (r : Int) ∧ Hid (MinusI Big (digs Big m) (digs Big n) k r L) ∧ Hid (OwnA 100 .u64 w wr O q L)) (fun _ u _ => dl Big m - (intOf u).toNat)
  case atStart => exact ⟨0, 0, _, Nat.zero_le _, rfl, rfl, Lib.hid (MinusI.zero Big _ _), Lib.hid hS⟩
  case round =>
    clear hS
    obtain ⟨k, r, L, hk, rfl, rfl, hI, hS⟩ := hrel
    by_cases hlt : k < dl Big m
    · have hLn : L.length = dl Big m := hI.out.len
      obtain ⟨g, rfl, hA⟩ := hS.out.get (by omega)
      have h2 := hA.cell (j := k) (by omega)
      have h3 := hA.frozen k
      have HA := Lib.hid hA
      clear hLn hA hS
      obtain ⟨x, hx⟩ : ∃ x : Int, (gn L k : Int) = x := ⟨_, rfl⟩
      have b0 : (gn L k : Int) ≤ 999999999999999999 := by
        have h := gn_mem_lt (by have := HP.out; omega) HDA.out k
        rw [← hI.out.hi k (Nat.le_refl _)] at h
        have : gn L k < 1000000000000000000 := h
        omega
      have hx0 : 0 ≤ x := by omega
      rw [hx] at h2 b0
      have HX := Lib.hid hx
      have hr1 := hI.out.one
      have HR := Lib.hid hr1
      obtain ⟨s, hs⟩ : ∃ s : Int, (r : Int) = s := ⟨_, rfl⟩
      have hs0 : 0 ≤ s := by omega
      have hs1 : s ≤ 1 := by omega
      rw [hs]
      have HSR := Lib.hid hs
      clear hs hr1 hx
      by_cases hb : k < dl Big n
      · obtain ⟨bd, rfl, hcb⟩ := (hrb.ext (x := HA.out.ext)).cell (by show 0 < dl Big n; omega)
        have h4 := hcb k hb
        clear hcb
        obtain ⟨y, hy⟩ : ∃ y : Int, (gn (digs Big n) k : Int) = y := ⟨_, rfl⟩
        have b1 : (gn (digs Big n) k : Int) ≤ 999999999999999999 := by
          have h : gn (digs Big n) k < 1000000000000000000 := gn_mem_lt (by have := HP.out; omega) HDB.out k
          omega
        have hy0 : 0 ≤ y := by omega
        rw [hy] at h4 b1
        have HY := Lib.hid hy
        clear hy
        by_cases hc : x < s + y
        · go_wp2
          refine ⟨⟨k + 1, 1, L.set k (gn L k + Big - (r + gn (digs Big n) k)), by omega, by simp, rfl, Lib.hid (MinusI.step HP.out hI.out hlt HDA.out HDB.out _ 1 ?_ ?_ (by omega)), Lib.hid ?_⟩, by simp [intOf]; omega⟩
          · have := HX.out; have := HY.out; have := HSR.out; have := Big_eq; omega
          · have := HX.out; have := HY.out; have := HSR.out; have := Big_eq; omega
          · have h := (HA.out.set k (gn L k + Big)).set k (gn L k + Big - (r + gn (digs Big n) k))
            have e1 : ((gn L k + Big : Nat) : Int) = x + 1000000000000000000 := by have := HX.out; have := Big_eq; omega
            have e2 : ((gn L k + Big - (r + gn (digs Big n) k) : Nat) : Int) = x + 1000000000000000000 - (s + y) := by have := HX.out; have := HY.out; have := HSR.out; have := Big_eq; omega
            rw [e1, e2, List.set_set] at h
            exact h.ownA
        · go_wp2
          refine ⟨⟨k + 1, 0, L.set k (gn L k - (r + gn (digs Big n) k)), by omega, by simp, rfl, Lib.hid (MinusI.step HP.out hI.out hlt HDA.out HDB.out _ 0 ?_ ?_ (by omega)), Lib.hid ?_⟩, by simp [intOf]; omega⟩
          · have := HX.out; have := HY.out; have := HSR.out; omega
          · have := HX.out; have := HY.out; have := HSR.out; have := Big_eq; omega
          · have h := HA.out.set k (gn L k - (r + gn (digs Big n) k))
            have e2 : ((gn L k - (r + gn (digs Big n) k) : Nat) : Int) = x - (s + y) := by have := HX.out; have := HY.out; have := HSR.out; omega
            rw [e2] at h
            exact h.ownA
      · have hy : gn (digs Big n) k = 0 := gn_ge _ (by show dl Big n ≤ k; omega)
        have HY := Lib.hid hy
        clear hy
        by_cases hc : x < s
        · go_wp2
          refine ⟨⟨k + 1, 1, L.set k (gn L k + Big - (r + gn (digs Big n) k)), by omega, by simp, rfl, Lib.hid (MinusI.step HP.out hI.out hlt HDA.out HDB.out _ 1 ?_ ?_ (by omega)), Lib.hid ?_⟩, by simp [intOf]; omega⟩
          · have := HX.out; have := HY.out; have := HSR.out; have := Big_eq; omega
          · have := HX.out; have := HY.out; have := HSR.out; have := Big_eq; omega
          · have h := (HA.out.set k (gn L k + Big)).set k (gn L k + Big - (r + gn (digs Big n) k))
            have e1 : ((gn L k + Big : Nat) : Int) = x + 1000000000000000000 := by have := HX.out; have := Big_eq; omega
            have e2 : ((gn L k + Big - (r + gn (digs Big n) k) : Nat) : Int) = x + 1000000000000000000 - s := by have := HX.out; have := HY.out; have := HSR.out; have := Big_eq; omega
            rw [e1, e2, List.set_set] at h
            exact h.ownA
        · go_wp2
          refine ⟨⟨k + 1, 0, L.set k (gn L k - (r + gn (digs Big n) k)), by omega, by simp, rfl, Lib.hid (MinusI.step HP.out hI.out hlt HDA.out HDB.out _ 0 ?_ ?_ (by omega)), Lib.hid ?_⟩, by simp [intOf]; omega⟩
          · have := HX.out; have := HY.out; have := HSR.out; omega
          · have := HX.out; have := HY.out; have := HSR.out; have := Big_eq; omega
          · have h := HA.out.set k (gn L k - (r + gn (digs Big n) k))
            have e2 : ((gn L k - (r + gn (digs Big n) k) : Nat) : Int) = x - s := by have := HX.out; have := HY.out; have := HSR.out; omega
            rw [e2] at h
            exact h.ownA
    · have hkm : k = (digs Big m).length := by show k = dl Big m; omega
      have hd := MinusI.done HP.out (hkm ▸ hI.out) hle
      have hrow := hS.out.row
      have hc := Row.cutz hrow
      rw [hd] at hc
      have HD := Lib.hid hd
      have HLn := Lib.hid (show L.length = dl Big m from hI.out.len)
      clear hd hkm
      go_wp2_with (go_at_call 75; refine (trim_spec _ _ _ L _ hrow HLn.out).mono ?_; rintro e w3 ⟨rfl, hx⟩)
      go_ret
      have hx0 := hS.out.1
      exact ⟨_, _, ret_slice (by rw [HD.out]; rfl), hc.ext, Ext.tr hx, hS.out.new⟩
theorem minus_spec (A B : Option Addr) (c d m n : Nat) (w : World) (ha : Num Big .u64 w A c m) (hb : Num Big .u64 w B d n) (hle : n ≤ m) (hm : dl Big m ≤ 1099511627776) :
    Calls Tryz.prog 95 #[.slice A (dl Big m) c, .slice B (dl Big n) d] w (RetNum Big .u64 w (m - n)) :=
  (minus_new A B c d m n w ha hb hle hm).mono fun _ _ h => h.num
end Go.Proofs.YtkmmkobiigddkaaGreatDoor
