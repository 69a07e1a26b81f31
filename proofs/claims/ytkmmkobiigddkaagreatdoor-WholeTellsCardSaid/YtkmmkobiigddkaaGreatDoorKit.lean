import Derived.WalkKit
import Derived.KernelRfl
import Derived.Deep.QuietTactic
import Derived.BigQuiet
import Derived.Deep.LoopGhost
import Derived.Deep.RegionHeld3
import Derived.Deep.DeepFit
import Derived.StillTailTactics
import Derived.Lib.Hide
import Derived.Deep.DeepCutAuto
import Derived.Deep.CutBlock
import Derived.Deep.DeepMust
import Derived.OwnWalk
import Derived.Laws.CopyOwn
import Derived.Laws.AppendOwnNone
import Derived.Test.YtkmmkobiigddkaaGreatDoorNum
/-! Words for the walks over any program: later worlds, slices of whole numbers that are read. -/
set_option linter.unusedVariables false
set_option linter.unusedSimpArgs false
namespace Go.Proofs.YtkmmkobiigddkaaGreatDoor
open Go.RowKit

/-- A later world: what lay there stands. -/
class Ext (w W : World) : Prop where
  below : Below w.heap.size w W
/-- A block that is not below the world's. -/
class Ge (w : World) (b : Nat) : Prop where
  le : w.heap.size ≤ b
instance Ge.self (w : World) : Ge w w.heap.size := ⟨Nat.le_refl _⟩
instance Ge.succ (w : World) (b : Nat) [h : Ge w b] : Ge w (b + 1) := ⟨Nat.le_succ_of_le h.le⟩
instance Ge.later (w W : World) [h : Ext w W] : Ge w W.heap.size := ⟨h.below.size⟩
instance Ext.rf (w : World) : Ext w w := ⟨Below.refl _ _⟩
instance Ext.al (w W : World) (o : Obj) [h : Ext w W] : Ext w (W.alloc o) := ⟨h.below.alloc h.below.size o⟩
instance Ext.dr (w W : World) [h : Ext w W] : Ext w W.drew := ⟨⟨h.below.os, h.below.tape, h.below.output, h.below.size, h.below.block⟩⟩
instance Ext.drn (w W : World) (n : Nat) [h : Ext w W] : Ext w (W.drewN n) := ⟨⟨h.below.os, h.below.tape, h.below.output, h.below.size, h.below.block⟩⟩
instance Ext.sc (w W : World) (b o : Nat) (v : Value) [h : Ext w W] [g : Ge w b] : Ext w (W.setCell ⟨b, o, none⟩ v) := ⟨h.below.setCell g.le v⟩
theorem Ext.tr {w w1 w2 : World} (k : Ext w1 w2) [h : Ext w w1] : Ext w w2 :=
  ⟨h.below.trans ⟨k.below.os, k.below.tape, k.below.output, k.below.size, fun i hi => k.below.block i (Nat.lt_of_lt_of_le hi h.below.size)⟩⟩
theorem Ext.keep {W w1 : World} (hx : Ext W w1) {p : Addr} {v : Value} (h : W.cell? p = some v) : w1.cell? p = some v := (hx.below.cell (World.block_lt_of_cell? W p h)).trans h
theorem Ext.cells {W w1 : World} (hb : Ext W w1) : (∀ b o, b < W.heap.size → w1.cell? ⟨b, o, none⟩ = W.cell? ⟨b, o, none⟩) ∧ (∀ b o, b < W.heap.size → w1.frozen? ⟨b, o, none⟩ = W.frozen? ⟨b, o, none⟩) ∧ W.heap.size ≤ w1.heap.size :=
  ⟨fun b o h => hb.below.cell (p := ⟨b, o, none⟩) h, fun b o h => hb.below.frozen (p := ⟨b, o, none⟩) h, hb.below.size⟩

/-- A slice of length l.length at A with the capacity c reads as l. -/
structure Row (w : World) (k : IntKind) (A : Option Addr) (c : Nat) (l : List Nat) : Prop where
  cap : l.length ≤ c
  max : c ≤ 9223372036854775807
  nil0 : A = none → c = 0
  cell : 0 < l.length → ∃ ad, A = some ad ∧ ∀ j, j < l.length → w.cell? (ad.add j) = some (.int k ((gn l j : Nat) : Int))
theorem Row.ext {w W : World} {k : IntKind} {A : Option Addr} {c : Nat} {l : List Nat} (h : Row w k A c l) [x : Ext w W] : Row W k A c l :=
  ⟨h.cap, h.max, h.nil0, fun h0 => let ⟨ad, e, f⟩ := h.cell h0; ⟨ad, e, fun j hj => x.keep (f j hj)⟩⟩
theorem Row.len {w : World} {k : IntKind} {A : Option Addr} {c : Nat} {l : List Nat} (h : Row w k A c l) : l.length ≤ 9223372036854775807 := Nat.le_trans h.cap h.max
theorem Row.nil (w : World) (k : IntKind) : Row w k none 0 [] := ⟨Nat.le_refl _, by omega, fun _ => rfl, fun h => absurd h (by simp)⟩
theorem Row.take {w : World} {k : IntKind} {A : Option Addr} {c : Nat} {l : List Nat} (h : Row w k A c l) (n : Nat) : Row w k A c (l.take n) :=
  ⟨by have := h.cap; have := List.length_take_le' n l; omega, h.max, h.nil0, fun h0 => by
    have hl : (l.take n).length ≤ l.length := List.length_take_le' n l
    obtain ⟨ad, e, f⟩ := h.cell (by omega)
    refine ⟨ad, e, fun j hj => ?_⟩
    rw [f j (by omega)]
    have : j < n := by rw [List.length_take] at hj; omega
    simp [gn, List.getElem?_take, this]⟩
theorem cutz_take : ∀ l : List Nat, cutz l = l.take (cutz l).length
  | [] => rfl
  | d :: r => by
    unfold cutz
    split
    · rfl
    · simp only [List.length_cons, List.take_succ_cons]; rw [← cutz_take r]
theorem Row.cutz {w : World} {k : IntKind} {A : Option Addr} {c : Nat} {l : List Nat} (h : Row w k A c l) : Row w k A c (Go.Proofs.YtkmmkobiigddkaaGreatDoor.cutz l) := by
  rw [cutz_take]; exact h.take _
/-- The number n at A, digits of the kind k to the base b. -/
def Num (b : Nat) (k : IntKind) (w : World) (A : Option Addr) (c n : Nat) : Prop := Row w k A c (digs b n)
theorem Num.ext {b : Nat} {k : IntKind} {w W : World} {A : Option Addr} {c n : Nat} (h : Num b k w A c n) [x : Ext w W] : Num b k W A c n := Row.ext h
/-- It returns the number n, in memory. -/
def RetNum (b : Nat) (k : IntKind) (w : World) (n : Nat) (e : Ending) (w' : World) : Prop :=
  ∃ A c, e = .returned (.slice A (dl b n) c) ∧ Num b k w' A c n ∧ Ext w w'
def neg (z : Int) : Bool := decide (z < 0)
/-- It returns the signed number z. -/
def RetInt (b : Nat) (k : IntKind) (w : World) (z : Int) (e : Ending) (w' : World) : Prop :=
  ∃ A c, e = .returned (.agg #[.bool (neg z), .slice A (dl b z.natAbs) c]) ∧ Num b k w' A c z.natAbs ∧ Ext w w'
/-- It returns the value v, and nothing that lay there has turned. -/
def Ret (w : World) (v : Value) (e : Ending) (w' : World) : Prop := e = .returned v ∧ Ext w w'
theorem ret_slice {A : Option Addr} {a b c : Nat} (h : a = b) : Ending.returned (.slice A a c) = .returned (.slice A b c) := by rw [h]
theorem ret_int {k : IntKind} {a b : Int} (h : a = b) : Ending.returned (.int k a) = .returned (.int k b) := by rw [h]
theorem ret_bool {a b : Bool} (h : a = b) : Ending.returned (.bool a) = .returned (.bool b) := by rw [h]
theorem ret_string {a b : ByteArray} (h : a = b) : Ending.returned (.string a) = .returned (.string b) := by rw [h]
def Big : Nat := 1000000000000000000
theorem Big_eq : Big = 1000000000000000000 := rfl
theorem big2 : 2 ≤ Big := by unfold Big; omega

/-- The cells of a list. -/
def enc (k : IntKind) (l : List Nat) : List Value := l.map fun x => .int k ((x : Nat) : Int)
theorem enc_length (k : IntKind) (l : List Nat) : (enc k l).length = l.length := by simp [enc]
theorem enc_set (k : IntKind) (l : List Nat) (i x : Nat) : (enc k l).set i (.int k (x : Int)) = enc k (l.set i x) := by simp [enc, List.map_set]
theorem enc_getElem? (k : IntKind) (l : List Nat) {j : Nat} (h : j < l.length) : (enc k l)[j]? = some (.int k ((gn l j : Nat) : Int)) := by simp [enc, gn, h]
theorem enc_one (k : IntKind) (l : List Nat) : ∀ v ∈ enc k l, v.oneCell' = true := by
  intro v hv; simp only [enc, List.mem_map] at hv; obtain ⟨x, _, rfl⟩ := hv; rfl
/-- A slice of one's own (made behind w0) at the head of block g, with the capacity c, that holds a list. -/
structure Arr (t : TypeId) (k : IntKind) (w0 w : World) (g c : Nat) (l : List Nat) : Prop where
  ext : Ext w0 w
  own : w.ownsRow w0.heap.size t 1 (.slice (some ⟨g, 0, none⟩) l.length c) l.length (enc k l)
section
variable {t : TypeId} {k : IntKind} {w0 w : World} {g c : Nat} {l : List Nat}
theorem Arr.blk (h : Arr t k w0 w g c l) : ∃ cur, w0.heap.size ≤ g ∧ w.heap[g]? = some (.cells cur t (0, 0)) ∧ l.length ≤ c ∧ c ≤ maxLen ∧ cur.size = c ∧ cur.toList.take l.length = enc k l := by
  rcases h.own.2 with ⟨h', _⟩ | ⟨g', cap', cur, h', hb, hg, hnc, hcm, hcs, htake⟩
  · simp at h'
  · simp only [Value.slice.injEq, Option.some.injEq, Addr.mk.injEq, and_true, true_and] at h'
    obtain ⟨rfl, rfl⟩ := h'
    exact ⟨cur, hb, hg, hnc, hcm, by omega, by simpa using htake⟩
theorem Arr.of (hx : Ext w0 w) (cur : Array Value) (hb : w0.heap.size ≤ g) (hg : w.heap[g]? = some (.cells cur t (0, 0))) (hl : l.length ≤ c) (hc : c ≤ maxLen) (hs : cur.size = c) (ht : cur.toList.take l.length = enc k l) : Arr t k w0 w g c l :=
  ⟨hx, by simp [enc], .inr ⟨g, c, cur, rfl, hb, hg, hl, hc, by omega, by simpa using ht⟩⟩
theorem Arr.ge (h : Arr t k w0 w g c l) : w0.heap.size ≤ g := let ⟨_, a, _⟩ := h.blk; a
theorem Arr.cap (h : Arr t k w0 w g c l) : l.length ≤ c := let ⟨_, _, _, a, _⟩ := h.blk; a
theorem Arr.geI (h : Arr t k w0 w g c l) : Ge w0 g := ⟨h.ge⟩
theorem Arr.cell (h : Arr t k w0 w g c l) {j : Nat} (hj : j < l.length) : w.cell? ⟨g, j, none⟩ = some (.int k ((gn l j : Nat) : Int)) := by
  rw [h.own.cellAt j (by omega)]; exact enc_getElem? k l hj
theorem Arr.frozen (h : Arr t k w0 w g c l) (j : Nat) : w.frozen? ⟨g, j, none⟩ = false := h.own.frozenAt j
theorem Arr.set (h : Arr t k w0 w g c l) (j x : Nat) : Arr t k w0 (w.setCell ⟨g, j, none⟩ (.int k (x : Int))) g c (l.set j x) := by
  have := h.ext
  have := h.geI
  refine ⟨inferInstance, ?_⟩
  have h1 := (h.own.stored j (.int k (x : Int))).1
  rw [enc_set] at h1
  simpa using h1
theorem Arr.to {W : World} (h : Arr t k w0 w g c l) [x : Ext w W] : Arr t k w0 W g c l := by
  have := h.ext
  obtain ⟨cur, a1, a2, a3, a4, a5, a6⟩ := h.blk
  have hg : g < w.heap.size := (Array.getElem?_eq_some_iff.1 a2).1
  exact Arr.of (Ext.tr x) cur a1 (by rw [x.below.block g hg]; exact a2) a3 a4 a5 a6
theorem Arr.row (h : Arr t k w0 w g c l) : Row w k (some ⟨g, 0, none⟩) c l := by
  obtain ⟨cur, a1, a2, a3, a4, a5, a6⟩ := h.blk
  refine ⟨a3, by unfold maxLen at a4; omega, fun h => (by simp at h), fun _ => ⟨_, rfl, fun j hj => ?_⟩⟩
  have e : (⟨g, 0, none⟩ : Addr).add j = ⟨g, j, none⟩ := by unfold Addr.add; split <;> simp_all
  rw [e]; exact h.cell hj
end
theorem ext_of_grown {w w' : World} (h : w.grownBy w' none) : Ext w w' := ⟨⟨h.os, h.tape, h.output, h.size, fun i hi => h.block i hi (by simp)⟩⟩
theorem made_zeros (k : IntKind) (n : Nat) : (madeCells (Value.int k 0).cells (n * 1)).toList = enc k (List.replicate n 0) := by
  have : (Value.int k 0).cells = #[.int k 0] := rfl
  rw [this, toList_madeCells_one]; simp [enc]

/-! Equations to be laid into the context ahead of a walk. -/
theorem max2_nat (k k' : IntKind) (x y : Nat) : Builtin.max2 (.int k (x : Int)) (.int k' (y : Int)) = pure (.int k ((max x y : Nat) : Int)) := by
  simp only [Builtin.max2, gt_iff_lt]
  congr 2
  by_cases h : y ≤ x
  · rw [if_neg (by omega)]; omega
  · rw [if_pos (by omega)]; omega
theorem min2_nat (k k' : IntKind) (x y : Nat) : Builtin.min2 (.int k (x : Int)) (.int k' (y : Int)) = pure (.int k ((min x y : Nat) : Int)) := by
  simp only [Builtin.min2]
  congr 2
  by_cases h : y < x
  · rw [if_pos (by omega)]; omega
  · rw [if_neg (by omega)]; omega
theorem max_two (ats : Array TypeId) (ty : TypeId) (a b : Value) : Builtin.max_ ats ty #[a, b] = (Builtin.max2 a b >>= fun s => pure s) := by simp only [Builtin.max_, List.foldlM_cons, List.foldlM_nil]
theorem min_two (ats : Array TypeId) (ty : TypeId) (a b : Value) : Builtin.min_ ats ty #[a, b] = (Builtin.min2 a b >>= fun s => pure s) := by simp only [Builtin.min_, List.foldlM_cons, List.foldlM_nil]

/-! The laws of make and copy at lists of whole numbers. -/
def Elem (P : Program) (e : TypeId) (k : IntKind) : Prop := ∃ i, P.info? e = some i ∧ i.zero = some (.int k 0) ∧ i.size = 1 ∧ i.bytes ≤ 8
theorem elem_of {P : Program} {e : TypeId} {k : IntKind} {b : Nat} (h : (P.info? e).map (fun i => (i.zero, i.size, i.bytes)) = some (some (.int k 0), 1, b)) (hb : b ≤ 8) : Elem P e k := by
  obtain ⟨i, a, b', c, d⟩ := info_parts h
  exact ⟨i, a, b', c, by omega⟩
theorem wp_make {P : Program} {w0 w : World} {ops : Array Oper} {rest : List Oper} {o : Oper} {a : Act} {Q : Exit → Act → World → Prop}
    (hg : o.guard = none) (x : Operand) (t e : TypeId) (k : IntKind) (hop : o.op = Op.makeSlice t x x) (h1 : P.underlying t = some (.slice e)) (h2 : Elem P e k)
    (kl : IntKind) (L : Int) (n : Nat) (hl : a.eval x = .int kl L) (hL : L = (n : Int)) (hn : n ≤ 35184372088832) (hx : Ext w0 w)
    (hK : ∀ w1, Arr e k w0 w1 w.heap.size n (List.replicate n 0) → wpList P ops Q rest (a.put o.dst (.slice (some ⟨w.heap.size, 0, none⟩) n n)) w1) :
    wpList P ops Q (o :: rest) a w := by
  obtain ⟨i, hi, hz, hs, hb⟩ := h2
  have hb' : i.bytes * n ≤ 8 * n := Nat.mul_le_mul_right n hb
  refine wpList_make_full w hg x x t hop w0.heap.size e i (.int k 0) 1 h1 hi hz hs kl kl L L n hl hl hL hL (by omega) (by unfold maxLen; omega) hx.below.size fun w1 ho hgr => hK w1 ?_
  have hx2 := ext_of_grown hgr
  exact ⟨Ext.tr hx2, by rw [← made_zeros]; simpa using ho⟩
theorem wp_copy {P : Program} {w0 w : World} {ops : Array Oper} {rest : List Oper} {o : Oper} {a : Act} {Q : Exit → Act → World → Prop}
    (hg : o.guard = none) (x y : Operand) (t t' e : TypeId) (k : IntKind) (hop : o.op = .call { callee := .builtin .copy, args := #[x, y], argTypes := #[t, t'] }) (h1 : P.underlying t = some (.slice e)) (h2 : Elem P e k)
    (g : Nat) (L : List Nat) (A : Option Addr) (n c : Nat) (hA : Arr e k w0 w g n L) (l : List Nat) (hr : Row w k A c l) (N1 N2 : Nat) (hd : a.eval x = .slice (some ⟨g, 0, none⟩) N1 n) (hs : a.eval y = .slice A N2 c) (hN1 : L.length = N1) (hN2 : l.length = N2) (hle : N2 ≤ N1)
    (hK : ∀ w1, Arr e k w0 w1 g n (l ++ L.drop l.length) → wpList P ops Q rest (a.put o.dst (goInt l.length)) w1) :
    wpList P ops Q (o :: rest) a w := by
  subst hN1 hN2
  obtain ⟨i, hi, hz, hsz, hb⟩ := h2
  obtain ⟨cur, a1, a2, a3, a4, a5, a6⟩ := hA.blk
  refine wpList_copy_splice hg x y t t' hop e h1 (by rw [hi]; simp [hsz]) _ _ _ _ _ _ hd hs g 0 cur.toList e (by simpa using a2) (enc k l) (by rw [enc_length]; exact (Nat.min_eq_left hle).symm) ?_ (by simp [enc]; omega) (enc_one _ _) w0.heap.size w0 hA.ext.below a1 ?_
  · intro h0
    obtain ⟨ad, e1, hc⟩ := hr.cell (by simpa [enc] using h0)
    refine ⟨rfl, ad, e1, fun j v hv => ?_⟩
    have hj : j < l.length := by
      have := (List.getElem?_eq_some_iff.1 hv).1
      simpa [enc] using this
    rw [enc_getElem? k l hj] at hv
    rw [hc j hj, hv]
  · intro w2 hb2 hB
    have hlen : (l ++ L.drop l.length).length = L.length := by simp; omega
    have hs : (splice cur.toList 0 (enc k l)).length = c ∨ True := .inr trivial
    have hs2 : (splice cur.toList 0 (enc k l)).length = cur.toList.length := length_splice _ _ _ (by simp [enc]; omega)
    have := hK w2 (Arr.of ⟨hB⟩ (splice cur.toList 0 (enc k l)).toArray a1 hb2.out (by omega) a4 (by simp [hs2, a5]) (by
      rw [hlen]
      have e1 : enc k (l ++ L.drop l.length) = enc k l ++ (enc k L).drop l.length := by simp [enc, List.map_drop]
      rw [e1, ← a6]
      simp only [splice, List.take_zero, List.nil_append, Nat.zero_add, enc_length]
      rw [List.take_append]
      simp only [enc_length]
      rw [List.take_of_length_le (by simp [enc]; omega), List.drop_take]))
    simpa [enc] using this

/-! append -/
/-- A slice of one's own, nil or in a block made behind w0, that holds a list. -/
structure OwnS (t : TypeId) (k : IntKind) (w0 w : World) (v : Value) (l : List Nat) : Prop where
  ext : Ext w0 w
  own : w.ownsRow w0.heap.size t 1 v l.length (enc k l)
section
variable {t : TypeId} {k : IntKind} {w0 w : World} {g c : Nat} {v : Value} {l : List Nat}
theorem OwnS.nil (hx : Ext w0 w) : OwnS t k w0 w (.slice none 0 0) [] := ⟨hx, World.ownsRow_nil _ _ _ _⟩
theorem Arr.ownS (h : Arr t k w0 w g c l) : OwnS t k w0 w (.slice (some ⟨g, 0, none⟩) l.length c) l := ⟨h.ext, h.own⟩
theorem OwnS.cases (h : OwnS t k w0 w v l) : (v = .slice none 0 0 ∧ l = []) ∨ ∃ g c, v = .slice (some ⟨g, 0, none⟩) l.length c ∧ Arr t k w0 w g c l := by
  rcases h.own.2 with ⟨h', hn⟩ | ⟨g', cap', cur, h', hb, hg, hnc, hcm, hcs, htake⟩
  · exact .inl ⟨h', List.length_eq_zero_iff.1 hn⟩
  · exact .inr ⟨g', cap', h', h.ext, h' ▸ h.own⟩
theorem OwnS.row (h : OwnS t k w0 w v l) : ∃ A c, v = .slice A l.length c ∧ Row w k A c l := by
  rcases h.cases with ⟨rfl, rfl⟩ | ⟨g, c, rfl, ha⟩
  · exact ⟨none, 0, rfl, Row.nil _ _⟩
  · exact ⟨_, _, rfl, ha.row⟩
theorem OwnS.to {W : World} (h : OwnS t k w0 w v l) [x : Ext w W] : OwnS t k w0 W v l := by
  have := h.ext
  rcases h.cases with ⟨rfl, rfl⟩ | ⟨g, c, rfl, ha⟩
  · exact OwnS.nil (Ext.tr x)
  · exact ha.to.ownS
end
theorem ext_of_grownBy {w0 w w' : World} {row : Option Nat} (hx : Ext w0 w) (h : w.grownBy w' row) (hr : ∀ k, row = some k → w0.heap.size ≤ k) : Ext w0 w' :=
  ⟨hx.below.grown h hx.below.size hr⟩
theorem append_core {P : Program} {w0 w : World} {o : Oper} {a : Act} {K : Act → World → Prop} {Q : Exit → Act → World → Prop}
    (x y : Operand) (t e : TypeId) (k : IntKind) (hop : o.op = .call { callee := .builtin .append, args := #[x, y], argTypes := #[t, t] }) (h1 : P.underlying t = some (.slice e)) (h2 : Elem P e k)
    (v : Value) (l1 : List Nat) (hO : OwnS e k w0 w v l1) (A : Option Addr) (c : Nat) (l2 : List Nat) (hr : Row w k A c l2) (N2 : Nat) (hd : a.eval x = v) (hs : a.eval y = .slice A N2 c) (hN2 : l2.length = N2)
    (hle : l1.length + N2 ≤ 17592186044416)
    (hK : ∀ v' w1, OwnS e k w0 w1 v' (l1 ++ l2) → w.grownBy w1 v.ownBlock → K (a.put o.dst v') w1) : o.wp P a w K Q := by
  subst hN2
  obtain ⟨i, hi, hz, hsz, hb⟩ := h2
  have hb' : (l1.length + l2.length) * i.bytes ≤ (l1.length + l2.length) * 8 := Nat.mul_le_mul_left _ hb
  rcases A with _ | A
  · have hc := hr.nil0 rfl
    have hl : l2 = [] := by
      rcases Nat.eq_zero_or_pos l2.length with h0 | h0
      · exact List.length_eq_zero_iff.1 h0
      · obtain ⟨ad, e, _⟩ := hr.cell h0; cases e
    subst hc hl
    have hrun := run_append_owned_none (P := P) (w := w) w0.heap.size t o.type e i 1 h1 hi v l1.length (enc k l1) hO.own
    unfold Oper.wp
    simp [execOp, hop, resolve, invoke, builtin, hd, hs, hrun, Result.andThen]
    exact hK v w (by simpa using hO) ⟨rfl, rfl, rfl, Nat.le_refl _, fun _ _ _ => rfl⟩
  · refine wp_append_own w x y t hop w0.heap.size e i (.int k 0) 1 i.bytes h1 hi hz hsz rfl rfl (by omega) v l1.length (enc k l1) hd hO.own A l2.length c (enc k l2) hs (by simp [enc]) ?_ (enc_one _ _) (by unfold maxLen; omega) (by omega) hO.ext.below.size ?_
    · intro j u hu
      have hj : j < l2.length := by
        have := (List.getElem?_eq_some_iff.1 hu).1
        simpa [enc] using this
      obtain ⟨ad, e1, hc⟩ := hr.cell (by omega)
      obtain rfl : A = ad := by simpa using e1
      rw [enc_getElem? k l2 hj] at hu
      rw [hc j hj, hu]
    · intro v' w1 ho hgr _
      refine hK v' w1 ⟨ext_of_grownBy hO.ext hgr fun q hq => (hO.own.lt q hq).1, ?_⟩ hgr
      have : enc k (l1 ++ l2) = enc k l1 ++ enc k l2 := by simp [enc]
      rw [this, List.length_append]; exact ho
theorem wp_append {P : Program} {w0 w : World} {ops : Array Oper} {rest : List Oper} {o : Oper} {a : Act} {Q : Exit → Act → World → Prop}
    (hg : o.guard = none) (x y : Operand) (t e : TypeId) (k : IntKind) (hop : o.op = .call { callee := .builtin .append, args := #[x, y], argTypes := #[t, t] }) (h1 : P.underlying t = some (.slice e)) (h2 : Elem P e k)
    (v : Value) (l1 : List Nat) (hO : OwnS e k w0 w v l1) (A : Option Addr) (c : Nat) (l2 : List Nat) (hr : Row w k A c l2) (N2 : Nat) (hd : a.eval x = v) (hs : a.eval y = .slice A N2 c) (hN2 : l2.length = N2)
    (hle : l1.length + N2 ≤ 17592186044416)
    (hK : ∀ v' w1, OwnS e k w0 w1 v' (l1 ++ l2) → w.grownBy w1 v.ownBlock → wpList P ops Q rest (a.put o.dst v') w1) :
    wpList P ops Q (o :: rest) a w :=
  wpList_plain hg fun K hK' => append_core x y t e k hop h1 h2 v l1 hO A c l2 hr N2 hd hs hN2 hle fun v' w1 h3 h4 => hK' _ _ (hK v' w1 h3 h4)
theorem Arr.lit (t : TypeId) (k : IntKind) (w0 w : World) (l : List Nat) (hl : l.length ≤ maxLen) [hx : Ext w0 w] : Arr t k w0 (w.alloc (.cells (enc k l).toArray t)) w.heap.size l.length l :=
  Arr.of inferInstance (enc k l).toArray hx.below.size (heap_alloc_new w _) (Nat.le_refl _) hl (by simp [enc]) (List.take_of_length_le (by simp [enc]))
theorem Row.lit (t : TypeId) (k : IntKind) (W : World) (B : Nat) (hB : W.heap.size = B) (l : List Nat) (cs : Array Value) (hcs : cs = (enc k l).toArray) (n : Nat) (hn : l.length = n) (hl : n ≤ 1000) : Row (W.alloc (.cells cs t)) k (some ⟨B, 0, none⟩) n l := by
  subst hB hcs hn
  exact (Arr.lit t k W W l (by unfold maxLen; omega)).row
/-- The same of a slice's parts: nil, or in a block of one's own. -/
def OwnA (t : TypeId) (k : IntKind) (w0 w : World) (A : Option Addr) (c : Nat) (l : List Nat) : Prop :=
  Ext w0 w ∧ ((A = none ∧ c = 0 ∧ l = []) ∨ ∃ g, A = some ⟨g, 0, none⟩ ∧ Arr t k w0 w g c l)
section
variable {t : TypeId} {k : IntKind} {w0 w : World} {v : Value} {l : List Nat} {A : Option Addr} {c : Nat}
theorem OwnS.parts (h : OwnS t k w0 w v l) : ∃ A c, v = .slice A l.length c ∧ OwnA t k w0 w A c l := by
  rcases h.cases with ⟨rfl, rfl⟩ | ⟨g, c, rfl, ha⟩
  · exact ⟨none, 0, rfl, h.ext, .inl ⟨rfl, rfl, rfl⟩⟩
  · exact ⟨_, _, rfl, h.ext, .inr ⟨g, rfl, ha⟩⟩
theorem OwnA.get (h : OwnA t k w0 w A c l) (h0 : 0 < l.length) : ∃ g, A = some ⟨g, 0, none⟩ ∧ Arr t k w0 w g c l := by
  rcases h.2 with ⟨_, _, rfl⟩ | h
  · simp at h0
  · exact h
theorem OwnA.row (h : OwnA t k w0 w A c l) : Row w k A c l := by
  rcases h.2 with ⟨rfl, rfl, rfl⟩ | ⟨g, rfl, h'⟩
  · exact Row.nil _ _
  · exact h'.row
theorem Arr.ownA {g : Nat} (h : Arr t k w0 w g c l) : OwnA t k w0 w (some ⟨g, 0, none⟩) c l := ⟨h.ext, .inr ⟨g, rfl, h⟩⟩
theorem OwnA.ownS (h : OwnA t k w0 w A c l) : OwnS t k w0 w (.slice A l.length c) l := by
  rcases h.2 with ⟨rfl, rfl, rfl⟩ | ⟨g, rfl, h'⟩
  · exact OwnS.nil h.1
  · exact h'.ownS
theorem OwnA.to {W : World} (h : OwnA t k w0 w A c l) [x : Ext w W] : OwnA t k w0 W A c l := by
  have := h.1
  rcases h.2 with h' | ⟨g, rfl, h'⟩
  · exact ⟨Ext.tr x, .inl h'⟩
  · exact ⟨Ext.tr x, .inr ⟨g, rfl, h'.to⟩⟩
end

/-- The block of a number's digits is not g. -/
def Off (g : Nat) (A : Option Addr) (n : Nat) : Prop := ∀ ad, A = some ad → 0 < n → ad.block ≠ g
/-- It was made behind w. -/
def New (w : World) (A : Option Addr) : Prop := ∀ ad, A = some ad → w.heap.size ≤ ad.block
theorem New.off {W : World} {A : Option Addr} (h : New W A) {g n : Nat} (hg : g < W.heap.size) : Off g A n := fun ad e _ => by have := h ad e; omega
theorem Addr.add_block (a : Addr) (j : Nat) : (a.add j).block = a.block := by unfold Addr.add; split <;> rfl
theorem Row.off {w : World} {k : IntKind} {A : Option Addr} {c : Nat} {l : List Nat} (h : Row w k A c l) {g : Nat} (ho : Off g A l.length) (o : Nat) (v : Value) : Row (w.setCell ⟨g, o, none⟩ v) k A c l :=
  ⟨h.cap, h.max, h.nil0, fun h0 => let ⟨ad, e, f⟩ := h.cell h0; ⟨ad, e, fun j hj => by
    rw [World.cell?_setCell_far _ _ _ _ (by rw [Addr.add_block]; exact (ho ad e h0).symm)]; exact f j hj⟩⟩
theorem Row.offOf {w : World} {k : IntKind} {A : Option Addr} {c : Nat} {l : List Nat} (h : Row w k A c l) {g : Nat} (hg : w.heap.size ≤ g) : Off g A l.length := fun ad e h0 => by
  obtain ⟨ad', e', f⟩ := h.cell h0
  obtain rfl : ad = ad' := by rw [e] at e'; exact Option.some.inj e'
  have := World.block_lt_of_cell? w _ (f 0 h0)
  rw [Addr.add_block] at this; omega
theorem Num.off {b : Nat} {w : World} {k : IntKind} {A : Option Addr} {c n : Nat} (h : Num b k w A c n) {g : Nat} (ho : Off g A (dl b n)) (o : Nat) (v : Value) : Num b k (w.setCell ⟨g, o, none⟩ v) A c n := Row.off h ho o v
theorem Arr.lt {t : TypeId} {k : IntKind} {w0 w : World} {g c : Nat} {l : List Nat} (h : Arr t k w0 w g c l) : g < w.heap.size := by
  obtain ⟨cur, _, h2, _⟩ := h.blk
  exact (Array.getElem?_eq_some_iff.1 h2).1
theorem Arr.new {t : TypeId} {k : IntKind} {w0 w : World} {g c : Nat} {l : List Nat} (h : Arr t k w0 w g c l) : New w0 (some ⟨g, 0, none⟩) := fun ad e => by obtain rfl := Option.some.inj e; exact h.ge
theorem OwnA.new {t : TypeId} {k : IntKind} {w0 w : World} {A : Option Addr} {c : Nat} {l : List Nat} (h : OwnA t k w0 w A c l) : New w0 A := by
  rcases h.2 with ⟨rfl, _, _⟩ | ⟨g, rfl, h'⟩
  · intro ad e; cases e
  · exact h'.new
/-- It returns the number n, in memory of its own. -/
def RetNew (b : Nat) (k : IntKind) (w : World) (n : Nat) (e : Ending) (w' : World) : Prop :=
  ∃ A c, e = .returned (.slice A (dl b n) c) ∧ Num b k w' A c n ∧ Ext w w' ∧ New w A
theorem RetNew.num {b : Nat} {k : IntKind} {w : World} {n : Nat} {e : Ending} {w' : World} (h : RetNew b k w n e w') : RetNum b k w n e w' := let ⟨A, c, h1, h2, h3, _⟩ := h; ⟨A, c, h1, h2, h3⟩

/-! A number that is stored into the cells of a result. -/
theorem Row.offB {W0 W : World} {g : Nat} {b0 : Bool} {a0 : Option Addr} {n0 c0 : Nat} {T : TypeId} {k : IntKind} {A : Option Addr} {c : Nat} {l : List Nat}
    (h : Row W k A c l) (x : Ext (W0.alloc (.cells #[.bool b0, .slice a0 n0 c0] T)) W) (hg : W0.heap.size = g) : Off g A l.length := by
  subst hg
  intro ad e h0 hb
  obtain ⟨ad', e', f⟩ := h.cell h0
  obtain rfl : ad = ad' := by rw [e] at e'; exact Option.some.inj e'
  have h1 := f 0 h0
  have h2 : W.heap[W0.heap.size]? = some (.cells #[.bool b0, .slice a0 n0 c0] T (0, 0)) := by
    rw [x.below.block _ (by simp)]; exact heap_alloc_new W0 _
  have e3 : ad.add 0 = ad := by unfold Addr.add; split <;> simp_all
  rw [e3] at h1
  unfold World.cell? at h1
  rw [hb, h2] at h1
  rcases ho : ad.off with _ | _ | o <;> simp [ho] at h1
theorem cells_res {W0 W : World} {g : Nat} {u0 u1 : Value} {T : TypeId} (x : Ext (W0.alloc (.cells #[u0, u1] T)) W) (hg : W0.heap.size = g) (v0 v1 : Value) :
    (W.setCell ⟨g, 0, none⟩ v0).cell? ⟨g, 0, none⟩ = some v0 ∧ ((W.setCell ⟨g, 0, none⟩ v0).setCell ⟨g, 1, none⟩ v1).cell? ⟨g, 0, none⟩ = some v0 ∧ ((W.setCell ⟨g, 0, none⟩ v0).setCell ⟨g, 1, none⟩ v1).cell? ⟨g, 1, none⟩ = some v1 := by
  subst hg
  have h2 : W.heap[W0.heap.size]? = some (.cells #[u0, u1] T (0, 0)) := by
    rw [x.below.block _ (by simp)]; exact heap_alloc_new W0 _
  refine ⟨?_, ?_, ?_⟩ <;> simp [World.cell?, World.setCell, Array.getElem?_modify, h2]
theorem Num.res {b : Nat} {k : IntKind} {W : World} {A : Option Addr} {c n g : Nat} (h : Num b k W A c n) (ho : Off g A (dl b n)) (v0 v1 : Value) : Num b k ((W.setCell ⟨g, 0, none⟩ v0).setCell ⟨g, 1, none⟩ v1) A c n :=
  Num.off (Num.off h ho 0 v0) ho 1 v1
theorem ret_cell {b : Nat} {k : IntKind} {w W0 W : World} {g : Nat} {b0 : Bool} {a0 : Option Addr} {n0 c0 : Nat} {T : TypeId} {A : Option Addr} {c : Nat} {z : Int} (v0 v1 : Value) {q : Bool} {m n : Nat}
    (x : Ext (W0.alloc (.cells #[.bool b0, .slice a0 n0 c0] T)) W) (hg : W0.heap.size = g) (h0 : Ext w W0) (hm : z.natAbs = m) (h : Num b k W A c m) (hq : q = neg z) (hn : n = dl b m) :
    RetInt b k w z (.returned (.agg #[.bool q, .slice A n c])) ((W.setCell ⟨g, 0, none⟩ v0).setCell ⟨g, 1, none⟩ v1) := by
  subst hq hm hn
  have ho : Off g A (dl b z.natAbs) := Row.offB h x hg
  have hge : Ge w g := ⟨by rw [← hg]; exact h0.below.size⟩
  have hx : Ext w W := Ext.tr (h := inferInstance) x
  exact ⟨A, c, rfl, h.res ho _ _, inferInstance⟩

/-! make and append inside a region that draws its order. -/
theorem step_make {P : Program} {w0 w : World} {ops : Array Oper} {o : Oper} {a : Act} {K : Act → World → Prop} {Q : Exit → Act → World → Prop} {E : Prop}
    (hg : o.guard = none) (x : Operand) (t e : TypeId) (k : IntKind) (hop : o.op = Op.makeSlice t x x) (h1 : P.underlying t = some (.slice e)) (h2 : Elem P e k)
    (kl : IntKind) (L : Int) (n : Nat) (hl : a.eval x = .int kl L) (hL : L = (n : Int)) (hn : n ≤ 35184372088832) (hx : Ext w0 w)
    (hK : ∀ w1, Arr e k w0 w1 w.heap.size n (List.replicate n 0) → Ext w w1 → K (a.put o.dst (.slice (some ⟨w.heap.size, 0, none⟩) n n)) w1) :
    if Region.wanted o (yielded ops a.tmps) = true then Oper.wp P o a w K Q else E := by
  have hw : Region.wanted o (yielded ops a.tmps) = true := by simp [Region.wanted, hg]
  rw [if_pos hw]
  obtain ⟨i, hi, hz, hs, hb⟩ := h2
  have hb' : i.bytes * n ≤ 8 * n := Nat.mul_le_mul_right n hb
  obtain ⟨w', hrun, r1, r2⟩ := run_make_full (P := P) w w0.heap.size t e i (.int k 0) 1 h1 hi hz hs kl kl n (by omega) (by unfold maxLen; omega) hx.below.size
  subst hL
  unfold Oper.wp
  simp [execOp, hop, hl, hrun, Result.andThen]
  have hx2 := ext_of_grown r2
  exact hK w' ⟨Ext.tr hx2, by rw [← made_zeros]; simpa using r1⟩ hx2
theorem step_append {P : Program} {w0 w : World} {ops : Array Oper} {o : Oper} {a : Act} {K : Act → World → Prop} {Q : Exit → Act → World → Prop} {E : Prop}
    (hg : o.guard = none) (x y : Operand) (t e : TypeId) (k : IntKind) (hop : o.op = .call { callee := .builtin .append, args := #[x, y], argTypes := #[t, t] }) (h1 : P.underlying t = some (.slice e)) (h2 : Elem P e k)
    (v : Value) (l1 : List Nat) (hO : OwnS e k w0 w v l1) (A : Option Addr) (c : Nat) (l2 : List Nat) (hr : Row w k A c l2) (N2 : Nat) (hd : a.eval x = v) (hs : a.eval y = .slice A N2 c) (hN2 : l2.length = N2)
    (hle : l1.length + N2 ≤ 17592186044416) (l3 : List Nat) (hl3 : l1 ++ l2 = l3) (N3 : Nat) (hN3 : l3.length = N3)
    (hK : ∀ A' c' w1, OwnA e k w0 w1 A' c' l3 → K (a.put o.dst (.slice A' N3 c')) w1) :
    if Region.wanted o (yielded ops a.tmps) = true then Oper.wp P o a w K Q else E := by
  have hw : Region.wanted o (yielded ops a.tmps) = true := by simp [Region.wanted, hg]
  rw [if_pos hw]
  refine append_core x y t e k hop h1 h2 v l1 hO A c l2 hr N2 hd hs hN2 hle fun v' w1 h3 _ => ?_
  rw [hl3] at h3
  obtain ⟨A', c', rfl, h4⟩ := h3.parts
  rw [hN3]
  exact hK A' c' w1 h4
theorem upon_make {P : Program} {w0 w : World} {o : Oper} {a : Act} {K : Act → World → Prop} {Q : Exit → Act → World → Prop}
    (t e : TypeId) (k kl : IntKind) (h1 : P.underlying t = some (.slice e)) (h2 : Elem P e k) (n : Nat) (hn : n ≤ 35184372088832) (hx : Ext w0 w)
    (hK : ∀ w1, Arr e k w0 w1 w.heap.size n (List.replicate n 0) → Ext w w1 → K (a.put o.dst (.slice (some ⟨w.heap.size, 0, none⟩) n n)) w1) :
    Oper.upon P o a K Q ((Sem.run P (Instr.makeSlice t (.int kl (n : Int)) (.int kl (n : Int))) w).andThen fun v w' => Result.ok (Next.value v) w') := by
  obtain ⟨i, hi, hz, hs, hb⟩ := h2
  have hb' : i.bytes * n ≤ 8 * n := Nat.mul_le_mul_right n hb
  obtain ⟨w', hrun, r1, r2⟩ := run_make_full (P := P) w w0.heap.size t e i (.int k 0) 1 h1 hi hz hs kl kl n (by omega) (by unfold maxLen; omega) hx.below.size
  rw [hrun]
  have hx2 := ext_of_grown r2
  exact hK w' ⟨Ext.tr hx2, by rw [← made_zeros]; simpa using r1⟩ hx2
end Go.Proofs.YtkmmkobiigddkaaGreatDoor
