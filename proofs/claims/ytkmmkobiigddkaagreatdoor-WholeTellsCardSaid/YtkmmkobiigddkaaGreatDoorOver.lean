import Derived.Test.YtkmmkobiigddkaaGreatDoorProg
import Derived.Test.YtkmmkobiigddkaaGreatDoorMassF
/-! Plain facts on the long division. -/
set_option linter.unusedVariables false
set_option linter.unusedSimpArgs false
namespace Go.Proofs.YtkmmkobiigddkaaGreatDoor
open Go.RowKit

/-- The long division so far: M = R + v Q; the digits of Q below the k-th are still 0. -/
structure OverI (p M v K k R : Nat) (Q : List Nat) : Prop where
  len : Q.length = K
  eq : R + v * val p Q = M
  lt : R < v * p ^ k
  zero : ∀ j, j < k → gn Q j = 0
  dig : ∀ j, gn Q j < p
theorem OverI.step {p M v K i R : Nat} {Q : List Nat} (hp : 2 ≤ p) (h : OverI p M v K (i + 1) R Q) (hi : i < K) (t : Nat) (h1 : v * t * p ^ i ≤ R) (h2 : R < v * (t + 1) * p ^ i) :
    OverI p M v K i (R - v * t * p ^ i) (Q.set i t) := by
  have hl := h.len
  have hlt : i < Q.length := by omega
  have h0 := h.zero i (by omega)
  have hv := val_set p Q i t hlt
  rw [h0, Nat.mul_zero] at hv
  have e1 : v * (t + 1) * p ^ i = v * t * p ^ i + v * p ^ i := by rw [Nat.mul_add, Nat.add_mul, Nat.mul_one]
  have ht : t < p := by
    refine Nat.not_le.1 fun hle => ?_
    have h3 := Nat.mul_le_mul_left v hle
    have h4 := Nat.mul_le_mul_right (p ^ i) h3
    have h5 := h.lt
    rw [Nat.pow_succ, Nat.mul_comm (p ^ i) p, ← Nat.mul_assoc] at h5
    omega
  refine ⟨by simp [hl], ?_, by omega, fun j hj => ?_, fun j => ?_⟩
  · have e2 : v * (p ^ i * t) = v * t * p ^ i := by rw [Nat.mul_assoc, Nat.mul_comm t]
    have e3 : val p (Q.set i t) = val p Q + p ^ i * t := by omega
    rw [e3, Nat.mul_add, e2]
    have := h.eq
    omega
  · rw [gn_set _ _ _ _ hlt, if_neg (by omega)]; exact h.zero j (by omega)
  · rw [gn_set _ _ _ _ hlt]; split
    · exact ht
    · exact h.dig j
theorem OverI.skip {p M v K i R : Nat} {Q : List Nat} (hp : 2 ≤ p) (h : OverI p M v K (i + 1) R Q) (h1 : R < v * p ^ i) : OverI p M v K i R Q :=
  ⟨h.len, h.eq, h1, fun j hj => h.zero j (by omega), h.dig⟩
theorem OverI.start {p m n f N : Nat} (hp : 2 ≤ p) (hn : dl p n = N) (hN : 0 < N) (hm : N ≤ dl p m) (hf : 0 < f) :
    OverI p (m * f) (n * f) (dl p m - N + 1) (dl p m - N + 1) (m * f) (List.replicate (dl p m - N + 1) 0) := by
  refine ⟨by simp, by simp [val_replicate], ?_, fun j _ => gn_replicate _ _, fun j => by rw [gn_replicate]; omega⟩
  have h1 := lt_pow_dl hp m
  have h2 : p ^ (N - 1) ≤ n := pow_le_of_dl hp (by omega)
  have h3 := Nat.mul_le_mul_right (p ^ (dl p m - N + 1)) h2
  rw [← Nat.pow_add, show N - 1 + (dl p m - N + 1) = dl p m by omega] at h3
  have h4 : m < n * p ^ (dl p m - N + 1) := by omega
  have h5 := Nat.mul_lt_mul_of_pos_right h4 hf
  have e : n * p ^ (dl p m - N + 1) * f = n * f * p ^ (dl p m - N + 1) := by rw [Nat.mul_assoc, Nat.mul_comm (p ^ _) f, ← Nat.mul_assoc]
  omega
/-- The quotient's digit is at most the guess by the highest digits. -/
theorem guess_ge {p v R N i t : Nat} (hp : 2 ≤ p) (hN : 0 < N) (hv : dl p v = N) (hR : R < v * p ^ (i + 1)) (ht : v * t * p ^ i ≤ R) :
    t ≤ (gn (digs p R) (i + N) * p + gn (digs p R) (i + N - 1)) / gn (digs p v) (N - 1) := by
  have htop : 0 < gn (digs p v) (N - 1) := by
    have h1 : 0 < (digs p v).length := by show 0 < dl p v; omega
    have hne : digs p v ≠ [] := by intro e; rw [e] at h1; simp at h1
    have := digs_trim hp v hne
    rw [List.getLast_eq_getElem] at this
    have e : (digs p v).length - 1 = N - 1 := by show dl p v - 1 = N - 1; omega
    rw [gn_lt _ (show N - 1 < (digs p v).length by show N - 1 < dl p v; omega)]
    simp only [e] at this
    omega
  rw [Nat.le_div_iff_mul_le htop]
  have hvN : v < p ^ N := by have := lt_pow_dl hp v; rwa [hv] at this
  have hRlt : R < p ^ (i + N + 1) := by
    have h1 := Nat.mul_le_mul_right (p ^ (i + 1)) (Nat.le_of_lt hvN)
    rw [← Nat.pow_add, show N + (i + 1) = i + N + 1 by omega] at h1
    omega
  -- the value of R by its two highest digits
  have hRv : R < (gn (digs p R) (i + N) * p + gn (digs p R) (i + N - 1) + 1) * p ^ (i + N - 1) := by
    have hlen : dl p R ≤ i + N + 1 := dl_le hp _ _ hRlt
    have e0 : val p (digs p R) = val p ((digs p R).take (i + N + 1)) := by rw [List.take_of_length_le hlen]
    have e1 := val_take_gn p (digs p R) (i + N)
    have e2 := val_take_gn p (digs p R) (i + N - 1)
    rw [show i + N - 1 + 1 = i + N by omega] at e2
    have h3 := val_lt hp ((digs p R).take (i + N - 1)) (fun d hd => digs_lt hp R d (List.mem_of_mem_take hd))
    have h4 : p ^ ((digs p R).take (i + N - 1)).length ≤ p ^ (i + N - 1) := Nat.pow_le_pow_right (by omega) (List.length_take_le _ _)
    rw [val_digs hp] at e0
    have e5 : p ^ (i + N) = p * p ^ (i + N - 1) := by rw [← Nat.pow_succ']; congr 1; omega
    have e6 : (gn (digs p R) (i + N) * p + gn (digs p R) (i + N - 1) + 1) * p ^ (i + N - 1) = p ^ (i + N) * gn (digs p R) (i + N) + p ^ (i + N - 1) * gn (digs p R) (i + N - 1) + p ^ (i + N - 1) := by
      rw [Nat.add_mul, Nat.add_mul, e5, Nat.one_mul]
      congr 1
      congr 1
      · rw [Nat.mul_assoc, Nat.mul_comm]
      · rw [Nat.mul_comm]
    omega
  have hvv : gn (digs p v) (N - 1) * p ^ (N - 1) ≤ v := by
    have := val_ge_last p (digs p v) (N - 1) (by show N - 1 < dl p v; omega)
    rw [val_digs hp, Nat.mul_comm] at this; exact this
  have h5 : gn (digs p v) (N - 1) * p ^ (N - 1) * t * p ^ i ≤ v * t * p ^ i := Nat.mul_le_mul_right _ (Nat.mul_le_mul_right _ hvv)
  have e7 : gn (digs p v) (N - 1) * p ^ (N - 1) * t * p ^ i = t * gn (digs p v) (N - 1) * p ^ (i + N - 1) := by
    rw [show i + N - 1 = (N - 1) + i by omega, Nat.pow_add]
    rw [Nat.mul_comm (gn (digs p v) (N - 1) * p ^ (N - 1)) t, ← Nat.mul_assoc, Nat.mul_assoc (t * gn (digs p v) (N - 1))]
  have h6 : t * gn (digs p v) (N - 1) * p ^ (i + N - 1) < (gn (digs p R) (i + N) * p + gn (digs p R) (i + N - 1) + 1) * p ^ (i + N - 1) := by omega
  have := Nat.lt_of_mul_lt_mul_right h6
  omega
/-- The digits of a number times a power of the base. -/
theorem digs_shift {p : Nat} (hp : 2 ≤ p) (x i : Nat) : cutz (List.replicate i 0 ++ digs p x) = digs p (x * p ^ i) := by
  have h : val p (List.replicate i 0 ++ digs p x) = x * p ^ i := by rw [val_append, val_replicate, val_digs hp, List.length_replicate, Nat.mul_comm]; omega
  rw [← h]
  exact (digs_of_val hp _ fun d hd => by
    rcases List.mem_append.1 hd with hd | hd
    · have := (List.mem_replicate.1 hd).2; omega
    · exact digs_lt hp x d hd).symm
theorem digs_shift_pos {p : Nat} (hp : 2 ≤ p) (x i : Nat) (hx : 0 < x) : List.replicate i 0 ++ digs p x = digs p (x * p ^ i) := by
  rw [← digs_shift hp, cutz_of_trim]
  intro hne
  have h : digs p x ≠ [] := by rw [digs_pos hp hx]; simp
  rw [List.getLast_append_of_ne_nil _ h]
  exact digs_trim hp x h
/-- The scale: the divisor keeps its length. -/
theorem scale_dl {p n N : Nat} (hp : 2 ≤ p) (hn : dl p n = N) (hN : 0 < N) : dl p (n * (p / (gn (digs p n) (N - 1) + 1))) = N ∧ 0 < p / (gn (digs p n) (N - 1) + 1) := by
  have h1 := gn_mem_lt (show 0 < p by omega) (digs_lt hp n) (N - 1)
  have hf : 0 < p / (gn (digs p n) (N - 1) + 1) := Nat.div_pos (by omega) (by omega)
  refine ⟨?_, hf⟩
  have h0 : dl p n ≤ dl p (n * (p / (gn (digs p n) (N - 1) + 1))) := dl_mono hp (Nat.le_mul_of_pos_right n hf)
  have h2 : dl p (n * (p / (gn (digs p n) (N - 1) + 1))) ≤ N := by
    refine dl_le hp _ _ ?_
    have e1 := val_take_gn p (digs p n) (N - 1)
    rw [show N - 1 + 1 = N by omega, List.take_of_length_le (by show dl p n ≤ N; omega), val_digs hp] at e1
    have h3 := val_lt hp ((digs p n).take (N - 1)) (fun d hd => digs_lt hp n d (List.mem_of_mem_take hd))
    have h4 : p ^ ((digs p n).take (N - 1)).length ≤ p ^ (N - 1) := Nat.pow_le_pow_right (by omega) (List.length_take_le _ _)
    have h5 : n < (gn (digs p n) (N - 1) + 1) * p ^ (N - 1) := by
      rw [Nat.add_mul, Nat.one_mul, Nat.mul_comm (gn _ _)]; omega
    have h6 := Nat.mul_lt_mul_of_pos_right h5 hf
    have h7 : (gn (digs p n) (N - 1) + 1) * (p / (gn (digs p n) (N - 1) + 1)) ≤ p := Nat.mul_div_le _ _
    have h8 := Nat.mul_le_mul_right (p ^ (N - 1)) h7
    have e : p * p ^ (N - 1) = p ^ N := by rw [← Nat.pow_succ']; congr 1; omega
    rw [Nat.mul_right_comm] at h6
    omega
  omega
/-- The end: quotient and remainder. -/
theorem OverI.done {p m n f K R : Nat} {Q : List Nat} (hp : 2 ≤ p) (hf : 0 < f) (h : OverI p (m * f) (n * f) K 0 R Q) : cutz Q = digs p (m / n) ∧ R / f = m % n := by
  have he := h.eq
  have hlt := h.lt
  rw [Nat.pow_zero, Nat.mul_one] at hlt
  have e1 : n * f * val p Q = n * val p Q * f := by rw [Nat.mul_right_comm]
  have hle : n * val p Q ≤ m := by
    refine Nat.le_of_mul_le_mul_right ?_ hf
    omega
  have hR : R = (m - n * val p Q) * f := by rw [Nat.sub_mul]; omega
  have hr : m - n * val p Q < n := by
    refine Nat.lt_of_mul_lt_mul_right (a := f) ?_
    omega
  have hn : 0 < n := by omega
  have u := (Nat.div_mod_unique hn (a := m) (c := m - n * val p Q) (d := val p Q)).2 ⟨by omega, hr⟩
  refine ⟨?_, ?_⟩
  · rw [u.1]
    exact (digs_of_val hp Q fun x hx => by
      obtain ⟨j, hj, rfl⟩ := List.getElem_of_mem hx
      rw [← gn_lt Q hj]; exact h.dig j).symm
  · rw [hR, Nat.mul_div_cancel _ hf, u.2]
theorem OverI.top {p M v K i R t : Nat} {Q : List Nat} (h : OverI p M v K (i + 1) R Q) (ht : v * t * p ^ i ≤ R) : t < p := by
  refine Nat.not_le.1 fun hle => ?_
  have h3 := Nat.mul_le_mul_left v hle
  have h4 := Nat.mul_le_mul_right (p ^ i) h3
  have h5 := h.lt
  rw [Nat.pow_succ, Nat.mul_comm (p ^ i) p, ← Nat.mul_assoc] at h5
  omega
theorem over_low {p v i R N : Nat} (hp : 2 ≤ p) (hv : N ≤ dl p v) (hN : 0 < N) (hR : dl p R < i + N) : R < v * p ^ i := by
  have h1 := lt_pow_dl hp R
  have h2 : p ^ (N - 1) ≤ v := pow_le_of_dl hp (by omega)
  have h3 := Nat.mul_le_mul_right (p ^ i) h2
  rw [← Nat.pow_add] at h3
  have h4 : p ^ dl p R ≤ p ^ (N - 1 + i) := Nat.pow_le_pow_right (by omega) (by omega)
  omega
end Go.Proofs.YtkmmkobiigddkaaGreatDoor
