/-! Plain facts on numbers to a base, and their decimal texts. No program in sight. -/
set_option linter.unusedVariables false
set_option linter.unusedSimpArgs false
namespace Go.Proofs.YtkmmkobiigddkaaGreatDoor

/-- The value of digits to the base b, the lowest first. -/
def val (b : Nat) : List Nat → Nat
  | [] => 0
  | d :: r => d + b * val b r
/-- The digits of n to the base b, the lowest first, without a 0 at the end. -/
def digs (b n : Nat) : List Nat := if h : b < 2 ∨ n = 0 then [] else n % b :: digs b (n / b)
  termination_by n
  decreasing_by exact Nat.div_lt_self (by omega) (by omega)
/-- How many digits. -/
def dl (b n : Nat) : Nat := (digs b n).length
/-- An element of a list. -/
def gn (l : List Nat) (j : Nat) : Nat := l.getD j 0

theorem digs_zero (b : Nat) : digs b 0 = [] := by unfold digs; simp
theorem digs_pos {b n : Nat} (hb : 2 ≤ b) (hn : 0 < n) : digs b n = n % b :: digs b (n / b) := by
  rw [digs, dif_neg (by omega)]
theorem digs_cons {b d n : Nat} (hb : 2 ≤ b) (hd : d < b) (hn : 0 < d + b * n) : digs b (d + b * n) = d :: digs b n := by
  rw [digs_pos hb hn]
  congr 1
  · rw [Nat.add_mul_mod_self_left]; exact Nat.mod_eq_of_lt hd
  · congr 1
    rw [Nat.add_mul_div_left _ _ (by omega), Nat.div_eq_of_lt hd]; omega
theorem val_digs {b : Nat} (hb : 2 ≤ b) (n : Nat) : val b (digs b n) = n := by
  induction n using Nat.strongRecOn with
  | ind n ih =>
    by_cases h : n = 0
    · subst h; rw [digs_zero]; rfl
    · rw [digs_pos hb (by omega), val, ih _ (Nat.div_lt_self (by omega) (by omega))]
      exact Nat.mod_add_div n b
theorem digs_lt {b : Nat} (hb : 2 ≤ b) (n : Nat) : ∀ d, d ∈ digs b n → d < b := by
  induction n using Nat.strongRecOn with
  | ind n ih =>
    by_cases h : n = 0
    · subst h; rw [digs_zero]; intro d hd; cases hd
    · rw [digs_pos hb (by omega)]
      intro d hd
      rcases List.mem_cons.1 hd with rfl | hd
      · exact Nat.mod_lt _ (by omega)
      · exact ih _ (Nat.div_lt_self (by omega) (by omega)) d hd
/-- Without a 0 at the end. -/
def Trim (l : List Nat) : Prop := ∀ h : l ≠ [], l.getLast h ≠ 0
theorem trim_tail {d : Nat} {l : List Nat} (h : Trim (d :: l)) : Trim l := fun hl => by
  have := h (by simp)
  rwa [List.getLast_cons hl] at this
theorem digs_trim {b : Nat} (hb : 2 ≤ b) (n : Nat) : Trim (digs b n) := by
  induction n using Nat.strongRecOn with
  | ind n ih =>
    by_cases h : n = 0
    · subst h; rw [digs_zero]; intro h; exact absurd rfl h
    · rw [digs_pos hb (by omega)]
      intro hne
      by_cases h2 : n / b = 0
      · have e : digs b (n / b) = [] := by rw [h2, digs_zero]
        have hlt : n < b := Nat.lt_of_div_eq_zero (by omega) h2
        have : (n % b :: digs b (n / b)).getLast hne = n % b := by simp [e]
        rw [this, Nat.mod_eq_of_lt hlt]; exact h
      · have e : digs b (n / b) ≠ [] := by rw [digs_pos hb (Nat.pos_of_ne_zero h2)]; simp
        rw [List.getLast_cons e]
        exact ih _ (Nat.div_lt_self (by omega) (by omega)) e
theorem val_pos {b : Nat} (hb : 2 ≤ b) : ∀ l : List Nat, Trim l → l ≠ [] → 0 < val b l
  | [], _, h => absurd rfl h
  | [d], ht, _ => by have := ht (by simp); simp at this; simp [val]; omega
  | d :: e :: r, ht, _ => by
    have := val_pos hb (e :: r) (trim_tail ht) (by simp)
    show 0 < d + b * val b (e :: r)
    have : 0 < b * val b (e :: r) := Nat.mul_pos (by omega) this
    omega
theorem digs_val {b : Nat} (hb : 2 ≤ b) : ∀ l : List Nat, (∀ d, d ∈ l → d < b) → Trim l → digs b (val b l) = l
  | [], _, _ => digs_zero b
  | d :: r, hl, ht => by
    have h0 := val_pos hb (d :: r) ht (by simp)
    rw [val] at h0 ⊢
    rw [digs_cons hb (hl d (by simp)) h0, digs_val hb r (fun x hx => hl x (by simp [hx])) (trim_tail ht)]
theorem val_append (b : Nat) : ∀ l r : List Nat, val b (l ++ r) = val b l + b ^ l.length * val b r
  | [], r => by simp [val]
  | d :: l, r => by
    simp only [List.cons_append, val, List.length_cons, val_append b l r]
    rw [Nat.mul_add, Nat.pow_succ, ← Nat.mul_assoc, Nat.mul_comm b (b ^ l.length)]; omega
theorem val_lt {b : Nat} (hb : 2 ≤ b) : ∀ l : List Nat, (∀ d, d ∈ l → d < b) → val b l < b ^ l.length
  | [], _ => by simp [val]
  | d :: r, h => by
    have h1 := val_lt hb r (fun x hx => h x (by simp [hx]))
    have h2 := h d (by simp)
    simp only [val, List.length_cons, Nat.pow_succ]
    have h3 : val b r + 1 ≤ b ^ r.length := h1
    have h4 := Nat.mul_le_mul_left b h3
    rw [Nat.mul_add] at h4
    rw [Nat.mul_comm (b ^ r.length) b]; omega
theorem dl_zero (b : Nat) : dl b 0 = 0 := by simp [dl, digs_zero]
theorem dl_pos {b n : Nat} (hb : 2 ≤ b) (hn : 0 < n) : 0 < dl b n := by simp [dl, digs_pos hb hn]
theorem dl_eq_zero {b n : Nat} (hb : 2 ≤ b) : dl b n = 0 ↔ n = 0 :=
  ⟨fun h => Nat.eq_zero_of_not_pos fun hn => by have := dl_pos hb hn; omega, fun h => by rw [h, dl_zero]⟩
theorem lt_pow_dl {b : Nat} (hb : 2 ≤ b) (n : Nat) : n < b ^ dl b n := by
  have := val_lt hb (digs b n) (digs_lt hb n); rwa [val_digs hb] at this
theorem dl_le {b : Nat} (hb : 2 ≤ b) : ∀ (k n : Nat), n < b ^ k → dl b n ≤ k
  | 0, n, h => by have : n = 0 := by simp at h; exact h
                  rw [this, dl_zero]; exact Nat.le_refl _
  | k + 1, n, h => by
    by_cases h0 : n = 0
    · rw [h0, dl_zero]; omega
    · have e : dl b n = dl b (n / b) + 1 := by simp [dl, digs_pos hb (show 0 < n by omega)]
      have := dl_le hb k (n / b) (by rw [Nat.div_lt_iff_lt_mul (by omega)]; rwa [Nat.pow_succ] at h)
      omega
theorem dl_lt_iff {b : Nat} (hb : 2 ≤ b) (n k : Nat) : dl b n ≤ k ↔ n < b ^ k :=
  ⟨fun h => Nat.lt_of_lt_of_le (lt_pow_dl hb n) (Nat.pow_le_pow_right (by omega) h), dl_le hb k n⟩
theorem pow_le_of_dl {b : Nat} (hb : 2 ≤ b) {n k : Nat} (h : k < dl b n) : b ^ k ≤ n :=
  Nat.not_lt.1 fun hn => by have := dl_le hb k n hn; omega
theorem dl_mono {b : Nat} (hb : 2 ≤ b) {m n : Nat} (h : m ≤ n) : dl b m ≤ dl b n :=
  dl_le hb _ _ (Nat.lt_of_le_of_lt h (lt_pow_dl hb n))
theorem dl_mul {b : Nat} (hb : 2 ≤ b) (m n : Nat) : dl b (m * n) ≤ dl b m + dl b n := by
  refine dl_le hb _ _ ?_
  rw [Nat.pow_add]
  exact Nat.mul_lt_mul'' (lt_pow_dl hb m) (lt_pow_dl hb n)
theorem dl_add {b : Nat} (hb : 2 ≤ b) (m n : Nat) : dl b (m + n) ≤ max (dl b m) (dl b n) + 1 := by
  refine dl_le hb _ _ ?_
  have h1 : m < b ^ max (dl b m) (dl b n) := Nat.lt_of_lt_of_le (lt_pow_dl hb m) (Nat.pow_le_pow_right (by omega) (Nat.le_max_left _ _))
  have h2 : n < b ^ max (dl b m) (dl b n) := Nat.lt_of_lt_of_le (lt_pow_dl hb n) (Nat.pow_le_pow_right (by omega) (Nat.le_max_right _ _))
  rw [Nat.pow_succ]
  have := Nat.mul_le_mul_left (b ^ max (dl b m) (dl b n)) hb
  omega
/-- A list of digits that is n's, up to zeros at the end. -/
theorem val_replicate (b n : Nat) : val b (List.replicate n 0) = 0 := by
  induction n with
  | zero => rfl
  | succ n ih => simp [List.replicate_succ, val, ih]
theorem gn_lt (l : List Nat) {j : Nat} (h : j < l.length) : gn l j = l[j] := by simp [gn, h]
theorem gn_ge (l : List Nat) {j : Nat} (h : l.length ≤ j) : gn l j = 0 := by simp [gn, h]
theorem gn_append_left (l r : List Nat) {j : Nat} (h : j < l.length) : gn (l ++ r) j = gn l j := by simp [gn, List.getElem?_append_left h]
theorem gn_append_at (l r : List Nat) (d : Nat) : gn (l ++ d :: r) l.length = d := by simp [gn]
theorem gn_mem_lt {b : Nat} (hb : 0 < b) {l : List Nat} (h : ∀ d, d ∈ l → d < b) (j : Nat) : gn l j < b := by
  by_cases hj : j < l.length
  · rw [gn_lt l hj]; exact h _ (List.getElem_mem hj)
  · rw [gn_ge l (by omega)]; exact hb
/-- What is cut off: the zeros at the end. -/
def cutz : List Nat → List Nat
  | [] => []
  | d :: r => if d = 0 ∧ cutz r = [] then [] else d :: cutz r
theorem val_cutz (b : Nat) : ∀ l, val b (cutz l) = val b l
  | [] => rfl
  | d :: r => by
    have ih := val_cutz b r
    unfold cutz
    split
    · rename_i h; rw [h.2] at ih; simp [val] at ih; simp [val, h.1, ← ih]
    · simp [val, ih]
theorem cutz_trim : ∀ l, Trim (cutz l)
  | [] => fun h => absurd rfl h
  | d :: r => by
    have ih := cutz_trim r
    unfold cutz
    split
    · intro h; exact absurd rfl h
    · rename_i h
      intro hne
      by_cases e : cutz r = []
      · simp [e] at h ⊢; exact h
      · rw [List.getLast_cons e]; exact ih e
theorem cutz_mem {x : Nat} : ∀ l, x ∈ cutz l → x ∈ l
  | [], h => h
  | d :: r, h => by
    unfold cutz at h
    split at h
    · cases h
    · rcases List.mem_cons.1 h with h | h
      · simp [h]
      · exact List.mem_cons_of_mem _ (cutz_mem r h)
theorem digs_of_val {b : Nat} (hb : 2 ≤ b) (l : List Nat) (h : ∀ d, d ∈ l → d < b) : digs b (val b l) = cutz l := by
  rw [← val_cutz, digs_val hb _ (fun d hd => h d (cutz_mem l hd)) (cutz_trim l)]
theorem cutz_snoc_zero (l : List Nat) : cutz (l ++ [0]) = cutz l := by
  induction l with
  | nil => simp [cutz]
  | cons d r ih => simp only [List.cons_append, cutz, ih]
theorem cutz_of_trim : ∀ l : List Nat, Trim l → cutz l = l
  | [], _ => rfl
  | d :: r, h => by
    unfold cutz
    rw [cutz_of_trim r (trim_tail h)]
    split
    · rename_i hh; have := h (by simp); simp [hh.1, hh.2] at this
    · rfl
theorem cutz_append_trim (l r : List Nat) (h : Trim (l ++ r)) : cutz (l ++ r) = l ++ r := cutz_of_trim _ h

/-! ### The order -/
theorem val_take_lt {b : Nat} (hb : 2 ≤ b) (l r : List Nat) (hl : ∀ d, d ∈ l → d < b) (hr : ∀ d, d ∈ r → d < b) (k : Nat) (h1 : k < l.length) (h2 : l.length = r.length)
    (hk : gn l k < gn r k) (he : ∀ j, k < j → gn l j = gn r j) : val b l < val b r := by
  induction l generalizing r k with
  | nil => simp at h1
  | cons d l ih =>
    cases r with
    | nil => simp at h2
    | cons e r =>
      simp only [List.length_cons, Nat.add_right_cancel_iff] at h2
      cases k with
      | zero =>
        have heq : l = r := by
          refine List.ext_getElem h2 fun j hj hj' => ?_
          have := he (j + 1) (by omega)
          simpa [gn, hj, hj'] using this
        subst heq
        simp [gn] at hk
        simp only [val]; omega
      | succ k =>
        have hlt := ih r (fun x hx => hl x (by simp [hx])) (fun x hx => hr x (by simp [hx])) k (by simpa using h1) h2 (by simpa [gn] using hk)
          (fun j hj => by have := he (j + 1) (by omega); simpa [gn] using this)
        have hd := hl d (by simp)
        simp only [val]
        have := Nat.mul_le_mul_left b (show val b l + 1 ≤ val b r from hlt)
        rw [Nat.mul_add] at this; omega
theorem val_lt_of_len {b : Nat} (hb : 2 ≤ b) (m n : Nat) (h : dl b m < dl b n) : m < n :=
  Nat.lt_of_lt_of_le (lt_pow_dl hb m) (pow_le_of_dl hb h)
theorem digs_inj {b : Nat} (hb : 2 ≤ b) {m n : Nat} (h : digs b m = digs b n) : m = n := by
  rw [← val_digs hb m, h, val_digs hb n]

theorem gn_set (l : List Nat) (i j x : Nat) (h : i < l.length) : gn (l.set i x) j = if j = i then x else gn l j := by
  unfold gn
  by_cases e : j = i
  · subst e; simp [h]
  · rw [if_neg e]; simp [List.getElem?_set, Ne.symm e]
theorem val_set (b : Nat) : ∀ (l : List Nat) (i x : Nat), i < l.length → val b (l.set i x) + b ^ i * gn l i = val b l + b ^ i * x
  | [], _, _, h => by simp at h
  | d :: r, 0, x, _ => by simp [val, gn]; omega
  | d :: r, i + 1, x, h => by
    have ih := val_set b r i x (by simpa using h)
    have e : gn (d :: r) (i + 1) = gn r i := by simp [gn]
    rw [e, List.set_cons_succ, val, val, Nat.pow_succ]
    have h1 : b * (val b (r.set i x) + b ^ i * gn r i) = b * (val b r + b ^ i * x) := by rw [ih]
    rw [Nat.mul_add, Nat.mul_add, ← Nat.mul_assoc, ← Nat.mul_assoc, Nat.mul_comm b (b ^ i)] at h1
    omega
theorem val_take_succ (b : Nat) (l : List Nat) (k : Nat) (h : k < l.length) : val b (l.take (k + 1)) = val b (l.take k) + b ^ k * gn l k := by
  rw [List.take_succ_eq_append_getElem h, val_append, gn_lt l h]
  have : (l.take k).length = k := by simp; omega
  rw [this]; simp [val]
theorem val_ge_last (b : Nat) (l : List Nat) (k : Nat) (h : k < l.length) : b ^ k * gn l k ≤ val b l := by
  have h1 := val_take_succ b l k h
  have h2 : val b l = val b (l.take (k + 1)) + b ^ (l.take (k + 1)).length * val b (l.drop (k + 1)) := by
    rw [← val_append, List.take_append_drop]
  omega
theorem val_pad (b : Nat) (l : List Nat) (n : Nat) : val b (l ++ List.replicate n 0) = val b l := by
  rw [val_append, val_replicate]; simp
theorem gn_pad (l : List Nat) (n j : Nat) : gn (l ++ List.replicate n 0) j = gn l j := by
  unfold gn
  by_cases h : j < l.length
  · simp [List.getElem?_append_left h]
  · rw [List.getD_eq_getElem?_getD, List.getD_eq_getElem?_getD, List.getElem?_append_right (by omega), List.getElem?_eq_none (by omega : l.length ≤ j), List.getElem?_replicate]
    split <;> rfl
end Go.Proofs.YtkmmkobiigddkaaGreatDoor
