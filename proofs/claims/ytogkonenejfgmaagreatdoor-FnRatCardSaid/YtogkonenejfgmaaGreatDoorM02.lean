/- Plain arithmetic, no program: a natural number and its limbs in base 1000000000, the lowest first. No condition. -/
import Derived.WalkKit
namespace Go.Proofs.YtogkonenejfgmaaGreatDoor

def baseN : Nat := 1000000000

/-- the limbs of a natural number, the lowest first -/
def limbsF : Nat → Nat → List Int
  | 0, _ => []
  | f + 1, n => if n = 0 then [] else ((n % 1000000000 : Nat) : Int) :: limbsF f (n / 1000000000)
def limbs (n : Nat) : List Int := limbsF n n

theorem limbsF_fuel : ∀ (f g n : Nat), n ≤ f → n ≤ g → limbsF f n = limbsF g n
  | 0, 0, _, _, _ => rfl
  | 0, g + 1, n, h, _ => by
    have : n = 0 := by omega
    subst this; simp [limbsF]
  | f + 1, 0, n, _, h => by
    have : n = 0 := by omega
    subst this; simp [limbsF]
  | f + 1, g + 1, n, h1, h2 => by
    by_cases e : n = 0
    · simp [limbsF, e]
    · simp only [limbsF, if_neg e]
      rw [limbsF_fuel f g (n / 1000000000) (by omega) (by omega)]
theorem limbs_zero : limbs 0 = [] := rfl
theorem limbs_pos {n : Nat} (h : n ≠ 0) : limbs n = ((n % 1000000000 : Nat) : Int) :: limbs (n / 1000000000) := by
  unfold limbs
  match n, h with
  | k + 1, _ =>
    show limbsF (k + 1) (k + 1) = _
    simp only [limbsF, if_neg (show k + 1 ≠ 0 by omega)]
    rw [limbsF_fuel k ((k + 1) / 1000000000) _ (by omega) (Nat.le_refl _)]

def val : List Int → Int
  | [] => 0
  | x :: r => x + 1000000000 * val r
def okL (xs : List Int) : Prop := ∀ x ∈ xs, 0 ≤ x ∧ x < 1000000000

theorem okL_nil : okL [] := by intro x h; simp at h
theorem okL_cons {x : Int} {r : List Int} : okL (x :: r) ↔ (0 ≤ x ∧ x < 1000000000) ∧ okL r := by simp [okL]
theorem okL_append {a b : List Int} : okL (a ++ b) ↔ okL a ∧ okL b := by
  unfold okL
  constructor
  · intro h; exact ⟨fun x hx => h x (by simp [hx]), fun x hx => h x (by simp [hx])⟩
  · intro h x hx; rw [List.mem_append] at hx; exact hx.elim (h.1 x) (h.2 x)
theorem okL_get {xs : List Int} (h : okL xs) (i : Nat) : 0 ≤ xs.getD i 0 ∧ xs.getD i 0 < 1000000000 := by
  by_cases hi : i < xs.length
  · have : xs.getD i 0 = xs[i] := by simp [List.getD, hi]
    rw [this]; exact h _ (List.getElem_mem hi)
  · rw [List.getD_eq_getElem?_getD, List.getElem?_eq_none (by omega)]; simp
theorem okL_take {xs : List Int} (h : okL xs) (k : Nat) : okL (xs.take k) := fun x hx => h x (List.mem_of_mem_take hx)
theorem okL_drop {xs : List Int} (h : okL xs) (k : Nat) : okL (xs.drop k) := fun x hx => h x (List.mem_of_mem_drop hx)

theorem limbs_ok (n : Nat) : okL (limbs n) := by
  induction n using Nat.strongRecOn with
  | ind n ih =>
    by_cases h : n = 0
    · subst h; exact okL_nil
    · rw [limbs_pos h, okL_cons]
      exact ⟨by omega, ih _ (by omega)⟩
theorem val_limbs (n : Nat) : val (limbs n) = n := by
  induction n using Nat.strongRecOn with
  | ind n ih =>
    by_cases h : n = 0
    · subst h; rfl
    · rw [limbs_pos h]
      show ((n % 1000000000 : Nat) : Int) + 1000000000 * val (limbs (n / 1000000000)) = n
      rw [ih _ (by omega)]; omega
theorem val_nonneg : ∀ {xs : List Int}, okL xs → 0 ≤ val xs
  | [], _ => by simp [val]
  | x :: r, h => by
    rw [okL_cons] at h
    have := val_nonneg h.2
    show 0 ≤ x + 1000000000 * val r
    omega

/-- the canonical form: no zero at the top -/
def canon (xs : List Int) : Prop := okL xs ∧ xs.getLast? ≠ some 0
theorem limbs_last (n : Nat) : (limbs n).getLast? ≠ some 0 := by
  induction n using Nat.strongRecOn with
  | ind n ih =>
    by_cases h : n = 0
    · subst h; simp [limbs_zero]
    · rw [limbs_pos h]
      by_cases h2 : n / 1000000000 = 0
      · rw [h2, limbs_zero]
        simp; omega
      · have := ih (n / 1000000000) (by omega)
        rw [limbs_pos h2] at this ⊢
        simpa [List.getLast?_cons_cons] using this
theorem limbs_canon (n : Nat) : canon (limbs n) := ⟨limbs_ok n, limbs_last n⟩

theorem canon_limbs : ∀ {xs : List Int}, canon xs → xs = limbs (val xs).toNat
  | [], _ => by simp [val, limbs_zero]
  | x :: r, h => by
    obtain ⟨h1, h2⟩ := h
    rw [okL_cons] at h1
    have hr : canon r := by
      refine ⟨h1.2, ?_⟩
      cases r with
      | nil => simp
      | cons y t => simpa [List.getLast?_cons_cons] using h2
    have ih := canon_limbs hr
    have hv := val_nonneg h1.2
    have hne : (val (x :: r)).toNat ≠ 0 := by
      show (x + 1000000000 * val r).toNat ≠ 0
      cases r with
      | nil => simp at h2; simp [val]; omega
      | cons y t =>
        have : val (y :: t) ≠ 0 := by
          intro e
          rw [e] at ih
          simp [limbs_zero] at ih
        omega
    rw [limbs_pos hne]
    have e1 : (val (x :: r)).toNat % 1000000000 = x.toNat := by
      show (x + 1000000000 * val r).toNat % 1000000000 = x.toNat
      omega
    have e2 : (val (x :: r)).toNat / 1000000000 = (val r).toNat := by
      show (x + 1000000000 * val r).toNat / 1000000000 = (val r).toNat
      omega
    rw [e1, e2, ← ih]
    congr 1
    omega
theorem limbs_inj {m n : Nat} (h : limbs m = limbs n) : m = n := by
  have := congrArg val h
  rw [val_limbs, val_limbs] at this; omega

/-- zeros at the top dropped -/
def trimL (xs : List Int) : List Int := (xs.reverse.dropWhile (· == 0)).reverse
theorem trimL_nil : trimL [] = [] := rfl
theorem trimL_snoc_zero (xs : List Int) : trimL (xs ++ [0]) = trimL xs := by simp [trimL]
theorem trimL_snoc {xs : List Int} {x : Int} (h : x ≠ 0) : trimL (xs ++ [x]) = xs ++ [x] := by simp [trimL, h]
theorem val_append : ∀ (a b : List Int), val (a ++ b) = val a + 1000000000 ^ a.length * val b
  | [], b => by simp [val]
  | x :: r, b => by
    show x + 1000000000 * val (r ++ b) = x + 1000000000 * val r + 1000000000 ^ (r.length + 1) * val b
    rw [val_append r b, Int.pow_succ]
    generalize (1000000000 : Int) ^ r.length = p
    rw [Int.mul_add, ← Int.mul_assoc, Int.mul_comm p]
    omega
theorem snoc_ind {P : List Int → Prop} (h0 : P []) (h1 : ∀ xs x, P xs → P (xs ++ [x])) (l : List Int) : P l := by
  have : ∀ r : List Int, P r.reverse := by
    intro r
    induction r with
    | nil => exact h0
    | cons x t ih => rw [List.reverse_cons]; exact h1 _ _ ih
  simpa using this l.reverse
theorem val_trimL (xs : List Int) : val (trimL xs) = val xs := by
  induction xs using snoc_ind with
  | h0 => rfl
  | h1 xs x ih =>
    by_cases h : x = 0
    · subst h; rw [trimL_snoc_zero, ih, val_append]; simp [val]
    · rw [trimL_snoc h]
theorem trimL_canon {xs : List Int} (h : okL xs) : canon (trimL xs) := by
  induction xs using snoc_ind with
  | h0 => exact ⟨okL_nil, by simp [trimL]⟩
  | h1 xs x ih =>
    rw [okL_append] at h
    by_cases e : x = 0
    · subst e; rw [trimL_snoc_zero]; exact ih h.1
    · rw [trimL_snoc e]; exact ⟨okL_append.2 h, by simp [e]⟩
theorem trimL_limbs {xs : List Int} (h : okL xs) : trimL xs = limbs (val xs).toNat := by
  rw [canon_limbs (trimL_canon h), val_trimL]
theorem trimL_length_le (xs : List Int) : (trimL xs).length ≤ xs.length := by
  induction xs using snoc_ind with
  | h0 => simp [trimL]
  | h1 xs x ih =>
    by_cases e : x = 0
    · subst e; rw [trimL_snoc_zero]; simp; omega
    · rw [trimL_snoc e]; exact Nat.le_refl _
theorem trimL_take (xs : List Int) : trimL xs = xs.take (trimL xs).length := by
  induction xs using snoc_ind with
  | h0 => rfl
  | h1 xs x ih =>
    by_cases e : x = 0
    · subst e; rw [trimL_snoc_zero]
      have := trimL_length_le xs
      rw [List.take_append_of_le_length this]; exact ih
    · rw [trimL_snoc e]; exact List.take_length.symm
theorem trimL_canon_id {xs : List Int} (h : xs.getLast? ≠ some 0) : trimL xs = xs := by
  induction xs using snoc_ind with
  | h0 => rfl
  | h1 xs x _ => rw [trimL_snoc (by simpa using h)]

/-! validity -/
def natB (xs : List Int) : Bool := decide (xs.length ≤ 50) && (xs.getLast? != some 0) && xs.all (fun x => decide (0 ≤ x) && decide (x < 1000000000))
theorem natB_limbs {xs : List Int} (h : natB xs = true) : xs = limbs (val xs).toNat ∧ xs.length ≤ 50 := by
  unfold natB at h
  rw [Bool.and_eq_true, Bool.and_eq_true, decide_eq_true_eq, bne_iff_ne, List.all_eq_true] at h
  refine ⟨canon_limbs ⟨?_, h.1.2⟩, h.1.1⟩
  intro x hx
  simpa using h.2 x hx
theorem natB_of {n : Nat} (h : (limbs n).length ≤ 50) : natB (limbs n) = true := by
  unfold natB
  rw [Bool.and_eq_true, Bool.and_eq_true, decide_eq_true_eq, bne_iff_ne, List.all_eq_true]
  exact ⟨⟨h, limbs_last n⟩, fun x hx => by simpa using limbs_ok n x hx⟩

/-! length and order -/
theorem val_lt : ∀ {xs : List Int}, okL xs → val xs < 1000000000 ^ xs.length
  | [], _ => by simp [val]
  | x :: r, h => by
    rw [okL_cons] at h
    have := val_lt h.2
    show x + 1000000000 * val r < 1000000000 ^ (r.length + 1)
    rw [Int.pow_succ]
    generalize (1000000000 : Int) ^ r.length = p at *
    omega
theorem limbs_le_val {n k : Nat} (h : k < (limbs n).length) : 1000000000 ^ k ≤ n := by
  induction n using Nat.strongRecOn generalizing k with
  | ind n ih =>
    by_cases e : n = 0
    · subst e; simp [limbs_zero] at h
    · rw [limbs_pos e] at h
      cases k with
      | zero => simp; omega
      | succ k =>
        simp at h
        have := ih (n / 1000000000) (by omega) h
        rw [Nat.pow_succ]
        generalize (1000000000 : Nat) ^ k = p at *
        omega
theorem limbs_lt_val (n : Nat) : n < 1000000000 ^ (limbs n).length := by
  have h := val_lt (limbs_ok n)
  rw [val_limbs] at h
  have : ((1000000000 ^ (limbs n).length : Nat) : Int) = (1000000000 : Int) ^ (limbs n).length := by simp
  omega
theorem limbs_len_le {n k : Nat} : (limbs n).length ≤ k ↔ n < 1000000000 ^ k := by
  constructor
  · intro h
    have h1 := limbs_lt_val n
    have h2 : (1000000000 : Nat) ^ (limbs n).length ≤ 1000000000 ^ k := Nat.pow_le_pow_right (by omega) h
    omega
  · intro h
    by_cases e : (limbs n).length ≤ k
    · exact e
    · have := limbs_le_val (n := n) (k := k) (by omega)
      omega
theorem limbs_len_mono {m n : Nat} (h : m ≤ n) : (limbs m).length ≤ (limbs n).length := by
  rw [limbs_len_le]; have := limbs_lt_val n; omega
theorem limbs_len_lt {m n : Nat} (h : (limbs m).length < (limbs n).length) : m < n := by
  by_cases e : n ≤ m
  · have := limbs_len_mono e; omega
  · omega
/-- the comparison from the top -/
theorem val_split (xs : List Int) (k : Nat) (h : k ≤ xs.length) : val xs = val (xs.take k) + 1000000000 ^ k * val (xs.drop k) := by
  have := val_append (xs.take k) (xs.drop k)
  rw [List.take_append_drop, List.length_take, Nat.min_eq_left h] at this
  exact this
theorem drop_cons_getD (xs : List Int) (k : Nat) (h : k < xs.length) : xs.drop k = xs.getD k 0 :: xs.drop (k + 1) := by
  rw [List.drop_eq_getElem_cons h]
  simp [List.getD, h]
theorem take_succ_getD (xs : List Int) (k : Nat) (h : k < xs.length) : xs.take (k + 1) = xs.take k ++ [xs.getD k 0] := by
  rw [List.take_succ_eq_append_getElem h]
  simp [List.getD, h]
theorem val_take_succ (xs : List Int) (k : Nat) (h : k < xs.length) : val (xs.take (k + 1)) = val (xs.take k) + 1000000000 ^ k * xs.getD k 0 := by
  rw [take_succ_getD xs k h, val_append, List.length_take, Nat.min_eq_left (by omega)]
  simp [val]
theorem pow_pos' (k : Nat) : (0 : Int) < 1000000000 ^ k := Int.pow_pos (by omega)
theorem lt_of_top {xs ys : List Int} (hx : okL xs) (hy : okL ys) (hl : xs.length = ys.length) (k : Nat) (hk : k < xs.length)
    (hd : xs.drop (k + 1) = ys.drop (k + 1)) (hlt : xs.getD k 0 < ys.getD k 0) : val xs < val ys := by
  rw [val_split xs k (by omega), val_split ys k (by omega), drop_cons_getD xs k hk, drop_cons_getD ys k (by omega), hd]
  have h1 := val_lt (okL_take hx k)
  have h2 := val_nonneg (okL_take hy k)
  rw [List.length_take, Nat.min_eq_left (by omega)] at h1
  have hp := pow_pos' k
  show _ + 1000000000 ^ k * (xs.getD k 0 + 1000000000 * val (ys.drop (k + 1))) < _ + 1000000000 ^ k * (ys.getD k 0 + 1000000000 * val (ys.drop (k + 1)))
  generalize (1000000000 : Int) ^ k = p at *
  generalize val (ys.drop (k + 1)) = t at *
  generalize val (xs.take k) = a at *
  generalize val (ys.take k) = b at *
  generalize xs.getD k 0 = x at *
  generalize ys.getD k 0 = y at *
  have : p * (x + 1) ≤ p * y := Int.mul_le_mul_of_nonneg_left (by omega) (by omega)
  rw [Int.mul_add] at this
  rw [Int.mul_add, Int.mul_add]
  generalize p * (1000000000 * t) = q at *
  omega
def cmpN (m n : Nat) : Int := if m < n then -1 else if m = n then 0 else 1
/-! ### sums, differences, products of limbs -/
theorem val_take_succ' (xs : List Int) (k : Nat) : val (xs.take (k + 1)) = val (xs.take k) + 1000000000 ^ k * xs.getD k 0 := by
  by_cases h : k < xs.length
  · exact val_take_succ xs k h
  · rw [List.take_of_length_le (by omega), List.take_of_length_le (by omega), List.getD_eq_getElem?_getD, List.getElem?_eq_none (by omega)]
    simp
theorem val_snoc (xs : List Int) (x : Int) : val (xs ++ [x]) = val xs + 1000000000 ^ xs.length * x := by rw [val_append]; simp [val]
theorem val_set : ∀ (xs : List Int) (k : Nat) (v : Int), k < xs.length → val (xs.set k v) = val xs + 1000000000 ^ k * (v - xs.getD k 0)
  | [], k, v, h => by simp at h
  | x :: r, 0, v, _ => by
    show v + 1000000000 * val r = x + 1000000000 * val r + 1000000000 ^ 0 * (v - x)
    simp; omega
  | x :: r, k + 1, v, h => by
    have ih := val_set r k v (by simpa using h)
    show x + 1000000000 * val (r.set k v) = x + 1000000000 * val r + 1000000000 ^ (k + 1) * (v - r.getD k 0)
    rw [ih, Int.pow_succ]
    generalize (1000000000 : Int) ^ k = p
    generalize v - r.getD k 0 = d
    rw [Int.mul_add, Int.mul_assoc p, Int.mul_left_comm p 1000000000 d]
    omega
theorem okL_set {xs : List Int} (h : okL xs) (k : Nat) {v : Int} (hv : 0 ≤ v ∧ v < 1000000000) : okL (xs.set k v) := by
  intro x hx
  rcases List.mem_or_eq_of_mem_set hx with h1 | rfl
  · exact h x h1
  · exact hv
theorem okL_replicate (n : Nat) : okL (List.replicate n 0) := by
  intro x hx; rw [List.mem_replicate] at hx; omega
theorem val_replicate : ∀ n : Nat, val (List.replicate n 0) = 0
  | 0 => rfl
  | n + 1 => by
    show 0 + 1000000000 * val (List.replicate n 0) = 0
    rw [val_replicate n]; rfl
theorem okL_snoc {xs : List Int} (h : okL xs) {x : Int} (hx : 0 ≤ x ∧ x < 1000000000) : okL (xs ++ [x]) :=
  okL_append.2 ⟨h, by intro y hy; simp at hy; subst hy; exact hx⟩
theorem top_zero {xs : List Int} (h : okL xs) {k : Nat} (hv : val xs < 1000000000 ^ k) : xs.getD k 0 = 0 := by
  by_cases hk : k < xs.length
  · have h1 := val_split xs k (by omega)
    rw [drop_cons_getD xs k hk] at h1
    have h2 : val (xs.getD k 0 :: xs.drop (k + 1)) = xs.getD k 0 + 1000000000 * val (xs.drop (k + 1)) := rfl
    rw [h2] at h1
    have h3 := val_nonneg (okL_take h k)
    have h4 := val_nonneg (okL_drop h (k + 1))
    have h5 := okL_get h k
    have hp := pow_pos' k
    generalize (1000000000 : Int) ^ k = p at *
    generalize val (xs.take k) = a at *
    generalize val (xs.drop (k + 1)) = t at *
    generalize xs.getD k 0 = x at *
    by_cases e : x = 0
    · exact e
    · have : p * 1 ≤ p * (x + 1000000000 * t) := Int.mul_le_mul_of_nonneg_left (by omega) (by omega)
      omega
  · rw [List.getD_eq_getElem?_getD, List.getElem?_eq_none (by omega)]; rfl
theorem limbs_of_len {zs : List Int} {s : Nat} (h : okL zs) (hv : val zs = s) (hl : zs.length = 0 ∨ 1000000000 ^ (zs.length - 1) ≤ s) : zs = limbs s := by
  have hc : canon zs := by
    refine ⟨h, ?_⟩
    intro hz
    have h0 : 0 < zs.length := by
      cases zs with
      | nil => simp at hz
      | cons => simp
    have hl' : 1000000000 ^ (zs.length - 1) ≤ s := by omega
    have h1 := val_split zs (zs.length - 1) (by omega)
    rw [drop_cons_getD zs (zs.length - 1) (by omega), List.drop_eq_nil_of_le (show zs.length ≤ zs.length - 1 + 1 by omega)] at h1
    have h2 : zs.getD (zs.length - 1) 0 = 0 := by
      rw [List.getLast?_eq_getElem?] at hz
      rw [List.getD_eq_getElem?_getD, hz]; rfl
    rw [h2] at h1
    simp only [val] at h1
    have h3 := val_lt (okL_take h (zs.length - 1))
    rw [List.length_take, Nat.min_eq_left (by omega)] at h3
    have h4 : ((1000000000 ^ (zs.length - 1) : Nat) : Int) = (1000000000 : Int) ^ (zs.length - 1) := by simp
    omega
  have := canon_limbs hc
  rw [hv] at this
  simpa using this
/-- one round of a sum -/
theorem add_round {zs : List Int} {k : Nat} {c x y A C : Int} (hl : zs.length = k) (hz : okL zs) (hc : 0 ≤ c ∧ c ≤ 1) (hx : 0 ≤ x ∧ x < 1000000000) (hy : 0 ≤ y ∧ y < 1000000000)
    (hv : val zs + 1000000000 ^ k * c = A + C) :
    okL (zs ++ [(c + x + y) % 1000000000]) ∧ (0 ≤ (c + x + y) / 1000000000 ∧ (c + x + y) / 1000000000 ≤ 1) ∧
    val (zs ++ [(c + x + y) % 1000000000]) + 1000000000 ^ (k + 1) * ((c + x + y) / 1000000000) = (A + 1000000000 ^ k * x) + (C + 1000000000 ^ k * y) := by
  refine ⟨okL_snoc hz (by omega), by omega, ?_⟩
  rw [val_snoc, hl, Int.pow_succ]
  have e : c + x + y = (c + x + y) % 1000000000 + 1000000000 * ((c + x + y) / 1000000000) := by omega
  generalize (c + x + y) % 1000000000 = r at *
  generalize (c + x + y) / 1000000000 = q at *
  generalize (1000000000 : Int) ^ k = p at *
  have e2 : p * c + p * x + p * y = p * r + p * 1000000000 * q := by
    rw [← Int.mul_add, ← Int.mul_add, e, Int.mul_add, Int.mul_assoc]
  omega
/-- one round of a difference -/
theorem sub_round {zs : List Int} {k : Nat} {c x y A C : Int} (hl : zs.length = k) (hz : okL zs) (hc : 0 ≤ c ∧ c ≤ 1) (hx : 0 ≤ x ∧ x < 1000000000) (hy : 0 ≤ y ∧ y < 1000000000)
    (hv : val zs - 1000000000 ^ k * c = A - C) (d e : Int) (hd : d = if x - c - y < 0 then x - c - y + 1000000000 else x - c - y) (he : e = if x - c - y < 0 then 1 else 0) :
    okL (zs ++ [d]) ∧ (0 ≤ e ∧ e ≤ 1) ∧ val (zs ++ [d]) - 1000000000 ^ (k + 1) * e = (A + 1000000000 ^ k * x) - (C + 1000000000 ^ k * y) := by
  have hde : x - c - y = d - 1000000000 * e ∧ 0 ≤ d ∧ d < 1000000000 ∧ 0 ≤ e ∧ e ≤ 1 := by
    subst hd he
    split <;> omega
  obtain ⟨h1, h2, h3, h4, h5⟩ := hde
  refine ⟨okL_snoc hz ⟨h2, h3⟩, ⟨h4, h5⟩, ?_⟩
  rw [val_snoc, hl, Int.pow_succ]
  generalize (1000000000 : Int) ^ k = p at *
  have e2 : p * x - p * c - p * y = p * d - p * 1000000000 * e := by
    rw [← Int.mul_sub, ← Int.mul_sub, h1, Int.mul_sub, Int.mul_assoc]
  omega
/-! ### products -/
theorem getD_set_ne (xs : List Int) {k j : Nat} (v : Int) (h : j ≠ k) : (xs.set k v).getD j 0 = xs.getD j 0 := by
  simp only [List.getD_eq_getElem?_getD]
  rw [List.getElem?_set_ne (by omega)]
theorem mul_bound {x y : Int} (hx : 0 ≤ x ∧ x < 1000000000) (hy : 0 ≤ y ∧ y < 1000000000) : 0 ≤ x * y ∧ x * y ≤ 999999998000000001 := by
  refine ⟨Int.mul_nonneg hx.1 hy.1, ?_⟩
  have h1 : x * y ≤ 999999999 * y := Int.mul_le_mul_of_nonneg_right (by omega) hy.1
  omega
theorem mul_round {out : List Int} {i j : Nat} {c x y V T n : Int} (hk : i + j < out.length) (ho : okL out) (hc : 0 ≤ c ∧ c < 1000000000) (hx : 0 ≤ x ∧ x < 1000000000) (hy : 0 ≤ y ∧ y < 1000000000)
    (hv : val out + 1000000000 ^ (i + j) * c = V + 1000000000 ^ i * (x * T)) (hn : n = out.getD (i + j) 0 + x * y + c) :
    okL (out.set (i + j) (n % 1000000000)) ∧ (0 ≤ n / 1000000000 ∧ n / 1000000000 < 1000000000) ∧ (0 ≤ n ∧ n < 1000000000000000000) ∧
    val (out.set (i + j) (n % 1000000000)) + 1000000000 ^ (i + (j + 1)) * (n / 1000000000) = V + 1000000000 ^ i * (x * (T + 1000000000 ^ j * y)) := by
  have hb := mul_bound hx hy
  have hg := okL_get ho (i + j)
  refine ⟨okL_set ho _ (by omega), by omega, by omega, ?_⟩
  rw [val_set out (i + j) _ hk, ← Nat.add_assoc, Int.pow_succ]
  have e : n = n % 1000000000 + 1000000000 * (n / 1000000000) := by omega
  have e0 : (1000000000 : Int) ^ i * (x * (T + 1000000000 ^ j * y)) = 1000000000 ^ i * (x * T) + 1000000000 ^ (i + j) * (x * y) := by
    rw [Int.mul_add x, Int.mul_add, Int.pow_add, Int.mul_assoc, Int.mul_left_comm x]
  rw [e0]
  generalize out.getD (i + j) 0 = o at *
  generalize n % 1000000000 = r at *
  generalize n / 1000000000 = q at *
  generalize (1000000000 : Int) ^ (i + j) = p at *
  generalize x * y = z at *
  have e2 : p * (r - o) + p * 1000000000 * q = p * c + p * z := by
    rw [Int.mul_assoc, ← Int.mul_add, ← Int.mul_add]; congr 1; omega
  omega
theorem mul_end {out : List Int} {i L : Nat} {c x V Y : Int} (hk : i + L < out.length) (hz : out.getD (i + L) 0 = 0)
    (hv : val out + 1000000000 ^ (i + L) * c = V * Y + 1000000000 ^ i * (x * Y)) : val (out.set (i + L) c) = (V + 1000000000 ^ i * x) * Y := by
  rw [val_set out (i + L) c hk, hz, Int.sub_zero, hv, Int.add_mul, Int.mul_assoc]
theorem mul_small {xs ys : List Int} (hx : okL xs) (hy : okL ys) (i : Nat) (hi : i ≤ xs.length) : val (xs.take i) * val ys < 1000000000 ^ (i + ys.length) := by
  have h1 := val_lt (okL_take hx i)
  have h2 := val_nonneg (okL_take hx i)
  have h3 := val_lt hy
  have h4 := val_nonneg hy
  rw [List.length_take, Nat.min_eq_left hi] at h1
  rw [Int.pow_add]
  have hp := pow_pos' i
  have hq := pow_pos' ys.length
  generalize (1000000000 : Int) ^ i = p at *
  generalize (1000000000 : Int) ^ ys.length = q at *
  generalize val (xs.take i) = a at *
  generalize val ys = b at *
  have h5 : a * b ≤ p * b := Int.mul_le_mul_of_nonneg_right (by omega) h4
  have h6 : p * b < p * q := Int.mul_lt_mul_of_pos_left h3 hp
  omega
/-! ### the quotient by one limb -/
theorem small_round {os : List Int} {X R d x : Int} (hv : X = d * val os + R) : x + 1000000000 * X = d * val ((R * 1000000000 + x) / d :: os) + (R * 1000000000 + x) % d := by
  show _ = d * ((R * 1000000000 + x) / d + 1000000000 * val os) + (R * 1000000000 + x) % d
  rw [hv, Int.mul_add d]
  have := Int.mul_ediv_add_emod (R * 1000000000 + x) d
  have e : d * (1000000000 * val os) = 1000000000 * (d * val os) := Int.mul_left_comm _ _ _
  rw [e, Int.mul_add]
  omega
/-! ### what holds at the head of each round of a sum -/
theorem val_take_le (n k : Nat) : 0 ≤ val ((limbs n).take k) ∧ val ((limbs n).take k) ≤ n := by
  refine ⟨val_nonneg (okL_take (limbs_ok n) k), ?_⟩
  by_cases h : k ≤ (limbs n).length
  · have h1 := val_split (limbs n) k h
    rw [val_limbs] at h1
    have h2 := Int.mul_nonneg (Int.le_of_lt (pow_pos' k)) (val_nonneg (okL_drop (limbs_ok n) k))
    omega
  · rw [List.take_of_length_le (by omega), val_limbs]; exact Int.le_refl _
theorem pow_cast (k : Nat) : ((1000000000 ^ k : Nat) : Int) = (1000000000 : Int) ^ k := by simp
def AddInv (m n k : Nat) (c : Int) (zs : List Int) : Prop :=
  zs.length = k ∧ okL zs ∧ (0 ≤ c ∧ c ≤ 1) ∧ val zs + 1000000000 ^ k * c = val ((limbs m).take k) + val ((limbs n).take k) ∧ (k = 0 ∨ 1000000000 ^ (k - 1) ≤ m + n)
theorem AddInv.start (m n : Nat) : AddInv m n 0 0 [] := ⟨rfl, okL_nil, by omega, by simp [val], .inl rfl⟩
theorem AddInv.next {m n k : Nat} {c s x y : Int} {zs : List Int} (h : AddInv m n k c zs) (hx : (limbs m).getD k 0 = x) (hy : (limbs n).getD k 0 = y) (hs : s = c + x + y)
    (hgo : k < (limbs m).length ∨ k < (limbs n).length ∨ 0 < c) : AddInv m n (k + 1) (s / 1000000000) (zs ++ [s % 1000000000]) := by
  obtain ⟨h1, h2, h3, h4, h5⟩ := h
  have bx := okL_get (limbs_ok m) k
  have by_ := okL_get (limbs_ok n) k
  rw [hx] at bx
  rw [hy] at by_
  have hr := add_round h1 h2 h3 bx by_ h4
  rw [← hs] at hr
  refine ⟨by rw [List.length_append, h1]; rfl, hr.1, hr.2.1, ?_, .inr ?_⟩
  · rw [hr.2.2, val_take_succ', val_take_succ', hx, hy]
  · rw [Nat.add_sub_cancel]
    rcases hgo with hg | hg | hg
    · have := limbs_le_val hg; omega
    · have := limbs_le_val hg; omega
    · have hc : c = 1 := by omega
      subst hc
      have a1 := val_take_le m k
      have a2 := val_take_le n k
      have a3 := val_nonneg h2
      have a4 := pow_cast k
      omega
theorem AddInv.total {m n k : Nat} {c : Int} {zs : List Int} (h : AddInv m n k c zs) (h1 : (limbs m).length ≤ k) (h2 : (limbs n).length ≤ k) : val zs + 1000000000 ^ k * c = ((m + n : Nat) : Int) := by
  have := h.2.2.2.1
  rw [List.take_of_length_le h1, List.take_of_length_le h2, val_limbs, val_limbs] at this
  omega
theorem AddInv.done {m n k : Nat} {zs : List Int} (h : AddInv m n k 0 zs) (h1 : (limbs m).length ≤ k) (h2 : (limbs n).length ≤ k) : zs = limbs (m + n) := by
  have hv := h.total h1 h2
  refine limbs_of_len h.2.1 (by omega) ?_
  rw [h.1]; exact h.2.2.2.2
theorem AddInv.last {m n k : Nat} {c : Int} {zs : List Int} (h : AddInv m n k c zs) (h1 : (limbs m).length ≤ k) (h2 : (limbs n).length ≤ k) : okL (zs ++ [c]) ∧ val (zs ++ [c]) = ((m + n : Nat) : Int) := by
  refine ⟨okL_snoc h.2.1 (by have := h.2.2.1; omega), ?_⟩
  rw [val_snoc, h.1]; exact h.total h1 h2
theorem add_over {m n k : Nat} {c : Int} {zs : List Int} (h : AddInv m n k c zs) (hk : k = max (limbs m).length (limbs n).length + 1) (hc : 0 < c) : False := by
  have h1 := h.total (by omega) (by omega)
  have h2 := val_nonneg h.2.1
  have h3 : c = 1 := by have := h.2.2.1; omega
  have hm : m < 1000000000 ^ (k - 1) := limbs_len_le.1 (by omega)
  have hn : n < 1000000000 ^ (k - 1) := limbs_len_le.1 (by omega)
  have e : k = (k - 1) + 1 := by omega
  rw [h3, e, Int.pow_succ] at h1
  have h4 := pow_cast (k - 1)
  generalize (1000000000 : Int) ^ (k - 1) = p at *
  generalize (1000000000 : Nat) ^ (k - 1) = q at *
  omega
/-! ### and of a difference -/
def SubInv (m n k : Nat) (c : Int) (zs : List Int) : Prop :=
  zs.length = k ∧ okL zs ∧ (0 ≤ c ∧ c ≤ 1) ∧ val zs - 1000000000 ^ k * c = val ((limbs m).take k) - val ((limbs n).take k)
theorem SubInv.start (m n : Nat) : SubInv m n 0 0 [] := ⟨rfl, okL_nil, by omega, by simp [val]⟩
theorem SubInv.next {m n k : Nat} {c x y d e : Int} {zs : List Int} (h : SubInv m n k c zs) (hx : (limbs m).getD k 0 = x) (hy : (limbs n).getD k 0 = y)
    (hd : d = if x - c - y < 0 then x - c - y + 1000000000 else x - c - y) (he : e = if x - c - y < 0 then 1 else 0) : SubInv m n (k + 1) e (zs ++ [d]) := by
  obtain ⟨h1, h2, h3, h4⟩ := h
  have bx := okL_get (limbs_ok m) k
  have by_ := okL_get (limbs_ok n) k
  rw [hx] at bx
  rw [hy] at by_
  have hr := sub_round h1 h2 h3 bx by_ h4 d e hd he
  refine ⟨by rw [List.length_append, h1]; rfl, hr.1, hr.2.1, ?_⟩
  rw [hr.2.2, val_take_succ', val_take_succ', hx, hy]
theorem SubInv.done {m n : Nat} {c : Int} {zs : List Int} (h : SubInv m n (limbs m).length c zs) (hle : n ≤ m) : okL zs ∧ val zs = ((m - n : Nat) : Int) := by
  obtain ⟨h1, h2, h3, h4⟩ := h
  refine ⟨h2, ?_⟩
  have hn := limbs_len_mono hle
  rw [List.take_of_length_le (Nat.le_refl _), List.take_of_length_le hn, val_limbs, val_limbs] at h4
  have hv := val_lt h2
  rw [h1] at hv
  have hp := pow_pos' (limbs m).length
  generalize (1000000000 : Int) ^ (limbs m).length = p at *
  by_cases e : c = 0
  · subst e; omega
  · have : c = 1 := by omega
    subst this; omega
/-! ### what holds at the head of each round of a product -/
def MulOut (m n i L : Nat) (out : List Int) : Prop := out.length = L ∧ okL out ∧ val out = val ((limbs m).take i) * n
def MulIn (m n i j L : Nat) (x c : Int) (out : List Int) : Prop :=
  out.length = L ∧ okL out ∧ (0 ≤ c ∧ c < 1000000000) ∧ out.getD (i + (limbs n).length) 0 = 0 ∧
  val out + 1000000000 ^ (i + j) * c = val ((limbs m).take i) * n + 1000000000 ^ i * (x * val ((limbs n).take j))
theorem MulOut.start (m n L : Nat) : MulOut m n 0 L (List.replicate L 0) := ⟨by simp, okL_replicate L, by rw [val_replicate]; simp [val]⟩
theorem MulIn.start {m n i L : Nat} {out : List Int} (x : Int) (h : MulOut m n i L out) (hi : i < (limbs m).length) : MulIn m n i 0 L x 0 out := by
  obtain ⟨h1, h2, h3⟩ := h
  refine ⟨h1, h2, by omega, ?_, ?_⟩
  · refine top_zero h2 ?_
    have := mul_small (limbs_ok m) (limbs_ok n) i (by omega)
    rw [val_limbs] at this
    rw [h3]; exact this
  · rw [h3]; simp [val]
theorem MulIn.next {m n i j L : Nat} {x y c s : Int} {out : List Int} (h : MulIn m n i j L x c out) (hi : i < (limbs m).length) (hj : j < (limbs n).length) (hL : (limbs m).length + (limbs n).length ≤ L)
    (hx : (limbs m).getD i 0 = x) (hy : (limbs n).getD j 0 = y) (hs : s = out.getD (i + j) 0 + x * y + c) :
    MulIn m n i (j + 1) L x (s / 1000000000) (out.set (i + j) (s % 1000000000)) := by
  obtain ⟨h1, h2, h3, h4, h5⟩ := h
  have bx := okL_get (limbs_ok m) i
  have by_ := okL_get (limbs_ok n) j
  rw [hx] at bx
  rw [hy] at by_
  have hr := mul_round (i := i) (j := j) (by omega) h2 h3 bx by_ h5 hs
  refine ⟨by rw [List.length_set]; exact h1, hr.1, hr.2.1, ?_, ?_⟩
  · rw [getD_set_ne _ _ (by omega)]; exact h4
  · rw [hr.2.2.2, val_take_succ', hy]
theorem MulIn.finish {m n i L : Nat} {x c : Int} {out : List Int} (h : MulIn m n i (limbs n).length L x c out) (hi : i < (limbs m).length) (hL : (limbs m).length + (limbs n).length ≤ L)
    (hx : (limbs m).getD i 0 = x) : MulOut m n (i + 1) L (out.set (i + (limbs n).length) c) := by
  obtain ⟨h1, h2, h3, h4, h5⟩ := h
  refine ⟨by rw [List.length_set]; exact h1, okL_set h2 _ h3, ?_⟩
  rw [List.take_length, val_limbs] at h5
  rw [mul_end (by omega) h4 h5, val_take_succ', hx]
theorem MulIn.skip {m n i L : Nat} {x : Int} {out : List Int} (h : MulIn m n i (limbs n).length L x 0 out) (hx : (limbs m).getD i 0 = x) : MulOut m n (i + 1) L out := by
  obtain ⟨h1, h2, h3, h4, h5⟩ := h
  refine ⟨h1, h2, ?_⟩
  rw [List.take_length, val_limbs] at h5
  rw [val_take_succ', hx, Int.add_mul]
  rw [Int.mul_assoc (1000000000 ^ i)]
  omega
theorem MulOut.done {m n L : Nat} {out : List Int} (h : MulOut m n (limbs m).length L out) : okL out ∧ val out = ((m * n : Nat) : Int) := by
  refine ⟨h.2.1, ?_⟩
  rw [h.2.2, List.take_length, val_limbs]; simp
/-! ### the answers of the functions on lists of limbs -/
def nv (xs : List Int) : Nat := (val xs).toNat
theorem nv_limbs (n : Nat) : nv (limbs n) = n := by unfold nv; rw [val_limbs]; simp
theorem natB_elim {xs : List Int} (h : natB xs = true) : ∃ n, xs = limbs n ∧ (limbs n).length ≤ 50 := by
  obtain ⟨h1, h2⟩ := natB_limbs h
  exact ⟨_, h1, by rw [← h1]; exact h2⟩
def capV (n : Nat) : Nat := if 50 < (limbs n).length then 0 else n
def fCmp (xs ys : List Int) : Int := if natB xs && natB ys then cmpN (nv xs) (nv ys) else 0
def fAdd (xs ys : List Int) : List Int := if natB xs && natB ys then limbs (capV (nv xs + nv ys)) else []
def fSub (xs ys : List Int) : List Int := if natB xs && natB ys then limbs (nv xs - nv ys) else []
def fMul (xs ys : List Int) : List Int := if natB xs && natB ys then limbs (capV (nv xs * nv ys)) else []
end Go.Proofs.YtogkonenejfgmaaGreatDoor
