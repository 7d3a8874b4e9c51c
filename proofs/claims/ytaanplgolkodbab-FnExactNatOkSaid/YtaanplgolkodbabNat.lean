/- Plain arithmetic, no program: a natural number and its limbs in base 1000000000, the lowest first. No condition. -/
import Derived.WalkKit
namespace Go.Proofs.Ytaanplgolkodbab

def baseN : Nat := 1000000000

/-- the limbs of a natural number, the lowest first -/
def limbsF : Nat → Nat → List Int
  | 0, _ => []
  | f + 1, n => if n = 0 then [] else ((n % 1000000000 : Nat) : Int) :: limbsF f (n / 1000000000)
def limbs (n : Nat) : List Int := limbsF n n

theorem limbsF_fuel : ∀ (f g n : Nat), n ≤ f → n ≤ g → limbsF f n = limbsF g n
  | 0, 0, _, _, _ => rfl
  | 0, g + 1, n, h, _ => by
    have : n = 0 := by omega
    subst this; simp [limbsF]
  | f + 1, 0, n, _, h => by
    have : n = 0 := by omega
    subst this; simp [limbsF]
  | f + 1, g + 1, n, h1, h2 => by
    by_cases e : n = 0
    · simp [limbsF, e]
    · simp only [limbsF, if_neg e]
      rw [limbsF_fuel f g (n / 1000000000) (by omega) (by omega)]
theorem limbs_zero : limbs 0 = [] := rfl
theorem limbs_pos {n : Nat} (h : n ≠ 0) : limbs n = ((n % 1000000000 : Nat) : Int) :: limbs (n / 1000000000) := by
  unfold limbs
  match n, h with
  | k + 1, _ =>
    show limbsF (k + 1) (k + 1) = _
    simp only [limbsF, if_neg (show k + 1 ≠ 0 by omega)]
    rw [limbsF_fuel k ((k + 1) / 1000000000) _ (by omega) (Nat.le_refl _)]

def val : List Int → Int
  | [] => 0
  | x :: r => x + 1000000000 * val r
def okL (xs : List Int) : Prop := ∀ x ∈ xs, 0 ≤ x ∧ x < 1000000000

theorem okL_nil : okL [] := by intro x h; simp at h
theorem okL_cons {x : Int} {r : List Int} : okL (x :: r) ↔ (0 ≤ x ∧ x < 1000000000) ∧ okL r := by simp [okL]
theorem okL_append {a b : List Int} : okL (a ++ b) ↔ okL a ∧ okL b := by
  unfold okL
  constructor
  · intro h; exact ⟨fun x hx => h x (by simp [hx]), fun x hx => h x (by simp [hx])⟩
  · intro h x hx; rw [List.mem_append] at hx; exact hx.elim (h.1 x) (h.2 x)
theorem okL_get {xs : List Int} (h : okL xs) (i : Nat) : 0 ≤ xs.getD i 0 ∧ xs.getD i 0 < 1000000000 := by
  by_cases hi : i < xs.length
  · have : xs.getD i 0 = xs[i] := by simp [List.getD, hi]
    rw [this]; exact h _ (List.getElem_mem hi)
  · rw [List.getD_eq_getElem?_getD, List.getElem?_eq_none (by omega)]; simp
theorem okL_take {xs : List Int} (h : okL xs) (k : Nat) : okL (xs.take k) := fun x hx => h x (List.mem_of_mem_take hx)
theorem okL_drop {xs : List Int} (h : okL xs) (k : Nat) : okL (xs.drop k) := fun x hx => h x (List.mem_of_mem_drop hx)

theorem limbs_ok (n : Nat) : okL (limbs n) := by
  induction n using Nat.strongRecOn with
  | ind n ih =>
    by_cases h : n = 0
    · subst h; exact okL_nil
    · rw [limbs_pos h, okL_cons]
      exact ⟨by omega, ih _ (by omega)⟩
theorem val_limbs (n : Nat) : val (limbs n) = n := by
  induction n using Nat.strongRecOn with
  | ind n ih =>
    by_cases h : n = 0
    · subst h; rfl
    · rw [limbs_pos h]
      show ((n % 1000000000 : Nat) : Int) + 1000000000 * val (limbs (n / 1000000000)) = n
      rw [ih _ (by omega)]; omega
theorem val_nonneg : ∀ {xs : List Int}, okL xs → 0 ≤ val xs
  | [], _ => by simp [val]
  | x :: r, h => by
    rw [okL_cons] at h
    have := val_nonneg h.2
    show 0 ≤ x + 1000000000 * val r
    omega

/-- the canonical form: no zero at the top -/
def canon (xs : List Int) : Prop := okL xs ∧ xs.getLast? ≠ some 0
theorem limbs_last (n : Nat) : (limbs n).getLast? ≠ some 0 := by
  induction n using Nat.strongRecOn with
  | ind n ih =>
    by_cases h : n = 0
    · subst h; simp [limbs_zero]
    · rw [limbs_pos h]
      by_cases h2 : n / 1000000000 = 0
      · rw [h2, limbs_zero]
        simp; omega
      · have := ih (n / 1000000000) (by omega)
        rw [limbs_pos h2] at this ⊢
        simpa [List.getLast?_cons_cons] using this
theorem limbs_canon (n : Nat) : canon (limbs n) := ⟨limbs_ok n, limbs_last n⟩

theorem canon_limbs : ∀ {xs : List Int}, canon xs → xs = limbs (val xs).toNat
  | [], _ => by simp [val, limbs_zero]
  | x :: r, h => by
    obtain ⟨h1, h2⟩ := h
    rw [okL_cons] at h1
    have hr : canon r := by
      refine ⟨h1.2, ?_⟩
      cases r with
      | nil => simp
      | cons y t => simpa [List.getLast?_cons_cons] using h2
    have ih := canon_limbs hr
    have hv := val_nonneg h1.2
    have hne : (val (x :: r)).toNat ≠ 0 := by
      show (x + 1000000000 * val r).toNat ≠ 0
      cases r with
      | nil => simp at h2; simp [val]; omega
      | cons y t =>
        have : val (y :: t) ≠ 0 := by
          intro e
          rw [e] at ih
          simp [limbs_zero] at ih
        omega
    rw [limbs_pos hne]
    have e1 : (val (x :: r)).toNat % 1000000000 = x.toNat := by
      show (x + 1000000000 * val r).toNat % 1000000000 = x.toNat
      omega
    have e2 : (val (x :: r)).toNat / 1000000000 = (val r).toNat := by
      show (x + 1000000000 * val r).toNat / 1000000000 = (val r).toNat
      omega
    rw [e1, e2, ← ih]
    congr 1
    omega
theorem limbs_inj {m n : Nat} (h : limbs m = limbs n) : m = n := by
  have := congrArg val h
  rw [val_limbs, val_limbs] at this; omega

/-- zeros at the top dropped -/
def trimL (xs : List Int) : List Int := (xs.reverse.dropWhile (· == 0)).reverse
theorem trimL_nil : trimL [] = [] := rfl
theorem trimL_snoc_zero (xs : List Int) : trimL (xs ++ [0]) = trimL xs := by simp [trimL]
theorem trimL_snoc {xs : List Int} {x : Int} (h : x ≠ 0) : trimL (xs ++ [x]) = xs ++ [x] := by simp [trimL, h]
theorem val_append : ∀ (a b : List Int), val (a ++ b) = val a + 1000000000 ^ a.length * val b
  | [], b => by simp [val]
  | x :: r, b => by
    show x + 1000000000 * val (r ++ b) = x + 1000000000 * val r + 1000000000 ^ (r.length + 1) * val b
    rw [val_append r b, Int.pow_succ]
    generalize (1000000000 : Int) ^ r.length = p
    rw [Int.mul_add, ← Int.mul_assoc, Int.mul_comm p]
    omega
theorem snoc_ind {P : List Int → Prop} (h0 : P []) (h1 : ∀ xs x, P xs → P (xs ++ [x])) (l : List Int) : P l := by
  have : ∀ r : List Int, P r.reverse := by
    intro r
    induction r with
    | nil => exact h0
    | cons x t ih => rw [List.reverse_cons]; exact h1 _ _ ih
  simpa using this l.reverse
theorem val_trimL (xs : List Int) : val (trimL xs) = val xs := by
  induction xs using snoc_ind with
  | h0 => rfl
  | h1 xs x ih =>
    by_cases h : x = 0
    · subst h; rw [trimL_snoc_zero, ih, val_append]; simp [val]
    · rw [trimL_snoc h]
theorem trimL_canon {xs : List Int} (h : okL xs) : canon (trimL xs) := by
  induction xs using snoc_ind with
  | h0 => exact ⟨okL_nil, by simp [trimL]⟩
  | h1 xs x ih =>
    rw [okL_append] at h
    by_cases e : x = 0
    · subst e; rw [trimL_snoc_zero]; exact ih h.1
    · rw [trimL_snoc e]; exact ⟨okL_append.2 h, by simp [e]⟩
theorem trimL_limbs {xs : List Int} (h : okL xs) : trimL xs = limbs (val xs).toNat := by
  rw [canon_limbs (trimL_canon h), val_trimL]
theorem trimL_length_le (xs : List Int) : (trimL xs).length ≤ xs.length := by
  induction xs using snoc_ind with
  | h0 => simp [trimL]
  | h1 xs x ih =>
    by_cases e : x = 0
    · subst e; rw [trimL_snoc_zero]; simp; omega
    · rw [trimL_snoc e]; exact Nat.le_refl _
theorem trimL_take (xs : List Int) : trimL xs = xs.take (trimL xs).length := by
  induction xs using snoc_ind with
  | h0 => rfl
  | h1 xs x ih =>
    by_cases e : x = 0
    · subst e; rw [trimL_snoc_zero]
      have := trimL_length_le xs
      rw [List.take_append_of_le_length this]; exact ih
    · rw [trimL_snoc e]; exact List.take_length.symm
theorem trimL_canon_id {xs : List Int} (h : xs.getLast? ≠ some 0) : trimL xs = xs := by
  induction xs using snoc_ind with
  | h0 => rfl
  | h1 xs x _ => rw [trimL_snoc (by simpa using h)]

/-! validity -/
def natB (xs : List Int) : Bool := decide (xs.length ≤ 50) && (xs.getLast? != some 0) && xs.all (fun x => decide (0 ≤ x) && decide (x < 1000000000))
theorem natB_limbs {xs : List Int} (h : natB xs = true) : xs = limbs (val xs).toNat ∧ xs.length ≤ 50 := by
  unfold natB at h
  rw [Bool.and_eq_true, Bool.and_eq_true, decide_eq_true_eq, bne_iff_ne, List.all_eq_true] at h
  refine ⟨canon_limbs ⟨?_, h.1.2⟩, h.1.1⟩
  intro x hx
  simpa using h.2 x hx
theorem natB_of {n : Nat} (h : (limbs n).length ≤ 50) : natB (limbs n) = true := by
  unfold natB
  rw [Bool.and_eq_true, Bool.and_eq_true, decide_eq_true_eq, bne_iff_ne, List.all_eq_true]
  exact ⟨⟨h, limbs_last n⟩, fun x hx => by simpa using limbs_ok n x hx⟩

/-! length and order -/
theorem val_lt : ∀ {xs : List Int}, okL xs → val xs < 1000000000 ^ xs.length
  | [], _ => by simp [val]
  | x :: r, h => by
    rw [okL_cons] at h
    have := val_lt h.2
    show x + 1000000000 * val r < 1000000000 ^ (r.length + 1)
    rw [Int.pow_succ]
    generalize (1000000000 : Int) ^ r.length = p at *
    omega
theorem limbs_le_val {n k : Nat} (h : k < (limbs n).length) : 1000000000 ^ k ≤ n := by
  induction n using Nat.strongRecOn generalizing k with
  | ind n ih =>
    by_cases e : n = 0
    · subst e; simp [limbs_zero] at h
    · rw [limbs_pos e] at h
      cases k with
      | zero => simp; omega
      | succ k =>
        simp at h
        have := ih (n / 1000000000) (by omega) h
        rw [Nat.pow_succ]
        generalize (1000000000 : Nat) ^ k = p at *
        omega
theorem limbs_lt_val (n : Nat) : n < 1000000000 ^ (limbs n).length := by
  have h := val_lt (limbs_ok n)
  rw [val_limbs] at h
  have : ((1000000000 ^ (limbs n).length : Nat) : Int) = (1000000000 : Int) ^ (limbs n).length := by simp
  omega
theorem limbs_len_le {n k : Nat} : (limbs n).length ≤ k ↔ n < 1000000000 ^ k := by
  constructor
  · intro h
    have h1 := limbs_lt_val n
    have h2 : (1000000000 : Nat) ^ (limbs n).length ≤ 1000000000 ^ k := Nat.pow_le_pow_right (by omega) h
    omega
  · intro h
    by_cases e : (limbs n).length ≤ k
    · exact e
    · have := limbs_le_val (n := n) (k := k) (by omega)
      omega
theorem limbs_len_mono {m n : Nat} (h : m ≤ n) : (limbs m).length ≤ (limbs n).length := by
  rw [limbs_len_le]; have := limbs_lt_val n; omega
theorem limbs_len_lt {m n : Nat} (h : (limbs m).length < (limbs n).length) : m < n := by
  by_cases e : n ≤ m
  · have := limbs_len_mono e; omega
  · omega
/-- the comparison from the top -/
theorem val_split (xs : List Int) (k : Nat) (h : k ≤ xs.length) : val xs = val (xs.take k) + 1000000000 ^ k * val (xs.drop k) := by
  have := val_append (xs.take k) (xs.drop k)
  rw [List.take_append_drop, List.length_take, Nat.min_eq_left h] at this
  exact this
theorem drop_cons_getD (xs : List Int) (k : Nat) (h : k < xs.length) : xs.drop k = xs.getD k 0 :: xs.drop (k + 1) := by
  rw [List.drop_eq_getElem_cons h]
  simp [List.getD, h]
theorem take_succ_getD (xs : List Int) (k : Nat) (h : k < xs.length) : xs.take (k + 1) = xs.take k ++ [xs.getD k 0] := by
  rw [List.take_succ_eq_append_getElem h]
  simp [List.getD, h]
theorem val_take_succ (xs : List Int) (k : Nat) (h : k < xs.length) : val (xs.take (k + 1)) = val (xs.take k) + 1000000000 ^ k * xs.getD k 0 := by
  rw [take_succ_getD xs k h, val_append, List.length_take, Nat.min_eq_left (by omega)]
  simp [val]
theorem pow_pos' (k : Nat) : (0 : Int) < 1000000000 ^ k := Int.pow_pos (by omega)
theorem lt_of_top {xs ys : List Int} (hx : okL xs) (hy : okL ys) (hl : xs.length = ys.length) (k : Nat) (hk : k < xs.length)
    (hd : xs.drop (k + 1) = ys.drop (k + 1)) (hlt : xs.getD k 0 < ys.getD k 0) : val xs < val ys := by
  rw [val_split xs k (by omega), val_split ys k (by omega), drop_cons_getD xs k hk, drop_cons_getD ys k (by omega), hd]
  have h1 := val_lt (okL_take hx k)
  have h2 := val_nonneg (okL_take hy k)
  rw [List.length_take, Nat.min_eq_left (by omega)] at h1
  have hp := pow_pos' k
  show _ + 1000000000 ^ k * (xs.getD k 0 + 1000000000 * val (ys.drop (k + 1))) < _ + 1000000000 ^ k * (ys.getD k 0 + 1000000000 * val (ys.drop (k + 1)))
  generalize (1000000000 : Int) ^ k = p at *
  generalize val (ys.drop (k + 1)) = t at *
  generalize val (xs.take k) = a at *
  generalize val (ys.take k) = b at *
  generalize xs.getD k 0 = x at *
  generalize ys.getD k 0 = y at *
  have : p * (x + 1) ≤ p * y := Int.mul_le_mul_of_nonneg_left (by omega) (by omega)
  rw [Int.mul_add] at this
  rw [Int.mul_add, Int.mul_add]
  generalize p * (1000000000 * t) = q at *
  omega
def cmpN (m n : Nat) : Int := if m < n then -1 else if m = n then 0 else 1
end Go.Proofs.Ytaanplgolkodbab
