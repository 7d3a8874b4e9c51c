/- Plain arithmetic: the quotient by one limb, and the reference's long division, round by round. No program. Plain arithmetic of the long division: the scale, the first rows, the end. No program. -/
import Derived.Test.YtogkonenejfgmaaGreatDoorM15
namespace Go.Proofs.YtogkonenejfgmaaGreatDoor
theorem drop_set_cons {out : List Int} {j : Nat} (h : j < out.length) (v : Int) : (out.set j v).drop j = v :: out.drop (j + 1) := by
  rw [drop_cons_getD _ j (by rw [List.length_set]; omega), List.drop_set_of_lt (by omega)]
  congr 1
  rw [List.getD_eq_getElem?_getD, List.getElem?_set_self (by omega)]; rfl
def SmInv (d : Int) (xs : List Int) (k : Nat) (rest : Int) (out : List Int) : Prop :=
  out.length = xs.length ∧ okL out ∧ (0 ≤ rest ∧ rest < d) ∧ val (xs.drop k) = d * val (out.drop k) + rest
theorem SmInv.start (d : Int) (xs : List Int) (hd : 0 < d) : SmInv d xs xs.length 0 (List.replicate xs.length 0) := by
  refine ⟨by simp, okL_replicate _, by omega, ?_⟩
  rw [List.drop_of_length_le (Nat.le_refl _), List.drop_of_length_le (by simp)]; simp [val]
theorem SmInv.nums {d rest x n : Int} (hd : d < 1000000000) (hr : 0 ≤ rest ∧ rest < d) (hx : 0 ≤ x ∧ x < 1000000000) (hn : n = rest * 1000000000 + x) :
    0 ≤ n ∧ n < 1000000000000000000 ∧ 0 ≤ n / d ∧ n / d < 1000000000 ∧ 0 ≤ n % d ∧ n % d < d := by
  have h0 : 0 ≤ n := by omega
  refine ⟨h0, by omega, Int.ediv_nonneg h0 (by omega), ?_, Int.emod_nonneg _ (by omega), Int.emod_lt_of_pos _ (by omega)⟩
  exact Int.ediv_lt_of_lt_mul (by omega) (by omega)
theorem SmInv.next {d : Int} {xs : List Int} {j : Nat} {rest x n : Int} {out : List Int} (h : SmInv d xs (j + 1) rest out) (hd : d < 1000000000) (hj : j < xs.length) (hx : xs.getD j 0 = x) (hx2 : 0 ≤ x ∧ x < 1000000000)
    (hn : n = rest * 1000000000 + x) : SmInv d xs j (n % d) (out.set j (n / d)) := by
  obtain ⟨h1, h2, h3, h4⟩ := h
  obtain ⟨b1, b2, b3, b4, b5, b6⟩ := SmInv.nums hd h3 hx2 hn
  refine ⟨by rw [List.length_set]; exact h1, okL_set h2 j ⟨b3, b4⟩, ⟨b5, b6⟩, ?_⟩
  rw [drop_set_cons (by omega), drop_cons_getD xs j hj, hx, hn]
  exact small_round h4
theorem SmInv.done {d : Int} {m : Nat} {rest : Int} {out : List Int} (h : SmInv d (limbs m) 0 rest out) {e : Nat} (hd : d = e) : trimL out = limbs (m / e) ∧ rest = ((m % e : Nat) : Int) := by
  obtain ⟨h1, h2, h3, h4⟩ := h
  rw [List.drop_zero, List.drop_zero, val_limbs] at h4
  have g := val_nonneg h2
  subst hd
  have e0 : (0 : Int) < e := by omega
  have e1 : val out = (m : Int) / e := by
    have := (Int.ediv_emod_unique (a := (m : Int)) (b := e) (r := rest) (q := val out) e0).2 ⟨by omega, h3.1, h3.2⟩
    exact this.1.symm
  have e2 : rest = (m : Int) % e := by
    have := (Int.ediv_emod_unique (a := (m : Int)) (b := e) (r := rest) (q := val out) e0).2 ⟨by omega, h3.1, h3.2⟩
    exact this.2.symm
  refine ⟨?_, by rw [e2]; simp⟩
  rw [trimL_limbs h2, e1]
  rfl
/-- the reference's rounds -/
def LdInv (m n k R : Nat) (out : List Int) : Prop :=
  out.length = (limbs m).length ∧ okL out ∧ R < n ∧ val ((limbs m).drop k) = val (out.drop k) * n + R ∧ ∀ i, i < k → out.getD i 0 = 0
theorem LdInv.start (m : Nat) {n : Nat} (hn : 0 < n) : LdInv m n (limbs m).length 0 (List.replicate (limbs m).length 0) := by
  refine ⟨by simp, okL_replicate _, hn, ?_, ?_⟩
  · rw [List.drop_of_length_le (Nat.le_refl _), List.drop_of_length_le (by simp)]; simp [val]
  · intro i hi
    rw [List.getD_eq_getElem?_getD, List.getElem?_replicate]
    split <;> rfl
theorem cons_limbs (R : Nat) {x : Int} (hx : 0 ≤ x ∧ x < 1000000000) : okL (x :: limbs R) ∧ val (x :: limbs R) = ((R * 1000000000 + x.toNat : Nat) : Int) := by
  refine ⟨okL_cons.2 ⟨hx, limbs_ok R⟩, ?_⟩
  rw [val_cons, val_limbs]; omega
theorem LdInv.next {m n j R : Nat} {out : List Int} {x : Int} (h : LdInv m n (j + 1) R out) (hj : j < (limbs m).length) (hx : (limbs m).getD j 0 = x) {R1 q : Nat} (h1 : R1 = R * 1000000000 + x.toNat) (hq : q = R1 / n) :
    LdInv m n j (R1 % n) (out.set j (q : Int)) ∧ q < 1000000000 := by
  obtain ⟨g1, g2, g3, g4, g5⟩ := h
  have bx := okL_get (limbs_ok m) j
  rw [hx] at bx
  have hq2 : q < 1000000000 := by
    rw [hq, Nat.div_lt_iff_lt_mul (by omega)]; omega
  refine ⟨⟨by rw [List.length_set]; exact g1, okL_set g2 j (by omega), Nat.mod_lt _ (by omega), ?_, ?_⟩, hq2⟩
  · rw [drop_set_cons (by omega), drop_cons_getD _ j hj, hx, val_cons, val_cons, g4]
    have e := Nat.div_add_mod R1 n
    rw [← hq] at e
    have e2 : (n : Int) * q + ((R1 % n : Nat) : Int) = R1 := by exact_mod_cast e
    rw [Int.add_mul, Int.mul_assoc, Int.mul_comm (q : Int)]
    generalize val (out.drop (j + 1)) * (n : Int) = t at *
    generalize ((R1 % n : Nat) : Int) = r at *
    generalize (n : Int) * q = z at *
    omega
  · intro i hi
    rw [getD_set_ne _ _ (by omega)]
    exact g5 i (by omega)
theorem LdInv.skip {m n j R : Nat} {out : List Int} {x : Int} (h : LdInv m n (j + 1) R out) (hj : j < (limbs m).length) (hx : (limbs m).getD j 0 = x) {R1 : Nat} (h1 : R1 = R * 1000000000 + x.toNat) (hlt : R1 < n) : LdInv m n j R1 out := by
  have g := (h.next hj hx h1 rfl).1
  rw [Nat.div_eq_of_lt hlt, Nat.mod_eq_of_lt hlt] at g
  have hz := h.2.2.2.2 j (by omega)
  have e : out.set j ((0 : Nat) : Int) = out := by
    apply List.ext_getElem?
    intro i
    by_cases hi : i = j
    · subst hi
      have hlo : i < out.length := by rw [h.1]; exact hj
      rw [List.getElem?_set_self hlo]
      rw [List.getD_eq_getElem?_getD, List.getElem?_eq_getElem hlo] at hz
      rw [List.getElem?_eq_getElem hlo]
      simp at hz ⊢
      exact hz.symm
    · rw [List.getElem?_set_ne (by omega)]
  rw [e] at g
  exact g
theorem LdInv.done {m n R : Nat} {out : List Int} (h : LdInv m n 0 R out) : trimL out = limbs (m / n) ∧ R = m % n := by
  obtain ⟨h1, h2, h3, h4, h5⟩ := h
  rw [List.drop_zero, List.drop_zero, val_limbs] at h4
  have g := val_nonneg h2
  obtain ⟨q, hq⟩ := Int.eq_ofNat_of_zero_le g
  rw [hq] at h4
  have h6 : m = q * n + R := by exact_mod_cast h4
  have e1 : m / n = q := by
    rw [h6, Nat.mul_comm, Nat.mul_add_div (by omega), Nat.div_eq_of_lt h3]; omega
  have e2 : m % n = R := by rw [h6, Nat.mul_comm, Nat.mul_add_mod, Nat.mod_eq_of_lt h3]
  refine ⟨by rw [trimL_limbs h2, hq, e1]; rfl, e2.symm⟩
/-- the search of a digit -/
def DgInv (R n : Nat) (lo hi : Int) : Prop := 0 ≤ lo ∧ lo ≤ ((R / n : Nat) : Int) ∧ ((R / n : Nat) : Int) ≤ hi ∧ hi ≤ 999999999
theorem DgInv.up {R n : Nat} {lo hi : Int} {q : Nat} (h : DgInv R n lo hi) (hn : 0 < n) (hq : n * q ≤ R) : DgInv R n q hi := by
  obtain ⟨h1, h2, h3, h4⟩ := h
  have : q ≤ R / n := by rw [Nat.le_div_iff_mul_le hn, Nat.mul_comm]; exact hq
  exact ⟨by omega, by omega, h3, h4⟩
theorem DgInv.down {R n : Nat} {lo hi : Int} {q : Nat} (h : DgInv R n lo hi) (hn : 0 < n) (hq : ¬ n * q ≤ R) (hh : (q : Int) ≤ hi) : DgInv R n lo ((q : Int) - 1) := by
  obtain ⟨h1, h2, h3, h4⟩ := h
  have : R / n < q := by rw [Nat.div_lt_iff_lt_mul hn, Nat.mul_comm]; omega
  exact ⟨by omega, by omega, by omega, by omega⟩
end Go.Proofs.YtogkonenejfgmaaGreatDoor
namespace Go.Proofs.YtogkonenejfgmaaGreatDoor
def btop (n : Nat) : Int := (limbs n).getD ((limbs n).length - 1) 0
def scl (n : Nat) : Nat := 1000000000 / ((btop n).toNat + 1)
theorem btop_pos {n : Nat} (h : 0 < (limbs n).length) : 1 ≤ btop n ∧ btop n < 1000000000 := by
  have h1 := okL_get (limbs_ok n) ((limbs n).length - 1)
  have h2 := limbs_last n
  refine ⟨?_, h1.2⟩
  unfold btop
  by_cases e : (limbs n).getD ((limbs n).length - 1) 0 = 0
  · exfalso
    apply h2
    rw [List.getLast?_eq_getElem?, List.getElem?_eq_getElem (by omega)]
    rw [List.getD_eq_getElem?_getD, List.getElem?_eq_getElem (by omega)] at e
    simpa using e
  · omega
theorem scl_pos {n : Nat} (h : 0 < (limbs n).length) : 1 ≤ scl n ∧ scl n < 1000000000 := by
  have h1 := btop_pos h
  unfold scl
  refine ⟨?_, ?_⟩
  · rw [Nat.le_div_iff_mul_le (by omega)]; omega
  · rw [Nat.div_lt_iff_lt_mul (by omega)]; omega
theorem scl_mul {n : Nat} : ((btop n).toNat + 1) * scl n ≤ 1000000000 := by unfold scl; exact Nat.mul_div_le _ _
theorem n_lt_top {n : Nat} (h : 0 < (limbs n).length) : n < ((btop n).toNat + 1) * 1000000000 ^ ((limbs n).length - 1) := by
  have h1 := val_take_succ' (limbs n) ((limbs n).length - 1)
  rw [List.take_of_length_le (by omega), val_limbs] at h1
  have h2 := val_lt (okL_take (limbs_ok n) ((limbs n).length - 1))
  rw [List.length_take, Nat.min_eq_left (by omega), ← pow_cast] at h2
  rw [← pow_cast] at h1
  have h3 := btop_pos h
  have h4 : (limbs n).getD ((limbs n).length - 1) 0 = (((btop n).toNat : Nat) : Int) := by show btop n = _; omega
  rw [h4, ← Int.natCast_mul] at h1
  rw [Nat.add_mul, Nat.one_mul, Nat.mul_comm]
  omega
/-- the divisor times the scale keeps its length -/
theorem scl_len {n : Nat} (h : 0 < (limbs n).length) : (limbs (n * scl n)).length = (limbs n).length := by
  have h1 := n_lt_top h
  have h2 := scl_pos h
  have h3 : (limbs (n * scl n)).length ≤ (limbs n).length := by
    rw [limbs_len_le]
    have e : 1000000000 ^ (limbs n).length = 1000000000 * 1000000000 ^ ((limbs n).length - 1) := by
      rw [← Nat.pow_succ']; congr 1; omega
    rw [e]
    have h5 : n * scl n < ((btop n).toNat + 1) * 1000000000 ^ ((limbs n).length - 1) * scl n := Nat.mul_lt_mul_of_pos_right h1 (by omega)
    have h6 : ((btop n).toNat + 1) * 1000000000 ^ ((limbs n).length - 1) * scl n ≤ 1000000000 * 1000000000 ^ ((limbs n).length - 1) := by
      rw [Nat.mul_right_comm]; exact Nat.mul_le_mul_right _ scl_mul
    omega
  have h4 : (limbs n).length ≤ (limbs (n * scl n)).length := limbs_len_mono (Nat.le_mul_of_pos_right n (by omega))
  omega
theorem scl_len2 {m n : Nat} (h : 0 < (limbs n).length) : (limbs m).length ≤ (limbs (m * scl n)).length ∧ (limbs (m * scl n)).length ≤ (limbs m).length + 1 := by
  have h2 := scl_pos h
  refine ⟨limbs_len_mono (Nat.le_mul_of_pos_right m (by omega)), ?_⟩
  rw [limbs_len_le, Nat.pow_succ]
  exact Nat.mul_lt_mul'' (limbs_lt_val m) h2.2
theorem limbs_one {s : Nat} (h : 1 ≤ s ∧ s < 1000000000) : limbs s = [(s : Int)] := by
  rw [limbs_pos (by omega), Nat.div_eq_of_lt h.2, limbs_zero, Nat.mod_eq_of_lt h.2]
/-- the row of the dividend: the limbs and noughts behind them -/
def padRow (x k : Nat) : List Int := limbs x ++ List.replicate k 0
theorem padRow_ok (x k : Nat) : okL (padRow x k) := okL_append.2 ⟨limbs_ok x, okL_replicate k⟩
theorem padRow_val (x k : Nat) : val (padRow x k) = x := by unfold padRow; rw [val_append, val_replicate, val_limbs]; omega
theorem padRow_snoc (x k : Nat) : padRow x k ++ [0] = padRow x (k + 1) := by unfold padRow; rw [List.append_assoc, ← List.replicate_succ']
theorem padRow_len (x k : Nat) : (padRow x k).length = (limbs x).length + k := by simp [padRow]
theorem DvInv.start {m n k : Nat} (hN : 0 < (limbs n).length) (hmn : (limbs n).length ≤ (limbs m).length) (hk : (padRow (m * scl n) k).length = (limbs m).length + 1) :
    DvInv ((n * scl n : Nat) : Int) (limbs n).length (padRow (m * scl n) k) ((limbs m).length + 1 - (limbs n).length) (padRow (m * scl n) k) (List.replicate ((limbs m).length + 1 - (limbs n).length) 0) := by
  refine ⟨rfl, by rw [List.length_replicate, hk]; omega, padRow_ok _ _, okL_replicate _, rfl, ?_, ?_⟩
  · rw [show (List.replicate ((limbs m).length + 1 - (limbs n).length) (0 : Int)).drop ((limbs m).length + 1 - (limbs n).length) = [] from List.drop_of_length_le (by simp)]
    show _ = 0 * _ + _
    omega
  · have h1 := val_split (padRow (m * scl n) k) ((limbs m).length + 1 - (limbs n).length) (by omega)
    rw [padRow_val] at h1
    have h2 := val_nonneg (okL_take (padRow_ok (m * scl n) k) ((limbs m).length + 1 - (limbs n).length))
    have hp := pow_pos' ((limbs m).length + 1 - (limbs n).length)
    have h3 : m * scl n < 1000000000 ^ ((limbs m).length + 1 - (limbs n).length) * (n * scl n) := by
      have g1 := limbs_lt_val m
      have g2 : 1000000000 ^ ((limbs n).length - 1) ≤ n := limbs_le_val (by omega)
      have g3 : 1000000000 ^ (limbs m).length ≤ 1000000000 ^ ((limbs m).length + 1 - (limbs n).length) * n := by
        have e : (limbs m).length = ((limbs m).length + 1 - (limbs n).length) + ((limbs n).length - 1) := by omega
        calc 1000000000 ^ (limbs m).length = 1000000000 ^ ((limbs m).length + 1 - (limbs n).length) * 1000000000 ^ ((limbs n).length - 1) := by rw [← Nat.pow_add, ← e]
          _ ≤ _ := Nat.mul_le_mul_left _ g2
      rw [← Nat.mul_assoc]
      exact Nat.mul_lt_mul_of_pos_right (by omega) (scl_pos hN).1
    have h4 : ((m * scl n : Nat) : Int) < 1000000000 ^ ((limbs m).length + 1 - (limbs n).length) * ((n * scl n : Nat) : Int) := by
      rw [← pow_cast, ← Int.natCast_mul]; omega
    generalize (1000000000 : Int) ^ ((limbs m).length + 1 - (limbs n).length) = p at *
    generalize ((n * scl n : Nat) : Int) = V at *
    generalize val ((padRow (m * scl n) k).drop ((limbs m).length + 1 - (limbs n).length)) = d at *
    by_cases hd : V ≤ d
    · have := Int.mul_le_mul_of_nonneg_left hd (Int.le_of_lt hp)
      omega
    · omega
theorem DvInv.done {m n k : Nat} {us qs : List Int} (hN : 0 < (limbs n).length) (h : DvInv ((n * scl n : Nat) : Int) (limbs n).length (padRow (m * scl n) k) 0 us qs) :
    trimL qs = limbs (m / n) ∧ trimL us = limbs (m % n * scl n) ∧ m % n * scl n / scl n = m % n := by
  obtain ⟨g1, g2, g3, g4, g5, g6, g7⟩ := h
  rw [List.drop_zero, List.drop_zero, List.drop_zero, padRow_val] at g6
  rw [List.drop_zero] at g7
  have hs := scl_pos hN
  have u0 := val_nonneg g3
  have q0 := val_nonneg g4
  obtain ⟨U, hU⟩ := Int.eq_ofNat_of_zero_le u0
  obtain ⟨Q, hQ⟩ := Int.eq_ofNat_of_zero_le q0
  rw [hU, hQ] at g6
  rw [hU] at g7
  have e : m * scl n = Q * (n * scl n) + U := by exact_mod_cast g6
  have lt : U < n * scl n := by exact_mod_cast g7
  have d1 : m * scl n / (n * scl n) = Q := by
    rw [e, Nat.mul_comm, Nat.mul_add_div (by omega), Nat.div_eq_of_lt lt]; omega
  have d2 : m * scl n % (n * scl n) = U := by rw [e, Nat.mul_comm, Nat.mul_add_mod, Nat.mod_eq_of_lt lt]
  rw [Nat.mul_div_mul_right _ _ (by omega)] at d1
  rw [Nat.mul_mod_mul_right] at d2
  refine ⟨?_, ?_, Nat.mul_div_cancel _ (by omega)⟩
  · rw [trimL_limbs g4, hQ, d1]; rfl
  · rw [trimL_limbs g3, hU, d2]; rfl
theorem top_len_pos {n : Nat} {N : Nat} (h : (limbs n).length = N) (h0 : 0 < N) : 0 < (limbs n).getD (N - 1) 0 := by
  subst h
  exact (btop_pos h0).1
end Go.Proofs.YtogkonenejfgmaaGreatDoor
