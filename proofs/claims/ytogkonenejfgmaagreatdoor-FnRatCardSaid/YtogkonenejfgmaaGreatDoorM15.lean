/- Plain arithmetic of the long division: a digit and its two corrections; a multiple taken away limb by limb; the rounds. No program. -/
import Derived.Test.YtogkonenejfgmaaGreatDoorM02
namespace Go.Proofs.YtogkonenejfgmaaGreatDoor
theorem kn_init {U V P v1 v2 Vl top u2 Ul Q : Int} (hP : 0 < P) (hV : V = (v1 * 1000000000 + v2) * P + Vl) (hVl : 0 ≤ Vl) (hv2 : 0 ≤ v2)
    (hU : U = (top * 1000000000 + u2) * P + Ul) (hUl : Ul < P) (hu2 : u2 < 1000000000) (hQ : Q * V ≤ U) (hQ0 : 0 ≤ Q) (hv1 : 0 < v1) : Q ≤ top / v1 := by
  rw [Int.le_ediv_iff_mul_le hv1]
  by_cases h : Q * v1 ≤ top
  · exact h
  · exfalso
    have h1 : (top + 1) * (1000000000 * P) ≤ Q * v1 * (1000000000 * P) := Int.mul_le_mul_of_nonneg_right (by omega) (by omega)
    have h2 : Q * V = Q * v1 * (1000000000 * P) + (Q * (v2 * P) + Q * Vl) := by
      rw [hV, Int.mul_add, Int.add_mul, Int.mul_add, Int.mul_assoc v1, Int.mul_assoc Q v1, Int.add_assoc]
    have h3 : 0 ≤ Q * (v2 * P) := Int.mul_nonneg hQ0 (Int.mul_nonneg hv2 (by omega))
    have h4 : 0 ≤ Q * Vl := Int.mul_nonneg hQ0 hVl
    have h5 : (u2 + 1) * P ≤ 1000000000 * P := Int.mul_le_mul_of_nonneg_right (by omega) (by omega)
    have h6 : U = top * (1000000000 * P) + u2 * P + Ul := by rw [hU, Int.add_mul, Int.mul_assoc]
    rw [Int.add_mul] at h1 h5
    omega
theorem kn_dec {U V P v1 v2 Vl top u2 Ul Q q : Int} (hP : 0 < P) (hV : V = (v1 * 1000000000 + v2) * P + Vl) (hVl : 0 ≤ Vl)
    (hU : U = (top * 1000000000 + u2) * P + Ul) (hUl : Ul < P) (hQ : Q * V ≤ U) (hQ0 : 0 ≤ Q) (hq : Q ≤ q)
    (hd : (top - q * v1) * 1000000000 + u2 < q * v2) : Q ≤ q - 1 := by
  by_cases e : Q = q
  · exfalso
    subst e
    have h1 : (top * 1000000000 + u2 + 1) * P ≤ Q * (v1 * 1000000000 + v2) * P := by
      refine Int.mul_le_mul_of_nonneg_right ?_ (by omega)
      rw [Int.mul_add, ← Int.mul_assoc]
      rw [Int.sub_mul] at hd
      omega
    have h2 : Q * V = Q * (v1 * 1000000000 + v2) * P + Q * Vl := by rw [hV, Int.mul_add, Int.mul_assoc]
    have h4 : 0 ≤ Q * Vl := Int.mul_nonneg hQ0 hVl
    rw [Int.add_mul _ 1] at h1
    omega
  · omega
theorem kn_stop {U V P v1 v2 Vl top u2 Ul Q q : Int} (hP : 0 < P) (hV : V = (v1 * 1000000000 + v2) * P + Vl) (hVl : 0 ≤ Vl ∧ Vl < P) (hv2 : 0 ≤ v2 ∧ v2 < 1000000000)
    (hU : U = (top * 1000000000 + u2) * P + Ul) (hUl : 0 ≤ Ul) (hu2 : 0 ≤ u2) (hQ : U < (Q + 1) * V) (hQ0 : 0 ≤ Q) (hv1 : 0 < v1) (hq : 0 ≤ q ∧ q ≤ 999999999)
    (hs : q = 0 ∨ 1000000000 ≤ top - q * v1 ∨ q * v2 ≤ (top - q * v1) * 1000000000 + u2) : q ≤ Q + 1 := by
  rcases hs with h | h | h
  · omega
  · by_cases hle : q ≤ Q + 1
    · exact hle
    · exfalso
      -- q V ≤ U
      have hVb : V ≤ (v1 + 1) * (1000000000 * P) := by
        have h5 : (v2 + 1) * P ≤ 1000000000 * P := Int.mul_le_mul_of_nonneg_right (by omega) (by omega)
        rw [hV, Int.add_mul, Int.mul_assoc, Int.add_mul v1]
        rw [Int.add_mul] at h5
        omega
      have h1 : (Q + 1) * V ≤ q * V := Int.mul_le_mul_of_nonneg_right (by omega) (by
        rw [hV]; have := Int.mul_nonneg (show (0 : Int) ≤ v1 * 1000000000 + v2 by omega) (show 0 ≤ P by omega); omega)
      have h2 : q * V ≤ q * ((v1 + 1) * (1000000000 * P)) := Int.mul_le_mul_of_nonneg_left hVb hq.1
      have h3 : (q * v1 + 1000000000) * (1000000000 * P) ≤ top * (1000000000 * P) := Int.mul_le_mul_of_nonneg_right (by omega) (by omega)
      have h4 : q * (1000000000 * P) ≤ 999999999 * (1000000000 * P) := Int.mul_le_mul_of_nonneg_right hq.2 (by omega)
      have h5 : q * ((v1 + 1) * (1000000000 * P)) = q * v1 * (1000000000 * P) + q * (1000000000 * P) := by
        rw [← Int.mul_assoc, Int.mul_add, Int.add_mul, Int.mul_one]
      have h6 : U = top * (1000000000 * P) + u2 * P + Ul := by rw [hU, Int.add_mul, Int.mul_assoc]
      have h7 : 0 ≤ u2 * P := Int.mul_nonneg hu2 (by omega)
      rw [Int.add_mul] at h3
      omega
  · by_cases hle : q ≤ Q + 1
    · exact hle
    · exfalso
      have hV0 : 0 ≤ V := by rw [hV]; have := Int.mul_nonneg (show (0 : Int) ≤ v1 * 1000000000 + v2 by omega) (show 0 ≤ P by omega); omega
      have h1 : (Q + 1) * V ≤ (q - 1) * V := Int.mul_le_mul_of_nonneg_right (by omega) hV0
      have h2 : q * (v1 * 1000000000 + v2) * P ≤ (top * 1000000000 + u2) * P := by
        refine Int.mul_le_mul_of_nonneg_right ?_ (by omega)
        rw [Int.mul_add, ← Int.mul_assoc]
        rw [Int.sub_mul] at h
        omega
      have h3 : q * V = q * (v1 * 1000000000 + v2) * P + q * Vl := by rw [hV, Int.mul_add, Int.mul_assoc]
      have h4 : q * Vl ≤ q * P := Int.mul_le_mul_of_nonneg_left (by omega) hq.1
      have h5 : q * P ≤ 999999999 * P := Int.mul_le_mul_of_nonneg_right hq.2 (by omega)
      have h6 : 1 * (1000000000 * P) ≤ v1 * (1000000000 * P) := Int.mul_le_mul_of_nonneg_right (by omega) (by omega)
      have h7 : v1 * (1000000000 * P) ≤ V := by
        rw [hV, Int.add_mul, Int.mul_assoc]
        have := Int.mul_nonneg hv2.1 (show 0 ≤ P by omega)
        omega
      rw [Int.sub_mul] at h1
      omega
theorem take_set_succ {xs : List Int} {i : Nat} (h : i < xs.length) (v : Int) : (xs.set i v).take (i + 1) = xs.take i ++ [v] := by
  rw [List.take_succ_eq_append_getElem (by rw [List.length_set]; exact h), List.getElem_set_self, List.take_set_of_le (Nat.le_refl _)]
/-- q times V is taken away from U: the first i limbs are done -/
def SubT (U V : List Int) (q : Int) (i : Nat) (bor : Int) (out : List Int) : Prop :=
  out.length = U.length ∧ okL (out.take i) ∧ (0 ≤ bor ∧ bor ≤ q) ∧ val (out.take i) = val (U.take i) - q * val (V.take i) + 1000000000 ^ i * bor ∧ ∀ k, i ≤ k → out.getD k 0 = U.getD k 0
theorem SubT.start (U V : List Int) {q : Int} (hq : 0 ≤ q) : SubT U V q 0 0 U := ⟨rfl, by simp [okL], ⟨Int.le_refl _, hq⟩, by simp [val], fun _ _ => rfl⟩
theorem SubT.next {U V : List Int} {q : Int} {i : Nat} {bor : Int} {out : List Int} (h : SubT U V q i bor out) (hi : i < U.length) {u x n n' b' : Int} (hu : U.getD i 0 = u) (hx : V.getD i 0 = x)
    (hn : n = u - x * q - bor) (h1 : n = n' - 1000000000 * b') (h2 : 0 ≤ n' ∧ n' < 1000000000) (h3 : 0 ≤ b' ∧ b' ≤ q) : SubT U V q (i + 1) b' (out.set i n') := by
  obtain ⟨g1, g2, g3, g4, g5⟩ := h
  have hio : i < out.length := by omega
  have hl : (out.take i).length = i := by rw [List.length_take]; omega
  refine ⟨by rw [List.length_set]; exact g1, ?_, h3, ?_, ?_⟩
  · rw [take_set_succ hio]; exact okL_snoc g2 h2
  · rw [take_set_succ hio, val_snoc, hl, g4, val_take_succ', val_take_succ', hu, hx, Int.pow_succ]
    generalize (1000000000 : Int) ^ i = p
    generalize val (U.take i) = A
    generalize val (V.take i) = C
    have e : p * n' = p * (u - x * q - bor + 1000000000 * b') := by congr 1; omega
    rw [e, Int.mul_add p, Int.mul_sub p, Int.mul_sub p, Int.mul_add q, Int.mul_assoc p 1000000000, show q * (p * x) = p * (x * q) by rw [Int.mul_left_comm, Int.mul_comm q x]]
    omega
  · intro k hk
    rw [getD_set_ne _ _ (by omega)]
    exact g5 k (by omega)
theorem subT_bound {q u x bor n : Int} (hq : 0 ≤ q ∧ q ≤ 999999999) (hu : 0 ≤ u ∧ u < 1000000000) (hx : 0 ≤ x ∧ x < 1000000000) (hb : 0 ≤ bor ∧ bor ≤ q) (hn : n = u - x * q - bor) :
    -(1000000000 * q) ≤ n ∧ n < 1000000000 ∧ 0 ≤ x * q ∧ x * q ≤ 999999998000000001 := by
  have h1 : x * q ≤ 999999999 * q := Int.mul_le_mul_of_nonneg_right (by omega) hq.1
  have h0 : 0 ≤ x * q := Int.mul_nonneg hx.1 hq.1
  refine ⟨by omega, by omega, h0, by omega⟩
theorem subT_neg {q n : Int} (h0 : n < 0) (h : -(1000000000 * q) ≤ n) :
    n = (n + (-n + 1000000000 - 1) / 1000000000 * 1000000000) - 1000000000 * ((-n + 1000000000 - 1) / 1000000000) ∧
    (0 ≤ n + (-n + 1000000000 - 1) / 1000000000 * 1000000000 ∧ n + (-n + 1000000000 - 1) / 1000000000 * 1000000000 < 1000000000) ∧
    (0 ≤ (-n + 1000000000 - 1) / 1000000000 ∧ (-n + 1000000000 - 1) / 1000000000 ≤ q) := by omega
theorem SubT.done {U V : List Int} {q bor u : Int} {N : Nat} {out : List Int} (h : SubT U V q N bor out) (hN : V.length = N) (hU : U.length = N + 1) (hu : U.getD N 0 = u) :
    (out.set N (u - bor)).length = N + 1 ∧ okL ((out.set N (u - bor)).take N) ∧ val (out.set N (u - bor)) = val U - q * val V := by
  obtain ⟨g1, g2, g3, g4, g5⟩ := h
  refine ⟨by rw [List.length_set]; omega, by rw [List.take_set_of_le (Nat.le_refl _)]; exact g2, ?_⟩
  have e1 : out.set N (u - bor) = (out.set N (u - bor)).take (N + 1) := by rw [List.take_of_length_le (by rw [List.length_set]; omega)]
  have e2 : val U = val (U.take N) + 1000000000 ^ N * u := by
    have := val_take_succ' U N
    rw [List.take_of_length_le (by omega)] at this
    rw [this, hu]
  have e3 : V.take N = V := List.take_of_length_le (by omega)
  rw [e1, take_set_succ (by omega), val_snoc, g4, e2, e3, List.length_take, Nat.min_eq_left (by omega), Int.mul_sub]
  omega
/-- V is added to U: the first i limbs are done -/
def AddT (U V : List Int) (i : Nat) (c : Int) (out : List Int) : Prop :=
  out.length = U.length ∧ okL (out.take i) ∧ (0 ≤ c ∧ c ≤ 1) ∧ val (out.take i) + 1000000000 ^ i * c = val (U.take i) + val (V.take i) ∧ ∀ k, i ≤ k → out.getD k 0 = U.getD k 0
theorem AddT.start (U V : List Int) : AddT U V 0 0 U := ⟨rfl, by simp [okL], by omega, by simp [val], fun _ _ => rfl⟩
theorem AddT.next {U V : List Int} {i : Nat} {c : Int} {out : List Int} (h : AddT U V i c out) (hi : i < U.length) {u x s : Int} (hu : U.getD i 0 = u) (hx : V.getD i 0 = x) (hu2 : 0 ≤ u ∧ u < 1000000000) (hx2 : 0 ≤ x ∧ x < 1000000000)
    (hs : s = c + (u + x)) : AddT U V (i + 1) (s / 1000000000) (out.set i (s % 1000000000)) ∧ (0 ≤ s ∧ s < 2000000000) := by
  obtain ⟨g1, g2, g3, g4, g5⟩ := h
  have hio : i < out.length := by omega
  have hl : (out.take i).length = i := by rw [List.length_take]; omega
  refine ⟨⟨by rw [List.length_set]; exact g1, ?_, by omega, ?_, ?_⟩, by omega⟩
  · rw [take_set_succ hio]; exact okL_snoc g2 (by omega)
  · have hr := (add_round hl g2 g3 hu2 hx2 g4).2.2
    rw [show c + u + x = s by omega] at hr
    rw [take_set_succ hio, hr, val_take_succ', val_take_succ', hu, hx]
  · intro k hk
    rw [getD_set_ne _ _ (by omega)]
    exact g5 k (by omega)
theorem AddT.done {U V : List Int} {c u : Int} {N : Nat} {out : List Int} (h : AddT U V N c out) (hN : V.length = N) (hU : U.length = N + 1) (hu : U.getD N 0 = u) :
    (out.set N (u + c)).length = N + 1 ∧ okL ((out.set N (u + c)).take N) ∧ val (out.set N (u + c)) = val U + val V := by
  obtain ⟨g1, g2, g3, g4, g5⟩ := h
  refine ⟨by rw [List.length_set]; omega, by rw [List.take_set_of_le (Nat.le_refl _)]; exact g2, ?_⟩
  have e1 : out.set N (u + c) = (out.set N (u + c)).take (N + 1) := by rw [List.take_of_length_le (by rw [List.length_set]; omega)]
  have e2 : val U = val (U.take N) + 1000000000 ^ N * u := by
    have := val_take_succ' U N
    rw [List.take_of_length_le (by omega)] at this
    rw [this, hu]
  have e3 : V.take N = V := List.take_of_length_le (by omega)
  rw [e3] at g4
  rw [e1, take_set_succ (by omega), val_snoc, e2, List.length_take, Nat.min_eq_left (by omega), Int.mul_add]
  omega
/-- the top limb of a row of which the lower ones are limbs -/
theorem top_of {W : List Int} {N : Nat} (hl : W.length = N + 1) (ok : okL (W.take N)) : val W = val (W.take N) + 1000000000 ^ N * W.getD N 0 ∧ 0 ≤ val (W.take N) ∧ val (W.take N) < 1000000000 ^ N := by
  have h1 := val_take_succ' W N
  rw [List.take_of_length_le (by omega)] at h1
  have h2 := val_lt ok
  rw [List.length_take, Nat.min_eq_left (by omega)] at h2
  exact ⟨h1, val_nonneg ok, h2⟩
theorem top_zero' {W : List Int} {N : Nat} (hl : W.length = N + 1) (ok : okL (W.take N)) (h0 : 0 ≤ val W) (h1 : val W < 1000000000 ^ N) : W.getD N 0 = 0 ∧ okL W := by
  obtain ⟨g1, g2, g3⟩ := top_of hl ok
  have hp := pow_pos' N
  have e : W.getD N 0 = 0 := by
    generalize (1000000000 : Int) ^ N = p at *
    generalize val (W.take N) = a at *
    generalize W.getD N 0 = x at *
    by_cases hx : 1 ≤ x
    · have : p * 1 ≤ p * x := Int.mul_le_mul_of_nonneg_left hx (by omega)
      omega
    · by_cases hx2 : x ≤ -1
      · have : p * x ≤ p * (-1) := Int.mul_le_mul_of_nonneg_left hx2 (by omega)
        omega
      · omega
  refine ⟨e, ?_⟩
  have e2 : W = W.take N ++ [W.getD N 0] := by
    rw [← take_succ_getD W N (by omega), List.take_of_length_le (by omega)]
  rw [e2]
  exact okL_snoc ok (by omega)
theorem top_neg' {W : List Int} {N : Nat} (hl : W.length = N + 1) (ok : okL (W.take N)) (h0 : val W < 0) : W.getD N 0 < 0 := by
  obtain ⟨g1, g2, g3⟩ := top_of hl ok
  have hp := pow_pos' N
  generalize (1000000000 : Int) ^ N = p at *
  generalize val (W.take N) = a at *
  generalize W.getD N 0 = x at *
  by_cases hx : 0 ≤ x
  · have := Int.mul_nonneg (show 0 ≤ p by omega) hx
    omega
  · omega
theorem split2 {xs : List Int} {L : Nat} (hl : xs.length = L + 2) : val xs = (xs.getD (L + 1) 0 * 1000000000 + xs.getD L 0) * 1000000000 ^ L + val (xs.take L) := by
  have h1 := val_take_succ' xs (L + 1)
  rw [List.take_of_length_le (by omega), val_take_succ', Int.pow_succ] at h1
  rw [h1, Int.add_mul, Int.mul_comm _ ((1000000000 : Int) ^ L), Int.mul_comm _ ((1000000000 : Int) ^ L), Int.mul_assoc, Int.mul_comm 1000000000]
  omega
theorem split3 {xs : List Int} {L : Nat} (hl : xs.length = L + 3) : val xs = ((xs.getD (L + 2) 0 * 1000000000 + xs.getD (L + 1) 0) * 1000000000 + xs.getD L 0) * 1000000000 ^ L + val (xs.take L) := by
  have h1 := val_take_succ' xs (L + 2)
  have h2 := split2 (xs := xs.take (L + 2)) (L := L) (by rw [List.length_take]; omega)
  have e1 : (xs.take (L + 2)).getD (L + 1) 0 = xs.getD (L + 1) 0 := by rw [List.getD_eq_getElem?_getD, List.getElem?_take_of_lt (by omega), ← List.getD_eq_getElem?_getD]
  have e2 : (xs.take (L + 2)).getD L 0 = xs.getD L 0 := by rw [List.getD_eq_getElem?_getD, List.getElem?_take_of_lt (by omega), ← List.getD_eq_getElem?_getD]
  rw [e1, e2, List.take_take, Nat.min_eq_left (by omega)] at h2
  rw [List.take_of_length_le (by omega), h2, Int.pow_succ, Int.pow_succ] at h1
  rw [h1]
  generalize (1000000000 : Int) ^ L = p
  generalize xs.getD (L + 2) 0 = a
  generalize xs.getD (L + 1) 0 = b
  generalize xs.getD L 0 = c
  rw [Int.add_mul, Int.add_mul, Int.add_mul, Int.add_mul, show p * 1000000000 * 1000000000 * a = a * 1000000000 * 1000000000 * p by ac_rfl]
  omega
/-- the first guess of a digit, and what holds while it is lowered -/
def DigH (us vs : List Int) (N : Nat) (q : Int) : Prop :=
  0 ≤ q ∧ q ≤ 999999999 ∧ val us / val vs ≤ q ∧ q * vs.getD (N - 1) 0 ≤ us.getD N 0 * 1000000000 + us.getD (N - 1) 0
/-- what the rows of a digit are -/
structure DigRow (us vs : List Int) (N : Nat) : Prop where
  n2 : 2 ≤ N
  lu : us.length = N + 1
  lv : vs.length = N
  ou : okL us
  ov : okL vs
  top : 0 < vs.getD (N - 1) 0
  lt : val us < 1000000000 * val vs
theorem DigRow.parts {us vs : List Int} {N : Nat} (h : DigRow us vs N) : ∃ P : Int, 0 < P ∧ val vs = (vs.getD (N - 1) 0 * 1000000000 + vs.getD (N - 2) 0) * P + val (vs.take (N - 2)) ∧ (0 ≤ val (vs.take (N - 2)) ∧ val (vs.take (N - 2)) < P) ∧
    val us = ((us.getD N 0 * 1000000000 + us.getD (N - 1) 0) * 1000000000 + us.getD (N - 2) 0) * P + val (us.take (N - 2)) ∧ (0 ≤ val (us.take (N - 2)) ∧ val (us.take (N - 2)) < P) ∧ 0 < val vs ∧ 0 ≤ val us := by
  obtain ⟨L, rfl⟩ : ∃ L, N = L + 2 := ⟨N - 2, by have := h.n2; omega⟩
  have h1 := split2 (xs := vs) (L := L) h.lv
  have h2 := split3 (xs := us) (L := L) (by have := h.lu; omega)
  have hp := pow_pos' L
  have b1 := val_lt (okL_take h.ov L)
  have b2 := val_lt (okL_take h.ou L)
  rw [List.length_take, Nat.min_eq_left (by have := h.lv; omega)] at b1
  rw [List.length_take, Nat.min_eq_left (by have := h.lu; omega)] at b2
  have b3 := val_nonneg (okL_take h.ov L)
  have b4 := val_nonneg (okL_take h.ou L)
  have b5 := val_nonneg h.ou
  have hv : 0 < val vs := by
    have g1 := h.top
    have g2 := okL_get h.ov L
    rw [show L + 2 - 1 = L + 1 by omega] at g1
    have := Int.mul_pos (show 0 < vs.getD (L + 1) 0 * 1000000000 + vs.getD L 0 by omega) hp
    omega
  exact ⟨1000000000 ^ L, hp, h1, ⟨b3, b1⟩, h2, ⟨b4, b2⟩, hv, b5⟩
theorem DigRow.q_lt {us vs : List Int} {N : Nat} (h : DigRow us vs N) : 0 ≤ val us / val vs ∧ val us / val vs ≤ 999999999 ∧ val us / val vs * val vs ≤ val us ∧ val us < (val us / val vs + 1) * val vs := by
  obtain ⟨P, hP, h1, h2, h3, h4, hv, hu⟩ := h.parts
  have g1 : 0 ≤ val us / val vs := Int.ediv_nonneg hu (Int.le_of_lt hv)
  have g2 : val us / val vs < 1000000000 := Int.ediv_lt_of_lt_mul hv h.lt
  have g3 : val us / val vs * val vs ≤ val us := Int.ediv_mul_le _ (Int.ne_of_gt hv)
  have g4 : val us < (val us / val vs + 1) * val vs := Int.lt_ediv_add_one_mul_self _ hv
  exact ⟨g1, by omega, g3, g4⟩
theorem DigRow.start {us vs : List Int} {N : Nat} (h : DigRow us vs N) {q : Int} (hq : q = min ((us.getD N 0 * 1000000000 + us.getD (N - 1) 0) / vs.getD (N - 1) 0) 999999999) : DigH us vs N q := by
  obtain ⟨P, hP, h1, h2, h3, h4, hv, hu⟩ := h.parts
  obtain ⟨g1, g2, g3, g4⟩ := h.q_lt
  have u0 := okL_get h.ou N
  have u1 := okL_get h.ou (N - 1)
  have u2 := okL_get h.ou (N - 2)
  have v2 := okL_get h.ov (N - 2)
  have k := kn_init hP h1 h2.1 v2.1 h3 h4.2 u2.2 g3 g1 h.top
  have t0 : 0 ≤ us.getD N 0 * 1000000000 + us.getD (N - 1) 0 := by omega
  have t1 : 0 ≤ (us.getD N 0 * 1000000000 + us.getD (N - 1) 0) / vs.getD (N - 1) 0 := Int.ediv_nonneg t0 (Int.le_of_lt h.top)
  have t2 : (us.getD N 0 * 1000000000 + us.getD (N - 1) 0) / vs.getD (N - 1) 0 * vs.getD (N - 1) 0 ≤ us.getD N 0 * 1000000000 + us.getD (N - 1) 0 := Int.ediv_mul_le _ (Int.ne_of_gt h.top)
  have t3 : q ≤ (us.getD N 0 * 1000000000 + us.getD (N - 1) 0) / vs.getD (N - 1) 0 := by omega
  have t4 : q * vs.getD (N - 1) 0 ≤ (us.getD N 0 * 1000000000 + us.getD (N - 1) 0) / vs.getD (N - 1) 0 * vs.getD (N - 1) 0 := Int.mul_le_mul_of_nonneg_right t3 (Int.le_of_lt h.top)
  exact ⟨by omega, by omega, by omega, by omega⟩
theorem DigRow.down {us vs : List Int} {N : Nat} (h : DigRow us vs N) {q : Int} (hq : DigH us vs N q)
    (hd : (us.getD N 0 * 1000000000 + us.getD (N - 1) 0 - q * vs.getD (N - 1) 0) * 1000000000 + us.getD (N - 2) 0 < q * vs.getD (N - 2) 0) : DigH us vs N (q - 1) := by
  obtain ⟨P, hP, h1, h2, h3, h4, hv, hu⟩ := h.parts
  obtain ⟨g1, g2, g3, g4⟩ := h.q_lt
  obtain ⟨a1, a2, a3, a4⟩ := hq
  have k := kn_dec hP h1 h2.1 h3 h4.2 g3 g1 a3 hd
  refine ⟨by omega, by omega, k, ?_⟩
  rw [Int.sub_mul]
  have := h.top
  omega
theorem DigRow.stop {us vs : List Int} {N : Nat} (h : DigRow us vs N) {q : Int} (hq : DigH us vs N q)
    (hs : q = 0 ∨ 1000000000 ≤ us.getD N 0 * 1000000000 + us.getD (N - 1) 0 - q * vs.getD (N - 1) 0 ∨ q * vs.getD (N - 2) 0 ≤ (us.getD N 0 * 1000000000 + us.getD (N - 1) 0 - q * vs.getD (N - 1) 0) * 1000000000 + us.getD (N - 2) 0) :
    q = val us / val vs ∨ q = val us / val vs + 1 := by
  obtain ⟨P, hP, h1, h2, h3, h4, hv, hu⟩ := h.parts
  obtain ⟨g1, g2, g3, g4⟩ := h.q_lt
  obtain ⟨a1, a2, a3, a4⟩ := hq
  have v2 := okL_get h.ov (N - 2)
  have u2 := okL_get h.ou (N - 2)
  have k := kn_stop hP h1 h2 v2 h3 h4.1 u2.1 g4 g1 h.top ⟨a1, a2⟩ hs
  omega
/-- numbers of a digit that the walk needs -/
theorem DigRow.nums {us vs : List Int} {N : Nat} (h : DigRow us vs N) {q : Int} (hq : DigH us vs N q) :
    0 ≤ us.getD N 0 * 1000000000 + us.getD (N - 1) 0 - q * vs.getD (N - 1) 0 ∧ 0 ≤ q * vs.getD (N - 1) 0 ∧ q * vs.getD (N - 1) 0 ≤ 999999999999999999 ∧ 0 ≤ q * vs.getD (N - 2) 0 ∧ q * vs.getD (N - 2) 0 ≤ 999999998000000001 := by
  obtain ⟨a1, a2, a3, a4⟩ := hq
  have u0 := okL_get h.ou N
  have u1 := okL_get h.ou (N - 1)
  have v1 := okL_get h.ov (N - 1)
  have v2 := mul_bound (x := q) (y := vs.getD (N - 2) 0) ⟨a1, by omega⟩ (okL_get h.ov (N - 2))
  have v3 := Int.mul_nonneg a1 v1.1
  exact ⟨by omega, v3, by omega, v2.1, v2.2⟩
/-- the rest of a digit: the row behind the first subtraction, and the one behind the addition -/
theorem dig_rest {us vs W : List Int} {N : Nat} (h : DigRow us vs N) (hl : W.length = N + 1) (ok : okL (W.take N)) (hv : val W = val us - val us / val vs * val vs) :
    W.getD N 0 = 0 ∧ okL W ∧ val W = val us % val vs ∧ val W < val vs := by
  obtain ⟨P, hP, h1, h2, h3, h4, hv0, hu⟩ := h.parts
  have e : val W = val us % val vs := by rw [hv, Int.emod_def, Int.mul_comm (val vs)]
  have b1 := Int.emod_nonneg (val us) (Int.ne_of_gt hv0)
  have b2 := Int.emod_lt_of_pos (val us) hv0
  have b3 := val_lt h.ov
  rw [h.lv] at b3
  have := top_zero' hl ok (by omega) (by omega)
  exact ⟨this.1, this.2, e, by omega⟩
theorem dig_over {us vs W : List Int} {N : Nat} (h : DigRow us vs N) (hl : W.length = N + 1) (ok : okL (W.take N)) (hv : val W = val us - (val us / val vs + 1) * val vs) : W.getD N 0 < 0 := by
  have g := h.q_lt
  exact top_neg' hl ok (by omega)
theorem dig_over2 {us vs W : List Int} {N : Nat} (h : DigRow us vs N) (hl : W.length = N + 1) (ok : okL (W.take N)) (hv : val W = val us - (val us / val vs + 1) * val vs) : -1000000000 ≤ W.getD N 0 ∧ W.getD N 0 ≤ 1000000000 := by
  have g := h.q_lt
  have h1 := dig_over h hl ok hv
  obtain ⟨g1, g2, g3⟩ := top_of hl ok
  have b3 := val_lt h.ov
  rw [h.lv] at b3
  have hp := pow_pos' N
  have h2 : -val vs ≤ val W := by rw [hv, Int.add_mul]; omega
  refine ⟨?_, by omega⟩
  generalize (1000000000 : Int) ^ N = p at *
  generalize val (W.take N) = a at *
  generalize W.getD N 0 = x at *
  by_cases hx : x ≤ -2
  · have : p * x ≤ p * (-2) := Int.mul_le_mul_of_nonneg_left hx (by omega)
    omega
  · omega
/-- the rounds of the division: the digits from k on are done -/
def DvInv (V : Int) (N : Nat) (U0 : List Int) (k : Nat) (us qs : List Int) : Prop :=
  us.length = U0.length ∧ qs.length + N = U0.length ∧ okL us ∧ okL qs ∧ us.take k = U0.take k ∧ val (U0.drop k) = val (qs.drop k) * V + val (us.drop k) ∧ val (us.drop k) < V
theorem val_cons (x : Int) (xs : List Int) : val (x :: xs) = x + 1000000000 * val xs := rfl
theorem getD_take_lt {xs : List Int} {i k : Nat} (h : i < k) : (xs.take k).getD i 0 = xs.getD i 0 := by
  rw [List.getD_eq_getElem?_getD, List.getElem?_take_of_lt h, ← List.getD_eq_getElem?_getD]
/-- the limbs that a digit works on -/
theorem DvInv.row {V : Int} {N j : Nat} {U0 us qs vs : List Int} (h : DvInv V N U0 (j + 1) us qs) (hj : j < qs.length) (hN : 2 ≤ N) (hv : vs.length = N) (ov : okL vs) (hV : val vs = V) (top : 0 < vs.getD (N - 1) 0) :
    DigRow ((us.drop j).take (N + 1)) vs N ∧ val ((us.drop j).take (N + 1)) = us.getD j 0 + 1000000000 * val (us.drop (j + 1)) ∧ val (us.drop (j + N + 1)) = 0 := by
  obtain ⟨g1, g2, g3, g4, g5, g6, g7⟩ := h
  have hb := val_lt ov
  rw [hv, hV] at hb
  have e1 := val_split (us.drop (j + 1)) N (by rw [List.length_drop]; omega)
  rw [List.drop_drop, show j + 1 + N = j + N + 1 by omega] at e1
  have n1 := val_nonneg (okL_take (okL_drop g3 (j + 1)) N)
  have n2 := val_nonneg (okL_drop g3 (j + N + 1))
  have hp := pow_pos' N
  have z : val (us.drop (j + N + 1)) = 0 := by
    generalize (1000000000 : Int) ^ N = p at *
    by_cases hz : 1 ≤ val (us.drop (j + N + 1))
    · have : p * 1 ≤ p * val (us.drop (j + N + 1)) := Int.mul_le_mul_of_nonneg_left hz (by omega)
      omega
    · omega
  have e2 : (us.drop j).take (N + 1) = us.getD j 0 :: (us.drop (j + 1)).take N := by rw [drop_cons_getD us j (by omega)]; rfl
  have e3 : val ((us.drop j).take (N + 1)) = us.getD j 0 + 1000000000 * val (us.drop (j + 1)) := by
    rw [e2, val_cons]; rw [z, Int.mul_zero, Int.add_zero] at e1; rw [e1]
  refine ⟨⟨hN, by rw [List.length_take, List.length_drop]; omega, hv, okL_take (okL_drop g3 j) _, ov, top, ?_⟩, e3, z⟩
  have := okL_get g3 j
  rw [e3, hV]; omega
theorem DvInv.next {V : Int} {N j : Nat} {U0 us qs W : List Int} {Q : Int} (h : DvInv V N U0 (j + 1) us qs) (hj : j < qs.length) (hX : val ((us.drop j).take (N + 1)) = us.getD j 0 + 1000000000 * val (us.drop (j + 1)))
    (hz : val (us.drop (j + N + 1)) = 0) (hl : W.length = N + 1) (ok : okL W) (hW : val ((us.drop j).take (N + 1)) = Q * V + val W) (hlt : val W < V) (hQ : 0 ≤ Q ∧ Q ≤ 999999999) :
    DvInv V N U0 j (us.take j ++ W ++ us.drop (j + N + 1)) (qs.set j Q) := by
  obtain ⟨g1, g2, g3, g4, g5, g6, g7⟩ := h
  have hlj : (us.take j).length = j := by rw [List.length_take]; omega
  refine ⟨by simp only [List.length_append, List.length_drop, hlj, hl]; omega, by rw [List.length_set]; exact g2, okL_append.2 ⟨okL_append.2 ⟨okL_take g3 j, ok⟩, okL_drop g3 _⟩, okL_set g4 j (by omega), ?_, ?_, ?_⟩
  · rw [List.append_assoc, List.take_append_of_le_length (by omega), List.take_of_length_le (by omega)]
    have := congrArg (List.take j) g5
    rw [List.take_take, List.take_take, Nat.min_eq_left (by omega)] at this
    exact this
  · have e0 : U0.getD j 0 = us.getD j 0 := by
      have := congrArg (fun l => l.getD j 0) g5
      simp only [getD_take_lt (show j < j + 1 by omega)] at this
      exact this.symm
    have e1 : (qs.set j Q).drop j = Q :: qs.drop (j + 1) := by
      rw [drop_cons_getD _ j (by rw [List.length_set]; omega), List.drop_set_of_lt (by omega)]
      congr 1
      rw [List.getD_eq_getElem?_getD, List.getElem?_set_self (by omega)]; rfl
    have e2 : (us.take j ++ W ++ us.drop (j + N + 1)).drop j = W ++ us.drop (j + N + 1) := by
      rw [List.append_assoc, List.drop_append_of_le_length (by omega), List.drop_of_length_le (by omega), List.nil_append]
    rw [e1, e2, val_append, hz, Int.mul_zero, Int.add_zero, val_cons, drop_cons_getD U0 j (by omega), val_cons, e0, g6, Int.add_mul, Int.mul_assoc]
    rw [hX] at hW
    omega
  · have e2 : (us.take j ++ W ++ us.drop (j + N + 1)).drop j = W ++ us.drop (j + N + 1) := by
      rw [List.append_assoc, List.drop_append_of_le_length (by omega), List.drop_of_length_le (by omega), List.nil_append]
    rw [e2, val_append, hz, Int.mul_zero, Int.add_zero]; exact hlt
end Go.Proofs.YtogkonenejfgmaaGreatDoor
