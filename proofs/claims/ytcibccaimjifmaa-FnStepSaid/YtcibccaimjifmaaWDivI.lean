/- The walks of natGcd, NatDiv, NatGcd and NatCut (program). For every two slices within the reach. -/
import Derived.Test.YtcibccaimjifmaaWNatDiv
import Derived.Test.YtcibccaimjifmaaWTen
namespace Go.Proofs.Ytcibccaimjifmaa
open Go.RowKit
def divB (xs ys : List Int) : Bool := natB xs && natB ys && decide (0 < ys.length)
def fDivQ (xs ys : List Int) : List Int := if divB xs ys then limbs (nv xs / nv ys) else []
def fDivR (xs ys : List Int) : List Int := if divB xs ys then limbs (nv xs % nv ys) else []
def fGcd (xs ys : List Int) : List Int := if natB xs && natB ys then limbs (Nat.gcd (nv xs) (nv ys)) else []
def cutB (z : Int) : Bool := decide (0 ≤ z ∧ z ≤ 440)
def fCutQ (xs : List Int) (z : Int) : List Int := if cutB z then fDivQ xs (limbs (10 ^ z.toNat)) else []
def fCutR (xs : List Int) (z : Int) : List Int := if cutB z then fDivR xs (limbs (10 ^ z.toNat)) else []
theorem limbs_pos_iff {n : Nat} : 0 < (limbs n).length ↔ 0 < n := by
  constructor
  · intro h
    rcases Nat.eq_zero_or_pos n with e | e
    · subst e; rw [limbs_zero] at h; simp at h
    · exact e
  · intro h
    rw [limbs_pos (by omega)]; simp
theorem divB_yes {xs ys : List Int} (h : divB xs ys = true) : ∃ m n, xs = limbs m ∧ ys = limbs n ∧ (limbs m).length ≤ 50 ∧ (limbs n).length ≤ 50 ∧ 0 < n ∧ fDivQ xs ys = limbs (m / n) ∧ fDivR xs ys = limbs (m % n) := by
  have h0 := h
  unfold divB at h
  simp only [Bool.and_eq_true, decide_eq_true_eq] at h
  obtain ⟨⟨h1, h2⟩, h3⟩ := h
  obtain ⟨m, rfl, hm⟩ := natB_elim h1
  obtain ⟨n, rfl, hn⟩ := natB_elim h2
  refine ⟨m, n, rfl, rfl, hm, hn, limbs_pos_iff.1 h3, ?_, ?_⟩
  · unfold fDivQ; rw [if_pos h0, nv_limbs, nv_limbs]
  · unfold fDivR; rw [if_pos h0, nv_limbs, nv_limbs]
theorem divB_no {xs ys : List Int} (h : divB xs ys = false) : fDivQ xs ys = [] ∧ fDivR xs ys = [] := by
  unfold fDivQ fDivR; rw [h]; exact ⟨rfl, rfl⟩
theorem fDivQ_len (xs ys : List Int) : (fDivQ xs ys).length ≤ 50 := by
  cases h : divB xs ys
  · rw [(divB_no h).1]; simp
  · obtain ⟨m, n, rfl, rfl, hm, hn, h0, e1, e2⟩ := divB_yes h
    rw [e1]; exact Nat.le_trans (limbs_len_mono (Nat.div_le_self m n)) hm
theorem fDivR_len (xs ys : List Int) : (fDivR xs ys).length ≤ 50 := by
  cases h : divB xs ys
  · rw [(divB_no h).2]; simp
  · obtain ⟨m, n, rfl, rfl, hm, hn, h0, e1, e2⟩ := divB_yes h
    rw [e2]; exact Nat.le_trans (limbs_len_mono (Nat.mod_le m n)) hm
theorem gcd_len {m n k : Nat} (hm : (limbs m).length ≤ k) (hn : (limbs n).length ≤ k) : (limbs (Nat.gcd m n)).length ≤ k := by
  rcases Nat.eq_zero_or_pos m with e | e
  · subst e; rw [Nat.gcd_zero_left]; exact hn
  · exact Nat.le_trans (limbs_len_mono (Nat.gcd_le_left n e)) hm
theorem fGcd_yes {m n : Nat} (h1 : natB (limbs m) = true) (h2 : natB (limbs n) = true) : fGcd (limbs m) (limbs n) = limbs (Nat.gcd m n) := by
  unfold fGcd; rw [h1, h2, nv_limbs, nv_limbs]; rfl
theorem fGcd_no {xs ys : List Int} (h : (natB xs && natB ys) = false) : fGcd xs ys = [] := by unfold fGcd; rw [h]; rfl
theorem fGcd_len (xs ys : List Int) : (fGcd xs ys).length ≤ 50 := by
  cases h : (natB xs && natB ys)
  · rw [fGcd_no h]; simp
  · simp only [Bool.and_eq_true] at h
    obtain ⟨m, rfl, hm⟩ := natB_elim h.1
    obtain ⟨n, rfl, hn⟩ := natB_elim h.2
    rw [fGcd_yes h.1 h.2]; exact gcd_len hm hn
theorem natB_cut {k : Nat} (h : k ≤ 440) : natB (limbs (10 ^ k)) = true := natB_of (ten_len (by omega))
/-- the number that a slice holds -/
def sliceNat (w : World) (v : Value) : Nat :=
  match v with
  | .slice (some ⟨b, off, none⟩) l _ => nv ((List.range l).map fun i => match w.cell? ⟨b, off + i, none⟩ with | some (.int _ x) => x | _ => 0)
  | _ => 0
theorem sliceNat_of {w : World} {a : Option Addr} {y c : Nat} (h : Rd w a (limbs y)) : sliceNat w (.slice a (limbs y).length c) = y := by
  rcases h with h | ⟨b, off, rfl, hlt, hc⟩
  · have e : y = 0 := limbs_inj (h.trans limbs_zero.symm)
    subst e
    rw [limbs_zero]
    unfold sliceNat
    split
    · rename_i heq; cases heq; rfl
    · rfl
  · unfold sliceNat
    have e : ((List.range (limbs y).length).map fun i => match w.cell? ⟨b, off + i, none⟩ with | some (.int _ x) => x | _ => 0) = limbs y := by
      apply List.ext_getElem
      · simp
      · intro i h1 h2
        rw [List.getElem_map, List.getElem_range, hc i h2]
        simp [List.getD, h2]
    dsimp only
    rw [e, nv_limbs]
theorem DivRes.own2 {w w' : World} {qL rL : List Int} {e : Ending} (h : DivRes w qL rL e w') : (∃ a c a' c', e = .returned (.tuple #[.slice a qL.length c, .slice a' rL.length c']) ∧ Rd w' a' rL) ∧ Below w.heap.size w w' := by
  obtain ⟨⟨a, c, a', c', lo, up, lo', up', rfl, h1, h2, h3, h4, h5⟩, hb⟩ := h
  exact ⟨⟨a, c, a', c', rfl, h2.rd⟩, hb⟩
/-- the result of a division that is handed on -/
def DivPost (w : World) (qL rL : List Int) (e : Ending) (w' : World) : Prop :=
  (∃ a c a' c' lo up lo' up', e = .returned (.tuple #[.slice a qL.length c, .slice a' rL.length c']) ∧ Slot w' lo up a c qL ∧ qL.length ≤ 50 ∧ Slot w' lo' up' a' c' rL ∧ rL.length ≤ 50 ∧ w.heap.size ≤ lo ∧ w.heap.size ≤ lo' ∧ (up ≤ lo' ∨ up' ≤ lo)) ∧ Below w.heap.size w w'
theorem divPost_nil (w : World) : DivPost w [] [] (.returned (.tuple #[.slice none 0 0, .slice none 0 0])) w :=
  ⟨⟨none, 0, none, 0, w.heap.size, w.heap.size, w.heap.size, w.heap.size, rfl, ⟨Nat.le_refl _, .inl rfl⟩, Nat.zero_le _, ⟨Nat.le_refl _, .inl rfl⟩, Nat.zero_le _, Nat.le_refl _, Nat.le_refl _, .inl (Nat.le_refl _)⟩, Below.refl _ _⟩
set_option maxHeartbeats 800000 in
theorem impl_NatDiv (a b : Option Addr) (ca cb : Nat) (xs ys : List Int) (w : World) (hx : In w a ca xs) (hy : In w b cb ys) :
    Calls Try.prog 18 #[.slice a xs.length ca, .slice b ys.length cb] w fun e w' => DivPost w (fDivQ xs ys) (fDivR xs ys) e w' := by
  cases h : (natB xs && natB ys)
  · have hd : divB xs ys = false := by unfold divB; rw [h]; rfl
    obtain ⟨e1, e2⟩ := divB_no hd
    rw [e1, e2]
    clear hd e1 e2
    go_enter Try.func18, Try.ntmps18
    go_wp2_with fail
    refine (natsOk_any _ _ _ _ _ _ _ hx.1 hy.1 hx.maxLen hy.maxLen).mono ?_
    rintro e w1 ⟨rfl, rfl⟩
    rw [h]
    go_wp2
    go_ret2
    exact divPost_nil _
  · by_cases h0 : 0 < ys.length
    · have hd : divB xs ys = true := by unfold divB; rw [h]; simp [h0]
      have l1 := fDivQ_len xs ys
      have l2 := fDivR_len xs ys
      obtain ⟨m, n, rfl, rfl, hm, hn, hn0, e1, e2⟩ := divB_yes hd
      rw [e1] at l1
      rw [e2] at l2
      rw [e1, e2]
      clear hd e1 e2
      go_enter Try.func18, Try.ntmps18
      go_wp2_with fail
      refine (natsOk_any _ _ _ _ _ _ _ hx.1 hy.1 hx.maxLen hy.maxLen).mono ?_
      rintro e w1 ⟨rfl, rfl⟩
      rw [h]
      go_wp2_with fail
      refine (natDiv_any _ _ _ _ _ _ _ hx.1 hy.1 (by omega) (by omega) hn0).mono ?_
      rintro e w2 ⟨⟨a1, c1, a2, c2, lo, up, lo', up', rfl, s1, s2, g1, g2, hd⟩, hb⟩
      go_wp2
      go_ret2
      exact ⟨⟨a1, c1, a2, c2, lo, up, lo', up', rfl, s1, l1, s2, l2, g1, g2, hd⟩, hb⟩
    · have hl : ys.length = 0 := by omega
      have hd : divB xs ys = false := by unfold divB; rw [h]; simp [hl]
      obtain ⟨e1, e2⟩ := divB_no hd
      rw [e1, e2]
      clear hd e1 e2
      obtain rfl := List.eq_nil_of_length_eq_zero hl
      go_enter Try.func18, Try.ntmps18
      go_wp2_with fail
      refine (natsOk_any a b ca cb xs [] _ hx.1 hy.1 hx.maxLen hy.maxLen).mono ?_
      rintro e w1 ⟨rfl, rfl⟩
      rw [h]
      go_wp2
      go_ret2
      exact divPost_nil _
end Go.Proofs.Ytcibccaimjifmaa
