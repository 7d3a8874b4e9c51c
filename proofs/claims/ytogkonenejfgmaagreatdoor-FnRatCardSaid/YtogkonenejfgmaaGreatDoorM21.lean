/- The walks of natGcd, NatDiv, NatGcd and NatCut (program). For every two slices within the reach. Plain facts on fractions. No program's step. Fractions said of numbers: the lowest terms of Z/n exist and are one; the laws of fractions by cross-multiplication. No program. The walks of the laws' helpers for fractions (toRat, eqRat, markRat, heldRat, szRat) and of RatZero. -/
import Derived.Test.YtogkonenejfgmaaGreatDoorM20
import Derived.Test.YtogkonenejfgmaaGreatDoorM07
import Derived.Test.YtogkonenejfgmaaGreatDoorM04
import Derived.Test.YtogkonenejfgmaaGreatDoorM16
namespace Go.Proofs.YtogkonenejfgmaaGreatDoor
open Go.RowKit
def divB (xs ys : List Int) : Bool := natB xs && natB ys && decide (0 < ys.length)
def fDivQ (xs ys : List Int) : List Int := if divB xs ys then limbs (nv xs / nv ys) else []
def fDivR (xs ys : List Int) : List Int := if divB xs ys then limbs (nv xs % nv ys) else []
def fGcd (xs ys : List Int) : List Int := if natB xs && natB ys then limbs (Nat.gcd (nv xs) (nv ys)) else []
def cutB (z : Int) : Bool := decide (0 ≤ z ∧ z ≤ 440)
def fCutQ (xs : List Int) (z : Int) : List Int := if cutB z then fDivQ xs (limbs (10 ^ z.toNat)) else []
def fCutR (xs : List Int) (z : Int) : List Int := if cutB z then fDivR xs (limbs (10 ^ z.toNat)) else []
theorem limbs_pos_iff {n : Nat} : 0 < (limbs n).length ↔ 0 < n := by
  constructor
  · intro h
    rcases Nat.eq_zero_or_pos n with e | e
    · subst e; rw [limbs_zero] at h; simp at h
    · exact e
  · intro h
    rw [limbs_pos (by omega)]; simp
theorem divB_yes {xs ys : List Int} (h : divB xs ys = true) : ∃ m n, xs = limbs m ∧ ys = limbs n ∧ (limbs m).length ≤ 50 ∧ (limbs n).length ≤ 50 ∧ 0 < n ∧ fDivQ xs ys = limbs (m / n) ∧ fDivR xs ys = limbs (m % n) := by
  have h0 := h
  unfold divB at h
  simp only [Bool.and_eq_true, decide_eq_true_eq] at h
  obtain ⟨⟨h1, h2⟩, h3⟩ := h
  obtain ⟨m, rfl, hm⟩ := natB_elim h1
  obtain ⟨n, rfl, hn⟩ := natB_elim h2
  refine ⟨m, n, rfl, rfl, hm, hn, limbs_pos_iff.1 h3, ?_, ?_⟩
  · unfold fDivQ; rw [if_pos h0, nv_limbs, nv_limbs]
  · unfold fDivR; rw [if_pos h0, nv_limbs, nv_limbs]
theorem divB_no {xs ys : List Int} (h : divB xs ys = false) : fDivQ xs ys = [] ∧ fDivR xs ys = [] := by
  unfold fDivQ fDivR; rw [h]; exact ⟨rfl, rfl⟩
theorem fDivQ_len (xs ys : List Int) : (fDivQ xs ys).length ≤ 50 := by
  cases h : divB xs ys
  · rw [(divB_no h).1]; simp
  · obtain ⟨m, n, rfl, rfl, hm, hn, h0, e1, e2⟩ := divB_yes h
    rw [e1]; exact Nat.le_trans (limbs_len_mono (Nat.div_le_self m n)) hm
theorem fDivR_len (xs ys : List Int) : (fDivR xs ys).length ≤ 50 := by
  cases h : divB xs ys
  · rw [(divB_no h).2]; simp
  · obtain ⟨m, n, rfl, rfl, hm, hn, h0, e1, e2⟩ := divB_yes h
    rw [e2]; exact Nat.le_trans (limbs_len_mono (Nat.mod_le m n)) hm
theorem gcd_len {m n k : Nat} (hm : (limbs m).length ≤ k) (hn : (limbs n).length ≤ k) : (limbs (Nat.gcd m n)).length ≤ k := by
  rcases Nat.eq_zero_or_pos m with e | e
  · subst e; rw [Nat.gcd_zero_left]; exact hn
  · exact Nat.le_trans (limbs_len_mono (Nat.gcd_le_left n e)) hm
theorem fGcd_yes {m n : Nat} (h1 : natB (limbs m) = true) (h2 : natB (limbs n) = true) : fGcd (limbs m) (limbs n) = limbs (Nat.gcd m n) := by
  unfold fGcd; rw [h1, h2, nv_limbs, nv_limbs]; rfl
theorem fGcd_no {xs ys : List Int} (h : (natB xs && natB ys) = false) : fGcd xs ys = [] := by unfold fGcd; rw [h]; rfl
theorem fGcd_len (xs ys : List Int) : (fGcd xs ys).length ≤ 50 := by
  cases h : (natB xs && natB ys)
  · rw [fGcd_no h]; simp
  · simp only [Bool.and_eq_true] at h
    obtain ⟨m, rfl, hm⟩ := natB_elim h.1
    obtain ⟨n, rfl, hn⟩ := natB_elim h.2
    rw [fGcd_yes h.1 h.2]; exact gcd_len hm hn
theorem natB_cut {k : Nat} (h : k ≤ 440) : natB (limbs (10 ^ k)) = true := natB_of (ten_len (by omega))
/-- the number that a slice holds -/
def sliceNat (w : World) (v : Value) : Nat :=
  match v with
  | .slice (some ⟨b, off, none⟩) l _ => nv ((List.range l).map fun i => match w.cell? ⟨b, off + i, none⟩ with | some (.int _ x) => x | _ => 0)
  | _ => 0
theorem sliceNat_of {w : World} {a : Option Addr} {y c : Nat} (h : Rd w a (limbs y)) : sliceNat w (.slice a (limbs y).length c) = y := by
  rcases h with h | ⟨b, off, rfl, hlt, hc⟩
  · have e : y = 0 := limbs_inj (h.trans limbs_zero.symm)
    subst e
    rw [limbs_zero]
    unfold sliceNat
    split
    · rename_i heq; cases heq; rfl
    · rfl
  · unfold sliceNat
    have e : ((List.range (limbs y).length).map fun i => match w.cell? ⟨b, off + i, none⟩ with | some (.int _ x) => x | _ => 0) = limbs y := by
      apply List.ext_getElem
      · simp
      · intro i h1 h2
        rw [List.getElem_map, List.getElem_range, hc i h2]
        simp [List.getD, h2]
    dsimp only
    rw [e, nv_limbs]
theorem DivRes.own2 {w w' : World} {qL rL : List Int} {e : Ending} (h : DivRes w qL rL e w') : (∃ a c a' c', e = .returned (.tuple #[.slice a qL.length c, .slice a' rL.length c']) ∧ Rd w' a' rL) ∧ Below w.heap.size w w' := by
  obtain ⟨⟨a, c, a', c', lo, up, lo', up', rfl, h1, h2, h3, h4, h5⟩, hb⟩ := h
  exact ⟨⟨a, c, a', c', rfl, h2.rd⟩, hb⟩
set_option maxHeartbeats 800000 in
theorem natGcd_any (a b : Option Addr) (ca cb m n : Nat) (w : World) (hx : Rd w a (limbs m)) (hy : Rd w b (limbs n)) (lx : (limbs m).length ≤ 1099511627000) (ly : (limbs n).length ≤ 1099511627000) :
    Calls Tryz.prog 40 #[.slice a (limbs m).length ca, .slice b (limbs n).length cb] w fun e w' => (∃ a' c', e = .returned (.slice a' (limbs (Nat.gcd m n)).length c') ∧ Own w' w.heap.size a' c' (limbs (Nat.gcd m n))) ∧ Below w.heap.size w w' := by
  obtain ⟨G, hG⟩ : ∃ G, G = Nat.gcd m n := ⟨_, rfl⟩
  rw [← hG]
  have HG := Lib.hid hG
  clear hG
  go_enter Tryz.func40, Tryz.ntmps40
  go_wp2
  go_loopw [0, 1, 5, 6] (fun av bv _ _ wr => ∃ (x y : Nat) (a1 : Option Addr) (c1 : Nat) (b1 : Option Addr) (c2 : Nat), av = .slice a1 (limbs x).length c1 ∧ bv = .slice b1 (limbs y).length c2 ∧ Rd wr a1 (limbs x) ∧ Rd wr b1 (limbs y) ∧ Nat.gcd x y = G ∧ (limbs x).length ≤ 1099511627000 ∧ (limbs y).length ≤ 1099511627000 ∧ Below w.heap.size w wr)
    (fun _ bv _ _ wr => sliceNat wr bv)
  case atStart => exact ⟨m, n, _, _, _, _, rfl, rfl, hx, hy, HG.out.symm, lx, ly, Below.refl _ _⟩
  case round =>
    obtain ⟨x, y, a1, c1, b1, c2, rfl, rfl, hx1, hy1, hg, lx1, ly1, hb⟩ := hrel
    by_cases h0 : 0 < y
    · have hl0 := limbs_pos_iff.2 h0
      have hm := sliceNat_of (c := c2) hy1
      have HM := Lib.hid hm
      have hr : x % y < y := Nat.mod_lt _ h0
      have hlr := limbs_len_mono (Nat.le_of_lt hr)
      have HGG := Lib.hid (show Nat.gcd y (x % y) = G by rw [← hg, Nat.gcd_comm x y, Nat.gcd_rec y x, Nat.gcd_comm])
      clear hm hg
      go_wp2_with fail
      refine (natDiv_any _ _ _ _ _ _ _ hx1 hy1 lx1 ly1 h0).mono ?_
      rintro e w1 hd
      obtain ⟨⟨a3, c3, a4, c4, rfl, hr4⟩, hb1⟩ := hd.own2
      clear hd
      have hb2 := hb.trans (hb1.mono hb.size)
      have hy2 := hy1.below hb1 (Nat.le_refl _)
      clear hx1 hy1 hb hb1
      go_wp2
      go_roundw
      case rel => exact ⟨y, x % y, _, _, _, _, rfl, rfl, hy2, hr4, HGG.out, ly1, by omega, hb2⟩
      case measure => rw [HM.out, sliceNat_of hr4]; exact hr
    · have e : y = 0 := by omega
      subst e
      have hl0 : (limbs 0).length = 0 := by rw [limbs_zero]; rfl
      have hgx : x = G := by rw [← hg, Nat.gcd_zero_right]
      subst hgx
      clear hg
      go_wp2_with fail
      refine (natCopy_any _ _ _ _ hx1 (by omega)).mono ?_
      rintro e w1 ⟨⟨a3, c3, rfl, ho⟩, hb1⟩
      go_wp2
      go_ret
      exact ⟨⟨a3, c3, rfl, ho.mono hb.size⟩, hb.trans (hb1.mono hb.size)⟩
/-- the result of a division that is handed on -/
def DivPost (w : World) (qL rL : List Int) (e : Ending) (w' : World) : Prop :=
  (∃ a c a' c' lo up lo' up', e = .returned (.tuple #[.slice a qL.length c, .slice a' rL.length c']) ∧ Slot w' lo up a c qL ∧ qL.length ≤ 50 ∧ Slot w' lo' up' a' c' rL ∧ rL.length ≤ 50 ∧ w.heap.size ≤ lo ∧ w.heap.size ≤ lo' ∧ (up ≤ lo' ∨ up' ≤ lo)) ∧ Below w.heap.size w w'
theorem divPost_nil (w : World) : DivPost w [] [] (.returned (.tuple #[.slice none 0 0, .slice none 0 0])) w :=
  ⟨⟨none, 0, none, 0, w.heap.size, w.heap.size, w.heap.size, w.heap.size, rfl, ⟨Nat.le_refl _, .inl rfl⟩, Nat.zero_le _, ⟨Nat.le_refl _, .inl rfl⟩, Nat.zero_le _, Nat.le_refl _, Nat.le_refl _, .inl (Nat.le_refl _)⟩, Below.refl _ _⟩
end Go.Proofs.YtogkonenejfgmaaGreatDoor
namespace Go.Proofs.YtogkonenejfgmaaGreatDoor
def ratB (neg : Bool) (xs ys : List Int) : Bool :=
  intB neg xs && natB ys && decide (0 < ys.length) && decide (ys.length ≤ 18) && decide (xs.length ≤ 18) && (Nat.gcd (nv xs) (nv ys) == 1)
theorem ratB_elim {neg : Bool} {xs ys : List Int} (h : ratB neg xs ys = true) : ∃ m n, xs = limbs m ∧ ys = limbs n ∧ (limbs m).length ≤ 18 ∧ (limbs n).length ≤ 18 ∧ 0 < n ∧ Nat.gcd m n = 1 ∧ (neg = true → m ≠ 0) ∧ intB neg (limbs m) = true ∧ natB (limbs n) = true ∧ neg = (neg && decide (0 < (limbs m).length)) ∧ sv neg xs = zOf neg m := by
  unfold ratB at h
  simp only [Bool.and_eq_true, decide_eq_true_eq, beq_iff_eq] at h
  obtain ⟨⟨⟨⟨⟨h1, h2⟩, h3⟩, h4⟩, h5⟩, h6⟩ := h
  obtain ⟨m, rfl, hm, hg, hs, he⟩ := intB_elim h1
  obtain ⟨n, rfl, hn⟩ := natB_elim h2
  rw [nv_limbs, nv_limbs] at h6
  exact ⟨m, n, rfl, rfl, h5, h4, limbs_pos_iff.1 h3, h6, hg, h1, h2, he, hs⟩
theorem ratB_of {neg : Bool} {m n : Nat} (h1 : (limbs m).length ≤ 18) (h2 : (limbs n).length ≤ 18) (h3 : 0 < n) (h4 : Nat.gcd m n = 1) (h5 : neg = true → m ≠ 0) : ratB neg (limbs m) (limbs n) = true := by
  unfold ratB intB
  rw [natB_of (by omega), natB_of (by omega), nv_limbs, nv_limbs, h4, limbs_len0, limbs_len0]
  cases neg
  · simp [h1, h2]; omega
  · simp [h1, h2, h5 rfl]; omega
def low (neg : Bool) (m n : Nat) : (Bool × List Int × List Int) × Bool :=
  if 18 < (limbs (m / Nat.gcd m n)).length ∨ 18 < (limbs (n / Nat.gcd m n)).length then ((false, [], []), false)
  else ((neg && decide (0 < (limbs (m / Nat.gcd m n)).length), limbs (m / Nat.gcd m n), limbs (n / Nat.gcd m n)), true)
def ratZ : (Bool × List Int × List Int) × Bool := ((false, [], []), false)
theorem low_no {neg : Bool} {m n : Nat} (h : 18 < (limbs (m / Nat.gcd m n)).length ∨ 18 < (limbs (n / Nat.gcd m n)).length) : low neg m n = ratZ := by unfold low; rw [if_pos h]; rfl
theorem low_yes {neg : Bool} {m n : Nat} (h1 : (limbs (m / Nat.gcd m n)).length ≤ 18) (h2 : (limbs (n / Nat.gcd m n)).length ≤ 18) :
    low neg m n = ((neg && decide (0 < (limbs (m / Nat.gcd m n)).length), limbs (m / Nat.gcd m n), limbs (n / Nat.gcd m n)), true) := by unfold low; rw [if_neg (by omega)]
theorem low_and (neg : Bool) (m n : Nat) : low (neg && decide (0 < (limbs m).length)) m n = low neg m n := by
  unfold low
  split
  · rfl
  · congr 2
    by_cases h : m = 0
    · subst h; simp [limbs_zero]
    · rw [limbs_len0]; simp [h]
def fRatOk (neg : Bool) (xs ys : List Int) : Bool := ratB neg xs ys
def fRatHalf (neg : Bool) (xs ys : List Int) : Bool := ratB neg xs ys && decide (nv ys = 2)
def fRatMake (b1 : Bool) (xs : List Int) (b2 : Bool) (ys : List Int) : (Bool × List Int × List Int) × Bool := if intB b1 xs && intB b2 ys && decide (0 < ys.length) then low (b1 != b2) (nv xs) (nv ys) else ratZ
def fRatInt (b1 : Bool) (xs : List Int) : (Bool × List Int × List Int) × Bool := fRatMake b1 xs false (limbs 1)
def fRatNeg (b1 : Bool) (xs ys : List Int) : (Bool × List Int × List Int) × Bool := if ratB b1 xs ys then (((!b1) && decide (0 < xs.length), xs, ys), true) else ratZ
def fRatMul (b1 : Bool) (xs ys : List Int) (b2 : Bool) (us vs : List Int) : (Bool × List Int × List Int) × Bool := if ratB b1 xs ys && ratB b2 us vs then low (b1 != b2) (nv xs * nv us) (nv ys * nv vs) else ratZ
def fRatDiv (b1 : Bool) (xs ys : List Int) (b2 : Bool) (us vs : List Int) : (Bool × List Int × List Int) × Bool := if ratB b1 xs ys && ratB b2 us vs && decide (0 < us.length) then low (b1 != b2) (nv xs * nv vs) (nv ys * nv us) else ratZ
def addZ (b1 : Bool) (xs ys : List Int) (b2 : Bool) (us vs : List Int) : Int := zOf b1 (nv xs * nv vs) + zOf b2 (nv us * nv ys)
def fRatAdd (b1 : Bool) (xs ys : List Int) (b2 : Bool) (us vs : List Int) : (Bool × List Int × List Int) × Bool := if ratB b1 xs ys && ratB b2 us vs then low (decide (addZ b1 xs ys b2 us vs < 0)) (addZ b1 xs ys b2 us vs).natAbs (nv ys * nv vs) else ratZ
def fRatSub (b1 : Bool) (xs ys : List Int) (b2 : Bool) (us vs : List Int) : (Bool × List Int × List Int) × Bool := if ratB b1 xs ys && ratB b2 us vs then fRatAdd b1 xs ys ((!b2) && decide (0 < us.length)) us vs else ratZ
def fRatCmp (b1 : Bool) (xs ys : List Int) (b2 : Bool) (us vs : List Int) : Int := if ratB b1 xs ys && ratB b2 us vs then sgnZ (zOf b1 (nv xs * nv vs) - zOf b2 (nv us * nv ys)) else 0
def fRatSign (b1 : Bool) (xs ys : List Int) : Int := if ratB b1 xs ys then sgnZ (sv b1 xs) else 0
end Go.Proofs.YtogkonenejfgmaaGreatDoor
namespace Go.Proofs.YtogkonenejfgmaaGreatDoor
/-- z/d stands in its lowest terms -/
def QQ (z : Int) (d : Nat) : Prop := 0 < d ∧ Nat.gcd z.natAbs d = 1
theorem zOf_scale (neg : Bool) (g a : Nat) : zOf neg (g * a) = zOf neg a * (g : Int) := by
  unfold zOf
  cases neg
  · show ((g * a : Nat) : Int) = (a : Int) * g
    rw [Int.natCast_mul, Int.mul_comm]
  · show -((g * a : Nat) : Int) = -(a : Int) * g
    rw [Int.natCast_mul, Int.mul_comm, Int.neg_mul]
theorem zOf_self (z : Int) : zOf (decide (z < 0)) z.natAbs = z := by
  unfold zOf; by_cases h : z < 0 <;> simp [h] <;> omega
theorem low_ex {neg : Bool} {m n : Nat} (hn : 0 < n) (h1 : (limbs m).length ≤ 18) (h2 : (limbs n).length ≤ 18) :
    ∃ (z : Int) (d : Nat), low neg m n = (((sg z).1, (sg z).2, limbs d), true) ∧ z * n = zOf neg m * d ∧ QQ z d ∧ z.natAbs ≤ m ∧ d ≤ n := by
  have hg : 0 < Nat.gcd m n := Nat.gcd_pos_of_pos_right _ hn
  have hl := low_yes (neg := neg) (m := m) (n := n) (Nat.le_trans (limbs_len_mono (Nat.div_le_self _ _)) h1) (Nat.le_trans (limbs_len_mono (Nat.div_le_self _ _)) h2)
  obtain ⟨a, ha⟩ := Nat.gcd_dvd_left m n
  obtain ⟨b, hb⟩ := Nat.gcd_dvd_right m n
  have hco := Nat.coprime_div_gcd_div_gcd hg
  rw [hl]
  generalize Nat.gcd m n = g at hg ha hb hco
  have hma : m / g = a := by rw [ha]; exact Nat.mul_div_cancel_left _ hg
  have hnb : n / g = b := by rw [hb]; exact Nat.mul_div_cancel_left _ hg
  rw [hma, hnb] at hco ⊢
  have hb0 : 0 < b := by
    rcases Nat.eq_zero_or_pos b with h | h
    · rw [h, Nat.mul_zero] at hb; omega
    · exact h
  refine ⟨zOf neg a, b, ?_, ?_, ⟨hb0, ?_⟩, ?_, ?_⟩
  · rw [sg_zOf]
  · rw [ha, hb, zOf_scale, Int.natCast_mul, Int.mul_assoc]
  · rw [zOf_abs]; exact hco
  · rw [zOf_abs, ha]; exact Nat.le_mul_of_pos_left a hg
  · rw [hb]; exact Nat.le_mul_of_pos_left b hg
/-- lowest terms are one -/
theorem qq_one {z1 z2 : Int} {d1 d2 : Nat} (h1 : QQ z1 d1) (h2 : QQ z2 d2) (h : z1 * d2 = z2 * d1) : z1 = z2 ∧ d1 = d2 := by
  have ha : z1.natAbs * d2 = z2.natAbs * d1 := by
    have := congrArg Int.natAbs h
    rwa [Int.natAbs_mul, Int.natAbs_mul, Int.natAbs_natCast, Int.natAbs_natCast] at this
  have e1 : d1 ∣ d2 := Nat.Coprime.dvd_of_dvd_mul_left (Nat.Coprime.symm h1.2) ⟨z2.natAbs, by rw [ha, Nat.mul_comm]⟩
  have e2 : d2 ∣ d1 := Nat.Coprime.dvd_of_dvd_mul_left (Nat.Coprime.symm h2.2) ⟨z1.natAbs, by rw [← ha, Nat.mul_comm]⟩
  have e : d1 = d2 := Nat.dvd_antisymm e1 e2
  subst e
  refine ⟨Int.eq_of_mul_eq_mul_right ?_ h, rfl⟩
  have := h1.1; omega
/-- (r + s) t = r t + s t -/
theorem law_dist {p q u v x y a1 a2 m1 m2 n1 n2 : Int} (h1 : a1 * (q * v) = (p * v + u * q) * a2) (h2 : m1 * (q * y) = (p * x) * m2) (h3 : n1 * (v * y) = (u * x) * n2) (hq : q ≠ 0) (hv : v ≠ 0) (hy : y ≠ 0) :
    (a1 * x) * (m2 * n2) = (m1 * n2 + n1 * m2) * (a2 * y) := by
  have hne : q * v * y ≠ 0 := Int.mul_ne_zero (Int.mul_ne_zero hq hv) hy
  apply Int.eq_of_mul_eq_mul_left hne
  grind
/-- (r + s) - s = r -/
theorem law_back {p q u v a1 a2 : Int} (h1 : a1 * (q * v) = (p * v + u * q) * a2) : (a1 * v + -(u * a2)) * q = p * (a2 * v) := by grind
/-- (r t) / t = r -/
theorem law_div {m1 m2 p q x y s X : Int} (h : m1 * (q * y) = (p * x) * m2) (hs : s * x = X) : (s * (m1 * y)) * q = p * (m2 * X) := by grind
theorem cross {A B b1 b2 C D c1 c2 : Int} (hb : b1 * B = A * b2) (hc : c1 * D = C * c2) (h : A * D = C * B) (hB : B ≠ 0) (hD : D ≠ 0) : b1 * c2 = c1 * b2 := by
  have hne : B * D ≠ 0 := Int.mul_ne_zero hB hD
  apply Int.eq_of_mul_eq_mul_left hne
  grind
end Go.Proofs.YtogkonenejfgmaaGreatDoor
namespace Go.Proofs.YtogkonenejfgmaaGreatDoor
open Go.RowKit
def fRatZero : Bool × List Int × List Int := (false, [], [1])
/-- the program's fraction: two slices of the call's own in blocks of their own -/
def RatPost (w : World) (F : Bool × List Int × List Int) (e : Ending) (w' : World) : Prop :=
  (∃ a c b d lo up lo' up', e = .returned (.agg #[.bool F.1, .slice a F.2.1.length c, .slice b F.2.2.length d]) ∧ Slot w' lo up a c F.2.1 ∧ F.2.1.length ≤ 50 ∧ Slot w' lo' up' b d F.2.2 ∧ F.2.2.length ≤ 50 ∧ w.heap.size ≤ lo ∧ w.heap.size ≤ lo' ∧ (up ≤ lo' ∨ up' ≤ lo)) ∧ Below w.heap.size w w'
def SRatPost (w : World) (F : Bool × List Int × List Int) (e : Ending) (w' : World) : Prop :=
  (∃ a c b d, e = .returned (.agg #[.bool F.1, .slice a F.2.1.length c, .slice b F.2.2.length d]) ∧ Own w' w.heap.size a c F.2.1 ∧ F.2.1.length ≤ 50 ∧ Own w' w.heap.size b d F.2.2 ∧ F.2.2.length ≤ 50) ∧ Below w.heap.size w w'
theorem ownLit1 (w : World) (B : Nat) (x : Int) (hB : B ≤ w.heap.size) : Own (w.alloc (.cells #[.int .i64 x] 3)) B (some ⟨w.heap.size, 0, none⟩) 1 [x] :=
  World.ownsRow_lit w #[.int .i64 x] 1 hB (by unfold maxLen; omega) rfl
theorem rzBelow (w : World) (o o2 : Obj) : Below w.heap.size w ((w.alloc o).alloc o2) := (bel_alloc w o).trans ((bel_alloc _ o2).mono (by simp))
theorem spec_RatZero (w : World) : Calls Tryz.prog 39 #[] w fun e w' => SRatPost w fRatZero e w' := by
  go_enter Tryz.func39, Tryz.ntmps39
  go_wp2
  refine bodyPost_ret (v := .agg #[.bool false, .slice none 0 0, .slice (some ⟨w.heap.size + 1, 0, none⟩) 1 1]) (by simp [results, Tryz.results39, go_sem]) rfl ⟨⟨none, 0, _, _, rfl, Own.nil _ _, Nat.zero_le _, ?_, by simp [fRatZero]⟩, rzBelow _ _ _⟩
  have := ownLit1 (w.alloc (.cells #[.bool false, .slice none 0 0, .slice (some ⟨w.heap.size + 1, 0, none⟩) 1 1] 27)) w.heap.size 1 (by simp)
  rw [World.size_alloc] at this
  exact this
end Go.Proofs.YtogkonenejfgmaaGreatDoor
