/- The program's functions on fractions, said of numbers. For right fractions within the reach. -/
import Derived.Test.YtogkonenejfgmaaGreatDoorM36
import Derived.Test.YtogkonenejfgmaaGreatDoorM37
import Derived.Test.YtogkonenejfgmaaGreatDoorM38
import Derived.Test.YtogkonenejfgmaaGreatDoorM39
import Derived.Test.YtogkonenejfgmaaGreatDoorM40
import Derived.Test.YtogkonenejfgmaaGreatDoorM41
import Derived.Test.YtogkonenejfgmaaGreatDoorM42
namespace Go.Proofs.YtogkonenejfgmaaGreatDoor
open Go.RowKit
open Go.Lib (decDigits itoa)
set_option linter.unusedVariables false
/-- a right fraction z/d in memory -/
structure QV (w : World) (a : Option Addr) (c : Nat) (b : Option Addr) (e : Nat) (z : Int) (d : Nat) : Prop where
  num : In w a c (sg z).2
  den : In w b e (limbs d)
  lz : (sg z).2.length ≤ 18
  ld : (limbs d).length ≤ 18
  qq : QQ z d
theorem QV.below {w w' : World} {a : Option Addr} {c : Nat} {b : Option Addr} {e : Nat} {z : Int} {d : Nat} (h : QV w a c b e z d) {B : Nat} (hb : Below B w w') (hB : w.heap.size ≤ B) : QV w' a c b e z d := ⟨h.num.below hb hB, h.den.below hb hB, h.lz, h.ld, h.qq⟩
theorem QV.rat {w : World} {a : Option Addr} {c : Nat} {b : Option Addr} {e : Nat} {z : Int} {d : Nat} (h : QV w a c b e z d) : ratB (sg z).1 (sg z).2 (limbs d) = true :=
  ratB_of (m := z.natAbs) h.lz h.ld h.qq.1 h.qq.2 (by show decide (z < 0) = true → _; simp; omega)
theorem nv_sg (z : Int) : nv (sg z).2 = z.natAbs := nv_limbs _
theorem slot_q {w : World} {lo hi : Nat} {a : Option Addr} {c : Nat} {xs : List Int} (h : Slot w lo hi a c xs) (hl : xs.length ≤ 50) : In w a c xs := by
  refine ⟨h.rd, ?_, by omega⟩
  rcases h.2 with rfl | h
  · exact Nat.zero_le _
  · exact h.1.le
/-- what RatPost2 says of a right fraction -/
theorem post_q {w : World} {z : Int} {d : Nat} {e : Ending} {w' : World} (hz : (sg z).2.length ≤ 18) (hd : (limbs d).length ≤ 18) (hq : QQ z d) (h : RatPost2 w (((sg z).1, (sg z).2, limbs d), true) e w') :
    (∃ a c b f, e = .returned (.tuple #[.agg #[.bool (sg z).1, .slice a (sg z).2.length c, .slice b (limbs d).length f], .bool true]) ∧ QV w' a c b f z d) ∧ Below w.heap.size w w' := by
  obtain ⟨⟨a, c, b, f, lo, up, lo', up', he, h1, h2, h3, h4, -⟩, hb⟩ := h
  exact ⟨⟨a, c, b, f, he, slot_q h1 h2, slot_q h3 h4, hz, hd, hq⟩, hb⟩

theorem q_mul (a1 : Option Addr) (c1 : Nat) (b1 : Option Addr) (e1 : Nat) (z1 : Int) (d1 : Nat) (a2 : Option Addr) (c2 : Nat) (b2 : Option Addr) (e2 : Nat) (z2 : Int) (d2 : Nat) (w : World) (h1 : QV w a1 c1 b1 e1 z1 d1) (h2 : QV w a2 c2 b2 e2 z2 d2) (ln : (limbs (z1.natAbs * z2.natAbs)).length ≤ 18) (ld : (limbs (d1 * d2)).length ≤ 18) :
    Calls Tryz.prog 6 #[.agg #[.bool (sg z1).1, .slice a1 (sg z1).2.length c1, .slice b1 (limbs d1).length e1], .agg #[.bool (sg z2).1, .slice a2 (sg z2).2.length c2, .slice b2 (limbs d2).length e2]] w fun e w' => (∃ (z : Int) (d : Nat) (a : Option Addr) (c : Nat) (b : Option Addr) (f : Nat), (e = .returned (.tuple #[.agg #[.bool (sg z).1, .slice a (sg z).2.length c, .slice b (limbs d).length f], .bool true]) ∧ QV w' a c b f z d) ∧ z * ((d1 * d2 : Nat) : Int) = (z1 * z2) * d ∧ z.natAbs ≤ (z1.natAbs * z2.natAbs) ∧ d ≤ d1 * d2) ∧ Below w.heap.size w w' := by
  have h := impl_RatMul (sg z1).1 a1 c1 (sg z1).2 b1 e1 (limbs d1) (sg z2).1 a2 c2 (sg z2).2 b2 e2 (limbs d2) w h1.num h1.den h2.num h2.den
  have p1 := h1.rat
  have p2 := h2.rat
  have q1 := h1.qq.1
  have q2 := h2.qq.1
  have e : fRatMul (sg z1).1 (sg z1).2 (limbs d1) (sg z2).1 (sg z2).2 (limbs d2) = low ((sg z1).1 != (sg z2).1) (z1.natAbs * z2.natAbs) (d1 * d2) := by
    unfold fRatMul; rw [p1, p2, nv_sg, nv_sg, nv_limbs, nv_limbs]; rfl
  obtain ⟨z, d, hF, hE, hQ, hz, hd⟩ := low_ex (neg := (sg z1).1 != (sg z2).1) (m := z1.natAbs * z2.natAbs) (n := d1 * d2) (Nat.mul_pos q1 q2) ln ld
  rw [hF] at e
  rw [e] at h
  have lz : (sg z).2.length ≤ 18 := Nat.le_trans (limbs_len_mono hz) ln
  have ldd : (limbs d).length ≤ 18 := Nat.le_trans (limbs_len_mono hd) ld
  refine h.mono ?_
  intro e w' hp
  obtain ⟨⟨a, c, b, f, he, hv⟩, hb⟩ := post_q lz ldd hQ hp
  refine ⟨⟨z, d, a, c, b, f, ⟨he, hv⟩, ?_, hz, hd⟩, hb⟩
  rw [hE]
  congr 1
  rw [← zOf_mul, show (sg z1).1 = decide (z1 < 0) from rfl, show (sg z2).1 = decide (z2 < 0) from rfl, zOf_self, zOf_self]

theorem zOf_times (z : Int) (k : Nat) : zOf (decide (z < 0)) (z.natAbs * k) = z * k := by
  rw [Nat.mul_comm, zOf_scale, zOf_self]
theorem sg_minus (z : Int) : sg (-z) = ((!(sg z).1) && decide (0 < (sg z).2.length), (sg z).2) := by
  have h1 : (sg z).2 = limbs z.natAbs := rfl
  have h2 : (sg z).1 = decide (z < 0) := rfl
  rw [h1, h2, limbs_len0]
  unfold sg
  rw [Int.natAbs_neg]
  congr 1
  by_cases h : z < 0
  · simp [h]; omega
  · by_cases h0 : z = 0
    · subst h0; simp
    · simp [h, h0]; omega
theorem QV.neg {w : World} {a : Option Addr} {c : Nat} {b : Option Addr} {e : Nat} {z : Int} {d : Nat} (h : QV w a c b e z d) : QV w a c b e (-z) d := by
  have e1 : (sg (-z)).2 = (sg z).2 := by rw [sg_minus]
  exact ⟨by rw [e1]; exact h.num, h.den, by rw [e1]; exact h.lz, h.ld, h.qq.1, by rw [Int.natAbs_neg]; exact h.qq.2⟩
theorem add_low {z1 z2 : Int} {d1 d2 : Nat} (p1 : ratB (sg z1).1 (sg z1).2 (limbs d1) = true) (p2 : ratB (sg z2).1 (sg z2).2 (limbs d2) = true) :
    fRatAdd (sg z1).1 (sg z1).2 (limbs d1) (sg z2).1 (sg z2).2 (limbs d2) = low (decide (z1 * d2 + z2 * d1 < 0)) (z1 * d2 + z2 * d1).natAbs (d1 * d2) := by
  have ea : addZ (sg z1).1 (sg z1).2 (limbs d1) (sg z2).1 (sg z2).2 (limbs d2) = z1 * d2 + z2 * d1 := by
    unfold addZ
    rw [nv_sg, nv_sg, nv_limbs, nv_limbs, show (sg z1).1 = decide (z1 < 0) from rfl, show (sg z2).1 = decide (z2 < 0) from rfl, zOf_times, zOf_times]
  unfold fRatAdd; rw [p1, p2, ea, nv_limbs, nv_limbs]; rfl

theorem q_add (a1 : Option Addr) (c1 : Nat) (b1 : Option Addr) (e1 : Nat) (z1 : Int) (d1 : Nat) (a2 : Option Addr) (c2 : Nat) (b2 : Option Addr) (e2 : Nat) (z2 : Int) (d2 : Nat) (w : World) (h1 : QV w a1 c1 b1 e1 z1 d1) (h2 : QV w a2 c2 b2 e2 z2 d2) (ln : (limbs ((z1 * d2 + z2 * d1).natAbs)).length ≤ 18) (ld : (limbs (d1 * d2)).length ≤ 18) :
    Calls Tryz.prog 5 #[.agg #[.bool (sg z1).1, .slice a1 (sg z1).2.length c1, .slice b1 (limbs d1).length e1], .agg #[.bool (sg z2).1, .slice a2 (sg z2).2.length c2, .slice b2 (limbs d2).length e2]] w fun e w' => (∃ (z : Int) (d : Nat) (a : Option Addr) (c : Nat) (b : Option Addr) (f : Nat), (e = .returned (.tuple #[.agg #[.bool (sg z).1, .slice a (sg z).2.length c, .slice b (limbs d).length f], .bool true]) ∧ QV w' a c b f z d) ∧ z * ((d1 * d2 : Nat) : Int) = (z1 * d2 + z2 * d1) * d ∧ z.natAbs ≤ ((z1 * d2 + z2 * d1).natAbs) ∧ d ≤ d1 * d2) ∧ Below w.heap.size w w' := by
  have h := impl_RatAdd (sg z1).1 a1 c1 (sg z1).2 b1 e1 (limbs d1) (sg z2).1 a2 c2 (sg z2).2 b2 e2 (limbs d2) w h1.num h1.den h2.num h2.den
  have p1 := h1.rat
  have p2 := h2.rat
  have q1 := h1.qq.1
  have q2 := h2.qq.1
  have e := add_low p1 p2
  obtain ⟨z, d, hF, hE, hQ, hz, hd⟩ := low_ex (neg := decide (z1 * d2 + z2 * d1 < 0)) (m := (z1 * d2 + z2 * d1).natAbs) (n := d1 * d2) (Nat.mul_pos q1 q2) ln ld
  rw [hF] at e
  rw [e] at h
  have lz : (sg z).2.length ≤ 18 := Nat.le_trans (limbs_len_mono hz) ln
  have ldd : (limbs d).length ≤ 18 := Nat.le_trans (limbs_len_mono hd) ld
  refine h.mono ?_
  intro e w' hp
  obtain ⟨⟨a, c, b, f, he, hv⟩, hb⟩ := post_q lz ldd hQ hp
  refine ⟨⟨z, d, a, c, b, f, ⟨he, hv⟩, ?_, hz, hd⟩, hb⟩
  rw [hE]
  congr 1
  rw [zOf_self]

theorem q_sub (a1 : Option Addr) (c1 : Nat) (b1 : Option Addr) (e1 : Nat) (z1 : Int) (d1 : Nat) (a2 : Option Addr) (c2 : Nat) (b2 : Option Addr) (e2 : Nat) (z2 : Int) (d2 : Nat) (w : World) (h1 : QV w a1 c1 b1 e1 z1 d1) (h2 : QV w a2 c2 b2 e2 z2 d2) (ln : (limbs ((z1 * d2 + -z2 * d1).natAbs)).length ≤ 18) (ld : (limbs (d1 * d2)).length ≤ 18) :
    Calls Tryz.prog 8 #[.agg #[.bool (sg z1).1, .slice a1 (sg z1).2.length c1, .slice b1 (limbs d1).length e1], .agg #[.bool (sg z2).1, .slice a2 (sg z2).2.length c2, .slice b2 (limbs d2).length e2]] w fun e w' => (∃ (z : Int) (d : Nat) (a : Option Addr) (c : Nat) (b : Option Addr) (f : Nat), (e = .returned (.tuple #[.agg #[.bool (sg z).1, .slice a (sg z).2.length c, .slice b (limbs d).length f], .bool true]) ∧ QV w' a c b f z d) ∧ z * ((d1 * d2 : Nat) : Int) = (z1 * d2 + -z2 * d1) * d ∧ z.natAbs ≤ ((z1 * d2 + -z2 * d1).natAbs) ∧ d ≤ d1 * d2) ∧ Below w.heap.size w w' := by
  have h := impl_RatSub (sg z1).1 a1 c1 (sg z1).2 b1 e1 (limbs d1) (sg z2).1 a2 c2 (sg z2).2 b2 e2 (limbs d2) w h1.num h1.den h2.num h2.den
  have p1 := h1.rat
  have p2 := h2.rat
  have q1 := h1.qq.1
  have q2 := h2.qq.1
  have e : fRatSub (sg z1).1 (sg z1).2 (limbs d1) (sg z2).1 (sg z2).2 (limbs d2) = low (decide (z1 * d2 + -z2 * d1 < 0)) (z1 * d2 + -z2 * d1).natAbs (d1 * d2) := by
    rw [← add_low p1 h2.neg.rat, sg_minus]
    unfold fRatSub; rw [p1, p2]; rfl
  obtain ⟨z, d, hF, hE, hQ, hz, hd⟩ := low_ex (neg := decide (z1 * d2 + -z2 * d1 < 0)) (m := (z1 * d2 + -z2 * d1).natAbs) (n := d1 * d2) (Nat.mul_pos q1 q2) ln ld
  rw [hF] at e
  rw [e] at h
  have lz : (sg z).2.length ≤ 18 := Nat.le_trans (limbs_len_mono hz) ln
  have ldd : (limbs d).length ≤ 18 := Nat.le_trans (limbs_len_mono hd) ld
  refine h.mono ?_
  intro e w' hp
  obtain ⟨⟨a, c, b, f, he, hv⟩, hb⟩ := post_q lz ldd hQ hp
  refine ⟨⟨z, d, a, c, b, f, ⟨he, hv⟩, ?_, hz, hd⟩, hb⟩
  rw [hE]
  congr 1
  rw [zOf_self]

theorem q_div (a1 : Option Addr) (c1 : Nat) (b1 : Option Addr) (e1 : Nat) (z1 : Int) (d1 : Nat) (a2 : Option Addr) (c2 : Nat) (b2 : Option Addr) (e2 : Nat) (z2 : Int) (d2 : Nat) (w : World) (h1 : QV w a1 c1 b1 e1 z1 d1) (h2 : QV w a2 c2 b2 e2 z2 d2) (hne : z2 ≠ 0) (ln : (limbs (z1.natAbs * d2)).length ≤ 18) (ld : (limbs (d1 * z2.natAbs)).length ≤ 18) :
    Calls Tryz.prog 11 #[.agg #[.bool (sg z1).1, .slice a1 (sg z1).2.length c1, .slice b1 (limbs d1).length e1], .agg #[.bool (sg z2).1, .slice a2 (sg z2).2.length c2, .slice b2 (limbs d2).length e2]] w fun e w' => (∃ (z : Int) (d : Nat) (a : Option Addr) (c : Nat) (b : Option Addr) (f : Nat), (e = .returned (.tuple #[.agg #[.bool (sg z).1, .slice a (sg z).2.length c, .slice b (limbs d).length f], .bool true]) ∧ QV w' a c b f z d) ∧ z * ((d1 * z2.natAbs : Nat) : Int) = (zOf ((sg z1).1 != (sg z2).1) (z1.natAbs * d2)) * d ∧ z.natAbs ≤ (z1.natAbs * d2) ∧ d ≤ d1 * z2.natAbs) ∧ Below w.heap.size w w' := by
  have h := impl_RatDiv (sg z1).1 a1 c1 (sg z1).2 b1 e1 (limbs d1) (sg z2).1 a2 c2 (sg z2).2 b2 e2 (limbs d2) w h1.num h1.den h2.num h2.den
  have p1 := h1.rat
  have p2 := h2.rat
  have q1 := h1.qq.1
  have q2 := h2.qq.1
  have e : fRatDiv (sg z1).1 (sg z1).2 (limbs d1) (sg z2).1 (sg z2).2 (limbs d2) = low ((sg z1).1 != (sg z2).1) (z1.natAbs * d2) (d1 * z2.natAbs) := by
    unfold fRatDiv; rw [p1, p2, nv_sg, nv_sg, nv_limbs, nv_limbs, decide_eq_true (show 0 < (sg z2).2.length from limbs_len_pos.2 (by omega))]; rfl
  obtain ⟨z, d, hF, hE, hQ, hz, hd⟩ := low_ex (neg := (sg z1).1 != (sg z2).1) (m := z1.natAbs * d2) (n := d1 * z2.natAbs) (Nat.mul_pos q1 (by omega)) ln ld
  rw [hF] at e
  rw [e] at h
  have lz : (sg z).2.length ≤ 18 := Nat.le_trans (limbs_len_mono hz) ln
  have ldd : (limbs d).length ≤ 18 := Nat.le_trans (limbs_len_mono hd) ld
  refine h.mono ?_
  intro e w' hp
  obtain ⟨⟨a, c, b, f, he, hv⟩, hb⟩ := post_q lz ldd hQ hp
  refine ⟨⟨z, d, a, c, b, f, ⟨he, hv⟩, ?_, hz, hd⟩, hb⟩
  rw [hE]


theorem div_sign (z1 z2 : Int) (d2 : Nat) : ∃ s : Int, zOf ((sg z1).1 != (sg z2).1) (z1.natAbs * d2) = s * (z1 * d2) ∧ s * z2 = z2.natAbs := by
  have e : zOf ((sg z1).1 != (sg z2).1) (z1.natAbs * d2) = zOf (sg z2).1 1 * (z1 * d2) := by
    have h := zOf_mul (sg z1).1 (sg z2).1 (z1.natAbs * d2) 1
    rw [Nat.mul_one] at h
    rw [← h, show (sg z1).1 = decide (z1 < 0) from rfl, zOf_times, Int.mul_comm]
  refine ⟨_, e, ?_⟩
  show zOf (decide (z2 < 0)) 1 * z2 = _
  unfold zOf
  by_cases h : z2 < 0
  · simp [h]; omega
  · simp [h]; omega
theorem q_div0 (a1 : Option Addr) (c1 : Nat) (b1 : Option Addr) (e1 : Nat) (z1 : Int) (d1 : Nat) (a2 : Option Addr) (c2 : Nat) (b2 : Option Addr) (e2 : Nat) (z2 : Int) (d2 : Nat) (w : World) (h1 : QV w a1 c1 b1 e1 z1 d1) (h2 : QV w a2 c2 b2 e2 z2 d2) (h0 : z2 = 0) :
    Calls Tryz.prog 11 #[.agg #[.bool (sg z1).1, .slice a1 (sg z1).2.length c1, .slice b1 (limbs d1).length e1], .agg #[.bool (sg z2).1, .slice a2 (sg z2).2.length c2, .slice b2 (limbs d2).length e2]] w fun e w' => (∃ a c b f, e = .returned (.tuple #[.agg #[.bool false, .slice a 0 c, .slice b 0 f], .bool false])) ∧ Below w.heap.size w w' := by
  have h := impl_RatDiv (sg z1).1 a1 c1 (sg z1).2 b1 e1 (limbs d1) (sg z2).1 a2 c2 (sg z2).2 b2 e2 (limbs d2) w h1.num h1.den h2.num h2.den
  have e : fRatDiv (sg z1).1 (sg z1).2 (limbs d1) (sg z2).1 (sg z2).2 (limbs d2) = ratZ := by
    have hl : decide (0 < (sg z2).2.length) = false := by subst h0; rfl
    unfold fRatDiv; rw [hl, Bool.and_false]; rfl
  rw [e] at h
  refine h.mono ?_
  rintro e w' ⟨⟨a, c, b, f, lo, up, lo', up', he, -⟩, hb⟩
  exact ⟨⟨a, c, b, f, he⟩, hb⟩
theorem q_cmp (a1 : Option Addr) (c1 : Nat) (b1 : Option Addr) (e1 : Nat) (z1 : Int) (d1 : Nat) (a2 : Option Addr) (c2 : Nat) (b2 : Option Addr) (e2 : Nat) (z2 : Int) (d2 : Nat) (r : Int) (w : World) (h1 : QV w a1 c1 b1 e1 z1 d1) (h2 : QV w a2 c2 b2 e2 z2 d2) (hr : sgnZ (z1 * d2 - z2 * d1) = r) :
    Calls Tryz.prog 7 #[.agg #[.bool (sg z1).1, .slice a1 (sg z1).2.length c1, .slice b1 (limbs d1).length e1], .agg #[.bool (sg z2).1, .slice a2 (sg z2).2.length c2, .slice b2 (limbs d2).length e2]] w fun e w' => e = .returned (.int .i64 r) ∧ Below w.heap.size w w' := by
  have h := impl_RatCmp (sg z1).1 a1 c1 (sg z1).2 b1 e1 (limbs d1) (sg z2).1 a2 c2 (sg z2).2 b2 e2 (limbs d2) w h1.num h1.den h2.num h2.den
  have e : fRatCmp (sg z1).1 (sg z1).2 (limbs d1) (sg z2).1 (sg z2).2 (limbs d2) = r := by
    unfold fRatCmp
    rw [h1.rat, h2.rat, nv_sg, nv_sg, nv_limbs, nv_limbs, show (sg z1).1 = decide (z1 < 0) from rfl, show (sg z2).1 = decide (z2 < 0) from rfl, zOf_times, zOf_times, hr]; rfl
  rw [e] at h
  exact h
theorem q_cmp0 (a1 : Option Addr) (c1 : Nat) (b1 : Option Addr) (e1 : Nat) (a2 : Option Addr) (c2 : Nat) (b2 : Option Addr) (e2 : Nat) (z : Int) (d : Nat) (w : World) (h1 : QV w a1 c1 b1 e1 z d) (h2 : QV w a2 c2 b2 e2 z d) :
    Calls Tryz.prog 7 #[.agg #[.bool (sg z).1, .slice a1 (sg z).2.length c1, .slice b1 (limbs d).length e1], .agg #[.bool (sg z).1, .slice a2 (sg z).2.length c2, .slice b2 (limbs d).length e2]] w fun e w' => e = .returned (.int .i64 0) ∧ Below w.heap.size w w' :=
  q_cmp a1 c1 b1 e1 z d a2 c2 b2 e2 z d 0 w h1 h2 (by rw [Int.sub_self]; rfl)
theorem q_sign (a1 : Option Addr) (c1 : Nat) (b1 : Option Addr) (e1 : Nat) (z1 : Int) (d1 : Nat) (r : Int) (w : World) (h1 : QV w a1 c1 b1 e1 z1 d1) (hr : sgnZ z1 = r) :
    Calls Tryz.prog 12 #[.agg #[.bool (sg z1).1, .slice a1 (sg z1).2.length c1, .slice b1 (limbs d1).length e1]] w fun e w' => e = .returned (.int .i64 r) ∧ Below w.heap.size w w' := by
  have h := impl_RatSign (sg z1).1 a1 c1 (sg z1).2 b1 e1 (limbs d1) w h1.num h1.den
  have e : fRatSign (sg z1).1 (sg z1).2 (limbs d1) = r := by
    unfold fRatSign
    rw [h1.rat, sv_sg, hr]; rfl
  rw [e] at h
  exact h
theorem q_text (a1 : Option Addr) (c1 : Nat) (b1 : Option Addr) (e1 : Nat) (z1 : Int) (d1 : Nat) (w : World) (h1 : QV w a1 c1 b1 e1 z1 d1) (ht : Tab w) :
    Calls Tryz.prog 10 #[.agg #[.bool (sg z1).1, .slice a1 (sg z1).2.length c1, .slice b1 (limbs d1).length e1]] w fun e w' => e = .returned (.string (tx (fRatText (sg z1).1 (sg z1).2 (limbs d1)))) ∧ Below w.heap.size w w' :=
  impl_RatText (sg z1).1 a1 c1 (sg z1).2 b1 e1 (limbs d1) w h1.num h1.den ht
theorem q_read (z : Int) (d : Nat) (w : World) (lz : (sg z).2.length ≤ 18) (ld : (limbs d).length ≤ 18) (hq : QQ z d) :
    Calls Tryz.prog 9 #[.string (tx (fRatText (sg z).1 (sg z).2 (limbs d)))] w fun e w' => (∃ a c b f, e = .returned (.tuple #[.agg #[.bool (sg z).1, .slice a (sg z).2.length c, .slice b (limbs d).length f], .bool true]) ∧ QV w' a c b f z d) ∧ Below w.heap.size w w' := by
  have hB : ratB (sg z).1 (sg z).2 (limbs d) = true := ratB_of (m := z.natAbs) lz ld hq.1 hq.2 (by show decide (z < 0) = true → _; simp; omega)
  have hi := ratB_int hB
  have l1 : (decDigits z.natAbs).length ≤ 9 * 18 := dec_len_limbs (by omega) lz
  have l2 : (decDigits d).length ≤ 9 * 18 := dec_len_limbs (by omega) ld
  have hlen : (tx (fRatText (sg z).1 (sg z).2 (limbs d))).size ≤ 1048576 := by
    rw [tx_size]
    unfold fRatText
    rw [if_pos hB]
    have h1 := fIntStr_len (neg := (sg z).1) (xs := (sg z).2)
    split
    · omega
    · rw [natTxt_limbs, List.length_append, List.length_cons]; omega
  have h := impl_TextRat _ w hlen
  rw [text_rat hB hi (by omega) (by omega)] at h
  exact h.mono fun e w' hp => post_q lz ld hq hp

end Go.Proofs.YtogkonenejfgmaaGreatDoor
