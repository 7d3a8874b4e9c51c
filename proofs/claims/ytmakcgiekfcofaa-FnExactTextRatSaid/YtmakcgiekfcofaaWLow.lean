/- The walks of reduce (program), l05Gcd and l05Low (reference): a fraction in lowest terms. For numbers of any size within the reach. -/
import Derived.Test.YtmakcgiekfcofaaWRatOk
import Derived.Test.YtmakcgiekfcofaaWSigned
import Derived.Test.YtmakcgiekfcofaaWBox
namespace Go.Proofs.Ytmakcgiekfcofaa
open Go.RowKit
set_option linter.unusedVariables false
/-- the program's fraction and its flag: two slices of the call's own in blocks of their own -/
def RatPost2 (w : World) (F : (Bool × List Int × List Int) × Bool) (e : Ending) (w' : World) : Prop :=
  (∃ a c b d lo up lo' up', e = .returned (.tuple #[.agg #[.bool F.1.1, .slice a F.1.2.1.length c, .slice b F.1.2.2.length d], .bool F.2]) ∧ Slot w' lo up a c F.1.2.1 ∧ F.1.2.1.length ≤ 50 ∧ Slot w' lo' up' b d F.1.2.2 ∧ F.1.2.2.length ≤ 50 ∧ w.heap.size ≤ lo ∧ w.heap.size ≤ lo' ∧ (up ≤ lo' ∨ up' ≤ lo)) ∧ Below w.heap.size w w'
def SRatPost2 (w : World) (F : (Bool × List Int × List Int) × Bool) (e : Ending) (w' : World) : Prop :=
  (∃ a c b d, e = .returned (.tuple #[.agg #[.bool F.1.1, .slice a F.1.2.1.length c, .slice b F.1.2.2.length d], .bool F.2]) ∧ Own w' w.heap.size a c F.1.2.1 ∧ F.1.2.1.length ≤ 50 ∧ Own w' w.heap.size b d F.1.2.2 ∧ F.1.2.2.length ≤ 50) ∧ Below w.heap.size w w'
theorem Slot.set3 {W : World} {lo up c r : Nat} {a : Option Addr} {xs : List Int} {u v z : Value} (h : Slot W lo up a c xs) (hr : r < lo) : Slot (((W.setCell ⟨r, 0, none⟩ u).setCell ⟨r, 1, none⟩ v).setCell ⟨r, 2, none⟩ z) lo up a c xs :=
  ((h.setOut (p := ⟨r, 0, none⟩) hr _).setOut (p := ⟨r, 1, none⟩) hr _).setOut (p := ⟨r, 2, none⟩) hr _
theorem set3_own {W : World} {B B0 r c : Nat} {a : Option Addr} {xs : List Int} {u v z : Value} (h : Own W B0 a c xs) (hr : r < B0) (hB : B ≤ B0) : Own (((W.setCell ⟨r, 0, none⟩ u).setCell ⟨r, 1, none⟩ v).setCell ⟨r, 2, none⟩ z) B a c xs :=
  own_set (B0 := B0) (own_set (B := B0) (B0 := B0) (own_set (B := B0) (B0 := B0) h hr _ (Nat.le_refl _)) hr _ (Nat.le_refl _)) hr _ hB
theorem set3_below {w0 W : World} {B r : Nat} {u v z : Value} (h : Below B w0 W) (hr : B ≤ r) : Below B w0 (((W.setCell ⟨r, 0, none⟩ u).setCell ⟨r, 1, none⟩ v).setCell ⟨r, 2, none⟩ z) :=
  ((h.setCell (p := ⟨r, 0, none⟩) hr _).setCell (p := ⟨r, 1, none⟩) hr _).setCell (p := ⟨r, 2, none⟩) hr _
theorem ratPost2_zero {w w' : World} (hb : Below w.heap.size w w') : RatPost2 w ratZ (.returned (.tuple #[.agg #[.bool false, .slice none 0 0, .slice none 0 0], .bool false])) w' :=
  ⟨⟨none, 0, none, 0, w.heap.size, w.heap.size, w.heap.size, w.heap.size, rfl, ⟨hb.size, .inl rfl⟩, Nat.zero_le _, ⟨hb.size, .inl rfl⟩, Nat.zero_le _, Nat.le_refl _, Nat.le_refl _, .inl (Nat.le_refl _)⟩, hb⟩
theorem sratPost2_zero {w w' : World} (hb : Below w.heap.size w w') : SRatPost2 w ratZ (.returned (.tuple #[.agg #[.bool false, .slice none 0 0, .slice none 0 0], .bool false])) w' :=
  ⟨⟨none, 0, none, 0, rfl, Own.nil _ _, Nat.zero_le _, Own.nil _ _, Nat.zero_le _⟩, hb⟩
theorem gcd_le2 {m n k : Nat} (hm : (limbs m).length ≤ k) (hn : (limbs n).length ≤ k) : (limbs (Nat.gcd m n)).length ≤ k := gcd_len hm hn
theorem trim_n (n : Nat) : trimL (limbs n) = limbs n := trimL_canon_id (limbs_last n)
theorem capL_n {n : Nat} (h : (limbs n).length ≤ 50) : capL (limbs n) = limbs n := by rw [capL_nat]; unfold capV; rw [if_neg (by omega)]
theorem l02Trim_n (a : Option Addr) (cap n : Nat) (w : World) (h : In w a cap (limbs n)) :
    Calls Try.prog 38 #[.slice a (limbs n).length cap] w fun e w' => e = .returned (.slice a (limbs n).length cap) ∧ w = w' := by
  have := l02Trim_any a cap (limbs n) w h.1 h.maxLen h.2.1
  rw [trim_n] at this
  exact this
theorem l04Make_n (neg : Bool) (a : Option Addr) (c n : Nat) (w : World) (hx : In w a c (limbs n)) (hl : (limbs n).length ≤ 50) :
    Calls Try.prog 64 #[.bool neg, .slice a (limbs n).length c] w fun e w' => (∃ a' c', e = .returned (.agg #[.bool (neg && decide (0 < (limbs n).length)), .slice a' (limbs n).length c']) ∧ Own w' w.heap.size a' c' (limbs n)) ∧ Below w.heap.size w w' := by
  have := l04Make_any neg a c (limbs n) w hx
  rw [capL_n hl] at this
  exact this
end Go.Proofs.Ytmakcgiekfcofaa
