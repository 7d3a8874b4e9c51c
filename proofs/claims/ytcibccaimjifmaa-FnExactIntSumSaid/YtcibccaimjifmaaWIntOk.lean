/- The walks of IntOk, intsOk, signed and of the laws' helpers on signed integers. For every slice within the reach. -/
import Derived.Test.YtcibccaimjifmaaWTrim
import Derived.Test.YtcibccaimjifmaaWEqInt
import Derived.Test.YtcibccaimjifmaaWMark
namespace Go.Proofs.Ytcibccaimjifmaa
open Go.RowKit
theorem bcell {W w1 : World} (hb : Below W.heap.size W w1) : (∀ b o, b < W.heap.size → w1.cell? ⟨b, o, none⟩ = W.cell? ⟨b, o, none⟩) ∧ (∀ b o, b < W.heap.size → w1.frozen? ⟨b, o, none⟩ = W.frozen? ⟨b, o, none⟩) :=
  ⟨fun b o h => hb.cell (p := ⟨b, o, none⟩) h, fun b o h => hb.frozen (p := ⟨b, o, none⟩) h⟩
def intB (neg : Bool) (xs : List Int) : Bool := natB xs && (!neg || decide (0 < xs.length))
theorem In.alloc {w : World} {a : Option Addr} {c : Nat} {xs : List Int} (h : In w a c xs) (o : Obj) : In (w.alloc o) a c xs := h.below ((Below.refl _ _).alloc (Nat.le_refl _) o) (Nat.le_refl _)
theorem bel_alloc (w : World) (o : Obj) : Below w.heap.size w (w.alloc o) := (Below.refl _ _).alloc (Nat.le_refl _) o

theorem spec_IntOk (neg : Bool) (a : Option Addr) (c : Nat) (xs : List Int) (w : World) (hx : In w a c xs) :
    Calls Try.prog 25 #[.agg #[.bool neg, .slice a xs.length c]] w fun e w' => e = .returned (.bool (intB neg xs)) ∧ Below w.heap.size w w' := by
  have hl := hx.2.2
  cases h1 : natB xs
  · have H := Lib.hid (show intB neg xs = false by unfold intB; rw [h1]; rfl)
    go_enter Try.func25, Try.ntmps25
    go_wp2_with fail
    refine (spec_NatOk _ _ _ _ (hx.alloc _).1 hx.maxLen).mono ?_
    rintro e w' ⟨rfl, rfl⟩
    go_wp2
    go_ret
    exact ⟨ret_bool H.out.symm, bel_alloc _ _⟩
  · have H := Lib.hid (show intB neg xs = (!neg || decide (0 < xs.length)) by unfold intB; rw [h1]; rfl)
    cases neg
    all_goals
      go_enter Try.func25, Try.ntmps25
      go_wp2_with fail
      refine (spec_NatOk _ _ _ _ (hx.alloc _).1 hx.maxLen).mono ?_
      rintro e w' ⟨rfl, rfl⟩
      go_wp2
      go_ret
      exact ⟨ret_bool (by rw [H.out]; simp), bel_alloc _ _⟩
theorem impl_IntOk (neg : Bool) (a : Option Addr) (c : Nat) (xs : List Int) (w : World) (hx : In w a c xs) :
    Calls Try.prog 28 #[.agg #[.bool neg, .slice a xs.length c]] w fun e w' => e = .returned (.bool (intB neg xs)) ∧ Below w.heap.size w w' := by
  have hl := hx.2.2
  cases h1 : natB xs
  · have H := Lib.hid (show intB neg xs = false by unfold intB; rw [h1]; rfl)
    go_enter Try.func28, Try.ntmps28
    go_wp2_with fail
    refine (impl_NatOk _ _ _ _ (hx.alloc _).1 hx.maxLen).mono ?_
    rintro e w' ⟨rfl, rfl⟩
    go_wp2
    go_ret
    exact ⟨ret_bool H.out.symm, bel_alloc _ _⟩
  · have H := Lib.hid (show intB neg xs = (!neg || decide (0 < xs.length)) by unfold intB; rw [h1]; rfl)
    cases neg
    all_goals
      go_enter Try.func28, Try.ntmps28
      go_wp2_with fail
      refine (impl_NatOk _ _ _ _ (hx.alloc _).1 hx.maxLen).mono ?_
      rintro e w' ⟨rfl, rfl⟩
      go_wp2
      go_ret
      exact ⟨ret_bool (by rw [H.out]; simp), bel_alloc _ _⟩
theorem szIntS_yes (a : Option Addr) (c : Nat) (xs : List Int) (left : Int) (w : World) (hl : left ≤ 1048576) (hx : (xs.length : Int) ≤ left) :
    Calls Try.prog 49 #[.slice a xs.length c, .int .i64 left] w fun e w' => e = .returned (.int .i64 (left - xs.length)) ∧ w = w' := by
  have h2 : 0 ≤ left - (xs.length : Int) := by omega
  go_enter Try.func49, Try.ntmps49
  go_wp2
  go_ret
  exact ⟨rfl, rfl⟩
theorem szIntS_no (a : Option Addr) (c : Nat) (xs : List Int) (left : Int) (w : World) (hl0 : 0 ≤ left) (hl : left ≤ 1048576) (hx : left < (xs.length : Int)) (hm : xs.length ≤ maxLen) :
    Calls Try.prog 49 #[.slice a xs.length c, .int .i64 left] w fun e w' => e = .returned (.int .i64 (-1)) ∧ w = w' := by
  unfold maxLen at hm
  have h2 : left - (xs.length : Int) < 0 := by omega
  go_enter Try.func49, Try.ntmps49
  go_wp2
  go_ret
  exact ⟨rfl, rfl⟩
theorem szSigned_yes (neg : Bool) (a : Option Addr) (c : Nat) (xs : List Int) (left : Int) (w : World) (hl : left ≤ 1048576) (hx : (xs.length : Int) ≤ left) :
    Calls Try.prog 24 #[.agg #[.bool neg, .slice a xs.length c], .int .i64 left] w fun e w' => e = .returned (.int .i64 (left - xs.length)) ∧ Below w.heap.size w w' := by
  have h2 : 0 ≤ left - (xs.length : Int) := by omega
  go_enter Try.func24, Try.ntmps24
  go_wp2_with fail
  refine (szIntS_yes _ _ _ _ _ hl hx).mono ?_
  rintro e w' ⟨rfl, rfl⟩
  go_wp2
  go_ret
  exact ⟨rfl, bel_alloc _ _⟩
theorem szSigned_no (neg : Bool) (a : Option Addr) (c : Nat) (xs : List Int) (left : Int) (w : World) (hl0 : 0 ≤ left) (hl : left ≤ 1048576) (hx : left < (xs.length : Int)) (hm : xs.length ≤ maxLen) :
    Calls Try.prog 24 #[.agg #[.bool neg, .slice a xs.length c], .int .i64 left] w fun e w' => e = .returned (.int .i64 (-1)) ∧ Below w.heap.size w w' := by
  go_enter Try.func24, Try.ntmps24
  go_wp2_with fail
  refine (szIntS_no _ _ _ _ _ hl0 hl hx hm).mono ?_
  rintro e w' ⟨rfl, rfl⟩
  go_wp2
  go_ret
  exact ⟨rfl, bel_alloc _ _⟩
/-- a store below the block of what is owned -/
theorem own_set {w : World} {B B0 : Nat} {a : Option Addr} {cap : Nat} {xs : List Int} (h : Own w B0 a cap xs) {p : Addr} (hp : p.block < B0) (u : Value) (hB : B ≤ B0) : Own (w.setCell p u) B a cap xs :=
  Own.mono (show Own (w.setCell p u) B0 a cap xs from ownsRow_setCell_below h hp u) hB
set_option maxHeartbeats 800000 in
theorem toSigned_any (neg : Bool) (a : Option Addr) (c : Nat) (xs : List Int) (w : World) (hx : Rd w a xs) (lx : xs.length ≤ 17592186044416) :
    Calls Try.prog 27 #[.agg #[.bool neg, .slice a xs.length c]] w fun e w' => (∃ a' c', e = .returned (.agg #[.bool neg, .slice a' xs.length c']) ∧ Own w' w.heap.size a' c' xs) ∧ Below w.heap.size w w' := by
  go_enter Try.func27, Try.ntmps27
  go_wp2_with fail
  refine (toIntS_any _ _ _ _ (((hx.below (bel_alloc _ _) (Nat.le_refl _)).below (bel_alloc _ _) (Nat.le_refl _)).below (bel_alloc _ _) (Nat.le_refl _)) lx).mono ?_
  rintro e w1 ⟨⟨a1, c1, rfl, ho1⟩, hb1⟩
  obtain ⟨hc, hf⟩ := bcell hb1
  have hz := hb1.size
  simp only [World.size_alloc] at hz
  go_wp2
  have hbw := (((bel_alloc w (.cells #[.bool neg, .slice a xs.length c] 50)).trans ((bel_alloc _ (.cells #[.bool false, .slice none 0 0] 26)).mono (by simp))).trans ((bel_alloc _ (.cells #[.bool neg, .slice none 0 0] 26)).mono (by simp; omega))).trans (hb1.mono (by simp; omega))
  refine bodyPost_ret (v := .agg #[.bool neg, .slice a1 xs.length c1]) (by simp [results, Try.results27, go_sem, hc]) rfl ⟨⟨a1, c1, rfl, ?_⟩, ?_⟩
  · have ho2 : Own w1 (w.heap.size + 1 + 1 + 1) a1 c1 xs := Own.mono ho1 (by simp)
    exact own_set (own_set (own_set ho2 (by dsimp only; omega) _ (Nat.le_refl _)) (by dsimp only; omega) _ (Nat.le_refl _)) (by dsimp only; omega) _ (by omega)
  · exact ((hbw.setCell (by dsimp only; omega) _).setCell (by dsimp only; omega) _).setCell (by dsimp only; omega) _
theorem eqSigned_same (neg : Bool) (a b : Option Addr) (ca cb : Nat) (xs : List Int) (w : World) (hx : Rd w a xs) (hy : Rd w b xs) (lx : xs.length ≤ 1099511627776) :
    Calls Try.prog 9 #[.agg #[.bool neg, .slice a xs.length ca], .agg #[.bool neg, .slice b xs.length cb]] w fun e w' => e = .returned (.bool true) ∧ Below w.heap.size w w' := by
  have hA := (bel_alloc w (.cells #[.bool neg, .slice a xs.length ca] 26)).trans ((bel_alloc _ (.cells #[.bool neg, .slice b xs.length cb] 26)).mono (by simp))
  go_enter Try.func9, Try.ntmps9
  go_wp2_with fail
  refine (eqIntS_same _ _ _ _ _ _ (hx.below hA (Nat.le_refl _)) (hy.below hA (Nat.le_refl _)) lx).mono ?_
  rintro e w1 ⟨rfl, hb1⟩
  have hB := hA.trans (hb1.mono hA.size)
  go_wp2
  go_ret
  exact ⟨rfl, hB⟩
theorem markSigned_any (lo hi : Nat) (neg : Bool) (a : Option Addr) (cap : Nat) (xs : List Int) (k : Int) (w : World) (h : Slot w lo hi a cap xs) (hl : xs.length ≤ 1099511627776) (hk : 0 ≤ k ∧ k ≤ 1099511627776) :
    Calls Try.prog 12 #[.agg #[.bool neg, .slice a xs.length cap], .int .i64 k] w fun e w' => e = .returned (.int .i64 (k + xs.length)) ∧ Slot w' lo hi a cap (marks k xs.length) ∧ Wr w w' lo hi := by
  have hA := bel_alloc w (.cells #[.bool neg, .slice a xs.length cap] 26)
  go_enter Try.func12, Try.ntmps12
  go_wp2_with fail
  refine (markIntS_any lo hi _ _ _ _ _ (h.below hA h.1) hl hk).mono ?_
  rintro e w1 ⟨rfl, hs, hw⟩
  have hW := (Wr.of hA lo hi).trans hw
  go_wp2
  go_ret
  exact ⟨rfl, hs, hW⟩
theorem heldSigned_any (neg : Bool) (a : Option Addr) (cap n : Nat) (k : Int) (w : World) (h : Rd w a (marks k n)) (hl : n ≤ 1099511627776) (hk : 0 ≤ k ∧ k ≤ 1099511627776) :
    Calls Try.prog 13 #[.agg #[.bool neg, .slice a n cap], .int .i64 k] w fun e w' => e = .returned (.int .i64 (k + n)) ∧ Below w.heap.size w w' := by
  have hA := bel_alloc w (.cells #[.bool neg, .slice a n cap] 26)
  have h0 : 0 ≤ k + (n : Int) := by omega
  go_enter Try.func13, Try.ntmps13
  go_wp2_with fail
  refine (heldIntS_any _ _ _ _ _ (h.below hA (Nat.le_refl _)) hl hk).mono ?_
  rintro e w1 ⟨rfl, rfl⟩
  go_wp2
  go_ret
  exact ⟨rfl, hA⟩
theorem intsOk_any (n1 n2 : Bool) (a b : Option Addr) (ca cb : Nat) (xs ys : List Int) (w : World) (hx : In w a ca xs) (hy : In w b cb ys) :
    Calls Try.prog 44 #[.agg #[.bool n1, .slice a xs.length ca], .agg #[.bool n2, .slice b ys.length cb]] w fun e w' => e = .returned (.bool (intB n1 xs && intB n2 ys)) ∧ Below w.heap.size w w' := by
  have hA := (bel_alloc w (.cells #[.bool n1, .slice a xs.length ca] 26)).trans ((bel_alloc _ (.cells #[.bool n2, .slice b ys.length cb] 26)).mono (by simp))
  have hxA := Lib.hid (hx.below hA (Nat.le_refl _))
  have hyA := Lib.hid (hy.below hA (Nat.le_refl _))
  cases h1 : intB n1 xs
  · go_enter Try.func44, Try.ntmps44
    go_wp2_with fail
    refine (impl_IntOk _ _ _ _ _ hxA.out).mono ?_
    rintro e w1 ⟨rfl, hb1⟩
    have hB := hA.trans (hb1.mono hA.size)
    go_wp2
    go_ret
    exact ⟨rfl, hB⟩
  · go_enter Try.func44, Try.ntmps44
    go_wp2_with fail
    refine (impl_IntOk _ _ _ _ _ hxA.out).mono ?_
    rintro e w1 ⟨rfl, hb1⟩
    have hB := hA.trans (hb1.mono hA.size)
    have hyB := hyA.out.below hb1 (Nat.le_refl _)
    obtain ⟨hc, hf⟩ := bcell hb1
    go_wp2_with fail
    refine (impl_IntOk _ _ _ _ _ hyB).mono ?_
    rintro e w2 ⟨rfl, hb2⟩
    have hC := hB.trans (hb2.mono hB.size)
    go_wp2
    go_ret
    exact ⟨rfl, hC⟩
end Go.Proofs.Ytcibccaimjifmaa
