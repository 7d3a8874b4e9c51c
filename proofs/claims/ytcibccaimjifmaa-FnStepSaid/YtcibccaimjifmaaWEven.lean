/- The walks of NatEven (reference and program). For every slice within the reach. -/
import Derived.Test.YtcibccaimjifmaaWNatOk
namespace Go.Proofs.Ytcibccaimjifmaa
open Go.RowKit
def fEven (xs : List Int) : Bool := natB xs && (xs.isEmpty || (xs.getD 0 0 % 2 == 0))

theorem impl_NatEven (a : Option Addr) (ca : Nat) (xs : List Int) (w : World) (hx : In w a ca xs) :
    Calls Try.prog 62 #[.slice a xs.length ca] w fun e w' => e = .returned (.bool (fEven xs)) ∧ Below w.heap.size w w' := by
  have hl := hx.2.2
  cases h1 : natB xs
  · have H := Lib.hid (show fEven xs = false by unfold fEven; rw [h1]; rfl)
    go_enter Try.func62, Try.ntmps62
    go_wp2_with fail
    refine (impl_NatOk _ _ _ _ hx.1 hx.maxLen).mono ?_
    rintro e w' ⟨rfl, rfl⟩
    go_wp2
    go_ret
    exact ⟨ret_bool H.out.symm, Below.refl _ _⟩
  · have H := Lib.hid (show fEven xs = (xs.isEmpty || (xs.getD 0 0 % 2 == 0)) by unfold fEven; rw [h1]; rfl)
    cases h0 : xs with
    | nil =>
      subst h0
      go_enter Try.func62, Try.ntmps62
      go_wp2_with fail
      refine (impl_NatOk _ _ _ _ hx.1 hx.maxLen).mono ?_
      rintro e w' ⟨rfl, rfl⟩
      go_wp2
      go_ret
      exact ⟨ret_bool H.out.symm, Below.refl _ _⟩
    | cons x0 r0 =>
      rw [← h0]
      have hne : xs.isEmpty = false := by rw [h0]; rfl
      have hlen : 0 < xs.length := by rw [h0]; simp
      have hz : ((xs.length : Int) == 0) = false := by rw [beq_eq_false_iff_ne]; omega
      have hg := okL_get (show okL xs by rw [(natB_limbs h1).1]; exact limbs_ok _) 0
      have HNE := Lib.hid hne
      clear h0 hne
      obtain ⟨b, off, x, rfl, hb, hc, hx1⟩ := hx.1.at 0 hlen
      rw [hx1.out] at hg
      rw [Nat.add_zero] at hc
      obtain ⟨hg0, hg1⟩ := hg
      have hr := H.out
      rw [HNE.out, Bool.false_or, hx1.out] at hr
      have HR := Lib.hid hr
      clear hr
      go_enter Try.func62, Try.ntmps62
      go_wp2_with fail
      refine (impl_NatOk _ _ _ _ hx.1 hx.maxLen).mono ?_
      rintro e w' ⟨rfl, rfl⟩
      go_wp2
      go_ret
      exact ⟨ret_bool HR.out.symm, Below.refl _ _⟩
end Go.Proofs.Ytcibccaimjifmaa
