/- The walks of trim, fit, natCopy, natsOk (program) and l02Trim, l02Cap (reference). For every slice within the reach. -/
import Derived.Test.YtcibccaimjifmaaMem
import Derived.Test.YtcibccaimjifmaaNat
import Derived.Test.YtcibccaimjifmaaStr
import Derived.Test.YtcibccaimjifmaaWNatOk
namespace Go.Proofs.Ytcibccaimjifmaa
open Go.RowKit
theorem trim_hit {xs : List Int} {n : Nat} (h : trimL xs = trimL (xs.take (n + 1))) (hn : n < xs.length) (x : Int) (hx : xs.getD n 0 = x) (hz : x = 0) : trimL xs = trimL (xs.take n) := by
  rw [h, take_succ_getD xs n hn, hx, hz, trimL_snoc_zero]
theorem trim_miss {xs : List Int} {n : Nat} (h : trimL xs = trimL (xs.take (n + 1))) (hn : n < xs.length) (x : Int) (hx : xs.getD n 0 = x) (hz : x ≠ 0) : trimL xs = xs.take (n + 1) := by
  rw [h, take_succ_getD xs n hn, hx, trimL_snoc hz]

set_option maxHeartbeats 400000 in
theorem trim_any (a : Option Addr) (cap : Nat) (xs : List Int) (w : World) (h : Rd w a xs) (hl : xs.length ≤ maxLen) (hc : xs.length ≤ cap) :
    Calls Try.prog 63 #[.slice a xs.length cap] w fun e w' => e = .returned (.slice a (trimL xs).length cap) ∧ w = w' := by
  unfold maxLen at hl
  go_enter Try.func63, Try.ntmps63
  go_wp2
  go_loop [0] (fun v => ∃ n : Nat, n ≤ xs.length ∧ v = .slice a n cap ∧ trimL xs = trimL (xs.take n)) (fun v => match v with | .slice _ n _ => n | _ => 0)
  case atStart => exact ⟨xs.length, Nat.le_refl _, rfl, by rw [List.take_length]⟩
  case round =>
    obtain ⟨n, hn, rfl, ht⟩ := hrel
    have H := Lib.hid ht; clear ht
    cases n with
    | zero =>
      have e : (trimL xs).length = 0 := by rw [H.out]; rfl
      have HE := Lib.hid e; clear e
      go_wp2
      go_ret
      refine ⟨?_, rfl⟩
      rw [HE.out]; rfl
    | succ n =>
      obtain ⟨b, off, x, rfl, hb, h1, hx⟩ := h.at n (by omega)
      cases hz : (x == 0)
      · have e : (trimL xs).length = n + 1 := by
          rw [trim_miss H.out (by omega) x hx.out (by simpa using hz), List.length_take]; omega
        have HE := Lib.hid e; clear e
        go_wp2
        go_ret
        refine ⟨?_, rfl⟩
        rw [HE.out]; rfl
      · have e := trim_hit H.out (by omega) x hx.out (by simpa using hz)
        have HE := Lib.hid e; clear e
        go_wp2
        go_round
        case rel => exact ⟨n, by omega, rfl, HE.out⟩
        case measure => simp

set_option maxHeartbeats 400000 in
theorem l02Trim_any (a : Option Addr) (cap : Nat) (xs : List Int) (w : World) (h : Rd w a xs) (hl : xs.length ≤ maxLen) (hc : xs.length ≤ cap) :
    Calls Try.prog 76 #[.slice a xs.length cap] w fun e w' => e = .returned (.slice a (trimL xs).length cap) ∧ w = w' := by
  unfold maxLen at hl
  have HL := trimL_length_le xs
  go_enter Try.func76, Try.ntmps76
  go_wp2
  go_loop [3] (fun v => ∃ n : Nat, n ≤ xs.length ∧ v = .int .i64 n ∧ trimL xs = trimL (xs.take n)) (fun v => (intOf v).toNat)
  case atStart => exact ⟨xs.length, Nat.le_refl _, rfl, by rw [List.take_length]⟩
  case round =>
    obtain ⟨n, hn, rfl, ht⟩ := hrel
    have H := Lib.hid ht; clear ht
    cases n with
    | zero =>
      have e : (trimL xs).length = 0 := by rw [H.out]; rfl
      have HE := Lib.hid e; clear e
      go_wp2
      go_ret
      refine ⟨?_, rfl⟩
      rw [HE.out]; rfl
    | succ n =>
      obtain ⟨b, off, x, rfl, hb, h1, hx⟩ := h.at n (by omega)
      cases hz : (x == 0)
      · have e : (trimL xs).length = n + 1 := by
          rw [trim_miss H.out (by omega) x hx.out (by simpa using hz), List.length_take]; omega
        have HE := Lib.hid e; clear e
        go_wp2
        go_ret
        refine ⟨?_, rfl⟩
        rw [HE.out]; rfl
      · have e := trim_hit H.out (by omega) x hx.out (by simpa using hz)
        have HE := Lib.hid e; clear e
        go_wp2
        go_round
        case rel => exact ⟨n, by omega, by go_num, HE.out⟩
        case measure => simp [intOf]

/-- what stands after fit: nothing if there are more than 50 limbs -/
def capL (xs : List Int) : List Int := if 50 < (trimL xs).length then [] else trimL xs
def Capped (a : Option Addr) (cap : Nat) (xs : List Int) (a' : Option Addr) (c' : Nat) : Prop := (a' = a ∧ c' = cap) ∨ (a' = none ∧ c' = 0 ∧ capL xs = [])
theorem Rd.trimL {w : World} {a : Option Addr} {xs : List Int} (h : Rd w a xs) : Rd w a (trimL xs) := by rw [trimL_take]; exact h.take _
theorem Own.trimL {w : World} {B : Nat} {a : Option Addr} {cap : Nat} {xs : List Int} (h : Own w B a cap xs) : Own w B a cap (trimL xs) := by
  rw [trimL_take]; exact h.take _ (trimL_length_le xs)
theorem Capped.rd {w : World} {a a' : Option Addr} {cap c' : Nat} {xs : List Int} (h : Capped a cap xs a' c') (hr : Rd w a xs) : Rd w a' (capL xs) := by
  rcases h with ⟨rfl, rfl⟩ | ⟨rfl, rfl, h⟩
  · unfold capL; split
    · exact Rd.nil _ _
    · exact hr.trimL
  · rw [h]; exact Rd.nil _ _
theorem Capped.own {w : World} {B : Nat} {a a' : Option Addr} {cap c' : Nat} {xs : List Int} (h : Capped a cap xs a' c') (hr : Own w B a cap xs) : Own w B a' c' (capL xs) := by
  rcases h with ⟨rfl, rfl⟩ | ⟨rfl, rfl, h⟩
  · unfold capL; split
    · exact hr.take 0 (Nat.zero_le _)
    · exact hr.trimL
  · rw [h]; exact Own.nil _ _
theorem Capped.le {a a' : Option Addr} {cap c' : Nat} {xs : List Int} (h : Capped a cap xs a' c') (hc : xs.length ≤ cap) : (capL xs).length ≤ c' := by
  rcases h with ⟨rfl, rfl⟩ | ⟨rfl, rfl, h⟩
  · unfold capL; split
    · simp
    · have := trimL_length_le xs; omega
  · rw [h]; simp
theorem capL_cut {xs : List Int} (h : 50 < (trimL xs).length) : capL xs = [] := if_pos h
theorem capL_keep {xs : List Int} (h : ¬ 50 < (trimL xs).length) : capL xs = trimL xs := if_neg h

theorem capL_limbs {xs : List Int} {n : Nat} (h : okL xs) (hv : val xs = n) : capL xs = limbs (capV n) := by
  unfold capL capV
  rw [trimL_limbs h, hv]
  simp only [Int.toNat_natCast]
  split <;> rfl
theorem trimL_val {xs : List Int} {n : Nat} (h : okL xs) (hv : val xs = n) : trimL xs = limbs n := by rw [trimL_limbs h, hv]; simp

theorem capL_nat (n : Nat) : capL (limbs n) = limbs (capV n) := capL_limbs (limbs_ok n) (val_limbs n)
theorem capV_len (n : Nat) : (limbs (capV n)).length ≤ 50 := by
  unfold capV; split
  · simp [limbs_zero]
  · omega

theorem fit_any (a : Option Addr) (cap : Nat) (xs : List Int) (w : World) (h : Rd w a xs) (hl : xs.length ≤ maxLen) (hc : xs.length ≤ cap) :
    Calls Try.prog 66 #[.slice a xs.length cap] w fun e w' => (∃ a' c', e = .returned (.slice a' (capL xs).length c') ∧ Capped a cap xs a' c') ∧ w = w' := by
  have hl' := hl
  have ht := trimL_length_le xs
  unfold maxLen at hl'
  by_cases h50 : 50 < (trimL xs).length
  · have H := Lib.hid (capL_cut h50)
    go_enter Try.func66, Try.ntmps66
    go_wp2_with fail
    refine (trim_any _ _ _ _ h hl hc).mono ?_
    rintro e w' ⟨rfl, rfl⟩
    go_wp2
    go_ret
    refine ⟨⟨none, 0, ?_, .inr ⟨rfl, rfl, H.out⟩⟩, rfl⟩
    rw [H.out]; rfl
  · have H := Lib.hid (capL_keep h50)
    go_enter Try.func66, Try.ntmps66
    go_wp2_with fail
    refine (trim_any _ _ _ _ h hl hc).mono ?_
    rintro e w' ⟨rfl, rfl⟩
    go_wp2
    go_ret
    refine ⟨⟨a, cap, ?_, .inl ⟨rfl, rfl⟩⟩, rfl⟩
    rw [H.out]; rfl
theorem l02Cap_any (a : Option Addr) (cap : Nat) (xs : List Int) (w : World) (h : Rd w a xs) (hl : xs.length ≤ maxLen) (hc : xs.length ≤ cap) :
    Calls Try.prog 74 #[.slice a xs.length cap] w fun e w' => (∃ a' c', e = .returned (.slice a' (capL xs).length c') ∧ Capped a cap xs a' c') ∧ w = w' := by
  have hl' := hl
  have ht := trimL_length_le xs
  unfold maxLen at hl'
  by_cases h50 : 50 < (trimL xs).length
  · have H := Lib.hid (capL_cut h50)
    go_enter Try.func74, Try.ntmps74
    go_wp2_with fail
    refine (l02Trim_any _ _ _ _ h hl hc).mono ?_
    rintro e w' ⟨rfl, rfl⟩
    go_wp2
    go_ret
    refine ⟨⟨none, 0, ?_, .inr ⟨rfl, rfl, H.out⟩⟩, rfl⟩
    rw [H.out]; rfl
  · have H := Lib.hid (capL_keep h50)
    go_enter Try.func74, Try.ntmps74
    go_wp2_with fail
    refine (l02Trim_any _ _ _ _ h hl hc).mono ?_
    rintro e w' ⟨rfl, rfl⟩
    go_wp2
    go_ret
    refine ⟨⟨a, cap, ?_, .inl ⟨rfl, rfl⟩⟩, rfl⟩
    rw [H.out]; rfl
theorem natCopy_any (a : Option Addr) (cap : Nat) (xs : List Int) (w : World) (h : Rd w a xs) (hl : xs.length ≤ 1099511627776) :
    Calls Try.prog 43 #[.slice a xs.length cap] w fun e w' => (∃ a' c', e = .returned (.slice a' xs.length c') ∧ Own w' w.heap.size a' c' xs) ∧ Below w.heap.size w w' := by
  have ho := Lib.hid (Own.empty w w.heap.size (Nat.le_refl _))
  have hb := (Below.refl w.heap.size w).alloc (Nat.le_refl _) (.cells #[] 3)
  have hr := h.below hb (Nat.le_refl _)
  go_enter Try.func43, Try.ntmps43
  go_wp2_with (at_builtin; refine appS _ rfl _ _ rfl w.heap.size _ _ [] a cap xs rfl rfl ho.out hr (by simp; omega) (by simp) ?_)
  intro a' c' w' ho' hb'
  have hb2 := hb.trans hb'
  clear hb' hb
  go_wp2
  go_ret
  exact ⟨⟨a', c', rfl, ho'⟩, hb2⟩
theorem natsOk_any (a b : Option Addr) (ca cb : Nat) (xs ys : List Int) (w : World) (hx : Rd w a xs) (hy : Rd w b ys) (lx : xs.length ≤ maxLen) (ly : ys.length ≤ maxLen) :
    Calls Try.prog 40 #[.slice a xs.length ca, .slice b ys.length cb] w fun e w' => e = .returned (.bool (natB xs && natB ys)) ∧ w = w' := by
  cases h1 : natB xs
  · go_enter Try.func40, Try.ntmps40
    go_wp2_with fail
    refine (impl_NatOk _ _ _ _ hx lx).mono ?_
    rintro e w' ⟨rfl, rfl⟩
    go_wp2
    go_ret
    exact ⟨rfl, rfl⟩
  · go_enter Try.func40, Try.ntmps40
    go_wp2_with fail
    refine (impl_NatOk _ _ _ _ hx lx).mono ?_
    rintro e w' ⟨rfl, rfl⟩
    go_wp2_with fail
    refine (impl_NatOk _ _ _ _ hy ly).mono ?_
    rintro e w' ⟨rfl, rfl⟩
    go_wp2
    go_ret
    exact ⟨rfl, rfl⟩
end Go.Proofs.Ytcibccaimjifmaa
