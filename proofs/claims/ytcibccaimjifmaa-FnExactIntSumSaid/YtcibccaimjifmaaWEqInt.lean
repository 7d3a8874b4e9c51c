/- The walks of the laws' helpers eqIntS (two slices of ints are compared) and toIntS (a slice of ints is copied). For every slice within the reach. -/
import Derived.Test.YtcibccaimjifmaaMem
import Derived.Test.YtcibccaimjifmaaNat
import Derived.Test.YtcibccaimjifmaaStr
import Derived.Deep.QuietTactic
import Derived.BigQuiet
namespace Go.Proofs.Ytcibccaimjifmaa
open Go.RowKit
theorem eq_step {xs ys : List Int} {k : Nat} (h : xs.take k = ys.take k) (hx : k < xs.length) (hy : k < ys.length) (e : xs.getD k 0 = ys.getD k 0) : xs.take (k + 1) = ys.take (k + 1) := by
  rw [take_succ_getD xs k hx, take_succ_getD ys k hy, h, e]
theorem ne_at {xs ys : List Int} {k : Nat} (e : xs.getD k 0 ≠ ys.getD k 0) : decide (xs = ys) = false := by
  rw [decide_eq_false_iff_not]; intro h; rw [h] at e; exact e rfl

set_option maxHeartbeats 400000 in
theorem eqIntS_any (a b : Option Addr) (ca cb : Nat) (xs ys : List Int) (w : World) (hx : Rd w a xs) (hy : Rd w b ys) (lx : xs.length ≤ maxLen) (_ly : ys.length ≤ maxLen) :
    Calls Try.prog 30 #[.slice a xs.length ca, .slice b ys.length cb] w fun e w' => e = .returned (.bool (decide (xs = ys))) ∧ ∃ n, w' = w.drewN n := by
  unfold maxLen at lx
  by_cases hl : xs.length = ys.length
  · have hb1 : ((xs.length : Int) != (ys.length : Int)) = false := by rw [bne_eq_false_iff_eq]; omega
    have hl1 := Lib.hid hl
    clear hl
    go_enter Try.func30, Try.ntmps30
    go_wp2
    go_loopw [5] (fun i wr => ∃ k n : Nat, k ≤ xs.length ∧ i = .int .i64 k ∧ xs.take k = ys.take k ∧ wr = w.drewN n) (fun i _ => xs.length - (intOf i).toNat)
    case atStart => exact ⟨0, 0, Nat.zero_le _, rfl, rfl, rfl⟩
    case round =>
      obtain ⟨k, n, hk, rfl, he, rfl⟩ := hrel
      have H := Lib.hid he; clear he
      by_cases hlt : k < xs.length
      · have hky : k < ys.length := by have := hl1.out; omega
        obtain ⟨bx, ox, x, rfl, hbx, h1, hx1⟩ := hx.at k hlt
        obtain ⟨by_, oy, y, rfl, hby, h2, hy1⟩ := hy.at k hky
        go_wp2
        go_quiet (fail)
        go_wp2
        · have ht : (x != y) = true := by assumption
          go_ret
          exact ⟨ret_bool (ne_at (by rw [hx1.out, hy1.out]; exact bne_iff_ne.1 ht)).symm, ⟨_, World.drewN_drewN _ _ _⟩⟩
        · have ht : (x != y) = false := by assumption
          go_roundw
          case rel => exact ⟨k + 1, _, by omega, by go_num, eq_step H.out hlt hky (by rw [hx1.out, hy1.out]; exact bne_eq_false_iff_eq.1 ht), rfl⟩
          case measure => simp [intOf]; omega
      · go_wp2
        go_ret
        refine ⟨ret_bool ?_, ⟨n, rfl⟩⟩
        have := H.out
        rw [List.take_of_length_le (by omega), List.take_of_length_le (by have := hl1.out; omega)] at this
        simp [this]
  · have hb1 : ((xs.length : Int) != (ys.length : Int)) = true := by rw [bne_iff_ne]; omega
    go_enter Try.func30, Try.ntmps30
    go_wp2
    go_ret
    refine ⟨ret_bool ?_, ⟨0, rfl⟩⟩
    symm
    rw [decide_eq_false_iff_not]
    intro e; rw [e] at hl; exact hl rfl


set_option maxHeartbeats 400000 in
theorem toIntS_any (a : Option Addr) (ca : Nat) (xs : List Int) (w : World) (hx : Rd w a xs) (lx : xs.length ≤ 17592186044416) :
    Calls Try.prog 52 #[.slice a xs.length ca] w fun e w' => (∃ a' c', e = .returned (.slice a' xs.length c') ∧ Own w' w.heap.size a' c' xs) ∧ Below w.heap.size w w' := by
  obtain ⟨i0, hi, hz0, hz1, hz2⟩ := info_parts Try.infoInt
  go_enter Try.func52, Try.ntmps52
  go_wp2_with (at_make; refine wpList_make_full _ rfl _ _ 24 rfl w.heap.size 3 i0 (.int .i64 0) 1 Try.underlying24 hi hz0 hz1 .i64 .i64 _ _ xs.length rfl rfl rfl rfl (by rw [hz2]; omega) (by unfold maxLen; omega) (Nat.le_refl _) ?_)
  intro w1 hown hgrow
  have ho1 := Lib.hid (Own.made hown)
  have hb1 : Below w.heap.size w w1 := (Below.refl _ _).grown hgrow (Nat.le_refl _) (by intro k h; cases h)
  clear hown hgrow
  go_wp2
  go_loopw [4] (fun i wr => ∃ k : Nat, k ≤ xs.length ∧ i = .int .i64 k ∧ Own wr w.heap.size (some ⟨w.heap.size, 0, none⟩) xs.length (xs.take k ++ List.replicate (xs.length - k) 0) ∧ Below w.heap.size w wr) (fun i _ => xs.length - (intOf i).toNat)
  case atStart => exact ⟨0, Nat.zero_le _, rfl, by simpa using ho1.out, hb1⟩
  case round =>
    obtain ⟨k, hk, rfl, hown, hb⟩ := hrel
    have hr := hx.below hb (Nat.le_refl _)
    by_cases hlt : k < xs.length
    · obtain ⟨bx, ox, x, rfl, hbx, h1, hx1⟩ := hr.at k hlt
      obtain ⟨y, h2, _⟩ := hown.cellAt k (by simp; omega)
      have h3 := hown.frozenAt k
      have hs := hown.stored k x
      rw [fill_step hlt x hx1.out rfl] at hs
      have hs2 := Lib.hid hs
      have hb2 : Below w.heap.size w (wr.setCell ⟨w.heap.size, k, none⟩ (.int .i64 x)) := hb.setCell (Nat.le_refl _) _
      clear hs hown hr
      go_wp2
      go_roundw
      case rel => exact ⟨k + 1, by omega, by go_num, hs2.out, hb2⟩
      case measure => simp [intOf]; omega
    · have e : k = xs.length := by omega
      subst e
      go_wp2
      go_ret
      refine ⟨⟨_, _, rfl, ?_⟩, hb⟩
      simpa using hown
theorem eqIntS_same (a b : Option Addr) (ca cb : Nat) (xs : List Int) (w : World) (hx : Rd w a xs) (hy : Rd w b xs) (lx : xs.length ≤ 1099511627776) :
    Calls Try.prog 30 #[.slice a xs.length ca, .slice b xs.length cb] w fun e w' => e = .returned (.bool true) ∧ Below w.heap.size w w' := by
  have hm : xs.length ≤ maxLen := by unfold maxLen; omega
  refine (eqIntS_any a b ca cb xs xs w hx hy hm hm).mono fun e w' ⟨he, n, hn⟩ => ⟨?_, ?_⟩
  · rw [he]; simp
  · rw [hn]; exact bel_draw _ _
end Go.Proofs.Ytcibccaimjifmaa
