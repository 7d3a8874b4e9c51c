/- The walks of l02Cmp, NatCmp (reference) and natCmp, NatCmp (program): two natural numbers are compared. For every two slices within the reach. -/
import Derived.Test.YtcibccaimjifmaaWTrim
import Derived.Deep.QuietTactic
import Derived.BigQuiet
namespace Go.Proofs.Ytcibccaimjifmaa
open Go.RowKit
theorem cmpN_lt {m n : Nat} (h : m < n) : cmpN m n = -1 := by unfold cmpN; rw [if_pos h]
theorem cmpN_gt {m n : Nat} (h : n < m) : cmpN m n = 1 := by unfold cmpN; rw [if_neg (by omega), if_neg (by omega)]
theorem cmpN_eq (m : Nat) : cmpN m m = 0 := by unfold cmpN; simp
theorem cmp_len_lt {m n : Nat} (h : (limbs m).length < (limbs n).length) : cmpN m n = -1 := cmpN_lt (limbs_len_lt h)
theorem cmp_len_gt {m n : Nat} (h : (limbs n).length < (limbs m).length) : cmpN m n = 1 := cmpN_gt (limbs_len_lt h)
theorem cmp_top_lt {m n k : Nat} (hl : (limbs m).length = (limbs n).length) (hk : k < (limbs m).length) (hd : (limbs m).drop (k + 1) = (limbs n).drop (k + 1)) (h : (limbs m).getD k 0 < (limbs n).getD k 0) : m < n := by
  have := lt_of_top (limbs_ok m) (limbs_ok n) hl k hk hd h
  rw [val_limbs, val_limbs] at this; omega
theorem drop_step {xs ys : List Int} {k : Nat} (hl : xs.length = ys.length) (hk : k < xs.length) (hd : xs.drop (k + 1) = ys.drop (k + 1)) (h : xs.getD k 0 = ys.getD k 0) : xs.drop k = ys.drop k := by
  rw [drop_cons_getD xs k hk, drop_cons_getD ys k (by omega), hd, h]
theorem cmp_same {m n : Nat} (hd : (limbs m).drop 0 = (limbs n).drop 0) : cmpN m n = 0 := by
  rw [List.drop_zero, List.drop_zero] at hd
  rw [limbs_inj hd]; exact cmpN_eq n

set_option maxHeartbeats 1000000 in
theorem l02Cmp_any (a b : Option Addr) (ca cb m n : Nat) (w : World) (hx : Rd w a (limbs m)) (hy : Rd w b (limbs n)) (lx : (limbs m).length ≤ 1099511627776) (_ly : (limbs n).length ≤ 1099511627776) :
    Calls Try.prog 71 #[.slice a (limbs m).length ca, .slice b (limbs n).length cb] w fun e w' => e = .returned (.int .i64 (cmpN m n)) ∧ ∃ q, w' = w.drewN q := by
  by_cases hl : (limbs m).length = (limbs n).length
  · have hb1 : (((limbs m).length : Int) != ((limbs n).length : Int)) = false := by rw [bne_eq_false_iff_eq]; omega
    have HL := Lib.hid hl; clear hl
    go_enter Try.func71, Try.ntmps71
    go_wp2
    go_loopw [5] (fun i wr => ∃ q : Nat, wr = w.drewN q ∧ ((i = .int .i64 (-1) ∧ (limbs m).drop 0 = (limbs n).drop 0) ∨ ∃ k : Nat, k < (limbs m).length ∧ i = .int .i64 k ∧ (limbs m).drop (k + 1) = (limbs n).drop (k + 1))) (fun i _ => (intOf i + 1).toNat)
    case atStart =>
      refine ⟨0, rfl, ?_⟩
      by_cases h0 : (limbs m).length = 0
      · left
        refine ⟨by rw [h0]; rfl, ?_⟩
        rw [List.eq_nil_of_length_eq_zero h0, List.eq_nil_of_length_eq_zero (HL.out.symm.trans h0)]
      · right
        refine ⟨(limbs m).length - 1, by omega, by go_num, ?_⟩
        rw [List.drop_of_length_le (by omega), List.drop_of_length_le (by have := HL.out; omega)]
    case round =>
      obtain ⟨q, rfl, ⟨rfl, hd⟩ | ⟨k, hk, rfl, hd⟩⟩ := hrel
      · have H := Lib.hid hd; clear hd
        go_wp2
        go_ret
        exact ⟨ret_i64 (cmp_same H.out).symm, q, rfl⟩
      · have H := Lib.hid hd; clear hd
        have hky : k < (limbs n).length := by have := HL.out; omega
        obtain ⟨bx, ox, x, rfl, hbx, h1, hx1⟩ := hx.at k hk
        obtain ⟨by_, oy, y, rfl, hby, h2, hy1⟩ := hy.at k hky
        by_cases hlt : x < y
        · go_wp2
          go_quiet (fail)
          go_wp2
          go_ret
          exact ⟨ret_i64 (cmpN_lt (cmp_top_lt HL.out hk H.out (by rw [hx1.out, hy1.out]; exact hlt))).symm, _, World.drewN_drewN _ _ _⟩
        · by_cases hgt : y < x
          · go_wp2
            go_quiet (fail)
            go_wp2
            go_quiet (fail)
            go_wp2
            go_ret
            exact ⟨ret_i64 (cmpN_gt (cmp_top_lt HL.out.symm hky H.out.symm (by rw [hx1.out, hy1.out]; exact hgt))).symm, _, by rw [World.drewN_drewN, World.drewN_drewN]⟩
          · go_wp2
            go_quiet (fail)
            go_wp2
            go_quiet (fail)
            go_wp2
            go_roundw
            case rel =>
              refine ⟨_, rfl, ?_⟩
              have hd2 := drop_step HL.out hk H.out (by rw [hx1.out, hy1.out]; omega)
              cases k with
              | zero => left; exact ⟨rfl, hd2⟩
              | succ k => right; exact ⟨k, by omega, by go_num, hd2⟩
            case measure => simp [intOf]; try omega
  · have hb1 : (((limbs m).length : Int) != ((limbs n).length : Int)) = true := by rw [bne_iff_ne]; omega
    by_cases hlt : (limbs m).length < (limbs n).length
    · have hr := Lib.hid (cmp_len_lt hlt)
      go_enter Try.func71, Try.ntmps71
      go_wp2
      go_ret
      exact ⟨ret_i64 hr.out.symm, 0, rfl⟩
    · have hr := Lib.hid (cmp_len_gt (m := m) (n := n) (by omega))
      go_enter Try.func71, Try.ntmps71
      go_wp2
      go_ret
      exact ⟨ret_i64 hr.out.symm, 0, rfl⟩
set_option maxHeartbeats 1000000 in
theorem natCmp_any (a b : Option Addr) (ca cb m n : Nat) (w : World) (hx : Rd w a (limbs m)) (hy : Rd w b (limbs n)) (lx : (limbs m).length ≤ 1099511627776) (_ly : (limbs n).length ≤ 1099511627776) :
    Calls Try.prog 60 #[.slice a (limbs m).length ca, .slice b (limbs n).length cb] w fun e w' => e = .returned (.int .i64 (cmpN m n)) ∧ ∃ q, w' = w.drewN q := by
  by_cases hl : (limbs m).length = (limbs n).length
  · have hb1 : (((limbs m).length : Int) != ((limbs n).length : Int)) = false := by rw [bne_eq_false_iff_eq]; omega
    have HL := Lib.hid hl; clear hl
    go_enter Try.func60, Try.ntmps60
    go_wp2
    go_loopw [5] (fun i wr => ∃ q : Nat, wr = w.drewN q ∧ ((i = .int .i64 (-1) ∧ (limbs m).drop 0 = (limbs n).drop 0) ∨ ∃ k : Nat, k < (limbs m).length ∧ i = .int .i64 k ∧ (limbs m).drop (k + 1) = (limbs n).drop (k + 1))) (fun i _ => (intOf i + 1).toNat)
    case atStart =>
      refine ⟨0, rfl, ?_⟩
      by_cases h0 : (limbs m).length = 0
      · left
        refine ⟨by rw [h0]; rfl, ?_⟩
        rw [List.eq_nil_of_length_eq_zero h0, List.eq_nil_of_length_eq_zero (HL.out.symm.trans h0)]
      · right
        refine ⟨(limbs m).length - 1, by omega, by go_num, ?_⟩
        rw [List.drop_of_length_le (by omega), List.drop_of_length_le (by have := HL.out; omega)]
    case round =>
      obtain ⟨q, rfl, ⟨rfl, hd⟩ | ⟨k, hk, rfl, hd⟩⟩ := hrel
      · have H := Lib.hid hd; clear hd
        go_wp2
        go_ret
        exact ⟨ret_i64 (cmp_same H.out).symm, q, rfl⟩
      · have H := Lib.hid hd; clear hd
        have hky : k < (limbs n).length := by have := HL.out; omega
        obtain ⟨bx, ox, x, rfl, hbx, h1, hx1⟩ := hx.at k hk
        obtain ⟨by_, oy, y, rfl, hby, h2, hy1⟩ := hy.at k hky
        by_cases hlt : x < y
        · have hne : (x != y) = true := by rw [bne_iff_ne]; omega
          go_wp2
          go_quiet (fail)
          go_wp2
          go_quiet (fail)
          go_wp2
          go_ret
          exact ⟨ret_i64 (cmpN_lt (cmp_top_lt HL.out hk H.out (by rw [hx1.out, hy1.out]; exact hlt))).symm, _, by rw [World.drewN_drewN, World.drewN_drewN]⟩
        · by_cases hgt : y < x
          · have hne : (x != y) = true := by rw [bne_iff_ne]; omega
            go_wp2
            go_quiet (fail)
            go_wp2
            go_quiet (fail)
            go_wp2
            go_ret
            exact ⟨ret_i64 (cmpN_gt (cmp_top_lt HL.out.symm hky H.out.symm (by rw [hx1.out, hy1.out]; exact hgt))).symm, _, by rw [World.drewN_drewN, World.drewN_drewN]⟩
          · have hne : (x != y) = false := by rw [bne_eq_false_iff_eq]; omega
            go_wp2
            go_quiet (fail)
            go_wp2
            go_roundw
            case rel =>
              refine ⟨_, rfl, ?_⟩
              have hd2 := drop_step HL.out hk H.out (by rw [hx1.out, hy1.out]; omega)
              cases k with
              | zero => left; exact ⟨rfl, hd2⟩
              | succ k => right; exact ⟨k, by omega, by go_num, hd2⟩
            case measure => simp [intOf]; try omega
  · have hb1 : (((limbs m).length : Int) != ((limbs n).length : Int)) = true := by rw [bne_iff_ne]; omega
    by_cases hlt : (limbs m).length < (limbs n).length
    · have hr := Lib.hid (cmp_len_lt hlt)
      go_enter Try.func60, Try.ntmps60
      go_wp2
      go_ret
      exact ⟨ret_i64 hr.out.symm, 0, rfl⟩
    · have hr := Lib.hid (cmp_len_gt (m := m) (n := n) (by omega))
      go_enter Try.func60, Try.ntmps60
      go_wp2
      go_ret
      exact ⟨ret_i64 hr.out.symm, 0, rfl⟩

theorem fCmp_no1 {xs ys : List Int} (h : natB xs = false) : fCmp xs ys = 0 := by unfold fCmp; rw [h]; rfl
theorem fCmp_no2 {xs ys : List Int} (h : natB ys = false) : fCmp xs ys = 0 := by unfold fCmp; rw [h, Bool.and_false]; rfl
theorem fCmp_yes {m n : Nat} (h1 : natB (limbs m) = true) (h2 : natB (limbs n) = true) : fCmp (limbs m) (limbs n) = cmpN m n := by
  unfold fCmp; rw [h1, h2, nv_limbs, nv_limbs]; rfl
end Go.Proofs.Ytcibccaimjifmaa
