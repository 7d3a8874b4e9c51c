/- Plain facts on signed integers. No program. The walk of intNeg (program). The walks of l02Cmp, NatCmp (reference) and natCmp, NatCmp (program): two natural numbers are compared. For every two slices within the reach. -/
import Derived.Test.YtogkonenejfgmaaGreatDoorM06
import Derived.Deep.RegionHeld3
import Derived.Deep.QuietTactic
import Derived.BigQuiet
import Derived.Test.YtogkonenejfgmaaGreatDoorM03
namespace Go.Proofs.YtogkonenejfgmaaGreatDoor
def zOf (neg : Bool) (n : Nat) : Int := if neg then -(n : Int) else (n : Int)
def sg (z : Int) : Bool × List Int := (decide (z < 0), limbs z.natAbs)
def sv (neg : Bool) (xs : List Int) : Int := zOf neg (nv xs)
def capZ (z : Int) : Int := if 50 < (limbs z.natAbs).length then 0 else z
theorem limbs_len0 (n : Nat) : decide (0 < (limbs n).length) = decide (n ≠ 0) := by
  by_cases h : n = 0
  · subst h; rfl
  · rw [limbs_pos h]; simp [h]
theorem limbs_len_pos {n : Nat} : 0 < (limbs n).length ↔ n ≠ 0 := by
  have := limbs_len0 n; exact decide_eq_decide.1 this
theorem sg_zOf (neg : Bool) (n : Nat) : sg (zOf neg n) = (neg && decide (0 < (limbs n).length), limbs n) := by
  rw [limbs_len0]
  unfold sg zOf
  cases neg
  · simp
  · by_cases h : n = 0
    · simp [h]
    · simp [h]; omega
theorem zOf_abs (neg : Bool) (n : Nat) : (zOf neg n).natAbs = n := by unfold zOf; cases neg <;> simp
theorem zOf_add (neg : Bool) (m n : Nat) : zOf neg m + zOf neg n = zOf neg (m + n) := by unfold zOf; cases neg <;> simp; omega
theorem zOf_sub {b1 b2 : Bool} (hb : b1 ≠ b2) {m n : Nat} (h : n ≤ m) : zOf b1 m + zOf b2 n = zOf b1 (m - n) := by
  unfold zOf; cases b1 <;> cases b2 <;> simp at * <;> omega
theorem zOf_mul (b1 b2 : Bool) (m n : Nat) : zOf b1 m * zOf b2 n = zOf (b1 != b2) (m * n) := by
  unfold zOf; cases b1 <;> cases b2 <;> simp [Int.neg_mul, Int.mul_neg]
theorem zOf_neg (b : Bool) (n : Nat) : -(zOf b n) = zOf (!b) n := by unfold zOf; cases b <;> simp
theorem capZ_zOf (b : Bool) (n : Nat) : capZ (zOf b n) = zOf b (capV n) := by
  unfold capZ capV; rw [zOf_abs]; split
  · cases b <;> rfl
  · rfl
theorem capZ_len (z : Int) : (limbs (capZ z).natAbs).length ≤ 50 := by
  unfold capZ; split
  · simp [limbs_zero]
  · omega
theorem sg_of (z : Int) : ∃ b n, z = zOf b n ∧ sg z = (b, limbs n) ∧ (b = true → n ≠ 0) := by
  refine ⟨decide (z < 0), z.natAbs, ?_, rfl, ?_⟩
  · unfold zOf; by_cases h : z < 0 <;> simp [h] <;> omega
  · intro h; simp at h; omega
theorem intB_elim {neg : Bool} {xs : List Int} (h : intB neg xs = true) : ∃ n, xs = limbs n ∧ (limbs n).length ≤ 50 ∧ (neg = true → n ≠ 0) ∧ sv neg xs = zOf neg n ∧ neg = (neg && decide (0 < (limbs n).length)) := by
  unfold intB at h
  simp only [Bool.and_eq_true] at h
  obtain ⟨n, rfl, hn⟩ := natB_elim h.1
  have h2 := h.2
  refine ⟨n, rfl, hn, ?_, ?_, ?_⟩
  · intro hg; subst hg
    rw [limbs_len0] at h2
    simpa using h2
  · unfold sv; rw [nv_limbs]
  · cases neg
    · rfl
    · simpa using h2.symm
theorem intB_sg {z : Int} (h : (limbs z.natAbs).length ≤ 50) : intB (sg z).1 (sg z).2 = true := by
  unfold intB sg
  simp only [natB_of h, Bool.true_and]
  rw [limbs_len0]
  by_cases h0 : z < 0
  · have : z.natAbs ≠ 0 := by omega
    simp [h0, this]
  · simp [h0]
theorem sv_sg (z : Int) : sv (sg z).1 (sg z).2 = z := by
  unfold sv sg zOf; rw [nv_limbs]
  by_cases h : z < 0 <;> simp [h] <;> omega
theorem len_mul (m n : Nat) : (limbs (m * n)).length ≤ (limbs m).length + (limbs n).length := by
  rw [limbs_len_le, Nat.pow_add]
  exact Nat.mul_lt_mul'' (limbs_lt_val m) (limbs_lt_val n)
theorem len_add (m n : Nat) : (limbs (m + n)).length ≤ (limbs m).length + (limbs n).length + 1 := by
  rw [limbs_len_le]
  have h1 := limbs_lt_val m
  have h2 := limbs_lt_val n
  have h3 : 1000000000 ^ (limbs m).length ≤ 1000000000 ^ ((limbs m).length + (limbs n).length) := Nat.pow_le_pow_right (by omega) (by omega)
  have h4 : 1000000000 ^ (limbs n).length ≤ 1000000000 ^ ((limbs m).length + (limbs n).length) := Nat.pow_le_pow_right (by omega) (by omega)
  rw [Nat.pow_succ]; omega
theorem len_sub (m n : Nat) : (limbs (m - n)).length ≤ (limbs m).length := limbs_len_mono (by omega)
def fNeg (neg : Bool) (xs : List Int) : Bool × List Int := if intB neg xs then sg (-(sv neg xs)) else (false, [])
def fAbs (neg : Bool) (xs : List Int) : Bool × List Int := if intB neg xs then sg (sv neg xs).natAbs else (false, [])
def fIAdd (b1 : Bool) (xs : List Int) (b2 : Bool) (ys : List Int) : Bool × List Int := if intB b1 xs && intB b2 ys then sg (capZ (sv b1 xs + sv b2 ys)) else (false, [])
def fISub (b1 : Bool) (xs : List Int) (b2 : Bool) (ys : List Int) : Bool × List Int := if intB b1 xs && intB b2 ys then sg (capZ (sv b1 xs - sv b2 ys)) else (false, [])
def fIMul (b1 : Bool) (xs : List Int) (b2 : Bool) (ys : List Int) : Bool × List Int := if intB b1 xs && intB b2 ys then sg (capZ (sv b1 xs * sv b2 ys)) else (false, [])
def sgnZ (z : Int) : Int := if z < 0 then -1 else if z = 0 then 0 else 1
def fICmp (b1 : Bool) (xs : List Int) (b2 : Bool) (ys : List Int) : Int := if intB b1 xs && intB b2 ys then sgnZ (sv b1 xs - sv b2 ys) else 0
def fISign (b1 : Bool) (xs : List Int) : Int := if intB b1 xs then sgnZ (sv b1 xs) else 0
def fINum (neg : Bool) (xs : List Int) : Int × Bool := if intB neg xs = true ∧ nv xs ≤ 9223372036854775807 then (sv neg xs, true) else (0, false)
end Go.Proofs.YtogkonenejfgmaaGreatDoor
namespace Go.Proofs.YtogkonenejfgmaaGreatDoor
open Go.RowKit
theorem keep2 {W w1 : World} {b : Nat} {u v : Value} (hb : Below W.heap.size W w1) (hlt : b < W.heap.size) (h0 : W.cell? ⟨b, 0, none⟩ = some u) (h1 : W.cell? ⟨b, 1, none⟩ = some v) :
    w1.cell? ⟨b, 0, none⟩ = some u ∧ w1.cell? ⟨b, 1, none⟩ = some v :=
  ⟨(hb.cell (p := ⟨b, 0, none⟩) hlt).trans h0, (hb.cell (p := ⟨b, 1, none⟩) hlt).trans h1⟩
theorem keepf {W w1 : World} {b : Nat} (hb : Below W.heap.size W w1) (hlt : b < W.heap.size) (h0 : W.frozen? ⟨b, 0, none⟩ = false) (h1 : W.frozen? ⟨b, 1, none⟩ = false) :
    w1.frozen? ⟨b, 0, none⟩ = false ∧ w1.frozen? ⟨b, 1, none⟩ = false :=
  ⟨(hb.frozen (p := ⟨b, 0, none⟩) hlt).trans h0, (hb.frozen (p := ⟨b, 1, none⟩) hlt).trans h1⟩
set_option maxHeartbeats 1600000 in
theorem intNeg_any (neg : Bool) (a : Option Addr) (c : Nat) (xs : List Int) (w : World) (hx : In w a c xs) :
    Calls Tryz.prog 46 #[.agg #[.bool neg, .slice a xs.length c]] w fun e w' => (∃ a' c', e = .returned (.agg #[.bool (!neg && decide (0 < xs.length)), .slice a' xs.length c']) ∧ Own w' w.heap.size a' c' xs) ∧ Below w.heap.size w w' := by
  have hl := hx.2.2
  have hb0 := (bel_alloc w (.cells #[.bool neg, .slice a xs.length c] 25)).trans ((bel_alloc _ (.cells #[.bool false, .slice none 0 0] 25)).mono (by simp))
  go_enter Tryz.func46, Tryz.ntmps46
  go_wp2_with fail
  go_region_held3 (fun w' => w'.cell? ⟨w.heap.size, 0, none⟩ = some (.bool neg) ∧ w'.cell? ⟨w.heap.size, 1, none⟩ = some (.slice a xs.length c))
    (first | go_keep | exact hk2 | exact hk1)
    (first | (go_at_call 47; refine (natCopy_any _ _ _ _ (hx.1.below hb0.drew (Nat.le_refl _)) hl).mono ?_; rintro e w1 ⟨⟨a1, c1, rfl, ho1⟩, hb1⟩; have hz1 := hb1.size; simp only [World.size_drew, World.size_alloc] at hz1; have hk1 := keep2 (b := w.heap.size) (u := .bool neg) (v := .slice a xs.length c) hb1 (by simp; omega) (by simp) (by simp); have hr1 := keep2 (b := w.heap.size + 1) (u := .bool false) (v := .slice none 0 0) hb1 (by simp) (by simp) (by simp); have hf1 := keepf (b := w.heap.size + 1) hb1 (by simp) (by simp) (by simp)) | (go_at_call 31; refine (signed_any _ _ _ _ _ hl).mono ?_; rintro e w2 ⟨rfl, hb2⟩; have hk2 := keep2 hb2 (by omega) hk1.1 hk1.2; obtain ⟨hr2a, hr2b⟩ := keep2 hb2 (by omega) hr1.1 hr1.2; obtain ⟨hf2a, hf2b⟩ := keepf hb2 (by omega) hf1.1 hf1.2))
  go_wp2
  refine bodyPost_ret (v := .agg #[.bool (!neg && decide (0 < xs.length)), .slice a1 xs.length c1]) (by simp [results, Tryz.results46, go_sem, hr2a, hr2b]) rfl ⟨⟨a1, c1, rfl, ?_⟩, ?_⟩
  · exact own_set (B0 := w.heap.size + 2) (own_set (B := w.heap.size + 2) (B0 := w.heap.size + 2) ((ho1.mono (B' := w.heap.size + 2) (by simp)).below hb2 (Nat.le_refl _)) (by dsimp only; omega) _ (Nat.le_refl _)) (by dsimp only; omega) _ (by omega)
  · exact (((hb0.drew.trans (hb1.mono (by simp; omega))).trans (hb2.mono (by omega))).setCell (by dsimp only; omega) _).setCell (by dsimp only; omega) _
end Go.Proofs.YtogkonenejfgmaaGreatDoor
namespace Go.Proofs.YtogkonenejfgmaaGreatDoor
open Go.RowKit
theorem cmpN_lt {m n : Nat} (h : m < n) : cmpN m n = -1 := by unfold cmpN; rw [if_pos h]
theorem cmpN_gt {m n : Nat} (h : n < m) : cmpN m n = 1 := by unfold cmpN; rw [if_neg (by omega), if_neg (by omega)]
theorem cmpN_eq (m : Nat) : cmpN m m = 0 := by unfold cmpN; simp
theorem cmp_len_lt {m n : Nat} (h : (limbs m).length < (limbs n).length) : cmpN m n = -1 := cmpN_lt (limbs_len_lt h)
theorem cmp_len_gt {m n : Nat} (h : (limbs n).length < (limbs m).length) : cmpN m n = 1 := cmpN_gt (limbs_len_lt h)
theorem cmp_top_lt {m n k : Nat} (hl : (limbs m).length = (limbs n).length) (hk : k < (limbs m).length) (hd : (limbs m).drop (k + 1) = (limbs n).drop (k + 1)) (h : (limbs m).getD k 0 < (limbs n).getD k 0) : m < n := by
  have := lt_of_top (limbs_ok m) (limbs_ok n) hl k hk hd h
  rw [val_limbs, val_limbs] at this; omega
theorem drop_step {xs ys : List Int} {k : Nat} (hl : xs.length = ys.length) (hk : k < xs.length) (hd : xs.drop (k + 1) = ys.drop (k + 1)) (h : xs.getD k 0 = ys.getD k 0) : xs.drop k = ys.drop k := by
  rw [drop_cons_getD xs k hk, drop_cons_getD ys k (by omega), hd, h]
theorem cmp_same {m n : Nat} (hd : (limbs m).drop 0 = (limbs n).drop 0) : cmpN m n = 0 := by
  rw [List.drop_zero, List.drop_zero] at hd
  rw [limbs_inj hd]; exact cmpN_eq n

set_option maxHeartbeats 1000000 in
theorem l02Cmp_any (a b : Option Addr) (ca cb m n : Nat) (w : World) (hx : Rd w a (limbs m)) (hy : Rd w b (limbs n)) (lx : (limbs m).length ≤ 1099511627776) (_ly : (limbs n).length ≤ 1099511627776) :
    Calls Tryz.prog 79 #[.slice a (limbs m).length ca, .slice b (limbs n).length cb] w fun e w' => e = .returned (.int .i64 (cmpN m n)) ∧ ∃ q, w' = w.drewN q := by
  by_cases hl : (limbs m).length = (limbs n).length
  · have hb1 : (((limbs m).length : Int) != ((limbs n).length : Int)) = false := by rw [bne_eq_false_iff_eq]; omega
    have HL := Lib.hid hl; clear hl
    go_enter Tryz.func79, Tryz.ntmps79
    go_wp2
    go_loopw [5] (fun i wr => ∃ q : Nat, wr = w.drewN q ∧ ((i = .int .i64 (-1) ∧ (limbs m).drop 0 = (limbs n).drop 0) ∨ ∃ k : Nat, k < (limbs m).length ∧ i = .int .i64 k ∧ (limbs m).drop (k + 1) = (limbs n).drop (k + 1))) (fun i _ => (intOf i + 1).toNat)
    case atStart =>
      refine ⟨0, rfl, ?_⟩
      by_cases h0 : (limbs m).length = 0
      · left
        refine ⟨by rw [h0]; rfl, ?_⟩
        rw [List.eq_nil_of_length_eq_zero h0, List.eq_nil_of_length_eq_zero (HL.out.symm.trans h0)]
      · right
        refine ⟨(limbs m).length - 1, by omega, by go_num, ?_⟩
        rw [List.drop_of_length_le (by omega), List.drop_of_length_le (by have := HL.out; omega)]
    case round =>
      obtain ⟨q, rfl, ⟨rfl, hd⟩ | ⟨k, hk, rfl, hd⟩⟩ := hrel
      · have H := Lib.hid hd; clear hd
        go_wp2
        go_ret
        exact ⟨ret_i64 (cmp_same H.out).symm, q, rfl⟩
      · have H := Lib.hid hd; clear hd
        have hky : k < (limbs n).length := by have := HL.out; omega
        obtain ⟨bx, ox, x, rfl, hbx, h1, hx1⟩ := hx.at k hk
        obtain ⟨by_, oy, y, rfl, hby, h2, hy1⟩ := hy.at k hky
        by_cases hlt : x < y
        · go_wp2
          go_quiet (fail)
          go_wp2
          go_ret
          exact ⟨ret_i64 (cmpN_lt (cmp_top_lt HL.out hk H.out (by rw [hx1.out, hy1.out]; exact hlt))).symm, _, World.drewN_drewN _ _ _⟩
        · by_cases hgt : y < x
          · go_wp2
            go_quiet (fail)
            go_wp2
            go_quiet (fail)
            go_wp2
            go_ret
            exact ⟨ret_i64 (cmpN_gt (cmp_top_lt HL.out.symm hky H.out.symm (by rw [hx1.out, hy1.out]; exact hgt))).symm, _, by rw [World.drewN_drewN, World.drewN_drewN]⟩
          · go_wp2
            go_quiet (fail)
            go_wp2
            go_quiet (fail)
            go_wp2
            go_roundw
            case rel =>
              refine ⟨_, rfl, ?_⟩
              have hd2 := drop_step HL.out hk H.out (by rw [hx1.out, hy1.out]; omega)
              cases k with
              | zero => left; exact ⟨rfl, hd2⟩
              | succ k => right; exact ⟨k, by omega, by go_num, hd2⟩
            case measure => simp [intOf]; try omega
  · have hb1 : (((limbs m).length : Int) != ((limbs n).length : Int)) = true := by rw [bne_iff_ne]; omega
    by_cases hlt : (limbs m).length < (limbs n).length
    · have hr := Lib.hid (cmp_len_lt hlt)
      go_enter Tryz.func79, Tryz.ntmps79
      go_wp2
      go_ret
      exact ⟨ret_i64 hr.out.symm, 0, rfl⟩
    · have hr := Lib.hid (cmp_len_gt (m := m) (n := n) (by omega))
      go_enter Tryz.func79, Tryz.ntmps79
      go_wp2
      go_ret
      exact ⟨ret_i64 hr.out.symm, 0, rfl⟩
set_option maxHeartbeats 1000000 in
theorem natCmp_any (a b : Option Addr) (ca cb m n : Nat) (w : World) (hx : Rd w a (limbs m)) (hy : Rd w b (limbs n)) (lx : (limbs m).length ≤ 1099511627776) (_ly : (limbs n).length ≤ 1099511627776) :
    Calls Tryz.prog 43 #[.slice a (limbs m).length ca, .slice b (limbs n).length cb] w fun e w' => e = .returned (.int .i64 (cmpN m n)) ∧ ∃ q, w' = w.drewN q := by
  by_cases hl : (limbs m).length = (limbs n).length
  · have hb1 : (((limbs m).length : Int) != ((limbs n).length : Int)) = false := by rw [bne_eq_false_iff_eq]; omega
    have HL := Lib.hid hl; clear hl
    go_enter Tryz.func43, Tryz.ntmps43
    go_wp2
    go_loopw [5] (fun i wr => ∃ q : Nat, wr = w.drewN q ∧ ((i = .int .i64 (-1) ∧ (limbs m).drop 0 = (limbs n).drop 0) ∨ ∃ k : Nat, k < (limbs m).length ∧ i = .int .i64 k ∧ (limbs m).drop (k + 1) = (limbs n).drop (k + 1))) (fun i _ => (intOf i + 1).toNat)
    case atStart =>
      refine ⟨0, rfl, ?_⟩
      by_cases h0 : (limbs m).length = 0
      · left
        refine ⟨by rw [h0]; rfl, ?_⟩
        rw [List.eq_nil_of_length_eq_zero h0, List.eq_nil_of_length_eq_zero (HL.out.symm.trans h0)]
      · right
        refine ⟨(limbs m).length - 1, by omega, by go_num, ?_⟩
        rw [List.drop_of_length_le (by omega), List.drop_of_length_le (by have := HL.out; omega)]
    case round =>
      obtain ⟨q, rfl, ⟨rfl, hd⟩ | ⟨k, hk, rfl, hd⟩⟩ := hrel
      · have H := Lib.hid hd; clear hd
        go_wp2
        go_ret
        exact ⟨ret_i64 (cmp_same H.out).symm, q, rfl⟩
      · have H := Lib.hid hd; clear hd
        have hky : k < (limbs n).length := by have := HL.out; omega
        obtain ⟨bx, ox, x, rfl, hbx, h1, hx1⟩ := hx.at k hk
        obtain ⟨by_, oy, y, rfl, hby, h2, hy1⟩ := hy.at k hky
        by_cases hlt : x < y
        · have hne : (x != y) = true := by rw [bne_iff_ne]; omega
          go_wp2
          go_quiet (fail)
          go_wp2
          go_quiet (fail)
          go_wp2
          go_ret
          exact ⟨ret_i64 (cmpN_lt (cmp_top_lt HL.out hk H.out (by rw [hx1.out, hy1.out]; exact hlt))).symm, _, by rw [World.drewN_drewN, World.drewN_drewN]⟩
        · by_cases hgt : y < x
          · have hne : (x != y) = true := by rw [bne_iff_ne]; omega
            go_wp2
            go_quiet (fail)
            go_wp2
            go_quiet (fail)
            go_wp2
            go_ret
            exact ⟨ret_i64 (cmpN_gt (cmp_top_lt HL.out.symm hky H.out.symm (by rw [hx1.out, hy1.out]; exact hgt))).symm, _, by rw [World.drewN_drewN, World.drewN_drewN]⟩
          · have hne : (x != y) = false := by rw [bne_eq_false_iff_eq]; omega
            go_wp2
            go_quiet (fail)
            go_wp2
            go_roundw
            case rel =>
              refine ⟨_, rfl, ?_⟩
              have hd2 := drop_step HL.out hk H.out (by rw [hx1.out, hy1.out]; omega)
              cases k with
              | zero => left; exact ⟨rfl, hd2⟩
              | succ k => right; exact ⟨k, by omega, by go_num, hd2⟩
            case measure => simp [intOf]; try omega
  · have hb1 : (((limbs m).length : Int) != ((limbs n).length : Int)) = true := by rw [bne_iff_ne]; omega
    by_cases hlt : (limbs m).length < (limbs n).length
    · have hr := Lib.hid (cmp_len_lt hlt)
      go_enter Tryz.func43, Tryz.ntmps43
      go_wp2
      go_ret
      exact ⟨ret_i64 hr.out.symm, 0, rfl⟩
    · have hr := Lib.hid (cmp_len_gt (m := m) (n := n) (by omega))
      go_enter Tryz.func43, Tryz.ntmps43
      go_wp2
      go_ret
      exact ⟨ret_i64 hr.out.symm, 0, rfl⟩

theorem fCmp_no1 {xs ys : List Int} (h : natB xs = false) : fCmp xs ys = 0 := by unfold fCmp; rw [h]; rfl
theorem fCmp_no2 {xs ys : List Int} (h : natB ys = false) : fCmp xs ys = 0 := by unfold fCmp; rw [h, Bool.and_false]; rfl
theorem fCmp_yes {m n : Nat} (h1 : natB (limbs m) = true) (h2 : natB (limbs n) = true) : fCmp (limbs m) (limbs n) = cmpN m n := by
  unfold fCmp; rw [h1, h2, nv_limbs, nv_limbs]; rfl
end Go.Proofs.YtogkonenejfgmaaGreatDoor
