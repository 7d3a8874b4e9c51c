/- The walks of l02Sub, NatSub (reference) and natSub, NatSub (program): the difference of two natural numbers. For every two slices within the reach. -/
import Derived.Test.YtogkonenejfgmaaDoorWCmp
namespace Go.Proofs.YtogkonenejfgmaaDoor
open Go.RowKit

theorem snoc_set {zs : List Int} {k n : Nat} {d : Int} (hl : zs.length = k) (hn : 0 < n - k) : (zs ++ List.replicate (n - k) 0).set k d = (zs ++ [d]) ++ List.replicate (n - (k + 1)) 0 := by
  subst hl
  have e : n - zs.length = (n - (zs.length + 1)) + 1 := by omega
  rw [e, List.replicate_succ, List.set_append_right _ _ (Nat.le_refl _), Nat.sub_self]
  simp

set_option maxRecDepth 100000 in
set_option maxHeartbeats 3200000 in
theorem natSub_any (a b : Option Addr) (ca cb m n : Nat) (w : World) (hx : Rd w a (limbs m)) (hy : Rd w b (limbs n)) (lx : (limbs m).length ≤ 1099511627776) (hle : n ≤ m) :
    Calls Tryd.prog 64 #[.slice a (limbs m).length ca, .slice b (limbs n).length cb] w fun e w' => (∃ a' c', e = .returned (.slice a' (limbs (m - n)).length c') ∧ Own w' w.heap.size a' c' (limbs (m - n))) ∧ Below w.heap.size w w' := by
  obtain ⟨i0, hi, hz0, hz1, hz2⟩ := info_parts Tryd.infoInt
  have ly := limbs_len_mono hle
  have HLE := Lib.hid hle; clear hle
  go_enter Tryd.func64, Tryd.ntmps64
  go_wp2_with (at_make; refine wpList_make_full _ rfl _ _ 34 rfl w.heap.size 3 i0 (.int .i64 0) 1 Tryd.underlying34 hi hz0 hz1 .i64 .i64 _ _ (limbs m).length rfl rfl rfl rfl (by rw [hz2]; omega) (by unfold maxLen; omega) (Nat.le_refl _) ?_)
  intro w1 hown0 hgrow
  have HO1 := Lib.hid (Own.made hown0)
  have hb1 : Below w.heap.size w w1 := (Below.refl _ _).grown hgrow (Nat.le_refl _) (by intro k h; cases h)
  clear hown0 hgrow
  go_wp2
  go_loopw [6, 7, 8, 14] (fun cc _ _ i wr => ∃ (k : Nat) (c : Int) (zs : List Int), cc = .int .i64 c ∧ i = .int .i64 k ∧ k ≤ (limbs m).length ∧ SubInv m n k c zs ∧ Own wr w.heap.size (some ⟨w.heap.size, 0, none⟩) (limbs m).length (zs ++ List.replicate ((limbs m).length - k) 0) ∧ Below w.heap.size w wr)
    (fun _ _ _ i _ => (limbs m).length - (intOf i).toNat)
  case atStart => exact ⟨0, 0, [], rfl, rfl, by omega, SubInv.start m n, by simpa using HO1.out, hb1⟩
  case round =>
    obtain ⟨k, c, zs, rfl, rfl, hk, hi, hown, hb⟩ := hrel
    have hc := hi.2.2.1
    have HZL := Lib.hid hi.1
    have HI := Lib.hid hi; clear hi
    obtain ⟨hc0, hc1⟩ := hc
    have hrx := hx.below hb (Nat.le_refl _)
    have hry := hy.below hb (Nat.le_refl _)
    by_cases hX : k < (limbs m).length
    · obtain ⟨bx, ox, x, rfl, hbx, h1, hx1⟩ := hrx.at k hX
      have gx := okL_get (limbs_ok m) k
      rw [hx1.out] at gx
      obtain ⟨gx0, gx1⟩ := gx
      obtain ⟨old, hold, _⟩ := hown.cellAt k (by rw [List.length_append, HZL.out, List.length_replicate]; omega)
      have hfz := hown.frozenAt k
      by_cases hY : k < (limbs n).length
      · obtain ⟨by_, oy, y, rfl, hby, h2, hy1⟩ := hry.at k hY
        have gy := okL_get (limbs_ok n) k
        rw [hy1.out] at gy
        obtain ⟨gy0, gy1⟩ := gy
        by_cases hn : x - c - y < 0
        · have hst := hown.stored k (x - c - y + 1000000000)
          rw [snoc_set HZL.out (by omega)] at hst
          have HS := Lib.hid hst
          have hb3 : Below w.heap.size w (wr.setCell ⟨w.heap.size, k, none⟩ (.int .i64 (x - c - y + 1000000000))) := hb.setCell (Nat.le_refl _) _
          clear hst hown hrx hry
          go_wp2
          go_roundw
          case rel => exact ⟨k + 1, _, _, rfl, by go_num, by omega, HI.out.next hx1.out hy1.out (by rw [if_pos (by omega)]) (by rw [if_pos (by omega)]), HS.out, hb3⟩
          case measure => simp [intOf]; omega
        · have hst := hown.stored k (x - c - y)
          rw [snoc_set HZL.out (by omega)] at hst
          have HS := Lib.hid hst
          have hb3 : Below w.heap.size w (wr.setCell ⟨w.heap.size, k, none⟩ (.int .i64 (x - c - y))) := hb.setCell (Nat.le_refl _) _
          clear hst hown hrx hry
          go_wp2
          go_roundw
          case rel => exact ⟨k + 1, _, _, rfl, by go_num, by omega, HI.out.next hx1.out hy1.out (by rw [if_neg (by omega)]) (by rw [if_neg (by omega)]), HS.out, hb3⟩
          case measure => simp [intOf]; omega
      · have hy0 : (limbs n).getD k 0 = 0 := by rw [List.getD_eq_getElem?_getD, List.getElem?_eq_none (by omega)]; rfl
        have HY := Lib.hid hy0; clear hy0
        by_cases hn : x - c < 0
        · have hst := hown.stored k (x - c + 1000000000)
          rw [snoc_set HZL.out (by omega)] at hst
          have HS := Lib.hid hst
          have hb3 : Below w.heap.size w (wr.setCell ⟨w.heap.size, k, none⟩ (.int .i64 (x - c + 1000000000))) := hb.setCell (Nat.le_refl _) _
          clear hst hown hrx hry
          go_wp2
          go_roundw
          case rel => exact ⟨k + 1, _, _, rfl, by go_num, by omega, HI.out.next hx1.out HY.out (by rw [Int.sub_zero, if_pos (by omega)]) (by rw [Int.sub_zero, if_pos (by omega)]), HS.out, hb3⟩
          case measure => simp [intOf]; omega
        · have hst := hown.stored k (x - c)
          rw [snoc_set HZL.out (by omega)] at hst
          have HS := Lib.hid hst
          have hb3 : Below w.heap.size w (wr.setCell ⟨w.heap.size, k, none⟩ (.int .i64 (x - c))) := hb.setCell (Nat.le_refl _) _
          clear hst hown hrx hry
          go_wp2
          go_roundw
          case rel => exact ⟨k + 1, _, _, rfl, by go_num, by omega, HI.out.next hx1.out HY.out (by rw [Int.sub_zero, if_neg (by omega)]) (by rw [Int.sub_zero, if_neg (by omega)]), HS.out, hb3⟩
          case measure => simp [intOf]; omega
    · have e : k = (limbs m).length := by omega
      subst e
      have hlast := Lib.hid (HI.out.done HLE.out)
      have ht := Lib.hid (trimL_val hlast.out.1 hlast.out.2)
      rw [Nat.sub_self, List.replicate_zero, List.append_nil] at hown
      have hrd := hown.rd
      have hml : zs.length ≤ maxLen := by unfold maxLen; rw [HZL.out]; omega
      have hle : zs.length ≤ (limbs m).length := by rw [HZL.out]; exact Nat.le_refl _
      have ho3 := hown.trimL
      rw [ht.out] at ho3
      have HO3 := Lib.hid ho3
      clear ho3
      have hsame := Lib.hid (show (limbs m).length = zs.length from HZL.out.symm)
      go_wp2_with fail
      have hT := trim_any _ (limbs m).length zs wr hrd hml hle
      rw [HZL.out] at hT
      refine hT.mono ?_
      rintro e w3 ⟨rfl, rfl⟩
      rw [ht.out]
      go_wp2
      go_ret
      exact ⟨⟨_, _, rfl, HO3.out⟩, hb⟩

theorem fSub_no {xs ys : List Int} (h : (natB xs && natB ys) = false) : fSub xs ys = [] := by unfold fSub; rw [h]; rfl
theorem fSub_lt {m n : Nat} (h1 : natB (limbs m) = true) (h2 : natB (limbs n) = true) (h : m < n) : fSub (limbs m) (limbs n) = [] := by
  unfold fSub; rw [h1, h2, nv_limbs, nv_limbs, show m - n = 0 by omega]; rfl
theorem fSub_yes {m n : Nat} (h1 : natB (limbs m) = true) (h2 : natB (limbs n) = true) : fSub (limbs m) (limbs n) = limbs (m - n) := by
  unfold fSub; rw [h1, h2, nv_limbs, nv_limbs]; rfl
theorem cmpN_neg {m n : Nat} (h : m < n) : cmpN m n < 0 := by rw [cmpN_lt h]; omega
theorem cmpN_nneg {m n : Nat} (h : ¬ m < n) : ¬ cmpN m n < 0 := by
  unfold cmpN; rw [if_neg h]; split <;> omega
theorem impl_NatSub (a b : Option Addr) (ca cb : Nat) (xs ys : List Int) (w : World) (hx : In w a ca xs) (hy : In w b cb ys) :
    Calls Tryd.prog 24 #[.slice a xs.length ca, .slice b ys.length cb] w fun e w' => (∃ a' c', e = .returned (.slice a' (fSub xs ys).length c') ∧ Own w' w.heap.size a' c' (fSub xs ys) ∧ (fSub xs ys).length ≤ 50) ∧ Below w.heap.size w w' := by
  cases hb : (natB xs && natB ys)
  · have H := Lib.hid (fSub_no hb)
    go_enter Tryd.func24, Tryd.ntmps24
    go_wp2_with fail
    refine (natsOk_any _ _ _ _ _ _ _ hx.1 hy.1 hx.maxLen hy.maxLen).mono ?_
    rintro e w' ⟨rfl, rfl⟩
    go_wp2
    go_ret
    rw [H.out]
    exact ⟨⟨none, 0, rfl, Own.nil _ _, Nat.zero_le _⟩, Below.refl _ _⟩
  · obtain ⟨h1, h2⟩ := Bool.and_eq_true_iff.1 hb
    obtain ⟨m, rfl, hm⟩ := natB_elim h1
    obtain ⟨n, rfl, hn⟩ := natB_elim h2
    by_cases hlt : m < n
    · have H := Lib.hid (fSub_lt h1 h2 hlt)
      have hneg := cmpN_neg hlt
      clear hlt
      go_enter Tryd.func24, Tryd.ntmps24
      go_wp2_with fail
      refine (natsOk_any _ _ _ _ _ _ _ hx.1 hy.1 hx.maxLen hy.maxLen).mono ?_
      rintro e w' ⟨rfl, rfl⟩
      go_wp2_with fail
      refine (natCmp_any _ _ _ _ _ _ _ hx.1 hy.1 hx.2.2 hy.2.2).mono ?_
      rintro e w' ⟨rfl, q, rfl⟩
      go_wp2
      go_ret
      rw [H.out]
      exact ⟨⟨none, 0, rfl, Own.nil _ _, Nat.zero_le _⟩, bel_draw _ _⟩
    · have H := Lib.hid (fSub_yes h1 h2)
      have hneg := cmpN_nneg hlt
      have hle : n ≤ m := by omega
      have hls := limbs_len_mono (show m - n ≤ m by omega)
      clear hlt
      go_enter Tryd.func24, Tryd.ntmps24
      go_wp2_with fail
      refine (natsOk_any _ _ _ _ _ _ _ hx.1 hy.1 hx.maxLen hy.maxLen).mono ?_
      rintro e w' ⟨rfl, rfl⟩
      go_wp2_with fail
      refine (natCmp_any _ _ _ _ _ _ _ hx.1 hy.1 hx.2.2 hy.2.2).mono ?_
      rintro e w' ⟨rfl, q, rfl⟩
      go_wp2_with fail
      refine (natSub_any _ _ _ _ _ _ _ (hx.drewN q).1 (hy.drewN q).1 hx.2.2 hle).mono ?_
      rintro e w1 ⟨⟨a1, c1, rfl, ho1⟩, hb1⟩
      have hb2 := (bel_draw w q).trans hb1
      clear hb1
      go_wp2
      go_ret
      rw [H.out]
      exact ⟨⟨a1, c1, rfl, ho1, by omega⟩, hb2⟩
end Go.Proofs.YtogkonenejfgmaaDoor
