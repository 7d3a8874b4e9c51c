/- The walks of l02Sub, NatSub (reference) and natSub, NatSub (program): the difference of two natural numbers. For every two slices within the reach. -/
import Derived.Test.YtogkonenejfgmaaGreatDoorM07
namespace Go.Proofs.YtogkonenejfgmaaGreatDoor
open Go.RowKit

theorem snoc_set {zs : List Int} {k n : Nat} {d : Int} (hl : zs.length = k) (hn : 0 < n - k) : (zs ++ List.replicate (n - k) 0).set k d = (zs ++ [d]) ++ List.replicate (n - (k + 1)) 0 := by
  subst hl
  have e : n - zs.length = (n - (zs.length + 1)) + 1 := by omega
  rw [e, List.replicate_succ, List.set_append_right _ _ (Nat.le_refl _), Nat.sub_self]
  simp

set_option maxRecDepth 100000 in
set_option maxHeartbeats 3200000 in
theorem l02Sub_any (a b : Option Addr) (ca cb m n : Nat) (w : World) (hx : Rd w a (limbs m)) (hy : Rd w b (limbs n)) (lx : (limbs m).length ≤ 1099511627776) (hle : n ≤ m) :
    Calls Tryz.prog 81 #[.slice a (limbs m).length ca, .slice b (limbs n).length cb] w fun e w' => (∃ a' c', e = .returned (.slice a' (limbs (m - n)).length c') ∧ Own w' w.heap.size a' c' (limbs (m - n))) ∧ Below w.heap.size w w' := by
  have ho := Lib.hid (Own.empty w w.heap.size (Nat.le_refl _))
  have hb := (Below.refl w.heap.size w).alloc (Nat.le_refl _) (.cells #[] 3)
  have ly := limbs_len_mono hle
  have HLE := Lib.hid hle; clear hle
  go_enter Tryz.func81, Tryz.ntmps81
  go_wp2
  go_loopw [5, 6, 7, 8, 12] (fun o cc _ _ i wr => ∃ (k : Nat) (c : Int) (zs : List Int) (a' : Option Addr) (c' : Nat), o = .slice a' zs.length c' ∧ cc = .int .i64 c ∧ i = .int .i64 k ∧ k ≤ (limbs m).length ∧ SubInv m n k c zs ∧ Own wr w.heap.size a' c' zs ∧ Below w.heap.size w wr)
    (fun _ _ _ _ i _ => (limbs m).length - (intOf i).toNat)
  case atStart => exact ⟨0, 0, [], _, _, rfl, rfl, rfl, by omega, SubInv.start m n, ho.out, hb⟩
  case round =>
    obtain ⟨k, c, zs, a', c', rfl, rfl, rfl, hk, hi, hown, hb⟩ := hrel
    have hsz := hb.size
    have hc := hi.2.2.1
    have hzl : zs.length ≤ 1099511627776 := by rw [hi.1]; omega
    have HI := Lib.hid hi; clear hi
    obtain ⟨hc0, hc1⟩ := hc
    have hrx := hx.below hb (Nat.le_refl _)
    have hry := hy.below hb (Nat.le_refl _)
    by_cases hX : k < (limbs m).length
    · obtain ⟨bx, ox, x, rfl, hbx, h1, hx1⟩ := hrx.at k hX
      have gx := okL_get (limbs_ok m) k
      rw [hx1.out] at gx
      obtain ⟨gx0, gx1⟩ := gx
      by_cases hY : k < (limbs n).length
      · obtain ⟨by_, oy, y, rfl, hby, h2, hy1⟩ := hry.at k hY
        have gy := okL_get (limbs_ok n) k
        rw [hy1.out] at gy
        obtain ⟨gy0, gy1⟩ := gy
        by_cases hn : x - c - y < 0
        · go_wp2_with (at_builtin; refine app1 _ rfl _ _ rfl w.heap.size a' c' zs _ rfl rfl hown (by omega) hsz ?_)
          intro a2 c2 w2 ho2 hb2
          have hb3 := hb.trans hb2
          clear hb2 hown hrx hry
          go_wp2
          go_roundw
          case rel => exact ⟨k + 1, _, _, a2, c2, by simp, rfl, by go_num, by omega, HI.out.next hx1.out hy1.out (by rw [if_pos (by omega)]) (by rw [if_pos (by omega)]), ho2, hb3⟩
          case measure => simp [intOf]; omega
        · go_wp2_with (at_builtin; refine app1 _ rfl _ _ rfl w.heap.size a' c' zs _ rfl rfl hown (by omega) hsz ?_)
          intro a2 c2 w2 ho2 hb2
          have hb3 := hb.trans hb2
          clear hb2 hown hrx hry
          go_wp2
          go_roundw
          case rel => exact ⟨k + 1, _, _, a2, c2, by simp, rfl, by go_num, by omega, HI.out.next hx1.out hy1.out (by rw [if_neg (by omega)]) (by rw [if_neg (by omega)]), ho2, hb3⟩
          case measure => simp [intOf]; omega
      · have hy0 : (limbs n).getD k 0 = 0 := by rw [List.getD_eq_getElem?_getD, List.getElem?_eq_none (by omega)]; rfl
        have HY := Lib.hid hy0; clear hy0
        by_cases hn : x - c < 0
        · go_wp2_with (at_builtin; refine app1 _ rfl _ _ rfl w.heap.size a' c' zs _ rfl rfl hown (by omega) hsz ?_)
          intro a2 c2 w2 ho2 hb2
          have hb3 := hb.trans hb2
          clear hb2 hown hrx hry
          go_wp2
          go_roundw
          case rel => exact ⟨k + 1, _, _, a2, c2, by simp, rfl, by go_num, by omega, HI.out.next hx1.out HY.out (by rw [Int.sub_zero, if_pos (by omega)]) (by rw [Int.sub_zero, if_pos (by omega)]), ho2, hb3⟩
          case measure => simp [intOf]; omega
        · go_wp2_with (at_builtin; refine app1 _ rfl _ _ rfl w.heap.size a' c' zs _ rfl rfl hown (by omega) hsz ?_)
          intro a2 c2 w2 ho2 hb2
          have hb3 := hb.trans hb2
          clear hb2 hown hrx hry
          go_wp2
          go_roundw
          case rel => exact ⟨k + 1, _, _, a2, c2, by simp, rfl, by go_num, by omega, HI.out.next hx1.out HY.out (by rw [Int.sub_zero, if_neg (by omega)]) (by rw [Int.sub_zero, if_neg (by omega)]), ho2, hb3⟩
          case measure => simp [intOf]; omega
    · have e : k = (limbs m).length := by omega
      subst e
      have hlast := Lib.hid (HI.out.done HLE.out)
      have ht := Lib.hid (trimL_val hlast.out.1 hlast.out.2)
      have hle := hown.le
      have hrd := hown.rd
      have hml : zs.length ≤ maxLen := by unfold maxLen; omega
      have ho3 := hown.trimL
      rw [ht.out] at ho3
      have HO3 := Lib.hid ho3
      clear ho3
      go_wp2_with fail
      refine (l02Trim_any _ _ _ _ hrd hml hle).mono ?_
      rintro e w3 ⟨rfl, rfl⟩
      rw [ht.out]
      go_wp2
      go_ret
      exact ⟨⟨a', c', rfl, HO3.out⟩, hb⟩

set_option maxRecDepth 100000 in
set_option maxHeartbeats 3200000 in
theorem natSub_any (a b : Option Addr) (ca cb m n : Nat) (w : World) (hx : Rd w a (limbs m)) (hy : Rd w b (limbs n)) (lx : (limbs m).length ≤ 1099511627776) (hle : n ≤ m) :
    Calls Tryz.prog 44 #[.slice a (limbs m).length ca, .slice b (limbs n).length cb] w fun e w' => (∃ a' c', e = .returned (.slice a' (limbs (m - n)).length c') ∧ Own w' w.heap.size a' c' (limbs (m - n))) ∧ Below w.heap.size w w' := by
  obtain ⟨i0, hi, hz0, hz1, hz2⟩ := info_parts Tryz.infoInt
  have ly := limbs_len_mono hle
  have HLE := Lib.hid hle; clear hle
  go_enter Tryz.func44, Tryz.ntmps44
  go_wp2_with (at_make; refine wpList_make_full _ rfl _ _ 23 rfl w.heap.size 3 i0 (.int .i64 0) 1 Tryz.underlying23 hi hz0 hz1 .i64 .i64 _ _ (limbs m).length rfl rfl rfl rfl (by rw [hz2]; omega) (by unfold maxLen; omega) (Nat.le_refl _) ?_)
  intro w1 hown0 hgrow
  have HO1 := Lib.hid (Own.made hown0)
  have hb1 : Below w.heap.size w w1 := (Below.refl _ _).grown hgrow (Nat.le_refl _) (by intro k h; cases h)
  clear hown0 hgrow
  go_wp2
  go_loopw [6, 7, 8, 14] (fun cc _ _ i wr => ∃ (k : Nat) (c : Int) (zs : List Int), cc = .int .i64 c ∧ i = .int .i64 k ∧ k ≤ (limbs m).length ∧ SubInv m n k c zs ∧ Own wr w.heap.size (some ⟨w.heap.size, 0, none⟩) (limbs m).length (zs ++ List.replicate ((limbs m).length - k) 0) ∧ Below w.heap.size w wr)
    (fun _ _ _ i _ => (limbs m).length - (intOf i).toNat)
  case atStart => exact ⟨0, 0, [], rfl, rfl, by omega, SubInv.start m n, by simpa using HO1.out, hb1⟩
  case round =>
    obtain ⟨k, c, zs, rfl, rfl, hk, hi, hown, hb⟩ := hrel
    have hc := hi.2.2.1
    have HZL := Lib.hid hi.1
    have HI := Lib.hid hi; clear hi
    obtain ⟨hc0, hc1⟩ := hc
    have hrx := hx.below hb (Nat.le_refl _)
    have hry := hy.below hb (Nat.le_refl _)
    by_cases hX : k < (limbs m).length
    · obtain ⟨bx, ox, x, rfl, hbx, h1, hx1⟩ := hrx.at k hX
      have gx := okL_get (limbs_ok m) k
      rw [hx1.out] at gx
      obtain ⟨gx0, gx1⟩ := gx
      obtain ⟨old, hold, _⟩ := hown.cellAt k (by rw [List.length_append, HZL.out, List.length_replicate]; omega)
      have hfz := hown.frozenAt k
      by_cases hY : k < (limbs n).length
      · obtain ⟨by_, oy, y, rfl, hby, h2, hy1⟩ := hry.at k hY
        have gy := okL_get (limbs_ok n) k
        rw [hy1.out] at gy
        obtain ⟨gy0, gy1⟩ := gy
        by_cases hn : x - c - y < 0
        · have hst := hown.stored k (x - c - y + 1000000000)
          rw [snoc_set HZL.out (by omega)] at hst
          have HS := Lib.hid hst
          have hb3 : Below w.heap.size w (wr.setCell ⟨w.heap.size, k, none⟩ (.int .i64 (x - c - y + 1000000000))) := hb.setCell (Nat.le_refl _) _
          clear hst hown hrx hry
          go_wp2
          go_roundw
          case rel => exact ⟨k + 1, _, _, rfl, by go_num, by omega, HI.out.next hx1.out hy1.out (by rw [if_pos (by omega)]) (by rw [if_pos (by omega)]), HS.out, hb3⟩
          case measure => simp [intOf]; omega
        · have hst := hown.stored k (x - c - y)
          rw [snoc_set HZL.out (by omega)] at hst
          have HS := Lib.hid hst
          have hb3 : Below w.heap.size w (wr.setCell ⟨w.heap.size, k, none⟩ (.int .i64 (x - c - y))) := hb.setCell (Nat.le_refl _) _
          clear hst hown hrx hry
          go_wp2
          go_roundw
          case rel => exact ⟨k + 1, _, _, rfl, by go_num, by omega, HI.out.next hx1.out hy1.out (by rw [if_neg (by omega)]) (by rw [if_neg (by omega)]), HS.out, hb3⟩
          case measure => simp [intOf]; omega
      · have hy0 : (limbs n).getD k 0 = 0 := by rw [List.getD_eq_getElem?_getD, List.getElem?_eq_none (by omega)]; rfl
        have HY := Lib.hid hy0; clear hy0
        by_cases hn : x - c < 0
        · have hst := hown.stored k (x - c + 1000000000)
          rw [snoc_set HZL.out (by omega)] at hst
          have HS := Lib.hid hst
          have hb3 : Below w.heap.size w (wr.setCell ⟨w.heap.size, k, none⟩ (.int .i64 (x - c + 1000000000))) := hb.setCell (Nat.le_refl _) _
          clear hst hown hrx hry
          go_wp2
          go_roundw
          case rel => exact ⟨k + 1, _, _, rfl, by go_num, by omega, HI.out.next hx1.out HY.out (by rw [Int.sub_zero, if_pos (by omega)]) (by rw [Int.sub_zero, if_pos (by omega)]), HS.out, hb3⟩
          case measure => simp [intOf]; omega
        · have hst := hown.stored k (x - c)
          rw [snoc_set HZL.out (by omega)] at hst
          have HS := Lib.hid hst
          have hb3 : Below w.heap.size w (wr.setCell ⟨w.heap.size, k, none⟩ (.int .i64 (x - c))) := hb.setCell (Nat.le_refl _) _
          clear hst hown hrx hry
          go_wp2
          go_roundw
          case rel => exact ⟨k + 1, _, _, rfl, by go_num, by omega, HI.out.next hx1.out HY.out (by rw [Int.sub_zero, if_neg (by omega)]) (by rw [Int.sub_zero, if_neg (by omega)]), HS.out, hb3⟩
          case measure => simp [intOf]; omega
    · have e : k = (limbs m).length := by omega
      subst e
      have hlast := Lib.hid (HI.out.done HLE.out)
      have ht := Lib.hid (trimL_val hlast.out.1 hlast.out.2)
      rw [Nat.sub_self, List.replicate_zero, List.append_nil] at hown
      have hrd := hown.rd
      have hml : zs.length ≤ maxLen := by unfold maxLen; rw [HZL.out]; omega
      have hle : zs.length ≤ (limbs m).length := by rw [HZL.out]; exact Nat.le_refl _
      have ho3 := hown.trimL
      rw [ht.out] at ho3
      have HO3 := Lib.hid ho3
      clear ho3
      have hsame := Lib.hid (show (limbs m).length = zs.length from HZL.out.symm)
      go_wp2_with fail
      have hT := trim_any _ (limbs m).length zs wr hrd hml hle
      rw [HZL.out] at hT
      refine hT.mono ?_
      rintro e w3 ⟨rfl, rfl⟩
      rw [ht.out]
      go_wp2
      go_ret
      exact ⟨⟨_, _, rfl, HO3.out⟩, hb⟩

theorem fSub_no {xs ys : List Int} (h : (natB xs && natB ys) = false) : fSub xs ys = [] := by unfold fSub; rw [h]; rfl
theorem fSub_lt {m n : Nat} (h1 : natB (limbs m) = true) (h2 : natB (limbs n) = true) (h : m < n) : fSub (limbs m) (limbs n) = [] := by
  unfold fSub; rw [h1, h2, nv_limbs, nv_limbs, show m - n = 0 by omega]; rfl
theorem fSub_yes {m n : Nat} (h1 : natB (limbs m) = true) (h2 : natB (limbs n) = true) : fSub (limbs m) (limbs n) = limbs (m - n) := by
  unfold fSub; rw [h1, h2, nv_limbs, nv_limbs]; rfl
theorem cmpN_neg {m n : Nat} (h : m < n) : cmpN m n < 0 := by rw [cmpN_lt h]; omega
theorem cmpN_nneg {m n : Nat} (h : ¬ m < n) : ¬ cmpN m n < 0 := by
  unfold cmpN; rw [if_neg h]; split <;> omega
end Go.Proofs.YtogkonenejfgmaaGreatDoor
