/- The walks of l02Add, NatAdd (reference) and natAdd, NatAdd (program): the sum of two natural numbers. For every two slices within the reach. -/
import Derived.Test.YtogkonenejfgmaaGreatDoorM07
namespace Go.Proofs.YtogkonenejfgmaaGreatDoor
open Go.RowKit

set_option maxRecDepth 100000 in
set_option maxHeartbeats 3200000 in
theorem natAdd_any (a b : Option Addr) (ca cb m n : Nat) (w : World) (hx : Rd w a (limbs m)) (hy : Rd w b (limbs n)) (lx : (limbs m).length ≤ 1099511627776) (ly : (limbs n).length ≤ 1099511627776) :
    Calls Tryz.prog 42 #[.slice a (limbs m).length ca, .slice b (limbs n).length cb] w fun e w' => (∃ a' c', e = .returned (.slice a' (limbs (m + n)).length c') ∧ Own w' w.heap.size a' c' (limbs (m + n))) ∧ Below w.heap.size w w' := by
  obtain ⟨i0, hi, hz0, hz1, hz2⟩ := info_parts Tryz.infoInt
  by_cases hmn : (limbs m).length < (limbs n).length
  · go_enter Tryz.func42, Tryz.ntmps42
    go_wp2_with (at_make; refine wpList_make_own _ rfl _ _ 23 rfl w.heap.size 3 i0 (.int .i64 0) 1 Tryz.underlying23 hi hz0 hz1 .i64 .i64 _ (max (limbs m).length (limbs n).length + 1) rfl rfl (by omega) (by rw [hz2]; omega) (by unfold maxLen; omega) (Nat.le_refl _) ?_)
    intro w1 hown0 hgrow0
    have ho1 : Own w1 w.heap.size (some ⟨w.heap.size, 0, none⟩) (max (limbs m).length (limbs n).length + 1) [] := hown0
    have HO := Lib.hid ho1
    have hb1 : Below w.heap.size w w1 := (Below.refl _ _).grown hgrow0 (Nat.le_refl _) (by intro k h; cases h)
    clear hown0 hgrow0 ho1
    go_wp2
    go_loopw [5, 6, 7] (fun o cc i wr => ∃ (k : Nat) (c : Int) (zs : List Int) (a' : Option Addr) (c' : Nat), o = .slice a' zs.length c' ∧ cc = .int .i64 c ∧ i = .int .i64 k ∧ k ≤ max (limbs m).length (limbs n).length ∧ AddInv m n k c zs ∧ Own wr w.heap.size a' c' zs ∧ Below w.heap.size w wr)
      (fun _ _ i _ => max (limbs m).length (limbs n).length + 1 - (intOf i).toNat)
    case atStart => exact ⟨0, 0, [], _, _, rfl, rfl, rfl, by omega, AddInv.start m n, HO.out, hb1⟩
    case round =>
      obtain ⟨k, c, zs, a', c', rfl, rfl, rfl, hk, hi, hown, hb⟩ := hrel
      have hsz := hb.size
      have hc := hi.2.2.1
      have hzl : zs.length ≤ 1099511627777 := by rw [hi.1]; omega
      have HI := Lib.hid hi; clear hi
      obtain ⟨hc0, hc1⟩ := hc
      have hrx := hx.below hb (Nat.le_refl _)
      have hry := hy.below hb (Nat.le_refl _)
      by_cases hX : k < (limbs m).length
      · obtain ⟨bx, ox, x, rfl, hbx, h1, hx1⟩ := hrx.at k hX
        have gx := okL_get (limbs_ok m) k
        rw [hx1.out] at gx
        obtain ⟨gx0, gx1⟩ := gx
        have hY : k < (limbs n).length := by omega
        obtain ⟨by_, oy, y, rfl, hby, h2, hy1⟩ := hry.at k hY
        have gy := okL_get (limbs_ok n) k
        rw [hy1.out] at gy
        obtain ⟨gy0, gy1⟩ := gy
        go_wp2_with (at_builtin; refine app1 _ rfl _ _ rfl w.heap.size a' c' zs _ rfl rfl hown (by omega) hsz ?_)
        intro a2 c2 w2 ho2 hb2
        have hb3 := hb.trans hb2
        clear hb2 hown hrx hry
        go_wp2
        go_roundw
        case rel => exact ⟨k + 1, _, _, a2, c2, by simp, rfl, by go_num, by omega, HI.out.next hx1.out hy1.out rfl (.inl hX), ho2, hb3⟩
        case measure => simp [intOf]; omega
      · have hx0 : (limbs m).getD k 0 = 0 := by rw [List.getD_eq_getElem?_getD, List.getElem?_eq_none (by omega)]; rfl
        have HX := Lib.hid hx0; clear hx0
        by_cases hY : k < (limbs n).length
        · obtain ⟨by_, oy, y, rfl, hby, h2, hy1⟩ := hry.at k hY
          have gy := okL_get (limbs_ok n) k
          rw [hy1.out] at gy
          obtain ⟨gy0, gy1⟩ := gy
          go_wp2_with (at_builtin; refine app1 _ rfl _ _ rfl w.heap.size a' c' zs _ rfl rfl hown (by omega) hsz ?_)
          intro a2 c2 w2 ho2 hb2
          have hb3 := hb.trans hb2
          clear hb2 hown hrx hry
          go_wp2
          go_roundw
          case rel => exact ⟨k + 1, _, _, a2, c2, by simp, rfl, by go_num, by omega, HI.out.next HX.out hy1.out (by omega) (.inr (.inl hY)), ho2, hb3⟩
          case measure => simp [intOf]; omega
        · have hlast := Lib.hid (HI.out.last (show (limbs m).length ≤ k by omega) (show (limbs n).length ≤ k by omega))
          go_wp2_with (at_builtin; refine app1 _ rfl _ _ rfl w.heap.size a' c' zs _ rfl rfl hown (by omega) hsz ?_)
          intro a2 c2 w2 ho2 hb2
          have hb3 := hb.trans hb2
          clear hb2 hown hrx hry
          have hle := ho2.le
          have hrd := ho2.rd
          have hml : (zs ++ [c]).length ≤ maxLen := by unfold maxLen; simp; omega
          have ht := Lib.hid (trimL_val hlast.out.1 hlast.out.2)
          have ho3 := ho2.trimL
          rw [ht.out] at ho3
          have HO3 := Lib.hid ho3
          have e1 : zs.length + 1 = (zs ++ [c]).length := by simp
          have E1 := Lib.hid e1
          clear ho2 ho3 e1
          go_wp2_with fail
          rw [E1.out]
          refine (trim_any _ _ _ _ hrd hml hle).mono ?_
          rintro e w3 ⟨rfl, rfl⟩
          rw [ht.out]
          go_wp2
          go_ret
          exact ⟨⟨a2, c2, rfl, HO3.out⟩, hb3⟩
  · go_enter Tryz.func42, Tryz.ntmps42
    go_wp2_with (at_make; refine wpList_make_own _ rfl _ _ 23 rfl w.heap.size 3 i0 (.int .i64 0) 1 Tryz.underlying23 hi hz0 hz1 .i64 .i64 _ (max (limbs m).length (limbs n).length + 1) rfl rfl (by omega) (by rw [hz2]; omega) (by unfold maxLen; omega) (Nat.le_refl _) ?_)
    intro w1 hown0 hgrow0
    have ho1 : Own w1 w.heap.size (some ⟨w.heap.size, 0, none⟩) (max (limbs m).length (limbs n).length + 1) [] := hown0
    have HO := Lib.hid ho1
    have hb1 : Below w.heap.size w w1 := (Below.refl _ _).grown hgrow0 (Nat.le_refl _) (by intro k h; cases h)
    clear hown0 hgrow0 ho1
    go_wp2
    go_loopw [5, 6, 7] (fun o cc i wr => ∃ (k : Nat) (c : Int) (zs : List Int) (a' : Option Addr) (c' : Nat), o = .slice a' zs.length c' ∧ cc = .int .i64 c ∧ i = .int .i64 k ∧ k ≤ max (limbs m).length (limbs n).length ∧ AddInv m n k c zs ∧ Own wr w.heap.size a' c' zs ∧ Below w.heap.size w wr)
      (fun _ _ i _ => max (limbs m).length (limbs n).length + 1 - (intOf i).toNat)
    case atStart => exact ⟨0, 0, [], _, _, rfl, rfl, rfl, by omega, AddInv.start m n, HO.out, hb1⟩
    case round =>
      obtain ⟨k, c, zs, a', c', rfl, rfl, rfl, hk, hi, hown, hb⟩ := hrel
      have hsz := hb.size
      have hc := hi.2.2.1
      have hzl : zs.length ≤ 1099511627777 := by rw [hi.1]; omega
      have HI := Lib.hid hi; clear hi
      obtain ⟨hc0, hc1⟩ := hc
      have hrx := hx.below hb (Nat.le_refl _)
      have hry := hy.below hb (Nat.le_refl _)
      by_cases hX : k < (limbs m).length
      · obtain ⟨bx, ox, x, rfl, hbx, h1, hx1⟩ := hrx.at k hX
        have gx := okL_get (limbs_ok m) k
        rw [hx1.out] at gx
        obtain ⟨gx0, gx1⟩ := gx
        by_cases hY : k < (limbs n).length
        · obtain ⟨by_, oy, y, rfl, hby, h2, hy1⟩ := hry.at k hY
          have gy := okL_get (limbs_ok n) k
          rw [hy1.out] at gy
          obtain ⟨gy0, gy1⟩ := gy
          go_wp2_with (at_builtin; refine app1 _ rfl _ _ rfl w.heap.size a' c' zs _ rfl rfl hown (by omega) hsz ?_)
          intro a2 c2 w2 ho2 hb2
          have hb3 := hb.trans hb2
          clear hb2 hown hrx hry
          go_wp2
          go_roundw
          case rel => exact ⟨k + 1, _, _, a2, c2, by simp, rfl, by go_num, by omega, HI.out.next hx1.out hy1.out rfl (.inl hX), ho2, hb3⟩
          case measure => simp [intOf]; omega
        · have hy0 : (limbs n).getD k 0 = 0 := by rw [List.getD_eq_getElem?_getD, List.getElem?_eq_none (by omega)]; rfl
          have HY := Lib.hid hy0; clear hy0
          go_wp2_with (at_builtin; refine app1 _ rfl _ _ rfl w.heap.size a' c' zs _ rfl rfl hown (by omega) hsz ?_)
          intro a2 c2 w2 ho2 hb2
          have hb3 := hb.trans hb2
          clear hb2 hown hrx hry
          go_wp2
          go_roundw
          case rel => exact ⟨k + 1, _, _, a2, c2, by simp, rfl, by go_num, by omega, HI.out.next hx1.out HY.out (by omega) (.inl hX), ho2, hb3⟩
          case measure => simp [intOf]; omega
      · have hx0 : (limbs m).getD k 0 = 0 := by rw [List.getD_eq_getElem?_getD, List.getElem?_eq_none (by omega)]; rfl
        have HX := Lib.hid hx0; clear hx0
        have hY : ¬ k < (limbs n).length := by omega
        have hlast := Lib.hid (HI.out.last (show (limbs m).length ≤ k by omega) (show (limbs n).length ≤ k by omega))
        go_wp2_with (at_builtin; refine app1 _ rfl _ _ rfl w.heap.size a' c' zs _ rfl rfl hown (by omega) hsz ?_)
        intro a2 c2 w2 ho2 hb2
        have hb3 := hb.trans hb2
        clear hb2 hown hrx hry
        have hle := ho2.le
        have hrd := ho2.rd
        have hml : (zs ++ [c]).length ≤ maxLen := by unfold maxLen; simp; omega
        have ht := Lib.hid (trimL_val hlast.out.1 hlast.out.2)
        have ho3 := ho2.trimL
        rw [ht.out] at ho3
        have HO3 := Lib.hid ho3
        have e1 : zs.length + 1 = (zs ++ [c]).length := by simp
        have E1 := Lib.hid e1
        clear ho2 ho3 e1
        go_wp2_with fail
        rw [E1.out]
        refine (trim_any _ _ _ _ hrd hml hle).mono ?_
        rintro e w3 ⟨rfl, rfl⟩
        rw [ht.out]
        go_wp2
        go_ret
        exact ⟨⟨a2, c2, rfl, HO3.out⟩, hb3⟩
theorem l02_lenAdd {m n : Nat} (hm : (limbs m).length ≤ 50) (hn : (limbs n).length ≤ 50) : (limbs (m + n)).length ≤ 51 := by
  rw [limbs_len_le] at *
  have : (1000000000 : Nat) ^ 51 = 1000000000 ^ 50 * 1000000000 := by rw [show (51 : Nat) = 50 + 1 from rfl, Nat.pow_succ]
  generalize (1000000000 : Nat) ^ 50 = p at *
  generalize (1000000000 : Nat) ^ 51 = q at *
  omega

theorem fAdd_no {xs ys : List Int} (h : (natB xs && natB ys) = false) : fAdd xs ys = [] := by unfold fAdd; rw [h]; rfl
theorem fAdd_yes {m n : Nat} (h1 : natB (limbs m) = true) (h2 : natB (limbs n) = true) : fAdd (limbs m) (limbs n) = limbs (capV (m + n)) := by
  unfold fAdd; rw [h1, h2, nv_limbs, nv_limbs]; rfl
end Go.Proofs.YtogkonenejfgmaaGreatDoor
