/- The walks of natSmall (program) and l03Small (reference): the quotient and the rest by one limb. For every number of limbs within the reach. -/
import Derived.Test.YtogkonenejfgmaaGreatDoorM03
import Derived.Test.YtogkonenejfgmaaGreatDoorM18
namespace Go.Proofs.YtogkonenejfgmaaGreatDoor
open Go.RowKit
set_option maxHeartbeats 1600000 in
theorem natSmall_any (a : Option Addr) (ca m d : Nat) (w : World) (hx : Rd w a (limbs m)) (lx : (limbs m).length ≤ 1099511627776) (hd0 : 0 < d) (hd : d < 1000000000) :
    Calls Tryz.prog 60 #[.slice a (limbs m).length ca, .int .i64 d] w fun e w' => (∃ a' c', e = .returned (.tuple #[.slice a' (limbs (m / d)).length c', .int .i64 ((m % d : Nat) : Int)]) ∧ Own w' w.heap.size a' c' (limbs (m / d))) ∧ Below w.heap.size w w' := by
  obtain ⟨i0, hi, hz0, hz1, hz2⟩ := info_parts Tryz.infoInt
  have hdi : (0 : Int) < d ∧ (d : Int) < 1000000000 := by omega
  go_enter Tryz.func60, Tryz.ntmps60
  go_wp2_with (at_make; refine wpList_make_full _ rfl _ _ 23 rfl w.heap.size 3 i0 (.int .i64 0) 1 Tryz.underlying23 hi hz0 hz1 .i64 .i64 _ _ (limbs m).length rfl rfl (by omega) (by omega) (by rw [hz2]; omega) (by unfold maxLen; omega) (Nat.le_refl _) ?_)
  intro w1 hown0 hgrow
  have HO1 := Lib.hid (Own.made hown0)
  have hb1 : Below w.heap.size w w1 := (Below.refl _ _).grown hgrow (Nat.le_refl _) (by intro k h; cases h)
  clear hown0 hgrow
  go_wp2
  go_loopw [7, 8] (fun rv iv wr => ∃ (k : Nat) (rest : Int) (out : List Int), iv = .int .i64 ((k : Int) - 1) ∧ rv = .int .i64 rest ∧ k ≤ (limbs m).length ∧ SmInv d (limbs m) k rest out ∧ Own wr w.heap.size (some ⟨w.heap.size, 0, none⟩) (limbs m).length out ∧ Below w.heap.size w wr)
    (fun _ iv _ => (intOf iv + 1).toNat)
  case atStart => exact ⟨(limbs m).length, 0, _, by go_num, rfl, Nat.le_refl _, SmInv.start _ _ hdi.1, HO1.out, hb1⟩
  case round =>
    obtain ⟨k, rest, out, rfl, rfl, hk, hsm, hown, hb⟩ := hrel
    by_cases h0 : 0 < k
    · obtain ⟨j, rfl⟩ : ∃ j, k = j + 1 := ⟨k - 1, by omega⟩
      obtain ⟨bx, ox, x, rfl, hbx, h1, hx1⟩ := (hx.below hb (Nat.le_refl _)).at j (by omega)
      have gx := okL_get (limbs_ok m) j
      rw [hx1.out] at gx
      obtain ⟨n, hn⟩ : ∃ n, n = rest * 1000000000 + x := ⟨_, rfl⟩
      obtain ⟨b1, b2, b3, b4, b5, b6⟩ := SmInv.nums hdi.2 hsm.2.2.1 gx hn
      have hr1 := hsm.2.2.1.1
      have hr2 := hsm.2.2.1.2
      have hol := Lib.hid hsm.1
      have HN := Lib.hid (hsm.next hdi.2 (by omega) hx1.out gx hn)
      clear hsm
      obtain ⟨ov, ho, ho1⟩ := hown.cellAt j (by rw [hol.out]; omega)
      have hfz := hown.frozenAt j
      have hst := hown.stored j (n / d)
      have HS := Lib.hid hst
      have hb3 : Below w.heap.size w (wr.setCell ⟨w.heap.size, j, none⟩ (.int .i64 (n / d))) := hb.setCell (Nat.le_refl _) _
      clear hst hown
      have hdne : (d : Int) ≠ 0 := by omega
      rw [show (((j + 1 : Nat) : Int) - 1) = (j : Int) by omega]
      go_wp2
      go_roundw
      case rel => subst hn; exact ⟨j, _, _, by go_num, rfl, by omega, HN.out, HS.out, hb3⟩
      case measure => simp [intOf]
    · have e : k = 0 := by omega
      subst e
      have HD := Lib.hid (hsm.done (e := d) rfl)
      have HL := Lib.hid hsm.1
      have hrd := hown.rd
      have hml : out.length ≤ maxLen := by unfold maxLen; rw [HL.out]; omega
      have hle := hown.le
      have ho3 := hown.trimL
      rw [HD.out.1] at ho3
      have HO3 := Lib.hid ho3
      clear ho3 hsm
      have hT := trim_any _ (limbs m).length out wr hrd hml hle
      rw [HL.out] at hT
      have HT := Lib.hid hT; clear hT
      go_wp2_with fail
      refine HT.out.mono ?_
      rintro e w3 ⟨rfl, rfl⟩
      rw [HD.out.1, HD.out.2]
      go_wp2
      go_ret2
      exact ⟨⟨_, _, rfl, HO3.out⟩, hb⟩

set_option maxHeartbeats 1600000 in
theorem l03Small_any (a : Option Addr) (ca m d : Nat) (w : World) (hx : Rd w a (limbs m)) (lx : (limbs m).length ≤ 1099511627776) (hd0 : 0 < d) (hd : d < 1000000000) :
    Calls Tryz.prog 78 #[.slice a (limbs m).length ca, .int .i64 d] w fun e w' => (∃ a' c', e = .returned (.tuple #[.slice a' (limbs (m / d)).length c', .int .i64 ((m % d : Nat) : Int)]) ∧ Own w' w.heap.size a' c' (limbs (m / d))) ∧ Below w.heap.size w w' := by
  obtain ⟨i0, hi, hz0, hz1, hz2⟩ := info_parts Tryz.infoInt
  have hdi : (0 : Int) < d ∧ (d : Int) < 1000000000 := by omega
  go_enter Tryz.func78, Tryz.ntmps78
  go_wp2_with (at_make; refine wpList_make_full _ rfl _ _ 23 rfl w.heap.size 3 i0 (.int .i64 0) 1 Tryz.underlying23 hi hz0 hz1 .i64 .i64 _ _ (limbs m).length rfl rfl (by omega) (by omega) (by rw [hz2]; omega) (by unfold maxLen; omega) (Nat.le_refl _) ?_)
  intro w1 hown0 hgrow
  have HO1 := Lib.hid (Own.made hown0)
  have hb1 : Below w.heap.size w w1 := (Below.refl _ _).grown hgrow (Nat.le_refl _) (by intro k h; cases h)
  clear hown0 hgrow
  go_wp2
  go_loopw [7, 8, 9] (fun rv iv _ wr => ∃ (k : Nat) (rest : Int) (out : List Int), iv = .int .i64 ((k : Int) - 1) ∧ rv = .int .i64 rest ∧ k ≤ (limbs m).length ∧ SmInv d (limbs m) k rest out ∧ Own wr w.heap.size (some ⟨w.heap.size, 0, none⟩) (limbs m).length out ∧ Below w.heap.size w wr)
    (fun _ iv _ _ => (intOf iv + 1).toNat)
  case atStart => exact ⟨(limbs m).length, 0, _, by go_num, rfl, Nat.le_refl _, SmInv.start _ _ hdi.1, HO1.out, hb1⟩
  case round =>
    obtain ⟨k, rest, out, rfl, rfl, hk, hsm, hown, hb⟩ := hrel
    by_cases h0 : 0 < k
    · obtain ⟨j, rfl⟩ : ∃ j, k = j + 1 := ⟨k - 1, by omega⟩
      obtain ⟨bx, ox, x, rfl, hbx, h1, hx1⟩ := (hx.below hb (Nat.le_refl _)).at j (by omega)
      have gx := okL_get (limbs_ok m) j
      rw [hx1.out] at gx
      obtain ⟨n, hn⟩ : ∃ n, n = rest * 1000000000 + x := ⟨_, rfl⟩
      obtain ⟨b1, b2, b3, b4, b5, b6⟩ := SmInv.nums hdi.2 hsm.2.2.1 gx hn
      have hr1 := hsm.2.2.1.1
      have hr2 := hsm.2.2.1.2
      have hol := Lib.hid hsm.1
      have HN := Lib.hid (hsm.next hdi.2 (by omega) hx1.out gx hn)
      clear hsm
      obtain ⟨ov, ho, ho1⟩ := hown.cellAt j (by rw [hol.out]; omega)
      have hfz := hown.frozenAt j
      have hst := hown.stored j (n / d)
      have HS := Lib.hid hst
      have hb3 : Below w.heap.size w (wr.setCell ⟨w.heap.size, j, none⟩ (.int .i64 (n / d))) := hb.setCell (Nat.le_refl _) _
      clear hst hown
      have hdne : (d : Int) ≠ 0 := by omega
      rw [show (((j + 1 : Nat) : Int) - 1) = (j : Int) by omega]
      go_wp2
      go_roundw
      case rel => subst hn; exact ⟨j, _, _, by go_num, rfl, by omega, HN.out, HS.out, hb3⟩
      case measure => simp [intOf]
    · have e : k = 0 := by omega
      subst e
      have HD := Lib.hid (hsm.done (e := d) rfl)
      have HL := Lib.hid hsm.1
      have hrd := hown.rd
      have hml : out.length ≤ maxLen := by unfold maxLen; rw [HL.out]; omega
      have hle := hown.le
      have ho3 := hown.trimL
      rw [HD.out.1] at ho3
      have HO3 := Lib.hid ho3
      clear ho3 hsm
      have hT := l02Trim_any _ (limbs m).length out wr hrd hml hle
      rw [HL.out] at hT
      have HT := Lib.hid hT; clear hT
      go_wp2_with fail
      refine HT.out.mono ?_
      rintro e w3 ⟨rfl, rfl⟩
      rw [HD.out.1, HD.out.2]
      go_wp2
      go_ret2
      exact ⟨⟨_, _, rfl, HO3.out⟩, hb⟩

end Go.Proofs.YtogkonenejfgmaaGreatDoor
