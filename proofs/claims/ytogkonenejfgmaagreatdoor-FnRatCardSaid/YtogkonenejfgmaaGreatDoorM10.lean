/- The walks of l02Mul, NatMul (reference) and natMul, NatMul (program): the product of two natural numbers. For every two slices within the reach. -/
import Derived.Test.YtogkonenejfgmaaGreatDoorM08
namespace Go.Proofs.YtogkonenejfgmaaGreatDoor
open Go.RowKit
theorem set_len {xs : List Int} {k : Nat} {v : Int} {L : Nat} (h : xs.length = L) : (xs.set k v).length = L := by rw [List.length_set]; exact h
set_option maxRecDepth 100000 in
set_option maxHeartbeats 3200000 in
theorem l02Mul_any (a b : Option Addr) (ca cb m n : Nat) (w : World) (hx : Rd w a (limbs m)) (hy : Rd w b (limbs n)) (lx : (limbs m).length ≤ 1099511627776) (ly : (limbs n).length ≤ 1099511627776) (hm0 : 0 < (limbs m).length) (hn0 : 0 < (limbs n).length) :
    Calls Tryz.prog 82 #[.slice a (limbs m).length ca, .slice b (limbs n).length cb] w fun e w' => (∃ a' c', e = .returned (.slice a' (limbs (m * n)).length c') ∧ Own w' w.heap.size a' c' (limbs (m * n))) ∧ Below w.heap.size w w' := by
  obtain ⟨i0, hi, hz0, hz1, hz2⟩ := info_parts Tryz.infoInt
  have b1 : (((limbs m).length : Int) == 0) = false := by rw [beq_eq_false_iff_ne]; omega
  have b2 : (((limbs n).length : Int) == 0) = false := by rw [beq_eq_false_iff_ne]; omega
  go_enter Tryz.func82, Tryz.ntmps82
  go_wp2_with (at_make; refine wpList_make_full _ rfl _ _ 23 rfl w.heap.size 3 i0 (.int .i64 0) 1 Tryz.underlying23 hi hz0 hz1 .i64 .i64 _ _ ((limbs m).length + (limbs n).length) rfl rfl (by omega) (by omega) (by rw [hz2]; omega) (by unfold maxLen; omega) (Nat.le_refl _) ?_)
  intro w1 hown0 hgrow
  have HO1 := Lib.hid (Own.made hown0)
  have hb1 : Below w.heap.size w w1 := (Below.refl _ _).grown hgrow (Nat.le_refl _) (by intro k h; cases h)
  clear hown0 hgrow
  go_wp2
  go_loopw [6, 7, 8, 9, 10, 11, 28, 35] (fun _ _ _ _ _ _ iv _ wr => ∃ (i : Nat) (out : List Int), iv = .int .i64 i ∧ i ≤ (limbs m).length ∧ MulOut m n i ((limbs m).length + (limbs n).length) out ∧ Own wr w.heap.size (some ⟨w.heap.size, 0, none⟩) ((limbs m).length + (limbs n).length) out ∧ Below w.heap.size w wr)
    (fun _ _ _ _ _ _ iv _ _ => (limbs m).length - (intOf iv).toNat)
  case atStart => exact ⟨0, _, rfl, by omega, MulOut.start m n _, HO1.out, hb1⟩
  case round =>
    obtain ⟨i, out, rfl, hile, hmo, hown, hb⟩ := hrel
    have HM := Lib.hid hmo; clear hmo
    by_cases hI : i < (limbs m).length
    · obtain ⟨bx, ox, x, rfl, hbx, h1, hx1⟩ := (hx.below hb (Nat.le_refl _)).at i hI
      have gx := okL_get (limbs_ok m) i
      rw [hx1.out] at gx
      obtain ⟨gx0, gx1⟩ := gx
      have HIn := Lib.hid (MulIn.start x HM.out hI)
      obtain ⟨wo, rfl⟩ : ∃ wo : World, wo = wr := ⟨_, rfl⟩
      go_wp2
      go_loopw [8, 9, 10, 11, 35] (fun cv _ _ _ jv wr => ∃ (j : Nat) (c : Int) (out : List Int), cv = .int .i64 c ∧ jv = .int .i64 j ∧ j ≤ (limbs n).length ∧ MulIn m n i j ((limbs m).length + (limbs n).length) x c out ∧ Own wr w.heap.size (some ⟨w.heap.size, 0, none⟩) ((limbs m).length + (limbs n).length) out ∧ Below w.heap.size w wr)
        (fun _ _ _ _ jv _ => (limbs n).length - (intOf jv).toNat)
      case atStart => exact ⟨0, 0, _, rfl, rfl, by omega, HIn.out, hown, hb⟩
      case round =>
        clear hown hb h1
        obtain ⟨j, c, out, rfl, rfl, hjle, hmi, hown, hb⟩ := hrel
        obtain ⟨hc0, hc1⟩ := hmi.2.2.1
        have hol := Lib.hid hmi.1
        have hok := okL_get hmi.2.1 (i + j)
        have HMI := Lib.hid hmi; clear hmi
        have hfz := hown.frozenAt (i + j)
        by_cases hJ : j < (limbs n).length
        · obtain ⟨by_, oy, y, rfl, hby, h2, hy1⟩ := (hy.below hb (Nat.le_refl _)).at j hJ
          have gy := okL_get (limbs_ok n) j
          rw [hy1.out] at gy
          obtain ⟨gy0, gy1⟩ := gy
          obtain ⟨o, ho, ho1⟩ := hown.cellAt (i + j) (by rw [hol.out]; omega)
          rw [ho1.out] at hok
          obtain ⟨hok0, hok1⟩ := hok
          obtain ⟨hxy0, hxy1⟩ := mul_bound ⟨gx0, gx1⟩ ⟨gy0, gy1⟩
          have HN := Lib.hid (HMI.out.next hI hJ (Nat.le_refl _) hx1.out hy1.out (show o + x * y + c = _ by rw [ho1.out]))
          have hst := hown.stored (i + j) ((o + x * y + c) % 1000000000)
          have HS := Lib.hid hst
          have hb3 : Below w.heap.size w (wr.setCell ⟨w.heap.size, i + j, none⟩ (.int .i64 ((o + x * y + c) % 1000000000))) := hb.setCell (Nat.le_refl _) _
          clear hst hown
          go_wp2
          go_roundw
          case rel => exact ⟨j + 1, _, _, rfl, by go_num, by omega, HN.out, HS.out, hb3⟩
          case measure => simp [intOf]; omega
        · have e : j = (limbs n).length := by omega
          subst e
          obtain ⟨o, ho, _⟩ := hown.cellAt (i + (limbs n).length) (by rw [hol.out]; omega)
          have HF := Lib.hid (HMI.out.finish hI (Nat.le_refl _) hx1.out)
          have hst := hown.stored (i + (limbs n).length) c
          have HS := Lib.hid hst
          have hb3 : Below w.heap.size w (wr.setCell ⟨w.heap.size, i + (limbs n).length, none⟩ (.int .i64 c)) := hb.setCell (Nat.le_refl _) _
          clear hst hown hok
          go_wp2
          go_roundw
          case rel => exact ⟨i + 1, _, by go_num, by omega, HF.out, HS.out, hb3⟩
          case measure => simp [intOf]; omega
    · have e : i = (limbs m).length := by omega
      subst e
      have hd := Lib.hid HM.out.done
      have ht := Lib.hid (trimL_val hd.out.1 hd.out.2)
      have HL := Lib.hid HM.out.1
      have hrd := hown.rd
      have hml : out.length ≤ maxLen := by unfold maxLen; rw [HL.out]; omega
      have hle := hown.le
      have ho3 := hown.trimL
      rw [ht.out] at ho3
      have HO3 := Lib.hid ho3
      clear ho3
      have hT := l02Trim_any _ ((limbs m).length + (limbs n).length) out wr hrd hml hle
      rw [HL.out] at hT
      have HT := Lib.hid hT; clear hT
      go_wp2_with fail
      refine HT.out.mono ?_
      rintro e w3 ⟨rfl, rfl⟩
      rw [ht.out]
      go_wp2
      go_ret
      exact ⟨⟨_, _, rfl, HO3.out⟩, hb⟩
set_option maxRecDepth 100000 in
set_option maxHeartbeats 3200000 in
theorem natMul_full (a b : Option Addr) (ca cb m n : Nat) (w : World) (hx : Rd w a (limbs m)) (hy : Rd w b (limbs n)) (lx : (limbs m).length ≤ 1099511627776) (ly : (limbs n).length ≤ 1099511627776) :
    Calls Tryz.prog 20 #[.slice a (limbs m).length ca, .slice b (limbs n).length cb] w fun e w' => (e = .returned (.slice (some ⟨w.heap.size, 0, none⟩) (limbs (m * n)).length ((limbs m).length + (limbs n).length + 1)) ∧ Own w' w.heap.size (some ⟨w.heap.size, 0, none⟩) ((limbs m).length + (limbs n).length + 1) (limbs (m * n))) ∧ Below w.heap.size w w' := by
  obtain ⟨i0, hi, hz0, hz1, hz2⟩ := info_parts Tryz.infoInt
  go_enter Tryz.func20, Tryz.ntmps20
  go_wp2_with (at_make; refine wpList_make_full _ rfl _ _ 23 rfl w.heap.size 3 i0 (.int .i64 0) 1 Tryz.underlying23 hi hz0 hz1 .i64 .i64 _ _ ((limbs m).length + (limbs n).length + 1) rfl rfl (by omega) (by omega) (by rw [hz2]; omega) (by unfold maxLen; omega) (Nat.le_refl _) ?_)
  intro w1 hown0 hgrow
  have HO1 := Lib.hid (Own.made hown0)
  have hb1 : Below w.heap.size w w1 := (Below.refl _ _).grown hgrow (Nat.le_refl _) (by intro k h; cases h)
  clear hown0 hgrow
  go_wp2
  go_loopw [6, 7, 8, 9, 10, 11, 21, 28] (fun _ _ _ _ _ _ iv _ wr => ∃ (i : Nat) (out : List Int), iv = .int .i64 i ∧ i ≤ (limbs m).length ∧ MulOut m n i ((limbs m).length + (limbs n).length + 1) out ∧ Own wr w.heap.size (some ⟨w.heap.size, 0, none⟩) ((limbs m).length + (limbs n).length + 1) out ∧ Below w.heap.size w wr)
    (fun _ _ _ _ _ _ iv _ _ => (limbs m).length - (intOf iv).toNat)
  case atStart => exact ⟨0, _, rfl, by omega, MulOut.start m n _, HO1.out, hb1⟩
  case round =>
    obtain ⟨i, out, rfl, hile, hmo, hown, hb⟩ := hrel
    have HM := Lib.hid hmo; clear hmo
    by_cases hI : i < (limbs m).length
    · obtain ⟨bx, ox, x, rfl, hbx, h1, hx1⟩ := (hx.below hb (Nat.le_refl _)).at i hI
      have gx := okL_get (limbs_ok m) i
      rw [hx1.out] at gx
      obtain ⟨gx0, gx1⟩ := gx
      have HIn := Lib.hid (MulIn.start x HM.out hI)
      obtain ⟨wo, rfl⟩ : ∃ wo : World, wo = wr := ⟨_, rfl⟩
      go_wp2
      go_loopw [8, 9, 10, 28] (fun cv _ _ jv wr => ∃ (j : Nat) (c : Int) (out : List Int), cv = .int .i64 c ∧ jv = .int .i64 j ∧ j ≤ (limbs n).length ∧ MulIn m n i j ((limbs m).length + (limbs n).length + 1) x c out ∧ Own wr w.heap.size (some ⟨w.heap.size, 0, none⟩) ((limbs m).length + (limbs n).length + 1) out ∧ Below w.heap.size w wr)
        (fun _ _ _ jv _ => (limbs n).length - (intOf jv).toNat)
      case atStart => exact ⟨0, 0, _, rfl, rfl, by omega, HIn.out, hown, hb⟩
      case round =>
        clear hown hb h1
        obtain ⟨j, c, out, rfl, rfl, hjle, hmi, hown, hb⟩ := hrel
        obtain ⟨hc0, hc1⟩ := hmi.2.2.1
        have hol := Lib.hid hmi.1
        have hok := okL_get hmi.2.1 (i + j)
        have HMI := Lib.hid hmi; clear hmi
        have hfz := hown.frozenAt (i + j)
        by_cases hJ : j < (limbs n).length
        · obtain ⟨by_, oy, y, rfl, hby, h2, hy1⟩ := (hy.below hb (Nat.le_refl _)).at j hJ
          have gy := okL_get (limbs_ok n) j
          rw [hy1.out] at gy
          obtain ⟨gy0, gy1⟩ := gy
          obtain ⟨o, ho, ho1⟩ := hown.cellAt (i + j) (by rw [hol.out]; omega)
          rw [ho1.out] at hok
          obtain ⟨hok0, hok1⟩ := hok
          obtain ⟨hxy0, hxy1⟩ := mul_bound ⟨gx0, gx1⟩ ⟨gy0, gy1⟩
          have HN := Lib.hid (HMI.out.next hI hJ (by omega) hx1.out hy1.out (show c + (o + x * y) = _ by rw [ho1.out]; omega))
          have hst := hown.stored (i + j) ((c + (o + x * y)) % 1000000000)
          have HS := Lib.hid hst
          have hb3 : Below w.heap.size w (wr.setCell ⟨w.heap.size, i + j, none⟩ (.int .i64 ((c + (o + x * y)) % 1000000000))) := hb.setCell (Nat.le_refl _) _
          clear hst hown
          go_wp2
          go_roundw
          case rel => exact ⟨j + 1, _, _, rfl, by go_num, by omega, HN.out, HS.out, hb3⟩
          case measure => simp [intOf]; omega
        · have e : j = (limbs n).length := by omega
          subst e
          clear hok hfz
          obtain ⟨wp, rfl⟩ : ∃ wp : World, wp = wr := ⟨_, rfl⟩
          go_wp2
          go_loopw [8, 11] (fun cv kv wr => ∃ (c : Int) (out : List Int), cv = .int .i64 c ∧ ((kv = .int .i64 (i + (limbs n).length : Nat) ∧ MulIn m n i (limbs n).length ((limbs m).length + (limbs n).length + 1) x c out) ∨ (c = 0 ∧ (∃ k : Nat, kv = .int .i64 k ∧ k ≤ 3298534883328) ∧ MulOut m n (i + 1) ((limbs m).length + (limbs n).length + 1) out)) ∧ Own wr w.heap.size (some ⟨w.heap.size, 0, none⟩) ((limbs m).length + (limbs n).length + 1) out ∧ Below w.heap.size w wr)
            (fun cv _ _ => (intOf cv).toNat)
          case atStart => exact ⟨c, out, rfl, .inl ⟨by go_num, HMI.out⟩, hown, hb⟩
          case round =>
            clear hown hb HMI hol
            obtain ⟨c, out, rfl, ⟨rfl, hmi⟩ | ⟨rfl, ⟨k, rfl, hk⟩, hmo⟩, hown, hb⟩ := hrel
            · obtain ⟨hc0, hc1⟩ := hmi.2.2.1
              by_cases hC : 0 < c
              · have hol := Lib.hid hmi.1
                have h0 := hmi.2.2.2.1
                have HF := Lib.hid (hmi.finish hI (by omega) hx1.out)
                clear hmi
                obtain ⟨o, ho, ho1⟩ := hown.cellAt (i + (limbs n).length) (by rw [hol.out]; omega)
                have hoz : o = 0 := by rw [← ho1.out]; exact h0
                subst hoz
                have hfz := hown.frozenAt (i + (limbs n).length)
                have hst := hown.stored (i + (limbs n).length) c
                have HS := Lib.hid hst
                have hb3 : Below w.heap.size w (wr.setCell ⟨w.heap.size, i + (limbs n).length, none⟩ (.int .i64 c)) := hb.setCell (Nat.le_refl _) _
                have hcm := Lib.hid (show c % 1000000000 = c by omega)
                have hcd := Lib.hid (show c / 1000000000 = 0 by omega)
                clear hst hown h0
                go_wp2
                go_roundw
                case rel =>
                  rw [hcm.out]
                  exact ⟨0, _, by rw [hcd.out], .inr ⟨rfl, ⟨i + (limbs n).length + 1, by go_num, by omega⟩, HF.out⟩, HS.out, hb3⟩
                case measure => simp [intOf]; omega
              · have e : c = 0 := by omega
                subst e
                have HF := Lib.hid (hmi.skip hx1.out)
                clear hmi
                go_wp2
                go_roundw
                case rel => exact ⟨i + 1, _, by go_num, by omega, HF.out, hown, hb⟩
                case measure => simp [intOf]; omega
            · have HF := Lib.hid hmo
              clear hmo
              go_wp2
              go_roundw
              case rel => exact ⟨i + 1, _, by go_num, by omega, HF.out, hown, hb⟩
              case measure => simp [intOf]; omega
    · have e : i = (limbs m).length := by omega
      subst e
      have hd := Lib.hid HM.out.done
      have ht := Lib.hid (trimL_val hd.out.1 hd.out.2)
      have HL := Lib.hid HM.out.1
      have hrd := hown.rd
      have hml : out.length ≤ maxLen := by unfold maxLen; rw [HL.out]; omega
      have hle := hown.le
      have ho3 := hown.trimL
      rw [ht.out] at ho3
      have HO3 := Lib.hid ho3
      clear ho3
      have hT := trim_any _ ((limbs m).length + (limbs n).length + 1) out wr hrd hml hle
      rw [HL.out] at hT
      have HT := Lib.hid hT; clear hT
      go_wp2_with fail
      refine HT.out.mono ?_
      rintro e w3 ⟨rfl, rfl⟩
      rw [ht.out]
      go_wp2
      go_ret
      exact ⟨⟨rfl, HO3.out⟩, hb⟩
theorem natMul_any (a b : Option Addr) (ca cb m n : Nat) (w : World) (hx : Rd w a (limbs m)) (hy : Rd w b (limbs n)) (lx : (limbs m).length ≤ 1099511627776) (ly : (limbs n).length ≤ 1099511627776) :
    Calls Tryz.prog 20 #[.slice a (limbs m).length ca, .slice b (limbs n).length cb] w fun e w' => (∃ a' c', e = .returned (.slice a' (limbs (m * n)).length c') ∧ Own w' w.heap.size a' c' (limbs (m * n))) ∧ Below w.heap.size w w' := by
  refine (natMul_full a b ca cb m n w hx hy lx ly).mono ?_
  rintro e w' ⟨⟨rfl, ho⟩, hb⟩
  exact ⟨⟨_, _, rfl, ho⟩, hb⟩

theorem l02Mul_all (a b : Option Addr) (ca cb m n : Nat) (w : World) (hx : Rd w a (limbs m)) (hy : Rd w b (limbs n)) (lx : (limbs m).length ≤ 1099511627776) (ly : (limbs n).length ≤ 1099511627776) :
    Calls Tryz.prog 82 #[.slice a (limbs m).length ca, .slice b (limbs n).length cb] w fun e w' => (∃ a' c', e = .returned (.slice a' (limbs (m * n)).length c') ∧ Own w' w.heap.size a' c' (limbs (m * n))) ∧ Below w.heap.size w w' := by
  by_cases hm : (limbs m).length = 0
  · have e : m = 0 := limbs_inj (List.eq_nil_of_length_eq_zero hm)
    subst e
    have H := Lib.hid (show 0 * n = 0 from Nat.zero_mul n)
    go_enter Tryz.func82, Tryz.ntmps82
    go_wp2
    go_ret
    rw [H.out]
    exact ⟨⟨none, 0, rfl, Own.nil _ _⟩, Below.refl _ _⟩
  · by_cases hn : (limbs n).length = 0
    · have e : n = 0 := limbs_inj (List.eq_nil_of_length_eq_zero hn)
      subst e
      have H := Lib.hid (show m * 0 = 0 from Nat.mul_zero m)
      have b1 : (((limbs m).length : Int) == 0) = false := by rw [beq_eq_false_iff_ne]; omega
      clear hm
      go_enter Tryz.func82, Tryz.ntmps82
      go_wp2
      go_ret
      rw [H.out]
      exact ⟨⟨none, 0, rfl, Own.nil _ _⟩, Below.refl _ _⟩
    · exact l02Mul_any a b ca cb m n w hx hy lx ly (by omega) (by omega)
theorem l02_lenMul {m n : Nat} (hm : (limbs m).length ≤ 50) (hn : (limbs n).length ≤ 50) : (limbs (m * n)).length ≤ 100 := by
  rw [limbs_len_le] at *
  have e : (1000000000 : Nat) ^ 100 = 1000000000 ^ 50 * 1000000000 ^ 50 := by rw [show (100 : Nat) = 50 + 50 from rfl, Nat.pow_add]
  rw [e]
  generalize (1000000000 : Nat) ^ 50 = p at *
  exact Nat.mul_lt_mul'' hm hn

theorem fMul_no {xs ys : List Int} (h : (natB xs && natB ys) = false) : fMul xs ys = [] := by unfold fMul; rw [h]; rfl
theorem fMul_yes {m n : Nat} (h1 : natB (limbs m) = true) (h2 : natB (limbs n) = true) : fMul (limbs m) (limbs n) = limbs (capV (m * n)) := by
  unfold fMul; rw [h1, h2, nv_limbs, nv_limbs]; rfl
end Go.Proofs.YtogkonenejfgmaaGreatDoor
