/- The walk of natDiv (program): the long division. For every two numbers within the reach, the second one not nought. The walks of NatTen (reference), natTen and NatTen (program): a power of ten. For every number. -/
import Derived.Test.YtogkonenejfgmaaGreatDoorM17
import Derived.Test.YtogkonenejfgmaaGreatDoorM18
import Derived.Test.YtogkonenejfgmaaGreatDoorM19
import Derived.Test.YtogkonenejfgmaaGreatDoorM10
import Derived.Test.YtogkonenejfgmaaGreatDoorM07
import Derived.Test.YtogkonenejfgmaaGreatDoorM13
import Derived.Test.YtogkonenejfgmaaGreatDoorM01
import Derived.Test.YtogkonenejfgmaaGreatDoorM02
import Derived.Test.YtogkonenejfgmaaGreatDoorM03
namespace Go.Proofs.YtogkonenejfgmaaGreatDoor
open Go.RowKit
/-- what a division hands back: two slices of the call's own, in blocks of their own -/
def DivRes (w : World) (qL rL : List Int) (e : Ending) (w' : World) : Prop :=
  (∃ a c a' c' lo up lo' up', e = .returned (.tuple #[.slice a qL.length c, .slice a' rL.length c']) ∧ Slot w' lo up a c qL ∧ Slot w' lo' up' a' c' rL ∧ w.heap.size ≤ lo ∧ w.heap.size ≤ lo' ∧ (up ≤ lo' ∨ up' ≤ lo)) ∧ Below w.heap.size w w'
theorem scl_eq {n : Nat} (h : 0 < (limbs n).length) {bt : Int} (hb : (limbs n).getD ((limbs n).length - 1) 0 = bt) : (1000000000 : Int) / (bt + 1) = ((scl n : Nat) : Int) := by
  have h1 := btop_pos h
  unfold scl
  have e : bt = (((btop n).toNat : Nat) : Int) := by rw [← hb]; show btop n = _; omega
  rw [e, Int.natCast_ediv]
  rfl
theorem rd_one (w : World) (s : Nat) (hs : 1 ≤ s ∧ s < 1000000000) : Rd (w.alloc (.cells #[.int .i64 (s : Int)] 3)) (some ⟨w.heap.size, 0, none⟩) (limbs s) := by
  rw [limbs_one hs]
  refine .inr ⟨w.heap.size, 0, rfl, by simp, ?_⟩
  intro i hi
  have hi' : i < 1 := hi
  obtain rfl : i = 0 := by omega
  exact cell_box _ _ _ _ 0 _ rfl rfl
theorem Own.wr1 {w w' : World} {g gu cap : Nat} {xs : List Int} (h : Own w g (some ⟨g, 0, none⟩) cap xs) (hw : Wr w w' gu (gu + 1)) (hne : g ≠ gu) : Own w' g (some ⟨g, 0, none⟩) cap xs := by
  have hlt := h.lt.2
  exact own_same (lo := g) (hi := g + 1) h (by intro p hp; cases hp; exact ⟨Nat.le_refl _, Nat.lt_succ_self _⟩) (fun k h1 h2 => hw.block k (by omega) (by omega))
set_option maxRecDepth 10000 in
set_option maxHeartbeats 6400000 in
theorem natDiv_big (a b : Option Addr) (ca cb m n : Nat) (w : World) (hx : Rd w a (limbs m)) (hy : Rd w b (limbs n)) (lx : (limbs m).length ≤ 1099511627000) (hle : n ≤ m) (hN : 2 ≤ (limbs n).length) :
    Calls Tryz.prog 41 #[.slice a (limbs m).length ca, .slice b (limbs n).length cb] w fun e w' => DivRes w (limbs (m / n)) (limbs (m % n)) e w' := by
  obtain ⟨i0, hi, hz0, hz1, hz2⟩ := info_parts Tryz.infoInt
  have ly := limbs_len_mono hle
  have h0 : 0 < (limbs n).length := by omega
  have hb1 : (((limbs n).length : Int) == 1) = false := by rw [beq_eq_false_iff_ne]; omega
  have hc0 : 0 ≤ cmpN m n := by unfold cmpN; rw [if_neg (by omega)]; split <;> omega
  have hn0 : 0 < n := by
    rcases Nat.eq_zero_or_pos n with e | e
    · subst e; rw [limbs_zero] at hN; simp at hN
    · exact e
  have hs := scl_pos h0
  have hl1 : (limbs (scl n)).length = 1 := by rw [limbs_one hs]; rfl
  obtain ⟨bx, ox, bt, rfl, hbx, hcb, hgb⟩ := hy.at ((limbs n).length - 1) (by omega)
  have hbt := btop_pos h0
  have hbt2 : 1 ≤ bt ∧ bt < 1000000000 := by rw [← hgb.out]; exact hbt
  have HE := Lib.hid (scl_eq h0 hgb.out)
  go_enter Tryz.func41, Tryz.ntmps41
  go_wp2_with fail
  refine (natCmp_any _ _ _ _ _ _ _ hx hy (by omega) (by omega)).mono ?_
  rintro e w0 ⟨rfl, q0, rfl⟩
  have hB0 := bel_drewN (Below.refl w.heap.size w) q0
  go_wp2_with fail
  rw [HE.out]
  have hA1 := hB0.trans ((bel_al (w.drewN q0) (.cells #[.int .i64 (scl n : Int)] 3)).mono (Nat.le_refl w.heap.size))
  have hM1 := natMul_full a (some ⟨w.heap.size, 0, none⟩) ca 1 m (scl n) _ (hx.below hA1 (Nat.le_refl _)) (rd_one (w.drewN q0) (scl n) hs) (by omega) (by omega)
  rw [hl1] at hM1
  obtain ⟨gu, hgu⟩ : ∃ gu, gu = ((w.drewN q0).alloc (.cells #[.int .i64 (scl n : Int)] 3)).heap.size := ⟨_, rfl⟩
  rw [← hgu] at hM1
  have hgu2 : gu = w.heap.size + 1 := by rw [hgu]; simp
  refine hM1.mono ?_
  rintro e w1 ⟨⟨rfl, hu⟩, hbu⟩
  have hB1 := hA1.trans (hbu.mono (by omega))
  have hz1' : gu < w1.heap.size := hu.lt.2
  have hcb1 : w1.cell? ⟨bx, ox + ((limbs n).length - 1), none⟩ = some (.int .i64 bt) := cell_keep hB1 hcb (Nat.le_refl _)
  replace hgu2 : w.heap.size < gu := by omega
  clear hM1 hgu hbu hA1
  go_wp2_with fail
  have hA2 := hB1.trans ((bel_al w1 (.cells #[.int .i64 (scl n : Int)] 3)).mono (by omega))
  have hM2 := natMul_full (some ⟨bx, ox, none⟩) (some ⟨w1.heap.size, 0, none⟩) cb 1 n (scl n) _ (hy.below hA2 (Nat.le_refl _)) (rd_one w1 (scl n) hs) (by omega) (by omega)
  rw [hl1, scl_len h0] at hM2
  obtain ⟨gv, hgv⟩ : ∃ gv, gv = (w1.alloc (.cells #[.int .i64 (scl n : Int)] 3)).heap.size := ⟨_, rfl⟩
  have hgv2 : gv = w1.heap.size + 1 := by rw [hgv]; simp
  have hu2 := hu.alloc (.cells #[.int .i64 (scl n : Int)] 3)
  rw [← hgv] at hM2
  refine hM2.mono ?_
  rintro e w2 ⟨⟨rfl, hv⟩, hbv⟩
  have hB2 := hA2.trans (hbv.mono (by omega))
  replace hu2 := hu2.below hbv (by rw [hgv]; exact Nat.le_refl _)
  replace hgv2 : gu < gv := by omega
  clear hM2 hgv hbv hA2 hu
  have HU := Lib.hid hu2
  have HV := Lib.hid hv
  have HB := Lib.hid hB2
  clear hu2 hv hB2
  obtain ⟨vs, hvs⟩ : ∃ vs, vs = limbs (n * scl n) := ⟨_, rfl⟩
  rw [← hvs] at HV
  go_wp2
  go_loopw [9] (fun uv wr => ∃ k, uv = .slice (some ⟨gu, 0, none⟩) (padRow (m * scl n) k).length ((limbs m).length + 1 + 1) ∧ (padRow (m * scl n) k).length ≤ (limbs m).length + 1 ∧ Own wr gu (some ⟨gu, 0, none⟩) ((limbs m).length + 1 + 1) (padRow (m * scl n) k) ∧ Own wr gv (some ⟨gv, 0, none⟩) ((limbs n).length + 1 + 1) vs ∧ Below w.heap.size w wr)
    (fun uv _ => (limbs m).length + 2 - (match uv with | .slice _ l _ => l | _ => 0))
  case atStart =>
    have hp0 : padRow (m * scl n) 0 = limbs (m * scl n) := by unfold padRow; simp
    refine ⟨0, by rw [hp0], ?_, by rw [hp0]; exact HU.out, HV.out, HB.out⟩
    rw [hp0]; exact (scl_len2 h0).2
  case round =>
    clear HU HV HB
    obtain ⟨k, rfl, hk, hu, hv, hb⟩ := hrel
    by_cases hlen : (padRow (m * scl n) k).length ≤ (limbs m).length
    · go_wp2_with (at_builtin; refine appRoom _ rfl _ _ rfl gu gu ((limbs m).length + 1 + 1) (padRow (m * scl n) k) 0 rfl rfl hu (by omega) ?_)
      intro w3 hu3 hw3
      rw [padRow_snoc] at hu3
      have hl3 : (padRow (m * scl n) (k + 1)).length = (padRow (m * scl n) k).length + 1 := by rw [padRow_len, padRow_len]; omega
      have hv3 := hv.wr1 hw3 (by omega)
      have hb3 := below_wr hb hw3 (by omega) hb.size
      clear hu hv hb
      go_wp2
      go_roundw
      case rel => exact ⟨k + 1, by rw [hl3], by omega, hu3, hv3, hb3⟩
      case measure => simp; omega
    · have hK : (padRow (m * scl n) k).length = (limbs m).length + 1 := by omega
      have HS := Lib.hid (DvInv.start (m := m) (n := n) (k := k) h0 ly hK)
      obtain ⟨Q, hQ⟩ : ∃ Q, Q = (limbs m).length + 1 - (limbs n).length := ⟨_, rfl⟩
      rw [← hQ] at HS
      have hQa : Q + (limbs n).length ≤ (limbs m).length + 1 := by omega
      have hQb : (limbs m).length + 1 ≤ Q + (limbs n).length := by omega
      clear hQ
      go_wp2_with (at_make; refine wpList_make_full _ rfl _ _ 23 rfl wr.heap.size 3 i0 (.int .i64 0) 1 Tryz.underlying23 hi hz0 hz1 .i64 .i64 _ _ Q rfl rfl (by omega) (by omega) (by rw [hz2]; omega) (by unfold maxLen; omega) (Nat.le_refl _) ?_)
      intro w3 hown0 hgrow
      have hq := Own.made hown0
      have hb3 : Below w.heap.size w w3 := hb.grown hgrow hb.size (by intro k h; cases h)
      have hbz : Below wr.heap.size wr w3 := (Below.refl _ _).grown hgrow (Nat.le_refl _) (by intro k h; cases h)
      have hu3 := hu.below hbz (Nat.le_refl _)
      have hv3 := hv.below hbz (Nat.le_refl _)
      have hgq2 : gv < wr.heap.size := hv.lt.2
      obtain ⟨gq, hgq⟩ : ∃ gq, gq = wr.heap.size := ⟨_, rfl⟩
      rw [← hgq] at hq hgq2 ⊢
      have HQ := Lib.hid hq
      have HU := Lib.hid hu3
      have HV := Lib.hid hv3
      have HB := Lib.hid hb3
      have HK := Lib.hid hK
      clear hown0 hgrow hq hb3 hbz hu3 hv3 hgq hu hv hb hK
      have htop := Lib.hid (top_len_pos (scl_len h0) h0)
      have hvl := Lib.hid (scl_len h0)
      rw [← hvs] at htop hvl
      go_wp2
      go_loopw [13] (fun jv wr => ∃ (k' : Nat) (us qs : List Int), jv = .int .i64 ((k' : Int) - 1) ∧ k' ≤ Q ∧ DvInv ((n * scl n : Nat) : Int) (limbs n).length (padRow (m * scl n) k) k' us qs ∧ Own wr gu (some ⟨gu, 0, none⟩) ((limbs m).length + 1 + 1) us ∧ Own wr gq (some ⟨gq, 0, none⟩) Q qs ∧ Own wr gv (some ⟨gv, 0, none⟩) ((limbs n).length + 1 + 1) vs ∧ Below w.heap.size w wr)
        (fun jv _ => (intOf jv + 1).toNat)
      case atStart => exact ⟨Q, _, _, by go_num, Nat.le_refl _, HS.out, HU.out, HQ.out, HV.out, HB.out⟩
      case round =>
        clear HU HQ HV HB HS
        obtain ⟨k', us, qs, rfl, hk', hinv, hu, hq, hv, hb⟩ := hrel
        have hlu : us.length = (limbs m).length + 1 := hinv.1.trans HK.out
        have hlq : qs.length = Q := by have := hinv.2.1; rw [HK.out] at this; omega
        by_cases h00 : 0 < k'
        · obtain ⟨j, rfl⟩ : ∃ j, k' = j + 1 := ⟨k' - 1, by omega⟩
          obtain ⟨r1, r2, r3⟩ := hinv.row (by omega) hN hvl.out (by rw [hvs]; exact limbs_ok _) (by rw [hvs]; exact val_limbs _) htop.out
          rw [show (((j + 1 : Nat) : Int) - 1) = (j : Int) by omega]
          obtain ⟨L, hL⟩ : ∃ L, (limbs n).length = L + 2 := ⟨(limbs n).length - 2, by omega⟩
          have hD := divStep_any gu j L ((limbs m).length + 1 + 1) ((limbs m).length + 1 + 1 - j) gu us vs (some ⟨gv, 0, none⟩) ((limbs n).length + 1 + 1) wr hu (by omega) (by rw [← hL]; exact r1) hv.rd (by intro p hp; cases hp; show gv ≠ gu; omega) (by omega) (by omega) (by omega)
          rw [← hL, hvl.out] at hD
          have HD := Lib.hid hD
          have hnd := r1.q_lt
          have hvV : val vs = ((n * scl n : Nat) : Int) := by rw [hvs]; exact val_limbs _
          clear hL hD
          go_wp2_with fail
          rw [show j + (limbs n).length + 1 - j = (limbs n).length + 1 by omega]
          refine HD.out.mono ?_
          rintro e w4 ⟨W, hW1, hW2, hW3, rfl, hu4, hw4⟩
          have hnx := hinv.next (W := W) (Q := val ((us.drop j).take ((limbs n).length + 1)) / val vs) (by omega) r2 r3 hW1 hW2 (by rw [hW3, ← hvV, Int.mul_comm]; exact (Int.mul_ediv_add_emod _ _).symm) (by rw [hW3, ← hvV]; exact Int.emod_lt_of_pos _ (by rw [hvV]; exact Int.natCast_pos.2 (Nat.mul_pos hn0 (by omega)))) ⟨hnd.1, hnd.2.1⟩
          have hq4 := hq.wr1 hw4 (by omega)
          have hv4 := hv.wr1 hw4 (by omega)
          have hb4 := below_wr hb hw4 (by omega) hb.size
          obtain ⟨qv, hqv⟩ : ∃ qv, qv = val ((us.drop j).take ((limbs n).length + 1)) / val vs := ⟨_, rfl⟩
          rw [← hqv] at hnx ⊢
          have HNX := Lib.hid hnx
          obtain ⟨ov, ho, ho1⟩ := hq4.cellAt j (by omega)
          have hfz := hq4.frozenAt j
          have hst := hq4.stored j qv
          have HST := Lib.hid hst
          have hwq : Wr w4 (w4.setCell ⟨gq, j, none⟩ (.int .i64 qv)) gq (gq + 1) := (Wr.refl w4 gq (gq + 1)).set (by omega) _
          have HU5 := Lib.hid (hu4.wr1 hwq (by omega))
          have HV5 := Lib.hid (hv4.wr1 hwq (by omega))
          have HB5 := Lib.hid (below_wr hb4 hwq (by omega) hb4.size)
          clear hnx hst hq4 hv4 hb4 hu4 hu hq hv hb hinv hwq r1 r2 r3 HD hqv hW1 hW2 hW3
          go_wp2
          go_roundw
          case rel => exact ⟨j, _, _, rfl, by omega, HNX.out, HU5.out, HST.out, HV5.out, HB5.out⟩
          case measure => simp [intOf]
        · have e : k' = 0 := by omega
          subst e
          have HD := Lib.hid (hinv.done h0)
          have hml : us.length ≤ maxLen := by unfold maxLen; omega
          have hml2 : qs.length ≤ maxLen := by unfold maxLen; omega
          have hT1 := trim_any _ ((limbs m).length + 1 + 1) us wr hu.rd hml hu.le
          rw [hlu] at hT1
          have HT1 := Lib.hid hT1
          have hT2 := trim_any (some ⟨gq, 0, none⟩) Q qs
          rw [hlq] at hT2
          have HT2 := Lib.hid hT2
          have hut := hu.trimL
          have hqt := hq.trimL
          rw [HD.out.2.1] at hut
          rw [HD.out.1] at hqt
          have hlr : (limbs (m % n * scl n)).length ≤ (limbs m).length + 1 := by rw [← HD.out.2.1]; have := trimL_length_le us; omega
          have hqs := hq.le
          have hq2 := hq.lt.2
          clear hT1 hT2 hinv
          go_wp2_with fail
          refine HT1.out.mono ?_
          rintro e w5 ⟨rfl, rfl⟩
          rw [HD.out.2.1]
          go_wp2_with fail
          refine (natSmall_any _ _ _ _ _ hut.rd (by omega) hs.1 hs.2).mono ?_
          rintro e w6 ⟨⟨a6, c6, rfl, ho6⟩, hb6⟩
          rw [HD.out.2.2] at ho6 ⊢
          have hq6 := hq.below hb6 (Nat.le_refl _)
          have hqt6 := hqt.below hb6 (Nat.le_refl _)
          have hz6 := hb6.size
          go_wp2_with fail
          refine (HT2.out _ hq6.rd (by rw [← hlq]; exact hml2) (by omega)).mono ?_
          rintro e w7 ⟨rfl, rfl⟩
          rw [HD.out.1]
          go_wp2
          go_ret2
          refine ⟨⟨_, _, _, _, gq, gq + 1, _, _, rfl, ⟨by omega, .inr ⟨hqt6, ?_⟩⟩, Slot.of ho6, by omega, hb.size, .inl (by omega)⟩, hb.trans (hb6.mono hb.size)⟩
          intro p hp
          cases hp
          exact ⟨Nat.le_refl _, Nat.lt_succ_self _⟩
set_option maxHeartbeats 1600000 in
theorem natDiv_any (a b : Option Addr) (ca cb m n : Nat) (w : World) (hx : Rd w a (limbs m)) (hy : Rd w b (limbs n)) (lx : (limbs m).length ≤ 1099511627000) (ly : (limbs n).length ≤ 1099511627000) (hn : 0 < n) :
    Calls Tryz.prog 41 #[.slice a (limbs m).length ca, .slice b (limbs n).length cb] w fun e w' => DivRes w (limbs (m / n)) (limbs (m % n)) e w' := by
  by_cases hlt : m < n
  · have hb := bel_al w (.cells #[] 3)
    rw [Nat.div_eq_of_lt hlt, Nat.mod_eq_of_lt hlt, limbs_zero]
    have hc := cmpN_lt hlt
    go_enter Tryz.func41, Tryz.ntmps41
    go_wp2_with fail
    refine (natCmp_any _ _ _ _ _ _ _ hx hy (by omega) (by omega)).mono ?_
    rintro e w0 ⟨rfl, q0, rfl⟩
    have hB0 := bel_drewN (Below.refl w.heap.size w) q0
    have hB1 := hB0.trans ((bel_al (w.drewN q0) (.cells #[] 3)).mono (Nat.le_refl w.heap.size))
    rw [hc]
    go_wp2_with fail
    refine (natCopy_any _ _ _ _ (hx.below hB1 (Nat.le_refl _)) (by omega)).mono ?_
    rintro e w2 ⟨⟨a2, c2, rfl, ho2⟩, hb2⟩
    have hB2 := hB1.trans (hb2.mono hB1.size)
    have hz2 := hb2.size
    simp only [World.size_alloc] at hz2
    go_wp2
    go_ret2
    refine ⟨⟨_, 0, _, _, w.heap.size, w.heap.size, _, _, rfl, ⟨hB2.size, .inl rfl⟩, Slot.of ho2, Nat.le_refl _, hB1.size, .inl hB1.size⟩, hB2⟩
  · by_cases h1 : (limbs n).length = 1
    · have hn1 : n < 1000000000 := by
        have := limbs_lt_val n
        rw [h1] at this
        omega
      have e1 : limbs n = [(n : Int)] := limbs_one ⟨hn, hn1⟩
      have hb1 : (((limbs n).length : Int) == 1) = true := by rw [beq_iff_eq]; omega
      have hc0 : 0 ≤ cmpN m n := by unfold cmpN; rw [if_neg hlt]; split <;> omega
      have hr : m % n < n := Nat.mod_lt _ hn
      have hr2 : (limbs (m % n)).length ≤ 1099511627776 := by have := limbs_len_mono (Nat.le_of_lt hr); omega
      obtain ⟨bx, ox, x, rfl, hbx, hcx, hgx⟩ := hy.at 0 (by omega)
      have ex : x = (n : Int) := by rw [← hgx.out, e1]; rfl
      subst ex
      have HN1 := Lib.hid hn1
      have hl0 : 0 < (limbs n).length := by omega
      have hl9 : (limbs n).length ≤ 1 := by omega
      rw [Nat.add_zero] at hcx
      clear e1 hgx hn1 h1
      go_enter Tryz.func41, Tryz.ntmps41
      go_wp2_with fail
      refine (natCmp_any _ _ _ _ _ _ _ hx hy (by omega) (by omega)).mono ?_
      rintro e w0 ⟨rfl, q0, rfl⟩
      have hB0 := bel_drewN (Below.refl w.heap.size w) q0
      go_wp2_with fail
      refine (natSmall_any _ _ _ _ _ (hx.below hB0 (Nat.le_refl _)) (by omega) hn HN1.out).mono ?_
      rintro e w1 ⟨⟨a1, c1, rfl, ho1⟩, hb1'⟩
      have hB1 := hB0.trans (hb1'.mono hB0.size)
      have s1 := Slot.of (ho1.mono hB0.size)
      go_wp2_with fail
      refine (impl_NatOf ((m % n : Nat) : Int) _ ⟨by omega, by have := HN1.out; omega⟩).mono ?_
      rintro e w2 ⟨⟨a2, c2, rfl, ho2, hn2⟩, hb2⟩
      rw [Int.toNat_natCast] at ho2 ⊢
      have hB2 := hB1.trans (hb2.mono hB1.size)
      have s2 := s1.below hb2 s1.1
      go_wp2
      go_ret2
      exact ⟨⟨_, _, _, _, _, _, _, _, rfl, s2, Slot.of ho2, Nat.le_refl _, hB1.size, .inl (Nat.le_refl _)⟩, hB2⟩
    · have h0 : 0 < (limbs n).length := by
        rcases Nat.eq_zero_or_pos (limbs n).length with e | e
        · have := limbs_lt_val n; rw [e] at this; omega
        · exact e
      exact natDiv_big a b ca cb m n w hx hy lx (by omega) (by omega)
end Go.Proofs.YtogkonenejfgmaaGreatDoor
namespace Go.Proofs.YtogkonenejfgmaaGreatDoor
open Go.RowKit
theorem ten_limbs (k : Nat) : List.replicate (k / 9) 0 ++ [((10 ^ (k % 9) : Nat) : Int)] = limbs (10 ^ k) := by
  have h9 : (10 : Nat) ^ 9 = 1000000000 := rfl
  have e : (10 : Nat) ^ k = 1000000000 ^ (k / 9) * 10 ^ (k % 9) := by
    rw [← h9, ← Nat.pow_mul, ← Nat.pow_add, Nat.div_add_mod]
  have h1 : (10 : Nat) ^ (k % 9) ≤ 10 ^ 8 := Nat.pow_le_pow_right (by omega) (by omega)
  have h2 : 0 < (10 : Nat) ^ (k % 9) := Nat.pow_pos (by omega)
  have h3 : (10 : Nat) ^ 8 = 100000000 := rfl
  refine limbs_of_len ?_ ?_ ?_
  · refine okL_snoc (okL_replicate _) ⟨by omega, by omega⟩
  · rw [val_snoc, val_replicate, List.length_replicate, e, ← pow_cast]; simp
  · right
    rw [List.length_append, List.length_replicate, e]
    show 1000000000 ^ (k / 9 + 1 - 1) ≤ _
    rw [Nat.add_sub_cancel]
    exact Nat.le_mul_of_pos_right _ h2
theorem ten_small {i : Nat} (h : i ≤ 8) : 1 ≤ (10 : Nat) ^ i ∧ (10 : Nat) ^ i ≤ 100000000 := by
  have h1 : (10 : Nat) ^ i ≤ 10 ^ 8 := Nat.pow_le_pow_right (by omega) h
  have h2 : 0 < (10 : Nat) ^ i := Nat.pow_pos (by omega)
  have h3 : (10 : Nat) ^ 8 = 100000000 := rfl
  omega
theorem ten_len {k : Nat} (h : k ≤ 449) : (limbs (10 ^ k)).length ≤ 50 := by
  rw [← ten_limbs]; simp; omega
theorem ten_next (i : Nat) : (((10 ^ i : Nat) : Int) * 10) = ((10 ^ (i + 1) : Nat) : Int) := by rw [Nat.pow_succ]; simp

def fTen (z : Int) : List Int := if 0 ≤ z ∧ z ≤ 449 then limbs (10 ^ z.toNat) else []
theorem fTen_yes {k : Nat} (h : k ≤ 449) : fTen k = limbs (10 ^ k) := by unfold fTen; rw [if_pos (by omega)]; rfl
theorem fTen_no {z : Int} (h : ¬ (0 ≤ z ∧ z ≤ 449)) : fTen z = [] := if_neg h
end Go.Proofs.YtogkonenejfgmaaGreatDoor
