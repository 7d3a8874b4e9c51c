/- The law FnExactIntSum answers true at every input. No condition. -/
import Derived.Test.YtcibccaimjifmaaRows
import Derived.Test.YtcibccaimjifmaaGs
import Derived.Deep.Slices
import Derived.Deep.Fields
import Derived.ChangeSame
import Derived.ProofKit
import Derived.OpenShut
import Derived.ShutString
import Derived.ChangeOld
import Derived.Lib.SmallJoins
import Derived.Below
namespace Go.Proofs.Ytcibccaimjifmaa.fnExactIntSum
open Go.ChangeShapes Go.WideShapes Go.ChangeAt Go.RowKit Go.Deep
open Go.ChangeMaps (open_string shut_string)
set_option linter.unusedVariables false
/-- what came in, opened: a slice of integers -/
theorem open_sg {H : Type} {enc : TypeId × Value → H} {W : World} {base : Nat} {held : Bool} {fuel : Nat} {a : Option Addr} {len cap : Nat} {x : DataW H × List MemPlace}
    (h : DataW.trod enc Try.prog W base (fun _ => true) held fuel 22 (Value.slice a len cap).cells.toList = some x) : ∃ xs : List SgV, xs.length = len ∧ RdG0 W a xs ∧ xs.length ≤ maxLen := by
  rcases open_slice Try.underlying22 h with ⟨hcs, _⟩ | ⟨ad, l, cp, m, n, D, Pl, hcs, _, hl, hm, hmm, _, hi⟩
  · simp [Value.cells] at hcs
    obtain ⟨rfl, rfl, rfl⟩ := hcs
    exact ⟨[], rfl, ⟨.inl rfl, by simp⟩, Nat.zero_le _⟩
  · simp [Value.cells] at hcs
    obtain ⟨rfl, rfl, rfl⟩ := hcs
    have hmc : m = cap := by simpa using hmm
    have hc2 : Try.prog.cellsOf 50 = 2 := by kernel_rfl
    rw [hc2] at hi
    have key : ∀ i, i < len → ∃ e : SgV, W.cell? (ad.add (i * 2)) = some (.bool e.n) ∧ W.cell? (ad.add (i * 2 + 1)) = some (.slice e.a e.xs.length e.c) ∧ Rd W e.a e.xs ∧ e.xs.length ≤ e.c ∧ e.xs.length ≤ maxLen := by
      intro i hil
      obtain ⟨cs, hcc, htt⟩ := hi i (by omega)
      obtain ⟨_, hcl, hat⟩ := World.cells?_some hcc
      obtain ⟨c0, c1, rfl⟩ : ∃ c0 c1, cs = [c0, c1] := by
        match cs, hcl with
        | [c0, c1], _ => exact ⟨c0, c1, rfl⟩
      obtain ⟨y0, y1, n', _, _, h0, h1⟩ := trod_struct2 Try.underlying50 htt
      have q0 : Try.prog.cellsOf 4 = 1 := by kernel_rfl
      have q1 : Try.prog.cellsOf 24 = 1 := by kernel_rfl
      have e0 := hat 0 (by omega)
      have e1 := hat 1 (by omega)
      rw [add_add] at e0 e1
      simp only [Nat.add_zero, List.getElem?_cons_zero, List.getElem?_cons_succ] at e0 e1
      obtain ⟨b, hb, _⟩ := DataW.trod_bool Try.underlying4 h0
      have hb' : c0 = .bool b := by simpa [q0] using hb
      rcases open_ints Try.underlying24 Try.underlying3 (by kernel_rfl) h1 with ⟨hs, _⟩ | ⟨x2, l2, cp2, zs, hs, _, hl2, hm2, hz2, _, hcell, _⟩
      · have hs' : c1 = .slice none 0 0 := by simpa [q1] using hs
        exact ⟨⟨b, none, 0, []⟩, by rw [e0, hb'], by rw [e1, hs']; rfl, Rd.nil _ _, Nat.zero_le _, Nat.zero_le _⟩
      · have hs' : c1 = .slice (some x2) l2 cp2 := by simpa [q1] using hs
        have hzz : zs.length = cp2 := by simpa using hz2
        have htl : (zs.take l2).length = l2 := by rw [List.length_take]; omega
        exact ⟨⟨b, some x2, cp2, zs.take l2⟩, by rw [e0, hb'], by rw [e1, hs']; show some (Value.slice (some x2) l2 cp2) = some (Value.slice (some x2) (zs.take l2).length cp2); rw [htl], rd_of_cells hcell _, by show (zs.take l2).length ≤ cp2; omega, by show (zs.take l2).length ≤ maxLen; omega⟩
    obtain ⟨V, hV⟩ := choose_lt key
    have hlen : ((List.range len).map V).length = len := by simp
    have hget : ∀ i, i < len → ((List.range len).map V).getD i default = V i := fun i hi => by simp [List.getD_eq_getElem?_getD, hi]
    refine ⟨(List.range len).map V, hlen, ⟨?_, ?_⟩, by rw [hlen]; omega⟩
    · by_cases h0 : len = 0
      · left; subst h0; rfl
      · right
        obtain ⟨b, off, spot⟩ := ad
        have hspot : spot = none := by simpa [Addr.add] using World.cell?_spot (hV 0 (by omega)).1
        subst hspot
        refine ⟨b, off, rfl, ?_, ?_⟩
        · have h0c := (hV 0 (by omega)).1
          rw [Go.WideShapes.add_plain] at h0c
          exact World.block_lt_of_cell? W _ h0c
        · intro i hi2
          rw [hlen] at hi2
          rw [hget i hi2]
          have h3 := hV i hi2
          rw [Go.WideShapes.add_plain, Go.WideShapes.add_plain] at h3
          exact ⟨h3.1, h3.2.1⟩
    · intro i hi2
      rw [hlen] at hi2
      rw [hget i hi2]
      exact (hV i hi2).2.2
theorem lenG_le : ∀ (L : List SgV) (i : Nat), i < L.length → (L.getD i default).xs.length ≤ lenG L
  | [], _, h => by simp at h
  | e :: r, 0, _ => by simp [lenG]
  | e :: r, i + 1, h => by
    have := lenG_le r i (by simpa using h)
    simp only [List.getD_cons_succ, lenG]
    omega
theorem len_tot {L : List SgV} (h : totG L ≤ 1048576) : ∀ i, i < L.length → (L.getD i default).xs.length + L.length ≤ 1048576 := by
  intro i hi
  have := lenG_le L i hi
  unfold totG at h
  omega
theorem mul_small {n D : Nat} (h : n ≤ 1048576) (hD : D = 1048577 - n) : n * D ≤ 1000000000000 := by
  by_cases h1 : n ≤ 524288
  · exact Nat.le_trans (Nat.mul_le_mul h1 (show D ≤ 1048577 by omega)) (by decide)
  · exact Nat.le_trans (Nat.mul_le_mul h (show D ≤ 524289 by omega)) (by decide)
set_option maxRecDepth 100000 in
set_option maxHeartbeats 40000000 in
theorem walk (a0 : Option Addr) (c0 : Nat) (xs0 : List SgV) (w : World) (hp0 : RdG0 w a0 xs0 ∧ xs0.length ≤ maxLen) :
    Calls Try.prog 3 #[.slice a0 xs0.length c0] w fun e w' => e = .returned (.bool true) ∧ Below w.heap.size w w' := by
  have hb0 := Below.refl w.heap.size w
  go_enter Try.func3, Try.ntmps3
  go_wp2_with fail
  refine (szG_any a0 c0 xs0 _ hp0.1 hp0.2).mono ?_
  rintro e w1 ⟨⟨lf, rfl, hlf⟩, hb⟩
  have zz2 := hb.size
  replace hb0 := hb0.trans (hb.mono hb0.size)
  clear hb
  rcases hlf with hlf | ⟨hT, hlf⟩
  · go_wp2
    go_ret
    exact ⟨rfl, hb0⟩
  have hlf0 : 0 ≤ lf := by omega
  have hn : xs0.length ≤ 1048576 := by unfold totG at hT; omega
  have hxl := len_tot hT
  have hxl2 : ∀ i, i < xs0.length → (xs0.getD i default).xs.length ≤ 1048576 := fun i hi => by have := hxl i hi; omega
  have hpr := hp0.1.full hxl2
  have HT := Lib.hid hT
  have HXL := Lib.hid hxl
  have HX2 := Lib.hid hxl2
  obtain ⟨F, hF⟩ : ∃ F, fSum (false, []) xs0 = F := ⟨_, rfl⟩
  have hFl : F.2.length ≤ 50 := by rw [← hF]; exact fSum_len xs0 _ (by simp)
  have HF := Lib.hid hF
  clear hT hlf hxl hxl2 hF
  go_wp2_with fail
  refine (toG_any a0 c0 xs0 _ (hpr.below hb0 (Nat.le_refl _)) hn HX2.out).mono ?_
  rintro e w2 ⟨⟨M1, rfl, gM1, sM1⟩, hb⟩
  have zz3 := hb.size
  replace hb0 := hb0.trans (hb.mono hb0.size)
  clear hb
  have hlM1 : ∀ k, k < xs0.length → (M1 k).xs.length ≤ 1099511627776 := fun k hk => by rw [(sM1 k hk).2]; have := HX2.out k hk; omega
  have hsum := spec_IntSum_o (some ⟨_, 0, none⟩) xs0.length (listG xs0.length M1) w2 (gM1.rd hlM1) (by rw [listG_len]; exact hn) (by rw [listG_len]; exact Nat.le_refl _)
  rw [listG_len, fSum_same sM1, HF.out] at hsum
  go_wp2_with fail
  refine (hsum).mono ?_
  rintro e w3 ⟨⟨aW, cW, rfl, oW, -⟩, hb⟩
  have zz4 := hb.size
  replace gM1 := gM1.below hb
  replace hb0 := hb0.trans (hb.mono hb0.size)
  clear hsum
  have slW := Slot.of oW
  clear hb
  clear oW hlM1
  clear gM1 sM1
  have hb := bel_alloc w3 (.cells #[.bool F.1, .slice aW F.2.length cW] 26)
  have kW_0 := cell_box w3 #[.bool F.1, .slice aW F.2.length cW] 26 _ 0 _ rfl rfl
  have kW_1 := cell_box w3 #[.bool F.1, .slice aW F.2.length cW] 26 _ 1 _ rfl rfl
  have zy5 : w3.heap.size < (w3.alloc (.cells #[.bool F.1, .slice aW F.2.length cW] 26)).heap.size := by simp
  replace slW := slW.below hb slW.1
  replace hb0 := hb0.trans (hb.mono hb0.size)
  clear hb
  go_wp2_with fail
  generalize w3.alloc (.cells #[.bool F.1, .slice aW F.2.length cW] 26) = w4 at *
  obtain ⟨bW, hbW⟩ : ∃ b, w3.heap.size = b := ⟨_, rfl⟩
  have loW : w3.heap.size ≤ bW := by omega
  have ltW : bW < w4.heap.size := by omega
  rw [hbW] at kW_0 kW_1 ⊢
  clear hbW
  have hwX := hb0.size
  go_wp2_with fail
  refine (toG_any a0 c0 xs0 _ (hpr.below hb0 (Nat.le_refl _)) hn HX2.out).mono ?_
  rintro e w5 ⟨⟨M, rfl, gM, sM⟩, hb⟩
  have zz6 := hb.size
  replace slW := slW.below hb slW.1
  replace kW_0 := cell_keep hb kW_0 (Nat.le_refl _)
  replace kW_1 := cell_keep hb kW_1 (Nat.le_refl _)
  replace hb0 := hb0.trans (hb.mono hb0.size)
  clear hb
  have hH : ∀ i, i < xs0.length → (M i).hi ≤ w5.heap.size := fun i hi => (gM.slot i (Nat.zero_le _) hi).1.1
  have HH := Lib.hid hH
  clear hH
  have hrH := gM.lt
  skip
  have hlM : ∀ k, k < xs0.length → (M k).xs.length ≤ 1099511627776 := fun k hk => by rw [(sM k hk).2]; have := HX2.out k hk; omega
  have hsum := impl_IntSum_o (some ⟨_, 0, none⟩) xs0.length (listG xs0.length M) w5 (gM.rd hlM) (by rw [listG_len]; exact hn) (by rw [listG_len]; exact Nat.le_refl _)
  rw [listG_len, fSum_same sM, HF.out] at hsum
  go_wp2_with fail
  refine (hsum).mono ?_
  rintro e w6 ⟨⟨aG, cG, rfl, oG, -⟩, hb⟩
  have zz7 := hb.size
  replace slW := slW.below hb slW.1
  replace kW_0 := cell_keep hb kW_0 (Nat.le_refl _)
  replace kW_1 := cell_keep hb kW_1 (Nat.le_refl _)
  replace gM := gM.below hb
  replace hb0 := hb0.trans (hb.mono hb0.size)
  clear hsum
  have slG := Slot.of oG
  clear hb
  clear oG hlM
  have hb := bel_alloc w6 (.cells #[.bool F.1, .slice aG F.2.length cG] 26)
  have kG_0 := cell_box w6 #[.bool F.1, .slice aG F.2.length cG] 26 _ 0 _ rfl rfl
  have kG_1 := cell_box w6 #[.bool F.1, .slice aG F.2.length cG] 26 _ 1 _ rfl rfl
  have zy8 : w6.heap.size < (w6.alloc (.cells #[.bool F.1, .slice aG F.2.length cG] 26)).heap.size := by simp
  replace slW := slW.below hb slW.1
  replace kW_0 := cell_keep hb kW_0 (Nat.le_refl _)
  replace kW_1 := cell_keep hb kW_1 (Nat.le_refl _)
  replace gM := gM.below hb
  replace slG := slG.below hb slG.1
  replace hb0 := hb0.trans (hb.mono hb0.size)
  clear hb
  go_wp2_with fail
  generalize w6.alloc (.cells #[.bool F.1, .slice aG F.2.length cG] 26) = w7 at *
  obtain ⟨bG, hbG⟩ : ∃ b, w6.heap.size = b := ⟨_, rfl⟩
  have loG : w6.heap.size ≤ bG := by omega
  have ltG : bG < w7.heap.size := by omega
  rw [hbG] at kG_0 kG_1 ⊢
  clear hbG
  go_wp2_with fail
  refine (eqSigned_same F.1 _ _ _ _ F.2 _ slG.rd slW.rd (by omega)).mono ?_
  rintro e w8 ⟨rfl, hb⟩
  have zz9 := hb.size
  replace slW := slW.below hb slW.1
  replace kW_0 := cell_keep hb kW_0 (Nat.le_refl _)
  replace kW_1 := cell_keep hb kW_1 (Nat.le_refl _)
  replace gM := gM.below hb
  replace slG := slG.below hb slG.1
  replace kG_0 := cell_keep hb kG_0 (Nat.le_refl _)
  replace kG_1 := cell_keep hb kG_1 (Nat.le_refl _)
  replace hb0 := hb0.trans (hb.mono hb0.size)
  clear hb
  go_wp2_with fail
  refine (toG_any a0 c0 xs0 _ (hpr.below hb0 (Nat.le_refl _)) hn HX2.out).mono ?_
  rintro e w9 ⟨⟨M2, rfl, gM2, sM2⟩, hb⟩
  have zz10 := hb.size
  replace slW := slW.below hb slW.1
  replace kW_0 := cell_keep hb kW_0 (Nat.le_refl _)
  replace kW_1 := cell_keep hb kW_1 (Nat.le_refl _)
  replace gM := gM.below hb
  replace slG := slG.below hb slG.1
  replace kG_0 := cell_keep hb kG_0 (Nat.le_refl _)
  replace kG_1 := cell_keep hb kG_1 (Nat.le_refl _)
  replace hb0 := hb0.trans (hb.mono hb0.size)
  clear hb
  skip
  go_wp2_with fail
  refine (eqG_same _ _ xs0.length _ _ M M2 _ gM gM2 hn (fun i hi => ⟨((sM i hi).1).trans ((sM2 i hi).1).symm, ((sM i hi).2).trans ((sM2 i hi).2).symm⟩) (fun i hi => by rw [(sM i hi).2]; exact HX2.out i hi)).mono ?_
  rintro e w10 ⟨rfl, hb⟩
  have zz11 := hb.size
  replace slW := slW.below hb slW.1
  replace kW_0 := cell_keep hb kW_0 (Nat.le_refl _)
  replace kW_1 := cell_keep hb kW_1 (Nat.le_refl _)
  replace gM := gM.below hb
  replace slG := slG.below hb slG.1
  replace kG_0 := cell_keep hb kG_0 (Nat.le_refl _)
  replace kG_1 := cell_keep hb kG_1 (Nat.le_refl _)
  replace gM2 := gM2.below hb
  replace hb0 := hb0.trans (hb.mono hb0.size)
  clear hb
  clear gM2 sM2
  obtain ⟨D, hD⟩ : ∃ D, D = 1048577 - xs0.length := ⟨_, rfl⟩
  have hD1 : ∀ i, i < xs0.length → (M i).xs.length + 1 ≤ D := fun i hi => by rw [(sM i hi).2]; have := HXL.out i hi; omega
  have hD2 : xs0.length * D ≤ 1000000000000 := mul_small hn hD
  have HD1 := Lib.hid hD1
  have HD2 := Lib.hid hD2
  clear hD1 hD2 hD
  go_wp2_with fail
  refine (markG_any _ xs0.length _ w5.heap.size D M _ gM hn HD1.out HD2.out HH.out hrH).mono ?_
  rintro e w11 ⟨⟨kq, rfl, hk0⟩, hw⟩
  replace slW := slW.wr hw (.inl (by omega))
  replace kW_0 := cell_keep_wr hw kW_0 (.inl (by omega))
  replace kW_1 := cell_keep_wr hw kW_1 (.inl (by omega))
  replace slG := slG.wr hw (.inr (Nat.le_refl _))
  replace kG_0 := cell_keep_wr hw kG_0 (.inr (by omega))
  replace kG_1 := cell_keep_wr hw kG_1 (.inr (by omega))
  replace hb0 := below_wr hb0 hw hwX hb0.size
  clear gM HH HD1 HD2
  clear hw
  go_wp2_with fail
  refine (eqSigned_same F.1 _ _ _ _ F.2 _ slG.rd slW.rd (by omega)).mono ?_
  rintro e w12 ⟨rfl, hb⟩
  have zz13 := hb.size
  replace slW := slW.below hb slW.1
  replace kW_0 := cell_keep hb kW_0 (Nat.le_refl _)
  replace kW_1 := cell_keep hb kW_1 (Nat.le_refl _)
  replace slG := slG.below hb slG.1
  replace kG_0 := cell_keep hb kG_0 (Nat.le_refl _)
  replace kG_1 := cell_keep hb kG_1 (Nat.le_refl _)
  replace hb0 := hb0.trans (hb.mono hb0.size)
  clear hb
  go_wp2_with fail
  refine (markSigned_any _ _ F.1 _ _ F.2 1 _ slG (by omega) ⟨by omega, by omega⟩).mono ?_
  rintro e w13 ⟨rfl, slH2, hw⟩
  replace slW := slW.wr hw (.inl (by omega))
  replace kW_0 := cell_keep_wr hw kW_0 (.inl (by omega))
  replace kW_1 := cell_keep_wr hw kW_1 (.inl (by omega))
  replace kG_0 := cell_keep_wr hw kG_0 (.inr (by omega))
  replace kG_1 := cell_keep_wr hw kG_1 (.inr (by omega))
  replace hb0 := below_wr hb0 hw (by omega) hb0.size
  clear slG
  clear hw
  go_wp2_with fail
  refine (heldSigned_any F.1 _ _ F.2.length 1 _ slH2.rd (by omega) ⟨by omega, by omega⟩).mono ?_
  rintro e w14 ⟨rfl, hb⟩
  have zz15 := hb.size
  replace slW := slW.below hb slW.1
  replace kW_0 := cell_keep hb kW_0 (Nat.le_refl _)
  replace kW_1 := cell_keep hb kW_1 (Nat.le_refl _)
  replace kG_0 := cell_keep hb kG_0 (Nat.le_refl _)
  replace kG_1 := cell_keep hb kG_1 (Nat.le_refl _)
  replace slH2 := slH2.below hb slH2.1
  replace hb0 := hb0.trans (hb.mono hb0.size)
  clear hb
  go_wp2_with fail
  refine (toG_any a0 c0 xs0 _ (hpr.below hb0 (Nat.le_refl _)) hn HX2.out).mono ?_
  rintro e w15 ⟨⟨M3, rfl, gM3, sM3⟩, hb⟩
  have zz16 := hb.size
  replace slW := slW.below hb slW.1
  replace kW_0 := cell_keep hb kW_0 (Nat.le_refl _)
  replace kW_1 := cell_keep hb kW_1 (Nat.le_refl _)
  replace kG_0 := cell_keep hb kG_0 (Nat.le_refl _)
  replace kG_1 := cell_keep hb kG_1 (Nat.le_refl _)
  replace slH2 := slH2.below hb slH2.1
  replace hb0 := hb0.trans (hb.mono hb0.size)
  clear hb
  have hlM3 : ∀ k, k < xs0.length → (M3 k).xs.length ≤ 1099511627776 := fun k hk => by rw [(sM3 k hk).2]; have := HX2.out k hk; omega
  have hsum := impl_IntSum_o (some ⟨_, 0, none⟩) xs0.length (listG xs0.length M3) w15 (gM3.rd hlM3) (by rw [listG_len]; exact hn) (by rw [listG_len]; exact Nat.le_refl _)
  rw [listG_len, fSum_same sM3, HF.out] at hsum
  go_wp2_with fail
  refine (hsum).mono ?_
  rintro e w16 ⟨⟨aK, cK, rfl, oK, -⟩, hb⟩
  have zz17 := hb.size
  replace slW := slW.below hb slW.1
  replace kW_0 := cell_keep hb kW_0 (Nat.le_refl _)
  replace kW_1 := cell_keep hb kW_1 (Nat.le_refl _)
  replace kG_0 := cell_keep hb kG_0 (Nat.le_refl _)
  replace kG_1 := cell_keep hb kG_1 (Nat.le_refl _)
  replace slH2 := slH2.below hb slH2.1
  replace gM3 := gM3.below hb
  replace hb0 := hb0.trans (hb.mono hb0.size)
  clear hsum
  have slK := Slot.of oK
  clear hb
  clear oK hlM3
  clear gM3 sM3
  have hb := bel_alloc w16 (.cells #[.bool F.1, .slice aK F.2.length cK] 26)
  have kK_0 := cell_box w16 #[.bool F.1, .slice aK F.2.length cK] 26 _ 0 _ rfl rfl
  have kK_1 := cell_box w16 #[.bool F.1, .slice aK F.2.length cK] 26 _ 1 _ rfl rfl
  have zy18 : w16.heap.size < (w16.alloc (.cells #[.bool F.1, .slice aK F.2.length cK] 26)).heap.size := by simp
  replace slW := slW.below hb slW.1
  replace kW_0 := cell_keep hb kW_0 (Nat.le_refl _)
  replace kW_1 := cell_keep hb kW_1 (Nat.le_refl _)
  replace kG_0 := cell_keep hb kG_0 (Nat.le_refl _)
  replace kG_1 := cell_keep hb kG_1 (Nat.le_refl _)
  replace slH2 := slH2.below hb slH2.1
  replace slK := slK.below hb slK.1
  replace hb0 := hb0.trans (hb.mono hb0.size)
  clear hb
  go_wp2_with fail
  generalize w16.alloc (.cells #[.bool F.1, .slice aK F.2.length cK] 26) = w17 at *
  obtain ⟨bK, hbK⟩ : ∃ b, w16.heap.size = b := ⟨_, rfl⟩
  have loK : w16.heap.size ≤ bK := by omega
  have ltK : bK < w17.heap.size := by omega
  rw [hbK] at kK_0 kK_1 ⊢
  clear hbK
  go_wp2_with fail
  refine (eqSigned_same F.1 _ _ _ _ F.2 _ slK.rd slW.rd (by omega)).mono ?_
  rintro e w18 ⟨rfl, hb⟩
  have zz19 := hb.size
  replace slW := slW.below hb slW.1
  replace kW_0 := cell_keep hb kW_0 (Nat.le_refl _)
  replace kW_1 := cell_keep hb kW_1 (Nat.le_refl _)
  replace kG_0 := cell_keep hb kG_0 (Nat.le_refl _)
  replace kG_1 := cell_keep hb kG_1 (Nat.le_refl _)
  replace slH2 := slH2.below hb slH2.1
  replace slK := slK.below hb slK.1
  replace kK_0 := cell_keep hb kK_0 (Nat.le_refl _)
  replace kK_1 := cell_keep hb kK_1 (Nat.le_refl _)
  replace hb0 := hb0.trans (hb.mono hb0.size)
  clear hb
  go_wp2_with fail
  refine (heldSigned_any F.1 _ _ F.2.length 1 _ slH2.rd (by omega) ⟨by omega, by omega⟩).mono ?_
  rintro e w19 ⟨rfl, hb⟩
  have zz20 := hb.size
  replace slW := slW.below hb slW.1
  replace kW_0 := cell_keep hb kW_0 (Nat.le_refl _)
  replace kW_1 := cell_keep hb kW_1 (Nat.le_refl _)
  replace kG_0 := cell_keep hb kG_0 (Nat.le_refl _)
  replace kG_1 := cell_keep hb kG_1 (Nat.le_refl _)
  replace slH2 := slH2.below hb slH2.1
  replace slK := slK.below hb slK.1
  replace kK_0 := cell_keep hb kK_0 (Nat.le_refl _)
  replace kK_1 := cell_keep hb kK_1 (Nat.le_refl _)
  replace hb0 := hb0.trans (hb.mono hb0.size)
  clear hb
  go_wp2
  go_ret
  exact ⟨rfl, hb0⟩

theorem own : ownKnob Try.prog.godebug = none := by kernel_rfl
theorem laidOut : laidOutB Try.prog = true := by kernel_rfl
set_option maxRecDepth 100000 in
theorem lifted (os : Os) (started : os.Started) (H : Type) (enc : TypeId × Value → H) :
    ReturnsInHanded {} Try.checked os 3 .any (Rows.fnExactIntSumSpec.pre6 enc Try.prog Try.f3 Rows.fnExactIntSumRow.domain false) (Rows.fnExactIntSumSpec.post enc Try.prog Try.f3 false true false false) := by
  refine returnsInHanded_of_change (C := Try.checked) own started (by kernel_rfl) Try.func3
    (ChangeSpec.witness6 (enc := enc) (C := Try.checked) false ⟨#[], #[.slice none 0 0], []⟩ 8 (by kernel_rfl) (by kernel_rfl) (by kernel_rfl) (by kernel_rfl)) ?_
  intro W base args ds gs before hval0 hW hcnd _
  have hval : ∀ (j : Nat) t v, Try.f3.params[j]? = some t → args[j]? = some v → Value.okWide Try.prog W .any base t v := hval0
  have hW' := hW
  obtain ⟨p, q, hA0, hV, rfl, hfz, hnd⟩ := hW
  have hA : DataW.TrodAll enc Try.prog W 0 (fun _ => true) true Try.f3.params.toList args.toList ds p := hA0
  rw [Try.params3] at hA hval
  obtain ⟨v0, vs0, d0, ds0, p0, q0, hargs, rfl, rfl, h0, r0⟩ := trodAll_cons hA
  obtain ⟨rfl, rfl, rfl⟩ := trodAll_nil r0
  obtain rfl : args = #[v0] := by cases args; simp_all
  obtain ⟨rfl, rfl⟩ := trodVars_none hV
  have k0 := h0
  have lt0 : ∀ x ∈ p0, x.block < W.heap.size := by obtain ⟨m, hm⟩ := k0; exact DataW.trod_lt m _ _ _ hm
  obtain ⟨a0, len0, cap0, rfl⟩ := okWide_slice Try.underlying22 (hval 0 22 v0 rfl rfl)
  obtain ⟨xs0, rfl, w0⟩ : ∃ xs : List SgV, xs.length = len0 ∧ (RdG0 W a0 xs ∧ xs.length ≤ maxLen) := by
    obtain ⟨fuel, hf⟩ := h0
    exact open_sg hf
  clear hA0 hval0
  refine (walk a0 cap0 xs0 W w0).mono fun e W' ⟨he, bel⟩ => ?_
  subst he
  exact ⟨_, rfl, _, _, _, [], _, [], hW', trodAll_mk1 (shut_bool Try.underlying4 _), (trodAll_cons_mk (Below.trod laidOut (by kernel_rfl) (of_decide_eq_true (by kernel_rfl)) k0 bel lt0) trodAll_mk0), rfl, bel.frame _, fun h => by cases h⟩

theorem over : Rows.fnExactIntSumRow.holds Try.pinned (OpenSpec.ofChange Rows.fnExactIntSumSpec) :=
  OpenClaim.holds_of_wide 3 Try.f3 rfl rfl rfl rfl rfl rfl rfl ⟨rfl, rfl, rfl, rfl, rfl⟩ rfl rfl rfl rfl rfl (by kernel_rfl) Try.func3 (by kernel_rfl)
    (of_decide_eq_true (by kernel_rfl)) (by unfold Func.isWrapper; first | (rw [if_pos (by decide +kernel)]; kernel_rfl) | (rw [if_neg (by decide +kernel)]; exact ⟨rfl, rfl⟩))
    (fun os started H enc _ => lifted os started H enc)

theorem proved : Rows.FnExactIntSumSaid := over
#print axioms proved
end Go.Proofs.Ytcibccaimjifmaa.fnExactIntSum
