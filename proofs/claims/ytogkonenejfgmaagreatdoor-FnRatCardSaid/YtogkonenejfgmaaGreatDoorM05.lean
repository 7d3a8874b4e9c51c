/- The walks of the draws' cursor: l01New, l01Byte, l01Below, MakeNum. For every slice of bytes within the reach. -/
import Derived.Laws.Closers25b
import Derived.Test.YtogkonenejfgmaaGreatDoorM04
namespace Go.Proofs.YtogkonenejfgmaaGreatDoor
open Go.RowKit
set_option linter.unusedVariables false
/-- the slice at a reads as the bytes xs, and lies below block B -/
def RdB (w : World) (B : Nat) (a : Option Addr) (xs : List Int) : Prop :=
  xs = [] ∨ ∃ b off, a = some ⟨b, off, none⟩ ∧ b < B ∧ b < w.heap.size ∧ ∀ i, i < xs.length → w.cell? ⟨b, off + i, none⟩ = some (.int .u8 (xs.getD i 0))
theorem RdB.mono {w : World} {B B' : Nat} {a : Option Addr} {xs : List Int} (h : RdB w B a xs) (hB : B ≤ B') : RdB w B' a xs := by
  rcases h with h | ⟨b, off, e, h1, h2, h3⟩
  · exact .inl h
  · exact .inr ⟨b, off, e, by omega, h2, h3⟩
theorem RdB.below {w w' : World} {B C : Nat} {a : Option Addr} {xs : List Int} (h : RdB w B a xs) (hb : Below C w w') (hC : B ≤ C) : RdB w' B a xs := by
  rcases h with h | ⟨b, off, e, h1, h2, h3⟩
  · exact .inl h
  · exact .inr ⟨b, off, e, h1, Nat.lt_of_lt_of_le h2 hb.size, fun i hi => (hb.cell (p := ⟨b, off + i, none⟩) (by show b < C; omega)).trans (h3 i hi)⟩
theorem RdB.wr {w w' : World} {B lo hi : Nat} {a : Option Addr} {xs : List Int} (h : RdB w B a xs) (hw : Wr w w' lo hi) (hC : B ≤ lo) : RdB w' B a xs := by
  rcases h with h | ⟨b, off, e, h1, h2, h3⟩
  · exact .inl h
  · exact .inr ⟨b, off, e, h1, Nat.lt_of_lt_of_le h2 hw.size, fun i hi => cell_keep_wr hw (h3 i hi) (by omega)⟩
theorem RdB.at {w : World} {B : Nat} {a : Option Addr} {xs : List Int} (h : RdB w B a xs) (k : Nat) (hk : k < xs.length) :
    ∃ b off x, a = some ⟨b, off, none⟩ ∧ b < B ∧ b < w.heap.size ∧ w.cell? ⟨b, off + k, none⟩ = some (.int .u8 x) ∧ Hid (xs.getD k 0 = x) := by
  rcases h with rfl | ⟨b, off, rfl, h1, h2, hc⟩
  · simp at hk
  · exact ⟨b, off, _, rfl, h1, h2, hc k hk, rfl⟩
theorem RdB.take {w : World} {B : Nat} {a : Option Addr} {xs : List Int} (h : RdB w B a xs) (k : Nat) : RdB w B a (xs.take k) := by
  rcases h with h | ⟨b, off, rfl, h1, h2, hc⟩
  · left; simp [h]
  · refine .inr ⟨b, off, rfl, h1, h2, fun i hi => ?_⟩
    rw [List.length_take] at hi
    rw [hc i (by omega)]
    simp [List.getD_eq_getElem?_getD, show i < k by omega]
theorem rdB_of_cells {w : World} {x : Addr} {zs : List Int} (hc : ∀ i, i < zs.length → w.cell? (x.add i) = some (.int .u8 (zs.getD i 0))) (len : Nat) : RdB w w.heap.size (some x) (zs.take len) := by
  by_cases h0 : 0 < zs.length
  · obtain ⟨b, off, rfl, hc2⟩ := ints_at hc h0
    have hlt := World.block_lt_of_cell? w ⟨b, off + 0, none⟩ (hc2 0 h0)
    exact RdB.take (.inr ⟨b, off, rfl, hlt, hlt, hc2⟩) len
  · have : zs = [] := List.eq_nil_of_length_eq_zero (by omega)
    subst this; simp [RdB]
def Byt (xs : List Int) : Prop := ∀ i, 0 ≤ xs.getD i 0 ∧ xs.getD i 0 ≤ 255
theorem byt_of_wf {zs : List Int} (h : ∀ n ∈ zs, (Lit.int .u8 n).wf = true) : Byt zs := by
  intro i
  rw [List.getD_eq_getElem?_getD]
  by_cases hi : i < zs.length
  · rw [List.getElem?_eq_getElem hi]; exact bounds_u8 (h _ (List.getElem_mem hi))
  · rw [List.getElem?_eq_none (by omega)]; simp
theorem and_le (x : Int) (n : Nat) (h : n < 9223372036854775808) : 0 ≤ bits .and .i64 x n ∧ bits .and .i64 x n ≤ n := by
  have e : bits .and .i64 x n = IntKind.i64.wrap ((BitVec.ofInt 64 x &&& BitVec.ofInt 64 (n : Int)).toNat : Nat) := rfl
  have h2 : (BitVec.ofInt 64 x &&& BitVec.ofInt 64 (n : Int)).toNat ≤ n := by
    rw [BitVec.toNat_and]
    refine Nat.le_trans Nat.and_le_right ?_
    rw [BitVec.toNat_ofInt]
    omega
  have hw : ∀ m : Int, 0 ≤ m → m < 9223372036854775808 → IntKind.i64.wrap m = m := by intro m h0 h1; simp [IntKind.wrap, IntKind.bits, IntKind.signed]; omega
  rw [e, hw _ (by omega) (by omega)]
  omega
theorem and255 (x : Int) : 0 ≤ bits .and .i64 x 255 ∧ bits .and .i64 x 255 ≤ 255 := and_le x 255 (by omega)
theorem andH (x : Int) : 0 ≤ bits .and .i64 x 1073741823 ∧ bits .and .i64 x 1073741823 ≤ 1073741823 := and_le x 1073741823 (by omega)
def hashStep (h x : Int) : Int := bits .and .i64 (h * 41 + x + 7) 1073741823
def hashK (xs : List Int) (k : Nat) : Int := (xs.take k).foldl hashStep (1616 + xs.length)
theorem hash_rng (xs : List Int) (k : Nat) (hl : xs.length ≤ 1048576) : 0 ≤ hashK xs k ∧ hashK xs k ≤ 1073741823 := by
  unfold hashK
  rcases List.eq_nil_or_concat (xs.take k) with h | ⟨l, x, h⟩
  · rw [h]; show 0 ≤ (1616 : Int) + xs.length ∧ (1616 : Int) + xs.length ≤ 1073741823; omega
  · rw [h, List.concat_eq_append, List.foldl_append]; exact andH _
theorem hash_step (xs : List Int) (k : Nat) (hk : k < xs.length) : hashK xs (k + 1) = bits .and .i64 (hashK xs k * 41 + xs.getD k 0 + 7) 1073741823 := by
  unfold hashK
  rw [take_succ_getD' xs k hk, List.foldl_append]; rfl
def hashF (xs : List Int) : Int := hashK xs (min xs.length 4000)
/-- the cursor of a draw: a box with the bytes, the place, the hash -/
structure Cur (w : World) (B : Nat) (a : Option Addr) (c : Nat) (xs : List Int) (st : Int × Nat) : Prop where
  box : Box3 w B (.slice a xs.length c) (.int .i64 st.2) (.int .i64 st.1)
  rd : RdB w B a xs
  idx : st.2 ≤ xs.length
  rng : Rng st.1
theorem Cur.below {w w' : World} {B C : Nat} {a : Option Addr} {c : Nat} {xs : List Int} {st : Int × Nat} (h : Cur w B a c xs st) (hb : Below C w w') (hC : w.heap.size ≤ C) : Cur w' B a c xs st :=
  ⟨h.box.below hb hC, h.rd.below hb (by have := h.box.lt; omega), h.idx, h.rng⟩
set_option maxRecDepth 100000 in
set_option maxHeartbeats 3200000 in
theorem draw_new (a : Option Addr) (c : Nat) (xs : List Int) (w : World) (hr : RdB w w.heap.size a xs) (hb : Byt xs) (hl : xs.length ≤ 1048576) (hc : xs.length ≤ c) :
    Calls Tryz.prog 14 #[.slice a xs.length c] w fun e w' => e = .returned (.pointer (some ⟨w.heap.size, 0, none⟩)) ∧ Cur w' w.heap.size a c xs (hashF xs, 0) ∧ Below w.heap.size w w' := by
  have HB := Lib.hid hb
  clear hb
  go_enter Tryz.func14, Tryz.ntmps14
  go_wp2
  go_loopw [3, 4] (fun hv iv wr => ∃ (k : Nat) (h : Int), k ≤ xs.length ∧ k ≤ 4000 ∧ iv = .int .i64 k ∧ hv = .int .i64 h ∧ h = hashK xs k ∧ 0 ≤ h ∧ h ≤ 1073741823 ∧ wr = w) (fun _ iv _ => 4000 - (intOf iv).toNat)
  case atStart => refine ⟨0, _, Nat.zero_le _, Nat.zero_le _, rfl, rfl, ?_, by omega, by omega, ?_⟩ <;> first | rfl | trivial
  case round =>
    obtain ⟨k, h, hk, hk4, rfl, rfl, hh, h0, h1, rfl⟩ := hrel
    by_cases hkt : k < xs.length ∧ k < 4000
    · obtain ⟨hkt, hk5⟩ := hkt
      obtain ⟨b, off, x, rfl, hbB, hbs, hcell, hx⟩ := hr.at k hkt
      have hxb := HB.out k
      have hs := hash_step xs k hkt
      rw [hx.out] at hxb hs
      rw [← hh] at hs
      obtain ⟨hx0, hx1⟩ := hxb
      have hrg := hash_rng xs (k + 1) hl
      rw [hs] at hrg
      obtain ⟨hg0, hg1⟩ := hrg
      have HS := Lib.hid hs
      clear hs hh
      go_wp2
      refine ⟨⟨k + 1, _, by omega, by omega, by go_num, rfl, HS.out.symm, hg0, hg1, trivial⟩, by simp [intOf]; omega⟩
    · have hkk : k = min xs.length 4000 := by omega
      have hF : h = hashF xs := by rw [hh, hkk]; rfl
      have HF := Lib.hid hF
      have hrn : Rng h := ⟨by omega, by omega⟩
      clear hh hF hkk
      go_wp2
      all_goals (go_ret; refine ⟨rfl, ⟨by rw [← HF.out]; exact Box3.new _ _ _ _ _ _ rfl, hr.below (bel_alloc _ _) (Nat.le_refl _), Nat.zero_le _, by rw [← HF.out]; exact hrn⟩, bel_alloc _ _⟩)
def nextH (h : Int) : Int := wrap64 (wrap64 (h * 6364136223846793005) + 1442695040888963407)
def mixH (h : Int) : Int := bits .and .i64 (bits .xor .i64 (h / 8589934592) (h / 35184372088832)) 255
def byteF (xs : List Int) (st : Int × Nat) : Int × (Int × Nat) :=
  if st.2 < xs.length then (bits .and .i64 (mixH (nextH st.1) + xs.getD st.2 0) 255, (nextH st.1, st.2 + 1)) else (mixH (nextH st.1), (nextH st.1, st.2))
theorem Cur.drew {w : World} {B : Nat} {a : Option Addr} {c : Nat} {xs : List Int} {st : Int × Nat} (h : Cur w B a c xs st) : Cur w.drew B a c xs st := ⟨h.box, h.rd, h.idx, h.rng⟩
theorem Wr.drew {w w' : World} {lo hi : Nat} (h : Wr w w' lo hi) : Wr w w'.drew lo hi := ⟨h.os, h.tape, h.output, h.size, h.block⟩
theorem RdB.set {w : World} {B o : Nat} {a : Option Addr} {xs : List Int} (h : RdB w B a xs) (v : Value) : RdB (w.setCell ⟨B, o, none⟩ v) B a xs :=
  h.wr (Wr.set (Wr.refl w B (B + 1)) ⟨Nat.le_refl _, by omega⟩ v) (Nat.le_refl _)
theorem wrapR (x : Int) : Rng (wrap64 x) := by unfold Rng wrap64; omega
set_option maxRecDepth 100000 in
set_option maxHeartbeats 3200000 in
theorem draw_byte (B : Nat) (a : Option Addr) (c : Nat) (xs : List Int) (st : Int × Nat) (w : World) (h : Cur w B a c xs st) (hb : Byt xs) (hl : xs.length ≤ 1048576) (hc : xs.length ≤ c) :
    Calls Tryz.prog 55 #[.pointer (some ⟨B, 0, none⟩)] w fun e w' => e = .returned (.int .i64 (byteF xs st).1) ∧ Cur w' B a c xs (byteF xs st).2 ∧ Wr w w' B (B + 1) := by
  obtain ⟨h', i⟩ := st
  obtain ⟨⟨⟨h0, h1, h2⟩, f0, f1, f2⟩, hr, hi, hg⟩ := h
  by_cases hlt : i < xs.length
  · obtain ⟨b, off, x, rfl, hbB, hbs, hcell, hx⟩ := hr.at i hlt
    have hxb := hb i
    rw [hx.out] at hxb
    obtain ⟨hx0, hx1⟩ := hxb
    go_enter Tryz.func55, Tryz.ntmps55
    go_wp2
    generalize hH : wrap64 (wrap64 (h' * 6364136223846793005) + 1442695040888963407) = H
    have hHr : Rng H := by rw [← hH]; exact wrapR _
    obtain ⟨hH0, hH1⟩ := hHr
    generalize hw1 : w.setCell ⟨B, 2, none⟩ (.int .i64 H) = w1
    have hwr : Wr w w1 B (B + 1) := by rw [← hw1]; exact (Wr.refl _ _ _).set ⟨Nat.le_refl _, by omega⟩ _
    have HW := Lib.hid hwr
    replace hcell := cell_keep_wr hwr hcell (by omega)
    have g0 : w1.cell? ⟨B, 0, none⟩ = some (.slice (some ⟨b, off, none⟩) xs.length c) := by rw [← hw1]; exact (World.cell?_setCell_other _ _ _ _ (addr_ne (by omega))).trans h0
    have g1 : w1.cell? ⟨B, 1, none⟩ = some (.int .i64 i) := by rw [← hw1]; exact (World.cell?_setCell_other _ _ _ _ (addr_ne (by omega))).trans h1
    have g2 : w1.cell? ⟨B, 2, none⟩ = some (.int .i64 H) := by rw [← hw1]; exact World.cell?_setCell_same _ _ _ h2
    have e0 : w1.frozen? ⟨B, 0, none⟩ = false := by rw [← hw1]; simpa using f0
    have e1 : w1.frozen? ⟨B, 1, none⟩ = false := by rw [← hw1]; simpa using f1
    have e2 : w1.frozen? ⟨B, 2, none⟩ = false := by rw [← hw1]; simpa using f2
    have hr1 := RdB.wr hr hwr (Nat.le_refl _)
    clear h0 h1 h2 f0 f1 f2 hw1 hwr hr
    go_region
    generalize hM : bits BinOp.and IntKind.i64 (bits BinOp.xor IntKind.i64 (H / 8589934592) (H / 35184372088832)) 255 = M
    have hMr := and255 (bits BinOp.xor IntKind.i64 (H / 8589934592) (H / 35184372088832))
    rw [hM] at hMr
    obtain ⟨hM0, hM1⟩ := hMr
    have HH := Lib.hid hH
    have HM := Lib.hid hM
    clear hH hM
    go_wp2
    go_region
    go_wp2
    go_region
    go_wp2
    go_ret
    have hF : byteF xs (h', i) = (bits .and .i64 (M + x) 255, (H, i + 1)) := by
      unfold byteF nextH mixH
      dsimp only
      rw [if_pos hlt, HH.out, HM.out, hx.out]
    rw [hF]
    refine ⟨rfl, Cur.drew (Cur.drew (Cur.drew ⟨⟨⟨?_, ?_, ?_⟩, ?_, ?_, ?_⟩, hr1.set _, hlt, ⟨hH0, hH1⟩⟩)), Wr.drew (Wr.drew (Wr.drew (HW.out.set ⟨Nat.le_refl _, by omega⟩ _)))⟩
    · exact (World.cell?_setCell_other _ _ _ _ (addr_ne (by omega))).trans g0
    · exact World.cell?_setCell_same _ _ _ g1
    · exact (World.cell?_setCell_other _ _ _ _ (addr_ne (by omega))).trans g2
    · simpa using e0
    · simpa using e1
    · simpa using e2
  · go_enter Tryz.func55, Tryz.ntmps55
    go_wp2
    generalize hH : wrap64 (wrap64 (h' * 6364136223846793005) + 1442695040888963407) = H
    have hHr : Rng H := by rw [← hH]; exact wrapR _
    obtain ⟨hH0, hH1⟩ := hHr
    generalize hw1 : w.setCell ⟨B, 2, none⟩ (.int .i64 H) = w1
    have hwr : Wr w w1 B (B + 1) := by rw [← hw1]; exact (Wr.refl _ _ _).set ⟨Nat.le_refl _, by omega⟩ _
    have HW := Lib.hid hwr
    have g0 : w1.cell? ⟨B, 0, none⟩ = some (.slice a xs.length c) := by rw [← hw1]; exact (World.cell?_setCell_other _ _ _ _ (addr_ne (by omega))).trans h0
    have g1 : w1.cell? ⟨B, 1, none⟩ = some (.int .i64 i) := by rw [← hw1]; exact (World.cell?_setCell_other _ _ _ _ (addr_ne (by omega))).trans h1
    have g2 : w1.cell? ⟨B, 2, none⟩ = some (.int .i64 H) := by rw [← hw1]; exact World.cell?_setCell_same _ _ _ h2
    have e0 : w1.frozen? ⟨B, 0, none⟩ = false := by rw [← hw1]; simpa using f0
    have e1 : w1.frozen? ⟨B, 1, none⟩ = false := by rw [← hw1]; simpa using f1
    have e2 : w1.frozen? ⟨B, 2, none⟩ = false := by rw [← hw1]; simpa using f2
    have hr1 := RdB.wr hr hwr (Nat.le_refl _)
    clear h0 h1 h2 f0 f1 f2 hw1 hwr hr
    go_region
    generalize hM : bits BinOp.and IntKind.i64 (bits BinOp.xor IntKind.i64 (H / 8589934592) (H / 35184372088832)) 255 = M
    have hMr := and255 (bits BinOp.xor IntKind.i64 (H / 8589934592) (H / 35184372088832))
    rw [hM] at hMr
    obtain ⟨hM0, hM1⟩ := hMr
    have HH := Lib.hid hH
    have HM := Lib.hid hM
    clear hH hM
    go_wp2
    go_region
    go_wp2
    go_ret
    have hF : byteF xs (h', i) = (M, (H, i)) := by
      unfold byteF nextH mixH
      dsimp only
      rw [if_neg hlt, HH.out, HM.out]
    rw [hF]
    exact ⟨rfl, Cur.drew (Cur.drew ⟨⟨⟨g0, g1, g2⟩, e0, e1, e2⟩, hr1, hi, ⟨hH0, hH1⟩⟩), Wr.drew (Wr.drew HW.out)⟩
theorem byte_rng (xs : List Int) (st : Int × Nat) : 0 ≤ (byteF xs st).1 ∧ (byteF xs st).1 ≤ 255 := by
  unfold byteF
  by_cases h : st.2 < xs.length
  · rw [if_pos h]; exact and255 _
  · rw [if_neg h]; exact and255 _
def belowF (xs : List Int) (n : Int) (st : Int × Nat) : Int × (Int × Nat) :=
  if n ≤ 0 then (0, st) else if n ≤ 256 then ((byteF xs st).1 % n, (byteF xs st).2) else
    let r1 := byteF xs st
    let r2 := byteF xs r1.2
    let r3 := byteF xs r2.2
    let r4 := byteF xs r3.2
    ((r1.1 * 16777216 + r2.1 * 65536 + r3.1 * 256 + r4.1) % n, r4.2)
theorem below_rng (xs : List Int) (n : Int) (st : Int × Nat) (h : 0 < n) : 0 ≤ (belowF xs n st).1 ∧ (belowF xs n st).1 < n := by
  have key : ∀ m : Int, 0 ≤ m → 0 ≤ m % n ∧ m % n < n := fun m hm => ⟨Int.emod_nonneg _ (by omega), Int.emod_lt_of_pos _ h⟩
  unfold belowF
  rw [if_neg (by omega)]
  by_cases h2 : n ≤ 256
  · rw [if_pos h2]; exact key _ (byte_rng _ _).1
  · rw [if_neg h2]
    refine key _ ?_
    have h1 := byte_rng xs st
    have h2 := byte_rng xs (byteF xs st).2
    have h3 := byte_rng xs (byteF xs (byteF xs st).2).2
    have h4 := byte_rng xs (byteF xs (byteF xs (byteF xs st).2).2).2
    omega
set_option maxRecDepth 100000 in
set_option maxHeartbeats 3200000 in
theorem draw_below (B : Nat) (a : Option Addr) (c : Nat) (xs : List Int) (st : Int × Nat) (n : Int) (w : World) (h : Cur w B a c xs st) (hb : Byt xs) (hl : xs.length ≤ 1048576) (hc : xs.length ≤ c) (hn : 0 < n ∧ n ≤ 4294967296) :
    Calls Tryz.prog 35 #[.pointer (some ⟨B, 0, none⟩), .int .i64 n] w fun e w' => e = .returned (.int .i64 (belowF xs n st).1) ∧ Cur w' B a c xs (belowF xs n st).2 ∧ Wr w w' B (B + 1) := by
  obtain ⟨hn0, hn1⟩ := hn
  by_cases h2 : n ≤ 256
  · have hF : belowF xs n st = ((byteF xs st).1 % n, (byteF xs st).2) := by unfold belowF; rw [if_neg (by omega), if_pos h2]
    have hx := byte_rng xs st
    have HB := Lib.hid hb
    generalize hR : byteF xs st = R at hF hx
    rw [hF]
    have HR := Lib.hid hR
    clear hF hR hb
    obtain ⟨x, st1⟩ := R
    obtain ⟨hx0, hx1⟩ := hx
    dsimp only at hx0 hx1 ⊢
    go_enter Tryz.func35, Tryz.ntmps35
    go_wp2_with fail
    refine (draw_byte B a c xs st _ h HB.out hl hc).mono ?_
    rintro e w1 ⟨rfl, k1, hw1⟩
    rw [HR.out] at k1 ⊢
    dsimp only at k1 ⊢
    go_wp2
    go_ret
    exact ⟨rfl, k1, hw1⟩
  · have hF : belowF xs n st = (let r1 := byteF xs st; let r2 := byteF xs r1.2; let r3 := byteF xs r2.2; let r4 := byteF xs r3.2; ((r1.1 * 16777216 + r2.1 * 65536 + r3.1 * 256 + r4.1) % n, r4.2)) := by
      unfold belowF; rw [if_neg (by omega), if_neg h2]
    dsimp only at hF
    have hx := byte_rng xs st
    have hy := byte_rng xs (byteF xs st).2
    have hz := byte_rng xs (byteF xs (byteF xs st).2).2
    have hu := byte_rng xs (byteF xs (byteF xs (byteF xs st).2).2).2
    have HB := Lib.hid hb
    generalize hR : byteF xs st = R at hF hx hy hz hu
    obtain ⟨x, s1⟩ := R
    dsimp only at hF hx hy hz hu
    generalize hR2 : byteF xs s1 = R at hF hy hz hu
    obtain ⟨y, s2⟩ := R
    dsimp only at hF hy hz hu
    generalize hR3 : byteF xs s2 = R at hF hz hu
    obtain ⟨z, s3⟩ := R
    dsimp only at hF hz hu
    generalize hR4 : byteF xs s3 = R at hF hu
    obtain ⟨u, s4⟩ := R
    dsimp only at hF hu
    rw [hF]
    have HR := Lib.hid hR
    have HR2 := Lib.hid hR2
    have HR3 := Lib.hid hR3
    have HR4 := Lib.hid hR4
    clear hF hR hR2 hR3 hR4 hb
    obtain ⟨hx0, hx1⟩ := hx
    obtain ⟨hy0, hy1⟩ := hy
    obtain ⟨hz0, hz1⟩ := hz
    obtain ⟨hu0, hu1⟩ := hu
    dsimp only
    go_enter Tryz.func35, Tryz.ntmps35
    go_wp2_with fail
    refine (draw_byte B a c xs st _ h HB.out hl hc).mono ?_
    rintro e w1 ⟨rfl, k1, hw1⟩
    rw [HR.out] at k1 ⊢
    dsimp only at k1 ⊢
    go_wp2_with fail
    refine (draw_byte B a c xs s1 _ k1 HB.out hl hc).mono ?_
    rintro e w2 ⟨rfl, k2, hw2⟩
    rw [HR2.out] at k2 ⊢
    dsimp only at k2 ⊢
    replace hw1 := hw1.trans hw2
    go_wp2_with fail
    refine (draw_byte B a c xs s2 _ k2 HB.out hl hc).mono ?_
    rintro e w3 ⟨rfl, k3, hw3⟩
    rw [HR3.out] at k3 ⊢
    dsimp only at k3 ⊢
    replace hw1 := hw1.trans hw3
    go_wp2_with fail
    refine (draw_byte B a c xs s3 _ k3 HB.out hl hc).mono ?_
    rintro e w4 ⟨rfl, k4, hw4⟩
    rw [HR4.out] at k4 ⊢
    dsimp only at k4 ⊢
    replace hw1 := hw1.trans hw4
    go_wp2
    go_ret
    exact ⟨rfl, k4, hw1⟩
def numF (xs : List Int) (n : Int) : Int := (belowF xs n (hashF xs + 777, 0)).1
theorem hashF_rng (xs : List Int) (hl : xs.length ≤ 1048576) : 0 ≤ hashF xs ∧ hashF xs ≤ 1073741823 := hash_rng _ _ hl
theorem Cur.seed {w : World} {B : Nat} {a : Option Addr} {c : Nat} {xs : List Int} {st : Int × Nat} (h : Cur w B a c xs st) (k : Int) (hk : Rng k) : Cur (w.setCell ⟨B, 2, none⟩ (.int .i64 k)) B a c xs (k, st.2) := by
  obtain ⟨⟨⟨h0, h1, h2⟩, f0, f1, f2⟩, hr, hi, hg⟩ := h
  refine ⟨⟨⟨?_, ?_, ?_⟩, ?_, ?_, ?_⟩, hr.set _, hi, hk⟩
  · exact (World.cell?_setCell_other _ _ _ _ (addr_ne (by omega))).trans h0
  · exact (World.cell?_setCell_other _ _ _ _ (addr_ne (by omega))).trans h1
  · exact World.cell?_setCell_same _ _ _ h2
  · simpa using f0
  · simpa using f1
  · simpa using f2
end Go.Proofs.YtogkonenejfgmaaGreatDoor
