/- The walks of the laws' helpers on slices of integers: szSignedS, toSignedS, eqSignedS, markSignedS. -/
import Derived.Test.YtcibccaimjifmaaSum
import Derived.Deep.RegionHeld3
import Derived.Deep.DeepCutAuto
namespace Go.Proofs.Ytcibccaimjifmaa
open Go.RowKit
set_option linter.unusedVariables false
def lenG : List SgV → Nat
  | [] => 0
  | e :: r => e.xs.length + lenG r
def totG (L : List SgV) : Nat := L.length + lenG L
theorem lenG_drop {L : List SgV} {k : Nat} (hk : k < L.length) : lenG (L.drop k) = (L.getD k default).xs.length + lenG (L.drop (k + 1)) := by
  rw [List.drop_eq_getElem_cons hk]
  have e : L.getD k default = L[k] := by simp [List.getD_eq_getElem?_getD, hk]
  rw [e]; rfl
/-- what came in: each length within the machine's reach -/
def RdG0 (w : World) (a : Option Addr) (L : List SgV) : Prop :=
  (L = [] ∨ ∃ b off, a = some ⟨b, off, none⟩ ∧ b < w.heap.size ∧ ∀ i, i < L.length → w.cell? ⟨b, off + i * 2, none⟩ = some (.bool (L.getD i default).n) ∧ w.cell? ⟨b, off + i * 2 + 1, none⟩ = some (.slice (L.getD i default).a (L.getD i default).xs.length (L.getD i default).c)) ∧
  ∀ i, i < L.length → Rd w (L.getD i default).a (L.getD i default).xs ∧ (L.getD i default).xs.length ≤ (L.getD i default).c ∧ (L.getD i default).xs.length ≤ maxLen
theorem RdG0.below {w w' : World} {a : Option Addr} {L : List SgV} (h : RdG0 w a L) {B : Nat} (hb : Below B w w') (hB : w.heap.size ≤ B) : RdG0 w' a L := by
  obtain ⟨h1, h2⟩ := h
  refine ⟨?_, fun i hi => ⟨(h2 i hi).1.below hb hB, (h2 i hi).2⟩⟩
  rcases h1 with h1 | ⟨b, off, e, hb1, hc⟩
  · exact .inl h1
  · exact .inr ⟨b, off, e, Nat.lt_of_lt_of_le hb1 hb.size, fun i hi => ⟨cell_keep hb (hc i hi).1 hB, cell_keep hb (hc i hi).2 hB⟩⟩
theorem RdG0.full {w : World} {a : Option Addr} {L : List SgV} (h : RdG0 w a L) (hl : ∀ i, i < L.length → (L.getD i default).xs.length ≤ 1048576) : RdG w a L :=
  ⟨h.1, fun i hi => ⟨(h.2 i hi).1, (h.2 i hi).2.1, by have := hl i hi; omega⟩⟩
theorem RdG0.at {w : World} {a : Option Addr} {L : List SgV} (h : RdG0 w a L) {k : Nat} (hk : k < L.length) :
    ∃ b off e, a = some ⟨b, off, none⟩ ∧ w.cell? ⟨b, off + k * 2, none⟩ = some (.bool e.n) ∧ w.cell? ⟨b, off + k * 2 + 1, none⟩ = some (.slice e.a e.xs.length e.c) ∧ e.xs.length ≤ maxLen ∧ L.getD k default = e := by
  obtain ⟨h1, h2⟩ := h
  rcases h1 with h1 | ⟨b, off, rfl, hb, hc⟩
  · subst h1; simp at hk
  · exact ⟨b, off, _, rfl, (hc k hk).1, (hc k hk).2, (h2 k hk).2.2, rfl⟩
theorem RdG.at {w : World} {a : Option Addr} {L : List SgV} (h : RdG w a L) {k : Nat} (hk : k < L.length) :
    ∃ b off e, a = some ⟨b, off, none⟩ ∧ w.cell? ⟨b, off + k * 2, none⟩ = some (.bool e.n) ∧ w.cell? ⟨b, off + k * 2 + 1, none⟩ = some (.slice e.a e.xs.length e.c) ∧ In w e.a e.c e.xs ∧ L.getD k default = e := by
  obtain ⟨h1, h2⟩ := h
  rcases h1 with h1 | ⟨b, off, rfl, hb, hc⟩
  · subst h1; simp at hk
  · exact ⟨b, off, _, rfl, (hc k hk).1, (hc k hk).2, h2 k hk, rfl⟩
set_option maxRecDepth 100000 in
set_option maxHeartbeats 3200000 in
theorem szG_any (a : Option Addr) (c : Nat) (L : List SgV) (w : World) (hx : RdG0 w a L) (hl : L.length ≤ maxLen) :
    Calls Try.prog 5 #[.slice a L.length c, .int .i64 1048576] w fun e w' => (∃ r : Int, e = .returned (.int .i64 r) ∧ (r < 0 ∨ (totG L ≤ 1048576 ∧ r = 1048576 - (totG L : Int)))) ∧ Below w.heap.size w w' := by
  unfold maxLen at hl
  by_cases h0 : 1048576 < L.length
  · go_enter Try.func5, Try.ntmps5
    go_wp2
    go_ret
    exact ⟨⟨_, rfl, .inl (by omega)⟩, Below.refl _ _⟩
  have htt : totG L = L.length + lenG L := rfl
  have HT := Lib.hid htt
  clear htt
  go_enter Try.func5, Try.ntmps5
  go_wp2
  go_loopw [1, 5] (fun v i wr => ∃ (k : Nat) (left : Int), k ≤ L.length ∧ i = .int .i64 k ∧ v = .int .i64 left ∧ 0 ≤ left ∧ left ≤ 1048576 ∧ left - lenG (L.drop k) = 1048576 - (L.length : Int) - lenG L ∧ Below w.heap.size w wr) (fun _ i _ => L.length - (intOf i).toNat)
  case atStart => exact ⟨0, _, Nat.zero_le _, rfl, rfl, by omega, by omega, by simp, Below.refl _ _⟩
  case round =>
    obtain ⟨k, left, hk, rfl, rfl, hl0, hl1, he, hb⟩ := hrel
    have HE := Lib.hid he
    clear he
    by_cases hlt : k < L.length
    · have hst := Lib.hid (lenG_drop hlt)
      obtain ⟨b, off, e, rfl, hc0, hc1, hin, hE⟩ := (hx.below hb (Nat.le_refl _)).at hlt
      rw [hE] at hst
      obtain ⟨n, ea, ec, xs⟩ := e
      dsimp only at hst hc0 hc1 hin
      have hmx := hin
      unfold maxLen at hin
      clear hE
      by_cases hle : (xs.length : Int) ≤ left
      · go_wp2_with fail
        refine (szSigned_yes n ea ec xs left _ hl1 hle).mono ?_
        rintro e w1 ⟨rfl, hb1⟩
        have hb2 := hb.trans (hb1.mono hb.size)
        have hd := hst.out
        have hE := HE.out
        have hnew : (left - (xs.length : Int)) - lenG (L.drop (k + 1)) = 1048576 - (L.length : Int) - lenG L := by omega
        have HN := Lib.hid hnew
        clear hd hE hnew hb1 hb hc0 hc1
        obtain ⟨l2, hl2⟩ : ∃ l2, left - (xs.length : Int) = l2 := ⟨_, rfl⟩
        have hl20 : 0 ≤ l2 := by omega
        have hl21 : l2 ≤ 1048576 := by omega
        rw [hl2] at HN ⊢
        clear hl2 hle
        go_wp2
        refine ⟨⟨k + 1, l2, by omega, by go_num, rfl, hl20, hl21, HN.out, hb2⟩, by simp [intOf]; omega⟩
      · go_wp2_with fail
        refine (szSigned_no n ea ec xs left _ hl0 hl1 (by omega) hmx).mono ?_
        rintro e w1 ⟨rfl, hb1⟩
        have hb2 := hb.trans (hb1.mono hb.size)
        go_wp2
        go_ret
        exact ⟨⟨_, rfl, .inl (by omega)⟩, hb2⟩
    · have hkk : k = L.length := by omega
      subst hkk
      have hE := HE.out
      rw [List.drop_length] at hE
      have hT := HT.out
      have hz : lenG [] = 0 := rfl
      have HF := Lib.hid (show totG L ≤ 1048576 ∧ left = 1048576 - (totG L : Int) by omega)
      clear hE hT hz
      go_wp2
      go_ret
      exact ⟨⟨_, rfl, .inr HF.out⟩, hb⟩
/-- an integer of the call's own, its limbs' block between lo and hi -/
structure SgW where
  n : Bool
  a : Option Addr
  c : Nat
  xs : List Int
  lo : Nat
  hi : Nat
/-- the row at block r holds integers of the call's own, from number s to below n, each with limbs in memory of its own behind the row -/
structure GO (w : World) (r s n : Nat) (M : Nat → SgW) : Prop where
  lt : r < w.heap.size
  fz : ∀ k, w.frozen? ⟨r, k, none⟩ = false
  cell : ∀ k, s ≤ k → k < n → w.cell? ⟨r, k * 2, none⟩ = some (.bool (M k).n) ∧ w.cell? ⟨r, k * 2 + 1, none⟩ = some (.slice (M k).a (M k).xs.length (M k).c)
  slot : ∀ k, s ≤ k → k < n → Slot w (M k).lo (M k).hi (M k).a (M k).c (M k).xs ∧ r < (M k).lo
  ord : ∀ i j, s ≤ i → i < j → j < n → (M i).hi ≤ (M j).lo
theorem GO.wr {w w' : World} {r s n l2 h2 : Nat} {M : Nat → SgW} (h : GO w r s n M) (hw : Wr w w' l2 h2) (h1 : r < l2 ∨ h2 ≤ r) (hd : ∀ k, s ≤ k → k < n → (M k).hi ≤ l2 ∨ h2 ≤ (M k).lo) : GO w' r s n M := {
  lt := Nat.lt_of_lt_of_le h.lt hw.size
  fz := fun k => by
    have e : w'.frozen? ⟨r, k, none⟩ = w.frozen? ⟨r, k, none⟩ := by
      unfold World.frozen?
      rw [hw.block r h.lt h1]
    exact e.trans (h.fz k)
  cell := fun k h3 h4 => ⟨cell_keep_wr hw (h.cell k h3 h4).1 h1, cell_keep_wr hw (h.cell k h3 h4).2 h1⟩
  slot := fun k h3 h4 => ⟨(h.slot k h3 h4).1.wr hw (hd k h3 h4), (h.slot k h3 h4).2⟩
  ord := h.ord }
theorem GO.below {w w' : World} {r s n : Nat} {M : Nat → SgW} (h : GO w r s n M) (hb : Below w.heap.size w w') : GO w' r s n M := {
  lt := Nat.lt_of_lt_of_le h.lt hb.size
  fz := fun k => (hb.frozen (p := ⟨r, k, none⟩) h.lt).trans (h.fz k)
  cell := fun k h3 h4 => ⟨cell_keep hb (h.cell k h3 h4).1 (Nat.le_refl _), cell_keep hb (h.cell k h3 h4).2 (Nat.le_refl _)⟩
  slot := fun k h3 h4 => ⟨(h.slot k h3 h4).1.below hb (h.slot k h3 h4).1.1, (h.slot k h3 h4).2⟩
  ord := h.ord }
theorem slot_in3 {w : World} {lo hi : Nat} {a : Option Addr} {c : Nat} {xs : List Int} (h : Slot w lo hi a c xs) (hl : xs.length ≤ 1099511627776) : In w a c xs := by
  refine ⟨h.rd, ?_, hl⟩
  rcases h.2 with rfl | h
  · exact Nat.zero_le _
  · exact h.1.le
def vOf (m : SgW) : SgV := ⟨m.n, m.a, m.c, m.xs⟩
def listG (n : Nat) (M : Nat → SgW) : List SgV := (List.range n).map fun i => vOf (M i)
theorem listG_len (n : Nat) (M : Nat → SgW) : (listG n M).length = n := by simp [listG]
theorem listG_getD {n i : Nat} (M : Nat → SgW) (h : i < n) : (listG n M).getD i default = vOf (M i) := by
  simp [listG, List.getD_eq_getElem?_getD, h]
theorem GO.rd {w : World} {r n : Nat} {M : Nat → SgW} (h : GO w r 0 n M) (hl : ∀ k, k < n → (M k).xs.length ≤ 1099511627776) : RdG w (some ⟨r, 0, none⟩) (listG n M) := by
  refine ⟨.inr ⟨r, 0, rfl, h.lt, ?_⟩, ?_⟩
  · intro i hi
    rw [listG_len] at hi
    rw [listG_getD M hi, Nat.zero_add]
    exact h.cell i (Nat.zero_le _) hi
  · intro i hi
    rw [listG_len] at hi
    rw [listG_getD M hi]
    exact slot_in3 (h.slot i (Nat.zero_le _) hi).1 (hl i hi)
/-- the same numbers -/
def SameG (n : Nat) (L : List SgV) (M : Nat → SgW) : Prop := ∀ i, i < n → (M i).n = (L.getD i default).n ∧ (M i).xs = (L.getD i default).xs
theorem fSum_congr : ∀ (L L' : List SgV) (s : Bool × List Int), L.length = L'.length → (∀ i, i < L.length → (L.getD i default).n = (L'.getD i default).n ∧ (L.getD i default).xs = (L'.getD i default).xs) → fSum s L = fSum s L'
  | [], [], s, _, _ => rfl
  | [], _ :: _, _, h, _ => by simp at h
  | _ :: _, [], _, h, _ => by simp at h
  | e :: r, e' :: r', s, hl, h => by
    have h0 := h 0 (by simp)
    simp only [List.getD_cons_zero] at h0
    unfold fSum
    rw [h0.1, h0.2]
    split
    · exact fSum_congr r r' _ (by simpa using hl) (fun i hi => by have := h (i + 1) (by simpa using hi); simpa using this)
    · rfl
theorem fSum_same {L : List SgV} {M : Nat → SgW} (h : SameG L.length L M) (s : Bool × List Int) : fSum s (listG L.length M) = fSum s L := by
  refine fSum_congr _ _ s (listG_len _ _) fun i hi => ?_
  rw [listG_len] at hi
  rw [listG_getD M hi]
  exact h i hi
theorem GO.push {w : World} {r k lo hi c : Nat} {M : Nat → SgW} {n : Bool} {a : Option Addr} {xs : List Int} {v0 v1 : Value} (h : GO w r 0 k M) (h0 : w.cell? ⟨r, k * 2, none⟩ = some v0) (h1 : w.cell? ⟨r, k * 2 + 1, none⟩ = some v1)
    (hs : Slot w lo hi a c xs) (hlo : r < lo) (ho : ∀ i, i < k → (M i).hi ≤ lo) :
    GO ((w.setCell ⟨r, k * 2, none⟩ (.bool n)).setCell ⟨r, k * 2 + 1, none⟩ (.slice a xs.length c)) r 0 (k + 1) (fun i => if i = k then ⟨n, a, c, xs, lo, hi⟩ else M i) := by
  have hw : Wr w ((w.setCell ⟨r, k * 2, none⟩ (.bool n)).setCell ⟨r, k * 2 + 1, none⟩ (.slice a xs.length c)) r (r + 1) :=
    ((Wr.refl w r (r + 1)).set (g := r) (k := k * 2) ⟨Nat.le_refl _, by omega⟩ _).set (g := r) (k := k * 2 + 1) ⟨Nat.le_refl _, by omega⟩ _
  refine ⟨Nat.lt_of_lt_of_le h.lt hw.size, fun j => by simpa using h.fz j, ?_, ?_, ?_⟩
  · intro i _ hi
    by_cases hik : i = k
    · subst hik
      rw [if_pos rfl]
      exact ⟨(World.cell?_setCell_other _ _ _ _ (addr_ne (by omega))).trans (World.cell?_setCell_same _ _ _ h0), World.cell?_setCell_same _ _ _ ((World.cell?_setCell_other _ _ _ _ (addr_ne (by omega))).trans h1)⟩
    · rw [if_neg hik]
      have hc := h.cell i (Nat.zero_le _) (by omega)
      exact ⟨((World.cell?_setCell_other _ _ _ _ (addr_ne (by omega))).trans (World.cell?_setCell_other _ _ _ _ (addr_ne (by omega)))).trans hc.1, ((World.cell?_setCell_other _ _ _ _ (addr_ne (by omega))).trans (World.cell?_setCell_other _ _ _ _ (addr_ne (by omega)))).trans hc.2⟩
  · intro i _ hi
    by_cases hik : i = k
    · rw [if_pos hik]; exact ⟨hs.wr hw (.inr hlo), hlo⟩
    · rw [if_neg hik]
      have hc := h.slot i (Nat.zero_le _) (by omega)
      exact ⟨hc.1.wr hw (.inr hc.2), hc.2⟩
  · intro i j _ hij hj
    by_cases hjk : j = k
    · rw [if_pos hjk, if_neg (by omega)]; exact ho i (by omega)
    · rw [if_neg hjk, if_neg (by omega)]; exact h.ord i j (Nat.zero_le _) hij (by omega)
theorem GO.head {w : World} {r k n : Nat} {M : Nat → SgW} {v : Value} (h : GO w r k n M) : GO (w.setCell ⟨r, k * 2, none⟩ v) r (k + 1) n M := by
  have hw : Wr w (w.setCell ⟨r, k * 2, none⟩ v) r (r + 1) := (Wr.refl w r (r + 1)).set (g := r) (k := k * 2) ⟨Nat.le_refl _, by omega⟩ _
  refine ⟨Nat.lt_of_lt_of_le h.lt hw.size, fun j => by simpa using h.fz j, ?_, ?_, ?_⟩
  · intro i hi hn
    have hc := h.cell i (by omega) hn
    exact ⟨(World.cell?_setCell_other _ _ _ _ (addr_ne (by omega))).trans hc.1, (World.cell?_setCell_other _ _ _ _ (addr_ne (by omega))).trans hc.2⟩
  · intro i hi hn
    have hc := h.slot i (by omega) hn
    exact ⟨hc.1.wr hw (.inr hc.2), hc.2⟩
  · intro i j hi hij hj
    exact h.ord i j (by omega) hij hj
theorem some_set {w : World} {p q : Addr} {v u : Value} (h : w.cell? q = some v) : ∃ v', (w.setCell p u).cell? q = some v' := by
  by_cases e : p = q
  · subst e; exact ⟨_, World.cell?_setCell_same _ _ _ h⟩
  · exact ⟨v, (World.cell?_setCell_other _ _ _ _ e).trans h⟩
theorem Try.infoSg : (Try.prog.info? 26).map (fun i => (i.zero, i.size, i.bytes)) = some (some (.agg #[.bool false, .slice none 0 0]), 2, 32) := by kernel_rfl
set_option maxRecDepth 100000 in
set_option maxHeartbeats 3200000 in
theorem toG_any (a : Option Addr) (c : Nat) (L : List SgV) (w : World) (hx : RdG w a L) (hl : L.length ≤ 1048576) (hxl : ∀ i, i < L.length → (L.getD i default).xs.length ≤ 1048576) :
    Calls Try.prog 7 #[.slice a L.length c] w fun e w' => (∃ M, e = .returned (.slice (some ⟨w.heap.size, 0, none⟩) L.length L.length) ∧ GO w' w.heap.size 0 L.length M ∧ SameG L.length L M) ∧ Below w.heap.size w w' := by
  obtain ⟨i0, hi, hz0, hz1, hz2⟩ := info_parts Try.infoSg
  go_enter Try.func7, Try.ntmps7
  go_wp2_with (at_make; refine wpList_make_full _ rfl _ _ 28 rfl w.heap.size 26 i0 (.agg #[.bool false, .slice none 0 0]) 2 Try.underlying28 hi hz0 hz1 .i64 .i64 _ _ L.length rfl rfl rfl rfl (by rw [hz2]; omega) (by unfold maxLen; omega) (Nat.le_refl _) ?_)
  intro w1 hown hgrow
  have hb1 : Below w.heap.size w w1 := (Below.refl _ _).grown hgrow (Nat.le_refl _) (by intro k h; cases h)
  have hcells : ∀ j, j < L.length * 2 → ∃ v, w1.cell? ⟨w.heap.size, j, none⟩ = some v := by
    intro j hj
    rw [World.ownsRow.cellAt hown j hj]
    have hlen := hown.1
    exact ⟨_, List.getElem?_eq_getElem (by rw [hlen]; exact hj)⟩
  have hfz : ∀ k, w1.frozen? ⟨w.heap.size, k, none⟩ = false := fun k => World.ownsRow.frozenAt hown k
  have hlt1 : w.heap.size < w1.heap.size := by
    rcases hown.2 with ⟨h, _⟩ | ⟨g, _, _, h, _, hg, _⟩
    · cases h
    · simp at h
      rw [h.1]
      exact (Array.getElem?_eq_some_iff.1 hg).1
  have HCE := Lib.hid hcells
  have HFZ := Lib.hid hfz
  have HLT := Lib.hid hlt1
  have HXL := Lib.hid hxl
  clear hown hgrow hcells hfz hlt1 hxl
  go_wp2
  go_loopw [4] (fun i wr => ∃ (k : Nat) (M : Nat → SgW), k ≤ L.length ∧ i = .int .i64 k ∧ GO wr w.heap.size 0 k M ∧ SameG k L M ∧ (∀ j, j < L.length * 2 → ∃ v, wr.cell? ⟨w.heap.size, j, none⟩ = some v) ∧ Below w.heap.size w wr) (fun i _ => L.length - (intOf i).toNat)
  case atStart =>
    exact ⟨0, fun _ => ⟨false, none, 0, [], 0, 0⟩, Nat.zero_le _, rfl, ⟨HLT.out, HFZ.out, fun k _ h => by omega, fun k _ h => by omega, fun i j _ _ h => by omega⟩, fun i h => by omega, HCE.out, hb1⟩
  case round =>
    obtain ⟨k, M, hk, rfl, hG, hS, hce, hb⟩ := hrel
    have HS := Lib.hid hS
    have HC := Lib.hid hce
    clear hS hce
    by_cases hlt : k < L.length
    · have hxk := HXL.out k hlt
      obtain ⟨b, off, e, rfl, hc0, hc1, hin, hE⟩ := (hx.below hb (Nat.le_refl _)).at hlt
      rw [hE] at hxk
      have HE := Lib.hid hE
      obtain ⟨n, ea, ec, xs⟩ := e
      dsimp only at hxk hc0 hc1 hin
      clear hE
      go_wp2_with fail
      refine (toSigned_any n ea ec xs _ hin.1 (by omega)).mono ?_
      rintro e w2 ⟨⟨a2, c2, rfl, ho2⟩, hb2⟩
      have HHI := Lib.hid (show ∀ i, i < k → (M i).hi ≤ wr.heap.size from fun i hi => (hG.slot i (Nat.zero_le _) hi).1.1)
      have hG2 := hG.below hb2
      have hlt2 := hG.lt
      have hz2 := hb2.size
      have hbb := hb.trans (hb2.mono hb.size)
      obtain ⟨v0, hv0⟩ := HC.out (k * 2) (by omega)
      obtain ⟨v1, hv1⟩ := HC.out (k * 2 + 1) (by omega)
      replace hv0 := cell_keep hb2 hv0 (Nat.le_refl _)
      replace hv1 := cell_keep hb2 hv1 (Nat.le_refl _)
      have hf0 := hG2.fz (k * 2)
      have hf1 := hG2.fz (k * 2 + 1)
      have HG2 := Lib.hid hG2
      clear hc0 hc1 hG hG2 hb
      go_wp2
      have hE := HE.out
      have hP := GO.push (n := n) HG2.out hv0 hv1 (Slot.of ho2) hlt2 HHI.out
      refine ⟨⟨k + 1, _, by omega, by go_num, hP, ?_, ?_, (hbb.setCell (p := ⟨w.heap.size, k * 2, none⟩) (Nat.le_refl _) _).setCell (p := ⟨w.heap.size, k * 2 + 1, none⟩) (Nat.le_refl _) _⟩, by simp [intOf]; omega⟩
      · intro i hi
        dsimp only
        by_cases hik : i = k
        · subst hik; rw [if_pos rfl, hE]; exact ⟨rfl, rfl⟩
        · rw [if_neg hik]; exact HS.out i (by omega)
      · intro j hj
        obtain ⟨v, hv⟩ := HC.out j hj
        obtain ⟨v', hv'⟩ := some_set (p := ⟨w.heap.size, k * 2, none⟩) (u := .bool n) (cell_keep hb2 hv (Nat.le_refl _))
        exact some_set hv'
    · have hkk : k = L.length := by omega
      subst hkk
      go_wp2
      go_ret
      exact ⟨⟨M, rfl, hG, HS.out⟩, hb⟩
set_option maxRecDepth 100000 in
set_option maxHeartbeats 3200000 in
theorem eqG_same (r r' n cap cap' : Nat) (M M' : Nat → SgW) (w : World) (h : GO w r 0 n M) (h' : GO w r' 0 n M') (hn : n ≤ 1048576) (hs : ∀ i, i < n → (M i).n = (M' i).n ∧ (M i).xs = (M' i).xs) (hl : ∀ i, i < n → (M i).xs.length ≤ 1048576) :
    Calls Try.prog 10 #[.slice (some ⟨r, 0, none⟩) n cap, .slice (some ⟨r', 0, none⟩) n cap'] w fun e w' => e = .returned (.bool true) ∧ Below w.heap.size w w' := by
  have HS := Lib.hid hs
  have HL := Lib.hid hl
  clear hs hl
  go_enter Try.func10, Try.ntmps10
  go_wp2
  go_loopw [5] (fun i wr => ∃ k : Nat, k ≤ n ∧ i = .int .i64 k ∧ Below w.heap.size w wr) (fun i _ => n - (intOf i).toNat)
  case atStart => exact ⟨0, Nat.zero_le _, rfl, Below.refl _ _⟩
  case round =>
    obtain ⟨k, hk, rfl, hb⟩ := hrel
    by_cases hlt : k < n
    · have hg := h.below hb
      have hg' := h'.below hb
      obtain ⟨hc0, hc1⟩ := hg.cell k (Nat.zero_le _) hlt
      obtain ⟨hd0, hd1⟩ := hg'.cell k (Nat.zero_le _) hlt
      have sl := (hg.slot k (Nat.zero_le _) hlt).1.rd
      have sl' := (hg'.slot k (Nat.zero_le _) hlt).1.rd
      have hsm := HS.out k hlt
      have hll := HL.out k hlt
      obtain ⟨⟨bn, ba, bc, bxs, blo, bhi⟩, hm⟩ : ∃ m, M k = m := ⟨_, rfl⟩
      obtain ⟨⟨bn', ba', bc', bxs', blo', bhi'⟩, hm'⟩ : ∃ m, M' k = m := ⟨_, rfl⟩
      rw [hm] at hc0 hc1 sl hsm hll
      rw [hm'] at hd0 hd1 sl' hsm
      dsimp only at hc0 hc1 sl hsm hll hd0 hd1 sl'
      obtain ⟨rfl, rfl⟩ := hsm
      clear hm hm' hg hg'
      go_upto_region 6 with fail
      have S0 : wr.cell? ⟨r, k * 2, none⟩ = some (.bool bn) ∧ wr.cell? ⟨r, k * 2 + 1, none⟩ = some (.slice ba bxs.length bc) ∧ wr.cell? ⟨r', k * 2, none⟩ = some (.bool bn) ∧ wr.cell? ⟨r', k * 2 + 1, none⟩ = some (.slice ba' bxs.length bc') := ⟨hc0, hc1, hd0, hd1⟩
      have hrf := Below.refl wr.heap.size wr
      go_region_held3 (fun w' => w'.cell? ⟨r, k * 2, none⟩ = some (.bool bn) ∧ w'.cell? ⟨r, k * 2 + 1, none⟩ = some (.slice ba bxs.length bc) ∧ w'.cell? ⟨r', k * 2, none⟩ = some (.bool bn) ∧ w'.cell? ⟨r', k * 2 + 1, none⟩ = some (.slice ba' bxs.length bc'))
        (first | exact ⟨cell_keep f1 hc0 (Nat.le_refl _), cell_keep f1 hc1 (Nat.le_refl _), cell_keep f1 hd0 (Nat.le_refl _), cell_keep f1 hd1 (Nat.le_refl _)⟩ | exact S0)
        (first | (go_at_call 9; refine (eqSigned_same bn ba ba' bc bc' bxs wr.drew (sl.below hrf.drew (Nat.le_refl _)) (sl'.below hrf.drew (Nat.le_refl _)) (by omega)).mono ?_; rintro e v1 ⟨rfl, hb1⟩; have f1 := hrf.drew.trans (hb1.mono hrf.drew.size)))
      all_goals
        have hbb := hb.trans (f1.mono hb.size)
        go_wp2
        refine ⟨⟨k + 1, by omega, by go_num, hbb⟩, by simp [intOf]; omega⟩
    · go_wp2
      go_ret
      exact ⟨rfl, hb⟩
set_option maxRecDepth 100000 in
set_option maxHeartbeats 3200000 in
theorem markG_any (r n cap H D : Nat) (M : Nat → SgW) (w : World) (h : GO w r 0 n M) (hn : n ≤ 1048576) (hl : ∀ i, i < n → (M i).xs.length + 1 ≤ D) (hD : n * D ≤ 1000000000000) (hH : ∀ i, i < n → (M i).hi ≤ H) (hr : r < H) :
    Calls Try.prog 11 #[.slice (some ⟨r, 0, none⟩) n cap, .int .i64 1] w fun e w' => (∃ k : Int, e = .returned (.int .i64 k) ∧ 0 ≤ k) ∧ Wr w w' r H := by
  have HL := Lib.hid hl
  have HH := Lib.hid hH
  clear hl hH
  go_enter Try.func11, Try.ntmps11
  go_wp2
  go_loopw [1, 5] (fun v i wr => ∃ (k : Nat) (z : Int), k ≤ n ∧ i = .int .i64 k ∧ v = .int .i64 z ∧ 1 ≤ z ∧ z ≤ 1 + ((k * D : Nat) : Int) ∧ GO wr r k n M ∧ Wr w wr r H) (fun _ i _ => n - (intOf i).toNat)
  case atStart => exact ⟨0, 1, Nat.zero_le _, rfl, rfl, by omega, by simp, h, Wr.refl _ _ _⟩
  case round =>
    obtain ⟨k, z, hk, rfl, rfl, hz0, hz1, hG, hw⟩ := hrel
    by_cases hlt : k < n
    · obtain ⟨hc0, hc1⟩ := hG.cell k (Nat.le_refl _) hlt
      have hf0 := hG.fz (k * 2)
      obtain ⟨sl, hrl⟩ := hG.slot k (Nat.le_refl _) hlt
      have hll := HL.out k hlt
      have hhi := HH.out k hlt
      have hord := hG.ord k
      obtain ⟨⟨bn, ba, bc, bxs, blo, bhi⟩, hm⟩ : ∃ m, M k = m := ⟨_, rfl⟩
      rw [hm] at hc0 hc1 sl hrl hll hhi hord
      dsimp only at hc0 hc1 sl hrl hll hhi hord
      clear hm
      have HO := Lib.hid hord
      have hkD : (k + 1) * D ≤ n * D := Nat.mul_le_mul_right D hlt
      rw [Nat.succ_mul] at hkD
      clear hord
      go_wp2_with fail
      have hW1 : Wr wr (wr.setCell ⟨r, k * 2, none⟩ (.bool (z % 3 == 0))) r (r + 1) := (Wr.refl wr r (r + 1)).set (g := r) (k := k * 2) ⟨Nat.le_refl _, by omega⟩ _
      have hG1 := hG.head (v := .bool (z % 3 == 0))
      have sl1 := sl.wr hW1 (.inr hrl)
      have hw1 := hw.trans (hW1.wide (Nat.le_refl _) hr)
      generalize wr.setCell ⟨r, k * 2, none⟩ (.bool (z % 3 == 0)) = w1 at hG1 sl1 hw1 ⊢
      clear hc0 hc1 hf0 hG sl hW1 hw
      refine (markIntS_any blo bhi ba bc bxs (z + 1) _ sl1 (by omega) (by omega)).mono ?_
      rintro e w2 ⟨rfl, -, hw2⟩
      have hG2 := hG1.wr hw2 (.inl hrl) (fun j hj1 hj2 => .inr (HO.out j (Nat.le_refl _) (by omega) hj2))
      have hww := hw1.trans (hw2.wide (by omega) hhi)
      obtain ⟨z2, hz2⟩ : ∃ z2, z + 1 + (bxs.length : Int) = z2 := ⟨_, rfl⟩
      have hz20 : 1 ≤ z2 := by omega
      have hz21 : z2 ≤ 1 + (((k + 1) * D : Nat) : Int) := by rw [Nat.succ_mul]; omega
      rw [hz2]
      clear hz2 hG1 sl1 hw1 hw2
      go_wp2
      refine ⟨⟨k + 1, z2, by omega, by go_num, rfl, hz20, hz21, hG2, hww⟩, by simp [intOf]; omega⟩
    · go_wp2
      go_ret
      exact ⟨⟨z, rfl, by omega⟩, hw⟩
end Go.Proofs.Ytcibccaimjifmaa
