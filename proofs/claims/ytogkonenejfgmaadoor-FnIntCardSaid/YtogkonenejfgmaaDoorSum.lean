/- The walks of IntSum (program and reference). For every slice of integers within the reach. -/
import Derived.Test.YtogkonenejfgmaaDoorWIntFn
import Derived.Test.YtogkonenejfgmaaDoorWBox
namespace Go.Proofs.YtogkonenejfgmaaDoor
open Go.RowKit
set_option linter.unusedVariables false
/-- an integer as it lies in memory -/
structure SgV where
  n : Bool
  a : Option Addr
  c : Nat
  xs : List Int
instance : Inhabited SgV := ⟨⟨false, none, 0, []⟩⟩
/-- the slice at a reads as the integers L -/
def RdG (w : World) (a : Option Addr) (L : List SgV) : Prop :=
  (L = [] ∨ ∃ b off, a = some ⟨b, off, none⟩ ∧ b < w.heap.size ∧ ∀ i, i < L.length → w.cell? ⟨b, off + i * 2, none⟩ = some (.bool (L.getD i default).n) ∧ w.cell? ⟨b, off + i * 2 + 1, none⟩ = some (.slice (L.getD i default).a (L.getD i default).xs.length (L.getD i default).c)) ∧
  ∀ i, i < L.length → In w (L.getD i default).a (L.getD i default).c (L.getD i default).xs
theorem RdG.below {w w' : World} {a : Option Addr} {L : List SgV} (h : RdG w a L) {B : Nat} (hb : Below B w w') (hB : w.heap.size ≤ B) : RdG w' a L := by
  obtain ⟨h1, h2⟩ := h
  refine ⟨?_, fun i hi => (h2 i hi).below hb hB⟩
  rcases h1 with h1 | ⟨b, off, e, hb1, hc⟩
  · exact .inl h1
  · exact .inr ⟨b, off, e, Nat.lt_of_lt_of_le hb1 hb.size, fun i hi => ⟨cell_keep hb (hc i hi).1 hB, cell_keep hb (hc i hi).2 hB⟩⟩
def fSum : Bool × List Int → List SgV → Bool × List Int
  | s, [] => s
  | s, e :: r => if intB e.n e.xs = true then fSum (fIAdd s.1 s.2 e.n e.xs) r else (false, [])
theorem fIAdd_len (b1 : Bool) (xs : List Int) (b2 : Bool) (ys : List Int) : (fIAdd b1 xs b2 ys).2.length ≤ 50 := by
  unfold fIAdd
  split
  · exact capZ_len _
  · simp
theorem fSum_len : ∀ (L : List SgV) (s : Bool × List Int), s.2.length ≤ 50 → (fSum s L).2.length ≤ 50
  | [], _, h => h
  | e :: r, s, h => by
    unfold fSum
    split
    · exact fSum_len r _ (fIAdd_len _ _ _ _)
    · simp
theorem fSum_step {L : List SgV} {s F : Bool × List Int} {k : Nat} (h : fSum s (L.drop k) = F) (hk : k < L.length) :
    (intB (L.getD k default).n (L.getD k default).xs = true → fSum (fIAdd s.1 s.2 (L.getD k default).n (L.getD k default).xs) (L.drop (k + 1)) = F) ∧ (intB (L.getD k default).n (L.getD k default).xs = false → F = (false, [])) := by
  have e : L.getD k default = L[k] := by simp [List.getD_eq_getElem?_getD, hk]
  rw [List.drop_eq_getElem_cons hk] at h
  rw [e]
  unfold fSum at h
  refine ⟨fun hi => ?_, fun hi => ?_⟩
  · rw [if_pos hi] at h; exact h
  · rw [if_neg (by simp [hi])] at h; exact h.symm
theorem fSum_end {L : List SgV} {s F : Bool × List Int} {k : Nat} (h : fSum s (L.drop k) = F) (hk : L.length ≤ k) : F = s := by
  rw [List.drop_of_length_le hk] at h; exact h.symm
set_option maxRecDepth 100000 in
set_option maxHeartbeats 3200000 in
theorem impl_IntSum_o (a : Option Addr) (c : Nat) (L : List SgV) (w : World) (hx : RdG w a L) (hl : L.length ≤ 1048576) (hc : L.length ≤ c) :
    Calls Tryd.prog 43 #[.slice a L.length c] w fun e w' => (∃ a' c', e = .returned (.agg #[.bool (fSum (false, []) L).1, .slice a' (fSum (false, []) L).2.length c']) ∧ Own w' w.heap.size a' c' (fSum (false, []) L).2 ∧ (fSum (false, []) L).2.length ≤ 50) ∧ Below w.heap.size w w' := by
  obtain ⟨F, hF⟩ : ∃ F, fSum (false, []) L = F := ⟨_, rfl⟩
  have hFl : F.2.length ≤ 50 := by rw [← hF]; exact fSum_len L _ (by simp)
  rw [hF]
  have HF := Lib.hid hF
  clear hF
  have hA := (bel_alloc w (.cells #[.bool false, .slice none 0 0] 49)).trans ((bel_alloc _ (.cells #[.bool false, .slice none 0 0] 49)).mono (by simp))
  have K1 := (Box2.new w (.bool false) (.slice none 0 0) 49 _ rfl).below (bel_alloc _ (.cells #[.bool false, .slice none 0 0] 49)) (Nat.le_refl _)
  have K2 := Box2.new (w.alloc (.cells #[.bool false, .slice none 0 0] 49)) (.bool false) (.slice none 0 0) 49 _ rfl
  rw [World.size_alloc] at K2
  have HA := Lib.hid hA
  have H1 := Lib.hid K1
  have H2 := Lib.hid K2
  clear hA K1 K2
  go_enter Tryd.func43, Tryd.ntmps43
  go_wp2
  go_loopw [9] (fun i wr => ∃ (k : Nat) (s : Bool × List Int) (sa : Option Addr) (sc : Nat), k ≤ L.length ∧ i = .int .i64 k ∧ fSum s (L.drop k) = F ∧ Box2 wr w.heap.size (.bool false) (.slice none 0 0) ∧ Box2 wr (w.heap.size + 1) (.bool s.1) (.slice sa s.2.length sc) ∧ Own wr (w.heap.size + 2) sa sc s.2 ∧ s.2.length ≤ 50 ∧ Below w.heap.size w wr) (fun i _ => L.length - (intOf i).toNat)
  case atStart =>
    exact ⟨0, (false, []), none, 0, Nat.zero_le _, rfl, HF.out, H1.out, H2.out, Own.nil _ _, by simp, HA.out⟩
  case round =>
    obtain ⟨k, s, sa, sc, hk, rfl, he, K1, K2, hs, hsl, hb⟩ := hrel
    have HE := Lib.hid he
    clear he
    by_cases hlt : k < L.length
    · have hst := fSum_step HE.out hlt
      obtain ⟨h1, h2⟩ := hx.below hb (Nat.le_refl _)
      have hin := h2 k hlt
      rcases h1 with h1 | ⟨b, off, rfl, hbs, hcc⟩
      · rw [h1] at hlt; simp at hlt
      obtain ⟨hc0, hc1⟩ := hcc k hlt
      obtain ⟨e, hE⟩ : ∃ e, L.getD k default = e := ⟨_, rfl⟩
      rw [hE] at hst hin hc0 hc1
      obtain ⟨n, ea, ec, xs⟩ := e
      dsimp only at hst hin hc0 hc1
      clear hE hcc h2
      go_wp2_with fail
      have hz0 := K2.lt
      replace hs := hs.inn (by omega)
      have hal := bel_alloc wr (.cells #[.bool n, .slice ea xs.length ec] 49)
      have hb1 := hb.trans (hal.mono hb.size)
      have K3 := Box2.new wr (.bool n) (.slice ea xs.length ec) 49 _ rfl
      replace K1 := K1.below hal (Nat.le_refl _)
      replace K2 := K2.below hal (Nat.le_refl _)
      replace hs := hs.below hal (Nat.le_refl _)
      replace hin := hin.below hal (Nat.le_refl _)
      have hzs : wr.heap.size < (wr.alloc (.cells #[.bool n, .slice ea xs.length ec] 49)).heap.size := by simp
      generalize wr.alloc (.cells #[.bool n, .slice ea xs.length ec] 49) = w1 at hb1 K1 K2 K3 hs hin hzs ⊢
      clear hal hc0 hc1
      refine (impl_IntOk n ea ec xs _ hin).mono ?_
      rintro e w2 ⟨rfl, hb2⟩
      replace hb1 := hb1.trans (hb2.mono hb1.size)
      replace K1 := K1.below hb2 (Nat.le_refl _)
      replace K2 := K2.below hb2 (Nat.le_refl _)
      replace K3 := K3.below hb2 (Nat.le_refl _)
      replace hs := hs.below hb2 (Nat.le_refl _)
      replace hin := hin.below hb2 (Nat.le_refl _)
      have hz1 : wr.heap.size < w2.heap.size := Nat.lt_of_lt_of_le hzs hb2.size
      clear hb2
      cases hok : intB n xs
      · have hFn := hst.2 hok
        subst hFn
        obtain ⟨⟨hr0, hr1⟩, g0, g1⟩ := K1
        clear hst K2 K3
        go_wp2
        refine bodyPost_ret (v := .agg #[.bool false, .slice none 0 0]) (by simp [results, Tryd.results43, go_sem, hr0, hr1]) rfl ⟨⟨none, 0, rfl, Own.nil _ _⟩, set2_below hb1 (Nat.le_refl _)⟩
      · have hst1 := Lib.hid (hst.1 hok)
        clear hst
        obtain ⟨⟨hx0, hx1⟩, -, -⟩ := K3
        obtain ⟨⟨ht0, ht1⟩, f0, f1⟩ := K2
        go_wp2_with fail
        refine (impl_IntAdd s.1 n sa ea sc ec s.2 xs _ hs hin).mono ?_
        rintro e w3 ⟨⟨a3, c3, rfl, ho3, hn3⟩, hb3⟩
        have K2' : Box2 w2 (w.heap.size + 1) (.bool s.1) (.slice sa s.2.length sc) := ⟨⟨ht0, ht1⟩, f0, f1⟩
        replace K2' := K2'.below hb3 (Nat.le_refl _)
        replace K1 := K1.below hb3 (Nat.le_refl _)
        replace hb1 := hb1.trans (hb3.mono hb1.size)
        obtain ⟨⟨hr0, hr1⟩, g0, g1⟩ := K2'
        have hz3 := hb3.size
        clear hx0 hx1 ht0 ht1 f0 f1 hb3
        obtain ⟨S, hS⟩ : ∃ S, fIAdd s.1 s.2 n xs = S := ⟨_, rfl⟩
        rw [hS] at ho3 hn3 hst1 ⊢
        clear hS
        go_wp2
        have KR : Box2 ((w3.setCell ⟨w.heap.size + 1, 0, none⟩ (.bool S.1)).setCell ⟨w.heap.size + 1, 1, none⟩ (.slice a3 S.2.length c3)) w.heap.size (.bool false) (.slice none 0 0) := by
          obtain ⟨⟨p0, p1⟩, q0, q1⟩ := K1
          exact ⟨⟨far2 (by omega) p0, far2 (by omega) p1⟩, by simpa using q0, by simpa using q1⟩
        have KT : Box2 ((w3.setCell ⟨w.heap.size + 1, 0, none⟩ (.bool S.1)).setCell ⟨w.heap.size + 1, 1, none⟩ (.slice a3 S.2.length c3)) (w.heap.size + 1) (.bool S.1) (.slice a3 S.2.length c3) :=
          ⟨⟨set2_cell0 hr0, set2_cell1 hr1⟩, by simpa using g0, by simpa using g1⟩
        refine ⟨⟨k + 1, S, a3, c3, by omega, by go_num, hst1.out, KR, KT, set2_own ho3 (by omega) (by omega), hn3, set2_below hb1 (by omega)⟩, by simp [intOf]; omega⟩
    · have hFe := fSum_end HE.out (by omega)
      subst hFe
      obtain ⟨⟨hx0, hx1⟩, e0, e1⟩ := K1
      obtain ⟨⟨ht0, ht1⟩, f0, f1⟩ := K2
      have hz0 := World.block_lt_of_cell? _ _ ht0
      go_wp2
      have hr0 := set2_cell0 (u := .bool F.1) (v := .slice sa F.2.length sc) hx0
      have hr1 := set2_cell1 (u := .bool F.1) (v := .slice sa F.2.length sc) hx1
      refine bodyPost_ret (v := .agg #[.bool F.1, .slice sa F.2.length sc]) (by simp [results, Tryd.results43, go_sem, hr0, hr1]) rfl ⟨⟨sa, sc, rfl, ?_⟩, set2_below hb (Nat.le_refl _)⟩
      exact set2_own hs (by omega) (by omega)
theorem impl_IntSum (a : Option Addr) (c : Nat) (L : List SgV) (w : World) (hx : RdG w a L) (hl : L.length ≤ 1048576) (hc : L.length ≤ c) :
    Calls Tryd.prog 43 #[.slice a L.length c] w fun e w' => (∃ a' c', e = .returned (.agg #[.bool (fSum (false, []) L).1, .slice a' (fSum (false, []) L).2.length c']) ∧ In w' a' c' (fSum (false, []) L).2 ∧ (fSum (false, []) L).2.length ≤ 50) ∧ Below w.heap.size w w' := by
  refine (impl_IntSum_o a c L w hx hl hc).mono ?_
  rintro e w' ⟨⟨a', c', rfl, ho, hn⟩, hb⟩
  exact ⟨⟨a', c', rfl, ho.inn (by omega), hn⟩, hb⟩
end Go.Proofs.YtogkonenejfgmaaDoor
