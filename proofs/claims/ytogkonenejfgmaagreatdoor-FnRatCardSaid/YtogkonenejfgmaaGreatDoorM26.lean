/- More products; the numerator extended by a factor (num). (Printed by gen_rat2.py.) Sums of products. (Printed by gen_rat2.py.) -/
import Derived.Test.YtogkonenejfgmaaGreatDoorM25
import Derived.Test.YtogkonenejfgmaaGreatDoorM07
import Derived.Test.YtogkonenejfgmaaGreatDoorM12
namespace Go.Proofs.YtogkonenejfgmaaGreatDoor
open Go.RowKit
set_option linter.unusedVariables false
theorem natMul_o (a b : Option Addr) (ca cb m n : Nat) (w : World) (hx : In w a ca (limbs m)) (hy : In w b cb (limbs n)) (lm : (limbs m).length ≤ 400) (ln : (limbs n).length ≤ 400) :
    Calls Tryz.prog 20 #[.slice a (limbs m).length ca, .slice b (limbs n).length cb] w fun e w' => (∃ a' c', e = .returned (.slice a' (limbs (m * n)).length c') ∧ Own w' w.heap.size a' c' (limbs (m * n))) ∧ Below w.heap.size w w' :=
  natMul_any a b ca cb m n w hx.1 hy.1 (by omega) (by omega)
theorem ratPost_set {w W : World} {F : Bool × List Int × List Int} {a b : Option Addr} {c d lo up lo2 up2 r : Nat} {u v x : Value} (s1 : Slot W lo up a c F.2.1) (l1 : F.2.1.length ≤ 50) (s2 : Slot W lo2 up2 b d F.2.2) (l2 : F.2.2.length ≤ 50) (k1 : r < lo) (k2 : r < lo2) (hr : w.heap.size ≤ r) (hd : up ≤ lo2 ∨ up2 ≤ lo) (hb : Below w.heap.size w W) :
    RatPost w F (.returned (.agg #[.bool F.1, .slice a F.2.1.length c, .slice b F.2.2.length d])) (((W.setCell ⟨r, 0, none⟩ u).setCell ⟨r, 1, none⟩ v).setCell ⟨r, 2, none⟩ x) :=
  ⟨⟨a, c, b, d, lo, up, lo2, up2, rfl, s1.set3 k1, l1, s2.set3 k2, l2, by omega, by omega, hd⟩, set3_below hb hr⟩
theorem fICmp_n {b1 b2 : Bool} {p q : Nat} (hp : (limbs p).length ≤ 50) (hq : (limbs q).length ≤ 50) : fICmp (b1 && decide (0 < (limbs p).length)) (limbs p) (b2 && decide (0 < (limbs q).length)) (limbs q) = sgnZ (zOf b1 p - zOf b2 q) := by
  have hh : ∀ (b : Bool) (k : Nat), (limbs k).length ≤ 50 → intB (b && decide (0 < (limbs k).length)) (limbs k) = true := by
    intro b k hk
    unfold intB; rw [natB_of hk]
    by_cases h : 0 < (limbs k).length <;> simp [h]
  unfold fICmp sv
  rw [hh _ _ hp, hh _ _ hq, nv_limbs, nv_limbs, zOf_and, zOf_and]
  rfl
theorem intCmp_n (b1 b2 : Bool) (a b : Option Addr) (ca cb p q : Nat) (w : World) (hx : In w a ca (limbs p)) (hy : In w b cb (limbs q)) (hp : (limbs p).length ≤ 50) (hq : (limbs q).length ≤ 50) :
    Calls Tryz.prog 22 #[.agg #[.bool (b1 && decide (0 < (limbs p).length)), .slice a (limbs p).length ca], .agg #[.bool (b2 && decide (0 < (limbs q).length)), .slice b (limbs q).length cb]] w fun e w' => e = .returned (.int .i64 (sgnZ (zOf b1 p - zOf b2 q))) ∧ Below w.heap.size w w' := by
  rw [← zOf_and b1, ← zOf_and b2]
  exact intCmp_any _ _ _ _ _ _ _ _ _ hx hy (by omega) (by omega)
theorem l04Make_i (neg : Bool) (a : Option Addr) (c n : Nat) (w : World) (hx : In w a c (limbs n)) (hl : (limbs n).length ≤ 50) :
    Calls Tryz.prog 54 #[.bool neg, .slice a (limbs n).length c] w fun e w' => (∃ a' c', e = .returned (.agg #[.bool (neg && decide (0 < (limbs n).length)), .slice a' (limbs n).length c']) ∧ In w' a' c' (limbs n)) ∧ Below w.heap.size w w' := by
  refine (l04Make_n neg a c n w hx hl).mono ?_
  rintro e w1 ⟨⟨a1, c1, h, ho⟩, hb⟩
  exact ⟨⟨a1, c1, h, ho.inn (by omega)⟩, hb⟩
theorem ratB_len {n : Bool} {xs ys : List Int} (h : ratB n xs ys = true) : xs.length ≤ 18 ∧ ys.length ≤ 18 := by
  obtain ⟨m, k, rfl, rfl, lm, lk, -⟩ := ratB_elim h
  exact ⟨lm, lk⟩
set_option linter.unusedSimpArgs false in
set_option maxRecDepth 100000 in
set_option maxHeartbeats 3200000 in
theorem num_any (n1 : Bool) (a1 : Option Addr) (c1 m : Nat) (b1 : Option Addr) (d1 : Nat) (ys : List Int) (b2 : Option Addr) (d2 l : Nat) (w : World) (hx : In w a1 c1 (limbs m)) (hv : In w b2 d2 (limbs l)) (lm : (limbs m).length ≤ 400) (ll : (limbs l).length ≤ 400) :
    Calls Tryz.prog 17 #[.agg #[.bool n1, .slice a1 (limbs m).length c1, .slice b1 ys.length d1], .slice b2 (limbs l).length d2] w fun e w' => (∃ a' c', e = .returned (.agg #[.bool (n1 && decide (0 < (limbs (m * l)).length)), .slice a' (limbs (m * l)).length c']) ∧ In w' a' c' (limbs (m * l))) ∧ Below w.heap.size w w' := by
  have hml := len_mul m l
  have hA := (bel_alloc w (.cells #[.bool n1, .slice a1 (limbs m).length c1, .slice b1 ys.length d1] 27)).trans ((bel_alloc _ (.cells #[.bool false, .slice none 0 0] 25)).mono (by simp))
  have hzA : w.heap.size + 2 ≤ (World.alloc (World.alloc w (.cells #[.bool n1, .slice a1 (limbs m).length c1, .slice b1 ys.length d1] 27)) (.cells #[.bool false, .slice none 0 0] 25)).heap.size := by simp only [World.size_alloc]; omega
  have Q1 := (Box3.new w (.bool n1) (.slice a1 (limbs m).length c1) (.slice b1 ys.length d1) 27 (w.heap.size) (by simp)).below (bel_alloc _ (.cells #[.bool false, .slice none 0 0] 25)) (Nat.le_refl _)
  have hR := Box2.new (World.alloc w (.cells #[.bool n1, .slice a1 (limbs m).length c1, .slice b1 ys.length d1] 27)) (.bool false) (.slice none 0 0) 25 (w.heap.size + 1) (by simp)
  have HX := Lib.hid (hx.below hA (Nat.le_refl _))
  have HV := Lib.hid (hv.below hA (Nat.le_refl _))
  go_enter Tryz.func17, Tryz.ntmps17
  go_wp2_with fail
  obtain ⟨W0, hW0⟩ : ∃ x : World, x = (World.alloc (World.alloc w (.cells #[.bool n1, .slice a1 (limbs m).length c1, .slice b1 ys.length d1] 27)) (.cells #[.bool false, .slice none 0 0] 25)) := ⟨_, rfl⟩
  rw [← hW0] at Q1 hR hA hzA HX HV ⊢
  clear hW0
  go_wp2_with fail
  have nq0 : w.heap.size + 1 ≠ w.heap.size := by omega
  have hbq : Below W0.heap.size W0 (World.drew W0) := (Below.refl _ _).drew
  go_region_held3 (fun w' => w'.cell? ⟨w.heap.size, 0, none⟩ = some (.bool n1) ∧ w'.cell? ⟨w.heap.size, 1, none⟩ = some (.slice a1 (limbs m).length c1) ∧ w'.cell? ⟨w.heap.size, 2, none⟩ = some (.slice b1 ys.length d1))
    (first | (with_reducible exact ⟨far2 nq0 (cell_keep hbq Q1.1.1 (Nat.le_refl _)), far2 nq0 (cell_keep hbq Q1.1.2.1 (Nat.le_refl _)), far2 nq0 (cell_keep hbq Q1.1.2.2 (Nat.le_refl _))⟩) | (exact ⟨cell_keep hbq Q1.1.1 (Nat.le_refl _), cell_keep hbq Q1.1.2.1 (Nat.le_refl _), cell_keep hbq Q1.1.2.2 (Nat.le_refl _)⟩) | (exact ⟨Q1.1.1, Q1.1.2.1, Q1.1.2.2⟩) | go_keep)
    (first | (go_at_call 20; refine (natMul_o _ _ _ _ m l _ (HX.out.below hbq (Nat.le_refl _)) (HV.out.below hbq (Nat.le_refl _)) (by omega) (by omega)).mono ?_; rintro e qA ⟨⟨e1, g1, rfl, ho1⟩, hq⟩; have zpA := hbq.size; have zsA := hq.size; replace hbq := hbq.trans (hq.mono hbq.size); clear hq) | (go_at_call 31; refine (signed_any n1 _ _ (limbs (m * l)) _ (by omega)).mono ?_; rintro e qL ⟨rfl, hq⟩; have zpL := hbq.size; (try replace ho1 := ho1.below hq (Nat.le_refl _)); have zsL := hq.size; replace hbq := hbq.trans (hq.mono hbq.size); clear hq; have hRq := hR.below hbq (Nat.le_refl _); obtain ⟨⟨hrc0, hrc1⟩, hrf0, hrf1⟩ := hRq))
  all_goals
    go_wp2
    have ho2 := set2_own (B := w.heap.size) (B0 := w.heap.size + 2) (r := w.heap.size + 1) (u := .bool (n1 && decide (0 < (limbs (m * l)).length))) (v := .slice e1 (limbs (m * l)).length g1) (ho1.mono (by omega)) (by omega) (by omega)
    refine bodyPost_ret (v := .agg #[.bool (n1 && decide (0 < (limbs (m * l)).length)), .slice e1 (limbs (m * l)).length g1]) (by simp [results, Tryz.results17, go_sem, hrc0, hrc1]) rfl ⟨⟨e1, g1, rfl, ho2.inn (by omega)⟩, set2_below (hA.trans (hbq.mono hA.size)) (by omega)⟩
end Go.Proofs.YtogkonenejfgmaaGreatDoor
namespace Go.Proofs.YtogkonenejfgmaaGreatDoor
open Go.RowKit
set_option linter.unusedVariables false
theorem alloc_step2 {W0 W : World} (hb : Below W0.heap.size W0 W) (u v : Value) (T : TypeId) : Below W0.heap.size W0 (W.alloc (.cells #[u, v] T)) ∧ Box2 (W.alloc (.cells #[u, v] T)) W.heap.size u v ∧ W0.heap.size ≤ W.heap.size :=
  ⟨hb.alloc hb.size _, Box2.new W u v T _ rfl, hb.size⟩
theorem alloc_step3 {W0 W : World} (hb : Below W0.heap.size W0 W) (u v z : Value) (T : TypeId) : Below W0.heap.size W0 (W.alloc (.cells #[u, v, z] T)) ∧ Box3 (W.alloc (.cells #[u, v, z] T)) W.heap.size u v z ∧ W0.heap.size ≤ W.heap.size :=
  ⟨hb.alloc hb.size _, Box3.new W u v z T _ rfl, hb.size⟩
theorem alloc_drew3 (W : World) (u v z : Value) (T : TypeId) : Below W.heap.size W (World.drew (W.alloc (.cells #[u, v, z] T))) ∧ Box3 (World.drew (W.alloc (.cells #[u, v, z] T))) W.heap.size u v z ∧ W.heap.size ≤ W.heap.size :=
  ⟨(bel_alloc W _).drew, (Box3.new W u v z T _ rfl).below (Below.refl _ _).drew (Nat.le_refl _), Nat.le_refl _⟩
theorem set3_cell0 {W : World} {r : Nat} {u v z u' : Value} (h0 : W.cell? ⟨r, 0, none⟩ = some u') : (((W.setCell ⟨r, 0, none⟩ u).setCell ⟨r, 1, none⟩ v).setCell ⟨r, 2, none⟩ z).cell? ⟨r, 0, none⟩ = some u := by
  rw [World.cell?_setCell_other _ _ _ _ (addr_ne (by omega))]; exact set2_cell0 h0
theorem set3_cell1 {W : World} {r : Nat} {u v z v' : Value} (h0 : W.cell? ⟨r, 1, none⟩ = some v') : (((W.setCell ⟨r, 0, none⟩ u).setCell ⟨r, 1, none⟩ v).setCell ⟨r, 2, none⟩ z).cell? ⟨r, 1, none⟩ = some v := by
  rw [World.cell?_setCell_other _ _ _ _ (addr_ne (by omega))]; exact set2_cell1 h0
theorem set3_cell2 {W : World} {r : Nat} {u v z z' : Value} (h0 : W.cell? ⟨r, 2, none⟩ = some z') : (((W.setCell ⟨r, 0, none⟩ u).setCell ⟨r, 1, none⟩ v).setCell ⟨r, 2, none⟩ z).cell? ⟨r, 2, none⟩ = some z :=
  World.cell?_setCell_same _ _ _ ((World.cell?_setCell_other _ _ _ _ (addr_ne (by omega))).trans ((World.cell?_setCell_other _ _ _ _ (addr_ne (by omega))).trans h0))
theorem alloc_drew2 (W : World) (u v : Value) (T : TypeId) : Below W.heap.size W (World.drew (W.alloc (.cells #[u, v] T))) ∧ Box2 (World.drew (W.alloc (.cells #[u, v] T))) W.heap.size u v ∧ W.heap.size ≤ W.heap.size :=
  ⟨(bel_alloc W _).drew, (Box2.new W u v T _ rfl).below (Below.refl _ _).drew (Nat.le_refl _), Nat.le_refl _⟩
theorem ne_blk {N r p : Nat} (h : N ≤ r) (hp : p < N) : r ≠ p := by omega
theorem len_add2 {p q k : Nat} (hp : (limbs p).length ≤ k) (hq : (limbs q).length ≤ k) : (limbs (p + q)).length ≤ k + 1 := by
  rw [limbs_len_le] at hp hq ⊢
  rw [Nat.pow_succ]
  omega
theorem zadd_abs (a b : Bool) (p q : Nat) : (zOf a p + zOf b q).natAbs ≤ p + q := by unfold zOf; cases a <;> cases b <;> simp <;> omega
theorem capZ_id {z : Int} (h : (limbs z.natAbs).length ≤ 50) : capZ z = z := by unfold capZ; rw [if_neg (by omega)]
theorem zadd_len (a b : Bool) {p q : Nat} (hp : (limbs p).length ≤ 40) (hq : (limbs q).length ≤ 40) : (limbs (zOf a p + zOf b q).natAbs).length ≤ 41 :=
  Nat.le_trans (limbs_len_mono (zadd_abs a b p q)) (len_add2 hp hq)
theorem intAdd_i (b1 b2 : Bool) (a b : Option Addr) (ca cb p q : Nat) (w : World) (hx : In w a ca (limbs p)) (hy : In w b cb (limbs q)) (hp : (limbs p).length ≤ 40) (hq : (limbs q).length ≤ 40) :
    Calls Tryz.prog 19 #[.agg #[.bool (b1 && decide (0 < (limbs p).length)), .slice a (limbs p).length ca], .agg #[.bool (b2 && decide (0 < (limbs q).length)), .slice b (limbs q).length cb]] w fun e w' => (∃ a' c', e = .returned (.agg #[.bool (decide (zOf b1 p + zOf b2 q < 0)), .slice a' (limbs (zOf b1 p + zOf b2 q).natAbs).length c']) ∧ In w' a' c' (limbs (zOf b1 p + zOf b2 q).natAbs)) ∧ Below w.heap.size w w' := by
  have hl := zadd_len b1 b2 hp hq
  have h := intAdd_any (b1 && decide (0 < (limbs p).length)) (b2 && decide (0 < (limbs q).length)) a b ca cb p q w hx hy (by omega) (by omega)
  rw [zOf_and, zOf_and] at h
  refine h.mono ?_
  rintro e w1 ⟨⟨a1, c1, h, ho⟩, hb⟩
  exact ⟨⟨a1, c1, h, ho.inn (by show (limbs _).length ≤ _; omega)⟩, hb⟩
theorem reduce_z (z : Int) (a : Option Addr) (c : Nat) (b : Option Addr) (d n : Nat) (w : World) (FX : (Bool × List Int × List Int) × Bool) (hF : FX = low (decide (z < 0)) z.natAbs n) (hx : Rd w a (limbs z.natAbs)) (hy : Rd w b (limbs n)) (lx : (limbs z.natAbs).length ≤ 1000) (ly : (limbs n).length ≤ 1000) (hn : 0 < n) :
    Calls Tryz.prog 18 #[.agg #[.bool (decide (z < 0)), .slice a (limbs z.natAbs).length c], .slice b (limbs n).length d] w fun e w' => RatPost2 w FX e w' := by
  rw [hF]
  exact reduce_any _ a c _ b d n w hx hy lx ly hn
theorem intAdd_z2 (b1 b2 : Bool) (a b : Option Addr) (ca cb p q : Nat) (z : Int) (w : World) (hz : z = zOf b1 p + zOf b2 q) (hx : In w a ca (limbs p)) (hy : In w b cb (limbs q)) (hp : (limbs p).length ≤ 40) (hq : (limbs q).length ≤ 40) :
    Calls Tryz.prog 19 #[.agg #[.bool (b1 && decide (0 < (limbs p).length)), .slice a (limbs p).length ca], .agg #[.bool (b2 && decide (0 < (limbs q).length)), .slice b (limbs q).length cb]] w fun e w' => (∃ a' c', e = .returned (.agg #[.bool (decide (z < 0)), .slice a' (limbs z.natAbs).length c']) ∧ In w' a' c' (limbs z.natAbs)) ∧ Below w.heap.size w w' := by
  rw [hz]; exact intAdd_i _ _ _ _ _ _ _ _ _ hx hy hp hq
theorem low_sg {z : Int} {d : Nat} : low (decide (z < 0) && decide (0 < (limbs z.natAbs).length)) z.natAbs d = low (decide (z < 0)) z.natAbs d := low_and _ _ _
theorem sg_neg (z : Int) : decide (z < 0) = (decide (z < 0) && decide (0 < (limbs z.natAbs).length)) := by
  by_cases h : z < 0
  · have : 0 < (limbs z.natAbs).length := limbs_len_pos.2 (by omega)
    simp [h, this]
  · simp [h]
end Go.Proofs.YtogkonenejfgmaaGreatDoor
