/- The law FnStep answers true at every input. -/
import Derived.Test.YtcibccaimjifmaaRows
import Derived.Test.YtcibccaimjifmaaMi
import Derived.Test.YtcibccaimjifmaaZn
import Derived.Test.YtcibccaimjifmaaRto
import Derived.Test.YtcibccaimjifmaaWDivI
import Derived.ProofKit
import Derived.OpenShut
import Derived.ShutString
import Derived.ChangeOld
import Derived.Lib.SmallJoins
import Derived.Deep.RegionWith
import Derived.Deep.RegionHeld3
import Derived.Deep.DeepCutAuto
import Derived.Below
namespace Go.Proofs.Ytcibccaimjifmaa.fnStep
open Go.ChangeShapes Go.WideShapes Go.ChangeAt Go.RowKit
open Go.ChangeMaps (open_string shut_string)
set_option linter.unusedVariables false
/-- a box of the law's own with a number -/
def Bx (W : World) (b : Nat) (a : Option Addr) (c : Nat) (z : Int) : Prop := Box2 W b (.bool (sg z).1) (.slice a (sg z).2.length c)
theorem Bx.below {W W1 : World} {C b : Nat} {a : Option Addr} {c : Nat} {z : Int} (h : Bx W b a c z) (hb : Below C W W1) (hC : W.heap.size ≤ C) : Bx W1 b a c z := Box2.below h hb hC
theorem Bx.new (W : World) (a : Option Addr) (c : Nat) (z : Int) : Bx (W.alloc (.cells #[.bool (sg z).1, .slice a (sg z).2.length c] 26)) W.heap.size a c z := Box2.new W _ _ _ _ rfl
theorem len_sg (z : Int) : (sg z).2.length = (limbs z.natAbs).length := rfl
theorem slot_in {w : World} {lo hi : Nat} {a : Option Addr} {c : Nat} {xs : List Int} (h : Slot w lo hi a c xs) (hl : xs.length ≤ 60) : In w a c xs := by
  refine ⟨h.rd, ?_, by omega⟩
  rcases h.2 with rfl | h
  · exact Nat.zero_le _
  · exact h.1.le
theorem nat_div (a b : Option Addr) (ca cb m n : Nat) (w : World) (hx : In w a ca (limbs m)) (hy : In w b cb (limbs n)) (lm : (limbs m).length ≤ 50) (ln : (limbs n).length ≤ 50) (h0 : 0 < n) :
    Calls Try.prog 18 #[.slice a (limbs m).length ca, .slice b (limbs n).length cb] w fun e w' => (∃ a c a' c', e = .returned (.tuple #[.slice a (limbs (m / n)).length c, .slice a' (limbs (m % n)).length c'])) ∧ Below w.heap.size w w' := by
  have h := impl_NatDiv a b ca cb _ _ w hx hy
  have hd : divB (limbs m) (limbs n) = true := by unfold divB; rw [natB_of lm, natB_of ln, decide_eq_true (limbs_pos_iff.2 h0)]; rfl
  have e1 : fDivQ (limbs m) (limbs n) = limbs (m / n) := by unfold fDivQ; rw [if_pos hd, nv_limbs, nv_limbs]
  have e2 : fDivR (limbs m) (limbs n) = limbs (m % n) := by unfold fDivR; rw [if_pos hd, nv_limbs, nv_limbs]
  rw [e1, e2] at h
  refine h.mono ?_
  rintro e w' ⟨⟨a1, c1, a2, c2, lo, up, lo', up', rfl, -⟩, hb⟩
  exact ⟨⟨a1, c1, a2, c2, rfl⟩, hb⟩
theorem z_cmp0 (a b : Option Addr) (ca cb : Nat) (x : Int) (w : World) (hx : IV w a ca x) (hy : IV w b cb x) :
    Calls Try.prog 22 #[.agg #[.bool (sg x).1, .slice a (sg x).2.length ca], .agg #[.bool (sg x).1, .slice b (sg x).2.length cb]] w fun e w' => e = .returned (.int .i64 0) ∧ Below w.heap.size w w' := by
  have h := z_cmp a b ca cb x x w hx hy
  rw [Int.sub_self] at h
  exact h
theorem z_cmp' (a b : Option Addr) (ca cb : Nat) (x y r : Int) (w : World) (hx : IV w a ca x) (hy : IV w b cb y) (h : sgnZ (x - y) = r) :
    Calls Try.prog 22 #[.agg #[.bool (sg x).1, .slice a (sg x).2.length ca], .agg #[.bool (sg y).1, .slice b (sg y).2.length cb]] w fun e w' => e = .returned (.int .i64 r) ∧ Below w.heap.size w w' := by
  subst h; exact z_cmp a b ca cb x y w hx hy
/-- rounding to a step, said of numbers -/
theorem step_to (a : Option Addr) (ca : Nat) (x : Int) (n : Nat) (m : Int) (w : World) (hx : In w a ca (sg x).2) (lx : (sg x).2.length ≤ 18) (hn : 0 < n ∧ n ≤ 1000000) (hm : 0 ≤ m ∧ m ≤ 6) :
    Calls Try.prog 17 #[.agg #[.bool (sg x).1, .slice a (sg x).2.length ca], .int .i64 n, .int .i64 m] w fun e w' => (∃ (y : Int) (a' : Option Addr) (c' : Nat), (∃ k : Nat, (k = x.natAbs / n ∨ (k = x.natAbs / n + 1 ∧ 0 < x.natAbs % n)) ∧ y = zOf (sg x).1 (k * n)) ∧ e = .returned (.tuple #[.agg #[.bool (sg y).1, .slice a' (sg y).2.length c'], .bool true]) ∧ In w' a' c' (sg y).2) ∧ Below w.heap.size w w' := by
  refine (roundTo (sg x).1 a ca x.natAbs n m w hx lx (intB_z (by omega)) hn hm).mono ?_
  rintro e w' ⟨⟨k, a', c', hk, rfl, hi⟩, hb⟩
  have hs := sg_zOf (sg x).1 (k * n)
  refine ⟨⟨zOf (sg x).1 (k * n), a', c', ⟨k, hk, rfl⟩, ?_, ?_⟩, hb⟩
  · rw [hs]
  · rw [hs]; exact hi
theorem step_law {x y : Int} {n k : Nat} (hn : 0 < n) (hk : k = x.natAbs / n ∨ (k = x.natAbs / n + 1 ∧ 0 < x.natAbs % n)) (hy : y = zOf (sg x).1 (k * n)) : y.natAbs = k * n ∧ (x - y).natAbs < n := by
  have h1 := Nat.div_add_mod x.natAbs n
  have h2 := Nat.mod_lt x.natAbs hn
  obtain ⟨q, hq⟩ : ∃ q, x.natAbs / n = q := ⟨_, rfl⟩
  obtain ⟨r, hr⟩ : ∃ r, x.natAbs % n = r := ⟨_, rfl⟩
  rw [hq, hr] at h1 hk
  rw [hr] at h2
  have hx : x = zOf (sg x).1 x.natAbs := by
    have := sv_sg x
    unfold sv at this
    have e : nv (sg x).2 = x.natAbs := nv_limbs _
    rw [e] at this
    exact this.symm
  have hya : y.natAbs = k * n := by rw [hy, zOf_abs]
  refine ⟨hya, ?_⟩
  have hkn : k * n = n * q ∨ (k * n = n * q + n ∧ 0 < r) := by
    rcases hk with h | ⟨h, h3⟩
    · left; rw [h, Nat.mul_comm]
    · right; rw [h, Nat.add_mul, Nat.one_mul, Nat.mul_comm]; exact ⟨rfl, h3⟩
  generalize k * n = kn at *
  generalize n * q = nq at *
  cases hs : (sg x).1 <;> rw [hs] at hx hy <;> simp [zOf] at hx hy <;> omega
theorem back_law {y z : Int} {n k j : Nat} (hn : 0 < n) (hy : y.natAbs = k * n) (hj : j = y.natAbs / n ∨ (j = y.natAbs / n + 1 ∧ 0 < y.natAbs % n)) (hz : z = zOf (sg y).1 (j * n)) : z = y := by
  rw [hy, Nat.mul_mod_left, Nat.mul_div_cancel _ hn] at hj
  have hjk : j = k := by omega
  have e := sv_sg y
  unfold sv at e
  have e2 : nv (sg y).2 = y.natAbs := nv_limbs _
  rw [e2, hy] at e
  rw [hz, hjk]; exact e
set_option maxRecDepth 100000 in
set_option maxHeartbeats 40000000 in
theorem walk (a0 : Option Addr) (c0 : Nat) (xs0 : List Int) (w : World) (hp0 : RdB w w.heap.size a0 xs0 ∧ Byt xs0 ∧ xs0.length ≤ c0 ∧ xs0.length ≤ maxLen) :
    Calls Try.prog 4 #[.slice a0 xs0.length c0] w fun e w' => e = .returned (.bool true) ∧ Below w.heap.size w w' := by
  obtain ⟨hr, hby, hc, hm⟩ := hp0
  unfold maxLen at hm
  by_cases hl : 1048576 < xs0.length
  · go_enter Try.func4, Try.ntmps4
    go_wp2
    go_ret
    exact ⟨rfl, Below.refl _ _⟩
  have HB := Lib.hid hby
  clear hby
  have hnr := below_rng xs0 500 (hashF xs0 + 777, 0) (by omega)
  rw [show (belowF xs0 500 (hashF xs0 + 777, 0)).1 = numF xs0 500 from rfl] at hnr
  obtain ⟨N, hN⟩ : ∃ N : Nat, numF xs0 500 = N := Int.eq_ofNat_of_zero_le hnr.1
  rw [hN] at hnr
  have hN5 : N < 500 := by omega
  have HN := Lib.hid hN
  clear hN hnr
  go_enter Try.func4, Try.ntmps4
  go_wp2_with fail
  refine (draw_one a0 c0 xs0 _ hr HB.out (by omega) hc).mono ?_
  rintro e w1 ⟨⟨x, ax, cx, rfl, lx, ix⟩, hb0⟩
  have hal := bel_alloc w1 (.cells #[.bool (sg x).1, .slice ax (sg x).2.length cx] 26)
  have kx := Bx.new w1 ax cx x
  replace ix := ix.below hal (Nat.le_refl _)
  replace hb0 := hb0.trans (hal.mono hb0.size)
  go_wp2_with fail
  generalize w1.alloc (.cells #[.bool (sg x).1, .slice ax (sg x).2.length cx] 26) = w2 at kx ix hb0 ⊢
  obtain ⟨bx, hbx⟩ : ∃ b, w1.heap.size = b := ⟨_, rfl⟩
  rw [hbx] at kx ⊢
  clear hal hbx
  have hnum := draw_num a0 c0 xs0 500 _ ((hr.below hb0 (Nat.le_refl _)).mono hb0.size) HB.out (by omega) hc (by omega)
  rw [HN.out] at hnum
  refine hnum.mono ?_
  rintro e w3 ⟨rfl, hb⟩
  replace kx := kx.below hb (Nat.le_refl _)
  replace ix := ix.below hb (Nat.le_refl _)
  replace hb0 := hb0.trans (hb.mono hb0.size)
  clear hb hnum
  go_wp2_with fail
  -- TAIL
  obtain ⟨n, hn⟩ : ∃ n : Nat, 1 + (N : Int) = n := ⟨1 + N, by omega⟩
  rw [hn]
  have hn0 : 0 < n := by omega
  have hn1 : n ≤ 500 := by omega
  clear hn
  refine (draw_mode a0 c0 xs0 _ ((hr.below hb0 (Nat.le_refl _)).mono hb0.size) HB.out (by omega) hc).mono ?_
  rintro e w4 ⟨⟨m, rfl, hm0, hm6⟩, hb⟩
  replace kx := kx.below hb (Nat.le_refl _)
  replace ix := ix.below hb (Nat.le_refl _)
  replace hb0 := hb0.trans (hb.mono hb0.size)
  obtain ⟨⟨hx0, hx1⟩, -, -⟩ := id kx
  clear hb
  go_wp2_with fail
  refine (step_to ax cx x n m _ ix (by omega) ⟨hn0, by omega⟩ ⟨hm0, hm6⟩).mono ?_
  rintro e w5 ⟨⟨y, ay, cy, ⟨k, hk, hy⟩, rfl, iy⟩, hb⟩
  replace kx := kx.below hb (Nat.le_refl _)
  replace ix := ix.below hb (Nat.le_refl _)
  replace hb0 := hb0.trans (hb.mono hb0.size)
  obtain ⟨hya, hxy⟩ := step_law hn0 hk hy
  have ly : (sg y).2.length ≤ 5 := by
    rw [len_sg, hya, limbs_len_le]
    have h1 : x.natAbs < 1000000000 ^ 3 := limbs_len_le.1 lx
    have h2 : k ≤ x.natAbs + 1 := by
      have := Nat.div_le_self x.natAbs n
      omega
    have h3 : k * n ≤ (x.natAbs + 1) * 500 := Nat.mul_le_mul h2 hn1
    omega
  have HY := Lib.hid hy
  have HYA := Lib.hid hya
  clear hb hx0 hx1 hk hy hya
  have hal := bel_alloc w5 (.cells #[.bool (sg y).1, .slice ay (sg y).2.length cy] 26)
  have ky := Bx.new w5 ay cy y
  replace kx := kx.below hal (Nat.le_refl _)
  replace ix := ix.below hal (Nat.le_refl _)
  replace iy := iy.below hal (Nat.le_refl _)
  replace hb0 := hb0.trans (hal.mono hb0.size)
  go_upto_region 7 with fail
  generalize w5.alloc (.cells #[.bool (sg y).1, .slice ay (sg y).2.length cy] 26) = w6 at kx ky ix iy hb0 ⊢
  obtain ⟨by', hby'⟩ : ∃ b, w5.heap.size = b := ⟨_, rfl⟩
  rw [hby'] at ky ⊢
  clear hal hby'
  have lz : (limbs y.natAbs).length ≤ 5 := ly
  have S0 : w6.cell? ⟨by', 0, none⟩ = some (.bool (sg y).1) ∧ w6.cell? ⟨by', 1, none⟩ = some (.slice ay (sg y).2.length cy) := ky.1
  have hq0 : y.natAbs % n = 0 := by rw [HYA.out]; exact Nat.mul_mod_left _ _
  have bx0 := Below.refl w6.heap.size w6
  go_region_held3 (fun w' => w'.cell? ⟨by', 0, none⟩ = some (.bool (sg y).1) ∧ w'.cell? ⟨by', 1, none⟩ = some (.slice ay (sg y).2.length cy))
    (first | exact (ky.below f2 (Nat.le_refl _)).1 | exact (ky.below f1 (Nat.le_refl _)).1 | exact S0)
    (first | (have g := f1; go_at_call 18; have hd := nat_div ay ab cy cb y.natAbs n _ (iy.below f1 (Nat.le_refl _)) (ob.inn (by omega)) (by omega) lb hn0; refine hd.mono ?_; rintro e v2 ⟨⟨aq, cq, ar, cr, rfl⟩, hb2⟩; have f2 := f1.trans (hb2.mono f1.size)) | (go_at_call 19; have hof := impl_NatOf (n : Int) w6.drew ⟨by omega, by omega⟩; rw [Int.toNat_natCast] at hof; refine hof.mono ?_; rintro e v1 ⟨⟨ab, cb, rfl, ob, lb⟩, hb1⟩; have f1 := bx0.drew.trans (hb1.mono bx0.drew.size)))
  have hlen0 : (limbs 0).length = 0 := rfl
  replace kx := kx.below f2 (Nat.le_refl _)
  replace ky := ky.below f2 (Nat.le_refl _)
  replace ix := ix.below f2 (Nat.le_refl _)
  replace iy := iy.below f2 (Nat.le_refl _)
  replace hb0 := hb0.trans (f2.mono hb0.size)
  clear S0 bx0 f1 f2 hb1 hb2 ob lb hq0
  obtain ⟨⟨hy0, hy1⟩, -, -⟩ := id ky
  go_wp2_with fail
  refine (step_to ay cy y n m _ iy (by omega) ⟨hn0, by omega⟩ ⟨hm0, hm6⟩).mono ?_
  rintro e w7 ⟨⟨z, az, cz, ⟨j, hj, hz⟩, rfl, iz⟩, hb⟩
  have hzy := back_law hn0 HYA.out hj hz
  subst hzy
  replace kx := kx.below hb (Nat.le_refl _)
  replace ky := ky.below hb (Nat.le_refl _)
  replace ix := ix.below hb (Nat.le_refl _)
  replace iy := iy.below hb (Nat.le_refl _)
  replace hb0 := hb0.trans (hb.mono hb0.size)
  clear hb hj hz hy0 hy1 j
  have hal := bel_alloc w7 (.cells #[.bool (sg z).1, .slice az (sg z).2.length cz] 26)
  have kz := Bx.new w7 az cz z
  replace kx := kx.below hal (Nat.le_refl _)
  replace ky := ky.below hal (Nat.le_refl _)
  have jx : IV w7 ax cx x := ⟨ix, by omega⟩
  have jy : IV w7 ay cy z := ⟨iy, by omega⟩
  have jz : IV w7 az cz z := ⟨iz, by omega⟩
  replace jx := jx.below hal (Nat.le_refl _)
  replace jy := jy.below hal (Nat.le_refl _)
  replace jz := jz.below hal (Nat.le_refl _)
  replace hb0 := hb0.trans (hal.mono hb0.size)
  clear ix iy iz
  obtain ⟨⟨hx0, hx1⟩, -, -⟩ := id kx
  obtain ⟨⟨hy0, hy1⟩, -, -⟩ := id ky
  go_wp2_with fail
  generalize w7.alloc (.cells #[.bool (sg z).1, .slice az (sg z).2.length cz] 26) = w8 at kx ky kz jx jy jz hb0 hx0 hx1 hy0 hy1 ⊢
  obtain ⟨bz, hbz⟩ : ∃ b, w7.heap.size = b := ⟨_, rfl⟩
  rw [hbz] at kz ⊢
  clear hal hbz
  have hds : (sg (x - z)).2.length ≤ 50 := by
    rw [len_sg]
    have h1 := Nat.le_of_lt hxy
    have h2 : (limbs n).length ≤ 1 := limbs_len_le.2 (by omega)
    exact Nat.le_trans (limbs_len_mono h1) (by omega)
  refine (z_sub _ _ _ _ x z _ jx jy hds).mono ?_
  rintro e w9 ⟨⟨ad, cd, rfl, jd⟩, hb⟩
  replace ky := ky.below hb (Nat.le_refl _)
  replace kz := kz.below hb (Nat.le_refl _)
  replace jy := jy.below hb (Nat.le_refl _)
  replace jz := jz.below hb (Nat.le_refl _)
  replace hb0 := hb0.trans (hb.mono hb0.size)
  clear hb hx0 hx1 hy0 hy1 kx jx
  obtain ⟨d, hd⟩ : ∃ d, x - z = d := ⟨_, rfl⟩
  rw [hd] at jd hds hxy ⊢
  go_wp2_with fail
  refine (z_abs _ _ d _ jd).mono ?_
  rintro e wa ⟨⟨ae, ce, rfl, je⟩, hb⟩
  replace ky := ky.below hb (Nat.le_refl _)
  replace kz := kz.below hb (Nat.le_refl _)
  replace jy := jy.below hb (Nat.le_refl _)
  replace jz := jz.below hb (Nat.le_refl _)
  replace hb0 := hb0.trans (hb.mono hb0.size)
  obtain ⟨g, hg⟩ : ∃ g : Int, (d.natAbs : Int) = g := ⟨_, rfl⟩
  have hgn : g < n := by omega
  have hlt : sgnZ (g - n) = -1 := by unfold sgnZ; rw [if_pos (by omega)]
  rw [hg] at je ⊢
  clear hb jd hd hg hxy
  have hal := bel_alloc wa (.cells #[.bool (sg g).1, .slice ae (sg g).2.length ce] 26)
  have ke := Bx.new wa ae ce g
  replace ky := ky.below hal (Nat.le_refl _)
  replace kz := kz.below hal (Nat.le_refl _)
  replace jy := jy.below hal (Nat.le_refl _)
  replace jz := jz.below hal (Nat.le_refl _)
  replace je := je.below hal (Nat.le_refl _)
  replace hb0 := hb0.trans (hal.mono hb0.size)
  go_upto_region 10 with fail
  generalize wa.alloc (.cells #[.bool (sg g).1, .slice ae (sg g).2.length ce] 26) = wb at ky kz ke jy jz je hb0 ⊢
  obtain ⟨bd, hbd⟩ : ∃ b, wa.heap.size = b := ⟨_, rfl⟩
  rw [hbd] at ke ⊢
  clear hal hbd
  replace hlt := Lib.hid hlt
  have S0 : wb.cell? ⟨bz, 0, none⟩ = some (.bool (sg z).1) ∧ wb.cell? ⟨bz, 1, none⟩ = some (.slice az (sg z).2.length cz) ∧ wb.cell? ⟨by', 0, none⟩ = some (.bool (sg z).1) ∧ wb.cell? ⟨by', 1, none⟩ = some (.slice ay (sg z).2.length cy) ∧ wb.cell? ⟨bd, 0, none⟩ = some (.bool (sg g).1) ∧ wb.cell? ⟨bd, 1, none⟩ = some (.slice ae (sg g).2.length ce) := ⟨kz.1.1, kz.1.2, ky.1.1, ky.1.2, ke.1.1, ke.1.2⟩
  have bx0 := Below.refl wb.heap.size wb
  go_region_held3 (fun w' => w'.cell? ⟨bz, 0, none⟩ = some (.bool (sg z).1) ∧ w'.cell? ⟨bz, 1, none⟩ = some (.slice az (sg z).2.length cz) ∧ w'.cell? ⟨by', 0, none⟩ = some (.bool (sg z).1) ∧ w'.cell? ⟨by', 1, none⟩ = some (.slice ay (sg z).2.length cy) ∧ w'.cell? ⟨bd, 0, none⟩ = some (.bool (sg g).1) ∧ w'.cell? ⟨bd, 1, none⟩ = some (.slice ae (sg g).2.length ce))
    (first | exact ⟨(kz.below f3 (Nat.le_refl _)).1.1, (kz.below f3 (Nat.le_refl _)).1.2, (ky.below f3 (Nat.le_refl _)).1.1, (ky.below f3 (Nat.le_refl _)).1.2, (ke.below f3 (Nat.le_refl _)).1.1, (ke.below f3 (Nat.le_refl _)).1.2⟩ | exact ⟨(kz.below f2 (Nat.le_refl _)).1.1, (kz.below f2 (Nat.le_refl _)).1.2, (ky.below f2 (Nat.le_refl _)).1.1, (ky.below f2 (Nat.le_refl _)).1.2, (ke.below f2 (Nat.le_refl _)).1.1, (ke.below f2 (Nat.le_refl _)).1.2⟩ | exact ⟨(kz.below f1 (Nat.le_refl _)).1.1, (kz.below f1 (Nat.le_refl _)).1.2, (ky.below f1 (Nat.le_refl _)).1.1, (ky.below f1 (Nat.le_refl _)).1.2, (ke.below f1 (Nat.le_refl _)).1.1, (ke.below f1 (Nat.le_refl _)).1.2⟩ | exact S0)
    (first | (have g3 := f2; go_at_call 22; refine (z_cmp' _ _ _ _ g n _ _ (je.below f2 (Nat.le_refl _)) jn hlt.out).mono ?_; rintro e v3 ⟨rfl, hb3⟩; have f3 := f2.trans (hb3.mono f2.size)) | (have g2 := f1; go_at_call 23; refine (z_of n _ ⟨by omega, by omega⟩).mono ?_; rintro e v2 ⟨⟨an, cn, rfl, jn⟩, hb2⟩; have f2 := f1.trans (hb2.mono f1.size)) | (go_at_call 22; refine (z_cmp0 _ _ _ _ z _ (jz.below bx0.drew (Nat.le_refl _)) (jy.below bx0.drew (Nat.le_refl _))).mono ?_; rintro e v1 ⟨rfl, hb1⟩; have f1 := bx0.drew.trans (hb1.mono bx0.drew.size)))
  all_goals (go_wp2; go_ret; exact ⟨rfl, hb0.trans (f3.mono hb0.size)⟩)

theorem own : ownKnob Try.prog.godebug = none := by kernel_rfl
theorem laidOut : laidOutB Try.prog = true := by kernel_rfl
set_option maxRecDepth 100000 in
theorem lifted (os : Os) (started : os.Started) (H : Type) (enc : TypeId × Value → H) :
    ReturnsInHanded {} Try.checked os 4 .any (Rows.fnStepSpec.pre6 enc Try.prog Try.f4 Rows.fnStepRow.domain false) (Rows.fnStepSpec.post enc Try.prog Try.f4 false true false false) := by
  refine returnsInHanded_of_change (C := Try.checked) own started (by kernel_rfl) Try.func4
    (ChangeSpec.witness6 (enc := enc) (C := Try.checked) false ⟨#[], #[.slice none 0 0], []⟩ 8 (by kernel_rfl) (by kernel_rfl) (by kernel_rfl) (by kernel_rfl)) ?_
  intro W base args ds gs before hval0 hW hcnd _
  have hval : ∀ (j : Nat) t v, Try.f4.params[j]? = some t → args[j]? = some v → Value.okWide Try.prog W .any base t v := hval0
  have hW' := hW
  obtain ⟨p, q, hA0, hV, rfl, hfz, hnd⟩ := hW
  have hA : DataW.TrodAll enc Try.prog W 0 (fun _ => true) true Try.f4.params.toList args.toList ds p := hA0
  rw [Try.params4] at hA hval
  obtain ⟨v0, vs0, d0, ds0, p0, q0, hargs, rfl, rfl, h0, r0⟩ := trodAll_cons hA
  obtain ⟨rfl, rfl, rfl⟩ := trodAll_nil r0
  obtain rfl : args = #[v0] := by cases args; simp_all
  obtain ⟨rfl, rfl⟩ := trodVars_none hV
  have k0 := h0
  have lt0 : ∀ x ∈ p0, x.block < W.heap.size := by obtain ⟨m, hm⟩ := k0; exact DataW.trod_lt m _ _ _ hm
  obtain ⟨a0, len0, cap0, rfl⟩ := okWide_slice Try.underlying35 (hval 0 35 v0 rfl rfl)
  obtain ⟨xs0, rfl, w0⟩ : ∃ xs : List Int, xs.length = len0 ∧ (RdB W W.heap.size a0 xs ∧ Byt xs ∧ xs.length ≤ cap0 ∧ xs.length ≤ maxLen) := by
    obtain ⟨fuel, hf⟩ := h0
    rcases open_ints Try.underlying35 Try.underlying5 (by kernel_rfl) hf with ⟨hcs, _⟩ | ⟨x, l, c, zs, hcs, _, hl, hm, hz, _, hcell, hwz⟩
    · simp [Value.cells] at hcs
      obtain ⟨rfl, rfl, rfl⟩ := hcs
      exact ⟨[], rfl, .inl rfl, fun i => by simp, Nat.zero_le _, Nat.zero_le _⟩
    · simp [Value.cells] at hcs
      obtain ⟨rfl, rfl, rfl⟩ := hcs
      have hz' : zs.length = cap0 := by simpa using hz
      have hlt : (zs.take len0).length = len0 := by rw [List.length_take]; omega
      exact ⟨zs.take len0, hlt, rdB_of_cells hcell _, byt_of_wf (fun n hn => hwz n (List.mem_of_mem_take hn)), by omega, by omega⟩
  clear hA0 hval0
  refine (walk a0 cap0 xs0 W w0).mono fun e W' ⟨he, bel⟩ => ?_
  subst he
  exact ⟨_, rfl, _, _, _, [], _, [], hW', trodAll_mk1 (shut_bool Try.underlying4 _), (trodAll_cons_mk (Below.trod laidOut (by kernel_rfl) (of_decide_eq_true (by kernel_rfl)) k0 bel lt0) trodAll_mk0), rfl, bel.frame _, fun h => by cases h⟩

theorem over : Rows.fnStepRow.holds Try.pinned (OpenSpec.ofChange Rows.fnStepSpec) :=
  OpenClaim.holds_of_wide 4 Try.f4 rfl rfl rfl rfl rfl rfl rfl ⟨rfl, rfl, rfl, rfl, rfl⟩ rfl rfl rfl rfl rfl (by kernel_rfl) Try.func4 (by kernel_rfl)
    (of_decide_eq_true (by kernel_rfl)) (by unfold Func.isWrapper; first | (rw [if_pos (by decide +kernel)]; kernel_rfl) | (rw [if_neg (by decide +kernel)]; exact ⟨rfl, rfl⟩))
    (fun os started H enc _ => lifted os started H enc)

theorem proved : Rows.FnStepSaid := over
#print axioms proved
end Go.Proofs.Ytcibccaimjifmaa.fnStep
