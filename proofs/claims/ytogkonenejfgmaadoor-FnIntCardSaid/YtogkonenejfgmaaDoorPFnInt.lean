/- The law FnInt answers true at every input. -/
import Derived.Test.YtogkonenejfgmaaDoorRows
import Derived.Test.YtogkonenejfgmaaDoorMj
import Derived.Test.YtogkonenejfgmaaDoorZn
import Derived.Test.YtogkonenejfgmaaDoorSum
import Derived.ProofKit
import Derived.OpenShut
import Derived.ShutString
import Derived.ChangeOld
import Derived.Lib.SmallJoins
import Derived.Deep.RegionWith
import Derived.Deep.RegionHeld3
import Derived.Deep.DeepCutAuto
import Derived.Test.YtogkonenejfgmaaDoorTie
import Derived.Test.YtogkonenejfgmaaDoorCards
import Derived.LaidMore
import Derived.MakeChecks
import Derived.Stop.LaidErr
import Derived.Stop.Joined
import Derived.SevenTiedAt
import Derived.Below
namespace Go.Proofs.YtogkonenejfgmaaDoor.fnInt
open Go.ChangeShapes Go.WideShapes Go.ChangeAt Go.RowKit
open Go.ChangeMaps (open_string shut_string)
open Go.Lib (itoa decDigits)
set_option linter.unusedVariables false
/-- a box of the law's own with a number -/
def Bx (W : World) (b : Nat) (a : Option Addr) (c : Nat) (z : Int) : Prop := Box2 W b (.bool (sg z).1) (.slice a (sg z).2.length c)
theorem Bx.below {W W1 : World} {C b : Nat} {a : Option Addr} {c : Nat} {z : Int} (h : Bx W b a c z) (hb : Below C W W1) (hC : W.heap.size ≤ C) : Bx W1 b a c z := Box2.below h hb hC
theorem Bx.new (W : World) (a : Option Addr) (c : Nat) (z : Int) : Bx (W.alloc (.cells #[.bool (sg z).1, .slice a (sg z).2.length c] 49)) W.heap.size a c z := Box2.new W _ _ _ _ rfl
theorem len_sg (z : Int) : (sg z).2.length = (limbs z.natAbs).length := rfl
theorem sg_add {x y : Int} {k : Nat} (hx : (sg x).2.length ≤ k) (hy : (sg y).2.length ≤ k) : (sg (x + y)).2.length ≤ k + 1 := by
  rw [len_sg, limbs_len_le] at *
  rw [Nat.pow_succ]
  omega
theorem sg_mul {x y : Int} {j k : Nat} (hx : (sg x).2.length ≤ j) (hy : (sg y).2.length ≤ k) : (sg (x * y)).2.length ≤ j + k := by
  rw [len_sg, limbs_len_le] at *
  rw [Nat.pow_add, Int.natAbs_mul]
  exact Nat.mul_lt_mul'' hx hy
/-- what stands while the law reckons -/
structure FI (bx : Nat) (ax : Option Addr) (cx : Nat) (x : Int) (byy : Nat) (ay : Option Addr) (cy : Nat) (y : Int) (bs : Nat) (az : Option Addr) (cs : Nat) (bo : Nat) (ao : Option Addr) (co : Nat) (w W : World) : Prop where
  bx : Bx W bx ax cx x
  bby : Bx W byy ay cy y
  bs : Bx W bs az cs x
  bo : Bx W bo ao co 1
  ix : IV W ax cx x
  iy : IV W ay cy y
  is : IV W az cs x
  io : IV W ao co 1
  bel : Below w.heap.size w W
theorem FI.below {bx : Nat} {ax : Option Addr} {cx : Nat} {x : Int} {byy : Nat} {ay : Option Addr} {cy : Nat} {y : Int} {bs : Nat} {az : Option Addr} {cs bo : Nat} {ao : Option Addr} {co : Nat} {w W W1 : World}
    (h : FI bx ax cx x byy ay cy y bs az cs bo ao co w W) (hb : Below W.heap.size W W1) : FI bx ax cx x byy ay cy y bs az cs bo ao co w W1 :=
  ⟨h.bx.below hb (Nat.le_refl _), h.bby.below hb (Nat.le_refl _), h.bs.below hb (Nat.le_refl _), h.bo.below hb (Nat.le_refl _), h.ix.below hb (Nat.le_refl _), h.iy.below hb (Nat.le_refl _), h.is.below hb (Nat.le_refl _), h.io.below hb (Nat.le_refl _), h.bel.trans (hb.mono h.bel.size)⟩
theorem FI.drew {bx : Nat} {ax : Option Addr} {cx : Nat} {x : Int} {byy : Nat} {ay : Option Addr} {cy : Nat} {y : Int} {bs : Nat} {az : Option Addr} {cs bo : Nat} {ao : Option Addr} {co : Nat} {w W : World}
    (h : FI bx ax cx x byy ay cy y bs az cs bo ao co w W) : FI bx ax cx x byy ay cy y bs az cs bo ao co w W.drew :=
  ⟨h.bx, h.bby, h.bs, h.bo, h.ix, h.iy, h.is, h.io, h.bel.drew⟩
theorem FI.cells {bx : Nat} {ax : Option Addr} {cx : Nat} {x : Int} {byy : Nat} {ay : Option Addr} {cy : Nat} {y : Int} {bs : Nat} {az : Option Addr} {cs bo : Nat} {ao : Option Addr} {co : Nat} {w W : World}
    (h : FI bx ax cx x byy ay cy y bs az cs bo ao co w W) :
    W.cell? ⟨bx, 0, none⟩ = some (.bool (sg x).1) ∧ W.cell? ⟨bx, 1, none⟩ = some (.slice ax (sg x).2.length cx) ∧ W.cell? ⟨byy, 0, none⟩ = some (.bool (sg y).1) ∧ W.cell? ⟨byy, 1, none⟩ = some (.slice ay (sg y).2.length cy) ∧
    W.cell? ⟨bs, 0, none⟩ = some (.bool (sg x).1) ∧ W.cell? ⟨bs, 1, none⟩ = some (.slice az (sg x).2.length cs) ∧ W.cell? ⟨bo, 0, none⟩ = some (.bool (sg 1).1) ∧ W.cell? ⟨bo, 1, none⟩ = some (.slice ao (sg 1).2.length co) :=
  ⟨h.bx.1.1, h.bx.1.2, h.bby.1.1, h.bby.1.2, h.bs.1.1, h.bs.1.2, h.bo.1.1, h.bo.1.2⟩
theorem z_cmp0 (a b : Option Addr) (ca cb : Nat) (x : Int) (w : World) (hx : IV w a ca x) (hy : IV w b cb x) :
    Calls Tryd.prog 35 #[.agg #[.bool (sg x).1, .slice a (sg x).2.length ca], .agg #[.bool (sg x).1, .slice b (sg x).2.length cb]] w fun e w' => e = .returned (.int .i64 0) ∧ Below w.heap.size w w' := by
  have h := z_cmp a b ca cb x x w hx hy
  rw [Int.sub_self] at h
  exact h
theorem z_add' (a b : Option Addr) (ca cb : Nat) (x y r : Int) (w : World) (hx : IV w a ca x) (hy : IV w b cb y) (h : x + y = r) (hl : (sg r).2.length ≤ 50) :
    Calls Tryd.prog 37 #[.agg #[.bool (sg x).1, .slice a (sg x).2.length ca], .agg #[.bool (sg y).1, .slice b (sg y).2.length cb]] w fun e w' => (∃ a' c', e = .returned (.agg #[.bool (sg r).1, .slice a' (sg r).2.length c']) ∧ IV w' a' c' r) ∧ Below w.heap.size w w' := by
  subst h; exact z_add a b ca cb x y w hx hy hl
theorem z_sub' (a b : Option Addr) (ca cb : Nat) (x y r : Int) (w : World) (hx : IV w a ca x) (hy : IV w b cb y) (h : x - y = r) (hl : (sg r).2.length ≤ 50) :
    Calls Tryd.prog 36 #[.agg #[.bool (sg x).1, .slice a (sg x).2.length ca], .agg #[.bool (sg y).1, .slice b (sg y).2.length cb]] w fun e w' => (∃ a' c', e = .returned (.agg #[.bool (sg r).1, .slice a' (sg r).2.length c']) ∧ IV w' a' c' r) ∧ Below w.heap.size w w' := by
  subst h; exact z_sub a b ca cb x y w hx hy hl
theorem z_mul' (a b : Option Addr) (ca cb : Nat) (x y r : Int) (w : World) (hx : IV w a ca x) (hy : IV w b cb y) (h : x * y = r) (hl : (sg r).2.length ≤ 50) :
    Calls Tryd.prog 38 #[.agg #[.bool (sg x).1, .slice a (sg x).2.length ca], .agg #[.bool (sg y).1, .slice b (sg y).2.length cb]] w fun e w' => (∃ a' c', e = .returned (.agg #[.bool (sg r).1, .slice a' (sg r).2.length c']) ∧ IV w' a' c' r) ∧ Below w.heap.size w w' := by
  subst h; exact z_mul a b ca cb x y w hx hy hl
theorem z_cmp' (a b : Option Addr) (ca cb : Nat) (x y r : Int) (w : World) (hx : IV w a ca x) (hy : IV w b cb y) (h : sgnZ (x - y) = r) :
    Calls Tryd.prog 35 #[.agg #[.bool (sg x).1, .slice a (sg x).2.length ca], .agg #[.bool (sg y).1, .slice b (sg y).2.length cb]] w fun e w' => e = .returned (.int .i64 r) ∧ Below w.heap.size w w' := by
  subst h; exact z_cmp a b ca cb x y w hx hy
theorem z_sign' (a : Option Addr) (ca : Nat) (x r : Int) (w : World) (hx : IV w a ca x) (h : sgnZ x = r) :
    Calls Tryd.prog 40 #[.agg #[.bool (sg x).1, .slice a (sg x).2.length ca]] w fun e w' => e = .returned (.int .i64 r) ∧ Below w.heap.size w w' := by
  subst h; exact z_sign a ca x w hx
theorem z_neg' (a : Option Addr) (ca : Nat) (x r : Int) (w : World) (hx : IV w a ca x) (h : -x = r) :
    Calls Tryd.prog 41 #[.agg #[.bool (sg x).1, .slice a (sg x).2.length ca]] w fun e w' => (∃ a' c', e = .returned (.agg #[.bool (sg r).1, .slice a' (sg r).2.length c']) ∧ IV w' a' c' r) ∧ Below w.heap.size w w' := by
  subst h; exact z_neg a ca x w hx
theorem z_abs' (a : Option Addr) (ca : Nat) (x r : Int) (w : World) (hx : IV w a ca x) (h : (x.natAbs : Int) = r) :
    Calls Tryd.prog 42 #[.agg #[.bool (sg x).1, .slice a (sg x).2.length ca]] w fun e w' => (∃ a' c', e = .returned (.agg #[.bool (sg r).1, .slice a' (sg r).2.length c']) ∧ IV w' a' c' r) ∧ Below w.heap.size w w' := by
  subst h; exact z_abs a ca x w hx
theorem fIAdd_z {x y : Int} (hx : (sg x).2.length ≤ 50) (hy : (sg y).2.length ≤ 50) (h : (sg (x + y)).2.length ≤ 50) : fIAdd (sg x).1 (sg x).2 (sg y).1 (sg y).2 = sg (x + y) := by
  unfold fIAdd
  rw [intB_z hx, intB_z hy, sv_sg, sv_sg, capZ_n h]; rfl
theorem z_sum3 (ax : Option Addr) (cx : Nat) (ay : Option Addr) (cy : Nat) (ao : Option Addr) (co : Nat) (x y r : Int) (W : World) (hx : IV W ax cx x) (hy : IV W ay cy y) (ho : IV W ao co 1) (hr : x + y + 1 = r) (hl : (sg (x + y)).2.length ≤ 50) (hl2 : (sg r).2.length ≤ 50) :
    Calls Tryd.prog 43 #[.slice (some ⟨W.heap.size, 0, none⟩) 3 3] (W.alloc (.cells #[.bool (sg x).1, .slice ax (sg x).2.length cx, .bool (sg y).1, .slice ay (sg y).2.length cy, .bool (sg 1).1, .slice ao (sg 1).2.length co] 49)) fun e w' => (∃ a' c', e = .returned (.agg #[.bool (sg r).1, .slice a' (sg r).2.length c']) ∧ IV w' a' c' r) ∧ Below W.heap.size W w' := by
  subst hr
  have hal := bel_alloc W (.cells #[.bool (sg x).1, .slice ax (sg x).2.length cx, .bool (sg y).1, .slice ay (sg y).2.length cy, .bool (sg 1).1, .slice ao (sg 1).2.length co] 49)
  have hg : RdG (W.alloc (.cells #[.bool (sg x).1, .slice ax (sg x).2.length cx, .bool (sg y).1, .slice ay (sg y).2.length cy, .bool (sg 1).1, .slice ao (sg 1).2.length co] 49)) (some ⟨W.heap.size, 0, none⟩) [⟨(sg x).1, ax, cx, (sg x).2⟩, ⟨(sg y).1, ay, cy, (sg y).2⟩, ⟨(sg 1).1, ao, co, (sg 1).2⟩] := by
    refine ⟨.inr ⟨W.heap.size, 0, rfl, by simp, ?_⟩, ?_⟩
    · intro i hi
      match i, hi with
      | 0, _ => exact ⟨cell_box W _ _ _ 0 _ rfl rfl, cell_box W _ _ _ 1 _ rfl rfl⟩
      | 1, _ => exact ⟨cell_box W _ _ _ 2 _ rfl rfl, cell_box W _ _ _ 3 _ rfl rfl⟩
      | 2, _ => exact ⟨cell_box W _ _ _ 4 _ rfl rfl, cell_box W _ _ _ 5 _ rfl rfl⟩
    · intro i hi
      match i, hi with
      | 0, _ => exact hx.1.below hal (Nat.le_refl _)
      | 1, _ => exact hy.1.below hal (Nat.le_refl _)
      | 2, _ => exact ho.1.below hal (Nat.le_refl _)
  have h := impl_IntSum (some ⟨W.heap.size, 0, none⟩) 3 _ _ hg (show 3 ≤ 1048576 by decide) (show 3 ≤ 3 by decide)
  have e : fSum (false, []) [⟨(sg x).1, ax, cx, (sg x).2⟩, ⟨(sg y).1, ay, cy, (sg y).2⟩, ⟨(sg 1).1, ao, co, (sg 1).2⟩] = sg (x + y + 1) := by
    have e0 : ((false, []) : Bool × List Int) = sg 0 := rfl
    unfold fSum; dsimp only
    rw [if_pos (intB_z hx.2)]
    unfold fSum; dsimp only
    rw [if_pos (intB_z hy.2)]
    unfold fSum; dsimp only
    rw [if_pos (intB_z ho.2)]
    unfold fSum
    rw [show fIAdd false [] (sg x).1 (sg x).2 = sg (0 + x) from fIAdd_z (x := 0) (by decide) hx.2 (by rw [Int.zero_add]; exact hx.2), Int.zero_add, fIAdd_z hx.2 hy.2 hl, fIAdd_z hl ho.2 hl2]
  rw [e] at h
  refine h.mono ?_
  rintro e w' ⟨⟨a', c', rfl, ho, hn⟩, hb⟩
  exact ⟨⟨a', c', rfl, ho, hn⟩, hal.trans (hb.mono hal.size)⟩
set_option maxRecDepth 1000000 in
set_option maxHeartbeats 40000000 in
theorem walk (a0 : Option Addr) (c0 : Nat) (xs0 : List Int) (w : World) (ht : Tab w) (hp0 : RdB w w.heap.size a0 xs0 ∧ Byt xs0 ∧ xs0.length ≤ c0 ∧ xs0.length ≤ maxLen) :
    Calls Tryd.prog 5 #[.slice a0 xs0.length c0] w fun e w' => e = .returned (.bool true) ∧ Below w.heap.size w w' := by
  obtain ⟨hr, hby, hc, hm⟩ := hp0
  unfold maxLen at hm
  by_cases hl : 1048576 < xs0.length
  · go_enter Tryd.func5, Tryd.ntmps5
    go_wp2
    go_ret
    exact ⟨rfl, Below.refl _ _⟩
  have hb0 := Below.refl w.heap.size w
  have HB := Lib.hid hby
  clear hby
  go_enter Tryd.func5, Tryd.ntmps5
  go_wp2_with fail
  refine (draw_ints a0 c0 xs0 _ hr HB.out (by omega) hc).mono ?_
  rintro e w1 ⟨⟨x, y, ax, cx, ay, cy, rfl, lx, ly, ix, iy⟩, hb⟩
  replace hb0 := hb0.trans (hb.mono hb0.size)
  clear hb
  have hal1 := bel_alloc w1 (.cells #[.bool (sg x).1, .slice ax (sg x).2.length cx] 49)
  have hal2 := bel_alloc (w1.alloc (.cells #[.bool (sg x).1, .slice ax (sg x).2.length cx] 49)) (.cells #[.bool (sg y).1, .slice ay (sg y).2.length cy] 49)
  have kx := (Bx.new w1 ax cx x).below hal2 (Nat.le_refl _)
  have ky := Bx.new (w1.alloc (.cells #[.bool (sg x).1, .slice ax (sg x).2.length cx] 49)) ay cy y
  have jx : IV w1 ax cx x := ⟨ix, by omega⟩
  have jy : IV w1 ay cy y := ⟨iy, by omega⟩
  replace jx := (jx.below hal1 (Nat.le_refl _)).below hal2 (Nat.le_refl _)
  replace jy := (jy.below hal1 (Nat.le_refl _)).below hal2 (Nat.le_refl _)
  replace hb0 := (hb0.trans (hal1.mono hb0.size)).trans (hal2.mono (by simpa using Nat.le_succ_of_le hb0.size))
  rw [World.size_alloc] at ky
  go_wp2_with fail
  generalize (w1.alloc (.cells #[.bool (sg x).1, .slice ax (sg x).2.length cx] 49)).alloc (.cells #[.bool (sg y).1, .slice ay (sg y).2.length cy] 49) = w2 at kx ky jx jy hb0 ⊢
  obtain ⟨bx, hbx⟩ : ∃ b, w1.heap.size = b := ⟨_, rfl⟩
  rw [hbx] at kx ky ⊢
  clear hal1 hal2 ix iy hbx
  obtain ⟨bby, hby⟩ : ∃ b, bx + 1 = b := ⟨_, rfl⟩
  rw [hby] at ky ⊢
  clear hby
  have hdig : (decDigits x.natAbs).length ≤ 450 := by
    have hd : (decDigits x.natAbs).length ≤ 9 * 4 := dec_len_limbs (by omega) lx
    omega
  refine (z_str _ _ x _ jx (ht.below hb0)).mono ?_
  rintro e w3 ⟨rfl, hb⟩
  replace kx := kx.below hb (Nat.le_refl _)
  replace ky := ky.below hb (Nat.le_refl _)
  replace jx := jx.below hb (Nat.le_refl _)
  replace jy := jy.below hb (Nat.le_refl _)
  replace hb0 := hb0.trans (hb.mono hb0.size)
  clear hb
  go_wp2_with fail
  refine (z_read x _ hdig).mono ?_
  rintro e w4 ⟨⟨az, cs, rfl, is⟩, hb⟩
  replace kx := kx.below hb (Nat.le_refl _)
  replace ky := ky.below hb (Nat.le_refl _)
  replace jx := jx.below hb (Nat.le_refl _)
  replace jy := jy.below hb (Nat.le_refl _)
  replace hb0 := hb0.trans (hb.mono hb0.size)
  clear hb
  have js : IV w4 az cs x := ⟨is, by omega⟩
  clear is
  have ks := Bx.new w4 az cs x
  have hal := bel_alloc w4 (.cells #[.bool (sg x).1, .slice az (sg x).2.length cs] 49)
  replace kx := kx.below hal (Nat.le_refl _)
  replace ky := ky.below hal (Nat.le_refl _)
  replace jx := jx.below hal (Nat.le_refl _)
  replace jy := jy.below hal (Nat.le_refl _)
  replace js := js.below hal (Nat.le_refl _)
  replace hb0 := hb0.trans (hal.mono hb0.size)
  clear hal
  go_wp2_with fail
  generalize w4.alloc (.cells #[.bool (sg x).1, .slice az (sg x).2.length cs] 49) = w5 at kx ky ks jx jy js hb0 ⊢
  obtain ⟨bs, hbs⟩ : ∃ b, w4.heap.size = b := ⟨_, rfl⟩
  rw [hbs] at ks ⊢
  clear hbs
  refine (z_of 1 _ ⟨by omega, by omega⟩).mono ?_
  rintro e w6 ⟨⟨ao, co, rfl, jo⟩, hb⟩
  replace kx := kx.below hb (Nat.le_refl _)
  replace ky := ky.below hb (Nat.le_refl _)
  replace ks := ks.below hb (Nat.le_refl _)
  replace jx := jx.below hb (Nat.le_refl _)
  replace jy := jy.below hb (Nat.le_refl _)
  replace js := js.below hb (Nat.le_refl _)
  replace hb0 := hb0.trans (hb.mono hb0.size)
  clear hb
  have ko := Bx.new w6 ao co 1
  have hal := bel_alloc w6 (.cells #[.bool (sg 1).1, .slice ao (sg 1).2.length co] 49)
  have f0 : FI bx ax cx x bby ay cy y bs az cs w6.heap.size ao co w (w6.alloc (.cells #[.bool (sg 1).1, .slice ao (sg 1).2.length co] 49)) :=
    ⟨kx.below hal (Nat.le_refl _), ky.below hal (Nat.le_refl _), ks.below hal (Nat.le_refl _), ko, jx.below hal (Nat.le_refl _), jy.below hal (Nat.le_refl _), js.below hal (Nat.le_refl _), jo.below hal (Nat.le_refl _), hb0.trans (hal.mono hb0.size)⟩
  clear hal kx ky ks ko jx jy js jo hb0
  go_upto_region 6 with fail
  generalize w6.alloc (.cells #[.bool (sg 1).1, .slice ao (sg 1).2.length co] 49) = w7 at f0 ⊢
  obtain ⟨bo, hbo⟩ : ∃ b, w6.heap.size = b := ⟨_, rfl⟩
  rw [hbo] at f0 ⊢
  clear hbo
  -- REGIONS
  obtain ⟨p, hp⟩ : ∃ p, x + y = p := ⟨_, rfl⟩
  obtain ⟨y1, hy1⟩ : ∃ p, y + 1 = p := ⟨_, rfl⟩
  obtain ⟨m, hm1⟩ : ∃ p, x * y1 = p := ⟨_, rfl⟩
  obtain ⟨q, hq⟩ : ∃ p, x * y = p := ⟨_, rfl⟩
  have hpy : p - y = x := by omega
  have hqm : q + x = m := by rw [← hq, ← hm1, ← hy1, Int.mul_add, Int.mul_one]
  have lp : (sg p).2.length ≤ 50 := by rw [← hp]; have := sg_add lx ly; omega
  have ly1 : (sg y1).2.length ≤ 5 := by rw [← hy1]; exact sg_add ly (show (sg 1).2.length ≤ 4 by decide)
  have lm : (sg m).2.length ≤ 50 := by rw [← hm1]; have := sg_mul lx ly1; omega
  have lq : (sg q).2.length ≤ 50 := by rw [← hq]; have := sg_mul lx ly; omega
  replace ly1 : (sg y1).2.length ≤ 50 := by omega
  replace hp := Lib.hid hp
  replace hy1 := Lib.hid hy1
  replace hm1 := Lib.hid hm1
  replace hq := Lib.hid hq
  replace hpy := Lib.hid hpy
  replace hqm := Lib.hid hqm
  have S0 := f0.cells
  go_region_held3 (fun w' => w'.cell? ⟨bx, 0, none⟩ = some (.bool (sg x).1) ∧ w'.cell? ⟨bx, 1, none⟩ = some (.slice ax (sg x).2.length cx) ∧ w'.cell? ⟨bby, 0, none⟩ = some (.bool (sg y).1) ∧ w'.cell? ⟨bby, 1, none⟩ = some (.slice ay (sg y).2.length cy) ∧ w'.cell? ⟨bs, 0, none⟩ = some (.bool (sg x).1) ∧ w'.cell? ⟨bs, 1, none⟩ = some (.slice az (sg x).2.length cs) ∧ w'.cell? ⟨bo, 0, none⟩ = some (.bool (sg 1).1) ∧ w'.cell? ⟨bo, 1, none⟩ = some (.slice ao (sg 1).2.length co))
    (first | exact f9.cells | exact f8.cells | exact f7.cells | exact f6.cells | exact f5.cells | exact f4.cells | exact f3.cells | exact f2.cells | exact f1.cells | exact S0)
    (first | (have g9 := f8; go_at_call 35; refine (z_cmp0 _ _ _ _ m _ i6b i8).mono ?_; rintro e v9 ⟨rfl, hb9⟩; have f9 := (f8).below hb9) | (have g8 := f7; go_at_call 37; refine (z_add' _ _ _ _ q x m _ i7 (f7).ix hqm.out lm).mono ?_; rintro e v8 ⟨⟨a8, c8, rfl, i8⟩, hb8⟩; have f8 := (f7).below hb8; have i6b := i6a.below hb8 (Nat.le_refl _)) | (have g7 := f6; go_at_call 38; refine (z_mul' _ _ _ _ x y q _ (f6).ix (f6).iy hq.out lq).mono ?_; rintro e v7 ⟨⟨a7, c7, rfl, i7⟩, hb7⟩; have f7 := (f6).below hb7; have i6a := i6.below hb7 (Nat.le_refl _)) | (have g6 := f5; go_at_call 38; refine (z_mul' _ _ _ _ x y1 m _ (f5).ix i5 hm1.out lm).mono ?_; rintro e v6 ⟨⟨a6, c6, rfl, i6⟩, hb6⟩; have f6 := (f5).below hb6) | (have g5 := f4; go_at_call 37; refine (z_add' _ _ _ _ y 1 y1 _ (f4).iy (f4).io hy1.out ly1).mono ?_; rintro e v5 ⟨⟨a5, c5, rfl, i5⟩, hb5⟩; have f5 := (f4).below hb5) | (have g4 := f3; go_at_call 35; refine (z_cmp0 _ _ _ _ x _ i3 (f3).ix).mono ?_; rintro e v4 ⟨rfl, hb4⟩; have f4 := (f3).below hb4) | (have g3 := f2; go_at_call 36; refine (z_sub' _ _ _ _ p y x _ i2 (f2).iy hpy.out (by omega)).mono ?_; rintro e v3 ⟨⟨a3, c3, rfl, i3⟩, hb3⟩; have f3 := (f2).below hb3) | (have g2 := f1; go_at_call 37; refine (z_add' _ _ _ _ x y p _ (f1).ix (f1).iy hp.out lp).mono ?_; rintro e v2 ⟨⟨a2, c2, rfl, i2⟩, hb2⟩; have f2 := (f1).below hb2) | (go_at_call 35; refine (z_cmp0 _ _ _ _ x _ (f0.drew).is (f0.drew).ix).mono ?_; rintro e v1 ⟨rfl, hb1⟩; have f1 := (f0.drew).below hb1))
  clear S0 f0 f1 f2 f3 f4 f5 f6 f7 f8 hb1 hb2 hb3 hb4 hb5 hb6 hb7 hb8 hb9 i2 i3 i5 i6 i6a i6b i7 i8 hpy hqm hy1 hm1 hq lq lm ly1
  have hnr := below_rng xs0 100000 (hashF xs0 + 777, 0) (by omega)
  rw [show (belowF xs0 100000 (hashF xs0 + 777, 0)).1 = numF xs0 100000 from rfl] at hnr
  obtain ⟨N, hN⟩ : ∃ N, numF xs0 100000 = N := ⟨_, rfl⟩
  rw [hN] at hnr
  have HN := Lib.hid hN
  obtain ⟨u, hu⟩ : ∃ n, N = n + 50000 := ⟨N - 50000, by omega⟩
  subst hu
  obtain ⟨hu0, hu1⟩ : -50000 ≤ u ∧ u < 50000 := by omega
  clear hN hnr
  go_wp2_with fail
  have hnum := draw_num a0 c0 xs0 100000 _ ((hr.below f9.bel (Nat.le_refl _)).mono f9.bel.size) HB.out (by omega) hc (by omega)
  rw [HN.out] at hnum
  refine hnum.mono ?_
  rintro e w8 ⟨rfl, hb⟩
  have g0 := f9.below hb
  clear f9 hb hnum
  go_wp2_with fail
  refine (z_of u _ ⟨by omega, by omega⟩).mono ?_
  rintro e w9 ⟨⟨au, cu, rfl, ju⟩, hb⟩
  have g1 := g0.below hb
  clear g0 hb
  go_wp2_with fail
  refine (z_num _ _ u _ ju (by omega)).mono ?_
  rintro e w10 ⟨rfl, hb⟩
  have f0 := g1.below hb
  clear g1 hb ju
  obtain ⟨r1, hr1⟩ : ∃ r, sgnZ (x - y) = r := ⟨_, rfl⟩
  obtain ⟨r2, hr2⟩ : ∃ r, sgnZ (y - x) = r := ⟨_, rfl⟩
  obtain ⟨nx, hnx⟩ : ∃ r, -x = r := ⟨_, rfl⟩
  obtain ⟨ab, hab⟩ : ∃ r, (x.natAbs : Int) = r := ⟨_, rfl⟩
  obtain ⟨sa, hsa⟩ : ∃ r, sgnZ ab = r := ⟨_, rfl⟩
  obtain ⟨tt, htt⟩ : ∃ r, p + 1 = r := ⟨_, rfl⟩
  have hr12 : r1 = -r2 := by rw [← hr1, ← hr2]; unfold sgnZ; split <;> split <;> (try split) <;> (try split) <;> omega
  have hr2b : -1 ≤ r2 ∧ r2 ≤ 1 := by rw [← hr2]; unfold sgnZ; split <;> (try split) <;> omega
  have hsa0 : 0 ≤ sa := by rw [← hsa, ← hab]; unfold sgnZ; split <;> (try split) <;> omega
  obtain ⟨zr, hzr⟩ : ∃ z : Int, z = 0 := ⟨_, rfl⟩
  have hxnx : x + nx = zr := by omega
  have hzs : sgnZ zr = 0 := by rw [hzr]; rfl
  have ltt : (sg tt).2.length ≤ 50 := by rw [← htt, ← hp.out]; have := sg_add (sg_add lx ly) (show (sg 1).2.length ≤ 5 by decide); omega
  have lz : (sg zr).2.length ≤ 50 := by rw [hzr]; decide
  have hs3 : x + y + 1 = tt := by rw [hp.out]; exact htt
  replace hr1 := Lib.hid hr1
  replace hr2 := Lib.hid hr2
  replace hnx := Lib.hid hnx
  replace hab := Lib.hid hab
  replace hsa := Lib.hid hsa
  replace htt := Lib.hid htt
  replace hxnx := Lib.hid hxnx
  replace hzs := Lib.hid hzs
  clear hzr
  replace hs3 := Lib.hid hs3
  have hw : IntKind.i64.wrap (-r2) = r1 := by rw [hr12]; simp [IntKind.wrap, IntKind.bits, IntKind.signed]; omega
  have hw3 : IntKind.i64.wrap u = u := by simp [IntKind.wrap, IntKind.bits, IntKind.signed]; omega
  have hw2 : IntKind.i64.wrap (u + 50000 - 50000) = u := by rw [Int.add_sub_cancel]; exact hw3
  clear hr12 hr2b
  go_upto_region 9 with fail
  have S0 := f0.cells
  skip
  go_region_held3 (fun w' => w'.cell? ⟨bx, 0, none⟩ = some (.bool (sg x).1) ∧ w'.cell? ⟨bx, 1, none⟩ = some (.slice ax (sg x).2.length cx) ∧ w'.cell? ⟨bby, 0, none⟩ = some (.bool (sg y).1) ∧ w'.cell? ⟨bby, 1, none⟩ = some (.slice ay (sg y).2.length cy) ∧ w'.cell? ⟨bs, 0, none⟩ = some (.bool (sg x).1) ∧ w'.cell? ⟨bs, 1, none⟩ = some (.slice az (sg x).2.length cs) ∧ w'.cell? ⟨bo, 0, none⟩ = some (.bool (sg 1).1) ∧ w'.cell? ⟨bo, 1, none⟩ = some (.slice ao (sg 1).2.length co))
    (first | exact f12.cells | exact f11.cells | exact f10.cells | exact f9.cells | exact f8.cells | exact f7.cells | exact f6.cells | exact f5.cells | exact f4.cells | exact f3.cells | exact f2.cells | exact f1.cells | exact (f8.below (bel_alloc _ _)).cells | exact S0)
    (first | (have g12 := f11; go_at_call 35; refine (z_cmp0 _ _ _ _ tt _ i9b i11).mono ?_; rintro e v12 ⟨rfl, hb12⟩; have f12 := (f11).below hb12) | (have g11 := f10; go_at_call 37; refine (z_add' _ _ _ _ p 1 tt _ i10 (f10).io htt.out ltt).mono ?_; rintro e v11 ⟨⟨a11, c11, rfl, i11⟩, hb11⟩; have f11 := (f10).below hb11; have i9b := i9a.below hb11 (Nat.le_refl _)) | (have g10 := f9; go_at_call 37; refine (z_add' _ _ _ _ x y p _ (f9).ix (f9).iy hp.out lp).mono ?_; rintro e v10 ⟨⟨a10, c10, rfl, i10⟩, hb10⟩; have f10 := (f9).below hb10; have i9a := i9.below hb10 (Nat.le_refl _)) | (have g9 := f8; go_at_call 43; refine (z_sum3 _ _ _ _ _ _ x y tt _ (f8).ix (f8).iy (f8).io hs3.out (by rw [hp.out]; exact lp) ltt).mono ?_; rintro e v9 ⟨⟨a9, c9, rfl, i9⟩, hb9⟩; have f9 := (f8).below hb9) | (have g8 := f7; go_at_call 6; refine ((show Calls Tryd.prog 6 #[.slice a0 xs0.length c0, .int .i64 100000] v7 (fun e w' => e = .returned (.int .i64 (u + 50000)) ∧ Below v7.heap.size v7 w') from HN.out ▸ draw_num a0 c0 xs0 100000 _ ((hr.below (f7).bel (Nat.le_refl _)).mono (f7).bel.size) HB.out (by omega) hc (by omega))).mono ?_; rintro e v8 ⟨rfl, hb8⟩; have f8 := (f7).below hb8) | (have g7 := f6; go_at_call 40; refine (z_sign' _ _ ab sa _ i6 hsa.out).mono ?_; rintro e v7 ⟨rfl, hb7⟩; have f7 := (f6).below hb7) | (have g6 := f5; go_at_call 42; refine (z_abs' _ _ x ab _ (f5).ix hab.out).mono ?_; rintro e v6 ⟨⟨a6, c6, rfl, i6⟩, hb6⟩; have f6 := (f5).below hb6) | (have g5 := f4; go_at_call 40; refine (z_sign' _ _ zr 0 _ i4 hzs.out).mono ?_; rintro e v5 ⟨rfl, hb5⟩; have f5 := (f4).below hb5) | (have g4 := f3; go_at_call 37; refine (z_add' _ _ _ _ x nx zr _ (f3).ix i3 hxnx.out lz).mono ?_; rintro e v4 ⟨⟨a4, c4, rfl, i4⟩, hb4⟩; have f4 := (f3).below hb4) | (have g3 := f2; go_at_call 41; refine (z_neg' _ _ x nx _ (f2).ix hnx.out).mono ?_; rintro e v3 ⟨⟨a3, c3, rfl, i3⟩, hb3⟩; have f3 := (f2).below hb3) | (have g2 := f1; go_at_call 35; refine (z_cmp' _ _ _ _ y x _ _ (f1).iy (f1).ix hr2.out).mono ?_; rintro e v2 ⟨rfl, hb2⟩; have f2 := (f1).below hb2) | (go_at_call 35; refine (z_cmp' _ _ _ _ x y _ _ (f0.drew).ix (f0.drew).iy hr1.out).mono ?_; rintro e v1 ⟨rfl, hb1⟩; have f1 := (f0.drew).below hb1))
  all_goals (go_wp2; go_ret; exact ⟨rfl, f12.bel⟩)
theorem own : ownKnob Tryd.prog.godebug = none := by kernel_rfl
theorem laidOut : laidOutB Tryd.prog = true := by kernel_rfl
theorem door_met (os : Os) (args : Array Value) : laidMetH Tryd.prog Rows.fnIntRow.laid ((World.doorLaid Tryd.prog 62 os).forCall (fun _ _ => 0) ⟨#[], args, []⟩).memory :=
  laidMetH_of_parts3 (fuel := 8) (laidMet_of_run' 8 (by kernel_rfl) (by kernel_rfl)) (by kernel_rfl) (by kernel_rfl)
theorem tab_laid {W : World} (h : laidMetH Tryd.prog Rows.fnIntRow.laid W) : Tab W := by
  rw [MakeChecks.laidMetH_plain _ _ _ (by kernel_rfl)] at h
  have h2 : laidMet Tryd.prog (("internal/strconv.uint64pow10", Lib.tabData .u64 Lib.pow10Tab) :: []) W := h.tail.tail
  exact Lib.tabIs_of_head tabG (by kernel_rfl) Tryd.underlying131 Tryd.underlying80 (by kernel_rfl) (by kernel_rfl) h2
set_option maxRecDepth 100000 in
theorem lifted (os : Os) (started : os.Started) (H : Type) (enc : TypeId × Value → H) :
    ReturnsInHanded {} Tryd.checked os 5 .any (fun w args => (Rows.fnIntSpec.pre enc Tryd.prog Tryd.f5 [] false w args ∧ laidMetH Tryd.prog Rows.fnIntRow.laid w) ∧ sizedMet enc Tryd.prog Tryd.f5 (OpenSpec.ofChange Rows.fnIntSpec) false w args)
      (Rows.fnIntSpec.post enc Tryd.prog Tryd.f5 false true false false) := by
  refine returnsInHanded_of_change_and (C := Tryd.checked) (X := fun w _ => laidMetH Tryd.prog Rows.fnIntRow.laid w) (fun _ _ _ hh h => h.of_heap hh) own started (by kernel_rfl) Tryd.func5
    (ChangeSpec.witness_shaped (enc := enc) (C := Tryd.checked) (os := os) (X := fun w _ => laidMetH Tryd.prog Rows.fnIntRow.laid w) false (World.doorLaid Tryd.prog 62 os) #[.slice none 0 0] 8 rfl (World.shaped_of_RefB (by kernel_rfl) (by kernel_rfl)) (by kernel_rfl) (by kernel_rfl) (by kernel_rfl) (door_met os _)) ?_
  intro W base args ds gs before hval0 hW _ _ hL _
  have hval : ∀ (j : Nat) t v, Tryd.f5.params[j]? = some t → args[j]? = some v → Value.okWide Tryd.prog W .any base t v := hval0
  have hW' := hW
  obtain ⟨p, q, hA0, hV, rfl, hfz, hnd⟩ := hW
  have hA : DataW.TrodAll enc Tryd.prog W 0 (fun _ => true) true Tryd.f5.params.toList args.toList ds p := hA0
  rw [Tryd.params5] at hA hval
  obtain ⟨v0, vs0, d0, ds0, p0, q0, hargs, rfl, rfl, h0, r0⟩ := trodAll_cons hA
  obtain ⟨rfl, rfl, rfl⟩ := trodAll_nil r0
  obtain rfl : args = #[v0] := by cases args; simp_all
  obtain ⟨rfl, rfl⟩ := trodVars_none hV
  have k0 := h0
  have lt0 : ∀ x ∈ p0, x.block < W.heap.size := by obtain ⟨m, hm⟩ := k0; exact DataW.trod_lt m _ _ _ hm
  obtain ⟨a0, len0, cap0, rfl⟩ := okWide_slice Tryd.underlying22 (hval 0 22 v0 rfl rfl)
  obtain ⟨xs0, rfl, w0⟩ : ∃ xs : List Int, xs.length = len0 ∧ (RdB W W.heap.size a0 xs ∧ Byt xs ∧ xs.length ≤ cap0 ∧ xs.length ≤ maxLen) := by
    obtain ⟨fuel, hf⟩ := h0
    rcases open_ints Tryd.underlying22 Tryd.underlying5 (by kernel_rfl) hf with ⟨hcs, _⟩ | ⟨x, l, c, zs, hcs, _, hl, hm, hz, _, hcell, hwz⟩
    · simp [Value.cells] at hcs
      obtain ⟨rfl, rfl, rfl⟩ := hcs
      exact ⟨[], rfl, .inl rfl, fun i => by simp, Nat.zero_le _, Nat.zero_le _⟩
    · simp [Value.cells] at hcs
      obtain ⟨rfl, rfl, rfl⟩ := hcs
      have hz' : zs.length = cap0 := by simpa using hz
      have hlt : (zs.take len0).length = len0 := by rw [List.length_take]; omega
      exact ⟨zs.take len0, hlt, rdB_of_cells hcell _, byt_of_wf (fun n hn => hwz n (List.mem_of_mem_take hn)), by omega, by omega⟩
  clear hA0 hval0
  refine (walk a0 cap0 xs0 W (tab_laid hL) w0).mono fun e W' ⟨he, bel⟩ => ?_
  subst he
  exact ⟨_, rfl, _, _, _, [], _, [], hW', trodAll_mk1 (shut_bool Tryd.underlying4 _), (trodAll_cons_mk (Below.trod laidOut (by kernel_rfl) (of_decide_eq_true (by kernel_rfl)) k0 bel lt0) trodAll_mk0), rfl, bel.frame _, fun h => by cases h⟩

theorem over : Rows.fnIntRow.holds Tryd.pinned (OpenSpec.ofChange Rows.fnIntSpec) :=
  OpenClaim.holds_of_wide 5 Tryd.f5 rfl rfl rfl rfl rfl rfl rfl ⟨rfl, rfl, rfl, rfl, rfl⟩ rfl rfl rfl rfl rfl (by kernel_rfl) Tryd.func5 (by kernel_rfl)
    (of_decide_eq_true (by kernel_rfl)) (by unfold Func.isWrapper; first | (rw [if_pos (by decide +kernel)]; kernel_rfl) | (rw [if_neg (by decide +kernel)]; exact ⟨rfl, rfl⟩))
    (fun os started H enc _ => lifted os started H enc)

theorem proved : Rows.FnIntCardSaid :=
  Claim7.holds_tied_plain_at .later [] [.data, .data, .data] true (true, "248435840f7bfd56d840d0f8b83d66d5d3fa209622cbd1dde3e17931932a586f") true
    over (fun _ h => by cases h) (by kernel_rfl) (fun _ h => by cases h) fnInt_row_tie rfl ⟨rfl, rfl⟩ (by kernel_rfl) rfl
    (fun f fn hf hfn => by
      obtain rfl : f = 5 := Option.some.inj ((show Tryd.prog.funcNamed Rows.fnIntRow.func = some 5 by kernel_rfl).symm.trans hf) |>.symm
      obtain rfl : fn = Tryd.f5 := (Option.some.inj (Tryd.func5.symm.trans hfn)).symm
      exact ⟨by kernel_rfl, fun j t ht => by
        rw [Tryd.params5] at ht
        have hm : t ∈ [22] := by simpa using Array.mem_of_getElem? ht
        have hall : ([22].all fun u => !Tryd.prog.wantsStandIn u) = true := by kernel_rfl
        exact (show Tryd.prog.wantsStandIn t = false by simpa using List.all_eq_true.1 hall t hm)⟩)
    (by kernel_rfl)
#print axioms proved
end Go.Proofs.YtogkonenejfgmaaDoor.fnInt
