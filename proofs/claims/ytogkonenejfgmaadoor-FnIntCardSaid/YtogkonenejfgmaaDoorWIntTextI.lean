/- The walk of IntText (program): strconv.Itoa by its contract. For every integer, where the library's table of powers of ten reads as it is laid. -/
import Derived.Test.YtogkonenejfgmaaDoorWIntTextS
import Derived.Shelf.Strconv.Itoa3
import Derived.Shelf.Lay
import Derived.Ground.NamesProg
import Derived.Lib.LaidTab
import Derived.Shelf.Unicode.PredsPay
namespace Go.Proofs.YtogkonenejfgmaaDoor
open Go.RowKit Go.Shelf
open Go.Lib (decDigits itoa)
shelf_lay LaysM.n171 Nm 171 at Tryd as Tryd.laysItoa
theorem fItoa : Tryd.laysItoa_ren.f 171 = 46 := by kernel_rfl
/-- the library's table of powers of ten reads as it is laid -/
def Tab (w : World) : Prop := Lib.TabIs Tryd.prog w "internal/strconv.uint64pow10" .u64 Lib.pow10Tab
theorem tabG : Tryd.prog.globalNamed "internal/strconv.uint64pow10" = some 3 := by kernel_rfl
theorem Tab.below {w w' : World} (h : Tab w) (hb : Below w.heap.size w w') : Tab w' := TabIs_below tabG h hb
theorem itoa_any (z : Int) (w : World) (hz : Rng z) (ht : Tab w) :
    Calls Tryd.prog 46 #[.int .i64 z] w fun e w' => e = .returned (.string (tx (itoa z))) ∧ Below w.heap.size w w' := by
  have h := Any.strconv_Itoa Tryd.laysItoa z hz.1 hz.2 w ht
  rw [fItoa] at h
  refine h.mono fun e w' ⟨he, k, os, hw⟩ => ⟨he, ?_⟩
  subst hw
  exact ⟨rfl, rfl, rfl, by simp [Sort.grow, World.drewN], fun j hj => by simp [Sort.grow, World.drewN, Array.getElem?_append_left hj]⟩
theorem impl_IntText (z : Int) (w : World) (hz : Rng z) (ht : Tab w) :
    Calls Tryd.prog 7 #[.int .i64 z] w fun e w' => e = .returned (.string (tx (itoa z))) ∧ Below w.heap.size w w' := by
  go_enter Tryd.func7, Tryd.ntmps7
  go_wp2_with fail
  refine (itoa_any _ _ hz ht).mono ?_
  rintro e w1 ⟨rfl, hb⟩
  go_wp2
  go_ret
  exact ⟨rfl, hb⟩
end Go.Proofs.YtogkonenejfgmaaDoor
