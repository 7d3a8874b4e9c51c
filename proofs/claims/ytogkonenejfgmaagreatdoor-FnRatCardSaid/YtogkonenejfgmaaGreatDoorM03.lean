/- Plain lemmas on strings of bytes: what it means that all bytes lie in a range. No condition. No program. The walk of spec.l01In: whether a number lies between two others. No condition. The walks of NatOk (reference and program): whether a slice of ints is a valid nat. For every slice within the reach. The walks of trim, fit, natCopy, natsOk (program) and l02Trim, l02Cap (reference). For every slice within the reach. -/
import Derived.WalkKit
import Derived.WalkSpells
import Derived.WalkLawsBesides
import Derived.Lib.Hide
import Derived.Test.YtogkonenejfgmaaGreatDoorProg
import Derived.Test.YtogkonenejfgmaaGreatDoorM01
import Derived.Test.YtogkonenejfgmaaGreatDoorM02
namespace Go.Proofs.YtogkonenejfgmaaGreatDoor
open Go.RowKit

def bad (lo hi low high : Int) (c : UInt8) : Bool := (decide ((c.toNat : Int) < lo) || decide (hi < (c.toNat : Int))) && (decide ((c.toNat : Int) < low) || decide (high < (c.toNat : Int)))
def allB (lo hi low high : Int) (l : List UInt8) : Bool := l.all (fun c => !bad lo hi low high c) && !l.isEmpty

theorem take_snoc (s : ByteArray) (k : Nat) (h : k < s.size) : s.data.toList.take (k + 1) = s.data.toList.take k ++ [s[k]] := by
  rw [List.take_succ_eq_append_getElem (by simpa using h)]; rfl
theorem bad_true {lo hi low high : Int} {c : UInt8} (h : ((c.toNat : Int) < lo ∨ hi < (c.toNat : Int)) ∧ ((c.toNat : Int) < low ∨ high < (c.toNat : Int))) : bad lo hi low high c = true := by
  simp [bad]; omega
theorem bad_false {lo hi low high : Int} {c : UInt8} (h : ¬ (((c.toNat : Int) < lo ∨ hi < (c.toNat : Int)) ∧ ((c.toNat : Int) < low ∨ high < (c.toNat : Int)))) : bad lo hi low high c = false := by
  unfold bad; rw [Bool.and_eq_false_iff]; simp; omega
theorem allB_stop {lo hi low high : Int} (s : ByteArray) (k : Nat) (h : k < s.size) (hb : bad lo hi low high s[k] = true) : allB lo hi low high s.data.toList = false := by
  unfold allB
  have : s.data.toList.all (fun c => !bad lo hi low high c) = false := by
    rw [List.all_eq_false]; exact ⟨s[k], by simp [ByteArray.getElem_eq_getElem_data], by simp [hb]⟩
  rw [this]; rfl
theorem all_step {lo hi low high : Int} (s : ByteArray) (k : Nat) (h : k < s.size) (ha : (s.data.toList.take k).all (fun c => !bad lo hi low high c) = true) (hb : bad lo hi low high s[k] = false) : (s.data.toList.take (k + 1)).all (fun c => !bad lo hi low high c) = true := by
  rw [take_snoc s k h, List.all_append, ha]; simp [hb]
theorem allB_end {lo hi low high : Int} (s : ByteArray) (k : Nat) (h : ¬ k < s.size) (ha : (s.data.toList.take k).all (fun c => !bad lo hi low high c) = true) : allB lo hi low high s.data.toList = decide (0 < s.size) := by
  rw [List.take_of_length_le (by simp; omega)] at ha
  unfold allB; rw [ha, Bool.true_and, Bool.eq_iff_iff]
  cases hd : s.data.toList <;> simp
  · have := congrArg List.length hd; simpa using this
  · have := congrArg List.length hd; simp at this; omega
theorem ne_empty (s : ByteArray) : (!s.toList.isEmpty) = decide (0 < s.size) := by
  rw [ByteArray.toList_eq, Bool.eq_iff_iff]
  cases hd : s.data.toList <;> simp
  · have := congrArg List.length hd; simpa using this
  · have := congrArg List.length hd; simp at this; omega
theorem ret_eq {a b : Value} (h : a = b) : Ending.returned a = .returned b := by rw [h]
theorem ret_bool {a b : Bool} (h : a = b) : Ending.returned (.bool a) = .returned (.bool b) := by rw [h]

end Go.Proofs.YtogkonenejfgmaaGreatDoor
namespace Go.Proofs.YtogkonenejfgmaaGreatDoor
open Go.RowKit
def inB (n lo hi : Int) : Bool := decide (lo ≤ n) && decide (n ≤ hi)
theorem inB_true {n lo hi : Int} (h : lo ≤ n ∧ n ≤ hi) : inB n lo hi = true := by simp [inB, h]
theorem inB_false {n lo hi : Int} (h : ¬ (lo ≤ n ∧ n ≤ hi)) : inB n lo hi = false := by simp [inB]; omega
theorem inB_of {n lo hi : Int} (h : inB n lo hi = true) : lo ≤ n ∧ n ≤ hi := by simpa [inB] using h
theorem inB_not {n lo hi : Int} (h : inB n lo hi = false) : ¬ (lo ≤ n ∧ n ≤ hi) := by
  intro hh; rw [inB_true hh] at h; cases h
theorem l01In_any (n lo hi : Int) (w : World) : Calls Tryz.prog 77 #[.int .i64 n, .int .i64 lo, .int .i64 hi] w fun e w' => e = .returned (.bool (inB n lo hi)) ∧ w = w' := by
  go_enter Tryz.func77, Tryz.ntmps77
  go_wp2
  all_goals (go_ret; exact ⟨ret_bool (by simp [inB]; try omega), rfl⟩)
end Go.Proofs.YtogkonenejfgmaaGreatDoor
namespace Go.Proofs.YtogkonenejfgmaaGreatDoor
open Go.RowKit
def digB (x : Int) : Bool := decide (0 ≤ x) && decide (x < 1000000000)
theorem natB_eq (xs : List Int) : natB xs = (decide (xs.length ≤ 50) && (xs.getLast? != some 0) && xs.all digB) := rfl
theorem all_stop {xs : List Int} {k : Nat} (hk : k < xs.length) (x : Int) (hx : xs.getD k 0 = x) (h : digB x = false) : natB xs = false := by
  have : xs.all digB = false := by
    rw [List.all_eq_false]
    refine ⟨x, ?_, by simp [h]⟩
    have e : xs.getD k 0 = xs[k] := by simp [List.getD, hk]
    rw [← hx, e]; exact List.getElem_mem hk
  rw [natB_eq, this, Bool.and_false]
theorem allL_step {xs : List Int} {k : Nat} (hk : k < xs.length) (x : Int) (hx : xs.getD k 0 = x) (h : digB x = true) (ha : (xs.take k).all digB = true) : (xs.take (k + 1)).all digB = true := by
  rw [take_succ_getD xs k hk, List.all_append, ha, hx]; simp [h]
theorem last_getD {xs : List Int} (h : 0 < xs.length) : xs.getLast? = some (xs.getD (xs.length - 1) 0) := by
  rw [List.getLast?_eq_getElem?, List.getElem?_eq_getElem (by omega)]
  simp [List.getD, show xs.length - 1 < xs.length by omega]

theorem nat_end {xs : List Int} {k : Nat} (hk : ¬ k < xs.length) (_hk2 : k ≤ xs.length) (h50 : xs.length ≤ 50) (h0 : 0 < xs.length) (x : Int) (hx : xs.getD (xs.length - 1) 0 = x)
    (ha : (xs.take k).all digB = true) : natB xs = (x != 0) := by
  rw [List.take_of_length_le (by omega)] at ha
  rw [natB_eq, ha, last_getD h0, hx, Bool.and_true, decide_eq_true h50, Bool.true_and, Bool.eq_iff_iff]
  simp
theorem nat_long {xs : List Int} (h : ¬ xs.length ≤ 50) : natB xs = false := by rw [natB_eq]; simp [h]

set_option maxHeartbeats 400000 in
theorem spec_NatOk (a : Option Addr) (ca : Nat) (xs : List Int) (w : World) (hx : Rd w a xs) (lx : xs.length ≤ maxLen) :
    Calls Tryz.prog 68 #[.slice a xs.length ca] w fun e w' => e = .returned (.bool (natB xs)) ∧ w = w' := by
  unfold maxLen at lx
  go_enter Tryz.func68, Tryz.ntmps68
  go_wp2
  go_loop [4, 7] (fun _ i => ∃ k : Nat, k ≤ xs.length ∧ i = .int .i64 k ∧ (xs.take k).all digB = true) (fun _ i => xs.length - (intOf i).toNat)
  case atStart => exact ⟨0, Nat.zero_le _, rfl, rfl⟩
  case round =>
    obtain ⟨k, hk, rfl, ha⟩ := hrel
    have H := Lib.hid ha; clear ha
    by_cases hlt : k < xs.length
    · obtain ⟨bx, ox, x, rfl, hbx, h1, hx1⟩ := hx.at k hlt
      cases hd : inB x 0 999999999
      · go_wp2_with (go_at_call 77; refine (l01In_any _ _ _ _).mono ?_; rintro e w' ⟨rfl, rfl⟩)
        go_ret
        exact ⟨ret_bool (all_stop hlt x hx1.out (by simp [inB, digB] at *; omega)).symm, rfl⟩
      · go_wp2_with (go_at_call 77; refine (l01In_any _ _ _ _).mono ?_; rintro e w' ⟨rfl, rfl⟩)
        go_round
        case rel => exact ⟨k + 1, by omega, by go_num, allL_step hlt x hx1.out (by simp [inB, digB] at *; omega) H.out⟩
        case measure => simp [intOf]; omega
    · by_cases h50 : xs.length ≤ 50
      · by_cases h0 : 0 < xs.length
        · obtain ⟨bx, ox, x, rfl, hbx, h1, hx1⟩ := hx.at (xs.length - 1) (by omega)
          have hz : ((xs.length : Int) == 0) = false := by rw [beq_eq_false_iff_ne]; omega
          go_wp2
          go_ret
          exact ⟨ret_bool (nat_end hlt (hk) h50 h0 x hx1.out H.out).symm, rfl⟩
        · have e : xs = [] := List.eq_nil_of_length_eq_zero (by omega)
          subst e
          go_wp2
          go_ret
          exact ⟨rfl, rfl⟩
      · go_wp2
        go_ret
        exact ⟨ret_bool (nat_long h50).symm, rfl⟩

set_option maxHeartbeats 800000 in
theorem impl_NatOk (a : Option Addr) (ca : Nat) (xs : List Int) (w : World) (hx : Rd w a xs) (lx : xs.length ≤ maxLen) :
    Calls Tryz.prog 51 #[.slice a xs.length ca] w fun e w' => e = .returned (.bool (natB xs)) ∧ w = w' := by
  unfold maxLen at lx
  by_cases h50 : xs.length ≤ 50
  · by_cases h0 : 0 < xs.length
    · obtain ⟨bl, ol, z, hal, hbl, hl1, hlz⟩ := hx.at (xs.length - 1) (by omega)
      cases hz : (z == 0)
      · have hzn : z ≠ 0 := by simpa using hz
        subst hal
        go_enter Tryz.func51, Tryz.ntmps51
        go_wp2
        go_loop [4, 24] (fun _ i => ∃ k : Nat, k ≤ xs.length ∧ i = .int .i64 k ∧ (xs.take k).all digB = true) (fun _ i => xs.length - (intOf i).toNat)
        case atStart => exact ⟨0, Nat.zero_le _, rfl, rfl⟩
        case round =>
          obtain ⟨k, hk, rfl, ha⟩ := hrel
          have H := Lib.hid ha; clear ha
          clear hz hl1
          by_cases hlt : k < xs.length
          · obtain ⟨bx, ox, x, hax, hbx, h1, hx1⟩ := hx.at k hlt
            obtain ⟨rfl, rfl⟩ : bl = bx ∧ ol = ox := by simpa using hax
            clear hax
            cases hd : digB x
            · have hd' : x < 0 ∨ 1000000000 ≤ x := by simp [digB] at hd; omega
              have hf := Lib.hid (all_stop hlt x hx1.out hd)
              clear hd
              by_cases hneg : x < 0
              all_goals
                go_wp2
                go_ret
                exact ⟨ret_bool hf.out.symm, rfl⟩
            · have hd' : 0 ≤ x ∧ x < 1000000000 := by simpa [digB] using hd
              have hf := Lib.hid (allL_step hlt x hx1.out hd H.out)
              clear hd
              go_wp2
              go_round
              case rel => exact ⟨k + 1, by omega, by go_num, hf.out⟩
              case measure => simp [intOf]; omega
          · have hf := Lib.hid (nat_end hlt hk h50 h0 z hlz.out H.out)
            go_wp2
            go_ret
            exact ⟨ret_bool (by rw [hf.out]; simpa using hzn), rfl⟩
      · have hf : natB xs = false := by
          rw [natB_eq, last_getD h0, hlz.out]; simp at hz; simp [hz]
        have HF := Lib.hid hf; clear hf
        subst hal
        go_enter Tryz.func51, Tryz.ntmps51
        go_wp2
        go_ret
        exact ⟨ret_bool HF.out.symm, rfl⟩
    · have e : xs = [] := List.eq_nil_of_length_eq_zero (by omega)
      subst e
      go_enter Tryz.func51, Tryz.ntmps51
      go_wp2
      go_loop [4, 24] (fun _ i => i = .int .i64 0) (fun _ _ => 0)
      case atStart => rfl
      case round =>
        obtain rfl := hrel
        go_wp2
        go_ret
        exact ⟨rfl, rfl⟩
  · go_enter Tryz.func51, Tryz.ntmps51
    go_wp2
    go_ret
    exact ⟨ret_bool (nat_long h50).symm, rfl⟩
end Go.Proofs.YtogkonenejfgmaaGreatDoor
namespace Go.Proofs.YtogkonenejfgmaaGreatDoor
open Go.RowKit
theorem trim_hit {xs : List Int} {n : Nat} (h : trimL xs = trimL (xs.take (n + 1))) (hn : n < xs.length) (x : Int) (hx : xs.getD n 0 = x) (hz : x = 0) : trimL xs = trimL (xs.take n) := by
  rw [h, take_succ_getD xs n hn, hx, hz, trimL_snoc_zero]
theorem trim_miss {xs : List Int} {n : Nat} (h : trimL xs = trimL (xs.take (n + 1))) (hn : n < xs.length) (x : Int) (hx : xs.getD n 0 = x) (hz : x ≠ 0) : trimL xs = xs.take (n + 1) := by
  rw [h, take_succ_getD xs n hn, hx, trimL_snoc hz]

set_option maxHeartbeats 400000 in
theorem trim_any (a : Option Addr) (cap : Nat) (xs : List Int) (w : World) (h : Rd w a xs) (hl : xs.length ≤ maxLen) (hc : xs.length ≤ cap) :
    Calls Tryz.prog 45 #[.slice a xs.length cap] w fun e w' => e = .returned (.slice a (trimL xs).length cap) ∧ w = w' := by
  unfold maxLen at hl
  go_enter Tryz.func45, Tryz.ntmps45
  go_wp2
  go_loop [0] (fun v => ∃ n : Nat, n ≤ xs.length ∧ v = .slice a n cap ∧ trimL xs = trimL (xs.take n)) (fun v => match v with | .slice _ n _ => n | _ => 0)
  case atStart => exact ⟨xs.length, Nat.le_refl _, rfl, by rw [List.take_length]⟩
  case round =>
    obtain ⟨n, hn, rfl, ht⟩ := hrel
    have H := Lib.hid ht; clear ht
    cases n with
    | zero =>
      have e : (trimL xs).length = 0 := by rw [H.out]; rfl
      have HE := Lib.hid e; clear e
      go_wp2
      go_ret
      refine ⟨?_, rfl⟩
      rw [HE.out]; rfl
    | succ n =>
      obtain ⟨b, off, x, rfl, hb, h1, hx⟩ := h.at n (by omega)
      cases hz : (x == 0)
      · have e : (trimL xs).length = n + 1 := by
          rw [trim_miss H.out (by omega) x hx.out (by simpa using hz), List.length_take]; omega
        have HE := Lib.hid e; clear e
        go_wp2
        go_ret
        refine ⟨?_, rfl⟩
        rw [HE.out]; rfl
      · have e := trim_hit H.out (by omega) x hx.out (by simpa using hz)
        have HE := Lib.hid e; clear e
        go_wp2
        go_round
        case rel => exact ⟨n, by omega, rfl, HE.out⟩
        case measure => simp

set_option maxHeartbeats 400000 in
theorem l02Trim_any (a : Option Addr) (cap : Nat) (xs : List Int) (w : World) (h : Rd w a xs) (hl : xs.length ≤ maxLen) (hc : xs.length ≤ cap) :
    Calls Tryz.prog 57 #[.slice a xs.length cap] w fun e w' => e = .returned (.slice a (trimL xs).length cap) ∧ w = w' := by
  unfold maxLen at hl
  have HL := trimL_length_le xs
  go_enter Tryz.func57, Tryz.ntmps57
  go_wp2
  go_loop [3] (fun v => ∃ n : Nat, n ≤ xs.length ∧ v = .int .i64 n ∧ trimL xs = trimL (xs.take n)) (fun v => (intOf v).toNat)
  case atStart => exact ⟨xs.length, Nat.le_refl _, rfl, by rw [List.take_length]⟩
  case round =>
    obtain ⟨n, hn, rfl, ht⟩ := hrel
    have H := Lib.hid ht; clear ht
    cases n with
    | zero =>
      have e : (trimL xs).length = 0 := by rw [H.out]; rfl
      have HE := Lib.hid e; clear e
      go_wp2
      go_ret
      refine ⟨?_, rfl⟩
      rw [HE.out]; rfl
    | succ n =>
      obtain ⟨b, off, x, rfl, hb, h1, hx⟩ := h.at n (by omega)
      cases hz : (x == 0)
      · have e : (trimL xs).length = n + 1 := by
          rw [trim_miss H.out (by omega) x hx.out (by simpa using hz), List.length_take]; omega
        have HE := Lib.hid e; clear e
        go_wp2
        go_ret
        refine ⟨?_, rfl⟩
        rw [HE.out]; rfl
      · have e := trim_hit H.out (by omega) x hx.out (by simpa using hz)
        have HE := Lib.hid e; clear e
        go_wp2
        go_round
        case rel => exact ⟨n, by omega, by go_num, HE.out⟩
        case measure => simp [intOf]

/-- what stands after fit: nothing if there are more than 50 limbs -/
def capL (xs : List Int) : List Int := if 50 < (trimL xs).length then [] else trimL xs
def Capped (a : Option Addr) (cap : Nat) (xs : List Int) (a' : Option Addr) (c' : Nat) : Prop := (a' = a ∧ c' = cap) ∨ (a' = none ∧ c' = 0 ∧ capL xs = [])
theorem Rd.trimL {w : World} {a : Option Addr} {xs : List Int} (h : Rd w a xs) : Rd w a (trimL xs) := by rw [trimL_take]; exact h.take _
theorem Own.trimL {w : World} {B : Nat} {a : Option Addr} {cap : Nat} {xs : List Int} (h : Own w B a cap xs) : Own w B a cap (trimL xs) := by
  rw [trimL_take]; exact h.take _ (trimL_length_le xs)
theorem Capped.rd {w : World} {a a' : Option Addr} {cap c' : Nat} {xs : List Int} (h : Capped a cap xs a' c') (hr : Rd w a xs) : Rd w a' (capL xs) := by
  rcases h with ⟨rfl, rfl⟩ | ⟨rfl, rfl, h⟩
  · unfold capL; split
    · exact Rd.nil _ _
    · exact hr.trimL
  · rw [h]; exact Rd.nil _ _
theorem Capped.own {w : World} {B : Nat} {a a' : Option Addr} {cap c' : Nat} {xs : List Int} (h : Capped a cap xs a' c') (hr : Own w B a cap xs) : Own w B a' c' (capL xs) := by
  rcases h with ⟨rfl, rfl⟩ | ⟨rfl, rfl, h⟩
  · unfold capL; split
    · exact hr.take 0 (Nat.zero_le _)
    · exact hr.trimL
  · rw [h]; exact Own.nil _ _
theorem Capped.le {a a' : Option Addr} {cap c' : Nat} {xs : List Int} (h : Capped a cap xs a' c') (hc : xs.length ≤ cap) : (capL xs).length ≤ c' := by
  rcases h with ⟨rfl, rfl⟩ | ⟨rfl, rfl, h⟩
  · unfold capL; split
    · simp
    · have := trimL_length_le xs; omega
  · rw [h]; simp
theorem capL_cut {xs : List Int} (h : 50 < (trimL xs).length) : capL xs = [] := if_pos h
theorem capL_keep {xs : List Int} (h : ¬ 50 < (trimL xs).length) : capL xs = trimL xs := if_neg h

theorem capL_limbs {xs : List Int} {n : Nat} (h : okL xs) (hv : val xs = n) : capL xs = limbs (capV n) := by
  unfold capL capV
  rw [trimL_limbs h, hv]
  simp only [Int.toNat_natCast]
  split <;> rfl
theorem trimL_val {xs : List Int} {n : Nat} (h : okL xs) (hv : val xs = n) : trimL xs = limbs n := by rw [trimL_limbs h, hv]; simp

theorem capL_nat (n : Nat) : capL (limbs n) = limbs (capV n) := capL_limbs (limbs_ok n) (val_limbs n)
theorem capV_len (n : Nat) : (limbs (capV n)).length ≤ 50 := by
  unfold capV; split
  · simp [limbs_zero]
  · omega

theorem l02Cap_any (a : Option Addr) (cap : Nat) (xs : List Int) (w : World) (h : Rd w a xs) (hl : xs.length ≤ maxLen) (hc : xs.length ≤ cap) :
    Calls Tryz.prog 67 #[.slice a xs.length cap] w fun e w' => (∃ a' c', e = .returned (.slice a' (capL xs).length c') ∧ Capped a cap xs a' c') ∧ w = w' := by
  have hl' := hl
  have ht := trimL_length_le xs
  unfold maxLen at hl'
  by_cases h50 : 50 < (trimL xs).length
  · have H := Lib.hid (capL_cut h50)
    go_enter Tryz.func67, Tryz.ntmps67
    go_wp2_with fail
    refine (l02Trim_any _ _ _ _ h hl hc).mono ?_
    rintro e w' ⟨rfl, rfl⟩
    go_wp2
    go_ret
    refine ⟨⟨none, 0, ?_, .inr ⟨rfl, rfl, H.out⟩⟩, rfl⟩
    rw [H.out]; rfl
  · have H := Lib.hid (capL_keep h50)
    go_enter Tryz.func67, Tryz.ntmps67
    go_wp2_with fail
    refine (l02Trim_any _ _ _ _ h hl hc).mono ?_
    rintro e w' ⟨rfl, rfl⟩
    go_wp2
    go_ret
    refine ⟨⟨a, cap, ?_, .inl ⟨rfl, rfl⟩⟩, rfl⟩
    rw [H.out]; rfl
theorem natCopy_any (a : Option Addr) (cap : Nat) (xs : List Int) (w : World) (h : Rd w a xs) (hl : xs.length ≤ 1099511627776) :
    Calls Tryz.prog 47 #[.slice a xs.length cap] w fun e w' => (∃ a' c', e = .returned (.slice a' xs.length c') ∧ Own w' w.heap.size a' c' xs) ∧ Below w.heap.size w w' := by
  have ho := Lib.hid (Own.empty w w.heap.size (Nat.le_refl _))
  have hb := (Below.refl w.heap.size w).alloc (Nat.le_refl _) (.cells #[] 3)
  have hr := h.below hb (Nat.le_refl _)
  go_enter Tryz.func47, Tryz.ntmps47
  go_wp2_with (at_builtin; refine appS _ rfl _ _ rfl w.heap.size _ _ [] a cap xs rfl rfl ho.out hr (by simp; omega) (by simp) ?_)
  intro a' c' w' ho' hb'
  have hb2 := hb.trans hb'
  clear hb' hb
  go_wp2
  go_ret
  exact ⟨⟨a', c', rfl, ho'⟩, hb2⟩
end Go.Proofs.YtogkonenejfgmaaGreatDoor
