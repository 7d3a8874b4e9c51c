/- The walks of Join (program and reference) and of the laws' helpers toStringS, szStringS. For every texts within the reach. -/
import Derived.Test.YthjcdcmhgghliaaWStrS
import Derived.Shelf.Strings.OnBuilder
import Derived.Lib.Agree
namespace Go.Proofs.Ythjcdcmhgghliaa
open Go.RowKit Go.Shelf
theorem zerosS_eq (n : Nat) : (madeCells #[Value.string ByteArray.empty] n).toList = (List.replicate n ByteArray.empty).map Value.string := by
  rw [toList_madeCells_one, List.map_replicate]
theorem OwnS.made {w : World} {B g n : Nat} (h : w.ownsRow B 9 1 (.slice (some ⟨g, 0, none⟩) n n) n (madeCells #[Value.string ByteArray.empty] n).toList) :
    OwnS w B (some ⟨g, 0, none⟩) n (List.replicate n ByteArray.empty) := by
  unfold OwnS; rw [List.length_replicate, ← zerosS_eq]; exact h
theorem takeS_succ (xs : List ByteArray) (k : Nat) (h : k < xs.length) : xs.take (k + 1) = xs.take k ++ [xs.getD k ByteArray.empty] := by
  rw [List.take_succ_eq_append_getElem h]
  simp [List.getD, h]
theorem fillS_step {xs : List ByteArray} {k n : Nat} (hk : k < xs.length) (x : ByteArray) (hx : xs.getD k ByteArray.empty = x) (hn : n = xs.length - k) :
    (xs.take k ++ List.replicate n ByteArray.empty).set k x = xs.take (k + 1) ++ List.replicate (xs.length - (k + 1)) ByteArray.empty := by
  subst hn
  rw [takeS_succ xs k hk, hx]
  have e : xs.length - k = (xs.length - (k + 1)) + 1 := by omega
  rw [e, List.replicate_succ, List.set_append_right _ _ (by rw [List.length_take]; omega), List.length_take, Nat.min_eq_left (by omega), Nat.sub_self]
  simp
theorem toStringS_any (a : Option Addr) (ca : Nat) (xs : List ByteArray) (w : World) (hx : RdS w a xs) (lx : xs.length ≤ 1048577) :
    Calls Try.prog 23 #[.slice a xs.length ca] w fun e w' => (∃ a' c', e = .returned (.slice a' xs.length c') ∧ OwnS w' w.heap.size a' c' xs) ∧ Below w.heap.size w w' := by
  obtain ⟨i0, hi, hz0, hz1, hz2⟩ := info_parts Try.infoStr
  go_enter Try.func23, Try.ntmps23
  go_wp2_with (at_make; refine wpList_make_full _ rfl _ _ 22 rfl w.heap.size 9 i0 (.string ByteArray.empty) 1 Try.underlying22 hi hz0 hz1 .i64 .i64 _ _ xs.length rfl rfl rfl rfl (by rw [hz2]; omega) (by unfold maxLen; omega) (Nat.le_refl _) ?_)
  intro w1 hown hgrow
  have ho1 := Lib.hid (OwnS.made hown)
  have hb1 : Below w.heap.size w w1 := (Below.refl _ _).grown hgrow (Nat.le_refl _) (by intro k h; cases h)
  clear hown hgrow
  go_wp2
  go_loopw [4] (fun i wr => ∃ k : Nat, k ≤ xs.length ∧ i = .int .i64 k ∧ OwnS wr w.heap.size (some ⟨w.heap.size, 0, none⟩) xs.length (xs.take k ++ List.replicate (xs.length - k) ByteArray.empty) ∧ Below w.heap.size w wr) (fun i _ => xs.length - (intOf i).toNat)
  case atStart => exact ⟨0, Nat.zero_le _, rfl, by simpa using ho1.out, hb1⟩
  case round =>
    obtain ⟨k, hk, rfl, hown, hb⟩ := hrel
    have hr := hx.below hb (Nat.le_refl _)
    by_cases hlt : k < xs.length
    · obtain ⟨bx, ox, x, rfl, hbx, h1, hx1⟩ := hr.at k hlt
      obtain ⟨y, h2, _⟩ := hown.cellAt k (by simp; omega)
      have h3 := hown.frozenAt k
      have hs := hown.stored k x
      rw [fillS_step hlt x hx1.out rfl] at hs
      have hs2 := Lib.hid hs
      have hb2 : Below w.heap.size w (wr.setCell ⟨w.heap.size, k, none⟩ (.string x)) := hb.setCell (Nat.le_refl _) _
      clear hs hown hr
      go_wp2
      go_roundw
      case rel => exact ⟨k + 1, by omega, by go_num, hs2.out, hb2⟩
      case measure => simp [intOf]; omega
    · have e : k = xs.length := by omega
      subst e
      go_wp2
      go_ret
      refine ⟨⟨_, _, rfl, ?_⟩, hb⟩
      simpa using hown
def sumS (xs : List ByteArray) : Nat := (xs.map ByteArray.size).sum
theorem sumS_succ (xs : List ByteArray) (k : Nat) (h : k < xs.length) : sumS (xs.take (k + 1)) = sumS (xs.take k) + (xs.getD k ByteArray.empty).size := by
  rw [takeS_succ xs k h]; simp [sumS]
theorem sumS_append (a b : List ByteArray) : sumS (a ++ b) = sumS a + sumS b := by simp [sumS]
theorem sumS_le (xs : List ByteArray) (k : Nat) : sumS (xs.take k) ≤ sumS xs := by
  have := sumS_append (xs.take k) (xs.drop k)
  rw [List.take_append_drop] at this
  omega
theorem szStringS_any (a : Option Addr) (ca : Nat) (xs : List ByteArray) (w : World) (hx : RdS w a xs) (lx : xs.length ≤ maxLen) (ls : ∀ s ∈ xs, s.size ≤ maxLen) :
    Calls Try.prog 21 #[.slice a xs.length ca, .int .i64 1048576] w fun e w' => e = .returned (.int .i64 (if xs.length + sumS xs ≤ 1048576 then 1048576 - ((xs.length + sumS xs : Nat) : Int) else -1)) ∧ Below w.heap.size w w' := by
  have lx' := lx
  unfold maxLen at lx'
  by_cases hl : 1048576 < xs.length
  · rw [if_neg (by omega)]
    go_enter Try.func21, Try.ntmps21
    go_wp2
    go_ret
    exact ⟨rfl, Below.refl _ _⟩
  · go_enter Try.func21, Try.ntmps21
    go_wp2
    go_loop [1, 5] (fun lv iv => ∃ k : Nat, k ≤ xs.length ∧ iv = .int .i64 k ∧ lv = .int .i64 (1048576 - (xs.length : Int) - (sumS (xs.take k) : Int)) ∧ xs.length + sumS (xs.take k) ≤ 1048576) (fun _ iv => xs.length - (intOf iv).toNat)
    case atStart => exact ⟨0, Nat.zero_le _, rfl, by simp [sumS], by simp [sumS]; omega⟩
    case round =>
      obtain ⟨k, hk, rfl, rfl, hsum⟩ := hrel
      by_cases hlt : k < xs.length
      · obtain ⟨bx, ox, x, rfl, hbx, h1, hx1⟩ := hx.at k hlt
        have hsx : x.size ≤ 9223372036854775807 := by
          have := ls x (by rw [← hx1.out, List.getD_eq_getElem?_getD, List.getElem?_eq_getElem hlt]; exact List.getElem_mem _)
          unfold maxLen at this; omega
        have hs1 := Lib.hid (sumS_succ xs k hlt)
        have hle := sumS_le xs (k + 1)
        rw [hs1.out, hx1.out] at hle
        by_cases hneg : 1048576 < xs.length + sumS (xs.take k) + x.size
        · have hF := Lib.hid (if_neg (show ¬ xs.length + sumS xs ≤ 1048576 by omega) : (if xs.length + sumS xs ≤ 1048576 then 1048576 - ((xs.length + sumS xs : Nat) : Int) else -1) = -1)
          go_wp2
          go_ret
          exact ⟨rfl, Below.refl _ _⟩
        · go_wp2
          go_round
          case rel => exact ⟨k + 1, by omega, by go_num, by rw [hs1.out, hx1.out]; go_num, by rw [hs1.out, hx1.out]; omega⟩
          case measure => simp [intOf]; omega
      · have e : k = xs.length := by omega
        subst e
        rw [List.take_of_length_le (Nat.le_refl _)] at hsum
        have hF := Lib.hid (if_pos hsum : (if xs.length + sumS xs ≤ 1048576 then 1048576 - ((xs.length + sumS xs : Nat) : Int) else -1) = _)
        go_wp2
        go_ret
        exact ⟨ret_i64 (by omega), Below.refl _ _⟩
def lst (xs : List ByteArray) : List (List UInt8) := xs.map (·.data.toList)
def fJoin (xs : List ByteArray) (sep : ByteArray) : ByteArray := ⟨(Lib.join (lst xs) sep.data.toList).toArray⟩
theorem joinTail_snoc (sep : List UInt8) (r : List (List UInt8)) (y : List UInt8) : Lib.joinTail sep (r ++ [y]) = Lib.joinTail sep r ++ (sep ++ y) := by
  unfold Lib.joinTail; simp
theorem join_snoc (sep : List UInt8) {r : List (List UInt8)} (y : List UInt8) (h : r ≠ []) : Lib.join (r ++ [y]) sep = Lib.join r sep ++ sep ++ y := by
  cases r with
  | nil => exact absurd rfl h
  | cons x r => rw [List.cons_append, Lib.join_cons, Lib.join_cons, joinTail_snoc]; simp [List.append_assoc]
theorem fJoin_zero (xs : List ByteArray) (sep : ByteArray) : fJoin (xs.take 0) sep = ⟨#[]⟩ := rfl
theorem fJoin_first (xs : List ByteArray) (sep : ByteArray) (h : 0 < xs.length) {x : ByteArray} (hx : xs.getD 0 ByteArray.empty = x) : ByteArray.mk #[] ++ x = fJoin (xs.take (0 + 1)) sep := by
  apply ByteArray.ext
  rw [takeS_succ xs 0 h, hx]
  show _ = (Lib.join (lst ([] ++ [x])) sep.data.toList).toArray
  rw [ByteArray.data_append]
  simp [lst, Lib.join_one]
theorem fJoin_next (xs : List ByteArray) (sep : ByteArray) {k : Nat} (h0 : 0 < k) (h : k < xs.length) {x : ByteArray} (hx : xs.getD k ByteArray.empty = x) : fJoin (xs.take k) sep ++ sep ++ x = fJoin (xs.take (k + 1)) sep := by
  apply ByteArray.ext
  rw [takeS_succ xs k h, hx]
  show _ = (Lib.join (lst (xs.take k ++ [x])) sep.data.toList).toArray
  have hne : lst (xs.take k) ≠ [] := by
    intro e
    have e2 : (lst (xs.take k)).length = k := by simp [lst]; omega
    rw [e] at e2
    simp at e2
    omega
  rw [show lst (xs.take k ++ [x]) = lst (xs.take k) ++ [x.data.toList] by simp [lst], join_snoc _ _ hne, ByteArray.data_append, ByteArray.data_append]
  simp [fJoin]
theorem joinTail_len (sep : List UInt8) (r : List (List UInt8)) : (Lib.joinTail sep r).length = (r.map List.length).sum + r.length * sep.length := by
  induction r with
  | nil => simp [Lib.joinTail]
  | cons x r ih =>
    unfold Lib.joinTail at *
    simp only [List.map_cons, List.flatten_cons, List.length_append, ih, List.sum_cons, List.length_cons, Nat.succ_mul]
    omega
theorem join_len (sep : List UInt8) (r : List (List UInt8)) : (Lib.join r sep).length ≤ (r.map List.length).sum + r.length * sep.length := by
  cases r with
  | nil => simp [Lib.join_nil]
  | cons x r =>
    rw [Lib.join_cons, List.length_append, joinTail_len]
    simp only [List.map_cons, List.sum_cons, List.length_cons, Nat.succ_mul]
    omega
theorem fJoin_size (xs : List ByteArray) (sep : ByteArray) : (fJoin xs sep).size ≤ sumS xs + xs.length * sep.size := by
  have h := join_len sep.data.toList (lst xs)
  have e1 : (fJoin xs sep).size = (Lib.join (lst xs) sep.data.toList).length := by simp [fJoin, ByteArray.size]
  have e2 : ((lst xs).map List.length).sum = sumS xs := by
    unfold lst sumS; rw [List.map_map]; congr 1
  have e3 : (lst xs).length = xs.length := by simp [lst]
  rw [e1]
  rw [e2, e3] at h
  simpa using h
set_option maxHeartbeats 800000 in
theorem spec_Join (a : Option Addr) (ca : Nat) (xs : List ByteArray) (sep : ByteArray) (w : World) (hx : RdS w a xs) (lx : xs.length ≤ 1048576) (ls : sumS xs ≤ 1048576) (hs : sep.size ≤ 1048576) :
    Calls Try.prog 22 #[.slice a xs.length ca, .string sep] w fun e w' => e = .returned (.string (fJoin xs sep)) ∧ Below w.heap.size w w' := by
  have hbig : ∀ k, k ≤ xs.length → (fJoin (xs.take k) sep).size ≤ 1099513000000 := by
    intro k hk
    have h1 := fJoin_size (xs.take k) sep
    have h2 := sumS_le xs k
    rw [List.length_take, Nat.min_eq_left hk] at h1
    have h3 : k * sep.size ≤ 1048576 * 1048576 := Nat.mul_le_mul (by omega) hs
    omega
  have HB := Lib.hid hbig
  clear hbig
  go_enter Try.func22, Try.ntmps22
  go_wp2
  go_loop [5, 6, 7, 10] (fun sv _ _ iv => ∃ k : Nat, k ≤ xs.length ∧ iv = .int .i64 k ∧ sv = .string (fJoin (xs.take k) sep)) (fun _ _ _ iv => xs.length - (intOf iv).toNat)
  case atStart => exact ⟨0, Nat.zero_le _, rfl, rfl⟩
  case round =>
    obtain ⟨k, hk, rfl, rfl⟩ := hrel
    by_cases hlt : k < xs.length
    · obtain ⟨bx, ox, x, rfl, hbx, h1, hx1⟩ := hx.at k hlt
      have hb1 := HB.out k hk
      have hxs : x.size ≤ 1048576 := by
        have h2 := sumS_le xs (k + 1)
        rw [sumS_succ xs k hlt, hx1.out] at h2
        omega
      obtain ⟨S, hS⟩ : ∃ S, S = fJoin (xs.take k) sep := ⟨_, rfl⟩
      rw [← hS] at hb1 ⊢
      have HS := Lib.hid hS
      clear hS
      by_cases h0 : 0 < k
      · have hN := Lib.hid (show S ++ sep ++ x = fJoin (xs.take (k + 1)) sep by rw [HS.out]; exact fJoin_next xs sep h0 hlt hx1.out)
        have hsz : (S ++ sep).size = S.size + sep.size := ByteArray.size_append
        go_wp2
        go_round
        case rel => exact ⟨k + 1, by omega, by go_num, by rw [hN.out]⟩
        case measure => simp [intOf]; omega
      · have e : k = 0 := by omega
        subst e
        have hN := Lib.hid (show S ++ x = fJoin (xs.take (0 + 1)) sep by rw [HS.out, fJoin_zero]; exact fJoin_first xs sep hlt hx1.out)
        rw [Nat.add_zero] at h1
        go_wp2
        go_round
        case rel => exact ⟨1, by omega, by go_num, congrArg Value.string hN.out⟩
        case measure => simp [intOf]; omega
    · have e : k = xs.length := by omega
      subst e
      have hT := Lib.hid (List.take_of_length_le (Nat.le_refl xs.length) : xs.take xs.length = xs)
      go_wp2
      go_ret
      exact ⟨rfl, Below.refl _ _⟩
def Try.laysJoin_ren : Go.Shelf.Ren := ⟨fun | 156 => 44 | 165 => 58 | 166 => 59 | 169 => 60 | 240 => 80 | 241 => 81 | 276 => 88 | 277 => 89 | n => n, fun | 31 => 22 | 9 => 9 | 3 => 3 | 4 => 4 | 0 => 0 | 20 => 20 | 72 => 61 | 76 => 65 | 70 => 59 | 37 => 58 | 75 => 64 | 127 => 75 | 164 => 85 | 5 => 5 | 80 => 67 | n => n, fun | n => n⟩
theorem Try.laysJoin : Go.Proofs.Lays.n156 Try.prog Try.laysJoin_ren := {
  mixed := by kernel_rfl
  f156 := Try.func44.trans (congrArg some (by kernel_rfl))
  f165 := Try.func58.trans (congrArg some (by kernel_rfl))
  f166 := Try.func59.trans (congrArg some (by kernel_rfl))
  f169 := Try.func60.trans (congrArg some (by kernel_rfl))
  f240 := Try.func80.trans (congrArg some (by kernel_rfl))
  f241 := Try.func81.trans (congrArg some (by kernel_rfl))
  f276 := Try.func88.trans (congrArg some (by kernel_rfl))
  f277 := Try.func89.trans (congrArg some (by kernel_rfl))
  t0 := Try.underlying0
  a0 := Try.isAgg0
  z0 := Try.sizeOf0
  v0 := Try.zeroValue0
  t3 := Try.underlying3
  a3 := Try.isAgg3
  z3 := Try.sizeOf3
  v3 := Try.zeroValue3
  t4 := Try.underlying4
  a4 := Try.isAgg4
  z4 := Try.sizeOf4
  v4 := Try.zeroValue4
  t9 := Try.underlying9
  a9 := Try.isAgg9
  z9 := Try.sizeOf9
  v9 := Try.zeroValue9
  t20 := Try.underlying20
  a20 := Try.isAgg20
  z20 := Try.sizeOf20
  v20 := Try.zeroValue20
  t31 := Try.underlying22
  a31 := Try.isAgg22
  z31 := Try.sizeOf22
  v31 := Try.zeroValue22
  t37 := Try.underlying58
  a37 := Try.isAgg58
  z37 := Try.sizeOf58
  v37 := Try.zeroValue58
  t70 := Try.underlying59
  a70 := Try.isAgg59
  z70 := Try.sizeOf59
  v70 := Try.zeroValue59
  t72 := Try.underlying61
  a72 := Try.isAgg61
  z72 := Try.sizeOf61
  v72 := Try.zeroValue61
  t75 := Try.underlying64
  a75 := Try.isAgg64
  z75 := Try.sizeOf64
  v75 := Try.zeroValue64
  t76 := Try.underlying65
  a76 := Try.isAgg65
  z76 := Try.sizeOf65
  v76 := Try.zeroValue65
  t127 := Try.underlying75
  a127 := Try.isAgg75
  z127 := Try.sizeOf75
  v127 := Try.zeroValue75
  t164 := Try.underlying85
  a164 := Try.isAgg85
  z164 := Try.sizeOf85
  v164 := Try.zeroValue85 }
theorem extraJoin : Builder.Extra Try.prog Try.laysJoin_ren := {
  sizeBuilder := by kernel_rfl
  liesBuilder := by kernel_rfl
  t5 := Try.underlying5
  a5 := Try.isAgg5
  z5 := Try.sizeOf5
  v5 := Try.zeroValue5
  infoByte := by kernel_rfl
  cellsByte := by kernel_rfl
  sizeByte := by kernel_rfl
  neB5 := by decide }
theorem fJoinNum : Try.laysJoin_ren.f 156 = 44 := by kernel_rfl
theorem stringsJoin_any (a : Option Addr) (ca : Nat) (xs : List ByteArray) (sep : ByteArray) (w : World) (hx : RdS w a xs) (lx : xs.length ≤ 1048576) (hca : xs.length ≤ ca) (ls : sumS xs ≤ 1048576) (hs : sep.size ≤ 1048576) :
    Calls Try.prog 44 #[.slice a xs.length ca, .string sep] w fun e w' => e = .returned (.string (fJoin xs sep)) ∧ Below w.heap.size w w' := by
  rcases hx with rfl | ⟨b, off, rfl, hlt, hc⟩
  · have h := Any.strings_Join_none Try.laysJoin extraJoin a ca sep w
    rw [fJoinNum] at h
    refine h.mono fun e w' ⟨he, hw⟩ => ⟨?_, hw ▸ Below.refl _ _⟩
    rw [he]; rfl
  · have hsz := fJoin_size xs sep
    have h3 : xs.length * sep.size ≤ 1048576 * 1048576 := Nat.mul_le_mul lx hs
    have e1 : (fJoin xs sep).size = (Lib.join (lst xs) sep.data.toList).length := by simp [fJoin, ByteArray.size]
    have h := Any.strings_Join Try.laysJoin extraJoin b off ca xs sep w (by
      intro j x hj
      have hjl : j < xs.length := by
        rcases Nat.lt_or_ge j xs.length with h | h
        · exact h
        · rw [List.getElem?_eq_none h] at hj; cases hj
      rw [hc j hjl, List.getD_eq_getElem?_getD, hj]; rfl) hlt (by omega) hca (by show (Lib.join (lst xs) sep.data.toList).length ≤ _; omega)
    rw [fJoinNum] at h
    exact h
theorem impl_Join (a : Option Addr) (ca : Nat) (xs : List ByteArray) (sep : ByteArray) (w : World) (hx : RdS w a xs) (lx : xs.length ≤ 1048576) (hca : xs.length ≤ ca) (ls : sumS xs ≤ 1048576) (hs : sep.size ≤ 1048576) :
    Calls Try.prog 24 #[.slice a xs.length ca, .string sep] w fun e w' => e = .returned (.string (fJoin xs sep)) ∧ Below w.heap.size w w' := by
  go_enter Try.func24, Try.ntmps24
  go_wp2_with fail
  refine (stringsJoin_any _ _ _ _ _ hx lx hca ls hs).mono ?_
  rintro e w1 ⟨rfl, hb⟩
  go_wp2
  go_ret
  exact ⟨rfl, hb⟩
theorem rdS_of_cells {w : World} {x : Addr} {zs : List ByteArray} (hc : ∀ i, i < zs.length → w.cell? (x.add i) = some (.string (zs.getD i ByteArray.empty))) (len : Nat) : RdS w (some x) (zs.take len) := by
  by_cases h0 : 0 < zs.length
  · obtain ⟨b, off, spot⟩ := x
    have hspot : spot = none := by simpa [Addr.add] using World.cell?_spot (hc 0 h0)
    subst hspot
    have hc2 : ∀ i, i < zs.length → w.cell? ⟨b, off + i, none⟩ = some (.string (zs.getD i ByteArray.empty)) := fun j hj => by rw [← Go.WideShapes.add_plain]; exact hc j hj
    refine RdS.take (.inr ⟨b, off, rfl, ?_, hc2⟩) len
    exact World.block_lt_of_cell? w ⟨b, off + 0, none⟩ (hc2 0 h0)
  · have : zs = [] := List.eq_nil_of_length_eq_zero (by omega)
    subst this; simp [RdS]
end Go.Proofs.Ythjcdcmhgghliaa
