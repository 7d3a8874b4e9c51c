/- The walks of Join (program and reference) and of the laws' helpers toStringS, szStringS. For every texts within the reach. -/
import Derived.Test.YtogkonenejfgmaaDoorWStrS
import Derived.Shelf.Strings.OnBuilder
import Derived.Lib.Agree
namespace Go.Proofs.YtogkonenejfgmaaDoor
open Go.RowKit Go.Shelf
theorem zerosS_eq (n : Nat) : (madeCells #[Value.string ByteArray.empty] n).toList = (List.replicate n ByteArray.empty).map Value.string := by
  rw [toList_madeCells_one, List.map_replicate]
theorem OwnS.made {w : World} {B g n : Nat} (h : w.ownsRow B 9 1 (.slice (some ⟨g, 0, none⟩) n n) n (madeCells #[Value.string ByteArray.empty] n).toList) :
    OwnS w B (some ⟨g, 0, none⟩) n (List.replicate n ByteArray.empty) := by
  unfold OwnS; rw [List.length_replicate, ← zerosS_eq]; exact h
theorem takeS_succ (xs : List ByteArray) (k : Nat) (h : k < xs.length) : xs.take (k + 1) = xs.take k ++ [xs.getD k ByteArray.empty] := by
  rw [List.take_succ_eq_append_getElem h]
  simp [List.getD, h]
theorem fillS_step {xs : List ByteArray} {k n : Nat} (hk : k < xs.length) (x : ByteArray) (hx : xs.getD k ByteArray.empty = x) (hn : n = xs.length - k) :
    (xs.take k ++ List.replicate n ByteArray.empty).set k x = xs.take (k + 1) ++ List.replicate (xs.length - (k + 1)) ByteArray.empty := by
  subst hn
  rw [takeS_succ xs k hk, hx]
  have e : xs.length - k = (xs.length - (k + 1)) + 1 := by omega
  rw [e, List.replicate_succ, List.set_append_right _ _ (by rw [List.length_take]; omega), List.length_take, Nat.min_eq_left (by omega), Nat.sub_self]
  simp
def sumS (xs : List ByteArray) : Nat := (xs.map ByteArray.size).sum
theorem sumS_succ (xs : List ByteArray) (k : Nat) (h : k < xs.length) : sumS (xs.take (k + 1)) = sumS (xs.take k) + (xs.getD k ByteArray.empty).size := by
  rw [takeS_succ xs k h]; simp [sumS]
theorem sumS_append (a b : List ByteArray) : sumS (a ++ b) = sumS a + sumS b := by simp [sumS]
theorem sumS_le (xs : List ByteArray) (k : Nat) : sumS (xs.take k) ≤ sumS xs := by
  have := sumS_append (xs.take k) (xs.drop k)
  rw [List.take_append_drop] at this
  omega
def lst (xs : List ByteArray) : List (List UInt8) := xs.map (·.data.toList)
def fJoin (xs : List ByteArray) (sep : ByteArray) : ByteArray := ⟨(Lib.join (lst xs) sep.data.toList).toArray⟩
theorem joinTail_snoc (sep : List UInt8) (r : List (List UInt8)) (y : List UInt8) : Lib.joinTail sep (r ++ [y]) = Lib.joinTail sep r ++ (sep ++ y) := by
  unfold Lib.joinTail; simp
theorem join_snoc (sep : List UInt8) {r : List (List UInt8)} (y : List UInt8) (h : r ≠ []) : Lib.join (r ++ [y]) sep = Lib.join r sep ++ sep ++ y := by
  cases r with
  | nil => exact absurd rfl h
  | cons x r => rw [List.cons_append, Lib.join_cons, Lib.join_cons, joinTail_snoc]; simp [List.append_assoc]
theorem fJoin_zero (xs : List ByteArray) (sep : ByteArray) : fJoin (xs.take 0) sep = ⟨#[]⟩ := rfl
theorem fJoin_first (xs : List ByteArray) (sep : ByteArray) (h : 0 < xs.length) {x : ByteArray} (hx : xs.getD 0 ByteArray.empty = x) : ByteArray.mk #[] ++ x = fJoin (xs.take (0 + 1)) sep := by
  apply ByteArray.ext
  rw [takeS_succ xs 0 h, hx]
  show _ = (Lib.join (lst ([] ++ [x])) sep.data.toList).toArray
  rw [ByteArray.data_append]
  simp [lst, Lib.join_one]
theorem fJoin_next (xs : List ByteArray) (sep : ByteArray) {k : Nat} (h0 : 0 < k) (h : k < xs.length) {x : ByteArray} (hx : xs.getD k ByteArray.empty = x) : fJoin (xs.take k) sep ++ sep ++ x = fJoin (xs.take (k + 1)) sep := by
  apply ByteArray.ext
  rw [takeS_succ xs k h, hx]
  show _ = (Lib.join (lst (xs.take k ++ [x])) sep.data.toList).toArray
  have hne : lst (xs.take k) ≠ [] := by
    intro e
    have e2 : (lst (xs.take k)).length = k := by simp [lst]; omega
    rw [e] at e2
    simp at e2
    omega
  rw [show lst (xs.take k ++ [x]) = lst (xs.take k) ++ [x.data.toList] by simp [lst], join_snoc _ _ hne, ByteArray.data_append, ByteArray.data_append]
  simp [fJoin]
theorem joinTail_len (sep : List UInt8) (r : List (List UInt8)) : (Lib.joinTail sep r).length = (r.map List.length).sum + r.length * sep.length := by
  induction r with
  | nil => simp [Lib.joinTail]
  | cons x r ih =>
    unfold Lib.joinTail at *
    simp only [List.map_cons, List.flatten_cons, List.length_append, ih, List.sum_cons, List.length_cons, Nat.succ_mul]
    omega
theorem join_len (sep : List UInt8) (r : List (List UInt8)) : (Lib.join r sep).length ≤ (r.map List.length).sum + r.length * sep.length := by
  cases r with
  | nil => simp [Lib.join_nil]
  | cons x r =>
    rw [Lib.join_cons, List.length_append, joinTail_len]
    simp only [List.map_cons, List.sum_cons, List.length_cons, Nat.succ_mul]
    omega
theorem fJoin_size (xs : List ByteArray) (sep : ByteArray) : (fJoin xs sep).size ≤ sumS xs + xs.length * sep.size := by
  have h := join_len sep.data.toList (lst xs)
  have e1 : (fJoin xs sep).size = (Lib.join (lst xs) sep.data.toList).length := by simp [fJoin, ByteArray.size]
  have e2 : ((lst xs).map List.length).sum = sumS xs := by
    unfold lst sumS; rw [List.map_map]; congr 1
  have e3 : (lst xs).length = xs.length := by simp [lst]
  rw [e1]
  rw [e2, e3] at h
  simpa using h
def Tryd.laysJoin_ren : Go.Shelf.Ren := ⟨fun | 156 => 49 | 165 => 84 | 166 => 85 | 169 => 87 | 240 => 107 | 241 => 108 | 276 => 121 | 277 => 122 | n => n, fun | 31 => 27 | 9 => 9 | 3 => 3 | 4 => 4 | 0 => 0 | 20 => 20 | 72 => 91 | 76 => 70 | 70 => 89 | 37 => 22 | 75 => 69 | 127 => 112 | 164 => 126 | 5 => 5 | 80 => 94 | n => n, fun | n => n⟩
theorem Tryd.laysJoin : Go.Proofs.Lays.n156 Tryd.prog Tryd.laysJoin_ren := {
  mixed := by kernel_rfl
  f156 := Tryd.func49.trans (congrArg some (by kernel_rfl))
  f165 := Tryd.func84.trans (congrArg some (by kernel_rfl))
  f166 := Tryd.func85.trans (congrArg some (by kernel_rfl))
  f169 := Tryd.func87.trans (congrArg some (by kernel_rfl))
  f240 := Tryd.func107.trans (congrArg some (by kernel_rfl))
  f241 := Tryd.func108.trans (congrArg some (by kernel_rfl))
  f276 := Tryd.func121.trans (congrArg some (by kernel_rfl))
  f277 := Tryd.func122.trans (congrArg some (by kernel_rfl))
  t0 := Tryd.underlying0
  a0 := Tryd.isAgg0
  z0 := Tryd.sizeOf0
  v0 := Tryd.zeroValue0
  t3 := Tryd.underlying3
  a3 := Tryd.isAgg3
  z3 := Tryd.sizeOf3
  v3 := Tryd.zeroValue3
  t4 := Tryd.underlying4
  a4 := Tryd.isAgg4
  z4 := Tryd.sizeOf4
  v4 := Tryd.zeroValue4
  t9 := Tryd.underlying9
  a9 := Tryd.isAgg9
  z9 := Tryd.sizeOf9
  v9 := Tryd.zeroValue9
  t20 := Tryd.underlying20
  a20 := Tryd.isAgg20
  z20 := Tryd.sizeOf20
  v20 := Tryd.zeroValue20
  t31 := Tryd.underlying27
  a31 := Tryd.isAgg27
  z31 := Tryd.sizeOf27
  v31 := Tryd.zeroValue27
  t37 := Tryd.underlying22
  a37 := Tryd.isAgg22
  z37 := Tryd.sizeOf22
  v37 := Tryd.zeroValue22
  t70 := Tryd.underlying89
  a70 := Tryd.isAgg89
  z70 := Tryd.sizeOf89
  v70 := Tryd.zeroValue89
  t72 := Tryd.underlying91
  a72 := Tryd.isAgg91
  z72 := Tryd.sizeOf91
  v72 := Tryd.zeroValue91
  t75 := Tryd.underlying69
  a75 := Tryd.isAgg69
  z75 := Tryd.sizeOf69
  v75 := Tryd.zeroValue69
  t76 := Tryd.underlying70
  a76 := Tryd.isAgg70
  z76 := Tryd.sizeOf70
  v76 := Tryd.zeroValue70
  t127 := Tryd.underlying112
  a127 := Tryd.isAgg112
  z127 := Tryd.sizeOf112
  v127 := Tryd.zeroValue112
  t164 := Tryd.underlying126
  a164 := Tryd.isAgg126
  z164 := Tryd.sizeOf126
  v164 := Tryd.zeroValue126 }
theorem extraJoin : Builder.Extra Tryd.prog Tryd.laysJoin_ren := {
  sizeBuilder := by kernel_rfl
  liesBuilder := by kernel_rfl
  t5 := Tryd.underlying5
  a5 := Tryd.isAgg5
  z5 := Tryd.sizeOf5
  v5 := Tryd.zeroValue5
  infoByte := by kernel_rfl
  cellsByte := by kernel_rfl
  sizeByte := by kernel_rfl
  neB5 := by decide }
theorem fJoinNum : Tryd.laysJoin_ren.f 156 = 49 := by kernel_rfl
theorem stringsJoin_any (a : Option Addr) (ca : Nat) (xs : List ByteArray) (sep : ByteArray) (w : World) (hx : RdS w a xs) (lx : xs.length ≤ 1048576) (hca : xs.length ≤ ca) (ls : sumS xs ≤ 1048576) (hs : sep.size ≤ 1048576) :
    Calls Tryd.prog 49 #[.slice a xs.length ca, .string sep] w fun e w' => e = .returned (.string (fJoin xs sep)) ∧ Below w.heap.size w w' := by
  rcases hx with rfl | ⟨b, off, rfl, hlt, hc⟩
  · have h := Any.strings_Join_none Tryd.laysJoin extraJoin a ca sep w
    rw [fJoinNum] at h
    refine h.mono fun e w' ⟨he, hw⟩ => ⟨?_, hw ▸ Below.refl _ _⟩
    rw [he]; rfl
  · have hsz := fJoin_size xs sep
    have h3 : xs.length * sep.size ≤ 1048576 * 1048576 := Nat.mul_le_mul lx hs
    have e1 : (fJoin xs sep).size = (Lib.join (lst xs) sep.data.toList).length := by simp [fJoin, ByteArray.size]
    have h := Any.strings_Join Tryd.laysJoin extraJoin b off ca xs sep w (by
      intro j x hj
      have hjl : j < xs.length := by
        rcases Nat.lt_or_ge j xs.length with h | h
        · exact h
        · rw [List.getElem?_eq_none h] at hj; cases hj
      rw [hc j hjl, List.getD_eq_getElem?_getD, hj]; rfl) hlt (by omega) hca (by show (Lib.join (lst xs) sep.data.toList).length ≤ _; omega)
    rw [fJoinNum] at h
    exact h
theorem impl_Join (a : Option Addr) (ca : Nat) (xs : List ByteArray) (sep : ByteArray) (w : World) (hx : RdS w a xs) (lx : xs.length ≤ 1048576) (hca : xs.length ≤ ca) (ls : sumS xs ≤ 1048576) (hs : sep.size ≤ 1048576) :
    Calls Tryd.prog 11 #[.slice a xs.length ca, .string sep] w fun e w' => e = .returned (.string (fJoin xs sep)) ∧ Below w.heap.size w w' := by
  go_enter Tryd.func11, Tryd.ntmps11
  go_wp2_with fail
  refine (stringsJoin_any _ _ _ _ _ hx lx hca ls hs).mono ?_
  rintro e w1 ⟨rfl, hb⟩
  go_wp2
  go_ret
  exact ⟨rfl, hb⟩
theorem rdS_of_cells {w : World} {x : Addr} {zs : List ByteArray} (hc : ∀ i, i < zs.length → w.cell? (x.add i) = some (.string (zs.getD i ByteArray.empty))) (len : Nat) : RdS w (some x) (zs.take len) := by
  by_cases h0 : 0 < zs.length
  · obtain ⟨b, off, spot⟩ := x
    have hspot : spot = none := by simpa [Addr.add] using World.cell?_spot (hc 0 h0)
    subst hspot
    have hc2 : ∀ i, i < zs.length → w.cell? ⟨b, off + i, none⟩ = some (.string (zs.getD i ByteArray.empty)) := fun j hj => by rw [← Go.WideShapes.add_plain]; exact hc j hj
    refine RdS.take (.inr ⟨b, off, rfl, ?_, hc2⟩) len
    exact World.block_lt_of_cell? w ⟨b, off + 0, none⟩ (hc2 0 h0)
  · have : zs = [] := List.eq_nil_of_length_eq_zero (by omega)
    subst this; simp [RdS]
end Go.Proofs.YtogkonenejfgmaaDoor
