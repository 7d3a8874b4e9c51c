/- The walks of Join (program and reference) and of the laws' helpers toStringS, szStringS. For every texts within the reach. -/
import Derived.Test.YtogkonenejfgmaaDoorWStrS
import Derived.Shelf.Strings.OnBuilder
import Derived.Shelf.Lay
import Derived.Ground.NamesProg
import Derived.Lib.Agree
namespace Go.Proofs.YtogkonenejfgmaaDoor
open Go.RowKit Go.Shelf
theorem zerosS_eq (n : Nat) : (madeCells #[Value.string ByteArray.empty] n).toList = (List.replicate n ByteArray.empty).map Value.string := by
  rw [toList_madeCells_one, List.map_replicate]
theorem OwnS.made {w : World} {B g n : Nat} (h : w.ownsRow B 9 1 (.slice (some ⟨g, 0, none⟩) n n) n (madeCells #[Value.string ByteArray.empty] n).toList) :
    OwnS w B (some ⟨g, 0, none⟩) n (List.replicate n ByteArray.empty) := by
  unfold OwnS; rw [List.length_replicate, ← zerosS_eq]; exact h
theorem takeS_succ (xs : List ByteArray) (k : Nat) (h : k < xs.length) : xs.take (k + 1) = xs.take k ++ [xs.getD k ByteArray.empty] := by
  rw [List.take_succ_eq_append_getElem h]
  simp [List.getD, h]
theorem fillS_step {xs : List ByteArray} {k n : Nat} (hk : k < xs.length) (x : ByteArray) (hx : xs.getD k ByteArray.empty = x) (hn : n = xs.length - k) :
    (xs.take k ++ List.replicate n ByteArray.empty).set k x = xs.take (k + 1) ++ List.replicate (xs.length - (k + 1)) ByteArray.empty := by
  subst hn
  rw [takeS_succ xs k hk, hx]
  have e : xs.length - k = (xs.length - (k + 1)) + 1 := by omega
  rw [e, List.replicate_succ, List.set_append_right _ _ (by rw [List.length_take]; omega), List.length_take, Nat.min_eq_left (by omega), Nat.sub_self]
  simp
def sumS (xs : List ByteArray) : Nat := (xs.map ByteArray.size).sum
theorem sumS_succ (xs : List ByteArray) (k : Nat) (h : k < xs.length) : sumS (xs.take (k + 1)) = sumS (xs.take k) + (xs.getD k ByteArray.empty).size := by
  rw [takeS_succ xs k h]; simp [sumS]
theorem sumS_append (a b : List ByteArray) : sumS (a ++ b) = sumS a + sumS b := by simp [sumS]
theorem sumS_le (xs : List ByteArray) (k : Nat) : sumS (xs.take k) ≤ sumS xs := by
  have := sumS_append (xs.take k) (xs.drop k)
  rw [List.take_append_drop] at this
  omega
def lst (xs : List ByteArray) : List (List UInt8) := xs.map (·.data.toList)
def fJoin (xs : List ByteArray) (sep : ByteArray) : ByteArray := ⟨(Lib.join (lst xs) sep.data.toList).toArray⟩
theorem joinTail_snoc (sep : List UInt8) (r : List (List UInt8)) (y : List UInt8) : Lib.joinTail sep (r ++ [y]) = Lib.joinTail sep r ++ (sep ++ y) := by
  unfold Lib.joinTail; simp
theorem join_snoc (sep : List UInt8) {r : List (List UInt8)} (y : List UInt8) (h : r ≠ []) : Lib.join (r ++ [y]) sep = Lib.join r sep ++ sep ++ y := by
  cases r with
  | nil => exact absurd rfl h
  | cons x r => rw [List.cons_append, Lib.join_cons, Lib.join_cons, joinTail_snoc]; simp [List.append_assoc]
theorem fJoin_zero (xs : List ByteArray) (sep : ByteArray) : fJoin (xs.take 0) sep = ⟨#[]⟩ := rfl
theorem fJoin_first (xs : List ByteArray) (sep : ByteArray) (h : 0 < xs.length) {x : ByteArray} (hx : xs.getD 0 ByteArray.empty = x) : ByteArray.mk #[] ++ x = fJoin (xs.take (0 + 1)) sep := by
  apply ByteArray.ext
  rw [takeS_succ xs 0 h, hx]
  show _ = (Lib.join (lst ([] ++ [x])) sep.data.toList).toArray
  rw [ByteArray.data_append]
  simp [lst, Lib.join_one]
theorem fJoin_next (xs : List ByteArray) (sep : ByteArray) {k : Nat} (h0 : 0 < k) (h : k < xs.length) {x : ByteArray} (hx : xs.getD k ByteArray.empty = x) : fJoin (xs.take k) sep ++ sep ++ x = fJoin (xs.take (k + 1)) sep := by
  apply ByteArray.ext
  rw [takeS_succ xs k h, hx]
  show _ = (Lib.join (lst (xs.take k ++ [x])) sep.data.toList).toArray
  have hne : lst (xs.take k) ≠ [] := by
    intro e
    have e2 : (lst (xs.take k)).length = k := by simp [lst]; omega
    rw [e] at e2
    simp at e2
    omega
  rw [show lst (xs.take k ++ [x]) = lst (xs.take k) ++ [x.data.toList] by simp [lst], join_snoc _ _ hne, ByteArray.data_append, ByteArray.data_append]
  simp [fJoin]
theorem joinTail_len (sep : List UInt8) (r : List (List UInt8)) : (Lib.joinTail sep r).length = (r.map List.length).sum + r.length * sep.length := by
  induction r with
  | nil => simp [Lib.joinTail]
  | cons x r ih =>
    unfold Lib.joinTail at *
    simp only [List.map_cons, List.flatten_cons, List.length_append, ih, List.sum_cons, List.length_cons, Nat.succ_mul]
    omega
theorem join_len (sep : List UInt8) (r : List (List UInt8)) : (Lib.join r sep).length ≤ (r.map List.length).sum + r.length * sep.length := by
  cases r with
  | nil => simp [Lib.join_nil]
  | cons x r =>
    rw [Lib.join_cons, List.length_append, joinTail_len]
    simp only [List.map_cons, List.sum_cons, List.length_cons, Nat.succ_mul]
    omega
theorem fJoin_size (xs : List ByteArray) (sep : ByteArray) : (fJoin xs sep).size ≤ sumS xs + xs.length * sep.size := by
  have h := join_len sep.data.toList (lst xs)
  have e1 : (fJoin xs sep).size = (Lib.join (lst xs) sep.data.toList).length := by simp [fJoin, ByteArray.size]
  have e2 : ((lst xs).map List.length).sum = sumS xs := by
    unfold lst sumS; rw [List.map_map]; congr 1
  have e3 : (lst xs).length = xs.length := by simp [lst]
  rw [e1]
  rw [e2, e3] at h
  simpa using h
shelf_lay Lays.n156 Nm 156 at Tryd as Tryd.laysJoin
theorem extraJoin : Builder.Extra Tryd.prog Tryd.laysJoin_ren where
  sizeBuilder := by kernel_rfl
  liesBuilder := by kernel_rfl
  t5 := Tryd.underlying5
  a5 := Tryd.isAgg5
  z5 := Tryd.sizeOf5
  v5 := Tryd.zeroValue5
  infoByte := by kernel_rfl
  cellsByte := by kernel_rfl
  sizeByte := by kernel_rfl
  neB5 := by decide
theorem fJoinNum : Tryd.laysJoin_ren.f 156 = 49 := by kernel_rfl
theorem stringsJoin_any (a : Option Addr) (ca : Nat) (xs : List ByteArray) (sep : ByteArray) (w : World) (hx : RdS w a xs) (lx : xs.length ≤ 1048576) (hca : xs.length ≤ ca) (ls : sumS xs ≤ 1048576) (hs : sep.size ≤ 1048576) :
    Calls Tryd.prog 49 #[.slice a xs.length ca, .string sep] w fun e w' => e = .returned (.string (fJoin xs sep)) ∧ Below w.heap.size w w' := by
  rcases hx with rfl | ⟨b, off, rfl, hlt, hc⟩
  · have h := Any.strings_Join_none Tryd.laysJoin extraJoin a ca sep w
    rw [fJoinNum] at h
    refine h.mono fun e w' ⟨he, hw⟩ => ⟨?_, hw ▸ Below.refl _ _⟩
    rw [he]; rfl
  · have hsz := fJoin_size xs sep
    have h3 : xs.length * sep.size ≤ 1048576 * 1048576 := Nat.mul_le_mul lx hs
    have e1 : (fJoin xs sep).size = (Lib.join (lst xs) sep.data.toList).length := by simp [fJoin, ByteArray.size]
    have h := Any.strings_Join Tryd.laysJoin extraJoin b off ca xs sep w (by
      intro j x hj
      have hjl : j < xs.length := by
        rcases Nat.lt_or_ge j xs.length with h | h
        · exact h
        · rw [List.getElem?_eq_none h] at hj; cases hj
      rw [hc j hjl, List.getD_eq_getElem?_getD, hj]; rfl) hlt (by omega) hca (by show (Lib.join (lst xs) sep.data.toList).length ≤ _; omega)
    rw [fJoinNum] at h
    exact h
theorem impl_Join (a : Option Addr) (ca : Nat) (xs : List ByteArray) (sep : ByteArray) (w : World) (hx : RdS w a xs) (lx : xs.length ≤ 1048576) (hca : xs.length ≤ ca) (ls : sumS xs ≤ 1048576) (hs : sep.size ≤ 1048576) :
    Calls Tryd.prog 11 #[.slice a xs.length ca, .string sep] w fun e w' => e = .returned (.string (fJoin xs sep)) ∧ Below w.heap.size w w' := by
  go_enter Tryd.func11, Tryd.ntmps11
  go_wp2_with fail
  refine (stringsJoin_any _ _ _ _ _ hx lx hca ls hs).mono ?_
  rintro e w1 ⟨rfl, hb⟩
  go_wp2
  go_ret
  exact ⟨rfl, hb⟩
theorem rdS_of_cells {w : World} {x : Addr} {zs : List ByteArray} (hc : ∀ i, i < zs.length → w.cell? (x.add i) = some (.string (zs.getD i ByteArray.empty))) (len : Nat) : RdS w (some x) (zs.take len) := by
  by_cases h0 : 0 < zs.length
  · obtain ⟨b, off, spot⟩ := x
    have hspot : spot = none := by simpa [Addr.add] using World.cell?_spot (hc 0 h0)
    subst hspot
    have hc2 : ∀ i, i < zs.length → w.cell? ⟨b, off + i, none⟩ = some (.string (zs.getD i ByteArray.empty)) := fun j hj => by rw [← Go.WideShapes.add_plain]; exact hc j hj
    refine RdS.take (.inr ⟨b, off, rfl, ?_, hc2⟩) len
    exact World.block_lt_of_cell? w ⟨b, off + 0, none⟩ (hc2 0 h0)
  · have : zs = [] := List.eq_nil_of_length_eq_zero (by omega)
    subst this; simp [RdS]
end Go.Proofs.YtogkonenejfgmaaDoor
