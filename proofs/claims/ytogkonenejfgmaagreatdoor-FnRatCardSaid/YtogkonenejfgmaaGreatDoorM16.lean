/- Words for the long division in memory: an append into a row with room; a row kept through writes to another block; the limbs in the middle of a row. No condition. -/
import Derived.Deep.DeepAppendRoom
import Derived.Test.YtogkonenejfgmaaGreatDoorM01
import Derived.Test.YtogkonenejfgmaaGreatDoorM04
import Derived.Test.YtogkonenejfgmaaGreatDoorM15
namespace Go.Proofs.YtogkonenejfgmaaGreatDoor
open Go.RowKit
theorem bel_al (w : World) (o : Obj) : Below w.heap.size w (w.alloc o) := (Below.refl _ _).alloc (Nat.le_refl _) o
theorem Rd.wr {w w' : World} {g : Nat} {a : Option Addr} {xs : List Int} (h : Rd w a xs) (hw : Wr w w' g (g + 1)) (ho : ∀ p, a = some p → p.block ≠ g) : Rd w' a xs := by
  rcases h with h | ⟨b, off, rfl, hlt, hc⟩
  · exact .inl h
  · have hne : b ≠ g := ho _ rfl
    exact .inr ⟨b, off, rfl, Nat.lt_of_lt_of_le hlt hw.size, fun i hi => cell_keep_wr hw (hc i hi) (by omega)⟩
theorem appRoom {ops : Array Oper} {rest : List Oper} {o : Oper} {act : Act} {Q : Exit → Act → World → Prop} (w : World) (hgd : o.guard = none) (s x : Operand)
    (ho : o.op = .call { callee := .builtin .append, args := #[s, x], argTypes := #[23, 23] })
    (B g cap : Nat) (xs : List Int) (v : Int) (hs : act.eval s = .slice (some ⟨g, 0, none⟩) xs.length cap) (hx : act.eval x = .slice (some ⟨w.heap.size, 0, none⟩) 1 1)
    (hown : Own w B (some ⟨g, 0, none⟩) cap xs) (hroom : xs.length + 1 ≤ cap)
    (h : ∀ w', Own w' B (some ⟨g, 0, none⟩) cap (xs ++ [v]) → Wr w w' g (g + 1) → wpList Tryz.prog ops Q rest (act.put o.dst (.slice (some ⟨g, 0, none⟩) (xs ++ [v]).length cap)) w') :
    wpList Tryz.prog ops Q (o :: rest) act (w.alloc (.cells #[.int .i64 v] 3)) := by
  obtain ⟨i0, hi, hz0, hz1, hz2⟩ := info_parts Tryz.infoInt
  refine wpList_append_own_spare _ hgd s x 23 ho B 3 i0 1 Tryz.underlying23 hi hz1 g xs.length cap (xs.map (Value.int .i64)) hs (hown.alloc _) ⟨w.heap.size, 0, none⟩ 1 1 [.int .i64 v] hx rfl ?_ ?_ hroom ?_
  · intro j u hj
    match j, hj with
    | 0, hj => simp at hj; subst hj; simp [Addr.add]
  · intro u hu; simp at hu; subst hu; rfl
  · intro w' hown' hg
    have e : xs.map (Value.int .i64) ++ [.int .i64 v] = (xs ++ [v]).map (Value.int .i64) := by simp
    rw [e] at hown'
    have hl : (xs ++ [v]).length = xs.length + 1 := by simp
    have hA : Wr w (w.alloc (.cells #[.int .i64 v] 3)) g (g + 1) := Wr.of ((Below.refl _ _).alloc (Nat.le_refl _) _) _ _
    have hW : Wr (w.alloc (.cells #[.int .i64 v] 3)) w' g (g + 1) := ⟨hg.os, hg.tape, hg.output, hg.size, fun k hk hd => hg.block k hk (by intro e; cases e; omega)⟩
    have := h w' (by unfold Own; rw [hl]; exact hown') (hA.trans hW)
    rw [hl] at this
    exact this
theorem mid_set {A W C : List Int} {j i : Nat} (hA : A.length = j) (hi : i < W.length) (v : Int) : (A ++ W ++ C).set (j + i) v = A ++ W.set i v ++ C := by
  subst hA
  rw [List.append_assoc, List.set_append_right _ _ (by omega), Nat.add_sub_cancel_left, List.set_append_left _ _ hi, List.append_assoc]
theorem mid_get {A W C : List Int} {j i : Nat} (hA : A.length = j) (hi : i < W.length) : (A ++ W ++ C).getD (j + i) 0 = W.getD i 0 := by
  subst hA
  rw [List.append_assoc, List.getD_eq_getElem?_getD, List.getElem?_append_right (by omega), Nat.add_sub_cancel_left, List.getElem?_append_left hi, ← List.getD_eq_getElem?_getD]
theorem mid_self (U : List Int) (j L : Nat) : U.take j ++ (U.drop j).take L ++ U.drop (j + L) = U := by
  rw [List.append_assoc, ← List.drop_drop, List.take_append_drop, List.take_append_drop]
theorem mid_take {A W C : List Int} {j : Nat} (hA : A.length = j) : (A ++ W ++ C).take j = A := by
  subst hA; rw [List.append_assoc, List.take_left]
theorem mid_drop {A W C : List Int} {j L : Nat} (hA : A.length = j) (hW : W.length = L) : ((A ++ W ++ C).drop j).take L = W := by
  subst hA; subst hW; rw [List.append_assoc, List.drop_left, List.take_left]
theorem mid_rest {A W C : List Int} {j L : Nat} (hA : A.length = j) (hW : W.length = L) : (A ++ W ++ C).drop (j + L) = C := by
  subst hA; subst hW; rw [← List.length_append, List.drop_left]
end Go.Proofs.YtogkonenejfgmaaGreatDoor
