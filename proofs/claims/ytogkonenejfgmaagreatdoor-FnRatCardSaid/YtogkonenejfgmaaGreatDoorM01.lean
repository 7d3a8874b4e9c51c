/- Words for slices of integers in memory: 'Rd' (what a slice reads as), 'Own' (a slice of the call's own, or nil). No condition. -/
import Derived.Test.YtogkonenejfgmaaGreatDoorProg
import Derived.WalkKit
import Derived.ProofKit
import Derived.OpenShut
import Derived.WalkSpells
import Derived.WalkLawsBesides
import Derived.Lib.Hide
namespace Go.Proofs.YtogkonenejfgmaaGreatDoor
open Go.RowKit

theorem take_succ_getD' (xs : List Int) (k : Nat) (h : k < xs.length) : xs.take (k + 1) = xs.take k ++ [xs.getD k 0] := by
  rw [List.take_succ_eq_append_getElem h]
  simp [List.getD, h]
/-- the slice at a reads as xs -/
def Rd (w : World) (a : Option Addr) (xs : List Int) : Prop :=
  xs = [] ∨ ∃ b off, a = some ⟨b, off, none⟩ ∧ b < w.heap.size ∧ ∀ i, i < xs.length → w.cell? ⟨b, off + i, none⟩ = some (.int .i64 (xs.getD i 0))
theorem Rd.nil (w : World) (a : Option Addr) : Rd w a [] := .inl rfl
theorem Rd.below {w w' : World} {a : Option Addr} {xs : List Int} (h : Rd w a xs) {B : Nat} (hb : Below B w w') (hB : w.heap.size ≤ B) : Rd w' a xs := by
  rcases h with h | ⟨b, off, rfl, hlt, hc⟩
  · exact .inl h
  · exact .inr ⟨b, off, rfl, Nat.lt_of_lt_of_le hlt hb.size, fun i hi => (hb.cell (p := ⟨b, off + i, none⟩) (by show b < B; omega)).trans (hc i hi)⟩
theorem Rd.at {w : World} {a : Option Addr} {xs : List Int} (h : Rd w a xs) (k : Nat) (hk : k < xs.length) :
    ∃ b off x, a = some ⟨b, off, none⟩ ∧ b < w.heap.size ∧ w.cell? ⟨b, off + k, none⟩ = some (.int .i64 x) ∧ Hid (xs.getD k 0 = x) := by
  rcases h with rfl | ⟨b, off, rfl, hlt, hc⟩
  · simp at hk
  · exact ⟨b, off, _, rfl, hlt, hc k hk, rfl⟩
theorem Rd.take {w : World} {a : Option Addr} {xs : List Int} (h : Rd w a xs) (k : Nat) : Rd w a (xs.take k) := by
  rcases h with h | ⟨b, off, rfl, hlt, hc⟩
  · left; simp [h]
  · by_cases hk : k ≤ xs.length
    · refine .inr ⟨b, off, rfl, hlt, fun i hi => ?_⟩
      rw [List.length_take, Nat.min_eq_left hk] at hi
      rw [hc i (by omega)]
      simp [hi]
    · rw [List.take_of_length_le (by omega)]
      exact .inr ⟨b, off, rfl, hlt, hc⟩
theorem rd_of_cells {w : World} {x : Addr} {zs : List Int} (hc : ∀ i, i < zs.length → w.cell? (x.add i) = some (.int .i64 (zs.getD i 0))) (len : Nat) : Rd w (some x) (zs.take len) := by
  by_cases h0 : 0 < zs.length
  · obtain ⟨b, off, rfl, hc2⟩ := ints_at hc h0
    refine Rd.take (.inr ⟨b, off, rfl, ?_, hc2⟩) len
    exact World.block_lt_of_cell? w ⟨b, off + 0, none⟩ (hc2 0 h0)
  · have : zs = [] := List.eq_nil_of_length_eq_zero (by omega)
    subst this; simp [Rd]
/-- a slice of the call's own from block B on (or nil) that holds xs -/
def Own (w : World) (B : Nat) (a : Option Addr) (cap : Nat) (xs : List Int) : Prop :=
  w.ownsRow B 3 1 (.slice a xs.length cap) xs.length (xs.map (Value.int .i64))
theorem Own.nil (w : World) (B : Nat) : Own w B none 0 [] := World.ownsRow_nil w B 3 1
theorem Own.rd {w : World} {B : Nat} {a : Option Addr} {cap : Nat} {xs : List Int} (h : Own w B a cap xs) : Rd w a xs := by
  unfold Own at h
  have h0 := h
  rcases h.2 with ⟨_, hn⟩ | ⟨g, c, cur, hv, hb, hg, _⟩
  · exact .inl (List.eq_nil_of_length_eq_zero hn)
  · obtain ⟨rfl, rfl⟩ : a = some ⟨g, 0, none⟩ ∧ cap = c := by simpa using hv
    refine .inr ⟨g, 0, rfl, (Array.getElem?_eq_some_iff.1 hg).1, fun i hi => ?_⟩
    rw [Nat.zero_add, h0.cellAt i (by omega), List.getElem?_map, List.getElem?_eq_getElem hi]
    simp [List.getD, hi]
theorem Own.mono {w : World} {B B' : Nat} {a : Option Addr} {cap : Nat} {xs : List Int} (h : Own w B a cap xs) (hB : B' ≤ B) : Own w B' a cap xs := by
  unfold Own at *
  refine ⟨h.1, ?_⟩
  rcases h.2 with hn | ⟨g, c, cur, hv, hb, r⟩
  · exact .inl hn
  · exact .inr ⟨g, c, cur, hv, by omega, r⟩
theorem Own.below {w w' : World} {B C : Nat} {a : Option Addr} {cap : Nat} {xs : List Int} (h : Own w B a cap xs) (hb : Below C w w') (hC : w.heap.size ≤ C) : Own w' B a cap xs := by
  unfold Own at *
  refine ⟨h.1, ?_⟩
  rcases h.2 with hn | ⟨g, c, cur, hv, hg, hh, r⟩
  · exact .inl hn
  · refine .inr ⟨g, c, cur, hv, hg, ?_, r⟩
    rw [hb.block g (by have := (Array.getElem?_eq_some_iff.1 hh).1; omega)]; exact hh
theorem Own.take {w : World} {B : Nat} {a : Option Addr} {cap : Nat} {xs : List Int} (h : Own w B a cap xs) (k : Nat) (hk : k ≤ xs.length) : Own w B a cap (xs.take k) := by
  unfold Own at *
  have hl : (xs.take k).length = k := by rw [List.length_take]; omega
  rw [hl]
  refine ⟨by simp; omega, ?_⟩
  rcases h.2 with ⟨hv, hn⟩ | ⟨g, c, cur, hv, hg, hh, hc, hm, hs, ht⟩
  · left
    have : k = 0 := by omega
    subst this
    simp at hv
    exact ⟨by simp [hv], rfl⟩
  · right
    simp only [Value.slice.injEq] at hv
    obtain ⟨rfl, _, rfl⟩ := hv
    refine ⟨g, cap, cur, rfl, hg, hh, by omega, hm, hs, ?_⟩
    rw [List.map_take, ← ht, List.take_take]
    congr 1
    omega
theorem Own.cases {w : World} {B : Nat} {a : Option Addr} {cap : Nat} {xs : List Int} (h : Own w B a cap xs) :
    (a = none ∧ cap = 0 ∧ xs = []) ∨ ∃ g, a = some ⟨g, 0, none⟩ ∧ B ≤ g ∧ g < w.heap.size ∧ xs.length ≤ cap := by
  unfold Own at h
  rcases h.2 with ⟨hv, hn⟩ | ⟨g, c, cur, hv, hg, hh, hc, _⟩
  · left; simp only [Value.slice.injEq] at hv; exact ⟨hv.1, hv.2.2, List.eq_nil_of_length_eq_zero hn⟩
  · right; simp only [Value.slice.injEq] at hv; obtain ⟨rfl, _, rfl⟩ := hv
    exact ⟨g, rfl, hg, (Array.getElem?_eq_some_iff.1 hh).1, hc⟩
theorem Own.cellAt {w : World} {B g cap : Nat} {xs : List Int} (h : Own w B (some ⟨g, 0, none⟩) cap xs) (k : Nat) (hk : k < xs.length) :
    ∃ x, w.cell? ⟨g, k, none⟩ = some (.int .i64 x) ∧ Hid (xs.getD k 0 = x) := by
  unfold Own at h
  refine ⟨_, ?_, rfl⟩
  rw [World.ownsRow.cellAt h k (by omega), List.getElem?_map, List.getElem?_eq_getElem hk]
  simp [List.getD, hk]
theorem Own.frozenAt {w : World} {B g cap : Nat} {xs : List Int} (h : Own w B (some ⟨g, 0, none⟩) cap xs) (k : Nat) : w.frozen? ⟨g, k, none⟩ = false :=
  World.ownsRow.frozenAt h k
theorem Own.stored {w : World} {B g cap : Nat} {xs : List Int} (h : Own w B (some ⟨g, 0, none⟩) cap xs) (k : Nat) (x : Int) :
    Own (w.setCell ⟨g, k, none⟩ (.int .i64 x)) B (some ⟨g, 0, none⟩) cap (xs.set k x) := by
  unfold Own at *
  have := (World.ownsRow.stored h k (.int .i64 x)).1
  rw [List.length_set, List.map_set]; exact this
theorem zeros_eq (n : Nat) : (madeCells #[Value.int .i64 0] n).toList = (List.replicate n (0 : Int)).map (Value.int .i64) := by
  rw [toList_madeCells_one, List.map_replicate]
theorem Own.made {w : World} {B g n : Nat} (h : w.ownsRow B 3 1 (.slice (some ⟨g, 0, none⟩) n n) n (madeCells #[Value.int .i64 0] n).toList) :
    Own w B (some ⟨g, 0, none⟩) n (List.replicate n 0) := by
  unfold Own; rw [List.length_replicate, ← zeros_eq]; exact h
theorem Own.lt {w : World} {B g cap : Nat} {xs : List Int} (h : Own w B (some ⟨g, 0, none⟩) cap xs) : B ≤ g ∧ g < w.heap.size := by
  rcases h.cases with ⟨h, _⟩ | ⟨g', h, hb, hl, _⟩
  · cases h
  · cases h; exact ⟨hb, hl⟩
theorem bel_drewN {B : Nat} {a w : World} (h : Below B a w) (n : Nat) : Below B a (w.drewN n) := ⟨h.os, h.tape, h.output, h.size, h.block⟩
theorem fill_step {xs : List Int} {k n : Nat} (hk : k < xs.length) (x : Int) (hx : xs.getD k 0 = x) (hn : n = xs.length - k) :
    (xs.take k ++ List.replicate n 0).set k x = xs.take (k + 1) ++ List.replicate (xs.length - (k + 1)) 0 := by
  subst hn
  rw [take_succ_getD' xs k hk, hx]
  have e : xs.length - k = (xs.length - (k + 1)) + 1 := by omega
  rw [e, List.replicate_succ, List.set_append_right _ _ (by rw [List.length_take]; omega), List.length_take, Nat.min_eq_left (by omega), Nat.sub_self]
  simp
theorem Tryz.infoInt : (Tryz.prog.info? 3).map (fun i => (i.zero, i.size, i.bytes)) = some (some (.int .i64 0), 1, 8) := by kernel_rfl
theorem Own.shape {w : World} {B : Nat} {v : Value} {n : Nat} {xs : List Int} (h : w.ownsRow B 3 1 v n (xs.map (Value.int .i64))) : n = xs.length ∧ ∃ a cap, v = .slice a xs.length cap ∧ Own w B a cap xs := by
  have hn : n = xs.length := by have := h.1; simp at this; omega
  subst hn
  refine ⟨rfl, ?_⟩
  have h' := h
  rcases h.2 with ⟨rfl, hn⟩ | ⟨g, c, cur, rfl, _⟩
  · refine ⟨none, 0, by rw [hn], ?_⟩
    unfold Own; rw [hn] at h' ⊢; exact h'
  · exact ⟨_, _, rfl, h'⟩
theorem Own.alloc {w : World} {B : Nat} {a : Option Addr} {cap : Nat} {xs : List Int} (h : Own w B a cap xs) (o : Obj) : Own (w.alloc o) B a cap xs := World.ownsRow.alloc h o
theorem below_alloc_grown {w w' : World} {B : Nat} {o : Obj} {row : Option Nat} (hg : (w.alloc o).grownBy w' row) (hB : B ≤ w.heap.size) (hr : ∀ k, row = some k → B ≤ k) : Below B w w' :=
  ((Below.refl B w).alloc hB o).grown hg (by simp; omega) hr
/-- 'append(out, v)', out a slice of ints of the call's own -/
theorem app1 {ops : Array Oper} {rest : List Oper} {o : Oper} {act : Act} {Q : Exit → Act → World → Prop} (w : World) (hgd : o.guard = none) (s x : Operand)
    (ho : o.op = .call { callee := .builtin .append, args := #[s, x], argTypes := #[23, 23] })
    (B : Nat) (a : Option Addr) (cap : Nat) (xs : List Int) (v : Int) (hs : act.eval s = .slice a xs.length cap) (hx : act.eval x = .slice (some ⟨w.heap.size, 0, none⟩) 1 1)
    (hown : Own w B a cap xs) (hlen : xs.length < 17592186044416) (hB : B ≤ w.heap.size)
    (h : ∀ a' c' w', Own w' B a' c' (xs ++ [v]) → Below B w w' → wpList Tryz.prog ops Q rest (act.put o.dst (.slice a' (xs ++ [v]).length c')) w') :
    wpList Tryz.prog ops Q (o :: rest) act (w.alloc (.cells #[.int .i64 v] 3)) := by
  obtain ⟨i0, hi, hz0, hz1, hz2⟩ := info_parts Tryz.infoInt
  refine wpList_append_own _ hgd s x 23 ho B 3 i0 (.int .i64 0) 1 8 Tryz.underlying23 hi hz0 hz1 hz2 rfl (by decide) _ _ _ hs (hown.alloc _) ⟨w.heap.size, 0, none⟩ 1 1 [.int .i64 v] hx rfl ?_ ?_ ?_ ?_ ?_ ?_
  · intro j u hj
    match j, hj with
    | 0, hj => simp at hj; subst hj; simp [Addr.add]
  · intro u hu; simp at hu; subst hu; rfl
  · unfold maxLen; omega
  · omega
  · simp; omega
  · intro v' w' hown' hg _
    have e : xs.map (Value.int .i64) ++ [.int .i64 v] = (xs ++ [v]).map (Value.int .i64) := by simp
    rw [e] at hown'
    obtain ⟨_, a', c', rfl, ho'⟩ := Own.shape hown'
    refine h a' c' w' ho' (below_alloc_grown hg hB ?_)
    intro k hk
    have := hown.cases
    rcases this with ⟨rfl, _⟩ | ⟨g, rfl, hg, _⟩
    · simp [Value.ownBlock] at hk
    · simp [Value.ownBlock] at hk; omega

theorem Own.empty (w : World) (B : Nat) (hB : B ≤ w.heap.size) : Own (w.alloc (.cells #[] 3)) B (some ⟨w.heap.size, 0, none⟩) 0 [] :=
  World.ownsRow_lit w #[] 0 hB (Nat.zero_le _) rfl
theorem run_append_none0 {P : Program} {w : World} (base : Nat) (t ty e : TypeId) (i : TypeInfo) (size : Nat) (ht : P.underlying t = some (.slice e)) (hi : P.info? e = some i)
    (v : Value) (n : Nat) (xs : List Value) (hown : w.ownsRow base e size v n xs) (c : Nat) : (Builtin.append_ #[t, t] ty #[v, .slice none 0 c]).run P w = .ok v w := by
  rcases hown.2 with ⟨rfl, rfl⟩ | ⟨g, cap, cur, rfl, _, _, hnc, _⟩
  · simp [Builtin.append_, run_underlying ht, sizeOf, typeInfo, hi, Builtin.lenOf, Builtin.firstCells]
  · simp [Builtin.append_, run_underlying ht, sizeOf, typeInfo, hi, Builtin.lenOf, Builtin.firstCells, hnc, storeCells]
/-- 'append(out, ys...)', out a slice of ints of the call's own, ys any slice of ints -/
theorem appS {ops : Array Oper} {rest : List Oper} {o : Oper} {act : Act} {Q : Exit → Act → World → Prop} (w : World) (hgd : o.guard = none) (s x : Operand)
    (ho : o.op = .call { callee := .builtin .append, args := #[s, x], argTypes := #[23, 23] })
    (B : Nat) (a : Option Addr) (cap : Nat) (xs : List Int) (a2 : Option Addr) (c2 : Nat) (ys : List Int) (hs : act.eval s = .slice a xs.length cap) (hx : act.eval x = .slice a2 ys.length c2)
    (hown : Own w B a cap xs) (hrd : Rd w a2 ys) (hlen : xs.length + ys.length < 17592186044416) (hB : B ≤ w.heap.size)
    (h : ∀ a' c' w', Own w' B a' c' (xs ++ ys) → Below B w w' → wpList Tryz.prog ops Q rest (act.put o.dst (.slice a' (xs ++ ys).length c')) w') :
    wpList Tryz.prog ops Q (o :: rest) act w := by
  obtain ⟨i0, hi, hz0, hz1, hz2⟩ := info_parts Tryz.infoInt
  have main : ∀ ad : Addr, a2 = some ad → (∀ j u, (ys.map (Value.int .i64))[j]? = some u → w.cell? (ad.add j) = some u) → wpList Tryz.prog ops Q (o :: rest) act w := by
    intro ad had hc
    refine wpList_append_own _ hgd s x 23 ho B 3 i0 (.int .i64 0) 1 8 Tryz.underlying23 hi hz0 hz1 hz2 rfl (by decide) _ _ _ hs hown ad ys.length c2 (ys.map (Value.int .i64)) (by rw [hx, had]) (by simp) hc ?_ ?_ ?_ hB ?_
    · exact ints_oneCell .i64 ys
    · unfold maxLen; omega
    · omega
    · intro v' w' hown' hg _
      rw [← List.map_append] at hown'
      obtain ⟨_, a', c', rfl, ho'⟩ := Own.shape hown'
      refine h a' c' w' ho' ((Below.refl B w).grown hg hB ?_)
      intro k hk
      rcases hown.cases with ⟨rfl, _⟩ | ⟨g, rfl, hg, _⟩
      · simp [Value.ownBlock] at hk
      · simp [Value.ownBlock] at hk; omega
  rcases hrd with h0 | ⟨b, off, rfl, hlt, hc⟩
  · subst h0
    cases a2 with
    | some ad => exact main ad rfl (by intro j u hj; simp at hj)
    | none =>
      refine wpList_plain hgd fun K hK => ?_
      have hrun := run_append_none0 (P := Tryz.prog) (w := w) B 23 o.type 3 i0 1 Tryz.underlying23 hi _ _ _ hown c2
      unfold Oper.wp
      have hx' : act.eval x = .slice none 0 c2 := by simpa using hx
      simp [execOp, ho, resolve, invoke, builtin, hs, hx', hrun, Result.andThen]
      have hh := h a cap w (by simpa using hown) (Below.refl _ _)
      simp only [List.append_nil] at hh
      exact hK _ _ hh
  · refine main _ rfl ?_
    intro j u hj
    rw [List.getElem?_map] at hj
    by_cases hjl : j < ys.length
    · rw [List.getElem?_eq_getElem hjl] at hj
      simp at hj
      have e : (⟨b, off, none⟩ : Addr).add j = ⟨b, off + j, none⟩ := by simp [Addr.add]
      rw [e, hc j hjl, ← hj]
      simp [List.getD, hjl]
    · rw [List.getElem?_eq_none (by omega)] at hj; simp at hj
theorem made_take (l c : Nat) (h : l ≤ c) : (madeCells #[Value.int .i64 0] c).toList.take l = (List.replicate l (0 : Int)).map (Value.int .i64) := by
  rw [toList_madeCells_one, List.take_replicate, Nat.min_eq_left h, List.map_replicate]
/-- 'make([]int, l, c)' -/
theorem makeLC (w : World) {ops : Array Oper} {rest : List Oper} {o : Oper} {act : Act} {Q : Exit → Act → World → Prop} (hg : o.guard = none) (l c : Operand) (hop : o.op = Op.makeSlice 23 l c)
    (B L C : Nat) (li ci : Int) (hl : act.eval l = .int .i64 li) (hc : act.eval c = .int .i64 ci) (hL : li = (L : Int)) (hC : ci = (C : Int)) (hLC : L ≤ C) (b3 : C ≤ 17592186044416) (b4 : B ≤ w.heap.size)
    (hK : ∀ w', Own w' B (some ⟨w.heap.size, 0, none⟩) C (List.replicate L 0) → Below B w w' → wpList Tryz.prog ops Q rest (act.put o.dst (.slice (some ⟨w.heap.size, 0, none⟩) L C)) w') :
    wpList Tryz.prog ops Q (o :: rest) act w := by
  obtain ⟨i0, hi, hz0, hz1, hz2⟩ := info_parts Tryz.infoInt
  refine wpList_plain hg fun K hK' => ?_
  have hrun := run_make (P := Tryz.prog) w 23 3 i0 (.int .i64 0) Tryz.underlying23 hi hz0 .i64 .i64 (L : Int) (C : Int) (by omega) (by omega) (by rw [hz2]; omega) (by omega)
  subst hL
  subst hC
  unfold Oper.wp
  simp only [Int.toNat_natCast, hz1, Nat.mul_one] at hrun
  simp [execOp, hop, hl, hc, hrun, Result.andThen]
  refine hK' _ _ (hK _ ?_ ((Below.refl _ _).alloc b4 _))
  unfold Own
  rw [List.length_replicate]
  refine ⟨by simp, .inr ⟨w.heap.size, C, madeCells #[Value.int .i64 0] C, rfl, b4, heap_alloc_new w _, hLC, by unfold maxLen; omega, ?_, ?_⟩⟩
  · rw [← Array.length_toList, toList_madeCells_one]; simp
  · rw [Nat.mul_one]; exact made_take L C hLC
/-- what every slice of ints that is handed on is known by -/
def In (w : World) (a : Option Addr) (c : Nat) (xs : List Int) : Prop := Rd w a xs ∧ xs.length ≤ c ∧ xs.length ≤ 1099511627776
theorem In.below {w w' : World} {a : Option Addr} {c : Nat} {xs : List Int} (h : In w a c xs) {B : Nat} (hb : Below B w w') (hB : w.heap.size ≤ B) : In w' a c xs := ⟨h.1.below hb hB, h.2⟩
theorem In.drewN {w : World} {a : Option Addr} {c : Nat} {xs : List Int} (h : In w a c xs) (n : Nat) : In (w.drewN n) a c xs := h
theorem In.maxLen {w : World} {a : Option Addr} {c : Nat} {xs : List Int} (h : In w a c xs) : xs.length ≤ maxLen := by have := h.2.2; unfold Go.maxLen; omega
theorem Own.inn {w : World} {B : Nat} {a : Option Addr} {c : Nat} {xs : List Int} (h : Own w B a c xs) (hl : xs.length ≤ 1099511627776) : In w a c xs := by
  refine ⟨h.rd, ?_, hl⟩
  rcases h.cases with ⟨_, rfl, rfl⟩ | ⟨_, _, _, _, h⟩
  · exact Nat.le_refl _
  · exact h
theorem Own.le {w : World} {B : Nat} {a : Option Addr} {c : Nat} {xs : List Int} (h : Own w B a c xs) : xs.length ≤ c := by
  rcases h.cases with ⟨_, rfl, rfl⟩ | ⟨_, _, _, _, h⟩
  · exact Nat.le_refl _
  · exact h
theorem bel_draw (w : World) (n : Nat) : Below w.heap.size w (w.drewN n) := bel_drewN (Below.refl _ _) n

/-- a number that an int can hold -/
def Rng (n : Int) : Prop := -9223372036854775808 ≤ n ∧ n ≤ 9223372036854775807
theorem rng_of {n : Int} (h : (Lit.int .i64 n).wf = true) : Rng n := bounds_i64 h
theorem ret_i64 {a b : Int} (h : a = b) : Ending.returned (.int .i64 a) = .returned (.int .i64 b) := by rw [h]
theorem getD_of {xs : List Int} {k : Nat} : xs[k]?.getD 0 = xs.getD k 0 := by rw [List.getD_eq_getElem?_getD]
end Go.Proofs.YtogkonenejfgmaaGreatDoor
