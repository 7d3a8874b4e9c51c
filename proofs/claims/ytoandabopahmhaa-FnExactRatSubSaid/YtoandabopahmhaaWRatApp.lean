/- An append in a region that draws its order. (Printed by gen_rat2.py.) -/
import Derived.Test.YtoandabopahmhaaWRatC
namespace Go.Proofs.Ytoandabopahmhaa
open Go.RowKit
set_option linter.unusedVariables false
theorem run_appS (w : World) (a : Option Addr) (cap : Nat) (xs : List Int) (B : Nat) (ty : TypeId) (a2 : Option Addr) (c2 : Nat) (ys : List Int) (hown : Own w B a cap xs) (hrd : Rd w a2 ys) (hlen : xs.length + ys.length < 17592186044416) (hB : B ≤ w.heap.size) :
    ∃ a' c' w', (Builtin.append_ #[22, 22] ty #[.slice a xs.length cap, .slice a2 ys.length c2]).run Try.prog w = .ok (.slice a' (xs ++ ys).length c') w' ∧ Own w' B a' c' (xs ++ ys) ∧ Below B w w' := by
  obtain ⟨i0, hi, hz0, hz1, hz2⟩ := info_parts Try.infoInt
  have main : ∀ ad : Addr, a2 = some ad → (∀ j u, (ys.map (Value.int .i64))[j]? = some u → w.cell? (ad.add j) = some u) → ∃ a' c' w', (Builtin.append_ #[22, 22] ty #[.slice a xs.length cap, .slice a2 ys.length c2]).run Try.prog w = .ok (.slice a' (xs ++ ys).length c') w' ∧ Own w' B a' c' (xs ++ ys) ∧ Below B w w' := by
    intro ad had hc
    obtain ⟨v', w', hr, h2, h3, h4⟩ := run_append_own (P := Try.prog) w B 22 ty 3 i0 (.int .i64 0) 1 8 Try.underlying22 hi hz0 hz1 hz2 rfl (by decide) _ _ _ hown ad ys.length c2 (ys.map (Value.int .i64)) (by simp) hc (ints_oneCell .i64 ys) (by unfold maxLen; omega) (by omega) hB
    rw [← List.map_append] at h2
    obtain ⟨_, a', c', rfl, ho'⟩ := Own.shape h2
    refine ⟨a', c', w', by rw [had]; exact hr, ho', (Below.refl B w).grown h3 hB ?_⟩
    intro k hk
    rcases hown.cases with ⟨rfl, _⟩ | ⟨g, rfl, hg, _⟩
    · simp [Value.ownBlock] at hk
    · simp [Value.ownBlock] at hk; omega
  rcases hrd with h0 | ⟨b, off, rfl, hlt, hc⟩
  · subst h0
    cases a2 with
    | some ad => exact main ad rfl (by intro j u hj; simp at hj)
    | none =>
      have hrun := run_append_none0 (P := Try.prog) (w := w) B 22 ty 3 i0 1 Try.underlying22 hi _ _ _ hown c2
      exact ⟨a, cap, w, by simpa using hrun, by simpa using hown, Below.refl _ _⟩
  · refine main _ rfl ?_
    intro j u hj
    rw [List.getElem?_map] at hj
    by_cases hjl : j < ys.length
    · rw [List.getElem?_eq_getElem hjl] at hj
      simp at hj
      have e : (⟨b, off, none⟩ : Addr).add j = ⟨b, off + j, none⟩ := by simp [Addr.add]
      rw [e, hc j hjl, ← hj]
      simp [List.getD, hjl]
    · rw [List.getElem?_eq_none (by omega)] at hj; simp at hj
theorem Own.wrne {w w' : World} {B g cap : Nat} {a : Option Addr} {xs : List Int} (h : Own w B a cap xs) (hw : Wr w w' g (g + 1)) (hne : ∀ p, a = some p → p.block ≠ g) : Own w' B a cap xs := by
  unfold Own at *
  refine ⟨h.1, ?_⟩
  rcases h.2 with hn | ⟨g', c, cur, hv, hg, hh, r⟩
  · exact .inl hn
  · refine .inr ⟨g', c, cur, hv, hg, ?_, r⟩
    have hv' := hv
    simp only [Value.slice.injEq] at hv'
    have h3 : g' ≠ g := hne ⟨g', 0, none⟩ hv'.1
    have hlt : g' < w.heap.size := (Array.getElem?_eq_some_iff.1 hh).1
    rw [hw.block g' hlt (by omega)]; exact hh
theorem Own.ne_lo {w : World} {B g cap : Nat} {a : Option Addr} {xs : List Int} (h : Own w B a cap xs) (hg : g < B) : ∀ p, a = some p → p.block ≠ g := by
  intro p e
  rcases h.cases with ⟨rfl, _⟩ | ⟨g', rfl, h1, _⟩
  · cases e
  · cases e; show g' ≠ g; omega
theorem Own.ne_hi {w : World} {B g cap : Nat} {a : Option Addr} {xs : List Int} (h : Own w B a cap xs) (hg : w.heap.size ≤ g) : ∀ p, a = some p → p.block ≠ g := by
  intro p e
  rcases h.cases with ⟨rfl, _⟩ | ⟨g', rfl, _, h2, _⟩
  · cases e
  · cases e; show g' ≠ g; omega
theorem run_app0 (w : World) (g : Nat) (ty : TypeId) (a2 : Option Addr) (c2 : Nat) (ys : List Int) (hown : Own w g (some ⟨g, 0, none⟩) 0 []) (hrd : Rd w a2 ys) (hlen : ys.length < 17592186044416) :
    ∃ a' c' w', (Builtin.append_ #[22, 22] ty #[.slice (some ⟨g, 0, none⟩) 0 0, .slice a2 ys.length c2]).run Try.prog w = .ok (.slice a' ys.length c') w' ∧ Own w' g a' c' ys ∧ Wr w w' g (g + 1) := by
  obtain ⟨i0, hi, hz0, hz1, hz2⟩ := info_parts Try.infoInt
  have hlt := (Own.lt hown).2
  have main : ∀ ad : Addr, a2 = some ad → (∀ j u, (ys.map (Value.int .i64))[j]? = some u → w.cell? (ad.add j) = some u) → ∃ a' c' w', (Builtin.append_ #[22, 22] ty #[.slice (some ⟨g, 0, none⟩) 0 0, .slice a2 ys.length c2]).run Try.prog w = .ok (.slice a' ys.length c') w' ∧ Own w' g a' c' ys ∧ Wr w w' g (g + 1) := by
    intro ad had hc
    obtain ⟨v', w', hr, h2, h3, h4⟩ := run_append_own (P := Try.prog) w g 22 ty 3 i0 (.int .i64 0) 1 8 Try.underlying22 hi hz0 hz1 hz2 rfl (by decide) _ _ _ hown ad ys.length c2 (ys.map (Value.int .i64)) (by simp) hc (ints_oneCell .i64 ys) (by unfold maxLen; simp; omega) (by simp; omega) (by omega)
    simp only [List.map_nil, List.nil_append, List.length_nil, Nat.zero_add] at h2
    obtain ⟨_, a', c', rfl, ho'⟩ := Own.shape h2
    refine ⟨a', c', w', by rw [had]; exact hr, ho', ⟨h3.os, h3.tape, h3.output, h3.size, fun k hk hd => h3.block k hk (fun e => ?_)⟩⟩
    simp [Value.ownBlock] at e; omega
  rcases hrd with h0 | ⟨b, off, rfl, hlt, hc⟩
  · subst h0
    cases a2 with
    | some ad => exact main ad rfl (by intro j u hj; simp at hj)
    | none =>
      have hrun := run_append_none0 (P := Try.prog) (w := w) g 22 ty 3 i0 1 Try.underlying22 hi _ _ _ hown c2
      exact ⟨some ⟨g, 0, none⟩, 0, w, by simpa using hrun, by simpa using hown, Wr.refl _ _ _⟩
  · refine main _ rfl ?_
    intro j u hj
    rw [List.getElem?_map] at hj
    by_cases hjl : j < ys.length
    · rw [List.getElem?_eq_getElem hjl] at hj
      simp at hj
      have e : (⟨b, off, none⟩ : Addr).add j = ⟨b, off + j, none⟩ := by simp [Addr.add]
      rw [e, hc j hjl, ← hj]
      simp [List.getD, hjl]
    · rw [List.getElem?_eq_none (by omega)] at hj; simp at hj
theorem step_app0 {ops : Array Oper} {o : Oper} {act : Act} {K : Act → World → Prop} {Q : Exit → Act → World → Prop} {E : Prop} (w : World) (hgd : o.guard = none) (s x : Operand)
    (ho : o.op = .call { callee := .builtin .append, args := #[s, x], argTypes := #[22, 22] })
    (g : Nat) (a2 : Option Addr) (c2 : Nat) (ys : List Int) (hs : act.eval s = .slice (some ⟨g, 0, none⟩) 0 0) (hx : act.eval x = .slice a2 ys.length c2)
    (hown : Own w g (some ⟨g, 0, none⟩) 0 []) (hrd : Rd w a2 ys) (hlen : ys.length < 17592186044416)
    (h : ∀ a' c' w', Own w' g a' c' ys → Wr w w' g (g + 1) → K (act.put o.dst (.slice a' ys.length c')) w') :
    if Region.wanted o (yielded ops act.tmps) = true then Oper.wp Try.prog o act w K Q else E := by
  have hw : Region.wanted o (yielded ops act.tmps) = true := by simp [Region.wanted, hgd]
  rw [if_pos hw]
  obtain ⟨a', c', w', hr, h2, h3⟩ := run_app0 w g o.type a2 c2 ys hown hrd hlen
  unfold Oper.wp execOp
  simp only [ho, resolve, invoke, builtin, Sem.run_bind, Sem.run_pure, Result.andThen_ok, List.map_toArray, List.map_cons, List.map_nil, hs, hx, hr]
  exact h a' c' w' h2 h3
theorem alloc_empty {W0 W : World} (hb : Below W0.heap.size W0 W) : Below W0.heap.size W0 (W.alloc (.cells #[] 3)) ∧ Own (W.alloc (.cells #[] 3)) W.heap.size (some ⟨W.heap.size, 0, none⟩) 0 [] ∧ W0.heap.size ≤ W.heap.size :=
  ⟨hb.alloc hb.size _, Own.empty W W.heap.size (Nat.le_refl _), hb.size⟩
theorem alloc_empty_drew (W : World) : Below W.heap.size W (World.drew (W.alloc (.cells #[] 3))) ∧ Own (World.drew (W.alloc (.cells #[] 3))) W.heap.size (some ⟨W.heap.size, 0, none⟩) 0 [] ∧ W.heap.size ≤ W.heap.size :=
  ⟨(bel_alloc W _).drew, (Own.empty W W.heap.size (Nat.le_refl _)).below (Below.refl _ _).drew (Nat.le_refl _), Nat.le_refl _⟩
end Go.Proofs.Ytoandabopahmhaa
