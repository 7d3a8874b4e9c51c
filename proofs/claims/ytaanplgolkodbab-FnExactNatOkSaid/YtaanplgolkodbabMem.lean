/- Words for slices of integers in memory: 'Rd' (what a slice reads as), 'Own' (a slice of the call's own, or nil). No condition. -/
import Derived.Test.YtaanplgolkodbabRows
import Derived.WalkKit
import Derived.ProofKit
import Derived.OpenShut
import Derived.WalkSpells
import Derived.WalkLawsBesides
import Derived.Lib.Hide
namespace Go.Proofs.Ytaanplgolkodbab
open Go.RowKit

theorem take_succ_getD' (xs : List Int) (k : Nat) (h : k < xs.length) : xs.take (k + 1) = xs.take k ++ [xs.getD k 0] := by
  rw [List.take_succ_eq_append_getElem h]
  simp [List.getD, h]
/-- the slice at a reads as xs -/
def Rd (w : World) (a : Option Addr) (xs : List Int) : Prop :=
  xs = [] ∨ ∃ b off, a = some ⟨b, off, none⟩ ∧ b < w.heap.size ∧ ∀ i, i < xs.length → w.cell? ⟨b, off + i, none⟩ = some (.int .i64 (xs.getD i 0))
theorem Rd.nil (w : World) (a : Option Addr) : Rd w a [] := .inl rfl
theorem Rd.below {w w' : World} {a : Option Addr} {xs : List Int} (h : Rd w a xs) {B : Nat} (hb : Below B w w') (hB : w.heap.size ≤ B) : Rd w' a xs := by
  rcases h with h | ⟨b, off, rfl, hlt, hc⟩
  · exact .inl h
  · exact .inr ⟨b, off, rfl, Nat.lt_of_lt_of_le hlt hb.size, fun i hi => (hb.cell (p := ⟨b, off + i, none⟩) (by show b < B; omega)).trans (hc i hi)⟩
theorem Rd.at {w : World} {a : Option Addr} {xs : List Int} (h : Rd w a xs) (k : Nat) (hk : k < xs.length) :
    ∃ b off x, a = some ⟨b, off, none⟩ ∧ b < w.heap.size ∧ w.cell? ⟨b, off + k, none⟩ = some (.int .i64 x) ∧ Hid (xs.getD k 0 = x) := by
  rcases h with rfl | ⟨b, off, rfl, hlt, hc⟩
  · simp at hk
  · exact ⟨b, off, _, rfl, hlt, hc k hk, rfl⟩
theorem Rd.take {w : World} {a : Option Addr} {xs : List Int} (h : Rd w a xs) (k : Nat) : Rd w a (xs.take k) := by
  rcases h with h | ⟨b, off, rfl, hlt, hc⟩
  · left; simp [h]
  · by_cases hk : k ≤ xs.length
    · refine .inr ⟨b, off, rfl, hlt, fun i hi => ?_⟩
      rw [List.length_take, Nat.min_eq_left hk] at hi
      rw [hc i (by omega)]
      simp [hi]
    · rw [List.take_of_length_le (by omega)]
      exact .inr ⟨b, off, rfl, hlt, hc⟩
theorem rd_of_cells {w : World} {x : Addr} {zs : List Int} (hc : ∀ i, i < zs.length → w.cell? (x.add i) = some (.int .i64 (zs.getD i 0))) (len : Nat) : Rd w (some x) (zs.take len) := by
  by_cases h0 : 0 < zs.length
  · obtain ⟨b, off, rfl, hc2⟩ := ints_at hc h0
    refine Rd.take (.inr ⟨b, off, rfl, ?_, hc2⟩) len
    exact World.block_lt_of_cell? w ⟨b, off + 0, none⟩ (hc2 0 h0)
  · have : zs = [] := List.eq_nil_of_length_eq_zero (by omega)
    subst this; simp [Rd]
/-- a slice of the call's own from block B on (or nil) that holds xs -/
def Own (w : World) (B : Nat) (a : Option Addr) (cap : Nat) (xs : List Int) : Prop :=
  w.ownsRow B 3 1 (.slice a xs.length cap) xs.length (xs.map (Value.int .i64))
theorem Own.nil (w : World) (B : Nat) : Own w B none 0 [] := World.ownsRow_nil w B 3 1
theorem Own.rd {w : World} {B : Nat} {a : Option Addr} {cap : Nat} {xs : List Int} (h : Own w B a cap xs) : Rd w a xs := by
  unfold Own at h
  have h0 := h
  rcases h.2 with ⟨_, hn⟩ | ⟨g, c, cur, hv, hb, hg, _⟩
  · exact .inl (List.eq_nil_of_length_eq_zero hn)
  · obtain ⟨rfl, rfl⟩ : a = some ⟨g, 0, none⟩ ∧ cap = c := by simpa using hv
    refine .inr ⟨g, 0, rfl, (Array.getElem?_eq_some_iff.1 hg).1, fun i hi => ?_⟩
    rw [Nat.zero_add, h0.cellAt i (by omega), List.getElem?_map, List.getElem?_eq_getElem hi]
    simp [List.getD, hi]
theorem Own.mono {w : World} {B B' : Nat} {a : Option Addr} {cap : Nat} {xs : List Int} (h : Own w B a cap xs) (hB : B' ≤ B) : Own w B' a cap xs := by
  unfold Own at *
  refine ⟨h.1, ?_⟩
  rcases h.2 with hn | ⟨g, c, cur, hv, hb, r⟩
  · exact .inl hn
  · exact .inr ⟨g, c, cur, hv, by omega, r⟩
theorem Own.below {w w' : World} {B C : Nat} {a : Option Addr} {cap : Nat} {xs : List Int} (h : Own w B a cap xs) (hb : Below C w w') (hC : w.heap.size ≤ C) : Own w' B a cap xs := by
  unfold Own at *
  refine ⟨h.1, ?_⟩
  rcases h.2 with hn | ⟨g, c, cur, hv, hg, hh, r⟩
  · exact .inl hn
  · refine .inr ⟨g, c, cur, hv, hg, ?_, r⟩
    rw [hb.block g (by have := (Array.getElem?_eq_some_iff.1 hh).1; omega)]; exact hh
theorem Own.take {w : World} {B : Nat} {a : Option Addr} {cap : Nat} {xs : List Int} (h : Own w B a cap xs) (k : Nat) (hk : k ≤ xs.length) : Own w B a cap (xs.take k) := by
  unfold Own at *
  have hl : (xs.take k).length = k := by rw [List.length_take]; omega
  rw [hl]
  refine ⟨by simp; omega, ?_⟩
  rcases h.2 with ⟨hv, hn⟩ | ⟨g, c, cur, hv, hg, hh, hc, hm, hs, ht⟩
  · left
    have : k = 0 := by omega
    subst this
    simp at hv
    exact ⟨by simp [hv], rfl⟩
  · right
    simp only [Value.slice.injEq] at hv
    obtain ⟨rfl, _, rfl⟩ := hv
    refine ⟨g, cap, cur, rfl, hg, hh, by omega, hm, hs, ?_⟩
    rw [List.map_take, ← ht, List.take_take]
    congr 1
    omega
theorem Own.cases {w : World} {B : Nat} {a : Option Addr} {cap : Nat} {xs : List Int} (h : Own w B a cap xs) :
    (a = none ∧ cap = 0 ∧ xs = []) ∨ ∃ g, a = some ⟨g, 0, none⟩ ∧ B ≤ g ∧ g < w.heap.size ∧ xs.length ≤ cap := by
  unfold Own at h
  rcases h.2 with ⟨hv, hn⟩ | ⟨g, c, cur, hv, hg, hh, hc, _⟩
  · left; simp only [Value.slice.injEq] at hv; exact ⟨hv.1, hv.2.2, List.eq_nil_of_length_eq_zero hn⟩
  · right; simp only [Value.slice.injEq] at hv; obtain ⟨rfl, _, rfl⟩ := hv
    exact ⟨g, rfl, hg, (Array.getElem?_eq_some_iff.1 hh).1, hc⟩
theorem Own.cellAt {w : World} {B g cap : Nat} {xs : List Int} (h : Own w B (some ⟨g, 0, none⟩) cap xs) (k : Nat) (hk : k < xs.length) :
    ∃ x, w.cell? ⟨g, k, none⟩ = some (.int .i64 x) ∧ Hid (xs.getD k 0 = x) := by
  unfold Own at h
  refine ⟨_, ?_, rfl⟩
  rw [World.ownsRow.cellAt h k (by omega), List.getElem?_map, List.getElem?_eq_getElem hk]
  simp [List.getD, hk]
theorem Own.frozenAt {w : World} {B g cap : Nat} {xs : List Int} (h : Own w B (some ⟨g, 0, none⟩) cap xs) (k : Nat) : w.frozen? ⟨g, k, none⟩ = false :=
  World.ownsRow.frozenAt h k
theorem Own.stored {w : World} {B g cap : Nat} {xs : List Int} (h : Own w B (some ⟨g, 0, none⟩) cap xs) (k : Nat) (x : Int) :
    Own (w.setCell ⟨g, k, none⟩ (.int .i64 x)) B (some ⟨g, 0, none⟩) cap (xs.set k x) := by
  unfold Own at *
  have := (World.ownsRow.stored h k (.int .i64 x)).1
  rw [List.length_set, List.map_set]; exact this
theorem zeros_eq (n : Nat) : (madeCells #[Value.int .i64 0] n).toList = (List.replicate n (0 : Int)).map (Value.int .i64) := by
  rw [toList_madeCells_one, List.map_replicate]
theorem Own.made {w : World} {B g n : Nat} (h : w.ownsRow B 3 1 (.slice (some ⟨g, 0, none⟩) n n) n (madeCells #[Value.int .i64 0] n).toList) :
    Own w B (some ⟨g, 0, none⟩) n (List.replicate n 0) := by
  unfold Own; rw [List.length_replicate, ← zeros_eq]; exact h
theorem Own.lt {w : World} {B g cap : Nat} {xs : List Int} (h : Own w B (some ⟨g, 0, none⟩) cap xs) : B ≤ g ∧ g < w.heap.size := by
  rcases h.cases with ⟨h, _⟩ | ⟨g', h, hb, hl, _⟩
  · cases h
  · cases h; exact ⟨hb, hl⟩
theorem bel_drewN {B : Nat} {a w : World} (h : Below B a w) (n : Nat) : Below B a (w.drewN n) := ⟨h.os, h.tape, h.output, h.size, h.block⟩
theorem fill_step {xs : List Int} {k n : Nat} (hk : k < xs.length) (x : Int) (hx : xs.getD k 0 = x) (hn : n = xs.length - k) :
    (xs.take k ++ List.replicate n 0).set k x = xs.take (k + 1) ++ List.replicate (xs.length - (k + 1)) 0 := by
  subst hn
  rw [take_succ_getD' xs k hk, hx]
  have e : xs.length - k = (xs.length - (k + 1)) + 1 := by omega
  rw [e, List.replicate_succ, List.set_append_right _ _ (by rw [List.length_take]; omega), List.length_take, Nat.min_eq_left (by omega), Nat.sub_self]
  simp
theorem Try.infoInt : (Try.prog.info? 3).map (fun i => (i.zero, i.size, i.bytes)) = some (some (.int .i64 0), 1, 8) := by kernel_rfl
theorem getD_of {xs : List Int} {k : Nat} : xs[k]?.getD 0 = xs.getD k 0 := by rw [List.getD_eq_getElem?_getD]
end Go.Proofs.Ytaanplgolkodbab
