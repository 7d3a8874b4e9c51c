/- The walks of the laws' helpers markIntS (writes k, k+1, .. into a slice of ints) and heldIntS (asks whether they stand there). For slices of the call's own. -/
import Derived.Test.YtcibccaimjifmaaMem
import Derived.Test.YtcibccaimjifmaaNat
import Derived.Test.YtcibccaimjifmaaStr
import Derived.Laws.IdiomStrings
namespace Go.Proofs.Ytcibccaimjifmaa
open Go.RowKit

/-- only blocks from lo to below hi were written -/
structure Wr (w w' : World) (lo hi : Nat) : Prop where
  os : w'.os = w.os
  tape : w'.tape = w.tape
  output : w'.output = w.output
  size : w.heap.size ≤ w'.heap.size
  block : ∀ k, k < w.heap.size → k < lo ∨ hi ≤ k → w'.heap[k]? = w.heap[k]?
theorem Wr.refl (w : World) (lo hi : Nat) : Wr w w lo hi := ⟨rfl, rfl, rfl, Nat.le_refl _, fun _ _ _ => rfl⟩
theorem Wr.trans {a b c : World} {lo hi : Nat} (h : Wr a b lo hi) (k : Wr b c lo hi) : Wr a c lo hi :=
  ⟨k.os.trans h.os, k.tape.trans h.tape, k.output.trans h.output, Nat.le_trans h.size k.size, fun i hi' h2 => (k.block i (Nat.lt_of_lt_of_le hi' h.size) h2).trans (h.block i hi' h2)⟩
theorem Wr.of {w w' : World} (h : Below w.heap.size w w') (lo hi : Nat) : Wr w w' lo hi := ⟨h.os, h.tape, h.output, h.size, fun k hk _ => h.block k hk⟩
theorem Wr.wide {w w' : World} {lo hi lo2 hi2 : Nat} (h : Wr w w' lo hi) (h1 : lo2 ≤ lo) (h2 : hi ≤ hi2) : Wr w w' lo2 hi2 :=
  ⟨h.os, h.tape, h.output, h.size, fun k hk hd => h.block k hk (by omega)⟩
theorem Wr.set {w w' : World} {lo hi g k : Nat} (h : Wr w w' lo hi) (hg : lo ≤ g ∧ g < hi) (v : Value) : Wr w (w'.setCell ⟨g, k, none⟩ v) lo hi :=
  ⟨h.os, h.tape, h.output, by simp [World.setCell]; exact h.size, fun j hk hj => (Below.heap_setCell _ _ _ _ (by show j ≠ g; omega)).trans (h.block j hk hj)⟩
/-- a slice of the call's own whose block lies between lo and hi (nothing is said of an empty one) -/
def Slot (w : World) (lo hi : Nat) (a : Option Addr) (cap : Nat) (xs : List Int) : Prop :=
  hi ≤ w.heap.size ∧ (xs = [] ∨ (Own w lo a cap xs ∧ ∀ p, a = some p → lo ≤ p.block ∧ p.block < hi))
theorem Slot.of {w : World} {lo : Nat} {a : Option Addr} {cap : Nat} {xs : List Int} (h : Own w lo a cap xs) : Slot w lo w.heap.size a cap xs := by
  refine ⟨Nat.le_refl _, .inr ⟨h, ?_⟩⟩
  intro p hp
  rcases h.cases with ⟨rfl, _⟩ | ⟨g, rfl, h1, h2, _⟩
  · cases hp
  · cases hp; exact ⟨h1, h2⟩
theorem Slot.rd {w : World} {lo hi : Nat} {a : Option Addr} {cap : Nat} {xs : List Int} (h : Slot w lo hi a cap xs) : Rd w a xs := by
  rcases h.2 with rfl | h
  · exact Rd.nil _ _
  · exact h.1.rd
theorem own_same {w w' : World} {lo hi : Nat} {a : Option Addr} {cap : Nat} {xs : List Int} (h : Own w lo a cap xs) (hp : ∀ p, a = some p → lo ≤ p.block ∧ p.block < hi)
    (hb : ∀ k, lo ≤ k → k < hi → w'.heap[k]? = w.heap[k]?) : Own w' lo a cap xs := by
  unfold Own at *
  refine ⟨h.1, ?_⟩
  rcases h.2 with hn | ⟨g, c, cur, hv, hg, hh, r⟩
  · exact .inl hn
  · refine .inr ⟨g, c, cur, hv, hg, ?_, r⟩
    have hv' := hv
    simp only [Value.slice.injEq] at hv'
    have h3 : lo ≤ g ∧ g < hi := hp ⟨g, 0, none⟩ hv'.1
    rw [hb g h3.1 h3.2]; exact hh
theorem Slot.below {w w' : World} {lo hi C : Nat} {a : Option Addr} {cap : Nat} {xs : List Int} (h : Slot w lo hi a cap xs) (hb : Below C w w') (hC : hi ≤ C) : Slot w' lo hi a cap xs := by
  refine ⟨Nat.le_trans h.1 hb.size, ?_⟩
  rcases h.2 with h2 | ⟨h2, h3⟩
  · exact .inl h2
  · exact .inr ⟨own_same h2 h3 (fun k _ hk => hb.block k (by omega)), h3⟩
theorem Slot.wr {w w' : World} {lo hi lo2 hi2 : Nat} {a : Option Addr} {cap : Nat} {xs : List Int} (h : Slot w lo hi a cap xs) (hw : Wr w w' lo2 hi2)
    (hd : hi ≤ lo2 ∨ hi2 ≤ lo) : Slot w' lo hi a cap xs := by
  refine ⟨Nat.le_trans h.1 hw.size, ?_⟩
  have hsz := h.1
  rcases h.2 with h2 | ⟨h2, h3⟩
  · exact .inl h2
  · exact .inr ⟨own_same h2 h3 (fun k hk1 hk2 => hw.block k (by omega) (by omega)), h3⟩
theorem below_wr {w0 w w' : World} {B lo hi : Nat} (h : Below B w0 w) (hw : Wr w w' lo hi) (hB : B ≤ lo) (hB2 : B ≤ w.heap.size) : Below B w0 w' :=
  h.trans ⟨hw.os, hw.tape, hw.output, hw.size, fun k hk => hw.block k (by omega) (by omega)⟩

theorem cell_keep {w w' : World} {C b o : Nat} {v : Value} (hb : Below C w w') (h : w.cell? ⟨b, o, none⟩ = some v) (hC : w.heap.size ≤ C) : w'.cell? ⟨b, o, none⟩ = some v := by
  have hlt : b < w.heap.size := World.block_lt_of_cell? w ⟨b, o, none⟩ h
  exact (hb.cell (p := ⟨b, o, none⟩) (by show b < C; omega)).trans h
theorem cell_keep_wr {w w' : World} {lo hi b o : Nat} {v : Value} (hw : Wr w w' lo hi) (h : w.cell? ⟨b, o, none⟩ = some v) (hd : b < lo ∨ hi ≤ b) : w'.cell? ⟨b, o, none⟩ = some v := by
  have hlt : b < w.heap.size := World.block_lt_of_cell? w ⟨b, o, none⟩ h
  exact (World.cell?_of_block (hw.block b hlt hd)).trans h
theorem cell_box (w : World) (C : Array Value) (T : TypeId) (b j : Nat) (v : Value) (hb : b = w.heap.size) (h : C[j]? = some v) : (w.alloc (.cells C T)).cell? ⟨b, j, none⟩ = some v := by
  subst hb
  exact (World.cell?_alloc_mark w C T (0, 0) j).trans h
def marks (k : Int) : Nat → List Int
  | 0 => []
  | n + 1 => marks k n ++ [k + n]
theorem marks_length (k : Int) : ∀ n, (marks k n).length = n
  | 0 => rfl
  | n + 1 => by simp [marks, marks_length k n]
theorem marks_getD (k : Int) : ∀ (n i : Nat), i < n → (marks k n).getD i 0 = k + i
  | 0, i, h => by omega
  | n + 1, i, h => by
    unfold marks
    by_cases e : i < n
    · rw [List.getD_eq_getElem?_getD, List.getElem?_append_left (by rw [marks_length]; exact e), ← List.getD_eq_getElem?_getD, marks_getD k n i e]
    · have : i = n := by omega
      subst this
      rw [List.getD_eq_getElem?_getD, List.getElem?_append_right (by rw [marks_length]; exact Nat.le_refl _), marks_length]
      simp
theorem marks_step {xs : List Int} {k : Int} {i : Nat} (h : i < xs.length) : (marks k i ++ xs.drop i).set i (k + i) = marks k (i + 1) ++ xs.drop (i + 1) := by
  rw [List.set_append_right _ _ (by rw [marks_length]; exact Nat.le_refl _), marks_length, Nat.sub_self, drop_cons_getD xs i h]
  simp [marks]

set_option maxHeartbeats 400000 in
theorem markIntS_any (lo hi : Nat) (a : Option Addr) (cap : Nat) (xs : List Int) (k : Int) (w : World) (h : Slot w lo hi a cap xs) (hl : xs.length ≤ 1099511627776) (hk : 0 ≤ k ∧ k ≤ 1099511627776) :
    Calls Try.prog 31 #[.slice a xs.length cap, .int .i64 k] w fun e w' => e = .returned (.int .i64 (k + xs.length)) ∧ Slot w' lo hi a cap (marks k xs.length) ∧ Wr w w' lo hi := by
  obtain ⟨hk0, hk1⟩ := hk
  go_enter Try.func31, Try.ntmps31
  go_wp2
  go_loopw [1, 5] (fun kk i wr => ∃ n : Nat, n ≤ xs.length ∧ i = .int .i64 n ∧ kk = .int .i64 (k + n) ∧ Slot wr lo hi a cap (marks k n ++ xs.drop n) ∧ Wr w wr lo hi) (fun _ i _ => xs.length - (intOf i).toNat)
  case atStart => exact ⟨0, Nat.zero_le _, rfl, by simp, by simpa [marks] using h, Wr.refl _ _ _⟩
  case round =>
    obtain ⟨n, hn, rfl, rfl, hs, hw⟩ := hrel
    by_cases hlt : n < xs.length
    · have hlen : (marks k n ++ xs.drop n).length = xs.length := by rw [List.length_append, marks_length, List.length_drop]; omega
      obtain ⟨hsz, hs | ⟨hs, hp⟩⟩ := hs
      · rw [hs] at hlen; simp at hlen; omega
      rcases hs.cases with ⟨_, _, h3⟩ | ⟨g, rfl, hg1, hg2, _⟩
      · rw [h3] at hlen; simp at hlen; omega
      · obtain ⟨y, h2, _⟩ := hs.cellAt n (by omega)
        have h3 := hs.frozenAt n
        have hs2 := hs.stored n (k + n)
        rw [marks_step hlt] at hs2
        have hs3 : Slot (wr.setCell ⟨g, n, none⟩ (.int .i64 (k + n))) lo hi (some ⟨g, 0, none⟩) cap (marks k (n + 1) ++ xs.drop (n + 1)) := ⟨by simpa [World.setCell] using hsz, .inr ⟨hs2, hp⟩⟩
        have HS := Lib.hid hs3
        have HP := Lib.hid hp
        have hw2 := hw.set (k := n) (hp ⟨g, 0, none⟩ rfl) (.int .i64 (k + n))
        clear hs hs2 hs3 hw hlen hp
        go_wp2
        go_roundw
        case rel => exact ⟨n + 1, by omega, by go_num, by go_num, HS.out, hw2⟩
        case measure => simp [intOf]; omega
    · have e : n = xs.length := by omega
      subst e
      go_wp2
      go_ret
      refine ⟨rfl, ?_, hw⟩
      rw [List.drop_of_length_le (Nat.le_refl _), List.append_nil] at hs
      exact hs

set_option maxHeartbeats 400000 in
theorem heldIntS_any (a : Option Addr) (cap n : Nat) (k : Int) (w : World) (h : Rd w a (marks k n)) (hl : n ≤ 1099511627776) (hk : 0 ≤ k ∧ k ≤ 1099511627776) :
    Calls Try.prog 32 #[.slice a n cap, .int .i64 k] w fun e w' => e = .returned (.int .i64 (k + n)) ∧ w = w' := by
  obtain ⟨hk0, hk1⟩ := hk
  go_enter Try.func32, Try.ntmps32
  go_wp2
  go_loop [1, 5] (fun kk i => ∃ m : Nat, m ≤ n ∧ i = .int .i64 m ∧ kk = .int .i64 (k + m)) (fun _ i => n - (intOf i).toNat)
  case atStart => exact ⟨0, Nat.zero_le _, rfl, by simp⟩
  case round =>
    obtain ⟨m, hm, rfl, rfl⟩ := hrel
    by_cases hlt : m < n
    · obtain ⟨b, off, x, rfl, hb, h1, hx⟩ := h.at m (by rw [marks_length]; exact hlt)
      have hx' := hx.out
      rw [marks_getD k n m hlt] at hx'
      subst hx'
      clear h hx
      go_wp2
      go_round
      case rel => exact ⟨m + 1, by omega, by go_num, by go_num⟩
      case measure => simp [intOf]; omega
    · have e : m = n := by omega
      subst e
      go_wp2
      go_ret
      exact ⟨rfl, rfl⟩
end Go.Proofs.Ytcibccaimjifmaa
