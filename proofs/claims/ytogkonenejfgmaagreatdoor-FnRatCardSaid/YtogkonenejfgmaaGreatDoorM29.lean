/- Words for slices of strings in memory (printed by gen_mems.py from the like for integers). No condition. The walks of the laws' helpers for slices of strings: markText, eqStringS, markStringS, heldStringS. -/
import Derived.Test.YtogkonenejfgmaaGreatDoorM01
import Derived.Test.YtogkonenejfgmaaGreatDoorM04
import Derived.Deep.QuietTactic
import Derived.BigQuiet
import Derived.Laws.IdiomStrings
import Derived.Deep.RegionHeld3
import Derived.Test.YtogkonenejfgmaaGreatDoorM03
namespace Go.Proofs.YtogkonenejfgmaaGreatDoor
open Go.RowKit
theorem Tryz.infoStr : (Tryz.prog.info? 9).map (fun i => (i.zero, i.size, i.bytes)) = some (some (.string ByteArray.empty), 1, 16) := by kernel_rfl
/-- the slice at a reads as xs -/
def RdS (w : World) (a : Option Addr) (xs : List ByteArray) : Prop :=
  xs = [] ∨ ∃ b off, a = some ⟨b, off, none⟩ ∧ b < w.heap.size ∧ ∀ i, i < xs.length → w.cell? ⟨b, off + i, none⟩ = some (.string (xs.getD i ByteArray.empty))
theorem RdS.nil (w : World) (a : Option Addr) : RdS w a [] := .inl rfl
theorem RdS.below {w w' : World} {a : Option Addr} {xs : List ByteArray} (h : RdS w a xs) {B : Nat} (hb : Below B w w') (hB : w.heap.size ≤ B) : RdS w' a xs := by
  rcases h with h | ⟨b, off, rfl, hlt, hc⟩
  · exact .inl h
  · exact .inr ⟨b, off, rfl, Nat.lt_of_lt_of_le hlt hb.size, fun i hi => (hb.cell (p := ⟨b, off + i, none⟩) (by show b < B; omega)).trans (hc i hi)⟩
theorem RdS.at {w : World} {a : Option Addr} {xs : List ByteArray} (h : RdS w a xs) (k : Nat) (hk : k < xs.length) :
    ∃ b off x, a = some ⟨b, off, none⟩ ∧ b < w.heap.size ∧ w.cell? ⟨b, off + k, none⟩ = some (.string x) ∧ Hid (xs.getD k ByteArray.empty = x) := by
  rcases h with rfl | ⟨b, off, rfl, hlt, hc⟩
  · simp at hk
  · exact ⟨b, off, _, rfl, hlt, hc k hk, rfl⟩
theorem RdS.take {w : World} {a : Option Addr} {xs : List ByteArray} (h : RdS w a xs) (k : Nat) : RdS w a (xs.take k) := by
  rcases h with h | ⟨b, off, rfl, hlt, hc⟩
  · left; simp [h]
  · by_cases hk : k ≤ xs.length
    · refine .inr ⟨b, off, rfl, hlt, fun i hi => ?_⟩
      rw [List.length_take, Nat.min_eq_left hk] at hi
      rw [hc i (by omega)]
      simp [hi]
    · rw [List.take_of_length_le (by omega)]
      exact .inr ⟨b, off, rfl, hlt, hc⟩
/-- a slice of the call's own from block B on (or nil) that holds xs -/
def OwnS (w : World) (B : Nat) (a : Option Addr) (cap : Nat) (xs : List ByteArray) : Prop :=
  w.ownsRow B 9 1 (.slice a xs.length cap) xs.length (xs.map (Value.string))
theorem OwnS.nil (w : World) (B : Nat) : OwnS w B none 0 [] := World.ownsRow_nil w B 9 1
theorem OwnS.rd {w : World} {B : Nat} {a : Option Addr} {cap : Nat} {xs : List ByteArray} (h : OwnS w B a cap xs) : RdS w a xs := by
  unfold OwnS at h
  have h0 := h
  rcases h.2 with ⟨_, hn⟩ | ⟨g, c, cur, hv, hb, hg, _⟩
  · exact .inl (List.eq_nil_of_length_eq_zero hn)
  · obtain ⟨rfl, rfl⟩ : a = some ⟨g, 0, none⟩ ∧ cap = c := by simpa using hv
    refine .inr ⟨g, 0, rfl, (Array.getElem?_eq_some_iff.1 hg).1, fun i hi => ?_⟩
    rw [Nat.zero_add, h0.cellAt i (by omega), List.getElem?_map, List.getElem?_eq_getElem hi]
    simp [List.getD, hi]
theorem OwnS.mono {w : World} {B B' : Nat} {a : Option Addr} {cap : Nat} {xs : List ByteArray} (h : OwnS w B a cap xs) (hB : B' ≤ B) : OwnS w B' a cap xs := by
  unfold OwnS at *
  refine ⟨h.1, ?_⟩
  rcases h.2 with hn | ⟨g, c, cur, hv, hb, r⟩
  · exact .inl hn
  · exact .inr ⟨g, c, cur, hv, by omega, r⟩
theorem OwnS.below {w w' : World} {B C : Nat} {a : Option Addr} {cap : Nat} {xs : List ByteArray} (h : OwnS w B a cap xs) (hb : Below C w w') (hC : w.heap.size ≤ C) : OwnS w' B a cap xs := by
  unfold OwnS at *
  refine ⟨h.1, ?_⟩
  rcases h.2 with hn | ⟨g, c, cur, hv, hg, hh, r⟩
  · exact .inl hn
  · refine .inr ⟨g, c, cur, hv, hg, ?_, r⟩
    rw [hb.block g (by have := (Array.getElem?_eq_some_iff.1 hh).1; omega)]; exact hh
theorem OwnS.take {w : World} {B : Nat} {a : Option Addr} {cap : Nat} {xs : List ByteArray} (h : OwnS w B a cap xs) (k : Nat) (hk : k ≤ xs.length) : OwnS w B a cap (xs.take k) := by
  unfold OwnS at *
  have hl : (xs.take k).length = k := by rw [List.length_take]; omega
  rw [hl]
  refine ⟨by simp; omega, ?_⟩
  rcases h.2 with ⟨hv, hn⟩ | ⟨g, c, cur, hv, hg, hh, hc, hm, hs, ht⟩
  · left
    have : k = 0 := by omega
    subst this
    simp at hv
    exact ⟨by simp [hv], rfl⟩
  · right
    simp only [Value.slice.injEq] at hv
    obtain ⟨rfl, _, rfl⟩ := hv
    refine ⟨g, cap, cur, rfl, hg, hh, by omega, hm, hs, ?_⟩
    rw [List.map_take, ← ht, List.take_take]
    congr 1
    omega
theorem OwnS.cases {w : World} {B : Nat} {a : Option Addr} {cap : Nat} {xs : List ByteArray} (h : OwnS w B a cap xs) :
    (a = none ∧ cap = 0 ∧ xs = []) ∨ ∃ g, a = some ⟨g, 0, none⟩ ∧ B ≤ g ∧ g < w.heap.size ∧ xs.length ≤ cap := by
  unfold OwnS at h
  rcases h.2 with ⟨hv, hn⟩ | ⟨g, c, cur, hv, hg, hh, hc, _⟩
  · left; simp only [Value.slice.injEq] at hv; exact ⟨hv.1, hv.2.2, List.eq_nil_of_length_eq_zero hn⟩
  · right; simp only [Value.slice.injEq] at hv; obtain ⟨rfl, _, rfl⟩ := hv
    exact ⟨g, rfl, hg, (Array.getElem?_eq_some_iff.1 hh).1, hc⟩
theorem OwnS.cellAt {w : World} {B g cap : Nat} {xs : List ByteArray} (h : OwnS w B (some ⟨g, 0, none⟩) cap xs) (k : Nat) (hk : k < xs.length) :
    ∃ x, w.cell? ⟨g, k, none⟩ = some (.string x) ∧ Hid (xs.getD k ByteArray.empty = x) := by
  unfold OwnS at h
  refine ⟨_, ?_, rfl⟩
  rw [World.ownsRow.cellAt h k (by omega), List.getElem?_map, List.getElem?_eq_getElem hk]
  simp [List.getD, hk]
theorem OwnS.frozenAt {w : World} {B g cap : Nat} {xs : List ByteArray} (h : OwnS w B (some ⟨g, 0, none⟩) cap xs) (k : Nat) : w.frozen? ⟨g, k, none⟩ = false :=
  World.ownsRow.frozenAt h k
theorem OwnS.stored {w : World} {B g cap : Nat} {xs : List ByteArray} (h : OwnS w B (some ⟨g, 0, none⟩) cap xs) (k : Nat) (x : ByteArray) :
    OwnS (w.setCell ⟨g, k, none⟩ (.string x)) B (some ⟨g, 0, none⟩) cap (xs.set k x) := by
  unfold OwnS at *
  have := (World.ownsRow.stored h k (.string x)).1
  rw [List.length_set, List.map_set]; exact this
theorem OwnS.lt {w : World} {B g cap : Nat} {xs : List ByteArray} (h : OwnS w B (some ⟨g, 0, none⟩) cap xs) : B ≤ g ∧ g < w.heap.size := by
  rcases h.cases with ⟨h, _⟩ | ⟨g', h, hb, hl, _⟩
  · cases h
  · cases h; exact ⟨hb, hl⟩
theorem OwnS.shape {w : World} {B : Nat} {v : Value} {n : Nat} {xs : List ByteArray} (h : w.ownsRow B 9 1 v n (xs.map (Value.string))) : n = xs.length ∧ ∃ a cap, v = .slice a xs.length cap ∧ OwnS w B a cap xs := by
  have hn : n = xs.length := by have := h.1; simp at this; omega
  subst hn
  refine ⟨rfl, ?_⟩
  have h' := h
  rcases h.2 with ⟨rfl, hn⟩ | ⟨g, c, cur, rfl, _⟩
  · refine ⟨none, 0, by rw [hn], ?_⟩
    unfold OwnS; rw [hn] at h' ⊢; exact h'
  · exact ⟨_, _, rfl, h'⟩
theorem OwnS.alloc {w : World} {B : Nat} {a : Option Addr} {cap : Nat} {xs : List ByteArray} (h : OwnS w B a cap xs) (o : Obj) : OwnS (w.alloc o) B a cap xs := World.ownsRow.alloc h o
/-- 'append(out, v)', out a slice of ints of the call's own -/
theorem app1S {ops : Array Oper} {rest : List Oper} {o : Oper} {act : Act} {Q : Exit → Act → World → Prop} (w : World) (hgd : o.guard = none) (s x : Operand)
    (ho : o.op = .call { callee := .builtin .append, args := #[s, x], argTypes := #[48, 48] })
    (B : Nat) (a : Option Addr) (cap : Nat) (xs : List ByteArray) (v : ByteArray) (hs : act.eval s = .slice a xs.length cap) (hx : act.eval x = .slice (some ⟨w.heap.size, 0, none⟩) 1 1)
    (hown : OwnS w B a cap xs) (hlen : xs.length < 8796093022207) (hB : B ≤ w.heap.size)
    (h : ∀ a' c' w', OwnS w' B a' c' (xs ++ [v]) → Below B w w' → wpList Tryz.prog ops Q rest (act.put o.dst (.slice a' (xs ++ [v]).length c')) w') :
    wpList Tryz.prog ops Q (o :: rest) act (w.alloc (.cells #[.string v] 9)) := by
  obtain ⟨i0, hi, hz0, hz1, hz2⟩ := info_parts Tryz.infoStr
  refine wpList_append_own _ hgd s x 48 ho B 9 i0 (.string ByteArray.empty) 1 16 Tryz.underlying48 hi hz0 hz1 hz2 rfl (by decide) _ _ _ hs (hown.alloc _) ⟨w.heap.size, 0, none⟩ 1 1 [.string v] hx rfl ?_ ?_ ?_ ?_ ?_ ?_
  · intro j u hj
    match j, hj with
    | 0, hj => simp at hj; subst hj; simp [Addr.add]
  · intro u hu; simp at hu; subst hu; rfl
  · unfold maxLen; omega
  · omega
  · simp; omega
  · intro v' w' hown' hg _
    have e : xs.map (Value.string) ++ [.string v] = (xs ++ [v]).map (Value.string) := by simp
    rw [e] at hown'
    obtain ⟨_, a', c', rfl, ho'⟩ := OwnS.shape hown'
    refine h a' c' w' ho' (below_alloc_grown hg hB ?_)
    intro k hk
    have := hown.cases
    rcases this with ⟨rfl, _⟩ | ⟨g, rfl, hg, _⟩
    · simp [Value.ownBlock] at hk
    · simp [Value.ownBlock] at hk; omega

theorem OwnS.empty (w : World) (B : Nat) (hB : B ≤ w.heap.size) : OwnS (w.alloc (.cells #[] 9)) B (some ⟨w.heap.size, 0, none⟩) 0 [] :=
  World.ownsRow_lit w #[] 0 hB (Nat.zero_le _) rfl
/-- what every slice of ints that is handed on is known by -/
def InS (w : World) (a : Option Addr) (c : Nat) (xs : List ByteArray) : Prop := RdS w a xs ∧ xs.length ≤ c ∧ xs.length ≤ 1099511627776
theorem InS.below {w w' : World} {a : Option Addr} {c : Nat} {xs : List ByteArray} (h : InS w a c xs) {B : Nat} (hb : Below B w w') (hB : w.heap.size ≤ B) : InS w' a c xs := ⟨h.1.below hb hB, h.2⟩
theorem InS.maxLen {w : World} {a : Option Addr} {c : Nat} {xs : List ByteArray} (h : InS w a c xs) : xs.length ≤ maxLen := by have := h.2.2; unfold Go.maxLen; omega
theorem OwnS.inn {w : World} {B : Nat} {a : Option Addr} {c : Nat} {xs : List ByteArray} (h : OwnS w B a c xs) (hl : xs.length ≤ 1099511627776) : InS w a c xs := by
  refine ⟨h.rd, ?_, hl⟩
  rcases h.cases with ⟨_, rfl, rfl⟩ | ⟨_, _, _, _, h⟩
  · exact Nat.le_refl _
  · exact h
theorem OwnS.le {w : World} {B : Nat} {a : Option Addr} {c : Nat} {xs : List ByteArray} (h : OwnS w B a c xs) : xs.length ≤ c := by
  rcases h.cases with ⟨_, rfl, rfl⟩ | ⟨_, _, _, _, h⟩
  · exact Nat.le_refl _
  · exact h
/-- a slice of the call's own whose block lies between lo and hi (nothing is said of an empty one) -/
def SlotS (w : World) (lo hi : Nat) (a : Option Addr) (cap : Nat) (xs : List ByteArray) : Prop :=
  hi ≤ w.heap.size ∧ (xs = [] ∨ (OwnS w lo a cap xs ∧ ∀ p, a = some p → lo ≤ p.block ∧ p.block < hi))
theorem SlotS.of {w : World} {lo : Nat} {a : Option Addr} {cap : Nat} {xs : List ByteArray} (h : OwnS w lo a cap xs) : SlotS w lo w.heap.size a cap xs := by
  refine ⟨Nat.le_refl _, .inr ⟨h, ?_⟩⟩
  intro p hp
  rcases h.cases with ⟨rfl, _⟩ | ⟨g, rfl, h1, h2, _⟩
  · cases hp
  · cases hp; exact ⟨h1, h2⟩
theorem SlotS.rd {w : World} {lo hi : Nat} {a : Option Addr} {cap : Nat} {xs : List ByteArray} (h : SlotS w lo hi a cap xs) : RdS w a xs := by
  rcases h.2 with rfl | h
  · exact RdS.nil _ _
  · exact h.1.rd
theorem ownS_same {w w' : World} {lo hi : Nat} {a : Option Addr} {cap : Nat} {xs : List ByteArray} (h : OwnS w lo a cap xs) (hp : ∀ p, a = some p → lo ≤ p.block ∧ p.block < hi)
    (hb : ∀ k, lo ≤ k → k < hi → w'.heap[k]? = w.heap[k]?) : OwnS w' lo a cap xs := by
  unfold OwnS at *
  refine ⟨h.1, ?_⟩
  rcases h.2 with hn | ⟨g, c, cur, hv, hg, hh, r⟩
  · exact .inl hn
  · refine .inr ⟨g, c, cur, hv, hg, ?_, r⟩
    have hv' := hv
    simp only [Value.slice.injEq] at hv'
    have h3 : lo ≤ g ∧ g < hi := hp ⟨g, 0, none⟩ hv'.1
    rw [hb g h3.1 h3.2]; exact hh
theorem SlotS.below {w w' : World} {lo hi C : Nat} {a : Option Addr} {cap : Nat} {xs : List ByteArray} (h : SlotS w lo hi a cap xs) (hb : Below C w w') (hC : hi ≤ C) : SlotS w' lo hi a cap xs := by
  refine ⟨Nat.le_trans h.1 hb.size, ?_⟩
  rcases h.2 with h2 | ⟨h2, h3⟩
  · exact .inl h2
  · exact .inr ⟨ownS_same h2 h3 (fun k _ hk => hb.block k (by omega)), h3⟩
theorem SlotS.wr {w w' : World} {lo hi lo2 hi2 : Nat} {a : Option Addr} {cap : Nat} {xs : List ByteArray} (h : SlotS w lo hi a cap xs) (hw : Wr w w' lo2 hi2)
    (hd : hi ≤ lo2 ∨ hi2 ≤ lo) : SlotS w' lo hi a cap xs := by
  refine ⟨Nat.le_trans h.1 hw.size, ?_⟩
  have hsz := h.1
  rcases h.2 with h2 | ⟨h2, h3⟩
  · exact .inl h2
  · exact .inr ⟨ownS_same h2 h3 (fun k hk1 hk2 => hw.block k (by omega) (by omega)), h3⟩
end Go.Proofs.YtogkonenejfgmaaGreatDoor
namespace Go.Proofs.YtogkonenejfgmaaGreatDoor
open Go.RowKit
def mtF : Nat → Nat → List UInt8
  | 0, _ => []
  | f + 1, k => if k = 0 then [] else mtF f (k / 10) ++ [UInt8.ofNat (48 + k % 10)]
theorem mtF_fuel : ∀ (f g k : Nat), k ≤ f → k ≤ g → mtF f k = mtF g k
  | 0, 0, _, _, _ => rfl
  | 0, g + 1, k, h, _ => by obtain rfl : k = 0 := by omega
                            simp [mtF]
  | f + 1, 0, k, _, h => by obtain rfl : k = 0 := by omega
                            simp [mtF]
  | f + 1, g + 1, k, h1, h2 => by
    unfold mtF
    split
    · rfl
    · rw [mtF_fuel f g (k / 10) (by omega) (by omega)]
def mtd (k : Nat) : List UInt8 := mtF k k
theorem mtd_zero : mtd 0 = [] := rfl
theorem mtd_pos {k : Nat} (h : k ≠ 0) : mtd k = mtd (k / 10) ++ [UInt8.ofNat (48 + k % 10)] := by
  obtain ⟨n, rfl⟩ : ∃ n, k = n + 1 := ⟨k - 1, by omega⟩
  show mtF (n + 1) (n + 1) = mtF ((n + 1) / 10) ((n + 1) / 10) ++ _
  rw [mtF, if_neg (by omega), mtF_fuel n ((n + 1) / 10) ((n + 1) / 10) (by omega) (Nat.le_refl _)]
def mt (k : Int) : ByteArray := if k ≤ 0 then ⟨#[109, 48]⟩ else ⟨#[109]⟩ ++ ⟨(mtd k.toNat).toArray⟩
def marksS (k : Int) : Nat → List ByteArray
  | 0 => []
  | n + 1 => marksS k n ++ [mt (k + n)]
theorem marksS_length (k : Int) : ∀ n, (marksS k n).length = n
  | 0 => rfl
  | n + 1 => by simp [marksS, marksS_length k n]
theorem marksS_getD (k : Int) : ∀ (n i : Nat), i < n → (marksS k n).getD i ByteArray.empty = mt (k + i)
  | 0, i, h => by omega
  | n + 1, i, h => by
    unfold marksS
    by_cases e : i < n
    · rw [List.getD_eq_getElem?_getD, List.getElem?_append_left (by rw [marksS_length]; exact e), ← List.getD_eq_getElem?_getD, marksS_getD k n i e]
    · have : i = n := by omega
      subst this
      rw [List.getD_eq_getElem?_getD, List.getElem?_append_right (by rw [marksS_length]; exact Nat.le_refl _), marksS_length]
      simp
theorem dropS_cons (xs : List ByteArray) (k : Nat) (h : k < xs.length) : xs.drop k = xs.getD k ByteArray.empty :: xs.drop (k + 1) := by
  rw [List.drop_eq_getElem_cons h]; simp [List.getD, h]
theorem marksS_step {xs : List ByteArray} {k : Int} {i : Nat} (h : i < xs.length) : (marksS k i ++ xs.drop i).set i (mt (k + i)) = marksS k (i + 1) ++ xs.drop (i + 1) := by
  rw [List.set_append_right _ _ (by rw [marksS_length]; exact Nat.le_refl _), marksS_length, Nat.sub_self, dropS_cons xs i h]
  simp [marksS]
end Go.Proofs.YtogkonenejfgmaaGreatDoor
