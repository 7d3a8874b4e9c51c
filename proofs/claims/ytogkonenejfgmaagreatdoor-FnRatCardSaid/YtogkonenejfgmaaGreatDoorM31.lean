/- Plain arithmetic, no program: the number that a row of digits stands for. No condition. The walks of spec.l01All, spec.IsDigits, impl.isDigit, impl.IsDigits: what each returns. For every string within the reach. The walks of TextNat (reference and program): the number of a text. For every string within the reach. -/
import Derived.Test.YtogkonenejfgmaaGreatDoorM02
import Derived.Test.YtogkonenejfgmaaGreatDoorM03
import Derived.Test.YtogkonenejfgmaaGreatDoorProg
import Derived.Deep.QuietTactic
import Derived.BigQuiet
namespace Go.Proofs.YtogkonenejfgmaaGreatDoor
def dvStep (n : Nat) (c : UInt8) : Nat := n * 10 + (c.toNat - 48)
def dv (l : List UInt8) : Nat := l.foldl dvStep 0
def digs (l : List UInt8) : Prop := ∀ c ∈ l, 48 ≤ c.toNat ∧ c.toNat ≤ 57
theorem dv_snoc (l : List UInt8) (c : UInt8) : dv (l ++ [c]) = dv l * 10 + (c.toNat - 48) := by unfold dv; rw [List.foldl_append]; rfl
theorem dv_nil : dv [] = 0 := rfl
theorem snoc_ind8 {P : List UInt8 → Prop} (h0 : P []) (h1 : ∀ xs x, P xs → P (xs ++ [x])) (l : List UInt8) : P l := by
  have : ∀ r : List UInt8, P r.reverse := by
    intro r
    induction r with
    | nil => exact h0
    | cons x t ih => rw [List.reverse_cons]; exact h1 _ _ ih
  simpa using this l.reverse
theorem dv_append (a b : List UInt8) : dv (a ++ b) = dv a * 10 ^ b.length + dv b := by
  induction b using snoc_ind8 with
  | h0 => simp [dv_nil]
  | h1 b c ih =>
    rw [← List.append_assoc, dv_snoc, ih, dv_snoc, List.length_append]
    show _ = dv a * 10 ^ (b.length + 1) + _
    rw [Nat.pow_succ, Nat.add_mul, Nat.mul_assoc]; omega
theorem digs_append {a b : List UInt8} : digs (a ++ b) ↔ digs a ∧ digs b := by
  unfold digs
  constructor
  · intro h; exact ⟨fun c hc => h c (by simp [hc]), fun c hc => h c (by simp [hc])⟩
  · intro h c hc; rw [List.mem_append] at hc; exact hc.elim (h.1 c) (h.2 c)
theorem dv_lt {l : List UInt8} (h : digs l) : dv l < 10 ^ l.length := by
  induction l using snoc_ind8 with
  | h0 => simp [dv_nil]
  | h1 l c ih =>
    rw [digs_append] at h
    have h1 := ih h.1
    have h2 := h.2 c (by simp)
    rw [dv_snoc, List.length_append]
    show _ < 10 ^ (l.length + 1)
    rw [Nat.pow_succ]
    generalize (10 : Nat) ^ l.length = p at *
    omega
theorem digs_take {l : List UInt8} (h : digs l) (k : Nat) : digs (l.take k) := fun c hc => h c (List.mem_of_mem_take hc)
theorem digs_drop {l : List UInt8} (h : digs l) (k : Nat) : digs (l.drop k) := fun c hc => h c (List.mem_of_mem_drop hc)
theorem allB_digs {l : List UInt8} (h : allB 48 57 48 57 l = true) : digs l := by
  unfold allB at h
  rw [Bool.and_eq_true, List.all_eq_true] at h
  intro c hc
  have := h.1 c hc
  simp [bad] at this
  omega
/-- the digits of a text from f to below i -/
def chunk (l : List UInt8) (f i : Nat) : List UInt8 := (l.drop f).take (i - f)
theorem chunk_nil (l : List UInt8) (f : Nat) : chunk l f f = [] := by simp [chunk]
theorem chunk_next (s : ByteArray) {f i : Nat} (hf : f ≤ i) (hi : i < s.size) : chunk s.data.toList f (i + 1) = chunk s.data.toList f i ++ [s[i]] := by
  unfold chunk
  have e : i + 1 - f = (i - f) + 1 := by omega
  rw [e, List.take_succ_eq_append_getElem (by simp; omega)]
  congr 1
  simp [ByteArray.getElem_eq_getElem_data, show f + (i - f) = i by omega]
theorem chunk_length {l : List UInt8} {f i : Nat} (hi : i ≤ l.length) : (chunk l f i).length = i - f := by
  unfold chunk; rw [List.length_take, List.length_drop]; omega
theorem chunk_drop {l : List UInt8} {f g : Nat} (h : f ≤ g) : l.drop f = chunk l f g ++ l.drop g := by
  unfold chunk
  have e : l.drop g = (l.drop f).drop (g - f) := by rw [List.drop_drop]; congr 1; omega
  rw [e, List.take_append_drop]
theorem pow_nine (k : Nat) : (1000000000 : Int) ^ k = ((10 ^ (9 * k) : Nat) : Int) := by
  rw [← pow_cast, Nat.pow_mul]
/-- what holds at the head of each round: k limbs stand for the last 9 k digits -/
def TxInv (l : List UInt8) (k : Nat) (zs : List Int) : Prop := zs.length = k ∧ okL zs ∧ val zs = dv (l.drop (l.length - 9 * k))
theorem TxInv.start (l : List UInt8) : TxInv l 0 [] := ⟨rfl, okL_nil, by simp [val, dv_nil]⟩
theorem TxInv.next {l : List UInt8} {k : Nat} {zs : List Int} (h : TxInv l k zs) (hd : digs l) (hk : 9 * k < l.length) :
    TxInv l (k + 1) (zs ++ [((dv (chunk l (l.length - 9 * (k + 1)) (l.length - 9 * k)) : Nat) : Int)]) := by
  obtain ⟨h1, h2, h3⟩ := h
  have hl : dv (chunk l (l.length - 9 * (k + 1)) (l.length - 9 * k)) < 10 ^ (chunk l (l.length - 9 * (k + 1)) (l.length - 9 * k)).length := dv_lt (digs_take (digs_drop hd _) _)
  rw [chunk_length (by omega)] at hl
  have hp : (10 : Nat) ^ (l.length - 9 * k - (l.length - 9 * (k + 1))) ≤ 10 ^ 9 := Nat.pow_le_pow_right (by omega) (by omega)
  have h9 : (10 : Nat) ^ 9 = 1000000000 := rfl
  refine ⟨by rw [List.length_append, h1]; rfl, okL_snoc h2 (by omega), ?_⟩
  rw [val_snoc, h1, h3, pow_nine, chunk_drop (l := l) (f := l.length - 9 * (k + 1)) (g := l.length - 9 * k) (by omega), dv_append, List.length_drop, show l.length - (l.length - 9 * k) = 9 * k by omega]
  generalize dv (chunk l (l.length - 9 * (k + 1)) (l.length - 9 * k)) = x
  generalize (10 : Nat) ^ (9 * k) = p
  generalize dv (l.drop (l.length - 9 * k)) = y
  rw [Int.natCast_add, Int.natCast_mul, Int.mul_comm (p : Int)]
  omega
theorem TxInv.done {l : List UInt8} {k : Nat} {zs : List Int} (h : TxInv l k zs) (hk : l.length ≤ 9 * k) : okL zs ∧ val zs = dv l := by
  refine ⟨h.2.1, ?_⟩
  rw [h.2.2, show l.length - 9 * k = 0 by omega, List.drop_zero]
theorem chunk_bound {l : List UInt8} {f i g : Nat} (hd : digs l) (hf : f ≤ i) (hi : i ≤ g) (hg : g ≤ f + 9) : dv (chunk l f i) < 1000000000 := by
  have h := dv_lt (digs_take (digs_drop hd f) (i - f))
  have h2 : (List.take (i - f) (List.drop f l)).length ≤ 9 := by rw [List.length_take]; omega
  have h3 : (10 : Nat) ^ (List.take (i - f) (List.drop f l)).length ≤ 10 ^ 9 := Nat.pow_le_pow_right (by omega) h2
  have h9 : (10 : Nat) ^ 9 = 1000000000 := rfl
  unfold chunk; omega
/-- a text that is read as a number: at most 450 digits, no nought ahead -/
def numB (l : List UInt8) : Bool := allB 48 57 48 57 l && decide (l.length ≤ 450) && !(decide (1 < l.length) && (l.head? == some 48))
def fTextNat (l : List UInt8) : List Int × Bool := if numB l = true then (limbs (dv l), true) else ([], false)
theorem fTextNat_yes {l : List UInt8} (h : numB l = true) : fTextNat l = (limbs (dv l), true) := if_pos h
theorem fTextNat_no {l : List UInt8} (h : numB l = false) : fTextNat l = ([], false) := by unfold fTextNat; rw [h]; rfl
end Go.Proofs.YtogkonenejfgmaaGreatDoor
namespace Go.Proofs.YtogkonenejfgmaaGreatDoor
open Go.RowKit

def isDig (c : Int) : Bool := decide (48 ≤ c) && decide (c ≤ 57)
theorem impl_isDigit (c : Int) (w : World) :
    Calls Tryz.prog 64 #[.int .u8 c] w fun e w' => e = .returned (.bool (isDig c)) ∧ w = w' := by
  go_enter Tryz.func64, Tryz.ntmps64
  go_wp2
  all_goals (go_ret; exact ⟨ret_bool (by simp [isDig]; try omega), rfl⟩)

theorem impl_IsDigits (s : ByteArray) (w : World) (hs : s.size ≤ maxLen) :
    Calls Tryz.prog 49 #[.string s] w fun e w' => e = .returned (.bool (allB 48 57 48 57 s.data.toList)) ∧ w = w' := by
  unfold maxLen at hs
  go_enter Tryz.func49, Tryz.ntmps49
  go_wp2
  go_loop [3] (fun i => ∃ k : Nat, k ≤ s.size ∧ i = .int .i64 k ∧ (s.data.toList.take k).all (fun c => !bad 48 57 48 57 c) = true) (fun i => s.size - (intOf i).toNat)
  case atStart => exact ⟨0, Nat.zero_le _, rfl, rfl⟩
  case round =>
    obtain ⟨k, hk, rfl, hall⟩ := hrel
    have H := Lib.hid hall; clear hall
    by_cases hlt : k < s.size
    · cases hd : isDig (s[k].toNat)
      · go_wp2_with (go_at_call 64; refine (impl_isDigit _ _).mono ?_; rintro e w' ⟨rfl, rfl⟩)
        go_ret
        exact ⟨ret_bool (allB_stop s k hlt (bad_true (by simp [isDig] at hd; omega))).symm, rfl⟩
      · go_wp2_with (go_at_call 64; refine (impl_isDigit _ _).mono ?_; rintro e w' ⟨rfl, rfl⟩)
        go_round
        case rel => exact ⟨k + 1, by omega, by go_num, all_step s k hlt H.out (bad_false (by simp [isDig] at hd; omega))⟩
        case measure => simp [intOf]; omega
    · go_wp2
      go_ret
      exact ⟨ret_bool (by rw [allB_end s k hlt H.out, ne_empty]), rfl⟩

end Go.Proofs.YtogkonenejfgmaaGreatDoor
namespace Go.Proofs.YtogkonenejfgmaaGreatDoor
open Go.RowKit
theorem numB_dig {s : ByteArray} (h : allB 48 57 48 57 s.data.toList = false) : numB s.data.toList = false := by unfold numB; rw [h]; rfl
theorem numB_long {s : ByteArray} (h : 450 < s.size) : numB s.data.toList = false := by
  unfold numB
  have : decide (s.data.toList.length ≤ 450) = false := by rw [decide_eq_false_iff_not]; simp; omega
  rw [this, Bool.and_false]; rfl
theorem head_get {s : ByteArray} (h : 0 < s.size) : s.data.toList.head? = some s[0] := by
  rw [List.head?_eq_getElem?, List.getElem?_eq_getElem (by simpa using h)]
  simp [ByteArray.getElem_eq_getElem_data]
theorem numB_lead {s : ByteArray} (h : 1 < s.size) (h0 : s[0].toNat = 48) : numB s.data.toList = false := by
  unfold numB
  have h1 : decide (1 < s.data.toList.length) = true := by rw [decide_eq_true_eq]; simpa using h
  have h2 : (s.data.toList.head? == some 48) = true := by
    rw [head_get (by omega), beq_iff_eq, Option.some.injEq]
    exact UInt8.toNat_inj.1 h0
  rw [h1, h2]; simp
theorem numB_ok {s : ByteArray} (hd : allB 48 57 48 57 s.data.toList = true) (hl : s.size ≤ 450) (h : s.size ≤ 1 ∨ ∃ h0 : 0 < s.size, s[0].toNat ≠ 48) : numB s.data.toList = true := by
  unfold numB
  have h1 : decide (s.data.toList.length ≤ 450) = true := by rw [decide_eq_true_eq]; simpa using hl
  rw [hd, h1, Bool.true_and, Bool.true_and, Bool.not_eq_true', Bool.and_eq_false_iff]
  rcases h with h | ⟨h0, h⟩
  · left; rw [decide_eq_false_iff_not]; simp; omega
  · right
    rw [head_get h0, beq_eq_false_iff_ne]
    intro e
    rw [Option.some.injEq] at e
    rw [e] at h; exact h rfl
theorem text_done {l : List UInt8} {k : Nat} {zs : List Int} (h : TxInv l k zs) (hk : l.length ≤ 9 * k) : trimL zs = limbs (dv l) := trimL_val (h.done hk).1 (h.done hk).2

end Go.Proofs.YtogkonenejfgmaaGreatDoor
