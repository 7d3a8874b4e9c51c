/- Plain facts on the text of a fraction: what is cut at a stroke and joined again is unchanged; what is read and written again is unchanged. No program's step. Plain facts on the decimal digits of a number. No program. Plain facts on texts that are cut and joined again (the part of XWords that wants no program's Join). -/
import Derived.Test.YtogkonenejfgmaaGreatDoorM30
import Derived.Test.YtogkonenejfgmaaGreatDoorM33
import Derived.Test.YtogkonenejfgmaaGreatDoorM34
import Derived.Test.YtogkonenejfgmaaGreatDoorM21
import Derived.Test.YtogkonenejfgmaaGreatDoorM31
import Derived.Lib.Join
import Derived.Lib.Agree
namespace Go.Proofs.YtogkonenejfgmaaGreatDoor
open Go.Lib (decDigits itoa)
theorem list_extract (s : ByteArray) (i j : Nat) : (s.extract i j).data.toList = (s.data.toList.take j).drop i := by
  rw [ByteArray.data_extract, Array.toList_extract, List.extract_eq_take_drop, List.drop_take]
theorem sep_one (c x : UInt8) : isSep ⟨#[c]⟩ x = decide (x = c) := by unfold isSep; simp
/-- the parts with the mark behind each -/
def flatP (c : UInt8) (l : List ByteArray) : List UInt8 := l.flatMap (fun p => p.data.toList ++ [c])
theorem flatP_snoc (c : UInt8) (l : List ByteArray) (p : ByteArray) : flatP c (l ++ [p]) = flatP c l ++ (p.data.toList ++ [c]) := by unfold flatP; simp
theorem cut_inv (s : ByteArray) (c : UInt8) : ∀ i, i ≤ s.size → flatP c (cutSt s ⟨#[c]⟩ i).1 = s.data.toList.take (cutSt s ⟨#[c]⟩ i).2 ∧ (cutSt s ⟨#[c]⟩ i).2 ≤ i
  | 0, _ => ⟨by simp [cutSt, flatP], Nat.le_refl _⟩
  | i + 1, hi => by
    have ih := cut_inv s c i (by omega)
    have hlen : s.data.toList.length = s.size := by simp
    cases h : isSep ⟨#[c]⟩ (s.data.toList.getD i 0)
    · rw [cutSt_no h]; exact ⟨ih.1, by omega⟩
    · rw [cutSt_yes h]
      refine ⟨?_, Nat.le_refl _⟩
      dsimp only
      rw [sep_one, decide_eq_true_eq] at h
      rw [flatP_snoc, ih.1, list_extract]
      have hg : s.data.toList.getD i 0 = s.data.toList[i]'(by omega) := by rw [List.getD_eq_getElem?_getD, List.getElem?_eq_getElem (by omega)]; rfl
      rw [List.take_succ_eq_append_getElem (by omega), ← hg, h, ← List.append_assoc]
      congr 1
      have e : s.data.toList.take (cutSt s ⟨#[c]⟩ i).2 = (s.data.toList.take i).take (cutSt s ⟨#[c]⟩ i).2 := by rw [List.take_take, Nat.min_eq_left ih.2]
      rw [e, List.take_append_drop]
theorem cut_flat (s : ByteArray) (c : UInt8) : ∃ done last, fCutAt s ⟨#[c]⟩ = done ++ [last] ∧ flatP c done ++ last.data.toList = s.data.toList := by
  have ih := cut_inv s c s.size (Nat.le_refl _)
  refine ⟨_, _, rfl, ?_⟩
  have hlen : s.data.toList.length = s.size := by simp
  rw [ih.1, list_extract, List.take_of_length_le (l := s.data.toList) (i := s.size) (by omega), List.take_append_drop]
theorem cut_one {s p : ByteArray} {c : UInt8} (h : fCutAt s ⟨#[c]⟩ = [p]) : p.data.toList = s.data.toList := by
  obtain ⟨d, l, h1, h2⟩ := cut_flat s c
  rw [h] at h1
  cases d with
  | nil => simp at h1; subst h1; simpa [flatP] using h2
  | cons a t => simp at h1
theorem cut_two {s p q : ByteArray} {c : UInt8} (h : fCutAt s ⟨#[c]⟩ = [p, q]) : s.data.toList = p.data.toList ++ c :: q.data.toList := by
  obtain ⟨d, l, h1, h2⟩ := cut_flat s c
  rw [h] at h1
  match d, h1 with
  | [], h1 => simp at h1
  | [a], h1 =>
    simp at h1
    obtain ⟨rfl, rfl⟩ := h1
    rw [← h2]; simp [flatP]
  | a :: b :: t, h1 => simp at h1
theorem cut_more {s p q r : ByteArray} {t : List ByteArray} {c : UInt8} (h : fCutAt s ⟨#[c]⟩ = p :: q :: r :: t) : p.data.toList.length + q.data.toList.length + 2 ≤ s.data.toList.length := by
  obtain ⟨d, l, h1, h2⟩ := cut_flat s c
  rw [h] at h1
  match d, h1 with
  | [], h1 => simp at h1
  | [a], h1 => simp at h1
  | a :: b :: u, h1 =>
    simp at h1
    obtain ⟨rfl, rfl, _⟩ := h1
    rw [← h2]; simp [flatP]; omega
theorem numB_parts {l : List UInt8} (h : numB l = true) : digs l ∧ l ≠ [] ∧ l.length ≤ 450 ∧ (l.length ≤ 1 ∨ l.head? ≠ some 48) := by
  unfold numB at h
  simp only [Bool.and_eq_true, decide_eq_true_eq, Bool.not_eq_true', Bool.and_eq_false_iff, decide_eq_false_iff_not, beq_eq_false_iff_ne] at h
  obtain ⟨⟨h1, h2⟩, h3⟩ := h
  refine ⟨allB_digs h1, ?_, h2, ?_⟩
  · intro e; subst e; simp [allB] at h1
  · rcases h3 with h3 | h3
    · left; omega
    · right; exact h3
theorem numB_canon {l : List UInt8} (h : numB l = true) : canonT l := by
  obtain ⟨h1, h2, _, h4⟩ := numB_parts h
  refine ⟨h1, h2, ?_⟩
  rcases h4 with h4 | h4
  · right
    have : l.length ≠ 0 := fun e => h2 (List.eq_nil_of_length_eq_zero e)
    omega
  · exact .inl h4
theorem dv_limb {l : List UInt8} (h : digs l) (k : Nat) (hk : l.length ≤ 9 * k) : dv l < 1000000000 ^ k := by
  have e : (1000000000 : Nat) ^ k = 10 ^ (9 * k) := by rw [Nat.pow_mul]
  rw [e]
  exact Nat.lt_of_lt_of_le (dv_lt h) (Nat.pow_le_pow_right (by omega) hk)
theorem numB_len {l : List UInt8} (h : numB l = true) : (limbs (dv l)).length ≤ 50 := by
  obtain ⟨h1, _, h3, _⟩ := numB_parts h
  rw [limbs_len_le]
  exact dv_limb h1 50 (by omega)
theorem txt_nat {l : List UInt8} (h : numB l = true) : natTxt (limbs (dv l)) = l := by rw [natTxt_limbs, dec_dv (numB_canon h)]
theorem textNat_ok {l : List UInt8} (h : (fTextNat l).2 = true) : numB l = true ∧ (fTextNat l).1 = limbs (dv l) ∧ natTxt (fTextNat l).1 = l := by
  cases hn : numB l
  · rw [fTextNat_no hn] at h; cases h
  · rw [fTextNat_yes hn]; exact ⟨rfl, rfl, txt_nat hn⟩
theorem strInt_ok {l : List UInt8} (h : (fStrInt l).2 = true) : intB (fStrInt l).1.1 (fStrInt l).1.2 = true ∧ fIntStr (fStrInt l).1.1 (fStrInt l).1.2 = l := by
  by_cases hh : l.head? = some 45
  · cases h2 : (fTextNat l.tail).2
    · rw [fStrInt_neg_no hh (.inl h2)] at h; cases h
    · by_cases h3 : 0 < (fTextNat l.tail).1.length
      · rw [fStrInt_neg_yes hh h2 h3]
        obtain ⟨n1, n2, n3⟩ := textNat_ok h2
        have hi : intB true (fTextNat l.tail).1 = true := by
          unfold intB; rw [n2, natB_of (numB_len n1)]; rw [n2] at h3; simp [h3]
        refine ⟨hi, ?_⟩
        unfold fIntStr
        dsimp only
        rw [if_pos hi, if_pos rfl, n3]
        cases l with
        | nil => simp at hh
        | cons a t => simp at hh; subst hh; rfl
      · rw [fStrInt_neg_no hh (.inr (by omega))] at h; cases h
  · cases h2 : (fTextNat l).2
    · rw [fStrInt_no hh h2] at h; cases h
    · rw [fStrInt_yes hh h2]
      obtain ⟨n1, n2, n3⟩ := textNat_ok h2
      have hi : intB false (fTextNat l).1 = true := by unfold intB; rw [n2, natB_of (numB_len n1)]; rfl
      refine ⟨hi, ?_⟩
      unfold fIntStr
      dsimp only
      rw [if_pos hi, n3]; rfl
def fTextRat (s : ByteArray) : (Bool × List Int × List Int) × Bool :=
  match fCutAt s ⟨#[47]⟩ with
  | [p] => if (fStrInt p.data.toList).2 && ratB (fStrInt p.data.toList).1.1 (fStrInt p.data.toList).1.2 [1] then (((fStrInt p.data.toList).1.1, (fStrInt p.data.toList).1.2, [1]), true) else ratZ
  | [p, q] => if (fStrInt p.data.toList).2 && (fTextNat q.data.toList).2 && !(decide ((fTextNat q.data.toList).1 = [1])) && ratB (fStrInt p.data.toList).1.1 (fStrInt p.data.toList).1.2 (fTextNat q.data.toList).1 then (((fStrInt p.data.toList).1.1, (fStrInt p.data.toList).1.2, (fTextNat q.data.toList).1), true) else ratZ
  | _ => ratZ
theorem nv_one {xs : List Int} (h : ∃ n, xs = limbs n) : nv xs = 1 ↔ xs = [1] := by
  obtain ⟨n, rfl⟩ := h
  rw [nv_limbs]
  constructor
  · intro e; subst e; exact limbs_one (by omega)
  · intro e
    have e1 : limbs 1 = [1] := limbs_one (by omega)
    exact limbs_inj (e.trans e1.symm)
theorem ratText_one {p : List UInt8} (h : (fStrInt p).2 = true) : fRatText (fStrInt p).1.1 (fStrInt p).1.2 [1] = if ratB (fStrInt p).1.1 (fStrInt p).1.2 [1] then p else [] := by
  unfold fRatText
  split
  · rw [if_pos ((nv_one ⟨1, limbs1.symm⟩).2 rfl), (strInt_ok h).2]
  · rfl
theorem ratText_two {p q : List UInt8} (h : (fStrInt p).2 = true) (h2 : (fTextNat q).2 = true) : fRatText (fStrInt p).1.1 (fStrInt p).1.2 (fTextNat q).1 = if ratB (fStrInt p).1.1 (fStrInt p).1.2 (fTextNat q).1 then (if (fTextNat q).1 = [1] then p else p ++ 47 :: q) else [] := by
  obtain ⟨n1, n2, n3⟩ := textNat_ok h2
  unfold fRatText
  split
  · by_cases e : (fTextNat q).1 = [1]
    · rw [if_pos e, if_pos ((nv_one ⟨_, n2⟩).2 e), (strInt_ok h).2]
    · rw [if_neg e, if_neg (fun h => e ((nv_one ⟨_, n2⟩).1 h)), (strInt_ok h).2, n3]
  · rfl
theorem ratText_len {p q : List UInt8} (h : (fStrInt p).2 = true) (h2 : (fTextNat q).2 = true) : (fRatText (fStrInt p).1.1 (fStrInt p).1.2 (fTextNat q).1).length ≤ p.length + q.length + 1 := by
  rw [ratText_two h h2]
  split
  · split
    · omega
    · simp; omega
  · simp
end Go.Proofs.YtogkonenejfgmaaGreatDoor
namespace Go.Proofs.YtogkonenejfgmaaGreatDoor
open Go.Lib (decDigits itoa)
theorem numB_dec (m : Nat) (ls : (decDigits m).length ≤ 450) : numB (decDigits m) = true := by
  obtain ⟨h1, h2, h3⟩ := canon_dec m
  unfold numB
  rw [Bool.and_eq_true, Bool.and_eq_true, decide_eq_true_eq]
  refine ⟨⟨?_, ls⟩, ?_⟩
  · unfold allB
    rw [Bool.and_eq_true, List.all_eq_true]
    refine ⟨fun c hc => ?_, ?_⟩
    · have := h1 c hc; simp [bad]; omega
    · cases hd : decDigits m with
      | nil => exact absurd hd h2
      | cons c r => rfl
  · rw [Bool.not_eq_true', Bool.and_eq_false_iff]
    rcases h3 with h | h
    · right; rw [beq_eq_false_iff_ne]; exact h
    · left; rw [decide_eq_false_iff_not]; omega
theorem dec_len_limbs {m k : Nat} (h0 : 0 < k) (h : (limbs m).length ≤ k) : (decDigits m).length ≤ 9 * k := by
  refine dec_len _ _ (by omega) ?_
  have h2 := limbs_len_le.1 h
  rwa [Nat.pow_mul]
end Go.Proofs.YtogkonenejfgmaaGreatDoor
namespace Go.Proofs.YtogkonenejfgmaaGreatDoor
open Go.RowKit
def lst (xs : List ByteArray) : List (List UInt8) := xs.map (·.data.toList)
def fJoin (xs : List ByteArray) (sep : ByteArray) : ByteArray := ⟨(Lib.join (lst xs) sep.data.toList).toArray⟩
theorem joinTail_snoc (sep : List UInt8) (r : List (List UInt8)) (y : List UInt8) : Lib.joinTail sep (r ++ [y]) = Lib.joinTail sep r ++ (sep ++ y) := by
  unfold Lib.joinTail; simp
theorem join_snoc (sep : List UInt8) {r : List (List UInt8)} (y : List UInt8) (h : r ≠ []) : Lib.join (r ++ [y]) sep = Lib.join r sep ++ sep ++ y := by
  cases r with
  | nil => exact absurd rfl h
  | cons x r => rw [List.cons_append, Lib.join_cons, Lib.join_cons, joinTail_snoc]; simp [List.append_assoc]
theorem join_last (sep : List UInt8) (r : List (List UInt8)) (x y : List UInt8) : Lib.join (r ++ [x ++ y]) sep = Lib.join (r ++ [x]) sep ++ y := by
  cases r with
  | nil => rw [List.nil_append, List.nil_append, Lib.join_one, Lib.join_one]
  | cons a r => rw [join_snoc _ _ (by simp), join_snoc _ _ (by simp)]; simp [List.append_assoc]
theorem lst_snoc (l : List ByteArray) (x : ByteArray) : lst (l ++ [x]) = lst l ++ [x.data.toList] := by simp [lst]
theorem ext_self (s : ByteArray) (i : Nat) : (s.extract i i).data.toList = [] := by
  simp
theorem ext_list (s : ByteArray) (a b : Nat) : (s.extract a b).data.toList = (s.data.toList.drop a).take (b - a) := by
  rw [ByteArray.data_extract, Array.toList_extract, List.extract_eq_take_drop]
theorem ext_snoc (s : ByteArray) {a i : Nat} (ha : a ≤ i) (hi : i < s.size) : (s.extract a (i + 1)).data.toList = (s.extract a i).data.toList ++ [s.data.toList.getD i 0] := by
  rw [ext_list, ext_list, show i + 1 - a = (i - a) + 1 by omega]
  have hl : i - a < (s.data.toList.drop a).length := by rw [List.length_drop]; have : s.data.toList.length = s.size := by simp
                                                        omega
  rw [List.take_succ_eq_append_getElem hl]
  congr 1
  rw [List.getElem_drop, List.getD_eq_getElem?_getD, List.getElem?_eq_getElem (by have : s.data.toList.length = s.size := by simp
                                                                                  omega)]
  simp [show a + (i - a) = i by omega]
theorem take_snocD (s : ByteArray) (i : Nat) (hi : i < s.size) : s.data.toList.take (i + 1) = s.data.toList.take i ++ [s.data.toList.getD i 0] := by
  have h := take_snoc s i hi
  rw [byte_at s i hi]; exact h
theorem cut_join (s : ByteArray) (c : UInt8) : ∀ i, i ≤ s.size → Lib.join (lst ((cutSt s ⟨#[c]⟩ i).1 ++ [s.extract (cutSt s ⟨#[c]⟩ i).2 i])) [c] = s.data.toList.take i
  | 0, _ => by
    show Lib.join (lst [s.extract 0 0]) [c] = []
    rw [show lst [s.extract 0 0] = [(s.extract 0 0).data.toList] from rfl, ext_self, Lib.join_one]
  | i + 1, h => by
    have ih := cut_join s c i (by omega)
    have hle := (cutSt_le s ⟨#[c]⟩ i).2
    cases hs : isSep ⟨#[c]⟩ (s.data.toList.getD i 0)
    · rw [cutSt_no hs, lst_snoc, ext_snoc s hle (by omega), join_last, ← lst_snoc, ih, take_snocD s i (by omega)]
    · have hc : s.data.toList.getD i 0 = c := by
        unfold isSep at hs
        rw [decide_eq_true_iff] at hs
        simpa using hs
      rw [cutSt_yes hs]
      dsimp only
      rw [lst_snoc, ext_self, join_snoc _ _ (by simp [lst]), ih, take_snocD s i (by omega), hc, List.append_nil]
theorem fJoin_cut (s : ByteArray) (c : UInt8) : fJoin (fCutAt s ⟨#[c]⟩) ⟨#[c]⟩ = s := by
  have h := cut_join s c s.size (Nat.le_refl _)
  have hl : s.data.toList.length = s.size := by simp
  rw [List.take_of_length_le (by omega)] at h
  unfold fJoin fCutAt
  rw [h]
theorem cut_len (s b : ByteArray) : ∀ i, i ≤ s.size → (cutSt s b i).1.length = ((s.data.toList.take i).filter (isSep b)).length
  | 0, _ => rfl
  | i + 1, h => by
    have ih := cut_len s b i (by omega)
    rw [take_snocD s i (by omega), List.filter_append]
    cases hs : isSep b (s.data.toList.getD i 0)
    · rw [cutSt_no hs, ih, List.filter_cons_of_neg (by rw [hs]; simp)]; simp
    · rw [cutSt_yes hs, List.filter_cons_of_pos hs, List.length_append, List.length_append, ih]; rfl
theorem fCutAt_count (s b : ByteArray) : (fCutAt s b).length = (s.data.toList.filter (isSep b)).length + 1 := by
  have h := cut_len s b s.size (Nat.le_refl _)
  have hl : s.data.toList.length = s.size := by simp
  rw [List.take_of_length_le (by omega)] at h
  unfold fCutAt
  rw [List.length_append, h]; rfl
end Go.Proofs.YtogkonenejfgmaaGreatDoor
