/- The walks of NatZeros (program and reference). For every slice within the reach, where the library's table reads as it is laid (program). -/
import Derived.Test.YtogkonenejfgmaaDoorWNatDig
namespace Go.Proofs.YtogkonenejfgmaaDoor
open Go.RowKit
open Go.Lib (decDigits itoa)
/-- the noughts at a text's end -/
def tz : List UInt8 → Nat
  | [] => 0
  | c :: r => if c = 48 then tz r + 1 else 0
def zerosT (l : List UInt8) : Nat := tz l.reverse
def fNatZeros (xs : List Int) : Int := if natB xs && decide (0 < xs.length) then (zerosT (natTxt xs) : Int) else 0
theorem tz_le : ∀ l : List UInt8, tz l ≤ l.length
  | [] => Nat.le_refl _
  | c :: r => by unfold tz; split <;> simp; have := tz_le r; omega
theorem tz_hit : ∀ (l : List UInt8) (k : Nat), k < tz l → l[k]? = some 48
  | [], k, h => by unfold tz at h; omega
  | c :: r, k, h => by
    unfold tz at h
    split at h
    · rename_i hc
      cases k with
      | zero => rw [hc]; rfl
      | succ k => simpa using tz_hit r k (by omega)
    · omega
theorem tz_miss : ∀ (l : List UInt8), tz l < l.length → l[tz l]? ≠ some 48
  | [], h => by simp at h
  | c :: r, h => by
    unfold tz at h ⊢
    split
    · rename_i hc
      rw [if_pos hc] at h
      simpa using tz_miss r (by simpa using h)
    · rename_i hc
      simpa using hc
/-- the byte that the k-th round asks -/
theorem zer_byte {l : List UInt8} {k : Nat} (hk : k < l.length) : l.reverse[k]? = some (l[l.length - 1 - k]'(by omega)) := by
  rw [List.getElem?_reverse hk, List.getElem?_eq_getElem (by omega)]
theorem zer_lt {xs : List Int} (h : natB xs = true) (h0 : 0 < xs.length) : zerosT (natTxt xs) < (natTxt xs).length := by
  obtain ⟨m, rfl, hm⟩ := natB_elim h
  have hm0 : 0 < m := by
    rcases Nat.eq_zero_or_pos m with e | e
    · subst e; rw [limbs_zero] at h0; simp at h0
    · exact e
  rw [natTxt_limbs]
  have h1 := tz_le (decDigits m).reverse
  rw [List.length_reverse] at h1
  unfold zerosT
  rcases Nat.lt_or_ge (tz (decDigits m).reverse) (decDigits m).length with h2 | h2
  · exact h2
  · exfalso
    have hz : ∀ c ∈ decDigits m, c = 48 := by
      intro c hc
      obtain ⟨i, hi, rfl⟩ := List.getElem_of_mem hc
      have e := tz_hit (decDigits m).reverse ((decDigits m).length - 1 - i) (by omega)
      rw [List.getElem?_reverse (by omega), show (decDigits m).length - 1 - ((decDigits m).length - 1 - i) = i by omega, List.getElem?_eq_getElem hi] at e
      exact Option.some.inj e
    have hd : ∀ l : List UInt8, (∀ c ∈ l, c = 48) → dv l = 0 := by
      intro l
      induction l using snoc_ind8 with
      | h0 => intro _; rfl
      | h1 l c ih =>
        intro hl
        rw [dv_snoc, ih (fun c hc => hl c (by simp [hc])), hl c (by simp)]
        rfl
    have e := hd _ hz
    rw [dv_dec] at e
    omega
theorem zer_get {T : ByteArray} {l : List UInt8} {k j : Nat} (hT : T.data.toList = l) (hj : j < T.size) (e : j + k + 1 = T.size) : l.reverse[k]? = some T[j] := by
  subst hT
  have hl : T.data.toList.length = T.size := by simp
  rw [zer_byte (by omega)]
  congr 1
  simp only [ByteArray.getElem_eq_getElem_data]
  rw [Array.getElem_toList]
  congr 1
  omega
theorem zer_yes {T : ByteArray} {l : List UInt8} {k j : Nat} (hT : T.data.toList = l) (hj : j < T.size) (e : j + k + 1 = T.size) (hk : k < zerosT l) : ((T[j].toNat : Int) == 48) = true := by
  have h1 := tz_hit l.reverse k hk
  rw [zer_get hT hj e] at h1
  rw [Option.some.inj h1]; rfl
theorem zer_no {T : ByteArray} {l : List UInt8} {k j : Nat} (hT : T.data.toList = l) (hj : j < T.size) (e : j + k + 1 = T.size) (hk : k = zerosT l) : ((T[j].toNat : Int) == 48) = false := by
  have hl : l.length = T.size := by rw [← hT]; simp
  have h1 := tz_miss l.reverse (by rw [List.length_reverse]; show zerosT l < _; omega)
  have h2 := zer_get hT hj e
  rw [hk] at h2
  change l.reverse[zerosT l]? ≠ some 48 at h1
  rw [h2] at h1
  rw [beq_eq_false_iff_ne]
  intro e2
  apply h1
  congr 1
  exact UInt8.toNat_inj.1 (by simpa using (by omega : T[j].toNat = 48))
set_option maxHeartbeats 800000 in
theorem impl_NatZeros (a : Option Addr) (ca : Nat) (xs : List Int) (w : World) (hx : In w a ca xs) (ht : Tab w) :
    Calls Tryd.prog 30 #[.slice a xs.length ca] w fun e w' => e = .returned (.int .i64 (fNatZeros xs)) ∧ Below w.heap.size w w' := by
  by_cases h0 : natB xs = true ∧ 0 < xs.length
  · obtain ⟨h1, h0⟩ := h0
    have HF := Lib.hid (show fNatZeros xs = (zerosT (natTxt xs) : Int) by unfold fNatZeros; rw [h1, decide_eq_true (by omega)]; rfl)
    have HN := Lib.hid (show fNatText xs = natTxt xs by unfold fNatText; rw [h1]; rfl)
    obtain ⟨T, hT⟩ : ∃ T, T = tx (natTxt xs) := ⟨_, rfl⟩
    have hTl : T.data.toList = natTxt xs := by rw [hT, tx_list]
    have hs : T.size ≤ 500 := by rw [hT, (natTxt_size h1).1]; exact (natTxt_size h1).2
    have hZ : zerosT (natTxt xs) < T.size := by rw [hT, (natTxt_size h1).1]; exact zer_lt h1 (by omega)
    obtain ⟨Z, hZe⟩ : ∃ Z, zerosT (natTxt xs) = Z := ⟨_, rfl⟩
    rw [hZe] at HF hZ
    have HY := Lib.hid (fun (k j : Nat) (hj : j < T.size) (e : j + k + 1 = T.size) (hk : k < Z) => zer_yes hTl hj e (hZe ▸ hk))
    have HX := Lib.hid (fun (k j : Nat) (hj : j < T.size) (e : j + k + 1 = T.size) (hk : k = Z) => zer_no hTl hj e (hk.trans hZe.symm))
    have HT := Lib.hid hT
    clear hT hTl hZe h1
    go_enter Tryd.func30, Tryd.ntmps30
    go_wp2_with fail
    refine (impl_NatText _ _ _ _ hx ht).mono ?_
    rintro e w1 ⟨rfl, hb⟩
    rw [HN.out, ← HT.out]
    go_wp2
    go_loopw [4] (fun kv wr => ∃ k : Nat, kv = .int .i64 k ∧ k ≤ Z ∧ Below w.heap.size w wr) (fun kv _ => Z - (intOf kv).toNat)
    case atStart => exact ⟨0, rfl, Nat.zero_le _, hb⟩
    case round =>
      obtain ⟨k, rfl, hk, hbr⟩ := hrel
      obtain ⟨j, hj⟩ : ∃ j : Nat, j + k + 1 = T.size := ⟨T.size - 1 - k, by omega⟩
      have hj2 : j < T.size := by omega
      have hji : (T.size : Int) - 1 - (k : Int) = (j : Int) := by omega
      by_cases hkz : k < Z
      · have hy := HY.out k j hj2 hj hkz
        have hc1 : decide ((k : Int) < (T.size : Int) - 1) = true := decide_eq_true (by omega)
        clear hj
        go_wp2
        go_roundw
        case rel => exact ⟨k + 1, by go_num, by omega, hbr⟩
        case measure => simp [intOf]; omega
      · have HK := Lib.hid (show (k : Int) = (Z : Int) by omega)
        by_cases hlast : (k : Int) < (T.size : Int) - 1
        · have hn := HX.out k j hj2 hj (by omega)
          have hc1 : decide ((k : Int) < (T.size : Int) - 1) = true := decide_eq_true hlast
          clear hj
          go_wp2
          go_ret
          exact ⟨by rw [HF.out, ← HK.out]; rfl, hbr⟩
        · have hc1 : decide ((k : Int) < (T.size : Int) - 1) = false := decide_eq_false hlast
          clear hj
          go_wp2
          go_ret
          exact ⟨by rw [HF.out, ← HK.out]; rfl, hbr⟩
  · have HF := Lib.hid (show fNatZeros xs = 0 by
      unfold fNatZeros
      cases hn : natB xs
      · rfl
      · rw [decide_eq_false (fun h => h0 ⟨hn, h⟩)]; rfl)
    obtain ⟨T, hT⟩ : ∃ T, T = tx (fNatText xs) := ⟨_, rfl⟩
    have hs : T.size ≤ 1 := by
      rw [hT, tx_size]
      unfold fNatText
      split
      · rename_i hn
        have : xs.length = 0 := by
          by_cases hl : 0 < xs.length
          · exact absurd ⟨hn, hl⟩ h0
          · omega
        rw [List.eq_nil_of_length_eq_zero this]; decide
      · simp
    have HT := Lib.hid hT
    clear hT h0
    have hc0 : decide ((0 : Int) < (T.size : Int) - 1) = false := decide_eq_false (by omega)
    go_enter Tryd.func30, Tryd.ntmps30
    go_wp2_with fail
    refine (impl_NatText _ _ _ _ hx ht).mono ?_
    rintro e w1 ⟨rfl, hb⟩
    rw [← HT.out]
    go_wp2
    go_loopw [4] (fun kv wr => kv = .int .i64 0 ∧ Below w.heap.size w wr) (fun _ _ => 0)
    case atStart => exact ⟨rfl, hb⟩
    case round =>
      obtain ⟨rfl, hbr⟩ := hrel
      go_wp2
      go_ret
      exact ⟨by rw [HF.out]; rfl, hbr⟩
end Go.Proofs.YtogkonenejfgmaaDoor
