/- The walk of TextNat (program): the number of a text. For every string within the reach. -/
import Derived.Test.YtogkonenejfgmaaGreatDoorM31
namespace Go.Proofs.YtogkonenejfgmaaGreatDoor
open Go.RowKit
theorem conv_world (wr : World) (s : ByteArray) (f g cap : Nat) (hg : g ≤ s.size) :
    (∀ j, (hj : f + j < g) → ((wr.alloc (.cells (bytesRow (s.extract f g) cap) 5 ((bytesRow (s.extract f g) cap).size, (bytesRow (s.extract f g) cap).size + 1))).drew).cell? ⟨wr.heap.size, j, none⟩ = some (.int .u8 ((s[f + j]'(by omega)).toNat : Int))) ∧
    Below wr.heap.size wr ((wr.alloc (.cells (bytesRow (s.extract f g) cap) 5 ((bytesRow (s.extract f g) cap).size, (bytesRow (s.extract f g) cap).size + 1))).drew) := by
  refine ⟨fun j hj => ?_, ((Below.refl _ _).alloc (Nat.le_refl _) _).drew⟩
  show (wr.alloc (.cells (bytesRow (s.extract f g) cap) 5 ((bytesRow (s.extract f g) cap).size, (bytesRow (s.extract f g) cap).size + 1))).cell? ⟨wr.heap.size, j, none⟩ = _
  rw [cell_of_row _ wr.heap.size j _ _ _ (heap_alloc_new wr _)]
  have hsz : (s.extract f g).size = g - f := by simp [ByteArray.size_extract]; omega
  rw [bytesRow_at _ _ j (by show j < (s.extract f g).size; omega)]
  simp [ByteArray.getElem_eq_getElem_data]
set_option maxRecDepth 100000 in
set_option maxHeartbeats 1600000 in
theorem implTextNat_ok1 (s : ByteArray) (w : World) (hs : s.size ≤ maxLen) (hd : allB 48 57 48 57 s.data.toList = true) (hl : s.size ≤ 450) (h0 : 0 < s.size) (hz : ((s[0].toNat : Int) == 48) = false) :
    Calls Tryz.prog 26 #[.string s] w fun e w' => (∃ a c, e = .returned (.tuple #[.slice a (limbs (dv s.data.toList)).length c, .bool true]) ∧ Own w' w.heap.size a c (limbs (dv s.data.toList)) ∧ (limbs (dv s.data.toList)).length ≤ 50) ∧ Below w.heap.size w w' := by
  have ho := Lib.hid (Own.empty w w.heap.size (Nat.le_refl _))
  have hb := (Below.refl w.heap.size w).alloc (Nat.le_refl _) (.cells #[] 3)
  have hlen : s.data.toList.length = s.size := by simp
  have HLen := Lib.hid hlen; clear hlen
  have HD := Lib.hid (allB_digs hd)
  have HS := Lib.hid hs
  clear hs
  have hcv := fun (w : World) (s : ByteArray) => run_bytes_of_string (P := Tryz.prog) w 9 22 5 s Tryz.underlying9 Tryz.underlying22 Tryz.underlying5
  go_enter Tryz.func26, Tryz.ntmps26
  go_wp2_with fail
  refine (impl_IsDigits s _ HS.out).mono ?_
  rintro e w0 ⟨rfl, rfl⟩
  go_wp2
  go_loopw [4, 5, 6, 8] (fun o ev _ _ wr => ∃ (k : Nat) (zs : List Int) (a : Option Addr) (c : Nat), o = .slice a zs.length c ∧ ev = .int .i64 (s.size - 9 * k) ∧ 9 * k < s.size + 9 ∧ TxInv s.data.toList k zs ∧ Own wr w.heap.size a c zs ∧ Below w.heap.size w wr)
    (fun _ ev _ _ _ => (intOf ev).toNat)
  case atStart => exact ⟨0, [], _, _, rfl, by go_num, by omega, TxInv.start _, ho.out, hb⟩
  case round =>
    obtain ⟨k, zs, a, c, rfl, rfl, hk, hi, hown, hb⟩ := hrel
    have hsz := hb.size
    have hzl : zs.length ≤ 51 := by rw [hi.1]; omega
    have HI := Lib.hid hi; clear hi
    by_cases hgo : 9 * k < s.size
    · obtain ⟨g, hg⟩ : ∃ g, g = s.size - 9 * k := ⟨_, rfl⟩
      obtain ⟨f, hf⟩ : ∃ f, f = s.size - 9 * (k + 1) := ⟨_, rfl⟩
      have hg0 : 0 < g := by omega
      have hgs : g ≤ s.size := by omega
      have hfg : f < g := by omega
      have hfg9 : g ≤ f + 9 := by omega
      have eg : ((s.size : Int) - 9 * k) = g := by omega
      have HE := Lib.hid eg
      have HN := Lib.hid (HI.out.next HD.out (by rw [HLen.out]; exact hgo))
      rw [HLen.out, ← hg, ← hf] at HN
      have HF := Lib.hid (show f = g - 9 ∧ (9 ≤ g ∨ f = 0) by omega)
      have HK := Lib.hid (show g = s.size - 9 * k from hg)
      rw [HE.out]
      clear eg hf hg hgo hk
      by_cases h9 : (g : Int) - 9 ≤ 0
      · obtain rfl : f = 0 := by have := HF.out; omega
        have hW0 := conv_world wr s 0 g (grownCap wr g 0 5) hgs
        have hZ : 0 = g - 9 := by omega
        have HZ9 := Lib.hid hZ
        clear hZ
        go_wp2
        obtain ⟨W1, hW1⟩ : ∃ W1, W1 = (wr.alloc (.cells (bytesRow (s.extract 0 g) (grownCap wr g 0 5)) 5 ((bytesRow (s.extract 0 g) (grownCap wr g 0 5)).size, (bytesRow (s.extract 0 g) (grownCap wr g 0 5)).size + 1))).drew := ⟨_, rfl⟩
        rw [← hW1] at hW0 ⊢
        obtain ⟨hcells, hbW⟩ := hW0
        have HC := Lib.hid hcells
        have hownW := hown.below hbW (Nat.le_refl _)
        have hbb := hb.trans (hbW.mono hsz)
        have hszW := hbW.size
        clear hcells hW1 hown hb
        obtain ⟨bn, hbn⟩ : ∃ bn, bn = wr.heap.size := ⟨_, rfl⟩
        rw [← hbn] at HC ⊢
        clear hbn hbW
        go_loop [6, 8, 42] (fun nv _ jv => ∃ (j n : Nat), jv = .int .i64 j ∧ j ≤ g ∧ n = dv (chunk s.data.toList 0 (0 + j)) ∧ nv = .int .i64 n) (fun _ _ jv => g - (intOf jv).toNat)
        case atStart => exact ⟨0, 0, rfl, by omega, by rw [Nat.add_zero, chunk_nil]; rfl, rfl⟩
        case round =>
          obtain ⟨j, n, rfl, hj, hn, rfl⟩ := hrel
          have hnb := chunk_bound (f := 0) (i := 0 + j) (g := g) HD.out (by omega) (by omega) hfg9
          rw [← hn] at hnb
          have HNn := Lib.hid hn; clear hn
          by_cases hig : j < g
          · have hig2 : 0 + j < g := by omega
            have his : 0 + j < s.size := by omega
            have hdig := HD.out s[0 + j] (by simp [ByteArray.getElem_eq_getElem_data])
            obtain ⟨hd0, hd1⟩ := hdig
            have hce := HC.out j hig2
            have HX := Lib.hid (chunk_next s (f := 0) (i := 0 + j) (by omega) his)
            obtain ⟨cc, hcc⟩ : ∃ cc, cc = s[0 + j] := ⟨_, rfl⟩
            rw [← hcc] at hce hd0 hd1
            have HCC := Lib.hid hcc
            clear hcc
            go_wp2
            go_round
            case rel =>
              refine ⟨j + 1, n * 10 + (cc.toNat - 48), by go_num, by omega, ?_, by go_num⟩
              rw [← Nat.add_assoc, HX.out, dv_snoc, HNn.out, HCC.out]
            case measure => simp [intOf]; omega
          · have hjg : 0 + j = g := by omega
            have hzn : (n : Int) = ((dv (chunk s.data.toList 0 g) : Nat) : Int) := by rw [HNn.out, hjg]
            have HZ := Lib.hid hzn; clear hzn hjg
            go_wp2_with (at_builtin; refine app1 _ rfl _ _ rfl w.heap.size a c zs _ rfl rfl hownW (by omega) (by omega) ?_)
            intro a2 c2 w2 ho2 hb2
            have hb3 := hbb.trans hb2
            clear hb2 hownW
            go_wp2
            go_roundw
            case rel =>
              refine ⟨k + 1, zs ++ [(n : Int)], a2, c2, by simp, ?_, by have := HK.out; omega, ?_, ho2, hb3⟩
              · have := HE.out; go_num
              · rw [HZ.out]; exact HN.out
            case measure => simp [intOf]; omega
      · obtain rfl : f = g - 9 := by have := HF.out; omega
        have hW0 := conv_world wr s (g - 9) g (grownCap wr (g - (g - 9)) 0 5) hgs
        have hZ : (g - 9) = g - 9 := by omega
        have HZ9 := Lib.hid hZ
        clear hZ
        have e9 : ((g : Int) - 9).toNat = g - 9 := by omega
        go_wp2
        obtain ⟨W1, hW1⟩ : ∃ W1, W1 = (wr.alloc (.cells (bytesRow (s.extract (g - 9) g) (grownCap wr (g - (g - 9)) 0 5)) 5 ((bytesRow (s.extract (g - 9) g) (grownCap wr (g - (g - 9)) 0 5)).size, (bytesRow (s.extract (g - 9) g) (grownCap wr (g - (g - 9)) 0 5)).size + 1))).drew := ⟨_, rfl⟩
        rw [← hW1] at hW0 ⊢
        obtain ⟨hcells, hbW⟩ := hW0
        have HC := Lib.hid hcells
        have hownW := hown.below hbW (Nat.le_refl _)
        have hbb := hb.trans (hbW.mono hsz)
        have hszW := hbW.size
        clear hcells hW1 hown hb
        obtain ⟨bn, hbn⟩ : ∃ bn, bn = wr.heap.size := ⟨_, rfl⟩
        rw [← hbn] at HC ⊢
        clear hbn hbW
        clear e9
        go_loop [6, 8, 42] (fun nv _ jv => ∃ (j n : Nat), jv = .int .i64 j ∧ j ≤ (g - (g - 9)) ∧ n = dv (chunk s.data.toList (g - 9) ((g - 9) + j)) ∧ nv = .int .i64 n) (fun _ _ jv => (g - (g - 9)) - (intOf jv).toNat)
        case atStart => exact ⟨0, 0, rfl, by omega, by rw [Nat.add_zero, chunk_nil]; rfl, rfl⟩
        case round =>
          obtain ⟨j, n, rfl, hj, hn, rfl⟩ := hrel
          have hnb := chunk_bound (f := (g - 9)) (i := (g - 9) + j) (g := g) HD.out (by omega) (by omega) hfg9
          rw [← hn] at hnb
          have HNn := Lib.hid hn; clear hn
          by_cases hig : j < (g - (g - 9))
          · have hig2 : (g - 9) + j < g := by omega
            have his : (g - 9) + j < s.size := by omega
            have hdig := HD.out s[(g - 9) + j] (by simp [ByteArray.getElem_eq_getElem_data])
            obtain ⟨hd0, hd1⟩ := hdig
            have hce := HC.out j hig2
            have HX := Lib.hid (chunk_next s (f := (g - 9)) (i := (g - 9) + j) (by omega) his)
            obtain ⟨cc, hcc⟩ : ∃ cc, cc = s[(g - 9) + j] := ⟨_, rfl⟩
            rw [← hcc] at hce hd0 hd1
            have HCC := Lib.hid hcc
            clear hcc
            go_wp2
            go_round
            case rel =>
              refine ⟨j + 1, n * 10 + (cc.toNat - 48), by go_num, by omega, ?_, by go_num⟩
              rw [← Nat.add_assoc, HX.out, dv_snoc, HNn.out, HCC.out]
            case measure => simp [intOf]; omega
          · have hjg : (g - 9) + j = g := by omega
            have hzn : (n : Int) = ((dv (chunk s.data.toList (g - 9) g) : Nat) : Int) := by rw [HNn.out, hjg]
            have HZ := Lib.hid hzn; clear hzn hjg
            go_wp2_with (at_builtin; refine app1 _ rfl _ _ rfl w.heap.size a c zs _ rfl rfl hownW (by omega) (by omega) ?_)
            intro a2 c2 w2 ho2 hb2
            have hb3 := hbb.trans hb2
            clear hb2 hownW
            go_wp2
            go_roundw
            case rel =>
              refine ⟨k + 1, zs ++ [(n : Int)], a2, c2, by simp, ?_, by have := HK.out; omega, ?_, ho2, hb3⟩
              · have := HE.out; go_num
              · rw [HZ.out]; exact HN.out
            case measure => simp [intOf]; omega
    · have HT := Lib.hid (text_done HI.out (by rw [HLen.out]; omega))
      have hrd := hown.rd
      have hle := hown.le
      have hml : zs.length ≤ maxLen := by unfold maxLen; omega
      have hl50 := trimL_length_le zs
      have hzk : zs.length ≤ 50 := by rw [HI.out.1]; omega
      have ho3 := hown.trimL
      rw [HT.out] at ho3 hl50
      have HO := Lib.hid ho3
      clear ho3
      go_wp2_with fail
      refine (trim_any _ _ _ _ hrd hml hle).mono ?_
      rintro e w3 ⟨rfl, rfl⟩
      rw [HT.out]
      go_wp2
      go_ret2
      exact ⟨⟨a, c, rfl, HO.out, by omega⟩, hb⟩
set_option maxRecDepth 100000 in
set_option maxHeartbeats 1600000 in
theorem implTextNat_ok2 (s : ByteArray) (w : World) (hs : s.size ≤ maxLen) (hd : allB 48 57 48 57 s.data.toList = true) (hl : s.size ≤ 450) (h0 : 0 < s.size) (hz : ((s[0].toNat : Int) == 48) = true) (hz1 : s.size ≤ 1) :
    Calls Tryz.prog 26 #[.string s] w fun e w' => (∃ a c, e = .returned (.tuple #[.slice a (limbs (dv s.data.toList)).length c, .bool true]) ∧ Own w' w.heap.size a c (limbs (dv s.data.toList)) ∧ (limbs (dv s.data.toList)).length ≤ 50) ∧ Below w.heap.size w w' := by
  have ho := Lib.hid (Own.empty w w.heap.size (Nat.le_refl _))
  have hb := (Below.refl w.heap.size w).alloc (Nat.le_refl _) (.cells #[] 3)
  have hlen : s.data.toList.length = s.size := by simp
  have HLen := Lib.hid hlen; clear hlen
  have HD := Lib.hid (allB_digs hd)
  have HS := Lib.hid hs
  clear hs
  have hcv := fun (w : World) (s : ByteArray) => run_bytes_of_string (P := Tryz.prog) w 9 22 5 s Tryz.underlying9 Tryz.underlying22 Tryz.underlying5
  go_enter Tryz.func26, Tryz.ntmps26
  go_wp2_with fail
  refine (impl_IsDigits s _ HS.out).mono ?_
  rintro e w0 ⟨rfl, rfl⟩
  go_wp2
  go_loopw [4, 5, 6, 8] (fun o ev _ _ wr => ∃ (k : Nat) (zs : List Int) (a : Option Addr) (c : Nat), o = .slice a zs.length c ∧ ev = .int .i64 (s.size - 9 * k) ∧ 9 * k < s.size + 9 ∧ TxInv s.data.toList k zs ∧ Own wr w.heap.size a c zs ∧ Below w.heap.size w wr)
    (fun _ ev _ _ _ => (intOf ev).toNat)
  case atStart => exact ⟨0, [], _, _, rfl, by go_num, by omega, TxInv.start _, ho.out, hb⟩
  case round =>
    obtain ⟨k, zs, a, c, rfl, rfl, hk, hi, hown, hb⟩ := hrel
    have hsz := hb.size
    have hzl : zs.length ≤ 51 := by rw [hi.1]; omega
    have HI := Lib.hid hi; clear hi
    by_cases hgo : 9 * k < s.size
    · obtain ⟨g, hg⟩ : ∃ g, g = s.size - 9 * k := ⟨_, rfl⟩
      obtain ⟨f, hf⟩ : ∃ f, f = s.size - 9 * (k + 1) := ⟨_, rfl⟩
      have hg0 : 0 < g := by omega
      have hgs : g ≤ s.size := by omega
      have hfg : f < g := by omega
      have hfg9 : g ≤ f + 9 := by omega
      have eg : ((s.size : Int) - 9 * k) = g := by omega
      have HE := Lib.hid eg
      have HN := Lib.hid (HI.out.next HD.out (by rw [HLen.out]; exact hgo))
      rw [HLen.out, ← hg, ← hf] at HN
      have HF := Lib.hid (show f = g - 9 ∧ (9 ≤ g ∨ f = 0) by omega)
      have HK := Lib.hid (show g = s.size - 9 * k from hg)
      rw [HE.out]
      clear eg hf hg hgo hk
      by_cases h9 : (g : Int) - 9 ≤ 0
      · obtain rfl : f = 0 := by have := HF.out; omega
        have hW0 := conv_world wr s 0 g (grownCap wr g 0 5) hgs
        have hZ : 0 = g - 9 := by omega
        have HZ9 := Lib.hid hZ
        clear hZ
        go_wp2
        obtain ⟨W1, hW1⟩ : ∃ W1, W1 = (wr.alloc (.cells (bytesRow (s.extract 0 g) (grownCap wr g 0 5)) 5 ((bytesRow (s.extract 0 g) (grownCap wr g 0 5)).size, (bytesRow (s.extract 0 g) (grownCap wr g 0 5)).size + 1))).drew := ⟨_, rfl⟩
        rw [← hW1] at hW0 ⊢
        obtain ⟨hcells, hbW⟩ := hW0
        have HC := Lib.hid hcells
        have hownW := hown.below hbW (Nat.le_refl _)
        have hbb := hb.trans (hbW.mono hsz)
        have hszW := hbW.size
        clear hcells hW1 hown hb
        obtain ⟨bn, hbn⟩ : ∃ bn, bn = wr.heap.size := ⟨_, rfl⟩
        rw [← hbn] at HC ⊢
        clear hbn hbW
        go_loop [6, 8, 42] (fun nv _ jv => ∃ (j n : Nat), jv = .int .i64 j ∧ j ≤ g ∧ n = dv (chunk s.data.toList 0 (0 + j)) ∧ nv = .int .i64 n) (fun _ _ jv => g - (intOf jv).toNat)
        case atStart => exact ⟨0, 0, rfl, by omega, by rw [Nat.add_zero, chunk_nil]; rfl, rfl⟩
        case round =>
          obtain ⟨j, n, rfl, hj, hn, rfl⟩ := hrel
          have hnb := chunk_bound (f := 0) (i := 0 + j) (g := g) HD.out (by omega) (by omega) hfg9
          rw [← hn] at hnb
          have HNn := Lib.hid hn; clear hn
          by_cases hig : j < g
          · have hig2 : 0 + j < g := by omega
            have his : 0 + j < s.size := by omega
            have hdig := HD.out s[0 + j] (by simp [ByteArray.getElem_eq_getElem_data])
            obtain ⟨hd0, hd1⟩ := hdig
            have hce := HC.out j hig2
            have HX := Lib.hid (chunk_next s (f := 0) (i := 0 + j) (by omega) his)
            obtain ⟨cc, hcc⟩ : ∃ cc, cc = s[0 + j] := ⟨_, rfl⟩
            rw [← hcc] at hce hd0 hd1
            have HCC := Lib.hid hcc
            clear hcc
            go_wp2
            go_round
            case rel =>
              refine ⟨j + 1, n * 10 + (cc.toNat - 48), by go_num, by omega, ?_, by go_num⟩
              rw [← Nat.add_assoc, HX.out, dv_snoc, HNn.out, HCC.out]
            case measure => simp [intOf]; omega
          · have hjg : 0 + j = g := by omega
            have hzn : (n : Int) = ((dv (chunk s.data.toList 0 g) : Nat) : Int) := by rw [HNn.out, hjg]
            have HZ := Lib.hid hzn; clear hzn hjg
            go_wp2_with (at_builtin; refine app1 _ rfl _ _ rfl w.heap.size a c zs _ rfl rfl hownW (by omega) (by omega) ?_)
            intro a2 c2 w2 ho2 hb2
            have hb3 := hbb.trans hb2
            clear hb2 hownW
            go_wp2
            go_roundw
            case rel =>
              refine ⟨k + 1, zs ++ [(n : Int)], a2, c2, by simp, ?_, by have := HK.out; omega, ?_, ho2, hb3⟩
              · have := HE.out; go_num
              · rw [HZ.out]; exact HN.out
            case measure => simp [intOf]; omega
      · exfalso; omega
    · have HT := Lib.hid (text_done HI.out (by rw [HLen.out]; omega))
      have hrd := hown.rd
      have hle := hown.le
      have hml : zs.length ≤ maxLen := by unfold maxLen; omega
      have hl50 := trimL_length_le zs
      have hzk : zs.length ≤ 50 := by rw [HI.out.1]; omega
      have ho3 := hown.trimL
      rw [HT.out] at ho3 hl50
      have HO := Lib.hid ho3
      clear ho3
      go_wp2_with fail
      refine (trim_any _ _ _ _ hrd hml hle).mono ?_
      rintro e w3 ⟨rfl, rfl⟩
      rw [HT.out]
      go_wp2
      go_ret2
      exact ⟨⟨a, c, rfl, HO.out, by omega⟩, hb⟩
theorem allB_pos' {lo hi low high : Int} {s : ByteArray} (h : allB lo hi low high s.data.toList = true) : 0 < s.size := by
  unfold allB at h; rw [Bool.and_eq_true] at h
  cases hd : s.data.toList with
  | nil => rw [hd] at h; simp at h
  | cons a l => have := congrArg List.length hd; simp at this; omega

set_option maxRecDepth 100000 in
theorem impl_TextNat (s : ByteArray) (w : World) (hs : s.size ≤ 1099511627776) :
    Calls Tryz.prog 26 #[.string s] w fun e w' => (∃ a c, e = .returned (.tuple #[.slice a (fTextNat s.data.toList).1.length c, .bool (fTextNat s.data.toList).2]) ∧ Own w' w.heap.size a c (fTextNat s.data.toList).1 ∧ (fTextNat s.data.toList).1.length ≤ 50) ∧ Below w.heap.size w w' := by
  have HS := Lib.hid (show s.size ≤ maxLen by unfold maxLen; omega)
  have hs2 : s.size ≤ 1099511627776 := hs
  clear hs
  cases hd : allB 48 57 48 57 s.data.toList
  · have H := Lib.hid (fTextNat_no (numB_dig hd))
    go_enter Tryz.func26, Tryz.ntmps26
    go_wp2_with fail
    refine (impl_IsDigits s _ HS.out).mono ?_
    rintro e w0 ⟨rfl, rfl⟩
    go_wp2
    go_ret2
    rw [H.out]
    exact ⟨⟨none, 0, rfl, Own.nil _ _, Nat.zero_le _⟩, Below.refl _ _⟩
  · have h0 := allB_pos' hd
    by_cases hl : 450 < s.size
    · have H := Lib.hid (fTextNat_no (numB_long hl))
      go_enter Tryz.func26, Tryz.ntmps26
      go_wp2_with fail
      refine (impl_IsDigits s _ HS.out).mono ?_
      rintro e w0 ⟨rfl, rfl⟩
      go_wp2
      go_ret2
      rw [H.out]
      exact ⟨⟨none, 0, rfl, Own.nil _ _, Nat.zero_le _⟩, Below.refl _ _⟩
    · by_cases hlead : 1 < s.size ∧ ((s[0].toNat : Int) == 48) = true
      · obtain ⟨h1, hz⟩ := hlead
        have H := Lib.hid (fTextNat_no (numB_lead h1 (by have := beq_iff_eq.1 hz; omega)))
        go_enter Tryz.func26, Tryz.ntmps26
        go_wp2_with fail
        refine (impl_IsDigits s _ HS.out).mono ?_
        rintro e w0 ⟨rfl, rfl⟩
        go_wp2
        go_ret2
        rw [H.out]
        exact ⟨⟨none, 0, rfl, Own.nil _ _, Nat.zero_le _⟩, Below.refl _ _⟩
      · have hok : s.size ≤ 1 ∨ ((s[0].toNat : Int) == 48) = false := by
          by_cases h1 : s.size ≤ 1
          · exact .inl h1
          · right
            cases hz : ((s[0].toNat : Int) == 48)
            · rfl
            · exact absurd ⟨by omega, hz⟩ hlead
        have H := Lib.hid (fTextNat_yes (numB_ok hd (by omega) (hok.imp id fun h => ⟨h0, by intro e; rw [e] at h; exact absurd h (by decide)⟩)))
        rw [H.out]
        cases hz : ((s[0].toNat : Int) == 48)
        · exact implTextNat_ok1 s w HS.out hd (by omega) h0 hz
        · refine implTextNat_ok2 s w HS.out hd (by omega) h0 hz ?_
          rcases hok with h | h
          · exact h
          · rw [hz] at h; cases h
end Go.Proofs.YtogkonenejfgmaaGreatDoor
