/- graftref1.Base32. -/
import Derived.Test.YtljcojnfpdfaeaaDoorB3
namespace Go.Proofs.YtljcojnfpdfaeaaDoor
open Go.RowKit

def bt (d : List Int) (k : Nat) : Int := d.getD (k / 8) 0 / 2 ^ (k % 8) % 2
theorem bt_range (d : List Int) (k : Nat) : 0 ≤ bt d k ∧ bt d k ≤ 1 := by unfold bt; omega
theorem i64_and1 (x : Int) (h₀ : 0 ≤ x) (h₁ : x < 2 ^ 31) : bits .and .i64 x 1 = x % 2 := bits_mask .i64 31 (by decide) wraps_i64 1 (by decide) x h₀ h₁
theorem one_bit (x : Int) (s : Nat) (hx0 : 0 ≤ x) (hx1 : x ≤ 255) : bits .and .i64 (x / 2 ^ s) 1 = x / 2 ^ s % 2 := by
  have h4 : 0 ≤ x / 2 ^ s := Int.ediv_nonneg hx0 (Int.le_of_lt (Int.pow_pos (by decide)))
  have h5 : x / 2 ^ s ≤ x := Int.ediv_le_self _ hx0
  rw [i64_and1 _ (by omega) (by omega)]

set_option maxHeartbeats 400000 in
theorem bit_any (A : Option Addr) (n c : Nat) (d : List Int) (k : Nat) (w : World) (hn : d.length = n) (hd : Src w A .u8 d) (hb : n ≤ 70368744177) (hk : k ≤ 70368744177000) (hr : ∀ i, i < n → 0 ≤ d.getD i 0 ∧ d.getD i 0 ≤ 255) :
    Calls Tryd.prog 24 #[.slice A n c, .int .i64 k] w fun e w' => e = .returned (.int .i64 (bt d k)) ∧ w' = w := by
  have HN := hid hn
  have HR := hid hr
  have HD := hid hd
  clear hn hr hd
  obtain ⟨a, ha⟩ : ∃ a, a = k / 8 := ⟨_, rfl⟩
  obtain ⟨s, hs⟩ : ∃ s, s = k % 8 := ⟨_, rfl⟩
  have s1 : (k : Int) / 8 = (a : Int) := by omega
  have s2 : (k : Int) % 8 = (s : Int) := by omega
  have s3 : s ≤ 7 := by omega
  have hB0 : bt d k = d.getD a 0 / 2 ^ s % 2 := by unfold bt; rw [← ha, ← hs]
  have HB := hid hB0
  clear hB0
  clear ha hs
  go_enter Tryd.func24, Tryd.ntmps24
  by_cases h : a < n
  · obtain ⟨b, o, rfl, hbl, hc⟩ := HD.out (by intro h; have := HN.out; rw [h] at this; simp at this; omega)
    have g0 := hc a (by rw [HN.out]; exact h)
    obtain ⟨x0, x1⟩ := HR.out a h
    obtain ⟨x, hx⟩ : ∃ x, x = d.getD a 0 := ⟨_, rfl⟩
    rw [← hx] at g0 x0 x1
    have HX := hid hx
    have h2 : ¬ (n : Int) ≤ a := by omega
    have h3 : (a : Int) < n := by omega
    have q := one_bit x s x0 x1
    clear hx hc
    go_wp2
    go_ret
    refine ⟨?_, rfl⟩
    rw [HB.out, ← HX.out]
    rfl
  · have h2 : (n : Int) ≤ a := by omega
    go_wp2
    go_ret
    refine ⟨?_, rfl⟩
    rw [show bt d k = 0 by rw [HB.out, List.getD_eq_getElem?_getD, List.getElem?_eq_none (by rw [HN.out]; omega), Option.getD_none, Int.zero_ediv]; rfl]
    rfl

def vp (d : List Int) (i : Nat) : Nat → Int
  | 0 => 0
  | j + 1 => vp d i j + bt d (5 * i + j) * 2 ^ j
theorem vp_range (d : List Int) (i j : Nat) : 0 ≤ vp d i j ∧ vp d i j < 2 ^ j := by
  induction j with
  | zero => simp [vp]
  | succ j ih =>
    obtain ⟨h0, h1⟩ := bt_range d (5 * i + j)
    have hp : (0 : Int) < 2 ^ j := Int.pow_pos (by decide)
    have hpp : (2 : Int) ^ (j + 1) = 2 ^ j + 2 ^ j := by rw [Int.pow_succ]; omega
    simp only [vp]
    rcases (show bt d (5 * i + j) = 0 ∨ bt d (5 * i + j) = 1 by omega) with h | h <;> rw [h] <;> omega
theorem vp_five (d : List Int) (i : Nat) (hr : ∀ i, 0 ≤ d.getD i 0 ∧ d.getD i 0 ≤ 255) : vp d i 5 = v32 d i := by
  simp only [vp, bt, v32]
  obtain ⟨a, ha⟩ : ∃ a, a = 5 * i / 8 := ⟨_, rfl⟩
  obtain ⟨x0, x1⟩ := hr a
  obtain ⟨y0, y1⟩ := hr (a + 1)
  rw [← ha]
  rcases (show 5 * i % 8 = 0 ∨ 5 * i % 8 = 1 ∨ 5 * i % 8 = 2 ∨ 5 * i % 8 = 3 ∨ 5 * i % 8 = 4 ∨ 5 * i % 8 = 5 ∨ 5 * i % 8 = 6 ∨ 5 * i % 8 = 7 by omega) with h | h | h | h | h | h | h | h
  · rw [show (5 * i + 0) / 8 = a by omega, show (5 * i + 1) / 8 = a by omega, show (5 * i + 2) / 8 = a by omega, show (5 * i + 3) / 8 = a by omega, show (5 * i + 4) / 8 = a by omega, show (5 * i + 0) % 8 = 0 by omega, show (5 * i + 1) % 8 = 1 by omega, show (5 * i + 2) % 8 = 2 by omega, show (5 * i + 3) % 8 = 3 by omega, show (5 * i + 4) % 8 = 4 by omega, h]; omega
  · rw [show (5 * i + 0) / 8 = a by omega, show (5 * i + 1) / 8 = a by omega, show (5 * i + 2) / 8 = a by omega, show (5 * i + 3) / 8 = a by omega, show (5 * i + 4) / 8 = a by omega, show (5 * i + 0) % 8 = 1 by omega, show (5 * i + 1) % 8 = 2 by omega, show (5 * i + 2) % 8 = 3 by omega, show (5 * i + 3) % 8 = 4 by omega, show (5 * i + 4) % 8 = 5 by omega, h]; omega
  · rw [show (5 * i + 0) / 8 = a by omega, show (5 * i + 1) / 8 = a by omega, show (5 * i + 2) / 8 = a by omega, show (5 * i + 3) / 8 = a by omega, show (5 * i + 4) / 8 = a by omega, show (5 * i + 0) % 8 = 2 by omega, show (5 * i + 1) % 8 = 3 by omega, show (5 * i + 2) % 8 = 4 by omega, show (5 * i + 3) % 8 = 5 by omega, show (5 * i + 4) % 8 = 6 by omega, h]; omega
  · rw [show (5 * i + 0) / 8 = a by omega, show (5 * i + 1) / 8 = a by omega, show (5 * i + 2) / 8 = a by omega, show (5 * i + 3) / 8 = a by omega, show (5 * i + 4) / 8 = a by omega, show (5 * i + 0) % 8 = 3 by omega, show (5 * i + 1) % 8 = 4 by omega, show (5 * i + 2) % 8 = 5 by omega, show (5 * i + 3) % 8 = 6 by omega, show (5 * i + 4) % 8 = 7 by omega, h]; omega
  · rw [show (5 * i + 0) / 8 = a by omega, show (5 * i + 1) / 8 = a by omega, show (5 * i + 2) / 8 = a by omega, show (5 * i + 3) / 8 = a by omega, show (5 * i + 4) / 8 = a + 1 by omega, show (5 * i + 0) % 8 = 4 by omega, show (5 * i + 1) % 8 = 5 by omega, show (5 * i + 2) % 8 = 6 by omega, show (5 * i + 3) % 8 = 7 by omega, show (5 * i + 4) % 8 = 0 by omega, h]; omega
  · rw [show (5 * i + 0) / 8 = a by omega, show (5 * i + 1) / 8 = a by omega, show (5 * i + 2) / 8 = a by omega, show (5 * i + 3) / 8 = a + 1 by omega, show (5 * i + 4) / 8 = a + 1 by omega, show (5 * i + 0) % 8 = 5 by omega, show (5 * i + 1) % 8 = 6 by omega, show (5 * i + 2) % 8 = 7 by omega, show (5 * i + 3) % 8 = 0 by omega, show (5 * i + 4) % 8 = 1 by omega, h]; omega
  · rw [show (5 * i + 0) / 8 = a by omega, show (5 * i + 1) / 8 = a by omega, show (5 * i + 2) / 8 = a + 1 by omega, show (5 * i + 3) / 8 = a + 1 by omega, show (5 * i + 4) / 8 = a + 1 by omega, show (5 * i + 0) % 8 = 6 by omega, show (5 * i + 1) % 8 = 7 by omega, show (5 * i + 2) % 8 = 0 by omega, show (5 * i + 3) % 8 = 1 by omega, show (5 * i + 4) % 8 = 2 by omega, h]; omega
  · rw [show (5 * i + 0) / 8 = a by omega, show (5 * i + 1) / 8 = a + 1 by omega, show (5 * i + 2) / 8 = a + 1 by omega, show (5 * i + 3) / 8 = a + 1 by omega, show (5 * i + 4) / 8 = a + 1 by omega, show (5 * i + 0) % 8 = 7 by omega, show (5 * i + 1) % 8 = 0 by omega, show (5 * i + 2) % 8 = 1 by omega, show (5 * i + 3) % 8 = 2 by omega, show (5 * i + 4) % 8 = 3 by omega, h]; omega

set_option maxRecDepth 100000 in
set_option maxHeartbeats 1000000 in
theorem base32R_any (A : Option Addr) (n c : Nat) (d : List Int) (w : World) (hn : d.length = n) (hd : Src w A .u8 d) (hb : n ≤ 70368744177) (hr : ∀ i, i < n → 0 ≤ d.getD i 0 ∧ d.getD i 0 ≤ 255) :
    Calls Tryd.prog 17 #[.slice A n c] w fun e w' => e = .returned (.string (str (base32 d))) ∧ Below w.heap.size w w' := by
  have HN := hid hn
  have HD := hid hd
  have HR := hid hr
  obtain ⟨i0, hi0, hz0, hz1, hz2⟩ := info_parts info5b
  obtain ⟨N, hN⟩ : ∃ N, N = n32 n := ⟨_, rfl⟩
  have hN2 : (8 * (n : Int) + 4) / 5 = (N : Int) := by subst hN; unfold n32; omega
  have HC := hid hN2
  have hN3 : N ≤ 2 * n := by subst hN; unfold n32; omega
  have HNN := hid hN
  have hml := hid (show N ≤ maxLen by unfold maxLen; omega)
  have hmb := hid (show i0.bytes * N ≤ 281474976710656 by rw [hz2]; omega)
  clear hn hd hr hz2 hN
  go_enter Tryd.func17, Tryd.ntmps17
  go_wp2_with (at_make; go_must (refine wpList_make_full _ rfl _ _ 31 rfl w.heap.size 5 i0 (.int .u8 0) 1 Tryd.underlying31 hi0 hz0 hz1 .i64 .i64 _ _ N rfl rfl HC.out HC.out hmb.out hml.out (Nat.le_refl _) ?_); intro w1 ho1 hg1)
  have hB1 : Below w.heap.size w w1 := ⟨hg1.os, hg1.tape, hg1.output, hg1.size, fun k hk => hg1.block k hk (by simp)⟩
  have hr1 := row_made ho1
  clear ho1 hg1
  go_loopw [5] (fun i wr => ∃ j : Nat, j ≤ N ∧ i = .int .i64 j ∧ Row wr w.heap.size .u8 5 (b32 d j) ∧ Below w.heap.size w wr) (fun i _ => N - (intOf i).toNat)
  case atStart => exact ⟨0, by omega, rfl, by rw [b32, HN.out, ← HNN.out]; exact hr1, hB1⟩
  case round =>
    clear hr1 hB1
    obtain ⟨j, hj, rfl, ho, hB⟩ := hrel
    by_cases hlt : j < N
    · have b8 : (j : Int) < N := by omega
      go_wp2
      go_loopw [6, 7] (fun v i wi => ∃ t : Nat, t ≤ 5 ∧ v = .int .i64 (vp d j t) ∧ i = .int .i64 t ∧ Row wi w.heap.size .u8 5 (b32 d j) ∧ Below w.heap.size w wi) (fun _ i _ => 5 - (intOf i).toNat)
      case atStart => exact ⟨0, by omega, rfl, rfl, ho, hB⟩
      case round =>
        clear ho hB
        obtain ⟨t, ht, rfl, rfl, ho, hB⟩ := hrel
        by_cases ht5 : t < 5
        · have b5 : (t : Int) < 5 := by omega
          have hbit := bit_any A n c d (5 * j + t) wr HN.out (HD.out.below hB) (by omega) (by omega) HR.out
          rw [show ((5 * j + t : Nat) : Int) = 5 * (j : Int) + (t : Int) by omega] at hbit
          obtain ⟨hv0, hv1⟩ := vp_range d j t
          obtain ⟨hb0, hb1⟩ := bt_range d (5 * j + t)
          have hvs : vp d j (t + 1) = vp d j t + bt d (5 * j + t) * 2 ^ t := rfl
          obtain ⟨V, hV⟩ : ∃ V, V = vp d j t := ⟨_, rfl⟩
          obtain ⟨B, hB1⟩ : ∃ B, B = bt d (5 * j + t) := ⟨_, rfl⟩
          rw [← hV] at hv0 hv1 hvs ⊢
          rw [← hB1] at hb0 hb1 hbit hvs
          obtain ⟨G, hG⟩ : ∃ G, G = B * 2 ^ t := ⟨_, rfl⟩
          have ht32 : (2 : Int) ^ t ≤ 16 := by rcases (show t = 0 ∨ t = 1 ∨ t = 2 ∨ t = 3 ∨ t = 4 by omega) with rfl | rfl | rfl | rfl | rfl <;> decide
          have hp : (0 : Int) < 2 ^ t := Int.pow_pos (by decide)
          have hG2 : 0 ≤ G ∧ G ≤ 16 := by
            rcases (show B = 0 ∨ B = 1 by omega) with h | h <;> rw [hG, h] <;> omega
          obtain ⟨hG0, hG1⟩ := hG2
          rw [← hG] at hvs
          have q : wrap64 (B * 2 ^ t) = G := by rw [← hG]; unfold wrap64; omega
          have hv2 : V < 16 := by omega
          have HVS := hid hvs
          have HBIT := hid hbit
          clear hvs hbit hV hB1 hG ht32 hp hv1
          go_wp2_with (go_at_call 24; go_must (refine HBIT.out.mono ?_); rintro e w5 ⟨rfl, rfl⟩)
          go_roundw
          case rel =>
            refine ⟨t + 1, by omega, ?_, by go_num, ho, hB⟩
            rw [HVS.out]
          case measure => simp only [intOf]; omega
        · have e5 := hid (show t = 5 by omega)
          have h5 : ¬ (t : Int) < 5 := by omega
          clear ht5 ht
          have fr := ho.free (N - 1 - j)
          have hcell := ho.cell (N - 1 - j) (by rw [b32_length, HN.out, ← HNN.out]; omega)
          have hv5 : vp d j t = v32 d j := by
            rw [e5.out]
            refine vp_five d j fun i => ?_
            by_cases hi : i < n
            · exact HR.out i hi
            · rw [List.getD_eq_getElem?_getD, List.getElem?_eq_none (by rw [HN.out]; omega)]; exact ⟨by decide, by decide⟩
          rw [hv5]
          obtain ⟨V, hV⟩ : ∃ V, V = v32 d j := ⟨_, rfl⟩
          have V0 : 0 ≤ V := by rw [hV]; unfold v32; exact Int.emod_nonneg _ (by decide)
          have V1 : V < 32 := by rw [hV]; unfold v32; exact Int.emod_lt_of_pos _ (by decide)
          have HV := hid hV
          rw [← hV]
          clear hV hv5
          have z0 := dg32_at V (by omega)
          go_wp2
          go_roundw
          case rel =>
            refine ⟨j + 1, by omega, by go_num, ?_, hB.setCell (by show w.heap.size ≤ w.heap.size; omega) _⟩
            rw [b32, HN.out, ← HNN.out, ← HV.out]
            exact ho.set _ _
          case measure => simp only [intOf]; omega
    · have ej := hid (show j = N by omega)
      have hlt2 : ¬ (j : Int) < N := by omega
      clear hlt hj
      have hsr : Src wr (some ⟨w.heap.size, 0, none⟩) .u8 (b32 d j) := fun _ => ⟨w.heap.size, 0, rfl, ho.lt, fun i hi => by rw [Nat.zero_add]; exact ho.cell i hi⟩
      have hrun := run_str (P := Tryd.prog) wr 31 9 5 (some ⟨w.heap.size, 0, none⟩) N (b32 d j) Tryd.underlying31 Tryd.underlying5 Tryd.underlying9 hsr
      rw [b32_length, HN.out, ← HNN.out] at hrun
      go_wp2
      go_ret
      refine ⟨?_, hB⟩
      rw [ej.out]
      unfold base32
      rw [HN.out, HNN.out]
      rfl
end Go.Proofs.YtljcojnfpdfaeaaDoor
