/- digest.Base32. -/
import Derived.Test.YtljcojnfpdfaeaaDoorA1
import Derived.Test.YtljcojnfpdfaeaaDoorStr
import Derived.Laws.Bits128
namespace Go.Proofs.YtljcojnfpdfaeaaDoor
open Go.RowKit

theorem wraps_i64 (n : Int) (h₀ : 0 ≤ n) (h₁ : n < 2 ^ 31) : IntKind.i64.wrap n = n := by rw [IntKind.wrap_i64]; omega
theorem i64_and31 (x : Int) (h₀ : 0 ≤ x) (h₁ : x < 2 ^ 31) : bits .and .i64 x 31 = x % 32 := bits_mask .i64 31 (by decide) wraps_i64 5 (by decide) x h₀ h₁
theorem i64_or_low (i : Nat) (x y : Int) (hx₀ : 0 ≤ x) (hx : x < 2 ^ i) (hx1 : x < 2 ^ 31) (hy₀ : 0 ≤ y) (hy : y % 2 ^ i = 0) (hy₁ : y < 2 ^ 31) : bits .or .i64 x y = x + y := by
  have h := bits_join .i64 31 (by decide) wraps_i64 i y x hy₀ hy hy₁ hx₀ hx hx1
  obtain ⟨a, rfl⟩ := Int.eq_ofNat_of_zero_le hx₀
  obtain ⟨b, rfl⟩ := Int.eq_ofNat_of_zero_le hy₀
  have ha : a < 2 ^ 31 := by exact_mod_cast hx1
  have hb : b < 2 ^ 31 := by exact_mod_cast hy₁
  rw [(bits_nat .i64 31 (by decide) wraps_i64 a b ha hb).2, Nat.or_comm, ← (bits_nat .i64 31 (by decide) wraps_i64 b a hb ha).2, h, Int.add_comm]

def A32 : ByteArray := ⟨#[48, 49, 50, 51, 52, 53, 54, 55, 56, 57, 97, 98, 99, 100, 102, 103, 104, 105, 106, 107, 108, 109, 110, 112, 113, 114, 115, 118, 119, 120, 121, 122]⟩
def dg32 (x : Int) : Int := if h : x.toNat < 32 then (A32[x.toNat]'h).toNat else 0
theorem dg32_at (x : Int) (h : x.toNat < 32) : (((ByteArray.mk #[48, 49, 50, 51, 52, 53, 54, 55, 56, 57, 97, 98, 99, 100, 102, 103, 104, 105, 106, 107, 108, 109, 110, 112, 113, 114, 115, 118, 119, 120, 121, 122])[x.toNat]'h).toNat : Int) = dg32 x := by unfold dg32; rw [dif_pos h]; rfl
def v32 (d : List Int) (k : Nat) : Int := (d.getD (5 * k / 8) 0 + 256 * d.getD (5 * k / 8 + 1) 0) / 2 ^ (5 * k % 8) % 32
def n32 (n : Nat) : Nat := (8 * n + 4) / 5
def b32 (d : List Int) : Nat → List Int
  | 0 => List.replicate (n32 d.length) 0
  | k + 1 => (b32 d k).set (n32 d.length - 1 - k) (dg32 (v32 d k))
theorem b32_length (d : List Int) (k : Nat) : (b32 d k).length = n32 d.length := by
  induction k with
  | zero => simp [b32]
  | succ k ih => simp [b32, ih]
def base32 (d : List Int) : List Int := b32 d (n32 d.length)

theorem or_shift (x y : Int) (s : Nat) (hx0 : 0 ≤ x) (hx1 : x ≤ 255) (hy0 : 0 ≤ y) (hy1 : y ≤ 255) (i : Nat) (p q : Int) (hp : p = 2 ^ s) (hq : q = 2 ^ i) (hpq : p * q = 256) (hp0 : 0 < p) :
    bits .and .i64 (bits .or .i64 (x / p) (wrap64 (y * q))) 31 = (x + 256 * y) / p % 32 := by
  have hq0 : 0 < q := by rw [hq]; exact Int.pow_pos (by decide)
  have hq1 : q ≤ 256 := by
    have := Int.mul_le_mul_of_nonneg_right (show (1 : Int) ≤ p by omega) (Int.le_of_lt hq0)
    omega
  have h2 : 0 ≤ y * q := Int.mul_nonneg hy0 (Int.le_of_lt hq0)
  have h3 : y * q ≤ 255 * 256 := Int.mul_le_mul hy1 hq1 (Int.le_of_lt hq0) (by decide)
  have h1 : wrap64 (y * q) = y * q := by unfold wrap64; omega
  have h4 : 0 ≤ x / p := Int.ediv_nonneg hx0 (Int.le_of_lt hp0)
  have h5 : x / p < q := by
    apply Int.ediv_lt_of_lt_mul hp0
    rw [Int.mul_comm, hpq]; omega
  have h6 : (x + 256 * y) / p = x / p + y * q := by
    rw [← hpq, Int.mul_assoc, Int.add_mul_ediv_left _ _ (by omega), Int.mul_comm q y]
  rw [h1, i64_or_low i (x / p) (y * q) h4 (by rw [← hq]; exact h5) (by omega) h2 (by rw [← hq]; exact Int.mul_emod_left _ _) (by omega), i64_and31 _ (by omega) (by omega), h6]
theorem two_way (x y : Int) (s : Nat) (hx0 : 0 ≤ x) (hx1 : x ≤ 255) (hy0 : 0 ≤ y) (hy1 : y ≤ 255) (hs : s ≤ 7) :
    bits .and .i64 (bits .or .i64 (x / 2 ^ s) (wrap64 (y * 2 ^ (8 - s)))) 31 = (x + 256 * y) / 2 ^ s % 32 := by
  exact or_shift x y s hx0 hx1 hy0 hy1 (8 - s) _ _ rfl rfl (by rw [← Int.pow_add, show s + (8 - s) = 8 by omega]; rfl) (Int.pow_pos (by decide))
theorem one_way (x : Int) (s : Nat) (hx0 : 0 ≤ x) (hx1 : x ≤ 255) :
    bits .and .i64 (x / 2 ^ s) 31 = x / 2 ^ s % 32 := by
  have hp0 : (0 : Int) < 2 ^ s := Int.pow_pos (by decide)
  have h4 : 0 ≤ x / 2 ^ s := Int.ediv_nonneg hx0 (Int.le_of_lt hp0)
  have h5 : x / 2 ^ s ≤ x := Int.ediv_le_self _ hx0
  rw [i64_and31 _ (by omega) (by omega)]

theorem info5b : (Tryd.prog.info? 5).map (fun i => (i.zero, i.size, i.bytes)) = some (some (.int .u8 0), 1, 1) := by kernel_rfl
/-- What 'make([]byte, n)' gives. -/
theorem row_made {w : World} {base n b : Nat} {k : IntKind} {e : TypeId} (h : w.ownsRow base e 1 (.slice (some ⟨b, 0, none⟩) n n) n (madeCells (Value.int k 0).cells (n * 1)).toList) : Row w b k e (List.replicate n 0) := by
  rcases h.2 with ⟨h1, _⟩ | ⟨g, cap, cur, hv, _, hg, _, _, hs, ht⟩
  · cases h1
  · injection hv with h1 _ h3
    injection h1 with h1; injection h1 with h1
    subst h1 h3
    unfold Row
    rw [hg]
    congr 1
    have h4 : cur.toList = ((List.replicate n 0).map (Value.int k)) := by
      rw [List.take_of_length_le (by simp [hs])] at ht
      rw [ht]
      apply List.ext_getElem?
      intro i
      simp [madeCells, Value.cells]
      by_cases hin : i < n
      · simp [hin, Nat.mod_one]
      · simp [hin]
    rw [← h4]

set_option maxRecDepth 100000 in
set_option maxHeartbeats 1000000 in
theorem base32P_any (A : Option Addr) (n c : Nat) (d : List Int) (w : World) (hn : d.length = n) (hd : Src w A .u8 d) (hb : n ≤ 70368744177) (hr : ∀ i, i < n → 0 ≤ d.getD i 0 ∧ d.getD i 0 ≤ 255) :
    Calls Tryd.prog 16 #[.slice A n c] w fun e w' => e = .returned (.string (str (base32 d))) ∧ Below w.heap.size w w' := by
  have HN := hid hn
  have HD := hid hd
  have HR := hid hr
  obtain ⟨i0, hi0, hz0, hz1, hz2⟩ := info_parts info5b
  obtain ⟨N, hN⟩ : ∃ N, N = n32 n := ⟨_, rfl⟩
  have hN2 : (8 * (n : Int) + 4) / 5 = (N : Int) := by subst hN; unfold n32; omega
  have HC := hid hN2
  have hN3 : N ≤ 2 * n := by subst hN; unfold n32; omega
  have HNN := hid hN
  have hml := hid (show N ≤ maxLen by unfold maxLen; omega)
  have hmb := hid (show i0.bytes * N ≤ 281474976710656 by rw [hz2]; omega)
  clear hn hd hr hz2 hN hN2
  go_enter Tryd.func16, Tryd.ntmps16
  go_wp2_with (at_make; refine wpList_make_full _ rfl _ _ 31 rfl w.heap.size 5 i0 (.int .u8 0) 1 Tryd.underlying31 hi0 hz0 hz1 .i64 .i64 _ _ N rfl rfl HC.out HC.out hmb.out hml.out (Nat.le_refl _) ?_; intro w1 ho1 hg1)
  have hB1 : Below w.heap.size w w1 := ⟨hg1.os, hg1.tape, hg1.output, hg1.size, fun k hk => hg1.block k hk (by simp)⟩
  have hr1 := row_made ho1
  clear ho1 hg1
  go_loopw [16] (fun i wr => ∃ j : Nat, j ≤ N ∧ i = .int .i64 j ∧ Row wr w.heap.size .u8 5 (b32 d j) ∧ Below w.heap.size w wr) (fun i _ => N - (intOf i).toNat)
  case atStart => exact ⟨0, by omega, rfl, by rw [b32, HN.out, ← HNN.out]; exact hr1, hB1⟩
  case round =>
    clear hr1 hB1
    obtain ⟨j, hj, rfl, ho, hB⟩ := hrel
    by_cases hlt : j < N
    · have e1 : j < n32 n := by rw [← HNN.out]; exact hlt
      obtain ⟨a, ha⟩ : ∃ a, a = 5 * j / 8 := ⟨_, rfl⟩
      obtain ⟨s, hs⟩ : ∃ s, s = 5 * j % 8 := ⟨_, rfl⟩
      have s1 : (5 * (j : Int)) / 8 = (a : Int) := by omega
      have s2 : (5 * (j : Int)) % 8 = (s : Int) := by omega
      have s3 : s ≤ 7 := by omega
      have s4 : a < n := by unfold n32 at e1; omega
      have HA := hid ha
      have HS := hid hs
      clear ha hs e1
      obtain ⟨b, o, rfl, hbl, hc⟩ := HD.out (by intro h; have := HN.out; rw [h] at this; simp at this; omega)
      have g0 := (hB.cell hbl).trans (hc a (by rw [HN.out]; exact s4))
      have fr := ho.free (N - 1 - j)
      obtain ⟨x, hx⟩ : ∃ x, x = d.getD a 0 := ⟨_, rfl⟩
      rw [← hx] at g0
      obtain ⟨x0, x1⟩ := HR.out a s4
      rw [← hx] at x0 x1
      have HX := hid hx
      clear hx
      have hcell := ho.cell (N - 1 - j) (by rw [b32_length, HN.out, ← HNN.out]; omega)
      obtain ⟨V, hV⟩ : ∃ V, V = v32 d j := ⟨_, rfl⟩
      have V0 : 0 ≤ V := by rw [hV]; unfold v32; exact Int.emod_nonneg _ (by decide)
      have V1 : V < 32 := by rw [hV]; unfold v32; exact Int.emod_lt_of_pos _ (by decide)
      have HV := hid hV
      clear hV
      have z0 := dg32_at V (by omega)
      have b8 : (j : Int) < N := by omega
      by_cases ht : a + 1 < n
      · have g1 := (hB.cell hbl).trans (hc (a + 1) (by rw [HN.out]; exact ht))
        obtain ⟨y0, y1⟩ := HR.out (a + 1) ht
        obtain ⟨y, hy⟩ : ∃ y, y = d.getD (a + 1) 0 := ⟨_, rfl⟩
        rw [← hy] at g1 y0 y1
        have ht2 : (a : Int) + 1 < n := by omega
        have q1 : bits .and .i64 (bits .or .i64 (x / 2 ^ s) (wrap64 (y * 2 ^ (8 - s)))) 31 = V := by
          rw [two_way x y s x0 x1 y0 y1 s3, HV.out, hy, HX.out]
          unfold v32
          rw [← HA.out, ← HS.out]
        clear hc hy
        go_wp2
        go_roundw
        case rel =>
          refine ⟨j + 1, by omega, by go_num, ?_, hB.setCell (by show w.heap.size ≤ w.heap.size; omega) _⟩
          rw [b32, HN.out, ← HNN.out, ← HV.out]
          exact ho.set _ _
        case measure => simp only [intOf]; omega
      · have ht2 : ¬ (a : Int) + 1 < n := by omega
        have q1 : bits .and .i64 (x / 2 ^ s) 31 = V := by
          rw [one_way x s x0 x1, HV.out, HX.out]
          unfold v32
          rw [← HA.out, ← HS.out]
          rw [show d.getD (a + 1) 0 = 0 by rw [List.getD_eq_getElem?_getD, List.getElem?_eq_none (by rw [HN.out]; omega)]; rfl, Int.mul_zero, Int.add_zero]
        clear hc
        go_wp2
        go_roundw
        case rel =>
          refine ⟨j + 1, by omega, by go_num, ?_, hB.setCell (by show w.heap.size ≤ w.heap.size; omega) _⟩
          rw [b32, HN.out, ← HNN.out, ← HV.out]
          exact ho.set _ _
        case measure => simp only [intOf]; omega
    · have ej := hid (show j = N by omega)
      have hlt2 : ¬ (j : Int) < N := by omega
      clear hlt hj
      have hsr : Src wr (some ⟨w.heap.size, 0, none⟩) .u8 (b32 d j) := fun _ => ⟨w.heap.size, 0, rfl, ho.lt, fun i hi => by rw [Nat.zero_add]; exact ho.cell i hi⟩
      have hrun := run_str (P := Tryd.prog) wr 31 9 5 (some ⟨w.heap.size, 0, none⟩) N (b32 d j) Tryd.underlying31 Tryd.underlying5 Tryd.underlying9 hsr
      rw [b32_length, HN.out, ← HNN.out] at hrun
      go_wp2
      go_ret
      refine ⟨?_, hB⟩
      rw [ej.out]
      unfold base32
      rw [HN.out, HNN.out]
      rfl
end Go.Proofs.YtljcojnfpdfaeaaDoor
