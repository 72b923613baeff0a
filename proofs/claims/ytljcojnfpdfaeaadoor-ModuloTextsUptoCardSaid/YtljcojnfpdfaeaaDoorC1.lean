/- Key, twice. -/
import Derived.Test.YtljcojnfpdfaeaaDoorB1
import Derived.Test.YtljcojnfpdfaeaaDoorStr
namespace Go.Proofs.YtljcojnfpdfaeaaDoor
open Go.RowKit

theorem below_next {w u v : World} (h : Below w.heap.size w u) (k : Below u.heap.size u v) : Below w.heap.size w v := h.trans ⟨k.os, k.tape, k.output, k.size, fun j hj => k.block j (Nat.lt_of_lt_of_le hj h.size)⟩
theorem str_size (l : List Int) : (str l).size = l.length := by simp [str, ByteArray.size]

set_option maxRecDepth 100000 in
set_option maxHeartbeats 1000000 in
theorem hex_any (d : List Int) (w : World) (hn : d.length = 32) (hr : ∀ i, i < 32 → 0 ≤ d.getD i 0 ∧ d.getD i 0 ≤ 255) :
    Calls Tryd.prog 11 #[.agg (d.map (Value.int .u8)).toArray] w fun e w' => e = .returned (.string (str (hexL d))) ∧ Below w.heap.size w w' := by
  have HN := hid hn
  have HR := hid hr
  clear hn hr
  go_enter Tryd.func11, Tryd.ntmps11
  have hsz : (d.map (Value.int .u8)).toArray.size = 32 := by rw [List.size_toArray, List.length_map, HN.out]
  go_wp2_with (go_at_call 18; go_must (refine (hexR_any _ 32 _ d _ HN.out (src_new _ _ _ _) (by omega) HR.out).mono ?_); rintro e w1 ⟨rfl, hB1⟩)
  go_ret
  exact ⟨rfl, below_next ((Below.refl _ _).alloc (Nat.le_refl _) _) hB1⟩

set_option maxRecDepth 100000 in
set_option maxHeartbeats 1000000 in
theorem keyR_any (d : List Int) (o : ByteArray) (w : World) (hn : d.length = 32) (ho : o.size ≤ 1048576) (hr : ∀ i, i < 32 → 0 ≤ d.getD i 0 ∧ d.getD i 0 ≤ 255) :
    Calls Tryd.prog 5 #[.agg (d.map (Value.int .u8)).toArray, .string o] w fun e w' => e = .returned (.string (str (hexL d) ++ ⟨#[33]⟩ ++ o)) ∧ Below w.heap.size w w' := by
  have HN := hid hn
  have HR := hid hr
  clear hn hr
  obtain ⟨r0, rB⟩ := alloc1 w (.cells (d.map (Value.int .u8)).toArray 23)
  have hz1 : (str (hexL d)).size = 64 := by rw [str_size, hexL_length, HN.out]
  obtain ⟨H, hH⟩ : ∃ H, H = str (hexL d) := ⟨_, rfl⟩
  rw [← hH] at hz1 ⊢
  have HH := hid hH
  clear hH
  go_enter Tryd.func5, Tryd.ntmps5
  go_wp2_with (first
    | (refine wpList_load_row rfl 23 (.tmp 2) rfl (w.heap.size) rfl 23 _ (0, 0) _ r0 Tryd.underlying23 rfl (by rw [List.size_toArray, List.length_map, HN.out]; kernel_rfl) ?_)
    | (go_at_call 11; go_must (refine (hex_any d _ HN.out HR.out).mono ?_); rw [← HH.out]; rintro e w1 ⟨rfl, hB1⟩))
  go_ret
  exact ⟨rfl, below_next rB hB1⟩

set_option maxRecDepth 100000 in
set_option maxHeartbeats 1000000 in
theorem keyP_any (d : List Int) (o : ByteArray) (w : World) (hn : d.length = 32) (ho : o.size ≤ 1048576) (hr : ∀ i, i < 32 → 0 ≤ d.getD i 0 ∧ d.getD i 0 ≤ 255) :
    Calls Tryd.prog 4 #[.agg (d.map (Value.int .u8)).toArray, .string o] w fun e w' => e = .returned (.string (str (hexL d) ++ ⟨#[33]⟩ ++ o)) ∧ Below w.heap.size w w' := by
  have HN := hid hn
  have HR := hid hr
  clear hn hr
  have hz1 : (str (hexL d)).size = 64 := by rw [str_size, hexL_length, HN.out]
  obtain ⟨H, hH⟩ : ∃ H, H = str (hexL d) := ⟨_, rfl⟩
  rw [← hH] at hz1 ⊢
  have HH := hid hH
  clear hH
  have hsz : (d.map (Value.int .u8)).toArray.size = 32 := by rw [List.size_toArray, List.length_map, HN.out]
  go_enter Tryd.func4, Tryd.ntmps4
  go_wp2_with (go_at_call 10; go_must (refine (hexP_any _ 32 _ d _ HN.out (src_new _ _ _ _) (by omega) HR.out).mono ?_); rw [← HH.out]; rintro e w1 ⟨rfl, hB1⟩)
  go_ret
  exact ⟨rfl, below_next ((Below.refl _ _).alloc (Nat.le_refl _) _) hB1⟩
end Go.Proofs.YtljcojnfpdfaeaaDoor
