/- digest.Fold and graftref1.Fold. -/
import Derived.Test.YtljcojnfpdfaeaaDoorA1
import Derived.Test.YtljcojnfpdfaeaaDoorOwn
namespace Go.Proofs.YtljcojnfpdfaeaaDoor
open Go.RowKit
theorem index_arr {P : Program} (t n e j : Nat) (d : List Int) (ht : P.underlying t = some (.array n e)) (he : (P.info? e).map (·.size) = some 1) (hu : P.underlying e = some (.int .u8)) (hd : d.length = n) (hj : j < n) :
    ∀ w, (Instr.index t (.agg (d.map (Value.int .u8)).toArray) (.int .i64 j)).run P w = .ok (.int .u8 (d.getD j 0)) w := by
  intro w
  have hj' : j < d.length := by omega
  cases hq : P.info? e with
  | none => simp [hq] at he
  | some i =>
    have hs : i.size = 1 := by simpa [hq] using he
    simp [Instr.index, run_underlying ht, asIntOf, sizeOf, typeInfo, hq, hs, part, isAgg, run_underlying hu, hj, hj', Sem.run_pure, Result.andThen]
/-- A sum's bytes folded, the first i of them. -/
def fo (d : List Int) : Nat → List Int
  | 0 => List.replicate 20 0
  | i + 1 => (fo d i).set (i % 20) (bits BinOp.xor IntKind.u8 ((fo d i).getD (i % 20) 0) (d.getD i 0))
theorem fo_length (d : List Int) (i : Nat) : (fo d i).length = 20 := by
  induction i with
  | zero => simp [fo]
  | succ i ih => simp [fo, ih]

set_option maxRecDepth 100000 in
set_option maxHeartbeats 1000000 in
theorem foldR_any (d : List Int) (w : World) (hd : d.length = 32) :
    Calls Tryd.prog 15 #[.agg (d.map (Value.int .u8)).toArray] w fun e w' => e = .returned (.agg ((fo d 32).map (Value.int .u8)).toArray) ∧ Below w.heap.size w w' := by
  have HD := hid hd
  clear hd
  go_enter Tryd.func15, Tryd.ntmps15
  go_wp2
  obtain ⟨r0, r1, r2, rB⟩ := alloc3 w (.cells (d.map (Value.int .u8)).toArray 23) (.cells ((List.replicate 20 0).map (Value.int .u8)).toArray 26) (.cells ((List.replicate 20 0).map (Value.int .u8)).toArray 26)
  go_loopw [4] (fun i wr => ∃ j : Nat, j ≤ 32 ∧ i = .int .i64 j ∧ Row wr w.heap.size .u8 23 d ∧ Row wr (w.heap.size + 1) .u8 26 (List.replicate 20 0) ∧ Row wr (w.heap.size + 1 + 1) .u8 26 (fo d j) ∧ Below w.heap.size w wr) (fun i _ => 32 - (intOf i).toNat)
  case atStart => exact ⟨0, by omega, rfl, r0, r1, r2, rB⟩
  case round =>
    clear r0 r1 r2 rB
    obtain ⟨j, hj, rfl, hD, hO, hU, hB⟩ := hrel
    by_cases hlt : j < 32
    · have g0 := hD.cell j (by rw [HD.out]; omega)
      have g1 := hU.cell (j % 20) (by rw [fo_length]; omega)
      have f1 := hU.free (j % 20)
      obtain ⟨x0, hx0⟩ : ∃ x, x = d.getD j 0 := ⟨_, rfl⟩
      obtain ⟨x1, hx1⟩ : ∃ x, x = (fo d j).getD (j % 20) 0 := ⟨_, rfl⟩
      rw [← hx0] at g0
      rw [← hx1] at g1
      have H0 := hid hx0
      have H1 := hid hx1
      clear hx0 hx1
      have b8 : (j : Int) < 32 := by omega
      have b1 : (0 : Int) ≤ (j : Int) % 20 := by omega
      have b2 : (j : Int) % 20 < 20 := by omega
      have b3 : ((j : Int) % 20).toNat = j % 20 := by omega
      go_wp2
      refine region_tail 11 (by kernel_rfl) (by kernel_rfl) ?_
      simp only [List.take_succ_cons, List.take_zero, List.drop_succ_cons, List.drop_zero]
      repeat (refine wpStill_step (fun K hK => ?_); go_simp; (try go_ints); refine hK _ ?_; clear hK K)
      refine wpStill_nil ?_
      go_wp2
      go_roundw
      case rel =>
        refine ⟨j + 1, by omega, by go_num, hD.far _ (by show w.heap.size ≠ w.heap.size + 1 + 1; omega) _, hO.far _ (by show w.heap.size + 1 ≠ w.heap.size + 1 + 1; omega) _, ?_, (hB.setCell (by show w.heap.size ≤ w.heap.size + 1 + 1; omega) _).drew⟩
        rw [fo, ← H0.out, ← H1.out]
        exact hU.set (j % 20) _
      case measure => simp only [intOf]; omega
    · have e32 := hid (show j = 32 by omega)
      have hj2 : ¬ (j : Int) < 32 := by omega
      clear hlt hj
      have HOL := hid (fo_length d j)
      go_wp2_with (first
        | (refine wpList_load_row rfl 26 (.tmp 3) rfl (w.heap.size + 1 + 1) rfl 26 _ (0, 0) _ hU Tryd.underlying26 rfl (by rw [List.size_toArray, List.length_map, HOL.out]; kernel_rfl) ?_)
        | (refine wpList_store_row rfl 26 (.tmp 2) (.tmp 20) rfl (w.heap.size + 1) _ rfl rfl 26 _ hO (by rw [List.size_toArray, List.length_map, HOL.out]; kernel_rfl) (by rw [List.size_toArray, List.length_map, List.size_toArray, List.length_map, HOL.out]; rfl) (all_one _ _) ?_))
      refine bodyPost_ret (v := .agg ((fo d j).map (Value.int .u8)).toArray) ?_ rfl ⟨?_, below_setRow hB (by omega) _⟩
      · exact results_cell_row (p := 2) (ty := 26) Tryd.results15 _ _ (w.heap.size + 1) 26 _ (0, 0) _ rfl (Row.setRow hO _ _) Tryd.underlying26 rfl (by rw [List.size_toArray, List.length_map, HOL.out]; kernel_rfl)
      · rw [e32.out]

set_option maxRecDepth 100000 in
set_option maxHeartbeats 1000000 in
theorem foldP_any (d : List Int) (w : World) (hd : d.length = 32) :
    Calls Tryd.prog 12 #[.agg (d.map (Value.int .u8)).toArray] w fun e w' => e = .returned (.agg ((fo d 32).map (Value.int .u8)).toArray) ∧ Below w.heap.size w w' := by
  obtain ⟨r0, r1, r2, rB⟩ := alloc3 w (.cells (d.map (Value.int .u8)).toArray 23) (.cells ((List.replicate 20 0).map (Value.int .u8)).toArray 26) (.cells ((List.replicate 20 0).map (Value.int .u8)).toArray 26)
  have hd2 := hd
  have HD := hid hd
  clear hd
  go_enter Tryd.func12, Tryd.ntmps12
  go_wp2_with ((refine wpList_load_row rfl 23 (.tmp 1) rfl (w.heap.size) rfl 23 _ (0, 0) _ r0 Tryd.underlying23 rfl (by rw [List.size_toArray, List.length_map, HD.out]; kernel_rfl) ?_))
  go_loopw [7] (fun i wr => ∃ j : Nat, j ≤ 32 ∧ i = .int .i64 j ∧ Row wr (w.heap.size + 1) .u8 26 (List.replicate 20 0) ∧ Row wr (w.heap.size + 1 + 1) .u8 26 (fo d j) ∧ Below w.heap.size w wr) (fun i _ => 32 - (intOf i).toNat)
  case atStart => exact ⟨0, by omega, rfl, r1, r2, rB⟩
  case round =>
    clear r0 r1 r2 rB
    obtain ⟨j, hj, rfl, hO, hU, hB⟩ := hrel
    by_cases hlt : j < 32
    · have g1 := hU.cell (j % 20) (by rw [fo_length]; omega)
      have f1 := hU.free (j % 20)
      have hix := index_arr (P := Tryd.prog) 23 32 5 (j : Nat) d Tryd.underlying23 (by kernel_rfl) Tryd.underlying5 HD.out hlt
      obtain ⟨x0, hx0⟩ : ∃ x, x = d.getD j 0 := ⟨_, rfl⟩
      obtain ⟨x1, hx1⟩ : ∃ x, x = (fo d j).getD (j % 20) 0 := ⟨_, rfl⟩
      rw [← hx0] at hix
      rw [← hx1] at g1
      have H0 := hid hx0
      have H1 := hid hx1
      clear hx0 hx1
      have b8 : (j : Int) < 32 := by omega
      have b1 : (0 : Int) ≤ (j : Int) % 20 := by omega
      have b2 : (j : Int) % 20 < 20 := by omega
      have b3 : ((j : Int) % 20).toNat = j % 20 := by omega
      go_wp2
      go_roundw
      case rel =>
        refine ⟨j + 1, by omega, by go_num, hO.far _ (by show w.heap.size + 1 ≠ w.heap.size + 1 + 1; omega) _, ?_, (hB.setCell (by show w.heap.size ≤ w.heap.size + 1 + 1; omega) _)⟩
        rw [fo, ← H0.out, ← H1.out]
        exact hU.set (j % 20) _
      case measure => simp only [intOf]; omega
    · have e32 := hid (show j = 32 by omega)
      have hj2 : ¬ (j : Int) < 32 := by omega
      clear hlt hj
      have HOL := hid (fo_length d j)
      go_wp2_with (first
        | (refine wpList_load_row rfl 26 (.tmp 3) rfl (w.heap.size + 1 + 1) rfl 26 _ (0, 0) _ hU Tryd.underlying26 rfl (by rw [List.size_toArray, List.length_map, HOL.out]; kernel_rfl) ?_)
        | (refine wpList_store_row rfl 26 (.tmp 2) (.tmp 19) rfl (w.heap.size + 1) _ rfl rfl 26 _ hO (by rw [List.size_toArray, List.length_map, HOL.out]; kernel_rfl) (by rw [List.size_toArray, List.length_map, List.size_toArray, List.length_map, HOL.out]; rfl) (all_one _ _) ?_))
      refine bodyPost_ret (v := .agg ((fo d j).map (Value.int .u8)).toArray) ?_ rfl ⟨?_, below_setRow hB (by omega) _⟩
      · exact results_cell_row (p := 2) (ty := 26) Tryd.results12 _ _ (w.heap.size + 1) 26 _ (0, 0) _ rfl (Row.setRow hO _ _) Tryd.underlying26 rfl (by rw [List.size_toArray, List.length_map, HOL.out]; kernel_rfl)
      · rw [e32.out]
end Go.Proofs.YtljcojnfpdfaeaaDoor
