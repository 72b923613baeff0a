/- (*digest.Hasher).Sum. -/
import Derived.Test.YtljcojnfpdfaeaaDoorA7
namespace Go.Proofs.YtljcojnfpdfaeaaDoor
open Go.RowKit

theorem rest_src {w : World} {b : Nat} {st T R : List Int} {n : Int} (h : Blk w b 49 (hcells st (T ++ R) n)) (h1 : st.length = 8) : Src w (some ⟨b, 8, none⟩) .u8 T := fun _ =>
  ⟨b, 8, rfl, h.lt, fun i hi => by
    rw [h.at]; unfold hcells
    rw [List.getElem?_append_right (by simp; omega), List.getElem?_append_left (by simp; omega)]
    rw [show 8 + i - (st.map (Value.int .u32)).length = i by simp [h1], List.map_append, List.getElem?_append_left (by simpa using hi)]
    simp [hi]⟩

theorem last_copy (T : List Int) (f : Int → Value) : (((List.replicate 128 0).map f).take 0 ++ (T.map f ++ ((List.replicate 128 0).map f).drop (0 + T.length))) = (T ++ List.replicate (128 - T.length) 0).map f := by
  rw [List.take_zero, List.nil_append, Nat.zero_add, List.map_append, ← List.map_drop, List.drop_replicate]

set_option maxRecDepth 100000 in
set_option maxHeartbeats 2000000 in
theorem sum_core (b n E nb : Nat) (hE : n % 64 < 56 ∧ E = 64 ∧ nb = 1 ∨ ¬ n % 64 < 56 ∧ E = 128 ∧ nb = 2) (st T R kT : List Int) (w : World) (hbd : n ≤ 70368744177664) (hst : st.length = 8) (hT : T.length = n % 64) (hR : (T ++ R).length = 64)
    (hh : Blk w b 49 (hcells st (T ++ R) n)) (hK : Tab w 3 .u32 kT) (hkl : kT.length = 64) :
    Calls Tryd.prog 21 #[.pointer (some ⟨b, 0, none⟩)] w fun e w' => e = .returned (.agg ((oB (blks kT st (lastB (lastA T) (n * 8) E 8) nb) 32).map (Value.int .u8)).toArray) ∧ Below w.heap.size w w' := by
  have c0 := hcells_n hh hst hR
  have f0 := hh.free 72
  obtain ⟨x0, x1, x2, x3, x4, x5, x6, x7, hx⟩ := eight st hst
  have s0 : w.cell? ⟨b, 0, none⟩ = some (.int .u32 x0) := by rw [hh.num 0 (by omega), hx]; rfl
  have s1 : w.cell? ⟨b, 1, none⟩ = some (.int .u32 x1) := by rw [hh.num 1 (by omega), hx]; rfl
  have s2 : w.cell? ⟨b, 2, none⟩ = some (.int .u32 x2) := by rw [hh.num 2 (by omega), hx]; rfl
  have s3 : w.cell? ⟨b, 3, none⟩ = some (.int .u32 x3) := by rw [hh.num 3 (by omega), hx]; rfl
  have s4 : w.cell? ⟨b, 4, none⟩ = some (.int .u32 x4) := by rw [hh.num 4 (by omega), hx]; rfl
  have s5 : w.cell? ⟨b, 5, none⟩ = some (.int .u32 x5) := by rw [hh.num 5 (by omega), hx]; rfl
  have s6 : w.cell? ⟨b, 6, none⟩ = some (.int .u32 x6) := by rw [hh.num 6 (by omega), hx]; rfl
  have s7 : w.cell? ⟨b, 7, none⟩ = some (.int .u32 x7) := by rw [hh.num 7 (by omega), hx]; rfl
  have hbl := hh.lt
  have HX := hid hx
  have HST := hid hst
  have HT := hid hT
  have HR := hid hR
  have HKL := hid hkl
  have HK := hid hK
  have HSRC := hid (rest_src hh hst)
  clear hx hst hT hR hkl hK
  have m1 : (0 : Int) ≤ (n : Int) % 64 := by omega
  have m2 : (n : Int) % 64 ≤ 64 := by omega
  have m3 : ((n : Int) % 64).toNat = n % 64 := by omega
  have hz : ∀ w, (zeroValue 52).run Tryd.prog w = .ok (.agg #[.int .u8 0, .int .u8 0, .int .u8 0, .int .u8 0, .int .u8 0, .int .u8 0, .int .u8 0, .int .u8 0, .int .u8 0, .int .u8 0, .int .u8 0, .int .u8 0, .int .u8 0, .int .u8 0, .int .u8 0, .int .u8 0, .int .u8 0, .int .u8 0, .int .u8 0, .int .u8 0, .int .u8 0, .int .u8 0, .int .u8 0, .int .u8 0, .int .u8 0, .int .u8 0, .int .u8 0, .int .u8 0, .int .u8 0, .int .u8 0, .int .u8 0, .int .u8 0, .int .u8 0, .int .u8 0, .int .u8 0, .int .u8 0, .int .u8 0, .int .u8 0, .int .u8 0, .int .u8 0, .int .u8 0, .int .u8 0, .int .u8 0, .int .u8 0, .int .u8 0, .int .u8 0, .int .u8 0, .int .u8 0, .int .u8 0, .int .u8 0, .int .u8 0, .int .u8 0, .int .u8 0, .int .u8 0, .int .u8 0, .int .u8 0, .int .u8 0, .int .u8 0, .int .u8 0, .int .u8 0, .int .u8 0, .int .u8 0, .int .u8 0, .int .u8 0, .int .u8 0, .int .u8 0, .int .u8 0, .int .u8 0, .int .u8 0, .int .u8 0, .int .u8 0, .int .u8 0, .int .u8 0, .int .u8 0, .int .u8 0, .int .u8 0, .int .u8 0, .int .u8 0, .int .u8 0, .int .u8 0, .int .u8 0, .int .u8 0, .int .u8 0, .int .u8 0, .int .u8 0, .int .u8 0, .int .u8 0, .int .u8 0, .int .u8 0, .int .u8 0, .int .u8 0, .int .u8 0, .int .u8 0, .int .u8 0, .int .u8 0, .int .u8 0, .int .u8 0, .int .u8 0, .int .u8 0, .int .u8 0, .int .u8 0, .int .u8 0, .int .u8 0, .int .u8 0, .int .u8 0, .int .u8 0, .int .u8 0, .int .u8 0, .int .u8 0, .int .u8 0, .int .u8 0, .int .u8 0, .int .u8 0, .int .u8 0, .int .u8 0, .int .u8 0, .int .u8 0, .int .u8 0, .int .u8 0, .int .u8 0, .int .u8 0, .int .u8 0, .int .u8 0, .int .u8 0, .int .u8 0, .int .u8 0, .int .u8 0, .int .u8 0]) w := fun _ => by kernel_rfl
  go_enter Tryd.func21, Tryd.ntmps21
  go_wp2
  obtain ⟨r0, r1, r2, r3, rB⟩ := alloc4 w (.cells ((List.replicate 32 0).map (Value.int .u8)).toArray 23) (.cells ((List.replicate 32 0).map (Value.int .u8)).toArray 23) (.cells ([x0, x1, x2, x3, x4, x5, x6, x7].map (Value.int .u32)).toArray 42) (.cells ((List.replicate 128 0).map (Value.int .u8)).toArray 52)
  refine region_tail 10 (by kernel_rfl) (by kernel_rfl) ?_
  simp only [List.take_succ_cons, List.take_zero, List.drop_succ_cons, List.drop_zero]
  generalize hW : World.drew _ = W
  have hO : Row W w.heap.size .u8 23 (List.replicate 32 0) := by rw [← hW]; exact r0
  have hU : Row W (w.heap.size + 1) .u8 23 (List.replicate 32 0) := by rw [← hW]; exact r1
  have hS : Row W (w.heap.size + 1 + 1) .u32 42 st := by rw [← hW, HX.out]; exact r2
  have hL : Blk W (w.heap.size + 1 + 1 + 1) 52 ((List.replicate 128 0).map (Value.int .u8)) := by rw [← hW]; exact r3
  have hB : Below w.heap.size w W := by rw [← hW]; exact rB.drew
  have c1 : W.cell? ⟨b, 72, none⟩ = some (.int .i64 n) := by rw [hB.cell hbl]; exact c0
  clear hW r0 r1 r2 r3 rB s0 s1 s2 s3 s4 s5 s6 s7 c0 f0
  repeat (refine wpStill_step (fun K hK => ?_); go_simp; (try go_ints); refine hK _ ?_; clear hK K)
  refine wpStill_nil ?_
  have hm63 := hid (show 0 + n % 64 ≤ ((List.replicate 128 0).map (Value.int .u8)).length by simp; omega)
  have hW2 := (Only.refl (w.heap.size + 1 + 1 + 1) W).setRow (((List.replicate 128 0).map (Value.int .u8)).take 0 ++ (T.map (Value.int .u8) ++ ((List.replicate 128 0).map (Value.int .u8)).drop (0 + n % 64))).toArray
  have hL2 : Row (W.setRow (w.heap.size + 1 + 1 + 1) (((List.replicate 128 0).map (Value.int .u8)).take 0 ++ (T.map (Value.int .u8) ++ ((List.replicate 128 0).map (Value.int .u8)).drop (0 + n % 64))).toArray) (w.heap.size + 1 + 1 + 1) .u8 52 (T ++ List.replicate (128 - T.length) 0) := by
    refine (setRow_heap W _ _ _ 52 _ hL).trans ?_
    have h1 := HT.out
    rw [← h1, last_copy]
  refine wpList_copyI _ rfl (.tmp 19) (.tmp 28) 31 31 rfl 5 Tryd.underlying31 (by kernel_rfl) (w.heap.size + 1 + 1 + 1) 0 128 128 (some ⟨b, 8, none⟩) (n % 64) 64 rfl rfl _ 52 hL .u8 T HT.out (HSRC.out.below hB) (by omega) hm63.out ?_
  generalize hW : World.setRow _ _ _ = W2
  rw [hW] at hL2 hW2
  have hO := hO.only hW2 (by omega)
  have hU := hU.only hW2 (by omega)
  have hS := hS.only hW2 (by omega)
  have hB2 : Below w.heap.size w W2 := hB.trans (hW2.below (by omega) hB.size)
  have c2 : W2.cell? ⟨b, 72, none⟩ = some (.int .i64 n) := by rw [World.cell?_of_block (hW2.block b (Nat.lt_of_lt_of_le hbl hB.size) (by omega))]; exact c1
  have e1 := hL2.cell (n % 64) (by simp [HT.out]; omega)
  have e2 := hL2.free (n % 64)
  clear hW hW2 hL hB c1
  have HT2 := HT.out
  have u1 : (0 : Int) ≤ (n : Int) * 8 := by omega
  have u2 : (n : Int) * 8 ≤ 18446744073709551615 := by omega
  rcases hE with ⟨h56, rfl, rfl⟩ | ⟨h56, rfl, rfl⟩
  · have t56 : ¬ (56 : Int) ≤ (n : Int) % 64 := by omega
    go_wp2
    have hL3 := hL2.set (n % 64) 128
    have hLA : List.set (T ++ List.replicate (128 - T.length) 0) (n % 64) 128 = lastA T := by unfold lastA; rw [HT2]
    rw [hLA] at hL3
    clear hLA
    go_loopw [40] (fun i wr => ∃ j : Nat, j ≤ 8 ∧ i = .int .i64 j ∧ Row wr w.heap.size .u8 23 (List.replicate 32 0) ∧ Row wr (w.heap.size + 1) .u8 23 (List.replicate 32 0) ∧ Row wr (w.heap.size + 1 + 1) .u32 42 st ∧ Row wr (w.heap.size + 1 + 1 + 1) .u8 52 (lastB (lastA T) (n * 8) 64 j) ∧ Below w.heap.size w wr) (fun i _ => 8 - (intOf i).toNat)
    case atStart => exact ⟨0, by omega, rfl, hO.far _ (by show w.heap.size ≠ w.heap.size + 1 + 1 + 1; omega) _, hU.far _ (by show w.heap.size + 1 ≠ w.heap.size + 1 + 1 + 1; omega) _, hS.far _ (by show w.heap.size + 1 + 1 ≠ w.heap.size + 1 + 1 + 1; omega) _, hL3, hB2.setCell (by show w.heap.size ≤ w.heap.size + 1 + 1 + 1; omega) _⟩
    case round =>
      clear hO hU hS hL3 hL2 hB2 c2 e1 e2
      obtain ⟨j, hj, rfl, hO, hU, hS, hL, hB⟩ := hrel
      by_cases hlt : j < 8
      · have hll : (lastB (lastA T) (n * 8) 64 j).length = 128 := by rw [lastB_length, lastA_length _ (by omega)]
        have g1 := hL.cell (63 - j) (by omega)
        have g2 := hL.free (63 - j)
        have i1 : (0 : Int) ≤ 63 - (j : Int) := by omega
        have i2 : 63 - (j : Int) < 128 := by omega
        have i3 : (63 - (j : Int)).toNat = 63 - j := by omega
        have i4 : (8 * (j : Int)).toNat = 8 * j := by omega
        have i5 : (0 : Int) ≤ 8 * (j : Int) := by omega
        have i6 : 8 * (j : Int) ≤ 64 := by omega
        clear hll
        go_wp2
        go_roundw
        case rel =>
          refine ⟨j + 1, by omega, by go_num, hO.far _ (by show w.heap.size ≠ w.heap.size + 1 + 1 + 1; omega) _, hU.far _ (by show w.heap.size + 1 ≠ w.heap.size + 1 + 1 + 1; omega) _, hS.far _ (by show w.heap.size + 1 + 1 ≠ w.heap.size + 1 + 1 + 1; omega) _, ?_, hB.setCell (by show w.heap.size ≤ w.heap.size + 1 + 1 + 1; omega) _⟩
          exact hL.set (63 - j) _
        case measure => simp only [intOf]; omega
      · have e8 := hid (show j = 8 by omega)
        have hj2 : ¬ (j : Int) < 8 := by omega
        clear hlt hj
        obtain ⟨Lf, hLf⟩ : ∃ Lf, Lf = lastB (lastA T) (n * 8) 64 8 := ⟨_, rfl⟩
        rw [e8.out, ← hLf] at hL
        have hLl : Lf.length = 128 := by rw [hLf, lastB_length, lastA_length _ (by omega)]
        have HLF := hid hLf
        have HLL := hid hLl
        clear hLf hLl
        go_wp2
        go_loopw [10] (fun i wr => ∃ q : Nat, q ≤ 1 ∧ i = .int .i64 (64 * q) ∧ Row wr w.heap.size .u8 23 (List.replicate 32 0) ∧ Row wr (w.heap.size + 1) .u8 23 (List.replicate 32 0) ∧ Row wr (w.heap.size + 1 + 1) .u32 42 (blks kT st Lf q) ∧ Row wr (w.heap.size + 1 + 1 + 1) .u8 52 Lf ∧ Below w.heap.size w wr) (fun i _ => 64 - (intOf i).toNat)
        case atStart => exact ⟨0, by omega, rfl, hO, hU, hS, hL, hB⟩
        case round =>
          clear hO hU hS hL hB
          obtain ⟨q, hq, rfl, hO, hU, hS, hL, hB⟩ := hrel
          by_cases hlt : q < 1
          · obtain ⟨x0, x1, x2, x3, x4, x5, x6, x7, hx⟩ := eight (blks kT st Lf q) (by rw [blks_length]; exact HST.out)
            have HX2 := hid hx
            have hKw := HK.out.below hB HK.out.lt
            have hcalls := mix_any (w.heap.size + 1 + 1) (w.heap.size + 1 + 1 + 1) (64 * q) (128 - 64 * q) x0 x1 x2 x3 x4 x5 x6 x7 (Lf.drop (64 * q)) kT wr 42 [] (by rw [hx] at hS; rw [List.append_nil]; exact hS) (fun i hi => by
              have := hL.cell (64 * q + i) (by rw [HLL.out]; omega)
              rw [this]; simp) hL.lt (fun i hi => hKw.cell i (by rw [HKL.out]; exact hi)) hKw.lt
            have HC := hid hcalls
            clear hx hcalls hKw
            have k1 : (0 : Int) ≤ 64 * (q : Int) := by omega
            have k2 : 64 * (q : Int) < 64 := by omega
            have k3 : 64 * (q : Int) ≤ 64 * (q : Int) + 64 := by omega
            have k4 : 64 * (q : Int) + 64 ≤ 128 := by omega
            have k5 : ¬ (128 : Nat) = 64 * q := by omega
            have k6 : 64 * q + 64 - 64 * q = 64 := by omega
            go_wp2_with (go_at_call 25; go_must (simp only [k6]; refine HC.out.mono ?_); rintro e w5 ⟨rfl, hh5, hO5⟩)
            go_roundw
            case rel =>
              refine ⟨q + 1, by omega, by go_num, hO.only hO5 (by omega), hU.only hO5 (by omega), ?_, hL.only hO5 (by omega), hB.trans (hO5.below (by omega) hB.size)⟩
              rw [blks, HX2.out]
              rw [List.append_nil] at hh5
              exact hh5
            case measure => simp only [intOf]; omega
          · have eq := hid (show q = 1 by omega)
            have hlt2 : ¬ 64 * (q : Int) < 64 := by omega
            clear hlt hq
            obtain ⟨sf, hsf⟩ : ∃ sf, sf = blks kT st Lf q := ⟨_, rfl⟩
            rw [← hsf] at hS
            have hsl : sf.length = 8 := by rw [hsf, blks_length]; exact HST.out
            have HSF := hid hsf
            have HSL := hid hsl
            clear hsf hsl
            go_wp2
            go_loopw [64] (fun i wr => ∃ j : Nat, j ≤ 32 ∧ i = .int .i64 j ∧ Row wr w.heap.size .u8 23 (List.replicate 32 0) ∧ Row wr (w.heap.size + 1) .u8 23 (oB sf j) ∧ Row wr (w.heap.size + 1 + 1) .u32 42 sf ∧ Below w.heap.size w wr) (fun i _ => 32 - (intOf i).toNat)
            case atStart => exact ⟨0, by omega, rfl, hO, hU, hS, hB⟩
            case round =>
              clear hO hU hS hL hB
              obtain ⟨j, hj, rfl, hO, hU, hS, hB⟩ := hrel
              by_cases hlt : j < 32
              · have g0 := hS.cell (j / 4) (by rw [HSL.out]; omega)
                have g1 := hU.cell j (by rw [oB_length]; exact hlt)
                have f1 := hU.free j
                obtain ⟨x, hx⟩ : ∃ x, x = sf.getD (j / 4) 0 := ⟨_, rfl⟩
                rw [← hx] at g0
                have HX3 := hid hx
                clear hx
                have b8 : (j : Int) < 32 := by omega
                have b0 : (0 : Int) ≤ (j : Int) / 4 := by omega
                have b1 : (j : Int) / 4 < 8 := by omega
                have b2 : (0 : Int) ≤ 24 - 8 * ((j : Int) % 4) := by omega
                have b3 : 24 - 8 * ((j : Int) % 4) ≤ 24 := by omega
                have e1 : (24 - 8 * ((j : Int) % 4)).toNat = 24 - 8 * (j % 4) := by omega
                have e2 : ((j : Int) / 4).toNat = j / 4 := by omega
                go_wp2
                go_roundw
                case rel =>
                  refine ⟨j + 1, by omega, by go_num, hO.far _ (by show w.heap.size ≠ w.heap.size + 1; omega) _, ?_, hS.far _ (by show w.heap.size + 1 + 1 ≠ w.heap.size + 1; omega) _, hB.setCell (by show w.heap.size ≤ w.heap.size + 1; omega) _⟩
                  rw [oB, ← HX3.out]
                  exact hU.set j _
                case measure => simp only [intOf]; omega
              · have e32 := hid (show j = 32 by omega)
                have hj3 : ¬ (j : Int) < 32 := by omega
                clear hlt hj
                have HOL2 := hid (oB_length sf j)
                go_wp2_with (first
                  | (refine wpList_load_row rfl 23 (.tmp 3) rfl (w.heap.size + 1) rfl 23 _ (0, 0) _ hU Tryd.underlying23 rfl (by rw [List.size_toArray, List.length_map, HOL2.out]; kernel_rfl) ?_)
                  | (refine wpList_store_row rfl 23 (.tmp 2) (.tmp 80) rfl w.heap.size _ rfl rfl 23 _ hO (by rw [List.size_toArray, List.length_map, HOL2.out]; kernel_rfl) (by rw [List.size_toArray, List.length_map, List.size_toArray, List.length_map, HOL2.out]; rfl) (all_one _ _) ?_))
                refine bodyPost_ret (v := .agg ((oB sf j).map (Value.int .u8)).toArray) ?_ rfl ⟨?_, below_setRow hB (Nat.le_refl _) _⟩
                · exact results_cell_row (p := 2) (ty := 23) Tryd.results21 _ _ w.heap.size 23 _ (0, 0) _ rfl (Row.setRow hO _ _) Tryd.underlying23 rfl (by rw [List.size_toArray, List.length_map, HOL2.out]; kernel_rfl)
                · rw [e32.out, HSF.out, eq.out, HLF.out]
  · have t56 : (56 : Int) ≤ (n : Int) % 64 := by omega
    go_wp2
    have hL3 := hL2.set (n % 64) 128
    have hLA : List.set (T ++ List.replicate (128 - T.length) 0) (n % 64) 128 = lastA T := by unfold lastA; rw [HT2]
    rw [hLA] at hL3
    clear hLA
    go_loopw [40] (fun i wr => ∃ j : Nat, j ≤ 8 ∧ i = .int .i64 j ∧ Row wr w.heap.size .u8 23 (List.replicate 32 0) ∧ Row wr (w.heap.size + 1) .u8 23 (List.replicate 32 0) ∧ Row wr (w.heap.size + 1 + 1) .u32 42 st ∧ Row wr (w.heap.size + 1 + 1 + 1) .u8 52 (lastB (lastA T) (n * 8) 128 j) ∧ Below w.heap.size w wr) (fun i _ => 8 - (intOf i).toNat)
    case atStart => exact ⟨0, by omega, rfl, hO.far _ (by show w.heap.size ≠ w.heap.size + 1 + 1 + 1; omega) _, hU.far _ (by show w.heap.size + 1 ≠ w.heap.size + 1 + 1 + 1; omega) _, hS.far _ (by show w.heap.size + 1 + 1 ≠ w.heap.size + 1 + 1 + 1; omega) _, hL3, hB2.setCell (by show w.heap.size ≤ w.heap.size + 1 + 1 + 1; omega) _⟩
    case round =>
      clear hO hU hS hL3 hL2 hB2 c2 e1 e2
      obtain ⟨j, hj, rfl, hO, hU, hS, hL, hB⟩ := hrel
      by_cases hlt : j < 8
      · have hll : (lastB (lastA T) (n * 8) 128 j).length = 128 := by rw [lastB_length, lastA_length _ (by omega)]
        have g1 := hL.cell (127 - j) (by omega)
        have g2 := hL.free (127 - j)
        have i1 : (0 : Int) ≤ 127 - (j : Int) := by omega
        have i2 : 127 - (j : Int) < 128 := by omega
        have i3 : (127 - (j : Int)).toNat = 127 - j := by omega
        have i4 : (8 * (j : Int)).toNat = 8 * j := by omega
        have i5 : (0 : Int) ≤ 8 * (j : Int) := by omega
        have i6 : 8 * (j : Int) ≤ 64 := by omega
        clear hll
        go_wp2
        go_roundw
        case rel =>
          refine ⟨j + 1, by omega, by go_num, hO.far _ (by show w.heap.size ≠ w.heap.size + 1 + 1 + 1; omega) _, hU.far _ (by show w.heap.size + 1 ≠ w.heap.size + 1 + 1 + 1; omega) _, hS.far _ (by show w.heap.size + 1 + 1 ≠ w.heap.size + 1 + 1 + 1; omega) _, ?_, hB.setCell (by show w.heap.size ≤ w.heap.size + 1 + 1 + 1; omega) _⟩
          exact hL.set (127 - j) _
        case measure => simp only [intOf]; omega
      · have e8 := hid (show j = 8 by omega)
        have hj2 : ¬ (j : Int) < 8 := by omega
        clear hlt hj
        obtain ⟨Lf, hLf⟩ : ∃ Lf, Lf = lastB (lastA T) (n * 8) 128 8 := ⟨_, rfl⟩
        rw [e8.out, ← hLf] at hL
        have hLl : Lf.length = 128 := by rw [hLf, lastB_length, lastA_length _ (by omega)]
        have HLF := hid hLf
        have HLL := hid hLl
        clear hLf hLl
        go_wp2
        go_loopw [10] (fun i wr => ∃ q : Nat, q ≤ 2 ∧ i = .int .i64 (64 * q) ∧ Row wr w.heap.size .u8 23 (List.replicate 32 0) ∧ Row wr (w.heap.size + 1) .u8 23 (List.replicate 32 0) ∧ Row wr (w.heap.size + 1 + 1) .u32 42 (blks kT st Lf q) ∧ Row wr (w.heap.size + 1 + 1 + 1) .u8 52 Lf ∧ Below w.heap.size w wr) (fun i _ => 128 - (intOf i).toNat)
        case atStart => exact ⟨0, by omega, rfl, hO, hU, hS, hL, hB⟩
        case round =>
          clear hO hU hS hL hB
          obtain ⟨q, hq, rfl, hO, hU, hS, hL, hB⟩ := hrel
          by_cases hlt : q < 2
          · obtain ⟨x0, x1, x2, x3, x4, x5, x6, x7, hx⟩ := eight (blks kT st Lf q) (by rw [blks_length]; exact HST.out)
            have HX2 := hid hx
            have hKw := HK.out.below hB HK.out.lt
            have hcalls := mix_any (w.heap.size + 1 + 1) (w.heap.size + 1 + 1 + 1) (64 * q) (128 - 64 * q) x0 x1 x2 x3 x4 x5 x6 x7 (Lf.drop (64 * q)) kT wr 42 [] (by rw [hx] at hS; rw [List.append_nil]; exact hS) (fun i hi => by
              have := hL.cell (64 * q + i) (by rw [HLL.out]; omega)
              rw [this]; simp) hL.lt (fun i hi => hKw.cell i (by rw [HKL.out]; exact hi)) hKw.lt
            have HC := hid hcalls
            clear hx hcalls hKw
            have k1 : (0 : Int) ≤ 64 * (q : Int) := by omega
            have k2 : 64 * (q : Int) < 128 := by omega
            have k3 : 64 * (q : Int) ≤ 64 * (q : Int) + 64 := by omega
            have k4 : 64 * (q : Int) + 64 ≤ 128 := by omega
            have k5 : ¬ (128 : Nat) = 64 * q := by omega
            have k6 : 64 * q + 64 - 64 * q = 64 := by omega
            go_wp2_with (go_at_call 25; go_must (simp only [k6]; refine HC.out.mono ?_); rintro e w5 ⟨rfl, hh5, hO5⟩)
            go_roundw
            case rel =>
              refine ⟨q + 1, by omega, by go_num, hO.only hO5 (by omega), hU.only hO5 (by omega), ?_, hL.only hO5 (by omega), hB.trans (hO5.below (by omega) hB.size)⟩
              rw [blks, HX2.out]
              rw [List.append_nil] at hh5
              exact hh5
            case measure => simp only [intOf]; omega
          · have eq := hid (show q = 2 by omega)
            have hlt2 : ¬ 64 * (q : Int) < 128 := by omega
            clear hlt hq
            obtain ⟨sf, hsf⟩ : ∃ sf, sf = blks kT st Lf q := ⟨_, rfl⟩
            rw [← hsf] at hS
            have hsl : sf.length = 8 := by rw [hsf, blks_length]; exact HST.out
            have HSF := hid hsf
            have HSL := hid hsl
            clear hsf hsl
            go_wp2
            go_loopw [64] (fun i wr => ∃ j : Nat, j ≤ 32 ∧ i = .int .i64 j ∧ Row wr w.heap.size .u8 23 (List.replicate 32 0) ∧ Row wr (w.heap.size + 1) .u8 23 (oB sf j) ∧ Row wr (w.heap.size + 1 + 1) .u32 42 sf ∧ Below w.heap.size w wr) (fun i _ => 32 - (intOf i).toNat)
            case atStart => exact ⟨0, by omega, rfl, hO, hU, hS, hB⟩
            case round =>
              clear hO hU hS hL hB
              obtain ⟨j, hj, rfl, hO, hU, hS, hB⟩ := hrel
              by_cases hlt : j < 32
              · have g0 := hS.cell (j / 4) (by rw [HSL.out]; omega)
                have g1 := hU.cell j (by rw [oB_length]; exact hlt)
                have f1 := hU.free j
                obtain ⟨x, hx⟩ : ∃ x, x = sf.getD (j / 4) 0 := ⟨_, rfl⟩
                rw [← hx] at g0
                have HX3 := hid hx
                clear hx
                have b8 : (j : Int) < 32 := by omega
                have b0 : (0 : Int) ≤ (j : Int) / 4 := by omega
                have b1 : (j : Int) / 4 < 8 := by omega
                have b2 : (0 : Int) ≤ 24 - 8 * ((j : Int) % 4) := by omega
                have b3 : 24 - 8 * ((j : Int) % 4) ≤ 24 := by omega
                have e1 : (24 - 8 * ((j : Int) % 4)).toNat = 24 - 8 * (j % 4) := by omega
                have e2 : ((j : Int) / 4).toNat = j / 4 := by omega
                go_wp2
                go_roundw
                case rel =>
                  refine ⟨j + 1, by omega, by go_num, hO.far _ (by show w.heap.size ≠ w.heap.size + 1; omega) _, ?_, hS.far _ (by show w.heap.size + 1 + 1 ≠ w.heap.size + 1; omega) _, hB.setCell (by show w.heap.size ≤ w.heap.size + 1; omega) _⟩
                  rw [oB, ← HX3.out]
                  exact hU.set j _
                case measure => simp only [intOf]; omega
              · have e32 := hid (show j = 32 by omega)
                have hj3 : ¬ (j : Int) < 32 := by omega
                clear hlt hj
                have HOL2 := hid (oB_length sf j)
                go_wp2_with (first
                  | (refine wpList_load_row rfl 23 (.tmp 3) rfl (w.heap.size + 1) rfl 23 _ (0, 0) _ hU Tryd.underlying23 rfl (by rw [List.size_toArray, List.length_map, HOL2.out]; kernel_rfl) ?_)
                  | (refine wpList_store_row rfl 23 (.tmp 2) (.tmp 80) rfl w.heap.size _ rfl rfl 23 _ hO (by rw [List.size_toArray, List.length_map, HOL2.out]; kernel_rfl) (by rw [List.size_toArray, List.length_map, List.size_toArray, List.length_map, HOL2.out]; rfl) (all_one _ _) ?_))
                refine bodyPost_ret (v := .agg ((oB sf j).map (Value.int .u8)).toArray) ?_ rfl ⟨?_, below_setRow hB (Nat.le_refl _) _⟩
                · exact results_cell_row (p := 2) (ty := 23) Tryd.results21 _ _ w.heap.size 23 _ (0, 0) _ rfl (Row.setRow hO _ _) Tryd.underlying23 rfl (by rw [List.size_toArray, List.length_map, HOL2.out]; kernel_rfl)
                · rw [e32.out, HSF.out, eq.out, HLF.out]
theorem sum_any (b n : Nat) (st T R kT : List Int) (w : World) (hbd : n ≤ 70368744177664) (hst : st.length = 8) (hT : T.length = n % 64) (hR : (T ++ R).length = 64)
    (hh : Blk w b 49 (hcells st (T ++ R) n)) (hK : Tab w 3 .u32 kT) (hkl : kT.length = 64) :
    Calls Tryd.prog 21 #[.pointer (some ⟨b, 0, none⟩)] w fun e w' => e = .returned (.agg ((oB (blks kT st (lastB (lastA T) (n * 8) (if n % 64 < 56 then 64 else 128) 8) (if n % 64 < 56 then 1 else 2)) 32).map (Value.int .u8)).toArray) ∧ Below w.heap.size w w' := by
  by_cases h : n % 64 < 56
  · rw [if_pos h, if_pos h]; exact sum_core b n 64 1 (.inl ⟨h, rfl, rfl⟩) st T R kT w hbd hst hT hR hh hK hkl
  · rw [if_neg h, if_neg h]; exact sum_core b n 128 2 (.inr ⟨h, rfl, rfl⟩) st T R kT w hbd hst hT hR hh hK hkl
end Go.Proofs.YtljcojnfpdfaeaaDoor
