/- graftref1.Of. -/
import Derived.Test.YtljcojnfpdfaeaaDoorA3
import Derived.Test.YtljcojnfpdfaeaaDoorA4
namespace Go.Proofs.YtljcojnfpdfaeaaDoor
open Go.RowKit
def tH : List Int := [1779033703, 3144134277, 1013904242, 2773480762, 1359893119, 2600822924, 528734635, 1541459225]
def shaR (kT : List Int) (d : List Int) : List Int := oB (blks kT tH (padL d) ((padL d).length / 64)) 32

set_option maxRecDepth 100000 in
set_option maxHeartbeats 1000000 in
theorem ofR_any (A : Option Addr) (n c : Nat) (d kT : List Int) (w : World) (hn : d.length = n) (hd : Src w A .u8 d) (hb : n ≤ 70368744177664)
    (hH : Tab w 0 .u32 tH) (hKt : Tab w 1 .u32 kT) (hkl : kT.length = 64) :
    Calls Tryd.prog 14 #[.slice A n c] w fun e w' => e = .returned (.agg ((shaR kT d).map (Value.int .u8)).toArray) ∧ Below w.heap.size w w' := by
  have HN := hid hn
  have HD := hid hd
  have HKL := hid hkl
  have h1 := hKt.lt
  have h0 : 0 < w.heap.size := by omega
  have hb60 : ¬ (1152921504606846976 : Int) < n := by omega
  have t0 : w.cell? ⟨0, 0, none⟩ = some (.int .u32 1779033703) := hH.cell 0 (by decide)
  have t1 : w.cell? ⟨0, 1, none⟩ = some (.int .u32 3144134277) := hH.cell 1 (by decide)
  have t2 : w.cell? ⟨0, 2, none⟩ = some (.int .u32 1013904242) := hH.cell 2 (by decide)
  have t3 : w.cell? ⟨0, 3, none⟩ = some (.int .u32 2773480762) := hH.cell 3 (by decide)
  have t4 : w.cell? ⟨0, 4, none⟩ = some (.int .u32 1359893119) := hH.cell 4 (by decide)
  have t5 : w.cell? ⟨0, 5, none⟩ = some (.int .u32 2600822924) := hH.cell 5 (by decide)
  have t6 : w.cell? ⟨0, 6, none⟩ = some (.int .u32 528734635) := hH.cell 6 (by decide)
  have t7 : w.cell? ⟨0, 7, none⟩ = some (.int .u32 1541459225) := hH.cell 7 (by decide)
  clear hn hd hkl
  go_enter Tryd.func14, Tryd.ntmps14
  go_wp2_with (go_at_call 22; refine (padded_any A n c d _ HN.out (((HD.out.alloc _).alloc _).alloc _) (by omega)).mono ?_; rintro e w1 ⟨v, rfl, ho, hB⟩)
  obtain ⟨r0, r1, r2, rB⟩ := alloc3 w (.cells ((List.replicate 32 0).map (Value.int .u8)).toArray 23) (.cells ((List.replicate 32 0).map (Value.int .u8)).toArray 23) (.cells (tH.map (Value.int .u32)).toArray 42)
  have rS : (((w.alloc (.cells ((List.replicate 32 0).map (Value.int .u8)).toArray 23)).alloc (.cells ((List.replicate 32 0).map (Value.int .u8)).toArray 23)).alloc (.cells (tH.map (Value.int .u32)).toArray 42)).heap.size = w.heap.size + 1 + 1 + 1 := by rw [World.size_alloc, World.size_alloc, World.size_alloc]
  change Below (((w.alloc (.cells ((List.replicate 32 0).map (Value.int .u8)).toArray 23)).alloc (.cells ((List.replicate 32 0).map (Value.int .u8)).toArray 23)).alloc (.cells (tH.map (Value.int .u32)).toArray 42)).heap.size (((w.alloc (.cells ((List.replicate 32 0).map (Value.int .u8)).toArray 23)).alloc (.cells ((List.replicate 32 0).map (Value.int .u8)).toArray 23)).alloc (.cells (tH.map (Value.int .u32)).toArray 42)) w1 at hB
  have hO : Row w1 w.heap.size .u8 23 (List.replicate 32 0) := Row.below r0 hB (by rw [rS]; omega)
  have hU : Row w1 (w.heap.size + 1) .u8 23 (List.replicate 32 0) := Row.below r1 hB (by rw [rS]; omega)
  have hS : Row w1 (w.heap.size + 1 + 1) .u32 42 tH := Row.below r2 hB (by rw [rS]; omega)
  have hBB : Below w.heap.size w w1 := rB.trans (hB.mono (by rw [rS]; omega))
  obtain ⟨A4, c4, rfl, hc4, hs4, hb4⟩ := ho.form
  have HBASE := hid (show ∀ b o, A4 = some ⟨b, o, none⟩ → b ≠ w.heap.size + 1 + 1 from fun b o h => by
    have := hb4 b o h
    rw [show ((w.alloc _).alloc _).alloc _ = _ from rfl] at this
    have h2 := rS
    change (((w.alloc (.cells ((List.replicate 32 0).map (Value.int .u8)).toArray 23)).alloc (.cells ((List.replicate 32 0).map (Value.int .u8)).toArray 23)).alloc (.cells (tH.map (Value.int .u32)).toArray 42)).heap.size ≤ b at this
    omega)
  clear hb4
  clear r0 r1 r2 rB hB ho t0 t1 t2 t3 t4 t5 t6 t7
  obtain ⟨N, hN⟩ : ∃ N, (padL d).length = 64 * N := by
    have h1 := HN.out
    rw [padL_length, h1]; unfold pz
    exact ⟨(n + 1 + (119 - n % 64) % 64 + 8) / 64, by omega⟩
  rw [hN] at hc4 ⊢
  have hNb : N ≤ 1099511627780 := by
    have h1 := HN.out
    have h2 := padL_length d
    rw [hN, h1] at h2; unfold pz at h2; omega
  have HL := hid hN
  clear hN rS
  obtain ⟨M, hM⟩ : ∃ M, M = 64 * N := ⟨_, rfl⟩
  rw [← hM] at hc4 ⊢
  have HM := hid hM
  clear hM
  go_loopw [6] (fun i wr => ∃ q : Nat, q ≤ N ∧ i = .int .i64 (64 * q) ∧ Row wr w.heap.size .u8 23 (List.replicate 32 0) ∧ Row wr (w.heap.size + 1) .u8 23 (List.replicate 32 0) ∧ Row wr (w.heap.size + 1 + 1) .u32 42 (blks kT tH (padL d) q) ∧ Src wr A4 .u8 (padL d) ∧ Below w.heap.size w wr) (fun i _ => M - (intOf i).toNat)
  case atStart => exact ⟨0, by omega, rfl, hO, hU, hS, hs4, hBB⟩
  case round =>
    clear hO hU hS hs4 hBB
    obtain ⟨q, hq, rfl, hO, hU, hS, hs4, hBB⟩ := hrel
    have hm2 := HM.out
    by_cases hlt : q < N
    · obtain ⟨b4, o4, rfl, hb4, hcell⟩ := hs4 (by intro h; have := HL.out; rw [h] at this; simp at this; omega)
      obtain ⟨x0, x1, x2, x3, x4, x5, x6, x7, hx⟩ := eight (blks kT tH (padL d) q) (by rw [blks_length]; rfl)
      obtain ⟨d0, d1, d2, d3, d4, d5, d6, d7, hd⟩ := eight (cmp kT [x0, x1, x2, x3, x4, x5, x6, x7] ((padL d).drop (64 * q))) (by rw [cmp_length]; rfl)
      rw [hx] at hS
      have HX := hid hx
      have Hd := hid hd
      have Hcell := hid hcell
      have hlt2 : 64 * (q : Int) < M := by omega
      have k1 : (0 : Int) ≤ 64 * (q : Int) := by omega
      have k2 : 64 * (q : Int) ≤ 64 * (q : Int) + 64 := by omega
      have k3 : 64 * (q : Int) + 64 ≤ c4 := by omega
      have k4 : ¬ (c4 : Int) = 64 * (q : Int) := by omega
      have k5 : ¬ c4 = 64 * q := by omega
      have HM2 := hid hm2
      clear hx hd hcell hm2
      go_wp2
      refine region_tail 7 (by kernel_rfl) (by kernel_rfl) ?_
      simp only [List.take_succ_cons, List.take_zero, List.drop_succ_cons, List.drop_zero]
      refine wpStill_step (fun K hK => still_load_row rfl 42 _ rfl (w.heap.size + 1 + 1) rfl 42 _ (0, 0) _ hS Tryd.underlying42 rfl (by kernel_rfl) (hK _ ?_))
      repeat (refine wpStill_step (fun K hK => ?_); go_simp; (try go_ints); refine hK _ ?_; clear hK K)
      simp only [if_neg k5, show 64 * q + 64 - 64 * q = 64 by omega]
      obtain ⟨TK, frK, hKr⟩ := hKt.below hBB h1
      refine wpStill_step (fun K hK => still_load_row rfl 45 _ rfl 1 rfl TK _ frK _ hKr Tryd.underlying45 rfl (by rw [List.size_toArray, List.length_map, HKL.out]; kernel_rfl) (hK _ ?_))
      refine wpStill_nil ?_
      have hcalls := block_any b4 (o4 + 64 * q) (c4 - 64 * q) x0 x1 x2 x3 x4 x5 x6 x7 ((padL d).drop (64 * q)) kT wr.drew HKL.out (fun i hi => by
        have h2 := Hcell.out (64 * q + i) (by rw [HL.out]; omega)
        rw [show o4 + 64 * q + i = o4 + (64 * q + i) by omega]
        show wr.cell? _ = _
        rw [h2]; simp) hb4
      rw [Hd.out] at hcalls
      have HC := hid hcalls
      clear hcalls
      go_wp2_with (go_at_call 23; refine HC.out.mono ?_; rintro e w5 ⟨rfl, hB5⟩; have hS5 : Row w5 (w.heap.size + 1 + 1) .u32 42 [x0, x1, x2, x3, x4, x5, x6, x7] := Row.below (Row.drew hS) hB5 (Row.drew hS).lt; have e0 := hS5.cell 0 (by simp); have e1 := hS5.cell 1 (by simp); have e2 := hS5.cell 2 (by simp); have e3 := hS5.cell 3 (by simp); have e4 := hS5.cell 4 (by simp); have e5 := hS5.cell 5 (by simp); have e6 := hS5.cell 6 (by simp); have e7 := hS5.cell 7 (by simp); have f0 := hS5.free 0; have f1 := hS5.free 1; have f2 := hS5.free 2; have f3 := hS5.free 3; have f4 := hS5.free 4; have f5 := hS5.free 5; have f6 := hS5.free 6; have f7 := hS5.free 7)
      go_roundw
      case rel =>
        have hB5' : Below wr.heap.size wr w5 := below_of_drew hB5
        refine ⟨q + 1, by omega, by go_num, (hO.below hB5' hO.lt).put8_far _ _ _ _ _ _ _ _ (by omega), (hU.below hB5' hU.lt).put8_far _ _ _ _ _ _ _ _ (by omega), ?_, ?_, below_put8 _ _ _ _ _ _ _ _ (hBB.trans (hB5'.mono hBB.size)) (by omega)⟩
        · rw [blks, HX.out, Hd.out]
          exact hS5.put8 d0 d1 d2 d3 d4 d5 d6 d7
        · have hs4' : Src wr (some ⟨b4, o4, none⟩) .u8 (padL d) := fun _ => ⟨b4, o4, rfl, hb4, Hcell.out⟩
          exact (hs4'.below hB5').put8_far _ _ _ _ _ _ _ _ HBASE.out
      case measure => simp only [intOf]; have := HM2.out; omega
    · have eN := hid (show q = N by omega)
      have hlt2 : ¬ 64 * (q : Int) < M := by omega
      clear hlt hq
      obtain ⟨st, hst⟩ : ∃ st, st = blks kT tH (padL d) q := ⟨_, rfl⟩
      rw [← hst] at hS
      have hstl : st.length = 8 := by rw [hst, blks_length]; rfl
      have HST := hid hst
      have HSTL := hid hstl
      clear hst hstl hm2
      go_wp2
      go_loopw [7] (fun i wr => ∃ j : Nat, j ≤ 32 ∧ i = .int .i64 j ∧ Row wr w.heap.size .u8 23 (List.replicate 32 0) ∧ Row wr (w.heap.size + 1) .u8 23 (oB st j) ∧ Row wr (w.heap.size + 1 + 1) .u32 42 st ∧ Below w.heap.size w wr) (fun i _ => 32 - (intOf i).toNat)
      case atStart => exact ⟨0, by omega, rfl, hO, hU, hS, hBB⟩
      case round =>
        clear hO hU hS hs4 hBB
        obtain ⟨j, hj, rfl, hO, hU, hS, hBB⟩ := hrel
        by_cases hlt : j < 32
        · have g0 := hS.cell (j / 4) (by rw [HSTL.out]; omega)
          have g1 := hU.cell j (by rw [oB_length]; exact hlt)
          have f1 := hU.free j
          obtain ⟨x, hx⟩ : ∃ x, x = st.getD (j / 4) 0 := ⟨_, rfl⟩
          rw [← hx] at g0
          have HX := hid hx
          clear hx
          have b8 : (j : Int) < 32 := by omega
          have b0 : (0 : Int) ≤ (j : Int) / 4 := by omega
          have b1 : (j : Int) / 4 < 8 := by omega
          have b2 : (0 : Int) ≤ 24 - 8 * ((j : Int) % 4) := by omega
          have b3 : 24 - 8 * ((j : Int) % 4) ≤ 24 := by omega
          have e1 : (24 - 8 * ((j : Int) % 4)).toNat = 24 - 8 * (j % 4) := by omega
          have e2 : ((j : Int) / 4).toNat = j / 4 := by omega
          go_wp2
          go_roundw
          case rel =>
            refine ⟨j + 1, by omega, by go_num, hO.far _ (by show w.heap.size ≠ w.heap.size + 1; omega) _, ?_, hS.far _ (by show w.heap.size + 1 + 1 ≠ w.heap.size + 1; omega) _, hBB.setCell (by show w.heap.size ≤ w.heap.size + 1; omega) _⟩
            rw [oB, ← HX.out]
            exact hU.set j _
          case measure => simp only [intOf]; omega
        · have e32 := hid (show j = 32 by omega)
          have hj2 : ¬ (j : Int) < 32 := by omega
          clear hlt hj
          have HOL := oB_length st j
          have HOL2 := hid HOL
          clear HOL
          go_wp2_with (first
            | (refine wpList_load_row rfl 23 (.tmp 3) rfl (w.heap.size + 1) rfl 23 _ (0, 0) _ hU Tryd.underlying23 rfl (by rw [List.size_toArray, List.length_map, HOL2.out]; kernel_rfl) ?_)
            | (refine wpList_store_row rfl 23 (.tmp 2) (.tmp 46) rfl w.heap.size _ rfl rfl 23 _ hO (by rw [List.size_toArray, List.length_map, HOL2.out]; kernel_rfl) (by rw [List.size_toArray, List.length_map, List.size_toArray, List.length_map, HOL2.out]; rfl) (all_one _ _) ?_))
          refine bodyPost_ret (v := .agg ((oB st j).map (Value.int .u8)).toArray) ?_ rfl ⟨?_, below_setRow hBB (Nat.le_refl _) _⟩
          · exact results_cell_row (p := 2) (ty := 23) Tryd.results14 _ _ w.heap.size 23 _ (0, 0) _ rfl (Row.setRow hO _ _) Tryd.underlying23 rfl (by rw [List.size_toArray, List.length_map, HOL2.out]; kernel_rfl)
          · unfold shaR
            rw [e32.out, HST.out, eN.out, HL.out, Nat.mul_div_cancel_left _ (by omega)]
end Go.Proofs.YtljcojnfpdfaeaaDoor
