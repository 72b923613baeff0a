/- graftref1.block: the state behind 64 bytes. -/
import Derived.Test.YtljcojnfpdfaeaaDoorA1
import Derived.Test.YtljcojnfpdfaeaaDoorMem
import Derived.StillTailTactics
import Derived.Deep.RegionHeld3
namespace Go.Proofs.YtljcojnfpdfaeaaDoor
open Go.RowKit

/-- What stays: the boxed state, the boxed constants, the result's cell; all that was there. -/
structure BI (n : Nat) (A kT : List Int) (w wr : World) : Prop where
  st : Row wr n .u32 42 A
  ks : Row wr (n + 1) .u32 45 kT
  res : Row wr (n + 2) .u32 42 (List.replicate 8 0)
  bel : Below n w wr
theorem BI.set {n : Nat} {A kT : List Int} {w wr : World} (h : BI n A kT w wr) (b i : Nat) (hb : n + 2 < b) (v : Value) : BI n A kT w (wr.setCell ⟨b, i, none⟩ v) :=
  ⟨h.st.far _ (by show n ≠ b; omega) _, h.ks.far _ (by show n + 1 ≠ b; omega) _, h.res.far _ (by show n + 2 ≠ b; omega) _, h.bel.setCell (by show n ≤ b; omega) _⟩
theorem BI.drewN {n : Nat} {A kT : List Int} {w wr : World} (h : BI n A kT w wr) (m : Nat) : BI n A kT w (wr.drewN m) := ⟨h.st, h.ks, h.res, below_drewN h.bel m⟩
theorem BI.drew {n : Nat} {A kT : List Int} {w wr : World} (h : BI n A kT w wr) : BI n A kT w wr.drew := ⟨h.st, h.ks, h.res, h.bel.drew⟩
theorem BI.alloc {n : Nat} {A kT : List Int} {w wr : World} (h : BI n A kT w wr) (o : Obj) : BI n A kT w (wr.alloc o) := ⟨h.st.alloc _, h.ks.alloc _, h.res.alloc _, h.bel.alloc (by have := h.st.lt; omega) _⟩

theorem fin_comm (a0 a1 a2 a3 a4 a5 a6 a7 c0 c1 c2 c3 c4 c5 c6 c7 : Int) :
    fin [a0, a1, a2, a3, a4, a5, a6, a7] [c0, c1, c2, c3, c4, c5, c6, c7] 8 = fin [c0, c1, c2, c3, c4, c5, c6, c7] [a0, a1, a2, a3, a4, a5, a6, a7] 8 := by
  simp [fin, Int.add_comm]

set_option maxRecDepth 100000 in
set_option maxHeartbeats 1000000 in
theorem block_any (bp op : Nat) (cap : Nat) (a0 a1 a2 a3 a4 a5 a6 a7 : Int) (p kT : List Int) (w : World) (hkl : kT.length = 64)
    (hp : ∀ i, i < 64 → w.cell? ⟨bp, op + i, none⟩ = some (.int .u8 (p.getD i 0))) (hbp : bp < w.heap.size) :
    Calls Tryd.prog 23 #[.agg #[.int .u32 a0, .int .u32 a1, .int .u32 a2, .int .u32 a3, .int .u32 a4, .int .u32 a5, .int .u32 a6, .int .u32 a7], .slice (some ⟨bp, op, none⟩) 64 cap, .agg (kT.map (Value.int .u32)).toArray] w fun e w' =>
      e = .returned (.agg ((cmp kT [a0, a1, a2, a3, a4, a5, a6, a7] p).map (Value.int .u32)).toArray) ∧ Below w.heap.size w w' := by
  have HP := hid hp
  have HKL := hid hkl
  clear hp hkl
  go_enter Tryd.func23, Tryd.ntmps23
  go_wp2
  go_loopw [8] (fun i wr => ∃ t : Nat, t ≤ 16 ∧ i = .int .i64 t ∧ Row wr (w.heap.size + 1 + 1 + 1) .u32 45 (wL p t) ∧ BI w.heap.size [a0, a1, a2, a3, a4, a5, a6, a7] kT w wr) (fun i _ => 16 - (intOf i).toNat)
  case atStart => 
    obtain ⟨h0, h1, h2, h3, h4⟩ := alloc4 w (.cells #[.int .u32 a0, .int .u32 a1, .int .u32 a2, .int .u32 a3, .int .u32 a4, .int .u32 a5, .int .u32 a6, .int .u32 a7] 42) (.cells (kT.map (Value.int .u32)).toArray 45) (.cells ((List.replicate 8 0).map (Value.int .u32)).toArray 42) (.cells ((List.replicate 64 0).map (Value.int .u32)).toArray 45)
    exact ⟨0, by omega, rfl, h3, ⟨h0, h1, h2, h4⟩⟩
  case round =>
    obtain ⟨t, ht, rfl, hb, hB⟩ := hrel
    by_cases hlt : t < 16
    · have g0 : wr.cell? ⟨bp, op + (4 * t), none⟩ = some (.int .u8 (p.getD (4 * t) 0)) := by rw [hB.bel.cell hbp]; exact HP.out _ (by omega)
      have g1 : wr.cell? ⟨bp, op + (4 * t + 1), none⟩ = some (.int .u8 (p.getD (4 * t + 1) 0)) := by rw [hB.bel.cell hbp]; exact HP.out _ (by omega)
      have g2 : wr.cell? ⟨bp, op + (4 * t + 2), none⟩ = some (.int .u8 (p.getD (4 * t + 2) 0)) := by rw [hB.bel.cell hbp]; exact HP.out _ (by omega)
      have g3 : wr.cell? ⟨bp, op + (4 * t + 3), none⟩ = some (.int .u8 (p.getD (4 * t + 3) 0)) := by rw [hB.bel.cell hbp]; exact HP.out _ (by omega)
      have gw := hb.cell t (by rw [wL_length]; omega)
      have gf := hb.free t
      have b0 : (0 : Int) ≤ 4 * (t : Int) := by omega
      have b1 : (4 * (t : Int)) < 64 := by omega
      have b2 : (0 : Int) ≤ 4 * (t : Int) + 1 := by omega
      have b3 : (4 * (t : Int) + 1) < 64 := by omega
      have b4 : (0 : Int) ≤ 4 * (t : Int) + 2 := by omega
      have b5 : (4 * (t : Int) + 2) < 64 := by omega
      have b6 : (0 : Int) ≤ 4 * (t : Int) + 3 := by omega
      have b7 : (4 * (t : Int) + 3) < 64 := by omega
      have b8 : (t : Int) < 64 := by omega
      go_wp2
      refine region_tail 35 (by kernel_rfl) (by kernel_rfl) ?_
      simp only [List.take_succ_cons, List.take_zero, List.drop_succ_cons, List.drop_zero]
      repeat (refine wpStill_step (fun K hK => ?_); go_simp; (try go_ints); refine hK _ ?_; clear hK K)
      refine wpStill_nil ?_
      go_wp2
      go_roundw
      case rel => exact ⟨t + 1, by omega, by go_num, (hb.set t _).drew, (hB.set _ t (by omega) _).drew⟩
      case measure => simp [intOf]; omega
    · have e16 := hid (show t = 16 by omega)
      have ht' : ¬ (t : Int) < 16 := by omega
      clear hlt ht
      go_wp2
      go_loopw [9] (fun i wr => ∃ k : Nat, k ≤ 48 ∧ i = .int .i64 (k + 16) ∧ Row wr (w.heap.size + 1 + 1 + 1) .u32 45 (wE p k) ∧ BI w.heap.size [a0, a1, a2, a3, a4, a5, a6, a7] kT w wr) (fun i _ => 64 - (intOf i).toNat)
      case atStart => exact ⟨0, by omega, rfl, by rw [e16.out] at hb; exact hb, hB⟩
      case round =>
        clear hb hB
        obtain ⟨k, hk', rfl, hb, hB⟩ := hrel
        by_cases hlt : k < 48
        · have g0 := hb.cell k (by rw [wE_length]; omega)
          have g1 := hb.cell (k + 1) (by rw [wE_length]; omega)
          have g2 := hb.cell (k + 9) (by rw [wE_length]; omega)
          have g3 := hb.cell (k + 14) (by rw [wE_length]; omega)
          have g4 := hb.cell (k + 16) (by rw [wE_length]; omega)
          have gf := hb.free (k + 16)
          obtain ⟨x0, hx0⟩ : ∃ x, x = (wE p k).getD k 0 := ⟨_, rfl⟩
          obtain ⟨x1, hx1⟩ : ∃ x, x = (wE p k).getD (k + 1) 0 := ⟨_, rfl⟩
          obtain ⟨x2, hx2⟩ : ∃ x, x = (wE p k).getD (k + 9) 0 := ⟨_, rfl⟩
          obtain ⟨x3, hx3⟩ : ∃ x, x = (wE p k).getD (k + 14) 0 := ⟨_, rfl⟩
          rw [← hx0] at g0
          rw [← hx1] at g1
          rw [← hx2] at g2
          rw [← hx3] at g3
          have b0 : (0 : Int) ≤ (k : Int) + 1 := by omega
          have b1 : (k : Int) + 1 < 64 := by omega
          have b2 : (0 : Int) ≤ (k : Int) + 14 := by omega
          have b3 : (k : Int) + 14 < 64 := by omega
          have b4 : (0 : Int) ≤ (k : Int) + 9 := by omega
          have b5 : (k : Int) + 9 < 64 := by omega
          have b6 : (0 : Int) ≤ (k : Int) + 16 := by omega
          have b7 : (k : Int) + 16 < 64 := by omega
          have b8 : (k : Int) < 64 := by omega
          have b9 : (0 : Int) ≤ (k : Int) := by omega
          have hrow := hid (show exw x0 x1 x2 x3 = exw ((wE p k).getD k 0) ((wE p k).getD (k + 1) 0) ((wE p k).getD (k + 9) 0) ((wE p k).getD (k + 14) 0) by rw [hx0, hx1, hx2, hx3])
          clear hx0 hx1 hx2 hx3
          have e5 : ((k : Int) + 16 - 7) = (k : Int) + 9 := by omega
          have e6 : ((k : Int) + 9).toNat = k + 9 := by omega
          go_wp2_with (fail)
          refine region_tail 29 (by kernel_rfl) (by kernel_rfl) ?_
          simp only [List.take_succ_cons, List.take_zero, List.drop_succ_cons, List.drop_zero]
          repeat (refine wpStill_step (fun K hK => ?_); go_simp; (try go_ints); first | (refine hK _ ?_; clear hK K) | (refine ⟨_, ror_any _ _ _ (by omega) (by omega), hK _ ?_⟩; clear hK K))
          refine wpStill_nil ?_
          go_wp2
          go_roundw
          case rel =>
            refine ⟨k + 1, by omega, by go_num, ?_, (hB.set _ _ (by omega) _).drew⟩
            unfold wE
            rw [← hrow.out, exw_flat]
            exact (hb.set (k + 16) _).drew
          case measure => simp [intOf]; omega
        · have e48 := hid (show k = 48 by omega)
          have hk2 : ¬ (k : Int) + 16 < 64 := by omega
          clear hlt hk'
          have s0 : wr.cell? ⟨w.heap.size, 0, none⟩ = some (.int .u32 a0) := hB.st.cell 0 (by simp)
          have s1 : wr.cell? ⟨w.heap.size, 1, none⟩ = some (.int .u32 a1) := hB.st.cell 1 (by simp)
          have s2 : wr.cell? ⟨w.heap.size, 2, none⟩ = some (.int .u32 a2) := hB.st.cell 2 (by simp)
          have s3 : wr.cell? ⟨w.heap.size, 3, none⟩ = some (.int .u32 a3) := hB.st.cell 3 (by simp)
          have s4 : wr.cell? ⟨w.heap.size, 4, none⟩ = some (.int .u32 a4) := hB.st.cell 4 (by simp)
          have s5 : wr.cell? ⟨w.heap.size, 5, none⟩ = some (.int .u32 a5) := hB.st.cell 5 (by simp)
          have s6 : wr.cell? ⟨w.heap.size, 6, none⟩ = some (.int .u32 a6) := hB.st.cell 6 (by simp)
          have s7 : wr.cell? ⟨w.heap.size, 7, none⟩ = some (.int .u32 a7) := hB.st.cell 7 (by simp)
          go_wp2
          obtain ⟨b2, hb2⟩ : ∃ b2, b2 = wr.heap.size := ⟨_, rfl⟩
          have hBb : w.heap.size + 3 < b2 := by have := hb.lt; omega
          rw [← hb2]
          go_loopw [13] (fun i wr => ∃ (t : Nat) (c0 c1 c2 c3 c4 c5 c6 c7 : Int), t ≤ 64 ∧ i = .int .i64 t ∧ Row wr b2 .u32 42 [c0, c1, c2, c3, c4, c5, c6, c7] ∧ Hid (rS [a0, a1, a2, a3, a4, a5, a6, a7] kT (wE p 48) t = [c0, c1, c2, c3, c4, c5, c6, c7]) ∧ Row wr (w.heap.size + 1 + 1 + 1) .u32 45 (wE p 48) ∧ BI w.heap.size [a0, a1, a2, a3, a4, a5, a6, a7] kT w wr) (fun i _ => 64 - (intOf i).toNat)
          case atStart => exact ⟨0, a0, a1, a2, a3, a4, a5, a6, a7, by omega, rfl, by rw [hb2]; exact heap_alloc_new _ _, rfl, by rw [e48.out] at hb; exact hb.alloc _, hB.alloc _⟩
          case round =>
            clear s0 s1 s2 s3 s4 s5 s6 s7 hb hB hb2
            obtain ⟨t, c0, c1, c2, c3, c4, c5, c6, c7, ht, rfl, hs, hS, hb, hB⟩ := hrel
            by_cases hlt : t < 64
            · have g0 : wr.cell? ⟨b2, 0, none⟩ = some (.int .u32 c0) := hs.cell 0 (by simp)
              have g1 : wr.cell? ⟨b2, 1, none⟩ = some (.int .u32 c1) := hs.cell 1 (by simp)
              have g2 : wr.cell? ⟨b2, 2, none⟩ = some (.int .u32 c2) := hs.cell 2 (by simp)
              have g3 : wr.cell? ⟨b2, 3, none⟩ = some (.int .u32 c3) := hs.cell 3 (by simp)
              have g4 : wr.cell? ⟨b2, 4, none⟩ = some (.int .u32 c4) := hs.cell 4 (by simp)
              have g5 : wr.cell? ⟨b2, 5, none⟩ = some (.int .u32 c5) := hs.cell 5 (by simp)
              have g6 : wr.cell? ⟨b2, 6, none⟩ = some (.int .u32 c6) := hs.cell 6 (by simp)
              have g7 : wr.cell? ⟨b2, 7, none⟩ = some (.int .u32 c7) := hs.cell 7 (by simp)
              have f0 := hs.free 0
              have f1 := hs.free 1
              have f2 := hs.free 2
              have f3 := hs.free 3
              have f4 := hs.free 4
              have f5 := hs.free 5
              have f6 := hs.free 6
              have f7 := hs.free 7
              have gk := hB.ks.cell t (by rw [HKL.out]; exact hlt)
              have gw := hb.cell t (by rw [wE_length]; omega)
              obtain ⟨kt, hkt⟩ : ∃ x, x = kT.getD t 0 := ⟨_, rfl⟩
              obtain ⟨wt, hwt⟩ : ∃ x, x = (wE p 48).getD t 0 := ⟨_, rfl⟩
              rw [← hkt] at gk
              rw [← hwt] at gw
              have b8 : (t : Int) < 64 := by omega
              have Hkt := hid hkt
              have Hwt := hid hwt
              clear hkt hwt
              go_wp2_with (fail)
              go_quiet ((go_at_call 26; exact Calls.quiet_of_same (ror_any _ _ _ (by omega) (by omega))))
              go_wp2_with (fail)
              go_quiet ((go_at_call 26; first | exact Calls.quiet_of_same (ror_any _ _ _ (by omega) (by omega)) | exact quiet_two ((ror_any _ _ _ (by omega) (by omega)).mono fun _ _ h => ⟨h.1, 0, h.2⟩) | exact quiet_three ((ror_any _ _ _ (by omega) (by omega)).mono fun _ _ h => ⟨h.1, 0, h.2⟩)))
              go_wp2
              go_roundw
              case rel =>
                refine ⟨t + 1, _, _, _, _, _, _, _, _, by omega, by go_num, (((((((((hs.drewN _).set 0 _).set 1 _).set 2 _).set 3 _).set 4 _).set 5 _).set 6 _).set 7 _), ?_, ?_, ?_⟩
                · have := hS.out
                  show rnd (rS [a0, a1, a2, a3, a4, a5, a6, a7] kT (wE p 48) t) _ _ = _
                  rw [this, ← Hkt.out, ← Hwt.out]
                  rfl
                · exact (((((((((hb.drewN _).far _ (by show _ ≠ b2; omega) _).far _ (by show _ ≠ b2; omega) _).far _ (by show _ ≠ b2; omega) _).far _ (by show _ ≠ b2; omega) _).far _ (by show _ ≠ b2; omega) _).far _ (by show _ ≠ b2; omega) _).far _ (by show _ ≠ b2; omega) _).far _ (by show _ ≠ b2; omega) _)
                · exact (((((((((hB.drewN _).set _ _ (by omega) _).set _ _ (by omega) _).set _ _ (by omega) _).set _ _ (by omega) _).set _ _ (by omega) _).set _ _ (by omega) _).set _ _ (by omega) _).set _ _ (by omega) _)
              case measure => simp [intOf]; omega
            · have e64 := hid (show t = 64 by omega)
              have ht2 : ¬ (t : Int) < 64 := by omega
              clear hlt ht
              go_wp2
              go_loopw [18] (fun i wr => ∃ t : Nat, t ≤ 8 ∧ i = .int .i64 t ∧ Row wr b2 .u32 42 (fin [c0, c1, c2, c3, c4, c5, c6, c7] [a0, a1, a2, a3, a4, a5, a6, a7] t) ∧ BI w.heap.size [a0, a1, a2, a3, a4, a5, a6, a7] kT w wr) (fun i _ => 8 - (intOf i).toNat)
              case atStart => exact ⟨0, by omega, rfl, hs, hB⟩
              case round =>
                clear hs hb hB
                obtain ⟨j, hj, rfl, hs, hB⟩ := hrel
                by_cases hlt : j < 8
                · have g0 := hs.cell j (by rw [fin_length]; simpa using hlt)
                  have f0 := hs.free j
                  have g1 := hB.st.cell j (by simpa using hlt)
                  have b8 : (j : Int) < 8 := by omega
                  obtain ⟨x0, hx0⟩ : ∃ x, x = [a0, a1, a2, a3, a4, a5, a6, a7].getD j 0 := ⟨_, rfl⟩
                  obtain ⟨x1, hx1⟩ : ∃ x, x = (fin [c0, c1, c2, c3, c4, c5, c6, c7] [a0, a1, a2, a3, a4, a5, a6, a7] j).getD j 0 := ⟨_, rfl⟩
                  rw [← hx1] at g0
                  rw [← hx0] at g1
                  have H0 := hid hx0
                  have H1 := hid hx1
                  clear hx0 hx1
                  go_wp2
                  refine region_tail 9 (by kernel_rfl) (by kernel_rfl) ?_
                  simp only [List.take_succ_cons, List.take_zero, List.drop_succ_cons, List.drop_zero]
                  repeat (refine wpStill_step (fun K hK => ?_); go_simp; (try go_ints); refine hK _ ?_; clear hK K)
                  refine wpStill_nil ?_
                  go_wp2
                  go_roundw
                  case rel =>
                    refine ⟨j + 1, by omega, by go_num, ?_, (hB.set _ _ (by omega) _).drew⟩
                    unfold fin
                    rw [← H0.out, ← H1.out]
                    exact hs.set j _
                  case measure => simp [intOf]; omega
                · have e8 := hid (show j = 8 by omega)
                  have hj2 : ¬ (j : Int) < 8 := by omega
                  clear hlt hj
                  have hs8 : Row wr b2 .u32 42 (cmp kT [a0, a1, a2, a3, a4, a5, a6, a7] p) := by
                    have h64 := hS.out
                    rw [e64.out] at h64
                    rw [e8.out] at hs
                    unfold cmp
                    rw [h64, fin_comm]
                    exact hs
                  obtain ⟨d0, d1, d2, d3, d4, d5, d6, d7, hd⟩ : ∃ d0 d1 d2 d3 d4 d5 d6 d7, cmp kT [a0, a1, a2, a3, a4, a5, a6, a7] p = [d0, d1, d2, d3, d4, d5, d6, d7] := eight _ (cmp_length _ _ _)
                  rw [hd] at hs8
                  have Hd := hid hd
                  clear hd hs
                  have g0 : wr.cell? ⟨b2, 0, none⟩ = some (.int .u32 d0) := hs8.cell 0 (by simp)
                  have g1 : wr.cell? ⟨b2, 1, none⟩ = some (.int .u32 d1) := hs8.cell 1 (by simp)
                  have g2 : wr.cell? ⟨b2, 2, none⟩ = some (.int .u32 d2) := hs8.cell 2 (by simp)
                  have g3 : wr.cell? ⟨b2, 3, none⟩ = some (.int .u32 d3) := hs8.cell 3 (by simp)
                  have g4 : wr.cell? ⟨b2, 4, none⟩ = some (.int .u32 d4) := hs8.cell 4 (by simp)
                  have g5 : wr.cell? ⟨b2, 5, none⟩ = some (.int .u32 d5) := hs8.cell 5 (by simp)
                  have g6 : wr.cell? ⟨b2, 6, none⟩ = some (.int .u32 d6) := hs8.cell 6 (by simp)
                  have g7 : wr.cell? ⟨b2, 7, none⟩ = some (.int .u32 d7) := hs8.cell 7 (by simp)
                  have r0 : wr.cell? ⟨w.heap.size + 1 + 1, 0, none⟩ = some (.int .u32 0) := hB.res.cell 0 (by simp)
                  have r1 : wr.cell? ⟨w.heap.size + 1 + 1, 1, none⟩ = some (.int .u32 0) := hB.res.cell 1 (by simp)
                  have r2 : wr.cell? ⟨w.heap.size + 1 + 1, 2, none⟩ = some (.int .u32 0) := hB.res.cell 2 (by simp)
                  have r3 : wr.cell? ⟨w.heap.size + 1 + 1, 3, none⟩ = some (.int .u32 0) := hB.res.cell 3 (by simp)
                  have r4 : wr.cell? ⟨w.heap.size + 1 + 1, 4, none⟩ = some (.int .u32 0) := hB.res.cell 4 (by simp)
                  have r5 : wr.cell? ⟨w.heap.size + 1 + 1, 5, none⟩ = some (.int .u32 0) := hB.res.cell 5 (by simp)
                  have r6 : wr.cell? ⟨w.heap.size + 1 + 1, 6, none⟩ = some (.int .u32 0) := hB.res.cell 6 (by simp)
                  have r7 : wr.cell? ⟨w.heap.size + 1 + 1, 7, none⟩ = some (.int .u32 0) := hB.res.cell 7 (by simp)
                  have f0 : wr.frozen? ⟨w.heap.size + 1 + 1, 0, none⟩ = false := hB.res.free 0
                  have f1 : wr.frozen? ⟨w.heap.size + 1 + 1, 1, none⟩ = false := hB.res.free 1
                  have f2 : wr.frozen? ⟨w.heap.size + 1 + 1, 2, none⟩ = false := hB.res.free 2
                  have f3 : wr.frozen? ⟨w.heap.size + 1 + 1, 3, none⟩ = false := hB.res.free 3
                  have f4 : wr.frozen? ⟨w.heap.size + 1 + 1, 4, none⟩ = false := hB.res.free 4
                  have f5 : wr.frozen? ⟨w.heap.size + 1 + 1, 5, none⟩ = false := hB.res.free 5
                  have f6 : wr.frozen? ⟨w.heap.size + 1 + 1, 6, none⟩ = false := hB.res.free 6
                  have f7 : wr.frozen? ⟨w.heap.size + 1 + 1, 7, none⟩ = false := hB.res.free 7
                  go_wp2
                  have hres := (((((((hB.res.set 0 d0).set 1 d1).set 2 d2).set 3 d3).set 4 d4).set 5 d5).set 6 d6).set 7 d7
                  have hbel := (((((((hB.bel.setCell (p := ⟨w.heap.size + 1 + 1, 0, none⟩) (by simp; omega) (.int .u32 d0)).setCell (p := ⟨w.heap.size + 1 + 1, 1, none⟩) (by simp; omega) (.int .u32 d1)).setCell (p := ⟨w.heap.size + 1 + 1, 2, none⟩) (by simp; omega) (.int .u32 d2)).setCell (p := ⟨w.heap.size + 1 + 1, 3, none⟩) (by simp; omega) (.int .u32 d3)).setCell (p := ⟨w.heap.size + 1 + 1, 4, none⟩) (by simp; omega) (.int .u32 d4)).setCell (p := ⟨w.heap.size + 1 + 1, 5, none⟩) (by simp; omega) (.int .u32 d5)).setCell (p := ⟨w.heap.size + 1 + 1, 6, none⟩) (by simp; omega) (.int .u32 d6)).setCell (p := ⟨w.heap.size + 1 + 1, 7, none⟩) (by simp; omega) (.int .u32 d7)
                  refine bodyPost_ret (v := .agg #[.int .u32 d0, .int .u32 d1, .int .u32 d2, .int .u32 d3, .int .u32 d4, .int .u32 d5, .int .u32 d6, .int .u32 d7]) ?_ rfl ⟨?_, hbel⟩
                  · exact results_cell_row (p := 6) (ty := 42) Tryd.results23 _ _ (w.heap.size + 1 + 1) 42 _ (0, 0) _ rfl hres Tryd.underlying42 rfl (by kernel_rfl)
                  · rw [Hd.out]; rfl
end Go.Proofs.YtljcojnfpdfaeaaDoor
