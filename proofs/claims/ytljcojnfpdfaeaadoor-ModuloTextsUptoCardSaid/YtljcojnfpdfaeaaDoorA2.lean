/- digest.mix: a block of 64 bytes taken into a state of eight words. -/
import Derived.Test.YtljcojnfpdfaeaaDoorA1
import Derived.Test.YtljcojnfpdfaeaaDoorMem
import Derived.StillTailTactics
import Derived.Deep.RegionHeld3
namespace Go.Proofs.YtljcojnfpdfaeaaDoor
open Go.RowKit

set_option maxRecDepth 100000 in
set_option maxHeartbeats 1000000 in
theorem mix_any (bs bp op : Nat) (cap : Nat) (a0 a1 a2 a3 a4 a5 a6 a7 : Int) (p kT : List Int) (w : World)
    (T : TypeId) (tl : List Value) (hst : Blk w bs T ([a0, a1, a2, a3, a4, a5, a6, a7].map (Value.int .u32) ++ tl))
    (hp : ∀ i, i < 64 → w.cell? ⟨bp, op + i, none⟩ = some (.int .u8 (p.getD i 0))) (hbp : bp < w.heap.size)
    (hk : ∀ i, i < 64 → w.cell? ⟨3, i, none⟩ = some (.int .u32 (kT.getD i 0))) (hk3 : 3 < w.heap.size):
    Calls Tryd.prog 25 #[.pointer (some ⟨bs, 0, none⟩), .slice (some ⟨bp, op, none⟩) 64 cap] w fun e w' => e = .returned (.tuple #[]) ∧ Blk w' bs T ((cmp kT [a0, a1, a2, a3, a4, a5, a6, a7] p).map (Value.int .u32) ++ tl) ∧ Only bs w w' := by
  have hbs := hst.lt
  have HST := hid hst
  have HP := hid hp
  have HK := hid hk
  clear hst hp hk
  go_enter Tryd.func25, Tryd.ntmps25
  go_wp2
  go_loopw [18] (fun i wr => ∃ t : Nat, t ≤ 16 ∧ i = .int .i64 t ∧ Row wr w.heap.size .u32 45 (wL p t) ∧ Below w.heap.size w wr) (fun i _ => 16 - (intOf i).toNat)
  case atStart => exact ⟨0, by omega, rfl, heap_alloc_new _ _, (Below.refl _ _).alloc (Nat.le_refl _) _⟩
  case round =>
    obtain ⟨t, ht, rfl, hb, hB⟩ := hrel
    by_cases hlt : t < 16
    · have g0 : wr.cell? ⟨bp, op + (4 * t), none⟩ = some (.int .u8 (p.getD (4 * t) 0)) := by rw [hB.cell hbp]; exact HP.out _ (by omega)
      have g1 : wr.cell? ⟨bp, op + (4 * t + 1), none⟩ = some (.int .u8 (p.getD (4 * t + 1) 0)) := by rw [hB.cell hbp]; exact HP.out _ (by omega)
      have g2 : wr.cell? ⟨bp, op + (4 * t + 2), none⟩ = some (.int .u8 (p.getD (4 * t + 2) 0)) := by rw [hB.cell hbp]; exact HP.out _ (by omega)
      have g3 : wr.cell? ⟨bp, op + (4 * t + 3), none⟩ = some (.int .u8 (p.getD (4 * t + 3) 0)) := by rw [hB.cell hbp]; exact HP.out _ (by omega)
      have gw := hb.cell t (by rw [wL_length]; omega)
      have gf := hb.free t
      have b0 : (0 : Int) ≤ 4 * (t : Int) := by omega
      have b1 : (4 * (t : Int)) < 64 := by omega
      have b2 : (0 : Int) ≤ 4 * (t : Int) + 1 := by omega
      have b3 : (4 * (t : Int) + 1) < 64 := by omega
      have b4 : (0 : Int) ≤ 4 * (t : Int) + 2 := by omega
      have b5 : (4 * (t : Int) + 2) < 64 := by omega
      have b6 : (0 : Int) ≤ 4 * (t : Int) + 3 := by omega
      have b7 : (4 * (t : Int) + 3) < 64 := by omega
      have b8 : (t : Int) < 64 := by omega
      go_wp2
      refine wp_region_still_tail 35 (by kernel_rfl) (by kernel_rfl) ?_
      simp only [List.take_succ_cons, List.take_zero, List.drop_succ_cons, List.drop_zero]
      repeat (refine wpStill_step (fun K hK => ?_); go_simp; (try go_ints); refine hK _ ?_; clear hK K)
      refine wpStill_nil ?_
      go_wp2
      go_roundw
      case rel => exact ⟨t + 1, by omega, by go_num, (hb.set t _).drew, (hB.setCell (Nat.le_refl _) _).drew⟩
      case measure => simp [intOf]; omega
    · have e16 := hid (show t = 16 by omega)
      have ht' : ¬ (t : Int) < 16 := by omega
      clear hlt ht
      go_wp2
      go_loopw [6] (fun i wr => ∃ k : Nat, k ≤ 48 ∧ i = .int .i64 (k + 16) ∧ Row wr w.heap.size .u32 45 (wE p k) ∧ Below w.heap.size w wr) (fun i _ => 64 - (intOf i).toNat)
      case atStart => exact ⟨0, by omega, rfl, by rw [e16.out] at hb; exact hb, hB⟩
      case round =>
        clear hb hB
        obtain ⟨k, hk', rfl, hb, hB⟩ := hrel
        by_cases hlt : k < 48
        · have g0 := hb.cell k (by rw [wE_length]; omega)
          have g1 := hb.cell (k + 1) (by rw [wE_length]; omega)
          have g2 := hb.cell (k + 9) (by rw [wE_length]; omega)
          have g3 := hb.cell (k + 14) (by rw [wE_length]; omega)
          have g4 := hb.cell (k + 16) (by rw [wE_length]; omega)
          have gf := hb.free (k + 16)
          obtain ⟨x0, hx0⟩ : ∃ x, x = (wE p k).getD k 0 := ⟨_, rfl⟩
          obtain ⟨x1, hx1⟩ : ∃ x, x = (wE p k).getD (k + 1) 0 := ⟨_, rfl⟩
          obtain ⟨x2, hx2⟩ : ∃ x, x = (wE p k).getD (k + 9) 0 := ⟨_, rfl⟩
          obtain ⟨x3, hx3⟩ : ∃ x, x = (wE p k).getD (k + 14) 0 := ⟨_, rfl⟩
          rw [← hx0] at g0
          rw [← hx1] at g1
          rw [← hx2] at g2
          rw [← hx3] at g3
          have b0 : (0 : Int) ≤ (k : Int) + 1 := by omega
          have b1 : (k : Int) + 1 < 64 := by omega
          have b2 : (0 : Int) ≤ (k : Int) + 14 := by omega
          have b3 : (k : Int) + 14 < 64 := by omega
          have b4 : (0 : Int) ≤ (k : Int) + 9 := by omega
          have b5 : (k : Int) + 9 < 64 := by omega
          have b6 : (0 : Int) ≤ (k : Int) + 16 := by omega
          have b7 : (k : Int) + 16 < 64 := by omega
          have b8 : (k : Int) < 64 := by omega
          have b9 : (0 : Int) ≤ (k : Int) := by omega
          have hrow := hid (show exw x0 x1 x2 x3 = exw ((wE p k).getD k 0) ((wE p k).getD (k + 1) 0) ((wE p k).getD (k + 9) 0) ((wE p k).getD (k + 14) 0) by rw [hx0, hx1, hx2, hx3])
          clear hx0 hx1 hx2 hx3
          go_wp2_with (fail)
          go_quiet (fail)
          go_wp2_with (fail)
          have e1 : IntKind.i64.wrap (k : Int) = (k : Int) := by rw [IntWalk.i64_in _ (by omega)]
          have e2 : IntKind.i64.wrap ((k : Int) + 16 - 7) = (k : Int) + 9 := by rw [IntWalk.i64_in _ (by omega)]; omega
          have e3 : ((k : Int) + 9).toNat = k + 9 := by omega
          have e4 : ((k : Int) + 16).toNat = k + 16 := by omega
          go_region_held3 (fun w' => w'.cell? ⟨w.heap.size, k, none⟩ = some (.int .u32 x0) ∧ w'.cell? ⟨w.heap.size, k + 9, none⟩ = some (.int .u32 x2))
            (first | go_keep | exact ⟨cell_off g0 (by omega), cell_off g2 (by omega)⟩)
            (first | (go_at_call 27; refine (right_any _ _ _ (by omega) (by omega)).mono ?_; rintro e w' ⟨rfl, m, rfl⟩))
          clear e1 e2 e3 e4
          go_wp2
          go_roundw
          case rel =>
            refine ⟨k + 1, by omega, by go_num, ?_, (below_drewN hB _).setCell (Nat.le_refl _) _⟩
            unfold wE
            rw [← hrow.out]
            exact (hb.drewN _).set (k + 16) _
          case measure => simp [intOf]; omega
        · have e48 := hid (show k = 48 by omega)
          have hk2 : ¬ (k : Int) + 16 < 64 := by omega
          clear hlt hk'
          have s0 : wr.cell? ⟨bs, 0, none⟩ = some (.int .u32 a0) := by rw [hB.cell hbs]; exact HST.out.num 0 (by simp)
          have s1 : wr.cell? ⟨bs, 1, none⟩ = some (.int .u32 a1) := by rw [hB.cell hbs]; exact HST.out.num 1 (by simp)
          have s2 : wr.cell? ⟨bs, 2, none⟩ = some (.int .u32 a2) := by rw [hB.cell hbs]; exact HST.out.num 2 (by simp)
          have s3 : wr.cell? ⟨bs, 3, none⟩ = some (.int .u32 a3) := by rw [hB.cell hbs]; exact HST.out.num 3 (by simp)
          have s4 : wr.cell? ⟨bs, 4, none⟩ = some (.int .u32 a4) := by rw [hB.cell hbs]; exact HST.out.num 4 (by simp)
          have s5 : wr.cell? ⟨bs, 5, none⟩ = some (.int .u32 a5) := by rw [hB.cell hbs]; exact HST.out.num 5 (by simp)
          have s6 : wr.cell? ⟨bs, 6, none⟩ = some (.int .u32 a6) := by rw [hB.cell hbs]; exact HST.out.num 6 (by simp)
          have s7 : wr.cell? ⟨bs, 7, none⟩ = some (.int .u32 a7) := by rw [hB.cell hbs]; exact HST.out.num 7 (by simp)
          go_wp2
          obtain ⟨b2, hb2⟩ : ∃ b2, b2 = wr.heap.size := ⟨_, rfl⟩
          have hBb : w.heap.size ≤ b2 := by rw [hb2]; exact hB.size
          have hne : w.heap.size ≠ b2 := by have := hb.lt; omega
          rw [← hb2]
          go_loopw [101] (fun i wr => ∃ (t : Nat) (c0 c1 c2 c3 c4 c5 c6 c7 : Int), t ≤ 64 ∧ i = .int .i64 t ∧ Row wr b2 .u32 42 [c0, c1, c2, c3, c4, c5, c6, c7] ∧ Hid (rS [a0, a1, a2, a3, a4, a5, a6, a7] kT (wE p 48) t = [c0, c1, c2, c3, c4, c5, c6, c7]) ∧ Row wr w.heap.size .u32 45 (wE p 48) ∧ Below w.heap.size w wr) (fun i _ => 64 - (intOf i).toNat)
          case atStart => exact ⟨0, a0, a1, a2, a3, a4, a5, a6, a7, by omega, rfl, by rw [hb2]; exact heap_alloc_new _ _, rfl, by rw [e48.out] at hb; exact hb.alloc _, hB.alloc hB.size _⟩
          case round =>
            clear s0 s1 s2 s3 s4 s5 s6 s7 hb hB hb2


            obtain ⟨t, c0, c1, c2, c3, c4, c5, c6, c7, ht, rfl, hs, hS, hb, hB⟩ := hrel
            by_cases hlt : t < 64
            · have g0 : wr.cell? ⟨b2, 0, none⟩ = some (.int .u32 c0) := hs.cell 0 (by simp)
              have g1 : wr.cell? ⟨b2, 1, none⟩ = some (.int .u32 c1) := hs.cell 1 (by simp)
              have g2 : wr.cell? ⟨b2, 2, none⟩ = some (.int .u32 c2) := hs.cell 2 (by simp)
              have g4 : wr.cell? ⟨b2, 4, none⟩ = some (.int .u32 c4) := hs.cell 4 (by simp)
              have g5 : wr.cell? ⟨b2, 5, none⟩ = some (.int .u32 c5) := hs.cell 5 (by simp)
              have g6 : wr.cell? ⟨b2, 6, none⟩ = some (.int .u32 c6) := hs.cell 6 (by simp)
              have g7 : wr.cell? ⟨b2, 7, none⟩ = some (.int .u32 c7) := hs.cell 7 (by simp)
              have gk : wr.cell? ⟨3, t, none⟩ = some (.int .u32 (kT.getD t 0)) := by rw [hB.cell hk3]; exact HK.out t hlt
              have gw := hb.cell t (by rw [wE_length]; omega)
              obtain ⟨kt, hkt⟩ : ∃ x, x = kT.getD t 0 := ⟨_, rfl⟩
              obtain ⟨wt, hwt⟩ : ∃ x, x = (wE p 48).getD t 0 := ⟨_, rfl⟩
              rw [← hkt] at gk
              rw [← hwt] at gw
              have b8 : (t : Int) < 64 := by omega
              have Hkt := hid hkt
              have Hwt := hid hwt
              clear hkt hwt
              go_wp2_with (fail)
              go_quiet (fail)
              go_wp2_with (fail)
              go_quiet ((go_at_call 27; first | exact quiet_two (right_any _ _ _ (by omega) (by omega)) | exact quiet_three (right_any _ _ _ (by omega) (by omega)) | trace_state))
              go_wp2_with (go_at_call 27; refine (right_any _ _ _ (by omega) (by omega)).mono ?_; rintro e w' ⟨rfl, m, rfl⟩)
              refine region_tail 2 (by kernel_rfl) (by kernel_rfl) ?_
              simp only [List.take_succ_cons, List.take_zero, List.drop_succ_cons, List.drop_zero]
              generalize hw3 : World.drew _ = w3
              have hs3 : Row w3 b2 .u32 42 [c0, c1, c2, c3, c4, c5, c6, c7] := by rw [← hw3]; exact hs
              have hb3 : Row w3 w.heap.size .u32 45 (wE p 48) := by rw [← hw3]; exact hb
              have hB3 : Below w.heap.size w w3 := by rw [← hw3]; exact (below_drewN hB _).drew
              clear hw3 hs hb hB g0 g1 g2 g4 g5 g6 g7 gk gw
              repeat (refine wpStill_step (fun K hK => ?_); go_simp; (try go_ints); refine hK _ ?_; clear hK K)
              refine wpStill_nil ?_
              refine wpList_copy_splice rfl _ _ 55 55 rfl 41 Tryd.underlying55 (by kernel_rfl) (some ⟨b2, 1, none⟩) (some ⟨b2, 0, none⟩) 7 7 7 8 rfl rfl b2 1 _ 42 hs3 ([c0, c1, c2, c3, c4, c5, c6].map (Value.int .u32)) rfl
                (fun _ => ⟨rfl, _, rfl, fun j v hv => ?_⟩) (by simp) (by simp [Value.oneCell']) b2 w3 (Below.refl _ _) (Nat.le_refl _) (fun w4 hs4 hB4 => ?_)
              · exact hs3.src 0 7 j v hv
              have hs5 : Row w4 b2 .u32 42 [c0, c0, c1, c2, c3, c4, c5, c6] := hs4.out
              have hb5 := hb3.below hB4 (by have := hb3.lt; omega)
              have hB5 : Below w.heap.size w w4 := hB3.trans (hB4.mono hBb)
              clear hs3 hb3 hB3 hs4 hB4
              have g4 : w4.cell? ⟨b2, 4, none⟩ = some (.int .u32 c3) := hs5.cell 4 (by simp)
              have g0 : w4.cell? ⟨b2, 0, none⟩ = some (.int .u32 c0) := hs5.cell 0 (by simp)
              have f4 := hs5.free 4
              have f0 := hs5.free 0
              go_wp2
              go_roundw
              case rel =>
                refine ⟨t + 1, _, _, _, _, _, _, _, _, by omega, by go_num, (hs5.set 4 _).set 0 _, ?_, (hb5.far _ (by exact hne) _).far _ (by exact hne) _, (hB5.setCell hBb _).setCell hBb _⟩
                have := hS.out
                show rnd (rS [a0, a1, a2, a3, a4, a5, a6, a7] kT (wE p 48) t) _ _ = _
                rw [this, ← Hkt.out, ← Hwt.out]
                rfl
              case measure => simp [intOf]; omega
            · have e64 := hid (show t = 64 by omega)
              have ht2 : ¬ (t : Int) < 64 := by omega
              clear hlt ht
              have hst : Blk wr bs T ([a0, a1, a2, a3, a4, a5, a6, a7].map (Value.int .u32) ++ tl) := HST.out.below hB hbs
              have hO : Only bs w wr := Only.of_below bs hB
              have hne2 : b2 ≠ bs := by omega
              go_wp2
              go_loopw [175] (fun i wr => ∃ t : Nat, t ≤ 8 ∧ i = .int .i64 t ∧ Row wr b2 .u32 42 [c0, c1, c2, c3, c4, c5, c6, c7] ∧ Blk wr bs T ((fin [a0, a1, a2, a3, a4, a5, a6, a7] [c0, c1, c2, c3, c4, c5, c6, c7] t).map (Value.int .u32) ++ tl) ∧ Only bs w wr) (fun i _ => 8 - (intOf i).toNat)
              case atStart => exact ⟨0, by omega, rfl, hs, hst, hO⟩
              case round =>
                clear hs hst hO hb hB
                obtain ⟨j, hj, rfl, hs, hst, hO⟩ := hrel
                by_cases hlt : j < 8
                · have g0 := hs.cell j (by simpa using hlt)
                  have g1 := hst.num j (by rw [fin_length]; simpa using hlt)
                  have f1 := hst.free j
                  have b8 : (j : Int) < 8 := by omega
                  obtain ⟨x0, hx0⟩ : ∃ x, x = [c0, c1, c2, c3, c4, c5, c6, c7].getD j 0 := ⟨_, rfl⟩
                  obtain ⟨x1, hx1⟩ : ∃ x, x = (fin [a0, a1, a2, a3, a4, a5, a6, a7] [c0, c1, c2, c3, c4, c5, c6, c7] j).getD j 0 := ⟨_, rfl⟩
                  rw [← hx0] at g0
                  rw [← hx1] at g1
                  have H0 := hid hx0
                  have H1 := hid hx1
                  clear hx0 hx1
                  go_wp2
                  refine region_tail 11 (by kernel_rfl) (by kernel_rfl) ?_
                  simp only [List.take_succ_cons, List.take_zero, List.drop_succ_cons, List.drop_zero]
                  repeat (refine wpStill_step (fun K hK => ?_); go_simp; (try go_ints); refine hK _ ?_; clear hK K)
                  refine wpStill_nil ?_
                  go_wp2
                  go_roundw
                  case rel =>
                    refine ⟨j + 1, by omega, by go_num, hs.far _ (by exact hne2) _, ?_, (hO.set j _).drew⟩
                    unfold fin
                    rw [← H0.out, ← H1.out]
                    exact hst.setNum j (by rw [fin_length]; simpa using hlt) _
                  case measure => simp [intOf]; omega
                · have e8 := hid (show j = 8 by omega)
                  have hj2 : ¬ (j : Int) < 8 := by omega
                  clear hlt hj
                  go_wp2
                  go_end0
                  refine ⟨rfl, ?_, hO⟩
                  have h64 := hS.out
                  rw [e64.out] at h64
                  rw [e8.out] at hst
                  unfold cmp
                  rw [h64]
                  exact hst

end Go.Proofs.YtljcojnfpdfaeaaDoor
