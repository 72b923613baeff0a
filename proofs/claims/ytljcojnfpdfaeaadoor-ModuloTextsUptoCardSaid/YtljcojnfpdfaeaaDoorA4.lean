/- graftref1.padded. -/
import Derived.Test.YtljcojnfpdfaeaaDoorA1
import Derived.Test.YtljcojnfpdfaeaaDoorOwn
namespace Go.Proofs.YtljcojnfpdfaeaaDoor
open Go.RowKit
theorem info5 : (Tryd.prog.info? 5).map (fun i => (i.zero, i.size, i.bytes)) = some (some (.int .u8 0), 1, 1) := by kernel_rfl

set_option maxRecDepth 100000 in
set_option maxHeartbeats 1000000 in
theorem padded_any (A : Option Addr) (n c : Nat) (d : List Int) (w : World) (hn : d.length = n) (hd : Src w A .u8 d) (hb : n ≤ 70368744177664) :
    Calls Tryd.prog 22 #[.slice A n c] w fun e w' => ∃ v, e = .returned v ∧ OwnI w' w.heap.size 5 .u8 v (padL d) ∧ Below w.heap.size w w' := by
  have HN := hid hn
  have HD := hid hd
  clear hn hd
  go_enter Tryd.func22, Tryd.ntmps22
  go_wp2_with (first
    | (at_builtin; refine wpList_appI _ rfl (.tmp 6) (.tmp 7) 31 rfl w.heap.size 5 .u8 1 Tryd.underlying31 info5 (.slice none 0 0) [] rfl (OwnI.nil _ _ _ _) A n c d HN.out rfl HD.out (by simp only [HN.out, List.length_nil]; omega) (by omega) (Nat.le_refl _) ?_; intro v1 w1 ho1 hB1 _ _)
    | (at_builtin; refine wpList_appI _ rfl (.tmp 9) (.tmp 10) 31 rfl w.heap.size 5 .u8 1 Tryd.underlying31 info5 v1 _ rfl (ho1.alloc _) (some ⟨w1.heap.size, 0, none⟩) 1 1 [128] rfl rfl (src_new _ _ _ _) (by simp only [HN.out, List.length_append, List.length_nil, List.length_cons]; omega) (by omega) ((hB1.alloc hB1.size _).size) ?_; intro v2 w2 ho2 hB2 _ _))
  have hB20 : Below w.heap.size w w2 := (hB1.alloc hB1.size _).trans hB2
  have ho20 : OwnI w2 w.heap.size 5 .u8 v2 (d ++ [128]) := ho2
  clear ho1 hB1 ho2 hB2
  go_loopw [3] (fun v wr => ∃ j : Nat, j ≤ pz n ∧ OwnI wr w.heap.size 5 .u8 v (d ++ [128] ++ List.replicate j 0) ∧ Below w.heap.size w wr) (fun v _ => n + 1 + pz n - sl v)
  case atStart => exact ⟨0, by omega, by simpa using ho20, hB20⟩
  case round =>
    clear ho20 hB20
    obtain ⟨j, hj, ho, hB⟩ := hrel
    obtain ⟨A3, c3, rfl, hc3, hs3, _⟩ := ho.form
    obtain ⟨m, hm⟩ : ∃ m, m = (d ++ [128] ++ List.replicate j 0).length := ⟨_, rfl⟩
    have hm' : m = n + 1 + j := by rw [hm]; simp [HN.out]; omega
    rw [← hm] at ho hc3 ⊢
    have HM := hid hm
    have HM' := hid hm'
    clear hm hm'
    by_cases hlt : j < pz n
    · have ht : ((m : Int) % 64 != 56) = true := by
        have := HM'.out
        unfold pz at hlt
        rw [bne_iff_ne]; omega
      have ht2 : ((m : Int) % 64 == 56) = false := by
        have := HM'.out
        unfold pz at hlt
        rw [beq_eq_false_iff_ne]; omega
      have hbd := hid (show ((d ++ [128] ++ List.replicate j 0).length + ([0] : List Int).length) * 1 ≤ 140737488355328 by
        have h1 := HM.out; have h2 := HM'.out; simp only [List.length_cons, List.length_nil]; rw [← h1]; unfold pz at hlt; omega)
      go_wp2_with (at_builtin; go_must (refine wpList_appI _ rfl (.tmp 16) (.tmp 17) 31 rfl w.heap.size 5 .u8 1 Tryd.underlying31 info5 (.slice A3 m c3) _ rfl (ho.alloc _) (some ⟨wr.heap.size, 0, none⟩) 1 1 [0] rfl rfl (src_new _ _ _ _) hbd.out (by omega) ((hB.alloc hB.size _).size) ?_); intro v2 w2 ho2 hB2 _ _)
      go_roundw
      case rel => exact ⟨j + 1, by omega, by rw [List.replicate_succ', ← List.append_assoc]; exact ho2, (hB.alloc hB.size _).trans hB2⟩
      case measure =>
        obtain ⟨A4, c4, rfl, _, _, _⟩ := ho2.form
        have h1 := HM.out
        have h2 := HM'.out
        have h3 : (d ++ [128] ++ List.replicate j 0 ++ [0]).length = m + 1 := by rw [List.length_append, ← h1]; rfl
        simp only [sl, h3]
        omega
    · have ht : ((m : Int) % 64 != 56) = false := by
        have := HM'.out
        have hj2 : j = pz n := by omega
        unfold pz at hj2
        rw [bne_eq_false_iff_eq]; omega
      have ej := hid (show j = pz n by omega)
      clear hlt hj
      go_wp2
      go_loopw [3, 5] (fun v i wr => ∃ j2 : Nat, j2 ≤ 8 ∧ i = .int .i64 (7 - j2) ∧ OwnI wr w.heap.size 5 .u8 v (d ++ [128] ++ List.replicate j 0 ++ be (n * 8) j2) ∧ Below w.heap.size w wr) (fun _ i _ => (intOf i + 1).toNat)
      case atStart => exact ⟨0, by omega, rfl, by simpa [be] using ho, hB⟩
      case round =>
        clear ho hB hs3 hc3
        obtain ⟨j2, hj2, rfl, ho, hB⟩ := hrel
        obtain ⟨A4, c4, rfl, hc4, hs4, _⟩ := ho.form
        obtain ⟨m2, hm2⟩ : ∃ m2, m2 = (d ++ [128] ++ List.replicate j 0 ++ be (n * 8) j2).length := ⟨_, rfl⟩
        rw [← hm2] at ho hc4 ⊢
        have HM2 := hid hm2
        clear hm2
        by_cases hlt : j2 < 8
        · have b1 : (0 : Int) ≤ 7 - (j2 : Int) := by omega
          have b2 : (7 - (j2 : Int)) ≤ 7 := by omega
          have hbd := hid (show ((d ++ [128] ++ List.replicate j 0 ++ be (n * 8) j2).length + ([(n : Int) * 8 / 2 ^ (8 * (7 - j2)) % 256] : List Int).length) * 1 ≤ 140737488355328 by
            have h2 := HM'.out; have h3 := HM.out; rw [List.length_append, ← h3, be_length]; have := ej.out; unfold pz at this; simp only [List.length_cons, List.length_nil]; omega)
          have esh : (8 * (7 - (j2 : Int))).toNat = 8 * (7 - j2) := by omega
          go_wp2_with (at_builtin; go_must (refine wpList_appI _ rfl (.tmp 27) (.tmp 34) 31 rfl w.heap.size 5 .u8 1 Tryd.underlying31 info5 (.slice A4 m2 c4) _ rfl (ho.alloc _) (some ⟨wr.heap.size, 0, none⟩) 1 1 [(n : Int) * 8 / 2 ^ (8 * (7 - j2)) % 256] rfl rfl (src_new _ _ _ _) hbd.out (by omega) ((hB.alloc hB.size _).size) ?_); intro v2 w2 ho2 hB2 _ _)
          go_roundw
          case rel => exact ⟨j2 + 1, by omega, by go_num, by rw [be, ← List.append_assoc]; exact ho2, (hB.alloc hB.size _).trans hB2⟩
          case measure => simp only [intOf]; omega
        · have e8 := hid (show j2 = 8 by omega)
          have hneg : ¬ (0 : Int) ≤ 7 - (j2 : Int) := by omega
          clear hlt hj2
          go_wp2
          go_ret
          refine ⟨_, rfl, ?_, hB⟩
          have h1 := e8.out
          have h2 := ej.out
          have h3 := HN.out
          subst h1 h2 h3
          exact ho
end Go.Proofs.YtljcojnfpdfaeaaDoor
