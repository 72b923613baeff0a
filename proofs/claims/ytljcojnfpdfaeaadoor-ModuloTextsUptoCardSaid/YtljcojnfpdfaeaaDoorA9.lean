/- digest.Of. -/
import Derived.Test.YtljcojnfpdfaeaaDoorA8
namespace Go.Proofs.YtljcojnfpdfaeaaDoor
open Go.RowKit

def shaP (kT d : List Int) : List Int :=
  oB (blks kT (blks kT tHp d (d.length / 64)) (lastB (lastA (d.drop (64 * (d.length / 64)))) (d.length * 8) (if d.length % 64 < 56 then 64 else 128) 8) (if d.length % 64 < 56 then 1 else 2)) 32
theorem shaP_length (kT d : List Int) : (shaP kT d).length = 32 := oB_length _ _

set_option maxRecDepth 100000 in
set_option maxHeartbeats 1000000 in
theorem of_any (A : Option Addr) (n c : Nat) (d kT : List Int) (w : World) (hn : d.length = n) (hc : n ≤ c) (hd : Src w A .u8 d) (hbd : n ≤ 70368744177664)
    (hH : Tab w 2 .u32 tHp) (hK : Tab w 3 .u32 kT) (hkl : kT.length = 64) :
    Calls Tryd.prog 13 #[.slice A n c] w fun e w' => e = .returned (.agg ((shaP kT d).map (Value.int .u8)).toArray) ∧ Below w.heap.size w w' := by
  have HN := hid hn
  have HD := hid hd
  have HKL := hid hkl
  have HK := hid hK
  have HH := hid hH
  have h3 := hK.lt
  clear hn hd hkl hK hH
  go_enter Tryd.func13, Tryd.ntmps13
  have hO : Row (w.alloc (.cells ((List.replicate 32 0).map (Value.int .u8)).toArray 23)) w.heap.size .u8 23 (List.replicate 32 0) := heap_alloc_new _ _
  have hB : Below w.heap.size w (w.alloc (.cells ((List.replicate 32 0).map (Value.int .u8)).toArray 23)) := (Below.refl _ _).alloc (Nat.le_refl _) _
  have hs : (w.alloc (.cells ((List.replicate 32 0).map (Value.int .u8)).toArray 23)).heap.size = w.heap.size + 1 := World.size_alloc _ _
  go_wp2_with (fail)
  generalize hW : World.alloc _ _ = W
  change w.alloc (.cells ((List.replicate 32 0).map (Value.int .u8)).toArray 23) = W at hW
  rw [hW] at hO hB hs
  clear hW
  have hsrc1 : Src W A .u8 d := HD.out.below hB
  have hKW := HK.out.below hB h3
  have hHW := HH.out.below hB (by omega)
  refine (new_any W hHW).mono ?_
  rintro e w1 ⟨rfl, hB1, _, hh1⟩
  have hO1 := hO.below hB1 hO.lt
  have hBB1 : Below w.heap.size w w1 := hB.trans (hB1.mono hB.size)
  have hsrc2 : Src w1 A .u8 d := hsrc1.below hB1
  have hKW1 := hKW.below hB1 hKW.lt
  have hA : ∀ b' o, A = some ⟨b', o, none⟩ → d ≠ [] → b' < w.heap.size := by
    intro b' o hA hne
    obtain ⟨b2, o2, h2, hlt, _⟩ := HD.out hne
    rw [hA] at h2
    injection h2 with h2; injection h2 with h4; omega
  have hne0 : d ≠ [] → ∀ b' o, A = some ⟨b', o, none⟩ → b' ≠ W.heap.size := fun hne b' o h => by have := hA b' o h hne; omega
  obtain ⟨b, hb⟩ : ∃ b, b = W.heap.size := ⟨_, rfl⟩
  have hb1 : w.heap.size < b := by omega
  rw [← hb] at hh1 hne0 ⊢
  have hne := hid hne0
  clear hA hO hB hsrc1 hKW hHW hB1 hs hb hne0
  have hwr := write_any b A n c tHp (List.replicate 64 0) d kT w1 HN.out hc hsrc2 hne.out hbd rfl (by simp) hh1 hKW1 HKL.out (by omega)
  have HWR := hid hwr
  clear hwr
  go_wp2_with (go_at_call 20; go_must (refine HWR.out.mono ?_); rintro e w2 ⟨rfl, hO2, hh2⟩)
  refine (sum_any b n (blks kT tHp d (n / 64)) (d.drop (64 * (n / 64))) ((List.replicate 64 0).drop (n % 64)) kT w2 hbd (by rw [blks_length]; rfl) (by rw [List.length_drop, HN.out]; omega) (by rw [List.length_append, List.length_drop, List.length_drop, HN.out, List.length_replicate]; omega) hh2 (hKW1.only hO2 (by omega)) HKL.out).mono ?_
  rintro e w3 ⟨rfl, hB3⟩
  have hO3 := (hO1.only hO2 (by omega)).below hB3 (hO1.only hO2 (by omega)).lt
  have hBB3 : Below w.heap.size w w3 := (hBB1.trans (hO2.below (by omega) hBB1.size)).trans (hB3.mono (hBB1.trans (hO2.below (by omega) hBB1.size)).size)
  have e1 := HN.out
  obtain ⟨D, hD⟩ : ∃ D, D = shaP kT d := ⟨_, rfl⟩
  have hDl : D.length = 32 := by rw [hD, shaP_length]
  have hD2 := hD
  unfold shaP at hD2
  rw [e1] at hD2
  rw [← hD2]
  have HD3 := hid hD
  have HDL := hid hDl
  clear hD hD2 hDl e1 hh2 hKW1 hO1 hBB1 hsrc2 hO2 hB3
  go_wp2_with ((refine wpList_store_row rfl 23 (.tmp 2) (.tmp 11) rfl w.heap.size _ rfl rfl 23 _ hO3 (by rw [List.size_toArray, List.length_map, HDL.out]; kernel_rfl) (by rw [List.size_toArray, List.length_map, List.size_toArray, List.length_map, HDL.out]; rfl) (all_one _ _) ?_))
  refine bodyPost_ret (v := .agg (D.map (Value.int .u8)).toArray) ?_ rfl ⟨?_, below_setRow hBB3 (Nat.le_refl _) _⟩
  · exact results_cell_row (p := 2) (ty := 23) Tryd.results13 _ _ w.heap.size 23 _ (0, 0) _ rfl (Row.setRow hO3 _ _) Tryd.underlying23 rfl (by rw [List.size_toArray, List.length_map, HDL.out]; kernel_rfl)
  · rw [HD3.out]
end Go.Proofs.YtljcojnfpdfaeaaDoor
