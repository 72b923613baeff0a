/- digest.New. -/
import Derived.Test.YtljcojnfpdfaeaaDoorA2
import Derived.Test.YtljcojnfpdfaeaaDoorOwn
namespace Go.Proofs.YtljcojnfpdfaeaaDoor
open Go.RowKit
def tHp : List Int := [1779033703, 3144134277, 1013904242, 2773480762, 1359893119, 2600822924, 528734635, 1541459225]

set_option maxRecDepth 100000 in
set_option maxHeartbeats 1000000 in
theorem new_any (w : World) (hH : Tab w 2 .u32 tHp) :
    Calls Tryd.prog 19 #[] w fun e w' => e = .returned (.pointer (some ⟨w.heap.size, 0, none⟩)) ∧ Below w.heap.size w w' ∧ w'.heap.size = w.heap.size + 1 ∧ Blk w' w.heap.size 49 (tHp.map (Value.int .u32) ++ ((List.replicate 64 0).map (Value.int .u8) ++ [.int .i64 0])) := by
  have h1 := hH.lt
  have h0 : 0 < w.heap.size := by omega
  have t0 : w.cell? ⟨2, 0, none⟩ = some (.int .u32 1779033703) := hH.cell 0 (by decide)
  have t1 : w.cell? ⟨2, 1, none⟩ = some (.int .u32 3144134277) := hH.cell 1 (by decide)
  have t2 : w.cell? ⟨2, 2, none⟩ = some (.int .u32 1013904242) := hH.cell 2 (by decide)
  have t3 : w.cell? ⟨2, 3, none⟩ = some (.int .u32 2773480762) := hH.cell 3 (by decide)
  have t4 : w.cell? ⟨2, 4, none⟩ = some (.int .u32 1359893119) := hH.cell 4 (by decide)
  have t5 : w.cell? ⟨2, 5, none⟩ = some (.int .u32 2600822924) := hH.cell 5 (by decide)
  have t6 : w.cell? ⟨2, 6, none⟩ = some (.int .u32 528734635) := hH.cell 6 (by decide)
  have t7 : w.cell? ⟨2, 7, none⟩ = some (.int .u32 1541459225) := hH.cell 7 (by decide)
  have hz : ∀ w, (zeroValue 49).run Tryd.prog w = .ok (.agg #[.int .u32 0, .int .u32 0, .int .u32 0, .int .u32 0, .int .u32 0, .int .u32 0, .int .u32 0, .int .u32 0, .int .u8 0, .int .u8 0, .int .u8 0, .int .u8 0, .int .u8 0, .int .u8 0, .int .u8 0, .int .u8 0, .int .u8 0, .int .u8 0, .int .u8 0, .int .u8 0, .int .u8 0, .int .u8 0, .int .u8 0, .int .u8 0, .int .u8 0, .int .u8 0, .int .u8 0, .int .u8 0, .int .u8 0, .int .u8 0, .int .u8 0, .int .u8 0, .int .u8 0, .int .u8 0, .int .u8 0, .int .u8 0, .int .u8 0, .int .u8 0, .int .u8 0, .int .u8 0, .int .u8 0, .int .u8 0, .int .u8 0, .int .u8 0, .int .u8 0, .int .u8 0, .int .u8 0, .int .u8 0, .int .u8 0, .int .u8 0, .int .u8 0, .int .u8 0, .int .u8 0, .int .u8 0, .int .u8 0, .int .u8 0, .int .u8 0, .int .u8 0, .int .u8 0, .int .u8 0, .int .u8 0, .int .u8 0, .int .u8 0, .int .u8 0, .int .u8 0, .int .u8 0, .int .u8 0, .int .u8 0, .int .u8 0, .int .u8 0, .int .u8 0, .int .u8 0, .int .i64 0]) w := fun _ => by kernel_rfl
  go_enter Tryd.func19, Tryd.ntmps19
  go_wp2
  go_ret
  refine ⟨rfl, (Below.refl _ _).alloc (Nat.le_refl _) _, World.size_alloc _ _, ?_⟩
  exact heap_alloc_new _ _
end Go.Proofs.YtljcojnfpdfaeaaDoor
