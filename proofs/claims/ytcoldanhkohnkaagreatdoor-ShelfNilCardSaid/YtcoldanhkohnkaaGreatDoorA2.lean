/- Calls of a shelf that there isn't. -/
import Derived.Test.YtcoldanhkohnkaaGreatDoorProg
import Derived.WalkKit
import Derived.WalkSpells
import Derived.WalkLawsBesides
import Derived.Defers
import Derived.Laws.ResultCell
namespace Go.Proofs.YtcoldanhkohnkaaGreatDoor
open Go.RowKit

set_option maxRecDepth 100000 in
set_option maxHeartbeats 1000000 in
theorem nil4 (v : Value) (w : World) : Calls Tryz.prog 4 #[.pointer none, v] w fun e w' => e = .returned (.tuple #[.int .i64 0, .int .i64 0]) ∧ w' = w := by
  go_enter Tryz.func4, Tryz.ntmps4
  go_wp2
  exact bodyPost_ret (v := .tuple #[.int .i64 0, .int .i64 0]) (by simp [results, Tryz.results4, Sem.run_pure]) rfl ⟨rfl, rfl⟩

set_option maxRecDepth 100000 in
set_option maxHeartbeats 1000000 in
theorem nil7 (v : Value) (w : World) : Calls Tryz.prog 7 #[.pointer none, v] w fun e w' => e = .returned (.tuple #[.slice none 0 0, .int .i64 0, .int .i64 0]) ∧ w' = w := by
  go_enter_defers Tryz.func7, Tryz.ntmps7
  go_wp2
  exact ⟨_, by simp [results, Tryz.results7, Sem.run_pure], rfl, rfl⟩

set_option maxRecDepth 100000 in
set_option maxHeartbeats 1000000 in
theorem nil10 (v : Value) (w : World) : Calls Tryz.prog 10 #[.pointer none, v] w fun e w' => e = .returned (.tuple #[.slice none 0 0, .int .i64 0]) ∧ w' = w := by
  go_enter_defers Tryz.func10, Tryz.ntmps10
  go_wp2
  exact ⟨_, by simp [results, Tryz.results10, Sem.run_pure], rfl, rfl⟩

set_option maxRecDepth 100000 in
set_option maxHeartbeats 1000000 in
theorem nil11 (w : World) : Calls Tryz.prog 11 #[.pointer none] w fun e w' => e = .returned (.int .i64 0) ∧ w' = w := by
  go_enter_defers Tryz.func11, Tryz.ntmps11
  go_wp2
  exact ⟨_, by simp [results, Tryz.results11, Sem.run_pure], rfl, rfl⟩

set_option maxRecDepth 100000 in
set_option maxHeartbeats 1000000 in
theorem nil12 (w : World) : Calls Tryz.prog 12 #[.pointer none, .agg #[.int .u8 0, .int .u8 0, .int .u8 0, .int .u8 0, .int .u8 0, .int .u8 0, .int .u8 0, .int .u8 0, .int .u8 0, .int .u8 0, .int .u8 0, .int .u8 0, .int .u8 0, .int .u8 0, .int .u8 0, .int .u8 0, .int .u8 0, .int .u8 0, .int .u8 0, .int .u8 0, .string ⟨#[]⟩]] w fun e w' => e = .returned (.bool false) ∧ Below w.heap.size w w' := by
  go_enter_defers Tryz.func12, Tryz.ntmps12
  go_wp2
  exact ⟨_, by simp [results, Tryz.results12, Sem.run_pure], rfl, (Below.refl _ _).alloc (Nat.le_refl _) _⟩

set_option maxRecDepth 100000 in
set_option maxHeartbeats 1000000 in
theorem nil13 (w : World) : Calls Tryz.prog 13 #[.pointer none] w fun e w' => e = .returned (.slice none 0 0) ∧ w' = w := by
  go_enter_defers Tryz.func13, Tryz.ntmps13
  go_wp2
  exact ⟨_, by simp [results, Tryz.results13, Sem.run_pure], rfl, rfl⟩

set_option maxRecDepth 100000 in
set_option maxHeartbeats 1000000 in
theorem nil14 (w : World) : Calls Tryz.prog 14 #[.pointer none, .agg #[.int .u8 0, .int .u8 0, .int .u8 0, .int .u8 0, .int .u8 0, .int .u8 0, .int .u8 0, .int .u8 0, .int .u8 0, .int .u8 0, .int .u8 0, .int .u8 0, .int .u8 0, .int .u8 0, .int .u8 0, .int .u8 0, .int .u8 0, .int .u8 0, .int .u8 0, .int .u8 0, .string ⟨#[]⟩]] w fun e w' => e = .returned (.slice none 0 0) ∧ Below w.heap.size w w' := by
  go_enter_defers Tryz.func14, Tryz.ntmps14
  go_wp2
  exact ⟨_, by simp [results, Tryz.results14, Sem.run_pure], rfl, (Below.refl _ _).alloc (Nat.le_refl _) _⟩

set_option maxRecDepth 100000 in
set_option maxHeartbeats 1000000 in
theorem nil15 (w : World) : Calls Tryz.prog 15 #[.pointer none] w fun e w' => e = .returned (.slice none 0 0) ∧ w' = w := by
  go_enter_defers Tryz.func15, Tryz.ntmps15
  go_wp2
  exact ⟨_, by simp [results, Tryz.results15, Sem.run_pure], rfl, rfl⟩

set_option maxRecDepth 100000 in
set_option maxHeartbeats 1000000 in
theorem nil16 (w : World) : Calls Tryz.prog 16 #[.pointer none] w fun e w' => e = .returned (.slice none 0 0) ∧ w' = w := by
  go_enter_defers Tryz.func16, Tryz.ntmps16
  go_wp2
  exact ⟨_, by simp [results, Tryz.results16, Sem.run_pure], rfl, rfl⟩

set_option maxRecDepth 100000 in
set_option maxHeartbeats 1000000 in
theorem nil17 (w : World) : Calls Tryz.prog 17 #[.pointer none] w fun e w' => e = .returned (.slice none 0 0) ∧ w' = w := by
  go_enter_defers Tryz.func17, Tryz.ntmps17
  go_wp2
  exact ⟨_, by simp [results, Tryz.results17, Sem.run_pure], rfl, rfl⟩

set_option maxRecDepth 100000 in
set_option maxHeartbeats 1000000 in
theorem nil20 (w : World) : Calls Tryz.prog 20 #[.pointer none] w fun e w' => e = .returned (.int .i64 0) ∧ w' = w := by
  go_enter_defers Tryz.func20, Tryz.ntmps20
  go_wp2
  exact ⟨_, by simp [results, Tryz.results20, Sem.run_pure], rfl, rfl⟩

set_option maxRecDepth 100000 in
set_option maxHeartbeats 1000000 in
theorem nil18 (w : World) : Calls Tryz.prog 18 #[.pointer none, .int .i64 1000] w fun e w' => e = .returned (.tuple #[.pointer none, .int .i64 2, .int .i64 0, .int .i64 0]) ∧ w' = w := by
  go_enter Tryz.func18, Tryz.ntmps18
  go_wp2
  exact bodyPost_ret (v := .tuple #[.pointer none, .int .i64 2, .int .i64 0, .int .i64 0]) (by simp [results, Tryz.results18, Sem.run_pure]) rfl ⟨rfl, rfl⟩

end Go.Proofs.YtcoldanhkohnkaaGreatDoor
