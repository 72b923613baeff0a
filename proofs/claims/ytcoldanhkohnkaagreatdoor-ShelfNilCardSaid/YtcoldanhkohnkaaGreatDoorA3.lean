/- A shelf that there isn't: the law's walk. -/
import Derived.Test.YtcoldanhkohnkaaGreatDoorA1
import Derived.Test.YtcoldanhkohnkaaGreatDoorA2
import Derived.Deep.MidRow
import Derived.BigQuiet
import Derived.Deep.QuietTactic
namespace Go.Proofs.YtcoldanhkohnkaaGreatDoor
open Go.RowKit

/-- Block b holds these cells. -/
def At (w : World) (b : Nat) (T : TypeId) (cs : Array Value) : Prop := w.heap[b]? = some (.cells cs T (0, 0))
theorem At.below {w w' : World} {b : Nat} {T : TypeId} {cs : Array Value} (h : At w b T cs) (hB : Below w.heap.size w w') : At w' b T cs := by
  unfold At at *
  rw [hB.block b (lt_of_block h)]
  exact h
theorem At.alloc {w : World} {b : Nat} {T : TypeId} {cs : Array Value} (h : At w b T cs) (o : Obj) : At (w.alloc o) b T cs := h.below ((Below.refl _ _).alloc (Nat.le_refl _) _)
theorem At.far {w : World} {b : Nat} {T : TypeId} {cs : Array Value} (h : At w b T cs) (b' : Nat) (hne : b ≠ b') (c : Array Value) : At (w.setRow b' c) b T cs := (setRow_other w _ _ c hne).trans h
theorem At.new {w : World} (T : TypeId) (cs old : Array Value) : At ((w.alloc (.cells old T)).setRow w.heap.size cs) w.heap.size T cs := setRow_heap _ _ _ _ _ _ (heap_alloc_new _ _)
theorem below_next {w u v : World} (h : Below w.heap.size w u) (k : Below u.heap.size u v) : Below w.heap.size w v := h.trans ⟨k.os, k.tape, k.output, k.size, fun j hj => k.block j (Nat.lt_of_lt_of_le hj h.size)⟩

def Hid (p : Prop) : Prop := p
theorem hid {p : Prop} (h : p) : Hid p := h
theorem Hid.out {p : Prop} (h : Hid p) : p := h
theorem bAlloc {w u : World} (h : Below w.heap.size w u) (o : Obj) : Below w.heap.size w (u.alloc o) := h.alloc h.size o
theorem bRow {w u : World} (h : Below w.heap.size w u) (o : Obj) (c : Array Value) : Below w.heap.size w ((u.alloc o).setRow u.heap.size c) := below_setRow (bAlloc h o) h.size c
theorem At.keep {u : World} {b : Nat} {T : TypeId} {cs : Array Value} (h : At u b T cs) (o : Obj) (c : Array Value) : At ((u.alloc o).setRow u.heap.size c) b T cs := (h.alloc o).far _ (by have := lt_of_block h; omega) c

theorem At.range {w : World} {b : Nat} {T : TypeId} {cs : Array Value} (h : At w b T cs) (l : List Value) (hl : ∀ (j : Nat) (v : Value), l[j]? = some v → cs[j]? = some v) : w.rangeAt b 0 l := fun j v hv => by
  have h' := hl j v hv
  rw [Nat.zero_add, cell_of_row _ _ _ _ _ _ h]
  exact h'
theorem guardLoad {P : Program} {ops : Array Oper} {rest : List Oper} {o : Oper} {a : Act} {w : World} {Q : Exit → Act → World → Prop} (t : TypeId) (x : Operand) (_ho : o.op = .load t x) (h : wpList P ops Q (o :: rest) a w) : wpList P ops Q (o :: rest) a w := h
theorem wpList_load_wanted {P : Program} {ops : Array Oper} {rest : List Oper} {op : Oper} {a : Act} {w : World} {Q : Exit → Act → World → Prop} (hw : Region.wanted op (yielded ops a.tmps) = true) (ty : TypeId) (x : Operand) (ho : op.op = .load ty x)
    (b o : Nat) (hx : a.eval x = .pointer (some ⟨b, o, none⟩)) (cs : List Value) (d : TypeDesc) (hc : w.rangeAt b o cs)
    (hu : P.underlying ty = some d) (hd : d.isRow = true) (hi : (P.info? ty).map (·.size) = some cs.length)
    (h : wpList P ops Q rest (a.put op.dst (.agg cs.toArray)) w) : wpList P ops Q (op :: rest) a w :=
  wpList_step fun K hK => by
    rw [if_pos hw]
    exact wp_load_mid ty x ho b o hx cs d hc hu hd hi (hK _ _ h)
theorem same (j : Nat) (v : Value) (h : lz.toList[j]? = some v) : lz[j]? = some v := by simpa using h
theorem part (j : Nat) (v : Value) (h : lz.toList[j]? = some v) : oz[j]? = some v := by
  have : j < 21 := by
    have := (List.getElem?_eq_some_iff.1 h).1
    simpa using this
  rw [← h]
  rcases (show j = 0 ∨ j = 1 ∨ j = 2 ∨ j = 3 ∨ j = 4 ∨ j = 5 ∨ j = 6 ∨ j = 7 ∨ j = 8 ∨ j = 9 ∨ j = 10 ∨ j = 11 ∨ j = 12 ∨ j = 13 ∨ j = 14 ∨ j = 15 ∨ j = 16 ∨ j = 17 ∨ j = 18 ∨ j = 19 ∨ j = 20 by omega) with rfl | rfl | rfl | rfl | rfl | rfl | rfl | rfl | rfl | rfl | rfl | rfl | rfl | rfl | rfl | rfl | rfl | rfl | rfl | rfl | rfl <;> rfl
theorem eq29 (w : World) : (Op.equalIn 10000 29 (.agg lz) (.agg lz)).run Tryz.prog w = .ok true w := by kernel_rfl
theorem eq65 (w : World) : (Op.equalIn 10000 65 (.agg sz) (.agg sz)).run Tryz.prog w = .ok true w := by kernel_rfl

set_option maxRecDepth 100000 in
set_option maxHeartbeats 2000000 in
theorem law_any (w : World) : Calls Tryz.prog 3 #[] w fun e w' => e = .returned (.bool true) ∧ Below w.heap.size w w' := by
  go_enter Tryz.func3, Tryz.ntmps3
  go_wp2_with (first
    | (go_at_call 4; go_must (refine ((nil4 _ _).mono (R' := fun e w' => e = .returned (.tuple #[.int .i64 0, .int .i64 0]) ∧ Below w.heap.size w w') (fun e w' h => ⟨h.1, h.2 ▸ bAlloc (Below.refl _ _) _⟩)).mono ?_); rintro e u4 ⟨rfl, hB⟩; have B := hid hB; clear hB)
    | (go_at_call 5; go_must (refine (nil5 _).mono ?_); rintro e u5 ⟨rfl, hB5⟩; have B := hid (below_next B.out hB5); clear hB5)
    | (refine guardStore 34 (.tmp 4) (.tmp 32) rfl ?_; go_must (refine wpList_store_row rfl 34 (.tmp 4) (.tmp 32) rfl u5.heap.size _ rfl rfl 34 _ (heap_alloc_new _ _) (by kernel_rfl) rfl (by kernel_rfl) ?_); have R4 := hid (At.new (w := u5) 34 oz oz); have B := hid (bRow B.out (.cells oz 34) oz))
    | (go_at_call 6; go_must (refine (nil6 _).mono ?_); rintro e u6 ⟨rfl, hB⟩; have R4 := hid (R4.out.below hB); have B := hid (below_next B.out hB); clear hB)
    | (refine guardStore 29 (.tmp 6) (.tmp 38) rfl ?_; go_must (refine wpList_store_row rfl 29 (.tmp 6) (.tmp 38) rfl u6.heap.size _ rfl rfl 29 _ (heap_alloc_new _ _) (by kernel_rfl) rfl (by kernel_rfl) ?_); have R6 := hid (At.new (w := u6) 29 lz lz); have R4 := hid (R4.out.keep (.cells lz 29) lz); have B := hid (bRow B.out (.cells lz 29) lz))
    | (go_at_call 7; go_must (refine ((nil7 _ _).mono (R' := fun e w' => e = .returned (.tuple #[.slice none 0 0, .int .i64 0, .int .i64 0]) ∧ At w' u5.heap.size 34 oz ∧ At w' u6.heap.size 29 lz ∧ Below w.heap.size w w') (fun e w' h => ⟨h.1, h.2 ▸ R4.out.alloc _, h.2 ▸ R6.out.alloc _, h.2 ▸ bAlloc B.out _⟩)).mono ?_); rintro e u7 ⟨rfl, h4, h6, hB⟩; have R4 := hid h4; have R6 := hid h6; have B := hid hB; clear h4 h6 hB)
    | (go_at_call 8; go_must (refine (nil8 _).mono ?_); rintro e u8 ⟨rfl, hB⟩; have R4 := hid (R4.out.below hB); have R6 := hid (R6.out.below hB); have B := hid (below_next B.out hB); clear hB)
    | (refine guardStore 29 (.tmp 11) (.tmp 52) rfl ?_; go_must (refine wpList_store_row rfl 29 (.tmp 11) (.tmp 52) rfl u8.heap.size _ rfl rfl 29 _ (heap_alloc_new _ _) (by kernel_rfl) rfl (by kernel_rfl) ?_); have R11 := hid (At.new (w := u8) 29 lz lz); have R4 := hid (R4.out.keep (.cells lz 29) lz); have R6 := hid (R6.out.keep (.cells lz 29) lz); have B := hid (bRow B.out (.cells lz 29) lz))
    | (go_at_call 9; go_must (refine (nil9 _).mono ?_); rintro e u9 ⟨rfl, hB⟩; have R4 := hid (R4.out.below hB); have R6 := hid (R6.out.below hB); have R11 := hid (R11.out.below hB); have B := hid (below_next B.out hB); clear hB)
    | (refine guardStore 29 (.tmp 13) (.tmp 57) rfl ?_; go_must (refine wpList_store_row rfl 29 (.tmp 13) (.tmp 57) rfl u9.heap.size _ rfl rfl 29 _ (heap_alloc_new _ _) (by kernel_rfl) rfl (by kernel_rfl) ?_); have R13 := hid (At.new (w := u9) 29 lz lz); have R4 := hid (R4.out.keep (.cells lz 29) lz); have R6 := hid (R6.out.keep (.cells lz 29) lz); have R11 := hid (R11.out.keep (.cells lz 29) lz); have B := hid (bRow B.out (.cells lz 29) lz))
    | (go_at_call 10; go_must (refine ((nil10 _ _).mono (R' := fun e w' => e = .returned (.tuple #[.slice none 0 0, .int .i64 0]) ∧ At w' u5.heap.size 34 oz ∧ At w' u6.heap.size 29 lz ∧ At w' u8.heap.size 29 lz ∧ At w' u9.heap.size 29 lz ∧ Below w.heap.size w w') (fun e w' h => ⟨h.1, h.2 ▸ R4.out, h.2 ▸ R6.out, h.2 ▸ R11.out, h.2 ▸ R13.out, h.2 ▸ B.out⟩)).mono ?_); rintro e u10 ⟨rfl, h4, h6, h11, h13, hB⟩; have R4 := hid h4; have R6 := hid h6; have R11 := hid h11; have R13 := hid h13; have B := hid hB; have l4 := hid (h4.range lz.toList part); have l6 := hid (h6.range lz.toList same); have l11 := hid (h11.range lz.toList same); have l13 := hid (h13.range lz.toList same); have e29 := eq29; have e65 := eq65; clear h4 h6 h11 h13 hB)
    | (go_at_call 11; go_must (refine (nil11 _).mono ?_); rintro e u11 ⟨rfl, rfl⟩)
    | (refine guardLoad 29 (.tmp 75) rfl ?_; go_must (refine wpList_load_wanted rfl 29 (.tmp 75) rfl u5.heap.size 0 rfl lz.toList _ l4.out Tryz.underlying29 rfl (by kernel_rfl) ?_))
    | (refine guardLoad 29 (.tmp 6) rfl ?_; go_must (refine wpList_load_wanted rfl 29 (.tmp 6) rfl u6.heap.size 0 rfl lz.toList _ l6.out Tryz.underlying29 rfl (by kernel_rfl) ?_))
    | (refine guardLoad 29 (.tmp 11) rfl ?_; go_must (refine wpList_load_wanted rfl 29 (.tmp 11) rfl u8.heap.size 0 rfl lz.toList _ l11.out Tryz.underlying29 rfl (by kernel_rfl) ?_))
    | (refine guardLoad 29 (.tmp 13) rfl ?_; go_must (refine wpList_load_wanted rfl 29 (.tmp 13) rfl u9.heap.size 0 rfl lz.toList _ l13.out Tryz.underlying29 rfl (by kernel_rfl) ?_))
    | (go_at_call 12; go_must (refine (nil12 _).mono ?_); rintro e u12 ⟨rfl, hB⟩; have B := hid (below_next B.out hB); clear hB)
    | (go_at_call 13; go_must (refine (nil13 _).mono ?_); rintro e u13 ⟨rfl, rfl⟩)
    | (go_at_call 14; go_must (refine (nil14 _).mono ?_); rintro e u14 ⟨rfl, hB⟩; have B := hid (below_next B.out hB); clear hB)
    | (go_at_call 15; go_must (refine (nil15 _).mono ?_); rintro e u15 ⟨rfl, rfl⟩)
    | (go_at_call 16; go_must (refine (nil16 _).mono ?_); rintro e u16 ⟨rfl, rfl⟩)
    | (go_at_call 17; go_must (refine (nil17 _).mono ?_); rintro e u17 ⟨rfl, rfl⟩)
    | (go_at_call 18; go_must (refine (nil18 _).mono ?_); rintro e u18 ⟨rfl, rfl⟩)
    | (go_at_call 19; go_must (refine (nil19 _).mono ?_); rintro e u19 ⟨rfl, hB⟩; have B := hid (below_next B.out hB); clear hB)
    | (go_at_call 20; go_must (refine (nil20 _).mono ?_); rintro e u20 ⟨rfl, rfl⟩))
  go_ret
  exact ⟨rfl, B.out⟩
end Go.Proofs.YtcoldanhkohnkaaGreatDoor
