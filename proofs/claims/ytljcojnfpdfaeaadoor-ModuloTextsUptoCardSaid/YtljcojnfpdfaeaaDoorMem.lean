/- Rows of numbers in memory: what a block that holds a list of numbers reads as, and behind a store. -/
import Derived.WalkKit
import Derived.WalkSpells
import Derived.WalkLawsBesides
import Derived.Deep.QuietTactic
import Derived.BigQuiet
import Derived.StillTailTactics
import Derived.Laws.CopyOwn
namespace Go.Proofs.YtljcojnfpdfaeaaDoor
open Go.RowKit

theorem cell_off {w : World} {b i j : Nat} {u v : Value} (h : w.cell? ⟨b, j, none⟩ = some u) (hne : i ≠ j) : (w.setCell ⟨b, i, none⟩ v).cell? ⟨b, j, none⟩ = some u := by
  rw [World.cell?_setCell_other]
  · exact h
  · intro he; injection he with _ h2; exact hne h2
theorem quiet_two {P : Program} {f : FuncId} {args : Array Value} {w : World} {k n : Nat} {v : Value}
    (h : Calls P f args (w.drewN (k + n)) fun e w' => e = .returned v ∧ ∃ m, w' = (w.drewN (k + n)).drewN m) : Calls P f args (w.drewN (k + n)) fun e w'' => e = .returned v ∧ ∃ m, w'' = (w.drewN k).drewN m :=
  h.mono fun _ _ ⟨he, m, hm⟩ => ⟨he, n + m, by rw [hm, World.drewN_drewN, World.drewN_drewN, Nat.add_assoc]⟩
theorem quiet_three {P : Program} {f : FuncId} {args : Array Value} {w : World} {k n : Nat} {v : Value}
    (h : Calls P f args (w.drewN (k + n)) fun e w' => e = .returned v ∧ ∃ m, w' = (w.drewN (k + n)).drewN m) : Calls P f args (w.drewN (k + n)) fun e w'' => e = .returned v ∧ ∃ m, w'' = w.drewN (k + m) :=
  h.mono fun _ _ ⟨he, m, hm⟩ => ⟨he, n + m, by rw [hm, World.drewN_drewN, Nat.add_assoc]⟩
/-- A region that draws its order: a head that leaves the world alone, a tail in one forced order. -/
theorem region_tail {P : Program} {id : Nat} {Q : Exit → Act → World → Prop} {a : Act} {w : World} {l : List Oper} (n : Nat) (hm : P.follows .mixedOrders = true) (hB : Region.lexTailB .any l.toArray n = true)
    (h : wpStill P l.toArray w.drew (fun a' => wpList P l.toArray Q (l.drop n) a' w.drew) (l.take n) a) : (Code.region id l.toArray true).wp P Q a w := wp_region_still_tail n hm hB h
/-- A whole array read out of a variable, in a region's head. -/
theorem still_load_row {P : Program} {ops : Array Oper} {o : Oper} {a : Act} {w : World} {K : Act → Prop} {E : Prop} (hgd : o.guard = none) (ty : TypeId) (x : Operand) (ho : o.op = .load ty x)
    (g : Nat) (hx : a.eval x = .pointer (some ⟨g, 0, none⟩)) (t : TypeId) (cs : Array Value) (fr : Nat × Nat) (d : TypeDesc) (hg : w.heap[g]? = some (.cells cs t fr))
    (hu : P.underlying ty = some d) (hd : (match d with | .struct _ | .array _ _ => true | _ => false) = true) (hi : (P.info? ty).map (·.size) = some cs.size)
    (h : K (a.put o.dst (.agg cs))) : if Region.wanted o (yielded ops a.tmps) = true then o.still P a w K else E := by
  have hw : Region.wanted o (yielded ops a.tmps) = true := by simp [Region.wanted, hgd]
  rw [if_pos hw]
  unfold Oper.still execOp
  simp only [ho, hx, Instr.loadAt, Instr.sureAddr, Sem.run_bind, Sem.run_pure, Result.andThen_ok, run_loadVar_row w g t ty cs fr d hg hu hd hi]
  exact ⟨rfl, h⟩
/-- Variable g holds the numbers l. -/
def Tab (w : World) (g : Nat) (k : IntKind) (l : List Int) : Prop := ∃ T fr, w.heap[g]? = some (.cells (l.map (Value.int k)).toArray T fr)
theorem Tab.lt {w : World} {g : Nat} {k : IntKind} {l : List Int} (h : Tab w g k l) : g < w.heap.size := by obtain ⟨T, fr, h⟩ := h; exact lt_of_block h
theorem Tab.below {w w' : World} {g B : Nat} {k : IntKind} {l : List Int} (h : Tab w g k l) (hB : Below B w w') (hb : g < B) : Tab w' g k l := by
  obtain ⟨T, fr, h⟩ := h
  exact ⟨T, fr, by rw [hB.block g hb]; exact h⟩
theorem Tab.cell {w : World} {g : Nat} {k : IntKind} {l : List Int} (h : Tab w g k l) (i : Nat) (hi : i < l.length) : w.cell? ⟨g, i, none⟩ = some (.int k (l.getD i 0)) := by
  obtain ⟨T, fr, h⟩ := h
  rw [cell_of_row _ _ _ _ _ _ h]
  simp [hi]
theorem below_of_drew {w w' : World} (h : Below w.drew.heap.size w.drew w') : Below w.heap.size w w' := ⟨h.os, h.tape, h.output, h.size, h.block⟩
theorem Row.setRow {w : World} {b : Nat} {k : IntKind} {T : TypeId} {l : List Int} (h : w.heap[b]? = some (.cells (l.map (Value.int k)).toArray T (0, 0))) (k' : IntKind) (l' : List Int) : (w.setRow b (l'.map (Value.int k')).toArray).heap[b]? = some (.cells (l'.map (Value.int k')).toArray T (0, 0)) := setRow_heap w b _ _ T _ h
theorem all_one (k : IntKind) (l : List Int) : (l.map (Value.int k)).toArray.all (·.oneCell') = true := by
  rw [Array.all_eq_true_iff_forall_mem]
  intro x hx
  simp only [List.mem_toArray, List.mem_map] at hx
  obtain ⟨y, _, rfl⟩ := hx
  rfl
theorem hid {p : Prop} (h : p) : Hid p := h
/-- Block b holds the numbers l (kind k), elements of type T. -/
def Row (w : World) (b : Nat) (k : IntKind) (T : TypeId) (l : List Int) : Prop := w.heap[b]? = some (.cells (l.map (Value.int k)).toArray T (0, 0))

theorem Row.cell {w : World} {b : Nat} {k : IntKind} {T : TypeId} {l : List Int} (h : Row w b k T l) (i : Nat) (hi : i < l.length) : w.cell? ⟨b, i, none⟩ = some (.int k (l.getD i 0)) := by
  rw [cell_of_row _ _ _ _ _ _ h]
  simp [hi]
theorem Row.free {w : World} {b : Nat} {k : IntKind} {T : TypeId} {l : List Int} (h : Row w b k T l) (i : Nat) : w.frozen? ⟨b, i, none⟩ = false := frozen_of_row w b i _ _ h
theorem Row.set {w : World} {b : Nat} {k : IntKind} {T : TypeId} {l : List Int} (h : Row w b k T l) (i : Nat) (v : Int) : Row (w.setCell ⟨b, i, none⟩ (.int k v)) b k T (l.set i v) := by
  unfold Row
  rw [heap_setCell_same _ _ _ _ _ _ h]
  simp [List.map_set]
theorem Row.far {w : World} {b : Nat} {k : IntKind} {T : TypeId} {l : List Int} (h : Row w b k T l) (p : Addr) (hp : b ≠ p.block) (v : Value) : Row (w.setCell p v) b k T l := by
  unfold Row
  rw [heap_setCell_other _ _ _ _ hp]; exact h
theorem Row.drewN {w : World} {b : Nat} {k : IntKind} {T : TypeId} {l : List Int} (h : Row w b k T l) (n : Nat) : Row (w.drewN n) b k T l := h
theorem Row.drew {w : World} {b : Nat} {k : IntKind} {T : TypeId} {l : List Int} (h : Row w b k T l) : Row w.drew b k T l := h
theorem Row.lt {w : World} {b : Nat} {k : IntKind} {T : TypeId} {l : List Int} (h : Row w b k T l) : b < w.heap.size := lt_of_block h
theorem Row.alloc {w : World} {b : Nat} {k : IntKind} {T : TypeId} {l : List Int} (h : Row w b k T l) (o : Obj) : Row (w.alloc o) b k T l := by
  unfold Row
  rw [Below.heap_alloc _ _ _ h.lt]; exact h
theorem Row.below {w w' : World} {b B : Nat} {k : IntKind} {T : TypeId} {l : List Int} (h : Row w b k T l) (hB : Below B w w') (hb : b < B) : Row w' b k T l := by
  unfold Row
  rw [hB.block b hb]; exact h

theorem Row.src {w : World} {b : Nat} {k : IntKind} {T : TypeId} {l : List Int} (h : Row w b k T l) (o n : Nat) : ∀ (j : Nat) (v : Value), (((l.drop o).take n).map (Value.int k))[j]? = some v → w.cell? ((⟨b, o, none⟩ : Addr).add j) = some v := by
  intro j v hv
  rw [Addr.add_lit]
  rw [cell_of_row _ _ _ _ _ _ h]
  simp only [List.getElem?_map, List.getElem?_take, List.getElem?_drop] at hv
  split at hv
  · simpa using hv
  · simp at hv

/-- Block b holds the cells L, elements of type T. -/
def Blk (w : World) (b : Nat) (T : TypeId) (L : List Value) : Prop := w.heap[b]? = some (.cells L.toArray T (0, 0))
theorem Blk.at {w : World} {b : Nat} {T : TypeId} {L : List Value} (h : Blk w b T L) (i : Nat) : w.cell? ⟨b, i, none⟩ = L[i]? := by
  rw [cell_of_row _ _ _ _ _ _ h]; simp
theorem Blk.free {w : World} {b : Nat} {T : TypeId} {L : List Value} (h : Blk w b T L) (i : Nat) : w.frozen? ⟨b, i, none⟩ = false := frozen_of_row w b i _ _ h
theorem Blk.set {w : World} {b : Nat} {T : TypeId} {L : List Value} (h : Blk w b T L) (i : Nat) (v : Value) : Blk (w.setCell ⟨b, i, none⟩ v) b T (L.set i v) := by
  unfold Blk
  rw [heap_setCell_same _ _ _ _ _ _ h]
  simp
theorem Blk.far {w : World} {b : Nat} {T : TypeId} {L : List Value} (h : Blk w b T L) (p : Addr) (hp : b ≠ p.block) (v : Value) : Blk (w.setCell p v) b T L := by
  unfold Blk
  rw [heap_setCell_other _ _ _ _ hp]; exact h
theorem Blk.drewN {w : World} {b : Nat} {T : TypeId} {L : List Value} (h : Blk w b T L) (n : Nat) : Blk (w.drewN n) b T L := h
theorem Blk.drew {w : World} {b : Nat} {T : TypeId} {L : List Value} (h : Blk w b T L) : Blk w.drew b T L := h
theorem Blk.lt {w : World} {b : Nat} {T : TypeId} {L : List Value} (h : Blk w b T L) : b < w.heap.size := lt_of_block h
theorem Blk.alloc {w : World} {b : Nat} {T : TypeId} {L : List Value} (h : Blk w b T L) (o : Obj) : Blk (w.alloc o) b T L := by
  unfold Blk
  rw [Below.heap_alloc _ _ _ h.lt]; exact h
theorem Blk.below {w w' : World} {b B : Nat} {T : TypeId} {L : List Value} (h : Blk w b T L) (hB : Below B w w') (hb : b < B) : Blk w' b T L := by
  unfold Blk
  rw [hB.block b hb]; exact h
/-- Numbers at the head of a block, whatever stands behind them. -/
theorem Blk.num {w : World} {b : Nat} {k : IntKind} {T : TypeId} {l : List Int} {tl : List Value} (h : Blk w b T (l.map (Value.int k) ++ tl)) (i : Nat) (hi : i < l.length) : w.cell? ⟨b, i, none⟩ = some (.int k (l.getD i 0)) := by
  rw [h.at, List.getElem?_append_left (by simpa using hi)]
  simp [hi]
theorem Blk.setNum {w : World} {b : Nat} {k : IntKind} {T : TypeId} {l : List Int} {tl : List Value} (h : Blk w b T (l.map (Value.int k) ++ tl)) (i : Nat) (hi : i < l.length) (v : Int) : Blk (w.setCell ⟨b, i, none⟩ (.int k v)) b T ((l.set i v).map (Value.int k) ++ tl) := by
  have := h.set i (.int k v)
  rwa [List.set_append_left _ _ (by simpa using hi), ← List.map_set] at this

/-- Blocks laid one behind the other. -/
theorem alloc1 (w : World) (o0 : Obj) : (w.alloc o0).heap[w.heap.size]? = some o0 ∧ Below w.heap.size w (w.alloc o0) := ⟨heap_alloc_new _ _, (Below.refl _ _).alloc (Nat.le_refl _) _⟩
theorem alloc2 (w : World) (o0 o1 : Obj) : ((w.alloc o0).alloc o1).heap[w.heap.size]? = some o0 ∧ ((w.alloc o0).alloc o1).heap[w.heap.size + 1]? = some o1 ∧ Below w.heap.size w ((w.alloc o0).alloc o1) := by
  obtain ⟨h0, hB⟩ := alloc1 w o0
  have hs : (w.alloc o0).heap.size = w.heap.size + 1 := World.size_alloc _ _
  refine ⟨?_, ?_, hB.alloc (by omega) _⟩
  · rw [Below.heap_alloc _ _ _ (by omega)]; exact h0
  · rw [← hs]; exact heap_alloc_new _ _
theorem alloc3 (w : World) (o0 o1 o2 : Obj) : (((w.alloc o0).alloc o1).alloc o2).heap[w.heap.size]? = some o0 ∧ (((w.alloc o0).alloc o1).alloc o2).heap[w.heap.size + 1]? = some o1 ∧ (((w.alloc o0).alloc o1).alloc o2).heap[w.heap.size + 1 + 1]? = some o2 ∧ Below w.heap.size w (((w.alloc o0).alloc o1).alloc o2) := by
  obtain ⟨h0, h1, hB⟩ := alloc2 w o0 o1
  have hs : ((w.alloc o0).alloc o1).heap.size = w.heap.size + 1 + 1 := by rw [World.size_alloc, World.size_alloc]
  refine ⟨?_, ?_, ?_, hB.alloc (by omega) _⟩
  · rw [Below.heap_alloc _ _ _ (by omega)]; exact h0
  · rw [Below.heap_alloc _ _ _ (by omega)]; exact h1
  · rw [← hs]; exact heap_alloc_new _ _
theorem alloc4 (w : World) (o0 o1 o2 o3 : Obj) : ((((w.alloc o0).alloc o1).alloc o2).alloc o3).heap[w.heap.size]? = some o0 ∧ ((((w.alloc o0).alloc o1).alloc o2).alloc o3).heap[w.heap.size + 1]? = some o1 ∧ ((((w.alloc o0).alloc o1).alloc o2).alloc o3).heap[w.heap.size + 1 + 1]? = some o2 ∧ ((((w.alloc o0).alloc o1).alloc o2).alloc o3).heap[w.heap.size + 1 + 1 + 1]? = some o3 ∧ Below w.heap.size w ((((w.alloc o0).alloc o1).alloc o2).alloc o3) := by
  obtain ⟨h0, h1, h2, hB⟩ := alloc3 w o0 o1 o2
  have hs : (((w.alloc o0).alloc o1).alloc o2).heap.size = w.heap.size + 1 + 1 + 1 := by rw [World.size_alloc, World.size_alloc, World.size_alloc]
  refine ⟨?_, ?_, ?_, ?_, hB.alloc (by omega) _⟩
  · rw [Below.heap_alloc _ _ _ (by omega)]; exact h0
  · rw [Below.heap_alloc _ _ _ (by omega)]; exact h1
  · rw [Below.heap_alloc _ _ _ (by omega)]; exact h2
  · rw [← hs]; exact heap_alloc_new _ _

/-- From w to w' only block b (of those that were there) may have changed. -/
def Only (b : Nat) (w w' : World) : Prop := w.grownBy w' (some b)
theorem Only.of_below {w w' : World} (b : Nat) (h : Below w.heap.size w w') : Only b w w' := ⟨h.os, h.tape, h.output, h.size, fun k hk _ => h.block k hk⟩
theorem Only.block {b : Nat} {w w' : World} (h : Only b w w') (k : Nat) (hk : k < w.heap.size) (hne : k ≠ b) : w'.heap[k]? = w.heap[k]? := World.grownBy.block h k hk (by simp; omega)
theorem Only.refl (b : Nat) (w : World) : Only b w w := World.grownBy.refl w _
theorem Only.size {b : Nat} {w w' : World} (h : Only b w w') : w.heap.size ≤ w'.heap.size := World.grownBy.size h
theorem Only.trans {b : Nat} {u v w : World} (h : Only b u v) (k : Only b v w) : Only b u w :=
  ⟨(World.grownBy.os k).trans (World.grownBy.os h), (World.grownBy.tape k).trans (World.grownBy.tape h), (World.grownBy.output k).trans (World.grownBy.output h), Nat.le_trans h.size k.size, fun i hi hne => (World.grownBy.block k i (Nat.lt_of_lt_of_le hi h.size) hne).trans (World.grownBy.block h i hi hne)⟩
theorem Only.drew {b : Nat} {u w : World} (h : Only b u w) : Only b u w.drew := h.trans ⟨rfl, rfl, rfl, Nat.le_refl _, fun _ _ _ => rfl⟩
theorem Only.drewN {b : Nat} {u w : World} (h : Only b u w) (n : Nat) : Only b u (w.drewN n) := h.trans ⟨rfl, rfl, rfl, Nat.le_refl _, fun _ _ _ => rfl⟩
theorem Only.set {b : Nat} {u w : World} (h : Only b u w) (i : Nat) (v : Value) : Only b u (w.setCell ⟨b, i, none⟩ v) :=
  h.trans ⟨rfl, rfl, rfl, by simp [World.setCell], fun k _ hne => heap_setCell_other _ _ _ _ (by simp at hne; omega)⟩
theorem Only.setNew {b : Nat} {u w : World} (h : Only b u w) (c i : Nat) (hc : u.heap.size ≤ c) (v : Value) : Only b u (w.setCell ⟨c, i, none⟩ v) :=
  ⟨(show w.os = u.os from World.grownBy.os h), (show w.tape = u.tape from World.grownBy.tape h), (show w.output = u.output from World.grownBy.output h), Nat.le_trans h.size (by simp [World.setCell]), fun k hk hne => (heap_setCell_other _ _ _ _ (by show k ≠ c; omega)).trans (World.grownBy.block h k hk hne)⟩
theorem Only.alloc {b : Nat} {u w : World} (h : Only b u w) (o : Obj) : Only b u (w.alloc o) := h.trans (World.grownBy_alloc w o _)
theorem Only.below {b B : Nat} {w w' : World} (h : Only b w w') (hb : B ≤ b) (hB : B ≤ w.heap.size) : Below B w w' := ⟨World.grownBy.os h, World.grownBy.tape h, World.grownBy.output h, h.size, fun k hk => h.block k (by omega) (by omega)⟩
end Go.Proofs.YtljcojnfpdfaeaaDoor
