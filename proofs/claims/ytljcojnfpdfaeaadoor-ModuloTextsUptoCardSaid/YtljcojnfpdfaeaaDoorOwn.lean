/- Slices of numbers: one that is read, one that the call itself made; append. -/
import Derived.Test.YtljcojnfpdfaeaaDoorMem
import Derived.Maps.AppendAt
import Derived.Deep.AppendLies
import Derived.OwnWalk
namespace Go.Proofs.YtljcojnfpdfaeaaDoor
open Go.RowKit

/-- The slice with address A and length l.length reads as the numbers l; it lies in a block that is there. -/
def Src (w : World) (A : Option Addr) (k : IntKind) (l : List Int) : Prop :=
  l ≠ [] → ∃ b o, A = some ⟨b, o, none⟩ ∧ b < w.heap.size ∧ ∀ i, i < l.length → w.cell? ⟨b, o + i, none⟩ = some (.int k (l.getD i 0))
theorem Src.below {w w' : World} {A : Option Addr} {k : IntKind} {l : List Int} (h : Src w A k l) (hB : Below w.heap.size w w') : Src w' A k l := fun hl => by
  obtain ⟨b, o, hA, hb, hc⟩ := h hl
  exact ⟨b, o, hA, Nat.lt_of_lt_of_le hb hB.size, fun i hi => (hB.cell hb).trans (hc i hi)⟩
theorem Src.drew {w : World} {A : Option Addr} {k : IntKind} {l : List Int} (h : Src w A k l) : Src w.drew A k l := h
theorem Src.drewN {w : World} {A : Option Addr} {k : IntKind} {l : List Int} (h : Src w A k l) (n : Nat) : Src (w.drewN n) A k l := h
theorem Src.alloc {w : World} {A : Option Addr} {k : IntKind} {l : List Int} (h : Src w A k l) (o : Obj) : Src (w.alloc o) A k l := h.below ((Below.refl _ _).alloc (Nat.le_refl _) _)
theorem Src.nil (w : World) (A : Option Addr) (k : IntKind) : Src w A k [] := fun h => absurd rfl h
theorem Src.cells {w : World} {A : Option Addr} {k : IntKind} {l : List Int} (h : Src w A k l) (hl : l ≠ []) : ∃ b o, A = some ⟨b, o, none⟩ ∧ b < w.heap.size ∧ ∀ (j : Nat) (u : Value), (l.map (Value.int k))[j]? = some u → w.cell? ((⟨b, o, none⟩ : Addr).add j) = some u := by
  obtain ⟨b, o, hA, hb, hc⟩ := h hl
  refine ⟨b, o, hA, hb, fun j u hu => ?_⟩
  rw [Addr.add_lit]
  rw [List.getElem?_map] at hu
  rcases hj : l[j]? with _ | x
  · rw [hj] at hu; simp at hu
  · rw [hj] at hu
    have hlt : j < l.length := by
      rcases Nat.lt_or_ge j l.length with h | h
      · exact h
      · rw [List.getElem?_eq_none h] at hj; cases hj
    rw [hc j hlt]
    simp only [Option.map_some, Option.some.injEq] at hu
    rw [← hu, List.getD_eq_getElem?_getD, hj]; rfl

theorem Src.far {w : World} {A : Option Addr} {k : IntKind} {l : List Int} (h : Src w A k l) (p : Addr) (hA : ∀ b o, A = some ⟨b, o, none⟩ → b ≠ p.block) (v : Value) : Src (w.setCell p v) A k l := fun hl => by
  obtain ⟨b, o, e, hb, hc⟩ := h hl
  refine ⟨b, o, e, by simpa [World.setCell] using hb, fun i hi => ?_⟩
  rw [World.cell?_setCell_other]
  · exact hc i hi
  · intro he; exact hA b o e (by rw [he])
/-- Eight numbers stored one behind the other. -/
def put8 (w : World) (b : Nat) (k : IntKind) (d0 d1 d2 d3 d4 d5 d6 d7 : Int) : World :=
  (((((((w.setCell ⟨b, 0, none⟩ (.int k d0)).setCell ⟨b, 1, none⟩ (.int k d1)).setCell ⟨b, 2, none⟩ (.int k d2)).setCell ⟨b, 3, none⟩ (.int k d3)).setCell ⟨b, 4, none⟩ (.int k d4)).setCell ⟨b, 5, none⟩ (.int k d5)).setCell ⟨b, 6, none⟩ (.int k d6)).setCell ⟨b, 7, none⟩ (.int k d7)
section
variable {w : World} {b : Nat} {k : IntKind} (d0 d1 d2 d3 d4 d5 d6 d7 : Int)
theorem Row.put8 {T : TypeId} {x0 x1 x2 x3 x4 x5 x6 x7 : Int} (h : Row w b k T [x0, x1, x2, x3, x4, x5, x6, x7]) : Row (put8 w b k d0 d1 d2 d3 d4 d5 d6 d7) b k T [d0, d1, d2, d3, d4, d5, d6, d7] :=
  (((((((h.set 0 d0).set 1 d1).set 2 d2).set 3 d3).set 4 d4).set 5 d5).set 6 d6).set 7 d7
theorem Row.put8_far {T : TypeId} {k' : IntKind} {b' : Nat} {l : List Int} (h : Row w b' k' T l) (hne : b' ≠ b) : Row (YtljcojnfpdfaeaaDoor.put8 w b k d0 d1 d2 d3 d4 d5 d6 d7) b' k' T l :=
  (((((((h.far _ hne _).far _ hne _).far _ hne _).far _ hne _).far _ hne _).far _ hne _).far _ hne _).far _ hne _
theorem Src.put8_far {A : Option Addr} {k' : IntKind} {l : List Int} (h : Src w A k' l) (hne : ∀ b' o, A = some ⟨b', o, none⟩ → b' ≠ b) : Src (YtljcojnfpdfaeaaDoor.put8 w b k d0 d1 d2 d3 d4 d5 d6 d7) A k' l :=
  (((((((h.far _ hne _).far _ hne _).far _ hne _).far _ hne _).far _ hne _).far _ hne _).far _ hne _).far _ hne _
theorem below_put8 {B : Nat} {w0 : World} (h : Below B w0 w) (hb : B ≤ b) : Below B w0 (put8 w b k d0 d1 d2 d3 d4 d5 d6 d7) :=
  (((((((h.setCell (p := ⟨b, 0, none⟩) hb _).setCell (p := ⟨b, 1, none⟩) hb _).setCell (p := ⟨b, 2, none⟩) hb _).setCell (p := ⟨b, 3, none⟩) hb _).setCell (p := ⟨b, 4, none⟩) hb _).setCell (p := ⟨b, 5, none⟩) hb _).setCell (p := ⟨b, 6, none⟩) hb _).setCell (p := ⟨b, 7, none⟩) hb _
end

/-- A slice's length. -/
def sl : Value → Nat
  | .slice _ m _ => m
  | _ => 0

/-- The slice v is the call's own (its block from base on), and holds the numbers l. -/
def OwnI (w : World) (base : Nat) (e : TypeId) (k : IntKind) (v : Value) (l : List Int) : Prop := w.ownsRow base e 1 v l.length (l.map (Value.int k))
theorem OwnI.nil (w : World) (base : Nat) (e : TypeId) (k : IntKind) : OwnI w base e k (.slice none 0 0) [] := World.ownsRow_nil w base e 1
theorem OwnI.alloc {w : World} {base : Nat} {e : TypeId} {k : IntKind} {v : Value} {l : List Int} (h : OwnI w base e k v l) (o : Obj) : OwnI (w.alloc o) base e k v l := World.ownsRow.alloc h o
theorem OwnI.drew {w : World} {base : Nat} {e : TypeId} {k : IntKind} {v : Value} {l : List Int} (h : OwnI w base e k v l) : OwnI w.drew base e k v l := h
theorem OwnI.drewN {w : World} {base : Nat} {e : TypeId} {k : IntKind} {v : Value} {l : List Int} (h : OwnI w base e k v l) (n : Nat) : OwnI (w.drewN n) base e k v l := h
theorem OwnI.below {w w' : World} {base B : Nat} {e : TypeId} {k : IntKind} {v : Value} {l : List Int} (h : OwnI w base e k v l) (hB : Below B w w') (hs : w.heap.size ≤ B) : OwnI w' base e k v l :=
  World.ownsRow.kept (row := none) h ⟨hB.os, hB.tape, hB.output, hB.size, fun i hi _ => hB.block i (Nat.lt_of_lt_of_le hi hs)⟩ (by cases v.ownBlock <;> simp)
theorem OwnI.form {w : World} {base : Nat} {e : TypeId} {k : IntKind} {v : Value} {l : List Int} (h : OwnI w base e k v l) : ∃ A c, v = .slice A l.length c ∧ l.length ≤ c ∧ Src w A k l ∧ (∀ b o, A = some ⟨b, o, none⟩ → base ≤ b) := by
  rcases h.2 with ⟨rfl, h0⟩ | ⟨g, cap, cur, rfl, hb, hg, hc, hm, hs, ht⟩
  · refine ⟨none, 0, by rw [h0], by omega, ?_, by simp⟩
    have : l = [] := List.eq_nil_of_length_eq_zero h0
    subst this
    exact Src.nil _ _ _
  · refine ⟨some ⟨g, 0, none⟩, cap, rfl, hc, fun _ => ⟨g, 0, rfl, lt_of_block hg, fun i hi => ?_⟩, fun b o hbo => ?_⟩
    · rw [cell_of_row _ _ _ _ _ _ hg, Nat.zero_add]
      have h1 : (cur.toList.take (l.length * 1))[i]? = some (.int k (l.getD i 0)) := by
        rw [ht]; simp [hi]
      rw [List.getElem?_take_of_lt (by omega)] at h1
      simpa using h1
    · injection hbo with hbo; injection hbo with h1; omega
theorem OwnI.src {w : World} {base : Nat} {e : TypeId} {k : IntKind} {A : Option Addr} {n c : Nat} {l : List Int} (h : OwnI w base e k (.slice A n c) l) : n = l.length ∧ n ≤ c ∧ Src w A k l := by
  obtain ⟨A', c', hv, hc, hs, _⟩ := h.form
  injection hv with h1 h2 h3
  subst h1 h2 h3
  exact ⟨rfl, hc, hs⟩
theorem OwnI.grow {w w' : World} {base : Nat} {e : TypeId} {k : IntKind} {v : Value} {l : List Int} (h : OwnI w base e k v l) (hg : w.grownBy w' v.ownBlock) (hbase : base ≤ w.heap.size) : Below base w w' :=
  ⟨hg.os, hg.tape, hg.output, hg.size, fun i hi => hg.block i (by omega) (fun he => by have := (World.ownsRow.lt h i he.symm).1; omega)⟩

theorem one_cell (k : IntKind) (l : List Int) : ∀ u ∈ l.map (Value.int k), u.oneCell' = true := by
  intro u hu
  obtain ⟨x, _, rfl⟩ := List.mem_map.1 hu
  rfl
theorem src_new (w : World) (k : IntKind) (l : List Int) (T : TypeId) : Src (w.alloc (.cells (l.map (Value.int k)).toArray T)) (some ⟨w.heap.size, 0, none⟩) k l := fun _ =>
  ⟨w.heap.size, 0, rfl, by rw [World.size_alloc]; omega, fun i hi => by rw [Nat.zero_add]; exact Row.cell (heap_alloc_new _ _) i hi⟩

theorem Src.cut {w : World} {b o : Nat} {k : IntKind} {l : List Int} (h : Src w (some ⟨b, o, none⟩) k l) (j : Nat) : Src w (some ⟨b, o + j, none⟩) k (l.drop j) := fun hl => by
  have hlen : j < l.length := by
    rcases Nat.lt_or_ge j l.length with h | h
    · exact h
    · exact absurd (List.drop_eq_nil_of_le h) hl
  obtain ⟨b', o', e, hb, hc⟩ := h (by intro h0; subst h0; simp at hlen)
  injection e with e; injection e with e1 e2
  subst e1 e2
  refine ⟨b, o + j, rfl, hb, fun i hi => ?_⟩
  rw [List.length_drop] at hi
  have := hc (j + i) (by omega)
  rw [show o + j + i = o + (j + i) by omega, this]
  simp [List.getD_eq_getElem?_getD]
theorem Src.take {w : World} {A : Option Addr} {k : IntKind} {l : List Int} (h : Src w A k l) (j : Nat) : Src w A k (l.take j) := fun hl => by
  obtain ⟨b, o, e, hb, hc⟩ := h (by intro h0; subst h0; simp at hl)
  refine ⟨b, o, e, hb, fun i hi => ?_⟩
  rw [List.length_take] at hi
  rw [hc i (by omega), List.getD_eq_getElem?_getD, List.getD_eq_getElem?_getD, List.getElem?_take_of_lt (by omega)]
theorem Src.only {w w' : World} {A : Option Addr} {k : IntKind} {l : List Int} {b : Nat} (h : Src w A k l) (hO : Only b w w') (hA : l ≠ [] → ∀ b' o, A = some ⟨b', o, none⟩ → b' ≠ b) : Src w' A k l := fun hl => by
  obtain ⟨b', o, e, hb, hc⟩ := h hl
  exact ⟨b', o, e, Nat.lt_of_lt_of_le hb hO.size, fun i hi => (World.cell?_of_block (hO.block b' hb (hA hl b' o e))).trans (hc i hi)⟩
theorem Only.setRow {b : Nat} {u w : World} (h : Only b u w) (cs : Array Value) : Only b u (w.setRow b cs) :=
  h.trans ⟨rfl, rfl, rfl, by simp, fun k _ hne => setRow_other _ _ _ _ (by intro h0; subst h0; exact hne rfl)⟩
theorem Tab.only {w w' : World} {g b : Nat} {k : IntKind} {l : List Int} (h : Tab w g k l) (hO : Only b w w') (hb : g ≠ b) : Tab w' g k l := by
  obtain ⟨T, fr, h1⟩ := h
  exact ⟨T, fr, by rw [hO.block g (lt_of_block h1) hb]; exact h1⟩
theorem Row.only {w w' : World} {g b : Nat} {k : IntKind} {T : TypeId} {l : List Int} (h : Row w g k T l) (hO : Only b w w') (hb : g ≠ b) : Row w' g k T l := by
  unfold Row
  rw [hO.block g h.lt hb]; exact h
theorem Blk.only {w w' : World} {g b : Nat} {T : TypeId} {L : List Value} (h : Blk w g T L) (hO : Only b w w') (hb : g ≠ b) : Blk w' g T L := by
  unfold Blk
  rw [hO.block g h.lt hb]; exact h
theorem Blk.setRow {w : World} {b : Nat} {T : TypeId} {L : List Value} (h : Blk w b T L) (L' : List Value) : Blk (w.setRow b L'.toArray) b T L' := setRow_heap w b _ _ T _ h

section
variable {P : Program} (w : World)

/-- 'copy' of numbers into a block of which all is known. -/
theorem wpList_copyI {ops : Array Oper} {rest : List Oper} {o : Oper} {a : Act} {Q : Exit → Act → World → Prop} (hgd : o.guard = none) (d s : Operand) (dT sT : TypeId)
    (ho : o.op = .call { callee := .builtin .copy, args := #[d, s], argTypes := #[dT, sT] }) (elem : TypeId) (hu : P.underlying dT = some (.slice elem)) (hsz : (P.info? elem).map (·.size) = some 1)
    (g off dLen dCap : Nat) (A : Option Addr) (m sCap : Nat) (hd : a.eval d = .slice (some ⟨g, off, none⟩) dLen dCap) (hs : a.eval s = .slice A m sCap)
    (cur : List Value) (t : TypeId) (hg : Blk w g t cur) (k : IntKind) (news : List Int) (hm : news.length = m) (hx : Src w A k news) (hle : m ≤ dLen) (hfit : off + m ≤ cur.length)
    (h : wpList P ops Q rest (a.put o.dst (goInt m)) (w.setRow g (cur.take off ++ (news.map (Value.int k) ++ cur.drop (off + m))).toArray)) : wpList P ops Q (o :: rest) a w := by
  subst hm
  by_cases hn : news = []
  · subst hn
    refine wpList_copy_nothing hgd d s dT sT ho elem hu hsz _ _ dLen dCap 0 sCap hd hs (Nat.zero_min _) ?_
    have e : (cur.take off ++ (([] : List Int).map (Value.int k) ++ cur.drop (off + ([] : List Int).length))).toArray = cur.toArray := by simp
    rw [e, setRow_self w g _ t (0, 0) hg] at h
    exact h
  · obtain ⟨b', o', rfl, _, hc⟩ := hx.cells hn
    refine wpList_copy_own hgd d s dT sT ho elem hu hsz g off dLen dCap ⟨b', o', none⟩ news.length sCap hd hs cur.toArray t hg (news.map (Value.int k)) ?_ hc ?_ (one_cell k news) ?_
    · rw [List.length_map]; exact (Nat.min_eq_left hle).symm
    · simpa using hfit
    · simpa using h

theorem run_append_nil (base : Nat) (t ty e : TypeId) (i : TypeInfo) (size : Nat) (ht : P.underlying t = some (.slice e)) (hi : P.info? e = some i)
    (v : Value) (n : Nat) (xs : List Value) (hown : w.ownsRow base e size v n xs) (c : Nat) : (Builtin.append_ #[t, t] ty #[v, .slice none 0 c]).run P w = .ok v w := by
  rcases hown.2 with ⟨rfl, rfl⟩ | ⟨g, cap, cur, rfl, _, _, hnc, _⟩
  · simp [Builtin.append_, run_underlying ht, sizeOf, typeInfo, hi, Builtin.lenOf, Builtin.firstCells]
  · simp [Builtin.append_, run_underlying ht, sizeOf, typeInfo, hi, Builtin.lenOf, Builtin.firstCells, hnc, storeCells]

/-- 'append(v, src...)' onto a slice of numbers of the call's own. -/
theorem run_appI (base : Nat) (t ty e : TypeId) (k : IntKind) (bytes : Nat) (ht : P.underlying t = some (.slice e)) (hi : (P.info? e).map (fun i => (i.zero, i.size, i.bytes)) = some (some (.int k 0), 1, bytes))
    (v : Value) (l : List Int) (hown : OwnI w base e k v l) (A : Option Addr) (c : Nat) (news : List Int) (hx : Src w A k news)
    (hbytes : (l.length + news.length) * bytes ≤ 140737488355328) (hbyt : 0 < bytes) (hbase : base ≤ w.heap.size) :
    ∃ v' w', (Builtin.append_ #[t, t] ty #[v, .slice A news.length c]).run P w = .ok v' w' ∧ OwnI w' base e k v' (l ++ news) ∧ w.grownBy w' v.ownBlock ∧ (v'.ownBlock = v.ownBlock ∨ v'.ownBlock = some w.heap.size) := by
  obtain ⟨i0, hi0, hz0, hz1, hz2⟩ := info_parts hi
  have hml : l.length + news.length ≤ maxLen := by
    have : l.length + news.length ≤ (l.length + news.length) * bytes := Nat.le_mul_of_pos_right _ hbyt
    unfold maxLen; omega
  by_cases hn : news = []
  · subst hn
    rcases A with _ | ad
    · exact ⟨v, w, run_append_nil w base t ty e i0 1 ht hi0 v _ _ hown c, by simpa using hown, World.grownBy.refl w _, .inl rfl⟩
    · obtain ⟨v', w', hrun, h2, h3, _, h5⟩ := run_append_own_at (P := P) w base t ty e i0 _ 1 bytes ht hi0 hz0 hz1 hz2 rfl (by omega) v _ _ hown ad 0 c [] (by simp) (by simp) (by simp) (by simpa using hml) (by simpa using hbytes) hbase
      exact ⟨v', w', hrun, by simpa [OwnI] using h2, h3, h5⟩
  · obtain ⟨b, o, rfl, hb, hc⟩ := hx.cells hn
    obtain ⟨v', w', hrun, h2, h3, _, h5⟩ := run_append_own_at (P := P) w base t ty e i0 _ 1 bytes ht hi0 hz0 hz1 hz2 rfl (by omega) v _ _ hown ⟨b, o, none⟩ news.length c (news.map (Value.int k)) (by simp) hc (one_cell k news) hml hbytes hbase
    exact ⟨v', w', hrun, by simpa [OwnI] using h2, h3, h5⟩

theorem wp_appI {o : Oper} {a : Act} {K : Act → World → Prop} {Q : Exit → Act → World → Prop} (s x : Operand) (t : TypeId)
    (ho : o.op = .call { callee := .builtin .append, args := #[s, x], argTypes := #[t, t] })
    (base : Nat) (e : TypeId) (k : IntKind) (bytes : Nat) (ht : P.underlying t = some (.slice e)) (hi : (P.info? e).map (fun i => (i.zero, i.size, i.bytes)) = some (some (.int k 0), 1, bytes))
    (v : Value) (l : List Int) (hs : a.eval s = v) (hown : OwnI w base e k v l)
    (A : Option Addr) (m c : Nat) (news : List Int) (hm : news.length = m) (hxe : a.eval x = .slice A m c) (hx : Src w A k news)
    (hbytes : (l.length + news.length) * bytes ≤ 140737488355328) (hbyt : 0 < bytes) (hbase : base ≤ w.heap.size)
    (h : ∀ v' w', OwnI w' base e k v' (l ++ news) → Below base w w' → Hid (w.grownBy w' v.ownBlock) → Hid (v'.ownBlock = v.ownBlock ∨ v'.ownBlock = some w.heap.size) → K (a.put o.dst v') w') : o.wp P a w K Q := by
  subst hm
  obtain ⟨v', w', hrun, h2, h3, h4⟩ := run_appI (P := P) w base t o.type e k bytes ht hi v l hown A c news hx hbytes hbyt hbase
  unfold Oper.wp execOp
  simp only [ho, resolve, invoke, builtin, Sem.run_bind, Sem.run_pure, Result.andThen_ok, List.map_toArray, List.map_cons, List.map_nil, hs, hxe, hrun]
  exact h v' w' h2 (hown.grow h3 hbase) h3 h4

theorem step_appI {ops : Array Oper} {o : Oper} {a : Act} {K : Act → World → Prop} {Q : Exit → Act → World → Prop} {E : Prop} (hgd : o.guard = none) (s x : Operand) (t : TypeId)
    (ho : o.op = .call { callee := .builtin .append, args := #[s, x], argTypes := #[t, t] })
    (base : Nat) (e : TypeId) (k : IntKind) (bytes : Nat) (ht : P.underlying t = some (.slice e)) (hi : (P.info? e).map (fun i => (i.zero, i.size, i.bytes)) = some (some (.int k 0), 1, bytes))
    (v : Value) (l : List Int) (hs : a.eval s = v) (hown : OwnI w base e k v l)
    (A : Option Addr) (m c : Nat) (news : List Int) (hm : news.length = m) (hxe : a.eval x = .slice A m c) (hx : Src w A k news)
    (hbytes : (l.length + news.length) * bytes ≤ 140737488355328) (hbyt : 0 < bytes) (hbase : base ≤ w.heap.size)
    (h : ∀ v' w', OwnI w' base e k v' (l ++ news) → Below base w w' → Hid (w.grownBy w' v.ownBlock) → Hid (v'.ownBlock = v.ownBlock ∨ v'.ownBlock = some w.heap.size) → K (a.put o.dst v') w') :
    if Region.wanted o (yielded ops a.tmps) = true then Oper.wp P o a w K Q else E := by
  have hw : Region.wanted o (yielded ops a.tmps) = true := by simp [Region.wanted, hgd]
  rw [if_pos hw]
  exact wp_appI w s x t ho base e k bytes ht hi v l hs hown A m c news hm hxe hx hbytes hbyt hbase h
theorem wpList_appI {ops : Array Oper} {rest : List Oper} {o : Oper} {a : Act} {Q : Exit → Act → World → Prop} (hgd : o.guard = none) (s x : Operand) (t : TypeId)
    (ho : o.op = .call { callee := .builtin .append, args := #[s, x], argTypes := #[t, t] })
    (base : Nat) (e : TypeId) (k : IntKind) (bytes : Nat) (ht : P.underlying t = some (.slice e)) (hi : (P.info? e).map (fun i => (i.zero, i.size, i.bytes)) = some (some (.int k 0), 1, bytes))
    (v : Value) (l : List Int) (hs : a.eval s = v) (hown : OwnI w base e k v l)
    (A : Option Addr) (m c : Nat) (news : List Int) (hm : news.length = m) (hxe : a.eval x = .slice A m c) (hx : Src w A k news)
    (hbytes : (l.length + news.length) * bytes ≤ 140737488355328) (hbyt : 0 < bytes) (hbase : base ≤ w.heap.size)
    (h : ∀ v' w', OwnI w' base e k v' (l ++ news) → Below base w w' → Hid (w.grownBy w' v.ownBlock) → Hid (v'.ownBlock = v.ownBlock ∨ v'.ownBlock = some w.heap.size) → wpList P ops Q rest (a.put o.dst v') w') : wpList P ops Q (o :: rest) a w :=
  wpList_plain hgd fun _ hK => wp_appI w s x t ho base e k bytes ht hi v l hs hown A m c news hm hxe hx hbytes hbyt hbase fun v' w' h2 h3 h4 h5 => hK _ _ (h v' w' h2 h3 h4 h5)
end
end Go.Proofs.YtljcojnfpdfaeaaDoor
