/- THE CARD of graftlaw7.ModuloTexts, second form: wherever what it reads is of bulk at most 1048576, the law returns true, and each argument reads as it did. -/
import Derived.Test.YtljcojnfpdfaeaaDoorC3
import Derived.Test.YtljcojnfpdfaeaaDoorC4
import Derived.Test.YtljcojnfpdfaeaaDoorCards
import Derived.Test.YtljcojnfpdfaeaaDoorTie
import Derived.WalkKit
import Derived.ProofKit
import Derived.OpenShut
import Derived.Deep.DeepHandedRow
import Derived.Lib.LaidTab
import Derived.Stop.LaidErr
namespace Go.Proofs.YtljcojnfpdfaeaaDoor.moduloTexts
open Go.ChangeShapes Go.WideShapes Go.ChangeAt Go.RowKit Go.WideMaps
open Go.ChangeMaps (open_string shut_string)

theorem own : ownKnob Tryd.prog.godebug = none := by kernel_rfl
def kT : List Int := [1116352408, 1899447441, 3049323471, 3921009573, 961987163, 1508970993, 2453635748, 2870763221, 3624381080, 310598401, 607225278, 1426881987, 1925078388, 2162078206, 2614888103, 3248222580, 3835390401, 4022224774, 264347078, 604807628, 770255983, 1249150122, 1555081692, 1996064986, 2554220882, 2821834349, 2952996808, 3210313671, 3336571891, 3584528711, 113926993, 338241895, 666307205, 773529912, 1294757372, 1396182291, 1695183700, 1986661051, 2177026350, 2456956037, 2730485921, 2820302411, 3259730800, 3345764771, 3516065817, 3600352804, 4094571909, 275423344, 430227734, 506948616, 659060556, 883997877, 958139571, 1322822218, 1537002063, 1747873779, 1955562222, 2024104815, 2227730452, 2361852424, 2428436474, 2756734187, 3204031479, 3329325298]
theorem g0 : Tryd.prog.globalNamed "graft/graftref1.tableH" = some 0 := by kernel_rfl
theorem g1 : Tryd.prog.globalNamed "graft/graftref1.tableK" = some 1 := by kernel_rfl
theorem g2 : Tryd.prog.globalNamed "graft/digest.begin" = some 2 := by kernel_rfl
theorem g3 : Tryd.prog.globalNamed "graft/digest.rounds" = some 3 := by kernel_rfl
theorem t0 : (Tryd.prog.globals[0]?).map (·.type) = some 42 := by kernel_rfl
theorem t1 : (Tryd.prog.globals[1]?).map (·.type) = some 45 := by kernel_rfl
theorem t2 : (Tryd.prog.globals[2]?).map (·.type) = some 42 := by kernel_rfl
theorem t3 : (Tryd.prog.globals[3]?).map (·.type) = some 45 := by kernel_rfl
theorem cells42 : Tryd.prog.cellsOf 42 = 8 := by kernel_rfl
theorem cells45 : Tryd.prog.cellsOf 45 = 64 := by kernel_rfl
theorem cells41 : Tryd.prog.cellsOf 41 = 1 := by kernel_rfl
theorem sumKey : ArrKey Tryd.prog 23 5 32 := ⟨Tryd.underlying23, by kernel_rfl, by kernel_rfl, by kernel_rfl⟩

theorem tab_of {W : World} {name : String} {k : IntKind} {zs : List Int} {g : Nat} (hg : Tryd.prog.globalNamed name = some g) (h : Lib.TabIs Tryd.prog W name k zs) : Tab W g k zs := by
  unfold Lib.TabIs World.var? at h
  rw [hg, Option.bind_some] at h
  split at h
  · rename_i cs T fr hb
    injection h with h
    subst h
    exact ⟨T, fr, hb⟩
  · cases h

/-- What the row's list gives: the four tables. -/
theorem tables {W : World} (h : laidMetH Tryd.prog Rows.moduloTextsUptoRow.laid W) : Tab W 0 .u32 tH ∧ Tab W 1 .u32 kT ∧ Tab W 2 .u32 tHp ∧ Tab W 3 .u32 kT := by
  have h0 : laidMet Tryd.prog (("graft/graftref1.tableK", Lib.tabData .u32 kT) :: ("graft/graftref1.tableH", Lib.tabData .u32 tH) :: ("graft/digest.rounds", Lib.tabData .u32 kT) :: ("graft/digest.begin", Lib.tabData .u32 tHp) :: []) W := h
  have h1 := h0.tail
  have h2 := h1.tail
  have h3 := h2.tail
  exact ⟨tab_of g0 (Lib.tabIs_of_head g0 t0 Tryd.underlying42 Tryd.underlying41 cells41 cells42 h1),
    tab_of g1 (Lib.tabIs_of_head g1 t1 Tryd.underlying45 Tryd.underlying41 cells41 cells45 h0),
    tab_of g2 (Lib.tabIs_of_head g2 t2 Tryd.underlying42 Tryd.underlying41 cells41 cells42 h3),
    tab_of g3 (Lib.tabIs_of_head g3 t3 Tryd.underlying45 Tryd.underlying41 cells41 cells45 h2)⟩

/-- What the bound gives: the texts' lengths. -/
theorem short {H : Type} {d : DataW H} {o r : ByteArray} (hk : Rows.uptoSmall H [d, .lit (.string o.data.toList), .lit (.string r.data.toList)] = true) : o.size ≤ 1048576 ∧ r.size ≤ 1048576 := by
  have h : Rows.uptoBulkAll [d, DataW.lit (H := H) (.string o.data.toList), DataW.lit (H := H) (.string r.data.toList)] ≤ 1048576 := of_decide_eq_true hk
  simp only [Rows.uptoBulkAll, Rows.uptoBulk] at h
  have e : o.data.toList.length = o.size := by rw [Array.length_toList]; rfl
  have e' : r.data.toList.length = r.size := by rw [Array.length_toList]; rfl
  omega

/-- The post of a call that leaves alone all that was there, where nothing is asked of a second reading. -/
theorem post_below {H : Type} {enc : TypeId × Value → H} {P : Program} {f : Func} {s : ChangeSpec} {apart fresh handsOn : Bool} {W W' : World} {args : Array Value} {v : Value} {ds gs : List (DataW H)} {before pr pa pv : List MemPlace}
    (hW : DataW.Whole enc P f.params.toList s.vars apart W args.toList ds gs before)
    (hres : ∀ (b : Nat) (sp : Nat → Bool) (hd : Bool), DataW.TrodAll enc P W' b sp hd f.resultTypes.toList (v.resultList f.resultTypes.size) (s.fn H (ds ++ gs)).results pr)
    (hargs : ∀ sp : Nat → Bool, DataW.TrodAll enc P W' 0 sp true f.params.toList args.toList (s.fn H (ds ++ gs)).args pa)
    (hvars : ∀ sp : Nat → Bool, DataW.TrodVars enc P W' sp s.vars (s.fn H (ds ++ gs)).vars pv)
    (hB : Below W.heap.size W W') : s.post enc P f apart fresh handsOn false W args v W' :=
  ⟨ds, gs, before, pr, pa, pv, hW, hres _ _ _, hargs _, hvars _, hB.frame _, fun h => by cases h⟩

theorem contract (H : Type) (enc : TypeId × Value → H) (W : World) (base : Nat) (args : Array Value) (ds gs : List (DataW H)) (before : List MemPlace)
    (hval : ∀ (j : Nat) t v, Tryd.f3.params[j]? = some t → args[j]? = some v → Value.okWide Tryd.prog W .any base t v)
    (hW : DataW.Whole enc Tryd.prog Tryd.f3.params.toList Rows.moduloTextsSpec.vars false W args.toList ds gs before) (hk : Rows.uptoSmall H (ds ++ gs) = true) (hL : laidMetH Tryd.prog Rows.moduloTextsUptoRow.laid W) :
    Calls Tryd.prog 3 args W fun e W' => ∃ v, e = .returned v ∧ Rows.moduloTextsSpec.post enc Tryd.prog Tryd.f3 false true false false W args v W' := by
  have hW' := hW
  obtain ⟨p, q, hA0, hV, rfl, hfz, hnd⟩ := hW
  have hA : DataW.TrodAll enc Tryd.prog W 0 (fun _ => true) true Tryd.f3.params.toList args.toList ds p := hA0
  rw [Tryd.params3] at hA hval
  obtain ⟨v0, vs0, d0, ds0, p0, q0, hargs, rfl, rfl, h0, r0⟩ := trodAll_cons hA
  obtain ⟨v1, vs1, d1, ds1, p1, q1, rfl, rfl, rfl, h1, r1⟩ := trodAll_cons r0
  obtain ⟨v2, vs2, d2, ds2, p2, q2, rfl, rfl, rfl, h2, r2⟩ := trodAll_cons r1
  obtain ⟨rfl, rfl, rfl⟩ := trodAll_nil r2
  obtain rfl : args = #[v0, v1, v2] := by cases args; simp_all
  obtain ⟨rfl, rfl⟩ := trodVars_none hV
  obtain ⟨l, rfl, hl, hw, rfl, hback⟩ := open_ints sumKey Tryd.underlying5 (hval 0 23 v0 rfl rfl) h0
  obtain ⟨o, rfl, rfl, rfl, ho⟩ := open_string Tryd.underlying9 (hval 1 9 v1 rfl rfl) h1
  obtain ⟨r, rfl, rfl, rfl, hr⟩ := open_string Tryd.underlying9 (hval 2 9 v2 rfl rfl) h2
  clear hA0
  simp only [List.append_nil] at hW' hk
  obtain ⟨ho2, hr2⟩ := short hk
  obtain ⟨T0, T1, T2, T3⟩ := tables hL
  have hrange : ∀ i, i < 32 → 0 ≤ l.getD i 0 ∧ l.getD i 0 ≤ 255 := fun i hi => by
    have := hw i hi
    simp [Lit.wf, IntKind.min, IntKind.max, IntKind.signed, IntKind.bits] at this
    simpa using this
  refine (law_any l o r kT W hl hrange ho2 hr2 T0 T1 T2 T3 rfl).mono fun e W' ⟨he, hB⟩ => ?_
  subst he
  exact ⟨_, rfl, post_below (pr := []) (pa := []) (pv := []) hW' (fun _ _ _ => trodAll_cons_mk (shut_bool Tryd.underlying4 _) trodAll_mk0)
    (fun sp => trodAll_cons_mk (p := []) (p' := []) (hback W' 0 sp true) (trodAll_cons_mk (p := []) (p' := []) (shut_string Tryd.underlying9 ho) (trodAll_cons_mk (p := []) (p' := []) (shut_string Tryd.underlying9 hr) trodAll_mk0))) (fun _ => rfl) hB⟩

/-- A row's cells, written anew. -/
def putRow (c : Array Value) : Obj → Obj
  | .cells _ t frozen => .cells c t frozen
  | o => o
/-- A world for the witness: the settled one, the four tables holding what their initialisers lay. -/
noncomputable def laidWorld (os : Os) : World :=
  { World.holding Tryd.prog os ⟨#[], #[], []⟩ with heap := ((((World.holding Tryd.prog os ⟨#[], #[], []⟩).heap.modify 0 (putRow (tH.map (Value.int .u32)).toArray)).modify 1 (putRow (kT.map (Value.int .u32)).toArray)).modify 2 (putRow (tHp.map (Value.int .u32)).toArray)).modify 3 (putRow (kT.map (Value.int .u32)).toArray) }
noncomputable def wargs : Array Value := #[.agg ((List.replicate 32 0).map (Value.int .u8)).toArray, .string .empty, .string .empty]
theorem laid_met (os : Os) : laidMet Tryd.prog Rows.moduloTextsUptoRow.laid ((laidWorld os).forCall (fun _ _ => 0) ⟨#[], wargs, []⟩).memory :=
  laidMet_of_run' 8 (by kernel_rfl) (by kernel_rfl)
theorem reads (os : Os) {H : Type} (enc : TypeId × Value → H) : ∃ places, DataW.whole enc Tryd.prog ((laidWorld os).forCall (fun _ _ => 0) ⟨#[], wargs, []⟩).memory Tryd.f3.params.toList Rows.moduloTextsSpec.vars false wargs.toList 8 = some ([.agg ((List.replicate 32 0).map fun n => .lit (.int .u8 n)), .lit (.string []), .lit (.string [])], [], places) :=
  ⟨[], by kernel_rfl⟩

set_option maxRecDepth 100000 in
theorem liftedUpto (os : Os) (started : os.Started) (H : Type) (enc : TypeId × Value → H) (F : Stop.Interp) :
    ReturnsInHanded {} Tryd.checked os 3 .any ((Rows.OpenSpec.upto Rows.moduloTextsSpec).preRow enc Tryd.prog Tryd.f3 Rows.moduloTextsUptoRow.domain false Rows.moduloTextsUptoRow.laid) (((Rows.OpenSpec.upto Rows.moduloTextsSpec).at F).post enc Tryd.prog Tryd.f3 false true false false) := by
  obtain ⟨places, hx⟩ := reads os enc
  refine returnsInHanded_of_row (C := Tryd.checked) (s := Rows.OpenSpec.upto Rows.moduloTextsSpec) own started (by kernel_rfl) Tryd.func3
    (witness_row_at (enc := enc) (C := Tryd.checked) false (laidWorld os) wargs rfl (by kernel_rfl) (by kernel_rfl) (by kernel_rfl)
      (OpenSpec.preRow_of_cond 8 hx (by kernel_rfl) (fun k hk => by cases hk; kernel_rfl) (by kernel_rfl) (laid_met os))) ?_
  intro W base args ds gs before hval hW _ hcond _ hL _ _
  exact contract H enc W base args ds gs before hval hW (hcond _ rfl) hL

theorem saidUpto : Rows.ModuloTextsUptoSaid :=
  OpenClaim.holds_of_cond 3 Tryd.f3 rfl rfl rfl rfl rfl rfl rfl ⟨rfl, rfl, rfl, rfl, rfl⟩ rfl rfl rfl rfl rfl (by kernel_rfl) Tryd.func3 (by kernel_rfl)
    (of_decide_eq_true (by kernel_rfl)) (by unfold Func.isWrapper; first | (rw [if_pos (by decide +kernel)]; kernel_rfl) | (rw [if_neg (by decide +kernel)]; exact ⟨rfl, rfl⟩))
    (fun os started H enc _ F => by rw [OpenClaim.pre_eq_preRow]; exact liftedUpto os started H enc F)

/-- No parameter wants a stand-in; the program's own looks are off: what the card asks. -/
theorem plain (f : FuncId) (fn : Func) (hf : Tryd.pinned.checked.prog.funcNamed "graft/graftlaw7.ModuloTexts" = some f) (hfn : Tryd.pinned.checked.prog.funcs[f]? = some fn) :
    false = Tryd.pinned.checked.prog.looks [] ∧ ∀ (j : Nat) t, fn.params[j]? = some t → Tryd.pinned.checked.prog.wantsStandIn t = false := by
  obtain rfl : f = 3 := Option.some.inj ((show Tryd.prog.funcNamed "graft/graftlaw7.ModuloTexts" = some 3 by kernel_rfl).symm.trans hf) |>.symm
  obtain rfl : fn = Tryd.f3 := (Option.some.inj (Tryd.func3.symm.trans hfn)).symm
  refine ⟨by kernel_rfl, fun j t ht => ?_⟩
  rw [Tryd.params3] at ht
  have hm : t ∈ #[23, 9, 9] := Array.mem_of_getElem? ht
  simp only [List.mem_toArray, List.mem_cons, List.not_mem_nil, or_false] at hm
  rcases hm with rfl | rfl | rfl
  · exact (show Tryd.prog.wantsStandIn 23 = false by kernel_rfl)
  · exact (show Tryd.prog.wantsStandIn 9 = false by kernel_rfl)
  · exact (show Tryd.prog.wantsStandIn 9 = false by kernel_rfl)

/-- The card. -/
theorem cardUpto : Rows.ModuloTextsUptoCardSaid :=
  Claim7.holds_tied_plain_at .later [] _ _ _ _ saidUpto (fun _ h => by cases h) (by kernel_rfl) (fun _ h => by cases h) moduloTextsUpto_row_tie rfl ⟨rfl, rfl⟩ (by kernel_rfl) rfl plain (by kernel_rfl)
end Go.Proofs.YtljcojnfpdfaeaaDoor.moduloTexts
