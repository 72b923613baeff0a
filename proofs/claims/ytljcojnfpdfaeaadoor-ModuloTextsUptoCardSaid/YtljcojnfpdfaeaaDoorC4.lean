/- An array of numbers as an argument: what its reading says of it, and its reading in any other world. -/
import Derived.Test.YtljcojnfpdfaeaaDoorMem
import Derived.WideKeyArr2
namespace Go.Proofs.YtljcojnfpdfaeaaDoor
open Go.ChangeShapes Go.WideShapes Go.WideMaps

section
variable {H : Type} {enc : TypeId × Value → H} {P : Program} {k e : TypeId} {n : Nat} {q : IntKind} {W : World} {base : Nat} {sp : Nat → Bool} {held : Bool}

theorem mapM_ints (he : P.underlying e = some (.int q)) {m : Nat} {cs : List Value} {c : Nat} : ∀ (L : List Nat) (xs : List (DataW H × List MemPlace)),
    L.mapM (fun i => DataW.trod enc P W base sp held m e ((cs.drop (i * c)).take c)) = some xs →
    (∀ i ∈ L, ∃ x, (cs.drop (i * c)).take c = [.int q x] ∧ (Lit.int q x).wf = true) ∧ (∀ y ∈ xs, y.2 = []) ∧
    ∀ (W' : World) (base' : Nat) (sp' : Nat → Bool) (held' : Bool), L.mapM (fun i => DataW.trod enc P W' base' sp' held' 1 e ((cs.drop (i * c)).take c)) = some xs
  | [], xs, h => by
    simp at h
    subst h
    exact ⟨by simp, by simp, fun _ _ _ _ => by simp⟩
  | i :: L, xs, h => by
    rw [List.mapM_cons] at h
    simp only [bind, Option.bind_eq_some_iff, pure, Option.some.injEq] at h
    obtain ⟨y, hy, ys, hys, rfl⟩ := h
    obtain ⟨h1, h2, h3⟩ := mapM_ints he L ys hys
    obtain ⟨a, ea, rfl, wa⟩ := DataW.trod_int he hy
    refine ⟨?_, ?_, fun W' base' sp' held' => ?_⟩
    · intro j hj
      rcases List.mem_cons.1 hj with rfl | hj
      · exact ⟨a, ea, wa⟩
      · exact h1 j hj
    · intro y hy
      rcases List.mem_cons.1 hy with rfl | hy
      · rfl
      · exact h2 y hy
    · rw [List.mapM_cons, h3 W' base' sp' held', ea]
      simp [DataW.trod, he, wa]

theorem open_ints (A : ArrKey P k e n) (he : P.underlying e = some (.int q)) {r : Reach} {b0 : Nat} {v : Value} (hv : Value.okWide P W r b0 k v) {d : DataW H} {ps : List MemPlace} (hd : DataW.Trod enc P W base sp held k v d ps) :
    ∃ l : List Int, v = .agg (l.map (Value.int q)).toArray ∧ l.length = n ∧ (∀ i, i < n → (Lit.int q (l.getD i 0)).wf = true) ∧ ps = [] ∧
      ∀ (W' : World) (base' : Nat) (sp' : Nat → Bool) (held' : Bool), DataW.Trod enc P W' base' sp' held' k v d [] := by
  obtain ⟨xs, rfl, hn⟩ := WideMaps.okWide_arr A hv
  obtain ⟨fuel, hf⟩ := hd
  cases fuel with
  | zero => simp [DataW.trod] at hf
  | succ m =>
    rw [DataW.trod_step] at hf
    unfold DataW.trodStep at hf
    simp only [A.hu, Value.cells] at hf
    rw [if_pos (by rw [A.size]; simpa using hn)] at hf
    simp only [Option.map_eq_some_iff] at hf
    obtain ⟨ys, hy, e1⟩ := hf
    obtain ⟨h1, h2, h3⟩ := mapM_ints he _ ys hy
    have hps : ps = [] := by
      simp only [Prod.mk.injEq] at e1
      rw [← e1.2]
      simp only [List.flatMap_eq_nil_iff]
      exact h2
    have hx : ∀ i, i < n → ∃ x, xs.toList[i]? = some (.int q x) ∧ (Lit.int q x).wf = true := fun i hi => by
      obtain ⟨x, hx, hw⟩ := h1 i (List.mem_range.2 hi)
      rw [A.one, Nat.mul_one] at hx
      refine ⟨x, ?_, hw⟩
      have : ((xs.toList.drop i).take 1)[0]? = some (.int q x) := by rw [hx]; rfl
      rw [List.getElem?_take] at this
      simpa using this
    refine ⟨xs.toList.map fun v => (match v with | .int _ x => x | _ => 0), ?_, by simp [hn], ?_, hps, fun W' base' sp' held' => ?_⟩
    · congr 1
      apply Array.toList_inj.1
      rw [List.toList_toArray, List.map_map]
      apply List.ext_getElem?
      intro i
      rw [List.getElem?_map]
      rcases Nat.lt_or_ge i n with hi | hi
      · obtain ⟨x, hx, _⟩ := hx i hi
        rw [hx]
        rfl
      · rw [List.getElem?_eq_none (by simpa [hn] using hi)]
        rfl
    · intro i hi
      obtain ⟨x, hx, hw⟩ := hx i hi
      rw [List.getD_eq_getElem?_getD, List.getElem?_map, hx]
      exact hw
    · refine ⟨2, ?_⟩
      rw [DataW.trod_step]
      unfold DataW.trodStep
      simp only [A.hu, Value.cells]
      rw [if_pos (by rw [A.size]; simpa using hn), h3 W' base' sp' held', Option.map_some, e1, hps]
end
end Go.Proofs.YtljcojnfpdfaeaaDoor
