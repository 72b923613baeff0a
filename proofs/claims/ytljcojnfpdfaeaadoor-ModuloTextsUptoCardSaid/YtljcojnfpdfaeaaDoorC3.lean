/- The law's walk. -/
import Derived.Test.YtljcojnfpdfaeaaDoorC2
import Derived.Test.YtljcojnfpdfaeaaDoorShaEq
import Derived.Deep.RegionHeld3
import Derived.Deep.MidRow
import Derived.DeepKeys
namespace Go.Proofs.YtljcojnfpdfaeaaDoor
open Go.RowKit

theorem sha_one (kT d : List Int) : shaP kT d = shaR kT d := by
  unfold shaP shaR
  rw [sha_blocks]
  rfl

theorem eqItems_self {P : Program} (w : World) (d : Nat) {e : TypeId} {k k' : IntKind} (he : P.plainKey e = true) (hu : P.underlying e = some (.int k')) (l : List Int) : ∀ (is : List Nat), (∀ i ∈ is, i < l.length) →
    (Op.eqItems (d + 1) e 1 (l.map (Value.int k)).toArray (l.map (Value.int k)).toArray is).run P w = .ok true w
  | [], _ => by simp [Op.eqItems]
  | i :: is, h => by
    have hi : i < l.length := h i (by simp)
    have hp := run_part_plain (P := P) w he (xs := (l.map (Value.int k)).toArray) (off := i * 1) (v := .int k l[i]) (by simp [hi])
    simp only [Op.eqItems, Sem.run_bind, hp, Result.andThen_ok, run_equalIn_int w d e k k' l[i] l[i] hu, eqItems_self w d he hu l is (fun j hj => h j (by simp [hj])), beq_self_eq_true, Bool.not_true, Bool.false_eq_true, if_false]
theorem eq_hash (F : List Int) (hF : F.length = 20) (w : World) : (Op.equalIn 10000 26 (.agg (F.map (Value.int .u8)).toArray) (.agg (F.map (Value.int .u8)).toArray)).run Tryd.prog w = .ok true w := by
  cases hi : Tryd.prog.info? 5 with
  | none => have : (Tryd.prog.info? 5).isSome = true := by kernel_rfl
            rw [hi] at this; cases this
  | some i =>
    rw [show (10000 : Nat) = 9998 + 1 + 1 from rfl, run_equalIn_array w (9998 + 1) _ _ Tryd.underlying26 hi, show Tryd.prog.cellsOf 5 = 1 by kernel_rfl]
    exact eqItems_self w 9998 (by kernel_rfl) Tryd.underlying5 F _ (fun i hi => by rw [hF]; exact List.mem_range.mp hi)

/-- The boxed argument is as it was, and nothing that was there has changed. -/
def Held (w0 : World) (d : List Int) (w : World) : Prop := Row w w0.heap.size .u8 23 d ∧ Below w0.heap.size w0 w
theorem Held.range {w0 w : World} {d : List Int} (h : Held w0 d w) : w.rangeAt w0.heap.size 0 (d.map (Value.int .u8)) := fun j v hv => by
  rcases Nat.lt_or_ge j d.length with hj | hj
  · rw [Nat.zero_add, h.1.cell j hj]
    rw [List.getElem?_map, List.getElem?_eq_getElem hj, Option.map_some] at hv
    rw [List.getD_eq_getElem?_getD, List.getElem?_eq_getElem hj]
    exact hv
  · rw [List.getElem?_eq_none (by simpa using hj)] at hv
    cases hv
theorem Held.next {w0 w w' : World} {d : List Int} (h : Held w0 d w) (hB : Below w.heap.size w w') : w'.rangeAt w0.heap.size 0 (d.map (Value.int .u8)) ∧ Held w0 d w' :=
  have h' : Held w0 d w' := ⟨h.1.below hB h.1.lt, below_next h.2 hB⟩
  ⟨h'.range, h'⟩
theorem Held.tab {w0 w : World} {d l : List Int} {g : Nat} {k : IntKind} (h : Held w0 d w) (hT : Tab w0 g k l) : Tab w g k l := hT.below h.2 hT.lt

set_option linter.unusedSimpArgs false in
set_option maxRecDepth 100000 in
set_option maxHeartbeats 1000000 in
theorem law_any (d : List Int) (o r : ByteArray) (kT : List Int) (w : World) (hd : d.length = 32) (hr : ∀ i, i < 32 → 0 ≤ d.getD i 0 ∧ d.getD i 0 ≤ 255) (ho : o.size ≤ 1048576) (hrs : r.size ≤ 1048576)
    (hH : Tab w 0 .u32 tH) (hKt : Tab w 1 .u32 kT) (hHp : Tab w 2 .u32 tHp) (hKp : Tab w 3 .u32 kT) (hkl : kT.length = 64) :
    Calls Tryd.prog 3 #[.agg (d.map (Value.int .u8)).toArray, .string o, .string r] w fun e w' => e = .returned (.bool true) ∧ Below w.heap.size w w' := by
  obtain ⟨K1, hK1⟩ : ∃ x, x = str (hexL d) ++ ⟨#[33]⟩ ++ o := ⟨_, rfl⟩
  obtain ⟨F, hF⟩ : ∃ x, x = fo (shaR kT (strI (⟨#[115, 99, 114, 97, 116, 99, 104, 58]⟩ ++ str (hexL d) ++ ⟨#[58]⟩ ++ o))) 32 := ⟨_, rfl⟩
  obtain ⟨S, hS⟩ : ∃ x : ByteArray, x = ⟨#[47]⟩ ++ str (base32 (shaR kT (strI (⟨#[115, 116, 97, 110, 100, 58]⟩ ++ r ++ ⟨#[58]⟩ ++ o)))) := ⟨_, rfl⟩
  have C4 := fun W => keyP_any d o W hd ho hr
  have C5 := fun W => keyR_any d o W hd ho hr
  have C6 := fun W (h2 : Tab W 2 .u32 tHp) (h3 : Tab W 3 .u32 kT) => scratchP_any d o kT W hd hr ho h2 h3 hkl
  have C7 := fun W (h0 : Tab W 0 .u32 tH) (h1 : Tab W 1 .u32 kT) => scratchR_any d o kT W hd hr ho h0 h1 hkl
  have C8 := fun W (h2 : Tab W 2 .u32 tHp) (h3 : Tab W 3 .u32 kT) => standP_any r o kT W hrs ho h2 h3 hkl
  have C9 := fun W (h0 : Tab W 0 .u32 tH) (h1 : Tab W 1 .u32 kT) => standR_any r o kT W hrs ho h0 h1 hkl
  simp only [sha_one] at C6 C8
  rw [← hK1] at C4 C5
  rw [← hF] at C6 C7
  rw [← hS] at C8 C9
  have hFl : F.length = 20 := by rw [hF]; exact fo_length _ _
  have heq := eq_hash F hFl
  have C4 := hid C4
  have C5 := hid C5
  have C6 := hid C6
  have C7 := hid C7
  have C8 := hid C8
  have C9 := hid C9
  have HT0 := hid hH
  have HT1 := hid hKt
  have HT2 := hid hHp
  have HT3 := hid hKp
  have u23 := Tryd.underlying23
  have s23 : (Tryd.prog.info? 23).map (·.size) = some (d.map (Value.int .u8)).length := by rw [List.length_map, hd]; kernel_rfl
  have HN := hid hd
  obtain ⟨r0, rB⟩ := alloc1 w (.cells (d.map (Value.int .u8)).toArray 23)
  have hS0 : Held w d (w.alloc (.cells (d.map (Value.int .u8)).toArray 23)).drew := ⟨r0, rB.drew⟩
  have hS1 := hid hS0
  clear hd hr hkl hH hKt hHp hKp hK1 hF hS hFl ho hrs rB r0 hS0
  go_enter Tryd.func3, Tryd.ntmps3
  go_wp2_with (fail)
  refine wp_region_held_drew (S := Held w d) (by kernel_rfl) hS1.out (fun hS => ?_)
  refine wpAnyH_take (i := 0) (v := _) rfl (by kernel_rfl) (by kernel_rfl) (by kernel_rfl) (fun _ _ _ h => h) (yieldsIf_load_mid (by rfl) _ _ rfl _ _ rfl _ _ (fun W hW => hW.range) u23 rfl s23) hS ?_
  simp only [Act.put, List.setIfInBounds_toArray, List.set_cons_zero, List.set_cons_succ]
  refine wpAnyH_take (i := 1) (v := ?_) rfl (by kernel_rfl) (by kernel_rfl) (by kernel_rfl) (fun _ _ _ h => h) (Or.inl ⟨by rfl, ?hy1⟩) hS ?_
  case hy1 => intro W hW; go_simp; try with_reducible rfl
  simp only [Act.put, List.setIfInBounds_toArray, List.set_cons_zero, List.set_cons_succ]
  refine wpAnyH_take (i := 3) (v := _) rfl (by kernel_rfl) (by kernel_rfl) (by kernel_rfl) (fun _ _ _ h => h) (yieldsIf_load_mid (by rfl) _ _ rfl _ _ rfl _ _ (fun W hW => hW.range) u23 rfl s23) hS ?_
  simp only [Act.put, List.setIfInBounds_toArray, List.set_cons_zero, List.set_cons_succ]
  refine wpAnyH_take (i := 4) (v := ?_) rfl (by kernel_rfl) (by kernel_rfl) (by kernel_rfl) (fun _ _ _ h => h) (Or.inl ⟨by rfl, ?hy4⟩) hS ?_
  case hy4 => intro W hW; go_simp; try with_reducible rfl
  simp only [Act.put, List.setIfInBounds_toArray, List.set_cons_zero, List.set_cons_succ]
  refine wpAnyH_ready (rs := [2]) (by kernel_rfl) (by simp) (AllReadyH.cons rfl (fun K hK => ?_) AllReadyH.nil)
  go_simp
  go_at_call 4
  refine (C4.out _).mono ?_
  rintro e w1 ⟨rfl, hB⟩
  refine hK.out _ _ (hS.next hB).2 (fun hS1 => ?_)
  clear hK K hB hS
  have hS := hS1
  clear hS1
  refine wpAnyH_ready (rs := [5]) (by kernel_rfl) (by simp) (AllReadyH.cons rfl (fun K hK => ?_) AllReadyH.nil)
  go_simp
  go_at_call 5
  refine (C5.out _).mono ?_
  rintro e w1 ⟨rfl, hB⟩
  refine hK.out _ _ (hS.next hB).2 (fun hS1 => ?_)
  clear hK K hB hS
  have hS := hS1
  clear hS1
  refine wpAnyH_take (i := 6) (v := ?_) rfl (by kernel_rfl) (by kernel_rfl) (by kernel_rfl) (fun _ _ _ h => h) (Or.inl ⟨by rfl, ?hy6⟩) hS ?_
  case hy6 => intro W hW; go_simp; try with_reducible rfl
  simp only [Act.put, List.setIfInBounds_toArray, List.set_cons_zero, List.set_cons_succ]
  refine wpAnyH_take (i := 7) (v := ?_) rfl (by kernel_rfl) (by kernel_rfl) (by kernel_rfl) (fun _ _ _ h => h) (Or.inl ⟨by rfl, ?hy7⟩) hS ?_
  case hy7 => intro W hW; go_simp; try with_reducible rfl
  simp only [Act.put, List.setIfInBounds_toArray, List.set_cons_zero, List.set_cons_succ]
  refine wpAnyH_take (i := 8) (v := _) rfl (by kernel_rfl) (by kernel_rfl) (by kernel_rfl) (fun _ _ _ h => h) (yieldsIf_load_mid (by rfl) _ _ rfl _ _ rfl _ _ (fun W hW => hW.range) u23 rfl s23) hS ?_
  simp only [Act.put, List.setIfInBounds_toArray, List.set_cons_zero, List.set_cons_succ]
  refine wpAnyH_take (i := 9) (v := ?_) rfl (by kernel_rfl) (by kernel_rfl) (by kernel_rfl) (fun _ _ _ h => h) (Or.inl ⟨by rfl, ?hy9⟩) hS ?_
  case hy9 => intro W hW; go_simp; try with_reducible rfl
  simp only [Act.put, List.setIfInBounds_toArray, List.set_cons_zero, List.set_cons_succ]
  refine wpAnyH_take (i := 11) (v := _) rfl (by kernel_rfl) (by kernel_rfl) (by kernel_rfl) (fun _ _ _ h => h) (yieldsIf_load_mid (by rfl) _ _ rfl _ _ rfl _ _ (fun W hW => hW.range) u23 rfl s23) hS ?_
  simp only [Act.put, List.setIfInBounds_toArray, List.set_cons_zero, List.set_cons_succ]
  refine wpAnyH_take (i := 12) (v := ?_) rfl (by kernel_rfl) (by kernel_rfl) (by kernel_rfl) (fun _ _ _ h => h) (Or.inl ⟨by rfl, ?hy12⟩) hS ?_
  case hy12 => intro W hW; go_simp; try with_reducible rfl
  simp only [Act.put, List.setIfInBounds_toArray, List.set_cons_zero, List.set_cons_succ]
  refine wpAnyH_ready (rs := [10]) (by kernel_rfl) (by simp) (AllReadyH.cons rfl (fun K hK => ?_) AllReadyH.nil)
  go_simp
  go_at_call 6
  refine (C6.out _ (hS.tab HT2.out) (hS.tab HT3.out)).mono ?_
  rintro e w1 ⟨rfl, hB⟩
  refine hK.out _ _ (hS.next hB).2 (fun hS1 => ?_)
  clear hK K hB hS
  have hS := hS1
  clear hS1
  refine wpAnyH_ready (rs := [13]) (by kernel_rfl) (by simp) (AllReadyH.cons rfl (fun K hK => ?_) AllReadyH.nil)
  go_simp
  go_at_call 7
  refine (C7.out _ (hS.tab HT0.out) (hS.tab HT1.out)).mono ?_
  rintro e w1 ⟨rfl, hB⟩
  refine hK.out _ _ (hS.next hB).2 (fun hS1 => ?_)
  clear hK K hB hS
  have hS := hS1
  clear hS1
  refine wpAnyH_take (i := 14) (v := ?_) rfl (by kernel_rfl) (by kernel_rfl) (by kernel_rfl) (fun _ _ _ h => h) (Or.inl ⟨by rfl, ?hy14⟩) hS ?_
  case hy14 => intro W hW; go_simp; try with_reducible rfl
  simp only [Act.put, List.setIfInBounds_toArray, List.set_cons_zero, List.set_cons_succ]
  refine wpAnyH_take (i := 15) (v := ?_) rfl (by kernel_rfl) (by kernel_rfl) (by kernel_rfl) (fun _ _ _ h => h) (Or.inl ⟨by rfl, ?hy15⟩) hS ?_
  case hy15 => intro W hW; go_simp; try with_reducible rfl
  simp only [Act.put, List.setIfInBounds_toArray, List.set_cons_zero, List.set_cons_succ]
  refine wpAnyH_take (i := 16) (v := ?_) rfl (by kernel_rfl) (by kernel_rfl) (by kernel_rfl) (fun _ _ _ h => h) (Or.inl ⟨by rfl, ?hy16⟩) hS ?_
  case hy16 => intro W hW; go_simp; try with_reducible rfl
  simp only [Act.put, List.setIfInBounds_toArray, List.set_cons_zero, List.set_cons_succ]
  refine wpAnyH_take (i := 17) (v := ?_) rfl (by kernel_rfl) (by kernel_rfl) (by kernel_rfl) (fun _ _ _ h => h) (Or.inl ⟨by rfl, ?hy17⟩) hS ?_
  case hy17 => intro W hW; go_simp; try with_reducible rfl
  simp only [Act.put, List.setIfInBounds_toArray, List.set_cons_zero, List.set_cons_succ]
  refine wpAnyH_take (i := 18) (v := ?_) rfl (by kernel_rfl) (by kernel_rfl) (by kernel_rfl) (fun _ _ _ h => h) (Or.inl ⟨by rfl, ?hy18⟩) hS ?_
  case hy18 => intro W hW; go_simp; try with_reducible rfl
  simp only [Act.put, List.setIfInBounds_toArray, List.set_cons_zero, List.set_cons_succ]
  refine wpAnyH_take (i := 20) (v := ?_) rfl (by kernel_rfl) (by kernel_rfl) (by kernel_rfl) (fun _ _ _ h => h) (Or.inl ⟨by rfl, ?hy20⟩) hS ?_
  case hy20 => intro W hW; go_simp; try with_reducible rfl
  simp only [Act.put, List.setIfInBounds_toArray, List.set_cons_zero, List.set_cons_succ]
  refine wpAnyH_take (i := 21) (v := ?_) rfl (by kernel_rfl) (by kernel_rfl) (by kernel_rfl) (fun _ _ _ h => h) (Or.inl ⟨by rfl, ?hy21⟩) hS ?_
  case hy21 => intro W hW; go_simp; try with_reducible rfl
  simp only [Act.put, List.setIfInBounds_toArray, List.set_cons_zero, List.set_cons_succ]
  refine wpAnyH_ready (rs := [19]) (by kernel_rfl) (by simp) (AllReadyH.cons rfl (fun K hK => ?_) AllReadyH.nil)
  go_simp
  go_at_call 8
  refine (C8.out _ (hS.tab HT2.out) (hS.tab HT3.out)).mono ?_
  rintro e w1 ⟨rfl, hB⟩
  refine hK.out _ _ (hS.next hB).2 (fun hS1 => ?_)
  clear hK K hB hS
  have hS := hS1
  clear hS1
  refine wpAnyH_ready (rs := [22]) (by kernel_rfl) (by simp) (AllReadyH.cons rfl (fun K hK => ?_) AllReadyH.nil)
  go_simp
  go_at_call 9
  refine (C9.out _ (hS.tab HT0.out) (hS.tab HT1.out)).mono ?_
  rintro e w1 ⟨rfl, hB⟩
  refine hK.out _ _ (hS.next hB).2 (fun hS1 => ?_)
  clear hK K hB hS
  have hS := hS1
  clear hS1
  refine wpAnyH_take (i := 23) (v := ?_) rfl (by kernel_rfl) (by kernel_rfl) (by kernel_rfl) (fun _ _ _ h => h) (Or.inl ⟨by rfl, ?hy23⟩) hS ?_
  case hy23 => intro W hW; go_simp; try with_reducible rfl
  simp only [Act.put, List.setIfInBounds_toArray, List.set_cons_zero, List.set_cons_succ]
  refine wpAnyH_take (i := 24) (v := ?_) rfl (by kernel_rfl) (by kernel_rfl) (by kernel_rfl) (fun _ _ _ h => h) (Or.inl ⟨by rfl, ?hy24⟩) hS ?_
  case hy24 => intro W hW; go_simp; try with_reducible rfl
  simp only [Act.put, List.setIfInBounds_toArray, List.set_cons_zero, List.set_cons_succ]
  refine wpAnyH_take (i := 25) (v := ?_) rfl (by kernel_rfl) (by kernel_rfl) (by kernel_rfl) (fun _ _ _ h => h) (Or.inl ⟨by rfl, ?hy25⟩) hS ?_
  case hy25 => intro W hW; go_simp; try with_reducible rfl
  simp only [Act.put, List.setIfInBounds_toArray, List.set_cons_zero, List.set_cons_succ]
  refine wpAnyH_done (by kernel_rfl) ?_ _
  go_simp

  go_wp2
  go_ret
  exact ⟨rfl, hS.2⟩
end Go.Proofs.YtljcojnfpdfaeaaDoor
