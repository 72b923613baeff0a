/- Stand and Scratch, twice. -/
import Derived.Test.YtljcojnfpdfaeaaDoorC1
import Derived.Test.YtljcojnfpdfaeaaDoorA9
import Derived.Test.YtljcojnfpdfaeaaDoorA5
import Derived.Test.YtljcojnfpdfaeaaDoorB2
import Derived.Test.YtljcojnfpdfaeaaDoorB4
namespace Go.Proofs.YtljcojnfpdfaeaaDoor
open Go.RowKit

theorem oB_range (st : List Int) (n : Nat) : ∀ i, 0 ≤ (oB st n).getD i 0 ∧ (oB st n).getD i 0 ≤ 255 := by
  induction n with
  | zero =>
    intro i
    simp only [oB, List.getD_eq_getElem?_getD, List.getElem?_replicate]
    split <;> simp
  | succ n ih =>
    intro i
    simp only [oB, List.getD_eq_getElem?_getD, List.getElem?_set]
    split
    · split
      · simp only [Option.getD_some]; omega
      · simp
    · have := ih i
      rw [List.getD_eq_getElem?_getD] at this
      exact this
theorem row_src {w : World} {b : Nat} {k : IntKind} {T : TypeId} {l : List Int} (h : Row w b k T l) : Src w (some ⟨b, 0, none⟩) k l := fun _ => ⟨b, 0, rfl, h.lt, fun i hi => by rw [Nat.zero_add]; exact h.cell i hi⟩
theorem row_new (w : World) (k : IntKind) (T : TypeId) (l : List Int) : Row (w.alloc (.cells (l.map (Value.int k)).toArray T)) w.heap.size k T l := heap_alloc_new _ _
theorem Row.farRow {w : World} {b : Nat} {k : IntKind} {T : TypeId} {l : List Int} (h : Row w b k T l) (b' : Nat) (hne : b ≠ b') (cs : Array Value) : Row (w.setRow b' cs) b k T l := (setRow_other w _ _ cs hne).trans h
/-- What []byte(s) gives. -/
theorem conv_any (w : World) (s : ByteArray) : ∃ n c W1, (convert 9 31 (.string s)).run Tryd.prog w = .ok (.slice (some ⟨w.heap.size, 0, none⟩) n c) W1 ∧ n = s.size ∧ n ≤ c ∧ Src W1 (some ⟨w.heap.size, 0, none⟩) .u8 (strI s) ∧ Below w.heap.size w W1 :=
  ⟨s.size, _, _, Lib.run_convert_string_bytes w 9 31 5 s Tryd.underlying9 Tryd.underlying31 Tryd.underlying5, rfl, grownCap_ge _ _ _ _, bytesWorld_src _ _ _, bytesWorld_below _ _ _⟩
theorem append_size (a b : ByteArray) : (a ++ b).size = a.size + b.size := ByteArray.size_append ..

set_option maxRecDepth 100000 in
set_option maxHeartbeats 1000000 in
theorem standR_any (r o : ByteArray) (kT : List Int) (w : World) (hr : r.size ≤ 1048576) (ho : o.size ≤ 1048576) (hH : Tab w 0 .u32 tH) (hKt : Tab w 1 .u32 kT) (hkl : kT.length = 64) :
    Calls Tryd.prog 9 #[.string r, .string o] w fun e w' => e = .returned (.string (⟨#[47]⟩ ++ str (base32 (shaR kT (strI (⟨#[115, 116, 97, 110, 100, 58]⟩ ++ r ++ ⟨#[58]⟩ ++ o)))))) ∧ Below w.heap.size w w' := by
  have HKL := hid hkl
  have HT0 := hid hH
  have HT1 := hid hKt
  have hl0 := hH.lt
  have hl1 := hKt.lt
  obtain ⟨M, hM⟩ : ∃ M : ByteArray, M = ⟨#[115, 116, 97, 110, 100, 58]⟩ ++ r ++ ⟨#[58]⟩ ++ o := ⟨_, rfl⟩
  have hMs : M.size ≤ 2097200 := by
    rw [hM, append_size, append_size, append_size]
    show 6 + r.size + 1 + o.size ≤ _
    omega
  obtain ⟨n, c, W1, hconv, hn, hnc, hS1, hB1⟩ := conv_any w M
  rw [hM] at hconv
  rw [← hM]
  have HMS := hid (hn ▸ hMs : n ≤ 2097200)
  have HL := hid (show (strI M).length = n by rw [strI_length, hn])
  have HS1 := hid hS1
  have HB1 := hid hB1
  have HSH := hid (ofR_any (some ⟨w.heap.size, 0, none⟩) n c (strI M) kT W1 HL.out hS1 (by have := HMS.out; omega) (hH.below hB1 hl0) (hKt.below hB1 hl1) hkl)
  obtain ⟨D, hD⟩ : ∃ D, D = shaR kT (strI M) := ⟨_, rfl⟩
  rw [← hD] at HSH ⊢
  have hDl : D.length = 32 := by rw [hD]; exact oB_length _ _
  have HDL := hid hDl
  have HDR := hid (show ∀ i, i < 32 → 0 ≤ D.getD i 0 ∧ D.getD i 0 ≤ 255 by intro i _; rw [hD]; exact oB_range _ _ i)
  have hbs : (str (base32 D)).size = 52 := by rw [str_size]; unfold base32; rw [b32_length, hDl]; rfl
  obtain ⟨S, hS⟩ : ∃ S, S = str (base32 D) := ⟨_, rfl⟩
  rw [← hS] at hbs ⊢
  have HSE := hid hS
  clear hkl hH hKt hM hMs hn hS1 hB1 hD hDl hS
  go_enter Tryd.func9, Tryd.ntmps9
  go_wp2_with (first
    | (go_at_call 14; go_must (refine HSH.out.mono ?_); rintro e w2 ⟨rfl, hB2⟩)
    | (refine wpList_store_row rfl 23 (.tmp 5) (.tmp 12) rfl w2.heap.size _ rfl rfl 23 _ (row_new w2 .u8 23 (List.replicate 32 0)) (by rw [List.size_toArray, List.length_map, HDL.out]; kernel_rfl) (by rw [List.size_toArray, List.length_map, List.size_toArray, List.length_map, HDL.out]; rfl) (all_one _ _) ?_)
    | (go_at_call 17; go_must (refine (base32R_any _ 32 _ D _ HDL.out (row_src (Row.setRow (row_new w2 .u8 23 (List.replicate 32 0)) .u8 D)) (by omega) HDR.out).mono ?_); rw [← HSE.out]; rintro e w4 ⟨rfl, hB4⟩))
  go_ret
  have hB0 := below_next HB1.out hB2
  exact ⟨rfl, below_next (below_setRow (hB0.alloc hB0.size _) hB0.size _) hB4⟩
set_option maxRecDepth 100000 in
set_option maxHeartbeats 1000000 in
theorem standP_any (r o : ByteArray) (kT : List Int) (w : World) (hr : r.size ≤ 1048576) (ho : o.size ≤ 1048576) (hH : Tab w 2 .u32 tHp) (hKt : Tab w 3 .u32 kT) (hkl : kT.length = 64) :
    Calls Tryd.prog 8 #[.string r, .string o] w fun e w' => e = .returned (.string (⟨#[47]⟩ ++ str (base32 (shaP kT (strI (⟨#[115, 116, 97, 110, 100, 58]⟩ ++ r ++ ⟨#[58]⟩ ++ o)))))) ∧ Below w.heap.size w w' := by
  have HKL := hid hkl
  have HT0 := hid hH
  have HT1 := hid hKt
  have hl0 := hH.lt
  have hl1 := hKt.lt
  obtain ⟨M, hM⟩ : ∃ M : ByteArray, M = ⟨#[115, 116, 97, 110, 100, 58]⟩ ++ r ++ ⟨#[58]⟩ ++ o := ⟨_, rfl⟩
  have hMs : M.size ≤ 2097200 := by
    rw [hM, append_size, append_size, append_size]
    show 6 + r.size + 1 + o.size ≤ _
    omega
  obtain ⟨n, c, W1, hconv, hn, hnc, hS1, hB1⟩ := conv_any w M
  rw [hM] at hconv
  rw [← hM]
  have HMS := hid (hn ▸ hMs : n ≤ 2097200)
  have HL := hid (show (strI M).length = n by rw [strI_length, hn])
  have HS1 := hid hS1
  have HB1 := hid hB1
  have HSH := hid (of_any (some ⟨w.heap.size, 0, none⟩) n c (strI M) kT W1 HL.out hnc hS1 (by have := HMS.out; omega) (hH.below hB1 hl0) (hKt.below hB1 hl1) hkl)
  obtain ⟨D, hD⟩ : ∃ D, D = shaP kT (strI M) := ⟨_, rfl⟩
  rw [← hD] at HSH ⊢
  have hDl : D.length = 32 := by rw [hD]; exact oB_length _ _
  have HDL := hid hDl
  have HDR := hid (show ∀ i, i < 32 → 0 ≤ D.getD i 0 ∧ D.getD i 0 ≤ 255 by intro i _; rw [hD]; exact oB_range _ _ i)
  have hbs : (str (base32 D)).size = 52 := by rw [str_size]; unfold base32; rw [b32_length, hDl]; rfl
  obtain ⟨S, hS⟩ : ∃ S, S = str (base32 D) := ⟨_, rfl⟩
  rw [← hS] at hbs ⊢
  have HSE := hid hS
  clear hkl hH hKt hM hMs hn hS1 hB1 hD hDl hS
  go_enter Tryd.func8, Tryd.ntmps8
  go_wp2_with (first
    | (go_at_call 13; go_must (refine HSH.out.mono ?_); rintro e w2 ⟨rfl, hB2⟩)
    | (refine wpList_store_row rfl 23 (.tmp 5) (.tmp 12) rfl w2.heap.size _ rfl rfl 23 _ (row_new w2 .u8 23 (List.replicate 32 0)) (by rw [List.size_toArray, List.length_map, HDL.out]; kernel_rfl) (by rw [List.size_toArray, List.length_map, List.size_toArray, List.length_map, HDL.out]; rfl) (all_one _ _) ?_)
    | (go_at_call 16; go_must (refine (base32P_any _ 32 _ D _ HDL.out (row_src (Row.setRow (row_new w2 .u8 23 (List.replicate 32 0)) .u8 D)) (by omega) HDR.out).mono ?_); rw [← HSE.out]; rintro e w4 ⟨rfl, hB4⟩))
  go_ret
  have hB0 := below_next HB1.out hB2
  exact ⟨rfl, below_next (below_setRow (hB0.alloc hB0.size _) hB0.size _) hB4⟩
set_option maxRecDepth 100000 in
set_option maxHeartbeats 1000000 in
theorem scratchP_any (d : List Int) (o : ByteArray) (kT : List Int) (w : World) (hd : d.length = 32) (hr : ∀ i, i < 32 → 0 ≤ d.getD i 0 ∧ d.getD i 0 ≤ 255) (ho : o.size ≤ 1048576) (hH : Tab w 2 .u32 tHp) (hKt : Tab w 3 .u32 kT) (hkl : kT.length = 64) :
    Calls Tryd.prog 6 #[.agg (d.map (Value.int .u8)).toArray, .string o] w fun e w' => e = .returned (.agg ((fo (shaP kT (strI (⟨#[115, 99, 114, 97, 116, 99, 104, 58]⟩ ++ str (hexL d) ++ ⟨#[58]⟩ ++ o))) 32).map (Value.int .u8)).toArray) ∧ Below w.heap.size w w' := by
  have HN := hid hd
  have HR := hid hr
  have HKL := hid hkl
  have HT0 := hid hH
  have HT1 := hid hKt
  have hl0 := hH.lt
  have hl1 := hKt.lt
  have hz1 : (str (hexL d)).size = 64 := by rw [str_size, hexL_length, hd]
  obtain ⟨H, hHx⟩ : ∃ H, H = str (hexL d) := ⟨_, rfl⟩
  rw [← hHx] at hz1 ⊢
  have HH := hid hHx
  obtain ⟨M, hM⟩ : ∃ M : ByteArray, M = ⟨#[115, 99, 114, 97, 116, 99, 104, 58]⟩ ++ H ++ ⟨#[58]⟩ ++ o := ⟨_, rfl⟩
  have hMs : M.size ≤ 2097200 := by
    rw [hM, append_size, append_size, append_size]
    show 8 + H.size + 1 + o.size ≤ _
    omega
  rw [← hM]
  have HM := hid hM
  have HMS := hid hMs
  obtain ⟨D, hD⟩ : ∃ D, D = shaP kT (strI M) := ⟨_, rfl⟩
  rw [← hD]
  have HD := hid hD
  have HDL := hid (show D.length = 32 by rw [hD]; exact oB_length _ _)
  have hsz : (d.map (Value.int .u8)).toArray.size = 32 := by rw [List.size_toArray, List.length_map, hd]
  obtain ⟨r0, r1, rB⟩ := alloc2 w (.cells (d.map (Value.int .u8)).toArray 23) (.cells ((List.replicate 20 0).map (Value.int .u8)).toArray 26)
  obtain ⟨F, hF⟩ : ∃ F, F = fo D 32 := ⟨_, rfl⟩
  rw [← hF]
  have HF := hid hF
  have HFL := hid (show F.length = 20 by rw [hF]; exact fo_length D 32)
  clear hd hr hkl hH hKt hM hMs hD hHx hF
  go_enter Tryd.func6, Tryd.ntmps6
  go_wp2_with (first
    | (refine wpList_load_row rfl 23 (.tmp 2) rfl (w.heap.size) rfl 23 _ (0, 0) _ r0 Tryd.underlying23 rfl (by rw [List.size_toArray, List.length_map, HN.out]; kernel_rfl) ?_)
    | (go_at_call 10; go_must (refine (hexP_any _ 32 _ d _ HN.out ((src_new _ _ _ _).alloc _) (by omega) HR.out).mono ?_); rw [← HH.out]; rintro e w1 ⟨rfl, hB1⟩; obtain ⟨n, c, W1, hconv, hn, hnc, hS1, hBc⟩ := conv_any w1 M; rw [HM.out] at hconv; have HL := hid (show (strI M).length = n by rw [strI_length, hn]); have HNS := hid (show n ≤ 2097200 by rw [hn]; exact HMS.out); have HS1 := hid hS1; have HB0 := hid (below_next (below_next rB hB1) hBc); have rr1 : Row w1 (w.heap.size + 1) .u8 26 (List.replicate 20 0) := Row.below r1 hB1 (lt_of_block r1); have rr2 := rr1.below hBc rr1.lt; have HBc := hid hBc; clear hn hS1 hBc)
    | (go_at_call 13; go_must (refine (of_any _ n c (strI M) kT W1 HL.out hnc HS1.out (by have := HNS.out; omega) (HT0.out.below HB0.out hl0) (HT1.out.below HB0.out hl1) HKL.out).mono ?_); rw [← HD.out]; rintro e w2 ⟨rfl, hB2⟩; have rr3 := rr2.below hB2 rr2.lt)
    | (go_at_call 12; go_must (refine (foldP_any D _ HDL.out).mono ?_); rw [← HF.out]; rintro e w4 ⟨rfl, hB4⟩; have rr4 := rr3.below hB4 rr3.lt)
    | (refine wpList_store_row rfl 26 (.tmp 4) (.tmp 13) rfl (w.heap.size + 1) _ rfl rfl 26 _ rr4 (by rw [List.size_toArray, List.length_map, HFL.out]; kernel_rfl) (by rw [List.size_toArray, List.length_map, List.size_toArray, List.length_map, HFL.out]; rfl) (all_one _ _) ?_))
  refine bodyPost_ret (v := .agg (F.map (Value.int .u8)).toArray) ?_ rfl ⟨rfl, below_setRow (below_next (below_next HB0.out hB2) hB4) (by omega) _⟩
  exact results_cell_row (p := 4) (ty := 26) Tryd.results6 _ _ (w.heap.size + 1) 26 _ (0, 0) _ rfl (Row.setRow rr4 _ _) Tryd.underlying26 rfl (by rw [List.size_toArray, List.length_map, HFL.out]; kernel_rfl)

set_option maxRecDepth 100000 in
set_option maxHeartbeats 1000000 in
theorem scratchR_any (d : List Int) (o : ByteArray) (kT : List Int) (w : World) (hd : d.length = 32) (hr : ∀ i, i < 32 → 0 ≤ d.getD i 0 ∧ d.getD i 0 ≤ 255) (ho : o.size ≤ 1048576) (hH : Tab w 0 .u32 tH) (hKt : Tab w 1 .u32 kT) (hkl : kT.length = 64) :
    Calls Tryd.prog 7 #[.agg (d.map (Value.int .u8)).toArray, .string o] w fun e w' => e = .returned (.agg ((fo (shaR kT (strI (⟨#[115, 99, 114, 97, 116, 99, 104, 58]⟩ ++ str (hexL d) ++ ⟨#[58]⟩ ++ o))) 32).map (Value.int .u8)).toArray) ∧ Below w.heap.size w w' := by
  have HN := hid hd
  have HR := hid hr
  have HKL := hid hkl
  have HT0 := hid hH
  have HT1 := hid hKt
  have hl0 := hH.lt
  have hl1 := hKt.lt
  have hz1 : (str (hexL d)).size = 64 := by rw [str_size, hexL_length, hd]
  obtain ⟨H, hHx⟩ : ∃ H, H = str (hexL d) := ⟨_, rfl⟩
  rw [← hHx] at hz1 ⊢
  have HH := hid hHx
  obtain ⟨M, hM⟩ : ∃ M : ByteArray, M = ⟨#[115, 99, 114, 97, 116, 99, 104, 58]⟩ ++ H ++ ⟨#[58]⟩ ++ o := ⟨_, rfl⟩
  have hMs : M.size ≤ 2097200 := by
    rw [hM, append_size, append_size, append_size]
    show 8 + H.size + 1 + o.size ≤ _
    omega
  rw [← hM]
  have HM := hid hM
  have HMS := hid hMs
  obtain ⟨D, hD⟩ : ∃ D, D = shaR kT (strI M) := ⟨_, rfl⟩
  rw [← hD]
  have HD := hid hD
  have HDL := hid (show D.length = 32 by rw [hD]; exact oB_length _ _)
  obtain ⟨r0, r1, rB⟩ := alloc2 w (.cells (d.map (Value.int .u8)).toArray 23) (.cells ((List.replicate 20 0).map (Value.int .u8)).toArray 26)
  obtain ⟨F, hF⟩ : ∃ F, F = fo D 32 := ⟨_, rfl⟩
  rw [← hF]
  have HF := hid hF
  have HFL := hid (show F.length = 20 by rw [hF]; exact fo_length D 32)
  clear hd hr hkl hH hKt hM hMs hD hHx hF
  go_enter Tryd.func7, Tryd.ntmps7
  go_wp2_with (first
    | (refine wpList_load_row rfl 23 (.tmp 2) rfl (w.heap.size) rfl 23 _ (0, 0) _ r0 Tryd.underlying23 rfl (by rw [List.size_toArray, List.length_map, HN.out]; kernel_rfl) ?_)
    | (go_at_call 11; go_must (refine (hex_any d _ HN.out HR.out).mono ?_); rw [← HH.out]; rintro e w1 ⟨rfl, hB1⟩; obtain ⟨n, c, W1, hconv, hn, hnc, hS1, hBc⟩ := conv_any w1 M; rw [HM.out] at hconv; have HL := hid (show (strI M).length = n by rw [strI_length, hn]); have HNS := hid (show n ≤ 2097200 by rw [hn]; exact HMS.out); have HS1 := hid hS1; have HB0 := hid (below_next (below_next rB hB1) hBc); have rr1 : Row w1 (w.heap.size + 1) .u8 26 (List.replicate 20 0) := Row.below r1 hB1 (lt_of_block r1); have rr2 := rr1.below hBc rr1.lt; have HBc := hid hBc; clear hn hS1 hBc)
    | (go_at_call 14; go_must (refine (ofR_any _ n c (strI M) kT W1 HL.out  HS1.out (by have := HNS.out; omega) (HT0.out.below HB0.out hl0) (HT1.out.below HB0.out hl1) HKL.out).mono ?_); rw [← HD.out]; rintro e w2 ⟨rfl, hB2⟩; have rr3 := rr2.below hB2 rr2.lt; have rrD := row_new w2 .u8 23 (List.replicate 32 0); have rrE := Row.setRow rrD .u8 D; have rr3' := Row.farRow (rr3.alloc (.cells ((List.replicate 32 0).map (Value.int .u8)).toArray 23)) w2.heap.size (by have := rr3.lt; omega) ((D.map (Value.int .u8)).toArray))
    | (refine wpList_store_row rfl 23 (.tmp 5) (.tmp 13) rfl w2.heap.size _ rfl rfl 23 _ rrD (by rw [List.size_toArray, List.length_map, HDL.out]; kernel_rfl) (by rw [List.size_toArray, List.length_map, List.size_toArray, List.length_map, HDL.out]; rfl) (all_one _ _) ?_)
    | (refine wpList_load_row rfl 23 (.tmp 5) rfl w2.heap.size rfl 23 _ (0, 0) _ rrE Tryd.underlying23 rfl (by rw [List.size_toArray, List.length_map, HDL.out]; kernel_rfl) ?_)
    | (go_at_call 15; go_must (refine (foldR_any D _ HDL.out).mono ?_); rw [← HF.out]; rintro e w4 ⟨rfl, hB4⟩; have rr4 := rr3'.below hB4 rr3'.lt)
    | (refine wpList_store_row rfl 26 (.tmp 4) (.tmp 15) rfl (w.heap.size + 1) _ rfl rfl 26 _ rr4 (by rw [List.size_toArray, List.length_map, HFL.out]; kernel_rfl) (by rw [List.size_toArray, List.length_map, List.size_toArray, List.length_map, HFL.out]; rfl) (all_one _ _) ?_))
  refine bodyPost_ret (v := .agg (F.map (Value.int .u8)).toArray) ?_ rfl ⟨rfl, below_setRow (below_next (below_setRow ((below_next HB0.out hB2).alloc (below_next HB0.out hB2).size _) (below_next HB0.out hB2).size _) hB4) (by omega) _⟩
  exact results_cell_row (p := 4) (ty := 26) Tryd.results7 _ _ (w.heap.size + 1) 26 _ (0, 0) _ rfl (Row.setRow rr4 _ _) Tryd.underlying26 rfl (by rw [List.size_toArray, List.length_map, HFL.out]; kernel_rfl)

end Go.Proofs.YtljcojnfpdfaeaaDoor
