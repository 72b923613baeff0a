/- graftref1.Hex and digest.Hex. -/
import Derived.Test.YtljcojnfpdfaeaaDoorA1
import Derived.Test.YtljcojnfpdfaeaaDoorStr
import Derived.Deep.RegionHeld3
namespace Go.Proofs.YtljcojnfpdfaeaaDoor
open Go.RowKit
def dg16 (x : Int) : Int := if h : x.toNat < 16 then ((ByteArray.mk #[48, 49, 50, 51, 52, 53, 54, 55, 56, 57, 97, 98, 99, 100, 101, 102])[x.toNat]'h).toNat else 0
theorem dg16_at (x : Int) (h : x.toNat < 16) : (((ByteArray.mk #[48, 49, 50, 51, 52, 53, 54, 55, 56, 57, 97, 98, 99, 100, 101, 102])[x.toNat]'h).toNat : Int) = dg16 x := by unfold dg16; rw [dif_pos h]
def hexL : List Int → List Int
  | [] => []
  | x :: l => dg16 (x / 16) :: dg16 (x % 16) :: hexL l
theorem hexL_length (l : List Int) : (hexL l).length = 2 * l.length := by
  induction l with
  | nil => rfl
  | cons x l ih => simp [hexL, ih]; omega
theorem hexL_append (l m : List Int) : hexL (l ++ m) = hexL l ++ hexL m := by
  induction l with
  | nil => rfl
  | cons x l ih => simp [hexL, ih]
theorem infoH : (Tryd.prog.info? 5).map (fun i => (i.zero, i.size, i.bytes)) = some (some (.int .u8 0), 1, 1) := by kernel_rfl

set_option maxRecDepth 100000 in
set_option maxHeartbeats 1000000 in
theorem hexR_any (A : Option Addr) (n c : Nat) (d : List Int) (w : World) (hn : d.length = n) (hd : Src w A .u8 d) (hb : n ≤ 70368744177664) (hr : ∀ i, i < n → 0 ≤ d.getD i 0 ∧ d.getD i 0 ≤ 255) :
    Calls Tryd.prog 18 #[.slice A n c] w fun e w' => e = .returned (.string (str (hexL d))) ∧ Below w.heap.size w w' := by
  have HN := hid hn
  have HD := hid hd
  have HR := hid hr
  clear hn hd hr
  go_enter Tryd.func18, Tryd.ntmps18
  go_wp2
  go_loopw [3, 4] (fun v i wr => ∃ j : Nat, j ≤ n ∧ i = .int .i64 j ∧ OwnI wr w.heap.size 5 .u8 v (hexL (d.take j)) ∧ Below w.heap.size w wr) (fun _ i _ => n - (intOf i).toNat)
  case atStart => exact ⟨0, by omega, rfl, OwnI.nil _ _ _ _, Below.refl _ _⟩
  case round =>
    obtain ⟨j, hj, rfl, ho, hB⟩ := hrel
    by_cases hlt : j < n
    · obtain ⟨b, o, rfl, hbl, hc⟩ := HD.out (by intro h; have := HN.out; rw [h] at this; simp at this; omega)
      have g0 := (hB.cell hbl).trans (hc j (by rw [HN.out]; exact hlt))
      have hblr : b < wr.heap.size := Nat.lt_of_lt_of_le hbl hB.size
      obtain ⟨x, hx⟩ : ∃ x, x = d.getD j 0 := ⟨_, rfl⟩
      rw [← hx] at g0
      obtain ⟨x0, x1⟩ := HR.out j hlt
      rw [← hx] at x0 x1
      have b8 : (j : Int) < n := by omega
      have y0 : x / 16 < 16 := by omega
      have y1 : x % 16 < 16 := by omega
      have y2 : 0 ≤ x / 16 := by omega
      have y3 : 0 ≤ x % 16 := by omega
      have hk := hid (fun o' => (World.cell?_alloc_lt wr o' ⟨b, o + j, none⟩ hblr).trans g0)
      have HX := hid hx
      clear hx hc
      go_wp2
      have q1 : IntKind.u8.wrap (x.tdiv 16) = x / 16 := IntWalk.u8_quo x 16 ⟨x0, x1, by omega⟩
      have q2 : x.tmod 16 = x % 16 := IntWalk.rem_in x 16 x0
      have q3 : IntKind.u8.wrap (x % 16) = x % 16 := IntWalk.u8_in _ (by omega)
      have z0 := dg16_at (x / 16) (by omega)
      have z1 := dg16_at (x % 16) (by omega)
      have hlen := hid (show ((hexL (d.take j)).length + ([dg16 (x / 16), dg16 (x % 16)] : List Int).length) * 1 ≤ 140737488355328 by rw [hexL_length]; simp only [List.length_cons, List.length_nil, List.length_take]; omega)
      go_region_held3 (fun w' => w'.cell? ⟨b, o + j, none⟩ = some (.int .u8 x)) (first | go_keep | exact (hB2.cell (p := ⟨b, o + j, none⟩) hbl).trans (hk.out _))
        ((refine step_appI _ rfl (.tmp 11) (.tmp 24) 31 rfl w.heap.size 5 .u8 1 Tryd.underlying31 infoH _ _ rfl ((ho.alloc _).drew) (some ⟨wr.heap.size, 0, none⟩) 2 2 [dg16 (x / 16), dg16 (x % 16)] rfl rfl (src_new _ _ _ _).drew hlen.out (by omega) (hB.alloc hB.size _).drew.size ?_; intro v2 w2 ho2 hB2 _ _))
      all_goals
        go_wp2
        go_roundw
        case rel =>
          have hx2 : hexL (d.take (j + 1)) = hexL (d.take j) ++ [dg16 (x / 16), dg16 (x % 16)] := by
            have hlt' : j < d.length := by rw [HN.out]; exact hlt
            rw [List.take_succ_eq_append_getElem hlt', hexL_append, HX.out, List.getD_eq_getElem?_getD, List.getElem?_eq_getElem hlt']
            rfl
          exact ⟨j + 1, by omega, by go_num, by rw [hx2]; exact ho2, (hB.alloc hB.size _).drew.trans hB2⟩
        case measure => simp only [intOf]; omega
    · have ej := hid (show j = n by omega)
      have hlt2 : ¬ (j : Int) < n := by omega
      clear hlt hj
      obtain ⟨A3, c3, rfl, hc3, hs3, _⟩ := ho.form
      have hrun := run_str (P := Tryd.prog) wr 31 9 5 A3 c3 _ Tryd.underlying31 Tryd.underlying5 Tryd.underlying9 hs3
      go_wp2
      go_ret
      refine ⟨?_, hB⟩
      rw [ej.out, ← HN.out, List.take_length]
      rfl

set_option maxRecDepth 100000 in
set_option maxHeartbeats 1000000 in
theorem hexP_any (A : Option Addr) (n c : Nat) (d : List Int) (w : World) (hn : d.length = n) (hd : Src w A .u8 d) (hb : n ≤ 70368744177) (hr : ∀ i, i < n → 0 ≤ d.getD i 0 ∧ d.getD i 0 ≤ 255) :
    Calls Tryd.prog 10 #[.slice A n c] w fun e w' => e = .returned (.string (str (hexL d))) ∧ Below w.heap.size w w' := by
  have HN := hid hn
  have HD := hid hd
  have HR := hid hr
  obtain ⟨i0, hi0, hz0, hz1, hz2⟩ := info_parts infoH
  have hi2 : 2 * (n : Int) = ((2 * n : Nat) : Int) := by omega
  have HI2 := hid hi2
  have hml := hid (show 2 * n ≤ maxLen by unfold maxLen; omega)
  have hmb := hid (show i0.bytes * (2 * n) ≤ 281474976710656 by rw [hz2]; omega)
  clear hn hd hr hi2 hz2
  go_enter Tryd.func10, Tryd.ntmps10
  go_wp2_with (at_make; refine wpList_make_own _ rfl _ _ 31 rfl w.heap.size 5 i0 (.int .u8 0) 1 Tryd.underlying31 hi0 hz0 hz1 .i64 .i64 _ (2 * n) rfl rfl HI2.out hmb.out hml.out (Nat.le_refl _) ?_; intro w1 ho1 hg1)
  have hB1 : Below w.heap.size w w1 := ⟨hg1.os, hg1.tape, hg1.output, hg1.size, fun k hk => hg1.block k hk (by simp)⟩
  have ho1' : OwnI w1 w.heap.size 5 .u8 (.slice (some ⟨w.heap.size, 0, none⟩) 0 (2 * n)) [] := ho1
  clear ho1 hg1
  go_loopw [3, 12] (fun v i wr => ∃ j : Nat, j ≤ n ∧ i = .int .i64 j ∧ OwnI wr w.heap.size 5 .u8 v (hexL (d.take j)) ∧ Below w.heap.size w wr) (fun _ i _ => n - (intOf i).toNat)
  case atStart => exact ⟨0, by omega, rfl, ho1', hB1⟩
  case round =>
    clear ho1' hB1
    obtain ⟨j, hj, rfl, ho, hB⟩ := hrel
    by_cases hlt : j < n
    · obtain ⟨b, o, rfl, hbl, hc⟩ := HD.out (by intro h; have := HN.out; rw [h] at this; simp at this; omega)
      have g0 := (hB.cell hbl).trans (hc j (by rw [HN.out]; exact hlt))
      obtain ⟨x, hx⟩ : ∃ x, x = d.getD j 0 := ⟨_, rfl⟩
      rw [← hx] at g0
      obtain ⟨x0, x1⟩ := HR.out j hlt
      rw [← hx] at x0 x1
      have b8 : (j : Int) < n := by omega
      have y0 : x / 16 < 16 := by omega
      have y1 : x % 16 < 16 := by omega
      have y2 : 0 ≤ x / 16 := by omega
      have y3 : 0 ≤ x % 16 := by omega
      have HX := hid hx
      clear hx hc
      have q1 : bits BinOp.and IntKind.u8 x 15 = x % 16 := u8_and15 _ x0 (by omega)
      have z0 := dg16_at (x / 16) (by omega)
      have z1 := dg16_at (x % 16) (by omega)
      have hlen := hid (show ((hexL (d.take j)).length + ([dg16 (x / 16), dg16 (x % 16)] : List Int).length) * 1 ≤ 140737488355328 by rw [hexL_length]; simp only [List.length_cons, List.length_nil, List.length_take]; omega)
      go_wp2
      go_region_held3 (fun _ => True) (trivial)
        ((refine step_appI _ rfl (.tmp 16) (.tmp 23) 31 rfl w.heap.size 5 .u8 1 Tryd.underlying31 infoH _ _ rfl ((ho.alloc _).drew) (some ⟨wr.heap.size, 0, none⟩) 2 2 [dg16 (x / 16), dg16 (x % 16)] rfl rfl (src_new _ _ _ _).drew hlen.out (by omega) (hB.alloc hB.size _).drew.size ?_; intro v2 w2 ho2 hB2 _ _))
      all_goals
        go_wp2
        go_roundw
        case rel =>
          have hx2 : hexL (d.take (j + 1)) = hexL (d.take j) ++ [dg16 (x / 16), dg16 (x % 16)] := by
            have hlt' : j < d.length := by rw [HN.out]; exact hlt
            rw [List.take_succ_eq_append_getElem hlt', hexL_append, HX.out, List.getD_eq_getElem?_getD, List.getElem?_eq_getElem hlt']
            rfl
          exact ⟨j + 1, by omega, by go_num, by rw [hx2]; exact ho2, (hB.alloc hB.size _).drew.trans hB2⟩
        case measure => simp only [intOf]; omega
    · have ej := hid (show j = n by omega)
      have hlt2 : ¬ (j : Int) < n := by omega
      clear hlt hj
      obtain ⟨A3, c3, rfl, hc3, hs3, _⟩ := ho.form
      have hrun := run_str (P := Tryd.prog) wr 31 9 5 A3 c3 _ Tryd.underlying31 Tryd.underlying5 Tryd.underlying9 hs3
      go_wp2
      go_ret
      refine ⟨?_, hB⟩
      rw [ej.out, ← HN.out, List.take_length]
      rfl
end Go.Proofs.YtljcojnfpdfaeaaDoor
