/- (*digest.Hasher).Write of all there is, at a hasher that has taken nothing. -/
import Derived.Test.YtljcojnfpdfaeaaDoorA6
namespace Go.Proofs.YtljcojnfpdfaeaaDoor
open Go.RowKit

/-- A hasher's cells. -/
def hcells (st rest : List Int) (n : Int) : List Value := st.map (Value.int .u32) ++ (rest.map (Value.int .u8) ++ [.int .i64 n])
theorem hcells_n {w : World} {b : Nat} {T : TypeId} {st rest : List Int} {n : Int} (h : Blk w b T (hcells st rest n)) (h1 : st.length = 8) (h2 : rest.length = 64) : w.cell? ⟨b, 72, none⟩ = some (.int .i64 n) := by
  rw [h.at]; unfold hcells
  rw [List.getElem?_append_right (by simp; omega), List.getElem?_append_right (by simp; omega)]
  simp [h1, h2]
theorem hcells_set {w : World} {b : Nat} {T : TypeId} {st rest : List Int} {n : Int} (h : Blk w b T (hcells st rest n)) (h1 : st.length = 8) (h2 : rest.length = 64) (m : Int) : Blk (w.setCell ⟨b, 72, none⟩ (.int .i64 m)) b T (hcells st rest m) := by
  have := h.set 72 (.int .i64 m)
  unfold hcells at this ⊢
  rwa [List.set_append_right _ _ (by simp; omega), List.set_append_right _ _ (by simp; omega), show 72 - (st.map (Value.int .u32)).length - (rest.map (Value.int .u8)).length = 0 by simp [h1, h2], List.set_cons_zero] at this
theorem hcells_copy (st rest news : List Int) (n : Int) (h1 : st.length = 8) (_h2 : rest.length = 64) (h3 : news.length ≤ 64) :
    (hcells st rest n).take 8 ++ (news.map (Value.int .u8) ++ (hcells st rest n).drop (8 + news.length)) = hcells st (news ++ rest.drop news.length) n := by
  unfold hcells
  rw [List.take_append_of_le_length (by simp [h1]), List.take_of_length_le (by simp [h1]), List.drop_append, List.drop_of_length_le (by simp [h1])]
  rw [show 8 + news.length - (st.map (Value.int .u32)).length = news.length by simp [h1], List.drop_append_of_le_length (by simp; omega), List.map_append, List.map_drop]
  simp

set_option maxRecDepth 100000 in
set_option maxHeartbeats 1000000 in
theorem write_any (b : Nat) (A : Option Addr) (n c : Nat) (st rest d kT : List Int) (w : World) (hn : d.length = n) (hc : n ≤ c) (hd : Src w A .u8 d) (hA : d ≠ [] → ∀ b' o, A = some ⟨b', o, none⟩ → b' ≠ b) (hbd : n ≤ 70368744177664)
    (hst : st.length = 8) (hrl : rest.length = 64) (hh : Blk w b 49 (hcells st rest 0)) (hK : Tab w 3 .u32 kT) (hkl : kT.length = 64) (hb3 : 3 ≠ b) :
    Calls Tryd.prog 20 #[.pointer (some ⟨b, 0, none⟩), .slice A n c] w fun e w' => e = .returned (.int .i64 0) ∧ Only b w w' ∧ Blk w' b 49 (hcells (blks kT st d (n / 64)) (d.drop (64 * (n / 64)) ++ rest.drop (n % 64)) n) := by
  have HN := hid hn
  have HD := hid hd
  have HA := hid hA
  have HKL := hid hkl
  have HST := hid hst
  have HRL := hid hrl
  have HK := hid hK
  have c0 := hcells_n hh hst hrl
  have f0 := hh.free 72
  have q1 : ¬ (1152921504606846976 : Int) < n := by omega
  have hw2 := hcells_set hh hst hrl n
  clear hn hd hA hkl hst hrl hK
  go_enter Tryd.func20, Tryd.ntmps20
  go_wp2
  have hO0 : Only b w (w.setCell ⟨b, 72, none⟩ (.int .i64 n)) := (Only.refl b w).set 72 _
  have hS0 : Src (w.setCell ⟨b, 72, none⟩ (.int .i64 n)) A .u8 d := HD.out.only hO0 HA.out
  go_loopw [1] (fun v wr => ∃ (q m c' : Nat) (A' : Option Addr), q ≤ n / 64 ∧ v = .slice A' m c' ∧ Hid (m = n - 64 * q) ∧ m ≤ c' ∧ Src wr A' .u8 (d.drop (64 * q)) ∧ Hid (d.drop (64 * q) ≠ [] → ∀ b' o, A' = some ⟨b', o, none⟩ → b' ≠ b) ∧ Only b w wr ∧ Blk wr b 49 (hcells (blks kT st d q) rest n)) (fun v _ => sl v)
  case atStart => exact ⟨0, n, c, A, by omega, rfl, rfl, hc, hS0, HA, hO0, hw2⟩
  case round =>
    clear hO0 hS0 hw2 c0 f0 hh
    obtain ⟨q, m, c', A', hq, rfl, HM, hmc, hS, HA', hO, hh⟩ := hrel
    by_cases hlt : q < n / 64
    · have hm64 : 64 ≤ m := by have := HM.out; omega
      have hne : d.drop (64 * q) ≠ [] := by intro h; have h1 := congrArg List.length h; have h2 := HN.out; simp at h1; omega
      obtain ⟨bb, oo, rfl, hbb, hcell⟩ := hS hne
      have HNE := hid hne
      clear hne
      obtain ⟨x0, x1, x2, x3, x4, x5, x6, x7, hx⟩ := eight (blks kT st d q) (by rw [blks_length]; exact HST.out)
      have HX := hid hx
      have hdl : (d.drop (64 * q)).length = m := by rw [List.length_drop, HN.out, HM.out]
      have hKw := HK.out.only hO hb3
      have hcalls := mix_any b bb oo c' x0 x1 x2 x3 x4 x5 x6 x7 (d.drop (64 * q)) kT wr.drew 49 (rest.map (Value.int .u8) ++ [.int .i64 n]) (by rw [hx] at hh; exact hh) (fun i hi => hcell i (by omega)) hbb (fun i hi => hKw.cell i (by rw [HKL.out]; exact hi)) hKw.lt
      have HC := hid hcalls
      have hS' : Src wr (some ⟨bb, oo, none⟩) .u8 (d.drop (64 * q)) := fun _ => ⟨bb, oo, rfl, hbb, hcell⟩
      have HDL := hid hdl
      clear hx hcell hcalls hdl hKw
      have k1 : (64 : Int) ≤ m := by omega
      have k2 : (64 : Int) ≤ c' := by omega
      go_wp2
      refine region_tail 5 (by kernel_rfl) (by kernel_rfl) ?_
      simp only [List.take_succ_cons, List.take_zero, List.drop_succ_cons, List.drop_zero]
      repeat (refine wpStill_step (fun K hK => ?_); go_simp; (try go_ints); refine hK _ ?_; clear hK K)
      refine wpStill_nil ?_
      go_wp2_with (go_at_call 25; refine HC.out.mono ?_; rintro e w5 ⟨rfl, hh5, hO5⟩)
      go_roundw
      case rel =>
        have hO5' : Only b wr w5 := (Only.refl b wr).drew.trans hO5
        refine ⟨q + 1, m - 64, c' - 64, _, by omega, rfl, ?_, by omega, ?_, ?_, hO.trans hO5', ?_⟩
        · have := HM.out
          show m - 64 = n - 64 * (q + 1)
          omega
        · have h1 := (hS'.cut 64).only hO5' (fun _ b' o h => by injection h with h; injection h with h1 h2; subst h1; exact HA'.out HNE.out _ _ rfl)
          rw [List.drop_drop, show 64 * q + 64 = 64 * (q + 1) by omega] at h1
          split
          · intro hne
            have h2 := congrArg List.length (show d.drop (64 * (q + 1)) = d.drop (64 * (q + 1)) from rfl)
            have h3 := HM.out
            have h4 : (d.drop (64 * (q + 1))).length = 0 := by rw [List.length_drop, HN.out]; omega
            exact absurd (List.eq_nil_of_length_eq_zero h4) hne
          · exact h1
        · show _ → ∀ b' o, _ → _
          intro _ b' o h
          have h1 := HA'.out HNE.out bb oo rfl
          split at h <;> (injection h with h; injection h with h2 h3; omega)
        · rw [blks, HX.out]
          exact hh5
      case measure => simp only [sl]; omega
    · have eq := hid (show q = n / 64 by omega)
      have hm64 : ¬ (64 : Int) ≤ m := by have := HM.out; omega
      have hmle : m ≤ 64 := by omega
      have hdl : (d.drop (64 * q)).length = m := by rw [List.length_drop, HN.out, HM.out]
      have HDL := hid hdl
      have hcl := hid (show (hcells (blks kT st d q) rest n).length = 73 by unfold hcells; simp [blks_length, HST.out, HRL.out])
      have hm63 := hid (show 8 + m ≤ (hcells (blks kT st d q) rest n).length by rw [hcl.out]; omega)
      clear hlt hq hdl
      go_wp2_with ((refine wpList_copyI _ rfl (.tmp 69) (.tmp 70) 31 31 rfl 5 Tryd.underlying31 (by kernel_rfl) b 8 64 64 A' m c' rfl rfl _ 49 hh .u8 (d.drop (64 * q)) HDL.out hS hmle hm63.out ?_))
      go_ret
      refine ⟨rfl, hO.setRow _, ?_⟩
      have h2 := HDL.out
      have hL := hcells_copy (blks kT st d q) rest (d.drop (64 * q)) n (by rw [blks_length]; exact HST.out) HRL.out (by omega)
      rw [h2] at hL
      have h3 := HM.out
      have h4 := eq.out
      refine (setRow_heap wr b _ _ 49 _ hh).trans ?_
      rw [← List.map_drop, hL, show m = n % 64 by omega, h4]
end Go.Proofs.YtljcojnfpdfaeaaDoor
