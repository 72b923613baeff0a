/- The two ways of SHA-256 are one: the padded message block by block, or the whole blocks and then the last one or two. -/
import Derived.Test.YtljcojnfpdfaeaaDoorSha
namespace Go.Proofs.YtljcojnfpdfaeaaDoor
open Go.RowKit

theorem getD_app (l m : List Int) (z : Int) (i : Nat) (h : i < l.length) : (l ++ m).getD i z = l.getD i z := by
  rw [List.getD_eq_getElem?_getD, List.getD_eq_getElem?_getD, List.getElem?_append_left h]
theorem getD_app_r (l m : List Int) (z : Int) (i : Nat) (h : l.length ≤ i) : (l ++ m).getD i z = m.getD (i - l.length) z := by
  rw [List.getD_eq_getElem?_getD, List.getD_eq_getElem?_getD, List.getElem?_append_right h]
theorem wL_congr {p p' : List Int} (h : ∀ i, i < 64 → p.getD i 0 = p'.getD i 0) : ∀ t, t ≤ 16 → wL p t = wL p' t
  | 0, _ => rfl
  | t + 1, ht => by rw [wL, wL, wL_congr h t (by omega), h (4 * t) (by omega), h (4 * t + 1) (by omega), h (4 * t + 2) (by omega), h (4 * t + 3) (by omega)]
theorem wE_congr {p p' : List Int} (h : ∀ i, i < 64 → p.getD i 0 = p'.getD i 0) : ∀ t, wE p t = wE p' t
  | 0 => wL_congr h 16 (by omega)
  | t + 1 => by rw [wE, wE, wE_congr h t]
theorem cmp_congr {kT st p p' : List Int} (h : ∀ i, i < 64 → p.getD i 0 = p'.getD i 0) : cmp kT st p = cmp kT st p' := by
  unfold cmp; rw [wE_congr h 48]
theorem getD_drop (l : List Int) (a i : Nat) : (l.drop a).getD i 0 = l.getD (a + i) 0 := by
  simp [List.getD_eq_getElem?_getD]
theorem blks_congr {kT st m m' : List Int} : ∀ (n : Nat), (∀ i, i < 64 * n → m.getD i 0 = m'.getD i 0) → blks kT st m n = blks kT st m' n
  | 0, _ => rfl
  | n + 1, h => by
    rw [blks, blks, blks_congr n (fun i hi => h i (by omega))]
    exact cmp_congr fun i hi => by rw [getD_drop, getD_drop]; exact h _ (by omega)
theorem blks_add (kT st m : List Int) (a : Nat) : ∀ b, blks kT st m (a + b) = blks kT (blks kT st m a) (m.drop (64 * a)) b
  | 0 => rfl
  | b + 1 => by rw [← Nat.add_assoc, blks, blks, blks_add kT st m a b, List.drop_drop, Nat.mul_add]

theorem be_getD (bits : Int) : ∀ (j i : Nat), i < j → (be bits j).getD i 0 = bits / 2 ^ (8 * (7 - i)) % 256
  | j + 1, i, h => by
    rw [be]
    by_cases hi : i < j
    · rw [getD_app _ _ _ _ (by rw [be_length]; exact hi)]; exact be_getD bits j i hi
    · obtain rfl : i = j := by omega
      rw [getD_app_r _ _ _ _ (by rw [be_length]; omega), be_length]; simp
theorem set_getD (l : List Int) (a i : Nat) (v : Int) (ha : a < l.length) : (l.set a v).getD i 0 = if i = a then v else l.getD i 0 := by
  rw [List.getD_eq_getElem?_getD, List.getElem?_set]
  by_cases h : i = a
  · subst h; simp [ha]
  · rw [if_neg (Ne.symm h), if_neg h, List.getD_eq_getElem?_getD]
theorem lastB_getD (L : List Int) (bits : Int) (E : Nat) (hE : E ≤ L.length) : ∀ (k i : Nat), k ≤ E → (lastB L bits E k).getD i 0 = if E - k ≤ i ∧ i < E then bits / 2 ^ (8 * (E - 1 - i)) % 256 else L.getD i 0
  | 0, i, _ => by rw [lastB, if_neg (by omega)]
  | k + 1, i, hk => by
    rw [lastB, set_getD _ _ _ _ (by rw [lastB_length]; omega), lastB_getD L bits E hE k i (by omega)]
    by_cases h : i = E - 1 - k
    · rw [if_pos h, if_pos (by omega), show E - 1 - i = k by omega]
    · rw [if_neg h]
      by_cases h2 : E - k ≤ i ∧ i < E
      · rw [if_pos h2, if_pos (by omega)]
      · rw [if_neg h2, if_neg (by omega)]
theorem lastA_getD (T : List Int) (h : T.length ≤ 127) (i : Nat) : (lastA T).getD i 0 = if i = T.length then 128 else T.getD i 0 := by
  unfold lastA
  rw [set_getD _ _ _ _ (by simp; omega)]
  by_cases hi : i = T.length
  · rw [if_pos hi, if_pos hi]
  · rw [if_neg hi, if_neg hi]
    by_cases h2 : i < T.length
    · rw [getD_app _ _ _ _ h2]
    · rw [getD_app_r _ _ _ _ (by omega)]
      simp only [List.getD_eq_getElem?_getD, List.getElem?_eq_none (show T.length ≤ i by omega), List.getElem?_replicate]
      split <;> rfl
theorem padL_getD (d : List Int) (i : Nat) (hi : i < (padL d).length) : (padL d).getD i 0 =
    if i < d.length then d.getD i 0 else if i = d.length then 128 else if i < d.length + 1 + pz d.length then 0 else (d.length * 8 : Int) / 2 ^ (8 * (7 - (i - (d.length + 1 + pz d.length)))) % 256 := by
  rw [padL_length] at hi
  unfold padL
  by_cases h1 : i < d.length
  · rw [if_pos h1, getD_app _ _ _ _ (by simp; omega), getD_app _ _ _ _ (by simp; omega), getD_app _ _ _ _ h1]
  · rw [if_neg h1]
    by_cases h2 : i = d.length
    · rw [if_pos h2, getD_app _ _ _ _ (by simp; omega), getD_app _ _ _ _ (by simp; omega), getD_app_r _ _ _ _ (by omega), h2]; simp
    · rw [if_neg h2]
      by_cases h3 : i < d.length + 1 + pz d.length
      · rw [if_pos h3, getD_app _ _ _ _ (by simp; omega), getD_app_r _ _ _ _ (by simp; omega)]
        simp only [List.getD_eq_getElem?_getD, List.getElem?_replicate]
        split <;> rfl
      · rw [if_neg h3, getD_app_r _ _ _ _ (by simp; omega), be_getD _ _ _ (by simp; omega)]
        congr 5
        simp; omega

theorem sha_blocks (kT st d : List Int) :
    blks kT (blks kT st d (d.length / 64)) (lastB (lastA (d.drop (64 * (d.length / 64)))) (d.length * 8) (if d.length % 64 < 56 then 64 else 128) 8) (if d.length % 64 < 56 then 1 else 2)
      = blks kT st (padL d) ((padL d).length / 64) := by
  obtain ⟨E, nb, hE⟩ : ∃ E nb, d.length % 64 < 56 ∧ E = 64 ∧ nb = 1 ∨ ¬ d.length % 64 < 56 ∧ E = 128 ∧ nb = 2 := by
    by_cases h : d.length % 64 < 56
    · exact ⟨64, 1, .inl ⟨h, rfl, rfl⟩⟩
    · exact ⟨128, 2, .inr ⟨h, rfl, rfl⟩⟩
  have e1 : (if d.length % 64 < 56 then 64 else 128) = E := by rcases hE with ⟨h, rfl, _⟩ | ⟨h, rfl, _⟩ <;> simp [h]
  have e2 : (if d.length % 64 < 56 then 1 else 2) = nb := by rcases hE with ⟨h, _, rfl⟩ | ⟨h, _, rfl⟩ <;> simp [h]
  have hz : d.length + 1 + pz d.length + 8 = 64 * (d.length / 64) + E := by
    unfold pz
    rcases hE with ⟨h, rfl, _⟩ | ⟨h, rfl, _⟩ <;> omega
  have e3 : (padL d).length / 64 = d.length / 64 + nb := by
    rw [padL_length, hz]
    rcases hE with ⟨h, rfl, rfl⟩ | ⟨h, rfl, rfl⟩ <;> omega
  have hEn : E = 64 * nb := by rcases hE with ⟨_, rfl, rfl⟩ | ⟨_, rfl, rfl⟩ <;> rfl
  have hEl : E ≤ 128 := by rcases hE with ⟨_, rfl, _⟩ | ⟨_, rfl, _⟩ <;> omega
  have hE9 : d.length % 64 + 9 ≤ E := by rcases hE with ⟨_, rfl, _⟩ | ⟨_, rfl, _⟩ <;> omega
  rw [e1, e2, e3, blks_add]
  have hq : blks kT st d (d.length / 64) = blks kT st (padL d) (d.length / 64) :=
    blks_congr _ fun i hi => by rw [padL_getD _ _ (by rw [padL_length]; omega), if_pos (by omega)]
  rw [hq]
  refine blks_congr _ fun i hi => ?_
  have hTl : (d.drop (64 * (d.length / 64))).length = d.length % 64 := by rw [List.length_drop]; omega
  rw [getD_drop, padL_getD _ _ (by rw [padL_length]; omega), lastB_getD _ _ _ (by rw [lastA_length _ (by omega)]; exact hEl) _ _ (by omega), lastA_getD _ (by omega), hTl, getD_drop]
  by_cases h1 : E - 8 ≤ i ∧ i < E
  · rw [if_pos h1, if_neg (by omega), if_neg (by omega), if_neg (by omega)]
    congr 3
    omega
  · rw [if_neg h1]
    by_cases h2 : i = d.length % 64
    · rw [if_pos h2, if_neg (by omega), if_pos (by omega)]
    · rw [if_neg h2]
      by_cases h3 : 64 * (d.length / 64) + i < d.length
      · rw [if_pos h3]
      · rw [if_neg h3, if_neg (by omega), if_pos (by omega)]
        rw [List.getD_eq_getElem?_getD, List.getElem?_eq_none (by omega)]; rfl
end Go.Proofs.YtljcojnfpdfaeaaDoor
