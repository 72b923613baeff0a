/- Strings and bytes: conversions both ways. -/
import Derived.Test.YtljcojnfpdfaeaaDoorOwn
import Derived.Lib.ConvBytes
import Derived.Laws.BytesString
namespace Go.Proofs.YtljcojnfpdfaeaaDoor
open Go.RowKit

/-- The string of these bytes. -/
def str (l : List Int) : ByteArray := ⟨(l.map fun n => UInt8.ofNat n.toNat).toArray⟩
/-- A string's bytes as numbers. -/
def strI (s : ByteArray) : List Int := s.data.toList.map fun b => (b.toNat : Int)
theorem strI_length (s : ByteArray) : (strI s).length = s.size := by simp [strI]
theorem strI_range (s : ByteArray) (i : Nat) : 0 ≤ (strI s).getD i 0 ∧ (strI s).getD i 0 ≤ 255 := by
  unfold strI
  rw [List.getD_eq_getElem?_getD, List.getElem?_map]
  rcases s.data.toList[i]? with _ | b
  · simp
  · simp only [Option.map_some, Option.getD_some]
    have := b.toNat_lt
    omega
theorem foldl_push (l : List Int) : ∀ s : ByteArray, (l.foldl (fun r n => r.push (UInt8.ofNat n.toNat)) s) = ⟨s.data ++ (l.map fun n => UInt8.ofNat n.toNat).toArray⟩ := by
  induction l with
  | nil => intro s; simp
  | cons x l ih => intro s; rw [List.foldl_cons, ih]; simp [ByteArray.push]
theorem foldl_str (l : List Int) : (l.foldl (fun r n => r.push (UInt8.ofNat n.toNat)) ByteArray.empty) = str l := by
  rw [foldl_push]
  show (⟨#[] ++ _⟩ : ByteArray) = _
  simp [str]
theorem run_str {P : Program} (w : World) (src dst e : TypeId) (A : Option Addr) (c : Nat) (l : List Int)
    (hs : P.underlying src = some (.slice e)) (he : P.underlying e = some (.int .u8)) (hd : P.underlying dst = some .string) (h : Src w A .u8 l) :
    (convert src dst (.slice A l.length c)).run P w = .ok (.string (str l)) w := by
  rw [run_convert_bytes_string w src dst e A _ c hs he hd]
  by_cases hl : l = []
  · subst hl
    rcases A with _ | a
    · simp [Conv.bytesToString, str, Sem.run_pure]; rfl
    · rw [← foldl_str]
      exact run_bytesToString w a 0 c [] (by simp [loadCells, loadCellsFrom, Sem.run_pure])
  · obtain ⟨b, o, rfl, _, hc⟩ := h.cells hl
    rw [← foldl_str]
    have := run_loadCells_list (P := P) w ⟨b, o, none⟩ (l.map (Value.int .u8)) hc
    rw [List.length_map] at this
    exact run_bytesToString w _ _ c l this
theorem bytesWorld_src (w : World) (e : TypeId) (s : ByteArray) : Src (Lib.bytesWorld w e s) (some ⟨w.heap.size, 0, none⟩) .u8 (strI s) := fun _ =>
  ⟨w.heap.size, 0, rfl, by rw [Lib.bytesWorld_size]; omega, fun i hi => by
    rw [strI_length] at hi
    rw [Nat.zero_add, Lib.bytesWorld_cell _ _ _ _ hi]
    have hi' : i < s.data.toList.length := by simpa using hi
    simp [strI, List.getD_eq_getElem?_getD, List.getElem?_eq_getElem hi']⟩
theorem bytesWorld_below (w : World) (e : TypeId) (s : ByteArray) : Below w.heap.size w (Lib.bytesWorld w e s) :=
  ⟨rfl, rfl, rfl, by rw [Lib.bytesWorld_size]; omega, fun k hk => Lib.bytesWorld_at_old w e s k hk⟩
end Go.Proofs.YtljcojnfpdfaeaaDoor
