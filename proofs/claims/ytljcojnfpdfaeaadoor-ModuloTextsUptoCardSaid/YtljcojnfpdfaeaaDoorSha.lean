/- SHA-256 as plain functions on lists of numbers: what both packages' loops come to, round by round. -/
import Derived.RowKit
import Derived.Laws.BitsAll
namespace Go.Proofs.YtljcojnfpdfaeaaDoor
open Go.RowKit

def rotr (x n : Int) : Int := bits BinOp.or IntKind.u32 (x / 2 ^ n.toNat) (x * 2 ^ (32 - n).toNat % 4294967296)
def word (a b c d : Int) : Int :=
  bits BinOp.or IntKind.u32 (bits BinOp.or IntKind.u32 (bits BinOp.or IntKind.u32 (a % 4294967296 * 16777216 % 4294967296) (b % 4294967296 * 65536 % 4294967296)) (c % 4294967296 * 256 % 4294967296)) (d % 4294967296)
/-- The first loop: t words read. -/
def wL (p : List Int) : Nat → List Int
  | 0 => List.replicate 64 0
  | t + 1 => (wL p t).set t (word (p.getD (4 * t) 0) (p.getD (4 * t + 1) 0) (p.getD (4 * t + 2) 0) (p.getD (4 * t + 3) 0))
theorem wL_length (p : List Int) (t : Nat) : (wL p t).length = 64 := by
  induction t with
  | zero => simp [wL]
  | succ t ih => simp [wL, ih]
def exw (x0 x1 x2 x3 : Int) : Int :=
  (((x0 + bits BinOp.xor IntKind.u32 (bits BinOp.xor IntKind.u32 (rotr x1 7) (rotr x1 18)) (x1 / 8)) % 4294967296 + x2) % 4294967296
    + bits BinOp.xor IntKind.u32 (bits BinOp.xor IntKind.u32 (rotr x3 17) (rotr x3 19)) (x3 / 1024)) % 4294967296
theorem exw_flat (x0 x1 x2 x3 : Int) : exw x0 x1 x2 x3 =
    (x0 + bits BinOp.xor IntKind.u32 (bits BinOp.xor IntKind.u32 (rotr x1 7) (rotr x1 18)) (x1 / 8) + x2
      + bits BinOp.xor IntKind.u32 (bits BinOp.xor IntKind.u32 (rotr x3 17) (rotr x3 19)) (x3 / 1024)) % 4294967296 := by
  unfold exw; omega
/-- The second loop: k words more. -/
def wE (p : List Int) : Nat → List Int
  | 0 => wL p 16
  | k + 1 => (wE p k).set (k + 16) (exw ((wE p k).getD k 0) ((wE p k).getD (k + 1) 0) ((wE p k).getD (k + 9) 0) ((wE p k).getD (k + 14) 0))
theorem wE_length (p : List Int) (t : Nat) : (wE p t).length = 64 := by
  induction t with
  | zero => exact wL_length p 16
  | succ t ih => simp [wE, ih]
def rX (e f g h k wt : Int) : Int :=
  h + bits BinOp.xor IntKind.u32 (bits BinOp.xor IntKind.u32 (rotr e 6) (rotr e 11)) (rotr e 25)
    + bits BinOp.xor IntKind.u32 (bits BinOp.and IntKind.u32 e f) (bits BinOp.and IntKind.u32 (bits BinOp.xor IntKind.u32 IntKind.u32.max e) g) + k + wt
def rY (a b c : Int) : Int :=
  bits BinOp.xor IntKind.u32 (bits BinOp.xor IntKind.u32 (rotr a 2) (rotr a 13)) (rotr a 22)
    + bits BinOp.xor IntKind.u32 (bits BinOp.xor IntKind.u32 (bits BinOp.and IntKind.u32 a b) (bits BinOp.and IntKind.u32 a c)) (bits BinOp.and IntKind.u32 b c)
def rnd (s : List Int) (k wt : Int) : List Int :=
  [(rX (s.getD 4 0) (s.getD 5 0) (s.getD 6 0) (s.getD 7 0) k wt + rY (s.getD 0 0) (s.getD 1 0) (s.getD 2 0)) % 4294967296, s.getD 0 0, s.getD 1 0, s.getD 2 0,
    (s.getD 3 0 + rX (s.getD 4 0) (s.getD 5 0) (s.getD 6 0) (s.getD 7 0) k wt) % 4294967296, s.getD 4 0, s.getD 5 0, s.getD 6 0]
/-- The third loop. -/
def rS (st kT ws : List Int) : Nat → List Int
  | 0 => st
  | t + 1 => rnd (rS st kT ws t) (kT.getD t 0) (ws.getD t 0)
/-- The last loop. -/
def fin (st s : List Int) : Nat → List Int
  | 0 => st
  | i + 1 => (fin st s i).set i (((fin st s i).getD i 0 + s.getD i 0) % 4294967296)
theorem fin_length (st s : List Int) (i : Nat) : (fin st s i).length = st.length := by
  induction i with
  | zero => rfl
  | succ i ih => simp [fin, ih]
/-- A block taken into a state. -/
def cmp (kT st p : List Int) : List Int := fin st (rS st kT (wE p 48) 64) 8
theorem cmp_length (kT st p : List Int) : (cmp kT st p).length = st.length := fin_length _ _ _
theorem eight (l : List Int) (h : l.length = 8) : ∃ d0 d1 d2 d3 d4 d5 d6 d7, l = [d0, d1, d2, d3, d4, d5, d6, d7] := by
  match l, h with
  | [d0, d1, d2, d3, d4, d5, d6, d7], _ => exact ⟨d0, d1, d2, d3, d4, d5, d6, d7, rfl⟩
end Go.Proofs.YtljcojnfpdfaeaaDoor
namespace Go.Proofs.YtljcojnfpdfaeaaDoor
open Go.RowKit
def pz (n : Nat) : Nat := (119 - n % 64) % 64
/-- The low bytes of a number, the highest of j first, from place 7 on down. -/
def be (bits : Int) : Nat → List Int
  | 0 => []
  | j + 1 => be bits j ++ [bits / 2 ^ (8 * (7 - j)) % 256]
theorem be_length (bits : Int) (j : Nat) : (be bits j).length = j := by
  induction j with
  | zero => rfl
  | succ j ih => simp [be, ih]
def padL (d : List Int) : List Int := d ++ [128] ++ List.replicate (pz d.length) 0 ++ be (d.length * 8) 8
theorem padL_length (d : List Int) : (padL d).length = d.length + 1 + pz d.length + 8 := by simp [padL, be_length]; omega
end Go.Proofs.YtljcojnfpdfaeaaDoor
namespace Go.Proofs.YtljcojnfpdfaeaaDoor
open Go.RowKit
/-- n blocks of a message taken into a state. -/
def blks (kT st m : List Int) : Nat → List Int
  | 0 => st
  | n + 1 => cmp kT (blks kT st m n) (m.drop (64 * n))
theorem blks_length (kT st m : List Int) (n : Nat) : (blks kT st m n).length = st.length := by
  induction n with
  | zero => rfl
  | succ n ih => rw [blks, cmp_length, ih]
/-- The state's bytes, the first i of them. -/
def oB (st : List Int) : Nat → List Int
  | 0 => List.replicate 32 0
  | i + 1 => (oB st i).set i (st.getD (i / 4) 0 / 2 ^ (24 - 8 * (i % 4)) % 256)
theorem oB_length (st : List Int) (i : Nat) : (oB st i).length = 32 := by
  induction i with
  | zero => simp [oB]
  | succ i ih => simp [oB, ih]
end Go.Proofs.YtljcojnfpdfaeaaDoor
namespace Go.Proofs.YtljcojnfpdfaeaaDoor
open Go.RowKit
/-- The last block or two: the bytes behind the last whole block, the mark, zeros. -/
def lastA (T : List Int) : List Int := (T ++ List.replicate (128 - T.length) 0).set T.length 128
/-- .. and the length in bits, its first i bytes. -/
def lastB (L : List Int) (bits : Int) (E : Nat) : Nat → List Int
  | 0 => L
  | i + 1 => (lastB L bits E i).set (E - 1 - i) (bits / 2 ^ (8 * i) % 256)
theorem lastA_length (T : List Int) (h : T.length ≤ 128) : (lastA T).length = 128 := by simp [lastA]; omega
theorem lastB_length (L : List Int) (bits : Int) (E i : Nat) : (lastB L bits E i).length = L.length := by
  induction i with
  | zero => rfl
  | succ i ih => simp [lastB, ih]
end Go.Proofs.YtljcojnfpdfaeaaDoor
