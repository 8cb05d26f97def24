/- A part of the proof of this sentence: OrderReads (35.5): the commands of any mail, as a member may send it, are as the document reads them; of at most 30 fields, names of at most 200, values and body of at most 3000 bytes. -/
import Derived.Test.YtihabmcaplnbcaaGreatDoorCOrderReads4
import Derived.Lib.ConvBytes
import Derived.Laws.Cover4
import Derived.Shelf.Strings.SlTrimAscii
import Derived.Deep.QuietTactic
import Derived.BigQuiet
import Derived.Shelf.Strings.IndexAnyAll
import Derived.Deep.SlicePairs
import Derived.ProofKit
import Derived.OpenShut
set_option linter.unusedVariables false
set_option linter.unusedSimpArgs false
namespace Go.Proofs.YtihabmcaplnbcaaGreatDoor.Pl
open Go.RowKit Go.Proofs.YtihabmcaplnbcaaGreatDoorW.PrintWords Go.Proofs.YtihabmcaplnbcaaGreatDoor.Fn

/-! The document's signs (out of XPGlyph, XPClean: beside POrderP). -/
def oneZ (s : ByteArray) (i : Nat) : Int × Int := if sign s i = 65533 ∧ width s i = 1 then (-1, 1) else ((sign s i : Int), (width s i : Int))
theorem bt_get (s : ByteArray) (i : Nat) : bt s (i : Int) = ((s.get! i).toNat : Int) := by
 by_cases h : i < s.size
 ·rw [bt_nat s i h]
  simp [ByteArray.get!, getElem!_pos, h]
  rfl
 have h1 : bt s (i : Int) = 0 := by
  unfold bt
  rw [dif_neg (by simpa using h)]
 have h2 : s.get! i = 0 := by
  have h3 : ¬ i < s.data.size := h
  show s.data[i]! = 0
  rw [getElem!_neg s.data i h3]
  rfl
 rw [h1, h2]
 rfl
def tl (s : ByteArray) (j : Nat) : Int := if j < s.size ∧ 128 ≤ (s.get! j).toNat ∧ (s.get! j).toNat < 192 then ((s.get! j).toNat : Int) - 128 else -1
theorem tail_is (s : ByteArray) (j : Nat) : bulletinref06_tail.f s (j : Int) = some (tl s j) := by
 unfold bulletinref06_tail.f tl
 have hb := get_lt s j
 rw [bt_get]
 by_cases h : j < s.size
 ·rw [if_neg (by omega), if_pos (by omega), if_pos (by omega)]
  by_cases a : 128 ≤ (s.get! j).toNat
  ·rw [if_neg (by omega)]
   by_cases b : (s.get! j).toNat < 192
   ·rw [if_neg (by omega), if_pos ⟨h, a, b⟩, wrap_id (x := ((s.get! j).toNat : Int)) (by omega) (by omega), wrap_id (by omega) (by omega)]
   rw [if_pos (by omega), if_neg (by omega)]
  rw [if_pos (by omega), if_neg (by omega)]
 rw [if_pos (by omega), if_neg (by omega)]
theorem tl_range (s : ByteArray) (j : Nat) : -1 ≤ tl s j ∧ tl s j ≤ 63 := by
 unfold tl
 split <;> omega
theorem one_step (k : Nat) (s : ByteArray) (i : Nat) (hi : i ≤ 1000000000) (z n : Int) (q p : Nat) (hp : p = q + 1) (hq : (q : Int) < z) (hq2 : q ≤ 10) (hn : 0 ≤ n) (hn2 : n ≤ 10000000) :
  bulletinref06_One.l0 (k + 1) s (i : Int) z n (q : Int) = if tl s (i + q) < 0 then some (-1, 1) else bulletinref06_One.l0 k s (i : Int) z (64 * n + tl s (i + q)) (p : Int) := by
 subst hp
 simp only [bulletinref06_One.l0]
 have ht := tl_range s (i + q)
 have e : wrap64 ((i : Int) + (q : Int)) = ((i + q : Nat) : Int) := by rw [wrap_id (by omega) (by omega)]; omega
 rw [if_pos hq, e, tail_is]
 simp only [Option.bind_some]
 rw [wrap_id (x := 64 * n) (by omega) (by omega), wrap_id (x := 64 * n + _) (by omega) (by omega), wrap_succ q (by omega)]
def leastZ (z : Int) : Int := if z = 2 then 128 else if z = 3 then 2048 else 65536
theorem one_end (k : Nat) (s : ByteArray) (i : Nat) (z n q : Int) (hz : z = 2 ∨ z = 3 ∨ z = 4) (hq : ¬ q < z) :
  bulletinref06_One.l0 (k + 1) s (i : Int) z n q = if n < leastZ z ∨ (55296 ≤ n ∧ n ≤ 57343) ∨ 1114111 < n then some (-1, 1) else some (n, z) := by
 simp only [bulletinref06_One.l0]
 rw [if_neg hq]
 have e : ∀ z : Int, (z = 2 ∨ z = 3 ∨ z = 4) → rd [0, 0, 128, 2048, 65536] z = leastZ z := by
  rintro z (rfl | rfl | rfl) <;> rfl
 simp only [Option.bind_some]
 rw [if_neg (by omega), if_pos (by omega), if_pos (by simp; omega), e z hz]
 by_cases a : n < leastZ z
 ·rw [if_pos a, if_pos (Or.inl a)]
 rw [if_neg a]
 by_cases b : n ≥ 55296
 ·rw [if_pos b]
  by_cases c : n ≤ 57343
  ·rw [if_pos c, if_pos (by omega)]
  rw [if_neg c]
  by_cases d : n > 1114111
  ·rw [if_pos d, if_pos (by omega)]
  rw [if_neg d, if_neg (by omega)]
 rw [if_neg b]
 by_cases d : n > 1114111
 ·rw [if_pos d, if_pos (by omega)]
 rw [if_neg d, if_neg (by omega)]
theorem one_zero (k : Nat) (s : ByteArray) (i : Nat) (n q : Int) (hq : ¬ q < 0) :
  bulletinref06_One.l0 (k + 1) s (i : Int) 0 n q = some (-1, 1) := by
 simp only [bulletinref06_One.l0]
 rw [if_neg hq]
 simp
theorem one_j (k : Nat) (s : ByteArray) (i : Nat) (c : Int) (h0 : 128 ≤ c) (h1 : c < 256) :
  bulletinref06_One.j0 (k + 6) s (i : Int) c 0 0 (decide (c < 224) && decide (192 ≤ c)) = bulletinref06_One.l0 k s (i : Int) (if c < 192 then 0 else if c < 224 then 2 else if c < 240 then 3 else if c < 248 then 4 else 0) (if c < 192 then 0 else if c < 224 then c - 192 else if c < 240 then c - 224 else if c < 248 then c - 240 else 0) 1 := by
 have w1 : wrap64 (c - 192) = c - 192 := wrap_id (by omega) (by omega)
 have w2 : wrap64 (c - 224) = c - 224 := wrap_id (by omega) (by omega)
 have w3 : wrap64 (c - 240) = c - 240 := wrap_id (by omega) (by omega)
 simp only [bulletinref06_One.j0, bulletinref06_One.j1, bulletinref06_One.j2, bulletinref06_One.j3, bulletinref06_One.j4, bulletinref06_One.j5, w1, w2, w3]
 by_cases a : c < 192
 ·have a1 : ¬ 192 ≤ c := by omega
  have a2 : ¬ c ≥ 224 := by omega
  have a3 : ¬ c ≥ 240 := by omega
  simp [a, a1, a2, a3]
 have a1 : 192 ≤ c := by omega
 by_cases b : c < 224
 ·have a2 : ¬ c ≥ 224 := by omega
  have a3 : ¬ c ≥ 240 := by omega
  simp [a, a1, b, a2, a3]
 have a2 : c ≥ 224 := by omega
 by_cases d : c < 240
 ·have a3 : ¬ c ≥ 240 := by omega
  simp [a, a1, b, a2, d, a3]
 have a3 : c ≥ 240 := by omega
 by_cases f : c < 248
 ·simp [a, a1, b, a2, d, a3, f]
 simp [a, a1, b, a2, d, a3, f]

def oneP (d : Nat × Nat) : Int × Int := if d.1 = 65533 ∧ d.2 = 1 then (-1, 1) else ((d.1 : Int), (d.2 : Int))
theorem oneZ_P (s : ByteArray) (i : Nat) : oneZ s i = oneP (Utf8.decode s i) := rfl
theorem oneP_bad : oneP (65533, 1) = (-1, 1) := by simp [oneP]
theorem oneP_wide (c z : Nat) (h : z ≠ 1) : oneP (c, z) = ((c : Int), (z : Int)) := by simp [oneP, h]
theorem oneP_one (c : Nat) (h : c < 128) : oneP (c, 1) = ((c : Int), 1) := by
 unfold oneP
 rw [if_neg (by simp; omega)]
 rfl
theorem one_is (s : ByteArray) (i : Nat) (hi : i < s.size) (hs : s.size ≤ 1000000000) (k : Nat) (hk : 20 ≤ k) : bulletinref06_One.f k s (i : Int) = some (oneZ s i) := by
 obtain ⟨m, rfl⟩ : ∃ m, k = (m + 5) + 6 := ⟨k - 11, by omega⟩
 rw [oneZ_P, Lib.decode_at]
 have g0 := get_lt s i
 have g1 := get_lt s (i + 1)
 have g2 := get_lt s (i + 2)
 have g3 := get_lt s (i + 3)
 unfold bulletinref06_One.f
 rw [if_pos (by omega), if_pos (by omega), bt_get, wrap_id (x := ((s.get! i).toNat : Int)) (by omega) (by omega)]
 have hj := one_j (m + 5) s i ((s.get! i).toNat : Int)
 have t1 : tl s (i + 1) = if i + 1 < s.size ∧ 128 ≤ (s.get! (i + 1)).toNat ∧ (s.get! (i + 1)).toNat < 192 then ((s.get! (i + 1)).toNat : Int) - 128 else -1 := rfl
 have t2 : tl s (i + 2) = if i + 2 < s.size ∧ 128 ≤ (s.get! (i + 2)).toNat ∧ (s.get! (i + 2)).toNat < 192 then ((s.get! (i + 2)).toNat : Int) - 128 else -1 := rfl
 have t3 : tl s (i + 3) = if i + 3 < s.size ∧ 128 ≤ (s.get! (i + 3)).toNat ∧ (s.get! (i + 3)).toNat < 192 then ((s.get! (i + 3)).toNat : Int) - 128 else -1 := rfl
 generalize (s.get! i).toNat = b0 at *
 generalize (s.get! (i + 1)).toNat = b1 at *
 generalize (s.get! (i + 2)).toNat = b2 at *
 generalize (s.get! (i + 3)).toNat = b3 at *
 by_cases a : b0 < 128
 ·rw [if_pos (by omega), show Lib.decodeN (s.size - i) b0 b1 b2 b3 = (b0, 1) by unfold Lib.decodeN; rw [if_pos a], oneP_one _ a]
 rw [if_neg (by omega)]
 have hsel : (if (b0 : Int) ≥ 192 then bulletinref06_One.j0 (m + 5 + 6) s (i : Int) (b0 : Int) 0 0 (decide ((b0 : Int) < 224)) else bulletinref06_One.j0 (m + 5 + 6) s (i : Int) (b0 : Int) 0 0 false) = bulletinref06_One.j0 (m + 5 + 6) s (i : Int) (b0 : Int) 0 0 (decide ((b0 : Int) < 224) && decide (192 ≤ (b0 : Int))) := by
  by_cases b : (b0 : Int) ≥ 192
  ·rw [if_pos b]; simp [show (192 : Int) ≤ b0 from b]
  rw [if_neg b]; simp [show ¬ (192 : Int) ≤ b0 from b]
 rw [hsel, hj (by omega) (by omega)]
 have one1 : (1 : Int) = ((1 : Nat) : Int) := rfl
 have hr1 := tl_range s (i + 1)
 have hr2 := tl_range s (i + 2)
 have hr3 := tl_range s (i + 3)
 by_cases b : b0 < 192
 ·have p192 : (b0 : Int) < 192 := by omega
  rw [if_pos p192, if_pos p192, one_zero _ _ _ _ _ (by decide)]
  rw [show Lib.decodeN (s.size - i) b0 b1 b2 b3 = (65533, 1) by unfold Lib.decodeN; rw [if_neg a, if_neg (by omega), if_neg (by omega), if_neg (by omega)], oneP_bad]
 have n192 : ¬ (b0 : Int) < 192 := by omega
 rw [if_neg n192, if_neg n192]
 by_cases c : b0 < 224
 ·have p224 : (b0 : Int) < 224 := by omega
  rw [if_pos p224, if_pos p224, one1, one_step _ _ _ (by omega) _ _ 1 2 rfl (by decide) (by decide) (by omega) (by omega)]
  by_cases d : tl s (i + 1) < 0
  ·rw [if_pos d, show Lib.decodeN (s.size - i) b0 b1 b2 b3 = (65533, 1) by unfold Lib.decodeN; rw [if_neg a, if_neg (by split at t1 <;> omega), if_neg (by omega), if_neg (by omega)], oneP_bad]
  rw [if_neg d, one_end _ _ _ _ _ _ (by decide) (by decide)]
  have hd : (1 < s.size - i ∧ b1 / 64 = 2) ∧ tl s (i + 1) = b1 - 128 ∧ 128 ≤ b1 := by split at t1 <;> omega
  have hD : Lib.decodeN (s.size - i) b0 b1 b2 b3 = if b0 % 32 * 64 + b1 % 64 ≥ 128 then (b0 % 32 * 64 + b1 % 64, 2) else (65533, 1) := by unfold Lib.decodeN; rw [if_neg a, if_pos ⟨by omega, hd.1⟩]
  rw [hD, show leastZ 2 = 128 from rfl]
  by_cases e : b0 % 32 * 64 + b1 % 64 ≥ 128
  ·rw [if_pos e, if_neg (by omega), oneP_wide _ _ (by decide)]
   congr 2
   omega
  rw [if_neg e, if_pos (by omega), oneP_bad]
 have n224 : ¬ (b0 : Int) < 224 := by omega
 rw [if_neg n224, if_neg n224]
 by_cases c2 : b0 < 240
 ·have p240 : (b0 : Int) < 240 := by omega
  rw [if_pos p240, if_pos p240, one1, one_step _ _ _ (by omega) _ _ 1 2 rfl (by decide) (by decide) (by omega) (by omega)]
  by_cases d : tl s (i + 1) < 0
  ·rw [if_pos d, show Lib.decodeN (s.size - i) b0 b1 b2 b3 = (65533, 1) by unfold Lib.decodeN; rw [if_neg a, if_neg (by omega), if_neg (by split at t1 <;> omega), if_neg (by omega)], oneP_bad]
  rw [if_neg d, one_step _ _ _ (by omega) _ _ 2 3 rfl (by decide) (by decide) (by omega) (by omega)]
  by_cases d2 : tl s (i + 2) < 0
  ·rw [if_pos d2, show Lib.decodeN (s.size - i) b0 b1 b2 b3 = (65533, 1) by unfold Lib.decodeN; rw [if_neg a, if_neg (by omega), if_neg (by split at t2 <;> omega), if_neg (by omega)], oneP_bad]
  rw [if_neg d2, one_end _ _ _ _ _ _ (by decide) (by decide)]
  have hd : (1 < s.size - i ∧ b1 / 64 = 2) ∧ tl s (i + 1) = b1 - 128 ∧ 128 ≤ b1 := by split at t1 <;> omega
  have hd2 : (2 < s.size - i ∧ b2 / 64 = 2) ∧ tl s (i + 2) = b2 - 128 ∧ 128 ≤ b2 := by split at t2 <;> omega
  have hD : Lib.decodeN (s.size - i) b0 b1 b2 b3 = if b0 % 16 * 4096 + b1 % 64 * 64 + b2 % 64 ≥ 2048 ∧ (b0 % 16 * 4096 + b1 % 64 * 64 + b2 % 64 < 55296 ∨ (57344 ≤ b0 % 16 * 4096 + b1 % 64 * 64 + b2 % 64 ∧ b0 % 16 * 4096 + b1 % 64 * 64 + b2 % 64 ≤ 1114111)) then (b0 % 16 * 4096 + b1 % 64 * 64 + b2 % 64, 3) else (65533, 1) := by unfold Lib.decodeN; rw [if_neg a, if_neg (by omega), if_pos ⟨by omega, hd.1, hd2.1⟩]
  rw [hD, show leastZ 3 = 2048 from rfl]
  by_cases e : b0 % 16 * 4096 + b1 % 64 * 64 + b2 % 64 ≥ 2048 ∧ (b0 % 16 * 4096 + b1 % 64 * 64 + b2 % 64 < 55296 ∨ (57344 ≤ b0 % 16 * 4096 + b1 % 64 * 64 + b2 % 64 ∧ b0 % 16 * 4096 + b1 % 64 * 64 + b2 % 64 ≤ 1114111))
  ·rw [if_pos e, if_neg (by omega), oneP_wide _ _ (by decide)]
   congr 2
   omega
  rw [if_neg e, if_pos (by omega), oneP_bad]
 have n240 : ¬ (b0 : Int) < 240 := by omega
 rw [if_neg n240, if_neg n240]
 by_cases c3 : b0 < 248
 ·have p248 : (b0 : Int) < 248 := by omega
  rw [if_pos p248, if_pos p248, one1, one_step _ _ _ (by omega) _ _ 1 2 rfl (by decide) (by decide) (by omega) (by omega)]
  by_cases d : tl s (i + 1) < 0
  ·rw [if_pos d, show Lib.decodeN (s.size - i) b0 b1 b2 b3 = (65533, 1) by unfold Lib.decodeN; rw [if_neg a, if_neg (by omega), if_neg (by omega), if_neg (by split at t1 <;> omega)], oneP_bad]
  rw [if_neg d, one_step _ _ _ (by omega) _ _ 2 3 rfl (by decide) (by decide) (by omega) (by omega)]
  by_cases d2 : tl s (i + 2) < 0
  ·rw [if_pos d2, show Lib.decodeN (s.size - i) b0 b1 b2 b3 = (65533, 1) by unfold Lib.decodeN; rw [if_neg a, if_neg (by omega), if_neg (by omega), if_neg (by split at t2 <;> omega)], oneP_bad]
  rw [if_neg d2, one_step _ _ _ (by omega) _ _ 3 4 rfl (by decide) (by decide) (by omega) (by omega)]
  by_cases d3 : tl s (i + 3) < 0
  ·rw [if_pos d3, show Lib.decodeN (s.size - i) b0 b1 b2 b3 = (65533, 1) by unfold Lib.decodeN; rw [if_neg a, if_neg (by omega), if_neg (by omega), if_neg (by split at t3 <;> omega)], oneP_bad]
  rw [if_neg d3, one_end _ _ _ _ _ _ (by decide) (by decide)]
  have hd : (1 < s.size - i ∧ b1 / 64 = 2) ∧ tl s (i + 1) = b1 - 128 ∧ 128 ≤ b1 := by split at t1 <;> omega
  have hd2 : (2 < s.size - i ∧ b2 / 64 = 2) ∧ tl s (i + 2) = b2 - 128 ∧ 128 ≤ b2 := by split at t2 <;> omega
  have hd3 : (3 < s.size - i ∧ b3 / 64 = 2) ∧ tl s (i + 3) = b3 - 128 ∧ 128 ≤ b3 := by split at t3 <;> omega
  have hD : Lib.decodeN (s.size - i) b0 b1 b2 b3 = if b0 % 8 * 262144 + b1 % 64 * 4096 + b2 % 64 * 64 + b3 % 64 ≥ 65536 ∧ (b0 % 8 * 262144 + b1 % 64 * 4096 + b2 % 64 * 64 + b3 % 64 < 55296 ∨ (57344 ≤ b0 % 8 * 262144 + b1 % 64 * 4096 + b2 % 64 * 64 + b3 % 64 ∧ b0 % 8 * 262144 + b1 % 64 * 4096 + b2 % 64 * 64 + b3 % 64 ≤ 1114111)) then (b0 % 8 * 262144 + b1 % 64 * 4096 + b2 % 64 * 64 + b3 % 64, 4) else (65533, 1) := by unfold Lib.decodeN; rw [if_neg a, if_neg (by omega), if_neg (by omega), if_pos ⟨by omega, hd.1, hd2.1, hd3.1⟩]
  rw [hD, show leastZ 4 = 65536 from rfl]
  by_cases e : b0 % 8 * 262144 + b1 % 64 * 4096 + b2 % 64 * 64 + b3 % 64 ≥ 65536 ∧ (b0 % 8 * 262144 + b1 % 64 * 4096 + b2 % 64 * 64 + b3 % 64 < 55296 ∨ (57344 ≤ b0 % 8 * 262144 + b1 % 64 * 4096 + b2 % 64 * 64 + b3 % 64 ∧ b0 % 8 * 262144 + b1 % 64 * 4096 + b2 % 64 * 64 + b3 % 64 ≤ 1114111))
  ·rw [if_pos e, if_neg (by omega), oneP_wide _ _ (by decide)]
   congr 2
   omega
  rw [if_neg e, if_pos (by omega), oneP_bad]
 have n248 : ¬ (b0 : Int) < 248 := by omega
 rw [if_neg n248, if_neg n248, one_zero _ _ _ _ _ (by decide)]
 rw [show Lib.decodeN (s.size - i) b0 b1 b2 b3 = (65533, 1) by unfold Lib.decodeN; rw [if_neg a, if_neg (by omega), if_neg (by omega), if_neg (by omega)], oneP_bad]
theorem oneZ_width' (s : ByteArray) (i : Nat) : (oneZ s i).2 = (width s i : Int) := by
 unfold oneZ
 split
 ·rename_i h
  rw [h.2]
  rfl
 rfl
theorem oneZ_width (s : ByteArray) (i : Nat) : (oneZ s i).2 = (width s i : Int) := by
 unfold oneZ
 split
 ·rename_i h
  rw [h.2]
  rfl
 rfl
theorem drop_cons' {α : Type} {l : List α} {i : Nat} {c : α} {r : List α} (h : l.drop i = c :: r) : i < l.length ∧ l[i]? = some c ∧ l.drop (i + 1) = r := by
 have hi : i < l.length := by
  rcases Nat.lt_or_ge i l.length with h' | h'
  ·exact h'
  rw [List.drop_of_length_le h'] at h; cases h
 refine ⟨hi, ?_, ?_⟩
 ·have := congrArg List.head? h
  rw [List.head?_drop] at this
  exact this
 rw [← List.drop_drop, h]; rfl
theorem rd_drop {l : List Int} {i : Nat} {c : Int} {r : List Int} (h : l.drop i = c :: r) : rd l (i : Int) = c := by
 obtain ⟨h1, h2, _⟩ := drop_cons' h
 unfold rd
 rw [List.getD_eq_getElem?_getD, Int.toNat_natCast, h2]
 rfl

def signsFrom (s : ByteArray) : Nat → Nat → List Int
 | 0, _ => []
 | n + 1, i => if i < s.size then (oneZ s i).1 :: signsFrom s n (i + width s i) else []
theorem signs_rounds (s : ByteArray) (hs : s.size ≤ 1000000000) : ∀ (n k i : Nat) (acc : List Int), s.size ≤ i + n → n + 20 < k → acc.length ≤ i →
  bulletinref06_Signs.l0 k s acc (i : Int) = some (acc ++ signsFrom s n i) := by
 intro n
 induction n with
 | zero =>
  intro k i acc h hk ha
  obtain ⟨k, rfl⟩ : ∃ m, k = m + 1 := ⟨k - 1, by omega⟩
  simp only [bulletinref06_Signs.l0, signsFrom]
  rw [if_neg (by omega), List.append_nil]
 | succ n ih =>
  intro k i acc h hk ha
  obtain ⟨k, rfl⟩ : ∃ m, k = m + 1 := ⟨k - 1, by omega⟩
  simp only [bulletinref06_Signs.l0, signsFrom]
  by_cases hi : i < s.size
  ·have hw := width_pos s i hi
   have hw2 := width_end s i hi
   have hw3 : width s i = (Utf8.decode s i).2 := rfl
   rw [if_pos (by omega), if_pos hi, one_is s i hi hs k (by omega)]
   simp only [Option.bind_some]
   rw [if_pos (by omega), oneZ_width, wrap_id (by omega) (by omega)]
   rw [show (i : Int) + (width s i : Int) = ((i + width s i : Nat) : Int) by omega, ih k _ _ (by omega) (by omega) (by simp; omega)]
   simp
  rw [if_neg (by omega), if_neg hi, List.append_nil]
theorem signs_is (s : ByteArray) (hs : s.size ≤ 1000000000) (k : Nat) (hk : s.size + 20 < k) : bulletinref06_Signs.f k s = some (signsFrom s s.size 0) := by
 unfold bulletinref06_Signs.f
 have := signs_rounds s hs s.size k 0 [] (by omega) hk (by simp)
 simpa using this

def okZ (n : Int) : Prop := 0 ≤ n ∧ (n < 55296 ∨ (57344 ≤ n ∧ n ≤ 1114111))
theorem nums_enc (l : List Int) : strOfNums l = str (l.map fun x => x.toNat.toUInt8) := rfl
theorem tdiv_pos {a b : Int} (h : 0 ≤ a) (_hb : 0 ≤ b) : a.tdiv b = a / b := Int.tdiv_eq_ediv_of_nonneg h
theorem tmod_pos {a b : Int} (h : 0 ≤ a) (_hb : 0 ≤ b) : a.tmod b = a % b := Int.tmod_eq_emod_of_nonneg h
theorem write_is (n : Int) (h : okZ n) : bulletinref06_Write.f n = some (str (Lib.encodeRune n)) := by
 obtain ⟨h0, h1⟩ := h
 unfold bulletinref06_Write.f
 have w : ∀ x : Int, 0 ≤ x → x ≤ 9000000 → wrap64 x = x := fun x a b => wrap_id (by omega) (by omega)
 by_cases a : n < 128
 ·rw [if_pos a, nums_enc, Lib.encodeRune, Lib.encodeRuneZ_one h0 (by omega), Int.emod_eq_of_lt h0 (by omega)]
 rw [if_neg a]
 have d64 : n.tdiv 64 = n / 64 := tdiv_pos h0 (by decide)
 have d4096 : n.tdiv 4096 = n / 4096 := tdiv_pos h0 (by decide)
 have d262144 : n.tdiv 262144 = n / 262144 := tdiv_pos h0 (by decide)
 have m64 : n.tmod 64 = n % 64 := tmod_pos h0 (by decide)
 have mm : (n / 64).tmod 64 = n / 64 % 64 := tmod_pos (by omega) (by decide)
 have mm2 : (n / 4096).tmod 64 = n / 4096 % 64 := tmod_pos (by omega) (by decide)
 rw [d64, d4096, d262144, m64, w (n / 64) (by omega) (by omega), w (n / 4096) (by omega) (by omega), w (n / 262144) (by omega) (by omega), mm, mm2, w (192 + n / 64) (by omega) (by omega), w (128 + n % 64) (by omega) (by omega), w (224 + n / 4096) (by omega) (by omega), w (128 + n / 64 % 64) (by omega) (by omega), w (240 + n / 262144) (by omega) (by omega), w (128 + n / 4096 % 64) (by omega) (by omega)]
 by_cases b : n < 2048
 ·rw [if_pos b, nums_enc, Lib.encodeRune, Lib.encodeRuneZ_two (by omega) (by omega), Int.emod_eq_of_lt (by omega) (by omega), Int.emod_eq_of_lt (by omega) (by omega)]
 rw [if_neg b]
 by_cases c : n < 65536
 ·rw [if_pos c, nums_enc, Lib.encodeRune, Lib.encodeRuneZ_three (by omega), Int.emod_eq_of_lt (a := 224 + n / 4096) (by omega) (by omega), Int.emod_eq_of_lt (a := 128 + n / 64 % 64) (by omega) (by omega), Int.emod_eq_of_lt (a := 128 + n % 64) (by omega) (by omega)]
 rw [if_neg c, nums_enc, Lib.encodeRune, Lib.encodeRuneZ_four (by omega) (by omega), Int.emod_eq_of_lt (a := 240 + n / 262144) (by omega) (by omega), Int.emod_eq_of_lt (a := 128 + n / 4096 % 64) (by omega) (by omega), Int.emod_eq_of_lt (a := 128 + n / 64 % 64) (by omega) (by omega), Int.emod_eq_of_lt (a := 128 + n % 64) (by omega) (by omega)]
theorem signsFrom_valid (s : ByteArray) : ∀ n i, ∀ x ∈ signsFrom s n i, x = -1 ∨ okZ x := by
 intro n
 induction n with
 | zero => intro i x h; simp [signsFrom] at h
 | succ n ih =>
  intro i x h
  unfold signsFrom at h
  split at h
  ·rcases List.mem_cons.1 h with rfl | h
   ·have := sign_valid s i
    unfold oneZ
    split
    ·exact .inl rfl
    right
    unfold okZ
    simp only []
    omega
   exact ih _ x h
  simp at h
theorem signsFrom_length (s : ByteArray) : ∀ n i, (signsFrom s n i).length ≤ n := by
 intro n
 induction n with
 | zero => intro i; simp [signsFrom]
 | succ n ih =>
  intro i
  unfold signsFrom
  split
  ·have := ih (i + width s i)
   simp; omega
  simp
end Go.Proofs.YtihabmcaplnbcaaGreatDoor.Pl
set_option linter.unusedVariables false
set_option linter.unusedSimpArgs false
namespace Go.Proofs.YtihabmcaplnbcaaGreatDoor.Pl
open Go.RowKit Go.Proofs.YtihabmcaplnbcaaGreatDoorW.PrintWords Go.Proofs.YtihabmcaplnbcaaGreatDoor.Fn

/-! Layers 17, 18, 19: the document's digits, letters, and what is written by q. -/
theorem refdigit_is (c : UInt8) (k : Nat) (hk : 40 ≤ k) : bulletinref17_Digit.f k (c.toNat : Int) = some (digZ c) :=
 mono_up (fun k => bulletinref17_Digit.mono _ k) (forall_byte (p := fun c => bulletinref17_Digit.f 40 (c.toNat : Int) = some (digZ c)) (by decide +kernel) c) k hk
theorem refbyte_two (a b : UInt8) (k : Nat) (hk : 40 ≤ k) : bulletinref17_Byte.f k (str [a, b]) = some (resH (hexB a b)) := by
 have b0 : bt (str [a, b]) 0 = (a.toNat : Int) := bt_str [a, b] 0 (by simp)
 have b1 : bt (str [a, b]) 1 = (b.toNat : Int) := bt_str [a, b] 1 (by simp)
 have hz : ((str [a, b]).size : Int) = 2 := by rw [str_size]; rfl
 unfold bulletinref17_Byte.f
 rw [hz, if_pos rfl, if_pos (by decide), b0, refdigit_is a k hk, Option.bind_some, if_pos (by decide), b1, refdigit_is b k hk, Option.bind_some]
 unfold hexB
 cases ha : hexD a with
 | none =>
  have e : digZ a = -1 := by unfold digZ; rw [ha]
  rw [e, if_pos (by decide)]
  rfl
 | some x =>
  have hx := hexD_lt ha
  have e : digZ a = (x : Int) := by unfold digZ; rw [ha]
  rw [e, if_neg (by omega)]
  cases hb : hexD b with
  | none =>
   have e2 : digZ b = -1 := by unfold digZ; rw [hb]
   rw [e2, if_pos (by decide)]
   rfl
  | some y =>
   have hy := hexD_lt hb
   have e2 : digZ b = (y : Int) := by unfold digZ; rw [hb]
   rw [e2, if_neg (by omega), wrap_small (x := 16 * (x : Int)) (by omega) (by omega), wrap_small (x := 16 * (x : Int) + (y : Int)) (by omega) (by omega)]
   have e3 : (UInt8.ofNat (16 * x + y)).toNat = 16 * x + y := by simp; omega
   simp only [Option.bind_some, resH, e3]
   congr 2
   omega
theorem extract1 (s : ByteArray) (i : Nat) (c : UInt8) (r : Bytes) (h : (bs s).drop i = c :: r) (hi : i ≤ 1000000000) : s.extract ((i : Int)).toNat (wrap64 ((i : Int) + 1)).toNat = str [c] := by
 rw [wrap_succ i (by omega), Int.toNat_natCast, Int.toNat_natCast]
 exact extract_one h
theorem refquoted_l0 (s : ByteArray) (hs : s.size ≤ 1000000000) : ∀ (f : Nat) (rest : Bytes) (i k : Nat) (acc : Bytes), (bs s).drop i = rest → i ≤ s.size → rest.length ≤ f → f + 45 ≤ k → acc.length ≤ i →
  bulletinref19_quoted.l0 k s (str acc) (i : Int) = some (resQ ((quotedF f rest).map (acc ++ ·)))
 | f, [], i, k, acc, hd, hi, hf, hk, ha => by
  obtain ⟨k, rfl⟩ : ∃ j, k = j + 1 := ⟨k - 1, by omega⟩
  have := drop_nil hd
  rw [bs_length] at this
  rw [bulletinref19_quoted.l0, if_neg (by omega)]
  cases f <;> simp [quotedF, resQ]
 | 0, c :: r, i, k, acc, hd, hi, hf, hk, ha => absurd hf (by simp)
 | f + 1, c :: r, i, k, acc, hd, hi, hf, hk, ha => by
  obtain ⟨k, rfl⟩ : ∃ j, k = j + 1 := ⟨k - 1, by omega⟩
  obtain ⟨h1, h2, h3, h4⟩ := drop_cons hd
  rw [bs_length] at h1
  have hlr : r.length + (i + 1) = s.size := by
   have := congrArg List.length h3
   rw [List.length_drop, bs_length] at this
   omega
  have hfr : r.length ≤ f := by simpa using hf
  rw [bulletinref19_quoted.l0, if_pos (by omega), if_pos (by omega), bt_drop hd, quotedF]
  by_cases c1 : c = 95
  ·rw [if_pos (by rw [c1]; rfl), if_pos c1, if_pos (by rw [str_size]; omega), show (⟨#[32]⟩ : ByteArray) = str [32] from rfl, str_app, wrap_succ i (by omega)]
   rw [refquoted_l0 s hs f r (i + 1) k (acc ++ [32]) h3 (by omega) hfr (by omega) (by rw [List.length_append, List.length_singleton]; omega), Option.map_map]
   congr 2
   cases quotedF f r <;> simp
  rw [if_neg (by rw [show (95 : Int) = ((95 : Nat) : Int) from rfl, byte_is c 95 (by decide)]; exact c1), if_neg c1]
  by_cases c2 : c = 61
  ·rw [if_pos (by rw [c2]; rfl), if_pos c2, wrap_small (x := (i : Int) + 2) (by omega) (by omega)]
   by_cases hl : 2 ≤ r.length
   ·obtain ⟨a, b, r', rfl⟩ : ∃ a b r', r = a :: b :: r' := by
     match r, hl with
     | a :: b :: r', _ => exact ⟨a, b, r', rfl⟩
    have hlr' : r'.length + (i + 3) = s.size := by simp at hlr; omega
    have hx : s.extract (i + 1) (i + 3) = str [a, b] := by
     apply bs_inj
     rw [bs_extract, bs_str, List.drop_take, h3, show i + 3 - (i + 1) = 2 by omega]
     rfl
    rw [if_neg (by omega), if_pos hl, wrap_small (x := (i : Int) + 1) (by omega) (by omega), wrap_small (x := (i : Int) + 3) (by omega) (by omega), if_pos (by omega), if_pos (by omega), if_pos (by omega), show ((i : Int) + 1).toNat = i + 1 by omega, show ((i : Int) + 3).toNat = i + 3 by omega, hx, refbyte_two a b k (by omega), Option.bind_some]
    simp only [List.getD_cons_zero, List.getD_cons_succ, List.drop_succ_cons, List.drop_zero]
    cases hb : hexB a b with
    | none => rfl
    | some x =>
     have hn : strOfNums [(x.toNat : Int)] = str [x] := by rw [nums_one]; simp
     simp only [resH, Option.bind_some]
     rw [if_pos trivial, hn, if_pos (by rw [str_size, str_size]; simp; omega), str_app, wrap_small (x := (i : Int) + 2 + 1) (by omega) (by omega)]
     have h5 : (bs s).drop (i + 3) = r' := by rw [show i + 3 = (i + 1) + 2 by omega, ← List.drop_drop, h3]; rfl
     have := refquoted_l0 s hs f r' (i + 3) k (acc ++ [x]) h5 (by omega) (by simp at hfr; omega) (by omega) (by rw [List.length_append, List.length_singleton]; omega)
     rw [show (i : Int) + 2 + 1 = ((i + 3 : Nat) : Int) by omega, this, Option.map_map]
     congr 2
     cases quotedF f r' <;> simp
   rw [if_pos (by omega), if_neg hl]
   rfl
  rw [if_neg (by rw [show (61 : Int) = ((61 : Nat) : Int) from rfl, byte_is c 61 (by decide)]; exact c2), if_neg c2, extract1 s i c r hd (by omega), wrap_succ i (by omega), if_pos (by omega), if_pos (by omega), if_pos (by rw [str_size, str_size]; simp; omega), str_app]
  rw [refquoted_l0 s hs f r (i + 1) k (acc ++ [c]) h3 (by omega) hfr (by omega) (by rw [List.length_append, List.length_singleton]; omega), Option.map_map]
  congr 2
  cases quotedF f r <;> simp
theorem refquoted_is (s : ByteArray) (hs : s.size ≤ 1000000000) (k : Nat) (hk : s.size + 45 ≤ k) : bulletinref19_quoted.f k s = some (resQ (quotedL (bs s))) := by
 have := refquoted_l0 s hs s.size (bs s) 0 k [] rfl (by omega) (by rw [bs_length]; exact Nat.le_refl _) hk (by simp)
 unfold bulletinref19_quoted.f quotedL
 rw [bs_length]
 have e : (quotedF s.size (bs s)).map (([] : Bytes) ++ ·) = quotedF s.size (bs s) := by cases quotedF s.size (bs s) <;> simp
 rw [e] at this
 exact this
/-! The letters. -/
theorem letter_is (n : Nat) (h : n < 64) : bulletinref18_letter.f (n : Int) = some ((b64C n).toNat : Int) := by
 have : ∀ n : Fin 64, bulletinref18_letter.f (n.val : Int) = some ((b64C n.val).toNat : Int) := by decide +kernel
 exact this ⟨n, h⟩
theorem value_is18 (c : UInt8) (k : Nat) (hk : 70 ≤ k) : bulletinref18_value.f k (c.toNat : Int) = some (b64Z c) :=
 mono_up (fun k => bulletinref18_value.mono _ k) (forall_byte (p := fun c => bulletinref18_value.f 70 (c.toNat : Int) = some (b64Z c)) (by decide +kernel) c) k hk
theorem refbare_l0 (s : ByteArray) (hs : s.size ≤ 1000000000) : ∀ (rest : Bytes) (i k : Nat) (acc : Bytes), (bs s).drop i = rest → rest.length + 1 ≤ k → acc.length ≤ i → bulletinref18_Bare.l0 k s (str acc) (i : Int) = some (str (acc ++ bareL rest))
 | [], i, k, acc, hd, hk, ha => by
  obtain ⟨k, rfl⟩ : ∃ j, k = j + 1 := ⟨k - 1, by omega⟩
  have := drop_nil hd
  rw [bs_length] at this
  rw [bulletinref18_Bare.l0, if_neg (by omega)]
  simp [bareL]
 | c :: r, i, k, acc, hd, hk, ha => by
  obtain ⟨k, rfl⟩ : ∃ j, k = j + 1 := ⟨k - 1, by omega⟩
  obtain ⟨h1, h2, h3, h4⟩ := drop_cons hd
  rw [bs_length] at h1
  have ih := fun acc (h : acc.length ≤ i + 1) => refbare_l0 s hs r (i + 1) k acc h3 (by simp at hk; omega) h
  have hx := extract1 s i c r hd (by omega)
  have hw : whiteC c = true ↔ (c.toNat : Int) = 32 ∨ (c.toNat : Int) = 9 ∨ (c.toNat : Int) = 13 ∨ (c.toNat : Int) = 10 := forall_byte (p := fun c => whiteC c = true ↔ (c.toNat : Int) = 32 ∨ (c.toNat : Int) = 9 ∨ (c.toNat : Int) = 13 ∨ (c.toNat : Int) = 10) (by decide +kernel) c
  rw [bulletinref18_Bare.l0, if_pos (by omega), if_pos (by omega), bt_drop hd, hx, wrap_succ i (by omega), ih acc (by omega)]
  by_cases hc : whiteC c = true
  ·have hb : bareL (c :: r) = bareL r := by simp [bareL, hc]
   rw [hb]
   rcases hw.1 hc with h | h | h | h
   ·rw [if_pos h]
   ·rw [if_neg (by omega), if_pos h]
   ·rw [if_neg (by omega), if_neg (by omega), if_pos h]
   rw [if_neg (by omega), if_neg (by omega), if_neg (by omega), if_pos h]
  have hn := fun h => hc (hw.2 h)
  have hb : bareL (c :: r) = c :: bareL r := by simp [bareL, hc]
  rw [if_neg (fun h => hn (.inl h)), if_neg (fun h => hn (.inr (.inl h))), if_neg (fun h => hn (.inr (.inr (.inl h)))), if_neg (fun h => hn (.inr (.inr (.inr h)))), if_pos (by omega), if_pos (by omega), if_pos (by rw [str_size, str_size]; simp; omega), str_app, ih _ (by rw [List.length_append, List.length_singleton]; omega), hb]
  simp
theorem refbare_is (s : ByteArray) (hs : s.size ≤ 1000000000) (k : Nat) (hk : s.size + 1 ≤ k) : bulletinref18_Bare.f k s = some (str (bareL (bs s))) :=
 refbare_l0 s hs (bs s) 0 k [] rfl (by rw [bs_length]; exact hk) (by simp)
end Go.Proofs.YtihabmcaplnbcaaGreatDoor.Pl
set_option linter.unusedVariables false
set_option linter.unusedSimpArgs false
namespace Go.Proofs.YtihabmcaplnbcaaGreatDoor.Pl
open Go.RowKit Go.Proofs.YtihabmcaplnbcaaGreatDoorW.PrintWords Go.Proofs.YtihabmcaplnbcaaGreatDoor.Fn

/-! Layer 18: the document's letters, bit by bit. -/
theorem bit_l0 (c : UInt8) (t : Nat) (ht : t < 8) (k : Nat) (hk : 10 ≤ k) : bulletinref18_bit.l0 k (c.toNat : Int) (t : Int) = some ((c.toNat / 2 ^ (7 - t) % 2 : Nat) : Int) := by
 have h : ∀ t : Fin 8, ∀ c : UInt8, bulletinref18_bit.l0 10 (c.toNat : Int) (t.val : Int) = some ((c.toNat / 2 ^ (7 - t.val) % 2 : Nat) : Int) := fun t c =>
  forall_byte (p := fun c => bulletinref18_bit.l0 10 (c.toNat : Int) (t.val : Int) = some ((c.toNat / 2 ^ (7 - t.val) % 2 : Nat) : Int)) (by revert t; decide +kernel) c
 exact mono_up (f := fun k => bulletinref18_bit.l0 k (c.toNat : Int) (t : Int)) (fun k => bulletinref18_bit.mono_l k _ _) (h ⟨t, ht⟩ c) k hk
def bitN (l : Bytes) (i : Nat) : Nat := (l.getD (i / 8) 0).toNat / 2 ^ (7 - i % 8) % 2
theorem bit_is (s : ByteArray) (i : Nat) (hi : i ≤ 1000000000) (k : Nat) (hk : 10 ≤ k) : bulletinref18_bit.f k s (i : Int) = some (bitN (bs s) i : Int) := by
 have e1 : Int.tdiv (i : Int) 8 = ((i / 8 : Nat) : Int) := by rw [tdiv_pos (by omega) (by omega)]; omega
 have e2 : Int.tmod (i : Int) 8 = ((i % 8 : Nat) : Int) := by rw [tmod_pos (by omega) (by omega)]; omega
 unfold bulletinref18_bit.f bitN
 rw [e1, e2, wrap_small (x := ((i / 8 : Nat) : Int)) (by omega) (by omega)]
 by_cases h : i / 8 < s.size
 ·rw [if_neg (by omega), if_pos (by omega), if_pos (by omega), bt_bs s (i / 8) (by rw [bs_length]; exact h)]
  have hc : (bs s).getD (i / 8) 0 = (bs s)[i / 8]'(by rw [bs_length]; exact h) := by
   rw [List.getD_eq_getElem?_getD, List.getElem?_eq_getElem (by rw [bs_length]; exact h)]
   rfl
  have hlt := ((bs s)[i / 8]'(by rw [bs_length]; exact h)).toNat_lt
  rw [hc, wrap_small (by omega) (by omega)]
  exact bit_l0 _ (i % 8) (by omega) k hk
 rw [if_pos (by omega), List.getD_eq_getElem?_getD, List.getElem?_eq_none (by rw [bs_length]; omega)]
 simp
def six (l : Bytes) (i : Nat) : Nat := ((((bitN l i * 2 + bitN l (i + 1)) * 2 + bitN l (i + 2)) * 2 + bitN l (i + 3)) * 2 + bitN l (i + 4)) * 2 + bitN l (i + 5)
theorem bitN_lt (l : Bytes) (i : Nat) : bitN l i < 2 := Nat.mod_lt _ (by decide)
theorem six_lt (l : Bytes) (i : Nat) : six l i < 64 := by
 have h0 := bitN_lt l i
 have h1 := bitN_lt l (i + 1)
 have h2 := bitN_lt l (i + 2)
 have h3 := bitN_lt l (i + 3)
 have h4 := bitN_lt l (i + 4)
 have h5 := bitN_lt l (i + 5)
 unfold six
 omega
theorem plain_l1 (s out : ByteArray) (i : Nat) (hi : i ≤ 100000000) (k : Nat) (hk : 30 ≤ k) (ho : out.size ≤ 1000000000) :
  bulletinref18_Plain.l1 k s out (i : Int) 0 0 = bulletinref18_Plain.l0 (k - 7) s (out ++ str [b64C (six (bs s) i)]) ((i + 6 : Nat) : Int) := by
 obtain ⟨k, rfl⟩ : ∃ j, k = j + 7 := ⟨k - 7, by omega⟩
 have step : ∀ (j v : Nat) (m : Nat), j < 6 → v < 64 → 10 ≤ m → bulletinref18_Plain.l1 (m + 1) s out (i : Int) (v : Int) (j : Int) = bulletinref18_Plain.l1 m s out (i : Int) ((v * 2 + bitN (bs s) (i + j) : Nat) : Int) ((j + 1 : Nat) : Int) := by
  intro j v m hj hv hm
  have hb := bitN_lt (bs s) (i + j)
  rw [bulletinref18_Plain.l1, if_pos (by omega), wrap_small (x := (i : Int) + (j : Int)) (by omega) (by omega), show (i : Int) + (j : Int) = ((i + j : Nat) : Int) by omega, bit_is s (i + j) (by omega) m hm, Option.bind_some, wrap_small (x := 2 * (v : Int)) (by omega) (by omega), wrap_small (x := 2 * (v : Int) + (bitN (bs s) (i + j) : Int)) (by omega) (by omega), wrap_succ j (by omega)]
  congr 1
  omega
 have h0 := bitN_lt (bs s) i
 have h1 := bitN_lt (bs s) (i + 1)
 have h2 := bitN_lt (bs s) (i + 2)
 have h3 := bitN_lt (bs s) (i + 3)
 have h4 := bitN_lt (bs s) (i + 4)
 have s0 := step 0 0 (k + 6) (by omega) (by omega) (by omega)
 have s1 := step 1 (0 * 2 + bitN (bs s) (i + 0)) (k + 5) (by omega) (by simp only [Nat.add_zero]; omega) (by omega)
 have s2 := step 2 ((0 * 2 + bitN (bs s) (i + 0)) * 2 + bitN (bs s) (i + 1)) (k + 4) (by omega) (by simp only [Nat.add_zero]; omega) (by omega)
 have s3 := step 3 (((0 * 2 + bitN (bs s) (i + 0)) * 2 + bitN (bs s) (i + 1)) * 2 + bitN (bs s) (i + 2)) (k + 3) (by omega) (by simp only [Nat.add_zero]; omega) (by omega)
 have s4 := step 4 ((((0 * 2 + bitN (bs s) (i + 0)) * 2 + bitN (bs s) (i + 1)) * 2 + bitN (bs s) (i + 2)) * 2 + bitN (bs s) (i + 3)) (k + 2) (by omega) (by simp only [Nat.add_zero]; omega) (by omega)
 have s5 := step 5 (((((0 * 2 + bitN (bs s) (i + 0)) * 2 + bitN (bs s) (i + 1)) * 2 + bitN (bs s) (i + 2)) * 2 + bitN (bs s) (i + 3)) * 2 + bitN (bs s) (i + 4)) (k + 1) (by omega) (by simp only [Nat.add_zero]; omega) (by omega)
 have e : (((((0 * 2 + bitN (bs s) (i + 0)) * 2 + bitN (bs s) (i + 1)) * 2 + bitN (bs s) (i + 2)) * 2 + bitN (bs s) (i + 3)) * 2 + bitN (bs s) (i + 4)) * 2 + bitN (bs s) (i + 5) = six (bs s) i := by
  unfold six
  simp only [Nat.zero_mul, Nat.zero_add, Nat.add_zero]
 rw [e] at s5
 have hs := six_lt (bs s) i
 refine s0.trans (s1.trans (s2.trans (s3.trans (s4.trans (s5.trans ?_)))))
 have hn : strOfNums [((b64C (six (bs s) i)).toNat : Int)] = str [b64C (six (bs s) i)] := by rw [nums_one]; simp
 rw [bulletinref18_Plain.l1, if_neg (by omega), letter_is _ hs, Option.bind_some, Option.bind_some, hn, if_pos (by rw [str_size]; simp; omega), wrap_small (x := (i : Int) + 6) (by omega) (by omega)]
 congr 1
theorem getD_off (p r : Bytes) (i j : Nat) (h : i / 8 = p.length + j) : (p ++ r).getD (i / 8) 0 = r.getD j 0 := by
 rw [h, List.getD_eq_getElem?_getD, List.getD_eq_getElem?_getD, List.getElem?_append_right (by omega)]
 congr 2
 omega
theorem byte_bits (c : UInt8) : c.toNat / 128 % 2 * 32 + c.toNat / 64 % 2 * 16 + c.toNat / 32 % 2 * 8 + c.toNat / 16 % 2 * 4 + c.toNat / 8 % 2 * 2 + c.toNat / 4 % 2 = c.toNat / 4 ∧ c.toNat / 2 % 2 * 2 + c.toNat % 2 = c.toNat % 4 ∧ c.toNat / 128 % 2 * 8 + c.toNat / 64 % 2 * 4 + c.toNat / 32 % 2 * 2 + c.toNat / 16 % 2 = c.toNat / 16 ∧ c.toNat / 8 % 2 * 8 + c.toNat / 4 % 2 * 4 + c.toNat / 2 % 2 * 2 + c.toNat % 2 = c.toNat % 16 ∧ c.toNat / 128 % 2 * 2 + c.toNat / 64 % 2 = c.toNat / 64 ∧ c.toNat / 32 % 2 * 32 + c.toNat / 16 % 2 * 16 + c.toNat / 8 % 2 * 8 + c.toNat / 4 % 2 * 4 + c.toNat / 2 % 2 * 2 + c.toNat % 2 = c.toNat % 64 := by
 have := c.toNat_lt
 omega
theorem six_at (p r : Bytes) (g : Nat) (hp : p.length = 3 * g) : six (p ++ r) (24 * g) = (r.getD 0 0).toNat / 4 ∧ six (p ++ r) (24 * g + 6) = (r.getD 0 0).toNat % 4 * 16 + (r.getD 1 0).toNat / 16 ∧ six (p ++ r) (24 * g + 12) = (r.getD 1 0).toNat % 16 * 4 + (r.getD 2 0).toNat / 64 ∧ six (p ++ r) (24 * g + 18) = (r.getD 2 0).toNat % 64 := by
 have hb : ∀ t j m, t = 8 * j + m → m < 8 → bitN (p ++ r) (24 * g + t) = (r.getD j 0).toNat / 2 ^ (7 - m) % 2 := by
  intro t j m ht hm
  unfold bitN
  rw [getD_off p r (24 * g + t) j (by omega), show (24 * g + t) % 8 = m by omega]
 have b0 := byte_bits (r.getD 0 0)
 have b1 := byte_bits (r.getD 1 0)
 have b2 := byte_bits (r.getD 2 0)
 refine ⟨?_, ?_, ?_, ?_⟩
 ·unfold six
  have := hb 0 0 0 rfl (by omega)
  rw [Nat.add_zero] at this
  rw [this, hb 1 0 1 rfl (by omega), hb 2 0 2 rfl (by omega), hb 3 0 3 rfl (by omega), hb 4 0 4 rfl (by omega), hb 5 0 5 rfl (by omega)]
  simp only [Nat.reduceSub, Nat.reducePow]
  omega
 ·unfold six
  simp only [Nat.add_assoc, Nat.reduceAdd]
  rw [hb 6 0 6 rfl (by omega), hb 7 0 7 rfl (by omega), hb 8 1 0 rfl (by omega), hb 9 1 1 rfl (by omega), hb 10 1 2 rfl (by omega), hb 11 1 3 rfl (by omega)]
  simp only [Nat.reduceSub, Nat.reducePow, Nat.div_one]
  omega
 ·unfold six
  simp only [Nat.add_assoc, Nat.reduceAdd]
  rw [hb 12 1 4 rfl (by omega), hb 13 1 5 rfl (by omega), hb 14 1 6 rfl (by omega), hb 15 1 7 rfl (by omega), hb 16 2 0 rfl (by omega), hb 17 2 1 rfl (by omega)]
  simp only [Nat.reduceSub, Nat.reducePow, Nat.div_one]
  omega
 unfold six
 simp only [Nat.add_assoc, Nat.reduceAdd]
 rw [hb 18 2 2 rfl (by omega), hb 19 2 3 rfl (by omega), hb 20 2 4 rfl (by omega), hb 21 2 5 rfl (by omega), hb 22 2 6 rfl (by omega), hb 23 2 7 rfl (by omega)]
 simp only [Nat.reduceSub, Nat.reducePow, Nat.div_one]
 omega
theorem grp_is (a b c : Nat) (ha : a < 256) (hb : b < 256) (hc : c < 256) : grp a b c = [b64C (a / 4), b64C (a % 4 * 16 + b / 16), b64C (b % 16 * 4 + c / 64), b64C (c % 64)] := by
 unfold grp
 rw [show (a * 65536 + b * 256 + c) / 262144 % 64 = a / 4 by omega, show (a * 65536 + b * 256 + c) / 4096 % 64 = a % 4 * 16 + b / 16 by omega, show (a * 65536 + b * 256 + c) / 64 % 64 = b % 16 * 4 + c / 64 by omega, show (a * 65536 + b * 256 + c) % 64 = c % 64 by omega]
theorem plain_l2 : ∀ (d : Nat) (out : Bytes) (k : Nat), d ≤ 3 → (out.length + d) % 4 = 0 → out.length ≤ 1000000000 → d + 1 ≤ k → bulletinref18_Plain.l2 k (str out) = some (str (out ++ List.replicate d 61))
 | 0, out, k, hd, h, ho, hk => by
  obtain ⟨k, rfl⟩ : ∃ j, k = j + 1 := ⟨k - 1, by omega⟩
  rw [bulletinref18_Plain.l2, if_pos (by rw [str_size]; omega)]
  simp
 | d + 1, out, k, hd, h, ho, hk => by
  obtain ⟨k, rfl⟩ : ∃ j, k = j + 1 := ⟨k - 1, by omega⟩
  rw [bulletinref18_Plain.l2, if_neg (by rw [str_size]; omega), if_pos (by rw [str_size]; omega), show (⟨#[61]⟩ : ByteArray) = str [61] from rfl, str_app, plain_l2 d (out ++ [61]) k (by omega) (by rw [List.length_append, List.length_singleton]; omega) (by rw [List.length_append, List.length_singleton]; omega) (by omega)]
  simp [List.replicate_succ]
theorem plain_one (s : ByteArray) (out : Bytes) (i v : Nat) (hs : s.size ≤ 10000000) (hi : i < 8 * s.size) (ho : out.length ≤ 100000000) (hv : six (bs s) i = v) (k : Nat) (hk : 40 ≤ k) :
  bulletinref18_Plain.l0 k s (str out) (i : Int) = bulletinref18_Plain.l0 (k - 8) s (str (out ++ [b64C v])) ((i + 6 : Nat) : Int) := by
 obtain ⟨k, rfl⟩ : ∃ j, k = j + 1 := ⟨k - 1, by omega⟩
 rw [bulletinref18_Plain.l0, wrap_small (x := 8 * (s.size : Int)) (by omega) (by omega), if_pos (by omega), plain_l1 s (str out) i (by omega) k (by omega) (by rw [str_size]; omega), hv, str_app, show k + 1 - 8 = k - 7 by omega]
theorem plain_end (s : ByteArray) (out : Bytes) (i d : Nat) (hs : s.size ≤ 10000000) (hi : 8 * s.size ≤ i) (hd : d ≤ 3) (h : (out.length + d) % 4 = 0) (ho : out.length ≤ 100000000) (k : Nat) (hk : 10 ≤ k) :
  bulletinref18_Plain.l0 k s (str out) (i : Int) = some (str (out ++ List.replicate d 61)) := by
 obtain ⟨k, rfl⟩ : ∃ j, k = j + 1 := ⟨k - 1, by omega⟩
 rw [bulletinref18_Plain.l0, wrap_small (x := 8 * (s.size : Int)) (by omega) (by omega), if_neg (by omega)]
 exact plain_l2 d out k hd h (by omega) (by omega)
theorem plain_l0 (s : ByteArray) (hs : s.size ≤ 10000000) : ∀ (rest p : Bytes) (g k : Nat) (out : Bytes), bs s = p ++ rest → p.length = 3 * g → out.length = 4 * g → 40 * rest.length + 60 ≤ k →
  bulletinref18_Plain.l0 k s (str out) ((24 * g : Nat) : Int) = some (str (out ++ b64P rest))
 | [], p, g, k, out, hb, hp, ho, hk => by
  have hz := congrArg List.length hb
  rw [bs_length, List.append_nil] at hz
  have := plain_end s out (24 * g) 0 hs (by omega) (by omega) (by omega) (by omega) k (by omega)
  simpa [b64P] using this
 | [a], p, g, k, out, hb, hp, ho, hk => by
  have hz := congrArg List.length hb
  rw [bs_length, List.length_append, List.length_singleton] at hz
  have ha := a.toNat_lt
  obtain ⟨s0, s1, s2, s3⟩ := six_at p [a] g hp
  rw [← hb] at s0 s1
  simp only [List.getD_cons_zero, List.getD_cons_succ, List.getD_nil] at s0 s1
  rw [plain_one s out (24 * g) _ hs (by omega) (by omega) s0 k (by omega), plain_one s _ (24 * g + 6) _ hs (by omega) (by rw [List.length_append, List.length_singleton]; omega) s1 _ (by omega), plain_end s _ (24 * g + 6 + 6) 2 hs (by omega) (by omega) (by simp; omega) (by simp; omega) _ (by omega)]
  rw [b64P, grp_is _ _ _ ha (by decide) (by decide)]
  simp [List.replicate_succ]
 | [a, b], p, g, k, out, hb, hp, ho, hk => by
  have hz := congrArg List.length hb
  rw [bs_length, List.length_append] at hz
  simp only [List.length_cons, List.length_nil] at hz hk
  have ha := a.toNat_lt
  have hb2 := b.toNat_lt
  obtain ⟨s0, s1, s2, s3⟩ := six_at p [a, b] g hp
  rw [← hb] at s0 s1 s2
  simp only [List.getD_cons_zero, List.getD_cons_succ, List.getD_nil] at s0 s1 s2
  rw [plain_one s out (24 * g) _ hs (by omega) (by omega) s0 k (by omega), plain_one s _ (24 * g + 6) _ hs (by omega) (by rw [List.length_append, List.length_singleton]; omega) s1 _ (by omega), plain_one s _ (24 * g + 6 + 6) _ hs (by omega) (by simp; omega) s2 _ (by omega), plain_end s _ (24 * g + 6 + 6 + 6) 1 hs (by omega) (by omega) (by simp; omega) (by simp; omega) _ (by omega)]
  rw [b64P, grp_is _ _ _ ha hb2 (by decide)]
  simp [List.replicate_succ]
 | a :: b :: c :: r, p, g, k, out, hb, hp, ho, hk => by
  have hz := congrArg List.length hb
  rw [bs_length, List.length_append] at hz
  simp only [List.length_cons] at hz hk
  have ha := a.toNat_lt
  have hb2 := b.toNat_lt
  have hc2 := c.toNat_lt
  obtain ⟨s0, s1, s2, s3⟩ := six_at p (a :: b :: c :: r) g hp
  rw [← hb] at s0 s1 s2 s3
  simp only [List.getD_cons_zero, List.getD_cons_succ] at s0 s1 s2 s3
  rw [plain_one s out (24 * g) _ hs (by omega) (by omega) s0 k (by omega), plain_one s _ (24 * g + 6) _ hs (by omega) (by rw [List.length_append, List.length_singleton]; omega) s1 _ (by omega), plain_one s _ (24 * g + 6 + 6) _ hs (by omega) (by simp; omega) s2 _ (by omega), plain_one s _ (24 * g + 6 + 6 + 6) _ hs (by omega) (by simp; omega) s3 _ (by omega)]
  have := plain_l0 s hs r (p ++ [a, b, c]) (g + 1) (k - 8 - 8 - 8 - 8) (out ++ [b64C (a.toNat / 4)] ++ [b64C (a.toNat % 4 * 16 + b.toNat / 16)] ++ [b64C (b.toNat % 16 * 4 + c.toNat / 64)] ++ [b64C (c.toNat % 64)]) (by rw [hb]; simp) (by simp; omega) (by simp; omega) (by omega)
  rw [show 24 * g + 6 + 6 + 6 + 6 = 24 * (g + 1) by omega, this, b64P, grp_is _ _ _ ha hb2 hc2]
  simp
theorem refplain_is (s : ByteArray) (hs : s.size ≤ 10000000) (k : Nat) (hk : 40 * s.size + 60 ≤ k) : bulletinref18_Plain.f k s = some (str (b64P (bs s))) := by
 have := plain_l0 s hs (bs s) [] 0 k [] rfl rfl rfl (by rw [bs_length]; exact hk)
 exact this
end Go.Proofs.YtihabmcaplnbcaaGreatDoor.Pl
set_option linter.unusedVariables false
set_option linter.unusedSimpArgs false
namespace Go.Proofs.YtihabmcaplnbcaaGreatDoor.Pl
open Go.RowKit Go.Proofs.YtihabmcaplnbcaaGreatDoorW.PrintWords Go.Proofs.YtihabmcaplnbcaaGreatDoor.Fn

/-! Layer 18: the document's Decode is b64L. -/
theorem d_bit (B out : ByteArray) (h n i v p k : Nat) (hv : v < 64) (hp : 1 ≤ p) (hp2 : p ≤ 32) (hn : n < 7) (hh : h < 128) :
  bulletinref18_Decode.l1 (k + 2) B out (h : Int) (n : Int) (i : Int) (v : Int) (p : Int) = bulletinref18_Decode.l1 k B out ((2 * h + v / p % 2 : Nat) : Int) ((n + 1 : Nat) : Int) (i : Int) (v : Int) ((p / 2 : Nat) : Int) := by
 have hq : v / p < 64 := Nat.lt_of_le_of_lt (Nat.div_le_self _ _) hv
 have e1 : Int.tdiv (v : Int) (p : Int) = ((v / p : Nat) : Int) := (Int.ofNat_tdiv v p).symm
 have e3 : Int.tdiv (p : Int) 2 = ((p / 2 : Nat) : Int) := (Int.ofNat_tdiv p 2).symm
 generalize v / p = q at *
 have e2 : Int.tmod (q : Int) 2 = ((q % 2 : Nat) : Int) := (Int.ofNat_tmod q 2).symm
 have hb : q % 2 < 2 := Nat.mod_lt _ (by decide)
 have hp3 : p / 2 ≤ 16 := by omega
 generalize q % 2 = b at *
 generalize p / 2 = p2 at *
 rw [bulletinref18_Decode.l1, if_pos (by omega), show decide ((v : Int) ≥ 0) = true from decide_eq_true (by omega), bulletinref18_Decode.j2, if_pos rfl, if_neg (by omega), wrap_succ n (by omega), if_neg (by omega), e1, e3, wrap_small (x := (q : Int)) (by omega) (by omega), e2, wrap_small (x := 2 * (h : Int)) (by omega) (by omega), wrap_small (x := 2 * (h : Int) + (b : Int)) (by omega) (by omega), wrap_small (x := (p2 : Int)) (by omega) (by omega), show 2 * (h : Int) + (b : Int) = ((2 * h + b : Nat) : Int) by omega]
theorem d_byte (B : ByteArray) (out : Bytes) (h i v p k : Nat) (hv : v < 64) (hp : 1 ≤ p) (hp2 : p ≤ 32) (hh : h < 128) (ho : out.length ≤ 1000000000) :
  bulletinref18_Decode.l1 (k + 2) B (str out) (h : Int) (7 : Nat) (i : Int) (v : Int) (p : Int) = bulletinref18_Decode.l1 k B (str (out ++ [UInt8.ofNat (2 * h + v / p % 2)])) ((0 : Nat) : Int) ((0 : Nat) : Int) (i : Int) (v : Int) ((p / 2 : Nat) : Int) := by
 have hq : v / p < 64 := Nat.lt_of_le_of_lt (Nat.div_le_self _ _) hv
 have e1 : Int.tdiv (v : Int) (p : Int) = ((v / p : Nat) : Int) := (Int.ofNat_tdiv v p).symm
 have e3 : Int.tdiv (p : Int) 2 = ((p / 2 : Nat) : Int) := (Int.ofNat_tdiv p 2).symm
 generalize v / p = q at *
 have e2 : Int.tmod (q : Int) 2 = ((q % 2 : Nat) : Int) := (Int.ofNat_tmod q 2).symm
 have hb : q % 2 < 2 := Nat.mod_lt _ (by decide)
 have hp3 : p / 2 ≤ 16 := by omega
 generalize q % 2 = b at *
 generalize p / 2 = p2 at *
 have hn : strOfNums [((2 * h + b : Nat) : Int) % 256] = str [UInt8.ofNat (2 * h + b)] := by
  rw [show ((2 * h + b : Nat) : Int) % 256 = ((UInt8.ofNat (2 * h + b)).toNat : Int) by rw [UInt8.toNat_ofNat']; omega, nums_one, Int.toNat_natCast, UInt8.ofNat_toNat]
 rw [bulletinref18_Decode.l1, if_pos (by omega), show decide ((v : Int) ≥ 0) = true from decide_eq_true (by omega), bulletinref18_Decode.j2, if_pos rfl, if_neg (by omega), wrap_succ 7 (by omega), if_pos (by omega), e1, e3, wrap_small (x := (q : Int)) (by omega) (by omega), e2, wrap_small (x := 2 * (h : Int)) (by omega) (by omega), wrap_small (x := 2 * (h : Int) + (b : Int)) (by omega) (by omega), wrap_small (x := (p2 : Int)) (by omega) (by omega), show 2 * (h : Int) + (b : Int) = ((2 * h + b : Nat) : Int) by omega, Option.bind_some, hn, if_pos (by rw [str_size, str_size, List.length_singleton]; omega), str_app]
 rfl
theorem d_end (B out : ByteArray) (h n i v k : Nat) (hi : i ≤ 1000000000) : bulletinref18_Decode.l1 (k + 2) B out (h : Int) (n : Int) (i : Int) (v : Int) ((0 : Nat) : Int) = bulletinref18_Decode.l0 k B out (h : Int) (n : Int) ((i + 1 : Nat) : Int) := by
 rw [bulletinref18_Decode.l1, if_neg (by omega), bulletinref18_Decode.j2, if_neg (by decide), wrap_succ i (by omega)]
theorem d_skip (B out : ByteArray) (h n i k : Nat) (hi : i ≤ 1000000000) : bulletinref18_Decode.l1 (k + 2) B out (h : Int) (n : Int) (i : Int) (-1) 32 = bulletinref18_Decode.l0 k B out (h : Int) (n : Int) ((i + 1 : Nat) : Int) := by
 rw [bulletinref18_Decode.l1, if_pos (by decide), show decide ((-1 : Int) ≥ 0) = false from rfl, bulletinref18_Decode.j2, if_neg (by decide), wrap_succ i (by omega)]
set_option maxHeartbeats 2000000 in
theorem d_letter (B : ByteArray) (out : Bytes) (h n i v k : Nat) (hi : i ≤ 1000000000) (hv : v < 64) (hn : n = 0 ∨ n = 2 ∨ n = 4 ∨ n = 6) (hh : h < 2 ^ n) (ho : out.length ≤ 1000000000) :
  bulletinref18_Decode.l1 (k + 14) B (str out) (h : Int) (n : Int) (i : Int) (v : Int) 32 = if 8 ≤ n + 6 then bulletinref18_Decode.l0 k B (str (out ++ [UInt8.ofNat ((h * 64 + v) / 2 ^ (n - 2))])) (((h * 64 + v) % 2 ^ (n - 2) : Nat) : Int) ((n - 2 : Nat) : Int) ((i + 1 : Nat) : Int) else bulletinref18_Decode.l0 k B (str out) ((h * 64 + v : Nat) : Int) ((n + 6 : Nat) : Int) ((i + 1 : Nat) : Int) := by
 have b5 : v / 32 % 2 < 2 := Nat.mod_lt _ (by decide)
 have b4 : v / 16 % 2 < 2 := Nat.mod_lt _ (by decide)
 have b3 : v / 8 % 2 < 2 := Nat.mod_lt _ (by decide)
 have b2 : v / 4 % 2 < 2 := Nat.mod_lt _ (by decide)
 have b1 : v / 2 % 2 < 2 := Nat.mod_lt _ (by decide)
 have b0 : v / 1 % 2 < 2 := Nat.mod_lt _ (by decide)
 rw [show (32 : Int) = ((32 : Nat) : Int) from rfl]
 rcases hn with rfl | rfl | rfl | rfl
 ·simp only [Nat.pow_zero] at hh
  rw [if_neg (by decide), d_bit B _ h 0 i v 32 (k + 12) hv (by decide) (by decide) (by decide) (by omega), d_bit B _ _ 1 i v 16 (k + 10) hv (by decide) (by decide) (by decide) (by omega), d_bit B _ _ 2 i v 8 (k + 8) hv (by decide) (by decide) (by decide) (by omega), d_bit B _ _ 3 i v 4 (k + 6) hv (by decide) (by decide) (by decide) (by omega), d_bit B _ _ 4 i v 2 (k + 4) hv (by decide) (by decide) (by decide) (by omega), d_bit B _ _ 5 i v 1 (k + 2) hv (by decide) (by decide) (by decide) (by omega)]
  refine (d_end B _ _ 6 i v k hi).trans ?_
  congr 1
  omega
 ·simp only [Nat.reducePow] at hh
  rw [if_pos (by decide), d_bit B _ h 2 i v 32 (k + 12) hv (by decide) (by decide) (by decide) (by omega), d_bit B _ _ 3 i v 16 (k + 10) hv (by decide) (by decide) (by decide) (by omega), d_bit B _ _ 4 i v 8 (k + 8) hv (by decide) (by decide) (by decide) (by omega), d_bit B _ _ 5 i v 4 (k + 6) hv (by decide) (by decide) (by decide) (by omega), d_bit B _ _ 6 i v 2 (k + 4) hv (by decide) (by decide) (by decide) (by omega)]
  refine (d_byte B out _ i v 1 (k + 2) hv (by decide) (by decide) (by omega) ho).trans ((d_end B _ _ 0 i v k hi).trans ?_)
  rw [show 2 * (2 * (2 * (2 * (2 * (2 * h + v / 32 % 2) + v / 16 % 2) + v / 8 % 2) + v / 4 % 2) + v / 2 % 2) + v / 1 % 2 = (h * 64 + v) / 2 ^ (2 - 2) by simp only [Nat.reduceSub, Nat.reducePow]; omega, show (h * 64 + v) % 2 ^ (2 - 2) = 0 by simp only [Nat.reduceSub, Nat.reducePow]; omega]
 ·simp only [Nat.reducePow] at hh
  rw [if_pos (by decide), d_bit B _ h 4 i v 32 (k + 12) hv (by decide) (by decide) (by decide) (by omega), d_bit B _ _ 5 i v 16 (k + 10) hv (by decide) (by decide) (by decide) (by omega), d_bit B _ _ 6 i v 8 (k + 8) hv (by decide) (by decide) (by decide) (by omega)]
  refine (d_byte B out _ i v 4 (k + 6) hv (by decide) (by decide) (by omega) ho).trans ?_
  rw [d_bit B _ 0 0 i v 2 (k + 4) hv (by decide) (by decide) (by decide) (by omega), d_bit B _ _ 1 i v 1 (k + 2) hv (by decide) (by decide) (by decide) (by omega)]
  refine (d_end B _ _ 2 i v k hi).trans ?_
  rw [show 2 * (2 * (2 * (2 * h + v / 32 % 2) + v / 16 % 2) + v / 8 % 2) + v / 4 % 2 = (h * 64 + v) / 2 ^ (4 - 2) by simp only [Nat.reduceSub, Nat.reducePow]; omega, show 2 * (2 * 0 + v / 2 % 2) + v / 1 % 2 = (h * 64 + v) % 2 ^ (4 - 2) by simp only [Nat.reduceSub, Nat.reducePow]; omega]
 simp only [Nat.reducePow] at hh
 rw [if_pos (by decide), d_bit B _ h 6 i v 32 (k + 12) hv (by decide) (by decide) (by decide) (by omega)]
 refine (d_byte B out _ i v 16 (k + 10) hv (by decide) (by decide) (by omega) ho).trans ?_
 rw [d_bit B _ 0 0 i v 8 (k + 8) hv (by decide) (by decide) (by decide) (by omega), d_bit B _ _ 1 i v 4 (k + 6) hv (by decide) (by decide) (by decide) (by omega), d_bit B _ _ 2 i v 2 (k + 4) hv (by decide) (by decide) (by decide) (by omega), d_bit B _ _ 3 i v 1 (k + 2) hv (by decide) (by decide) (by decide) (by omega)]
 refine (d_end B _ _ 4 i v k hi).trans ?_
 rw [show 2 * (2 * h + v / 32 % 2) + v / 16 % 2 = (h * 64 + v) / 2 ^ (6 - 2) by simp only [Nat.reduceSub, Nat.reducePow]; omega, show 2 * (2 * (2 * (2 * 0 + v / 8 % 2) + v / 4 % 2) + v / 2 % 2) + v / 1 % 2 = (h * 64 + v) % 2 ^ (6 - 2) by simp only [Nat.reduceSub, Nat.reducePow]; omega]
def b64S : Bytes → Nat → Nat → Bytes → Bytes
 | [], _, _, acc => acc
 | c :: r, h, n, acc => match b64V c with
  | none => b64S r h n acc
  | some q => if 8 ≤ n + 6 then b64S r ((h * 64 + q) % 2 ^ (n - 2)) (n - 2) (acc ++ [UInt8.ofNat ((h * 64 + q) / 2 ^ (n - 2))]) else b64S r (h * 64 + q) (n + 6) acc
theorem b64S_none {c : UInt8} (hc : b64V c = none) (r : Bytes) (h n : Nat) (acc : Bytes) : b64S (c :: r) h n acc = b64S r h n acc := by rw [b64S, hc]
theorem b64S_some {c : UInt8} {q : Nat} (hc : b64V c = some q) (r : Bytes) (h n : Nat) (acc : Bytes) : b64S (c :: r) h n acc = if 8 ≤ n + 6 then b64S r ((h * 64 + q) % 2 ^ (n - 2)) (n - 2) (acc ++ [UInt8.ofNat ((h * 64 + q) / 2 ^ (n - 2))]) else b64S r (h * 64 + q) (n + 6) acc := by rw [b64S, hc]
def fin18 (B x : Bytes) : ByteArray × Bool := if b64P x = B then (str x, true) else ((⟨#[]⟩ : ByteArray), false)
theorem refdec_l0 (B : ByteArray) (hs : B.size ≤ 10000000) : ∀ (rest : Bytes) (i k h n : Nat) (acc : Bytes), (bs B).drop i = rest → 16 * rest.length + 40 * B.size + 100 ≤ k → acc.length ≤ i → i ≤ B.size → (n = 0 ∨ n = 2 ∨ n = 4 ∨ n = 6) → h < 2 ^ n →
  bulletinref18_Decode.l0 k B (str acc) (h : Int) (n : Int) (i : Int) = some (fin18 (bs B) (b64S rest h n acc))
 | [], i, k, h, n, acc, hr, hk, ha, hi, hn, hh => by
  obtain ⟨k, rfl⟩ : ∃ j, k = j + 1 := ⟨k - 1, by omega⟩
  have hz := congrArg List.length hr
  rw [List.length_drop, bs_length] at hz
  simp only [List.length_nil] at hz hk
  have hz2 : (str acc).size = acc.length := str_size acc
  rw [bulletinref18_Decode.l0, if_neg (by omega), refplain_is (str acc) (by omega) k (by omega), Option.bind_some, bs_str, b64S]
  unfold fin18
  rw [toList_str, toList_bs]
  by_cases e : b64P acc = bs B
  ·rw [if_pos e, if_pos e]
  rw [if_neg e, if_neg e]
 | c :: r, i, k, h, n, acc, hr, hk, ha, hi, hn, hh => by
  obtain ⟨k, rfl⟩ : ∃ j, k = j + 15 := ⟨k - 15, by simp at hk; omega⟩
  have hz := congrArg List.length hr
  rw [List.length_drop, bs_length] at hz
  simp only [List.length_cons] at hz hk
  have hr1 : (bs B).drop (i + 1) = r := by rw [← List.drop_drop, hr]; rfl
  have hbt : bt B (i : Int) = (c.toNat : Int) := bt_drop hr
  rw [bulletinref18_Decode.l0, if_pos (by omega), if_pos (by omega), hbt, value_is18 c (k + 14) (by omega), Option.bind_some]
  cases hc : b64V c with
  | none =>
   rw [show b64Z c = -1 by unfold b64Z; rw [hc], b64S_none hc]
   refine (d_skip B (str acc) h n i (k + 12) (by omega)).trans ?_
   exact refdec_l0 B hs r (i + 1) (k + 12) h n acc hr1 (by omega) (by omega) (by omega) hn hh
  | some q =>
   have hq := b64V_lt hc
   rw [show b64Z c = (q : Int) by unfold b64Z; rw [hc], b64S_some hc, d_letter B acc h n i q k (by omega) hq hn hh (by omega)]
   have hp : ∀ m, 0 < 2 ^ m := fun m => Nat.two_pow_pos m
   split
   ·exact refdec_l0 B hs r (i + 1) k _ (n - 2) _ hr1 (by omega) (by rw [List.length_append, List.length_singleton]; omega) (by omega) (by omega) (Nat.mod_lt _ (hp _))
   have hn0 : n = 0 := by omega
   subst hn0
   simp only [Nat.pow_zero] at hh
   exact refdec_l0 B hs r (i + 1) k _ 6 _ hr1 (by omega) (by omega) (by omega) (by omega) (by simp only [Nat.reducePow]; omega)
theorem b64D_some : ∀ (l : Bytes) (h n : Nat) (acc x : Bytes), b64D l h n acc = some x → b64S l h n acc = x
 | [], h, n, acc, x, e => by simpa [b64D, b64S] using e
 | c :: r, h, n, acc, x, e => by
  rw [b64D] at e
  cases hc : b64V c with
  | none => rw [hc] at e; simp at e
  | some q =>
   rw [hc, Option.bind_some] at e
   rw [b64S_some hc]
   split at e
   ·rw [if_pos (by assumption)]; exact b64D_some r _ _ _ x e
   rw [if_neg (by assumption)]; exact b64D_some r _ _ _ x e
theorem b64D_all : ∀ (l : Bytes) (h n : Nat) (acc : Bytes), (∀ c ∈ l, (b64V c).isSome = true) → ∃ x, b64D l h n acc = some x
 | [], h, n, acc, _ => ⟨acc, rfl⟩
 | c :: r, h, n, acc, ha => by
  rw [b64D]
  have h1 := ha c (by simp)
  have h2 : ∀ d ∈ r, (b64V d).isSome = true := fun d hd => ha d (by simp [hd])
  cases hc : b64V c with
  | none => rw [hc] at h1; simp at h1
  | some q =>
   rw [Option.bind_some]
   split
   ·exact b64D_all r _ _ _ h2
   exact b64D_all r _ _ _ h2
theorem b64S_pad : ∀ (l p : Bytes) (h n : Nat) (acc : Bytes), (∀ c ∈ p, b64V c = none) → b64S (l ++ p) h n acc = b64S l h n acc
 | [], [], h, n, acc, _ => rfl
 | [], c :: p, h, n, acc, hp => by
  rw [List.nil_append, b64S_none (hp c (by simp))]
  exact b64S_pad [] p h n acc (fun d hd => hp d (by simp [hd]))
 | c :: l, p, h, n, acc, hp => by
  rw [List.cons_append]
  cases hc : b64V c with
  | none => rw [b64S_none hc, b64S_none hc]; exact b64S_pad l p h n acc hp
  | some q =>
   rw [b64S_some hc, b64S_some hc]
   split
   ·exact b64S_pad l p _ _ _ hp
   exact b64S_pad l p _ _ _ hp
theorem takeW_all (q : UInt8 → Bool) : ∀ (l : Bytes), ∀ c ∈ l.takeWhile q, q c = true
 | [], c, h => by simp at h
 | d :: l, c, h => by
  by_cases hd : q d = true
  ·rw [List.takeWhile_cons_of_pos hd, List.mem_cons] at h
   rcases h with rfl | h
   ·exact hd
   exact takeW_all q l c h
  rw [List.takeWhile_cons_of_neg hd] at h; simp at h
theorem trimR_split (l : Bytes) (t : Bytes) : ∃ p, l = Lib.trimRightS l t ++ p ∧ (∀ c ∈ p, t.contains c = true) := by
 refine ⟨(l.reverse.takeWhile (t.contains ·)).reverse, ?_, ?_⟩
 ·have h := List.takeWhile_append_dropWhile (p := (t.contains ·)) (l := l.reverse)
  have h2 := congrArg List.reverse h
  rw [List.reverse_append, List.reverse_reverse] at h2
  unfold Lib.trimRightS
  exact h2.symm
 intro c hc
 rw [List.mem_reverse] at hc
 exact takeW_all _ _ c hc
theorem dropW_app (q : UInt8 → Bool) : ∀ (p l : Bytes), (∀ c ∈ p, q c = true) → (p ++ l).dropWhile q = l.dropWhile q
 | [], l, _ => rfl
 | c :: p, l, h => by rw [List.cons_append, List.dropWhile_cons_of_pos (h c (by simp))]; exact dropW_app q p l (fun d hd => h d (by simp [hd]))
theorem dropW_sub (q : UInt8 → Bool) : ∀ (l : Bytes), ∀ c ∈ l.dropWhile q, c ∈ l
 | [], c, h => h
 | d :: l, c, h => by
  by_cases hd : q d = true
  ·rw [List.dropWhile_cons_of_pos hd] at h; exact List.mem_cons_of_mem _ (dropW_sub q l c h)
  rw [List.dropWhile_cons_of_neg hd] at h; exact h
theorem b64C_V (n : Nat) : (b64V (b64C n)).isSome = true := by
 by_cases h : n < 63
 ·have : ∀ m : Fin 63, (b64V (b64C m.val)).isSome = true := by decide +kernel
  exact this ⟨n, h⟩
 have : b64C n = 47 := by unfold b64C; rw [if_neg (by omega), if_neg (by omega), if_neg (by omega), if_neg (by omega)]
 rw [this]; rfl
theorem grp_V (a b c : Nat) : ∀ x ∈ grp a b c, (b64V x).isSome = true := by
 intro x hx
 unfold grp at hx
 simp only [List.mem_cons, List.not_mem_nil, or_false] at hx
 rcases hx with rfl | rfl | rfl | rfl <;> exact b64C_V _
theorem b64P_shape : ∀ l : Bytes, ∃ L d, b64P l = L ++ List.replicate d 61 ∧ ∀ c ∈ L, (b64V c).isSome = true
 | [] => ⟨[], 0, rfl, by simp⟩
 | [a] => ⟨(grp a.toNat 0 0).take 2, 2, rfl, fun c hc => grp_V _ _ _ c (List.mem_of_mem_take hc)⟩
 | [a, b] => ⟨(grp a.toNat b.toNat 0).take 3, 1, rfl, fun c hc => grp_V _ _ _ c (List.mem_of_mem_take hc)⟩
 | a :: b :: c :: r => by
  obtain ⟨L, d, e, h⟩ := b64P_shape r
  refine ⟨grp a.toNat b.toNat c.toNat ++ L, d, by rw [b64P, e, List.append_assoc], ?_⟩
  intro x hx
  rw [List.mem_append] at hx
  rcases hx with hx | hx
  ·exact grp_V _ _ _ x hx
  exact h x hx
theorem V61 : b64V 61 = none := by decide
theorem shape_trim (L : Bytes) (d : Nat) (h : ∀ c ∈ L, (b64V c).isSome = true) : ∀ c ∈ Lib.trimRightS (L ++ List.replicate d 61) [61], (b64V c).isSome = true := by
 intro c hc
 unfold Lib.trimRightS at hc
 rw [List.mem_reverse, List.reverse_append, dropW_app _ _ _ (by intro x hx; rw [List.mem_reverse, List.mem_replicate] at hx; rw [hx.2]; rfl)] at hc
 have := dropW_sub _ _ c hc
 rw [List.mem_reverse] at this
 exact h c this
theorem fin_is (B : Bytes) : fin18 B (b64S B 0 0 []) = resQ ((b64D (Lib.trimRightS B [61]) 0 0 []).bind fun b => if b64P b = B then some b else none) := by
 obtain ⟨p, hp, hq⟩ := trimR_split B [61]
 have hq2 : ∀ c ∈ p, b64V c = none := by
  intro c hc
  have := hq c hc
  simp at this
  rw [this]
  exact V61
 have hS : b64S B 0 0 [] = b64S (Lib.trimRightS B [61]) 0 0 [] := (congrArg (fun x => b64S x 0 0 []) hp).trans (b64S_pad _ p 0 0 [] hq2)
 unfold fin18
 cases hd : b64D (Lib.trimRightS B [61]) 0 0 [] with
 | some x =>
  rw [Option.bind_some, hS, b64D_some _ _ _ _ x hd]
  by_cases e : b64P x = B
  ·rw [if_pos e, if_pos e]; rfl
  rw [if_neg e, if_neg e]; rfl
 | none =>
  rw [Option.bind_none, if_neg]
  ·rfl
  intro e
  obtain ⟨L, d, e2, h⟩ := b64P_shape (b64S B 0 0 [])
  obtain ⟨x, hx⟩ := b64D_all (Lib.trimRightS B [61]) 0 0 [] (by rw [← e, e2]; exact shape_trim L d h)
  rw [hx] at hd
  cases hd
theorem ref18Decode_is (s : ByteArray) (hs : s.size ≤ 10000000) (k : Nat) (hk : 60 * s.size + 200 ≤ k) : bulletinref18_Decode.f k s = some (resQ (b64L (bs s))) := by
 have hl : (bareL (bs s)).length ≤ s.size := by
  rw [← bs_length s]
  exact List.length_filter_le _ _
 have hz : (str (bareL (bs s))).size ≤ s.size := by rw [str_size]; exact hl
 unfold bulletinref18_Decode.f
 rw [refbare_is s (by omega) k (by omega), Option.bind_some]
 refine (refdec_l0 (str (bareL (bs s))) (by omega) (bareL (bs s)) 0 k 0 0 [] (by rw [bs_str]; rfl) (by omega) (by simp) (by omega) (by omega) (by decide)).trans ?_
 rw [bs_str, fin_is]
 rfl
end Go.Proofs.YtihabmcaplnbcaaGreatDoor.Pl
set_option linter.unusedVariables false
set_option linter.unusedSimpArgs false
namespace Go.Proofs.YtihabmcaplnbcaaGreatDoor.Pl
open Go.RowKit Go.Proofs.YtihabmcaplnbcaaGreatDoorW.PrintWords
end Go.Proofs.YtihabmcaplnbcaaGreatDoor.Pl
namespace Go.Proofs.YtihabmcaplnbcaaGreatDoor.Fn
open Go.RowKit Go.Proofs.YtihabmcaplnbcaaGreatDoorW.PrintWords

end Go.Proofs.YtihabmcaplnbcaaGreatDoor.Fn
set_option linter.unusedVariables false
namespace Go.Proofs.YtihabmcaplnbcaaGreatDoor.Fn
open Go.RowKit Go.Proofs.YtihabmcaplnbcaaGreatDoorW.PrintWords

end Go.Proofs.YtihabmcaplnbcaaGreatDoor.Fn
set_option linter.unusedVariables false
set_option linter.unusedSimpArgs false
namespace Go.Proofs.YtihabmcaplnbcaaGreatDoor.Fn
open Go.RowKit Go.Proofs.YtihabmcaplnbcaaGreatDoorW.PrintWords

end Go.Proofs.YtihabmcaplnbcaaGreatDoor.Fn
set_option linter.unusedVariables false
set_option linter.unusedSimpArgs false
namespace Go.Proofs.YtihabmcaplnbcaaGreatDoor.Pl
open Go.RowKit Go.Proofs.YtihabmcaplnbcaaGreatDoorW.PrintWords Go.Proofs.YtihabmcaplnbcaaGreatDoor.Fn

/-! Layer 19: what the laws call. -/
theorem decode_is (s : ByteArray) (hs : s.size ≤ 1000000000) : ew_Decode.f s = some (str (decodeL (bs s))) := by
 unfold ew_Decode.f
 rw [if_pos hs]
theorem decL_len : ∀ (f : Nat) (l acc : Bytes), (decL f l acc).length ≤ acc.length + 300 * l.length
 | 0, l, acc => by rw [decL]; omega
 | f + 1, [], acc => by rw [decL]; omega
 | f + 1, c :: r, acc => by
  rw [decL]
  cases hw : wordL (c :: r) with
  | none =>
   have := decL_len f r (acc ++ [c])
   simp at this ⊢
   omega
  | some y =>
   obtain ⟨x, n⟩ := y
   simp only []
   obtain ⟨_, _, hn, _, hn2, _⟩ := wordL_some hw
   have hx := wordL_len hw
   have hd : ((c :: r).drop n).length = (c :: r).length - n := List.length_drop
   split
   ·have := decL_len f (trimB ((c :: r).drop n)) (acc ++ x)
    have ht := trimB_len ((c :: r).drop n)
    rw [List.length_append] at this
    omega
   have := decL_len f ((c :: r).drop n) (acc ++ x)
   rw [List.length_append] at this
   omega
theorem decodeL_len (l : Bytes) : (decodeL l).length ≤ 300 * l.length := by
 have := decL_len l.length l []
 simpa [decodeL] using this
end Go.Proofs.YtihabmcaplnbcaaGreatDoor.Pl
set_option linter.unusedVariables false
set_option linter.unusedSimpArgs false
namespace Go.Proofs.YtihabmcaplnbcaaGreatDoor.Pl
open Go.Proofs.YtihabmcaplnbcaaGreatDoorW.PrintWords
def sameN (a b : ByteArray) : Bool := (str (fold (bs a))).toList == (str (fold (bs b))).toList
end Go.Proofs.YtihabmcaplnbcaaGreatDoor.Pl
namespace Go.Proofs.YtihabmcaplnbcaaGreatDoor.Fn
open Go.RowKit Go.Proofs.YtihabmcaplnbcaaGreatDoorW.PrintWords

theorem headsame_is (a b : ByteArray) (ha : a.size ≤ 35184372088832) (hb : b.size ≤ 35184372088832) : head_same.f a b = some (Pl.sameN a b) := by
 unfold head_same.f glyph_Fold.f Pl.sameN
 rw [if_pos ha, if_pos hb]
 rfl
def askN (name : ByteArray) (x : S35) : Bool := Pl.sameN x.f0 name
end Go.Proofs.YtihabmcaplnbcaaGreatDoor.Fn
set_option linter.unusedVariables false
set_option linter.unusedSimpArgs false
namespace Go.Proofs.YtihabmcaplnbcaaGreatDoor.Pl
open Go.RowKit Go.Proofs.YtihabmcaplnbcaaGreatDoorW.PrintWords Go.Proofs.YtihabmcaplnbcaaGreatDoor.Fn

/-! Layer 15: fields, the document's and the program's. -/
abbrev FQ := S74
abbrev FP := S35
def toF (x : FQ) : FP := ⟨x.f0, x.f1⟩
theorem rdQ (l : List FQ) (i : Nat) (h : i < l.length) : rd_T74 l (i : Int) = l[i] := by
 unfold rd_T74
 rw [Int.toNat_natCast, List.getD_eq_getElem?_getD, List.getElem?_eq_getElem h]; rfl
theorem rdP (l : List FP) (i : Nat) (h : i < l.length) : rd_T35 l (i : Int) = l[i] := by
 unfold rd_T35
 rw [Int.toNat_natCast, List.getD_eq_getElem?_getD, List.getElem?_eq_getElem h]; rfl
theorem wrapS (i : Nat) (h : i < 1000000000) : wrap64 ((i : Int) + 1) = ((i + 1 : Nat) : Int) := by
 rw [wrap_id (by omega) (by omega)]; omega
def okQ (f : FQ) : Bool := decide (f.f0.size ≤ 200) && decide (f.f1.size ≤ 3000)
def lightQ (l : List FQ) : Bool := (l.take 30).all okQ && decide (l.length ≤ 30)
theorem lightQ_rounds (l : List FQ) : ∀ (n i k : Nat), i + n = 31 → i ≤ 30 → 2 * n + 3 < k → i ≤ l.length → bulletinlaw15_Light.l0 k l (i : Int) = some (((l.take 30).drop i).all okQ && decide (l.length ≤ 30)) := by
 intro n
 induction n with
 | zero => intro i k h hi; omega
 | succ n ih =>
  intro i k h hi hk hil
  obtain ⟨k, rfl⟩ : ∃ q, k = q + 2 := ⟨k - 2, by omega⟩
  have hd : decide ((l.length : Int) ≤ 30) = decide (l.length ≤ 30) := by congr 1; exact propext ⟨fun h => by omega, fun h => by omega⟩
  rw [bulletinlaw15_Light.l0]
  by_cases h1 : i < l.length
  ·rw [if_pos (by omega)]
   by_cases h2 : i < 30
   ·rw [decide_eq_true (show ((i : Int) < 30) by omega), bulletinlaw15_Light.j1, if_pos rfl, if_pos (by omega), if_pos (by omega), rdQ l i h1]
    have hdr : (l.take 30).drop i = l[i] :: (l.take 30).drop (i + 1) := by
     rw [List.drop_eq_getElem_cons (by rw [List.length_take]; omega), List.getElem_take]
    rw [hdr, List.all_cons]
    have hok : okQ l[i] = (decide ((l[i]).f0.size ≤ 200) && decide ((l[i]).f1.size ≤ 3000)) := rfl
    by_cases a : (l[i]).f0.size > 200
    ·rw [if_pos (by omega), hok, decide_eq_false (by omega)]; rfl
    rw [if_neg (by omega)]
    by_cases b : (l[i]).f1.size > 3000
    ·rw [if_pos (by omega), hok, decide_eq_false (show ¬ (l[i]).f1.size ≤ 3000 by omega)]; simp
    rw [if_neg (by omega), wrapS i (by omega), ih (i + 1) k (by omega) (by omega) (by omega) (by omega), hok, decide_eq_true (show (l[i]).f0.size ≤ 200 by omega), decide_eq_true (show (l[i]).f1.size ≤ 3000 by omega)]
    rfl
   rw [decide_eq_false (show ¬ ((i : Int) < 30) by omega), bulletinlaw15_Light.j1, if_neg (by decide), hd, List.drop_of_length_le (by rw [List.length_take]; omega)]
   rfl
  rw [if_neg (by omega), bulletinlaw15_Light.j1, if_neg (by decide), hd, List.drop_of_length_le (by rw [List.length_take]; omega)]
  rfl
theorem lightQ_is (l : List FQ) (k : Nat) (hk : 100 < k) : bulletinlaw15_Light.f k l = some (lightQ l) := by
 unfold bulletinlaw15_Light.f lightQ
 have := lightQ_rounds l 31 0 k (by omega) (by omega) (by omega) (by omega)
 rw [List.drop_zero] at this
 exact this
theorem lightQ_some {l : List FQ} (h : lightQ l = true) : l.length ≤ 30 ∧ ∀ f ∈ l, f.f0.size ≤ 200 ∧ f.f1.size ≤ 3000 := by
 unfold lightQ at h
 rw [Bool.and_eq_true, decide_eq_true_iff] at h
 refine ⟨h.2, fun f hf => ?_⟩
 rw [List.take_of_length_le h.2] at h
 have := List.all_eq_true.1 h.1 f hf
 unfold okQ at this
 rw [Bool.and_eq_true, decide_eq_true_iff, decide_eq_true_iff] at this
 exact this
theorem toQ_rounds (l : List FQ) (hl : l.length ≤ 1000000) : ∀ (n i k : Nat), l.length = i + n → n < k → bulletinlaw15_To.l0 k l ((l.take i).map toF) (i : Int) = some (l.map toF) := by
 intro n
 induction n with
 | zero =>
  intro i k h hk
  obtain ⟨k, rfl⟩ : ∃ q, k = q + 1 := ⟨k - 1, by omega⟩
  rw [bulletinlaw15_To.l0, if_neg (by omega), List.take_of_length_le (by omega)]
 | succ n ih =>
  intro i k h hk
  obtain ⟨k, rfl⟩ : ∃ q, k = q + 1 := ⟨k - 1, by omega⟩
  rw [bulletinlaw15_To.l0, if_pos (by omega), if_pos (by omega), if_pos (by rw [List.length_map, List.length_take]; omega), rdQ l i (by omega), wrapS i (by omega)]
  have := ih (i + 1) k (by omega) (by omega)
  rw [List.take_succ_eq_append_getElem (by omega), List.map_append] at this
  exact this
theorem toQ_is (l : List FQ) (hl : l.length ≤ 1000000) (k : Nat) (hk : l.length < k) : bulletinlaw15_To.f k l = some (l.map toF) := by
 unfold bulletinlaw15_To.f
 exact toQ_rounds l hl l.length 0 k (by omega) (by omega)
def allL (l : List FP) (name : ByteArray) : List ByteArray := (l.filter (askN name)).map (·.f1)
end Go.Proofs.YtihabmcaplnbcaaGreatDoor.Pl
set_option linter.unusedVariables false
set_option linter.unusedSimpArgs false
namespace Go.Proofs.YtihabmcaplnbcaaGreatDoor.Pl
open Go.RowKit Go.Proofs.YtihabmcaplnbcaaGreatDoorW.PrintWords Go.Proofs.YtihabmcaplnbcaaGreatDoor.Fn

/-! The reference's glyph functions, as the plain ones. -/
theorem fold_rounds (s : ByteArray) (hs : s.size ≤ 1000000000) : ∀ (l : Bytes) (k i : Nat) (acc : Bytes), (bs s).drop i = l → l.length < k → acc.length ≤ i →
  bulletinref06_Fold.l0 k s (str acc) (i : Int) = some (str (acc ++ fold l)) := by
 intro l
 induction l with
 | nil =>
  intro k i acc h hk ha
  obtain ⟨k, rfl⟩ : ∃ m, k = m + 1 := ⟨k - 1, by omega⟩
  have := drop_nil h
  rw [bs_length] at this
  simp only [bulletinref06_Fold.l0]
  rw [if_neg (by omega)]
  simp [fold]
 | cons c r ih =>
  intro k i acc h hk ha
  obtain ⟨k, rfl⟩ : ∃ m, k = m + 1 := ⟨k - 1, by omega⟩
  obtain ⟨h1, h2, h3, h4⟩ := drop_cons h
  rw [bs_length] at h1
  have hc := byte_lt c
  have hx := extract_one h
  have hw := wrap_succ i (by omega)
  simp only [bulletinref06_Fold.l0]
  rw [if_pos (by omega), if_pos (by omega), bt_drop h, hw]
  have hn := ih k (i + 1) (acc ++ [foldB c]) h3 (by simpa using hk) (by simp; omega)
  have hz : (str acc).size = acc.length := str_size acc
  have hfin : some (str (acc ++ [foldB c] ++ fold r)) = some (str (acc ++ fold (c :: r))) := by simp [fold]
  by_cases a : (c.toNat : Int) ≥ 65
  ·rw [if_pos a]
   by_cases b : (c.toNat : Int) ≤ 90
   ·rw [if_pos b]
    have e : strOfNums [((c.toNat : Int) + 32) % 256] = str [foldB c] := by
     rw [nums_one]
     congr 1
     have hf := foldB_up c ⟨by omega, b⟩
     have : (((c.toNat : Int) + 32) % 256).toNat = (foldB c).toNat := by omega
     rw [this, ofNat_toNat]
    simp only [Option.bind_some]
    rw [e, str_app, if_pos (by rw [hz, str_size]; simp; omega), hn, hfin]
   rw [if_neg b]
   have hf : foldB c = c := by unfold foldB; rw [if_neg (by omega)]
   rw [if_pos (by omega), if_pos (by omega), Int.toNat_natCast, Int.toNat_natCast, hx, str_app, if_pos (by rw [hz, str_size]; simp; omega)]
   rw [hf] at hn hfin
   rw [hn, hfin]
  rw [if_neg a]
  have hf : foldB c = c := by unfold foldB; rw [if_neg (by omega)]
  rw [if_pos (by omega), if_pos (by omega), Int.toNat_natCast, Int.toNat_natCast, hx, str_app, if_pos (by rw [hz, str_size]; simp; omega)]
  rw [hf] at hn hfin
  rw [hn, hfin]
theorem ref_fold (s : ByteArray) (hs : s.size ≤ 1000000000) (k : Nat) (hk : s.size < k) : bulletinref06_Fold.f k s = some (str (fold (bs s))) := by
 unfold bulletinref06_Fold.f
 have := fold_rounds s hs (bs s) k 0 [] (by simp) (by rw [bs_length]; exact hk) (by simp)
 simpa [str] using this

end Go.Proofs.YtihabmcaplnbcaaGreatDoor.Pl
set_option linter.unusedVariables false
set_option linter.unusedSimpArgs false
namespace Go.Proofs.YtihabmcaplnbcaaGreatDoor.Pl
open Go.RowKit Go.Proofs.YtihabmcaplnbcaaGreatDoorW.PrintWords Go.Proofs.YtihabmcaplnbcaaGreatDoor.Fn

/-! Layer 15: the fields of a name. -/
theorem refsame_is (a b : ByteArray) (ha : a.size ≤ 1000000) (hb : b.size ≤ 1000000) (k : Nat) (hk : 1000000 < k) : bulletinref15_Same.f k a b = some (sameN a b) := by
 unfold bulletinref15_Same.f
 rw [ref_fold a (by omega) k (by omega), Option.bind_some, ref_fold b (by omega) k (by omega), Option.bind_some]
 rfl
theorem drop_at {α : Type} {l : List α} {i : Nat} (h : i < l.length) : l.drop i = l[i] :: l.drop (i + 1) := List.drop_eq_getElem_cons h
theorem refall_rounds (q : List FQ) (name : ByteArray) (hl : q.length ≤ 1000) (hn : name.size ≤ 1000000) (hz : ∀ x ∈ q, x.f0.size ≤ 1000000) : ∀ (n i k : Nat) (acc : List ByteArray), q.length = i + n → 1000000 + n < k → acc.length ≤ i → bulletinref15_All.l0 k q name acc (i : Int) = some (acc ++ allL ((q.drop i).map toF) name) := by
 intro n
 induction n with
 | zero =>
  intro i k acc h hk ha
  obtain ⟨k, rfl⟩ : ∃ q, k = q + 1 := ⟨k - 1, by omega⟩
  rw [bulletinref15_All.l0, if_neg (by omega), List.drop_of_length_le (by omega)]
  show _ = some (acc ++ [])
  rw [List.append_nil]
 | succ n ih =>
  intro i k acc h hk ha
  obtain ⟨k, rfl⟩ : ∃ q, k = q + 1 := ⟨k - 1, by omega⟩
  have hi : i < q.length := by omega
  rw [bulletinref15_All.l0, if_pos (by omega), if_pos (by omega), rdQ q i hi, refsame_is _ _ (hz _ (List.getElem_mem hi)) hn _ (by omega), Option.bind_some, wrapS i (by omega), drop_at hi, List.map_cons]
  have ha2 : askN name (toF q[i]) = sameN q[i].f0 name := rfl
  unfold allL at ih ⊢
  cases hs : sameN q[i].f0 name with
  | true =>
   rw [if_pos rfl, if_pos (by omega), ih (i + 1) k _ (by omega) (by omega) (by rw [List.length_append]; simp; omega), List.filter_cons_of_pos (by rw [ha2, hs]), List.map_cons, List.append_assoc]
   rfl
  | false =>
   rw [if_neg (by decide), ih (i + 1) k _ (by omega) (by omega) (by omega), List.filter_cons_of_neg (by rw [ha2, hs]; decide)]
theorem refall_is (q : List FQ) (name : ByteArray) (hl : q.length ≤ 1000) (hn : name.size ≤ 1000000) (hz : ∀ x ∈ q, x.f0.size ≤ 1000000) (k : Nat) (hk : 1001000 < k) : bulletinref15_All.f k q name = some (allL (q.map toF) name) := by
 unfold bulletinref15_All.f
 have := refall_rounds q name hl hn hz q.length 0 k [] (by omega) (by omega) (by simp)
 rw [List.drop_zero, List.nil_append] at this
 exact this
def getA : List ByteArray → ByteArray × Bool
 | [] => ((⟨#[]⟩ : ByteArray), false)
 | v :: _ => (v, true)
theorem get_rounds (l : List FP) (name : ByteArray) (hl : l.length ≤ 1000000) (hn : name.size ≤ 1000000) (hz : ∀ x ∈ l, x.f0.size ≤ 1000000) : ∀ (n i k : Nat), l.length = i + n → n < k → head_Get.l0 k name l (l.length : Int) (i : Int) = some (getA (allL (l.drop i) name)) := by
 intro n
 induction n with
 | zero =>
  intro i k h hk
  obtain ⟨k, rfl⟩ : ∃ q, k = q + 1 := ⟨k - 1, by omega⟩
  rw [head_Get.l0, if_neg (by omega), List.drop_of_length_le (by omega)]
  rfl
 | succ n ih =>
  intro i k h hk
  obtain ⟨k, rfl⟩ : ∃ q, k = q + 1 := ⟨k - 1, by omega⟩
  have hi : i < l.length := by omega
  rw [head_Get.l0, if_pos (by omega), if_pos (by omega), if_pos (by omega), rdP l i hi, headsame_is _ _ (by have := hz _ (List.getElem_mem hi); omega) (by omega), Option.bind_some, wrapS i (by omega), drop_at hi]
  have ha : askN name l[i] = sameN l[i].f0 name := rfl
  unfold allL at ih ⊢
  cases hs : sameN l[i].f0 name with
  | true => rw [if_pos rfl, List.filter_cons_of_pos (by rw [ha, hs])]; rfl
  | false => rw [if_neg (by decide), List.filter_cons_of_neg (by rw [ha, hs]; decide)]; exact ih (i + 1) k (by omega) (by omega)
theorem get_is (l : List FP) (name : ByteArray) (hl : l.length ≤ 1000000) (hn : name.size ≤ 1000000) (hz : ∀ x ∈ l, x.f0.size ≤ 1000000) (k : Nat) (hk : l.length < k) : head_Get.f k l name = some (getA (allL l name)) := by
 unfold head_Get.f
 have := get_rounds l name hl hn hz l.length 0 k (by omega) (by omega)
 rwa [List.drop_zero] at this
theorem refget_is (q : List FQ) (name : ByteArray) (hl : q.length ≤ 1000) (hn : name.size ≤ 1000000) (hz : ∀ x ∈ q, x.f0.size ≤ 1000000) (k : Nat) (hk : 1001000 < k) : bulletinref15_Get.f k q name = some (getA (allL (q.map toF) name)) := by
 unfold bulletinref15_Get.f
 rw [refall_is q name hl hn hz k hk, Option.bind_some]
 cases allL (q.map toF) name with
 | nil => rw [if_pos (by rfl)]; rfl
 | cons v r => rw [if_neg (by rw [List.length_cons]; omega), if_pos (by rw [List.length_cons]; omega)]; rfl
end Go.Proofs.YtihabmcaplnbcaaGreatDoor.Pl
namespace Go.Proofs.YtihabmcaplnbcaaGreatDoor.Fn
open Go.RowKit Go.Proofs.YtihabmcaplnbcaaGreatDoorW.PrintWords Go.Proofs.YtihabmcaplnbcaaGreatDoorW.PrintLast Go.Proofs.YtihabmcaplnbcaaGreatDoorW.PrintMore
attribute [local go_sem] max2_int min2_int max_two min_two max_three min_three max_four min_four
set_option linter.unusedVariables false
set_option linter.unusedSimpArgs false
def head_named.l0 : Nat → ByteArray → Int → Int → Option (Bool)
 | 0, _, _, _ => none
 | k + 1, x0, x6, x7 => if x7 < x6 then (if 0 ≤ x7 then (if x7 < (x0.size : Int) then (if (bt x0 x7) ≤ 32 then (some false) else (if (bt x0 x7) > 126 then (some false) else (if (bt x0 x7) = 58 then (some false) else (head_named.l0 k x0 x6 (wrap64 (x7 + 1)))))) else (none)) else (none)) else (if x0.toList = ([] : List UInt8) then (some false) else (some (decide ((x0.size : Int) ≤ 76))))
def head_named.f (k : Nat) (a0 : ByteArray) : Option (Bool) := head_named.l0 k a0 (a0.size : Int) 0
def head_text.l0 : Nat → ByteArray → Int → Int → Option (Bool)
 | 0, _, _, _ => none
 | k + 1, x0, x6, x7 => if x7 < x6 then (if 0 ≤ x7 then (if x7 < (x0.size : Int) then (if (bt x0 x7) < 32 then (if (bt x0 x7) = 9 then (if (bt x0 x7) = 127 then (some false) else (head_text.l0 k x0 x6 (wrap64 (x7 + 1)))) else (some false)) else (if (bt x0 x7) = 127 then (some false) else (head_text.l0 k x0 x6 (wrap64 (x7 + 1))))) else (none)) else (none)) else (some true)
def head_text.f (k : Nat) (a0 : ByteArray) : Option (Bool) := head_text.l0 k a0 (a0.size : Int) 0
def head_white.f (a0 : ByteArray) : Option (Bool) := if a0.toList = ([] : List UInt8) then (some false) else (if 0 < (a0.size : Int) then (if (bt a0 0) = 32 then (some true) else (some ((bt a0 0) == 9))) else (none))
end Go.Proofs.YtihabmcaplnbcaaGreatDoor.Fn
namespace Go.Proofs.YtihabmcaplnbcaaGreatDoor.Fn
open Go.RowKit Go.Proofs.YtihabmcaplnbcaaGreatDoorW.PrintWords Go.Proofs.YtihabmcaplnbcaaGreatDoorW.PrintLast Go.Proofs.YtihabmcaplnbcaaGreatDoorW.PrintMore
attribute [local go_sem] max2_int min2_int max_two min_two max_three min_three max_four min_four
set_option linter.unusedVariables false
set_option linter.unusedSimpArgs false

mutual
def head_grow.j0 : Nat → List (S35) → ByteArray → Bool → Option ((List (S35)) × Int)
 | 0, _, _, _ => none
 | k + 1, x0, x1, x13 => if x13 = true then (some (([] : List (S35)), 150)) else ((head_white.f x1).bind fun t470 => (if t470 = true then (if 0 ≤ (wrap64 ((x0.length : Int) - 1)) then (if (wrap64 ((x0.length : Int) - 1)) < (x0.length : Int) then (if ((rd_T35 x0 (wrap64 ((x0.length : Int) - 1))).f1).size + x1.size ≤ 9223372036854775807 then (some ((x0.set ((wrap64 ((x0.length : Int) - 1)) : Int).toNat (⟨(rd_T35 x0 (wrap64 ((x0.length : Int) - 1))).f0, ((rd_T35 x0 (wrap64 ((x0.length : Int) - 1))).f1) ++ x1⟩ : S35)), 0)) else (none)) else (none)) else (none)) else ((strings_Cut.f x1 (⟨#[58]⟩ : ByteArray)).bind fun bt473 => (if bt473.2.2 = true then ((head_named.f k bt473.1).bind fun t476 => (head_grow.j1 k x0 bt473.1 bt473.2.1 (!t476))) else (head_grow.j1 k x0 bt473.1 bt473.2.1 true)))))
def head_grow.j1 : Nat → List (S35) → ByteArray → ByteArray → Bool → Option ((List (S35)) × Int)
 | 0, _, _, _, _ => none
 | k + 1, x0, x6, x7, x47 => if x47 = true then (some (([] : List (S35)), 150)) else (if (x0.length : Int) = 100 then (some (([] : List (S35)), 8)) else (if x0.length < 4398046511104 then (some ((x0 ++ [(⟨x6, x7⟩ : S35)]), 0)) else (none)))
end
def head_grow.f (k : Nat) (l0 : List (S35)) (a1 : ByteArray) : Option ((List (S35)) × Int) := if (a1.size : Int) > 998 then (some (([] : List (S35)), 2)) else ((head_text.f k a1).bind fun t468 => (if t468 = true then ((head_white.f a1).bind fun t469 => (if t469 = true then (head_grow.j0 k l0 a1 ((l0.length : Int) == 0)) else (head_grow.j0 k l0 a1 false))) else (head_grow.j0 k l0 a1 true)))
end Go.Proofs.YtihabmcaplnbcaaGreatDoor.Fn
set_option linter.unusedVariables false
namespace Go.Proofs.YtihabmcaplnbcaaGreatDoor.Fn
open Go.RowKit Go.Proofs.YtihabmcaplnbcaaGreatDoorW.PrintWords

def strings_Trim.f (a0 a1 : ByteArray) : Option ByteArray :=
 if a0.size ≤ 140737488355328 then (if a1.size ≤ 1000 then (if a1.data.toList.all (fun b => decide (b.toNat < 128)) = true then some (Pl.str (Lib.trimS a0.data.toList a1.data.toList)) else none) else none) else none
end Go.Proofs.YtihabmcaplnbcaaGreatDoor.Fn
namespace Go.Proofs.YtihabmcaplnbcaaGreatDoor.Fn
open Go.RowKit Go.Proofs.YtihabmcaplnbcaaGreatDoorW.PrintWords Go.Proofs.YtihabmcaplnbcaaGreatDoorW.PrintLast Go.Proofs.YtihabmcaplnbcaaGreatDoorW.PrintMore
attribute [local go_sem] max2_int min2_int max_two min_two max_three min_three max_four min_four
set_option linter.unusedVariables false
set_option linter.unusedSimpArgs false
def head_trim.f (a0 : ByteArray) : Option (ByteArray) := (strings_Trim.f a0 (⟨#[32, 9]⟩ : ByteArray)).bind fun t480 => (some t480)
end Go.Proofs.YtihabmcaplnbcaaGreatDoor.Fn
namespace Go.Proofs.YtihabmcaplnbcaaGreatDoor.Fn
open Go.RowKit Go.Proofs.YtihabmcaplnbcaaGreatDoorW.PrintWords Go.Proofs.YtihabmcaplnbcaaGreatDoorW.PrintLast Go.Proofs.YtihabmcaplnbcaaGreatDoorW.PrintMore
attribute [local go_sem] max2_int min2_int max_two min_two max_three min_three max_four min_four
set_option linter.unusedVariables false
set_option linter.unusedSimpArgs false

mutual
def head_Parse.j1 : Nat → List (S35) → ByteArray → Option ((List (S35)) × ByteArray × Int)
 | 0, _, _ => none
 | k + 1, x2, x3 => head_Parse.l1 k x2 x3 (x2.length : Int) 0
def head_Parse.l1 : Nat → List (S35) → ByteArray → Int → Int → Option ((List (S35)) × ByteArray × Int)
 | 0, _, _, _, _ => none
 | k + 1, x2, x3, x33, x34 => if x34 < x33 then (if 0 ≤ x34 then (if x34 < (x2.length : Int) then ((head_trim.f ((rd_T35 x2 x34).f1)).bind fun t489 => (head_Parse.l1 k (x2.set (x34 : Int).toNat (⟨(rd_T35 x2 x34).f0, t489⟩ : S35)) x3 x33 (wrap64 (x34 + 1)))) else (none)) else (none)) else (some (x2, x3, 0))
def head_Parse.l0 : Nat → ByteArray → List (S35) → ByteArray → Option ((List (S35)) × ByteArray × Int)
 | 0, _, _, _ => none
 | k + 1, x0, x2, x3 => if x0.toList = ([] : List UInt8) then (head_Parse.j1 k x2 x3) else ((strings_Cut.f x0 (⟨#[13, 10]⟩ : ByteArray)).bind fun bt481 => (if bt481.2.2 = true then (if bt481.1.toList = ([] : List UInt8) then (head_Parse.j1 k x2 bt481.2.1) else ((head_grow.f k x2 bt481.1).bind fun bt484 => (if bt484.2 = 0 then (head_Parse.l0 k bt481.2.1 bt484.1 x3) else (some (([] : List (S35)), (⟨#[]⟩ : ByteArray), bt484.2))))) else (some (([] : List (S35)), (⟨#[]⟩ : ByteArray), 9))))
end
end Go.Proofs.YtihabmcaplnbcaaGreatDoor.Fn
set_option linter.unusedVariables false
namespace Go.Proofs.YtihabmcaplnbcaaGreatDoor.Fn
open Go.RowKit Go.Proofs.YtihabmcaplnbcaaGreatDoorW.PrintWords

/-! strings.IndexRune of a blank text at a sign beyond ASCII: -1. -/
end Go.Proofs.YtihabmcaplnbcaaGreatDoor.Fn
set_option linter.unusedVariables false
namespace Go.Proofs.YtihabmcaplnbcaaGreatDoor.Fn
open Go.RowKit Go.Proofs.YtihabmcaplnbcaaGreatDoorW.PrintWords

end Go.Proofs.YtihabmcaplnbcaaGreatDoor.Fn
namespace Go.Proofs.YtihabmcaplnbcaaGreatDoor.Fn
open Go.RowKit Go.Proofs.YtihabmcaplnbcaaGreatDoorW.PrintWords Go.Proofs.YtihabmcaplnbcaaGreatDoorW.PrintLast Go.Proofs.YtihabmcaplnbcaaGreatDoorW.PrintMore
attribute [local go_sem] max2_int min2_int max_two min_two max_three min_three max_four min_four
set_option linter.unusedVariables false
set_option linter.unusedSimpArgs false
end Go.Proofs.YtihabmcaplnbcaaGreatDoor.Fn
set_option linter.unusedVariables false
set_option linter.unusedSimpArgs false
namespace Go.Proofs.YtihabmcaplnbcaaGreatDoor.Pl
open Go.RowKit Go.Proofs.YtihabmcaplnbcaaGreatDoorW.PrintWords Go.Proofs.YtihabmcaplnbcaaGreatDoor.Fn

/-! head: how a field is written, in pieces. -/
def wb (c : UInt8) : Bool := ([32, 9] : List UInt8).contains c
def lead (s : Bytes) : Nat := (s.takeWhile wb).length
def word (s : Bytes) : Nat := (s.takeWhile (fun c => !wb c)).length
end Go.Proofs.YtihabmcaplnbcaaGreatDoor.Pl
set_option linter.unusedVariables false
set_option linter.unusedSimpArgs false
namespace Go.Proofs.YtihabmcaplnbcaaGreatDoor.Pl
open Go.RowKit Go.Proofs.YtihabmcaplnbcaaGreatDoorW.PrintWords Go.Proofs.YtihabmcaplnbcaaGreatDoor.Fn

/-! head.Parse as a machine over lists of bytes. -/
abbrev Fld := Bytes × Bytes
def nameB (c : UInt8) : Bool := !decide (c.toNat < 33) && (!decide (126 < c.toNat) && !decide (c.toNat = 58))
def named (s : Bytes) : Bool := s.all nameB && (!decide (s = []) && decide (s.length ≤ 76))
def crlf : Bytes → Option Nat
 | [] => none
 | c :: r => if c = 13 ∧ r.head? = some 10 then some 0 else (crlf r).map (· + 1)
def upto (c : UInt8) : Bytes → Nat
 | [] => 0
 | d :: r => if d = c then 0 else upto c r + 1
def bad (e : Int) : List Fld × Bytes × Int := ([], [], e)
theorem crlf_room : ∀ {s : Bytes} {i : Nat}, crlf s = some i → i + 2 ≤ s.length
 | [], i, h => by simp [crlf] at h
 | c :: r, i, h => by
  unfold crlf at h
  split at h
  ·rename_i hc
   injection h with h
   subst h
   cases r with
   | nil => simp at hc
   | cons d r => simp
  rw [Option.map_eq_some_iff] at h
  obtain ⟨j, hj, rfl⟩ := h
  have := crlf_room hj
  simp only [List.length_cons]; omega
theorem index_crlf : ∀ (s : Bytes), Lib.index s [13, 10] = (match crlf s with | some i => (i : Int) | none => -1)
 | [] => rfl
 | c :: r => by
  have ih := index_crlf r
  rw [Lib.index, crlf]
  by_cases h : c = 13 ∧ r.head? = some 10
  ·rw [if_pos h]
   obtain ⟨rfl, h2⟩ := h
   cases r with
   | nil => simp at h2
   | cons d r =>
    simp at h2
    subst h2
    rw [if_pos (by simp [List.isPrefixOf])]
    rfl
  rw [if_neg h]
  have hp : ([13, 10] : Bytes).isPrefixOf (c :: r) = false := by
   cases r with
   | nil => simp [List.isPrefixOf]
   | cons d r =>
    simp only [List.head?_cons, Option.some.injEq] at h
    simp [List.isPrefixOf]
    intro h1 h2
    exact h ⟨h1.symm, h2.symm⟩
  rw [hp, if_neg (by decide), ih]
  cases crlf r with
  | none => rfl
  | some i =>
   simp only [Option.map_some]
   rw [if_neg (by first | (simp; done) | (simp; omega))]
   show (i : Int) + 1 = ((i + 1 : Nat) : Int)
   omega
theorem cut_crlf (s : ByteArray) (h : s.size ≤ 1000000000) : strings_Cut.f s (⟨#[13, 10]⟩ : ByteArray) = some (match crlf (bs s) with
  | some i => (str ((bs s).take i), str ((bs s).drop (i + 2)), true)
  | none => (s, str [], false)) := by
 unfold strings_Cut.f
 rw [if_pos (by omega)]
 congr 1
 have e : Lib.cut s.data.toList (⟨#[13, 10]⟩ : ByteArray).data.toList = Lib.cut (bs s) [13, 10] := rfl
 rw [e]
 unfold Lib.cut
 rw [index_crlf]
 cases crlf (bs s) with
 | none => simp [str_bs]
 | some i => simp
theorem index_one (c : UInt8) : ∀ (s : Bytes), Lib.index s [c] = (if upto c s = s.length then -1 else (upto c s : Int))
 | [] => rfl
 | d :: r => by
  have ih := index_one c r
  rw [Lib.index, upto]
  by_cases h : d = c
  ·subst h
   rw [if_pos (by simp [List.isPrefixOf]), if_pos rfl, if_neg (by simp)]
   rfl
  rw [if_neg (by simp [List.isPrefixOf]; exact fun e => h e.symm), if_neg h, ih]
  simp only [List.length_cons]
  by_cases h2 : upto c r = r.length
  ·rw [if_pos h2, if_pos (by decide), if_pos (by omega)]
  rw [if_neg h2, if_neg (by first | (simp; done) | (simp; omega)), if_neg (by omega)]; omega
end Go.Proofs.YtihabmcaplnbcaaGreatDoor.Pl
set_option linter.unusedVariables false
set_option linter.unusedSimpArgs false
namespace Go.Proofs.YtihabmcaplnbcaaGreatDoor.Pl
open Go.RowKit Go.Proofs.YtihabmcaplnbcaaGreatDoorW.PrintWords Go.Proofs.YtihabmcaplnbcaaGreatDoor.Fn

/-! Layer 16: a body's lines -/
def linesM : Nat → Bytes → List Bytes
 | 0, _ => []
 | n + 1, s => if s = [] then [] else match crlf s with
  | some i => s.take i :: linesM n (s.drop (i + 2))
  | none => [s]
def linesB (s : Bytes) : List Bytes := linesM s.length s
theorem msgLines_l0 : ∀ (n : Nat) (s : Bytes) (acc : List Bytes) (k : Nat), s.length ≤ n → n + 1 < k → acc.length + n ≤ 1000000 →
  msg_Message_Lines.l0 k (acc.map str) (str s) = some ((acc ++ linesM n s).map str)
 | n, [], acc, k, hn, hk, ha => by
  obtain ⟨k, rfl⟩ : ∃ q, k = q + 1 := ⟨k - 1, by omega⟩
  have e : linesM n [] = [] := by cases n <;> rfl
  rw [msg_Message_Lines.l0, if_pos (by rw [toList_str]), e, List.append_nil]
 | 0, c :: s, acc, k, hn, hk, ha => by simp at hn
 | n + 1, c :: s, acc, k, hn, hk, ha => by
  obtain ⟨k, rfl⟩ : ∃ q, k = q + 1 := ⟨k - 1, by omega⟩
  have hl : (c :: s).length ≤ 1000000 := by omega
  rw [msg_Message_Lines.l0, if_neg (by rw [toList_str]; simp), cut_crlf _ (by rw [str_size]; omega), Option.bind_some, bs_str, show linesM (n + 1) (c :: s) = (match crlf (c :: s) with | some i => (c :: s).take i :: linesM n ((c :: s).drop (i + 2)) | none => [c :: s]) from by rw [linesM, if_neg (by simp)]]
  cases hc : crlf (c :: s) with
  | none =>
   simp only []
   rw [if_pos (by rw [List.length_map]; omega), show acc.map str ++ [str (c :: s)] = (acc ++ [c :: s]).map str by simp]
   have := msgLines_l0 n [] (acc ++ [c :: s]) k (Nat.zero_le _) (by omega) (by rw [List.length_append, List.length_singleton]; omega)
   have e : linesM n [] = [] := by cases n <;> rfl
   rw [e, List.append_nil] at this
   exact this
  | some i =>
   have hr := crlf_room hc
   simp only []
   rw [if_pos (by rw [List.length_map]; omega), show acc.map str ++ [str ((c :: s).take i)] = (acc ++ [(c :: s).take i]).map str by simp]
   rw [msgLines_l0 n ((c :: s).drop (i + 2)) (acc ++ [(c :: s).take i]) k (by rw [List.length_drop]; omega) (by omega) (by rw [List.length_append, List.length_singleton]; omega)]
   simp
theorem msgLines_is (fs : List S35) (s : ByteArray) (hs : s.size ≤ 1000000) (k : Nat) (hk : s.size + 1 < k) : msg_Message_Lines.f k fs s = some ((linesB (bs s)).map str) := by
 have := msgLines_l0 (bs s).length (bs s) [] k (Nat.le_refl _) (by rw [bs_length]; exact hk) (by rw [bs_length]; simpa using hs)
 rw [str_bs] at this
 unfold msg_Message_Lines.f
 exact this
/-! the lines, each with its end behind it -/
end Go.Proofs.YtihabmcaplnbcaaGreatDoor.Pl
set_option linter.unusedVariables false
set_option linter.unusedSimpArgs false
namespace Go.Proofs.YtihabmcaplnbcaaGreatDoor.Pl
open Go.RowKit Go.Proofs.YtihabmcaplnbcaaGreatDoorW.PrintWords Go.Proofs.YtihabmcaplnbcaaGreatDoor.Fn

/-! Layer 35: the commands of a mail. -/
abbrev OC := Int × Int × ByteArray
abbrev OS := S63
def toO (c : OC) : OS := ⟨c.1, c.2.1, c.2.2⟩
def reL (l : List Bytes) : List Bytes := l.dropWhile (· == [114, 101, 58])
def stopW (w : Bytes) : Bool := w == [101, 110, 100] || (w == [115, 116, 111, 112] || (w == [113, 117, 105, 116] || w == [45, 45]))
def stopL : List Bytes → Bool
 | [] => false
 | w :: _ => stopW w
def quoteL : List Bytes → Bool
 | [] => true
 | w :: _ => w.take 1 == [62]
def subL (l : List Bytes) : List OC := if reL l = [] then [] else if stopL (reL l) = true then [] else if (cmd (reL l)).1 = 5 then [] else [cmd (reL l)]
def ordL : List Bytes → List OC → Nat → List OC
 | [], out, _ => out
 | s :: r, out, bad => if out.length = 8 ∨ bad = 3 then out else if quoteL (lineW (str s)) = true then ordL r out bad else if stopL (lineW (str s)) = true then out else ordL r (out ++ [cmd (lineW (str s))]) (if (cmd (lineW (str s))).1 = 5 then bad + 1 else bad)
theorem stops_is (w : Bytes) (r : List Bytes) : order_stops.f ((w :: r).map str) = some (stopW w) := by
 have h0 : rdOf ByteArray.empty ((w :: r).map str) 0 = str w := rfl
 unfold order_stops.f stopW
 rw [if_pos (by simp), h0, toList_str]
 by_cases h1 : w = [101, 110, 100]
 ·rw [if_pos h1, h1]; rfl
 rw [if_neg h1, beq_eq_false_iff_ne.2 h1]
 by_cases h2 : w = [115, 116, 111, 112]
 ·rw [if_pos h2, h2]; rfl
 rw [if_neg h2, beq_eq_false_iff_ne.2 h2]
 by_cases h3 : w = [113, 117, 105, 116]
 ·rw [if_pos h3, h3]; rfl
 rw [if_neg h3, beq_eq_false_iff_ne.2 h3]
 by_cases h4 : w = [45, 45]
 ·rw [if_pos h4, h4]; rfl
 rw [if_neg h4, beq_eq_false_iff_ne.2 h4]; rfl
theorem jn_drop (x : Bytes) (l : List Bytes) : (jn l).length ≤ (jn (x :: l)).length := by
 cases l with
 | nil => simp [jn, Lib.join]
 | cons a r =>
  show (Lib.join (a :: r) [32]).length ≤ (Lib.join (x :: a :: r) [32]).length
  simp [Lib.join, Lib.joinTail]
  omega
theorem subject_l0 : ∀ (l : List Bytes) (k : Nat), l.length ≤ 100000000 → (jn l).length ≤ 100000000 → l.length + 50 ≤ k → order_subject.l0 k (l.map str) = some ((subL l).map toO)
 | [], k, hl, hs, hk => by
  obtain ⟨k, rfl⟩ : ∃ j, k = j + 3 := ⟨k - 3, by omega⟩
  rw [order_subject.l0, if_neg (by simp), order_subject.j1, if_pos (by simp), order_subject.j2, if_pos rfl]
  rfl
 | w :: r, k, hl, hs, hk => by
  obtain ⟨k, rfl⟩ : ∃ j, k = j + 3 := ⟨k - 3, by omega⟩
  have h0 : rdOf ByteArray.empty ((w :: r).map str) 0 = str w := rfl
  rw [order_subject.l0, if_pos (by simp), if_pos (by simp), h0, toList_str]
  by_cases hw : w = [114, 101, 58]
  ·have hre : reL (w :: r) = reL r := by
    unfold reL
    rw [List.dropWhile_cons, if_pos (beq_iff_eq.2 hw)]
   rw [if_pos hw, if_pos (by simp; omega)]
   have := subject_l0 r (k + 2) (by simp at hl; omega) (Nat.le_trans (jn_drop w r) hs) (by simp at hk; omega)
   unfold subL at this ⊢
   rw [hre]
   exact this
  have hre : reL (w :: r) = w :: r := by
   unfold reL
   rw [List.dropWhile_cons, if_neg (by rw [beq_iff_eq]; exact hw)]
  rw [if_neg hw, order_subject.j1, if_neg (by simp; omega), stops_is, Option.bind_some, order_subject.j2]
  have hsub : subL (w :: r) = if stopW w = true then [] else if (cmd (w :: r)).1 = 5 then [] else [cmd (w :: r)] := by
   unfold subL
   rw [hre, if_neg (show ¬ (w :: r) = [] by simp)]
   rfl
  rw [hsub]
  cases hst : stopW w with
  | true => rfl
  | false =>
   simp only [Bool.false_eq_true, if_false]
   rw [command_is (w :: r) hl hs k (by simp at hk; omega), Option.bind_some]
   split <;> rfl
theorem ord_l0 (L : List Bytes) (hL : L.length ≤ 1000000) (hz : ∀ x ∈ L, x.length ≤ 1000000) : ∀ (rest : List Bytes) (i k : Nat) (out : List OC) (bad : Nat), L.drop i = rest → 3 * rest.length + 60 ≤ k → out.length ≤ i + 1 → bad ≤ 3 → i ≤ L.length →
  order_Read.l0 k (out.map toO) (bad : Int) (L.map str) (L.length : Int) (i : Int) = some ((ordL rest out bad).map toO)
 | [], i, k, out, bad, hd, hk, ho, hb, hi => by
  obtain ⟨k, rfl⟩ : ∃ j, k = j + 1 := ⟨k - 1, by omega⟩
  have := List.drop_eq_nil_iff.1 hd
  rw [order_Read.l0, if_neg (by omega)]
  rfl
 | s :: r, i, k, out, bad, hd, hk, ho, hb, hi => by
  obtain ⟨k, rfl⟩ : ∃ j, k = j + 3 := ⟨k - 3, by omega⟩
  have hil : i < L.length := by
   rcases Nat.lt_or_ge i L.length with h | h
   ·exact h
   rw [List.drop_of_length_le h] at hd; cases hd
  have hsm : s ∈ L := List.mem_of_mem_drop (by rw [hd]; exact List.mem_cons_self)
  have h3 : L.drop (i + 1) = r := by rw [← List.drop_drop, hd]; rfl
  have hrd : rdOf ByteArray.empty (L.map str) (i : Int) = str s := by
   unfold rdOf
   rw [Int.toNat_natCast, List.getD_eq_getElem?_getD, List.getElem?_map]
   have : L[i]? = some s := by
    have := congrArg List.head? hd
    rwa [List.head?_drop] at this
   rw [this]
   rfl
  have hsz := lineW_size (str s)
  have hs1 := hz s hsm
  rw [str_size] at hsz
  have hw := words_is (str s) (by rw [str_size]; omega)
  have ih : ∀ (out : List OC) (bad : Nat), out.length ≤ i + 2 → bad ≤ 3 → order_Read.l0 k (out.map toO) (bad : Int) (L.map str) (L.length : Int) ((i + 1 : Nat) : Int) = some ((ordL r out bad).map toO) := fun out bad a b => ord_l0 L hL hz r (i + 1) k out bad h3 (by simp at hk; omega) a b (by omega)
  rw [order_Read.l0, if_pos (by omega), if_pos (by omega), if_pos (by rw [List.length_map]; omega), hrd, hw, Option.bind_some]
  generalize hW : lineW (str s) = W at hsz ⊢
  have hlen : ((out.map toO).length : Int) = (out.length : Int) := by rw [List.length_map]
  have hj : ∀ b, b = (decide (out.length = 8) || decide (bad = 3)) → order_Read.j1 (k + 2) (out.map toO) (bad : Int) (W.map str) (L.map str) (L.length : Int) (i : Int) b = some ((ordL (s :: r) out bad).map toO) := by
   rintro b rfl
   rw [order_Read.j1, ordL, hW]
   by_cases hq : out.length = 8 ∨ bad = 3
   ·have hq' : (decide (out.length = 8) || decide (bad = 3)) = true := by simpa using hq
    rw [hq', if_pos rfl, if_pos hq]
   have hq' : (decide (out.length = 8) || decide (bad = 3)) = false := by
    rw [← Bool.not_eq_true]
    simpa using hq
   have hj2 : ∀ t, order_Read.j2 (k + 1) (out.map toO) (bad : Int) (W.map str) (L.map str) (L.length : Int) (i : Int) t = (if t = true then some ((ordL r out bad).map toO) else (order_stops.f (W.map str)).bind fun t811 => (if t811 = true then (some (out.map toO)) else some ((ordL r (out ++ [cmd W]) (if (cmd W).1 = 5 then bad + 1 else bad)).map toO))) := by
    intro t
    have hlt : (out.map toO).length < 4398046511104 := by rw [List.length_map]; omega
    have happ : out.map toO ++ [(⟨(cmd W).1, (cmd W).2.1, (cmd W).2.2⟩ : OS)] = (out ++ [cmd W]).map toO := by simp [toO]
    have b1 : W.length ≤ 100000000 := by omega
    have b2 : (jn W).length ≤ 100000000 := by omega
    have b3 : 40 < k := by simp at hk; omega
    have b4 : (out ++ [cmd W]).length ≤ i + 2 := by rw [List.length_append, List.length_singleton]; omega
    have b5 : out.length ≤ i + 2 := by omega
    have b6 : bad + 1 ≤ 3 := by have : bad ≠ 3 := fun h => hq (.inr h); omega
    have b7 : i ≤ 140737488355328 := by omega
    have b8 : bad ≤ 140737488355328 := by omega
    rw [order_Read.j2, wrap_succ i b7, ih out bad b5 hb, command_is W b1 b2 k b3, Option.bind_some, if_pos hlt, if_pos hlt, happ, wrap_succ bad b8, ih _ (bad + 1) b4 b6, ih _ bad b4 hb]
    congr 2
    funext t811
    congr 1
    split <;> rfl
   rw [hq']
   simp only [Bool.false_eq_true, if_false]
   rw [if_neg hq]
   cases W with
   | nil =>
    rw [if_pos (by simp), hj2, if_pos rfl]
    rfl
   | cons w ws =>
    have h0 : rdOf ByteArray.empty ((w :: ws).map str) 0 = str w := rfl
    have hpre : strings_HasPrefix.f (str w) (⟨#[62]⟩ : ByteArray) = some (w.take 1 == [62]) := by rw [prefix1_is, bs_str]
    rw [if_neg (by simp; omega), if_pos (by simp), h0, hpre, Option.bind_some, hj2, stops_is, Option.bind_some]
    show _ = some ((if (w.take 1 == [62]) = true then ordL r out bad else if stopW w = true then out else _).map toO)
    cases w.take 1 == [62] with
    | true => rfl
    | false =>
     simp only [Bool.false_eq_true, if_false]
     cases stopW w <;> rfl
  by_cases h8 : out.length = 8
  ·rw [if_pos (by rw [hlen]; omega)]
   exact hj true (by rw [decide_eq_true h8]; rfl)
  rw [if_neg (by rw [hlen]; omega)]
  refine hj _ ?_
  rw [decide_eq_false h8, Bool.false_or, Bool.eq_iff_iff, beq_iff_eq, decide_eq_true_eq]
  omega
theorem allL_some {l : List FP} {name v : ByteArray} (h : v ∈ allL l name) : ∃ x ∈ l, x.f1 = v := by
 unfold allL at h
 obtain ⟨x, hx, e⟩ := List.mem_map.1 h
 exact ⟨x, (List.mem_filter.1 hx).1, e⟩
theorem getA_size {l : List FP} {name : ByteArray} (hz : ∀ x ∈ l, x.f1.size ≤ 3000) : (getA (allL l name)).1.size ≤ 3000 := by
 cases h : allL l name with
 | nil => exact Nat.zero_le _
 | cons v r =>
  obtain ⟨x, hx, e⟩ := allL_some (l := l) (name := name) (v := v) (by rw [h]; exact List.mem_cons_self)
  show v.size ≤ 3000
  rw [← e]
  exact hz x hx
def subjT (l : List FP) : Bytes := (getA (allL l ⟨#[83, 117, 98, 106, 101, 99, 116]⟩)).1.data.toList
def ordR (l : List FP) (b : ByteArray) : List OC := ordL (linesB (bs b)) (subL (lineW (str (clean (str (decodeL (subjT l))))))) 0
theorem lines_sum : ∀ (n : Nat) (s : Bytes), (linesM n s).length ≤ n ∧ ∀ x ∈ linesM n s, x.length ≤ s.length
 | 0, s => by simp [linesM]
 | n + 1, s => by
  rw [linesM]
  split
  ·simp
  split
  ·next i h =>
   have ih := lines_sum n (s.drop (i + 2))
   refine ⟨by simp only [List.length_cons]; omega, fun x hx => ?_⟩
   rcases List.mem_cons.1 hx with rfl | hx
   ·rw [List.length_take]; omega
   have := ih.2 x hx
   rw [List.length_drop] at this
   omega
  simp
theorem orderRead_is (l : List FP) (b : ByteArray) (hl : l.length ≤ 30) (hz : ∀ x ∈ l, x.f0.size ≤ 200 ∧ x.f1.size ≤ 3000) (hb : b.size ≤ 3000) (k : Nat) (hk : 100000000 ≤ k) : order_Read.f k l b = some ((ordR l b).map toO) := by
 have hg := get_is l ⟨#[83, 117, 98, 106, 101, 99, 116]⟩ (by omega) (by decide) (fun x hx => by have := (hz x hx).1; omega) k (by omega)
 have hgz := getA_size (l := l) (name := ⟨#[83, 117, 98, 106, 101, 99, 116]⟩) (fun x hx => (hz x hx).2)
 have hd := decodeL_len (subjT l)
 have hst : (subjT l).length ≤ 3000 := by unfold subjT; rw [data_length]; exact hgz
 have hcl := clean_length (str (decodeL (subjT l)))
 rw [str_size] at hcl
 have hs : rights_Subject.f k l b = some (str (clean (str (decodeL (subjT l))))) := by
  unfold rights_Subject.f msg_Message_Get.f
  rw [hg, Option.bind_some, Option.bind_some, decode_is _ (by omega), Option.bind_some]
  unfold glyph_Clean.f
  rw [if_pos (by rw [str_size]; show (decodeL (subjT l)).length ≤ _; omega)]
  rfl
 have hlw := lineW_size (str (clean (str (decodeL (subjT l)))))
 rw [str_size] at hlw
 have hsub : order_subject.f k l b = some ((subL (lineW (str (clean (str (decodeL (subjT l))))))).map toO) := by
  unfold order_subject.f
  rw [hs, Option.bind_some, words_is _ (by rw [str_size]; omega), Option.bind_some]
  exact subject_l0 _ k (by omega) (by omega) (by omega)
 have hbz := bs_length b
 have hln := lines_sum (bs b).length (bs b)
 have hout : (subL (lineW (str (clean (str (decodeL (subjT l))))))).length ≤ 1 := by
  unfold subL
  split
  ·simp
  split
  ·simp
  split <;> simp
 unfold order_Read.f
 rw [hsub, Option.bind_some, msgLines_is _ b (by omega) k (by omega), Option.bind_some, List.length_map]
 exact ord_l0 (linesB (bs b)) (by unfold linesB; omega) (fun x hx => by have := hln.2 x hx; omega) (linesB (bs b)) 0 k _ 0 rfl (by unfold linesB; omega) (by omega) (by omega) (Nat.zero_le _)
end Go.Proofs.YtihabmcaplnbcaaGreatDoor.Pl
set_option linter.unusedVariables false
set_option linter.unusedSimpArgs false
namespace Go.Proofs.YtihabmcaplnbcaaGreatDoor.Pl
open Go.RowKit Go.Proofs.YtihabmcaplnbcaaGreatDoorW.PrintWords Go.Proofs.YtihabmcaplnbcaaGreatDoor.Fn

/-! Taken by extract.py out of XPGlyph.lean.tpl, XPWords.lean.tpl, XPClean.lean.tpl, XPClip.lean.tpl, XPOrder.lean.tpl, XPureOrderLines.lean.tpl. -/
theorem words_rounds (s : ByteArray) (hs : s.size ≤ 1000000000) : ∀ (l : Bytes) (k i : Nat) (out : List ByteArray) (w : Bytes), (bs s).drop i = l → i ≤ s.size → 2 * l.length + 4 < k → out.length ≤ i → w.length ≤ i →
  bulletinref06_Words.l0 k s out (str w) (i : Int) = some (out ++ (splitW l w).map str) := by
 intro l
 induction l with
 | nil =>
  intro k i out w h hi hk ho hw
  obtain ⟨k, rfl⟩ : ∃ m, k = m + 1 + 1 + 1 := ⟨k - 3, by omega⟩
  have hn := drop_nil h
  rw [bs_length] at hn
  simp only [bulletinref06_Words.l0]
  rw [if_pos (by omega), if_neg (by omega)]
  simp only [bulletinref06_Words.j1, Bool.false_eq_true, if_false]
  rw [toList_str, wrap_succ i (by omega)]
  unfold splitW
  by_cases hw0 : w = []
  ·rw [if_pos hw0, if_pos hw0]
   simp only [bulletinref06_Words.l0]
   rw [if_neg (by omega)]
   simp
  rw [if_neg hw0, if_neg hw0, if_pos (by omega)]
  simp only [bulletinref06_Words.l0]
  rw [if_neg (by omega)]
  simp
 | cons c r ih =>
  intro k i out w h hi hk ho hw
  obtain ⟨k, rfl⟩ : ∃ m, k = m + 1 + 1 := ⟨k - 2, by omega⟩
  obtain ⟨h1, h2, h3, h4⟩ := drop_cons h
  rw [bs_length] at h1
  have hc := byte_lt c
  have hx := extract_one h
  have hk' : 2 * r.length + 4 < k := by simp at hk; omega
  have yes : isBl c = true → bulletinref06_Words.j1 (k + 1) s out (str w) (i : Int) false = some (out ++ (splitW (c :: r) w).map str) := by
   intro hb
   simp only [bulletinref06_Words.j1, Bool.false_eq_true, if_false]
   rw [toList_str, wrap_succ i (by omega)]
   unfold splitW
   rw [if_pos hb]
   by_cases hw0 : w = []
   ·rw [if_pos hw0, if_pos hw0]
    exact ih k (i + 1) out [] h3 (by omega) hk' (by omega) (by simp)
   rw [if_neg hw0, if_neg hw0, if_pos (by omega)]
   have := ih k (i + 1) (out ++ [str w]) [] h3 (by omega) hk' (by simp; omega) (by simp)
   rw [show (⟨#[]⟩ : ByteArray) = str [] from rfl, this]
   simp
  simp only [bulletinref06_Words.l0]
  rw [if_pos (by omega), if_pos (by omega), if_pos (by omega), bt_drop h]
  have hbl : isBl c = (c.toNat == 32 || (c.toNat == 9 || (c.toNat == 13 || c.toNat == 10))) := isBl_nat c
  by_cases a1 : (c.toNat : Int) = 32
  ·rw [if_pos a1]
   exact yes (by rw [hbl]; simp [show c.toNat = 32 by omega])
  rw [if_neg a1]
  by_cases a2 : (c.toNat : Int) = 9
  ·rw [if_pos a2]
   exact yes (by rw [hbl]; simp [show c.toNat = 9 by omega])
  rw [if_neg a2]
  by_cases a3 : (c.toNat : Int) = 13
  ·rw [if_pos a3]
   exact yes (by rw [hbl]; simp [show c.toNat = 13 by omega])
  rw [if_neg a3]
  by_cases a4 : (c.toNat : Int) = 10
  ·rw [show ((c.toNat : Int) != 10) = false by simp [a4]]
   exact yes (by rw [hbl]; simp [show c.toNat = 10 by omega])
  rw [show ((c.toNat : Int) != 10) = true by simp [a4]]
  have hb : ¬ isBl c = true := by
   rw [hbl]
   simp
   omega
  simp only [bulletinref06_Words.j1, if_true]
  rw [if_pos (by omega), wrap_succ i (by omega), if_pos (by omega), if_pos (by omega), Int.toNat_natCast, Int.toNat_natCast, hx, str_app, if_pos (by rw [str_size, str_size]; simp; omega), ih k (i + 1) out (w ++ [c]) h3 (by omega) hk' (by omega) (by simp; omega)]
  rw [splitW, if_neg hb]
theorem ref_words (s : ByteArray) (hs : s.size ≤ 1000000000) (k : Nat) (hk : 2 * s.size + 4 < k) : bulletinref06_Words.f k s = some ((splitW (bs s) []).map str) := by
 unfold bulletinref06_Words.f
 have := words_rounds s hs (bs s) k 0 [] [] (by simp) (by omega) (by rw [bs_length]; exact hk) (by simp) (by simp)
 simpa [str] using this
def cleanZ (n : Int) : Bytes := cleanR (if n = -1 then 65533 else n.toNat)
theorem cleanZ_one (s : ByteArray) (i : Nat) : cleanZ (oneZ s i).1 = cleanR (sign s i) := by
 unfold cleanZ oneZ
 split
 ·rename_i h
  rw [if_pos rfl, h.1]
 simp only []
 rw [if_neg (by omega), Int.toNat_natCast]
theorem enc32 : Lib.encodeRune 32 = [32] := by rfl
theorem clean_step (k : Nat) (l : List Int) (acc : Bytes) (j : Nat) (n : Int) (r : List Int) (h : l.drop j = n :: r) (hn : n = -1 ∨ okZ n) (hj : j ≤ 1000000000) (ha : acc.length ≤ 4 * j) :
  bulletinref06_Clean.l0 (k + 1) l (str acc) (j : Int) = bulletinref06_Clean.l0 k l (str (acc ++ cleanZ n)) ((j + 1 : Nat) : Int) := by
 have hl := (drop_cons' h).1
 have hz : (str acc).size = acc.length := str_size acc
 have w32 : bulletinref06_Write.f 32 = some (str [32]) := by rw [write_is 32 (by unfold okZ; omega), enc32]
 have wbad : bulletinref06_Write.f 65533 = some (str (Lib.encodeRune 65533)) := write_is 65533 (by unfold okZ; omega)
 have hb : ∀ x : Bytes, x.length ≤ 4 → (str acc).size + (str x).size ≤ 9223372036854775807 := fun x hx => by rw [hz, str_size]; omega
 simp only [bulletinref06_Clean.l0]
 rw [if_pos (by omega), if_pos (by omega), rd_drop h, wrap_succ j (by omega)]
 unfold cleanZ cleanR control
 by_cases e : n = -1
 ·subst e
  rw [if_pos rfl, if_neg (by decide), if_pos (by decide), if_neg (by decide), if_pos rfl, wbad]
  simp only [Option.bind_some]
  rw [if_pos (hb _ (enc_length _)), str_app]
  rfl
 have hv : okZ n := by rcases hn with hn | hn; exact absurd hn e; exact hn
 have h0 := hv.1
 rw [if_neg e, if_neg e]
 by_cases a : n < 32
 ·rw [if_pos a, w32]
  simp only [Option.bind_some]
  rw [if_pos (hb _ (by simp)), str_app]
  simp [show n.toNat < 32 by omega]
 rw [if_neg a]
 by_cases b : n ≥ 127
 ·rw [if_pos b]
  by_cases c : n ≤ 159
  ·rw [if_pos c, w32]
   simp only [Option.bind_some]
   rw [if_pos (hb _ (by simp)), str_app]
   simp [show 127 ≤ n.toNat by omega, show n.toNat ≤ 159 by omega]
  rw [if_neg c, write_is n hv]
  simp only [Option.bind_some]
  rw [if_pos (hb _ (enc_length _)), str_app]
  simp [show ¬ n.toNat < 32 by omega, show ¬ n.toNat ≤ 159 by omega, Int.toNat_of_nonneg h0]
 rw [if_neg b, write_is n hv]
 simp only [Option.bind_some]
 rw [if_pos (hb _ (enc_length _)), str_app]
 simp [show ¬ n.toNat < 32 by omega, show ¬ 127 ≤ n.toNat by omega, Int.toNat_of_nonneg h0]
theorem cleanZ_length (n : Int) : (cleanZ n).length ≤ 4 := cleanR_length _
theorem clean_rounds (l : List Int) (hl : l.length ≤ 1000000000) (hv : ∀ n ∈ l, n = -1 ∨ okZ n) : ∀ (t : List Int) (k j : Nat) (acc : Bytes), l.drop j = t → t.length < k → acc.length ≤ 4 * j →
  bulletinref06_Clean.l0 k l (str acc) (j : Int) = some (str (acc ++ t.flatMap cleanZ)) := by
 intro t
 induction t with
 | nil =>
  intro k j acc h hk ha
  obtain ⟨k, rfl⟩ : ∃ m, k = m + 1 := ⟨k - 1, by omega⟩
  have : l.length ≤ j := by
   have := congrArg List.length h
   simp at this
   omega
  simp only [bulletinref06_Clean.l0]
  rw [if_neg (by omega)]
  simp
 | cons n r ih =>
  intro k j acc h hk ha
  obtain ⟨k, rfl⟩ : ∃ m, k = m + 1 := ⟨k - 1, by omega⟩
  obtain ⟨h1, h2, h3⟩ := drop_cons' h
  have hm : n ∈ l := List.mem_of_getElem? h2
  rw [clean_step k l acc j n r h (hv n hm) (by omega) ha, ih k (j + 1) _ h3 (by simpa using hk) (by have := cleanZ_length n; simp; omega)]
  simp
theorem signsFrom_clean (s : ByteArray) : ∀ n i, (signsFrom s n i).flatMap cleanZ = cleanFrom s n i := by
 intro n
 induction n with
 | zero => intro i; rfl
 | succ n ih =>
  intro i
  unfold signsFrom cleanFrom
  split
  ·rw [List.flatMap_cons, cleanZ_one, ih]
  rfl
theorem ref_clean (s : ByteArray) (hs : s.size ≤ 1000000000) (k : Nat) (hk : s.size + 20 < k) : bulletinref06_Clean.f k s = some (str (clean s)) := by
 unfold bulletinref06_Clean.f
 rw [signs_is s hs k hk]
 simp only [Option.bind_some]
 have hl := signsFrom_length s s.size 0
 have := clean_rounds (signsFrom s s.size 0) (by omega) (signsFrom_valid s s.size 0) (signsFrom s s.size 0) k 0 [] (by simp) (by omega) (by simp)
 rw [signsFrom_clean] at this
 simpa [str, clean] using this
theorem clip_rounds (s : ByteArray) (hs : s.size ≤ 1000000000) (m : Int) (hm : m ≤ 1000000000) : ∀ (f k i : Nat) (q : Int), s.size < i + f → f + 30 < k → i ≤ s.size → 0 ≤ q → q ≤ i →
  bulletinref06_Clip.l0 k s m (i : Int) q = some (s.extract 0 (clipFrom s f (m - q) i)) := by
 intro f
 induction f with
 | zero =>
  intro k i q h hk hi h0 h1
  omega
 | succ f ih =>
  intro k i q h hk hi h0 h1
  obtain ⟨k, rfl⟩ : ∃ m, k = m + 1 := ⟨k - 1, by omega⟩
  simp only [bulletinref06_Clip.l0, clipFrom]
  by_cases hq : q < m
  ·rw [if_pos hq]
   by_cases hlt : i < s.size
   ·have hw := width_pos s i hlt
    have hw2 : i + width s i ≤ s.size := width_end s i hlt
    rw [if_pos (by omega), if_pos hlt, if_neg (by omega), one_is s i hlt hs k (by omega)]
    simp only [Option.bind_some]
    rw [oneZ_width', wrap_id (x := (i : Int) + _) (by omega) (by omega), wrap_id (x := q + 1) (by omega) (by omega), show (i : Int) + (width s i : Int) = ((i + width s i : Nat) : Int) by omega, ih k _ (q + 1) (by omega) (by omega) hw2 (by omega) (by omega)]
    congr 3
    omega
   obtain rfl : i = s.size := by omega
   rw [if_neg (by omega), if_neg hlt, if_pos (by omega), if_pos (by omega), Int.toNat_natCast]
  rw [if_neg hq, if_pos (by omega), if_pos (by omega), Int.toNat_natCast]
  by_cases hlt : i < s.size
  ·rw [if_pos hlt, if_pos (by omega)]
  obtain rfl : i = s.size := by omega
  rw [if_neg hlt]
theorem ref_clip (s : ByteArray) (hs : s.size ≤ 1000000000) (m : Int) (hm : m ≤ 1000000000) (k : Nat) (hk : s.size + 40 < k) : bulletinref06_Clip.f k s m = some (clip s m) := by
 unfold bulletinref06_Clip.f clip
 have := clip_rounds s hs m hm (s.size + 1) k 0 0 (by omega) (by omega) (by omega) (by omega) (by omega)
 simpa using this
def cmdT (t : Bytes) : Int × Int × ByteArray :=
 if t = [104, 101, 108, 112] ∨ t = [105, 110, 102, 111] then (1, 0, str []) else if t = [106, 111, 105, 110] ∨ t = [115, 117, 98, 115, 99, 114, 105, 98, 101] then (2, 1, str [])
 else if t = [108, 101, 97, 118, 101] ∨ t = [117, 110, 115, 117, 98, 115, 99, 114, 105, 98, 101] ∨ t = [114, 101, 109, 111, 118, 101] then (3, 0, str [])
 else if t = [106, 111, 105, 110, 32, 101, 97, 99, 104] ∨ t = [115, 117, 98, 115, 99, 114, 105, 98, 101, 32, 101, 97, 99, 104] then (2, 1, str []) else if t = [115, 101, 116, 32, 101, 97, 99, 104] then (4, 1, str [])
 else if t = [106, 111, 105, 110, 32, 100, 105, 103, 101, 115, 116] ∨ t = [115, 117, 98, 115, 99, 114, 105, 98, 101, 32, 100, 105, 103, 101, 115, 116] then (2, 2, str []) else if t = [115, 101, 116, 32, 100, 105, 103, 101, 115, 116] then (4, 2, str [])
 else if t = [106, 111, 105, 110, 32, 115, 105, 108, 101, 110, 116] ∨ t = [115, 117, 98, 115, 99, 114, 105, 98, 101, 32, 115, 105, 108, 101, 110, 116] then (2, 3, str []) else if t = [115, 101, 116, 32, 115, 105, 108, 101, 110, 116] then (4, 3, str [])
 else unk t
theorem wd1 : bulletinref33_Word.f 1 = some (str [101, 97, 99, 104]) := by rfl
theorem wd2 : bulletinref33_Word.f 2 = some (str [100, 105, 103, 101, 115, 116]) := by rfl
theorem wd3 : bulletinref33_Word.f 3 = some (str [115, 105, 108, 101, 110, 116]) := by rfl
theorem of_l1 (t : Bytes) (ht : t.length ≤ 100000000) (k : Nat) (hk : t.length + 60 < k)
  (h1 : ¬ (t = [104, 101, 108, 112] ∨ t = [105, 110, 102, 111])) (h2 : ¬ (t = [106, 111, 105, 110] ∨ t = [115, 117, 98, 115, 99, 114, 105, 98, 101])) (h3 : ¬ (t = [108, 101, 97, 118, 101] ∨ t = [117, 110, 115, 117, 98, 115, 99, 114, 105, 98, 101] ∨ t = [114, 101, 109, 111, 118, 101])) :
  bulletinref35_Of.l1 k (str t) 1 = some (cmdT t) := by
 obtain ⟨k, rfl⟩ : ∃ m, k = m + 1 + 1 + 1 + 1 + 1 + 1 + 1 := ⟨k - 7, by omega⟩
 have hc := ref_clip (str t) (by rw [str_size]; omega) 30 (by decide) k (by rw [str_size]; omega)
 have w1 : wrap64 (1 + 1) = 2 := by unfold wrap64; omega
 have w2 : wrap64 (2 + 1) = 3 := by unfold wrap64; omega
 have w3 : wrap64 (3 + 1) = 4 := by unfold wrap64; omega
 unfold cmdT
 rw [if_neg h1, if_neg h2, if_neg h3]
 rw [bulletinref35_Of.l1, if_pos (by decide), wd1]
 simp only [Option.bind_some]
 rw [if_pos (by rw [str_size]; decide), show (⟨#[106, 111, 105, 110, 32]⟩ : ByteArray) = str [106, 111, 105, 110, 32] from rfl, show (⟨#[115, 117, 98, 115, 99, 114, 105, 98, 101, 32]⟩ : ByteArray) = str [115, 117, 98, 115, 99, 114, 105, 98, 101, 32] from rfl, str_app, str_app, toList_str, toList_str, toList_str]
 simp only [List.cons_append, List.nil_append]
 by_cases j1 : t = [106, 111, 105, 110, 32, 101, 97, 99, 104]
 ·rw [if_pos j1, if_pos (Or.inl j1), bulletinref35_Of.j5, if_pos rfl]
  rfl
 rw [if_neg j1, if_pos (by rw [str_size]; decide), bulletinref35_Of.j5]
 by_cases s1 : t = [115, 117, 98, 115, 99, 114, 105, 98, 101, 32, 101, 97, 99, 104]
 ·rw [if_pos (by rw [s1]; rfl), if_pos (Or.inr s1)]
  rfl
 have q1 : ¬ (t = [106, 111, 105, 110, 32, 101, 97, 99, 104] ∨ t = [115, 117, 98, 115, 99, 114, 105, 98, 101, 32, 101, 97, 99, 104]) := fun h => h.elim j1 s1
 rw [if_neg (by simpa using s1), if_neg q1, if_pos (by rw [str_size]; decide), show (⟨#[115, 101, 116, 32]⟩ : ByteArray) = str [115, 101, 116, 32] from rfl, str_app, toList_str, toList_str]
 simp only [List.cons_append, List.nil_append]
 by_cases e1 : t = [115, 101, 116, 32, 101, 97, 99, 104]
 ·rw [if_pos e1, if_pos e1]
  rfl
 rw [if_neg e1, if_neg e1, w1]
 rw [bulletinref35_Of.l1, if_pos (by decide), wd2]
 simp only [Option.bind_some]
 rw [if_pos (by rw [str_size]; decide), show (⟨#[106, 111, 105, 110, 32]⟩ : ByteArray) = str [106, 111, 105, 110, 32] from rfl, show (⟨#[115, 117, 98, 115, 99, 114, 105, 98, 101, 32]⟩ : ByteArray) = str [115, 117, 98, 115, 99, 114, 105, 98, 101, 32] from rfl, str_app, str_app, toList_str, toList_str, toList_str]
 simp only [List.cons_append, List.nil_append]
 by_cases j2 : t = [106, 111, 105, 110, 32, 100, 105, 103, 101, 115, 116]
 ·rw [if_pos j2, if_pos (Or.inl j2), bulletinref35_Of.j5, if_pos rfl]
  rfl
 rw [if_neg j2, if_pos (by rw [str_size]; decide), bulletinref35_Of.j5]
 by_cases s2 : t = [115, 117, 98, 115, 99, 114, 105, 98, 101, 32, 100, 105, 103, 101, 115, 116]
 ·rw [if_pos (by rw [s2]; rfl), if_pos (Or.inr s2)]
  rfl
 have q2 : ¬ (t = [106, 111, 105, 110, 32, 100, 105, 103, 101, 115, 116] ∨ t = [115, 117, 98, 115, 99, 114, 105, 98, 101, 32, 100, 105, 103, 101, 115, 116]) := fun h => h.elim j2 s2
 rw [if_neg (by simpa using s2), if_neg q2, if_pos (by rw [str_size]; decide), show (⟨#[115, 101, 116, 32]⟩ : ByteArray) = str [115, 101, 116, 32] from rfl, str_app, toList_str, toList_str]
 simp only [List.cons_append, List.nil_append]
 by_cases e2 : t = [115, 101, 116, 32, 100, 105, 103, 101, 115, 116]
 ·rw [if_pos e2, if_pos e2]
  rfl
 rw [if_neg e2, if_neg e2, w2]
 rw [bulletinref35_Of.l1, if_pos (by decide), wd3]
 simp only [Option.bind_some]
 rw [if_pos (by rw [str_size]; decide), show (⟨#[106, 111, 105, 110, 32]⟩ : ByteArray) = str [106, 111, 105, 110, 32] from rfl, show (⟨#[115, 117, 98, 115, 99, 114, 105, 98, 101, 32]⟩ : ByteArray) = str [115, 117, 98, 115, 99, 114, 105, 98, 101, 32] from rfl, str_app, str_app, toList_str, toList_str, toList_str]
 simp only [List.cons_append, List.nil_append]
 by_cases j3 : t = [106, 111, 105, 110, 32, 115, 105, 108, 101, 110, 116]
 ·rw [if_pos j3, if_pos (Or.inl j3), bulletinref35_Of.j5, if_pos rfl]
  rfl
 rw [if_neg j3, if_pos (by rw [str_size]; decide), bulletinref35_Of.j5]
 by_cases s3 : t = [115, 117, 98, 115, 99, 114, 105, 98, 101, 32, 115, 105, 108, 101, 110, 116]
 ·rw [if_pos (by rw [s3]; rfl), if_pos (Or.inr s3)]
  rfl
 have q3 : ¬ (t = [106, 111, 105, 110, 32, 115, 105, 108, 101, 110, 116] ∨ t = [115, 117, 98, 115, 99, 114, 105, 98, 101, 32, 115, 105, 108, 101, 110, 116]) := fun h => h.elim j3 s3
 rw [if_neg (by simpa using s3), if_neg q3, if_pos (by rw [str_size]; decide), show (⟨#[115, 101, 116, 32]⟩ : ByteArray) = str [115, 101, 116, 32] from rfl, str_app, toList_str, toList_str]
 simp only [List.cons_append, List.nil_append]
 by_cases e3 : t = [115, 101, 116, 32, 115, 105, 108, 101, 110, 116]
 ·rw [if_pos e3, if_pos e3]
  rfl
 rw [if_neg e3, if_neg e3, w3]
 rw [bulletinref35_Of.l1, if_neg (by decide), hc]
 rfl
theorem of_chain (t : Bytes) (ht : t.length ≤ 100000000) (k : Nat) (hk : t.length + 70 < k) :
  (if (str t).toList = [104, 101, 108, 112] then bulletinref35_Of.j1 k (str t) true else bulletinref35_Of.j1 k (str t) ((str t).toList == [105, 110, 102, 111])) = some (cmdT t) := by
 obtain ⟨k, rfl⟩ : ∃ m, k = m + 1 + 1 + 1 := ⟨k - 3, by omega⟩
 rw [toList_str]
 have hl := of_l1 t ht k (by omega)
 by_cases a1 : t = [104, 101, 108, 112]
 ·rw [if_pos a1, bulletinref35_Of.j1, if_pos rfl]
  unfold cmdT
  rw [if_pos (Or.inl a1)]
  rfl
 rw [if_neg a1, bulletinref35_Of.j1]
 by_cases a2 : t = [105, 110, 102, 111]
 ·rw [if_pos (by rw [a2]; rfl)]
  unfold cmdT
  rw [if_pos (Or.inr a2)]
  rfl
 have h1 : ¬ (t = [104, 101, 108, 112] ∨ t = [105, 110, 102, 111]) := fun h => h.elim a1 a2
 rw [if_neg (by simpa using a2), toList_str]
 by_cases b1 : t = [106, 111, 105, 110]
 ·rw [if_pos b1, bulletinref35_Of.j2, if_pos rfl]
  unfold cmdT
  rw [if_neg h1, if_pos (Or.inl b1)]
  rfl
 rw [if_neg b1, bulletinref35_Of.j2]
 by_cases b2 : t = [115, 117, 98, 115, 99, 114, 105, 98, 101]
 ·rw [if_pos (by rw [b2]; rfl)]
  unfold cmdT
  rw [if_neg h1, if_pos (Or.inr b2)]
  rfl
 have h2 : ¬ (t = [106, 111, 105, 110] ∨ t = [115, 117, 98, 115, 99, 114, 105, 98, 101]) := fun h => h.elim b1 b2
 rw [if_neg (by simpa using b2), toList_str]
 by_cases c1 : t = [108, 101, 97, 118, 101]
 ·rw [if_pos c1, bulletinref35_Of.j3, if_pos rfl]
  unfold cmdT
  rw [if_neg h1, if_neg h2, if_pos (Or.inl c1)]
  rfl
 rw [if_neg c1]
 by_cases c2 : t = [117, 110, 115, 117, 98, 115, 99, 114, 105, 98, 101]
 ·rw [if_pos c2, bulletinref35_Of.j3, if_pos rfl]
  unfold cmdT
  rw [if_neg h1, if_neg h2, if_pos (Or.inr (Or.inl c2))]
  rfl
 rw [if_neg c2, bulletinref35_Of.j3]
 by_cases c3 : t = [114, 101, 109, 111, 118, 101]
 ·rw [if_pos (by rw [c3]; rfl)]
  unfold cmdT
  rw [if_neg h1, if_neg h2, if_pos (Or.inr (Or.inr c3))]
  rfl
 rw [if_neg (by simpa using c3)]
 exact hl h1 h2 (fun h => h.elim c1 (fun h => h.elim c2 c3))
theorem rdOf_drop {l : List Bytes} {i : Nat} {x : Bytes} {r : List Bytes} (h : l.drop i = x :: r) : rdOf ByteArray.empty (l.map str) (i : Int) = str x := by
 obtain ⟨_, h2, _⟩ := drop_cons' h
 unfold rdOf
 rw [List.getD_eq_getElem?_getD, Int.toNat_natCast, List.getElem?_map, h2]
 rfl
theorem of_rounds (l : List Bytes) (hl : l.length ≤ 100000000) : ∀ (t : List Bytes) (k i : Nat) (acc : Bytes), 1 ≤ i → l.drop i = t → (acc ++ Lib.joinTail [32] t).length ≤ 100000000 → t.length + (acc ++ Lib.joinTail [32] t).length + 80 < k →
  bulletinref35_Of.l0 k (l.map str) (str acc) (i : Int) = some (cmdT (acc ++ Lib.joinTail [32] t)) := by
 intro t
 induction t with
 | nil =>
  intro k i acc h1 h hs hk
  obtain ⟨k, rfl⟩ : ∃ m, k = m + 1 := ⟨k - 1, by omega⟩
  have hi : l.length ≤ i := by
   have := congrArg List.length h
   simp at this
   omega
  rw [bulletinref35_Of.l0, if_neg (by simp; omega)]
  simp only [Lib.joinTail, List.map_nil, List.flatten_nil, List.append_nil] at hs hk ⊢
  exact of_chain acc hs k (by simp at hk; omega)
 | cons x r ih =>
  intro k i acc h1 h hs hk
  obtain ⟨k, rfl⟩ : ∃ m, k = m + 1 := ⟨k - 1, by omega⟩
  obtain ⟨g1, g2, g3⟩ := drop_cons' h
  have e : acc ++ Lib.joinTail [32] (x :: r) = acc ++ [32] ++ x ++ Lib.joinTail [32] r := by simp [Lib.joinTail]
  rw [e] at hs hk ⊢
  have hb : acc.length + 1 + x.length ≤ 100000000 := by simp at hs; omega
  rw [bulletinref35_Of.l0, if_pos (by simp; omega), if_pos (by omega), if_pos (by rw [str_size]; omega), if_pos (by omega), rdOf_drop h, show (⟨#[32]⟩ : ByteArray) = str [32] from rfl, str_app, str_app, if_pos (by rw [str_size, str_size]; simp; omega), wrap_succ i (by omega)]
  exact ih k (i + 1) _ (by omega) g3 hs (by simp at hk ⊢; omega)
theorem ref_of (l : List Bytes) (hl : l.length ≤ 100000000) (hs : (jn l).length ≤ 100000000) (k : Nat) (hk : l.length + (jn l).length + 90 < k) : bulletinref35_Of.f k (l.map str) = some (cmdT (jn l)) := by
 unfold bulletinref35_Of.f
 obtain ⟨k, rfl⟩ : ∃ m, k = m + 1 := ⟨k - 1, by omega⟩
 cases l with
 | nil =>
  rw [bulletinref35_Of.l0, if_neg (by simp)]
  exact of_chain [] (by simp) k (by simp at hk ⊢ <;> omega)
 | cons x r =>
  have e : jn (x :: r) = x ++ Lib.joinTail [32] r := Lib.join_cons x r [32]
  rw [e] at hs hk ⊢
  have hd : (x :: r).drop 0 = x :: r := rfl
  have hx := rdOf_drop (l := x :: r) (i := 0) hd
  rw [bulletinref35_Of.l0, if_pos (by simp <;> omega), if_neg (by decide), if_pos (by decide)]
  rw [show (0 : Int) = ((0 : Nat) : Int) from rfl, hx, show (⟨#[]⟩ : ByteArray) = str [] from rfl, str_app, if_pos (by rw [str_size, str_size]; simp at hs ⊢ <;> omega), wrap_succ 0 (by omega)]
  exact of_rounds (x :: r) hl r k 1 ([] ++ x) (Nat.le_refl _) rfl hs (by simp at hk ⊢; omega)
def okW (x : Bytes) : Prop := x ≠ [] ∧ ∀ c ∈ x, isBl c = false
theorem splitW_word : ∀ (x w r : Bytes), (∀ c ∈ x, isBl c = false) → splitW (x ++ r) w = splitW r (w ++ x) := by
 intro x
 induction x with
 | nil => intro w r _; simp
 | cons c x ih =>
  intro w r h
  rw [List.cons_append, splitW, if_neg (by rw [h c (by simp)]; decide), ih (w ++ [c]) r (fun d hd => h d (by simp [hd]))]
  simp
theorem splitW_tail : ∀ (l : List Bytes) (w : Bytes), w ≠ [] → (∀ x ∈ l, okW x) → splitW (Lib.joinTail [32] l) w = w :: l := by
 intro l
 induction l with
 | nil => intro w hw _; simp [Lib.joinTail, splitW, hw]
 | cons x l ih =>
  intro w hw h
  have e : Lib.joinTail [32] (x :: l) = 32 :: (x ++ Lib.joinTail [32] l) := by simp [Lib.joinTail]
  have hx := h x (by simp)
  rw [e, splitW, if_pos (by decide), if_neg hw, splitW_word x [] _ hx.2, List.nil_append, ih x hx.1 (fun y hy => h y (by simp [hy]))]
theorem splitW_jn (l : List Bytes) (h : ∀ x ∈ l, okW x) : splitW (jn l) [] = l := by
 cases l with
 | nil => rfl
 | cons x r =>
  have e : jn (x :: r) = x ++ Lib.joinTail [32] r := Lib.join_cons x r [32]
  have hx := h x (by simp)
  rw [e, splitW_word x [] _ hx.2, List.nil_append, splitW_tail r x hx.1 (fun y hy => h y (by simp [hy]))]
theorem jn_iff (l m : List Bytes) (t : Bytes) (h : ∀ x ∈ l, okW x) (hm : splitW t [] = m) (ht : jn m = t) : (jn l = t) = (l = m) :=
 propext ⟨fun e => by rw [← splitW_jn l h, e, hm], fun e => by rw [e, ht]⟩
theorem cmdT_jn (l : List Bytes) (h : ∀ x ∈ l, okW x) : cmdT (jn l) = cmd l := by
 unfold cmdT
 simp only [jn_iff l [[104, 101, 108, 112]] [104, 101, 108, 112] h (by decide) (by decide), jn_iff l [[105, 110, 102, 111]] [105, 110, 102, 111] h (by decide) (by decide), jn_iff l [[106, 111, 105, 110]] [106, 111, 105, 110] h (by decide) (by decide), jn_iff l [[115, 117, 98, 115, 99, 114, 105, 98, 101]] [115, 117, 98, 115, 99, 114, 105, 98, 101] h (by decide) (by decide), jn_iff l [[108, 101, 97, 118, 101]] [108, 101, 97, 118, 101] h (by decide) (by decide), jn_iff l [[117, 110, 115, 117, 98, 115, 99, 114, 105, 98, 101]] [117, 110, 115, 117, 98, 115, 99, 114, 105, 98, 101] h (by decide) (by decide), jn_iff l [[114, 101, 109, 111, 118, 101]] [114, 101, 109, 111, 118, 101] h (by decide) (by decide), jn_iff l [[106, 111, 105, 110], [101, 97, 99, 104]] [106, 111, 105, 110, 32, 101, 97, 99, 104] h (by decide) (by decide), jn_iff l [[115, 117, 98, 115, 99, 114, 105, 98, 101], [101, 97, 99, 104]] [115, 117, 98, 115, 99, 114, 105, 98, 101, 32, 101, 97, 99, 104] h (by decide) (by decide), jn_iff l [[115, 101, 116], [101, 97, 99, 104]] [115, 101, 116, 32, 101, 97, 99, 104] h (by decide) (by decide), jn_iff l [[106, 111, 105, 110], [100, 105, 103, 101, 115, 116]] [106, 111, 105, 110, 32, 100, 105, 103, 101, 115, 116] h (by decide) (by decide), jn_iff l [[115, 117, 98, 115, 99, 114, 105, 98, 101], [100, 105, 103, 101, 115, 116]] [115, 117, 98, 115, 99, 114, 105, 98, 101, 32, 100, 105, 103, 101, 115, 116] h (by decide) (by decide), jn_iff l [[115, 101, 116], [100, 105, 103, 101, 115, 116]] [115, 101, 116, 32, 100, 105, 103, 101, 115, 116] h (by decide) (by decide), jn_iff l [[106, 111, 105, 110], [115, 105, 108, 101, 110, 116]] [106, 111, 105, 110, 32, 115, 105, 108, 101, 110, 116] h (by decide) (by decide), jn_iff l [[115, 117, 98, 115, 99, 114, 105, 98, 101], [115, 105, 108, 101, 110, 116]] [115, 117, 98, 115, 99, 114, 105, 98, 101, 32, 115, 105, 108, 101, 110, 116] h (by decide) (by decide), jn_iff l [[115, 101, 116], [115, 105, 108, 101, 110, 116]] [115, 101, 116, 32, 115, 105, 108, 101, 110, 116] h (by decide) (by decide)]
 match l with
 | [] => simp [cmd]
 | [a] =>
  have e : jn [a] = a := Lib.join_one a [32]
  simp only [cmd, List.cons.injEq, and_true, reduceCtorEq, and_false, or_self, if_false, e]
 | [a, b] =>
  simp only [cmd, List.cons.injEq, and_true, reduceCtorEq, and_false, or_self, if_false]
  unfold wordN
  by_cases b1 : b = [101, 97, 99, 104]
  ·subst b1
   simp
  by_cases b2 : b = [100, 105, 103, 101, 115, 116]
  ·subst b2
   simp
  by_cases b3 : b = [115, 105, 108, 101, 110, 116]
  ·subst b3
   simp
  simp [b1, b2, b3]
 | a :: b :: c :: r =>
  simp [cmd]
theorem lineW_ok (s : ByteArray) : ∀ x ∈ lineW s, okW x := splitW_words _ [] (by simp)
theorem refwords_is (s : ByteArray) (hs : s.size ≤ 4000000) (k : Nat) (hk : 80000000 < k) : bulletinref35_Words.f k s = some ((lineW s).map str) := by
 have h3 := clean_length s
 have h4 := fold_length (clean s)
 unfold bulletinref35_Words.f
 rw [ref_clean s (by omega) k (by omega)]
 simp only [Option.bind_some]
 rw [ref_fold _ (by rw [str_size]; omega) k (by rw [str_size]; omega), bs_str]
 simp only [Option.bind_some]
 rw [ref_words _ (by rw [str_size]; omega) k (by rw [str_size]; omega), bs_str]
 rfl
theorem refline_is (s : ByteArray) (hs : s.size ≤ 4000000) (k : Nat) (hk : 80000000 < k) : bulletinref35_Of.f k ((lineW s).map str) = some (cmd (lineW s)) := by
 have h := lineW_size s
 rw [ref_of _ (by omega) (by omega) k (by omega), cmdT_jn _ (lineW_ok s)]
end Go.Proofs.YtihabmcaplnbcaaGreatDoor.Pl
set_option linter.unusedVariables false
set_option linter.unusedSimpArgs false
namespace Go.Proofs.YtihabmcaplnbcaaGreatDoor.Pl
open Go.RowKit Go.Proofs.YtihabmcaplnbcaaGreatDoorW.PrintWords Go.Proofs.YtihabmcaplnbcaaGreatDoor.Fn

/-! Layer 19: what the document says of signs, and its runs. -/
theorem signs_all_valid (s : ByteArray) : ∀ n i, (signsFrom s n i).all (fun r => decide (0 ≤ r)) = validFrom s n i
 | 0, i => rfl
 | n + 1, i => by
  rw [signsFrom, validFrom]
  by_cases h : i < s.size
  ·rw [if_pos h, if_pos h, List.all_cons, signs_all_valid s n (i + width s i)]
   have hb : badAt s i = true ↔ (sign s i = 65533 ∧ width s i = 1) := by
    unfold badAt sign width
    simp
   unfold oneZ
   by_cases hq : sign s i = 65533 ∧ width s i = 1
   ·rw [if_pos hq, if_pos (hb.2 hq)]
    simp
   rw [if_neg hq, if_neg (fun x => hq (hb.1 x))]
   simp
   rfl
  rw [if_neg h, if_neg h]
  rfl
theorem signs_all_ascii (s : ByteArray) : ∀ n i, s.size ≤ i + n → (signsFrom s n i).all (fun r => decide (0 ≤ r) && decide (r ≤ 127)) = asciiL ((bs s).drop i)
 | 0, i, h => by
  rw [List.drop_eq_nil_of_le (by rw [bs_length]; omega)]
  rfl
 | n + 1, i, h => by
  rw [signsFrom]
  by_cases hi : i < s.size
  ·rw [if_pos hi, List.all_cons, drop_get s i hi]
   unfold asciiL
   rw [List.all_cons]
   by_cases hc : (s.get! i).toNat < 128
   ·obtain ⟨h1, h2⟩ := sign_low s i hc
    have e : (oneZ s i).1 = ((s.get! i).toNat : Int) := by
     unfold oneZ
     rw [if_neg (by rw [h1]; omega), h1]
    have ih := signs_all_ascii s n (i + 1) (by omega)
    unfold asciiL at ih
    rw [h2, ih, e]
    congr 1
    simp only [Int.natCast_nonneg, decide_true, Bool.true_and]
    exact decide_eq_decide.2 (by omega)
   have h1 := sign_high s i (by omega)
   have e : (decide (0 ≤ (oneZ s i).1) && decide ((oneZ s i).1 ≤ 127)) = false := by
    unfold oneZ
    split
    ·rfl
    rw [decide_eq_false (p := ((sign s i : Int), (width s i : Int)).1 ≤ 127) (by show ¬ ((sign s i : Int) ≤ 127); omega), Bool.and_false]
   rw [e, decide_eq_false (p := (s.get! i).toNat ≤ 127) (by omega)]
   rfl
  rw [if_neg hi, List.drop_eq_nil_of_le (by rw [bs_length]; omega)]
  rfl
def asc : Bytes := [117, 115, 45, 97, 115, 99, 105, 105]
def okS (F : Bytes) (r : Int) : Bool := decide (0 ≤ r) && (if F = asc then decide (r ≤ 127) else true)
theorem says_l0 (x : ByteArray) (F : Bytes) (Z : List Int) (hz : Z.length ≤ 1000000) : ∀ (rest : List Int) (i k : Nat), Z.drop i = rest → rest.length + 1 ≤ k → i ≤ Z.length →
  bulletinref19_says.l0 k x (str F) Z (i : Int) = some (if rest.all (okS F) = true then (x, true) else ((⟨#[]⟩ : ByteArray), false))
 | [], i, k, hr, hk, hi => by
  obtain ⟨k, rfl⟩ : ∃ j, k = j + 1 := ⟨k - 1, by omega⟩
  have hl := congrArg List.length hr
  rw [List.length_drop] at hl
  simp only [List.length_nil] at hl
  rw [bulletinref19_says.l0, if_neg (by omega)]
  rfl
 | c :: r, i, k, hr, hk, hi => by
  obtain ⟨k, rfl⟩ : ∃ j, k = j + 1 := ⟨k - 1, by omega⟩
  obtain ⟨h1, h2, h3⟩ := drop_cons' hr
  have hrd : rd Z (i : Int) = c := rd_drop hr
  simp only [List.length_cons] at hk
  have ih := says_l0 x F Z hz r (i + 1) k h3 (by omega) (by omega)
  rw [bulletinref19_says.l0, if_pos (by omega), if_pos (by omega), hrd, toList_str, List.all_cons, wrap_succ i (by omega)]
  unfold okS
  by_cases hc : c < 0
  ·rw [if_pos hc, decide_eq_false (p := 0 ≤ c) (by omega)]
   rfl
  rw [if_neg hc, decide_eq_true (p := 0 ≤ c) (by omega), Bool.true_and]
  by_cases hF : F = asc
  ·rw [if_pos (show F = [117, 115, 45, 97, 115, 99, 105, 105] from hF), if_pos hF]
   by_cases hd : c > 127
   ·rw [if_pos hd, decide_eq_false (p := c ≤ 127) (by omega)]
    rfl
   rw [if_neg hd, decide_eq_true (p := c ≤ 127) (by omega), Bool.true_and, ih]
   rfl
  rw [if_neg (show ¬ F = [117, 115, 45, 97, 115, 99, 105, 105] from hF), if_neg hF, Bool.true_and, ih]
  rfl
theorem says_l1 (s : ByteArray) (hs : s.size ≤ 1000000) : ∀ (rest : Bytes) (i k : Nat) (acc : Bytes), (bs s).drop i = rest → rest.length + 1 ≤ k → i ≤ s.size → acc.length ≤ 4 * i →
  bulletinref19_says.l1 k s (str acc) (i : Int) = some (str (acc ++ rest.flatMap fun c => er c.toNat), true)
 | [], i, k, acc, hr, hk, hi, ha => by
  obtain ⟨k, rfl⟩ : ∃ j, k = j + 1 := ⟨k - 1, by omega⟩
  have hl := congrArg List.length hr
  rw [List.length_drop, bs_length] at hl
  simp only [List.length_nil] at hl
  rw [bulletinref19_says.l1, if_neg (by omega)]
  simp
 | c :: r, i, k, acc, hr, hk, hi, ha => by
  obtain ⟨k, rfl⟩ : ∃ j, k = j + 1 := ⟨k - 1, by omega⟩
  have hl := congrArg List.length hr
  rw [List.length_drop, bs_length] at hl
  simp only [List.length_cons] at hl hk
  have hr1 : (bs s).drop (i + 1) = r := by rw [← List.drop_drop, hr]; rfl
  have hbt : bt s (i : Int) = (c.toNat : Int) := bt_drop hr
  have hc := c.toNat_lt
  have he : (er c.toNat).length ≤ 4 := enc_length _
  have hw : bulletinref06_Write.f (c.toNat : Int) = some (str (er c.toNat)) := write_is _ (by unfold okZ; omega)
  rw [bulletinref19_says.l1, if_pos (by omega), if_pos (by omega), hbt, wrap_small (x := (c.toNat : Int)) (by omega) (by omega), hw, Option.bind_some, if_pos (by rw [str_size, str_size]; omega), str_app, wrap_succ i (by omega), says_l1 s hs r (i + 1) k (acc ++ er c.toNat) hr1 (by omega) (by omega) (by rw [List.length_append]; omega)]
  simp
theorem refsays_is (a b : ByteArray) (ha : a.size ≤ 1000000) (hb : b.size ≤ 1000000) (k : Nat) (hk : a.size + b.size + 30 ≤ k) : bulletinref19_says.f k a b = some (resQ (signsL (bs a) (bs b))) := by
 have hz := signsFrom_length b b.size 0
 have hall : ∀ F : Bytes, ∀ m, (signsFrom b b.size 0).length + 1 ≤ m → bulletinref19_says.l0 m b (str F) (signsFrom b b.size 0) 0 = some (if (signsFrom b b.size 0).all (okS F) = true then (b, true) else ((⟨#[]⟩ : ByteArray), false)) := fun F m hm => says_l0 b F _ (by omega) _ 0 m rfl hm (by omega)
 obtain ⟨k, rfl⟩ : ∃ j, k = j + 1 := ⟨k - 1, by omega⟩
 unfold bulletinref19_says.f
 rw [ref_fold a (by omega) (k + 1) (by omega), Option.bind_some, signs_is b (by omega) (k + 1) (by omega), Option.bind_some, toList_str]
 unfold signsL
 by_cases h1 : fold (bs a) = asc
 ·rw [if_pos (show fold (bs a) = [117, 115, 45, 97, 115, 99, 105, 105] from h1), if_pos (show fold (bs a) = [117, 115, 45, 97, 115, 99, 105, 105] from h1), bulletinref19_says.j0, if_pos rfl, hall _ k (by omega)]
  have e : (signsFrom b b.size 0).all (okS (fold (bs a))) = asciiL (bs b) := by
   have := signs_all_ascii b b.size 0 (by omega)
   rw [List.drop_zero] at this
   rw [← this]
   congr 1
   funext r
   unfold okS
   rw [if_pos h1]
  rw [e]
  by_cases hq : asciiL (bs b) = true
  ·rw [if_pos hq, if_pos hq]
   show some (b, true) = some (str (bs b), true)
   rw [str_bs]
  rw [if_neg hq, if_neg hq]
  rfl
 rw [if_neg (show ¬ fold (bs a) = [117, 115, 45, 97, 115, 99, 105, 105] from h1), if_neg (show ¬ fold (bs a) = [117, 115, 45, 97, 115, 99, 105, 105] from h1), bulletinref19_says.j0, toList_str]
 by_cases h2 : fold (bs a) = [117, 116, 102, 45, 56]
 ·rw [if_pos (beq_iff_eq.2 h2), if_pos h2, hall _ k (by omega)]
  have e : (signsFrom b b.size 0).all (okS (fold (bs a))) = valid (str (bs b)) := by
   rw [str_bs]
   unfold valid
   rw [← signs_all_valid b b.size 0]
   congr 1
   funext r
   unfold okS
   rw [if_neg h1, Bool.and_true]
  rw [e]
  by_cases hq : valid (str (bs b)) = true
  ·rw [if_pos hq, if_pos hq]
   show some (b, true) = some (str (bs b), true)
   rw [str_bs]
  rw [if_neg hq, if_neg hq]
  rfl
 rw [if_neg (fun x => h2 (beq_iff_eq.1 x)), if_neg h2]
 by_cases h3 : fold (bs a) = [105, 115, 111, 45, 56, 56, 53, 57, 45, 49]
 ·rw [if_pos h3, if_pos h3]
  exact says_l1 b hb (bs b) 0 k [] rfl (by rw [bs_length]; omega) (by omega) (by simp)
 rw [if_neg h3, if_neg h3]
 rfl
def inkQ (c : UInt8) : Bool := decide (33 ≤ c.toNat) && (decide (c.toNat ≤ 126) && c != 63)
def run : Bytes → Nat
 | [] => 0
 | c :: r => if inkQ c = true then run r + 1 else 0
theorem run_le : ∀ l : Bytes, run l ≤ l.length
 | [] => Nat.le_refl _
 | c :: r => by
  rw [run]
  have := run_le r
  split <;> simp <;> omega
theorem upto_l0 (s : ByteArray) (hs : s.size ≤ 1000000000) (j : Nat) : ∀ (rest : Bytes) (n k : Nat), (bs s).drop (j + n) = rest → rest.length + 1 ≤ k → j + n ≤ s.size →
  bulletinref19_upTo.l0 k s (j : Int) (n : Int) = some ((n + run rest : Nat) : Int)
 | [], n, k, hr, hk, hi => by
  obtain ⟨k, rfl⟩ : ∃ j, k = j + 1 := ⟨k - 1, by omega⟩
  have hl := congrArg List.length hr
  rw [List.length_drop, bs_length] at hl
  simp only [List.length_nil] at hl
  rw [bulletinref19_upTo.l0, wrap_small (x := (j : Int) + (n : Int)) (by omega) (by omega), if_neg (by omega)]
  rfl
 | c :: r, n, k, hr, hk, hi => by
  obtain ⟨k, rfl⟩ : ∃ j, k = j + 1 := ⟨k - 1, by omega⟩
  have hl := congrArg List.length hr
  rw [List.length_drop, bs_length] at hl
  simp only [List.length_cons] at hl hk
  have hr1 : (bs s).drop (j + (n + 1)) = r := by rw [show j + (n + 1) = (j + n) + 1 by omega, ← List.drop_drop, hr]; rfl
  have hbt : bt s ((j + n : Nat) : Int) = (c.toNat : Int) := bt_drop hr
  have h63 : ((c.toNat : Int) = 63) ↔ c = 63 := ⟨fun h => UInt8.toNat.inj (show c.toNat = (63 : UInt8).toNat from by rw [show (63 : UInt8).toNat = 63 from rfl]; omega), fun h => by rw [h]; rfl⟩
  rw [bulletinref19_upTo.l0, wrap_small (x := (j : Int) + (n : Int)) (by omega) (by omega), if_pos (by omega), if_pos (by omega), show (j : Int) + (n : Int) = ((j + n : Nat) : Int) by omega, hbt, run]
  unfold inkQ
  by_cases h1 : 33 ≤ c.toNat
  ·rw [if_pos (by omega), decide_eq_true h1, Bool.true_and]
   by_cases h2 : c.toNat ≤ 126
   ·rw [if_pos (by omega), decide_eq_true h2, Bool.true_and]
    by_cases h3 : c = 63
    ·rw [if_pos (h63.2 h3), if_neg (by simp [h3])]
     rfl
    rw [if_neg (fun x => h3 (h63.1 x)), if_pos (by simp [h3]), wrap_succ n (by omega), upto_l0 s hs j r (n + 1) k hr1 (by omega) (by omega)]
    congr 2
    omega
   rw [if_neg (by omega), decide_eq_false h2, if_neg (by simp)]
   rfl
  rw [if_neg (by omega), decide_eq_false h1, if_neg (by simp)]
  rfl
theorem upto_is (s : ByteArray) (hs : s.size ≤ 1000000000) (j : Nat) (hj : j ≤ s.size) (k : Nat) (hk : s.size + 1 ≤ k) : bulletinref19_upTo.f k s (j : Int) = some (run ((bs s).drop j) : Int) := by
 have := upto_l0 s hs j ((bs s).drop j) 0 k (by rw [Nat.add_zero]) (by rw [List.length_drop, bs_length]; omega) (by omega)
 rwa [Nat.zero_add] at this
theorem up_run : ∀ m : Bytes, (m[run m]? = some 63 ∧ upQ m = some (m.take (run m), m.drop (run m + 1)) ∧ solidL (m.take (run m)) = true) ∨ (m[run m]? ≠ some 63 ∧ ∀ a, upQ m = some a → solidL a.1 = false)
 | [] => .inr ⟨by simp, by simp [upQ]⟩
 | c :: r => by
  by_cases h3 : c = 63
  ·subst h3
   have hr : run (63 :: r) = 0 := by rw [run, if_neg (by decide)]
   exact .inl ⟨by rw [hr]; rfl, by rw [hr, upQ, if_pos rfl]; rfl, by rw [hr]; rfl⟩
  have hu : upQ (c :: r) = (upQ r).map fun x => (c :: x.1, x.2) := by rw [upQ, if_neg h3]
  by_cases hi : inkQ c = true
  ·have hr : run (c :: r) = run r + 1 := by rw [run, if_pos hi]
   have hsol : ∀ x, solidL (c :: x) = solidL x := by
    intro x
    unfold solidL
    rw [List.all_cons]
    unfold inkQ at hi
    simp only [Bool.and_eq_true] at hi
    rw [hi.1, hi.2.1]
    rfl
   rcases up_run r with ⟨e1, e2, e3⟩ | ⟨e1, e2⟩
   ·exact .inl ⟨by rw [hr]; simpa using e1, by rw [hu, e2, hr]; rfl, by rw [hr, List.take_succ_cons, hsol]; exact e3⟩
   refine .inr ⟨by rw [hr]; simpa using e1, ?_⟩
   intro a h
   rw [hu] at h
   cases hq : upQ r with
   | none => rw [hq] at h; cases h
   | some y =>
    rw [hq] at h
    cases h
    rw [hsol]
    exact e2 y hq
  have hr : run (c :: r) = 0 := by rw [run, if_neg hi]
  refine .inr ⟨by rw [hr]; simpa using h3, ?_⟩
  intro a h
  rw [hu] at h
  cases hq : upQ r with
  | none => rw [hq] at h; cases h
  | some y =>
   rw [hq] at h
   cases h
   unfold solidL
   rw [List.all_cons]
   unfold inkQ at hi
   have : (decide (33 ≤ c.toNat) && decide (c.toNat ≤ 126)) = false := by
    cases ha : decide (33 ≤ c.toNat) <;> cases hb : decide (c.toNat ≤ 126) <;> simp_all
   rw [this]
   rfl
end Go.Proofs.YtihabmcaplnbcaaGreatDoor.Pl
set_option linter.unusedVariables false
set_option linter.unusedSimpArgs false
namespace Go.Proofs.YtihabmcaplnbcaaGreatDoor.Pl
open Go.RowKit Go.Proofs.YtihabmcaplnbcaaGreatDoorW.PrintWords Go.Proofs.YtihabmcaplnbcaaGreatDoor.Fn

/-! Layer 19: the document's Word is wordL. -/
def tailW3 (m : Bytes) : Bytes → Option (Bytes × Nat)
 | a :: c :: d :: r => if a = 63 ∧ d = 63 then (if (r.drop (run r)).take 2 = [63, 61] ∧ 7 + run m + run r ≤ 75 then (octL [c] (r.take (run r))).bind fun b => (signsL (m.take (run m)) b).bind fun x => some (x, 7 + run m + run r) else none) else none
 | _ => none
def docW (l : Bytes) : Option (Bytes × Nat) :=
 if l.take 2 = [61, 63] then (if run (l.drop 2) = 0 then none else tailW3 (l.drop 2) ((l.drop 2).drop (run (l.drop 2)))) else none
theorem bind_dead {α β : Type} {o : Option α} {f : α → Option β} (h : ∀ x, o = some x → f x = none) : o.bind f = none := by
 cases o with
 | none => rfl
 | some x => exact h x rfl
theorem drop_at63 {l : Bytes} {n : Nat} (h : l[n]? = some 63) : l.drop n = 63 :: l.drop (n + 1) := by
 obtain ⟨hn, he⟩ := List.getElem?_eq_some_iff.1 h
 rw [List.drop_eq_getElem_cons hn, he]
theorem octL_two {k t : Bytes} (h : k.length ≠ 1) : octL k t = none := by
 unfold octL
 rw [if_neg (by rintro (rfl | rfl) <;> exact h rfl), if_neg (by rintro (rfl | rfl) <;> exact h rfl)]
theorem octL_q {t : Bytes} : octL [63] t = none := by
 unfold octL
 rw [if_neg (by decide), if_neg (by decide)]
theorem docW_is (l : Bytes) : docW l = wordL l := by
 unfold docW wordL
 by_cases h0 : l.take 2 = [61, 63]
 ·rw [if_pos h0, if_pos h0]
  generalize l.drop 2 = m
  rcases up_run m with ⟨e1, e2, e3⟩ | ⟨e1, e2⟩
  ·have hd := drop_at63 e1
   have hlt : run m < m.length := (List.getElem?_eq_some_iff.1 e1).1
   have hn : (m.take (run m)).length = run m := by rw [List.length_take]; omega
   rw [e2, Option.bind_some, hd]
   by_cases h1 : run m = 0
   ·rw [if_pos h1]
    refine (bind_dead fun k _ => bind_dead fun t _ => if_neg ?_).symm
    rintro ⟨⟨hx, _⟩, _⟩
    exact hx (List.eq_nil_of_length_eq_zero (by rw [hn]; exact h1))
   rw [if_neg h1]
   simp only []
   generalize m.drop (run m + 1) = p
   match p with
   | [] => rfl
   | [c] =>
    refine (bind_dead fun k hk => ?_).symm
    rw [upQ] at hk
    by_cases hc : c = 63
    ·rw [if_pos hc] at hk
     cases hk
     rfl
    rw [if_neg hc] at hk
    simp [upQ] at hk
   | c :: d :: r =>
    rw [tailW3]
    by_cases hc : c = 63
    ·subst hc
     rw [octL_q, upQ, if_pos rfl, Option.bind_some]
     refine Eq.trans ?_ (bind_dead fun t _ => ?_).symm
     ·split
      ·split
       ·rfl
       rfl
      rfl
     split
     ·rw [octL_two (by simp)]
      rfl
     rfl
    by_cases hd2 : d = 63
    ·subst hd2
     have hu : upQ (c :: 63 :: r) = some ([c], r) := by rw [upQ, if_neg hc, upQ, if_pos rfl]; rfl
     rw [hu, Option.bind_some, if_pos ⟨rfl, rfl⟩]
     rcases up_run r with ⟨f1, f2, f3⟩ | ⟨f1, f2⟩
     ·have hrl : run r < r.length := (List.getElem?_eq_some_iff.1 f1).1
      have hrn : (r.take (run r)).length = run r := by rw [List.length_take]; omega
      rw [f2, Option.bind_some, drop_at63 f1]
      simp only []
      have he : ewN (m.take (run m)) [c] (r.take (run r)) = 7 + run m + run r := by
       unfold ewN
       rw [hn, hrn, List.length_singleton]
       omega
      rw [he, f3, e3]
      have hcond : (((63 : UInt8) :: r.drop (run r + 1)).take 2 = [63, 61] ∧ 7 + run m + run r ≤ 75) ↔ ((m.take (run m) ≠ [] ∧ true = true ∧ true = true ∧ (r.drop (run r + 1)).take 1 = [61]) ∧ 7 + run m + run r ≤ 75) := by
       rw [List.take_succ_cons]
       constructor
       ·rintro ⟨x, y⟩
        refine ⟨⟨fun z => h1 (by rw [← hn, z]; rfl), rfl, rfl, ?_⟩, y⟩
        injection x
       rintro ⟨⟨_, _, _, x⟩, y⟩
       exact ⟨by rw [x], y⟩
      by_cases hq : (((63 : UInt8) :: r.drop (run r + 1)).take 2 = [63, 61] ∧ 7 + run m + run r ≤ 75)
      ·rw [if_pos hq, if_pos (hcond.1 hq)]
      rw [if_neg hq, if_neg (fun x => hq (hcond.2 x))]
     rw [if_neg]
     ·refine (bind_dead fun t ht => if_neg ?_).symm
      rintro ⟨⟨_, _, hx, _⟩, _⟩
      rw [f2 t ht] at hx
      cases hx
     rintro ⟨hx, _⟩
     apply f1
     have h3 : ((r.drop (run r)).take 2)[0]? = some 63 := by rw [hx]; rfl
     rw [List.getElem?_take] at h3
     simpa using h3
    rw [if_neg (fun x => hd2 x.2)]
    refine (bind_dead fun k hk => bind_dead fun t _ => ?_).symm
    rw [upQ, if_neg hc, upQ, if_neg hd2] at hk
    cases hq : upQ r with
    | none => rw [hq] at hk; cases hk
    | some y =>
     rw [hq] at hk
     cases hk
     show (if _ then _ else none) = none
     split
     ·rw [octL_two (by simp)]
      rfl
     rfl
  refine Eq.trans ?_ (bind_dead fun a ha => bind_dead fun k _ => bind_dead fun t _ => if_neg ?_).symm
  ·split
   ·rfl
   unfold tailW3
   split
   ·next a c d r hh =>
    rw [if_neg]
    rintro ⟨rfl, _⟩
    apply e1
    have h3 : (m.drop (run m))[0]? = some 63 := by rw [hh]; rfl
    simpa using h3
   rfl
  rintro ⟨⟨_, hx, _⟩, _⟩
  rw [e2 a ha] at hx
  cases hx
 rw [if_neg h0, if_neg h0]
theorem str_cut (s : ByteArray) (i j : Nat) : s.extract i j = str (((bs s).drop i).take (j - i)) := by
 apply bs_inj
 rw [bs_extract, bs_str, List.drop_take]
def fullW (o : Option Bytes) (a : Bytes) (n : Nat) : Option (Bytes × Nat) := o.bind fun b => (signsL a b).bind fun x => some (x, n)
theorem w_j6 (s : ByteArray) (hs : s.size ≤ 1000000) (i x7 x10 : Nat) (o : Option Bytes) (ho : ∀ y, o = some y → y.length ≤ 1000) (h1 : i + 2 ≤ x7) (h2 : x7 ≤ s.size) (h3 : x10 + 2 ≤ s.size) (h4 : i ≤ x10) (k : Nat) (hk : s.size + 1100 ≤ k) :
  bulletinref19_Word.j6 (k + 1) s (i : Int) (x7 : Int) (x10 : Int) (resQ o).1 (resQ o).2 = some (resW (fullW o (((bs s).drop (i + 2)).take (x7 - (i + 2))) (x10 + 2 - i))) := by
 rw [bulletinref19_Word.j6]
 cases o with
 | none => rfl
 | some b =>
  have hb := ho b rfl
  show (if true = true then _ else _) = _
  have hn : (((bs s).drop (i + 2)).take (x7 - (i + 2))).length ≤ s.size := by rw [List.length_take, List.length_drop, bs_length]; omega
  rw [if_pos rfl, wrap_small (x := (i : Int) + 2) (by omega) (by omega), if_pos (by omega), if_pos (by omega), if_pos (by omega), show ((i : Int) + 2).toNat = i + 2 by omega, Int.toNat_natCast, str_cut]
  show (bulletinref19_says.f k (str _) (str b)).bind _ = _
  rw [refsays_is _ _ (by rw [str_size]; omega) (by rw [str_size]; omega) k (by rw [str_size, str_size]; omega), Option.bind_some, bs_str, bs_str]
  unfold fullW
  rw [Option.bind_some]
  cases signsL (((bs s).drop (i + 2)).take (x7 - (i + 2))) b with
  | none => rfl
  | some x =>
   show some (str x, wrap64 (wrap64 ((x10 : Int) + 2) - (i : Int))) = some (str x, ((x10 + 2 - i : Nat) : Int))
   rw [wrap_small (x := (x10 : Int) + 2) (by omega) (by omega), wrap_small (x := (x10 : Int) + 2 - (i : Int)) (by omega) (by omega), show (x10 : Int) + 2 - (i : Int) = ((x10 + 2 - i : Nat) : Int) by omega]
theorem u8_natC (c : UInt8) (n : Nat) (h : n < 256) : ((c.toNat : Int) = (n : Int)) ↔ c = UInt8.ofNat n := Iff.of_eq (byte_is c n h)
theorem w_j3 (s : ByteArray) (hs : s.size ≤ 1000000) (i x7 x10 : Nat) (c : UInt8) (T : Bytes) (hT : T.length ≤ 75) (h1 : i + 2 ≤ x7) (h2 : x7 ≤ s.size) (h3 : x10 + 2 ≤ s.size) (h4 : i ≤ x10) (k : Nat) (hk : s.size + 5000 ≤ k) (b3 : Bool) (hb3 : b3 = (c == 113 || c == 81)) :
  bulletinref19_Word.j3 (k + 4) s (i : Int) (x7 : Int) (c.toNat : Int) (x10 : Int) (str T) (⟨#[]⟩ : ByteArray) false b3 = some (resW (fullW (octL [c] T) (((bs s).drop (i + 2)).take (x7 - (i + 2))) (x10 + 2 - i))) := by
 have hT2 : (str T).size ≤ 75 := by rw [str_size]; exact hT
 have h98 : ((c.toNat : Int) = 98) ↔ c = 98 := u8_natC c 98 (by decide)
 have h66 : ((c.toNat : Int) = 66) ↔ c = 66 := u8_natC c 66 (by decide)
 have hj5 : ∀ (b5 : Bool) (q : Option Bytes), (b5 = true → octL [c] T = b64L T) → (b5 = false → octL [c] T = q) → bulletinref19_Word.j5 (k + 2) s (i : Int) (x7 : Int) (x10 : Int) (str T) (resQ q).1 (resQ q).2 b5 = some (resW (fullW (octL [c] T) (((bs s).drop (i + 2)).take (x7 - (i + 2))) (x10 + 2 - i))) := by
  intro b5 q ht hf
  rw [bulletinref19_Word.j5]
  have hl : ∀ y, octL [c] T = some y → y.length ≤ 1000 := fun y hy => by have := octL_len hy; omega
  cases b5 with
  | true =>
   rw [if_pos rfl, ref18Decode_is (str T) (by omega) (k + 1) (by omega), Option.bind_some, bs_str, ← ht rfl]
   exact w_j6 s hs i x7 x10 _ hl h1 h2 h3 h4 k (by omega)
  | false =>
   rw [if_neg (by decide), ← hf rfl]
   exact w_j6 s hs i x7 x10 _ hl h1 h2 h3 h4 k (by omega)
 have hj4 : ∀ q : Option Bytes, (¬ (c = 98 ∨ c = 66) → octL [c] T = q) → bulletinref19_Word.j4 (k + 3) s (i : Int) (x7 : Int) (c.toNat : Int) (x10 : Int) (str T) (resQ q).1 (resQ q).2 = some (resW (fullW (octL [c] T) (((bs s).drop (i + 2)).take (x7 - (i + 2))) (x10 + 2 - i))) := by
  intro q hq
  rw [bulletinref19_Word.j4]
  by_cases e1 : c = 98
  ·rw [if_pos (h98.2 e1)]
   refine hj5 true q (fun _ => ?_) (fun h => by cases h)
   unfold octL
   rw [if_neg (by rw [e1]; decide), if_pos (by rw [e1]; exact .inl rfl)]
  rw [if_neg (fun x => e1 (h98.1 x))]
  by_cases e2 : c = 66
  ·rw [show ((c.toNat : Int) == 66) = true from beq_iff_eq.2 (h66.2 e2)]
   refine hj5 true q (fun _ => ?_) (fun h => by cases h)
   unfold octL
   rw [if_neg (by rw [e2]; decide), if_pos (by rw [e2]; exact .inr rfl)]
  rw [show ((c.toNat : Int) == 66) = false from beq_eq_false_iff_ne.2 (fun x => e2 (h66.1 x))]
  exact hj5 false q (fun h => by cases h) (fun _ => hq (by rintro (x | x); exact e1 x; exact e2 x))
 rw [bulletinref19_Word.j3]
 cases b3 with
 | true =>
  have hc : c = 113 ∨ c = 81 := by simpa using hb3.symm
  rw [if_pos rfl, refquoted_is (str T) (by omega) (k + 3) (by omega), Option.bind_some, bs_str]
  refine hj4 (quotedL T) (fun _ => ?_)
  unfold octL
  rw [if_pos (by rcases hc with rfl | rfl; exact .inl rfl; exact .inr rfl)]
 | false =>
  have hc : ¬ (c = 113 ∨ c = 81) := by
   intro x
   have : (c == 113 || c == 81) = true := by simpa using x
   rw [← hb3] at this
   cases this
  rw [if_neg (by decide)]
  refine hj4 none (fun hn => ?_)
  unfold octL
  rw [if_neg (by rintro (x | x); exact hc (.inl (by injection x)); exact hc (.inr (by injection x))), if_neg (by rintro (x | x); exact hn (.inl (by injection x)); exact hn (.inr (by injection x)))]
end Go.Proofs.YtihabmcaplnbcaaGreatDoor.Pl
set_option linter.unusedVariables false
set_option linter.unusedSimpArgs false
namespace Go.Proofs.YtihabmcaplnbcaaGreatDoor.Pl
open Go.RowKit Go.Proofs.YtihabmcaplnbcaaGreatDoorW.PrintWords Go.Proofs.YtihabmcaplnbcaaGreatDoor.Fn

/-! Layer 19: the document's Word and Decode. -/
theorem w_dead1 (s : ByteArray) (i x7 : Int) (k : Nat) : bulletinref19_Word.j1 (k + 1) s i x7 true = some (resW none) := by rw [bulletinref19_Word.j1, if_pos rfl]; rfl
theorem w_dead2 (s : ByteArray) (i x7 x8 x10 : Int) (k : Nat) : bulletinref19_Word.j2 (k + 1) s i x7 x8 x10 true = some (resW none) := by rw [bulletinref19_Word.j2, if_pos rfl]; rfl
theorem three_of {l : Bytes} (h : 3 ≤ l.length) : ∃ a c d r, l = a :: c :: d :: r := by
 match l, h with
 | a :: c :: d :: r, _ => exact ⟨a, c, d, r, rfl⟩
theorem drop_next {s : ByteArray} {i : Nat} {c : UInt8} {r : Bytes} (h : (bs s).drop i = c :: r) : (bs s).drop (i + 1) = r := by rw [← List.drop_drop, h]; rfl
theorem refword_is (s : ByteArray) (hs : s.size ≤ 1000000) (i : Nat) (hi : i ≤ s.size) (k : Nat) (hk : s.size + 6000 ≤ k) : bulletinref19_Word.f k s (i : Int) = some (resW (docW ((bs s).drop i))) := by
 obtain ⟨k, rfl⟩ : ∃ j, k = j + 7 := ⟨k - 7, by omega⟩
 have hj0 : bulletinref19_Word.j0 (k + 7) s (i : Int) true = some (resW none) := by rw [bulletinref19_Word.j0, if_pos rfl]; rfl
 unfold docW
 rw [List.drop_drop]
 unfold bulletinref19_Word.f
 rw [wrap_small (x := (i : Int) + 2) (by omega) (by omega)]
 by_cases hA : i + 2 > s.size
 ·rw [if_pos (by omega), hj0, if_neg]
  intro x
  have := congrArg List.length x
  rw [List.length_take, List.length_drop, bs_length] at this
  simp at this
  omega
 rw [if_neg (by omega), if_pos (by omega), if_pos (by omega), if_pos (by omega), show ((i : Int) + 2).toNat = i + 2 by omega, Int.toNat_natCast, str_cut, toList_str, show i + 2 - i = 2 by omega]
 by_cases hB : ((bs s).drop i).take 2 = [61, 63]
 ·rw [if_pos hB, show ((((bs s).drop i).take 2) != ([61, 63] : List UInt8)) = false from bne_eq_false_iff_eq.2 hB, bulletinref19_Word.j0, if_neg (by decide), wrap_small (x := (i : Int) + 2) (by omega) (by omega), show (i : Int) + 2 = ((i + 2 : Nat) : Int) by omega, upto_is s (by omega) (i + 2) (by omega) (k + 6) (by omega), Option.bind_some]
  have hmlen : ((bs s).drop (i + 2)).length = s.size - (i + 2) := by rw [List.length_drop, bs_length]
  have hn := run_le ((bs s).drop (i + 2))
  generalize hm : (bs s).drop (i + 2) = m at *
  by_cases hC : run m = 0
  ·rw [if_pos (by omega), if_pos hC, w_dead1]
  have hd : m.drop (run m) = (bs s).drop (i + 2 + run m) := by rw [← hm, List.drop_drop]
  rw [if_neg (by omega), if_neg hC, wrap_small (x := ((i + 2 : Nat) : Int) + (run m : Int)) (by omega) (by omega), show ((i + 2 : Nat) : Int) + (run m : Int) = ((i + 2 + run m : Nat) : Int) by omega, hd]
  have hx2 : i + 2 + run m - (i + 2) = run m := by omega
  have hx1 : i + 2 ≤ i + 2 + run m := by omega
  have hx3 : run m + i + 2 = i + 2 + run m := by omega
  have hx4 : i + 2 + run m ≤ s.size := by omega
  generalize hx : i + 2 + run m = x7 at *
  rw [wrap_small (x := (x7 : Int) + 3) (by omega) (by omega)]
  by_cases hD : x7 + 3 > s.size
  ·rw [if_pos (by omega), w_dead1]
   have hdl : ((bs s).drop x7).length < 3 := by rw [List.length_drop, bs_length]; omega
   generalize (bs s).drop x7 = q at *
   unfold tailW3
   split
   ·simp at hdl
    omega
   rfl
  obtain ⟨a, c, d, r, hh⟩ := three_of (l := (bs s).drop x7) (by rw [List.length_drop, bs_length]; omega)
  have hh1 := drop_next hh
  have hh2 := drop_next hh1
  have hh3 := drop_next hh2
  have hb0 : bt s (x7 : Int) = (a.toNat : Int) := bt_drop hh
  have hb1 : bt s ((x7 + 1 : Nat) : Int) = (c.toNat : Int) := bt_drop hh1
  have hb2 : bt s ((x7 + 1 + 1 : Nat) : Int) = (d.toNat : Int) := bt_drop hh2
  have ha63 : ((a.toNat : Int) = 63) ↔ a = 63 := u8_natC a 63 (by decide)
  have hd63 : ((d.toNat : Int) = 63) ↔ d = 63 := u8_natC d 63 (by decide)
  rw [if_neg (by omega), if_pos (by omega), if_pos (by omega), hb0, hh, tailW3]
  by_cases ha : a = 63
  ·rw [if_pos (ha63.2 ha), wrap_small (x := (x7 : Int) + 2) (by omega) (by omega), if_pos (by omega), if_pos (by omega), show (x7 : Int) + 2 = ((x7 + 1 + 1 : Nat) : Int) by omega, hb2]
   by_cases hd3 : d = 63
   ·rw [show ((d.toNat : Int) != 63) = false from bne_eq_false_iff_eq.2 (hd63.2 hd3), bulletinref19_Word.j1, if_neg (by decide), wrap_small (x := (x7 : Int) + 1) (by omega) (by omega), if_pos (by omega), if_pos (by omega), wrap_small (x := (x7 : Int) + 3) (by omega) (by omega), show (x7 : Int) + 3 = ((x7 + 1 + 1 + 1 : Nat) : Int) by omega, upto_is s (by omega) (x7 + 1 + 1 + 1) (by omega) (k + 5) (by omega), Option.bind_some, hh3, if_pos (show a = 63 ∧ d = 63 from ⟨ha, hd3⟩)]
    have hrl : r.length = s.size - (x7 + 1 + 1 + 1) := by rw [← hh3, List.length_drop, bs_length]
    have hrn := run_le r
    have hde : r.drop (run r) = (bs s).drop (x7 + 1 + 1 + 1 + run r) := by rw [← hh3, List.drop_drop]
    rw [wrap_small (x := ((x7 + 1 + 1 + 1 : Nat) : Int) + (run r : Int)) (by omega) (by omega), show ((x7 + 1 + 1 + 1 : Nat) : Int) + (run r : Int) = ((x7 + 1 + 1 + 1 + run r : Nat) : Int) by omega, hde, wrap_small (x := ((x7 + 1 + 1 + 1 + run r : Nat) : Int) + 2) (by omega) (by omega)]
    by_cases hE : x7 + 1 + 1 + 1 + run r + 2 > s.size
    ·rw [if_pos (by omega), w_dead2, if_neg]
     rintro ⟨x, _⟩
     have := congrArg List.length x
     rw [List.length_take, List.length_drop, bs_length] at this
     simp at this
     omega
    rw [if_neg (by omega), if_pos (by omega), if_pos (by omega), if_pos (by omega), Int.toNat_natCast, show (((x7 + 1 + 1 + 1 + run r : Nat) : Int) + 2).toNat = x7 + 1 + 1 + 1 + run r + 2 by omega, str_cut, toList_str, show x7 + 1 + 1 + 1 + run r + 2 - (x7 + 1 + 1 + 1 + run r) = 2 by omega]
    by_cases hF : ((bs s).drop (x7 + 1 + 1 + 1 + run r)).take 2 = [63, 61]
    ·rw [if_pos hF, wrap_small (x := ((x7 + 1 + 1 + 1 + run r : Nat) : Int) + 2 - (i : Int)) (by omega) (by omega)]
     by_cases hG : 7 + run m + run r ≤ 75
     ·rw [show decide (((x7 + 1 + 1 + 1 + run r : Nat) : Int) + 2 - (i : Int) > 75) = false from decide_eq_false (by omega), if_pos ⟨hF, hG⟩, bulletinref19_Word.j2, if_neg (by decide), wrap_small (x := (x7 : Int) + 3) (by omega) (by omega), if_pos (by omega), if_pos (by omega), if_pos (by omega), show ((x7 : Int) + 3).toNat = x7 + 1 + 1 + 1 by omega, Int.toNat_natCast, str_cut, hh3, show x7 + 1 + 1 + 1 + run r - (x7 + 1 + 1 + 1) = run r by omega, show (x7 : Int) + 1 = ((x7 + 1 : Nat) : Int) by omega, hb1]
      have h113 : ((c.toNat : Int) = 113) ↔ c = 113 := u8_natC c 113 (by decide)
      have h81 : ((c.toNat : Int) = 81) ↔ c = 81 := u8_natC c 81 (by decide)
      have hw := fun b3 hb3 => w_j3 s hs i x7 (x7 + 1 + 1 + 1 + run r) c (r.take (run r)) (by rw [List.length_take]; omega) (by omega) (by omega) (by omega) (by omega) k (by omega) b3 hb3
      have hfin : fullW (octL [c] (r.take (run r))) (((bs s).drop (i + 2)).take (x7 - (i + 2))) (x7 + 1 + 1 + 1 + run r + 2 - i) = (octL [c] (r.take (run r))).bind fun b => (signsL (m.take (run m)) b).bind fun x => some (x, 7 + run m + run r) := by
       unfold fullW
       rw [hm, hx2, show x7 + 1 + 1 + 1 + run r + 2 - i = 7 + run m + run r by omega]
      rw [← hfin]
      by_cases hc1 : c = 113
      ·rw [if_pos (h113.2 hc1)]
       exact hw true (by rw [hc1]; rfl)
      rw [if_neg (fun x => hc1 (h113.1 x))]
      refine hw _ ?_
      rw [beq_eq_false_iff_ne.2 hc1, Bool.false_or]
      by_cases hc2 : c = 81
      ·rw [beq_iff_eq.2 hc2]
       exact beq_iff_eq.2 (h81.2 hc2)
      rw [beq_eq_false_iff_ne.2 hc2]
      exact beq_eq_false_iff_ne.2 (fun x => hc2 (h81.1 x))
     rw [show decide (((x7 + 1 + 1 + 1 + run r : Nat) : Int) + 2 - (i : Int) > 75) = true from decide_eq_true (by omega), if_neg (fun x => hG x.2), w_dead2]
    rw [if_neg hF, if_neg (fun x => hF x.1), w_dead2]
   rw [show ((d.toNat : Int) != 63) = true from bne_iff_ne.2 (fun x => hd3 (hd63.1 x)), if_neg (show ¬ (a = 63 ∧ d = 63) from fun x => hd3 x.2), w_dead1]
  rw [if_neg (fun x => ha (ha63.1 x)), if_neg (show ¬ (a = 63 ∧ d = 63) from fun x => ha x.1), w_dead1]
 rw [if_neg hB, show ((((bs s).drop i).take 2) != ([61, 63] : List UInt8)) = true from bne_iff_ne.2 hB, hj0]
def startL (b : Bool) (l : Bytes) : Bytes := if b = true then (if (wordL (trimB l)).isSome = true then trimB l else l) else l
def blankB (c : UInt8) : Bool := [32, 9].contains c
theorem trimB_cons (c : UInt8) (r : Bytes) : trimB (c :: r) = if blankB c = true then trimB r else c :: r := by
 unfold trimB Lib.trimLeftS blankB
 rw [List.dropWhile_cons]
theorem blank_int (c : UInt8) : blankB c = true ↔ ((c.toNat : Int) = 32 ∨ (c.toNat : Int) = 9) := by
 rw [show ((c.toNat : Int) = 32) ↔ c = 32 from u8_natC c 32 (by decide), show ((c.toNat : Int) = 9) ↔ c = 9 from u8_natC c 9 (by decide)]
 unfold blankB
 simp
def wordE (k : Nat) (s : ByteArray) (x3 : ByteArray) (x5 x6 : Int) : Option ByteArray := (bulletinref19_Word.f k s x6).bind fun bt898 => (if bt898.2 > 0 then (if x3.size + bt898.1.size ≤ 9223372036854775807 then (bulletinref19_Decode.l0 k s (x3 ++ bt898.1) true (wrap64 (x6 + bt898.2))) else (none)) else (if 0 ≤ x5 then (if x5 ≤ (wrap64 (x5 + 1)) then (if (wrap64 (x5 + 1)) ≤ (s.size : Int) then (if x3.size + (s.extract (x5 : Int).toNat ((wrap64 (x5 + 1)) : Int).toNat).size ≤ 9223372036854775807 then (bulletinref19_Decode.l0 k s (x3 ++ (s.extract (x5 : Int).toNat ((wrap64 (x5 + 1)) : Int).toNat)) false (wrap64 (x5 + 1))) else (none)) else (none)) else (none)) else (none)))
theorem l1_read (k : Nat) (s x3 : ByteArray) (b : Bool) (x5 : Int) (j : Nat) (hj : b = true → ∀ c r, (bs s).drop j = c :: r → blankB c = false) : bulletinref19_Decode.l1 (k + 1) s x3 b x5 (j : Int) = wordE k s x3 x5 (j : Int) := by
 rw [bulletinref19_Decode.l1]
 unfold wordE
 cases b with
 | false => rw [if_neg (by decide)]
 | true =>
  rw [if_pos rfl]
  by_cases hjs : j < s.size
  ·rw [if_pos (by omega), if_pos (by omega)]
   have hd := drop_get s j hjs
   have hc := hj rfl _ _ hd
   have hbt : bt s (j : Int) = ((s.get! j).toNat : Int) := bt_drop hd
   have hn : ¬ (((s.get! j).toNat : Int) = 32 ∨ ((s.get! j).toNat : Int) = 9) := fun x => by rw [(blank_int _).2 x] at hc; cases hc
   rw [hbt, if_neg (fun x => hn (.inl x)), if_neg (fun x => hn (.inr x))]
  rw [if_neg (by omega)]
theorem l1_skip (s x3 : ByteArray) (hs : s.size ≤ 1000000) (x5 : Int) : ∀ (l : Bytes) (j k : Nat), (bs s).drop j = l → j ≤ s.size → ∃ j', j ≤ j' ∧ j' ≤ s.size ∧ (bs s).drop j' = trimB l ∧ bulletinref19_Decode.l1 (k + l.length + 1) s x3 true x5 (j : Int) = wordE (k + (s.size - j')) s x3 x5 (j' : Int)
 | [], j, k, hl, hj => by
  have h0 := congrArg List.length hl
  rw [List.length_drop, bs_length] at h0
  simp only [List.length_nil] at h0
  refine ⟨j, Nat.le_refl _, hj, hl, ?_⟩
  rw [show k + (s.size - j) = k by omega]
  exact l1_read k s x3 true x5 j (fun _ c r h => by rw [hl] at h; cases h)
 | c :: r, j, k, hl, hj => by
  have h0 := congrArg List.length hl
  rw [List.length_drop, bs_length] at h0
  simp only [List.length_cons] at h0 ⊢
  have hbt : bt s (j : Int) = (c.toNat : Int) := bt_drop hl
  by_cases hc : blankB c = true
  ·obtain ⟨j', e1, e2, e3, e4⟩ := l1_skip s x3 hs x5 r (j + 1) k (drop_next hl) (by omega)
   refine ⟨j', by omega, e2, by rw [e3, trimB_cons, if_pos hc], ?_⟩
   rw [← e4, show k + (r.length + 1) + 1 = (k + r.length + 1) + 1 by omega, bulletinref19_Decode.l1, if_pos rfl, if_pos (by omega), if_pos (by omega), hbt, wrap_succ j (by omega)]
   by_cases h32 : (c.toNat : Int) = 32
   ·rw [if_pos h32]
   rw [if_neg h32, if_pos (((blank_int c).1 hc).resolve_left h32)]
  refine ⟨j, Nat.le_refl _, hj, by rw [trimB_cons, if_neg hc]; exact hl, ?_⟩
  rw [show k + (r.length + 1) + 1 = (k + (s.size - j)) + 1 by omega]
  exact l1_read _ s x3 true x5 j (fun _ d q h => by rw [hl] at h; cases h; simpa using hc)
theorem blank_word {c : UInt8} {r : Bytes} (h : blankB c = true) : wordL (c :: r) = none := by
 apply wordL_no
 intro x
 have h1 : c = 61 := by
  cases r with
  | nil => simp at x
  | cons d r => simp at x; exact x.1
 rw [h1] at h
 exact absurd h (by decide)
theorem start_none {b : Bool} {c : UInt8} {r : Bytes} (h : b = true → wordL (trimB (c :: r)) = none) (hb : b = false → wordL (c :: r) = none) : startL b (c :: r) = c :: r ∧ wordL (c :: r) = none := by
 unfold startL
 cases b with
 | false => exact ⟨rfl, hb rfl⟩
 | true =>
  have h1 := h rfl
  refine ⟨by rw [if_pos rfl, h1, if_neg (by decide)], ?_⟩
  by_cases hc : blankB c = true
  ·exact blank_word hc
  rw [trimB_cons, if_neg hc] at h1
  exact h1
theorem refdecode_l0 (s : ByteArray) (hs : s.size ≤ 1000000) : ∀ (f : Nat) (rest : Bytes) (i k : Nat) (acc : Bytes) (b : Bool), (bs s).drop i = rest → rest.length ≤ f → i ≤ s.size → acc.length ≤ 1000 * i → f * (s.size + 4) + 2 * s.size + 6100 ≤ k →
  bulletinref19_Decode.l0 k s (str acc) b (i : Int) = some (str (decL f (startL b rest) acc))
 | f, [], i, k, acc, b, hr, hf, hi, ha, hk => by
  obtain ⟨k, rfl⟩ : ∃ j, k = j + 1 := ⟨k - 1, by omega⟩
  have hl := congrArg List.length hr
  rw [List.length_drop, bs_length] at hl
  simp only [List.length_nil] at hl
  rw [bulletinref19_Decode.l0, if_neg (by omega)]
  have : startL b [] = [] := by cases b <;> rfl
  rw [this]
  cases f <;> rfl
 | 0, c :: r, i, k, acc, b, hr, hf, hi, ha, hk => by simp at hf
 | f + 1, c :: r, i, k, acc, b, hr, hf, hi, ha, hk => by
  have hl := congrArg List.length hr
  rw [List.length_drop, bs_length] at hl
  simp only [List.length_cons] at hl hf
  have hmul : (f + 1) * (s.size + 4) = f * (s.size + 4) + (s.size + 4) := Nat.succ_mul _ _
  rw [hmul] at hk
  generalize hF : f * (s.size + 4) = F at *
  -- where the reading stands
  obtain ⟨j, K, hj1, hj2, hj3, hj4, hj5, hj6⟩ : ∃ j K, i ≤ j ∧ j ≤ s.size ∧ F + 2 * s.size + 6100 ≤ K ∧ (b = false → j = i) ∧ (b = true → (bs s).drop j = trimB (c :: r)) ∧ bulletinref19_Decode.l0 k s (str acc) b (i : Int) = wordE K s (str acc) (i : Int) (j : Int) := by
   cases b with
   | false =>
    obtain ⟨k, rfl⟩ : ∃ j, k = j + 2 := ⟨k - 2, by omega⟩
    refine ⟨i, k, Nat.le_refl _, hi, by omega, fun _ => rfl, (fun h => by cases h), ?_⟩
    rw [bulletinref19_Decode.l0, if_pos (by omega)]
    exact l1_read k s (str acc) false (i : Int) i (fun h => by cases h)
   | true =>
    obtain ⟨k, rfl⟩ : ∃ j, k = (j + (c :: r).length + 1) + 1 := ⟨k - (c :: r).length - 2, by simp only [List.length_cons]; omega⟩
    simp only [List.length_cons] at hk
    obtain ⟨j', e1, e2, e3, e4⟩ := l1_skip s (str acc) hs (i : Int) (c :: r) i k hr hi
    refine ⟨j', k + (s.size - j'), e1, e2, by omega, (fun h => by cases h), fun _ => e3, ?_⟩
    rw [bulletinref19_Decode.l0, if_pos (by omega)]
    exact e4
  rw [hj6]
  unfold wordE
  rw [refword_is s hs j hj2 K (by omega), Option.bind_some, docW_is]
  cases hw : wordL ((bs s).drop j) with
  | none =>
   have hst := start_none (b := b) (c := c) (r := r) (fun h => by rw [← hj5 h]; exact hw) (fun h => by rw [← hr, ← hj4 h]; exact hw)
   rw [hst.1, decL, hst.2]
   show (if (0 : Int) > 0 then _ else _) = _
   rw [if_neg (by decide), wrap_succ i (by omega), if_pos (by omega), if_pos (by omega), if_pos (by omega), Int.toNat_natCast, Int.toNat_natCast, str_cut, hr, show i + 1 - i = 1 by omega, if_pos (by rw [str_size, str_size]; simp; omega), str_app]
   exact refdecode_l0 s hs f r (i + 1) K (acc ++ [c]) false (drop_next hr) (by omega) (by omega) (by rw [List.length_append, List.length_singleton]; omega) (by rw [hF]; omega)
  | some y =>
   obtain ⟨x, n⟩ := y
   obtain ⟨_, _, hn, _, hn2, _⟩ := wordL_some hw
   have hxl := wordL_len hw
   rw [List.length_drop, bs_length] at hn2
   have hst : startL b (c :: r) = (bs s).drop j := by
    unfold startL
    cases b with
    | false => rw [if_neg (by decide), hj4 rfl, hr]
    | true => rw [if_pos rfl, ← hj5 rfl, hw, Option.isSome_some, if_pos rfl]
   rw [hst]
   have hd := drop_get s j (by omega)
   show (if (n : Int) > 0 then (if (str acc).size + (str x).size ≤ _ then _ else _) else _) = _
   rw [if_pos (by omega), if_pos (by rw [str_size, str_size]; omega), show (resW (some (x, n))).1 = str x from rfl, show (resW (some (x, n))).2 = (n : Int) from rfl, str_app, wrap_small (x := (j : Int) + (n : Int)) (by omega) (by omega), show (j : Int) + (n : Int) = ((j + n : Nat) : Int) by omega]
   have ih := refdecode_l0 s hs f ((bs s).drop (j + n)) (j + n) K (acc ++ x) true rfl (by rw [List.length_drop, bs_length]; omega) (by omega) (by rw [List.length_append]; omega) (by rw [hF]; omega)
   refine ih.trans ?_
   rw [hd] at hw ⊢
   rw [decL, hw]
   simp only []
   rw [← hd, List.drop_drop]
   rfl
theorem refDecode_is (s : ByteArray) (hs : s.size ≤ 3000) (k : Nat) (hk : 30000000 ≤ k) : bulletinref19_Decode.f k s = some (str (decodeL (bs s))) := by
 have hm : s.size * (s.size + 4) ≤ 3000 * 3004 := Nat.mul_le_mul hs (by omega)
 have h := refdecode_l0 s (by omega) s.size (bs s) 0 k [] false rfl (by rw [bs_length]; exact Nat.le_refl _) (by omega) (by simp) (by omega)
 refine h.trans ?_
 unfold decodeL startL
 rw [if_neg (by decide), bs_length]
end Go.Proofs.YtihabmcaplnbcaaGreatDoor.Pl
set_option linter.unusedVariables false
set_option linter.unusedSimpArgs false
namespace Go.Proofs.YtihabmcaplnbcaaGreatDoor.Pl
open Go.RowKit Go.Proofs.YtihabmcaplnbcaaGreatDoorW.PrintWords Go.Proofs.YtihabmcaplnbcaaGreatDoor.Fn

/-! Taken by extract.py out of XRHead.lean.tpl, XRMsgL.lean.tpl. -/
theorem crlf_two (c d : UInt8) (r : Bytes) : crlf (c :: d :: r) = if c = 13 ∧ d = 10 then some 0 else (crlf (d :: r)).map (· + 1) := by
 show (if c = 13 ∧ (d :: r).head? = some 10 then some 0 else (crlf (d :: r)).map (· + 1)) = _
 simp only [List.head?_cons, Option.some.injEq]
def rl : Bytes → Bytes → List Bytes
 | w, [] => if w = [] then [] else [w]
 | w, [c] => [w ++ [c]]
 | w, c :: d :: r => if c = 13 ∧ d = 10 then w :: rl [] r else rl (w ++ [c]) (d :: r)
theorem rl_crlf : ∀ (s w : Bytes), rl w s = match crlf s with
  | some i => (w ++ s.take i) :: rl [] (s.drop (i + 2))
  | none => if w ++ s = [] then [] else [w ++ s]
 | [], w => by rw [rl]; simp [crlf]
 | [c], w => by
  have : crlf [c] = none := by simp [crlf]
  rw [rl, this]
  simp
 | c :: d :: r, w => by
  rw [rl, crlf_two]
  by_cases h : c = 13 ∧ d = 10
  ·rw [if_pos h, if_pos h]
   simp
  rw [if_neg h, if_neg h, rl_crlf (d :: r) (w ++ [c])]
  cases crlf (d :: r) with
  | none => simp
  | some i => simp
theorem rl_lines : ∀ (n : Nat) (s : Bytes), s.length ≤ n → rl [] s = linesM n s
 | 0, s, h => by
  have h0 : s = [] := List.eq_nil_of_length_eq_zero (by omega)
  subst h0; rfl
 | n + 1, s, h => by
  rw [linesM, rl_crlf]
  by_cases h0 : s = []
  ·subst h0; rfl
  rw [if_neg h0]
  cases hc : crlf s with
  | none => simp [h0]
  | some i =>
   have := crlf_room hc
   simp only [List.nil_append]
   rw [rl_lines n _ (by rw [List.length_drop]; omega)]
theorem refLines_l0 (s : ByteArray) (hs : s.size ≤ 1000000) : ∀ (n : Nat) (rest w : Bytes) (acc : List Bytes) (i k : Nat), rest.length ≤ n → (bs s).drop i = rest → i ≤ (bs s).length → rest.length + 1 ≤ k → acc.length ≤ i → w.length ≤ i →
  bulletinref16_Lines.l0 k (acc.map str) (str w) s (i : Int) = some ((acc ++ rl w rest).map str)
 | n, [], w, acc, i, k, hn, hd, hi, hk, ha, hw => by
  obtain ⟨k, rfl⟩ : ∃ j, k = j + 1 := ⟨k - 1, by omega⟩
  have := drop_nil hd
  rw [bs_length] at this hi
  rw [bulletinref16_Lines.l0, if_neg (by omega), toList_str, rl]
  by_cases h : w = []
  ·rw [if_pos h, if_pos h, List.append_nil]
  rw [if_neg h, if_neg h, if_pos (by rw [List.length_map]; omega)]
  simp
 | 0, c :: r, w, acc, i, k, hn, hd, hi, hk, ha, hw => by simp at hn
 | n + 1, c :: r, w, acc, i, k, hn, hd, hi, hk, ha, hw => by
  obtain ⟨k, rfl⟩ : ∃ j, k = j + 1 := ⟨k - 1, by omega⟩
  obtain ⟨h1, h2, h3, h4⟩ := drop_cons hd
  have h5 : i < s.size := by rw [bs_length] at h1; exact h1
  simp only [List.length_cons] at hk hn
  have e13 : ((c.toNat : Int) = 13) = (c = 13) := byte_eq c 13 (by decide)
  have more : (if (i : Int) ≤ ((i + 1 : Nat) : Int) then (if ((i + 1 : Nat) : Int) ≤ (s.size : Int) then (if (str w).size + (s.extract (i : Int).toNat (((i + 1 : Nat) : Int) : Int).toNat).size ≤ 9223372036854775807 then (bulletinref16_Lines.l0 k (acc.map str) ((str w) ++ (s.extract (i : Int).toNat (((i + 1 : Nat) : Int) : Int).toNat)) s ((i + 1 : Nat) : Int)) else (none)) else (none)) else (none)) = some ((acc ++ rl (w ++ [c]) r).map str) := by
   rw [if_pos (by omega), if_pos (by omega)]
   simp only [Int.toNat_natCast]
   rw [extract_one hd, str_app, if_pos (by rw [str_size, str_size]; simp; omega)]
   exact refLines_l0 s hs n r (w ++ [c]) acc (i + 1) k (by omega) h3 (by omega) (by omega) (by omega) (by simp; omega)
  rw [bulletinref16_Lines.l0, if_pos (by omega), if_pos (by omega), bt_drop hd, wrap_succ i (by omega)]
  match r, hd, h3, hn, hk, more with
  | [], hd, h3, hn, hk, more =>
   have hz := drop_nil h3
   rw [bs_length] at hz
   have el : rl w [c] = rl (w ++ [c]) [] := by rw [rl, rl, if_neg (by simp)]
   rw [el]
   by_cases hc : c = 13
   ·rw [if_pos (by rw [e13]; exact hc), if_neg (by omega)]; exact more
   rw [if_neg (by rw [e13]; exact hc)]; exact more
  | d :: r, hd, h3, hn, hk, more =>
   obtain ⟨g1, g2, g3, g4⟩ := drop_cons h3
   have g5 : i + 1 < s.size := by rw [bs_length] at g1; exact g1
   have e10 : ((d.toNat : Int) = 10) = (d = 10) := byte_eq d 10 (by decide)
   simp only [List.length_cons] at hk hn
   rw [rl]
   by_cases hc : c = 13
   ·rw [if_pos (by rw [e13]; exact hc), if_pos (by omega), if_pos (by omega), bt_drop h3]
    by_cases hdd : d = 10
    ·rw [if_pos (by rw [e10]; exact hdd), if_pos (by rw [List.length_map]; omega), if_pos (show c = 13 ∧ d = 10 from ⟨hc, hdd⟩), wrap_succ (i + 1) (by omega), show acc.map str ++ [str w] = (acc ++ [w]).map str by simp, show (⟨#[]⟩ : ByteArray) = str [] from rfl]
     rw [refLines_l0 s hs n r [] (acc ++ [w]) (i + 1 + 1) k (by omega) g3 (by omega) (by omega) (by simp; omega) (by simp)]
     simp
    rw [if_neg (by rw [e10]; exact hdd), if_neg (fun q : c = 13 ∧ d = 10 => hdd q.2)]; exact more
   rw [if_neg (by rw [e13]; exact hc), if_neg (fun q : c = 13 ∧ d = 10 => hc q.1)]; exact more
theorem refLines_is (q : List S74) (s : ByteArray) (hs : s.size ≤ 1000000) (k : Nat) (hk : s.size + 1 ≤ k) : bulletinref16_Lines.f k q s = some ((linesB (bs s)).map str) := by
 have := refLines_l0 s hs (bs s).length (bs s) [] [] 0 k (Nat.le_refl _) rfl (Nat.zero_le _) (by rw [bs_length]; exact hk) (by simp) (by simp)
 rw [rl_lines _ _ (Nat.le_refl _)] at this
 unfold bulletinref16_Lines.f
 exact this
end Go.Proofs.YtihabmcaplnbcaaGreatDoor.Pl
set_option linter.unusedVariables false
set_option linter.unusedSimpArgs false
namespace Go.Proofs.YtihabmcaplnbcaaGreatDoor.Pl
open Go.RowKit Go.Proofs.YtihabmcaplnbcaaGreatDoorW.PrintWords Go.Proofs.YtihabmcaplnbcaaGreatDoor.Fn

/-! Layer 35: the commands of a mail, as the document reads them. -/
abbrev OT := S65
def toR (c : OC) : OT := ⟨c.1, c.2.1, c.2.2⟩
theorem refstops_is (w : Bytes) : bulletinref35_stops.f (str w) = some (stopW w) := by
 unfold bulletinref35_stops.f stopW
 rw [toList_str]
 by_cases h1 : w = [101, 110, 100]
 ·rw [if_pos h1, beq_iff_eq.2 h1]; rfl
 rw [if_neg h1, beq_eq_false_iff_ne.2 h1, Bool.false_or]
 by_cases h2 : w = [115, 116, 111, 112]
 ·rw [if_pos h2, beq_iff_eq.2 h2]; rfl
 rw [if_neg h2, beq_eq_false_iff_ne.2 h2, Bool.false_or]
 by_cases h3 : w = [113, 117, 105, 116]
 ·rw [if_pos h3, beq_iff_eq.2 h3]; rfl
 rw [if_neg h3, beq_eq_false_iff_ne.2 h3, Bool.false_or]
theorem quote_head {w : Bytes} (h : w ≠ []) : (bt (str w) 0 == 62) = (w.take 1 == [62]) ∧ 0 < (str w).size := by
 cases w with
 | nil => exact absurd rfl h
 | cons c r =>
  refine ⟨?_, by rw [str_size]; simp⟩
  have hb : bt (str (c :: r)) ((0 : Nat) : Int) = (c.toNat : Int) := bt_drop (r := r) (by rw [bs_str]; rfl)
  have hb0 : bt (str (c :: r)) 0 = (c.toNat : Int) := hb
  rw [hb0, Bool.eq_iff_iff, beq_iff_eq, beq_iff_eq, show ((c.toNat : Int) = 62) ↔ c = 62 from u8_natC c 62 (by decide)]
  simp
theorem refread_l1 (L : List Bytes) (hL : L.length ≤ 1000000) (hz : ∀ x ∈ L, x.length ≤ 1000000) : ∀ (rest : List Bytes) (i k : Nat) (out : List OC) (bad : Nat), L.drop i = rest → 90000000 + 3 * rest.length ≤ k → out.length ≤ 8 → bad ≤ 3 → i ≤ L.length →
  bulletinref35_Read.l1 k (out.map toR) (L.map str) (bad : Int) (i : Int) = some ((ordL rest out bad).map toR)
 | [], i, k, out, bad, hd, hk, ho, hb, hi => by
  obtain ⟨k, rfl⟩ : ∃ j, k = j + 2 := ⟨k - 2, by omega⟩
  have := List.drop_eq_nil_iff.1 hd
  rw [bulletinref35_Read.l1, if_neg (by rw [List.length_map]; omega), bulletinref35_Read.j5, if_neg (by decide)]
  rfl
 | s :: r, i, k, out, bad, hd, hk, ho, hb, hi => by
  obtain ⟨k, rfl⟩ : ∃ j, k = j + 3 := ⟨k - 3, by omega⟩
  have hil : i < L.length := by
   rcases Nat.lt_or_ge i L.length with h | h
   ·exact h
   rw [List.drop_of_length_le h] at hd; cases hd
  have hsm : s ∈ L := List.mem_of_mem_drop (by rw [hd]; exact List.mem_cons_self)
  have h3 : L.drop (i + 1) = r := by rw [← List.drop_drop, hd]; rfl
  have hrd : rdOf ByteArray.empty (L.map str) (i : Int) = str s := by
   unfold rdOf
   rw [Int.toNat_natCast, List.getD_eq_getElem?_getD, List.getElem?_map]
   have : L[i]? = some s := by
    have := congrArg List.head? hd
    rwa [List.head?_drop] at this
   rw [this]
   rfl
  have hs1 := hz s hsm
  have hlk : 90000000 ≤ k := by simp only [List.length_cons] at hk; omega
  have hkr : 90000000 + 3 * r.length ≤ k := by simp only [List.length_cons] at hk; omega
  have hw := refwords_is (str s) (by rw [str_size]; omega) (k + 1) (by omega)
  have hof := refline_is (str s) (by rw [str_size]; omega) k (by omega)
  have hok := lineW_ok (str s)
  have ih : ∀ (out : List OC) (bad : Nat), out.length ≤ 8 → bad ≤ 3 → bulletinref35_Read.l1 k (out.map toR) (L.map str) (bad : Int) ((i + 1 : Nat) : Int) = some ((ordL r out bad).map toR) := fun out bad a b => refread_l1 L hL hz r (i + 1) k out bad h3 hkr a b (by omega)
  have hlm : (L.map str).length = L.length := List.length_map _
  have hlo : (out.map toR).length = out.length := List.length_map _
  generalize hW : lineW (str s) = W at hw hof hok
  have hj : ∀ b, b = (decide (out.length < 8) && decide (bad < 3)) → bulletinref35_Read.j5 (k + 2) (out.map toR) (L.map str) (bad : Int) (i : Int) b = some ((ordL (s :: r) out bad).map toR) := by
   rintro b rfl
   rw [bulletinref35_Read.j5, ordL, hW]
   by_cases hq : out.length = 8 ∨ bad = 3
   ·have hq' : (decide (out.length < 8) && decide (bad < 3)) = false := by
     rw [← Bool.not_eq_true]
     simp
     omega
    rw [hq', if_neg (by decide), if_pos hq]
   have hq' : (decide (out.length < 8) && decide (bad < 3)) = true := by
    simp
    omega
   have hj6 : ∀ t, bulletinref35_Read.j6 (k + 1) (out.map toR) (W.map str) (L.map str) (bad : Int) (i : Int) t = (if t = true then some ((ordL r out bad).map toR) else (if 0 < ((W.map str).length : Int) then ((bulletinref35_stops.f (rdOf ByteArray.empty (W.map str) 0)).bind fun t955 => if t955 = true then some (out.map toR) else some ((ordL r (out ++ [cmd W]) (if (cmd W).1 = 5 then bad + 1 else bad)).map toR)) else none)) := by
    intro t
    have happ : out.map toR ++ [(⟨(cmd W).1, (cmd W).2.1, (cmd W).2.2⟩ : OT)] = (out ++ [cmd W]).map toR := by simp [toR]
    have hlt : (out.map toR).length < 4398046511104 := by omega
    have b4 : (out ++ [cmd W]).length ≤ 8 := by rw [List.length_append, List.length_singleton]; omega
    rw [bulletinref35_Read.j6, wrap_succ i (by omega), ih out bad ho hb, hof, Option.bind_some, if_pos hlt, if_pos hlt, happ, wrap_succ bad (by omega), ih _ (bad + 1) b4 (by omega), ih _ bad b4 hb]
    congr 2
    congr 1
    funext t955
    congr 1
    split <;> rfl
   rw [hq', if_pos rfl, if_pos (by omega), if_pos (by omega), hrd, hw, Option.bind_some, if_neg hq]
   cases W with
   | nil =>
    rw [if_pos (by simp), hj6, if_pos rfl]
    rfl
   | cons w ws =>
    have h0 : rdOf ByteArray.empty ((w :: ws).map str) 0 = str w := rfl
    obtain ⟨q1, q2⟩ := quote_head (hok w (by simp)).1
    have hpos : 0 < (((w :: ws).map str).length : Int) := by simp
    rw [if_neg (by simp; omega), if_pos (by simp), h0, if_pos (by omega), hj6, q1, if_pos hpos, h0, refstops_is, Option.bind_some]
    show _ = some ((if (w.take 1 == [62]) = true then ordL r out bad else if stopW w = true then out else _).map toR)
    cases w.take 1 == [62] with
    | true => rfl
    | false =>
     simp only [Bool.false_eq_true, if_false]
     cases stopW w <;> rfl
  rw [bulletinref35_Read.l1, if_pos (by omega)]
  by_cases h8 : out.length < 8
  ·rw [if_pos (by omega)]
   refine hj _ ?_
   rw [decide_eq_true h8, Bool.true_and]
   exact decide_eq_decide.2 (by omega)
  rw [if_neg (by omega)]
  exact hj false (by rw [decide_eq_false h8]; rfl)
theorem sub_len (l : List Bytes) : (subL l).length ≤ 8 := by
 unfold subL
 split
 ·simp
 split
 ·simp
 split <;> simp
theorem refread_j3 (q : List FQ) (b : ByteArray) (hb : b.size ≤ 3000) (out : List OC) (ho : out.length ≤ 8) (k : Nat) (hk : 95000000 ≤ k) : bulletinref35_Read.j3 k (out.map toR) q b = some ((ordL (linesB (bs b)) out 0).map toR) := by
 obtain ⟨k, rfl⟩ : ∃ j, k = j + 1 := ⟨k - 1, by omega⟩
 have hbz := bs_length b
 have hln := lines_sum (bs b).length (bs b)
 rw [bulletinref35_Read.j3, refLines_is q b (by omega) k (by omega), Option.bind_some]
 exact refread_l1 (linesB (bs b)) (by unfold linesB; omega) (fun x hx => by have := hln.2 x hx; omega) (linesB (bs b)) 0 k out 0 rfl (by unfold linesB; omega) ho (by omega) (Nat.zero_le _)
theorem refsub_l0 (q : List FQ) (b : ByteArray) (hb : b.size ≤ 3000) : ∀ (l : List Bytes) (k : Nat), (∀ x ∈ l, okW x) → l.length ≤ 20000000 → (jn l).length ≤ 20000000 → 96000000 + l.length ≤ k →
  bulletinref35_Read.l0 k (l.map str) q b = some ((ordL (linesB (bs b)) (subL l) 0).map toR)
 | [], k, hok, hl, hs, hk => by
  obtain ⟨k, rfl⟩ : ∃ j, k = j + 3 := ⟨k - 3, by omega⟩
  rw [bulletinref35_Read.l0, if_neg (by simp), bulletinref35_Read.j1, if_neg (by simp), bulletinref35_Read.j2, if_neg (by decide)]
  exact refread_j3 q b hb [] (by simp) k (by omega)
 | w :: r, k, hok, hl, hs, hk => by
  obtain ⟨k, rfl⟩ : ∃ j, k = j + 3 := ⟨k - 3, by omega⟩
  have h0 : rdOf ByteArray.empty ((w :: r).map str) 0 = str w := rfl
  have hjd := jn_drop w r
  simp only [List.length_cons] at hl hk
  have hpos : ((((w :: r).map str).length : Nat) : Int) > 0 := by simp
  rw [bulletinref35_Read.l0, if_pos hpos, if_pos hpos, h0, toList_str]
  by_cases hre : w = [114, 101, 58]
  ·have hsub : subL (w :: r) = subL r := by
    have : reL (w :: r) = reL r := by simp [reL, hre]
    unfold subL
    rw [this]
   rw [if_pos hre, if_pos (by simp; omega), hsub]
   exact refsub_l0 q b hb r (k + 2) (fun x hx => hok x (by simp [hx])) (by omega) (by omega) (by omega)
  have hrl : reL (w :: r) = w :: r := by
   unfold reL
   rw [List.dropWhile_cons_of_neg (by simpa using hre)]
  have hof := fun m (hm : 80000000 ≤ m) => (ref_of (w :: r) (by simp; omega) (by omega) m (by simp; omega)).trans (congrArg some (cmdT_jn _ hok))
  have happ : ([] : List OT) ++ [(⟨(cmd (w :: r)).1, (cmd (w :: r)).2.1, (cmd (w :: r)).2.2⟩ : OT)] = [cmd (w :: r)].map toR := by simp [toR]
  have hj3 : ∀ (out : List OC), out.length ≤ 8 → bulletinref35_Read.j3 k (out.map toR) q b = some ((ordL (linesB (bs b)) out 0).map toR) := fun out ho => refread_j3 q b hb out ho k (by omega)
  have hj2 : ∀ t, bulletinref35_Read.j2 (k + 1) ([] : List OT) ((w :: r).map str) t q b = some ((ordL (linesB (bs b)) (if t = true then [cmd (w :: r)] else []) 0).map toR) := by
   intro t
   rw [bulletinref35_Read.j2]
   cases t with
   | true => rw [if_pos rfl, hof k (by omega), Option.bind_some, if_pos (by simp), happ, hj3 _ (by simp), if_pos rfl]
   | false =>
    rw [if_neg (by decide), if_neg (by decide)]
    exact hj3 [] (by simp)
  rw [if_neg hre, bulletinref35_Read.j1, if_pos hpos, if_pos hpos, h0, refstops_is, Option.bind_some, hof (k + 1) (by omega), Option.bind_some]
  unfold subL
  rw [hrl, if_neg (List.cons_ne_nil _ _)]
  show (if stopW w = true then _ else _) = some ((ordL _ (if stopW w = true then _ else _) 0).map toR)
  cases stopW w with
  | true => rw [if_pos rfl, if_pos rfl, hj2, if_neg (by decide)]
  | false =>
   rw [if_neg (by decide), if_neg (by decide), hj2]
   by_cases h5 : (cmd (w :: r)).1 = 5
   ·rw [if_pos h5, if_neg (by simp [h5])]
   rw [if_neg h5, if_pos (by simpa using h5)]
theorem refread_is (q : List FQ) (b : ByteArray) (hl : q.length ≤ 30) (hz : ∀ x ∈ q, x.f0.size ≤ 200 ∧ x.f1.size ≤ 3000) (hb : b.size ≤ 3000) (k : Nat) (hk : 200000000 ≤ k) : bulletinref35_Read.f k q b = some ((ordR (q.map toF) b).map toR) := by
 have hg := refget_is q ⟨#[83, 117, 98, 106, 101, 99, 116]⟩ (by omega) (by decide) (fun x hx => by have := (hz x hx).1; omega) k (by omega)
 have hgz := getA_size (l := q.map toF) (name := ⟨#[83, 117, 98, 106, 101, 99, 116]⟩) (fun x hx => by
  obtain ⟨y, hy, e⟩ := List.mem_map.1 hx
  rw [← e]
  exact (hz y hy).2)
 have hst : (subjT (q.map toF)).length ≤ 3000 := by unfold subjT; rw [data_length]; exact hgz
 have hd := decodeL_len (subjT (q.map toF))
 have hcl := clean_length (str (decodeL (subjT (q.map toF))))
 rw [str_size] at hcl
 have hs : bulletinref34_Subject.f k q b = some (str (clean (str (decodeL (subjT (q.map toF)))))) := by
  unfold bulletinref34_Subject.f bulletinref16_Get.f
  rw [hg, Option.bind_some, Option.bind_some, refDecode_is _ hgz k (by omega), Option.bind_some]
  show (bulletinref06_Clean.f k (str (decodeL (subjT (q.map toF))))).bind _ = _
  rw [ref_clean _ (by rw [str_size]; omega) k (by rw [str_size]; omega), Option.bind_some]
 have hlw := lineW_size (str (clean (str (decodeL (subjT (q.map toF))))))
 rw [str_size] at hlw
 unfold bulletinref35_Read.f
 rw [hs, Option.bind_some, refwords_is _ (by rw [str_size]; omega) k (by omega), Option.bind_some]
 exact refsub_l0 q b hb _ k (lineW_ok _) (by omega) (by omega) (by omega)
end Go.Proofs.YtihabmcaplnbcaaGreatDoor.Pl
set_option linter.unusedVariables false
set_option linter.unusedSimpArgs false
namespace Go.Proofs.YtihabmcaplnbcaaGreatDoor.Pl
open Go.RowKit Go.Proofs.YtihabmcaplnbcaaGreatDoorW.PrintWords Go.Proofs.YtihabmcaplnbcaaGreatDoor.Fn

theorem light16 (l : List FQ) (b : ByteArray) (k : Nat) (hk : 100 < k) : bulletinlaw16_Light.f k l b = some (lightQ l && decide ((b.size : Int) ≤ 3000)) := by
 unfold bulletinlaw16_Light.f
 rw [lightQ_is l k hk, Option.bind_some]
 cases lightQ l <;> rfl
theorem to16 (l : List FQ) (b : ByteArray) (hl : l.length ≤ 1000000) (k : Nat) (hk : l.length < k) : bulletinlaw16_To.f k l b = some (l.map toF, b) := by
 unfold bulletinlaw16_To.f
 rw [toQ_is l hl k hk, Option.bind_some]
end Go.Proofs.YtihabmcaplnbcaaGreatDoor.Pl
set_option linter.unusedVariables false
set_option linter.unusedSimpArgs false
namespace Go.Proofs.YtihabmcaplnbcaaGreatDoor.Pl
open Go.RowKit Go.Proofs.YtihabmcaplnbcaaGreatDoorW.PrintWords Go.Proofs.YtihabmcaplnbcaaGreatDoor.Fn

theorem rdOt (R : List OC) (i : Nat) (h : i < R.length) : rd_T63 (R.map toO) (i : Int) = toO R[i] := by
 unfold rd_T63
 rw [Int.toNat_natCast, List.getD_eq_getElem?_getD, List.getElem?_map, List.getElem?_eq_getElem h]
 rfl
theorem rdRt (R : List OC) (i : Nat) (h : i < R.length) : rd_T65 (R.map toR) (i : Int) = toR R[i] := by
 unfold rd_T65
 rw [Int.toNat_natCast, List.getD_eq_getElem?_getD, List.getElem?_map, List.getElem?_eq_getElem h]
 rfl
theorem reads_l0 (R : List OC) (hR : R.length ≤ 1000000) : ∀ (d i k : Nat), i + d = R.length → d + 100 ≤ k →
  bulletinlaw35_OrderReads.l0 k (R.map toO) (R.map toR) (R.length : Int) (i : Int) = some true
 | 0, i, k, hi, hk => by
  obtain ⟨k, rfl⟩ : ∃ j, k = j + 1 := ⟨k - 1, by omega⟩
  rw [bulletinlaw35_OrderReads.l0, if_neg (by omega), works_is k (by omega), Option.bind_some]
 | d + 1, i, k, hi, hk => by
  obtain ⟨k, rfl⟩ : ∃ j, k = j + 1 := ⟨k - 1, by omega⟩
  have hil : i < R.length := by omega
  have h1 : (R.map toO).length = R.length := List.length_map _
  have h2 : (R.map toR).length = R.length := List.length_map _
  have ih := reads_l0 R hR d (i + 1) k (by omega) (by omega)
  rw [bulletinlaw35_OrderReads.l0, if_pos (by omega), if_pos (by omega), if_pos (by omega), if_pos (by omega), rdOt R i hil, rdRt R i hil, wrap_succ i (by omega), ih]
  unfold bulletinlaw35_To.f
  rw [Option.bind_some, if_neg]
  simp [toO, toR]
theorem ordL_len : ∀ (L : List Bytes) (out : List OC) (bad : Nat), (ordL L out bad).length ≤ out.length + L.length
 | [], out, bad => by rw [ordL]; simp
 | s :: r, out, bad => by
  rw [ordL]
  have h1 := ordL_len r out bad
  have h2 := ordL_len r (out ++ [cmd (lineW (str s))]) (if (cmd (lineW (str s))).1 = 5 then bad + 1 else bad)
  rw [List.length_append, List.length_singleton] at h2
  rw [List.length_cons]
  split
  ·omega
  split
  ·omega
  split
  ·omega
  omega
theorem OrderReads (q : List FQ) (b : ByteArray) : ∃ k, bulletinlaw35_OrderReads.f k q b = some true := by
 refine ⟨200000000, ?_⟩
 generalize hK : (200000000 : Nat) = K
 unfold bulletinlaw35_OrderReads.f
 rw [light16 q b K (by omega), Option.bind_some]
 by_cases hl : (lightQ q && decide ((b.size : Int) ≤ 3000)) = true
 ·rw [if_pos hl]
  rw [Bool.and_eq_true, decide_eq_true_eq] at hl
  obtain ⟨h30, hz⟩ := lightQ_some hl.1
  rw [to16 q b (by omega) K (by omega), Option.bind_some]
  show (order_Read.f K (q.map toF) b).bind _ = _
  rw [orderRead_is (q.map toF) b (by rw [List.length_map]; exact h30) (fun x hx => by
   obtain ⟨y, hy, e⟩ := List.mem_map.1 hx
   rw [← e]
   exact hz y hy) (by omega) K (by omega), Option.bind_some, refread_is q b h30 hz (by omega) K (by omega), Option.bind_some]
  have hlen : (ordR (q.map toF) b).length ≤ 1000000 := by
   have hbz := bs_length b
   have hln := lines_sum (bs b).length (bs b)
   have hs := sub_len (lineW (str (clean (str (decodeL (subjT (q.map toF)))))))
   have := ordL_len (linesB (bs b)) (subL (lineW (str (clean (str (decodeL (subjT (q.map toF)))))))) 0
   unfold ordR
   unfold linesB at *
   omega
  rw [if_pos (by rw [List.length_map, List.length_map]), List.length_map]
  exact reads_l0 _ hlen _ 0 K (Nat.zero_add _) (by omega)
 rw [if_neg hl, works_is K (by omega), Option.bind_some]
end Go.Proofs.YtihabmcaplnbcaaGreatDoor.Pl
set_option linter.unusedVariables false
namespace Go.Proofs.YtihabmcaplnbcaaGreatDoor.Fn
open Go.RowKit Go.ChangeShapes Go.WideShapes Go.Proofs.YtihabmcaplnbcaaGreatDoorW.PrintWords

/-! A slice of fields (two texts each) that came in. -/
def strOf : Value → ByteArray | .string s => s | _ => ByteArray.empty
theorem open_fields {H : Type} {enc : TypeId × Value → H} {w : World} {base : Nat} {spare : Nat → Bool} {held : Bool} {fuel : Nat} {v : Value} {x : DataW H × List MemPlace}
  (h : DataW.trod enc Tryz.prog w base spare held fuel 22 [v] = some x) :
  ∃ (A : Option Addr) (c : Nat) (l : List (S74)), v = .slice A l.length c ∧ l.length ≤ c ∧ c ≤ maxLen ∧ Kd.C k74 w A l.length l := by
 rcases Go.Deep.open_slice_pairs Tryz.underlying22 Tryz.underlying74 (by kernel_rfl) rfl rfl (by kernel_rfl) (by kernel_rfl) h with ⟨h0, _⟩ | ⟨a, len, cap, m, n, V0, V1, D0, D1, P0, P1, hv, hb, hl, hm, hmm, _, hx⟩
 ·refine ⟨none, 0, [], ?_, Nat.le_refl _, Nat.zero_le _, ?_⟩
  ·simpa using h0
  exact ⟨rfl, by simp, fun h => absurd h (by simp)⟩
 have hlm : len ≤ m := by rw [hmm]; split <;> omega
 have s0 : ∀ i, i < len → V0 i = .string (strOf (V0 i)) := fun i hi => by
  obtain ⟨_, _, g, _⟩ := hx i (by omega)
  obtain ⟨s, e, _⟩ := DataW.trod_string Tryz.underlying9 g
  simp only [List.cons.injEq, and_true] at e
  rw [e]; rfl
 have s1 : ∀ i, i < len → V1 i = .string (strOf (V1 i)) := fun i hi => by
  obtain ⟨_, _, _, g⟩ := hx i (by omega)
  obtain ⟨s, e, _⟩ := DataW.trod_string Tryz.underlying9 g
  simp only [List.cons.injEq, and_true] at e
  rw [e]; rfl
 have hlen : ((List.range len).map fun i => (⟨strOf (V0 i), strOf (V1 i)⟩ : S74)).length = len := by simp
 refine ⟨some a, cap, (List.range len).map fun i => ⟨strOf (V0 i), strOf (V1 i)⟩, ?_, by rw [hlen]; exact hl, hm, ?_⟩
 ·rw [hlen]; simpa using hv
 rw [hlen]
 refine ⟨hlen, by unfold maxLen at hm; omega, fun h0 => ⟨a, rfl, fun j p hp => ?_⟩⟩
 have hj : j < len := by
  have := (List.getElem?_eq_some_iff.1 hp).1
  rwa [hlen] at this
 have hp' : p = ⟨strOf (V0 j), strOf (V1 j)⟩ := by
  rw [List.getElem?_map, List.getElem?_range hj] at hp
  exact (Option.some.inj hp).symm
 subst hp'
 obtain ⟨g0, g1, _, _⟩ := hx j (by omega)
 rw [s0 j hj] at g0
 rw [s1 j hj] at g1
 refine ⟨[.string (strOf (V0 j)), .string (strOf (V1 j))], rfl, k74_mk w _, fun i u hu => ?_⟩
 match i, hu with
 | 0, hu => obtain rfl := Option.some.inj hu; exact g0
 | 1, hu => obtain rfl := Option.some.inj hu; exact g1
 | i + 2, hu => simp at hu
end Go.Proofs.YtihabmcaplnbcaaGreatDoor.Fn
