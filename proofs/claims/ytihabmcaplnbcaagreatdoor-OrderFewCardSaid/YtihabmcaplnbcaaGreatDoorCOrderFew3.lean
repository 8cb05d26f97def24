/- A part of the proof of this sentence: OrderFew (35.2): no mail has more than eight commands, nor more than three that are Unknown, and if it has three, the third of these is the last one; of at most 30 fields, names of at most 200, values and body of at most 3000 bytes. -/
import Derived.Test.YtihabmcaplnbcaaGreatDoorCOrderFew2
import Derived.Lib.IndexBytes
import Derived.Shelf.Strings.SlTrimAscii
import Derived.Lib.ConvBytes
import Derived.Laws.Cover4
import Derived.Deep.QuietTactic
import Derived.BigQuiet
import Derived.Shelf.Strings.IndexAnyAll
import Derived.Deep.SlicePairs
import Derived.ProofKit
import Derived.OpenShut
set_option linter.unusedVariables false
set_option linter.unusedSimpArgs false
namespace Go.Proofs.YtihabmcaplnbcaaGreatDoor.Pl
open Go.RowKit Go.Proofs.YtihabmcaplnbcaaGreatDoorW.PrintWords Go.Proofs.YtihabmcaplnbcaaGreatDoor.Fn

/-! Layers 18, 19: the program's Decode of letters, and its words. -/
def b64Z (c : UInt8) : Int := match b64V c with | none => -1 | some n => (n : Int)
theorem index_is (c : UInt8) : strings_IndexByte.f (⟨#[65, 66, 67, 68, 69, 70, 71, 72, 73, 74, 75, 76, 77, 78, 79, 80, 81, 82, 83, 84, 85, 86, 87, 88, 89, 90, 97, 98, 99, 100, 101, 102, 103, 104, 105, 106, 107, 108, 109, 110, 111, 112, 113, 114, 115, 116, 117, 118, 119, 120, 121, 122, 48, 49, 50, 51, 52, 53, 54, 55, 56, 57, 43, 47]⟩ : ByteArray) (c.toNat : Int) = some (b64Z c) :=
  forall_byte (p := fun c => strings_IndexByte.f (⟨#[65, 66, 67, 68, 69, 70, 71, 72, 73, 74, 75, 76, 77, 78, 79, 80, 81, 82, 83, 84, 85, 86, 87, 88, 89, 90, 97, 98, 99, 100, 101, 102, 103, 104, 105, 106, 107, 108, 109, 110, 111, 112, 113, 114, 115, 116, 117, 118, 119, 120, 121, 122, 48, 49, 50, 51, 52, 53, 54, 55, 56, 57, 43, 47]⟩ : ByteArray) (c.toNat : Int) = some (b64Z c)) (by decide +kernel) c
theorem b64V_lt {c : UInt8} {n : Nat} (h : b64V c = some n) : n < 64 := by
  have := forall_byte (p := fun c => ∀ n, b64V c = some n → n < 64) (by decide +kernel) c
  exact this n h
def resC (B : Bytes) : Option Bytes → ByteArray × Int
  | none => (⟨#[]⟩, 3)
  | some b => if b64P b = B then (str b, 0) else (⟨#[]⟩, 3)
theorem b64_step (h m v : Nat) (hm : m ≤ 6) (hh : v < 2 ^ (m + 8)) : shr .i64 (v : Int) (m : Int) % 256 = ((UInt8.ofNat (v / 2 ^ m)).toNat : Int) ∧ Go.bits .and .i64 (v : Int) (wrap64 ((shl .i64 1 (m : Int)) - 1)) = ((v % 2 ^ m : Nat) : Int) := by
  have hp : 2 ^ m ≤ 64 := Nat.pow_le_pow_right (n := 2) (by decide) hm
  have h8 : 2 ^ (m + 8) = 2 ^ m * 256 := by rw [Nat.pow_add]
  have h0 : 0 < 2 ^ m := Nat.two_pow_pos m
  have hpz : ((2 : Int) ^ m) = ((2 ^ m : Nat) : Int) := by simp
  have hb : min ((m : Int)).toNat IntKind.i64.bits = m := by
    rw [Int.toNat_natCast]
    exact Nat.min_eq_left (Nat.le_trans hm (by decide))
  have hv : v / 2 ^ m < 256 := Nat.div_lt_of_lt_mul (by rw [← h8]; exact hh)
  refine ⟨?_, ?_⟩
  · unfold shr
    rw [hb, hpz]
    have e : (UInt8.ofNat (v / 2 ^ m)).toNat = v / 2 ^ m := by simp; omega
    rw [e]
    omega
  · have e : wrap64 ((shl .i64 1 (m : Int)) - 1) = 2 ^ m - 1 := by
      unfold shl
      rw [hb, hpz, Int.one_mul, i64_small _ (by omega) (by omega), wrap_small (by omega) (by omega)]
    have hv2 : v < 16384 := by omega
    rw [e, and_i64 m _ (by omega) (by omega) (by omega)]
    simp
theorem b64_l0 (B : ByteArray) (hs : B.size ≤ 1000000000) (m : Nat) (hm : m ≤ B.size) : ∀ (rest : Bytes) (i k h n : Nat) (acc : Bytes), ((bs B).take m).drop i = rest → rest.length + 1 ≤ k → acc.length ≤ i → i ≤ m → (n = 0 ∨ n = 2 ∨ n = 4 ∨ n = 6) → h < 2 ^ n →
    b64_Decode.l0 k B (numsB acc) (h : Int) (n : Int) (m : Int) (i : Int) = some (resC (bs B) (b64D rest h n acc))
  | [], i, k, h, n, acc, hd, hk, ha, him, hn, hh => by
    obtain ⟨k, rfl⟩ : ∃ j, k = j + 1 := ⟨k - 1, by omega⟩
    have := drop_nil hd
    rw [List.length_take, bs_length] at this
    have hp : b64_Plain.f (str acc) = some (str (b64P acc)) := by
      unfold b64_Plain.f
      rw [if_pos (by rw [str_size]; omega), bs_str]
    rw [b64_Decode.l0, if_neg (by omega), nums_str, hp, Option.bind_some, toList_str, toList_bs, b64D]
    unfold resC
    simp only []
    split <;> rfl
  | c :: r, i, k, h, n, acc, hd, hk, ha, him, hn, hh => by
    obtain ⟨k, rfl⟩ : ∃ j, k = j + 1 := ⟨k - 1, by omega⟩
    obtain ⟨h1, h2, h3, h4⟩ := drop_cons hd
    rw [List.length_take, bs_length] at h1
    have hb : (bs B).drop i = c :: (bs B).drop (i + 1) := by
      have hi2 : i < (bs B).length := by rw [bs_length]; omega
      rw [List.drop_eq_getElem_cons hi2]
      congr 1
      rw [List.getElem?_take, if_pos (by omega), List.getElem?_eq_getElem hi2] at h2
      exact Option.some.inj h2
    rw [b64_Decode.l0, if_pos (by omega), if_pos (by omega), if_pos (by omega), bt_drop hb, index_is, Option.bind_some, b64D]
    cases hv : b64V c with
    | none =>
      have e : b64Z c = -1 := by unfold b64Z; rw [hv]
      rw [e, if_pos (by decide)]
      rfl
    | some q =>
      have hq := b64V_lt hv
      have e : b64Z c = (q : Int) := by unfold b64Z; rw [hv]
      have hh6 : h < 64 := Nat.lt_of_lt_of_le hh (by
        have := Nat.pow_le_pow_right (n := 2) (by decide) (show n ≤ 6 by omega)
        exact this)
      have hq0 : ¬ (q : Int) < 0 := by omega
      have hn6 : wrap64 ((n : Int) + 6) = (n : Int) + 6 := wrap_small (by omega) (by omega)
      have hor : Go.bits .or .i64 (wrap64 ((h : Int) * 64)) (q : Int) = ((h * 64 + q : Nat) : Int) := by
        rw [wrap_small (by omega) (by omega), or_i64 6 _ _ (by omega) (by omega) (by omega) (by omega) (by omega) (by omega)]
        omega
      rw [e, if_neg hq0, hor, hn6, Option.bind_some]
      clear hor hn6
      rcases hn with hn | hn
      · subst hn
        obtain rfl : h = 0 := by simpa using hh
        rw [if_neg (by omega), if_neg (by omega), wrap_succ i (by omega)]
        have := b64_l0 B hs m hm r (i + 1) k (0 * 64 + q) 6 acc h3 (by simp at hk; omega) (by omega) (by omega) (by omega) (by omega)
        simpa using this
      · have hn2 : 2 ≤ n ∧ n ≤ 6 := by omega
        have hlt : h * 64 + q < 2 ^ (n - 2 + 8) := by
          have e1 : 2 ^ (n - 2 + 8) = 2 ^ n * 64 := by rw [show n - 2 + 8 = n + 6 by omega, Nat.pow_add]
          rw [e1]
          omega
        have q1 : (n : Int) + 6 ≥ 8 := by omega
        have q2 : 8 ≤ n + 6 := by omega
        have q3 : (0 : Int) ≤ ((n - 2 : Nat) : Int) := by omega
        have q4 : (numsB acc).length < 140737488355328 := by rw [numsB_len]; omega
        have hs1 := (b64_step h (n - 2) (h * 64 + q) (by omega) hlt).1
        have hs2 := (b64_step h (n - 2) (h * 64 + q) (by omega) hlt).2
        have hw : wrap64 ((n : Int) + 6 - 8) = ((n - 2 : Nat) : Int) := by rw [wrap_small (by omega) (by omega)]; omega
        rw [if_pos q1, if_pos q2, hw, if_pos q3, if_pos q4, hs1, hs2, wrap_succ i (by omega), numsB_snoc]
        exact b64_l0 B hs m hm r (i + 1) k _ (n - 2) _ h3 (by simp at hk; omega) (by rw [List.length_append, List.length_singleton]; omega) (by omega) (by omega) (Nat.mod_lt _ (Nat.two_pow_pos _))
def resD : Option Bytes → ByteArray × Int
  | none => (⟨#[]⟩, 3)
  | some b => (str b, 0)
theorem trimR_prefix (l cs : Bytes) : Lib.trimRightS l cs = l.take (Lib.trimRightS l cs).length := by
  apply List.prefix_iff_eq_take.1
  unfold Lib.trimRightS
  have := List.reverse_prefix.2 (List.dropWhile_suffix (l := l.reverse) (cs.contains ·))
  rwa [List.reverse_reverse] at this
theorem b64Decode_is (s : ByteArray) (hs : s.size ≤ 1000000000) (k : Nat) (hk : s.size + 2 ≤ k) : b64_Decode.f k s = some (resD (b64L (bs s))) := by
  have hl : (bareL (bs s)).length ≤ s.size := by
    rw [← bs_length s]
    exact List.length_filter_le _ _
  have hz : (str (bareL (bs s))).size ≤ s.size := by rw [str_size]; exact hl
  have ht : strings_TrimRight.f (str (bareL (bs s))) ⟨#[61]⟩ = some (str (Lib.trimRightS (bareL (bs s)) [61])) := by
    unfold strings_TrimRight.f
    rw [if_pos (by omega), if_pos (by decide), if_pos (by decide)]
    show some (str (Lib.trimRightS (bs (str (bareL (bs s)))) [61])) = _
    rw [bs_str]
  have hle : (Lib.trimRightS (bareL (bs s)) [61]).length ≤ (bareL (bs s)).length := by
    rw [trimR_prefix, List.length_take]
    omega
  unfold b64_Decode.f
  rw [bare_is s hs k (by omega), Option.bind_some, ht, Option.bind_some, str_size]
  have := b64_l0 (str (bareL (bs s))) (by omega) (Lib.trimRightS (bareL (bs s)) [61]).length (by rw [str_size]; exact hle) (Lib.trimRightS (bareL (bs s)) [61]) 0 k 0 0 [] (by rw [bs_str, List.drop_zero, ← trimR_prefix]) (by omega) (by simp) (by omega) (by omega) (by decide)
  rw [show ([] : List Int) = numsB [] from rfl]
  refine this.trans ?_
  unfold b64L
  rw [bs_str]
  cases b64D (Lib.trimRightS (bareL (bs s)) [61]) 0 0 [] with
  | none => rfl
  | some b =>
    simp only [resC, Option.bind_some]
    split <;> rfl
theorem octets_is (a0 a1 : ByteArray) (hs : a1.size ≤ 1000000000) (k : Nat) (hk : a1.size + 5 ≤ k) : ew_octets.f k a0 a1 = some (resQ (octL (bs a0) (bs a1))) := by
  obtain ⟨k, rfl⟩ : ∃ j, k = j + 1 := ⟨k - 1, by omega⟩
  have hq := quoted_is a1 hs k (by omega)
  have hd := b64Decode_is a1 hs k (by omega)
  have hr : ∀ o : Option Bytes, ((resD o).1, (resD o).2 == 0) = resQ o := by
    intro o
    cases o <;> rfl
  unfold ew_octets.f octL
  rw [toList_bs]
  have hj : ∀ t, ew_octets.j0 (k + 1) a1 a0 t = if t = true then some (resQ (quotedL (bs a1))) else if bs a0 = [98] then some (resQ (b64L (bs a1))) else if bs a0 = [66] then some (resQ (b64L (bs a1))) else some (⟨#[]⟩, false) := by
    intro t
    rw [ew_octets.j0, hq, hd, toList_bs]
    simp only [Option.bind_some, hr]
  by_cases h1 : bs a0 = [113]
  · rw [if_pos h1, if_pos (.inl h1), hj, beq_iff_eq.2 h1, if_pos rfl]
  · rw [if_neg h1, hj]
    by_cases h2 : bs a0 = [81]
    · rw [beq_iff_eq.2 h2, if_pos rfl, if_pos (.inr h2)]
    · have h12 : ¬ (bs a0 = [113] ∨ bs a0 = [81]) := fun h => h.elim h1 h2
      rw [beq_eq_false_iff_ne.2 h2]
      simp only [Bool.false_eq_true, if_false]
      rw [if_neg h12]
      by_cases h3 : bs a0 = [98]
      · rw [if_pos h3, if_pos (.inl h3)]
      · rw [if_neg h3]
        by_cases h4 : bs a0 = [66]
        · rw [if_pos h4, if_pos (.inr h4)]
        · have h34 : ¬ (bs a0 = [98] ∨ bs a0 = [66]) := fun h => h.elim h3 h4
          rw [if_neg h4, if_neg h34]
          rfl
/-! Cut at the question marks. -/
theorem upQ_index : ∀ l : Bytes, (upQ l = none ∧ Lib.indexByte l 63 = -1) ∨ (∃ i : Nat, Lib.indexByte l 63 = i ∧ i < l.length ∧ upQ l = some (l.take i, l.drop (i + 1)))
  | [] => .inl ⟨rfl, rfl⟩
  | c :: l => by
    by_cases hc : c = 63
    · exact .inr ⟨0, by rw [Lib.indexByte, if_pos (beq_iff_eq.2 hc)]; rfl, by simp, by rw [upQ, if_pos hc]; rfl⟩
    · have hc' : ¬ (c == 63) = true := fun h => hc (beq_iff_eq.1 h)
      rcases upQ_index l with ⟨h1, h2⟩ | ⟨i, h1, h2, h3⟩
      · exact .inl ⟨by rw [upQ, if_neg hc, h1]; rfl, by rw [Lib.indexByte, if_neg hc', if_pos (by rw [h2]; rfl), ]⟩
      · refine .inr ⟨i + 1, ?_, by simp; omega, by rw [upQ, if_neg hc, h3]; rfl⟩
        rw [Lib.indexByte, if_neg hc', if_neg (by rw [h1, beq_iff_eq]; omega), h1]
        omega
def spL : Nat → Bytes → List Bytes
  | 0, l => [l]
  | n + 1, l => match upQ l with | none => [l] | some x => x.1 :: spL n x.2
theorem split_is : ∀ (n : Nat) (s : ByteArray), Lib.splitB ⟨#[63]⟩ 0 n s = (spL n (bs s)).map str
  | 0, s => by rw [Lib.splitB_zero, spL, List.map_singleton, str_bs]
  | n + 1, s => by
    have e : Lib.indexB s ⟨#[63]⟩ = Lib.indexByte (bs s) 63 := Lib.index_one (bs s) 63
    rcases upQ_index (bs s) with ⟨h1, h2⟩ | ⟨i, h1, h2, h3⟩
    · rw [Lib.splitB_miss _ _ _ _ (e.trans h2), spL, h1, List.map_singleton, str_bs]
    · rw [Lib.splitB_hit _ _ _ _ i (e.trans h1), spL, h3, split_is n]
      simp only [List.map_cons]
      congr 1
      · apply bs_inj
        rw [bs_extract, bs_str, List.drop_zero, Nat.add_zero]
      · rw [bs_extract, List.take_of_length_le (by rw [bs_length]; exact Nat.le_refl _)]
        rfl
theorem spL_len : ∀ (n : Nat) (l : Bytes), (spL n l).length ≤ n + 1
  | 0, l => Nat.le_refl _
  | n + 1, l => by
    rw [spL]
    cases upQ l with
    | none => simp
    | some x =>
      have := spL_len n x.2
      simp only [List.length_cons]
      omega
def resW : Option (Bytes × Nat) → ByteArray × Int
  | none => (⟨#[]⟩, 0)
  | some x => (str x.1, (x.2 : Int))
theorem sp_four (l : Bytes) : ((spL 3 l).length < 4 ∧ (upQ l).bind (fun a => (upQ a.2).bind fun k => upQ k.2) = none) ∨ (∃ a k t, upQ l = some a ∧ upQ a.2 = some k ∧ upQ k.2 = some t ∧ spL 3 l = [a.1, k.1, t.1, t.2]) := by
  cases h1 : upQ l with
  | none => exact .inl ⟨by simp [spL, h1], rfl⟩
  | some a =>
    cases h2 : upQ a.2 with
    | none => exact .inl ⟨by simp [spL, h1, h2], by simp [h2]⟩
    | some k =>
      cases h3 : upQ k.2 with
      | none => exact .inl ⟨by simp [spL, h1, h2, h3], by simp [h2, h3]⟩
      | some t => exact .inr ⟨a, k, t, rfl, h2, h3, by simp [spL, h1, h2, h3]⟩
theorem sp_few (n : Nat) (hn : n ≤ 2) (l : Bytes) (hl : l.length ≤ n) : (spL n l).length < 4 ∧ (upQ l).bind (fun a => (upQ a.2).bind fun k => upQ k.2) = none := by
  refine ⟨by have := spL_len n l; omega, ?_⟩
  cases h1 : upQ l with
  | none => rfl
  | some a =>
    have e1 := congrArg List.length (upQ_some h1)
    simp only [List.length_append, List.length_cons] at e1
    simp only [Option.bind_some]
    cases h2 : upQ a.2 with
    | none => rfl
    | some k =>
      have e2 := congrArg List.length (upQ_some h2)
      simp only [List.length_append, List.length_cons] at e2
      simp only [Option.bind_some]
      cases h3 : upQ k.2 with
      | none => rfl
      | some t =>
        have e3 := congrArg List.length (upQ_some h3)
        simp only [List.length_append, List.length_cons] at e3
        omega
end Go.Proofs.YtihabmcaplnbcaaGreatDoor.Pl
set_option linter.unusedVariables false
set_option linter.unusedSimpArgs false
namespace Go.Proofs.YtihabmcaplnbcaaGreatDoor.Pl
open Go.RowKit Go.Proofs.YtihabmcaplnbcaaGreatDoorW.PrintWords Go.Proofs.YtihabmcaplnbcaaGreatDoor.Fn

/-! Layer 19: the program's word. -/
theorem prefix2_is (s : ByteArray) (c d : UInt8) : stringslite_HasPrefix.f s ⟨#[c, d]⟩ = some ((bs s).take 2 == [c, d]) := by
  unfold stringslite_HasPrefix.f
  have hz : ((⟨#[c, d]⟩ : ByteArray).size : Int) = 2 := rfl
  rw [hz]
  by_cases h : (s.size : Int) ≥ 2
  · rw [if_pos h, if_pos (by decide), if_pos (by omega), toList_bs, bs_extract, List.drop_zero, toList_bs]
    rfl
  · rw [if_neg h]
    congr 1
    rw [eq_comm, beq_eq_false_iff_ne]
    intro e
    have := congrArg List.length e
    rw [List.length_take, bs_length] at this
    simp at this
    omega
theorem prefix1_is (s : ByteArray) (c : UInt8) : strings_HasPrefix.f s ⟨#[c]⟩ = some ((bs s).take 1 == [c]) := by
  unfold strings_HasPrefix.f stringslite_HasPrefix.f
  have hz : ((⟨#[c]⟩ : ByteArray).size : Int) = 1 := rfl
  rw [hz]
  by_cases h : (s.size : Int) ≥ 1
  · rw [if_pos h, if_pos (by decide), if_pos (by omega), toList_bs, bs_extract, List.drop_zero, toList_bs]
    rfl
  · rw [if_neg h, Option.bind_some]
    congr 1
    rw [eq_comm, beq_eq_false_iff_ne]
    intro e
    have := congrArg List.length e
    rw [List.length_take, bs_length] at this
    simp at this
    omega
theorem cutprefix_is (s : ByteArray) : strings_CutPrefix.f s ⟨#[61, 63]⟩ = some (if (bs s).take 2 = [61, 63] then (str ((bs s).drop 2), true) else (s, false)) := by
  unfold strings_CutPrefix.f stringslite_CutPrefix.f
  rw [prefix2_is, Option.bind_some]
  by_cases h : (bs s).take 2 = [61, 63]
  · have hl : 2 ≤ s.size := by
      have := congrArg List.length h
      rw [List.length_take, bs_length] at this
      simp at this
      omega
    have hz : ((⟨#[61, 63]⟩ : ByteArray).size : Int) = 2 := rfl
    rw [if_pos (beq_iff_eq.2 h), hz, if_pos (by decide), if_pos (by omega), if_pos h, Option.bind_some]
    congr 2
    apply bs_inj
    rw [bs_extract, bs_str, List.take_of_length_le (by rw [bs_length]; exact Nat.le_refl _)]
    rfl
  · rw [if_neg (by rw [beq_iff_eq]; exact h), if_neg h, Option.bind_some]
theorem signsR_some {a b : ByteArray} {x : Bytes} (h : signsL (bs a) (bs b) = some x) : signsR a b = (str x, true) := by
  unfold signsL at h
  unfold signsR
  split at h
  · next h1 =>
    rw [if_pos h1]
    split at h
    · next h2 =>
      injection h with h
      rw [if_pos h2, ← h, str_bs]
    · cases h
  · next h1 =>
    rw [if_neg h1]
    split at h
    · next h3 =>
      rw [if_pos h3]
      split at h
      · next h4 =>
        injection h with h
        rw [str_bs] at h4
        rw [h4, ← h, str_bs]
      · cases h
    · next h3 =>
      rw [if_neg h3]
      split at h
      · next h5 =>
        injection h with h
        rw [if_pos h5, ← h]
      · cases h
theorem signsR_none {a b : ByteArray} (h : signsL (bs a) (bs b) = none) : (signsR a b).2 = false := by
  unfold signsL at h
  unfold signsR
  split at h
  · next h1 =>
    rw [if_pos h1]
    split at h
    · cases h
    · next h2 => rw [if_neg h2]
  · next h1 =>
    rw [if_neg h1]
    split at h
    · next h3 =>
      rw [if_pos h3]
      split at h
      · cases h
      · next h4 =>
        rw [str_bs] at h4
        simpa using h4
    · next h3 =>
      rw [if_neg h3]
      split at h
      · cases h
      · next h5 => rw [if_neg h5]
theorem word_j1 (k : Nat) (a b : ByteArray) (P : List ByteArray) (n : Int) (t : Bool) (hP : P[0]? = some a) (ha : a.size ≤ 1000000000) (hb : b.size ≤ 1000000000) :
    ew_word.j1 (k + 1) P n b t = some (if t = true then (⟨#[]⟩, 0) else match signsL (bs a) (bs b) with | none => (⟨#[]⟩, 0) | some x => (str x, n)) := by
  rw [ew_word.j1]
  cases t with
  | true => rfl
  | false =>
    have hr : rdOf ByteArray.empty P 0 = a := by
      unfold rdOf
      simp [hP]
    have hl : 0 < (P.length : Int) := by
      rcases P with _ | ⟨p, P⟩
      · cases hP
      · simp
    have hs : ew_signs.f a b = some (signsR a b) := by unfold ew_signs.f; rw [if_pos ⟨ha, hb⟩]
    simp only [Bool.false_eq_true, if_false]
    rw [if_pos hl, hr, hs, Option.bind_some]
    cases hx : signsL (bs a) (bs b) with
    | none => rw [signsR_none hx]; rfl
    | some x => rw [signsR_some hx]; rfl
theorem quotedF_len : ∀ (f : Nat) (l x : Bytes), quotedF f l = some x → x.length ≤ l.length
  | 0, l, x, h => by injection h with h; rw [← h]; simp
  | _ + 1, [], x, h => by injection h with h; rw [← h]; simp
  | f + 1, c :: r, x, h => by
    rw [quotedF] at h
    split at h
    · obtain ⟨y, hy, e⟩ := Option.map_eq_some_iff.1 h
      have := quotedF_len f r y hy
      rw [← e]; simp; omega
    · split at h
      · split at h
        · obtain ⟨z, hz, h⟩ := obind_some h
          obtain ⟨y, hy, e⟩ := Option.map_eq_some_iff.1 h
          have := quotedF_len f _ y hy
          rw [List.length_drop] at this
          rw [← e]; simp; omega
        · cases h
      · obtain ⟨y, hy, e⟩ := Option.map_eq_some_iff.1 h
        have := quotedF_len f r y hy
        rw [← e]; simp; omega
theorem b64D_len : ∀ (l : Bytes) (h n : Nat) (acc x : Bytes), b64D l h n acc = some x → x.length ≤ acc.length + l.length
  | [], h, n, acc, x, e => by injection e with e; rw [← e]; simp
  | c :: r, h, n, acc, x, e => by
    rw [b64D] at e
    obtain ⟨k, _, e⟩ := obind_some e
    split at e
    · have := b64D_len r _ _ _ x e
      simp at this ⊢
      omega
    · have := b64D_len r _ _ _ x e
      simp at this ⊢
      omega
theorem octL_len {k l x : Bytes} (h : octL k l = some x) : x.length ≤ l.length := by
  unfold octL at h
  split at h
  · exact quotedF_len _ _ _ h
  · split at h
    · obtain ⟨y, hy, h⟩ := obind_some h
      have h1 := b64D_len _ _ _ _ _ hy
      have h2 : (Lib.trimRightS (bareL l) [61]).length ≤ (bareL l).length := by
        rw [trimR_prefix, List.length_take]
        omega
      have h3 : (bareL l).length ≤ l.length := List.length_filter_le _ _
      split at h
      · injection h with h
        rw [← h]
        simp at h1
        omega
      · cases h
    · cases h
theorem word_j0 (k : Nat) (a q t z : Bytes) (b : Bool) (ha : a.length ≤ 1000000000) (hq : q.length ≤ 1000000000) (ht : t.length ≤ 1000000000) (hk : t.length + 10 ≤ k) :
    ew_word.j0 k [str a, str q, str t, str z] b = some (if b = true then (⟨#[]⟩, 0) else if ewN a q t ≤ 75 then resW ((octL q t).bind fun o => (signsL a o).bind fun x => some (x, ewN a q t)) else (⟨#[]⟩, 0)) := by
  obtain ⟨k, rfl⟩ : ∃ j, k = j + 1 + 1 := ⟨k - 2, by omega⟩
  rw [ew_word.j0]
  cases b with
  | true => rfl
  | false =>
    simp only [Bool.false_eq_true, if_false]
    have r0 : rdOf ByteArray.empty [str a, str q, str t, str z] 0 = str a := rfl
    have r1 : rdOf ByteArray.empty [str a, str q, str t, str z] 1 = str q := rfl
    have r2 : rdOf ByteArray.empty [str a, str q, str t, str z] 2 = str t := rfl
    have ho := octets_is (str q) (str t) (by rw [str_size]; exact ht) (k + 1) (by rw [str_size]; omega)
    rw [bs_str, bs_str] at ho
    have hn : wrap64 (wrap64 (wrap64 (wrap64 (wrap64 (wrap64 (2 + ((str a).size : Int)) + 1) + ((str q).size : Int)) + 1) + ((str t).size : Int)) + 2) = (ewN a q t : Int) := by
      rw [str_size, str_size, str_size]
      unfold ewN
      rw [wrap_small (x := 2 + (a.length : Int)) (by omega) (by omega), wrap_small (x := 2 + (a.length : Int) + 1) (by omega) (by omega), wrap_small (x := 2 + (a.length : Int) + 1 + (q.length : Int)) (by omega) (by omega), wrap_small (x := 2 + (a.length : Int) + 1 + (q.length : Int) + 1) (by omega) (by omega), wrap_small (x := 2 + (a.length : Int) + 1 + (q.length : Int) + 1 + (t.length : Int)) (by omega) (by omega), wrap_small (x := 2 + (a.length : Int) + 1 + (q.length : Int) + 1 + (t.length : Int) + 2) (by omega) (by omega)]
      omega
    rw [if_pos (by simp), if_pos (by simp), if_pos (by simp), r0, r1, r2, ho, Option.bind_some, hn]
    have hbz : (resQ (octL q t)).1.size ≤ 1000000000 := by
      cases hx : octL q t with
      | none => exact Nat.zero_le _
      | some x =>
        have := octL_len hx
        show (str x).size ≤ _
        rw [str_size]
        omega
    rw [word_j1 k (str a) _ _ _ _ rfl (by rw [str_size]; exact ha) hbz, word_j1 k (str a) _ _ _ _ rfl (by rw [str_size]; exact ha) hbz, bs_str]
    by_cases h75 : ewN a q t ≤ 75
    · rw [if_neg (by omega), if_pos h75]
      cases hx : octL q t with
      | none => rfl
      | some o =>
        simp only [resQ, Bool.not_true, Bool.false_eq_true, if_false, bs_str, Option.bind_some]
        cases signsL a o <;> rfl
    · rw [if_pos (by omega), if_neg h75]
      rfl
theorem word_is (s : ByteArray) (hs : s.size ≤ 1000000000) (k : Nat) (hk : s.size + 10 ≤ k) : ew_word.f k s = some (resW (wordL (bs s))) := by
  unfold ew_word.f wordL
  rw [cutprefix_is, Option.bind_some]
  by_cases h0 : (bs s).take 2 = [61, 63]
  · rw [if_pos h0, if_pos h0]
    simp only [if_true]
    obtain ⟨l, hl⟩ : ∃ l, (bs s).drop 2 = l := ⟨_, rfl⟩
    have hlen : l.length + 2 ≤ s.size := by
      have h1 := congrArg List.length h0
      rw [List.length_take, bs_length] at h1
      rw [← hl, List.length_drop, bs_length]
      simp at h1
      omega
    rw [hl]
    have hsp : strings_SplitN.f (str l) ⟨#[63]⟩ 4 = some ((spL (min 4 (l.length + 1) - 1) l).map str) := by
      unfold strings_SplitN.f
      rw [str_size, if_pos (by omega), if_pos (by decide), if_pos (by decide), split_is, bs_str]
      rfl
    rw [hsp, Option.bind_some]
    have hno : ∀ P : List ByteArray, P.length < 4 → (upQ l).bind (fun a => (upQ a.2).bind fun k => upQ k.2) = none →
        (if (P.length : Int) < 4 then ew_word.j0 k P true else none) = some (resW ((upQ l).bind fun a => (upQ a.2).bind fun k => (upQ k.2).bind fun t =>
      if (a.1 ≠ [] ∧ solidL a.1 = true ∧ solidL t.1 = true ∧ t.2.take 1 = [61]) ∧ ewN a.1 k.1 t.1 ≤ 75 then
        (octL k.1 t.1).bind fun b => (signsL a.1 b).bind fun x => some (x, ewN a.1 k.1 t.1) else none)) := by
      intro P hP hn
      obtain ⟨k, rfl⟩ : ∃ j, k = j + 1 := ⟨k - 1, by omega⟩
      rw [if_pos (by omega), ew_word.j0, if_pos rfl]
      cases h1 : upQ l with
      | none => rfl
      | some a =>
        cases h2 : upQ a.2 with
        | none => simp [h2, resW]
        | some q =>
          cases h3 : upQ q.2 with
          | none => simp [h2, h3, resW]
          | some t => rw [h1] at hn; simp [h2, h3] at hn
    by_cases hsm : l.length ≤ 2
    · rw [show min 4 (l.length + 1) - 1 = l.length by omega]
      obtain ⟨h1, h2⟩ := sp_few l.length hsm l (Nat.le_refl _)
      have h3 := hno ((spL l.length l).map str) (by rw [List.length_map]; exact h1) h2
      rw [if_pos (by rw [List.length_map]; omega)] at h3 ⊢
      exact h3
    · rw [show min 4 (l.length + 1) - 1 = 3 by omega]
      rcases sp_four l with ⟨h1, h2⟩ | ⟨a, q, t, h1, h2, h3, h4⟩
      · have h3 := hno ((spL 3 l).map str) (by rw [List.length_map]; exact h1) h2
        rw [if_pos (by rw [List.length_map]; omega)] at h3 ⊢
        exact h3
      · have e1 := congrArg List.length (upQ_some h1)
        have e2 := congrArg List.length (upQ_some h2)
        have e3 := congrArg List.length (upQ_some h3)
        simp only [List.length_append, List.length_cons] at e1 e2 e3
        have hj := fun b => word_j0 k a.1 q.1 t.1 t.2 b (by omega) (by omega) (by omega) (by omega)
        have r0 : rdOf ByteArray.empty [str a.1, str q.1, str t.1, str t.2] 0 = str a.1 := rfl
        have r2 : rdOf ByteArray.empty [str a.1, str q.1, str t.1, str t.2] 2 = str t.1 := rfl
        have r3 : rdOf ByteArray.empty [str a.1, str q.1, str t.1, str t.2] 3 = str t.2 := rfl
        rw [h4, h1]
        simp only [List.map_cons, List.map_nil, Option.bind_some, h2, h3]
        rw [if_neg (by simp), if_pos (by simp), r0, toList_str]
        by_cases c1 : a.1 = []
        · rw [if_pos c1, hj, if_pos rfl, if_neg (fun h => h.1.1 c1)]
          rfl
        · have s1 := solid_is (str a.1) (by rw [str_size]; omega) k (by rw [str_size]; omega)
          have s2 := solid_is (str t.1) (by rw [str_size]; omega) k (by rw [str_size]; omega)
          rw [bs_str] at s1 s2
          rw [if_neg c1, s1, Option.bind_some]
          cases c2 : solidL a.1 with
          | false => simp [hj, resW]
          | true =>
            rw [if_pos rfl, if_pos (by simp), r2, s2, Option.bind_some]
            cases c3 : solidL t.1 with
            | false => simp [hj, resW]
            | true =>
              rw [if_pos rfl, if_pos (by simp), r3, prefix1_is, Option.bind_some, bs_str, hj]
              by_cases c4 : t.2.take 1 = [61]
              · rw [beq_iff_eq.2 c4]
                simp only [Bool.not_true, Bool.false_eq_true, if_false]
                by_cases c5 : ewN a.1 q.1 t.1 ≤ 75
                · rw [if_pos c5, if_pos ⟨⟨c1, trivial, trivial, c4⟩, c5⟩]
                · rw [if_neg c5, if_neg (fun h => c5 h.2)]
                  rfl
              · have c4' : ¬ ((a.1 ≠ [] ∧ true = true ∧ true = true ∧ t.2.take 1 = [61]) ∧ ewN a.1 q.1 t.1 ≤ 75) := fun h => c4 h.1.2.2.2
                rw [beq_eq_false_iff_ne.2 c4, if_neg c4']
                rfl
  · rw [if_neg h0, if_neg h0]
    rfl
end Go.Proofs.YtihabmcaplnbcaaGreatDoor.Pl
set_option linter.unusedVariables false
namespace Go.Proofs.YtihabmcaplnbcaaGreatDoor.Fn
open Go.RowKit Go.Proofs.YtihabmcaplnbcaaGreatDoorW.PrintWords

def strings_TrimLeft.f (a0 a1 : ByteArray) : Option ByteArray :=
  if a0.size ≤ 140737488355328 then (if a1.size ≤ 1000 then (if a1.data.toList.all (fun b => decide (b.toNat < 128)) = true then some (Pl.str (Lib.trimLeftS a0.data.toList a1.data.toList)) else none) else none) else none
theorem strings_TrimLeft.calls (a0 a1 r : ByteArray) (w : World) (h : strings_TrimLeft.f a0 a1 = some r) :
    Calls Tryz.prog 107 #[.string a0, .string a1] w fun e w' => e = .returned (.string r) ∧ Below w.heap.size w w' := by
  unfold strings_TrimLeft.f at h
  by_cases hs : a0.size ≤ 140737488355328
  · rw [if_pos hs] at h
    by_cases hc : a1.size ≤ 1000
    · rw [if_pos hc] at h
      by_cases ha : a1.data.toList.all (fun b => decide (b.toNat < 128)) = true
      · rw [if_pos ha] at h
        have HR := Option.some.inj h
        subst HR
        exact Any.strings_TrimLeft_laid Tryz.lays161 (by kernel_rfl) a0 a1 w (by omega) (ascii_of_all ha)
      · rw [if_neg ha] at h; exact absurd h (by simp)
    · rw [if_neg hc] at h; exact absurd h (by simp)
  · rw [if_neg hs] at h; exact absurd h (by simp)
end Go.Proofs.YtihabmcaplnbcaaGreatDoor.Fn
set_option linter.unusedVariables false
set_option linter.unusedSimpArgs false
namespace Go.Proofs.YtihabmcaplnbcaaGreatDoor.Pl
open Go.RowKit Go.Proofs.YtihabmcaplnbcaaGreatDoorW.PrintWords
theorem signsL_len {cs s x : Bytes} (h : signsL cs s = some x) : x.length ≤ 4 * s.length := by
  unfold signsL at h
  split at h
  · split at h
    · injection h with h; rw [← h]; omega
    · cases h
  · split at h
    · split at h
      · injection h with h; rw [← h]; omega
      · cases h
    · split at h
      · injection h with h
        rw [← h]
        clear h
        induction s with
        | nil => simp
        | cons c s ih =>
          rw [List.flatMap_cons, List.length_append, List.length_cons]
          have := (Lib.encodeRuneZ_length (c.toNat : Int)).2
          have h4 : (er c.toNat).length ≤ 4 := by unfold er Lib.encodeRune; simpa using this
          omega
      · cases h
theorem wordL_len {s x : Bytes} {n : Nat} (h : wordL s = some (x, n)) : x.length ≤ 300 := by
  unfold wordL at h
  split at h
  · obtain ⟨a, _, h⟩ := obind_some h
    obtain ⟨k, _, h⟩ := obind_some h
    obtain ⟨t, _, h⟩ := obind_some h
    split at h
    · next h1 =>
      obtain ⟨b, hb, h⟩ := obind_some h
      obtain ⟨y, hy, h⟩ := obind_some h
      injection h with h
      injection h with e1 e2
      have h2 := octL_len hb
      have h3 := signsL_len hy
      have h4 := h1.2
      unfold ewN at h4
      rw [← e1]
      omega
    · cases h
  · cases h
end Go.Proofs.YtihabmcaplnbcaaGreatDoor.Pl
namespace Go.Proofs.YtihabmcaplnbcaaGreatDoor.Fn
open Go.RowKit Go.Proofs.YtihabmcaplnbcaaGreatDoorW.PrintWords

def ew_Decode.f (a0 : ByteArray) : Option ByteArray := if a0.size ≤ 1000000000 then some (Pl.str (Pl.decodeL (Pl.bs a0))) else none
set_option maxHeartbeats 4000000 in
set_option maxRecDepth 100000 in
theorem ew_Decode.calls (a0 r : ByteArray) (w : World) (hG : Glob w) (h : ew_Decode.f a0 = some r) :
    Calls Tryz.prog 65 #[.string a0] w fun e w' => e = .returned (.string r) ∧ Below w.heap.size w w' := by
  unfold ew_Decode.f at h
  by_cases hs : a0.size ≤ 1000000000
  · rw [if_pos hs] at h
    have HR := hid (Option.some.inj h)
    have HG := hid hG
    clear h hG
    go_enter Tryz.func65, Tryz.ntmps65
    go_wp2
    go_loopw [0] (fun v0 wr => ∃ (s : ByteArray) (fuel : Nat) (acc : List UInt8), v0 = .string s ∧ isBd w.heap.size w.heap.size (Lib.byteCells acc) wr ∧ Below w.heap.size w wr ∧ Hid (Pl.str (Pl.decL fuel (Pl.bs s) acc) = r) ∧ s.size ≤ fuel ∧ acc.length + 300 * s.size ≤ 300 * a0.size) (fun v0 wr => strLen v0)
    case atStart => exact ⟨a0, a0.size, [], rfl, Lib.IsBuilderF.of (Lib.fresh_isBuilder _ _ w), (Below.refl _ w).alloc (Nat.le_refl _) _, (by have := HR.out; unfold Pl.decodeL at this; rw [Pl.bs_length] at this; exact this), Nat.le_refl _, by simp⟩
    case round =>
      obtain ⟨s, fuel, acc, rfl, hI, hbw, hacc, hfu, hal⟩ := hrel
      have hbs := hbw.size
      have hblt := bd_lt hI
      have hzs := Pl.bs_length s
      by_cases he : s.toList = []
      · obtain ⟨e0, e1⟩ := toList_ne he
        have hend : Hid (Pl.str acc = r) := by
          show _ = _
          rw [← hacc.out, show Pl.bs s = [] from by rw [← Pl.toList_bs]; exact he]
          cases fuel <;> rfl
        go_wp2_with (go_at_call 89; refine (Tryz.Builder_String_any_k w.heap.size w.heap.size acc _ hI hbs).mono ?_; rintro e W1 ⟨rfl, _, b1, _⟩)
        go_ret
        refine ⟨?_, hbw.trans b1⟩
        rw [← hend.out]
        rfl
      · obtain ⟨e0, e1⟩ := toList_ne' he
        obtain ⟨c, l, hcl⟩ : ∃ c l, Pl.bs s = c :: l := by
          cases hx : Pl.bs s with
          | nil => rw [Pl.toList_bs] at he; exact absurd hx he
          | cons c l => exact ⟨c, l, rfl⟩
        have hlen : l.length + 1 = s.size := by rw [← hzs, hcl]; rfl
        obtain ⟨f, rfl⟩ : ∃ f, fuel = f + 1 := ⟨fuel - 1, by omega⟩
        have hwd := Pl.word_is s (by omega) (s.size + 10) (Nat.le_refl _)
        have hGr := hid (HG.out.below hbw)
        have hacc' := hacc.out
        rw [hcl, Pl.decL] at hacc'
        cases hw : Pl.wordL (Pl.bs s) with
        | none =>
          rw [hw] at hwd
          rw [hcl] at hw
          rw [hw] at hacc'
          have HW : Hid (ew_word.f (s.size + 10) s = some (⟨#[]⟩, 0)) := hwd
          have hb0 : s.size > 0 := by omega
          have hx0 : ∀ h, ((s[0]'h).toNat : Int) = (c.toNat : Int) := fun h => by
            have : (Pl.bs s)[0]? = some c := by rw [hcl]; rfl
            rw [List.getElem?_eq_getElem (by rw [hzs]; omega)] at this
            rw [← Option.some.inj this]
            rfl
          have q1 : (0 < s.size) = True := eq_true (by omega)
          have q2 : ((0 : Int) < (s.size : Int)) = True := eq_true (by omega)
          have q3 : ((1 : Int) ≤ (s.size : Int)) = True := eq_true (by omega)
          have hx2 : Pl.bs (s.extract 1 s.size) = l := by rw [Pl.bs_extract, List.take_of_length_le (by omega), hcl]; rfl
          have hx4 : (s.extract 1 s.size).size = s.size - 1 := by rw [← Pl.bs_length, hx2]; omega
          have hnew : Hid (Pl.str (Pl.decL f (Pl.bs (s.extract 1 s.size)) (acc ++ [c])) = r) := by
            show _ = _
            rw [hx2, ← hacc']
          clear hwd hw hacc hacc' he hcl hx2
          go_wp2_with (first
            | (go_at_call 105; refine (ew_word.calls _ s _ _ _ hGr.out HW.out).mono ?_; rintro e W2 ⟨rfl, b2⟩; have hI2 := bd_below hI b2)
            | (go_at_call 88; refine (bd_byte w.heap.size w.heap.size (Lib.byteCells acc) _ _ hI2 (by rw [Lib.byteCells_length]; omega) (by have := b2.size; omega)).mono ?_; rintro e W3 ⟨rfl, h3, b3, k3⟩))
          refine ⟨⟨_, f, acc ++ [c], rfl, ?_, hbw.trans ((b2.mono hbs).trans b3), hnew, by omega, ?_⟩, ?_⟩
          · rw [Lib.byteCells_append]; exact h3.is
          · rw [List.length_append, List.length_singleton, hx4]; omega
          · simp only [strLen, hx4]; omega
        | some y =>
          obtain ⟨x, n⟩ := y
          rw [hw] at hwd
          obtain ⟨_, _, hn1, hn2, hn3, _⟩ := Pl.wordL_some hw
          have hxl := Pl.wordL_len hw
          rw [hcl] at hw
          rw [hw] at hacc'
          simp only [] at hacc'
          rw [hzs] at hn3
          obtain ⟨X, hX⟩ : ∃ X, Pl.str x = X := ⟨_, rfl⟩
          have hXb : Pl.bs X = x := by rw [← hX, Pl.bs_str]
          have hXz : X.size = x.length := by rw [← hX, Pl.str_size]
          have HW : Hid (ew_word.f (s.size + 10) s = some (X, (n : Int))) := by
            show _ = _
            rw [hwd, ← hX]
            rfl
          have hx2 : Pl.bs (s.extract n s.size) = (c :: l).drop n := by rw [Pl.bs_extract, List.take_of_length_le (by omega), hcl]
          have hx4 : (s.extract n s.size).size = s.size - n := by rw [← Pl.bs_length, hx2, List.length_drop, List.length_cons]; omega
          obtain ⟨T, hT⟩ : ∃ T, Pl.str (Pl.trimB ((c :: l).drop n)) = T := ⟨_, rfl⟩
          have hTb : Pl.bs T = Pl.trimB ((c :: l).drop n) := by rw [← hT, Pl.bs_str]
          have hTz : T.size ≤ s.size - n := by
            have := Pl.trimB_len ((c :: l).drop n)
            rw [← hTb, Pl.bs_length, List.length_drop, List.length_cons] at this
            omega
          have HT : Hid (strings_TrimLeft.f (s.extract n s.size) ⟨#[32, 9]⟩ = some T) := by
            show _ = _
            unfold strings_TrimLeft.f
            rw [if_pos (by omega), if_pos (by decide), if_pos (by decide), ← hT]
            show some (Pl.str (Lib.trimLeftS (Pl.bs (s.extract n s.size)) [32, 9])) = _
            rw [hx2]
            rfl
          have hwd2 := Pl.word_is T (by omega) (T.size + 10) (Nat.le_refl _)
          have q0 : ((n : Int) = 0) = False := eq_false (by omega)
          have q0' : ((n : Int) == 0) = false := beq_eq_false_iff_ne.2 (by omega)
          have q2 : ((n : Int) ≤ (s.size : Int)) = True := eq_true (by omega)
          have q3 : ((0 : Int) ≤ (n : Int)) = True := eq_true (by omega)
          rw [← hTb] at hacc'
          cases hw2 : Pl.wordL (Pl.bs T) with
          | none =>
            rw [hw2] at hwd2 hacc'
            have HW2 : Hid (ew_word.f (T.size + 10) T = some (⟨#[]⟩, 0)) := hwd2
            have hnew : Hid (Pl.str (Pl.decL f (Pl.bs (s.extract n s.size)) (acc ++ x)) = r) := by
              show _ = _
              rw [hx2, ← hacc']
              rfl
            clear hwd hw hacc hacc' he hcl hx2 hX hT hTb hwd2 hw2
            go_wp2_with (first
              | (go_at_call 105; refine (ew_word.calls _ T _ _ _ hG4.out HW2.out).mono ?_; rintro e W5 ⟨rfl, b5⟩)
              | (go_at_call 105; refine (ew_word.calls _ s _ _ _ hGr.out HW.out).mono ?_; rintro e W2 ⟨rfl, b2⟩; have hI2 := bd_below hI b2)
              | (go_at_call 107; refine (strings_TrimLeft.calls (s.extract n s.size) ⟨#[32, 9]⟩ T _ HT.out).mono ?_; rintro e W4 ⟨rfl, b4⟩; have hG4 := hid (HG.out.below (hbw.trans ((b2.mono hbs).trans (b3.trans (b4.mono (by have := b2.size; have := b3.size; omega)))))))
              | (go_at_call 106; refine (bd_string w.heap.size w.heap.size (Lib.byteCells acc) X _ hI2 (by rw [Lib.byteCells_length]; omega) (by have := b2.size; omega)).mono ?_; rintro e W3 ⟨rfl, h3, b3, k3⟩; have hI3 : isBd w.heap.size w.heap.size (Lib.byteCells (acc ++ x)) W3 := (by rw [Lib.byteCells_append, ← hXb]; exact h3.is)))
            go_roundw
            case rel =>
              refine ⟨_, f, acc ++ x, rfl, bd_below (bd_below hI3 b4) b5, hbw.trans ((b2.mono hbs).trans (b3.trans ((b4.mono (by have := b2.size; have := b3.size; omega)).trans (b5.mono (by have := b2.size; have := b3.size; have := b4.size; omega))))), hnew, by omega, ?_⟩
              rw [List.length_append]; omega
            case measure => simp only [strLen]; omega
          | some z =>
            obtain ⟨x2, n2⟩ := z
            obtain ⟨_, _, hn4, _, _, _⟩ := Pl.wordL_some hw2
            have q4 : ((0 : Int) < (n2 : Int)) = True := eq_true (by omega)
            have q5 : (0 < n2) = True := eq_true (by omega)
            rw [hw2] at hwd2 hacc'
            have HW2 : Hid (ew_word.f (T.size + 10) T = some (Pl.str x2, (n2 : Int))) := hwd2
            have hnew : Hid (Pl.str (Pl.decL f (Pl.bs T) (acc ++ x)) = r) := by
              show _ = _
              rw [← hacc']
              rfl
            clear hwd hw hacc hacc' he hcl hx2 hX hT hTb hwd2 hw2
            go_wp2_with (first
              | (go_at_call 105; refine (ew_word.calls _ T _ _ _ hG4.out HW2.out).mono ?_; rintro e W5 ⟨rfl, b5⟩)
              | (go_at_call 105; refine (ew_word.calls _ s _ _ _ hGr.out HW.out).mono ?_; rintro e W2 ⟨rfl, b2⟩; have hI2 := bd_below hI b2)
              | (go_at_call 107; refine (strings_TrimLeft.calls (s.extract n s.size) ⟨#[32, 9]⟩ T _ HT.out).mono ?_; rintro e W4 ⟨rfl, b4⟩; have hG4 := hid (HG.out.below (hbw.trans ((b2.mono hbs).trans (b3.trans (b4.mono (by have := b2.size; have := b3.size; omega)))))))
              | (go_at_call 106; refine (bd_string w.heap.size w.heap.size (Lib.byteCells acc) X _ hI2 (by rw [Lib.byteCells_length]; omega) (by have := b2.size; omega)).mono ?_; rintro e W3 ⟨rfl, h3, b3, k3⟩; have hI3 : isBd w.heap.size w.heap.size (Lib.byteCells (acc ++ x)) W3 := (by rw [Lib.byteCells_append, ← hXb]; exact h3.is)))
            go_roundw
            case rel =>
              refine ⟨_, f, acc ++ x, rfl, bd_below (bd_below hI3 b4) b5, hbw.trans ((b2.mono hbs).trans (b3.trans ((b4.mono (by have := b2.size; have := b3.size; omega)).trans (b5.mono (by have := b2.size; have := b3.size; have := b4.size; omega))))), hnew, by omega, ?_⟩
              rw [List.length_append]; omega
            case measure => simp only [strLen]; omega
  · rw [if_neg hs] at h; exact absurd h (by simp)
end Go.Proofs.YtihabmcaplnbcaaGreatDoor.Fn
namespace Go.Proofs.YtihabmcaplnbcaaGreatDoor.Fn
open Go.RowKit Go.Proofs.YtihabmcaplnbcaaGreatDoorW.PrintWords Go.Proofs.YtihabmcaplnbcaaGreatDoorW.PrintLast Go.Proofs.YtihabmcaplnbcaaGreatDoorW.PrintMore
attribute [local go_sem] max2_int min2_int max_two min_two max_three min_three max_four min_four
set_option linter.unusedVariables false
set_option linter.unusedSimpArgs false

/-! ### rights_Subject: function 92 -/
def rights_Subject.f (k : Nat) (l0_0 : List (S35)) (a0_1 : ByteArray) : Option (ByteArray) := (msg_Message_Get.f k l0_0 a0_1 (⟨#[83, 117, 98, 106, 101, 99, 116]⟩ : ByteArray)).bind fun t778 => ((ew_Decode.f t778).bind fun t779 => ((glyph_Clean.f t779).bind fun t780 => (some t780)))
set_option maxHeartbeats 8000000 in
set_option maxRecDepth 100000 in
theorem rights_Subject.calls (k : Nat) (A0_0 : Option Addr) (c0_0 : Nat) (l0_0 : List (S35)) (a0_1 : ByteArray) (r : ByteArray) (w : World) (hG : Glob w) (hr0_0 : Kd.C k35 w A0_0 l0_0.length l0_0) (hc0_0 : l0_0.length ≤ c0_0) (h : rights_Subject.f k l0_0 a0_1 = some r) :
  Calls Tryz.prog 92 #[.agg #[.slice A0_0 l0_0.length c0_0, .string a0_1]] w fun e w' => e = .returned (.string r) ∧ Below w.heap.size w w' := by
 have hu29 := Tryz.underlying29
 have HR0_0 := Aside0.mk hr0_0
 have HC0_0 := Aside0.mk hc0_0
 clear hr0_0 hc0_0
 have HB := Aside0.mk (Below.refl w.heap.size w)
 have H : ((msg_Message_Get.f k l0_0 a0_1 (⟨#[83, 117, 98, 106, 101, 99, 116]⟩ : ByteArray)).bind fun t778 => ((ew_Decode.f t778).bind fun t779 => ((glyph_Clean.f t779).bind fun t780 => (some t780)))) = some r := h
 clear h
 replace H := Option.bind_eq_some_iff.mp H
 obtain ⟨t778, A20, H⟩ := H
 replace H : ((ew_Decode.f t778).bind fun t779 => ((glyph_Clean.f t779).bind fun t780 => (some t780))) = some r := H
 have A2 := Aside0.mk A20
 clear A20
 replace H := Option.bind_eq_some_iff.mp H
 obtain ⟨t779, A30, H⟩ := H
 replace H : ((glyph_Clean.f t779).bind fun t780 => (some t780)) = some r := H
 have A3 := Aside0.mk A30
 clear A30
 replace H := Option.bind_eq_some_iff.mp H
 obtain ⟨t780, A40, H⟩ := H
 replace H : (some t780) = some r := H
 have A4 := Aside0.mk A40
 clear A40
 obtain rfl := Option.some.inj H
 go_enter Tryz.func92, Tryz.ntmps92
 go_wp2_with (first | ((with_reducible refine gate_dst (N := 1) rfl ?_); refine box_event ?hg (N := 1) ?hd (cs := #[.slice A0_0 l0_0.length c0_0, .string a0_1]) (t := 29) ?hr ?_; (case hd => rfl); (case hg => rfl); (case hr => first | (go_simp; done) | (go_simp; rfl)); intro gb777 hg w5 hbox hb; have n0_ := Aside0.mk (below_step bw hb); have n1_ := Aside0.mk (hbox); have n2_ := Aside0.mk ((by rw [hg]; exact (below_size bw) : w.heap.size ≤ gb777)); have n3_ := Aside0.mk ((by rw [hg]; exact (below_size bw) : w.heap.size ≤ gb777)); clear HB; have HB := n0_; have BK777 := n1_; have GW777 := n2_; have GE777 := n3_; clear n0_ n1_ n2_ n3_; clear hb hbox hg; have hcz6_0 : w5.cell? ⟨gb777, 0, none⟩ = some (.slice A0_0 l0_0.length c0_0) := (blk_cell BK777.out 0).trans rfl; have hcz6_1 : w5.cell? ⟨gb777, 1, none⟩ = some (.string a0_1) := (blk_cell BK777.out 1).trans rfl; have hfz6_0 := blk_frozen BK777.out 0; have hfz6_1 := blk_frozen BK777.out 1) | ((with_reducible refine gate_callee (f := 17) rfl ?_); refine goesL_ (some 4) rfl rfl Tryz.func17 (by kernel_rfl) rfl #[.agg #[.slice A0_0 l0_0.length c0_0, .string a0_1], .string (⟨#[83, 117, 98, 106, 101, 99, 116]⟩ : ByteArray)] rfl am ?_; (with_reducible refine (msg_Message_Get.calls k _ _ l0_0 a0_1 (⟨#[83, 117, 98, 106, 101, 99, 116]⟩ : ByteArray) t778 _ ?side1 ?side2 A2.out).mono ?_); (case side1 => repeat (first | exact (Kd.C_below HR0_0.out HB.out) | (with_reducible refine Kd.C_alloc ?_ _) | (with_reducible refine Kd.C_drewN ?_ _) | (with_reducible refine Kd.C_drew ?_))); (case side2 => exact HC0_0.out); rintro e w7 ⟨rfl, hb⟩; refine ⟨_, rfl, ?_⟩; have n0_ := Aside0.mk (blk_below (g := gb777) (o := .cells #[.slice A0_0 l0_0.length c0_0, .string a0_1] 29 (0, 0)) bk hb); have n1_ := Aside0.mk (below_step bwS hb); clear BK777; clear HB; have BK777 := n0_; have HB := n1_; clear n0_ n1_; (try clear hb); (try clear hb2); (try clear hk); (try clear hi)) | ((with_reducible refine gate_callee (f := 65) rfl ?_); refine goesL_ (some 5) rfl rfl Tryz.func65 (by kernel_rfl) rfl #[.string t778] rfl am ?_; (with_reducible refine (ew_Decode.calls (hG := by first | exact hG | exact Glob.below hG (by first | exact HB.out | (repeat (first | (with_reducible first | exact HB.out | apply below_alloc | apply pw_below_drewN | apply below_drew1 | refine below_set ?_ GE777.out) | exact HB.out))) | exact Glob.drawn hG (by repeat (first | exact Drawn0.refl _ | apply Drawn0.step))) t778 t779 _ A3.out).mono ?_); rintro e w8 ⟨rfl, hb⟩; refine ⟨_, rfl, ?_⟩; have n0_ := Aside0.mk (blk_below (g := gb777) (o := .cells #[.slice A0_0 l0_0.length c0_0, .string a0_1] 29 (0, 0)) bk hb); have n1_ := Aside0.mk (below_step bwS hb); clear BK777; clear HB; have BK777 := n0_; have HB := n1_; clear n0_ n1_; (try clear hb); (try clear hb2); (try clear hk); (try clear hi)) | ((with_reducible refine gate_callee (f := 64) rfl ?_); refine goesL_ (some 6) rfl rfl Tryz.func64 (by kernel_rfl) rfl #[.string t779] rfl am ?_; (with_reducible refine (glyph_Clean.calls t779 t780 _ A4.out).mono ?_); rintro e w9 ⟨rfl, hb⟩; refine ⟨_, rfl, ?_⟩; have n0_ := Aside0.mk (blk_below (g := gb777) (o := .cells #[.slice A0_0 l0_0.length c0_0, .string a0_1] 29 (0, 0)) bk hb); have n1_ := Aside0.mk (below_step bwS hb); clear BK777; clear HB; have BK777 := n0_; have HB := n1_; clear n0_ n1_; (try clear hb); (try clear hb2); (try clear hk); (try clear hi)))
 go_ret
 exact ⟨by first | rfl | (simp [errW_none, errW_some] <;> rfl) | (simp [*, errW_none, errW_some] <;> rfl), bwS⟩

end Go.Proofs.YtihabmcaplnbcaaGreatDoor.Fn
namespace Go.Proofs.YtihabmcaplnbcaaGreatDoor.Fn
open Go.RowKit Go.Proofs.YtihabmcaplnbcaaGreatDoorW.PrintWords Go.Proofs.YtihabmcaplnbcaaGreatDoorW.PrintLast Go.Proofs.YtihabmcaplnbcaaGreatDoorW.PrintMore
attribute [local go_sem] max2_int min2_int max_two min_two max_three min_three max_four min_four
set_option linter.unusedVariables false
set_option linter.unusedSimpArgs false

/-! ### order_subject: function 54 -/
mutual
def order_subject.j1 : Nat → List ByteArray → Option ((List (S63)))
 | 0, _ => none
 | k + 1, x3 => if (x3.length : Int) = 0 then (order_subject.j2 k x3 true) else ((order_stops.f x3).bind fun t790 => (order_subject.j2 k x3 t790))
def order_subject.j2 : Nat → List ByteArray → Bool → Option ((List (S63)))
 | 0, _, _ => none
 | k + 1, x3, x25 => if x25 = true then (some ([] : List (S63))) else ((order_command.f k x3).bind fun bt791 => (if bt791.1 = 5 then (some ([] : List (S63))) else (some (([(⟨bt791.1, bt791.2.1, bt791.2.2⟩ : S63)] : List (S63))))))
def order_subject.l0 : Nat → List ByteArray → Option ((List (S63)))
 | 0, _ => none
 | k + 1, x3 => if (x3.length : Int) > 0 then (if 0 < (x3.length : Int) then (if (rdOf ByteArray.empty x3 0).toList = ([114, 101, 58] : List UInt8) then (if 1 ≤ (x3.length : Int) then (order_subject.l0 k (x3.drop (1 : Int).toNat)) else (none)) else (order_subject.j1 k x3)) else (none)) else (order_subject.j1 k x3)
end
def order_subject.f (k : Nat) (l0_0 : List (S35)) (a0_1 : ByteArray) : Option ((List (S63))) := (rights_Subject.f k l0_0 a0_1).bind fun t782 => ((order_words.f t782).bind fun t783 => (order_subject.l0 k t783))
set_option maxHeartbeats 8000000 in
set_option maxRecDepth 100000 in
theorem order_subject.calls (k : Nat) (A0_0 : Option Addr) (c0_0 : Nat) (l0_0 : List (S35)) (a0_1 : ByteArray) (r : List (S63)) (w : World) (hG : Glob w) (hr0_0 : Kd.C k35 w A0_0 l0_0.length l0_0) (hc0_0 : l0_0.length ≤ c0_0) (h : order_subject.f k l0_0 a0_1 = some r) :
  Calls Tryz.prog 54 #[.agg #[.slice A0_0 l0_0.length c0_0, .string a0_1]] w fun e w' => ∃ v0_ : Value, e = .returned (v0_) ∧ Kd.R k63 63 w' w.heap.size (fun _ => True) v0_ r ∧ Below w.heap.size w w' := by
 have hu29 := Tryz.underlying29
 have hu63 := Tryz.underlying63
 have HR0_0 := Aside0.mk hr0_0
 have HC0_0 := Aside0.mk hc0_0
 clear hr0_0 hc0_0
 have HB := Aside0.mk (Below.refl w.heap.size w)
 have H : ((rights_Subject.f k l0_0 a0_1).bind fun t782 => ((order_words.f t782).bind fun t783 => (order_subject.l0 k t783))) = some r := h
 clear h
 replace H := Option.bind_eq_some_iff.mp H
 obtain ⟨t782, A20, H⟩ := H
 replace H : ((order_words.f t782).bind fun t783 => (order_subject.l0 k t783)) = some r := H
 have A2 := Aside0.mk A20
 clear A20
 replace H := Option.bind_eq_some_iff.mp H
 obtain ⟨t783, A30, H⟩ := H
 replace H : (order_subject.l0 k t783) = some r := H
 have A3 := Aside0.mk A30
 clear A30
 have HC4 := Aside0.mk H
 clear H
 go_enter Tryz.func54, Tryz.ntmps54
 go_upto_block 0 with (first | ((with_reducible refine gate_dst (N := 1) rfl ?_); refine box_event ?hg (N := 1) ?hd (cs := #[.slice A0_0 l0_0.length c0_0, .string a0_1]) (t := 29) ?hr ?_; (case hd => rfl); (case hg => rfl); (case hr => first | (go_simp; done) | (go_simp; rfl)); intro gb781 hg w5 hbox hb; have n0_ := Aside0.mk (below_step bw hb); have n1_ := Aside0.mk (hbox); have n2_ := Aside0.mk ((by rw [hg]; exact (below_size bw) : w.heap.size ≤ gb781)); have n3_ := Aside0.mk ((by rw [hg]; exact (below_size bw) : w.heap.size ≤ gb781)); clear HB; have HB := n0_; have BK781 := n1_; have GW781 := n2_; have GE781 := n3_; clear n0_ n1_ n2_ n3_; clear hb hbox hg; have hcz6_0 : w5.cell? ⟨gb781, 0, none⟩ = some (.slice A0_0 l0_0.length c0_0) := (blk_cell BK781.out 0).trans rfl; have hcz6_1 : w5.cell? ⟨gb781, 1, none⟩ = some (.string a0_1) := (blk_cell BK781.out 1).trans rfl; have hfz6_0 := blk_frozen BK781.out 0; have hfz6_1 := blk_frozen BK781.out 1) | ((with_reducible refine gate_callee (f := 92) rfl ?_); refine goesL_ (some 6) rfl rfl Tryz.func92 (by kernel_rfl) rfl #[.agg #[.slice A0_0 l0_0.length c0_0, .string a0_1]] rfl am ?_; (with_reducible refine (rights_Subject.calls (hG := by first | exact hG | exact Glob.below hG (by first | exact HB.out | (repeat (first | (with_reducible first | exact HB.out | apply below_alloc | apply pw_below_drewN | apply below_drew1 | refine below_set ?_ GE781.out | refine below_set ?_ GE794.out) | exact HB.out))) | exact Glob.drawn hG (by repeat (first | exact Drawn0.refl _ | apply Drawn0.step))) k _ _ l0_0 a0_1 t782 _ ?side1 ?side2 A2.out).mono ?_); (case side1 => repeat (first | exact (Kd.C_below HR0_0.out HB.out) | (with_reducible refine Kd.C_alloc ?_ _) | (with_reducible refine Kd.C_drewN ?_ _) | (with_reducible refine Kd.C_drew ?_))); (case side2 => exact HC0_0.out); rintro e w7 ⟨rfl, hb⟩; refine ⟨_, rfl, ?_⟩; have n0_ := Aside0.mk (blk_below (g := gb781) (o := .cells #[.slice A0_0 l0_0.length c0_0, .string a0_1] 29 (0, 0)) bk hb); have n1_ := Aside0.mk (below_step bwS hb); clear BK781; clear HB; have BK781 := n0_; have HB := n1_; clear n0_ n1_; (try clear hb); (try clear hb2); (try clear hk); (try clear hi)) | ((with_reducible refine gate_callee (f := 55) rfl ?_); refine goesL_ (some 7) rfl rfl Tryz.func55 (by kernel_rfl) rfl #[.string t782] rfl am ?_; (with_reducible refine (order_words.calls t782 t783 _ A3.out).mono ?_); rintro e w8 ⟨v784, rfl, ho0, hb⟩; refine ⟨_, rfl, ?_⟩; have n0_ := Aside0.mk (Kd.R_lower ho0 (below_size bwS)); have n1_ := Aside0.mk (blk_below (g := gb781) (o := .cells #[.slice A0_0 l0_0.length c0_0, .string a0_1] 29 (0, 0)) bk hb); have n2_ := Aside0.mk (below_step bwS hb); clear BK781; clear HB; have HO785 := n0_; have BK781 := n1_; have HB := n2_; clear n0_ n1_ n2_; (try clear hb); (try clear hb2); (try clear hk); (try clear hi); (try clear ho0)))
 (try simp only [Act.put, List.setIfInBounds_toArray, List.set_cons_zero, List.set_cons_succ])
 go_cut [3] (fun v3 wc => ∃ (kq : Nat) (x3_3 : List ByteArray), Aside0 (order_subject.j1 kq x3_3 = some r) ∧ Aside0 (kq ≤ k) ∧ Aside0 (Kd.Q Kd.string 9 wc w.heap.size (fun _ => True) v3 x3_3) ∧ Aside0 (wc.heap[gb781]? = some (.cells #[(.slice A0_0 l0_0.length c0_0), .string a0_1] 29 (0, 0))) ∧ Aside0 (Below w.heap.size w wc))
 case first =>
  have H := HC4.out
  clear HC4
  have H' := Aside0.mk H
  clear H
  go_wp2
  go_loopg [3] k (fun kq v3 w' => ∃ (x3_1 : List ByteArray), Aside0 (order_subject.l0 kq x3_1 = some r) ∧ Aside0 (kq ≤ k) ∧ Aside0 (Kd.Q Kd.string 9 w' w.heap.size (fun _ => True) v3 x3_1) ∧ Aside0 (w'.heap[gb781]? = some (.cells #[(.slice A0_0 l0_0.length c0_0), .string a0_1] 29 (0, 0))) ∧ Aside0 (Below w.heap.size w w'))
  case atStart => exact ⟨(t783), H', ⟨Nat.le_refl _⟩, ⟨Kd.Q_of_R (by (with_reducible repeat (first | apply Kd.R_alloc | apply Kd.R_drewN | apply Kd.R_drew)); exact HO785.out)⟩, ⟨bk⟩, ⟨bwS⟩⟩
  case round =>
   clear H'
   try clear p2
   try clear c5
   try clear hcz6_0
   try clear hcz6_1
   try clear hfz6_0
   try clear hfz6_1
   obtain ⟨x3_1, HA, HK1, HO_3, BK781, HB⟩ := hrel
   cases gk with
   | zero => exact absurd HA.out (by simp [order_subject.l0])
   | succ k1 =>
    have H := HA.out
    clear HA
    simp only [order_subject.l0] at H
    by_cases c9 : (x3_1.length : Int) > 0
    ·rw [if_pos c9] at H
     have c9b0 : decide (0 < (x3_1.length : Int)) = true := decide_eq_true c9
     have c9b1 : decide (0 < x3_1.length) = true := decide_eq_true (by omega)
     clear c9
     (first | rw [c9b0] | (simp only [i64_w, i32_w]; rw [c9b0]) | skip)
     by_cases c10 : 0 < (x3_1.length : Int)
     ·rw [if_pos c10] at H
      have c10b0 : decide (0 < (x3_1.length : Int)) = true := decide_eq_true c10
      have c10b1 : decide (0 < x3_1.length) = true := decide_eq_true (by omega)
      clear c10
      by_cases c11 : (rdOf ByteArray.empty x3_1 0).toList = ([114, 101, 58] : List UInt8)
      ·rw [if_pos c11] at H
       have c11b0 : ((rdOf ByteArray.empty x3_1 0).toList == ([114, 101, 58] : List UInt8)) = true := beq_iff_eq.mpr c11
       have c11b1 : ((rdOf ByteArray.empty x3_1 0).toList != ([114, 101, 58] : List UInt8)) = false := bne_eq_false_iff_eq.mpr c11
       clear c11
       by_cases c12 : 1 ≤ (x3_1.length : Int)
       ·rw [if_pos c12] at H
        have c12b0 := eq_true c12
        have c12b1 : decide (1 ≤ (x3_1.length : Int)) = true := decide_eq_true c12
        clear c12
        obtain ⟨y787, hy787⟩ : ∃ y_ : List ByteArray, y_ = (x3_1.drop (1 : Int).toNat) := ⟨_, rfl⟩
        replace H : (order_subject.l0 k1 y787) = some r := by first | (rw [hy787]; with_reducible exact H) | (have H2_ := (Option.bind_some _ _).symm.trans H; rw [hy787]; with_reducible exact H2_) | (have H2_ := (Option.bind_some _ _).symm.trans H; with_reducible exact H2_) | with_reducible exact H | (rw [hy787]; exact H) | exact H
        have Ny787 := Aside0.mk hy787
        clear hy787
        have H' := Aside0.mk H
        clear H
        obtain ⟨Ao13, co13, eo13, _⟩ := Kd.Q_slice HO_3.out
        subst eo13
        have p786 : 0 ≤ (0 : Int) := (by omega)
        have q786 : 0 < (x3_1.length : Int) := od
        obtain ⟨ad786, e786, hx786_0⟩ := Kd.at_string (Kd.Q_reads' HO_3.out).2.2 0 p786 q786
        cases e786
        have qi786 : (0 < x3_1.length) = True := eq_true (by omega)
        (try rw [show ((0 : Int)).toNat = 0 from rfl] at hx786_0)
        (try rw [Addr.add_zero'] at hx786_0)
        replace p786 := eq_true p786
        replace q786 := eq_true q786
        have q14 : (1 : Int) ≤ ((x3_1.length : Int) : Int) := od
        obtain ⟨i014, hi014, _, hsz14, _⟩ := info_parts info9
        have hcut14 := cut_from (P := Tryz.prog) 53 9 .i64 Tryz.underlying53 hi014 1 hsz14 (some ad786) x3_1.length co13 1 (by omega) q14
        have hr14 := Kd.Q_drop (k := (1 : Int).toNat) HO_3.out (by omega)
        obtain ⟨A14, hA14⟩ : ∃ A1, A1 = (if co13 = (1 : Int).toNat then (some ad786) else ((some ad786) : Option Addr).map (·.add ((1 : Int).toNat * 1))) := ⟨_, rfl⟩
        obtain ⟨c14, hc14⟩ : ∃ c1, c1 = co13 - (1 : Int).toNat := ⟨_, rfl⟩
        have hy14 : y787.length = x3_1.length - (1 : Int).toNat := (by rw [Ny787.out, List.length_drop])
        rw [← Ny787.out] at hr14
        rw [← hy14, ← hA14, ← hc14] at hcut14
        replace hr14 : Kd.Q Kd.string 9 wr w.heap.size (fun _ => True) (.slice A14 y787.length c14) y787 := (by rw [hA14, hc14, hy14]; exact hr14)
        have HE14 : Aside0 ((Value.slice A14 y787.length c14).ownBlock = (.slice (some ad786) x3_1.length co13 : Value).ownBlock) := ⟨by rw [hA14]; split <;> (cases ((some ad786) : Option Addr) <;> rfl)⟩
        clear hy14 hi014 hsz14 HO_3 hA14 hc14
        have HO789 := Aside0.mk hr14
        clear hr14
        replace q14 := eq_true q14
        go_wp2
        go_roundg k1
        case measure => have := HK1.out; omega
        case rel => exact ⟨(y787), H', ⟨by have := HK1.out; omega⟩, ⟨by (with_reducible repeat (first | apply Kd.Q_alloc | apply Kd.Q_drewN | apply Kd.Q_drew)); exact HO789.out⟩, ⟨bk⟩, ⟨bwS⟩⟩
       ·rw [if_neg c12] at H
        exact absurd H (by simp)
      ·rw [if_neg c11] at H
       have c11b0 : ((rdOf ByteArray.empty x3_1 0).toList == ([114, 101, 58] : List UInt8)) = false := beq_eq_false_iff_ne.mpr c11
       have c11b1 : ((rdOf ByteArray.empty x3_1 0).toList != ([114, 101, 58] : List UInt8)) = true := bne_iff_ne.mpr c11
       have H' := Aside0.mk H
       clear H
       obtain ⟨Ao15, co15, eo15, _⟩ := Kd.Q_slice HO_3.out
       subst eo15
       have p786 : 0 ≤ (0 : Int) := (by omega)
       have q786 : 0 < (x3_1.length : Int) := od
       obtain ⟨ad786, e786, hx786_0⟩ := Kd.at_string (Kd.Q_reads' HO_3.out).2.2 0 p786 q786
       cases e786
       have qi786 : (0 < x3_1.length) = True := eq_true (by omega)
       (try rw [show ((0 : Int)).toNat = 0 from rfl] at hx786_0)
       (try rw [Addr.add_zero'] at hx786_0)
       replace p786 := eq_true p786
       replace q786 := eq_true q786
       go_wp2
       go_meet
       case rel => exact ⟨_, (x3_1), H', ⟨by have := HK1.out; first | omega | exact Nat.le_refl _⟩, ⟨by (with_reducible repeat (first | apply Kd.Q_alloc | apply Kd.Q_drewN | apply Kd.Q_drew)); exact HO_3.out⟩, ⟨bk⟩, ⟨bwS⟩⟩
     ·rw [if_neg c10] at H
      exact absurd H (by simp)
    ·rw [if_neg c9] at H
     have c9b0 : decide (0 < (x3_1.length : Int)) = false := decide_eq_false c9
     have c9b1 : decide (0 < x3_1.length) = false := decide_eq_false (by omega)
     clear c9
     (first | rw [c9b0] | (simp only [i64_w, i32_w]; rw [c9b0]) | skip)
     have H' := Aside0.mk H
     clear H
     obtain ⟨Ao16, co16, eo16, _⟩ := Kd.Q_slice HO_3.out
     subst eo16
     go_wp2
     go_meet
     case rel => exact ⟨_, (x3_1), H', ⟨by have := HK1.out; first | omega | exact Nat.le_refl _⟩, ⟨by (with_reducible repeat (first | apply Kd.Q_alloc | apply Kd.Q_drewN | apply Kd.Q_drew)); exact HO_3.out⟩, ⟨bk⟩, ⟨bwS⟩⟩
 case rest =>
  clear HC4
  try clear c1
  try clear q1
  try clear p2
  try clear c5
  try clear p7
  try clear q7
  try clear hx7
  try clear qi7
  try clear c9
  try clear c9b0
  try clear c9b1
  try clear c10
  try clear c10b0
  try clear c10b1
  try clear c11
  try clear c11b0
  try clear c11b1
  try clear c12
  try clear c12b0
  try clear c12b1
  try clear c14
  try clear q14
  try clear hcz6_0
  try clear hcz6_1
  try clear hfz6_0
  try clear hfz6_1
  try clear hx786_0
  try clear p2
  try clear p786
  try clear q14
  try clear q786
  obtain ⟨kq, x3_3, HA, HJ3, HO_3, BK781, HB⟩ := hcut
  cases kq with
  | zero => exact absurd HA.out (by simp [order_subject.j1])
  | succ kj3 =>
   have H := HA.out
   clear HA
   simp only [order_subject.j1] at H
   have HC17 := Aside0.mk H
   clear H
   go_upto_region 4 with (fail)
   go_cut [25] (fun v25 wc => ∃ (kq : Nat) (x25_16 : Bool), v25 = .bool x25_16 ∧ Aside0 (order_subject.j2 kq x3_3 x25_16 = some r) ∧ Aside0 (kq ≤ kj3) ∧ Aside0 (Kd.Q Kd.string 9 wc w.heap.size (fun _ => True) u3 x3_3) ∧ Aside0 (wc.heap[gb781]? = some (.cells #[(.slice A0_0 l0_0.length c0_0), .string a0_1] 29 (0, 0))) ∧ Aside0 (Below w.heap.size w wc))
   case first =>
    have H := HC17.out
    clear HC17
    by_cases c18 : (x3_3.length : Int) = 0
    ·rw [if_pos c18] at H
     have c18b0 : ((x3_3.length : Int) == 0) = true := beq_iff_eq.mpr c18
     have c18b1 : ((x3_3.length : Int) != 0) = false := bne_eq_false_iff_eq.mpr c18
     clear c18
     (first | rw [c18b0] | (simp only [i64_w, i32_w]; rw [c18b0]) | skip)
     have H' := Aside0.mk H
     clear H
     obtain ⟨Ao19, co19, eo19, _⟩ := Kd.Q_slice HO_3.out
     subst eo19
     go_wp2
     go_meet
     case rel => exact ⟨_, (true), cl, H', ⟨by have := HJ3.out; first | omega | exact Nat.le_refl _⟩, ⟨by (with_reducible repeat (first | apply Kd.Q_alloc | apply Kd.Q_drewN | apply Kd.Q_drew)); exact HO_3.out⟩, ⟨bk⟩, ⟨bwS⟩⟩
    ·rw [if_neg c18] at H
     have c18b0 : ((x3_3.length : Int) == 0) = false := beq_eq_false_iff_ne.mpr c18
     have c18b1 : ((x3_3.length : Int) != 0) = true := bne_iff_ne.mpr c18
     have c18b2 : ¬ (x3_3 = []) := fun h_ => c18 (by rw [h_]; rfl)
     (first | rw [c18b0] | (simp only [i64_w, i32_w]; rw [c18b0]) | skip)
     replace H := Option.bind_eq_some_iff.mp H
     obtain ⟨t790, A200, H⟩ := H
     replace H : (order_subject.j2 kj3 x3_3 t790) = some r := H
     have A20 := Aside0.mk A200
     clear A200
     have H' := Aside0.mk H
     clear H
     obtain ⟨Ao21, co21, eo21, _⟩ := Kd.Q_slice HO_3.out
     subst eo21
     go_wp2_with (first | (go_at_call 57; (with_reducible refine (order_stops.calls _ _ x3_3 t790 _ ?side1 ?side2 A20.out).mono ?_); (case side1 => repeat (first | exact (Kd.Q_reads' HO_3.out).2.2 | (with_reducible refine Kd.C_alloc ?_ _) | (with_reducible refine Kd.C_drewN ?_ _) | (with_reducible refine Kd.C_drew ?_))); (case side2 => exact (Kd.Q_reads' HO_3.out).2.1); rintro e w' ⟨rfl, ⟨nd, rfl⟩⟩))
     go_meet
     case rel => exact ⟨_, (t790), cl, H', ⟨by have := HJ3.out; first | omega | exact Nat.le_refl _⟩, ⟨by (with_reducible repeat (first | apply Kd.Q_alloc | apply Kd.Q_drewN | apply Kd.Q_drew)); exact HO_3.out⟩, ⟨bk⟩, ⟨bwS⟩⟩
   case rest =>
    clear HC17
    try clear c1
    try clear q1
    try clear p2
    try clear c5
    try clear p7
    try clear q7
    try clear hx7
    try clear qi7
    try clear c9
    try clear c9b0
    try clear c9b1
    try clear c10
    try clear c10b0
    try clear c10b1
    try clear c11
    try clear c11b0
    try clear c11b1
    try clear c12
    try clear c12b0
    try clear c12b1
    try clear c14
    try clear q14
    try clear c18
    try clear c18b0
    try clear c18b1
    try clear c18b2
    try clear hcz6_0
    try clear hcz6_1
    try clear hfz6_0
    try clear hfz6_1
    try clear hx786_0
    try clear p2
    try clear p7
    try clear p786
    try clear q1
    try clear q14
    try clear q7
    try clear q786
    obtain ⟨kq, x25_16, rfl, HA, HJ16, HO_3, BK781, HB⟩ := hcut
    cases kq with
    | zero => exact absurd HA.out (by simp [order_subject.j2])
    | succ kj16 =>
     have H := HA.out
     clear HA
     simp only [order_subject.j2] at H
     by_cases c22 : x25_16 = true
     ·subst c22
      have H1 : (some ([] : List (S63))) = some r := by rw [if_pos rfl] at H; exact H
      clear H
      have H := H1
      clear H1
      obtain rfl := Option.some.inj H
      go_wp2
      go_ret
      exact ⟨_, by first | rfl | (simp [errW_none, errW_some] <;> rfl) | (simp [*, errW_none, errW_some] <;> rfl), by first | exact Kd.R_nil _ _ _ _ _ | exact Kd.N_nil _ _ _ _ _ | exact Kd.V_nil _ _ _ _ _ | exact Kd.Q_nil _ _ _ _ _ | exact Kd.S_nil _ _ _ _ _, bwS⟩
     ·replace c22 := Bool.eq_false_iff.mpr c22
      subst c22
      have H1 : ((order_command.f kj16 x3_3).bind fun bt791 => (if bt791.1 = 5 then (some ([] : List (S63))) else (some (([(⟨bt791.1, bt791.2.1, bt791.2.2⟩ : S63)] : List (S63)))))) = some r := by rw [if_neg (show ¬ (false = true) by decide)] at H; exact H
      clear H
      have H := H1
      clear H1
      replace H := Option.bind_eq_some_iff.mp H
      obtain ⟨⟨t791, t792, t793⟩, A230, H⟩ := H
      replace H : (if t791 = 5 then (some ([] : List (S63))) else (some (([(⟨t791, t792, t793⟩ : S63)] : List (S63))))) = some r := H
      have A23 := Aside0.mk A230
      clear A230
      by_cases c24 : t791 = 5
      ·rw [if_pos c24] at H
       have c24b0 : (t791 == 5) = true := beq_iff_eq.mpr c24
       have c24b1 : (t791 != 5) = false := bne_eq_false_iff_eq.mpr c24
       clear c24
       obtain rfl := Option.some.inj H
       obtain ⟨Ao25, co25, eo25, _⟩ := Kd.Q_slice HO_3.out
       subst eo25
       go_wp2_with (first | ((with_reducible refine gate_callee (f := 58) rfl ?_); refine goesL_ (some 27) rfl rfl Tryz.func58 (by kernel_rfl) rfl #[.slice Ao25 x3_3.length co25] rfl am ?_; (with_reducible refine (order_command.calls kj16 _ _ x3_3 t791 t792 t793 _ ?side1 ?side2 A23.out).mono ?_); (case side1 => repeat (first | exact (Kd.Q_reads' HO_3.out).2.2 | (with_reducible refine Kd.C_alloc ?_ _) | (with_reducible refine Kd.C_drewN ?_ _) | (with_reducible refine Kd.C_drew ?_))); (case side2 => exact (Kd.Q_reads' HO_3.out).2.1); rintro e w26 ⟨rfl, hb⟩; refine ⟨_, rfl, ?_⟩; have n0_ := Aside0.mk (Kd.Q_below (by (with_reducible repeat (first | apply Kd.Q_alloc | apply Kd.Q_drewN | apply Kd.Q_drew)); exact HO_3.out) hb); have n1_ := Aside0.mk (blk_below (g := gb781) (o := .cells #[.slice A0_0 l0_0.length c0_0, .string a0_1] 29 (0, 0)) bk hb); have n2_ := Aside0.mk (below_step bwS hb); clear HO_3; clear BK781; clear HB; have HO_3 := n0_; have BK781 := n1_; have HB := n2_; clear n0_ n1_ n2_; (try clear hb); (try clear hb2); (try clear hk); (try clear hi)) | ((with_reducible refine gate_dst (N := 4) rfl ?_); refine box_event ?hg (N := 4) ?hd (cs := #[.int .i64 0, .int .i64 0, .string (⟨#[]⟩ : ByteArray)]) (t := 63) ?hr ?_; (case hd => rfl); (case hg => rfl); (case hr => first | (go_simp; done) | (go_simp; rfl)); intro gb794 hg w27 hbox hb; have n0_ := Aside0.mk (Kd.Q_below (by (with_reducible repeat (first | apply Kd.Q_alloc | apply Kd.Q_drewN | apply Kd.Q_drew)); exact HO_3.out) hb); have n1_ := Aside0.mk (blk_below (g := gb781) (o := .cells #[.slice A0_0 l0_0.length c0_0, .string a0_1] 29 (0, 0)) bk hb); have n2_ := Aside0.mk (below_step bwS hb); have n3_ := Aside0.mk (hbox); have n4_ := Aside0.mk ((by rw [hg]; exact (below_size bwS) : w.heap.size ≤ gb794)); have n5_ := Aside0.mk ((by rw [hg]; exact (below_size bwS) : w.heap.size ≤ gb794)); have n6_ := Aside0.mk ((by rw [hg]; exact Nat.ne_of_lt (blk_lt (g := gb781) (o := .cells #[.slice A0_0 l0_0.length c0_0, .string a0_1] 29 (0, 0)) bk) : gb781 ≠ gb794)); have n7_ := Aside0.mk ((by rw [hg]; exact Nat.ne_of_gt (blk_lt (g := gb781) (o := .cells #[.slice A0_0 l0_0.length c0_0, .string a0_1] 29 (0, 0)) bk) : gb794 ≠ gb781)); clear HO_3; clear BK781; clear HB; have HO_3 := n0_; have BK781 := n1_; have HB := n2_; have BK794 := n3_; have GW794 := n4_; have GE794 := n5_; have NB781_794 := n6_; have NB794_781 := n7_; clear n0_ n1_ n2_ n3_ n4_ n5_ n6_ n7_; clear hb hbox hg; have hnb28 := NB794_781.out; have hnc28 := NB781_794.out; have hcz29_0 : w27.cell? ⟨gb794, 0, none⟩ = some (.int .i64 0) := (blk_cell BK794.out 0).trans rfl; have hcz29_1 : w27.cell? ⟨gb794, 1, none⟩ = some (.int .i64 0) := (blk_cell BK794.out 1).trans rfl; have hcz29_2 : w27.cell? ⟨gb794, 2, none⟩ = some (.string (⟨#[]⟩ : ByteArray)) := (blk_cell BK794.out 2).trans rfl; have hfz29_0 := blk_frozen BK794.out 0; have hfz29_1 := blk_frozen BK794.out 1; have hfz29_2 := blk_frozen BK794.out 2))
       go_ret
       exact ⟨_, by first | rfl | (simp [errW_none, errW_some] <;> rfl) | (simp [*, errW_none, errW_some] <;> rfl), by first | exact Kd.R_nil _ _ _ _ _ | exact Kd.N_nil _ _ _ _ _ | exact Kd.V_nil _ _ _ _ _ | exact Kd.Q_nil _ _ _ _ _ | exact Kd.S_nil _ _ _ _ _, bwS⟩
      ·rw [if_neg c24] at H
       have c24b0 : (t791 == 5) = false := beq_eq_false_iff_ne.mpr c24
       have c24b1 : (t791 != 5) = true := bne_iff_ne.mpr c24
       obtain ⟨y795, hy795⟩ : ∃ y_ : List (S63), y_ = (([(⟨t791, t792, t793⟩ : S63)] : List (S63))) := ⟨_, rfl⟩
       replace H : (some y795) = some r := by first | (rw [hy795]; with_reducible exact H) | (have H2_ := (Option.bind_some _ _).symm.trans H; rw [hy795]; with_reducible exact H2_) | (have H2_ := (Option.bind_some _ _).symm.trans H; with_reducible exact H2_) | with_reducible exact H | (rw [hy795]; exact H) | exact H
       have Ny795 := Aside0.mk hy795
       clear hy795
       obtain rfl := Option.some.inj H
       obtain ⟨Ao30, co30, eo30, _⟩ := Kd.Q_slice HO_3.out
       subst eo30
       go_wp2_with (first | ((with_reducible refine gate_callee (f := 58) rfl ?_); refine goesL_ (some 27) rfl rfl Tryz.func58 (by kernel_rfl) rfl #[.slice Ao30 x3_3.length co30] rfl am ?_; (with_reducible refine (order_command.calls kj16 _ _ x3_3 t791 t792 t793 _ ?side1 ?side2 A23.out).mono ?_); (case side1 => repeat (first | exact (Kd.Q_reads' HO_3.out).2.2 | (with_reducible refine Kd.C_alloc ?_ _) | (with_reducible refine Kd.C_drewN ?_ _) | (with_reducible refine Kd.C_drew ?_))); (case side2 => exact (Kd.Q_reads' HO_3.out).2.1); rintro e w31 ⟨rfl, hb⟩; refine ⟨_, rfl, ?_⟩; have n0_ := Aside0.mk (Kd.Q_below (by (with_reducible repeat (first | apply Kd.Q_alloc | apply Kd.Q_drewN | apply Kd.Q_drew)); exact HO_3.out) hb); have n1_ := Aside0.mk (blk_below (g := gb781) (o := .cells #[.slice A0_0 l0_0.length c0_0, .string a0_1] 29 (0, 0)) bk hb); have n2_ := Aside0.mk (below_step bwS hb); clear HO_3; clear BK781; clear HB; have HO_3 := n0_; have BK781 := n1_; have HB := n2_; clear n0_ n1_ n2_; (try clear hb); (try clear hb2); (try clear hk); (try clear hi)) | ((with_reducible refine gate_dst (N := 4) rfl ?_); refine box_event ?hg (N := 4) ?hd (cs := #[.int .i64 0, .int .i64 0, .string (⟨#[]⟩ : ByteArray)]) (t := 63) ?hr ?_; (case hd => rfl); (case hg => rfl); (case hr => first | (go_simp; done) | (go_simp; rfl)); intro gb794 hg w32 hbox hb; have n0_ := Aside0.mk (Kd.Q_below (by (with_reducible repeat (first | apply Kd.Q_alloc | apply Kd.Q_drewN | apply Kd.Q_drew)); exact HO_3.out) hb); have n1_ := Aside0.mk (blk_below (g := gb781) (o := .cells #[.slice A0_0 l0_0.length c0_0, .string a0_1] 29 (0, 0)) bk hb); have n2_ := Aside0.mk (below_step bwS hb); have n3_ := Aside0.mk (hbox); have n4_ := Aside0.mk ((by rw [hg]; exact (below_size bwS) : w.heap.size ≤ gb794)); have n5_ := Aside0.mk ((by rw [hg]; exact (below_size bwS) : w.heap.size ≤ gb794)); have n6_ := Aside0.mk ((by rw [hg]; exact Nat.ne_of_lt (blk_lt (g := gb781) (o := .cells #[.slice A0_0 l0_0.length c0_0, .string a0_1] 29 (0, 0)) bk) : gb781 ≠ gb794)); have n7_ := Aside0.mk ((by rw [hg]; exact Nat.ne_of_gt (blk_lt (g := gb781) (o := .cells #[.slice A0_0 l0_0.length c0_0, .string a0_1] 29 (0, 0)) bk) : gb794 ≠ gb781)); clear HO_3; clear BK781; clear HB; have HO_3 := n0_; have BK781 := n1_; have HB := n2_; have BK794 := n3_; have GW794 := n4_; have GE794 := n5_; have NB781_794 := n6_; have NB794_781 := n7_; clear n0_ n1_ n2_ n3_ n4_ n5_ n6_ n7_; clear hb hbox hg; have hnb33 := NB794_781.out; have hnc33 := NB781_794.out; have hcz34_0 : w32.cell? ⟨gb794, 0, none⟩ = some (.int .i64 0) := (blk_cell BK794.out 0).trans rfl; have hcz34_1 : w32.cell? ⟨gb794, 1, none⟩ = some (.int .i64 0) := (blk_cell BK794.out 1).trans rfl; have hcz34_2 : w32.cell? ⟨gb794, 2, none⟩ = some (.string (⟨#[]⟩ : ByteArray)) := (blk_cell BK794.out 2).trans rfl; have hfz34_0 := blk_frozen BK794.out 0; have hfz34_1 := blk_frozen BK794.out 1; have hfz34_2 := blk_frozen BK794.out 2) | ((with_reducible refine gate_dst (N := 32) rfl ?_); refine Kd.R_lit k63 _ 63 ?hg (N := 32) ?hd (xs := ([(⟨t791, t792, t793⟩ : S63)] : List (S63))) (inner := [.int .i64 t791, .int .i64 t792, .string t793]) (ok := fun _ => True) (okp := fun _ => True) ?hr ?hp (fun _ hk => hk) trivial (Below.refl _ _) (Nat.le_refl _) (by simp) ?_; (case hd => rfl); (case hg => rfl); (case hr => first | (go_simp; done) | (go_simp; rfl)); (case hp => exact (Reps.c3 (show Kd.M k63 _ _ _ (⟨t791, t792, t793⟩ : S63) [.int .i64 t791, .int .i64 t792, .string t793] from (k63_mkM _ _ _ (⟨t791, t792, t793⟩ : S63) )) (Reps.none _ _))); intro v796 w35 ho36 hb hg_ hnew_; clear hg_ hnew_; (first | rw [← Ny795.out] at ho36 | (simp only [Int.reduceToNat] at ho36; rw [← Ny795.out] at ho36)); have n0_ := Aside0.mk (Kd.Q_below (by (with_reducible repeat (first | apply Kd.Q_alloc | apply Kd.Q_drewN | apply Kd.Q_drew)); exact (Kd.Q_mono (Kd.Q_far (p := ⟨gb794, 2, none⟩) (Kd.Q_far (p := ⟨gb794, 1, none⟩) (Kd.Q_far (p := ⟨gb794, 0, none⟩) (Kd.Q_types HO_3.out BK794.out (by decide)) (fun _ hk => hk.2) (.int .i64 t791)) (fun _ hk => hk.2) (.int .i64 t792)) (fun _ hk => hk.2) (.string t793)) (fun _ h_ => h_.1))) hb); have n1_ := Aside0.mk (Kd.R_lower (Kd.R_newB ho36 (g := gb794) (o := .cells #[.int .i64 t791, .int .i64 t792, .string t793] 63 (0, 0)) (by (with_reducible repeat (first | refine blk_drewN ?_ _ | refine blk_drew ?_ | refine blk_alloc ?_ _)); refine blk_put (cs := #[.int .i64 t791, .int .i64 t792, .string (⟨#[]⟩ : ByteArray)]) ?_ 2 _ rfl; (with_reducible repeat (first | refine blk_drewN ?_ _ | refine blk_drew ?_ | refine blk_alloc ?_ _)); refine blk_put (cs := #[.int .i64 t791, .int .i64 0, .string (⟨#[]⟩ : ByteArray)]) ?_ 1 _ rfl; (with_reducible repeat (first | refine blk_drewN ?_ _ | refine blk_drew ?_ | refine blk_alloc ?_ _)); refine blk_put (cs := #[.int .i64 0, .int .i64 0, .string (⟨#[]⟩ : ByteArray)]) ?_ 0 _ rfl; (with_reducible repeat (first | refine blk_drewN ?_ _ | refine blk_drew ?_ | refine blk_alloc ?_ _)); exact BK794.out)) (below_size bwS)); have n2_ := Aside0.mk (blk_below (g := gb781) (o := .cells #[.slice A0_0 l0_0.length c0_0, .string a0_1] 29 (0, 0)) (by (with_reducible repeat (first | refine blk_drewN ?_ _ | refine blk_drew ?_ | refine blk_alloc ?_ _)); refine blk_far ?_ NB781_794.out _; (with_reducible repeat (first | refine blk_drewN ?_ _ | refine blk_drew ?_ | refine blk_alloc ?_ _)); refine blk_far ?_ NB781_794.out _; (with_reducible repeat (first | refine blk_drewN ?_ _ | refine blk_drew ?_ | refine blk_alloc ?_ _)); refine blk_far ?_ NB781_794.out _; (with_reducible repeat (first | refine blk_drewN ?_ _ | refine blk_drew ?_ | refine blk_alloc ?_ _)); exact BK781.out) hb); have n3_ := Aside0.mk (blk_below (g := gb794) (o := .cells #[.int .i64 t791, .int .i64 t792, .string t793] 63 (0, 0)) (by (with_reducible repeat (first | refine blk_drewN ?_ _ | refine blk_drew ?_ | refine blk_alloc ?_ _)); refine blk_put (cs := #[.int .i64 t791, .int .i64 t792, .string (⟨#[]⟩ : ByteArray)]) ?_ 2 _ rfl; (with_reducible repeat (first | refine blk_drewN ?_ _ | refine blk_drew ?_ | refine blk_alloc ?_ _)); refine blk_put (cs := #[.int .i64 t791, .int .i64 0, .string (⟨#[]⟩ : ByteArray)]) ?_ 1 _ rfl; (with_reducible repeat (first | refine blk_drewN ?_ _ | refine blk_drew ?_ | refine blk_alloc ?_ _)); refine blk_put (cs := #[.int .i64 0, .int .i64 0, .string (⟨#[]⟩ : ByteArray)]) ?_ 0 _ rfl; (with_reducible repeat (first | refine blk_drewN ?_ _ | refine blk_drew ?_ | refine blk_alloc ?_ _)); exact BK794.out) hb); have n4_ := Aside0.mk (below_step bwS hb); clear HO_3; clear BK781; clear BK794; clear HB; have HO_3 := n0_; have HO797 := n1_; have BK781 := n2_; have BK794 := n3_; have HB := n4_; clear n0_ n1_ n2_ n3_ n4_; clear hb ho36))
       go_ret
       exact ⟨_, by first | rfl | (simp [errW_none, errW_some] <;> rfl) | (simp [*, errW_none, errW_some] <;> rfl), by (with_reducible repeat (first | apply Kd.R_alloc | apply Kd.R_drewN | apply Kd.R_drew)); exact Kd.R_mono HO797.out (fun _ hk => trivial), bwS⟩

end Go.Proofs.YtihabmcaplnbcaaGreatDoor.Fn
namespace Go.Proofs.YtihabmcaplnbcaaGreatDoor.Fn
open Go.RowKit Go.Proofs.YtihabmcaplnbcaaGreatDoorW.PrintWords Go.Proofs.YtihabmcaplnbcaaGreatDoorW.PrintLast Go.Proofs.YtihabmcaplnbcaaGreatDoorW.PrintMore
attribute [local go_sem] max2_int min2_int max_two min_two max_three min_three max_four min_four
set_option linter.unusedVariables false
set_option linter.unusedSimpArgs false

/-! ### order_Read: function 28 -/
mutual
def order_Read.l0 : Nat → List (S63) → Int → List ByteArray → Int → Int → Option ((List (S63)))
 | 0, _, _, _, _, _ => none
 | k + 1, x3, x4, x12, x13, x14 => if x14 < x13 then (if 0 ≤ x14 then (if x14 < (x12.length : Int) then ((order_words.f (rdOf ByteArray.empty x12 x14)).bind fun t806 => (if (x3.length : Int) = 8 then (order_Read.j1 k x3 x4 t806 x12 x13 x14 true) else (order_Read.j1 k x3 x4 t806 x12 x13 x14 (x4 == 3)))) else (none)) else (none)) else (some x3)
def order_Read.j1 : Nat → List (S63) → Int → List ByteArray → List ByteArray → Int → Int → Bool → Option ((List (S63)))
 | 0, _, _, _, _, _, _, _ => none
 | k + 1, x3, x4, x7, x12, x13, x14, x20 => if x20 = true then (some x3) else (if (x7.length : Int) = 0 then (order_Read.j2 k x3 x4 x7 x12 x13 x14 true) else (if 0 < (x7.length : Int) then ((strings_HasPrefix.f (rdOf ByteArray.empty x7 0) (⟨#[62]⟩ : ByteArray)).bind fun t810 => (order_Read.j2 k x3 x4 x7 x12 x13 x14 t810)) else (none)))
def order_Read.j2 : Nat → List (S63) → Int → List ByteArray → List ByteArray → Int → Int → Bool → Option ((List (S63)))
 | 0, _, _, _, _, _, _, _ => none
 | k + 1, x3, x4, x7, x12, x13, x14, x28 => if x28 = true then (order_Read.l0 k x3 x4 x12 x13 (wrap64 (x14 + 1))) else ((order_stops.f x7).bind fun t811 => (if t811 = true then (some x3) else ((order_command.f k x7).bind fun bt812 => (if bt812.1 = 5 then (if x3.length < 4398046511104 then (order_Read.l0 k (x3 ++ [(⟨bt812.1, bt812.2.1, bt812.2.2⟩ : S63)]) (wrap64 (x4 + 1)) x12 x13 (wrap64 (x14 + 1))) else (none)) else (if x3.length < 4398046511104 then (order_Read.l0 k (x3 ++ [(⟨bt812.1, bt812.2.1, bt812.2.2⟩ : S63)]) x4 x12 x13 (wrap64 (x14 + 1))) else (none))))))
end
def order_Read.f (k : Nat) (l0_0 : List (S35)) (a0_1 : ByteArray) : Option ((List (S63))) := (order_subject.f k l0_0 a0_1).bind fun t799 => ((msg_Message_Lines.f k l0_0 a0_1).bind fun t802 => (order_Read.l0 k t799 0 t802 (t802.length : Int) 0))
set_option maxHeartbeats 8000000 in
set_option maxRecDepth 100000 in
theorem order_Read.calls (k : Nat) (A0_0 : Option Addr) (c0_0 : Nat) (l0_0 : List (S35)) (a0_1 : ByteArray) (r : List (S63)) (w : World) (hG : Glob w) (hr0_0 : Kd.C k35 w A0_0 l0_0.length l0_0) (hc0_0 : l0_0.length ≤ c0_0) (h : order_Read.f k l0_0 a0_1 = some r) :
  Calls Tryz.prog 28 #[.agg #[.slice A0_0 l0_0.length c0_0, .string a0_1]] w fun e w' => ∃ v0_ : Value, e = .returned (v0_) ∧ Kd.R k63 63 w' w.heap.size (fun _ => True) v0_ r ∧ Below w.heap.size w w' := by
 have hu29 := Tryz.underlying29
 have hu63 := Tryz.underlying63
 have HR0_0 := Aside0.mk hr0_0
 have HC0_0 := Aside0.mk hc0_0
 clear hr0_0 hc0_0
 have HB := Aside0.mk (Below.refl w.heap.size w)
 have H : ((order_subject.f k l0_0 a0_1).bind fun t799 => ((msg_Message_Lines.f k l0_0 a0_1).bind fun t802 => (order_Read.l0 k t799 0 t802 (t802.length : Int) 0))) = some r := h
 clear h
 replace H := Option.bind_eq_some_iff.mp H
 obtain ⟨t799, A20, H⟩ := H
 replace H : ((msg_Message_Lines.f k l0_0 a0_1).bind fun t802 => (order_Read.l0 k t799 0 t802 (t802.length : Int) 0)) = some r := H
 have A2 := Aside0.mk A20
 clear A20
 replace H := Option.bind_eq_some_iff.mp H
 obtain ⟨t802, A30, H⟩ := H
 replace H : (order_Read.l0 k t799 0 t802 (t802.length : Int) 0) = some r := H
 have A3 := Aside0.mk A30
 clear A30
 have H' := Aside0.mk H
 clear H
 go_enter Tryz.func28, Tryz.ntmps28
 go_wp2_with (first | ((with_reducible refine gate_dst (N := 1) rfl ?_); refine box_event ?hg (N := 1) ?hd (cs := #[.slice A0_0 l0_0.length c0_0, .string a0_1]) (t := 29) ?hr ?_; (case hd => rfl); (case hg => rfl); (case hr => first | (go_simp; done) | (go_simp; rfl)); intro gb798 hg w4 hbox hb; have n0_ := Aside0.mk (below_step bw hb); have n1_ := Aside0.mk (hbox); have n2_ := Aside0.mk ((by rw [hg]; exact (below_size bw) : w.heap.size ≤ gb798)); have n3_ := Aside0.mk ((by rw [hg]; exact (below_size bw) : w.heap.size ≤ gb798)); clear HB; have HB := n0_; have BK798 := n1_; have GW798 := n2_; have GE798 := n3_; clear n0_ n1_ n2_ n3_; clear hb hbox hg; have hcz5_0 : w4.cell? ⟨gb798, 0, none⟩ = some (.slice A0_0 l0_0.length c0_0) := (blk_cell BK798.out 0).trans rfl; have hcz5_1 : w4.cell? ⟨gb798, 1, none⟩ = some (.string a0_1) := (blk_cell BK798.out 1).trans rfl; have hfz5_0 := blk_frozen BK798.out 0; have hfz5_1 := blk_frozen BK798.out 1) | ((with_reducible refine gate_callee (f := 54) rfl ?_); refine goesL_ (some 10) rfl rfl Tryz.func54 (by kernel_rfl) rfl #[.agg #[.slice A0_0 l0_0.length c0_0, .string a0_1]] rfl am ?_; (with_reducible refine (order_subject.calls (hG := by first | exact hG | exact Glob.below hG (by first | exact HB.out | (repeat (first | (with_reducible first | exact HB.out | apply below_alloc | apply pw_below_drewN | apply below_drew1 | refine below_set ?_ GE798.out | refine below_set ?_ GE815.out) | exact HB.out))) | exact Glob.drawn hG (by repeat (first | exact Drawn0.refl _ | apply Drawn0.step))) k _ _ l0_0 a0_1 t799 _ ?side1 ?side2 A2.out).mono ?_); (case side1 => repeat (first | exact (Kd.C_below HR0_0.out HB.out) | (with_reducible refine Kd.C_alloc ?_ _) | (with_reducible refine Kd.C_drewN ?_ _) | (with_reducible refine Kd.C_drew ?_))); (case side2 => exact HC0_0.out); rintro e w6 ⟨v800, rfl, ho0, hb⟩; refine ⟨_, rfl, ?_⟩; have n0_ := Aside0.mk (Kd.R_lower ho0 (below_size bwS)); have n1_ := Aside0.mk (blk_below (g := gb798) (o := .cells #[.slice A0_0 l0_0.length c0_0, .string a0_1] 29 (0, 0)) bk hb); have n2_ := Aside0.mk (below_step bwS hb); clear BK798; clear HB; have HO801 := n0_; have BK798 := n1_; have HB := n2_; clear n0_ n1_ n2_; (try clear hb); (try clear hb2); (try clear hk); (try clear hi); (try clear ho0); have hcz7_0 : w6.cell? ⟨gb798, 0, none⟩ = some (.slice A0_0 l0_0.length c0_0) := (blk_cell BK798.out 0).trans rfl; have hcz7_1 : w6.cell? ⟨gb798, 1, none⟩ = some (.string a0_1) := (blk_cell BK798.out 1).trans rfl; have hfz7_0 := blk_frozen BK798.out 0; have hfz7_1 := blk_frozen BK798.out 1) | ((with_reducible refine gate_callee (f := 40) rfl ?_); refine goesL_ (some 12) rfl rfl Tryz.func40 (by kernel_rfl) rfl #[.agg #[.slice A0_0 l0_0.length c0_0, .string a0_1]] rfl am ?_; (with_reducible refine (msg_Message_Lines.calls (hG := by first | exact hG | exact Glob.below hG (by first | exact HB.out | (repeat (first | (with_reducible first | exact HB.out | apply below_alloc | apply pw_below_drewN | apply below_drew1 | refine below_set ?_ GE798.out | refine below_set ?_ GE815.out) | exact HB.out))) | exact Glob.drawn hG (by repeat (first | exact Drawn0.refl _ | apply Drawn0.step))) k _ _ l0_0 a0_1 t802 _ ?side1 ?side2 A3.out).mono ?_); (case side1 => repeat (first | exact (Kd.C_below HR0_0.out HB.out) | (with_reducible refine Kd.C_alloc ?_ _) | (with_reducible refine Kd.C_drewN ?_ _) | (with_reducible refine Kd.C_drew ?_))); (case side2 => exact HC0_0.out); rintro e w8 ⟨v803, rfl, ho0, hb⟩; refine ⟨_, rfl, ?_⟩; have n0_ := Aside0.mk (Kd.R_below (by (with_reducible repeat (first | apply Kd.R_alloc | apply Kd.R_drewN | apply Kd.R_drew)); exact HO801.out) hb); have n1_ := Aside0.mk (Kd.R_lower ho0 (below_size bwS)); have n2_ := Aside0.mk (blk_below (g := gb798) (o := .cells #[.slice A0_0 l0_0.length c0_0, .string a0_1] 29 (0, 0)) bk hb); have n3_ := Aside0.mk (below_step bwS hb); clear HO801; clear BK798; clear HB; have HO801 := n0_; have HO804 := n1_; have BK798 := n2_; have HB := n3_; clear n0_ n1_ n2_ n3_; (try clear hb); (try clear hb2); (try clear hk); (try clear hi); (try clear ho0); obtain ⟨Ao9, co9, eo9⟩ := Kd.R_slice HO804.out; subst eo9))
 go_step3
 go_wp2_with (first | ((with_reducible refine gate_dst (N := 1) rfl ?_); refine box_event ?hg (N := 1) ?hd (cs := #[.slice A0_0 l0_0.length c0_0, .string a0_1]) (t := 29) ?hr ?_; (case hd => rfl); (case hg => rfl); (case hr => first | (go_simp; done) | (go_simp; rfl)); intro gb798 hg w4 hbox hb; have n0_ := Aside0.mk (below_step bw hb); have n1_ := Aside0.mk (hbox); have n2_ := Aside0.mk ((by rw [hg]; exact (below_size bw) : w.heap.size ≤ gb798)); have n3_ := Aside0.mk ((by rw [hg]; exact (below_size bw) : w.heap.size ≤ gb798)); clear HB; have HB := n0_; have BK798 := n1_; have GW798 := n2_; have GE798 := n3_; clear n0_ n1_ n2_ n3_; clear hb hbox hg; have hcz5_0 : w4.cell? ⟨gb798, 0, none⟩ = some (.slice A0_0 l0_0.length c0_0) := (blk_cell BK798.out 0).trans rfl; have hcz5_1 : w4.cell? ⟨gb798, 1, none⟩ = some (.string a0_1) := (blk_cell BK798.out 1).trans rfl; have hfz5_0 := blk_frozen BK798.out 0; have hfz5_1 := blk_frozen BK798.out 1) | ((with_reducible refine gate_callee (f := 54) rfl ?_); refine goesL_ (some 10) rfl rfl Tryz.func54 (by kernel_rfl) rfl #[.agg #[.slice A0_0 l0_0.length c0_0, .string a0_1]] rfl am ?_; (with_reducible refine (order_subject.calls (hG := by first | exact hG | exact Glob.below hG (by first | exact HB.out | (repeat (first | (with_reducible first | exact HB.out | apply below_alloc | apply pw_below_drewN | apply below_drew1 | refine below_set ?_ GE798.out | refine below_set ?_ GE815.out) | exact HB.out))) | exact Glob.drawn hG (by repeat (first | exact Drawn0.refl _ | apply Drawn0.step))) k _ _ l0_0 a0_1 t799 _ ?side1 ?side2 A2.out).mono ?_); (case side1 => repeat (first | exact (Kd.C_below HR0_0.out HB.out) | (with_reducible refine Kd.C_alloc ?_ _) | (with_reducible refine Kd.C_drewN ?_ _) | (with_reducible refine Kd.C_drew ?_))); (case side2 => exact HC0_0.out); rintro e w6 ⟨v800, rfl, ho0, hb⟩; refine ⟨_, rfl, ?_⟩; have n0_ := Aside0.mk (Kd.R_lower ho0 (below_size bwS)); have n1_ := Aside0.mk (blk_below (g := gb798) (o := .cells #[.slice A0_0 l0_0.length c0_0, .string a0_1] 29 (0, 0)) bk hb); have n2_ := Aside0.mk (below_step bwS hb); clear BK798; clear HB; have HO801 := n0_; have BK798 := n1_; have HB := n2_; clear n0_ n1_ n2_; (try clear hb); (try clear hb2); (try clear hk); (try clear hi); (try clear ho0); have hcz7_0 : w6.cell? ⟨gb798, 0, none⟩ = some (.slice A0_0 l0_0.length c0_0) := (blk_cell BK798.out 0).trans rfl; have hcz7_1 : w6.cell? ⟨gb798, 1, none⟩ = some (.string a0_1) := (blk_cell BK798.out 1).trans rfl; have hfz7_0 := blk_frozen BK798.out 0; have hfz7_1 := blk_frozen BK798.out 1) | ((with_reducible refine gate_callee (f := 40) rfl ?_); refine goesL_ (some 12) rfl rfl Tryz.func40 (by kernel_rfl) rfl #[.agg #[.slice A0_0 l0_0.length c0_0, .string a0_1]] rfl am ?_; (with_reducible refine (msg_Message_Lines.calls (hG := by first | exact hG | exact Glob.below hG (by first | exact HB.out | (repeat (first | (with_reducible first | exact HB.out | apply below_alloc | apply pw_below_drewN | apply below_drew1 | refine below_set ?_ GE798.out | refine below_set ?_ GE815.out) | exact HB.out))) | exact Glob.drawn hG (by repeat (first | exact Drawn0.refl _ | apply Drawn0.step))) k _ _ l0_0 a0_1 t802 _ ?side1 ?side2 A3.out).mono ?_); (case side1 => repeat (first | exact (Kd.C_below HR0_0.out HB.out) | (with_reducible refine Kd.C_alloc ?_ _) | (with_reducible refine Kd.C_drewN ?_ _) | (with_reducible refine Kd.C_drew ?_))); (case side2 => exact HC0_0.out); rintro e w8 ⟨v803, rfl, ho0, hb⟩; refine ⟨_, rfl, ?_⟩; have n0_ := Aside0.mk (Kd.R_below (by (with_reducible repeat (first | apply Kd.R_alloc | apply Kd.R_drewN | apply Kd.R_drew)); exact HO801.out) hb); have n1_ := Aside0.mk (Kd.R_lower ho0 (below_size bwS)); have n2_ := Aside0.mk (blk_below (g := gb798) (o := .cells #[.slice A0_0 l0_0.length c0_0, .string a0_1] 29 (0, 0)) bk hb); have n3_ := Aside0.mk (below_step bwS hb); clear HO801; clear BK798; clear HB; have HO801 := n0_; have HO804 := n1_; have BK798 := n2_; have HB := n3_; clear n0_ n1_ n2_ n3_; (try clear hb); (try clear hb2); (try clear hk); (try clear hi); (try clear ho0); obtain ⟨Ao9, co9, eo9⟩ := Kd.R_slice HO804.out; subst eo9))
 go_step3
 go_wp2_with (first | ((with_reducible refine gate_dst (N := 1) rfl ?_); refine box_event ?hg (N := 1) ?hd (cs := #[.slice A0_0 l0_0.length c0_0, .string a0_1]) (t := 29) ?hr ?_; (case hd => rfl); (case hg => rfl); (case hr => first | (go_simp; done) | (go_simp; rfl)); intro gb798 hg w4 hbox hb; have n0_ := Aside0.mk (below_step bw hb); have n1_ := Aside0.mk (hbox); have n2_ := Aside0.mk ((by rw [hg]; exact (below_size bw) : w.heap.size ≤ gb798)); have n3_ := Aside0.mk ((by rw [hg]; exact (below_size bw) : w.heap.size ≤ gb798)); clear HB; have HB := n0_; have BK798 := n1_; have GW798 := n2_; have GE798 := n3_; clear n0_ n1_ n2_ n3_; clear hb hbox hg; have hcz5_0 : w4.cell? ⟨gb798, 0, none⟩ = some (.slice A0_0 l0_0.length c0_0) := (blk_cell BK798.out 0).trans rfl; have hcz5_1 : w4.cell? ⟨gb798, 1, none⟩ = some (.string a0_1) := (blk_cell BK798.out 1).trans rfl; have hfz5_0 := blk_frozen BK798.out 0; have hfz5_1 := blk_frozen BK798.out 1) | ((with_reducible refine gate_callee (f := 54) rfl ?_); refine goesL_ (some 10) rfl rfl Tryz.func54 (by kernel_rfl) rfl #[.agg #[.slice A0_0 l0_0.length c0_0, .string a0_1]] rfl am ?_; (with_reducible refine (order_subject.calls (hG := by first | exact hG | exact Glob.below hG (by first | exact HB.out | (repeat (first | (with_reducible first | exact HB.out | apply below_alloc | apply pw_below_drewN | apply below_drew1 | refine below_set ?_ GE798.out | refine below_set ?_ GE815.out) | exact HB.out))) | exact Glob.drawn hG (by repeat (first | exact Drawn0.refl _ | apply Drawn0.step))) k _ _ l0_0 a0_1 t799 _ ?side1 ?side2 A2.out).mono ?_); (case side1 => repeat (first | exact (Kd.C_below HR0_0.out HB.out) | (with_reducible refine Kd.C_alloc ?_ _) | (with_reducible refine Kd.C_drewN ?_ _) | (with_reducible refine Kd.C_drew ?_))); (case side2 => exact HC0_0.out); rintro e w6 ⟨v800, rfl, ho0, hb⟩; refine ⟨_, rfl, ?_⟩; have n0_ := Aside0.mk (Kd.R_lower ho0 (below_size bwS)); have n1_ := Aside0.mk (blk_below (g := gb798) (o := .cells #[.slice A0_0 l0_0.length c0_0, .string a0_1] 29 (0, 0)) bk hb); have n2_ := Aside0.mk (below_step bwS hb); clear BK798; clear HB; have HO801 := n0_; have BK798 := n1_; have HB := n2_; clear n0_ n1_ n2_; (try clear hb); (try clear hb2); (try clear hk); (try clear hi); (try clear ho0); have hcz7_0 : w6.cell? ⟨gb798, 0, none⟩ = some (.slice A0_0 l0_0.length c0_0) := (blk_cell BK798.out 0).trans rfl; have hcz7_1 : w6.cell? ⟨gb798, 1, none⟩ = some (.string a0_1) := (blk_cell BK798.out 1).trans rfl; have hfz7_0 := blk_frozen BK798.out 0; have hfz7_1 := blk_frozen BK798.out 1) | ((with_reducible refine gate_callee (f := 40) rfl ?_); refine goesL_ (some 12) rfl rfl Tryz.func40 (by kernel_rfl) rfl #[.agg #[.slice A0_0 l0_0.length c0_0, .string a0_1]] rfl am ?_; (with_reducible refine (msg_Message_Lines.calls (hG := by first | exact hG | exact Glob.below hG (by first | exact HB.out | (repeat (first | (with_reducible first | exact HB.out | apply below_alloc | apply pw_below_drewN | apply below_drew1 | refine below_set ?_ GE798.out | refine below_set ?_ GE815.out) | exact HB.out))) | exact Glob.drawn hG (by repeat (first | exact Drawn0.refl _ | apply Drawn0.step))) k _ _ l0_0 a0_1 t802 _ ?side1 ?side2 A3.out).mono ?_); (case side1 => repeat (first | exact (Kd.C_below HR0_0.out HB.out) | (with_reducible refine Kd.C_alloc ?_ _) | (with_reducible refine Kd.C_drewN ?_ _) | (with_reducible refine Kd.C_drew ?_))); (case side2 => exact HC0_0.out); rintro e w8 ⟨v803, rfl, ho0, hb⟩; refine ⟨_, rfl, ?_⟩; have n0_ := Aside0.mk (Kd.R_below (by (with_reducible repeat (first | apply Kd.R_alloc | apply Kd.R_drewN | apply Kd.R_drew)); exact HO801.out) hb); have n1_ := Aside0.mk (Kd.R_lower ho0 (below_size bwS)); have n2_ := Aside0.mk (blk_below (g := gb798) (o := .cells #[.slice A0_0 l0_0.length c0_0, .string a0_1] 29 (0, 0)) bk hb); have n3_ := Aside0.mk (below_step bwS hb); clear HO801; clear BK798; clear HB; have HO801 := n0_; have HO804 := n1_; have BK798 := n2_; have HB := n3_; clear n0_ n1_ n2_ n3_; (try clear hb); (try clear hb2); (try clear hk); (try clear hi); (try clear ho0); obtain ⟨Ao9, co9, eo9⟩ := Kd.R_slice HO804.out; subst eo9))
 go_loopg [3, 4, 14] k (fun kq v3 v4 v14 w' => ∃ (x3_1 : List (S63)) (x4_1 : Int) (x14_1 : Int), v4 = .int .i64 x4_1 ∧ v14 = .int .i64 x14_1 ∧ Aside0 (order_Read.l0 kq x3_1 x4_1 t802 (t802.length : Int) x14_1 = some r) ∧ Aside0 (kq ≤ k) ∧ Aside0 (Kd.R k63 63 w' w.heap.size (fun _ => True) v3 x3_1) ∧ Aside0 (Kd.R Kd.string 9 w' w.heap.size (fun _ => True) (.slice Ao9 t802.length co9) t802) ∧ Aside0 (w'.heap[gb798]? = some (.cells #[(.slice A0_0 l0_0.length c0_0), .string a0_1] 29 (0, 0))) ∧ Aside0 (Below w.heap.size w w'))
 case atStart => exact ⟨(t799), (0), (0), cl, cl, H', ⟨Nat.le_refl _⟩, ⟨by (with_reducible repeat (first | apply Kd.R_alloc | apply Kd.R_drewN | apply Kd.R_drew)); exact HO801.out⟩, ⟨by (with_reducible repeat (first | apply Kd.R_alloc | apply Kd.R_drewN | apply Kd.R_drew)); exact HO804.out⟩, ⟨bk⟩, ⟨bwS⟩⟩
 case round =>
  clear H'
  try clear c2
  try clear p2
  try clear c4
  try clear c5
  try clear hcz5_0
  try clear hcz5_1
  try clear hcz7_0
  try clear hcz7_1
  try clear hfz5_0
  try clear hfz5_1
  try clear hfz7_0
  try clear hfz7_1
  obtain ⟨x3_1, x4_1, x14_1, rfl, rfl, HA, HK1, HO_3, HO_12, BK798, HB⟩ := hrel
  cases gk with
  | zero => exact absurd HA.out (by simp [order_Read.l0])
  | succ k1 =>
   have H := HA.out
   clear HA
   simp only [order_Read.l0] at H
   by_cases c10 : x14_1 < (t802.length : Int)
   ·rw [if_pos c10] at H
    have c10b0 : decide (x14_1 < (t802.length : Int)) = true := decide_eq_true c10
    clear c10
    by_cases c11 : 0 ≤ x14_1
    ·rw [if_pos c11] at H
     have c11b0 : decide (0 ≤ x14_1) = true := decide_eq_true c11
     clear c11
     by_cases c12 : x14_1 < (t802.length : Int)
     ·rw [if_pos c12] at H
      have c12b0 : decide (x14_1 < (t802.length : Int)) = true := decide_eq_true c12
      clear c12
      replace H := Option.bind_eq_some_iff.mp H
      obtain ⟨t806, A130, H⟩ := H
      replace H : (if (x3_1.length : Int) = 8 then (order_Read.j1 k1 x3_1 x4_1 t806 t802 (t802.length : Int) x14_1 true) else (order_Read.j1 k1 x3_1 x4_1 t806 t802 (t802.length : Int) x14_1 (x4_1 == 3))) = some r := H
      have A13 := Aside0.mk A130
      clear A130
      have HC14 := Aside0.mk H
      clear H
      have p805 : 0 ≤ (x14_1 : Int) := od
      have q805 : x14_1 < (t802.length : Int) := od
      obtain ⟨ad805, e805, hx805_0⟩ := Kd.at_string (Kd.R_reads' HO_12.out).2.2 x14_1 p805 q805
      cases e805
      replace p805 := eq_true p805
      replace q805 := eq_true q805
      go_upto_region 7 with (first | ((with_reducible refine gate_callee (f := 55) rfl ?_); refine goesL_ (some 19) rfl rfl Tryz.func55 (by kernel_rfl) rfl #[.string (rdOf ByteArray.empty t802 x14_1)] rfl am ?_; (with_reducible refine (order_words.calls (rdOf ByteArray.empty t802 x14_1) t806 _ A13.out).mono ?_); rintro e w15 ⟨v807, rfl, ho0, hb⟩; refine ⟨_, rfl, ?_⟩; have n0_ := Aside0.mk (Kd.R_below (by (with_reducible repeat (first | apply Kd.R_alloc | apply Kd.R_drewN | apply Kd.R_drew)); exact HO_3.out) hb); have n1_ := Aside0.mk (Kd.R_elder' (by (with_reducible repeat (first | apply Kd.R_alloc | apply Kd.R_drewN | apply Kd.R_drew)); exact HO_12.out) (Kd.R_base ho0) hb); have n2_ := Aside0.mk (Kd.R_lower (Kd.R_new' ho0 (Kd.R_lt (by (with_reducible repeat (first | apply Kd.R_alloc | apply Kd.R_drewN | apply Kd.R_drew)); exact HO_12.out))) (below_size bwS)); have n3_ := Aside0.mk (blk_below (g := gb798) (o := .cells #[.slice A0_0 l0_0.length c0_0, .string a0_1] 29 (0, 0)) bk hb); have n4_ := Aside0.mk (below_step bwS hb); clear HO_3; clear HO_12; clear BK798; clear HB; have HO_3 := n0_; have HO_12 := n1_; have HO808 := n2_; have BK798 := n3_; have HB := n4_; clear n0_ n1_ n2_ n3_ n4_; (try clear hb); (try clear hb2); (try clear hk); (try clear hi); (try clear ho0)))
      (try simp only [Act.put, List.setIfInBounds_toArray, List.set_cons_zero, List.set_cons_succ])
      go_cut [20] (fun v20 wc => ∃ (kq : Nat) (x20_13 : Bool), v20 = .bool x20_13 ∧ Aside0 (order_Read.j1 kq x3_1 x4_1 t806 t802 (t802.length : Int) x14_1 x20_13 = some r) ∧ Aside0 (kq ≤ k1) ∧ Aside0 (Kd.R k63 63 wc w.heap.size (fun _ => True) u3 x3_1) ∧ Aside0 (Kd.R Kd.string 9 wc w.heap.size (fun k_ => some k_ ≠ ((.slice (some ad805) t802.length co9) : Value).ownBlock) v807 t806) ∧ Aside0 (Kd.R Kd.string 9 wc w.heap.size (fun k_ => some k_ ≠ (v807 : Value).ownBlock) (.slice (some ad805) t802.length co9) t802) ∧ Aside0 (wc.heap[gb798]? = some (.cells #[(.slice A0_0 l0_0.length c0_0), .string a0_1] 29 (0, 0))) ∧ Aside0 (Below w.heap.size w wc))
      case first =>
       have H := HC14.out
       clear HC14
       by_cases c16 : (x3_1.length : Int) = 8
       ·rw [if_pos c16] at H
        have c16b0 : ((x3_1.length : Int) == 8) = true := beq_iff_eq.mpr c16
        have c16b1 : ((x3_1.length : Int) != 8) = false := bne_eq_false_iff_eq.mpr c16
        clear c16
        (first | rw [c16b0] | (simp only [i64_w, i32_w]; rw [c16b0]) | skip)
        have H' := Aside0.mk H
        clear H
        obtain ⟨Ao17, co17, eo17⟩ := Kd.R_slice HO_3.out
        subst eo17
        go_wp2
        go_meet
        case rel => exact ⟨_, (true), cl, H', ⟨by have := HK1.out; first | omega | exact Nat.le_refl _⟩, ⟨by (with_reducible repeat (first | apply Kd.R_alloc | apply Kd.R_drewN | apply Kd.R_drew)); exact HO_3.out⟩, ⟨by (with_reducible repeat (first | apply Kd.R_alloc | apply Kd.R_drewN | apply Kd.R_drew)); exact Kd.R_mono HO808.out (fun _ hk => hk.2)⟩, ⟨by (with_reducible repeat (first | apply Kd.R_alloc | apply Kd.R_drewN | apply Kd.R_drew)); exact Kd.R_mono HO_12.out (fun _ hk => hk.2)⟩, ⟨bk⟩, ⟨bwS⟩⟩
       ·rw [if_neg c16] at H
        have c16b0 : ((x3_1.length : Int) == 8) = false := beq_eq_false_iff_ne.mpr c16
        have c16b1 : ((x3_1.length : Int) != 8) = true := bne_iff_ne.mpr c16
        (first | rw [c16b0] | (simp only [i64_w, i32_w]; rw [c16b0]) | skip)
        have H' := Aside0.mk H
        clear H
        obtain ⟨Ao18, co18, eo18⟩ := Kd.R_slice HO_3.out
        subst eo18
        go_wp2
        go_meet
        case rel => exact ⟨_, ((x4_1 == 3)), cl, H', ⟨by have := HK1.out; first | omega | exact Nat.le_refl _⟩, ⟨by (with_reducible repeat (first | apply Kd.R_alloc | apply Kd.R_drewN | apply Kd.R_drew)); exact HO_3.out⟩, ⟨by (with_reducible repeat (first | apply Kd.R_alloc | apply Kd.R_drewN | apply Kd.R_drew)); exact Kd.R_mono HO808.out (fun _ hk => hk.2)⟩, ⟨by (with_reducible repeat (first | apply Kd.R_alloc | apply Kd.R_drewN | apply Kd.R_drew)); exact Kd.R_mono HO_12.out (fun _ hk => hk.2)⟩, ⟨bk⟩, ⟨bwS⟩⟩
      case rest =>
       clear HC14
       try clear c1
       try clear c2
       try clear p2
       try clear c4
       try clear c5
       try clear p8
       try clear q8
       try clear hx8
       try clear c10
       try clear c10b0
       try clear c11
       try clear c11b0
       try clear c12
       try clear c12b0
       try clear c16
       try clear c16b0
       try clear c16b1
       try clear hcz5_0
       try clear hcz5_1
       try clear hcz7_0
       try clear hcz7_1
       try clear hfz5_0
       try clear hfz5_1
       try clear hfz7_0
       try clear hfz7_1
       try clear hx805_0
       try clear p2
       try clear p805
       try clear q805
       obtain ⟨kq, x20_13, rfl, HA, HJ13, HO_3, HO_7, HO_12, BK798, HB⟩ := hcut
       cases kq with
       | zero => exact absurd HA.out (by simp [order_Read.j1])
       | succ kj13 =>
        have H := HA.out
        clear HA
        simp only [order_Read.j1] at H
        by_cases c19 : x20_13 = true
        ·subst c19
         have H1 : (some x3_1) = some r := by rw [if_pos rfl] at H; exact H
         clear H
         have H := H1
         clear H1
         obtain rfl := Option.some.inj H
         go_wp2
         (try rw [Exit.noGoto_ret])
         go_ret
         exact ⟨_, by first | rfl | (simp [errW_none, errW_some] <;> rfl) | (simp [*, errW_none, errW_some] <;> rfl), by (with_reducible repeat (first | apply Kd.R_alloc | apply Kd.R_drewN | apply Kd.R_drew)); exact HO_3.out, bwS⟩
        ·replace c19 := Bool.eq_false_iff.mpr c19
         subst c19
         have H1 : (if (t806.length : Int) = 0 then (order_Read.j2 kj13 x3_1 x4_1 t806 t802 (t802.length : Int) x14_1 true) else (if 0 < (t806.length : Int) then ((strings_HasPrefix.f (rdOf ByteArray.empty t806 0) (⟨#[62]⟩ : ByteArray)).bind fun t810 => (order_Read.j2 kj13 x3_1 x4_1 t806 t802 (t802.length : Int) x14_1 t810)) else (none))) = some r := by rw [if_neg (show ¬ (false = true) by decide)] at H; exact H
         clear H
         have H := H1
         clear H1
         have HC20 := Aside0.mk H
         clear H
         go_upto_region 8 with (fail)
         go_cut [28] (fun v28 wc => ∃ (kq : Nat) (x28_19 : Bool), v28 = .bool x28_19 ∧ Aside0 (order_Read.j2 kq x3_1 x4_1 t806 t802 (t802.length : Int) x14_1 x28_19 = some r) ∧ Aside0 (kq ≤ kj13) ∧ Aside0 (Kd.R k63 63 wc w.heap.size (fun _ => True) u3 x3_1) ∧ Aside0 (Kd.R Kd.string 9 wc w.heap.size (fun k_ => some k_ ≠ ((.slice (some ad805) t802.length co9) : Value).ownBlock) v807 t806) ∧ Aside0 (Kd.R Kd.string 9 wc w.heap.size (fun k_ => some k_ ≠ (v807 : Value).ownBlock) (.slice (some ad805) t802.length co9) t802) ∧ Aside0 (wc.heap[gb798]? = some (.cells #[(.slice A0_0 l0_0.length c0_0), .string a0_1] 29 (0, 0))) ∧ Aside0 (Below w.heap.size w wc))
         case first =>
          have H := HC20.out
          clear HC20
          by_cases c21 : (t806.length : Int) = 0
          ·rw [if_pos c21] at H
           have c21b0 : ((t806.length : Int) == 0) = true := beq_iff_eq.mpr c21
           have c21b1 : ((t806.length : Int) != 0) = false := bne_eq_false_iff_eq.mpr c21
           clear c21
           (first | rw [c21b0] | (simp only [i64_w, i32_w]; rw [c21b0]) | skip)
           have H' := Aside0.mk H
           clear H
           obtain ⟨Ao22, co22, eo22⟩ := Kd.R_slice HO_7.out
           subst eo22
           go_wp2
           go_meet
           case rel => exact ⟨_, (true), cl, H', ⟨by have := HK1.out; have := HJ13.out; first | omega | exact Nat.le_refl _⟩, ⟨by (with_reducible repeat (first | apply Kd.R_alloc | apply Kd.R_drewN | apply Kd.R_drew)); exact HO_3.out⟩, ⟨by (with_reducible repeat (first | apply Kd.R_alloc | apply Kd.R_drewN | apply Kd.R_drew)); exact HO_7.out⟩, ⟨by (with_reducible repeat (first | apply Kd.R_alloc | apply Kd.R_drewN | apply Kd.R_drew)); exact HO_12.out⟩, ⟨bk⟩, ⟨bwS⟩⟩
          ·rw [if_neg c21] at H
           have c21b0 : ((t806.length : Int) == 0) = false := beq_eq_false_iff_ne.mpr c21
           have c21b1 : ((t806.length : Int) != 0) = true := bne_iff_ne.mpr c21
           have c21b2 : ¬ (t806 = []) := fun h_ => c21 (by rw [h_]; rfl)
           (first | rw [c21b0] | (simp only [i64_w, i32_w]; rw [c21b0]) | skip)
           by_cases c23 : 0 < (t806.length : Int)
           ·rw [if_pos c23] at H
            have c23b0 : decide (0 < (t806.length : Int)) = true := decide_eq_true c23
            have c23b1 : decide (0 < t806.length) = true := decide_eq_true (by omega)
            clear c23
            replace H := Option.bind_eq_some_iff.mp H
            obtain ⟨t810, A240, H⟩ := H
            replace H : (order_Read.j2 kj13 x3_1 x4_1 t806 t802 (t802.length : Int) x14_1 t810) = some r := H
            have A24 := Aside0.mk A240
            clear A240
            have H' := Aside0.mk H
            clear H
            obtain ⟨Ao25, co25, eo25⟩ := Kd.R_slice HO_7.out
            subst eo25
            have p809 : 0 ≤ (0 : Int) := (by omega)
            have q809 : 0 < (t806.length : Int) := od
            obtain ⟨ad809, e809, hx809_0⟩ := Kd.at_string (Kd.R_reads' HO_7.out).2.2 0 p809 q809
            cases e809
            have qi809 : (0 < t806.length) = True := eq_true (by omega)
            (try rw [show ((0 : Int)).toNat = 0 from rfl] at hx809_0)
            (try rw [Addr.add_zero'] at hx809_0)
            replace p809 := eq_true p809
            replace q809 := eq_true q809
            go_wp2_with (first | (go_at_call 56; (with_reducible refine (strings_HasPrefix.calls (rdOf ByteArray.empty t806 0) (⟨#[62]⟩ : ByteArray) t810 _ A24.out).mono ?_); rintro e w' ⟨rfl, ⟨nd, rfl⟩⟩))
            go_meet
            case rel => exact ⟨_, (t810), cl, H', ⟨by have := HK1.out; have := HJ13.out; first | omega | exact Nat.le_refl _⟩, ⟨by (with_reducible repeat (first | apply Kd.R_alloc | apply Kd.R_drewN | apply Kd.R_drew)); exact HO_3.out⟩, ⟨by (with_reducible repeat (first | apply Kd.R_alloc | apply Kd.R_drewN | apply Kd.R_drew)); exact HO_7.out⟩, ⟨by (with_reducible repeat (first | apply Kd.R_alloc | apply Kd.R_drewN | apply Kd.R_drew)); exact HO_12.out⟩, ⟨bk⟩, ⟨bwS⟩⟩
           ·rw [if_neg c23] at H
            exact absurd H (by simp)
         case rest =>
          clear HC20
          try clear c1
          try clear c2
          try clear p2
          try clear c4
          try clear c5
          try clear p8
          try clear q8
          try clear hx8
          try clear qi8
          try clear c10
          try clear c10b0
          try clear c11
          try clear c11b0
          try clear c12
          try clear c12b0
          try clear c16
          try clear c16b0
          try clear c16b1
          try clear c19
          try clear c21
          try clear c21b0
          try clear c21b1
          try clear c21b2
          try clear c23
          try clear c23b0
          try clear c23b1
          try clear hcz5_0
          try clear hcz5_1
          try clear hcz7_0
          try clear hcz7_1
          try clear hfz5_0
          try clear hfz5_1
          try clear hfz7_0
          try clear hfz7_1
          try clear hx805_0
          try clear hx809_0
          try clear p2
          try clear p8
          try clear p805
          try clear p809
          try clear q8
          try clear q805
          try clear q809
          obtain ⟨kq, x28_19, rfl, HA, HJ19, HO_3, HO_7, HO_12, BK798, HB⟩ := hcut
          cases kq with
          | zero => exact absurd HA.out (by simp [order_Read.j2])
          | succ kj19 =>
           have H := HA.out
           clear HA
           simp only [order_Read.j2] at H
           by_cases c26 : x28_19 = true
           ·subst c26
            have H1 : (order_Read.l0 kj19 x3_1 x4_1 t802 (t802.length : Int) (wrap64 (x14_1 + 1))) = some r := by rw [if_pos rfl] at H; exact H
            clear H
            have H := H1
            clear H1
            have H' := Aside0.mk H
            clear H
            go_wp2
            go_roundg kj19
            case measure => have := HK1.out; have := HJ13.out; have := HJ19.out; omega
            case rel => exact ⟨(x3_1), (x4_1), (wrap64 (x14_1 + 1)), cl, cl, H', ⟨by have := HK1.out; have := HJ13.out; have := HJ19.out; omega⟩, ⟨by (with_reducible repeat (first | apply Kd.R_alloc | apply Kd.R_drewN | apply Kd.R_drew)); exact HO_3.out⟩, ⟨by (with_reducible repeat (first | apply Kd.R_alloc | apply Kd.R_drewN | apply Kd.R_drew)); exact Kd.R_mono HO_12.out (fun _ hk => trivial)⟩, ⟨bk⟩, ⟨bwS⟩⟩
           ·replace c26 := Bool.eq_false_iff.mpr c26
            subst c26
            have H1 : ((order_stops.f t806).bind fun t811 => (if t811 = true then (some x3_1) else ((order_command.f kj19 t806).bind fun bt812 => (if bt812.1 = 5 then (if x3_1.length < 4398046511104 then (order_Read.l0 kj19 (x3_1 ++ [(⟨bt812.1, bt812.2.1, bt812.2.2⟩ : S63)]) (wrap64 (x4_1 + 1)) t802 (t802.length : Int) (wrap64 (x14_1 + 1))) else (none)) else (if x3_1.length < 4398046511104 then (order_Read.l0 kj19 (x3_1 ++ [(⟨bt812.1, bt812.2.1, bt812.2.2⟩ : S63)]) x4_1 t802 (t802.length : Int) (wrap64 (x14_1 + 1))) else (none)))))) = some r := by rw [if_neg (show ¬ (false = true) by decide)] at H; exact H
            clear H
            have H := H1
            clear H1
            replace H := Option.bind_eq_some_iff.mp H
            obtain ⟨t811, A270, H⟩ := H
            replace H : (if t811 = true then (some x3_1) else ((order_command.f kj19 t806).bind fun bt812 => (if bt812.1 = 5 then (if x3_1.length < 4398046511104 then (order_Read.l0 kj19 (x3_1 ++ [(⟨bt812.1, bt812.2.1, bt812.2.2⟩ : S63)]) (wrap64 (x4_1 + 1)) t802 (t802.length : Int) (wrap64 (x14_1 + 1))) else (none)) else (if x3_1.length < 4398046511104 then (order_Read.l0 kj19 (x3_1 ++ [(⟨bt812.1, bt812.2.1, bt812.2.2⟩ : S63)]) x4_1 t802 (t802.length : Int) (wrap64 (x14_1 + 1))) else (none))))) = some r := H
            have A27 := Aside0.mk A270
            clear A270
            by_cases c28 : t811 = true
            ·subst c28
             have H1 : (some x3_1) = some r := by rw [if_pos rfl] at H; exact H
             clear H
             have H := H1
             clear H1
             obtain rfl := Option.some.inj H
             obtain ⟨Ao29, co29, eo29⟩ := Kd.R_slice HO_7.out
             subst eo29
             go_wp2_with (first | ((with_reducible refine gate_callee (f := 57) rfl ?_); refine goesL_ (some 40) rfl rfl Tryz.func57 (by kernel_rfl) rfl #[.slice Ao29 t806.length co29] rfl am ?_; (with_reducible refine (order_stops.calls _ _ t806 true _ ?side1 ?side2 A27.out).mono ?_); (case side1 => repeat (first | exact (Kd.R_reads' HO_7.out).2.2 | (with_reducible refine Kd.C_alloc ?_ _) | (with_reducible refine Kd.C_drewN ?_ _) | (with_reducible refine Kd.C_drew ?_))); (case side2 => exact (Kd.R_reads' HO_7.out).2.1); rintro e w' ⟨rfl, ⟨nd, rfl⟩⟩; refine ⟨_, rfl, ?_⟩))
             (try rw [Exit.noGoto_ret])
             go_ret
             exact ⟨_, by first | rfl | (simp [errW_none, errW_some] <;> rfl) | (simp [*, errW_none, errW_some] <;> rfl), by (with_reducible repeat (first | apply Kd.R_alloc | apply Kd.R_drewN | apply Kd.R_drew)); exact HO_3.out, bwS⟩
            ·replace c28 := Bool.eq_false_iff.mpr c28
             subst c28
             have H1 : ((order_command.f kj19 t806).bind fun bt812 => (if bt812.1 = 5 then (if x3_1.length < 4398046511104 then (order_Read.l0 kj19 (x3_1 ++ [(⟨bt812.1, bt812.2.1, bt812.2.2⟩ : S63)]) (wrap64 (x4_1 + 1)) t802 (t802.length : Int) (wrap64 (x14_1 + 1))) else (none)) else (if x3_1.length < 4398046511104 then (order_Read.l0 kj19 (x3_1 ++ [(⟨bt812.1, bt812.2.1, bt812.2.2⟩ : S63)]) x4_1 t802 (t802.length : Int) (wrap64 (x14_1 + 1))) else (none)))) = some r := by rw [if_neg (show ¬ (false = true) by decide)] at H; exact H
             clear H
             have H := H1
             clear H1
             replace H := Option.bind_eq_some_iff.mp H
             obtain ⟨⟨t812, t813, t814⟩, A300, H⟩ := H
             replace H : (if t812 = 5 then (if x3_1.length < 4398046511104 then (order_Read.l0 kj19 (x3_1 ++ [(⟨t812, t813, t814⟩ : S63)]) (wrap64 (x4_1 + 1)) t802 (t802.length : Int) (wrap64 (x14_1 + 1))) else (none)) else (if x3_1.length < 4398046511104 then (order_Read.l0 kj19 (x3_1 ++ [(⟨t812, t813, t814⟩ : S63)]) x4_1 t802 (t802.length : Int) (wrap64 (x14_1 + 1))) else (none))) = some r := H
             have A30 := Aside0.mk A300
             clear A300
             by_cases c31 : t812 = 5
             ·rw [if_pos c31] at H
              have c31b0 : (t812 == 5) = true := beq_iff_eq.mpr c31
              have c31b1 : (t812 != 5) = false := bne_eq_false_iff_eq.mpr c31
              clear c31
              by_cases c32 : x3_1.length < 4398046511104
              ·rw [if_pos c32] at H
               have LMc32 := Aside0.mk c32
               clear c32
               obtain ⟨y816, hy816⟩ : ∃ y_ : List (S63), y_ = (x3_1 ++ [(⟨t812, t813, t814⟩ : S63)]) := ⟨_, rfl⟩
               replace H : (order_Read.l0 kj19 y816 (wrap64 (x4_1 + 1)) t802 (t802.length : Int) (wrap64 (x14_1 + 1))) = some r := by first | (rw [hy816]; with_reducible exact H) | (have H2_ := (Option.bind_some _ _).symm.trans H; rw [hy816]; with_reducible exact H2_) | (have H2_ := (Option.bind_some _ _).symm.trans H; with_reducible exact H2_) | with_reducible exact H | (rw [hy816]; exact H) | exact H
               have Ny816 := Aside0.mk hy816
               clear hy816
               have H' := Aside0.mk H
               clear H
               obtain ⟨Ao33, co33, eo33⟩ := Kd.R_slice HO_7.out
               subst eo33
               go_wp2_with (first | ((with_reducible refine gate_callee (f := 57) rfl ?_); refine goesL_ (some 40) rfl rfl Tryz.func57 (by kernel_rfl) rfl #[.slice Ao33 t806.length co33] rfl am ?_; (with_reducible refine (order_stops.calls _ _ t806 false _ ?side1 ?side2 A27.out).mono ?_); (case side1 => repeat (first | exact (Kd.R_reads' HO_7.out).2.2 | (with_reducible refine Kd.C_alloc ?_ _) | (with_reducible refine Kd.C_drewN ?_ _) | (with_reducible refine Kd.C_drew ?_))); (case side2 => exact (Kd.R_reads' HO_7.out).2.1); rintro e w' ⟨rfl, ⟨nd, rfl⟩⟩; refine ⟨_, rfl, ?_⟩; (try (rw [drewN_self wc]; generalize hq_ : World.drewN wc _ = wc; have n0_ : Aside0 (Kd.R Kd.string 9 wc w.heap.size (fun k_ => some k_ ≠ (.slice Ao33 t806.length co33 : Value).ownBlock) (.slice (some ad805) t802.length co9) t802) := ⟨by rw [← hq_]; exact (by (with_reducible repeat (first | apply Kd.R_alloc | apply Kd.R_drewN | apply Kd.R_drew)); exact HO_12.out)⟩; have n1_ : Aside0 (Kd.R k63 63 wc w.heap.size (fun _ => True) u3 x3_1) := ⟨by rw [← hq_]; exact (by (with_reducible repeat (first | apply Kd.R_alloc | apply Kd.R_drewN | apply Kd.R_drew)); exact HO_3.out)⟩; have n2_ : Aside0 (Kd.R Kd.string 9 wc w.heap.size (fun k_ => some k_ ≠ (.slice (some ad805) t802.length co9 : Value).ownBlock) (.slice Ao33 t806.length co33) t806) := ⟨by rw [← hq_]; exact (by (with_reducible repeat (first | apply Kd.R_alloc | apply Kd.R_drewN | apply Kd.R_drew)); exact HO_7.out)⟩; have n3_ : Aside0 (wc.heap[gb798]? = some (.cells #[.slice A0_0 l0_0.length c0_0, .string a0_1] 29 (0, 0))) := ⟨by rw [← hq_]; exact bk⟩; have n4_ : Aside0 (Below w.heap.size w wc) := ⟨by rw [← hq_]; exact bwS⟩; clear HO_12 HO_3 HO_7 BK798 HB hq_; have HO_12 := n0_; have HO_3 := n1_; have HO_7 := n2_; have BK798 := n3_; have HB := n4_; clear n0_ n1_ n2_ n3_ n4_))) | ((with_reducible refine gate_callee (f := 58) rfl ?_); refine goesL_ (some 42) rfl rfl Tryz.func58 (by kernel_rfl) rfl #[.slice Ao33 t806.length co33] rfl am ?_; (with_reducible refine (order_command.calls kj19 _ _ t806 t812 t813 t814 _ ?side1 ?side2 A30.out).mono ?_); (case side1 => repeat (first | exact (Kd.R_reads' HO_7.out).2.2 | (with_reducible refine Kd.C_alloc ?_ _) | (with_reducible refine Kd.C_drewN ?_ _) | (with_reducible refine Kd.C_drew ?_))); (case side2 => exact (Kd.R_reads' HO_7.out).2.1); rintro e w34 ⟨rfl, hb⟩; refine ⟨_, rfl, ?_⟩; have n0_ := Aside0.mk (Kd.R_below (by (with_reducible repeat (first | apply Kd.R_alloc | apply Kd.R_drewN | apply Kd.R_drew)); exact HO_3.out) hb); have n1_ := Aside0.mk (Kd.R_below (by (with_reducible repeat (first | apply Kd.R_alloc | apply Kd.R_drewN | apply Kd.R_drew)); exact HO_7.out) hb); have n2_ := Aside0.mk (Kd.R_below (by (with_reducible repeat (first | apply Kd.R_alloc | apply Kd.R_drewN | apply Kd.R_drew)); exact HO_12.out) hb); have n3_ := Aside0.mk (blk_below (g := gb798) (o := .cells #[.slice A0_0 l0_0.length c0_0, .string a0_1] 29 (0, 0)) bk hb); have n4_ := Aside0.mk (below_step bwS hb); clear HO_3; clear HO_7; clear HO_12; clear BK798; clear HB; have HO_3 := n0_; have HO_7 := n1_; have HO_12 := n2_; have BK798 := n3_; have HB := n4_; clear n0_ n1_ n2_ n3_ n4_; (try clear hb); (try clear hb2); (try clear hk); (try clear hi)) | ((with_reducible refine gate_dst (N := 8) rfl ?_); refine box_event ?hg (N := 8) ?hd (cs := #[.int .i64 0, .int .i64 0, .string (⟨#[]⟩ : ByteArray)]) (t := 63) ?hr ?_; (case hd => rfl); (case hg => rfl); (case hr => first | (go_simp; done) | (go_simp; rfl)); intro gb815 hg w35 hbox hb; have n0_ := Aside0.mk (Kd.R_below (Kd.R_elderB (by (with_reducible repeat (first | apply Kd.R_alloc | apply Kd.R_drewN | apply Kd.R_drew)); exact HO_3.out) gb815 (Nat.le_of_eq hg.symm)) hb); have n1_ := Aside0.mk (Kd.R_below (by (with_reducible repeat (first | apply Kd.R_alloc | apply Kd.R_drewN | apply Kd.R_drew)); exact HO_7.out) hb); have n2_ := Aside0.mk (Kd.R_below (by (with_reducible repeat (first | apply Kd.R_alloc | apply Kd.R_drewN | apply Kd.R_drew)); exact HO_12.out) hb); have n3_ := Aside0.mk (blk_below (g := gb798) (o := .cells #[.slice A0_0 l0_0.length c0_0, .string a0_1] 29 (0, 0)) bk hb); have n4_ := Aside0.mk (below_step bwS hb); have n5_ := Aside0.mk (hbox); have n6_ := Aside0.mk ((by rw [hg]; exact (below_size bwS) : w.heap.size ≤ gb815)); have n7_ := Aside0.mk ((by rw [hg]; exact (below_size bwS) : w.heap.size ≤ gb815)); have n8_ := Aside0.mk ((by rw [hg]; exact Nat.ne_of_lt (blk_lt (g := gb798) (o := .cells #[.slice A0_0 l0_0.length c0_0, .string a0_1] 29 (0, 0)) bk) : gb798 ≠ gb815)); have n9_ := Aside0.mk ((by rw [hg]; exact Nat.ne_of_gt (blk_lt (g := gb798) (o := .cells #[.slice A0_0 l0_0.length c0_0, .string a0_1] 29 (0, 0)) bk) : gb815 ≠ gb798)); clear HO_3; clear HO_7; clear HO_12; clear BK798; clear HB; have HO_3 := n0_; have HO_7 := n1_; have HO_12 := n2_; have BK798 := n3_; have HB := n4_; have BK815 := n5_; have GW815 := n6_; have GE815 := n7_; have NB798_815 := n8_; have NB815_798 := n9_; clear n0_ n1_ n2_ n3_ n4_ n5_ n6_ n7_ n8_ n9_; clear hb hbox hg; have hnb36 := NB815_798.out; have hnc36 := NB798_815.out; have hcz37_0 : w35.cell? ⟨gb815, 0, none⟩ = some (.int .i64 0) := (blk_cell BK815.out 0).trans rfl; have hcz37_1 : w35.cell? ⟨gb815, 1, none⟩ = some (.int .i64 0) := (blk_cell BK815.out 1).trans rfl; have hcz37_2 : w35.cell? ⟨gb815, 2, none⟩ = some (.string (⟨#[]⟩ : ByteArray)) := (blk_cell BK815.out 2).trans rfl; have hfz37_0 := blk_frozen BK815.out 0; have hfz37_1 := blk_frozen BK815.out 1; have hfz37_2 := blk_frozen BK815.out 2) | ((with_reducible refine gate_builtin (b := .append) (xs := #[.tmp 48, .tmp 50]) rfl ?_); at_builtin; refine Kd.R_append k63 (w0 := w) w.heap.size rfl (.tmp 48) (.tmp 50) 58 63 (.agg #[(.int .i64 0), (.int .i64 0), (.string ⟨#[]⟩)]) 32 rfl Tryz.underlying58 info63 rfl (by decide) (by omega) u3 x3_1 (⟨t812, t813, t814⟩ : S63) [.int .i64 t812, .int .i64 t813, .string t814] (fun k_ => k_ ≠ gb815) (fun _ => False) rfl (by first | (go_simp; done) | (go_simp; rfl)) ?aP (fun _ hk => hk.elim) ?aF ?aO ?aB ?aS ?aL ?_; (case aP => exact k63_mkM _ _ _ (⟨t812, t813, t814⟩ : S63)); (case aB => exact bwS); (case aF => exact (fun k_ hk => Kd.freshB (g := gb815) (o := .cells #[.int .i64 t812, .int .i64 t813, .string t814] 63 (0, 0)) (by (with_reducible repeat (first | refine blk_drewN ?_ _ | refine blk_drew ?_ | refine blk_alloc ?_ _)); refine blk_put (cs := #[.int .i64 t812, .int .i64 t813, .string (⟨#[]⟩ : ByteArray)]) ?_ 2 _ rfl; (with_reducible repeat (first | refine blk_drewN ?_ _ | refine blk_drew ?_ | refine blk_alloc ?_ _)); refine blk_put (cs := #[.int .i64 t812, .int .i64 0, .string (⟨#[]⟩ : ByteArray)]) ?_ 1 _ rfl; (with_reducible repeat (first | refine blk_drewN ?_ _ | refine blk_drew ?_ | refine blk_alloc ?_ _)); refine blk_put (cs := #[.int .i64 0, .int .i64 0, .string (⟨#[]⟩ : ByteArray)]) ?_ 0 _ rfl; (with_reducible repeat (first | refine blk_drewN ?_ _ | refine blk_drew ?_ | refine blk_alloc ?_ _)); exact BK815.out) k_ hk)); (case aO => exact (by (with_reducible repeat (first | apply Kd.R_alloc | apply Kd.R_drewN | apply Kd.R_drew)); exact Kd.R_mono (Kd.R_far (p := ⟨gb815, 2, none⟩) (Kd.R_far (p := ⟨gb815, 1, none⟩) (Kd.R_far (p := ⟨gb815, 0, none⟩) (Kd.R_mono HO_3.out (fun k_ hk => (⟨hk, hk.2⟩ : _ ∧ k_ ≠ gb815))) (fun _ hk => hk.2) (.int .i64 t812)) (fun _ hk => hk.2) (.int .i64 t813)) (fun _ hk => hk.2) (.string t814)) (fun _ hk => hk.1.2))); (case aS => exact (below_size bwS)); (case aL => have := LMc32.out; omega); intro v817 w38 ho hb hg hat; rw [← Ny816.out] at ho; have n0_ := Aside0.mk (Kd.R_over' (by (with_reducible repeat (first | apply Kd.R_alloc | apply Kd.R_drewN | apply Kd.R_drew)); exact (Kd.R_mono (Kd.R_far (p := ⟨gb815, 2, none⟩) (Kd.R_far (p := ⟨gb815, 1, none⟩) (Kd.R_far (p := ⟨gb815, 0, none⟩) (Kd.R_types HO_7.out BK815.out (by decide)) (fun _ hk => hk.2) (.int .i64 t812)) (fun _ hk => hk.2) (.int .i64 t813)) (fun _ hk => hk.2) (.string t814)) (fun _ h_ => h_.1))) (Kd.R_typed (by (with_reducible repeat (first | apply Kd.R_alloc | apply Kd.R_drewN | apply Kd.R_drew)); exact (Kd.R_mono (Kd.R_far (p := ⟨gb815, 2, none⟩) (Kd.R_far (p := ⟨gb815, 1, none⟩) (Kd.R_far (p := ⟨gb815, 0, none⟩) (Kd.R_mono HO_3.out (fun k_ hk => (⟨hk, hk.2⟩ : _ ∧ k_ ≠ gb815))) (fun _ hk => hk.2) (.int .i64 t812)) (fun _ hk => hk.2) (.int .i64 t813)) (fun _ hk => hk.2) (.string t814)) (fun _ h_ => h_.1)))) (by decide) hg); have n1_ := Aside0.mk (Kd.R_over' (by (with_reducible repeat (first | apply Kd.R_alloc | apply Kd.R_drewN | apply Kd.R_drew)); exact (Kd.R_mono (Kd.R_far (p := ⟨gb815, 2, none⟩) (Kd.R_far (p := ⟨gb815, 1, none⟩) (Kd.R_far (p := ⟨gb815, 0, none⟩) (Kd.R_types HO_12.out BK815.out (by decide)) (fun _ hk => hk.2) (.int .i64 t812)) (fun _ hk => hk.2) (.int .i64 t813)) (fun _ hk => hk.2) (.string t814)) (fun _ h_ => h_.1))) (Kd.R_typed (by (with_reducible repeat (first | apply Kd.R_alloc | apply Kd.R_drewN | apply Kd.R_drew)); exact (Kd.R_mono (Kd.R_far (p := ⟨gb815, 2, none⟩) (Kd.R_far (p := ⟨gb815, 1, none⟩) (Kd.R_far (p := ⟨gb815, 0, none⟩) (Kd.R_mono HO_3.out (fun k_ hk => (⟨hk, hk.2⟩ : _ ∧ k_ ≠ gb815))) (fun _ hk => hk.2) (.int .i64 t812)) (fun _ hk => hk.2) (.int .i64 t813)) (fun _ hk => hk.2) (.string t814)) (fun _ h_ => h_.1)))) (by decide) hg); have n2_ := Aside0.mk (blk_grown (g := gb798) (o := .cells #[.slice A0_0 l0_0.length c0_0, .string a0_1] 29 (0, 0)) (by (with_reducible repeat (first | refine blk_drewN ?_ _ | refine blk_drew ?_ | refine blk_alloc ?_ _)); refine blk_far ?_ NB798_815.out _; (with_reducible repeat (first | refine blk_drewN ?_ _ | refine blk_drew ?_ | refine blk_alloc ?_ _)); refine blk_far ?_ NB798_815.out _; (with_reducible repeat (first | refine blk_drewN ?_ _ | refine blk_drew ?_ | refine blk_alloc ?_ _)); refine blk_far ?_ NB798_815.out _; (with_reducible repeat (first | refine blk_drewN ?_ _ | refine blk_drew ?_ | refine blk_alloc ?_ _)); exact BK798.out) hg (Kd.R_ne HO_3.out BK798.out (by decide))); have n3_ := Aside0.mk (blk_grown (g := gb815) (o := .cells #[.int .i64 t812, .int .i64 t813, .string t814] 63 (0, 0)) (by (with_reducible repeat (first | refine blk_drewN ?_ _ | refine blk_drew ?_ | refine blk_alloc ?_ _)); refine blk_put (cs := #[.int .i64 t812, .int .i64 t813, .string (⟨#[]⟩ : ByteArray)]) ?_ 2 _ rfl; (with_reducible repeat (first | refine blk_drewN ?_ _ | refine blk_drew ?_ | refine blk_alloc ?_ _)); refine blk_put (cs := #[.int .i64 t812, .int .i64 0, .string (⟨#[]⟩ : ByteArray)]) ?_ 1 _ rfl; (with_reducible repeat (first | refine blk_drewN ?_ _ | refine blk_drew ?_ | refine blk_alloc ?_ _)); refine blk_put (cs := #[.int .i64 0, .int .i64 0, .string (⟨#[]⟩ : ByteArray)]) ?_ 0 _ rfl; (with_reducible repeat (first | refine blk_drewN ?_ _ | refine blk_drew ?_ | refine blk_alloc ?_ _)); exact BK815.out) hg (Kd.R_away HO_3.out (fun _ hk => hk.2))); have n4_ := Aside0.mk (hb); have n5_ := Aside0.mk (ho); clear HO_7; clear HO_12; clear BK798; clear BK815; clear HB; clear HO_3; have HO_7 := n0_; have HO_12 := n1_; have BK798 := n2_; have BK815 := n3_; have HB := n4_; have HO818 := n5_; clear n0_ n1_ n2_ n3_ n4_ n5_; clear ho hb hg hat))
               go_roundg kj19
               case measure => have := HK1.out; have := HJ13.out; have := HJ19.out; omega
               case rel => exact ⟨(y816), (wrap64 (x4_1 + 1)), (wrap64 (x14_1 + 1)), cl, cl, H', ⟨by have := HK1.out; have := HJ13.out; have := HJ19.out; omega⟩, ⟨by (with_reducible repeat (first | apply Kd.R_alloc | apply Kd.R_drewN | apply Kd.R_drew)); exact Kd.R_mono HO818.out (fun _ hk => trivial)⟩, ⟨by (with_reducible repeat (first | apply Kd.R_alloc | apply Kd.R_drewN | apply Kd.R_drew)); exact Kd.R_mono HO_12.out (fun _ hk => trivial)⟩, ⟨bk⟩, ⟨bwS⟩⟩
              ·rw [if_neg c32] at H
               exact absurd H (by simp)
             ·rw [if_neg c31] at H
              have c31b0 : (t812 == 5) = false := beq_eq_false_iff_ne.mpr c31
              have c31b1 : (t812 != 5) = true := bne_iff_ne.mpr c31
              by_cases c39 : x3_1.length < 4398046511104
              ·rw [if_pos c39] at H
               have LMc39 := Aside0.mk c39
               clear c39
               obtain ⟨y819, hy819⟩ : ∃ y_ : List (S63), y_ = (x3_1 ++ [(⟨t812, t813, t814⟩ : S63)]) := ⟨_, rfl⟩
               replace H : (order_Read.l0 kj19 y819 x4_1 t802 (t802.length : Int) (wrap64 (x14_1 + 1))) = some r := by first | (rw [hy819]; with_reducible exact H) | (have H2_ := (Option.bind_some _ _).symm.trans H; rw [hy819]; with_reducible exact H2_) | (have H2_ := (Option.bind_some _ _).symm.trans H; with_reducible exact H2_) | with_reducible exact H | (rw [hy819]; exact H) | exact H
               have Ny819 := Aside0.mk hy819
               clear hy819
               have H' := Aside0.mk H
               clear H
               obtain ⟨Ao40, co40, eo40⟩ := Kd.R_slice HO_7.out
               subst eo40
               go_wp2_with (first | ((with_reducible refine gate_callee (f := 57) rfl ?_); refine goesL_ (some 40) rfl rfl Tryz.func57 (by kernel_rfl) rfl #[.slice Ao40 t806.length co40] rfl am ?_; (with_reducible refine (order_stops.calls _ _ t806 false _ ?side1 ?side2 A27.out).mono ?_); (case side1 => repeat (first | exact (Kd.R_reads' HO_7.out).2.2 | (with_reducible refine Kd.C_alloc ?_ _) | (with_reducible refine Kd.C_drewN ?_ _) | (with_reducible refine Kd.C_drew ?_))); (case side2 => exact (Kd.R_reads' HO_7.out).2.1); rintro e w' ⟨rfl, ⟨nd, rfl⟩⟩; refine ⟨_, rfl, ?_⟩; (try (rw [drewN_self wc]; generalize hq_ : World.drewN wc _ = wc; have n0_ : Aside0 (Kd.R Kd.string 9 wc w.heap.size (fun k_ => some k_ ≠ (.slice Ao40 t806.length co40 : Value).ownBlock) (.slice (some ad805) t802.length co9) t802) := ⟨by rw [← hq_]; exact (by (with_reducible repeat (first | apply Kd.R_alloc | apply Kd.R_drewN | apply Kd.R_drew)); exact HO_12.out)⟩; have n1_ : Aside0 (Kd.R k63 63 wc w.heap.size (fun _ => True) u3 x3_1) := ⟨by rw [← hq_]; exact (by (with_reducible repeat (first | apply Kd.R_alloc | apply Kd.R_drewN | apply Kd.R_drew)); exact HO_3.out)⟩; have n2_ : Aside0 (Kd.R Kd.string 9 wc w.heap.size (fun k_ => some k_ ≠ (.slice (some ad805) t802.length co9 : Value).ownBlock) (.slice Ao40 t806.length co40) t806) := ⟨by rw [← hq_]; exact (by (with_reducible repeat (first | apply Kd.R_alloc | apply Kd.R_drewN | apply Kd.R_drew)); exact HO_7.out)⟩; have n3_ : Aside0 (wc.heap[gb798]? = some (.cells #[.slice A0_0 l0_0.length c0_0, .string a0_1] 29 (0, 0))) := ⟨by rw [← hq_]; exact bk⟩; have n4_ : Aside0 (Below w.heap.size w wc) := ⟨by rw [← hq_]; exact bwS⟩; clear HO_12 HO_3 HO_7 BK798 HB hq_; have HO_12 := n0_; have HO_3 := n1_; have HO_7 := n2_; have BK798 := n3_; have HB := n4_; clear n0_ n1_ n2_ n3_ n4_))) | ((with_reducible refine gate_callee (f := 58) rfl ?_); refine goesL_ (some 42) rfl rfl Tryz.func58 (by kernel_rfl) rfl #[.slice Ao40 t806.length co40] rfl am ?_; (with_reducible refine (order_command.calls kj19 _ _ t806 t812 t813 t814 _ ?side1 ?side2 A30.out).mono ?_); (case side1 => repeat (first | exact (Kd.R_reads' HO_7.out).2.2 | (with_reducible refine Kd.C_alloc ?_ _) | (with_reducible refine Kd.C_drewN ?_ _) | (with_reducible refine Kd.C_drew ?_))); (case side2 => exact (Kd.R_reads' HO_7.out).2.1); rintro e w41 ⟨rfl, hb⟩; refine ⟨_, rfl, ?_⟩; have n0_ := Aside0.mk (Kd.R_below (by (with_reducible repeat (first | apply Kd.R_alloc | apply Kd.R_drewN | apply Kd.R_drew)); exact HO_3.out) hb); have n1_ := Aside0.mk (Kd.R_below (by (with_reducible repeat (first | apply Kd.R_alloc | apply Kd.R_drewN | apply Kd.R_drew)); exact HO_7.out) hb); have n2_ := Aside0.mk (Kd.R_below (by (with_reducible repeat (first | apply Kd.R_alloc | apply Kd.R_drewN | apply Kd.R_drew)); exact HO_12.out) hb); have n3_ := Aside0.mk (blk_below (g := gb798) (o := .cells #[.slice A0_0 l0_0.length c0_0, .string a0_1] 29 (0, 0)) bk hb); have n4_ := Aside0.mk (below_step bwS hb); clear HO_3; clear HO_7; clear HO_12; clear BK798; clear HB; have HO_3 := n0_; have HO_7 := n1_; have HO_12 := n2_; have BK798 := n3_; have HB := n4_; clear n0_ n1_ n2_ n3_ n4_; (try clear hb); (try clear hb2); (try clear hk); (try clear hi)) | ((with_reducible refine gate_dst (N := 8) rfl ?_); refine box_event ?hg (N := 8) ?hd (cs := #[.int .i64 0, .int .i64 0, .string (⟨#[]⟩ : ByteArray)]) (t := 63) ?hr ?_; (case hd => rfl); (case hg => rfl); (case hr => first | (go_simp; done) | (go_simp; rfl)); intro gb815 hg w42 hbox hb; have n0_ := Aside0.mk (Kd.R_below (Kd.R_elderB (by (with_reducible repeat (first | apply Kd.R_alloc | apply Kd.R_drewN | apply Kd.R_drew)); exact HO_3.out) gb815 (Nat.le_of_eq hg.symm)) hb); have n1_ := Aside0.mk (Kd.R_below (by (with_reducible repeat (first | apply Kd.R_alloc | apply Kd.R_drewN | apply Kd.R_drew)); exact HO_7.out) hb); have n2_ := Aside0.mk (Kd.R_below (by (with_reducible repeat (first | apply Kd.R_alloc | apply Kd.R_drewN | apply Kd.R_drew)); exact HO_12.out) hb); have n3_ := Aside0.mk (blk_below (g := gb798) (o := .cells #[.slice A0_0 l0_0.length c0_0, .string a0_1] 29 (0, 0)) bk hb); have n4_ := Aside0.mk (below_step bwS hb); have n5_ := Aside0.mk (hbox); have n6_ := Aside0.mk ((by rw [hg]; exact (below_size bwS) : w.heap.size ≤ gb815)); have n7_ := Aside0.mk ((by rw [hg]; exact (below_size bwS) : w.heap.size ≤ gb815)); have n8_ := Aside0.mk ((by rw [hg]; exact Nat.ne_of_lt (blk_lt (g := gb798) (o := .cells #[.slice A0_0 l0_0.length c0_0, .string a0_1] 29 (0, 0)) bk) : gb798 ≠ gb815)); have n9_ := Aside0.mk ((by rw [hg]; exact Nat.ne_of_gt (blk_lt (g := gb798) (o := .cells #[.slice A0_0 l0_0.length c0_0, .string a0_1] 29 (0, 0)) bk) : gb815 ≠ gb798)); clear HO_3; clear HO_7; clear HO_12; clear BK798; clear HB; have HO_3 := n0_; have HO_7 := n1_; have HO_12 := n2_; have BK798 := n3_; have HB := n4_; have BK815 := n5_; have GW815 := n6_; have GE815 := n7_; have NB798_815 := n8_; have NB815_798 := n9_; clear n0_ n1_ n2_ n3_ n4_ n5_ n6_ n7_ n8_ n9_; clear hb hbox hg; have hnb43 := NB815_798.out; have hnc43 := NB798_815.out; have hcz44_0 : w42.cell? ⟨gb815, 0, none⟩ = some (.int .i64 0) := (blk_cell BK815.out 0).trans rfl; have hcz44_1 : w42.cell? ⟨gb815, 1, none⟩ = some (.int .i64 0) := (blk_cell BK815.out 1).trans rfl; have hcz44_2 : w42.cell? ⟨gb815, 2, none⟩ = some (.string (⟨#[]⟩ : ByteArray)) := (blk_cell BK815.out 2).trans rfl; have hfz44_0 := blk_frozen BK815.out 0; have hfz44_1 := blk_frozen BK815.out 1; have hfz44_2 := blk_frozen BK815.out 2) | ((with_reducible refine gate_builtin (b := .append) (xs := #[.tmp 48, .tmp 50]) rfl ?_); at_builtin; refine Kd.R_append k63 (w0 := w) w.heap.size rfl (.tmp 48) (.tmp 50) 58 63 (.agg #[(.int .i64 0), (.int .i64 0), (.string ⟨#[]⟩)]) 32 rfl Tryz.underlying58 info63 rfl (by decide) (by omega) u3 x3_1 (⟨t812, t813, t814⟩ : S63) [.int .i64 t812, .int .i64 t813, .string t814] (fun k_ => k_ ≠ gb815) (fun _ => False) rfl (by first | (go_simp; done) | (go_simp; rfl)) ?aP (fun _ hk => hk.elim) ?aF ?aO ?aB ?aS ?aL ?_; (case aP => exact k63_mkM _ _ _ (⟨t812, t813, t814⟩ : S63)); (case aB => exact bwS); (case aF => exact (fun k_ hk => Kd.freshB (g := gb815) (o := .cells #[.int .i64 t812, .int .i64 t813, .string t814] 63 (0, 0)) (by (with_reducible repeat (first | refine blk_drewN ?_ _ | refine blk_drew ?_ | refine blk_alloc ?_ _)); refine blk_put (cs := #[.int .i64 t812, .int .i64 t813, .string (⟨#[]⟩ : ByteArray)]) ?_ 2 _ rfl; (with_reducible repeat (first | refine blk_drewN ?_ _ | refine blk_drew ?_ | refine blk_alloc ?_ _)); refine blk_put (cs := #[.int .i64 t812, .int .i64 0, .string (⟨#[]⟩ : ByteArray)]) ?_ 1 _ rfl; (with_reducible repeat (first | refine blk_drewN ?_ _ | refine blk_drew ?_ | refine blk_alloc ?_ _)); refine blk_put (cs := #[.int .i64 0, .int .i64 0, .string (⟨#[]⟩ : ByteArray)]) ?_ 0 _ rfl; (with_reducible repeat (first | refine blk_drewN ?_ _ | refine blk_drew ?_ | refine blk_alloc ?_ _)); exact BK815.out) k_ hk)); (case aO => exact (by (with_reducible repeat (first | apply Kd.R_alloc | apply Kd.R_drewN | apply Kd.R_drew)); exact Kd.R_mono (Kd.R_far (p := ⟨gb815, 2, none⟩) (Kd.R_far (p := ⟨gb815, 1, none⟩) (Kd.R_far (p := ⟨gb815, 0, none⟩) (Kd.R_mono HO_3.out (fun k_ hk => (⟨hk, hk.2⟩ : _ ∧ k_ ≠ gb815))) (fun _ hk => hk.2) (.int .i64 t812)) (fun _ hk => hk.2) (.int .i64 t813)) (fun _ hk => hk.2) (.string t814)) (fun _ hk => hk.1.2))); (case aS => exact (below_size bwS)); (case aL => have := LMc39.out; omega); intro v820 w45 ho hb hg hat; rw [← Ny819.out] at ho; have n0_ := Aside0.mk (Kd.R_over' (by (with_reducible repeat (first | apply Kd.R_alloc | apply Kd.R_drewN | apply Kd.R_drew)); exact (Kd.R_mono (Kd.R_far (p := ⟨gb815, 2, none⟩) (Kd.R_far (p := ⟨gb815, 1, none⟩) (Kd.R_far (p := ⟨gb815, 0, none⟩) (Kd.R_types HO_7.out BK815.out (by decide)) (fun _ hk => hk.2) (.int .i64 t812)) (fun _ hk => hk.2) (.int .i64 t813)) (fun _ hk => hk.2) (.string t814)) (fun _ h_ => h_.1))) (Kd.R_typed (by (with_reducible repeat (first | apply Kd.R_alloc | apply Kd.R_drewN | apply Kd.R_drew)); exact (Kd.R_mono (Kd.R_far (p := ⟨gb815, 2, none⟩) (Kd.R_far (p := ⟨gb815, 1, none⟩) (Kd.R_far (p := ⟨gb815, 0, none⟩) (Kd.R_mono HO_3.out (fun k_ hk => (⟨hk, hk.2⟩ : _ ∧ k_ ≠ gb815))) (fun _ hk => hk.2) (.int .i64 t812)) (fun _ hk => hk.2) (.int .i64 t813)) (fun _ hk => hk.2) (.string t814)) (fun _ h_ => h_.1)))) (by decide) hg); have n1_ := Aside0.mk (Kd.R_over' (by (with_reducible repeat (first | apply Kd.R_alloc | apply Kd.R_drewN | apply Kd.R_drew)); exact (Kd.R_mono (Kd.R_far (p := ⟨gb815, 2, none⟩) (Kd.R_far (p := ⟨gb815, 1, none⟩) (Kd.R_far (p := ⟨gb815, 0, none⟩) (Kd.R_types HO_12.out BK815.out (by decide)) (fun _ hk => hk.2) (.int .i64 t812)) (fun _ hk => hk.2) (.int .i64 t813)) (fun _ hk => hk.2) (.string t814)) (fun _ h_ => h_.1))) (Kd.R_typed (by (with_reducible repeat (first | apply Kd.R_alloc | apply Kd.R_drewN | apply Kd.R_drew)); exact (Kd.R_mono (Kd.R_far (p := ⟨gb815, 2, none⟩) (Kd.R_far (p := ⟨gb815, 1, none⟩) (Kd.R_far (p := ⟨gb815, 0, none⟩) (Kd.R_mono HO_3.out (fun k_ hk => (⟨hk, hk.2⟩ : _ ∧ k_ ≠ gb815))) (fun _ hk => hk.2) (.int .i64 t812)) (fun _ hk => hk.2) (.int .i64 t813)) (fun _ hk => hk.2) (.string t814)) (fun _ h_ => h_.1)))) (by decide) hg); have n2_ := Aside0.mk (blk_grown (g := gb798) (o := .cells #[.slice A0_0 l0_0.length c0_0, .string a0_1] 29 (0, 0)) (by (with_reducible repeat (first | refine blk_drewN ?_ _ | refine blk_drew ?_ | refine blk_alloc ?_ _)); refine blk_far ?_ NB798_815.out _; (with_reducible repeat (first | refine blk_drewN ?_ _ | refine blk_drew ?_ | refine blk_alloc ?_ _)); refine blk_far ?_ NB798_815.out _; (with_reducible repeat (first | refine blk_drewN ?_ _ | refine blk_drew ?_ | refine blk_alloc ?_ _)); refine blk_far ?_ NB798_815.out _; (with_reducible repeat (first | refine blk_drewN ?_ _ | refine blk_drew ?_ | refine blk_alloc ?_ _)); exact BK798.out) hg (Kd.R_ne HO_3.out BK798.out (by decide))); have n3_ := Aside0.mk (blk_grown (g := gb815) (o := .cells #[.int .i64 t812, .int .i64 t813, .string t814] 63 (0, 0)) (by (with_reducible repeat (first | refine blk_drewN ?_ _ | refine blk_drew ?_ | refine blk_alloc ?_ _)); refine blk_put (cs := #[.int .i64 t812, .int .i64 t813, .string (⟨#[]⟩ : ByteArray)]) ?_ 2 _ rfl; (with_reducible repeat (first | refine blk_drewN ?_ _ | refine blk_drew ?_ | refine blk_alloc ?_ _)); refine blk_put (cs := #[.int .i64 t812, .int .i64 0, .string (⟨#[]⟩ : ByteArray)]) ?_ 1 _ rfl; (with_reducible repeat (first | refine blk_drewN ?_ _ | refine blk_drew ?_ | refine blk_alloc ?_ _)); refine blk_put (cs := #[.int .i64 0, .int .i64 0, .string (⟨#[]⟩ : ByteArray)]) ?_ 0 _ rfl; (with_reducible repeat (first | refine blk_drewN ?_ _ | refine blk_drew ?_ | refine blk_alloc ?_ _)); exact BK815.out) hg (Kd.R_away HO_3.out (fun _ hk => hk.2))); have n4_ := Aside0.mk (hb); have n5_ := Aside0.mk (ho); clear HO_7; clear HO_12; clear BK798; clear BK815; clear HB; clear HO_3; have HO_7 := n0_; have HO_12 := n1_; have BK798 := n2_; have BK815 := n3_; have HB := n4_; have HO821 := n5_; clear n0_ n1_ n2_ n3_ n4_ n5_; clear ho hb hg hat))
               go_roundg kj19
               case measure => have := HK1.out; have := HJ13.out; have := HJ19.out; omega
               case rel => exact ⟨(y819), (x4_1), (wrap64 (x14_1 + 1)), cl, cl, H', ⟨by have := HK1.out; have := HJ13.out; have := HJ19.out; omega⟩, ⟨by (with_reducible repeat (first | apply Kd.R_alloc | apply Kd.R_drewN | apply Kd.R_drew)); exact Kd.R_mono HO821.out (fun _ hk => trivial)⟩, ⟨by (with_reducible repeat (first | apply Kd.R_alloc | apply Kd.R_drewN | apply Kd.R_drew)); exact Kd.R_mono HO_12.out (fun _ hk => trivial)⟩, ⟨bk⟩, ⟨bwS⟩⟩
              ·rw [if_neg c39] at H
               exact absurd H (by simp)
     ·rw [if_neg c12] at H
      exact absurd H (by simp)
    ·rw [if_neg c11] at H
     exact absurd H (by simp)
   ·rw [if_neg c10] at H
    have c10b0 : decide (x14_1 < (t802.length : Int)) = false := decide_eq_false c10
    clear c10
    obtain rfl := Option.some.inj H
    go_wp2
    (try rw [Exit.noGoto_ret])
    go_ret
    exact ⟨_, by first | rfl | (simp [errW_none, errW_some] <;> rfl) | (simp [*, errW_none, errW_some] <;> rfl), by (with_reducible repeat (first | apply Kd.R_alloc | apply Kd.R_drewN | apply Kd.R_drew)); exact HO_3.out, bwS⟩

end Go.Proofs.YtihabmcaplnbcaaGreatDoor.Fn
namespace Go.Proofs.YtihabmcaplnbcaaGreatDoor.Fn
open Go.RowKit Go.Proofs.YtihabmcaplnbcaaGreatDoorW.PrintWords Go.Proofs.YtihabmcaplnbcaaGreatDoorW.PrintLast Go.Proofs.YtihabmcaplnbcaaGreatDoorW.PrintMore
attribute [local go_sem] max2_int min2_int max_two min_two max_three min_three max_four min_four
set_option linter.unusedVariables false
set_option linter.unusedSimpArgs false

/-! ### bulletinlaw35_OrderFew: function 6 -/
def bulletinlaw35_OrderFew.l0 : Nat → List (S63) → Int → Int → Int → Option (Bool)
 | 0, _, _, _, _ => none
 | k + 1, x3, x4, x15, x16 => if x16 < x15 then (if 0 ≤ x16 then (if x16 < (x3.length : Int) then (if ((rd_T63 x3 x16).f0) = 5 then (if (wrap64 (x4 + 1)) = 3 then (if x16 = (wrap64 ((x3.length : Int) - 1)) then (bulletinlaw35_OrderFew.l0 k x3 (wrap64 (x4 + 1)) x15 (wrap64 (x16 + 1))) else (some false)) else (bulletinlaw35_OrderFew.l0 k x3 (wrap64 (x4 + 1)) x15 (wrap64 (x16 + 1)))) else (if x4 = 3 then (if x16 = (wrap64 ((x3.length : Int) - 1)) then (bulletinlaw35_OrderFew.l0 k x3 x4 x15 (wrap64 (x16 + 1))) else (some false)) else (bulletinlaw35_OrderFew.l0 k x3 x4 x15 (wrap64 (x16 + 1))))) else (none)) else (none)) else (if (x3.length : Int) ≤ 8 then (some (decide (x4 ≤ 3))) else (some false))
def bulletinlaw35_OrderFew.f (k : Nat) (l0_0 : List (S74)) (a0_1 : ByteArray) : Option (Bool) := (bulletinlaw35_works.f k).bind fun t988 => (if t988 = true then ((bulletinlaw16_Light.f k l0_0 a0_1).bind fun t989 => (if t989 = true then ((bulletinlaw16_To.f k l0_0 a0_1).bind fun bt990 => ((order_Read.f k bt990.1 bt990.2).bind fun t994 => (bulletinlaw35_OrderFew.l0 k t994 0 (t994.length : Int) 0))) else (some true))) else (some false))
set_option maxHeartbeats 8000000 in
set_option maxRecDepth 100000 in
theorem bulletinlaw35_OrderFew.calls (k : Nat) (A0_0 : Option Addr) (c0_0 : Nat) (l0_0 : List (S74)) (a0_1 : ByteArray) (r : Bool) (w : World) (hG : Glob w) (hr0_0 : Kd.C k74 w A0_0 l0_0.length l0_0) (hc0_0 : l0_0.length ≤ c0_0) (h : bulletinlaw35_OrderFew.f k l0_0 a0_1 = some r) :
  Calls Tryz.prog 6 #[.agg #[.slice A0_0 l0_0.length c0_0, .string a0_1]] w fun e w' => e = .returned (.bool r) ∧ Below w.heap.size w w' := by
 have hu24 := Tryz.underlying24
 have HR0_0 := Aside0.mk hr0_0
 have HC0_0 := Aside0.mk hc0_0
 clear hr0_0 hc0_0
 have HB := Aside0.mk (Below.refl w.heap.size w)
 have H : ((bulletinlaw35_works.f k).bind fun t988 => (if t988 = true then ((bulletinlaw16_Light.f k l0_0 a0_1).bind fun t989 => (if t989 = true then ((bulletinlaw16_To.f k l0_0 a0_1).bind fun bt990 => ((order_Read.f k bt990.1 bt990.2).bind fun t994 => (bulletinlaw35_OrderFew.l0 k t994 0 (t994.length : Int) 0))) else (some true))) else (some false))) = some r := h
 clear h
 replace H := Option.bind_eq_some_iff.mp H
 obtain ⟨t988, A20, H⟩ := H
 replace H : (if t988 = true then ((bulletinlaw16_Light.f k l0_0 a0_1).bind fun t989 => (if t989 = true then ((bulletinlaw16_To.f k l0_0 a0_1).bind fun bt990 => ((order_Read.f k bt990.1 bt990.2).bind fun t994 => (bulletinlaw35_OrderFew.l0 k t994 0 (t994.length : Int) 0))) else (some true))) else (some false)) = some r := H
 have A2 := Aside0.mk A20
 clear A20
 by_cases c3 : t988 = true
 ·subst c3
  have H1 : ((bulletinlaw16_Light.f k l0_0 a0_1).bind fun t989 => (if t989 = true then ((bulletinlaw16_To.f k l0_0 a0_1).bind fun bt990 => ((order_Read.f k bt990.1 bt990.2).bind fun t994 => (bulletinlaw35_OrderFew.l0 k t994 0 (t994.length : Int) 0))) else (some true))) = some r := by rw [if_pos rfl] at H; exact H
  clear H
  have H := H1
  clear H1
  replace H := Option.bind_eq_some_iff.mp H
  obtain ⟨t989, A40, H⟩ := H
  replace H : (if t989 = true then ((bulletinlaw16_To.f k l0_0 a0_1).bind fun bt990 => ((order_Read.f k bt990.1 bt990.2).bind fun t994 => (bulletinlaw35_OrderFew.l0 k t994 0 (t994.length : Int) 0))) else (some true)) = some r := H
  have A4 := Aside0.mk A40
  clear A40
  by_cases c5 : t989 = true
  ·subst c5
   have H1 : ((bulletinlaw16_To.f k l0_0 a0_1).bind fun bt990 => ((order_Read.f k bt990.1 bt990.2).bind fun t994 => (bulletinlaw35_OrderFew.l0 k t994 0 (t994.length : Int) 0))) = some r := by rw [if_pos rfl] at H; exact H
   clear H
   have H := H1
   clear H1
   replace H := Option.bind_eq_some_iff.mp H
   obtain ⟨⟨t990, t993⟩, A60, H⟩ := H
   replace H : ((order_Read.f k t990 t993).bind fun t994 => (bulletinlaw35_OrderFew.l0 k t994 0 (t994.length : Int) 0)) = some r := H
   have A6 := Aside0.mk A60
   clear A60
   replace H := Option.bind_eq_some_iff.mp H
   obtain ⟨t994, A70, H⟩ := H
   replace H : (bulletinlaw35_OrderFew.l0 k t994 0 (t994.length : Int) 0) = some r := H
   have A7 := Aside0.mk A70
   clear A70
   have H' := Aside0.mk H
   clear H
   go_enter Tryz.func6, Tryz.ntmps6
   go_wp2_with (first | ((with_reducible refine gate_dst (N := 1) rfl ?_); (try (refine gate_guard (by rfl) ?_; dsimp only)); refine box_event ?hg (N := 1) ?hd (cs := #[.slice A0_0 l0_0.length c0_0, .string a0_1]) (t := 24) ?hr ?_; (case hd => rfl); (case hg => rfl); (case hr => first | (go_simp; done) | (go_simp; rfl)); intro gb987 hg w8 hbox hb; have n0_ := Aside0.mk (below_step bw hb); have n1_ := Aside0.mk (hbox); have n2_ := Aside0.mk ((by rw [hg]; exact (below_size bw) : w.heap.size ≤ gb987)); have n3_ := Aside0.mk ((by rw [hg]; exact (below_size bw) : w.heap.size ≤ gb987)); clear HB; have HB := n0_; have BK987 := n1_; have GW987 := n2_; have GE987 := n3_; clear n0_ n1_ n2_ n3_; clear hb hbox hg) | ((with_reducible refine gate_callee (f := 27) rfl ?_); refine goesL_ (some 6) rfl rfl Tryz.func27 (by kernel_rfl) rfl #[] rfl am ?_; (with_reducible refine (bulletinlaw35_works.calls k  true _ A2.out).mono ?_); rintro e w9 ⟨rfl, hb⟩; refine ⟨_, rfl, ?_⟩; have n0_ := Aside0.mk (blk_below (g := gb987) (o := .cells #[.slice A0_0 l0_0.length c0_0, .string a0_1] 24 (0, 0)) bk hb); have n1_ := Aside0.mk (below_step bwS hb); clear BK987; clear HB; have BK987 := n0_; have HB := n1_; clear n0_ n1_; (try clear hb); (try clear hb2); (try clear hk); (try clear hi); have hcz10_0 : w9.cell? ⟨gb987, 0, none⟩ = some (.slice A0_0 l0_0.length c0_0) := (blk_cell BK987.out 0).trans rfl; have hcz10_1 : w9.cell? ⟨gb987, 1, none⟩ = some (.string a0_1) := (blk_cell BK987.out 1).trans rfl; have hfz10_0 := blk_frozen BK987.out 0; have hfz10_1 := blk_frozen BK987.out 1) | ((with_reducible refine gate_callee (f := 7) rfl ?_); refine goesL_ (some 9) rfl rfl Tryz.func7 (by kernel_rfl) rfl #[.agg #[.slice A0_0 l0_0.length c0_0, .string a0_1]] rfl am ?_; (with_reducible refine (bulletinlaw16_Light.calls k _ _ l0_0 a0_1 true _ ?side1 ?side2 A4.out).mono ?_); (case side1 => repeat (first | exact (Kd.C_below HR0_0.out HB.out) | (with_reducible refine Kd.C_alloc ?_ _) | (with_reducible refine Kd.C_drewN ?_ _) | (with_reducible refine Kd.C_drew ?_))); (case side2 => exact HC0_0.out); rintro e w11 ⟨rfl, hb⟩; refine ⟨_, rfl, ?_⟩; have n0_ := Aside0.mk (blk_below (g := gb987) (o := .cells #[.slice A0_0 l0_0.length c0_0, .string a0_1] 24 (0, 0)) bk hb); have n1_ := Aside0.mk (below_step bwS hb); clear BK987; clear HB; have BK987 := n0_; have HB := n1_; clear n0_ n1_; (try clear hb); (try clear hb2); (try clear hk); (try clear hi); have hcz12_0 : w11.cell? ⟨gb987, 0, none⟩ = some (.slice A0_0 l0_0.length c0_0) := (blk_cell BK987.out 0).trans rfl; have hcz12_1 : w11.cell? ⟨gb987, 1, none⟩ = some (.string a0_1) := (blk_cell BK987.out 1).trans rfl; have hfz12_0 := blk_frozen BK987.out 0; have hfz12_1 := blk_frozen BK987.out 1) | ((with_reducible refine gate_callee (f := 9) rfl ?_); refine goesL_ (some 12) rfl rfl Tryz.func9 (by kernel_rfl) rfl #[.agg #[.slice A0_0 l0_0.length c0_0, .string a0_1]] rfl am ?_; (with_reducible refine (bulletinlaw16_To.calls k _ _ l0_0 a0_1 t990 t993 _ ?side1 ?side2 A6.out).mono ?_); (case side1 => repeat (first | exact (Kd.C_below HR0_0.out HB.out) | (with_reducible refine Kd.C_alloc ?_ _) | (with_reducible refine Kd.C_drewN ?_ _) | (with_reducible refine Kd.C_drew ?_))); (case side2 => exact HC0_0.out); rintro e w13 ⟨v991, rfl, ho0, hb⟩; refine ⟨_, rfl, ?_⟩; have n0_ := Aside0.mk (Kd.R_lower ho0 (below_size bwS)); have n1_ := Aside0.mk (blk_below (g := gb987) (o := .cells #[.slice A0_0 l0_0.length c0_0, .string a0_1] 24 (0, 0)) bk hb); have n2_ := Aside0.mk (below_step bwS hb); clear BK987; clear HB; have HO992 := n0_; have BK987 := n1_; have HB := n2_; clear n0_ n1_ n2_; (try clear hb); (try clear hb2); (try clear hk); (try clear hi); (try clear ho0); obtain ⟨Ao14, co14, eo14⟩ := Kd.R_slice HO992.out; subst eo14) | ((with_reducible refine gate_callee (f := 28) rfl ?_); refine goesL_ (some 13) rfl rfl Tryz.func28 (by kernel_rfl) rfl #[.agg #[.slice Ao14 t990.length co14, .string t993]] rfl am ?_; (with_reducible refine (order_Read.calls (hG := by first | exact hG | exact Glob.below hG (by first | exact HB.out | (repeat (first | (with_reducible first | exact HB.out | apply below_alloc | apply pw_below_drewN | apply below_drew1 | refine below_set ?_ GE987.out) | exact HB.out))) | exact Glob.drawn hG (by repeat (first | exact Drawn0.refl _ | apply Drawn0.step))) k _ _ t990 t993 t994 _ ?side1 ?side2 A7.out).mono ?_); (case side1 => repeat (first | exact (Kd.R_reads' HO992.out).2.2 | (with_reducible refine Kd.C_alloc ?_ _) | (with_reducible refine Kd.C_drewN ?_ _) | (with_reducible refine Kd.C_drew ?_))); (case side2 => exact (Kd.R_reads' HO992.out).2.1); rintro e w15 ⟨v995, rfl, ho0, hb⟩; refine ⟨_, rfl, ?_⟩; have n0_ := Aside0.mk (Kd.R_below (by (with_reducible repeat (first | apply Kd.R_alloc | apply Kd.R_drewN | apply Kd.R_drew)); exact HO992.out) hb); have n1_ := Aside0.mk (Kd.R_lower ho0 (below_size bwS)); have n2_ := Aside0.mk (blk_below (g := gb987) (o := .cells #[.slice A0_0 l0_0.length c0_0, .string a0_1] 24 (0, 0)) bk hb); have n3_ := Aside0.mk (below_step bwS hb); clear HO992; clear BK987; clear HB; have HO992 := n0_; have HO996 := n1_; have BK987 := n2_; have HB := n3_; clear n0_ n1_ n2_ n3_; (try clear hb); (try clear hb2); (try clear hk); (try clear hi); (try clear ho0); obtain ⟨Ao16, co16, eo16⟩ := Kd.R_slice HO996.out; subst eo16))
   go_loopg [4, 16] k (fun kq v4 v16 w' => ∃ (x4_1 : Int) (x16_1 : Int), v4 = .int .i64 x4_1 ∧ v16 = .int .i64 x16_1 ∧ Aside0 (bulletinlaw35_OrderFew.l0 kq t994 x4_1 (t994.length : Int) x16_1 = some r) ∧ Aside0 (kq ≤ k) ∧ Aside0 (Kd.R k63 63 w' w.heap.size (fun _ => True) (.slice Ao16 t994.length co16) t994) ∧ Aside0 (w'.heap[gb987]? = some (.cells #[(.slice A0_0 l0_0.length c0_0), .string a0_1] 24 (0, 0))) ∧ Aside0 (Below w.heap.size w w'))
   case atStart => exact ⟨(0), (0), cl, cl, H', ⟨Nat.le_refl _⟩, ⟨by (with_reducible repeat (first | apply Kd.R_alloc | apply Kd.R_drewN | apply Kd.R_drew)); exact HO996.out⟩, ⟨bk⟩, ⟨bwS⟩⟩
   case round =>
    clear H'
    try clear c2
    try clear p2
    try clear c3
    try clear c5
    try clear c6
    try clear c7
    try clear c9
    try clear hcz10_0
    try clear hcz10_1
    try clear hcz12_0
    try clear hcz12_1
    try clear hfz10_0
    try clear hfz10_1
    try clear hfz12_0
    try clear hfz12_1
    obtain ⟨x4_1, x16_1, rfl, rfl, HA, HK1, HO_3, BK987, HB⟩ := hrel
    cases gk with
    | zero => exact absurd HA.out (by simp [bulletinlaw35_OrderFew.l0])
    | succ k1 =>
     have H := HA.out
     clear HA
     simp only [bulletinlaw35_OrderFew.l0] at H
     by_cases c17 : x16_1 < (t994.length : Int)
     ·rw [if_pos c17] at H
      have c17b0 : decide (x16_1 < (t994.length : Int)) = true := decide_eq_true c17
      clear c17
      by_cases c18 : 0 ≤ x16_1
      ·rw [if_pos c18] at H
       have c18b0 : decide (0 ≤ x16_1) = true := decide_eq_true c18
       clear c18
       by_cases c19 : x16_1 < (t994.length : Int)
       ·rw [if_pos c19] at H
        have c19b0 : decide (x16_1 < (t994.length : Int)) = true := decide_eq_true c19
        clear c19
        by_cases c20 : ((rd_T63 t994 x16_1).f0) = 5
        ·rw [if_pos c20] at H
         have c20b0 : (((rd_T63 t994 x16_1).f0) == 5) = true := beq_iff_eq.mpr c20
         have c20b1 : (((rd_T63 t994 x16_1).f0) != 5) = false := bne_eq_false_iff_eq.mpr c20
         clear c20
         by_cases c21 : (wrap64 (x4_1 + 1)) = 3
         ·rw [if_pos c21] at H
          have c21b0 : ((wrap64 (x4_1 + 1)) == 3) = true := beq_iff_eq.mpr c21
          have c21b1 : ((wrap64 (x4_1 + 1)) != 3) = false := bne_eq_false_iff_eq.mpr c21
          clear c21
          by_cases c22 : x16_1 = (wrap64 ((t994.length : Int) - 1))
          ·rw [if_pos c22] at H
           have c22b0 : (x16_1 == (wrap64 ((t994.length : Int) - 1))) = true := beq_iff_eq.mpr c22
           have c22b1 : (x16_1 != (wrap64 ((t994.length : Int) - 1))) = false := bne_eq_false_iff_eq.mpr c22
           clear c22
           have H' := Aside0.mk H
           clear H
           have p997 : 0 ≤ (x16_1 : Int) := od
           have q997 : x16_1 < (t994.length : Int) := od
           obtain ⟨ad997, e997, hx997_0, hx997_1, hx997_2⟩ := at_T63 (Kd.R_reads' HO_3.out).2.2 x16_1 p997 q997
           cases e997
           replace p997 := eq_true p997
           replace q997 := eq_true q997
           go_wp2
           go_roundg k1
           case measure => have := HK1.out; omega
           case rel => exact ⟨(wrap64 (x4_1 + 1)), (wrap64 (x16_1 + 1)), cl, cl, H', ⟨by have := HK1.out; omega⟩, ⟨by (with_reducible repeat (first | apply Kd.R_alloc | apply Kd.R_drewN | apply Kd.R_drew)); exact HO_3.out⟩, ⟨bk⟩, ⟨bwS⟩⟩
          ·rw [if_neg c22] at H
           have c22b0 : (x16_1 == (wrap64 ((t994.length : Int) - 1))) = false := beq_eq_false_iff_ne.mpr c22
           have c22b1 : (x16_1 != (wrap64 ((t994.length : Int) - 1))) = true := bne_iff_ne.mpr c22
           obtain rfl := Option.some.inj H
           have p997 : 0 ≤ (x16_1 : Int) := od
           have q997 : x16_1 < (t994.length : Int) := od
           obtain ⟨ad997, e997, hx997_0, hx997_1, hx997_2⟩ := at_T63 (Kd.R_reads' HO_3.out).2.2 x16_1 p997 q997
           cases e997
           replace p997 := eq_true p997
           replace q997 := eq_true q997
           go_wp2
           go_ret
           exact ⟨by first | rfl | (simp [errW_none, errW_some] <;> rfl) | (simp [*, errW_none, errW_some] <;> rfl), bwS⟩
         ·rw [if_neg c21] at H
          have c21b0 : ((wrap64 (x4_1 + 1)) == 3) = false := beq_eq_false_iff_ne.mpr c21
          have c21b1 : ((wrap64 (x4_1 + 1)) != 3) = true := bne_iff_ne.mpr c21
          have H' := Aside0.mk H
          clear H
          have p997 : 0 ≤ (x16_1 : Int) := od
          have q997 : x16_1 < (t994.length : Int) := od
          obtain ⟨ad997, e997, hx997_0, hx997_1, hx997_2⟩ := at_T63 (Kd.R_reads' HO_3.out).2.2 x16_1 p997 q997
          cases e997
          replace p997 := eq_true p997
          replace q997 := eq_true q997
          go_wp2
          go_roundg k1
          case measure => have := HK1.out; omega
          case rel => exact ⟨(wrap64 (x4_1 + 1)), (wrap64 (x16_1 + 1)), cl, cl, H', ⟨by have := HK1.out; omega⟩, ⟨by (with_reducible repeat (first | apply Kd.R_alloc | apply Kd.R_drewN | apply Kd.R_drew)); exact HO_3.out⟩, ⟨bk⟩, ⟨bwS⟩⟩
        ·rw [if_neg c20] at H
         have c20b0 : (((rd_T63 t994 x16_1).f0) == 5) = false := beq_eq_false_iff_ne.mpr c20
         have c20b1 : (((rd_T63 t994 x16_1).f0) != 5) = true := bne_iff_ne.mpr c20
         by_cases c23 : x4_1 = 3
         ·rw [if_pos c23] at H
          have c23b0 : (x4_1 == 3) = true := beq_iff_eq.mpr c23
          have c23b1 : (x4_1 != 3) = false := bne_eq_false_iff_eq.mpr c23
          clear c23
          by_cases c24 : x16_1 = (wrap64 ((t994.length : Int) - 1))
          ·rw [if_pos c24] at H
           have c24b0 : (x16_1 == (wrap64 ((t994.length : Int) - 1))) = true := beq_iff_eq.mpr c24
           have c24b1 : (x16_1 != (wrap64 ((t994.length : Int) - 1))) = false := bne_eq_false_iff_eq.mpr c24
           clear c24
           have H' := Aside0.mk H
           clear H
           have p997 : 0 ≤ (x16_1 : Int) := od
           have q997 : x16_1 < (t994.length : Int) := od
           obtain ⟨ad997, e997, hx997_0, hx997_1, hx997_2⟩ := at_T63 (Kd.R_reads' HO_3.out).2.2 x16_1 p997 q997
           cases e997
           replace p997 := eq_true p997
           replace q997 := eq_true q997
           go_wp2
           go_roundg k1
           case measure => have := HK1.out; omega
           case rel => exact ⟨(x4_1), (wrap64 (x16_1 + 1)), cl, cl, H', ⟨by have := HK1.out; omega⟩, ⟨by (with_reducible repeat (first | apply Kd.R_alloc | apply Kd.R_drewN | apply Kd.R_drew)); exact HO_3.out⟩, ⟨bk⟩, ⟨bwS⟩⟩
          ·rw [if_neg c24] at H
           have c24b0 : (x16_1 == (wrap64 ((t994.length : Int) - 1))) = false := beq_eq_false_iff_ne.mpr c24
           have c24b1 : (x16_1 != (wrap64 ((t994.length : Int) - 1))) = true := bne_iff_ne.mpr c24
           obtain rfl := Option.some.inj H
           have p997 : 0 ≤ (x16_1 : Int) := od
           have q997 : x16_1 < (t994.length : Int) := od
           obtain ⟨ad997, e997, hx997_0, hx997_1, hx997_2⟩ := at_T63 (Kd.R_reads' HO_3.out).2.2 x16_1 p997 q997
           cases e997
           replace p997 := eq_true p997
           replace q997 := eq_true q997
           go_wp2
           go_ret
           exact ⟨by first | rfl | (simp [errW_none, errW_some] <;> rfl) | (simp [*, errW_none, errW_some] <;> rfl), bwS⟩
         ·rw [if_neg c23] at H
          have c23b0 : (x4_1 == 3) = false := beq_eq_false_iff_ne.mpr c23
          have c23b1 : (x4_1 != 3) = true := bne_iff_ne.mpr c23
          have H' := Aside0.mk H
          clear H
          have p997 : 0 ≤ (x16_1 : Int) := od
          have q997 : x16_1 < (t994.length : Int) := od
          obtain ⟨ad997, e997, hx997_0, hx997_1, hx997_2⟩ := at_T63 (Kd.R_reads' HO_3.out).2.2 x16_1 p997 q997
          cases e997
          replace p997 := eq_true p997
          replace q997 := eq_true q997
          go_wp2
          go_roundg k1
          case measure => have := HK1.out; omega
          case rel => exact ⟨(x4_1), (wrap64 (x16_1 + 1)), cl, cl, H', ⟨by have := HK1.out; omega⟩, ⟨by (with_reducible repeat (first | apply Kd.R_alloc | apply Kd.R_drewN | apply Kd.R_drew)); exact HO_3.out⟩, ⟨bk⟩, ⟨bwS⟩⟩
       ·rw [if_neg c19] at H
        exact absurd H (by simp)
      ·rw [if_neg c18] at H
       exact absurd H (by simp)
     ·rw [if_neg c17] at H
      have c17b0 : decide (x16_1 < (t994.length : Int)) = false := decide_eq_false c17
      clear c17
      by_cases c25 : (t994.length : Int) ≤ 8
      ·rw [if_pos c25] at H
       have c25b0 : decide ((t994.length : Int) ≤ 8) = true := decide_eq_true c25
       have c25b1 : decide (t994.length ≤ 8) = true := decide_eq_true (by omega)
       clear c25
       obtain rfl := Option.some.inj H
       go_wp2
       go_ret
       exact ⟨by first | rfl | (simp [errW_none, errW_some] <;> rfl) | (simp [*, errW_none, errW_some] <;> rfl), bwS⟩
      ·rw [if_neg c25] at H
       have c25b0 : decide ((t994.length : Int) ≤ 8) = false := decide_eq_false c25
       have c25b1 : decide (t994.length ≤ 8) = false := decide_eq_false (by omega)
       clear c25
       obtain rfl := Option.some.inj H
       go_wp2
       go_ret
       exact ⟨by first | rfl | (simp [errW_none, errW_some] <;> rfl) | (simp [*, errW_none, errW_some] <;> rfl), bwS⟩
  ·replace c5 := Bool.eq_false_iff.mpr c5
   subst c5
   have H1 : (some true) = some r := by rw [if_neg (show ¬ (false = true) by decide)] at H; exact H
   clear H
   have H := H1
   clear H1
   obtain rfl := Option.some.inj H
   go_enter Tryz.func6, Tryz.ntmps6
   go_wp2_with (first | ((with_reducible refine gate_dst (N := 1) rfl ?_); (try (refine gate_guard (by rfl) ?_; dsimp only)); refine box_event ?hg (N := 1) ?hd (cs := #[.slice A0_0 l0_0.length c0_0, .string a0_1]) (t := 24) ?hr ?_; (case hd => rfl); (case hg => rfl); (case hr => first | (go_simp; done) | (go_simp; rfl)); intro gb987 hg w26 hbox hb; have n0_ := Aside0.mk (below_step bw hb); have n1_ := Aside0.mk (hbox); have n2_ := Aside0.mk ((by rw [hg]; exact (below_size bw) : w.heap.size ≤ gb987)); have n3_ := Aside0.mk ((by rw [hg]; exact (below_size bw) : w.heap.size ≤ gb987)); clear HB; have HB := n0_; have BK987 := n1_; have GW987 := n2_; have GE987 := n3_; clear n0_ n1_ n2_ n3_; clear hb hbox hg) | ((with_reducible refine gate_callee (f := 27) rfl ?_); refine goesL_ (some 6) rfl rfl Tryz.func27 (by kernel_rfl) rfl #[] rfl am ?_; (with_reducible refine (bulletinlaw35_works.calls k  true _ A2.out).mono ?_); rintro e w27 ⟨rfl, hb⟩; refine ⟨_, rfl, ?_⟩; have n0_ := Aside0.mk (blk_below (g := gb987) (o := .cells #[.slice A0_0 l0_0.length c0_0, .string a0_1] 24 (0, 0)) bk hb); have n1_ := Aside0.mk (below_step bwS hb); clear BK987; clear HB; have BK987 := n0_; have HB := n1_; clear n0_ n1_; (try clear hb); (try clear hb2); (try clear hk); (try clear hi); have hcz28_0 : w27.cell? ⟨gb987, 0, none⟩ = some (.slice A0_0 l0_0.length c0_0) := (blk_cell BK987.out 0).trans rfl; have hcz28_1 : w27.cell? ⟨gb987, 1, none⟩ = some (.string a0_1) := (blk_cell BK987.out 1).trans rfl; have hfz28_0 := blk_frozen BK987.out 0; have hfz28_1 := blk_frozen BK987.out 1) | ((with_reducible refine gate_callee (f := 7) rfl ?_); refine goesL_ (some 9) rfl rfl Tryz.func7 (by kernel_rfl) rfl #[.agg #[.slice A0_0 l0_0.length c0_0, .string a0_1]] rfl am ?_; (with_reducible refine (bulletinlaw16_Light.calls k _ _ l0_0 a0_1 false _ ?side1 ?side2 A4.out).mono ?_); (case side1 => repeat (first | exact (Kd.C_below HR0_0.out HB.out) | (with_reducible refine Kd.C_alloc ?_ _) | (with_reducible refine Kd.C_drewN ?_ _) | (with_reducible refine Kd.C_drew ?_))); (case side2 => exact HC0_0.out); rintro e w29 ⟨rfl, hb⟩; refine ⟨_, rfl, ?_⟩; have n0_ := Aside0.mk (blk_below (g := gb987) (o := .cells #[.slice A0_0 l0_0.length c0_0, .string a0_1] 24 (0, 0)) bk hb); have n1_ := Aside0.mk (below_step bwS hb); clear BK987; clear HB; have BK987 := n0_; have HB := n1_; clear n0_ n1_; (try clear hb); (try clear hb2); (try clear hk); (try clear hi)))
   go_ret
   exact ⟨by first | rfl | (simp [errW_none, errW_some] <;> rfl) | (simp [*, errW_none, errW_some] <;> rfl), bwS⟩
 ·replace c3 := Bool.eq_false_iff.mpr c3
  subst c3
  have H1 : (some false) = some r := by rw [if_neg (show ¬ (false = true) by decide)] at H; exact H
  clear H
  have H := H1
  clear H1
  obtain rfl := Option.some.inj H
  go_enter Tryz.func6, Tryz.ntmps6
  go_wp2_with (first | ((with_reducible refine gate_dst (N := 1) rfl ?_); (try (refine gate_guard (by rfl) ?_; dsimp only)); refine box_event ?hg (N := 1) ?hd (cs := #[.slice A0_0 l0_0.length c0_0, .string a0_1]) (t := 24) ?hr ?_; (case hd => rfl); (case hg => rfl); (case hr => first | (go_simp; done) | (go_simp; rfl)); intro gb987 hg w30 hbox hb; have n0_ := Aside0.mk (below_step bw hb); have n1_ := Aside0.mk (hbox); have n2_ := Aside0.mk ((by rw [hg]; exact (below_size bw) : w.heap.size ≤ gb987)); have n3_ := Aside0.mk ((by rw [hg]; exact (below_size bw) : w.heap.size ≤ gb987)); clear HB; have HB := n0_; have BK987 := n1_; have GW987 := n2_; have GE987 := n3_; clear n0_ n1_ n2_ n3_; clear hb hbox hg) | ((with_reducible refine gate_callee (f := 27) rfl ?_); refine goesL_ (some 6) rfl rfl Tryz.func27 (by kernel_rfl) rfl #[] rfl am ?_; (with_reducible refine (bulletinlaw35_works.calls k  false _ A2.out).mono ?_); rintro e w31 ⟨rfl, hb⟩; refine ⟨_, rfl, ?_⟩; have n0_ := Aside0.mk (blk_below (g := gb987) (o := .cells #[.slice A0_0 l0_0.length c0_0, .string a0_1] 24 (0, 0)) bk hb); have n1_ := Aside0.mk (below_step bwS hb); clear BK987; clear HB; have BK987 := n0_; have HB := n1_; clear n0_ n1_; (try clear hb); (try clear hb2); (try clear hk); (try clear hi)))
  go_ret
  exact ⟨by first | rfl | (simp [errW_none, errW_some] <;> rfl) | (simp [*, errW_none, errW_some] <;> rfl), bwS⟩

end Go.Proofs.YtihabmcaplnbcaaGreatDoor.Fn
set_option linter.unusedVariables false
set_option linter.unusedSimpArgs false
namespace Go.Proofs.YtihabmcaplnbcaaGreatDoor.Pl
open Go.RowKit Go.Proofs.YtihabmcaplnbcaaGreatDoorW.PrintWords
end Go.Proofs.YtihabmcaplnbcaaGreatDoor.Pl
namespace Go.Proofs.YtihabmcaplnbcaaGreatDoor.Fn
open Go.RowKit Go.Proofs.YtihabmcaplnbcaaGreatDoorW.PrintWords

end Go.Proofs.YtihabmcaplnbcaaGreatDoor.Fn
set_option linter.unusedVariables false
namespace Go.Proofs.YtihabmcaplnbcaaGreatDoor.Fn
open Go.RowKit Go.Proofs.YtihabmcaplnbcaaGreatDoorW.PrintWords

end Go.Proofs.YtihabmcaplnbcaaGreatDoor.Fn
set_option linter.unusedVariables false
set_option linter.unusedSimpArgs false
namespace Go.Proofs.YtihabmcaplnbcaaGreatDoor.Fn
open Go.RowKit Go.Proofs.YtihabmcaplnbcaaGreatDoorW.PrintWords

end Go.Proofs.YtihabmcaplnbcaaGreatDoor.Fn
set_option linter.unusedVariables false
set_option linter.unusedSimpArgs false
namespace Go.Proofs.YtihabmcaplnbcaaGreatDoor.Pl
open Go.RowKit Go.Proofs.YtihabmcaplnbcaaGreatDoorW.PrintWords Go.Proofs.YtihabmcaplnbcaaGreatDoor.Fn

/-! Layer 19: what the laws call. -/
theorem decode_is (s : ByteArray) (hs : s.size ≤ 1000000000) : ew_Decode.f s = some (str (decodeL (bs s))) := by
  unfold ew_Decode.f
  rw [if_pos hs]
theorem decL_len : ∀ (f : Nat) (l acc : Bytes), (decL f l acc).length ≤ acc.length + 300 * l.length
  | 0, l, acc => by rw [decL]; omega
  | f + 1, [], acc => by rw [decL]; omega
  | f + 1, c :: r, acc => by
    rw [decL]
    cases hw : wordL (c :: r) with
    | none =>
      have := decL_len f r (acc ++ [c])
      simp at this ⊢
      omega
    | some y =>
      obtain ⟨x, n⟩ := y
      simp only []
      obtain ⟨_, _, hn, _, hn2, _⟩ := wordL_some hw
      have hx := wordL_len hw
      have hd : ((c :: r).drop n).length = (c :: r).length - n := List.length_drop
      split
      · have := decL_len f (trimB ((c :: r).drop n)) (acc ++ x)
        have ht := trimB_len ((c :: r).drop n)
        rw [List.length_append] at this
        omega
      · have := decL_len f ((c :: r).drop n) (acc ++ x)
        rw [List.length_append] at this
        omega
theorem decodeL_len (l : Bytes) : (decodeL l).length ≤ 300 * l.length := by
  have := decL_len l.length l []
  simpa [decodeL] using this
end Go.Proofs.YtihabmcaplnbcaaGreatDoor.Pl
set_option linter.unusedVariables false
set_option linter.unusedSimpArgs false
namespace Go.Proofs.YtihabmcaplnbcaaGreatDoor.Pl
open Go.Proofs.YtihabmcaplnbcaaGreatDoorW.PrintWords
def sameN (a b : ByteArray) : Bool := (str (fold (bs a))).toList == (str (fold (bs b))).toList
end Go.Proofs.YtihabmcaplnbcaaGreatDoor.Pl
namespace Go.Proofs.YtihabmcaplnbcaaGreatDoor.Fn
open Go.RowKit Go.Proofs.YtihabmcaplnbcaaGreatDoorW.PrintWords

theorem headsame_is (a b : ByteArray) (ha : a.size ≤ 35184372088832) (hb : b.size ≤ 35184372088832) : head_same.f a b = some (Pl.sameN a b) := by
  unfold head_same.f glyph_Fold.f Pl.sameN
  rw [if_pos ha, if_pos hb]
  rfl
def askN (name : ByteArray) (x : S35) : Bool := Pl.sameN x.f0 name
end Go.Proofs.YtihabmcaplnbcaaGreatDoor.Fn
set_option linter.unusedVariables false
set_option linter.unusedSimpArgs false
namespace Go.Proofs.YtihabmcaplnbcaaGreatDoor.Pl
open Go.RowKit Go.Proofs.YtihabmcaplnbcaaGreatDoorW.PrintWords Go.Proofs.YtihabmcaplnbcaaGreatDoor.Fn

/-! Layer 15: fields, the document's and the program's. -/
abbrev FQ := S74
abbrev FP := S35
def toF (x : FQ) : FP := ⟨x.f0, x.f1⟩
theorem rdQ (l : List FQ) (i : Nat) (h : i < l.length) : rd_T74 l (i : Int) = l[i] := by
  unfold rd_T74
  rw [Int.toNat_natCast, List.getD_eq_getElem?_getD, List.getElem?_eq_getElem h]; rfl
theorem rdP (l : List FP) (i : Nat) (h : i < l.length) : rd_T35 l (i : Int) = l[i] := by
  unfold rd_T35
  rw [Int.toNat_natCast, List.getD_eq_getElem?_getD, List.getElem?_eq_getElem h]; rfl
theorem wrapS (i : Nat) (h : i < 1000000000) : wrap64 ((i : Int) + 1) = ((i + 1 : Nat) : Int) := by
  rw [wrap_id (by omega) (by omega)]; omega
def okQ (f : FQ) : Bool := decide (f.f0.size ≤ 200) && decide (f.f1.size ≤ 3000)
def lightQ (l : List FQ) : Bool := (l.take 30).all okQ && decide (l.length ≤ 30)
theorem lightQ_rounds (l : List FQ) : ∀ (n i k : Nat), i + n = 31 → i ≤ 30 → 2 * n + 3 < k → i ≤ l.length → bulletinlaw15_Light.l0 k l (i : Int) = some (((l.take 30).drop i).all okQ && decide (l.length ≤ 30)) := by
  intro n
  induction n with
  | zero => intro i k h hi; omega
  | succ n ih =>
    intro i k h hi hk hil
    obtain ⟨k, rfl⟩ : ∃ q, k = q + 2 := ⟨k - 2, by omega⟩
    have hd : decide ((l.length : Int) ≤ 30) = decide (l.length ≤ 30) := by congr 1; exact propext ⟨fun h => by omega, fun h => by omega⟩
    rw [bulletinlaw15_Light.l0]
    by_cases h1 : i < l.length
    · rw [if_pos (by omega)]
      by_cases h2 : i < 30
      · rw [decide_eq_true (show ((i : Int) < 30) by omega), bulletinlaw15_Light.j1, if_pos rfl, if_pos (by omega), if_pos (by omega), rdQ l i h1]
        have hdr : (l.take 30).drop i = l[i] :: (l.take 30).drop (i + 1) := by
          rw [List.drop_eq_getElem_cons (by rw [List.length_take]; omega), List.getElem_take]
        rw [hdr, List.all_cons]
        have hok : okQ l[i] = (decide ((l[i]).f0.size ≤ 200) && decide ((l[i]).f1.size ≤ 3000)) := rfl
        by_cases a : (l[i]).f0.size > 200
        · rw [if_pos (by omega), hok, decide_eq_false (by omega)]; rfl
        · rw [if_neg (by omega)]
          by_cases b : (l[i]).f1.size > 3000
          · rw [if_pos (by omega), hok, decide_eq_false (show ¬ (l[i]).f1.size ≤ 3000 by omega)]; simp
          · rw [if_neg (by omega), wrapS i (by omega), ih (i + 1) k (by omega) (by omega) (by omega) (by omega), hok, decide_eq_true (show (l[i]).f0.size ≤ 200 by omega), decide_eq_true (show (l[i]).f1.size ≤ 3000 by omega)]
            rfl
      · rw [decide_eq_false (show ¬ ((i : Int) < 30) by omega), bulletinlaw15_Light.j1, if_neg (by decide), hd, List.drop_of_length_le (by rw [List.length_take]; omega)]
        rfl
    · rw [if_neg (by omega), bulletinlaw15_Light.j1, if_neg (by decide), hd, List.drop_of_length_le (by rw [List.length_take]; omega)]
      rfl
theorem lightQ_is (l : List FQ) (k : Nat) (hk : 100 < k) : bulletinlaw15_Light.f k l = some (lightQ l) := by
  unfold bulletinlaw15_Light.f lightQ
  have := lightQ_rounds l 31 0 k (by omega) (by omega) (by omega) (by omega)
  rw [List.drop_zero] at this
  exact this
theorem lightQ_some {l : List FQ} (h : lightQ l = true) : l.length ≤ 30 ∧ ∀ f ∈ l, f.f0.size ≤ 200 ∧ f.f1.size ≤ 3000 := by
  unfold lightQ at h
  rw [Bool.and_eq_true, decide_eq_true_iff] at h
  refine ⟨h.2, fun f hf => ?_⟩
  rw [List.take_of_length_le h.2] at h
  have := List.all_eq_true.1 h.1 f hf
  unfold okQ at this
  rw [Bool.and_eq_true, decide_eq_true_iff, decide_eq_true_iff] at this
  exact this
theorem toQ_rounds (l : List FQ) (hl : l.length ≤ 1000000) : ∀ (n i k : Nat), l.length = i + n → n < k → bulletinlaw15_To.l0 k l ((l.take i).map toF) (i : Int) = some (l.map toF) := by
  intro n
  induction n with
  | zero =>
    intro i k h hk
    obtain ⟨k, rfl⟩ : ∃ q, k = q + 1 := ⟨k - 1, by omega⟩
    rw [bulletinlaw15_To.l0, if_neg (by omega), List.take_of_length_le (by omega)]
  | succ n ih =>
    intro i k h hk
    obtain ⟨k, rfl⟩ : ∃ q, k = q + 1 := ⟨k - 1, by omega⟩
    rw [bulletinlaw15_To.l0, if_pos (by omega), if_pos (by omega), if_pos (by rw [List.length_map, List.length_take]; omega), rdQ l i (by omega), wrapS i (by omega)]
    have := ih (i + 1) k (by omega) (by omega)
    rw [List.take_succ_eq_append_getElem (by omega), List.map_append] at this
    exact this
theorem toQ_is (l : List FQ) (hl : l.length ≤ 1000000) (k : Nat) (hk : l.length < k) : bulletinlaw15_To.f k l = some (l.map toF) := by
  unfold bulletinlaw15_To.f
  exact toQ_rounds l hl l.length 0 k (by omega) (by omega)
def allL (l : List FP) (name : ByteArray) : List ByteArray := (l.filter (askN name)).map (·.f1)
end Go.Proofs.YtihabmcaplnbcaaGreatDoor.Pl
namespace Go.Proofs.YtihabmcaplnbcaaGreatDoor.Fn
open Go.RowKit Go.Proofs.YtihabmcaplnbcaaGreatDoorW.PrintWords Go.Proofs.YtihabmcaplnbcaaGreatDoorW.PrintLast Go.Proofs.YtihabmcaplnbcaaGreatDoorW.PrintMore
attribute [local go_sem] max2_int min2_int max_two min_two max_three min_three max_four min_four
set_option linter.unusedVariables false
set_option linter.unusedSimpArgs false

/-! ### bulletinref06_Fold: function 49 -/
end Go.Proofs.YtihabmcaplnbcaaGreatDoor.Fn
set_option linter.unusedVariables false
set_option linter.unusedSimpArgs false
namespace Go.Proofs.YtihabmcaplnbcaaGreatDoor.Pl
open Go.RowKit Go.Proofs.YtihabmcaplnbcaaGreatDoorW.PrintWords Go.Proofs.YtihabmcaplnbcaaGreatDoor.Fn

/-! The reference's glyph functions, as the plain ones. -/
end Go.Proofs.YtihabmcaplnbcaaGreatDoor.Pl
namespace Go.Proofs.YtihabmcaplnbcaaGreatDoor.Fn
open Go.RowKit Go.Proofs.YtihabmcaplnbcaaGreatDoorW.PrintWords Go.Proofs.YtihabmcaplnbcaaGreatDoorW.PrintLast Go.Proofs.YtihabmcaplnbcaaGreatDoorW.PrintMore
attribute [local go_sem] max2_int min2_int max_two min_two max_three min_three max_four min_four
set_option linter.unusedVariables false
set_option linter.unusedSimpArgs false

/-! ### bulletinref15_Same: function 50 -/
end Go.Proofs.YtihabmcaplnbcaaGreatDoor.Fn
namespace Go.Proofs.YtihabmcaplnbcaaGreatDoor.Fn
open Go.RowKit Go.Proofs.YtihabmcaplnbcaaGreatDoorW.PrintWords Go.Proofs.YtihabmcaplnbcaaGreatDoorW.PrintLast Go.Proofs.YtihabmcaplnbcaaGreatDoorW.PrintMore
attribute [local go_sem] max2_int min2_int max_two min_two max_three min_three max_four min_four
set_option linter.unusedVariables false
set_option linter.unusedSimpArgs false

/-! ### bulletinref15_All: function 22 -/
end Go.Proofs.YtihabmcaplnbcaaGreatDoor.Fn
namespace Go.Proofs.YtihabmcaplnbcaaGreatDoor.Fn
open Go.RowKit Go.Proofs.YtihabmcaplnbcaaGreatDoorW.PrintWords Go.Proofs.YtihabmcaplnbcaaGreatDoorW.PrintLast Go.Proofs.YtihabmcaplnbcaaGreatDoorW.PrintMore
attribute [local go_sem] max2_int min2_int max_two min_two max_three min_three max_four min_four
set_option linter.unusedVariables false
set_option linter.unusedSimpArgs false

/-! ### bulletinref15_Get: function 46 -/
end Go.Proofs.YtihabmcaplnbcaaGreatDoor.Fn
set_option linter.unusedVariables false
set_option linter.unusedSimpArgs false
namespace Go.Proofs.YtihabmcaplnbcaaGreatDoor.Pl
open Go.RowKit Go.Proofs.YtihabmcaplnbcaaGreatDoorW.PrintWords Go.Proofs.YtihabmcaplnbcaaGreatDoor.Fn

/-! Layer 15: the fields of a name. -/
theorem drop_at {α : Type} {l : List α} {i : Nat} (h : i < l.length) : l.drop i = l[i] :: l.drop (i + 1) := List.drop_eq_getElem_cons h
def getA : List ByteArray → ByteArray × Bool
  | [] => ((⟨#[]⟩ : ByteArray), false)
  | v :: _ => (v, true)
theorem get_rounds (l : List FP) (name : ByteArray) (hl : l.length ≤ 1000000) (hn : name.size ≤ 1000000) (hz : ∀ x ∈ l, x.f0.size ≤ 1000000) : ∀ (n i k : Nat), l.length = i + n → n < k → head_Get.l0 k name l (l.length : Int) (i : Int) = some (getA (allL (l.drop i) name)) := by
  intro n
  induction n with
  | zero =>
    intro i k h hk
    obtain ⟨k, rfl⟩ : ∃ q, k = q + 1 := ⟨k - 1, by omega⟩
    rw [head_Get.l0, if_neg (by omega), List.drop_of_length_le (by omega)]
    rfl
  | succ n ih =>
    intro i k h hk
    obtain ⟨k, rfl⟩ : ∃ q, k = q + 1 := ⟨k - 1, by omega⟩
    have hi : i < l.length := by omega
    rw [head_Get.l0, if_pos (by omega), if_pos (by omega), if_pos (by omega), rdP l i hi, headsame_is _ _ (by have := hz _ (List.getElem_mem hi); omega) (by omega), Option.bind_some, wrapS i (by omega), drop_at hi]
    have ha : askN name l[i] = sameN l[i].f0 name := rfl
    unfold allL at ih ⊢
    cases hs : sameN l[i].f0 name with
    | true => rw [if_pos rfl, List.filter_cons_of_pos (by rw [ha, hs])]; rfl
    | false => rw [if_neg (by decide), List.filter_cons_of_neg (by rw [ha, hs]; decide)]; exact ih (i + 1) k (by omega) (by omega)
theorem get_is (l : List FP) (name : ByteArray) (hl : l.length ≤ 1000000) (hn : name.size ≤ 1000000) (hz : ∀ x ∈ l, x.f0.size ≤ 1000000) (k : Nat) (hk : l.length < k) : head_Get.f k l name = some (getA (allL l name)) := by
  unfold head_Get.f
  have := get_rounds l name hl hn hz l.length 0 k (by omega) (by omega)
  rwa [List.drop_zero] at this
end Go.Proofs.YtihabmcaplnbcaaGreatDoor.Pl
namespace Go.Proofs.YtihabmcaplnbcaaGreatDoor.Fn
open Go.RowKit Go.Proofs.YtihabmcaplnbcaaGreatDoorW.PrintWords Go.Proofs.YtihabmcaplnbcaaGreatDoorW.PrintLast Go.Proofs.YtihabmcaplnbcaaGreatDoorW.PrintMore
attribute [local go_sem] max2_int min2_int max_two min_two max_three min_three max_four min_four
set_option linter.unusedVariables false
set_option linter.unusedSimpArgs false

/-! ### head_named: function 166 -/
def head_named.l0 : Nat → ByteArray → Int → Int → Option (Bool)
 | 0, _, _, _ => none
 | k + 1, x0, x6, x7 => if x7 < x6 then (if 0 ≤ x7 then (if x7 < (x0.size : Int) then (if (bt x0 x7) ≤ 32 then (some false) else (if (bt x0 x7) > 126 then (some false) else (if (bt x0 x7) = 58 then (some false) else (head_named.l0 k x0 x6 (wrap64 (x7 + 1)))))) else (none)) else (none)) else (if x0.toList = ([] : List UInt8) then (some false) else (some (decide ((x0.size : Int) ≤ 76))))
def head_named.f (k : Nat) (a0 : ByteArray) : Option (Bool) := head_named.l0 k a0 (a0.size : Int) 0
end Go.Proofs.YtihabmcaplnbcaaGreatDoor.Fn
namespace Go.Proofs.YtihabmcaplnbcaaGreatDoor.Fn
open Go.RowKit Go.Proofs.YtihabmcaplnbcaaGreatDoorW.PrintWords Go.Proofs.YtihabmcaplnbcaaGreatDoorW.PrintLast Go.Proofs.YtihabmcaplnbcaaGreatDoorW.PrintMore
attribute [local go_sem] max2_int min2_int max_two min_two max_three min_three max_four min_four
set_option linter.unusedVariables false
set_option linter.unusedSimpArgs false

/-! ### head_text: function 164 -/
def head_text.l0 : Nat → ByteArray → Int → Int → Option (Bool)
 | 0, _, _, _ => none
 | k + 1, x0, x6, x7 => if x7 < x6 then (if 0 ≤ x7 then (if x7 < (x0.size : Int) then (if (bt x0 x7) < 32 then (if (bt x0 x7) = 9 then (if (bt x0 x7) = 127 then (some false) else (head_text.l0 k x0 x6 (wrap64 (x7 + 1)))) else (some false)) else (if (bt x0 x7) = 127 then (some false) else (head_text.l0 k x0 x6 (wrap64 (x7 + 1))))) else (none)) else (none)) else (some true)
def head_text.f (k : Nat) (a0 : ByteArray) : Option (Bool) := head_text.l0 k a0 (a0.size : Int) 0
end Go.Proofs.YtihabmcaplnbcaaGreatDoor.Fn
namespace Go.Proofs.YtihabmcaplnbcaaGreatDoor.Fn
open Go.RowKit Go.Proofs.YtihabmcaplnbcaaGreatDoorW.PrintWords Go.Proofs.YtihabmcaplnbcaaGreatDoorW.PrintLast Go.Proofs.YtihabmcaplnbcaaGreatDoorW.PrintMore
attribute [local go_sem] max2_int min2_int max_two min_two max_three min_three max_four min_four
set_option linter.unusedVariables false
set_option linter.unusedSimpArgs false

/-! ### head_white: function 165 -/
def head_white.f (a0 : ByteArray) : Option (Bool) := if a0.toList = ([] : List UInt8) then (some false) else (if 0 < (a0.size : Int) then (if (bt a0 0) = 32 then (some true) else (some ((bt a0 0) == 9))) else (none))
end Go.Proofs.YtihabmcaplnbcaaGreatDoor.Fn
namespace Go.Proofs.YtihabmcaplnbcaaGreatDoor.Fn
open Go.RowKit Go.Proofs.YtihabmcaplnbcaaGreatDoorW.PrintWords Go.Proofs.YtihabmcaplnbcaaGreatDoorW.PrintLast Go.Proofs.YtihabmcaplnbcaaGreatDoorW.PrintMore
attribute [local go_sem] max2_int min2_int max_two min_two max_three min_three max_four min_four
set_option linter.unusedVariables false
set_option linter.unusedSimpArgs false

/-! ### head_grow: function 124 -/
mutual
def head_grow.j0 : Nat → List (S35) → ByteArray → Bool → Option ((List (S35)) × Int)
 | 0, _, _, _ => none
 | k + 1, x0, x1, x13 => if x13 = true then (some (([] : List (S35)), 150)) else ((head_white.f x1).bind fun t470 => (if t470 = true then (if 0 ≤ (wrap64 ((x0.length : Int) - 1)) then (if (wrap64 ((x0.length : Int) - 1)) < (x0.length : Int) then (if ((rd_T35 x0 (wrap64 ((x0.length : Int) - 1))).f1).size + x1.size ≤ 9223372036854775807 then (some ((x0.set ((wrap64 ((x0.length : Int) - 1)) : Int).toNat (⟨(rd_T35 x0 (wrap64 ((x0.length : Int) - 1))).f0, ((rd_T35 x0 (wrap64 ((x0.length : Int) - 1))).f1) ++ x1⟩ : S35)), 0)) else (none)) else (none)) else (none)) else ((strings_Cut.f x1 (⟨#[58]⟩ : ByteArray)).bind fun bt473 => (if bt473.2.2 = true then ((head_named.f k bt473.1).bind fun t476 => (head_grow.j1 k x0 bt473.1 bt473.2.1 (!t476))) else (head_grow.j1 k x0 bt473.1 bt473.2.1 true)))))
def head_grow.j1 : Nat → List (S35) → ByteArray → ByteArray → Bool → Option ((List (S35)) × Int)
 | 0, _, _, _, _ => none
 | k + 1, x0, x6, x7, x47 => if x47 = true then (some (([] : List (S35)), 150)) else (if (x0.length : Int) = 100 then (some (([] : List (S35)), 8)) else (if x0.length < 4398046511104 then (some ((x0 ++ [(⟨x6, x7⟩ : S35)]), 0)) else (none)))
end
def head_grow.f (k : Nat) (l0 : List (S35)) (a1 : ByteArray) : Option ((List (S35)) × Int) := if (a1.size : Int) > 998 then (some (([] : List (S35)), 2)) else ((head_text.f k a1).bind fun t468 => (if t468 = true then ((head_white.f a1).bind fun t469 => (if t469 = true then (head_grow.j0 k l0 a1 ((l0.length : Int) == 0)) else (head_grow.j0 k l0 a1 false))) else (head_grow.j0 k l0 a1 true)))
end Go.Proofs.YtihabmcaplnbcaaGreatDoor.Fn
set_option linter.unusedVariables false
namespace Go.Proofs.YtihabmcaplnbcaaGreatDoor.Fn
open Go.RowKit Go.Proofs.YtihabmcaplnbcaaGreatDoorW.PrintWords

def strings_Trim.f (a0 a1 : ByteArray) : Option ByteArray :=
  if a0.size ≤ 140737488355328 then (if a1.size ≤ 1000 then (if a1.data.toList.all (fun b => decide (b.toNat < 128)) = true then some (Pl.str (Lib.trimS a0.data.toList a1.data.toList)) else none) else none) else none
end Go.Proofs.YtihabmcaplnbcaaGreatDoor.Fn
namespace Go.Proofs.YtihabmcaplnbcaaGreatDoor.Fn
open Go.RowKit Go.Proofs.YtihabmcaplnbcaaGreatDoorW.PrintWords Go.Proofs.YtihabmcaplnbcaaGreatDoorW.PrintLast Go.Proofs.YtihabmcaplnbcaaGreatDoorW.PrintMore
attribute [local go_sem] max2_int min2_int max_two min_two max_three min_three max_four min_four
set_option linter.unusedVariables false
set_option linter.unusedSimpArgs false

/-! ### head_trim: function 125 -/
def head_trim.f (a0 : ByteArray) : Option (ByteArray) := (strings_Trim.f a0 (⟨#[32, 9]⟩ : ByteArray)).bind fun t480 => (some t480)
end Go.Proofs.YtihabmcaplnbcaaGreatDoor.Fn
namespace Go.Proofs.YtihabmcaplnbcaaGreatDoor.Fn
open Go.RowKit Go.Proofs.YtihabmcaplnbcaaGreatDoorW.PrintWords Go.Proofs.YtihabmcaplnbcaaGreatDoorW.PrintLast Go.Proofs.YtihabmcaplnbcaaGreatDoorW.PrintMore
attribute [local go_sem] max2_int min2_int max_two min_two max_three min_three max_four min_four
set_option linter.unusedVariables false
set_option linter.unusedSimpArgs false

/-! ### head_Parse: function 75 -/
mutual
def head_Parse.j1 : Nat → List (S35) → ByteArray → Option ((List (S35)) × ByteArray × Int)
 | 0, _, _ => none
 | k + 1, x2, x3 => head_Parse.l1 k x2 x3 (x2.length : Int) 0
def head_Parse.l1 : Nat → List (S35) → ByteArray → Int → Int → Option ((List (S35)) × ByteArray × Int)
 | 0, _, _, _, _ => none
 | k + 1, x2, x3, x33, x34 => if x34 < x33 then (if 0 ≤ x34 then (if x34 < (x2.length : Int) then ((head_trim.f ((rd_T35 x2 x34).f1)).bind fun t489 => (head_Parse.l1 k (x2.set (x34 : Int).toNat (⟨(rd_T35 x2 x34).f0, t489⟩ : S35)) x3 x33 (wrap64 (x34 + 1)))) else (none)) else (none)) else (some (x2, x3, 0))
def head_Parse.l0 : Nat → ByteArray → List (S35) → ByteArray → Option ((List (S35)) × ByteArray × Int)
 | 0, _, _, _ => none
 | k + 1, x0, x2, x3 => if x0.toList = ([] : List UInt8) then (head_Parse.j1 k x2 x3) else ((strings_Cut.f x0 (⟨#[13, 10]⟩ : ByteArray)).bind fun bt481 => (if bt481.2.2 = true then (if bt481.1.toList = ([] : List UInt8) then (head_Parse.j1 k x2 bt481.2.1) else ((head_grow.f k x2 bt481.1).bind fun bt484 => (if bt484.2 = 0 then (head_Parse.l0 k bt481.2.1 bt484.1 x3) else (some (([] : List (S35)), (⟨#[]⟩ : ByteArray), bt484.2))))) else (some (([] : List (S35)), (⟨#[]⟩ : ByteArray), 9))))
end
end Go.Proofs.YtihabmcaplnbcaaGreatDoor.Fn
set_option linter.unusedVariables false
namespace Go.Proofs.YtihabmcaplnbcaaGreatDoor.Fn
open Go.RowKit Go.Proofs.YtihabmcaplnbcaaGreatDoorW.PrintWords

/-! strings.IndexRune of a blank text at a sign beyond ASCII: -1. -/
end Go.Proofs.YtihabmcaplnbcaaGreatDoor.Fn
set_option linter.unusedVariables false
namespace Go.Proofs.YtihabmcaplnbcaaGreatDoor.Fn
open Go.RowKit Go.Proofs.YtihabmcaplnbcaaGreatDoorW.PrintWords

end Go.Proofs.YtihabmcaplnbcaaGreatDoor.Fn
namespace Go.Proofs.YtihabmcaplnbcaaGreatDoor.Fn
open Go.RowKit Go.Proofs.YtihabmcaplnbcaaGreatDoorW.PrintWords Go.Proofs.YtihabmcaplnbcaaGreatDoorW.PrintLast Go.Proofs.YtihabmcaplnbcaaGreatDoorW.PrintMore
attribute [local go_sem] max2_int min2_int max_two min_two max_three min_three max_four min_four
set_option linter.unusedVariables false
set_option linter.unusedSimpArgs false

/-! ### head_piece: function 167 -/
end Go.Proofs.YtihabmcaplnbcaaGreatDoor.Fn
set_option linter.unusedVariables false
set_option linter.unusedSimpArgs false
namespace Go.Proofs.YtihabmcaplnbcaaGreatDoor.Pl
open Go.RowKit Go.Proofs.YtihabmcaplnbcaaGreatDoorW.PrintWords Go.Proofs.YtihabmcaplnbcaaGreatDoor.Fn

/-! head: how a field is written, in pieces. -/
def wb (c : UInt8) : Bool := ([32, 9] : List UInt8).contains c
def lead (s : Bytes) : Nat := (s.takeWhile wb).length
def word (s : Bytes) : Nat := (s.takeWhile (fun c => !wb c)).length
end Go.Proofs.YtihabmcaplnbcaaGreatDoor.Pl
set_option linter.unusedVariables false
set_option linter.unusedSimpArgs false
namespace Go.Proofs.YtihabmcaplnbcaaGreatDoor.Pl
open Go.RowKit Go.Proofs.YtihabmcaplnbcaaGreatDoorW.PrintWords Go.Proofs.YtihabmcaplnbcaaGreatDoor.Fn

/-! head.Parse as a machine over lists of bytes. -/
abbrev Fld := Bytes × Bytes
def nameB (c : UInt8) : Bool := !decide (c.toNat < 33) && (!decide (126 < c.toNat) && !decide (c.toNat = 58))
def named (s : Bytes) : Bool := s.all nameB && (!decide (s = []) && decide (s.length ≤ 76))
def crlf : Bytes → Option Nat
  | [] => none
  | c :: r => if c = 13 ∧ r.head? = some 10 then some 0 else (crlf r).map (· + 1)
def upto (c : UInt8) : Bytes → Nat
  | [] => 0
  | d :: r => if d = c then 0 else upto c r + 1
def bad (e : Int) : List Fld × Bytes × Int := ([], [], e)
theorem crlf_room : ∀ {s : Bytes} {i : Nat}, crlf s = some i → i + 2 ≤ s.length
  | [], i, h => by simp [crlf] at h
  | c :: r, i, h => by
    unfold crlf at h
    split at h
    · rename_i hc
      injection h with h
      subst h
      cases r with
      | nil => simp at hc
      | cons d r => simp
    · rw [Option.map_eq_some_iff] at h
      obtain ⟨j, hj, rfl⟩ := h
      have := crlf_room hj
      simp only [List.length_cons]; omega
theorem index_crlf : ∀ (s : Bytes), Lib.index s [13, 10] = (match crlf s with | some i => (i : Int) | none => -1)
  | [] => rfl
  | c :: r => by
    have ih := index_crlf r
    rw [Lib.index, crlf]
    by_cases h : c = 13 ∧ r.head? = some 10
    · rw [if_pos h]
      obtain ⟨rfl, h2⟩ := h
      cases r with
      | nil => simp at h2
      | cons d r =>
        simp at h2
        subst h2
        rw [if_pos (by simp [List.isPrefixOf])]
        rfl
    · rw [if_neg h]
      have hp : ([13, 10] : Bytes).isPrefixOf (c :: r) = false := by
        cases r with
        | nil => simp [List.isPrefixOf]
        | cons d r =>
          simp only [List.head?_cons, Option.some.injEq] at h
          simp [List.isPrefixOf]
          intro h1 h2
          exact h ⟨h1.symm, h2.symm⟩
      rw [hp, if_neg (by decide), ih]
      cases crlf r with
      | none => rfl
      | some i =>
        simp only [Option.map_some]
        rw [if_neg (by first | (simp; done) | (simp; omega))]
        show (i : Int) + 1 = ((i + 1 : Nat) : Int)
        omega
theorem cut_crlf (s : ByteArray) (h : s.size ≤ 1000000000) : strings_Cut.f s (⟨#[13, 10]⟩ : ByteArray) = some (match crlf (bs s) with
    | some i => (str ((bs s).take i), str ((bs s).drop (i + 2)), true)
    | none => (s, str [], false)) := by
  unfold strings_Cut.f
  rw [if_pos (by omega)]
  congr 1
  have e : Lib.cut s.data.toList (⟨#[13, 10]⟩ : ByteArray).data.toList = Lib.cut (bs s) [13, 10] := rfl
  rw [e]
  unfold Lib.cut
  rw [index_crlf]
  cases crlf (bs s) with
  | none => simp [str_bs]
  | some i => simp
theorem index_one (c : UInt8) : ∀ (s : Bytes), Lib.index s [c] = (if upto c s = s.length then -1 else (upto c s : Int))
  | [] => rfl
  | d :: r => by
    have ih := index_one c r
    rw [Lib.index, upto]
    by_cases h : d = c
    · subst h
      rw [if_pos (by simp [List.isPrefixOf]), if_pos rfl, if_neg (by simp)]
      rfl
    · rw [if_neg (by simp [List.isPrefixOf]; exact fun e => h e.symm), if_neg h, ih]
      simp only [List.length_cons]
      by_cases h2 : upto c r = r.length
      · rw [if_pos h2, if_pos (by decide), if_pos (by omega)]
      · rw [if_neg h2, if_neg (by first | (simp; done) | (simp; omega)), if_neg (by omega)]; omega
end Go.Proofs.YtihabmcaplnbcaaGreatDoor.Pl
set_option linter.unusedVariables false
set_option linter.unusedSimpArgs false
namespace Go.Proofs.YtihabmcaplnbcaaGreatDoor.Pl
open Go.RowKit Go.Proofs.YtihabmcaplnbcaaGreatDoorW.PrintWords Go.Proofs.YtihabmcaplnbcaaGreatDoor.Fn

/-! Layer 16: a body's lines -/
def linesM : Nat → Bytes → List Bytes
  | 0, _ => []
  | n + 1, s => if s = [] then [] else match crlf s with
    | some i => s.take i :: linesM n (s.drop (i + 2))
    | none => [s]
def linesB (s : Bytes) : List Bytes := linesM s.length s
theorem msgLines_l0 : ∀ (n : Nat) (s : Bytes) (acc : List Bytes) (k : Nat), s.length ≤ n → n + 1 < k → acc.length + n ≤ 1000000 →
    msg_Message_Lines.l0 k (acc.map str) (str s) = some ((acc ++ linesM n s).map str)
  | n, [], acc, k, hn, hk, ha => by
    obtain ⟨k, rfl⟩ : ∃ q, k = q + 1 := ⟨k - 1, by omega⟩
    have e : linesM n [] = [] := by cases n <;> rfl
    rw [msg_Message_Lines.l0, if_pos (by rw [toList_str]), e, List.append_nil]
  | 0, c :: s, acc, k, hn, hk, ha => by simp at hn
  | n + 1, c :: s, acc, k, hn, hk, ha => by
    obtain ⟨k, rfl⟩ : ∃ q, k = q + 1 := ⟨k - 1, by omega⟩
    have hl : (c :: s).length ≤ 1000000 := by omega
    rw [msg_Message_Lines.l0, if_neg (by rw [toList_str]; simp), cut_crlf _ (by rw [str_size]; omega), Option.bind_some, bs_str, show linesM (n + 1) (c :: s) = (match crlf (c :: s) with | some i => (c :: s).take i :: linesM n ((c :: s).drop (i + 2)) | none => [c :: s]) from by rw [linesM, if_neg (by simp)]]
    cases hc : crlf (c :: s) with
    | none =>
      simp only []
      rw [if_pos (by rw [List.length_map]; omega), show acc.map str ++ [str (c :: s)] = (acc ++ [c :: s]).map str by simp]
      have := msgLines_l0 n [] (acc ++ [c :: s]) k (Nat.zero_le _) (by omega) (by rw [List.length_append, List.length_singleton]; omega)
      have e : linesM n [] = [] := by cases n <;> rfl
      rw [e, List.append_nil] at this
      exact this
    | some i =>
      have hr := crlf_room hc
      simp only []
      rw [if_pos (by rw [List.length_map]; omega), show acc.map str ++ [str ((c :: s).take i)] = (acc ++ [(c :: s).take i]).map str by simp]
      rw [msgLines_l0 n ((c :: s).drop (i + 2)) (acc ++ [(c :: s).take i]) k (by rw [List.length_drop]; omega) (by omega) (by rw [List.length_append, List.length_singleton]; omega)]
      simp
theorem msgLines_is (fs : List S35) (s : ByteArray) (hs : s.size ≤ 1000000) (k : Nat) (hk : s.size + 1 < k) : msg_Message_Lines.f k fs s = some ((linesB (bs s)).map str) := by
  have := msgLines_l0 (bs s).length (bs s) [] k (Nat.le_refl _) (by rw [bs_length]; exact hk) (by rw [bs_length]; simpa using hs)
  rw [str_bs] at this
  unfold msg_Message_Lines.f
  exact this
/-! the lines, each with its end behind it -/
end Go.Proofs.YtihabmcaplnbcaaGreatDoor.Pl
set_option linter.unusedVariables false
set_option linter.unusedSimpArgs false
namespace Go.Proofs.YtihabmcaplnbcaaGreatDoor.Pl
open Go.RowKit Go.Proofs.YtihabmcaplnbcaaGreatDoorW.PrintWords Go.Proofs.YtihabmcaplnbcaaGreatDoor.Fn

/-! Layer 35: the commands of a mail. -/
abbrev OC := Int × Int × ByteArray
abbrev OS := S63
def toO (c : OC) : OS := ⟨c.1, c.2.1, c.2.2⟩
def reL (l : List Bytes) : List Bytes := l.dropWhile (· == [114, 101, 58])
def stopW (w : Bytes) : Bool := w == [101, 110, 100] || (w == [115, 116, 111, 112] || (w == [113, 117, 105, 116] || w == [45, 45]))
def stopL : List Bytes → Bool
  | [] => false
  | w :: _ => stopW w
def quoteL : List Bytes → Bool
  | [] => true
  | w :: _ => w.take 1 == [62]
def subL (l : List Bytes) : List OC := if reL l = [] then [] else if stopL (reL l) = true then [] else if (cmd (reL l)).1 = 5 then [] else [cmd (reL l)]
def ordL : List Bytes → List OC → Nat → List OC
  | [], out, _ => out
  | s :: r, out, bad => if out.length = 8 ∨ bad = 3 then out else if quoteL (lineW (str s)) = true then ordL r out bad else if stopL (lineW (str s)) = true then out else ordL r (out ++ [cmd (lineW (str s))]) (if (cmd (lineW (str s))).1 = 5 then bad + 1 else bad)
theorem stops_is (w : Bytes) (r : List Bytes) : order_stops.f ((w :: r).map str) = some (stopW w) := by
  have h0 : rdOf ByteArray.empty ((w :: r).map str) 0 = str w := rfl
  unfold order_stops.f stopW
  rw [if_pos (by simp), h0, toList_str]
  by_cases h1 : w = [101, 110, 100]
  · rw [if_pos h1, h1]; rfl
  · rw [if_neg h1, beq_eq_false_iff_ne.2 h1]
    by_cases h2 : w = [115, 116, 111, 112]
    · rw [if_pos h2, h2]; rfl
    · rw [if_neg h2, beq_eq_false_iff_ne.2 h2]
      by_cases h3 : w = [113, 117, 105, 116]
      · rw [if_pos h3, h3]; rfl
      · rw [if_neg h3, beq_eq_false_iff_ne.2 h3]
        by_cases h4 : w = [45, 45]
        · rw [if_pos h4, h4]; rfl
        · rw [if_neg h4, beq_eq_false_iff_ne.2 h4]; rfl
theorem jn_drop (x : Bytes) (l : List Bytes) : (jn l).length ≤ (jn (x :: l)).length := by
  cases l with
  | nil => simp [jn, Lib.join]
  | cons a r =>
    show (Lib.join (a :: r) [32]).length ≤ (Lib.join (x :: a :: r) [32]).length
    simp [Lib.join, Lib.joinTail]
    omega
theorem subject_l0 : ∀ (l : List Bytes) (k : Nat), l.length ≤ 100000000 → (jn l).length ≤ 100000000 → l.length + 50 ≤ k → order_subject.l0 k (l.map str) = some ((subL l).map toO)
  | [], k, hl, hs, hk => by
    obtain ⟨k, rfl⟩ : ∃ j, k = j + 3 := ⟨k - 3, by omega⟩
    rw [order_subject.l0, if_neg (by simp), order_subject.j1, if_pos (by simp), order_subject.j2, if_pos rfl]
    rfl
  | w :: r, k, hl, hs, hk => by
    obtain ⟨k, rfl⟩ : ∃ j, k = j + 3 := ⟨k - 3, by omega⟩
    have h0 : rdOf ByteArray.empty ((w :: r).map str) 0 = str w := rfl
    rw [order_subject.l0, if_pos (by simp), if_pos (by simp), h0, toList_str]
    by_cases hw : w = [114, 101, 58]
    · have hre : reL (w :: r) = reL r := by
        unfold reL
        rw [List.dropWhile_cons, if_pos (beq_iff_eq.2 hw)]
      rw [if_pos hw, if_pos (by simp; omega)]
      have := subject_l0 r (k + 2) (by simp at hl; omega) (Nat.le_trans (jn_drop w r) hs) (by simp at hk; omega)
      unfold subL at this ⊢
      rw [hre]
      exact this
    · have hre : reL (w :: r) = w :: r := by
        unfold reL
        rw [List.dropWhile_cons, if_neg (by rw [beq_iff_eq]; exact hw)]
      rw [if_neg hw, order_subject.j1, if_neg (by simp; omega), stops_is, Option.bind_some, order_subject.j2]
      have hsub : subL (w :: r) = if stopW w = true then [] else if (cmd (w :: r)).1 = 5 then [] else [cmd (w :: r)] := by
        unfold subL
        rw [hre, if_neg (show ¬ (w :: r) = [] by simp)]
        rfl
      rw [hsub]
      cases hst : stopW w with
      | true => rfl
      | false =>
        simp only [Bool.false_eq_true, if_false]
        rw [command_is (w :: r) hl hs k (by simp at hk; omega), Option.bind_some]
        split <;> rfl
theorem ord_l0 (L : List Bytes) (hL : L.length ≤ 1000000) (hz : ∀ x ∈ L, x.length ≤ 1000000) : ∀ (rest : List Bytes) (i k : Nat) (out : List OC) (bad : Nat), L.drop i = rest → 3 * rest.length + 60 ≤ k → out.length ≤ i + 1 → bad ≤ 3 → i ≤ L.length →
    order_Read.l0 k (out.map toO) (bad : Int) (L.map str) (L.length : Int) (i : Int) = some ((ordL rest out bad).map toO)
  | [], i, k, out, bad, hd, hk, ho, hb, hi => by
    obtain ⟨k, rfl⟩ : ∃ j, k = j + 1 := ⟨k - 1, by omega⟩
    have := List.drop_eq_nil_iff.1 hd
    rw [order_Read.l0, if_neg (by omega)]
    rfl
  | s :: r, i, k, out, bad, hd, hk, ho, hb, hi => by
    obtain ⟨k, rfl⟩ : ∃ j, k = j + 3 := ⟨k - 3, by omega⟩
    have hil : i < L.length := by
      rcases Nat.lt_or_ge i L.length with h | h
      · exact h
      · rw [List.drop_of_length_le h] at hd; cases hd
    have hsm : s ∈ L := List.mem_of_mem_drop (by rw [hd]; exact List.mem_cons_self)
    have h3 : L.drop (i + 1) = r := by rw [← List.drop_drop, hd]; rfl
    have hrd : rdOf ByteArray.empty (L.map str) (i : Int) = str s := by
      unfold rdOf
      rw [Int.toNat_natCast, List.getD_eq_getElem?_getD, List.getElem?_map]
      have : L[i]? = some s := by
        have := congrArg List.head? hd
        rwa [List.head?_drop] at this
      rw [this]
      rfl
    have hsz := lineW_size (str s)
    have hs1 := hz s hsm
    rw [str_size] at hsz
    have hw := words_is (str s) (by rw [str_size]; omega)
    have ih : ∀ (out : List OC) (bad : Nat), out.length ≤ i + 2 → bad ≤ 3 → order_Read.l0 k (out.map toO) (bad : Int) (L.map str) (L.length : Int) ((i + 1 : Nat) : Int) = some ((ordL r out bad).map toO) := fun out bad a b => ord_l0 L hL hz r (i + 1) k out bad h3 (by simp at hk; omega) a b (by omega)
    rw [order_Read.l0, if_pos (by omega), if_pos (by omega), if_pos (by rw [List.length_map]; omega), hrd, hw, Option.bind_some]
    generalize hW : lineW (str s) = W at hsz ⊢
    have hlen : ((out.map toO).length : Int) = (out.length : Int) := by rw [List.length_map]
    have hj : ∀ b, b = (decide (out.length = 8) || decide (bad = 3)) → order_Read.j1 (k + 2) (out.map toO) (bad : Int) (W.map str) (L.map str) (L.length : Int) (i : Int) b = some ((ordL (s :: r) out bad).map toO) := by
      rintro b rfl
      rw [order_Read.j1, ordL, hW]
      by_cases hq : out.length = 8 ∨ bad = 3
      · have hq' : (decide (out.length = 8) || decide (bad = 3)) = true := by simpa using hq
        rw [hq', if_pos rfl, if_pos hq]
      · have hq' : (decide (out.length = 8) || decide (bad = 3)) = false := by
          rw [← Bool.not_eq_true]
          simpa using hq
        have hj2 : ∀ t, order_Read.j2 (k + 1) (out.map toO) (bad : Int) (W.map str) (L.map str) (L.length : Int) (i : Int) t = (if t = true then some ((ordL r out bad).map toO) else (order_stops.f (W.map str)).bind fun t811 => (if t811 = true then (some (out.map toO)) else some ((ordL r (out ++ [cmd W]) (if (cmd W).1 = 5 then bad + 1 else bad)).map toO))) := by
          intro t
          have hlt : (out.map toO).length < 4398046511104 := by rw [List.length_map]; omega
          have happ : out.map toO ++ [(⟨(cmd W).1, (cmd W).2.1, (cmd W).2.2⟩ : OS)] = (out ++ [cmd W]).map toO := by simp [toO]
          have b1 : W.length ≤ 100000000 := by omega
          have b2 : (jn W).length ≤ 100000000 := by omega
          have b3 : 40 < k := by simp at hk; omega
          have b4 : (out ++ [cmd W]).length ≤ i + 2 := by rw [List.length_append, List.length_singleton]; omega
          have b5 : out.length ≤ i + 2 := by omega
          have b6 : bad + 1 ≤ 3 := by have : bad ≠ 3 := fun h => hq (.inr h); omega
          have b7 : i ≤ 140737488355328 := by omega
          have b8 : bad ≤ 140737488355328 := by omega
          rw [order_Read.j2, wrap_succ i b7, ih out bad b5 hb, command_is W b1 b2 k b3, Option.bind_some, if_pos hlt, if_pos hlt, happ, wrap_succ bad b8, ih _ (bad + 1) b4 b6, ih _ bad b4 hb]
          congr 2
          funext t811
          congr 1
          split <;> rfl
        rw [hq']
        simp only [Bool.false_eq_true, if_false]
        rw [if_neg hq]
        cases W with
        | nil =>
          rw [if_pos (by simp), hj2, if_pos rfl]
          rfl
        | cons w ws =>
          have h0 : rdOf ByteArray.empty ((w :: ws).map str) 0 = str w := rfl
          have hpre : strings_HasPrefix.f (str w) (⟨#[62]⟩ : ByteArray) = some (w.take 1 == [62]) := by rw [prefix1_is, bs_str]
          rw [if_neg (by simp; omega), if_pos (by simp), h0, hpre, Option.bind_some, hj2, stops_is, Option.bind_some]
          show _ = some ((if (w.take 1 == [62]) = true then ordL r out bad else if stopW w = true then out else _).map toO)
          cases w.take 1 == [62] with
          | true => rfl
          | false =>
            simp only [Bool.false_eq_true, if_false]
            cases stopW w <;> rfl
    by_cases h8 : out.length = 8
    · rw [if_pos (by rw [hlen]; omega)]
      exact hj true (by rw [decide_eq_true h8]; rfl)
    · rw [if_neg (by rw [hlen]; omega)]
      refine hj _ ?_
      rw [decide_eq_false h8, Bool.false_or, Bool.eq_iff_iff, beq_iff_eq, decide_eq_true_eq]
      omega
theorem allL_some {l : List FP} {name v : ByteArray} (h : v ∈ allL l name) : ∃ x ∈ l, x.f1 = v := by
  unfold allL at h
  obtain ⟨x, hx, e⟩ := List.mem_map.1 h
  exact ⟨x, (List.mem_filter.1 hx).1, e⟩
theorem getA_size {l : List FP} {name : ByteArray} (hz : ∀ x ∈ l, x.f1.size ≤ 3000) : (getA (allL l name)).1.size ≤ 3000 := by
  cases h : allL l name with
  | nil => exact Nat.zero_le _
  | cons v r =>
    obtain ⟨x, hx, e⟩ := allL_some (l := l) (name := name) (v := v) (by rw [h]; exact List.mem_cons_self)
    show v.size ≤ 3000
    rw [← e]
    exact hz x hx
def subjT (l : List FP) : Bytes := (getA (allL l ⟨#[83, 117, 98, 106, 101, 99, 116]⟩)).1.data.toList
def ordR (l : List FP) (b : ByteArray) : List OC := ordL (linesB (bs b)) (subL (lineW (str (clean (str (decodeL (subjT l))))))) 0
theorem lines_sum : ∀ (n : Nat) (s : Bytes), (linesM n s).length ≤ n ∧ ∀ x ∈ linesM n s, x.length ≤ s.length
  | 0, s => by simp [linesM]
  | n + 1, s => by
    rw [linesM]
    split
    · simp
    · split
      · next i h =>
        have ih := lines_sum n (s.drop (i + 2))
        refine ⟨by simp only [List.length_cons]; omega, fun x hx => ?_⟩
        rcases List.mem_cons.1 hx with rfl | hx
        · rw [List.length_take]; omega
        · have := ih.2 x hx
          rw [List.length_drop] at this
          omega
      · simp
theorem orderRead_is (l : List FP) (b : ByteArray) (hl : l.length ≤ 30) (hz : ∀ x ∈ l, x.f0.size ≤ 200 ∧ x.f1.size ≤ 3000) (hb : b.size ≤ 3000) (k : Nat) (hk : 100000000 ≤ k) : order_Read.f k l b = some ((ordR l b).map toO) := by
  have hg := get_is l ⟨#[83, 117, 98, 106, 101, 99, 116]⟩ (by omega) (by decide) (fun x hx => by have := (hz x hx).1; omega) k (by omega)
  have hgz := getA_size (l := l) (name := ⟨#[83, 117, 98, 106, 101, 99, 116]⟩) (fun x hx => (hz x hx).2)
  have hd := decodeL_len (subjT l)
  have hst : (subjT l).length ≤ 3000 := by unfold subjT; rw [data_length]; exact hgz
  have hcl := clean_length (str (decodeL (subjT l)))
  rw [str_size] at hcl
  have hs : rights_Subject.f k l b = some (str (clean (str (decodeL (subjT l))))) := by
    unfold rights_Subject.f msg_Message_Get.f
    rw [hg, Option.bind_some, Option.bind_some, decode_is _ (by omega), Option.bind_some]
    unfold glyph_Clean.f
    rw [if_pos (by rw [str_size]; show (decodeL (subjT l)).length ≤ _; omega)]
    rfl
  have hlw := lineW_size (str (clean (str (decodeL (subjT l)))))
  rw [str_size] at hlw
  have hsub : order_subject.f k l b = some ((subL (lineW (str (clean (str (decodeL (subjT l))))))).map toO) := by
    unfold order_subject.f
    rw [hs, Option.bind_some, words_is _ (by rw [str_size]; omega), Option.bind_some]
    exact subject_l0 _ k (by omega) (by omega) (by omega)
  have hbz := bs_length b
  have hln := lines_sum (bs b).length (bs b)
  have hout : (subL (lineW (str (clean (str (decodeL (subjT l))))))).length ≤ 1 := by
    unfold subL
    split
    · simp
    · split
      · simp
      · split <;> simp
  unfold order_Read.f
  rw [hsub, Option.bind_some, msgLines_is _ b (by omega) k (by omega), Option.bind_some, List.length_map]
  exact ord_l0 (linesB (bs b)) (by unfold linesB; omega) (fun x hx => by have := hln.2 x hx; omega) (linesB (bs b)) 0 k _ 0 rfl (by unfold linesB; omega) (by omega) (by omega) (Nat.zero_le _)
end Go.Proofs.YtihabmcaplnbcaaGreatDoor.Pl
set_option linter.unusedVariables false
set_option linter.unusedSimpArgs false
namespace Go.Proofs.YtihabmcaplnbcaaGreatDoor.Pl
open Go.RowKit Go.Proofs.YtihabmcaplnbcaaGreatDoorW.PrintWords Go.Proofs.YtihabmcaplnbcaaGreatDoor.Fn

theorem light16 (l : List FQ) (b : ByteArray) (k : Nat) (hk : 100 < k) : bulletinlaw16_Light.f k l b = some (lightQ l && decide ((b.size : Int) ≤ 3000)) := by
  unfold bulletinlaw16_Light.f
  rw [lightQ_is l k hk, Option.bind_some]
  cases lightQ l <;> rfl
end Go.Proofs.YtihabmcaplnbcaaGreatDoor.Pl
set_option linter.unusedVariables false
set_option linter.unusedSimpArgs false
namespace Go.Proofs.YtihabmcaplnbcaaGreatDoor.Pl
open Go.RowKit Go.Proofs.YtihabmcaplnbcaaGreatDoorW.PrintWords Go.Proofs.YtihabmcaplnbcaaGreatDoor.Fn

def c5 (l : List OC) : Nat := l.countP fun c => decide (c.1 = 5)
theorem c5_snoc (l : List OC) (o : OC) : c5 (l ++ [o]) = c5 l + (if o.1 = 5 then 1 else 0) := by
  unfold c5
  rw [List.countP_append, List.countP_singleton]
  simp
def fewP (R : List OC) : Prop := R.length ≤ 8 ∧ c5 R ≤ 3 ∧ (c5 R = 3 → c5 R.dropLast ≤ 2)
theorem ord_few : ∀ (L : List Bytes) (out : List OC) (bad : Nat), bad = c5 out → fewP out → fewP (ordL L out bad)
  | [], out, bad, hb, hf => hf
  | s :: r, out, bad, hb, hf => by
    rw [ordL]
    by_cases h1 : out.length = 8 ∨ bad = 3
    · rw [if_pos h1]
      exact hf
    · rw [if_neg h1]
      split
      · exact ord_few r out bad hb hf
      · split
        · exact hf
        · obtain ⟨f1, f2, f3⟩ := hf
          have h8 : out.length ≠ 8 := fun h => h1 (.inl h)
          have h3 : bad ≠ 3 := fun h => h1 (.inr h)
          have hc := c5_snoc out (cmd (lineW (str s)))
          refine ord_few r _ _ ?_ ⟨?_, ?_, ?_⟩
          · rw [hc]
            split <;> omega
          · rw [List.length_append, List.length_singleton]
            omega
          · rw [hc]
            split <;> omega
          · intro h
            rw [List.dropLast_concat]
            rw [hc] at h
            split at h <;> omega
theorem rdO (R : List OC) (i : Nat) (h : i < R.length) : rd_T63 (R.map toO) (i : Int) = toO R[i] := by
  unfold rd_T63
  rw [Int.toNat_natCast, List.getD_eq_getElem?_getD, List.getElem?_map, List.getElem?_eq_getElem h]
  rfl
theorem c5_take (R : List OC) (i : Nat) (h : i < R.length) : c5 (R.take (i + 1)) = c5 (R.take i) + (if R[i].1 = 5 then 1 else 0) := by
  rw [List.take_succ_eq_append_getElem h, c5_snoc]
theorem c5_pre (R : List OC) (i : Nat) (h : i < R.length) : c5 (R.take i) ≤ c5 R.dropLast := by
  rw [List.dropLast_eq_take]
  exact List.Sublist.countP_le (List.take_sublist_take_left (by omega))
theorem c5_le (R : List OC) (i : Nat) : c5 (R.take i) ≤ c5 R := List.Sublist.countP_le (List.take_sublist _ _)
theorem few_l0 (R : List OC) (hR : fewP R) : ∀ (d i k : Nat), i + d = R.length → d + 1 ≤ k →
    bulletinlaw35_OrderFew.l0 k (R.map toO) (c5 (R.take i) : Int) (R.length : Int) (i : Int) = some true
  | 0, i, k, hi, hk => by
    obtain ⟨k, rfl⟩ : ∃ j, k = j + 1 := ⟨k - 1, by omega⟩
    obtain ⟨f1, f2, _⟩ := hR
    have := c5_le R i
    rw [bulletinlaw35_OrderFew.l0, if_neg (by omega), if_pos (by rw [List.length_map]; omega), decide_eq_true (by omega)]
  | d + 1, i, k, hi, hk => by
    obtain ⟨k, rfl⟩ : ∃ j, k = j + 1 := ⟨k - 1, by omega⟩
    have hR' := hR
    obtain ⟨f1, f2, f3⟩ := hR'
    have hil : i < R.length := by omega
    have h1 := c5_le R i
    have h1' := c5_le R (i + 1)
    have h2 := c5_pre R i hil
    have h3 := c5_take R i hil
    have ih := few_l0 R hR d (i + 1) k (by omega) (by omega)
    have hw : wrap64 ((R.length : Int) - 1) = (R.length : Int) - 1 := wrap_id (by omega) (by omega)
    rw [bulletinlaw35_OrderFew.l0, if_pos (by omega), if_pos (by omega), if_pos (by rw [List.length_map]; omega), rdO R i hil, wrap_succ i (by omega), wrap_succ _ (by omega), List.length_map, hw]
    clear hw
    show (if R[i].1 = 5 then _ else _) = _
    by_cases hc : R[i].1 = 5
    · rw [if_pos hc]
      rw [if_pos hc] at h3
      rw [h3] at ih
      by_cases h33 : ((c5 (R.take i) + 1 : Nat) : Int) = 3
      · rw [if_pos h33, if_pos]
        · exact ih
        · by_cases hlast : i + 1 = R.length
          · omega
          · exfalso
            have h5 := c5_pre R (i + 1) (by omega)
            have h6 := f3 (by omega)
            omega
      · rw [if_neg h33]
        exact ih
    · rw [if_neg hc]
      rw [if_neg hc] at h3
      rw [h3] at ih
      rw [if_neg (by intro h; have := f3 (by omega); omega)]
      exact ih
theorem OrderFew (q : List FQ) (b : ByteArray) : ∃ k, bulletinlaw35_OrderFew.f k q b = some true := by
  refine ⟨100000000, ?_⟩
  generalize hK : (100000000 : Nat) = K
  unfold bulletinlaw35_OrderFew.f
  rw [works_is K (by omega), Option.bind_some, if_pos rfl, light16 q b K (by omega), Option.bind_some]
  cases hl : lightQ q with
  | false => rfl
  | true =>
    by_cases hb : (b.size : Int) ≤ 3000
    · obtain ⟨h30, hz⟩ := lightQ_some hl
      have hto : bulletinlaw16_To.f K q b = some (q.map toF, b) := by
        unfold bulletinlaw16_To.f
        rw [toQ_is q (by omega) K (by omega), Option.bind_some]
      have hf : fewP (ordR (q.map toF) b) := by
        refine ord_few _ _ _ ?_ ⟨?_, ?_, ?_⟩
        · unfold subL c5
          split
          · rfl
          · split
            · rfl
            · split
              · rfl
              · next h => simp [h]
        all_goals
          unfold subL
          split
          · simp [c5]
          · split
            · simp [c5]
            · split
              · simp [c5]
              · next h => simp [c5, h]
      rw [decide_eq_true hb, Bool.and_self, if_pos rfl, hto, Option.bind_some, orderRead_is _ b (by rw [List.length_map]; exact h30) (fun x hx => by
        obtain ⟨y, hy, rfl⟩ := List.mem_map.1 hx
        exact hz y hy) (by omega) K (by omega), Option.bind_some, List.length_map]
      exact few_l0 _ hf _ 0 K (Nat.zero_add _) (by have := hf.1; omega)
    · rw [decide_eq_false hb, Bool.and_false]
      rfl
end Go.Proofs.YtihabmcaplnbcaaGreatDoor.Pl
set_option linter.unusedVariables false
namespace Go.Proofs.YtihabmcaplnbcaaGreatDoor.Fn
open Go.RowKit Go.ChangeShapes Go.WideShapes Go.Proofs.YtihabmcaplnbcaaGreatDoorW.PrintWords

/-! A slice of fields (two texts each) that came in. -/
def strOf : Value → ByteArray | .string s => s | _ => ByteArray.empty
theorem open_fields {H : Type} {enc : TypeId × Value → H} {w : World} {base : Nat} {spare : Nat → Bool} {held : Bool} {fuel : Nat} {v : Value} {x : DataW H × List MemPlace}
    (h : DataW.trod enc Tryz.prog w base spare held fuel 22 [v] = some x) :
    ∃ (A : Option Addr) (c : Nat) (l : List (S74)), v = .slice A l.length c ∧ l.length ≤ c ∧ c ≤ maxLen ∧ Kd.C k74 w A l.length l := by
  rcases Go.Deep.open_slice_pairs Tryz.underlying22 Tryz.underlying74 (by kernel_rfl) rfl rfl (by kernel_rfl) (by kernel_rfl) h with ⟨h0, _⟩ | ⟨a, len, cap, m, n, V0, V1, D0, D1, P0, P1, hv, hb, hl, hm, hmm, _, hx⟩
  · refine ⟨none, 0, [], ?_, Nat.le_refl _, Nat.zero_le _, ?_⟩
    · simpa using h0
    · exact ⟨rfl, by simp, fun h => absurd h (by simp)⟩
  · have hlm : len ≤ m := by rw [hmm]; split <;> omega
    have s0 : ∀ i, i < len → V0 i = .string (strOf (V0 i)) := fun i hi => by
      obtain ⟨_, _, g, _⟩ := hx i (by omega)
      obtain ⟨s, e, _⟩ := DataW.trod_string Tryz.underlying9 g
      simp only [List.cons.injEq, and_true] at e
      rw [e]; rfl
    have s1 : ∀ i, i < len → V1 i = .string (strOf (V1 i)) := fun i hi => by
      obtain ⟨_, _, _, g⟩ := hx i (by omega)
      obtain ⟨s, e, _⟩ := DataW.trod_string Tryz.underlying9 g
      simp only [List.cons.injEq, and_true] at e
      rw [e]; rfl
    have hlen : ((List.range len).map fun i => (⟨strOf (V0 i), strOf (V1 i)⟩ : S74)).length = len := by simp
    refine ⟨some a, cap, (List.range len).map fun i => ⟨strOf (V0 i), strOf (V1 i)⟩, ?_, by rw [hlen]; exact hl, hm, ?_⟩
    · rw [hlen]; simpa using hv
    · rw [hlen]
      refine ⟨hlen, by unfold maxLen at hm; omega, fun h0 => ⟨a, rfl, fun j p hp => ?_⟩⟩
      have hj : j < len := by
        have := (List.getElem?_eq_some_iff.1 hp).1
        rwa [hlen] at this
      have hp' : p = ⟨strOf (V0 j), strOf (V1 j)⟩ := by
        rw [List.getElem?_map, List.getElem?_range hj] at hp
        exact (Option.some.inj hp).symm
      subst hp'
      obtain ⟨g0, g1, _, _⟩ := hx j (by omega)
      rw [s0 j hj] at g0
      rw [s1 j hj] at g1
      refine ⟨[.string (strOf (V0 j)), .string (strOf (V1 j))], rfl, k74_mk w _, fun i u hu => ?_⟩
      match i, hu with
      | 0, hu => obtain rfl := Option.some.inj hu; exact g0
      | 1, hu => obtain rfl := Option.some.inj hu; exact g1
      | i + 2, hu => simp at hu
end Go.Proofs.YtihabmcaplnbcaaGreatDoor.Fn
