/- A part of the proof of this sentence: OrderAlone (35.7): a mail without a subject whose body is one line with an end has just the command of this line, if it has words, the first of which does not begin with >, and does not stop; of a line of at most 500 bytes without CR and LF. -/
import Derived.Test.YtihabmcaplnbcaaDoorCOrderAlone2
import Derived.Shelf.Strings.SlTrimAscii
import Derived.Lib.ConvBytes
import Derived.Laws.Cover4
import Derived.Lib.IndexAny
import Derived.Lib.SlTrimSet
set_option linter.unusedVariables false
set_option linter.unusedSimpArgs false
namespace Go.Proofs.YtihabmcaplnbcaaDoor.Pl
open Go.RowKit Go.Proofs.YtihabmcaplnbcaaDoorW.PrintWords Go.Proofs.YtihabmcaplnbcaaDoor.Fn

/-! Layer 19: the program's word. -/
theorem prefix2_is (s : ByteArray) (c d : UInt8) : stringslite_HasPrefix.f s ⟨#[c, d]⟩ = some ((bs s).take 2 == [c, d]) := by
  unfold stringslite_HasPrefix.f
  have hz : ((⟨#[c, d]⟩ : ByteArray).size : Int) = 2 := rfl
  rw [hz]
  by_cases h : (s.size : Int) ≥ 2
  · rw [if_pos h, if_pos (by decide), if_pos (by omega), toList_bs, bs_extract, List.drop_zero, toList_bs]
    rfl
  · rw [if_neg h]
    congr 1
    rw [eq_comm, beq_eq_false_iff_ne]
    intro e
    have := congrArg List.length e
    rw [List.length_take, bs_length] at this
    simp at this
    omega
theorem prefix1_is (s : ByteArray) (c : UInt8) : strings_HasPrefix.f s ⟨#[c]⟩ = some ((bs s).take 1 == [c]) := by
  unfold strings_HasPrefix.f stringslite_HasPrefix.f
  have hz : ((⟨#[c]⟩ : ByteArray).size : Int) = 1 := rfl
  rw [hz]
  by_cases h : (s.size : Int) ≥ 1
  · rw [if_pos h, if_pos (by decide), if_pos (by omega), toList_bs, bs_extract, List.drop_zero, toList_bs]
    rfl
  · rw [if_neg h, Option.bind_some]
    congr 1
    rw [eq_comm, beq_eq_false_iff_ne]
    intro e
    have := congrArg List.length e
    rw [List.length_take, bs_length] at this
    simp at this
    omega
theorem cutprefix_is (s : ByteArray) : strings_CutPrefix.f s ⟨#[61, 63]⟩ = some (if (bs s).take 2 = [61, 63] then (str ((bs s).drop 2), true) else (s, false)) := by
  unfold strings_CutPrefix.f stringslite_CutPrefix.f
  rw [prefix2_is, Option.bind_some]
  by_cases h : (bs s).take 2 = [61, 63]
  · have hl : 2 ≤ s.size := by
      have := congrArg List.length h
      rw [List.length_take, bs_length] at this
      simp at this
      omega
    have hz : ((⟨#[61, 63]⟩ : ByteArray).size : Int) = 2 := rfl
    rw [if_pos (beq_iff_eq.2 h), hz, if_pos (by decide), if_pos (by omega), if_pos h, Option.bind_some]
    congr 2
    apply bs_inj
    rw [bs_extract, bs_str, List.take_of_length_le (by rw [bs_length]; exact Nat.le_refl _)]
    rfl
  · rw [if_neg (by rw [beq_iff_eq]; exact h), if_neg h, Option.bind_some]
theorem signsR_some {a b : ByteArray} {x : Bytes} (h : signsL (bs a) (bs b) = some x) : signsR a b = (str x, true) := by
  unfold signsL at h
  unfold signsR
  split at h
  · next h1 =>
    rw [if_pos h1]
    split at h
    · next h2 =>
      injection h with h
      rw [if_pos h2, ← h, str_bs]
    · cases h
  · next h1 =>
    rw [if_neg h1]
    split at h
    · next h3 =>
      rw [if_pos h3]
      split at h
      · next h4 =>
        injection h with h
        rw [str_bs] at h4
        rw [h4, ← h, str_bs]
      · cases h
    · next h3 =>
      rw [if_neg h3]
      split at h
      · next h5 =>
        injection h with h
        rw [if_pos h5, ← h]
      · cases h
theorem signsR_none {a b : ByteArray} (h : signsL (bs a) (bs b) = none) : (signsR a b).2 = false := by
  unfold signsL at h
  unfold signsR
  split at h
  · next h1 =>
    rw [if_pos h1]
    split at h
    · cases h
    · next h2 => rw [if_neg h2]
  · next h1 =>
    rw [if_neg h1]
    split at h
    · next h3 =>
      rw [if_pos h3]
      split at h
      · cases h
      · next h4 =>
        rw [str_bs] at h4
        simpa using h4
    · next h3 =>
      rw [if_neg h3]
      split at h
      · cases h
      · next h5 => rw [if_neg h5]
theorem word_j1 (k : Nat) (a b : ByteArray) (P : List ByteArray) (n : Int) (t : Bool) (hP : P[0]? = some a) (ha : a.size ≤ 1000000000) (hb : b.size ≤ 1000000000) :
    ew_word.j1 (k + 1) P n b t = some (if t = true then (⟨#[]⟩, 0) else match signsL (bs a) (bs b) with | none => (⟨#[]⟩, 0) | some x => (str x, n)) := by
  rw [ew_word.j1]
  cases t with
  | true => rfl
  | false =>
    have hr : rdOf ByteArray.empty P 0 = a := by
      unfold rdOf
      simp [hP]
    have hl : 0 < (P.length : Int) := by
      rcases P with _ | ⟨p, P⟩
      · cases hP
      · simp
    have hs : ew_signs.f a b = some (signsR a b) := by unfold ew_signs.f; rw [if_pos ⟨ha, hb⟩]
    simp only [Bool.false_eq_true, if_false]
    rw [if_pos hl, hr, hs, Option.bind_some]
    cases hx : signsL (bs a) (bs b) with
    | none => rw [signsR_none hx]; rfl
    | some x => rw [signsR_some hx]; rfl
theorem quotedF_len : ∀ (f : Nat) (l x : Bytes), quotedF f l = some x → x.length ≤ l.length
  | 0, l, x, h => by injection h with h; rw [← h]; simp
  | _ + 1, [], x, h => by injection h with h; rw [← h]; simp
  | f + 1, c :: r, x, h => by
    rw [quotedF] at h
    split at h
    · obtain ⟨y, hy, e⟩ := Option.map_eq_some_iff.1 h
      have := quotedF_len f r y hy
      rw [← e]; simp; omega
    · split at h
      · split at h
        · obtain ⟨z, hz, h⟩ := obind_some h
          obtain ⟨y, hy, e⟩ := Option.map_eq_some_iff.1 h
          have := quotedF_len f _ y hy
          rw [List.length_drop] at this
          rw [← e]; simp; omega
        · cases h
      · obtain ⟨y, hy, e⟩ := Option.map_eq_some_iff.1 h
        have := quotedF_len f r y hy
        rw [← e]; simp; omega
theorem b64D_len : ∀ (l : Bytes) (h n : Nat) (acc x : Bytes), b64D l h n acc = some x → x.length ≤ acc.length + l.length
  | [], h, n, acc, x, e => by injection e with e; rw [← e]; simp
  | c :: r, h, n, acc, x, e => by
    rw [b64D] at e
    obtain ⟨k, _, e⟩ := obind_some e
    split at e
    · have := b64D_len r _ _ _ x e
      simp at this ⊢
      omega
    · have := b64D_len r _ _ _ x e
      simp at this ⊢
      omega
theorem octL_len {k l x : Bytes} (h : octL k l = some x) : x.length ≤ l.length := by
  unfold octL at h
  split at h
  · exact quotedF_len _ _ _ h
  · split at h
    · obtain ⟨y, hy, h⟩ := obind_some h
      have h1 := b64D_len _ _ _ _ _ hy
      have h2 : (Lib.trimRightS (bareL l) [61]).length ≤ (bareL l).length := by
        rw [trimR_prefix, List.length_take]
        omega
      have h3 : (bareL l).length ≤ l.length := List.length_filter_le _ _
      split at h
      · injection h with h
        rw [← h]
        simp at h1
        omega
      · cases h
    · cases h
theorem word_j0 (k : Nat) (a q t z : Bytes) (b : Bool) (ha : a.length ≤ 1000000000) (hq : q.length ≤ 1000000000) (ht : t.length ≤ 1000000000) (hk : t.length + 10 ≤ k) :
    ew_word.j0 k [str a, str q, str t, str z] b = some (if b = true then (⟨#[]⟩, 0) else if ewN a q t ≤ 75 then resW ((octL q t).bind fun o => (signsL a o).bind fun x => some (x, ewN a q t)) else (⟨#[]⟩, 0)) := by
  obtain ⟨k, rfl⟩ : ∃ j, k = j + 1 + 1 := ⟨k - 2, by omega⟩
  rw [ew_word.j0]
  cases b with
  | true => rfl
  | false =>
    simp only [Bool.false_eq_true, if_false]
    have r0 : rdOf ByteArray.empty [str a, str q, str t, str z] 0 = str a := rfl
    have r1 : rdOf ByteArray.empty [str a, str q, str t, str z] 1 = str q := rfl
    have r2 : rdOf ByteArray.empty [str a, str q, str t, str z] 2 = str t := rfl
    have ho := octets_is (str q) (str t) (by rw [str_size]; exact ht) (k + 1) (by rw [str_size]; omega)
    rw [bs_str, bs_str] at ho
    have hn : wrap64 (wrap64 (wrap64 (wrap64 (wrap64 (wrap64 (2 + ((str a).size : Int)) + 1) + ((str q).size : Int)) + 1) + ((str t).size : Int)) + 2) = (ewN a q t : Int) := by
      rw [str_size, str_size, str_size]
      unfold ewN
      rw [wrap_small (x := 2 + (a.length : Int)) (by omega) (by omega), wrap_small (x := 2 + (a.length : Int) + 1) (by omega) (by omega), wrap_small (x := 2 + (a.length : Int) + 1 + (q.length : Int)) (by omega) (by omega), wrap_small (x := 2 + (a.length : Int) + 1 + (q.length : Int) + 1) (by omega) (by omega), wrap_small (x := 2 + (a.length : Int) + 1 + (q.length : Int) + 1 + (t.length : Int)) (by omega) (by omega), wrap_small (x := 2 + (a.length : Int) + 1 + (q.length : Int) + 1 + (t.length : Int) + 2) (by omega) (by omega)]
      omega
    rw [if_pos (by simp), if_pos (by simp), if_pos (by simp), r0, r1, r2, ho, Option.bind_some, hn]
    have hbz : (resQ (octL q t)).1.size ≤ 1000000000 := by
      cases hx : octL q t with
      | none => exact Nat.zero_le _
      | some x =>
        have := octL_len hx
        show (str x).size ≤ _
        rw [str_size]
        omega
    rw [word_j1 k (str a) _ _ _ _ rfl (by rw [str_size]; exact ha) hbz, word_j1 k (str a) _ _ _ _ rfl (by rw [str_size]; exact ha) hbz, bs_str]
    by_cases h75 : ewN a q t ≤ 75
    · rw [if_neg (by omega), if_pos h75]
      cases hx : octL q t with
      | none => rfl
      | some o =>
        simp only [resQ, Bool.not_true, Bool.false_eq_true, if_false, bs_str, Option.bind_some]
        cases signsL a o <;> rfl
    · rw [if_pos (by omega), if_neg h75]
      rfl
theorem word_is (s : ByteArray) (hs : s.size ≤ 1000000000) (k : Nat) (hk : s.size + 10 ≤ k) : ew_word.f k s = some (resW (wordL (bs s))) := by
  unfold ew_word.f wordL
  rw [cutprefix_is, Option.bind_some]
  by_cases h0 : (bs s).take 2 = [61, 63]
  · rw [if_pos h0, if_pos h0]
    simp only [if_true]
    obtain ⟨l, hl⟩ : ∃ l, (bs s).drop 2 = l := ⟨_, rfl⟩
    have hlen : l.length + 2 ≤ s.size := by
      have h1 := congrArg List.length h0
      rw [List.length_take, bs_length] at h1
      rw [← hl, List.length_drop, bs_length]
      simp at h1
      omega
    rw [hl]
    have hsp : strings_SplitN.f (str l) ⟨#[63]⟩ 4 = some ((spL (min 4 (l.length + 1) - 1) l).map str) := by
      unfold strings_SplitN.f
      rw [str_size, if_pos (by omega), if_pos (by decide), if_pos (by decide), split_is, bs_str]
      rfl
    rw [hsp, Option.bind_some]
    have hno : ∀ P : List ByteArray, P.length < 4 → (upQ l).bind (fun a => (upQ a.2).bind fun k => upQ k.2) = none →
        (if (P.length : Int) < 4 then ew_word.j0 k P true else none) = some (resW ((upQ l).bind fun a => (upQ a.2).bind fun k => (upQ k.2).bind fun t =>
      if (a.1 ≠ [] ∧ solidL a.1 = true ∧ solidL t.1 = true ∧ t.2.take 1 = [61]) ∧ ewN a.1 k.1 t.1 ≤ 75 then
        (octL k.1 t.1).bind fun b => (signsL a.1 b).bind fun x => some (x, ewN a.1 k.1 t.1) else none)) := by
      intro P hP hn
      obtain ⟨k, rfl⟩ : ∃ j, k = j + 1 := ⟨k - 1, by omega⟩
      rw [if_pos (by omega), ew_word.j0, if_pos rfl]
      cases h1 : upQ l with
      | none => rfl
      | some a =>
        cases h2 : upQ a.2 with
        | none => simp [h2, resW]
        | some q =>
          cases h3 : upQ q.2 with
          | none => simp [h2, h3, resW]
          | some t => rw [h1] at hn; simp [h2, h3] at hn
    by_cases hsm : l.length ≤ 2
    · rw [show min 4 (l.length + 1) - 1 = l.length by omega]
      obtain ⟨h1, h2⟩ := sp_few l.length hsm l (Nat.le_refl _)
      have h3 := hno ((spL l.length l).map str) (by rw [List.length_map]; exact h1) h2
      rw [if_pos (by rw [List.length_map]; omega)] at h3 ⊢
      exact h3
    · rw [show min 4 (l.length + 1) - 1 = 3 by omega]
      rcases sp_four l with ⟨h1, h2⟩ | ⟨a, q, t, h1, h2, h3, h4⟩
      · have h3 := hno ((spL 3 l).map str) (by rw [List.length_map]; exact h1) h2
        rw [if_pos (by rw [List.length_map]; omega)] at h3 ⊢
        exact h3
      · have e1 := congrArg List.length (upQ_some h1)
        have e2 := congrArg List.length (upQ_some h2)
        have e3 := congrArg List.length (upQ_some h3)
        simp only [List.length_append, List.length_cons] at e1 e2 e3
        have hj := fun b => word_j0 k a.1 q.1 t.1 t.2 b (by omega) (by omega) (by omega) (by omega)
        have r0 : rdOf ByteArray.empty [str a.1, str q.1, str t.1, str t.2] 0 = str a.1 := rfl
        have r2 : rdOf ByteArray.empty [str a.1, str q.1, str t.1, str t.2] 2 = str t.1 := rfl
        have r3 : rdOf ByteArray.empty [str a.1, str q.1, str t.1, str t.2] 3 = str t.2 := rfl
        rw [h4, h1]
        simp only [List.map_cons, List.map_nil, Option.bind_some, h2, h3]
        rw [if_neg (by simp), if_pos (by simp), r0, toList_str]
        by_cases c1 : a.1 = []
        · rw [if_pos c1, hj, if_pos rfl, if_neg (fun h => h.1.1 c1)]
          rfl
        · have s1 := solid_is (str a.1) (by rw [str_size]; omega) k (by rw [str_size]; omega)
          have s2 := solid_is (str t.1) (by rw [str_size]; omega) k (by rw [str_size]; omega)
          rw [bs_str] at s1 s2
          rw [if_neg c1, s1, Option.bind_some]
          cases c2 : solidL a.1 with
          | false => simp [hj, resW]
          | true =>
            rw [if_pos rfl, if_pos (by simp), r2, s2, Option.bind_some]
            cases c3 : solidL t.1 with
            | false => simp [hj, resW]
            | true =>
              rw [if_pos rfl, if_pos (by simp), r3, prefix1_is, Option.bind_some, bs_str, hj]
              by_cases c4 : t.2.take 1 = [61]
              · rw [beq_iff_eq.2 c4]
                simp only [Bool.not_true, Bool.false_eq_true, if_false]
                by_cases c5 : ewN a.1 q.1 t.1 ≤ 75
                · rw [if_pos c5, if_pos ⟨⟨c1, trivial, trivial, c4⟩, c5⟩]
                · rw [if_neg c5, if_neg (fun h => c5 h.2)]
                  rfl
              · have c4' : ¬ ((a.1 ≠ [] ∧ true = true ∧ true = true ∧ t.2.take 1 = [61]) ∧ ewN a.1 q.1 t.1 ≤ 75) := fun h => c4 h.1.2.2.2
                rw [beq_eq_false_iff_ne.2 c4, if_neg c4']
                rfl
  · rw [if_neg h0, if_neg h0]
    rfl
end Go.Proofs.YtihabmcaplnbcaaDoor.Pl
set_option linter.unusedVariables false
namespace Go.Proofs.YtihabmcaplnbcaaDoor.Fn
open Go.RowKit Go.Proofs.YtihabmcaplnbcaaDoorW.PrintWords

def strings_TrimLeft.f (a0 a1 : ByteArray) : Option ByteArray :=
  if a0.size ≤ 140737488355328 then (if a1.size ≤ 1000 then (if a1.data.toList.all (fun b => decide (b.toNat < 128)) = true then some (Pl.str (Lib.trimLeftS a0.data.toList a1.data.toList)) else none) else none) else none
theorem strings_TrimLeft.calls (a0 a1 r : ByteArray) (w : World) (h : strings_TrimLeft.f a0 a1 = some r) :
    Calls Tryd.prog 47 #[.string a0, .string a1] w fun e w' => e = .returned (.string r) ∧ Below w.heap.size w w' := by
  unfold strings_TrimLeft.f at h
  by_cases hs : a0.size ≤ 140737488355328
  · rw [if_pos hs] at h
    by_cases hc : a1.size ≤ 1000
    · rw [if_pos hc] at h
      by_cases ha : a1.data.toList.all (fun b => decide (b.toNat < 128)) = true
      · rw [if_pos ha] at h
        have HR := Option.some.inj h
        subst HR
        exact Any.strings_TrimLeft_laid Tryd.lays161 (by kernel_rfl) a0 a1 w (by omega) (ascii_of_all ha)
      · rw [if_neg ha] at h; exact absurd h (by simp)
    · rw [if_neg hc] at h; exact absurd h (by simp)
  · rw [if_neg hs] at h; exact absurd h (by simp)
end Go.Proofs.YtihabmcaplnbcaaDoor.Fn
set_option linter.unusedVariables false
set_option linter.unusedSimpArgs false
namespace Go.Proofs.YtihabmcaplnbcaaDoor.Pl
open Go.RowKit Go.Proofs.YtihabmcaplnbcaaDoorW.PrintWords
theorem signsL_len {cs s x : Bytes} (h : signsL cs s = some x) : x.length ≤ 4 * s.length := by
  unfold signsL at h
  split at h
  · split at h
    · injection h with h; rw [← h]; omega
    · cases h
  · split at h
    · split at h
      · injection h with h; rw [← h]; omega
      · cases h
    · split at h
      · injection h with h
        rw [← h]
        clear h
        induction s with
        | nil => simp
        | cons c s ih =>
          rw [List.flatMap_cons, List.length_append, List.length_cons]
          have := (Lib.encodeRuneZ_length (c.toNat : Int)).2
          have h4 : (er c.toNat).length ≤ 4 := by unfold er Lib.encodeRune; simpa using this
          omega
      · cases h
theorem wordL_len {s x : Bytes} {n : Nat} (h : wordL s = some (x, n)) : x.length ≤ 300 := by
  unfold wordL at h
  split at h
  · obtain ⟨a, _, h⟩ := obind_some h
    obtain ⟨k, _, h⟩ := obind_some h
    obtain ⟨t, _, h⟩ := obind_some h
    split at h
    · next h1 =>
      obtain ⟨b, hb, h⟩ := obind_some h
      obtain ⟨y, hy, h⟩ := obind_some h
      injection h with h
      injection h with e1 e2
      have h2 := octL_len hb
      have h3 := signsL_len hy
      have h4 := h1.2
      unfold ewN at h4
      rw [← e1]
      omega
    · cases h
  · cases h
end Go.Proofs.YtihabmcaplnbcaaDoor.Pl
namespace Go.Proofs.YtihabmcaplnbcaaDoor.Fn
open Go.RowKit Go.Proofs.YtihabmcaplnbcaaDoorW.PrintWords

def ew_Decode.f (a0 : ByteArray) : Option ByteArray := if a0.size ≤ 1000000000 then some (Pl.str (Pl.decodeL (Pl.bs a0))) else none
set_option maxHeartbeats 4000000 in
set_option maxRecDepth 100000 in
theorem ew_Decode.calls (a0 r : ByteArray) (w : World) (hG : Glob w) (h : ew_Decode.f a0 = some r) :
    Calls Tryd.prog 19 #[.string a0] w fun e w' => e = .returned (.string r) ∧ Below w.heap.size w w' := by
  unfold ew_Decode.f at h
  by_cases hs : a0.size ≤ 1000000000
  · rw [if_pos hs] at h
    have HR := hid (Option.some.inj h)
    have HG := hid hG
    clear h hG
    go_enter Tryd.func19, Tryd.ntmps19
    go_wp2
    go_loopw [0] (fun v0 wr => ∃ (s : ByteArray) (fuel : Nat) (acc : List UInt8), v0 = .string s ∧ isBd w.heap.size w.heap.size (Lib.byteCells acc) wr ∧ Below w.heap.size w wr ∧ Hid (Pl.str (Pl.decL fuel (Pl.bs s) acc) = r) ∧ s.size ≤ fuel ∧ acc.length + 300 * s.size ≤ 300 * a0.size) (fun v0 wr => strLen v0)
    case atStart => exact ⟨a0, a0.size, [], rfl, Lib.IsBuilderF.of (Lib.fresh_isBuilder _ _ w), (Below.refl _ w).alloc (Nat.le_refl _) _, (by have := HR.out; unfold Pl.decodeL at this; rw [Pl.bs_length] at this; exact this), Nat.le_refl _, by simp⟩
    case round =>
      obtain ⟨s, fuel, acc, rfl, hI, hbw, hacc, hfu, hal⟩ := hrel
      have hbs := hbw.size
      have hblt := bd_lt hI
      have hzs := Pl.bs_length s
      by_cases he : s.toList = []
      · obtain ⟨e0, e1⟩ := toList_ne he
        have hend : Hid (Pl.str acc = r) := by
          show _ = _
          rw [← hacc.out, show Pl.bs s = [] from by rw [← Pl.toList_bs]; exact he]
          cases fuel <;> rfl
        go_wp2_with (go_at_call 48; refine (Tryd.Builder_String_any_k w.heap.size w.heap.size acc _ hI hbs).mono ?_; rintro e W1 ⟨rfl, _, b1, _⟩)
        go_ret
        refine ⟨?_, hbw.trans b1⟩
        rw [← hend.out]
        rfl
      · obtain ⟨e0, e1⟩ := toList_ne' he
        obtain ⟨c, l, hcl⟩ : ∃ c l, Pl.bs s = c :: l := by
          cases hx : Pl.bs s with
          | nil => rw [Pl.toList_bs] at he; exact absurd hx he
          | cons c l => exact ⟨c, l, rfl⟩
        have hlen : l.length + 1 = s.size := by rw [← hzs, hcl]; rfl
        obtain ⟨f, rfl⟩ : ∃ f, fuel = f + 1 := ⟨fuel - 1, by omega⟩
        have hwd := Pl.word_is s (by omega) (s.size + 10) (Nat.le_refl _)
        have hGr := hid (HG.out.below hbw)
        have hacc' := hacc.out
        rw [hcl, Pl.decL] at hacc'
        cases hw : Pl.wordL (Pl.bs s) with
        | none =>
          rw [hw] at hwd
          rw [hcl] at hw
          rw [hw] at hacc'
          have HW : Hid (ew_word.f (s.size + 10) s = some (⟨#[]⟩, 0)) := hwd
          have hb0 : s.size > 0 := by omega
          have hx0 : ∀ h, ((s[0]'h).toNat : Int) = (c.toNat : Int) := fun h => by
            have : (Pl.bs s)[0]? = some c := by rw [hcl]; rfl
            rw [List.getElem?_eq_getElem (by rw [hzs]; omega)] at this
            rw [← Option.some.inj this]
            rfl
          have q1 : (0 < s.size) = True := eq_true (by omega)
          have q2 : ((0 : Int) < (s.size : Int)) = True := eq_true (by omega)
          have q3 : ((1 : Int) ≤ (s.size : Int)) = True := eq_true (by omega)
          have hx2 : Pl.bs (s.extract 1 s.size) = l := by rw [Pl.bs_extract, List.take_of_length_le (by omega), hcl]; rfl
          have hx4 : (s.extract 1 s.size).size = s.size - 1 := by rw [← Pl.bs_length, hx2]; omega
          have hnew : Hid (Pl.str (Pl.decL f (Pl.bs (s.extract 1 s.size)) (acc ++ [c])) = r) := by
            show _ = _
            rw [hx2, ← hacc']
          clear hwd hw hacc hacc' he hcl hx2
          go_wp2_with (first
            | (go_at_call 44; refine (ew_word.calls _ s _ _ _ hGr.out HW.out).mono ?_; rintro e W2 ⟨rfl, b2⟩; have hI2 := bd_below hI b2)
            | (go_at_call 45; refine (bd_byte w.heap.size w.heap.size (Lib.byteCells acc) _ _ hI2 (by rw [Lib.byteCells_length]; omega) (by have := b2.size; omega)).mono ?_; rintro e W3 ⟨rfl, h3, b3, k3⟩))
          refine ⟨⟨_, f, acc ++ [c], rfl, ?_, hbw.trans ((b2.mono hbs).trans b3), hnew, by omega, ?_⟩, ?_⟩
          · rw [Lib.byteCells_append]; exact h3.is
          · rw [List.length_append, List.length_singleton, hx4]; omega
          · simp only [strLen, hx4]; omega
        | some y =>
          obtain ⟨x, n⟩ := y
          rw [hw] at hwd
          obtain ⟨_, _, hn1, hn2, hn3, _⟩ := Pl.wordL_some hw
          have hxl := Pl.wordL_len hw
          rw [hcl] at hw
          rw [hw] at hacc'
          simp only [] at hacc'
          rw [hzs] at hn3
          obtain ⟨X, hX⟩ : ∃ X, Pl.str x = X := ⟨_, rfl⟩
          have hXb : Pl.bs X = x := by rw [← hX, Pl.bs_str]
          have hXz : X.size = x.length := by rw [← hX, Pl.str_size]
          have HW : Hid (ew_word.f (s.size + 10) s = some (X, (n : Int))) := by
            show _ = _
            rw [hwd, ← hX]
            rfl
          have hx2 : Pl.bs (s.extract n s.size) = (c :: l).drop n := by rw [Pl.bs_extract, List.take_of_length_le (by omega), hcl]
          have hx4 : (s.extract n s.size).size = s.size - n := by rw [← Pl.bs_length, hx2, List.length_drop, List.length_cons]; omega
          obtain ⟨T, hT⟩ : ∃ T, Pl.str (Pl.trimB ((c :: l).drop n)) = T := ⟨_, rfl⟩
          have hTb : Pl.bs T = Pl.trimB ((c :: l).drop n) := by rw [← hT, Pl.bs_str]
          have hTz : T.size ≤ s.size - n := by
            have := Pl.trimB_len ((c :: l).drop n)
            rw [← hTb, Pl.bs_length, List.length_drop, List.length_cons] at this
            omega
          have HT : Hid (strings_TrimLeft.f (s.extract n s.size) ⟨#[32, 9]⟩ = some T) := by
            show _ = _
            unfold strings_TrimLeft.f
            rw [if_pos (by omega), if_pos (by decide), if_pos (by decide), ← hT]
            show some (Pl.str (Lib.trimLeftS (Pl.bs (s.extract n s.size)) [32, 9])) = _
            rw [hx2]
            rfl
          have hwd2 := Pl.word_is T (by omega) (T.size + 10) (Nat.le_refl _)
          have q0 : ((n : Int) = 0) = False := eq_false (by omega)
          have q0' : ((n : Int) == 0) = false := beq_eq_false_iff_ne.2 (by omega)
          have q2 : ((n : Int) ≤ (s.size : Int)) = True := eq_true (by omega)
          have q3 : ((0 : Int) ≤ (n : Int)) = True := eq_true (by omega)
          rw [← hTb] at hacc'
          cases hw2 : Pl.wordL (Pl.bs T) with
          | none =>
            rw [hw2] at hwd2 hacc'
            have HW2 : Hid (ew_word.f (T.size + 10) T = some (⟨#[]⟩, 0)) := hwd2
            have hnew : Hid (Pl.str (Pl.decL f (Pl.bs (s.extract n s.size)) (acc ++ x)) = r) := by
              show _ = _
              rw [hx2, ← hacc']
              rfl
            clear hwd hw hacc hacc' he hcl hx2 hX hT hTb hwd2 hw2
            go_wp2_with (first
              | (go_at_call 44; refine (ew_word.calls _ T _ _ _ hG4.out HW2.out).mono ?_; rintro e W5 ⟨rfl, b5⟩)
              | (go_at_call 44; refine (ew_word.calls _ s _ _ _ hGr.out HW.out).mono ?_; rintro e W2 ⟨rfl, b2⟩; have hI2 := bd_below hI b2)
              | (go_at_call 47; refine (strings_TrimLeft.calls (s.extract n s.size) ⟨#[32, 9]⟩ T _ HT.out).mono ?_; rintro e W4 ⟨rfl, b4⟩; have hG4 := hid (HG.out.below (hbw.trans ((b2.mono hbs).trans (b3.trans (b4.mono (by have := b2.size; have := b3.size; omega)))))))
              | (go_at_call 46; refine (bd_string w.heap.size w.heap.size (Lib.byteCells acc) X _ hI2 (by rw [Lib.byteCells_length]; omega) (by have := b2.size; omega)).mono ?_; rintro e W3 ⟨rfl, h3, b3, k3⟩; have hI3 : isBd w.heap.size w.heap.size (Lib.byteCells (acc ++ x)) W3 := (by rw [Lib.byteCells_append, ← hXb]; exact h3.is)))
            go_roundw
            case rel =>
              refine ⟨_, f, acc ++ x, rfl, bd_below (bd_below hI3 b4) b5, hbw.trans ((b2.mono hbs).trans (b3.trans ((b4.mono (by have := b2.size; have := b3.size; omega)).trans (b5.mono (by have := b2.size; have := b3.size; have := b4.size; omega))))), hnew, by omega, ?_⟩
              rw [List.length_append]; omega
            case measure => simp only [strLen]; omega
          | some z =>
            obtain ⟨x2, n2⟩ := z
            obtain ⟨_, _, hn4, _, _, _⟩ := Pl.wordL_some hw2
            have q4 : ((0 : Int) < (n2 : Int)) = True := eq_true (by omega)
            have q5 : (0 < n2) = True := eq_true (by omega)
            rw [hw2] at hwd2 hacc'
            have HW2 : Hid (ew_word.f (T.size + 10) T = some (Pl.str x2, (n2 : Int))) := hwd2
            have hnew : Hid (Pl.str (Pl.decL f (Pl.bs T) (acc ++ x)) = r) := by
              show _ = _
              rw [← hacc']
              rfl
            clear hwd hw hacc hacc' he hcl hx2 hX hT hTb hwd2 hw2
            go_wp2_with (first
              | (go_at_call 44; refine (ew_word.calls _ T _ _ _ hG4.out HW2.out).mono ?_; rintro e W5 ⟨rfl, b5⟩)
              | (go_at_call 44; refine (ew_word.calls _ s _ _ _ hGr.out HW.out).mono ?_; rintro e W2 ⟨rfl, b2⟩; have hI2 := bd_below hI b2)
              | (go_at_call 47; refine (strings_TrimLeft.calls (s.extract n s.size) ⟨#[32, 9]⟩ T _ HT.out).mono ?_; rintro e W4 ⟨rfl, b4⟩; have hG4 := hid (HG.out.below (hbw.trans ((b2.mono hbs).trans (b3.trans (b4.mono (by have := b2.size; have := b3.size; omega)))))))
              | (go_at_call 46; refine (bd_string w.heap.size w.heap.size (Lib.byteCells acc) X _ hI2 (by rw [Lib.byteCells_length]; omega) (by have := b2.size; omega)).mono ?_; rintro e W3 ⟨rfl, h3, b3, k3⟩; have hI3 : isBd w.heap.size w.heap.size (Lib.byteCells (acc ++ x)) W3 := (by rw [Lib.byteCells_append, ← hXb]; exact h3.is)))
            go_roundw
            case rel =>
              refine ⟨_, f, acc ++ x, rfl, bd_below (bd_below hI3 b4) b5, hbw.trans ((b2.mono hbs).trans (b3.trans ((b4.mono (by have := b2.size; have := b3.size; omega)).trans (b5.mono (by have := b2.size; have := b3.size; have := b4.size; omega))))), hnew, by omega, ?_⟩
              rw [List.length_append]; omega
            case measure => simp only [strLen]; omega
  · rw [if_neg hs] at h; exact absurd h (by simp)
end Go.Proofs.YtihabmcaplnbcaaDoor.Fn
namespace Go.Proofs.YtihabmcaplnbcaaDoor.Fn
open Go.RowKit Go.Proofs.YtihabmcaplnbcaaDoorW.PrintWords Go.Proofs.YtihabmcaplnbcaaDoorW.PrintLast Go.Proofs.YtihabmcaplnbcaaDoorW.PrintMore
attribute [local go_sem] max2_int min2_int max_two min_two max_three min_three max_four min_four
set_option linter.unusedVariables false
set_option linter.unusedSimpArgs false

/-! ### rights_Subject: function 102 -/
def rights_Subject.f (k : Nat) (l0_0 : List (S142)) (a0_1 : ByteArray) : Option (ByteArray) := (msg_Message_Get.f k l0_0 a0_1 (⟨#[83, 117, 98, 106, 101, 99, 116]⟩ : ByteArray)).bind fun t624 => ((ew_Decode.f t624).bind fun t625 => ((glyph_Clean.f t625).bind fun t626 => (some t626)))
set_option maxHeartbeats 8000000 in
set_option maxRecDepth 100000 in
theorem rights_Subject.calls (k : Nat) (A0_0 : Option Addr) (c0_0 : Nat) (l0_0 : List (S142)) (a0_1 : ByteArray) (r : ByteArray) (w : World) (hG : Glob w) (hr0_0 : Kd.C k142 w A0_0 l0_0.length l0_0) (hc0_0 : l0_0.length ≤ c0_0) (h : rights_Subject.f k l0_0 a0_1 = some r) :
  Calls Tryd.prog 102 #[.agg #[.slice A0_0 l0_0.length c0_0, .string a0_1]] w fun e w' => e = .returned (.string r) ∧ Below w.heap.size w w' := by
 have hu51 := Tryd.underlying51
 have HR0_0 := Aside0.mk hr0_0
 have HC0_0 := Aside0.mk hc0_0
 clear hr0_0 hc0_0
 have HB := Aside0.mk (Below.refl w.heap.size w)
 have H : ((msg_Message_Get.f k l0_0 a0_1 (⟨#[83, 117, 98, 106, 101, 99, 116]⟩ : ByteArray)).bind fun t624 => ((ew_Decode.f t624).bind fun t625 => ((glyph_Clean.f t625).bind fun t626 => (some t626)))) = some r := h
 clear h
 replace H := Option.bind_eq_some_iff.mp H
 obtain ⟨t624, A20, H⟩ := H
 replace H : ((ew_Decode.f t624).bind fun t625 => ((glyph_Clean.f t625).bind fun t626 => (some t626))) = some r := H
 have A2 := Aside0.mk A20
 clear A20
 replace H := Option.bind_eq_some_iff.mp H
 obtain ⟨t625, A30, H⟩ := H
 replace H : ((glyph_Clean.f t625).bind fun t626 => (some t626)) = some r := H
 have A3 := Aside0.mk A30
 clear A30
 replace H := Option.bind_eq_some_iff.mp H
 obtain ⟨t626, A40, H⟩ := H
 replace H : (some t626) = some r := H
 have A4 := Aside0.mk A40
 clear A40
 obtain rfl := Option.some.inj H
 go_enter Tryd.func102, Tryd.ntmps102
 go_wp2_with (first | ((with_reducible refine gate_dst (N := 1) rfl ?_); refine box_event ?hg (N := 1) ?hd (cs := #[.slice A0_0 l0_0.length c0_0, .string a0_1]) (t := 51) ?hr ?_; (case hd => rfl); (case hg => rfl); (case hr => first | (go_simp; done) | (go_simp; rfl)); intro gb623 hg w5 hbox hb; have n0_ := Aside0.mk (below_step bw hb); have n1_ := Aside0.mk (hbox); have n2_ := Aside0.mk ((by rw [hg]; exact (below_size bw) : w.heap.size ≤ gb623)); have n3_ := Aside0.mk ((by rw [hg]; exact (below_size bw) : w.heap.size ≤ gb623)); clear HB; have HB := n0_; have BK623 := n1_; have GW623 := n2_; have GE623 := n3_; clear n0_ n1_ n2_ n3_; clear hb hbox hg; have hcz6_0 : w5.cell? ⟨gb623, 0, none⟩ = some (.slice A0_0 l0_0.length c0_0) := (blk_cell BK623.out 0).trans rfl; have hcz6_1 : w5.cell? ⟨gb623, 1, none⟩ = some (.string a0_1) := (blk_cell BK623.out 1).trans rfl; have hfz6_0 := blk_frozen BK623.out 0; have hfz6_1 := blk_frozen BK623.out 1) | ((with_reducible refine gate_callee (f := 132) rfl ?_); refine goesL_ (some 4) rfl rfl Tryd.func132 (by kernel_rfl) rfl #[.agg #[.slice A0_0 l0_0.length c0_0, .string a0_1], .string (⟨#[83, 117, 98, 106, 101, 99, 116]⟩ : ByteArray)] rfl am ?_; (with_reducible refine (msg_Message_Get.calls k _ _ l0_0 a0_1 (⟨#[83, 117, 98, 106, 101, 99, 116]⟩ : ByteArray) t624 _ ?side1 ?side2 A2.out).mono ?_); (case side1 => repeat (first | exact (Kd.C_below HR0_0.out HB.out) | (with_reducible refine Kd.C_alloc ?_ _) | (with_reducible refine Kd.C_drewN ?_ _) | (with_reducible refine Kd.C_drew ?_))); (case side2 => exact HC0_0.out); rintro e w7 ⟨rfl, hb⟩; refine ⟨_, rfl, ?_⟩; have n0_ := Aside0.mk (blk_below (g := gb623) (o := .cells #[.slice A0_0 l0_0.length c0_0, .string a0_1] 51 (0, 0)) bk hb); have n1_ := Aside0.mk (below_step bwS hb); clear BK623; clear HB; have BK623 := n0_; have HB := n1_; clear n0_ n1_; (try clear hb); (try clear hb2); (try clear hk); (try clear hi)) | ((with_reducible refine gate_callee (f := 19) rfl ?_); refine goesL_ (some 5) rfl rfl Tryd.func19 (by kernel_rfl) rfl #[.string t624] rfl am ?_; (with_reducible refine (ew_Decode.calls (hG := by first | exact hG | exact Glob.below hG (by first | exact HB.out | (repeat (first | (with_reducible first | exact HB.out | apply below_alloc | apply pw_below_drewN | apply below_drew1 | refine below_set ?_ GE623.out) | exact HB.out))) | exact Glob.drawn hG (by repeat (first | exact Drawn0.refl _ | apply Drawn0.step))) t624 t625 _ A3.out).mono ?_); rintro e w8 ⟨rfl, hb⟩; refine ⟨_, rfl, ?_⟩; have n0_ := Aside0.mk (blk_below (g := gb623) (o := .cells #[.slice A0_0 l0_0.length c0_0, .string a0_1] 51 (0, 0)) bk hb); have n1_ := Aside0.mk (below_step bwS hb); clear BK623; clear HB; have BK623 := n0_; have HB := n1_; clear n0_ n1_; (try clear hb); (try clear hb2); (try clear hk); (try clear hi)) | ((with_reducible refine gate_callee (f := 27) rfl ?_); refine goesL_ (some 6) rfl rfl Tryd.func27 (by kernel_rfl) rfl #[.string t625] rfl am ?_; (with_reducible refine (glyph_Clean.calls t625 t626 _ A4.out).mono ?_); rintro e w9 ⟨rfl, hb⟩; refine ⟨_, rfl, ?_⟩; have n0_ := Aside0.mk (blk_below (g := gb623) (o := .cells #[.slice A0_0 l0_0.length c0_0, .string a0_1] 51 (0, 0)) bk hb); have n1_ := Aside0.mk (below_step bwS hb); clear BK623; clear HB; have BK623 := n0_; have HB := n1_; clear n0_ n1_; (try clear hb); (try clear hb2); (try clear hk); (try clear hi)))
 go_ret
 exact ⟨by first | rfl | (simp [errW_none, errW_some] <;> rfl) | (simp [*, errW_none, errW_some] <;> rfl), bwS⟩

end Go.Proofs.YtihabmcaplnbcaaDoor.Fn
namespace Go.Proofs.YtihabmcaplnbcaaDoor.Fn
open Go.RowKit Go.Proofs.YtihabmcaplnbcaaDoorW.PrintWords Go.Proofs.YtihabmcaplnbcaaDoorW.PrintLast Go.Proofs.YtihabmcaplnbcaaDoorW.PrintMore
attribute [local go_sem] max2_int min2_int max_two min_two max_three min_three max_four min_four
set_option linter.unusedVariables false
set_option linter.unusedSimpArgs false

/-! ### order_subject: function 62 -/
mutual
def order_subject.j1 : Nat → List ByteArray → Option ((List (S57)))
 | 0, _ => none
 | k + 1, x3 => if (x3.length : Int) = 0 then (order_subject.j2 k x3 true) else ((order_stops.f x3).bind fun t636 => (order_subject.j2 k x3 t636))
def order_subject.j2 : Nat → List ByteArray → Bool → Option ((List (S57)))
 | 0, _, _ => none
 | k + 1, x3, x25 => if x25 = true then (some ([] : List (S57))) else ((order_command.f k x3).bind fun bt637 => (if bt637.1 = 5 then (some ([] : List (S57))) else (some (([(⟨bt637.1, bt637.2.1, bt637.2.2⟩ : S57)] : List (S57))))))
def order_subject.l0 : Nat → List ByteArray → Option ((List (S57)))
 | 0, _ => none
 | k + 1, x3 => if (x3.length : Int) > 0 then (if 0 < (x3.length : Int) then (if (rdOf ByteArray.empty x3 0).toList = ([114, 101, 58] : List UInt8) then (if 1 ≤ (x3.length : Int) then (order_subject.l0 k (x3.drop (1 : Int).toNat)) else (none)) else (order_subject.j1 k x3)) else (none)) else (order_subject.j1 k x3)
end
def order_subject.f (k : Nat) (l0_0 : List (S142)) (a0_1 : ByteArray) : Option ((List (S57))) := (rights_Subject.f k l0_0 a0_1).bind fun t628 => ((order_words.f t628).bind fun t629 => (order_subject.l0 k t629))
set_option maxHeartbeats 8000000 in
set_option maxRecDepth 100000 in
theorem order_subject.calls (k : Nat) (A0_0 : Option Addr) (c0_0 : Nat) (l0_0 : List (S142)) (a0_1 : ByteArray) (r : List (S57)) (w : World) (hG : Glob w) (hr0_0 : Kd.C k142 w A0_0 l0_0.length l0_0) (hc0_0 : l0_0.length ≤ c0_0) (h : order_subject.f k l0_0 a0_1 = some r) :
  Calls Tryd.prog 62 #[.agg #[.slice A0_0 l0_0.length c0_0, .string a0_1]] w fun e w' => ∃ v0_ : Value, e = .returned (v0_) ∧ Kd.R k57 57 w' w.heap.size (fun _ => True) v0_ r ∧ Below w.heap.size w w' := by
 have hu51 := Tryd.underlying51
 have hu57 := Tryd.underlying57
 have HR0_0 := Aside0.mk hr0_0
 have HC0_0 := Aside0.mk hc0_0
 clear hr0_0 hc0_0
 have HB := Aside0.mk (Below.refl w.heap.size w)
 have H : ((rights_Subject.f k l0_0 a0_1).bind fun t628 => ((order_words.f t628).bind fun t629 => (order_subject.l0 k t629))) = some r := h
 clear h
 replace H := Option.bind_eq_some_iff.mp H
 obtain ⟨t628, A20, H⟩ := H
 replace H : ((order_words.f t628).bind fun t629 => (order_subject.l0 k t629)) = some r := H
 have A2 := Aside0.mk A20
 clear A20
 replace H := Option.bind_eq_some_iff.mp H
 obtain ⟨t629, A30, H⟩ := H
 replace H : (order_subject.l0 k t629) = some r := H
 have A3 := Aside0.mk A30
 clear A30
 have HC4 := Aside0.mk H
 clear H
 go_enter Tryd.func62, Tryd.ntmps62
 go_upto_block 0 with (first | ((with_reducible refine gate_dst (N := 1) rfl ?_); refine box_event ?hg (N := 1) ?hd (cs := #[.slice A0_0 l0_0.length c0_0, .string a0_1]) (t := 51) ?hr ?_; (case hd => rfl); (case hg => rfl); (case hr => first | (go_simp; done) | (go_simp; rfl)); intro gb627 hg w5 hbox hb; have n0_ := Aside0.mk (below_step bw hb); have n1_ := Aside0.mk (hbox); have n2_ := Aside0.mk ((by rw [hg]; exact (below_size bw) : w.heap.size ≤ gb627)); have n3_ := Aside0.mk ((by rw [hg]; exact (below_size bw) : w.heap.size ≤ gb627)); clear HB; have HB := n0_; have BK627 := n1_; have GW627 := n2_; have GE627 := n3_; clear n0_ n1_ n2_ n3_; clear hb hbox hg; have hcz6_0 : w5.cell? ⟨gb627, 0, none⟩ = some (.slice A0_0 l0_0.length c0_0) := (blk_cell BK627.out 0).trans rfl; have hcz6_1 : w5.cell? ⟨gb627, 1, none⟩ = some (.string a0_1) := (blk_cell BK627.out 1).trans rfl; have hfz6_0 := blk_frozen BK627.out 0; have hfz6_1 := blk_frozen BK627.out 1) | ((with_reducible refine gate_callee (f := 102) rfl ?_); refine goesL_ (some 6) rfl rfl Tryd.func102 (by kernel_rfl) rfl #[.agg #[.slice A0_0 l0_0.length c0_0, .string a0_1]] rfl am ?_; (with_reducible refine (rights_Subject.calls (hG := by first | exact hG | exact Glob.below hG (by first | exact HB.out | (repeat (first | (with_reducible first | exact HB.out | apply below_alloc | apply pw_below_drewN | apply below_drew1 | refine below_set ?_ GE627.out | refine below_set ?_ GE640.out) | exact HB.out))) | exact Glob.drawn hG (by repeat (first | exact Drawn0.refl _ | apply Drawn0.step))) k _ _ l0_0 a0_1 t628 _ ?side1 ?side2 A2.out).mono ?_); (case side1 => repeat (first | exact (Kd.C_below HR0_0.out HB.out) | (with_reducible refine Kd.C_alloc ?_ _) | (with_reducible refine Kd.C_drewN ?_ _) | (with_reducible refine Kd.C_drew ?_))); (case side2 => exact HC0_0.out); rintro e w7 ⟨rfl, hb⟩; refine ⟨_, rfl, ?_⟩; have n0_ := Aside0.mk (blk_below (g := gb627) (o := .cells #[.slice A0_0 l0_0.length c0_0, .string a0_1] 51 (0, 0)) bk hb); have n1_ := Aside0.mk (below_step bwS hb); clear BK627; clear HB; have BK627 := n0_; have HB := n1_; clear n0_ n1_; (try clear hb); (try clear hb2); (try clear hk); (try clear hi)) | ((with_reducible refine gate_callee (f := 64) rfl ?_); refine goesL_ (some 7) rfl rfl Tryd.func64 (by kernel_rfl) rfl #[.string t628] rfl am ?_; (with_reducible refine (order_words.calls t628 t629 _ A3.out).mono ?_); rintro e w8 ⟨v630, rfl, ho0, hb⟩; refine ⟨_, rfl, ?_⟩; have n0_ := Aside0.mk (Kd.R_lower ho0 (below_size bwS)); have n1_ := Aside0.mk (blk_below (g := gb627) (o := .cells #[.slice A0_0 l0_0.length c0_0, .string a0_1] 51 (0, 0)) bk hb); have n2_ := Aside0.mk (below_step bwS hb); clear BK627; clear HB; have HO631 := n0_; have BK627 := n1_; have HB := n2_; clear n0_ n1_ n2_; (try clear hb); (try clear hb2); (try clear hk); (try clear hi); (try clear ho0)))
 (try simp only [Act.put, List.setIfInBounds_toArray, List.set_cons_zero, List.set_cons_succ])
 go_cut [3] (fun v3 wc => ∃ (kq : Nat) (x3_3 : List ByteArray), Aside0 (order_subject.j1 kq x3_3 = some r) ∧ Aside0 (kq ≤ k) ∧ Aside0 (Kd.Q Kd.string 9 wc w.heap.size (fun _ => True) v3 x3_3) ∧ Aside0 (wc.heap[gb627]? = some (.cells #[(.slice A0_0 l0_0.length c0_0), .string a0_1] 51 (0, 0))) ∧ Aside0 (Below w.heap.size w wc))
 case first =>
  have H := HC4.out
  clear HC4
  have H' := Aside0.mk H
  clear H
  go_wp2
  go_loopg [3] k (fun kq v3 w' => ∃ (x3_1 : List ByteArray), Aside0 (order_subject.l0 kq x3_1 = some r) ∧ Aside0 (kq ≤ k) ∧ Aside0 (Kd.Q Kd.string 9 w' w.heap.size (fun _ => True) v3 x3_1) ∧ Aside0 (w'.heap[gb627]? = some (.cells #[(.slice A0_0 l0_0.length c0_0), .string a0_1] 51 (0, 0))) ∧ Aside0 (Below w.heap.size w w'))
  case atStart => exact ⟨(t629), H', ⟨Nat.le_refl _⟩, ⟨Kd.Q_of_R (by (with_reducible repeat (first | apply Kd.R_alloc | apply Kd.R_drewN | apply Kd.R_drew)); exact HO631.out)⟩, ⟨bk⟩, ⟨bwS⟩⟩
  case round =>
   clear H'
   try clear c1
   try clear p2
   try clear c6
   try clear hcz6_0
   try clear hcz6_1
   try clear hfz6_0
   try clear hfz6_1
   obtain ⟨x3_1, HA, HK1, HO_3, BK627, HB⟩ := hrel
   cases gk with
   | zero => exact absurd HA.out (by simp [order_subject.l0])
   | succ k1 =>
    have H := HA.out
    clear HA
    simp only [order_subject.l0] at H
    by_cases c9 : (x3_1.length : Int) > 0
    ·rw [if_pos c9] at H
     have c9b0 : decide (0 < (x3_1.length : Int)) = true := decide_eq_true c9
     have c9b1 : decide (0 < x3_1.length) = true := decide_eq_true (by omega)
     clear c9
     (first | rw [c9b0] | (simp only [i64_w, i32_w]; rw [c9b0]) | skip)
     by_cases c10 : 0 < (x3_1.length : Int)
     ·rw [if_pos c10] at H
      have c10b0 : decide (0 < (x3_1.length : Int)) = true := decide_eq_true c10
      have c10b1 : decide (0 < x3_1.length) = true := decide_eq_true (by omega)
      clear c10
      by_cases c11 : (rdOf ByteArray.empty x3_1 0).toList = ([114, 101, 58] : List UInt8)
      ·rw [if_pos c11] at H
       have c11b0 : ((rdOf ByteArray.empty x3_1 0).toList == ([114, 101, 58] : List UInt8)) = true := beq_iff_eq.mpr c11
       have c11b1 : ((rdOf ByteArray.empty x3_1 0).toList != ([114, 101, 58] : List UInt8)) = false := bne_eq_false_iff_eq.mpr c11
       clear c11
       by_cases c12 : 1 ≤ (x3_1.length : Int)
       ·rw [if_pos c12] at H
        have c12b0 := eq_true c12
        have c12b1 : decide (1 ≤ (x3_1.length : Int)) = true := decide_eq_true c12
        clear c12
        obtain ⟨y633, hy633⟩ : ∃ y_ : List ByteArray, y_ = (x3_1.drop (1 : Int).toNat) := ⟨_, rfl⟩
        replace H : (order_subject.l0 k1 y633) = some r := by first | (rw [hy633]; with_reducible exact H) | (have H2_ := (Option.bind_some _ _).symm.trans H; rw [hy633]; with_reducible exact H2_) | (have H2_ := (Option.bind_some _ _).symm.trans H; with_reducible exact H2_) | with_reducible exact H | (rw [hy633]; exact H) | exact H
        have Ny633 := Aside0.mk hy633
        clear hy633
        have H' := Aside0.mk H
        clear H
        obtain ⟨Ao13, co13, eo13, _⟩ := Kd.Q_slice HO_3.out
        subst eo13
        have p632 : 0 ≤ (0 : Int) := (by omega)
        have q632 : 0 < (x3_1.length : Int) := od
        obtain ⟨ad632, e632, hx632_0⟩ := Kd.at_string (Kd.Q_reads' HO_3.out).2.2 0 p632 q632
        cases e632
        have qi632 : (0 < x3_1.length) = True := eq_true (by omega)
        (try rw [show ((0 : Int)).toNat = 0 from rfl] at hx632_0)
        (try rw [Addr.add_zero'] at hx632_0)
        replace p632 := eq_true p632
        replace q632 := eq_true q632
        have q14 : (1 : Int) ≤ ((x3_1.length : Int) : Int) := od
        obtain ⟨i014, hi014, _, hsz14, _⟩ := info_parts info9
        have hcut14 := cut_from (P := Tryd.prog) 43 9 .i64 Tryd.underlying43 hi014 1 hsz14 (some ad632) x3_1.length co13 1 (by omega) q14
        have hr14 := Kd.Q_drop (k := (1 : Int).toNat) HO_3.out (by omega)
        obtain ⟨A14, hA14⟩ : ∃ A1, A1 = (if co13 = (1 : Int).toNat then (some ad632) else ((some ad632) : Option Addr).map (·.add ((1 : Int).toNat * 1))) := ⟨_, rfl⟩
        obtain ⟨c14, hc14⟩ : ∃ c1, c1 = co13 - (1 : Int).toNat := ⟨_, rfl⟩
        have hy14 : y633.length = x3_1.length - (1 : Int).toNat := (by rw [Ny633.out, List.length_drop])
        rw [← Ny633.out] at hr14
        rw [← hy14, ← hA14, ← hc14] at hcut14
        replace hr14 : Kd.Q Kd.string 9 wr w.heap.size (fun _ => True) (.slice A14 y633.length c14) y633 := (by rw [hA14, hc14, hy14]; exact hr14)
        have HE14 : Aside0 ((Value.slice A14 y633.length c14).ownBlock = (.slice (some ad632) x3_1.length co13 : Value).ownBlock) := ⟨by rw [hA14]; split <;> (cases ((some ad632) : Option Addr) <;> rfl)⟩
        clear hy14 hi014 hsz14 HO_3 hA14 hc14
        have HO635 := Aside0.mk hr14
        clear hr14
        replace q14 := eq_true q14
        go_wp2
        go_roundg k1
        case measure => have := HK1.out; omega
        case rel => exact ⟨(y633), H', ⟨by have := HK1.out; omega⟩, ⟨by (with_reducible repeat (first | apply Kd.Q_alloc | apply Kd.Q_drewN | apply Kd.Q_drew)); exact HO635.out⟩, ⟨bk⟩, ⟨bwS⟩⟩
       ·rw [if_neg c12] at H
        exact absurd H (by simp)
      ·rw [if_neg c11] at H
       have c11b0 : ((rdOf ByteArray.empty x3_1 0).toList == ([114, 101, 58] : List UInt8)) = false := beq_eq_false_iff_ne.mpr c11
       have c11b1 : ((rdOf ByteArray.empty x3_1 0).toList != ([114, 101, 58] : List UInt8)) = true := bne_iff_ne.mpr c11
       have H' := Aside0.mk H
       clear H
       obtain ⟨Ao15, co15, eo15, _⟩ := Kd.Q_slice HO_3.out
       subst eo15
       have p632 : 0 ≤ (0 : Int) := (by omega)
       have q632 : 0 < (x3_1.length : Int) := od
       obtain ⟨ad632, e632, hx632_0⟩ := Kd.at_string (Kd.Q_reads' HO_3.out).2.2 0 p632 q632
       cases e632
       have qi632 : (0 < x3_1.length) = True := eq_true (by omega)
       (try rw [show ((0 : Int)).toNat = 0 from rfl] at hx632_0)
       (try rw [Addr.add_zero'] at hx632_0)
       replace p632 := eq_true p632
       replace q632 := eq_true q632
       go_wp2
       go_meet
       case rel => exact ⟨_, (x3_1), H', ⟨by have := HK1.out; first | omega | exact Nat.le_refl _⟩, ⟨by (with_reducible repeat (first | apply Kd.Q_alloc | apply Kd.Q_drewN | apply Kd.Q_drew)); exact HO_3.out⟩, ⟨bk⟩, ⟨bwS⟩⟩
     ·rw [if_neg c10] at H
      exact absurd H (by simp)
    ·rw [if_neg c9] at H
     have c9b0 : decide (0 < (x3_1.length : Int)) = false := decide_eq_false c9
     have c9b1 : decide (0 < x3_1.length) = false := decide_eq_false (by omega)
     clear c9
     (first | rw [c9b0] | (simp only [i64_w, i32_w]; rw [c9b0]) | skip)
     have H' := Aside0.mk H
     clear H
     obtain ⟨Ao16, co16, eo16, _⟩ := Kd.Q_slice HO_3.out
     subst eo16
     go_wp2
     go_meet
     case rel => exact ⟨_, (x3_1), H', ⟨by have := HK1.out; first | omega | exact Nat.le_refl _⟩, ⟨by (with_reducible repeat (first | apply Kd.Q_alloc | apply Kd.Q_drewN | apply Kd.Q_drew)); exact HO_3.out⟩, ⟨bk⟩, ⟨bwS⟩⟩
 case rest =>
  clear HC4
  try clear c1
  try clear q1
  try clear p2
  try clear c6
  try clear p6
  try clear q6
  try clear hx6
  try clear qi6
  try clear c9
  try clear c9b0
  try clear c9b1
  try clear c10
  try clear c10b0
  try clear c10b1
  try clear c11
  try clear c11b0
  try clear c11b1
  try clear c12
  try clear c12b0
  try clear c12b1
  try clear c14
  try clear q14
  try clear hcz6_0
  try clear hcz6_1
  try clear hfz6_0
  try clear hfz6_1
  try clear hx632_0
  try clear p2
  try clear p632
  try clear q14
  try clear q632
  obtain ⟨kq, x3_3, HA, HJ3, HO_3, BK627, HB⟩ := hcut
  cases kq with
  | zero => exact absurd HA.out (by simp [order_subject.j1])
  | succ kj3 =>
   have H := HA.out
   clear HA
   simp only [order_subject.j1] at H
   have HC17 := Aside0.mk H
   clear H
   go_upto_region 4 with (fail)
   go_cut [25] (fun v25 wc => ∃ (kq : Nat) (x25_16 : Bool), v25 = .bool x25_16 ∧ Aside0 (order_subject.j2 kq x3_3 x25_16 = some r) ∧ Aside0 (kq ≤ kj3) ∧ Aside0 (Kd.Q Kd.string 9 wc w.heap.size (fun _ => True) u3 x3_3) ∧ Aside0 (wc.heap[gb627]? = some (.cells #[(.slice A0_0 l0_0.length c0_0), .string a0_1] 51 (0, 0))) ∧ Aside0 (Below w.heap.size w wc))
   case first =>
    have H := HC17.out
    clear HC17
    by_cases c18 : (x3_3.length : Int) = 0
    ·rw [if_pos c18] at H
     have c18b0 : ((x3_3.length : Int) == 0) = true := beq_iff_eq.mpr c18
     have c18b1 : ((x3_3.length : Int) != 0) = false := bne_eq_false_iff_eq.mpr c18
     clear c18
     (first | rw [c18b0] | (simp only [i64_w, i32_w]; rw [c18b0]) | skip)
     have H' := Aside0.mk H
     clear H
     obtain ⟨Ao19, co19, eo19, _⟩ := Kd.Q_slice HO_3.out
     subst eo19
     go_wp2
     go_meet
     case rel => exact ⟨_, (true), cl, H', ⟨by have := HJ3.out; first | omega | exact Nat.le_refl _⟩, ⟨by (with_reducible repeat (first | apply Kd.Q_alloc | apply Kd.Q_drewN | apply Kd.Q_drew)); exact HO_3.out⟩, ⟨bk⟩, ⟨bwS⟩⟩
    ·rw [if_neg c18] at H
     have c18b0 : ((x3_3.length : Int) == 0) = false := beq_eq_false_iff_ne.mpr c18
     have c18b1 : ((x3_3.length : Int) != 0) = true := bne_iff_ne.mpr c18
     have c18b2 : ¬ (x3_3 = []) := fun h_ => c18 (by rw [h_]; rfl)
     (first | rw [c18b0] | (simp only [i64_w, i32_w]; rw [c18b0]) | skip)
     replace H := Option.bind_eq_some_iff.mp H
     obtain ⟨t636, A200, H⟩ := H
     replace H : (order_subject.j2 kj3 x3_3 t636) = some r := H
     have A20 := Aside0.mk A200
     clear A200
     have H' := Aside0.mk H
     clear H
     obtain ⟨Ao21, co21, eo21, _⟩ := Kd.Q_slice HO_3.out
     subst eo21
     go_wp2_with (first | (go_at_call 66; (with_reducible refine (order_stops.calls _ _ x3_3 t636 _ ?side1 ?side2 A20.out).mono ?_); (case side1 => repeat (first | exact (Kd.Q_reads' HO_3.out).2.2 | (with_reducible refine Kd.C_alloc ?_ _) | (with_reducible refine Kd.C_drewN ?_ _) | (with_reducible refine Kd.C_drew ?_))); (case side2 => exact (Kd.Q_reads' HO_3.out).2.1); rintro e w' ⟨rfl, ⟨nd, rfl⟩⟩))
     go_meet
     case rel => exact ⟨_, (t636), cl, H', ⟨by have := HJ3.out; first | omega | exact Nat.le_refl _⟩, ⟨by (with_reducible repeat (first | apply Kd.Q_alloc | apply Kd.Q_drewN | apply Kd.Q_drew)); exact HO_3.out⟩, ⟨bk⟩, ⟨bwS⟩⟩
   case rest =>
    clear HC17
    try clear c1
    try clear q1
    try clear p2
    try clear c6
    try clear p6
    try clear q6
    try clear hx6
    try clear qi6
    try clear c9
    try clear c9b0
    try clear c9b1
    try clear c10
    try clear c10b0
    try clear c10b1
    try clear c11
    try clear c11b0
    try clear c11b1
    try clear c12
    try clear c12b0
    try clear c12b1
    try clear c14
    try clear q14
    try clear c18
    try clear c18b0
    try clear c18b1
    try clear c18b2
    try clear hcz6_0
    try clear hcz6_1
    try clear hfz6_0
    try clear hfz6_1
    try clear hx632_0
    try clear p2
    try clear p6
    try clear p632
    try clear q1
    try clear q14
    try clear q6
    try clear q632
    obtain ⟨kq, x25_16, rfl, HA, HJ16, HO_3, BK627, HB⟩ := hcut
    cases kq with
    | zero => exact absurd HA.out (by simp [order_subject.j2])
    | succ kj16 =>
     have H := HA.out
     clear HA
     simp only [order_subject.j2] at H
     by_cases c22 : x25_16 = true
     ·subst c22
      have H1 : (some ([] : List (S57))) = some r := by rw [if_pos rfl] at H; exact H
      clear H
      have H := H1
      clear H1
      obtain rfl := Option.some.inj H
      go_wp2
      go_ret
      exact ⟨_, by first | rfl | (simp [errW_none, errW_some] <;> rfl) | (simp [*, errW_none, errW_some] <;> rfl), by first | exact Kd.R_nil _ _ _ _ _ | exact Kd.N_nil _ _ _ _ _ | exact Kd.V_nil _ _ _ _ _ | exact Kd.Q_nil _ _ _ _ _ | exact Kd.S_nil _ _ _ _ _, bwS⟩
     ·replace c22 := Bool.eq_false_iff.mpr c22
      subst c22
      have H1 : ((order_command.f kj16 x3_3).bind fun bt637 => (if bt637.1 = 5 then (some ([] : List (S57))) else (some (([(⟨bt637.1, bt637.2.1, bt637.2.2⟩ : S57)] : List (S57)))))) = some r := by rw [if_neg (show ¬ (false = true) by decide)] at H; exact H
      clear H
      have H := H1
      clear H1
      replace H := Option.bind_eq_some_iff.mp H
      obtain ⟨⟨t637, t638, t639⟩, A230, H⟩ := H
      replace H : (if t637 = 5 then (some ([] : List (S57))) else (some (([(⟨t637, t638, t639⟩ : S57)] : List (S57))))) = some r := H
      have A23 := Aside0.mk A230
      clear A230
      by_cases c24 : t637 = 5
      ·rw [if_pos c24] at H
       have c24b0 : (t637 == 5) = true := beq_iff_eq.mpr c24
       have c24b1 : (t637 != 5) = false := bne_eq_false_iff_eq.mpr c24
       clear c24
       obtain rfl := Option.some.inj H
       obtain ⟨Ao25, co25, eo25, _⟩ := Kd.Q_slice HO_3.out
       subst eo25
       go_wp2_with (first | ((with_reducible refine gate_callee (f := 67) rfl ?_); refine goesL_ (some 27) rfl rfl Tryd.func67 (by kernel_rfl) rfl #[.slice Ao25 x3_3.length co25] rfl am ?_; (with_reducible refine (order_command.calls kj16 _ _ x3_3 t637 t638 t639 _ ?side1 ?side2 A23.out).mono ?_); (case side1 => repeat (first | exact (Kd.Q_reads' HO_3.out).2.2 | (with_reducible refine Kd.C_alloc ?_ _) | (with_reducible refine Kd.C_drewN ?_ _) | (with_reducible refine Kd.C_drew ?_))); (case side2 => exact (Kd.Q_reads' HO_3.out).2.1); rintro e w26 ⟨rfl, hb⟩; refine ⟨_, rfl, ?_⟩; have n0_ := Aside0.mk (Kd.Q_below (by (with_reducible repeat (first | apply Kd.Q_alloc | apply Kd.Q_drewN | apply Kd.Q_drew)); exact HO_3.out) hb); have n1_ := Aside0.mk (blk_below (g := gb627) (o := .cells #[.slice A0_0 l0_0.length c0_0, .string a0_1] 51 (0, 0)) bk hb); have n2_ := Aside0.mk (below_step bwS hb); clear HO_3; clear BK627; clear HB; have HO_3 := n0_; have BK627 := n1_; have HB := n2_; clear n0_ n1_ n2_; (try clear hb); (try clear hb2); (try clear hk); (try clear hi)) | ((with_reducible refine gate_dst (N := 4) rfl ?_); refine box_event ?hg (N := 4) ?hd (cs := #[.int .i64 0, .int .i64 0, .string (⟨#[]⟩ : ByteArray)]) (t := 57) ?hr ?_; (case hd => rfl); (case hg => rfl); (case hr => first | (go_simp; done) | (go_simp; rfl)); intro gb640 hg w27 hbox hb; have n0_ := Aside0.mk (Kd.Q_below (by (with_reducible repeat (first | apply Kd.Q_alloc | apply Kd.Q_drewN | apply Kd.Q_drew)); exact HO_3.out) hb); have n1_ := Aside0.mk (blk_below (g := gb627) (o := .cells #[.slice A0_0 l0_0.length c0_0, .string a0_1] 51 (0, 0)) bk hb); have n2_ := Aside0.mk (below_step bwS hb); have n3_ := Aside0.mk (hbox); have n4_ := Aside0.mk ((by rw [hg]; exact (below_size bwS) : w.heap.size ≤ gb640)); have n5_ := Aside0.mk ((by rw [hg]; exact (below_size bwS) : w.heap.size ≤ gb640)); have n6_ := Aside0.mk ((by rw [hg]; exact Nat.ne_of_lt (blk_lt (g := gb627) (o := .cells #[.slice A0_0 l0_0.length c0_0, .string a0_1] 51 (0, 0)) bk) : gb627 ≠ gb640)); have n7_ := Aside0.mk ((by rw [hg]; exact Nat.ne_of_gt (blk_lt (g := gb627) (o := .cells #[.slice A0_0 l0_0.length c0_0, .string a0_1] 51 (0, 0)) bk) : gb640 ≠ gb627)); clear HO_3; clear BK627; clear HB; have HO_3 := n0_; have BK627 := n1_; have HB := n2_; have BK640 := n3_; have GW640 := n4_; have GE640 := n5_; have NB627_640 := n6_; have NB640_627 := n7_; clear n0_ n1_ n2_ n3_ n4_ n5_ n6_ n7_; clear hb hbox hg; have hnb28 := NB640_627.out; have hnc28 := NB627_640.out; have hcz29_0 : w27.cell? ⟨gb640, 0, none⟩ = some (.int .i64 0) := (blk_cell BK640.out 0).trans rfl; have hcz29_1 : w27.cell? ⟨gb640, 1, none⟩ = some (.int .i64 0) := (blk_cell BK640.out 1).trans rfl; have hcz29_2 : w27.cell? ⟨gb640, 2, none⟩ = some (.string (⟨#[]⟩ : ByteArray)) := (blk_cell BK640.out 2).trans rfl; have hfz29_0 := blk_frozen BK640.out 0; have hfz29_1 := blk_frozen BK640.out 1; have hfz29_2 := blk_frozen BK640.out 2))
       go_ret
       exact ⟨_, by first | rfl | (simp [errW_none, errW_some] <;> rfl) | (simp [*, errW_none, errW_some] <;> rfl), by first | exact Kd.R_nil _ _ _ _ _ | exact Kd.N_nil _ _ _ _ _ | exact Kd.V_nil _ _ _ _ _ | exact Kd.Q_nil _ _ _ _ _ | exact Kd.S_nil _ _ _ _ _, bwS⟩
      ·rw [if_neg c24] at H
       have c24b0 : (t637 == 5) = false := beq_eq_false_iff_ne.mpr c24
       have c24b1 : (t637 != 5) = true := bne_iff_ne.mpr c24
       obtain ⟨y641, hy641⟩ : ∃ y_ : List (S57), y_ = (([(⟨t637, t638, t639⟩ : S57)] : List (S57))) := ⟨_, rfl⟩
       replace H : (some y641) = some r := by first | (rw [hy641]; with_reducible exact H) | (have H2_ := (Option.bind_some _ _).symm.trans H; rw [hy641]; with_reducible exact H2_) | (have H2_ := (Option.bind_some _ _).symm.trans H; with_reducible exact H2_) | with_reducible exact H | (rw [hy641]; exact H) | exact H
       have Ny641 := Aside0.mk hy641
       clear hy641
       obtain rfl := Option.some.inj H
       obtain ⟨Ao30, co30, eo30, _⟩ := Kd.Q_slice HO_3.out
       subst eo30
       go_wp2_with (first | ((with_reducible refine gate_callee (f := 67) rfl ?_); refine goesL_ (some 27) rfl rfl Tryd.func67 (by kernel_rfl) rfl #[.slice Ao30 x3_3.length co30] rfl am ?_; (with_reducible refine (order_command.calls kj16 _ _ x3_3 t637 t638 t639 _ ?side1 ?side2 A23.out).mono ?_); (case side1 => repeat (first | exact (Kd.Q_reads' HO_3.out).2.2 | (with_reducible refine Kd.C_alloc ?_ _) | (with_reducible refine Kd.C_drewN ?_ _) | (with_reducible refine Kd.C_drew ?_))); (case side2 => exact (Kd.Q_reads' HO_3.out).2.1); rintro e w31 ⟨rfl, hb⟩; refine ⟨_, rfl, ?_⟩; have n0_ := Aside0.mk (Kd.Q_below (by (with_reducible repeat (first | apply Kd.Q_alloc | apply Kd.Q_drewN | apply Kd.Q_drew)); exact HO_3.out) hb); have n1_ := Aside0.mk (blk_below (g := gb627) (o := .cells #[.slice A0_0 l0_0.length c0_0, .string a0_1] 51 (0, 0)) bk hb); have n2_ := Aside0.mk (below_step bwS hb); clear HO_3; clear BK627; clear HB; have HO_3 := n0_; have BK627 := n1_; have HB := n2_; clear n0_ n1_ n2_; (try clear hb); (try clear hb2); (try clear hk); (try clear hi)) | ((with_reducible refine gate_dst (N := 4) rfl ?_); refine box_event ?hg (N := 4) ?hd (cs := #[.int .i64 0, .int .i64 0, .string (⟨#[]⟩ : ByteArray)]) (t := 57) ?hr ?_; (case hd => rfl); (case hg => rfl); (case hr => first | (go_simp; done) | (go_simp; rfl)); intro gb640 hg w32 hbox hb; have n0_ := Aside0.mk (Kd.Q_below (by (with_reducible repeat (first | apply Kd.Q_alloc | apply Kd.Q_drewN | apply Kd.Q_drew)); exact HO_3.out) hb); have n1_ := Aside0.mk (blk_below (g := gb627) (o := .cells #[.slice A0_0 l0_0.length c0_0, .string a0_1] 51 (0, 0)) bk hb); have n2_ := Aside0.mk (below_step bwS hb); have n3_ := Aside0.mk (hbox); have n4_ := Aside0.mk ((by rw [hg]; exact (below_size bwS) : w.heap.size ≤ gb640)); have n5_ := Aside0.mk ((by rw [hg]; exact (below_size bwS) : w.heap.size ≤ gb640)); have n6_ := Aside0.mk ((by rw [hg]; exact Nat.ne_of_lt (blk_lt (g := gb627) (o := .cells #[.slice A0_0 l0_0.length c0_0, .string a0_1] 51 (0, 0)) bk) : gb627 ≠ gb640)); have n7_ := Aside0.mk ((by rw [hg]; exact Nat.ne_of_gt (blk_lt (g := gb627) (o := .cells #[.slice A0_0 l0_0.length c0_0, .string a0_1] 51 (0, 0)) bk) : gb640 ≠ gb627)); clear HO_3; clear BK627; clear HB; have HO_3 := n0_; have BK627 := n1_; have HB := n2_; have BK640 := n3_; have GW640 := n4_; have GE640 := n5_; have NB627_640 := n6_; have NB640_627 := n7_; clear n0_ n1_ n2_ n3_ n4_ n5_ n6_ n7_; clear hb hbox hg; have hnb33 := NB640_627.out; have hnc33 := NB627_640.out; have hcz34_0 : w32.cell? ⟨gb640, 0, none⟩ = some (.int .i64 0) := (blk_cell BK640.out 0).trans rfl; have hcz34_1 : w32.cell? ⟨gb640, 1, none⟩ = some (.int .i64 0) := (blk_cell BK640.out 1).trans rfl; have hcz34_2 : w32.cell? ⟨gb640, 2, none⟩ = some (.string (⟨#[]⟩ : ByteArray)) := (blk_cell BK640.out 2).trans rfl; have hfz34_0 := blk_frozen BK640.out 0; have hfz34_1 := blk_frozen BK640.out 1; have hfz34_2 := blk_frozen BK640.out 2) | ((with_reducible refine gate_dst (N := 32) rfl ?_); refine Kd.R_lit k57 _ 57 ?hg (N := 32) ?hd (xs := ([(⟨t637, t638, t639⟩ : S57)] : List (S57))) (inner := [.int .i64 t637, .int .i64 t638, .string t639]) (ok := fun _ => True) (okp := fun _ => True) ?hr ?hp (fun _ hk => hk) trivial (Below.refl _ _) (Nat.le_refl _) (by simp) ?_; (case hd => rfl); (case hg => rfl); (case hr => first | (go_simp; done) | (go_simp; rfl)); (case hp => exact (Reps.c3 (show Kd.M k57 _ _ _ (⟨t637, t638, t639⟩ : S57) [.int .i64 t637, .int .i64 t638, .string t639] from (k57_mkM _ _ _ (⟨t637, t638, t639⟩ : S57) )) (Reps.none _ _))); intro v642 w35 ho36 hb hg_ hnew_; clear hg_ hnew_; (first | rw [← Ny641.out] at ho36 | (simp only [Int.reduceToNat] at ho36; rw [← Ny641.out] at ho36)); have n0_ := Aside0.mk (Kd.Q_below (by (with_reducible repeat (first | apply Kd.Q_alloc | apply Kd.Q_drewN | apply Kd.Q_drew)); exact (Kd.Q_mono (Kd.Q_far (p := ⟨gb640, 2, none⟩) (Kd.Q_far (p := ⟨gb640, 1, none⟩) (Kd.Q_far (p := ⟨gb640, 0, none⟩) (Kd.Q_types HO_3.out BK640.out (by decide)) (fun _ hk => hk.2) (.int .i64 t637)) (fun _ hk => hk.2) (.int .i64 t638)) (fun _ hk => hk.2) (.string t639)) (fun _ h_ => h_.1))) hb); have n1_ := Aside0.mk (Kd.R_lower (Kd.R_newB ho36 (g := gb640) (o := .cells #[.int .i64 t637, .int .i64 t638, .string t639] 57 (0, 0)) (by (with_reducible repeat (first | refine blk_drewN ?_ _ | refine blk_drew ?_ | refine blk_alloc ?_ _)); refine blk_put (cs := #[.int .i64 t637, .int .i64 t638, .string (⟨#[]⟩ : ByteArray)]) ?_ 2 _ rfl; (with_reducible repeat (first | refine blk_drewN ?_ _ | refine blk_drew ?_ | refine blk_alloc ?_ _)); refine blk_put (cs := #[.int .i64 t637, .int .i64 0, .string (⟨#[]⟩ : ByteArray)]) ?_ 1 _ rfl; (with_reducible repeat (first | refine blk_drewN ?_ _ | refine blk_drew ?_ | refine blk_alloc ?_ _)); refine blk_put (cs := #[.int .i64 0, .int .i64 0, .string (⟨#[]⟩ : ByteArray)]) ?_ 0 _ rfl; (with_reducible repeat (first | refine blk_drewN ?_ _ | refine blk_drew ?_ | refine blk_alloc ?_ _)); exact BK640.out)) (below_size bwS)); have n2_ := Aside0.mk (blk_below (g := gb627) (o := .cells #[.slice A0_0 l0_0.length c0_0, .string a0_1] 51 (0, 0)) (by (with_reducible repeat (first | refine blk_drewN ?_ _ | refine blk_drew ?_ | refine blk_alloc ?_ _)); refine blk_far ?_ NB627_640.out _; (with_reducible repeat (first | refine blk_drewN ?_ _ | refine blk_drew ?_ | refine blk_alloc ?_ _)); refine blk_far ?_ NB627_640.out _; (with_reducible repeat (first | refine blk_drewN ?_ _ | refine blk_drew ?_ | refine blk_alloc ?_ _)); refine blk_far ?_ NB627_640.out _; (with_reducible repeat (first | refine blk_drewN ?_ _ | refine blk_drew ?_ | refine blk_alloc ?_ _)); exact BK627.out) hb); have n3_ := Aside0.mk (blk_below (g := gb640) (o := .cells #[.int .i64 t637, .int .i64 t638, .string t639] 57 (0, 0)) (by (with_reducible repeat (first | refine blk_drewN ?_ _ | refine blk_drew ?_ | refine blk_alloc ?_ _)); refine blk_put (cs := #[.int .i64 t637, .int .i64 t638, .string (⟨#[]⟩ : ByteArray)]) ?_ 2 _ rfl; (with_reducible repeat (first | refine blk_drewN ?_ _ | refine blk_drew ?_ | refine blk_alloc ?_ _)); refine blk_put (cs := #[.int .i64 t637, .int .i64 0, .string (⟨#[]⟩ : ByteArray)]) ?_ 1 _ rfl; (with_reducible repeat (first | refine blk_drewN ?_ _ | refine blk_drew ?_ | refine blk_alloc ?_ _)); refine blk_put (cs := #[.int .i64 0, .int .i64 0, .string (⟨#[]⟩ : ByteArray)]) ?_ 0 _ rfl; (with_reducible repeat (first | refine blk_drewN ?_ _ | refine blk_drew ?_ | refine blk_alloc ?_ _)); exact BK640.out) hb); have n4_ := Aside0.mk (below_step bwS hb); clear HO_3; clear BK627; clear BK640; clear HB; have HO_3 := n0_; have HO643 := n1_; have BK627 := n2_; have BK640 := n3_; have HB := n4_; clear n0_ n1_ n2_ n3_ n4_; clear hb ho36))
       go_ret
       exact ⟨_, by first | rfl | (simp [errW_none, errW_some] <;> rfl) | (simp [*, errW_none, errW_some] <;> rfl), by (with_reducible repeat (first | apply Kd.R_alloc | apply Kd.R_drewN | apply Kd.R_drew)); exact Kd.R_mono HO643.out (fun _ hk => trivial), bwS⟩

end Go.Proofs.YtihabmcaplnbcaaDoor.Fn
namespace Go.Proofs.YtihabmcaplnbcaaDoor.Fn
open Go.RowKit Go.Proofs.YtihabmcaplnbcaaDoorW.PrintWords Go.Proofs.YtihabmcaplnbcaaDoorW.PrintLast Go.Proofs.YtihabmcaplnbcaaDoorW.PrintMore
attribute [local go_sem] max2_int min2_int max_two min_two max_three min_three max_four min_four
set_option linter.unusedVariables false
set_option linter.unusedSimpArgs false

/-! ### order_Read: function 29 -/
mutual
def order_Read.l0 : Nat → List (S57) → Int → List ByteArray → Int → Int → Option ((List (S57)))
 | 0, _, _, _, _, _ => none
 | k + 1, x3, x4, x12, x13, x14 => if x14 < x13 then (if 0 ≤ x14 then (if x14 < (x12.length : Int) then ((order_words.f (rdOf ByteArray.empty x12 x14)).bind fun t659 => (if (x3.length : Int) = 8 then (order_Read.j1 k x3 x4 t659 x12 x13 x14 true) else (order_Read.j1 k x3 x4 t659 x12 x13 x14 (x4 == 3)))) else (none)) else (none)) else (some x3)
def order_Read.j1 : Nat → List (S57) → Int → List ByteArray → List ByteArray → Int → Int → Bool → Option ((List (S57)))
 | 0, _, _, _, _, _, _, _ => none
 | k + 1, x3, x4, x7, x12, x13, x14, x20 => if x20 = true then (some x3) else (if (x7.length : Int) = 0 then (order_Read.j2 k x3 x4 x7 x12 x13 x14 true) else (if 0 < (x7.length : Int) then ((strings_HasPrefix.f (rdOf ByteArray.empty x7 0) (⟨#[62]⟩ : ByteArray)).bind fun t663 => (order_Read.j2 k x3 x4 x7 x12 x13 x14 t663)) else (none)))
def order_Read.j2 : Nat → List (S57) → Int → List ByteArray → List ByteArray → Int → Int → Bool → Option ((List (S57)))
 | 0, _, _, _, _, _, _, _ => none
 | k + 1, x3, x4, x7, x12, x13, x14, x28 => if x28 = true then (order_Read.l0 k x3 x4 x12 x13 (wrap64 (x14 + 1))) else ((order_stops.f x7).bind fun t664 => (if t664 = true then (some x3) else ((order_command.f k x7).bind fun bt665 => (if bt665.1 = 5 then (if x3.length < 4398046511104 then (order_Read.l0 k (x3 ++ [(⟨bt665.1, bt665.2.1, bt665.2.2⟩ : S57)]) (wrap64 (x4 + 1)) x12 x13 (wrap64 (x14 + 1))) else (none)) else (if x3.length < 4398046511104 then (order_Read.l0 k (x3 ++ [(⟨bt665.1, bt665.2.1, bt665.2.2⟩ : S57)]) x4 x12 x13 (wrap64 (x14 + 1))) else (none))))))
end
def order_Read.f (k : Nat) (l0_0 : List (S142)) (a0_1 : ByteArray) : Option ((List (S57))) := (order_subject.f k l0_0 a0_1).bind fun t652 => ((msg_Message_Lines.f k l0_0 a0_1).bind fun t655 => (order_Read.l0 k t652 0 t655 (t655.length : Int) 0))
set_option maxHeartbeats 8000000 in
set_option maxRecDepth 100000 in
theorem order_Read.calls (k : Nat) (A0_0 : Option Addr) (c0_0 : Nat) (l0_0 : List (S142)) (a0_1 : ByteArray) (r : List (S57)) (w : World) (hG : Glob w) (hr0_0 : Kd.C k142 w A0_0 l0_0.length l0_0) (hc0_0 : l0_0.length ≤ c0_0) (h : order_Read.f k l0_0 a0_1 = some r) :
  Calls Tryd.prog 29 #[.agg #[.slice A0_0 l0_0.length c0_0, .string a0_1]] w fun e w' => ∃ v0_ : Value, e = .returned (v0_) ∧ Kd.R k57 57 w' w.heap.size (fun _ => True) v0_ r ∧ Below w.heap.size w w' := by
 have hu51 := Tryd.underlying51
 have hu57 := Tryd.underlying57
 have HR0_0 := Aside0.mk hr0_0
 have HC0_0 := Aside0.mk hc0_0
 clear hr0_0 hc0_0
 have HB := Aside0.mk (Below.refl w.heap.size w)
 have H : ((order_subject.f k l0_0 a0_1).bind fun t652 => ((msg_Message_Lines.f k l0_0 a0_1).bind fun t655 => (order_Read.l0 k t652 0 t655 (t655.length : Int) 0))) = some r := h
 clear h
 replace H := Option.bind_eq_some_iff.mp H
 obtain ⟨t652, A20, H⟩ := H
 replace H : ((msg_Message_Lines.f k l0_0 a0_1).bind fun t655 => (order_Read.l0 k t652 0 t655 (t655.length : Int) 0)) = some r := H
 have A2 := Aside0.mk A20
 clear A20
 replace H := Option.bind_eq_some_iff.mp H
 obtain ⟨t655, A30, H⟩ := H
 replace H : (order_Read.l0 k t652 0 t655 (t655.length : Int) 0) = some r := H
 have A3 := Aside0.mk A30
 clear A30
 have H' := Aside0.mk H
 clear H
 go_enter Tryd.func29, Tryd.ntmps29
 go_wp2_with (first | ((with_reducible refine gate_dst (N := 1) rfl ?_); refine box_event ?hg (N := 1) ?hd (cs := #[.slice A0_0 l0_0.length c0_0, .string a0_1]) (t := 51) ?hr ?_; (case hd => rfl); (case hg => rfl); (case hr => first | (go_simp; done) | (go_simp; rfl)); intro gb651 hg w4 hbox hb; have n0_ := Aside0.mk (below_step bw hb); have n1_ := Aside0.mk (hbox); have n2_ := Aside0.mk ((by rw [hg]; exact (below_size bw) : w.heap.size ≤ gb651)); have n3_ := Aside0.mk ((by rw [hg]; exact (below_size bw) : w.heap.size ≤ gb651)); clear HB; have HB := n0_; have BK651 := n1_; have GW651 := n2_; have GE651 := n3_; clear n0_ n1_ n2_ n3_; clear hb hbox hg; have hcz5_0 : w4.cell? ⟨gb651, 0, none⟩ = some (.slice A0_0 l0_0.length c0_0) := (blk_cell BK651.out 0).trans rfl; have hcz5_1 : w4.cell? ⟨gb651, 1, none⟩ = some (.string a0_1) := (blk_cell BK651.out 1).trans rfl; have hfz5_0 := blk_frozen BK651.out 0; have hfz5_1 := blk_frozen BK651.out 1) | ((with_reducible refine gate_callee (f := 62) rfl ?_); refine goesL_ (some 10) rfl rfl Tryd.func62 (by kernel_rfl) rfl #[.agg #[.slice A0_0 l0_0.length c0_0, .string a0_1]] rfl am ?_; (with_reducible refine (order_subject.calls (hG := by first | exact hG | exact Glob.below hG (by first | exact HB.out | (repeat (first | (with_reducible first | exact HB.out | apply below_alloc | apply pw_below_drewN | apply below_drew1 | refine below_set ?_ GE651.out | refine below_set ?_ GE668.out) | exact HB.out))) | exact Glob.drawn hG (by repeat (first | exact Drawn0.refl _ | apply Drawn0.step))) k _ _ l0_0 a0_1 t652 _ ?side1 ?side2 A2.out).mono ?_); (case side1 => repeat (first | exact (Kd.C_below HR0_0.out HB.out) | (with_reducible refine Kd.C_alloc ?_ _) | (with_reducible refine Kd.C_drewN ?_ _) | (with_reducible refine Kd.C_drew ?_))); (case side2 => exact HC0_0.out); rintro e w6 ⟨v653, rfl, ho0, hb⟩; refine ⟨_, rfl, ?_⟩; have n0_ := Aside0.mk (Kd.R_lower ho0 (below_size bwS)); have n1_ := Aside0.mk (blk_below (g := gb651) (o := .cells #[.slice A0_0 l0_0.length c0_0, .string a0_1] 51 (0, 0)) bk hb); have n2_ := Aside0.mk (below_step bwS hb); clear BK651; clear HB; have HO654 := n0_; have BK651 := n1_; have HB := n2_; clear n0_ n1_ n2_; (try clear hb); (try clear hb2); (try clear hk); (try clear hi); (try clear ho0); have hcz7_0 : w6.cell? ⟨gb651, 0, none⟩ = some (.slice A0_0 l0_0.length c0_0) := (blk_cell BK651.out 0).trans rfl; have hcz7_1 : w6.cell? ⟨gb651, 1, none⟩ = some (.string a0_1) := (blk_cell BK651.out 1).trans rfl; have hfz7_0 := blk_frozen BK651.out 0; have hfz7_1 := blk_frozen BK651.out 1) | ((with_reducible refine gate_callee (f := 63) rfl ?_); refine goesL_ (some 12) rfl rfl Tryd.func63 (by kernel_rfl) rfl #[.agg #[.slice A0_0 l0_0.length c0_0, .string a0_1]] rfl am ?_; (with_reducible refine (msg_Message_Lines.calls (hG := by first | exact hG | exact Glob.below hG (by first | exact HB.out | (repeat (first | (with_reducible first | exact HB.out | apply below_alloc | apply pw_below_drewN | apply below_drew1 | refine below_set ?_ GE651.out | refine below_set ?_ GE668.out) | exact HB.out))) | exact Glob.drawn hG (by repeat (first | exact Drawn0.refl _ | apply Drawn0.step))) k _ _ l0_0 a0_1 t655 _ ?side1 ?side2 A3.out).mono ?_); (case side1 => repeat (first | exact (Kd.C_below HR0_0.out HB.out) | (with_reducible refine Kd.C_alloc ?_ _) | (with_reducible refine Kd.C_drewN ?_ _) | (with_reducible refine Kd.C_drew ?_))); (case side2 => exact HC0_0.out); rintro e w8 ⟨v656, rfl, ho0, hb⟩; refine ⟨_, rfl, ?_⟩; have n0_ := Aside0.mk (Kd.R_below (by (with_reducible repeat (first | apply Kd.R_alloc | apply Kd.R_drewN | apply Kd.R_drew)); exact HO654.out) hb); have n1_ := Aside0.mk (Kd.R_lower ho0 (below_size bwS)); have n2_ := Aside0.mk (blk_below (g := gb651) (o := .cells #[.slice A0_0 l0_0.length c0_0, .string a0_1] 51 (0, 0)) bk hb); have n3_ := Aside0.mk (below_step bwS hb); clear HO654; clear BK651; clear HB; have HO654 := n0_; have HO657 := n1_; have BK651 := n2_; have HB := n3_; clear n0_ n1_ n2_ n3_; (try clear hb); (try clear hb2); (try clear hk); (try clear hi); (try clear ho0); obtain ⟨Ao9, co9, eo9⟩ := Kd.R_slice HO657.out; subst eo9))
 go_step3
 go_wp2_with (first | ((with_reducible refine gate_dst (N := 1) rfl ?_); refine box_event ?hg (N := 1) ?hd (cs := #[.slice A0_0 l0_0.length c0_0, .string a0_1]) (t := 51) ?hr ?_; (case hd => rfl); (case hg => rfl); (case hr => first | (go_simp; done) | (go_simp; rfl)); intro gb651 hg w4 hbox hb; have n0_ := Aside0.mk (below_step bw hb); have n1_ := Aside0.mk (hbox); have n2_ := Aside0.mk ((by rw [hg]; exact (below_size bw) : w.heap.size ≤ gb651)); have n3_ := Aside0.mk ((by rw [hg]; exact (below_size bw) : w.heap.size ≤ gb651)); clear HB; have HB := n0_; have BK651 := n1_; have GW651 := n2_; have GE651 := n3_; clear n0_ n1_ n2_ n3_; clear hb hbox hg; have hcz5_0 : w4.cell? ⟨gb651, 0, none⟩ = some (.slice A0_0 l0_0.length c0_0) := (blk_cell BK651.out 0).trans rfl; have hcz5_1 : w4.cell? ⟨gb651, 1, none⟩ = some (.string a0_1) := (blk_cell BK651.out 1).trans rfl; have hfz5_0 := blk_frozen BK651.out 0; have hfz5_1 := blk_frozen BK651.out 1) | ((with_reducible refine gate_callee (f := 62) rfl ?_); refine goesL_ (some 10) rfl rfl Tryd.func62 (by kernel_rfl) rfl #[.agg #[.slice A0_0 l0_0.length c0_0, .string a0_1]] rfl am ?_; (with_reducible refine (order_subject.calls (hG := by first | exact hG | exact Glob.below hG (by first | exact HB.out | (repeat (first | (with_reducible first | exact HB.out | apply below_alloc | apply pw_below_drewN | apply below_drew1 | refine below_set ?_ GE651.out | refine below_set ?_ GE668.out) | exact HB.out))) | exact Glob.drawn hG (by repeat (first | exact Drawn0.refl _ | apply Drawn0.step))) k _ _ l0_0 a0_1 t652 _ ?side1 ?side2 A2.out).mono ?_); (case side1 => repeat (first | exact (Kd.C_below HR0_0.out HB.out) | (with_reducible refine Kd.C_alloc ?_ _) | (with_reducible refine Kd.C_drewN ?_ _) | (with_reducible refine Kd.C_drew ?_))); (case side2 => exact HC0_0.out); rintro e w6 ⟨v653, rfl, ho0, hb⟩; refine ⟨_, rfl, ?_⟩; have n0_ := Aside0.mk (Kd.R_lower ho0 (below_size bwS)); have n1_ := Aside0.mk (blk_below (g := gb651) (o := .cells #[.slice A0_0 l0_0.length c0_0, .string a0_1] 51 (0, 0)) bk hb); have n2_ := Aside0.mk (below_step bwS hb); clear BK651; clear HB; have HO654 := n0_; have BK651 := n1_; have HB := n2_; clear n0_ n1_ n2_; (try clear hb); (try clear hb2); (try clear hk); (try clear hi); (try clear ho0); have hcz7_0 : w6.cell? ⟨gb651, 0, none⟩ = some (.slice A0_0 l0_0.length c0_0) := (blk_cell BK651.out 0).trans rfl; have hcz7_1 : w6.cell? ⟨gb651, 1, none⟩ = some (.string a0_1) := (blk_cell BK651.out 1).trans rfl; have hfz7_0 := blk_frozen BK651.out 0; have hfz7_1 := blk_frozen BK651.out 1) | ((with_reducible refine gate_callee (f := 63) rfl ?_); refine goesL_ (some 12) rfl rfl Tryd.func63 (by kernel_rfl) rfl #[.agg #[.slice A0_0 l0_0.length c0_0, .string a0_1]] rfl am ?_; (with_reducible refine (msg_Message_Lines.calls (hG := by first | exact hG | exact Glob.below hG (by first | exact HB.out | (repeat (first | (with_reducible first | exact HB.out | apply below_alloc | apply pw_below_drewN | apply below_drew1 | refine below_set ?_ GE651.out | refine below_set ?_ GE668.out) | exact HB.out))) | exact Glob.drawn hG (by repeat (first | exact Drawn0.refl _ | apply Drawn0.step))) k _ _ l0_0 a0_1 t655 _ ?side1 ?side2 A3.out).mono ?_); (case side1 => repeat (first | exact (Kd.C_below HR0_0.out HB.out) | (with_reducible refine Kd.C_alloc ?_ _) | (with_reducible refine Kd.C_drewN ?_ _) | (with_reducible refine Kd.C_drew ?_))); (case side2 => exact HC0_0.out); rintro e w8 ⟨v656, rfl, ho0, hb⟩; refine ⟨_, rfl, ?_⟩; have n0_ := Aside0.mk (Kd.R_below (by (with_reducible repeat (first | apply Kd.R_alloc | apply Kd.R_drewN | apply Kd.R_drew)); exact HO654.out) hb); have n1_ := Aside0.mk (Kd.R_lower ho0 (below_size bwS)); have n2_ := Aside0.mk (blk_below (g := gb651) (o := .cells #[.slice A0_0 l0_0.length c0_0, .string a0_1] 51 (0, 0)) bk hb); have n3_ := Aside0.mk (below_step bwS hb); clear HO654; clear BK651; clear HB; have HO654 := n0_; have HO657 := n1_; have BK651 := n2_; have HB := n3_; clear n0_ n1_ n2_ n3_; (try clear hb); (try clear hb2); (try clear hk); (try clear hi); (try clear ho0); obtain ⟨Ao9, co9, eo9⟩ := Kd.R_slice HO657.out; subst eo9))
 go_step3
 go_wp2_with (first | ((with_reducible refine gate_dst (N := 1) rfl ?_); refine box_event ?hg (N := 1) ?hd (cs := #[.slice A0_0 l0_0.length c0_0, .string a0_1]) (t := 51) ?hr ?_; (case hd => rfl); (case hg => rfl); (case hr => first | (go_simp; done) | (go_simp; rfl)); intro gb651 hg w4 hbox hb; have n0_ := Aside0.mk (below_step bw hb); have n1_ := Aside0.mk (hbox); have n2_ := Aside0.mk ((by rw [hg]; exact (below_size bw) : w.heap.size ≤ gb651)); have n3_ := Aside0.mk ((by rw [hg]; exact (below_size bw) : w.heap.size ≤ gb651)); clear HB; have HB := n0_; have BK651 := n1_; have GW651 := n2_; have GE651 := n3_; clear n0_ n1_ n2_ n3_; clear hb hbox hg; have hcz5_0 : w4.cell? ⟨gb651, 0, none⟩ = some (.slice A0_0 l0_0.length c0_0) := (blk_cell BK651.out 0).trans rfl; have hcz5_1 : w4.cell? ⟨gb651, 1, none⟩ = some (.string a0_1) := (blk_cell BK651.out 1).trans rfl; have hfz5_0 := blk_frozen BK651.out 0; have hfz5_1 := blk_frozen BK651.out 1) | ((with_reducible refine gate_callee (f := 62) rfl ?_); refine goesL_ (some 10) rfl rfl Tryd.func62 (by kernel_rfl) rfl #[.agg #[.slice A0_0 l0_0.length c0_0, .string a0_1]] rfl am ?_; (with_reducible refine (order_subject.calls (hG := by first | exact hG | exact Glob.below hG (by first | exact HB.out | (repeat (first | (with_reducible first | exact HB.out | apply below_alloc | apply pw_below_drewN | apply below_drew1 | refine below_set ?_ GE651.out | refine below_set ?_ GE668.out) | exact HB.out))) | exact Glob.drawn hG (by repeat (first | exact Drawn0.refl _ | apply Drawn0.step))) k _ _ l0_0 a0_1 t652 _ ?side1 ?side2 A2.out).mono ?_); (case side1 => repeat (first | exact (Kd.C_below HR0_0.out HB.out) | (with_reducible refine Kd.C_alloc ?_ _) | (with_reducible refine Kd.C_drewN ?_ _) | (with_reducible refine Kd.C_drew ?_))); (case side2 => exact HC0_0.out); rintro e w6 ⟨v653, rfl, ho0, hb⟩; refine ⟨_, rfl, ?_⟩; have n0_ := Aside0.mk (Kd.R_lower ho0 (below_size bwS)); have n1_ := Aside0.mk (blk_below (g := gb651) (o := .cells #[.slice A0_0 l0_0.length c0_0, .string a0_1] 51 (0, 0)) bk hb); have n2_ := Aside0.mk (below_step bwS hb); clear BK651; clear HB; have HO654 := n0_; have BK651 := n1_; have HB := n2_; clear n0_ n1_ n2_; (try clear hb); (try clear hb2); (try clear hk); (try clear hi); (try clear ho0); have hcz7_0 : w6.cell? ⟨gb651, 0, none⟩ = some (.slice A0_0 l0_0.length c0_0) := (blk_cell BK651.out 0).trans rfl; have hcz7_1 : w6.cell? ⟨gb651, 1, none⟩ = some (.string a0_1) := (blk_cell BK651.out 1).trans rfl; have hfz7_0 := blk_frozen BK651.out 0; have hfz7_1 := blk_frozen BK651.out 1) | ((with_reducible refine gate_callee (f := 63) rfl ?_); refine goesL_ (some 12) rfl rfl Tryd.func63 (by kernel_rfl) rfl #[.agg #[.slice A0_0 l0_0.length c0_0, .string a0_1]] rfl am ?_; (with_reducible refine (msg_Message_Lines.calls (hG := by first | exact hG | exact Glob.below hG (by first | exact HB.out | (repeat (first | (with_reducible first | exact HB.out | apply below_alloc | apply pw_below_drewN | apply below_drew1 | refine below_set ?_ GE651.out | refine below_set ?_ GE668.out) | exact HB.out))) | exact Glob.drawn hG (by repeat (first | exact Drawn0.refl _ | apply Drawn0.step))) k _ _ l0_0 a0_1 t655 _ ?side1 ?side2 A3.out).mono ?_); (case side1 => repeat (first | exact (Kd.C_below HR0_0.out HB.out) | (with_reducible refine Kd.C_alloc ?_ _) | (with_reducible refine Kd.C_drewN ?_ _) | (with_reducible refine Kd.C_drew ?_))); (case side2 => exact HC0_0.out); rintro e w8 ⟨v656, rfl, ho0, hb⟩; refine ⟨_, rfl, ?_⟩; have n0_ := Aside0.mk (Kd.R_below (by (with_reducible repeat (first | apply Kd.R_alloc | apply Kd.R_drewN | apply Kd.R_drew)); exact HO654.out) hb); have n1_ := Aside0.mk (Kd.R_lower ho0 (below_size bwS)); have n2_ := Aside0.mk (blk_below (g := gb651) (o := .cells #[.slice A0_0 l0_0.length c0_0, .string a0_1] 51 (0, 0)) bk hb); have n3_ := Aside0.mk (below_step bwS hb); clear HO654; clear BK651; clear HB; have HO654 := n0_; have HO657 := n1_; have BK651 := n2_; have HB := n3_; clear n0_ n1_ n2_ n3_; (try clear hb); (try clear hb2); (try clear hk); (try clear hi); (try clear ho0); obtain ⟨Ao9, co9, eo9⟩ := Kd.R_slice HO657.out; subst eo9))
 go_loopg [3, 4, 14] k (fun kq v3 v4 v14 w' => ∃ (x3_1 : List (S57)) (x4_1 : Int) (x14_1 : Int), v4 = .int .i64 x4_1 ∧ v14 = .int .i64 x14_1 ∧ Aside0 (order_Read.l0 kq x3_1 x4_1 t655 (t655.length : Int) x14_1 = some r) ∧ Aside0 (kq ≤ k) ∧ Aside0 (Kd.R k57 57 w' w.heap.size (fun _ => True) v3 x3_1) ∧ Aside0 (Kd.R Kd.string 9 w' w.heap.size (fun _ => True) (.slice Ao9 t655.length co9) t655) ∧ Aside0 (w'.heap[gb651]? = some (.cells #[(.slice A0_0 l0_0.length c0_0), .string a0_1] 51 (0, 0))) ∧ Aside0 (Below w.heap.size w w'))
 case atStart => exact ⟨(t652), (0), (0), cl, cl, H', ⟨Nat.le_refl _⟩, ⟨by (with_reducible repeat (first | apply Kd.R_alloc | apply Kd.R_drewN | apply Kd.R_drew)); exact HO654.out⟩, ⟨by (with_reducible repeat (first | apply Kd.R_alloc | apply Kd.R_drewN | apply Kd.R_drew)); exact HO657.out⟩, ⟨bk⟩, ⟨bwS⟩⟩
 case round =>
  clear H'
  try clear c2
  try clear p2
  try clear c6
  try clear hcz5_0
  try clear hcz5_1
  try clear hcz7_0
  try clear hcz7_1
  try clear hfz5_0
  try clear hfz5_1
  try clear hfz7_0
  try clear hfz7_1
  obtain ⟨x3_1, x4_1, x14_1, rfl, rfl, HA, HK1, HO_3, HO_12, BK651, HB⟩ := hrel
  cases gk with
  | zero => exact absurd HA.out (by simp [order_Read.l0])
  | succ k1 =>
   have H := HA.out
   clear HA
   simp only [order_Read.l0] at H
   by_cases c10 : x14_1 < (t655.length : Int)
   ·rw [if_pos c10] at H
    have c10b0 : decide (x14_1 < (t655.length : Int)) = true := decide_eq_true c10
    clear c10
    by_cases c11 : 0 ≤ x14_1
    ·rw [if_pos c11] at H
     have c11b0 : decide (0 ≤ x14_1) = true := decide_eq_true c11
     clear c11
     by_cases c12 : x14_1 < (t655.length : Int)
     ·rw [if_pos c12] at H
      have c12b0 : decide (x14_1 < (t655.length : Int)) = true := decide_eq_true c12
      clear c12
      replace H := Option.bind_eq_some_iff.mp H
      obtain ⟨t659, A130, H⟩ := H
      replace H : (if (x3_1.length : Int) = 8 then (order_Read.j1 k1 x3_1 x4_1 t659 t655 (t655.length : Int) x14_1 true) else (order_Read.j1 k1 x3_1 x4_1 t659 t655 (t655.length : Int) x14_1 (x4_1 == 3))) = some r := H
      have A13 := Aside0.mk A130
      clear A130
      have HC14 := Aside0.mk H
      clear H
      have p658 : 0 ≤ (x14_1 : Int) := od
      have q658 : x14_1 < (t655.length : Int) := od
      obtain ⟨ad658, e658, hx658_0⟩ := Kd.at_string (Kd.R_reads' HO_12.out).2.2 x14_1 p658 q658
      cases e658
      replace p658 := eq_true p658
      replace q658 := eq_true q658
      go_upto_region 7 with (first | ((with_reducible refine gate_callee (f := 64) rfl ?_); refine goesL_ (some 19) rfl rfl Tryd.func64 (by kernel_rfl) rfl #[.string (rdOf ByteArray.empty t655 x14_1)] rfl am ?_; (with_reducible refine (order_words.calls (rdOf ByteArray.empty t655 x14_1) t659 _ A13.out).mono ?_); rintro e w15 ⟨v660, rfl, ho0, hb⟩; refine ⟨_, rfl, ?_⟩; have n0_ := Aside0.mk (Kd.R_below (by (with_reducible repeat (first | apply Kd.R_alloc | apply Kd.R_drewN | apply Kd.R_drew)); exact HO_3.out) hb); have n1_ := Aside0.mk (Kd.R_elder' (by (with_reducible repeat (first | apply Kd.R_alloc | apply Kd.R_drewN | apply Kd.R_drew)); exact HO_12.out) (Kd.R_base ho0) hb); have n2_ := Aside0.mk (Kd.R_lower (Kd.R_new' ho0 (Kd.R_lt (by (with_reducible repeat (first | apply Kd.R_alloc | apply Kd.R_drewN | apply Kd.R_drew)); exact HO_12.out))) (below_size bwS)); have n3_ := Aside0.mk (blk_below (g := gb651) (o := .cells #[.slice A0_0 l0_0.length c0_0, .string a0_1] 51 (0, 0)) bk hb); have n4_ := Aside0.mk (below_step bwS hb); clear HO_3; clear HO_12; clear BK651; clear HB; have HO_3 := n0_; have HO_12 := n1_; have HO661 := n2_; have BK651 := n3_; have HB := n4_; clear n0_ n1_ n2_ n3_ n4_; (try clear hb); (try clear hb2); (try clear hk); (try clear hi); (try clear ho0)))
      (try simp only [Act.put, List.setIfInBounds_toArray, List.set_cons_zero, List.set_cons_succ])
      go_cut [20] (fun v20 wc => ∃ (kq : Nat) (x20_13 : Bool), v20 = .bool x20_13 ∧ Aside0 (order_Read.j1 kq x3_1 x4_1 t659 t655 (t655.length : Int) x14_1 x20_13 = some r) ∧ Aside0 (kq ≤ k1) ∧ Aside0 (Kd.R k57 57 wc w.heap.size (fun _ => True) u3 x3_1) ∧ Aside0 (Kd.R Kd.string 9 wc w.heap.size (fun k_ => some k_ ≠ ((.slice (some ad658) t655.length co9) : Value).ownBlock) v660 t659) ∧ Aside0 (Kd.R Kd.string 9 wc w.heap.size (fun k_ => some k_ ≠ (v660 : Value).ownBlock) (.slice (some ad658) t655.length co9) t655) ∧ Aside0 (wc.heap[gb651]? = some (.cells #[(.slice A0_0 l0_0.length c0_0), .string a0_1] 51 (0, 0))) ∧ Aside0 (Below w.heap.size w wc))
      case first =>
       have H := HC14.out
       clear HC14
       by_cases c16 : (x3_1.length : Int) = 8
       ·rw [if_pos c16] at H
        have c16b0 : ((x3_1.length : Int) == 8) = true := beq_iff_eq.mpr c16
        have c16b1 : ((x3_1.length : Int) != 8) = false := bne_eq_false_iff_eq.mpr c16
        clear c16
        (first | rw [c16b0] | (simp only [i64_w, i32_w]; rw [c16b0]) | skip)
        have H' := Aside0.mk H
        clear H
        obtain ⟨Ao17, co17, eo17⟩ := Kd.R_slice HO_3.out
        subst eo17
        go_wp2
        go_meet
        case rel => exact ⟨_, (true), cl, H', ⟨by have := HK1.out; first | omega | exact Nat.le_refl _⟩, ⟨by (with_reducible repeat (first | apply Kd.R_alloc | apply Kd.R_drewN | apply Kd.R_drew)); exact HO_3.out⟩, ⟨by (with_reducible repeat (first | apply Kd.R_alloc | apply Kd.R_drewN | apply Kd.R_drew)); exact Kd.R_mono HO661.out (fun _ hk => hk.2)⟩, ⟨by (with_reducible repeat (first | apply Kd.R_alloc | apply Kd.R_drewN | apply Kd.R_drew)); exact Kd.R_mono HO_12.out (fun _ hk => hk.2)⟩, ⟨bk⟩, ⟨bwS⟩⟩
       ·rw [if_neg c16] at H
        have c16b0 : ((x3_1.length : Int) == 8) = false := beq_eq_false_iff_ne.mpr c16
        have c16b1 : ((x3_1.length : Int) != 8) = true := bne_iff_ne.mpr c16
        (first | rw [c16b0] | (simp only [i64_w, i32_w]; rw [c16b0]) | skip)
        have H' := Aside0.mk H
        clear H
        obtain ⟨Ao18, co18, eo18⟩ := Kd.R_slice HO_3.out
        subst eo18
        go_wp2
        go_meet
        case rel => exact ⟨_, ((x4_1 == 3)), cl, H', ⟨by have := HK1.out; first | omega | exact Nat.le_refl _⟩, ⟨by (with_reducible repeat (first | apply Kd.R_alloc | apply Kd.R_drewN | apply Kd.R_drew)); exact HO_3.out⟩, ⟨by (with_reducible repeat (first | apply Kd.R_alloc | apply Kd.R_drewN | apply Kd.R_drew)); exact Kd.R_mono HO661.out (fun _ hk => hk.2)⟩, ⟨by (with_reducible repeat (first | apply Kd.R_alloc | apply Kd.R_drewN | apply Kd.R_drew)); exact Kd.R_mono HO_12.out (fun _ hk => hk.2)⟩, ⟨bk⟩, ⟨bwS⟩⟩
      case rest =>
       clear HC14
       try clear c1
       try clear c2
       try clear p2
       try clear c6
       try clear p6
       try clear q6
       try clear hx6
       try clear c10
       try clear c10b0
       try clear c11
       try clear c11b0
       try clear c12
       try clear c12b0
       try clear c16
       try clear c16b0
       try clear c16b1
       try clear hcz5_0
       try clear hcz5_1
       try clear hcz7_0
       try clear hcz7_1
       try clear hfz5_0
       try clear hfz5_1
       try clear hfz7_0
       try clear hfz7_1
       try clear hx658_0
       try clear p2
       try clear p658
       try clear q658
       obtain ⟨kq, x20_13, rfl, HA, HJ13, HO_3, HO_7, HO_12, BK651, HB⟩ := hcut
       cases kq with
       | zero => exact absurd HA.out (by simp [order_Read.j1])
       | succ kj13 =>
        have H := HA.out
        clear HA
        simp only [order_Read.j1] at H
        by_cases c19 : x20_13 = true
        ·subst c19
         have H1 : (some x3_1) = some r := by rw [if_pos rfl] at H; exact H
         clear H
         have H := H1
         clear H1
         obtain rfl := Option.some.inj H
         go_wp2
         (try rw [Exit.noGoto_ret])
         go_ret
         exact ⟨_, by first | rfl | (simp [errW_none, errW_some] <;> rfl) | (simp [*, errW_none, errW_some] <;> rfl), by (with_reducible repeat (first | apply Kd.R_alloc | apply Kd.R_drewN | apply Kd.R_drew)); exact HO_3.out, bwS⟩
        ·replace c19 := Bool.eq_false_iff.mpr c19
         subst c19
         have H1 : (if (t659.length : Int) = 0 then (order_Read.j2 kj13 x3_1 x4_1 t659 t655 (t655.length : Int) x14_1 true) else (if 0 < (t659.length : Int) then ((strings_HasPrefix.f (rdOf ByteArray.empty t659 0) (⟨#[62]⟩ : ByteArray)).bind fun t663 => (order_Read.j2 kj13 x3_1 x4_1 t659 t655 (t655.length : Int) x14_1 t663)) else (none))) = some r := by rw [if_neg (show ¬ (false = true) by decide)] at H; exact H
         clear H
         have H := H1
         clear H1
         have HC20 := Aside0.mk H
         clear H
         go_upto_region 8 with (fail)
         go_cut [28] (fun v28 wc => ∃ (kq : Nat) (x28_19 : Bool), v28 = .bool x28_19 ∧ Aside0 (order_Read.j2 kq x3_1 x4_1 t659 t655 (t655.length : Int) x14_1 x28_19 = some r) ∧ Aside0 (kq ≤ kj13) ∧ Aside0 (Kd.R k57 57 wc w.heap.size (fun _ => True) u3 x3_1) ∧ Aside0 (Kd.R Kd.string 9 wc w.heap.size (fun k_ => some k_ ≠ ((.slice (some ad658) t655.length co9) : Value).ownBlock) v660 t659) ∧ Aside0 (Kd.R Kd.string 9 wc w.heap.size (fun k_ => some k_ ≠ (v660 : Value).ownBlock) (.slice (some ad658) t655.length co9) t655) ∧ Aside0 (wc.heap[gb651]? = some (.cells #[(.slice A0_0 l0_0.length c0_0), .string a0_1] 51 (0, 0))) ∧ Aside0 (Below w.heap.size w wc))
         case first =>
          have H := HC20.out
          clear HC20
          by_cases c21 : (t659.length : Int) = 0
          ·rw [if_pos c21] at H
           have c21b0 : ((t659.length : Int) == 0) = true := beq_iff_eq.mpr c21
           have c21b1 : ((t659.length : Int) != 0) = false := bne_eq_false_iff_eq.mpr c21
           clear c21
           (first | rw [c21b0] | (simp only [i64_w, i32_w]; rw [c21b0]) | skip)
           have H' := Aside0.mk H
           clear H
           obtain ⟨Ao22, co22, eo22⟩ := Kd.R_slice HO_7.out
           subst eo22
           go_wp2
           go_meet
           case rel => exact ⟨_, (true), cl, H', ⟨by have := HK1.out; have := HJ13.out; first | omega | exact Nat.le_refl _⟩, ⟨by (with_reducible repeat (first | apply Kd.R_alloc | apply Kd.R_drewN | apply Kd.R_drew)); exact HO_3.out⟩, ⟨by (with_reducible repeat (first | apply Kd.R_alloc | apply Kd.R_drewN | apply Kd.R_drew)); exact HO_7.out⟩, ⟨by (with_reducible repeat (first | apply Kd.R_alloc | apply Kd.R_drewN | apply Kd.R_drew)); exact HO_12.out⟩, ⟨bk⟩, ⟨bwS⟩⟩
          ·rw [if_neg c21] at H
           have c21b0 : ((t659.length : Int) == 0) = false := beq_eq_false_iff_ne.mpr c21
           have c21b1 : ((t659.length : Int) != 0) = true := bne_iff_ne.mpr c21
           have c21b2 : ¬ (t659 = []) := fun h_ => c21 (by rw [h_]; rfl)
           (first | rw [c21b0] | (simp only [i64_w, i32_w]; rw [c21b0]) | skip)
           by_cases c23 : 0 < (t659.length : Int)
           ·rw [if_pos c23] at H
            have c23b0 : decide (0 < (t659.length : Int)) = true := decide_eq_true c23
            have c23b1 : decide (0 < t659.length) = true := decide_eq_true (by omega)
            clear c23
            replace H := Option.bind_eq_some_iff.mp H
            obtain ⟨t663, A240, H⟩ := H
            replace H : (order_Read.j2 kj13 x3_1 x4_1 t659 t655 (t655.length : Int) x14_1 t663) = some r := H
            have A24 := Aside0.mk A240
            clear A240
            have H' := Aside0.mk H
            clear H
            obtain ⟨Ao25, co25, eo25⟩ := Kd.R_slice HO_7.out
            subst eo25
            have p662 : 0 ≤ (0 : Int) := (by omega)
            have q662 : 0 < (t659.length : Int) := od
            obtain ⟨ad662, e662, hx662_0⟩ := Kd.at_string (Kd.R_reads' HO_7.out).2.2 0 p662 q662
            cases e662
            have qi662 : (0 < t659.length) = True := eq_true (by omega)
            (try rw [show ((0 : Int)).toNat = 0 from rfl] at hx662_0)
            (try rw [Addr.add_zero'] at hx662_0)
            replace p662 := eq_true p662
            replace q662 := eq_true q662
            go_wp2_with (first | (go_at_call 65; (with_reducible refine (strings_HasPrefix.calls (rdOf ByteArray.empty t659 0) (⟨#[62]⟩ : ByteArray) t663 _ A24.out).mono ?_); rintro e w' ⟨rfl, ⟨nd, rfl⟩⟩))
            go_meet
            case rel => exact ⟨_, (t663), cl, H', ⟨by have := HK1.out; have := HJ13.out; first | omega | exact Nat.le_refl _⟩, ⟨by (with_reducible repeat (first | apply Kd.R_alloc | apply Kd.R_drewN | apply Kd.R_drew)); exact HO_3.out⟩, ⟨by (with_reducible repeat (first | apply Kd.R_alloc | apply Kd.R_drewN | apply Kd.R_drew)); exact HO_7.out⟩, ⟨by (with_reducible repeat (first | apply Kd.R_alloc | apply Kd.R_drewN | apply Kd.R_drew)); exact HO_12.out⟩, ⟨bk⟩, ⟨bwS⟩⟩
           ·rw [if_neg c23] at H
            exact absurd H (by simp)
         case rest =>
          clear HC20
          try clear c1
          try clear c2
          try clear p2
          try clear c6
          try clear p6
          try clear q6
          try clear hx6
          try clear qi6
          try clear c10
          try clear c10b0
          try clear c11
          try clear c11b0
          try clear c12
          try clear c12b0
          try clear c16
          try clear c16b0
          try clear c16b1
          try clear c19
          try clear c21
          try clear c21b0
          try clear c21b1
          try clear c21b2
          try clear c23
          try clear c23b0
          try clear c23b1
          try clear hcz5_0
          try clear hcz5_1
          try clear hcz7_0
          try clear hcz7_1
          try clear hfz5_0
          try clear hfz5_1
          try clear hfz7_0
          try clear hfz7_1
          try clear hx658_0
          try clear hx662_0
          try clear p2
          try clear p6
          try clear p658
          try clear p662
          try clear q6
          try clear q658
          try clear q662
          obtain ⟨kq, x28_19, rfl, HA, HJ19, HO_3, HO_7, HO_12, BK651, HB⟩ := hcut
          cases kq with
          | zero => exact absurd HA.out (by simp [order_Read.j2])
          | succ kj19 =>
           have H := HA.out
           clear HA
           simp only [order_Read.j2] at H
           by_cases c26 : x28_19 = true
           ·subst c26
            have H1 : (order_Read.l0 kj19 x3_1 x4_1 t655 (t655.length : Int) (wrap64 (x14_1 + 1))) = some r := by rw [if_pos rfl] at H; exact H
            clear H
            have H := H1
            clear H1
            have H' := Aside0.mk H
            clear H
            go_wp2
            go_roundg kj19
            case measure => have := HK1.out; have := HJ13.out; have := HJ19.out; omega
            case rel => exact ⟨(x3_1), (x4_1), (wrap64 (x14_1 + 1)), cl, cl, H', ⟨by have := HK1.out; have := HJ13.out; have := HJ19.out; omega⟩, ⟨by (with_reducible repeat (first | apply Kd.R_alloc | apply Kd.R_drewN | apply Kd.R_drew)); exact HO_3.out⟩, ⟨by (with_reducible repeat (first | apply Kd.R_alloc | apply Kd.R_drewN | apply Kd.R_drew)); exact Kd.R_mono HO_12.out (fun _ hk => trivial)⟩, ⟨bk⟩, ⟨bwS⟩⟩
           ·replace c26 := Bool.eq_false_iff.mpr c26
            subst c26
            have H1 : ((order_stops.f t659).bind fun t664 => (if t664 = true then (some x3_1) else ((order_command.f kj19 t659).bind fun bt665 => (if bt665.1 = 5 then (if x3_1.length < 4398046511104 then (order_Read.l0 kj19 (x3_1 ++ [(⟨bt665.1, bt665.2.1, bt665.2.2⟩ : S57)]) (wrap64 (x4_1 + 1)) t655 (t655.length : Int) (wrap64 (x14_1 + 1))) else (none)) else (if x3_1.length < 4398046511104 then (order_Read.l0 kj19 (x3_1 ++ [(⟨bt665.1, bt665.2.1, bt665.2.2⟩ : S57)]) x4_1 t655 (t655.length : Int) (wrap64 (x14_1 + 1))) else (none)))))) = some r := by rw [if_neg (show ¬ (false = true) by decide)] at H; exact H
            clear H
            have H := H1
            clear H1
            replace H := Option.bind_eq_some_iff.mp H
            obtain ⟨t664, A270, H⟩ := H
            replace H : (if t664 = true then (some x3_1) else ((order_command.f kj19 t659).bind fun bt665 => (if bt665.1 = 5 then (if x3_1.length < 4398046511104 then (order_Read.l0 kj19 (x3_1 ++ [(⟨bt665.1, bt665.2.1, bt665.2.2⟩ : S57)]) (wrap64 (x4_1 + 1)) t655 (t655.length : Int) (wrap64 (x14_1 + 1))) else (none)) else (if x3_1.length < 4398046511104 then (order_Read.l0 kj19 (x3_1 ++ [(⟨bt665.1, bt665.2.1, bt665.2.2⟩ : S57)]) x4_1 t655 (t655.length : Int) (wrap64 (x14_1 + 1))) else (none))))) = some r := H
            have A27 := Aside0.mk A270
            clear A270
            by_cases c28 : t664 = true
            ·subst c28
             have H1 : (some x3_1) = some r := by rw [if_pos rfl] at H; exact H
             clear H
             have H := H1
             clear H1
             obtain rfl := Option.some.inj H
             obtain ⟨Ao29, co29, eo29⟩ := Kd.R_slice HO_7.out
             subst eo29
             go_wp2_with (first | ((with_reducible refine gate_callee (f := 66) rfl ?_); refine goesL_ (some 40) rfl rfl Tryd.func66 (by kernel_rfl) rfl #[.slice Ao29 t659.length co29] rfl am ?_; (with_reducible refine (order_stops.calls _ _ t659 true _ ?side1 ?side2 A27.out).mono ?_); (case side1 => repeat (first | exact (Kd.R_reads' HO_7.out).2.2 | (with_reducible refine Kd.C_alloc ?_ _) | (with_reducible refine Kd.C_drewN ?_ _) | (with_reducible refine Kd.C_drew ?_))); (case side2 => exact (Kd.R_reads' HO_7.out).2.1); rintro e w' ⟨rfl, ⟨nd, rfl⟩⟩; refine ⟨_, rfl, ?_⟩))
             (try rw [Exit.noGoto_ret])
             go_ret
             exact ⟨_, by first | rfl | (simp [errW_none, errW_some] <;> rfl) | (simp [*, errW_none, errW_some] <;> rfl), by (with_reducible repeat (first | apply Kd.R_alloc | apply Kd.R_drewN | apply Kd.R_drew)); exact HO_3.out, bwS⟩
            ·replace c28 := Bool.eq_false_iff.mpr c28
             subst c28
             have H1 : ((order_command.f kj19 t659).bind fun bt665 => (if bt665.1 = 5 then (if x3_1.length < 4398046511104 then (order_Read.l0 kj19 (x3_1 ++ [(⟨bt665.1, bt665.2.1, bt665.2.2⟩ : S57)]) (wrap64 (x4_1 + 1)) t655 (t655.length : Int) (wrap64 (x14_1 + 1))) else (none)) else (if x3_1.length < 4398046511104 then (order_Read.l0 kj19 (x3_1 ++ [(⟨bt665.1, bt665.2.1, bt665.2.2⟩ : S57)]) x4_1 t655 (t655.length : Int) (wrap64 (x14_1 + 1))) else (none)))) = some r := by rw [if_neg (show ¬ (false = true) by decide)] at H; exact H
             clear H
             have H := H1
             clear H1
             replace H := Option.bind_eq_some_iff.mp H
             obtain ⟨⟨t665, t666, t667⟩, A300, H⟩ := H
             replace H : (if t665 = 5 then (if x3_1.length < 4398046511104 then (order_Read.l0 kj19 (x3_1 ++ [(⟨t665, t666, t667⟩ : S57)]) (wrap64 (x4_1 + 1)) t655 (t655.length : Int) (wrap64 (x14_1 + 1))) else (none)) else (if x3_1.length < 4398046511104 then (order_Read.l0 kj19 (x3_1 ++ [(⟨t665, t666, t667⟩ : S57)]) x4_1 t655 (t655.length : Int) (wrap64 (x14_1 + 1))) else (none))) = some r := H
             have A30 := Aside0.mk A300
             clear A300
             by_cases c31 : t665 = 5
             ·rw [if_pos c31] at H
              have c31b0 : (t665 == 5) = true := beq_iff_eq.mpr c31
              have c31b1 : (t665 != 5) = false := bne_eq_false_iff_eq.mpr c31
              clear c31
              by_cases c32 : x3_1.length < 4398046511104
              ·rw [if_pos c32] at H
               have LMc32 := Aside0.mk c32
               clear c32
               obtain ⟨y669, hy669⟩ : ∃ y_ : List (S57), y_ = (x3_1 ++ [(⟨t665, t666, t667⟩ : S57)]) := ⟨_, rfl⟩
               replace H : (order_Read.l0 kj19 y669 (wrap64 (x4_1 + 1)) t655 (t655.length : Int) (wrap64 (x14_1 + 1))) = some r := by first | (rw [hy669]; with_reducible exact H) | (have H2_ := (Option.bind_some _ _).symm.trans H; rw [hy669]; with_reducible exact H2_) | (have H2_ := (Option.bind_some _ _).symm.trans H; with_reducible exact H2_) | with_reducible exact H | (rw [hy669]; exact H) | exact H
               have Ny669 := Aside0.mk hy669
               clear hy669
               have H' := Aside0.mk H
               clear H
               obtain ⟨Ao33, co33, eo33⟩ := Kd.R_slice HO_7.out
               subst eo33
               go_wp2_with (first | ((with_reducible refine gate_callee (f := 66) rfl ?_); refine goesL_ (some 40) rfl rfl Tryd.func66 (by kernel_rfl) rfl #[.slice Ao33 t659.length co33] rfl am ?_; (with_reducible refine (order_stops.calls _ _ t659 false _ ?side1 ?side2 A27.out).mono ?_); (case side1 => repeat (first | exact (Kd.R_reads' HO_7.out).2.2 | (with_reducible refine Kd.C_alloc ?_ _) | (with_reducible refine Kd.C_drewN ?_ _) | (with_reducible refine Kd.C_drew ?_))); (case side2 => exact (Kd.R_reads' HO_7.out).2.1); rintro e w' ⟨rfl, ⟨nd, rfl⟩⟩; refine ⟨_, rfl, ?_⟩; (try (rw [drewN_self wc]; generalize hq_ : World.drewN wc _ = wc; have n0_ : Aside0 (Kd.R Kd.string 9 wc w.heap.size (fun k_ => some k_ ≠ (.slice Ao33 t659.length co33 : Value).ownBlock) (.slice (some ad658) t655.length co9) t655) := ⟨by rw [← hq_]; exact (by (with_reducible repeat (first | apply Kd.R_alloc | apply Kd.R_drewN | apply Kd.R_drew)); exact HO_12.out)⟩; have n1_ : Aside0 (Kd.R k57 57 wc w.heap.size (fun _ => True) u3 x3_1) := ⟨by rw [← hq_]; exact (by (with_reducible repeat (first | apply Kd.R_alloc | apply Kd.R_drewN | apply Kd.R_drew)); exact HO_3.out)⟩; have n2_ : Aside0 (Kd.R Kd.string 9 wc w.heap.size (fun k_ => some k_ ≠ (.slice (some ad658) t655.length co9 : Value).ownBlock) (.slice Ao33 t659.length co33) t659) := ⟨by rw [← hq_]; exact (by (with_reducible repeat (first | apply Kd.R_alloc | apply Kd.R_drewN | apply Kd.R_drew)); exact HO_7.out)⟩; have n3_ : Aside0 (wc.heap[gb651]? = some (.cells #[.slice A0_0 l0_0.length c0_0, .string a0_1] 51 (0, 0))) := ⟨by rw [← hq_]; exact bk⟩; have n4_ : Aside0 (Below w.heap.size w wc) := ⟨by rw [← hq_]; exact bwS⟩; clear HO_12 HO_3 HO_7 BK651 HB hq_; have HO_12 := n0_; have HO_3 := n1_; have HO_7 := n2_; have BK651 := n3_; have HB := n4_; clear n0_ n1_ n2_ n3_ n4_))) | ((with_reducible refine gate_callee (f := 67) rfl ?_); refine goesL_ (some 42) rfl rfl Tryd.func67 (by kernel_rfl) rfl #[.slice Ao33 t659.length co33] rfl am ?_; (with_reducible refine (order_command.calls kj19 _ _ t659 t665 t666 t667 _ ?side1 ?side2 A30.out).mono ?_); (case side1 => repeat (first | exact (Kd.R_reads' HO_7.out).2.2 | (with_reducible refine Kd.C_alloc ?_ _) | (with_reducible refine Kd.C_drewN ?_ _) | (with_reducible refine Kd.C_drew ?_))); (case side2 => exact (Kd.R_reads' HO_7.out).2.1); rintro e w34 ⟨rfl, hb⟩; refine ⟨_, rfl, ?_⟩; have n0_ := Aside0.mk (Kd.R_below (by (with_reducible repeat (first | apply Kd.R_alloc | apply Kd.R_drewN | apply Kd.R_drew)); exact HO_3.out) hb); have n1_ := Aside0.mk (Kd.R_below (by (with_reducible repeat (first | apply Kd.R_alloc | apply Kd.R_drewN | apply Kd.R_drew)); exact HO_7.out) hb); have n2_ := Aside0.mk (Kd.R_below (by (with_reducible repeat (first | apply Kd.R_alloc | apply Kd.R_drewN | apply Kd.R_drew)); exact HO_12.out) hb); have n3_ := Aside0.mk (blk_below (g := gb651) (o := .cells #[.slice A0_0 l0_0.length c0_0, .string a0_1] 51 (0, 0)) bk hb); have n4_ := Aside0.mk (below_step bwS hb); clear HO_3; clear HO_7; clear HO_12; clear BK651; clear HB; have HO_3 := n0_; have HO_7 := n1_; have HO_12 := n2_; have BK651 := n3_; have HB := n4_; clear n0_ n1_ n2_ n3_ n4_; (try clear hb); (try clear hb2); (try clear hk); (try clear hi)) | ((with_reducible refine gate_dst (N := 8) rfl ?_); refine box_event ?hg (N := 8) ?hd (cs := #[.int .i64 0, .int .i64 0, .string (⟨#[]⟩ : ByteArray)]) (t := 57) ?hr ?_; (case hd => rfl); (case hg => rfl); (case hr => first | (go_simp; done) | (go_simp; rfl)); intro gb668 hg w35 hbox hb; have n0_ := Aside0.mk (Kd.R_below (Kd.R_elderB (by (with_reducible repeat (first | apply Kd.R_alloc | apply Kd.R_drewN | apply Kd.R_drew)); exact HO_3.out) gb668 (Nat.le_of_eq hg.symm)) hb); have n1_ := Aside0.mk (Kd.R_below (by (with_reducible repeat (first | apply Kd.R_alloc | apply Kd.R_drewN | apply Kd.R_drew)); exact HO_7.out) hb); have n2_ := Aside0.mk (Kd.R_below (by (with_reducible repeat (first | apply Kd.R_alloc | apply Kd.R_drewN | apply Kd.R_drew)); exact HO_12.out) hb); have n3_ := Aside0.mk (blk_below (g := gb651) (o := .cells #[.slice A0_0 l0_0.length c0_0, .string a0_1] 51 (0, 0)) bk hb); have n4_ := Aside0.mk (below_step bwS hb); have n5_ := Aside0.mk (hbox); have n6_ := Aside0.mk ((by rw [hg]; exact (below_size bwS) : w.heap.size ≤ gb668)); have n7_ := Aside0.mk ((by rw [hg]; exact (below_size bwS) : w.heap.size ≤ gb668)); have n8_ := Aside0.mk ((by rw [hg]; exact Nat.ne_of_lt (blk_lt (g := gb651) (o := .cells #[.slice A0_0 l0_0.length c0_0, .string a0_1] 51 (0, 0)) bk) : gb651 ≠ gb668)); have n9_ := Aside0.mk ((by rw [hg]; exact Nat.ne_of_gt (blk_lt (g := gb651) (o := .cells #[.slice A0_0 l0_0.length c0_0, .string a0_1] 51 (0, 0)) bk) : gb668 ≠ gb651)); clear HO_3; clear HO_7; clear HO_12; clear BK651; clear HB; have HO_3 := n0_; have HO_7 := n1_; have HO_12 := n2_; have BK651 := n3_; have HB := n4_; have BK668 := n5_; have GW668 := n6_; have GE668 := n7_; have NB651_668 := n8_; have NB668_651 := n9_; clear n0_ n1_ n2_ n3_ n4_ n5_ n6_ n7_ n8_ n9_; clear hb hbox hg; have hnb36 := NB668_651.out; have hnc36 := NB651_668.out; have hcz37_0 : w35.cell? ⟨gb668, 0, none⟩ = some (.int .i64 0) := (blk_cell BK668.out 0).trans rfl; have hcz37_1 : w35.cell? ⟨gb668, 1, none⟩ = some (.int .i64 0) := (blk_cell BK668.out 1).trans rfl; have hcz37_2 : w35.cell? ⟨gb668, 2, none⟩ = some (.string (⟨#[]⟩ : ByteArray)) := (blk_cell BK668.out 2).trans rfl; have hfz37_0 := blk_frozen BK668.out 0; have hfz37_1 := blk_frozen BK668.out 1; have hfz37_2 := blk_frozen BK668.out 2) | ((with_reducible refine gate_builtin (b := .append) (xs := #[.tmp 48, .tmp 50]) rfl ?_); at_builtin; refine Kd.R_append k57 (w0 := w) w.heap.size rfl (.tmp 48) (.tmp 50) 47 57 (.agg #[(.int .i64 0), (.int .i64 0), (.string ⟨#[]⟩)]) 32 rfl Tryd.underlying47 info57 rfl (by decide) (by omega) u3 x3_1 (⟨t665, t666, t667⟩ : S57) [.int .i64 t665, .int .i64 t666, .string t667] (fun k_ => k_ ≠ gb668) (fun _ => False) rfl (by first | (go_simp; done) | (go_simp; rfl)) ?aP (fun _ hk => hk.elim) ?aF ?aO ?aB ?aS ?aL ?_; (case aP => exact k57_mkM _ _ _ (⟨t665, t666, t667⟩ : S57)); (case aB => exact bwS); (case aF => exact (fun k_ hk => Kd.freshB (g := gb668) (o := .cells #[.int .i64 t665, .int .i64 t666, .string t667] 57 (0, 0)) (by (with_reducible repeat (first | refine blk_drewN ?_ _ | refine blk_drew ?_ | refine blk_alloc ?_ _)); refine blk_put (cs := #[.int .i64 t665, .int .i64 t666, .string (⟨#[]⟩ : ByteArray)]) ?_ 2 _ rfl; (with_reducible repeat (first | refine blk_drewN ?_ _ | refine blk_drew ?_ | refine blk_alloc ?_ _)); refine blk_put (cs := #[.int .i64 t665, .int .i64 0, .string (⟨#[]⟩ : ByteArray)]) ?_ 1 _ rfl; (with_reducible repeat (first | refine blk_drewN ?_ _ | refine blk_drew ?_ | refine blk_alloc ?_ _)); refine blk_put (cs := #[.int .i64 0, .int .i64 0, .string (⟨#[]⟩ : ByteArray)]) ?_ 0 _ rfl; (with_reducible repeat (first | refine blk_drewN ?_ _ | refine blk_drew ?_ | refine blk_alloc ?_ _)); exact BK668.out) k_ hk)); (case aO => exact (by (with_reducible repeat (first | apply Kd.R_alloc | apply Kd.R_drewN | apply Kd.R_drew)); exact Kd.R_mono (Kd.R_far (p := ⟨gb668, 2, none⟩) (Kd.R_far (p := ⟨gb668, 1, none⟩) (Kd.R_far (p := ⟨gb668, 0, none⟩) (Kd.R_mono HO_3.out (fun k_ hk => (⟨hk, hk.2⟩ : _ ∧ k_ ≠ gb668))) (fun _ hk => hk.2) (.int .i64 t665)) (fun _ hk => hk.2) (.int .i64 t666)) (fun _ hk => hk.2) (.string t667)) (fun _ hk => hk.1.2))); (case aS => exact (below_size bwS)); (case aL => have := LMc32.out; omega); intro v670 w38 ho hb hg hat; rw [← Ny669.out] at ho; have n0_ := Aside0.mk (Kd.R_over' (by (with_reducible repeat (first | apply Kd.R_alloc | apply Kd.R_drewN | apply Kd.R_drew)); exact (Kd.R_mono (Kd.R_far (p := ⟨gb668, 2, none⟩) (Kd.R_far (p := ⟨gb668, 1, none⟩) (Kd.R_far (p := ⟨gb668, 0, none⟩) (Kd.R_types HO_7.out BK668.out (by decide)) (fun _ hk => hk.2) (.int .i64 t665)) (fun _ hk => hk.2) (.int .i64 t666)) (fun _ hk => hk.2) (.string t667)) (fun _ h_ => h_.1))) (Kd.R_typed (by (with_reducible repeat (first | apply Kd.R_alloc | apply Kd.R_drewN | apply Kd.R_drew)); exact (Kd.R_mono (Kd.R_far (p := ⟨gb668, 2, none⟩) (Kd.R_far (p := ⟨gb668, 1, none⟩) (Kd.R_far (p := ⟨gb668, 0, none⟩) (Kd.R_mono HO_3.out (fun k_ hk => (⟨hk, hk.2⟩ : _ ∧ k_ ≠ gb668))) (fun _ hk => hk.2) (.int .i64 t665)) (fun _ hk => hk.2) (.int .i64 t666)) (fun _ hk => hk.2) (.string t667)) (fun _ h_ => h_.1)))) (by decide) hg); have n1_ := Aside0.mk (Kd.R_over' (by (with_reducible repeat (first | apply Kd.R_alloc | apply Kd.R_drewN | apply Kd.R_drew)); exact (Kd.R_mono (Kd.R_far (p := ⟨gb668, 2, none⟩) (Kd.R_far (p := ⟨gb668, 1, none⟩) (Kd.R_far (p := ⟨gb668, 0, none⟩) (Kd.R_types HO_12.out BK668.out (by decide)) (fun _ hk => hk.2) (.int .i64 t665)) (fun _ hk => hk.2) (.int .i64 t666)) (fun _ hk => hk.2) (.string t667)) (fun _ h_ => h_.1))) (Kd.R_typed (by (with_reducible repeat (first | apply Kd.R_alloc | apply Kd.R_drewN | apply Kd.R_drew)); exact (Kd.R_mono (Kd.R_far (p := ⟨gb668, 2, none⟩) (Kd.R_far (p := ⟨gb668, 1, none⟩) (Kd.R_far (p := ⟨gb668, 0, none⟩) (Kd.R_mono HO_3.out (fun k_ hk => (⟨hk, hk.2⟩ : _ ∧ k_ ≠ gb668))) (fun _ hk => hk.2) (.int .i64 t665)) (fun _ hk => hk.2) (.int .i64 t666)) (fun _ hk => hk.2) (.string t667)) (fun _ h_ => h_.1)))) (by decide) hg); have n2_ := Aside0.mk (blk_grown (g := gb651) (o := .cells #[.slice A0_0 l0_0.length c0_0, .string a0_1] 51 (0, 0)) (by (with_reducible repeat (first | refine blk_drewN ?_ _ | refine blk_drew ?_ | refine blk_alloc ?_ _)); refine blk_far ?_ NB651_668.out _; (with_reducible repeat (first | refine blk_drewN ?_ _ | refine blk_drew ?_ | refine blk_alloc ?_ _)); refine blk_far ?_ NB651_668.out _; (with_reducible repeat (first | refine blk_drewN ?_ _ | refine blk_drew ?_ | refine blk_alloc ?_ _)); refine blk_far ?_ NB651_668.out _; (with_reducible repeat (first | refine blk_drewN ?_ _ | refine blk_drew ?_ | refine blk_alloc ?_ _)); exact BK651.out) hg (Kd.R_ne HO_3.out BK651.out (by decide))); have n3_ := Aside0.mk (blk_grown (g := gb668) (o := .cells #[.int .i64 t665, .int .i64 t666, .string t667] 57 (0, 0)) (by (with_reducible repeat (first | refine blk_drewN ?_ _ | refine blk_drew ?_ | refine blk_alloc ?_ _)); refine blk_put (cs := #[.int .i64 t665, .int .i64 t666, .string (⟨#[]⟩ : ByteArray)]) ?_ 2 _ rfl; (with_reducible repeat (first | refine blk_drewN ?_ _ | refine blk_drew ?_ | refine blk_alloc ?_ _)); refine blk_put (cs := #[.int .i64 t665, .int .i64 0, .string (⟨#[]⟩ : ByteArray)]) ?_ 1 _ rfl; (with_reducible repeat (first | refine blk_drewN ?_ _ | refine blk_drew ?_ | refine blk_alloc ?_ _)); refine blk_put (cs := #[.int .i64 0, .int .i64 0, .string (⟨#[]⟩ : ByteArray)]) ?_ 0 _ rfl; (with_reducible repeat (first | refine blk_drewN ?_ _ | refine blk_drew ?_ | refine blk_alloc ?_ _)); exact BK668.out) hg (Kd.R_away HO_3.out (fun _ hk => hk.2))); have n4_ := Aside0.mk (hb); have n5_ := Aside0.mk (ho); clear HO_7; clear HO_12; clear BK651; clear BK668; clear HB; clear HO_3; have HO_7 := n0_; have HO_12 := n1_; have BK651 := n2_; have BK668 := n3_; have HB := n4_; have HO671 := n5_; clear n0_ n1_ n2_ n3_ n4_ n5_; clear ho hb hg hat))
               go_roundg kj19
               case measure => have := HK1.out; have := HJ13.out; have := HJ19.out; omega
               case rel => exact ⟨(y669), (wrap64 (x4_1 + 1)), (wrap64 (x14_1 + 1)), cl, cl, H', ⟨by have := HK1.out; have := HJ13.out; have := HJ19.out; omega⟩, ⟨by (with_reducible repeat (first | apply Kd.R_alloc | apply Kd.R_drewN | apply Kd.R_drew)); exact Kd.R_mono HO671.out (fun _ hk => trivial)⟩, ⟨by (with_reducible repeat (first | apply Kd.R_alloc | apply Kd.R_drewN | apply Kd.R_drew)); exact Kd.R_mono HO_12.out (fun _ hk => trivial)⟩, ⟨bk⟩, ⟨bwS⟩⟩
              ·rw [if_neg c32] at H
               exact absurd H (by simp)
             ·rw [if_neg c31] at H
              have c31b0 : (t665 == 5) = false := beq_eq_false_iff_ne.mpr c31
              have c31b1 : (t665 != 5) = true := bne_iff_ne.mpr c31
              by_cases c39 : x3_1.length < 4398046511104
              ·rw [if_pos c39] at H
               have LMc39 := Aside0.mk c39
               clear c39
               obtain ⟨y672, hy672⟩ : ∃ y_ : List (S57), y_ = (x3_1 ++ [(⟨t665, t666, t667⟩ : S57)]) := ⟨_, rfl⟩
               replace H : (order_Read.l0 kj19 y672 x4_1 t655 (t655.length : Int) (wrap64 (x14_1 + 1))) = some r := by first | (rw [hy672]; with_reducible exact H) | (have H2_ := (Option.bind_some _ _).symm.trans H; rw [hy672]; with_reducible exact H2_) | (have H2_ := (Option.bind_some _ _).symm.trans H; with_reducible exact H2_) | with_reducible exact H | (rw [hy672]; exact H) | exact H
               have Ny672 := Aside0.mk hy672
               clear hy672
               have H' := Aside0.mk H
               clear H
               obtain ⟨Ao40, co40, eo40⟩ := Kd.R_slice HO_7.out
               subst eo40
               go_wp2_with (first | ((with_reducible refine gate_callee (f := 66) rfl ?_); refine goesL_ (some 40) rfl rfl Tryd.func66 (by kernel_rfl) rfl #[.slice Ao40 t659.length co40] rfl am ?_; (with_reducible refine (order_stops.calls _ _ t659 false _ ?side1 ?side2 A27.out).mono ?_); (case side1 => repeat (first | exact (Kd.R_reads' HO_7.out).2.2 | (with_reducible refine Kd.C_alloc ?_ _) | (with_reducible refine Kd.C_drewN ?_ _) | (with_reducible refine Kd.C_drew ?_))); (case side2 => exact (Kd.R_reads' HO_7.out).2.1); rintro e w' ⟨rfl, ⟨nd, rfl⟩⟩; refine ⟨_, rfl, ?_⟩; (try (rw [drewN_self wc]; generalize hq_ : World.drewN wc _ = wc; have n0_ : Aside0 (Kd.R Kd.string 9 wc w.heap.size (fun k_ => some k_ ≠ (.slice Ao40 t659.length co40 : Value).ownBlock) (.slice (some ad658) t655.length co9) t655) := ⟨by rw [← hq_]; exact (by (with_reducible repeat (first | apply Kd.R_alloc | apply Kd.R_drewN | apply Kd.R_drew)); exact HO_12.out)⟩; have n1_ : Aside0 (Kd.R k57 57 wc w.heap.size (fun _ => True) u3 x3_1) := ⟨by rw [← hq_]; exact (by (with_reducible repeat (first | apply Kd.R_alloc | apply Kd.R_drewN | apply Kd.R_drew)); exact HO_3.out)⟩; have n2_ : Aside0 (Kd.R Kd.string 9 wc w.heap.size (fun k_ => some k_ ≠ (.slice (some ad658) t655.length co9 : Value).ownBlock) (.slice Ao40 t659.length co40) t659) := ⟨by rw [← hq_]; exact (by (with_reducible repeat (first | apply Kd.R_alloc | apply Kd.R_drewN | apply Kd.R_drew)); exact HO_7.out)⟩; have n3_ : Aside0 (wc.heap[gb651]? = some (.cells #[.slice A0_0 l0_0.length c0_0, .string a0_1] 51 (0, 0))) := ⟨by rw [← hq_]; exact bk⟩; have n4_ : Aside0 (Below w.heap.size w wc) := ⟨by rw [← hq_]; exact bwS⟩; clear HO_12 HO_3 HO_7 BK651 HB hq_; have HO_12 := n0_; have HO_3 := n1_; have HO_7 := n2_; have BK651 := n3_; have HB := n4_; clear n0_ n1_ n2_ n3_ n4_))) | ((with_reducible refine gate_callee (f := 67) rfl ?_); refine goesL_ (some 42) rfl rfl Tryd.func67 (by kernel_rfl) rfl #[.slice Ao40 t659.length co40] rfl am ?_; (with_reducible refine (order_command.calls kj19 _ _ t659 t665 t666 t667 _ ?side1 ?side2 A30.out).mono ?_); (case side1 => repeat (first | exact (Kd.R_reads' HO_7.out).2.2 | (with_reducible refine Kd.C_alloc ?_ _) | (with_reducible refine Kd.C_drewN ?_ _) | (with_reducible refine Kd.C_drew ?_))); (case side2 => exact (Kd.R_reads' HO_7.out).2.1); rintro e w41 ⟨rfl, hb⟩; refine ⟨_, rfl, ?_⟩; have n0_ := Aside0.mk (Kd.R_below (by (with_reducible repeat (first | apply Kd.R_alloc | apply Kd.R_drewN | apply Kd.R_drew)); exact HO_3.out) hb); have n1_ := Aside0.mk (Kd.R_below (by (with_reducible repeat (first | apply Kd.R_alloc | apply Kd.R_drewN | apply Kd.R_drew)); exact HO_7.out) hb); have n2_ := Aside0.mk (Kd.R_below (by (with_reducible repeat (first | apply Kd.R_alloc | apply Kd.R_drewN | apply Kd.R_drew)); exact HO_12.out) hb); have n3_ := Aside0.mk (blk_below (g := gb651) (o := .cells #[.slice A0_0 l0_0.length c0_0, .string a0_1] 51 (0, 0)) bk hb); have n4_ := Aside0.mk (below_step bwS hb); clear HO_3; clear HO_7; clear HO_12; clear BK651; clear HB; have HO_3 := n0_; have HO_7 := n1_; have HO_12 := n2_; have BK651 := n3_; have HB := n4_; clear n0_ n1_ n2_ n3_ n4_; (try clear hb); (try clear hb2); (try clear hk); (try clear hi)) | ((with_reducible refine gate_dst (N := 8) rfl ?_); refine box_event ?hg (N := 8) ?hd (cs := #[.int .i64 0, .int .i64 0, .string (⟨#[]⟩ : ByteArray)]) (t := 57) ?hr ?_; (case hd => rfl); (case hg => rfl); (case hr => first | (go_simp; done) | (go_simp; rfl)); intro gb668 hg w42 hbox hb; have n0_ := Aside0.mk (Kd.R_below (Kd.R_elderB (by (with_reducible repeat (first | apply Kd.R_alloc | apply Kd.R_drewN | apply Kd.R_drew)); exact HO_3.out) gb668 (Nat.le_of_eq hg.symm)) hb); have n1_ := Aside0.mk (Kd.R_below (by (with_reducible repeat (first | apply Kd.R_alloc | apply Kd.R_drewN | apply Kd.R_drew)); exact HO_7.out) hb); have n2_ := Aside0.mk (Kd.R_below (by (with_reducible repeat (first | apply Kd.R_alloc | apply Kd.R_drewN | apply Kd.R_drew)); exact HO_12.out) hb); have n3_ := Aside0.mk (blk_below (g := gb651) (o := .cells #[.slice A0_0 l0_0.length c0_0, .string a0_1] 51 (0, 0)) bk hb); have n4_ := Aside0.mk (below_step bwS hb); have n5_ := Aside0.mk (hbox); have n6_ := Aside0.mk ((by rw [hg]; exact (below_size bwS) : w.heap.size ≤ gb668)); have n7_ := Aside0.mk ((by rw [hg]; exact (below_size bwS) : w.heap.size ≤ gb668)); have n8_ := Aside0.mk ((by rw [hg]; exact Nat.ne_of_lt (blk_lt (g := gb651) (o := .cells #[.slice A0_0 l0_0.length c0_0, .string a0_1] 51 (0, 0)) bk) : gb651 ≠ gb668)); have n9_ := Aside0.mk ((by rw [hg]; exact Nat.ne_of_gt (blk_lt (g := gb651) (o := .cells #[.slice A0_0 l0_0.length c0_0, .string a0_1] 51 (0, 0)) bk) : gb668 ≠ gb651)); clear HO_3; clear HO_7; clear HO_12; clear BK651; clear HB; have HO_3 := n0_; have HO_7 := n1_; have HO_12 := n2_; have BK651 := n3_; have HB := n4_; have BK668 := n5_; have GW668 := n6_; have GE668 := n7_; have NB651_668 := n8_; have NB668_651 := n9_; clear n0_ n1_ n2_ n3_ n4_ n5_ n6_ n7_ n8_ n9_; clear hb hbox hg; have hnb43 := NB668_651.out; have hnc43 := NB651_668.out; have hcz44_0 : w42.cell? ⟨gb668, 0, none⟩ = some (.int .i64 0) := (blk_cell BK668.out 0).trans rfl; have hcz44_1 : w42.cell? ⟨gb668, 1, none⟩ = some (.int .i64 0) := (blk_cell BK668.out 1).trans rfl; have hcz44_2 : w42.cell? ⟨gb668, 2, none⟩ = some (.string (⟨#[]⟩ : ByteArray)) := (blk_cell BK668.out 2).trans rfl; have hfz44_0 := blk_frozen BK668.out 0; have hfz44_1 := blk_frozen BK668.out 1; have hfz44_2 := blk_frozen BK668.out 2) | ((with_reducible refine gate_builtin (b := .append) (xs := #[.tmp 48, .tmp 50]) rfl ?_); at_builtin; refine Kd.R_append k57 (w0 := w) w.heap.size rfl (.tmp 48) (.tmp 50) 47 57 (.agg #[(.int .i64 0), (.int .i64 0), (.string ⟨#[]⟩)]) 32 rfl Tryd.underlying47 info57 rfl (by decide) (by omega) u3 x3_1 (⟨t665, t666, t667⟩ : S57) [.int .i64 t665, .int .i64 t666, .string t667] (fun k_ => k_ ≠ gb668) (fun _ => False) rfl (by first | (go_simp; done) | (go_simp; rfl)) ?aP (fun _ hk => hk.elim) ?aF ?aO ?aB ?aS ?aL ?_; (case aP => exact k57_mkM _ _ _ (⟨t665, t666, t667⟩ : S57)); (case aB => exact bwS); (case aF => exact (fun k_ hk => Kd.freshB (g := gb668) (o := .cells #[.int .i64 t665, .int .i64 t666, .string t667] 57 (0, 0)) (by (with_reducible repeat (first | refine blk_drewN ?_ _ | refine blk_drew ?_ | refine blk_alloc ?_ _)); refine blk_put (cs := #[.int .i64 t665, .int .i64 t666, .string (⟨#[]⟩ : ByteArray)]) ?_ 2 _ rfl; (with_reducible repeat (first | refine blk_drewN ?_ _ | refine blk_drew ?_ | refine blk_alloc ?_ _)); refine blk_put (cs := #[.int .i64 t665, .int .i64 0, .string (⟨#[]⟩ : ByteArray)]) ?_ 1 _ rfl; (with_reducible repeat (first | refine blk_drewN ?_ _ | refine blk_drew ?_ | refine blk_alloc ?_ _)); refine blk_put (cs := #[.int .i64 0, .int .i64 0, .string (⟨#[]⟩ : ByteArray)]) ?_ 0 _ rfl; (with_reducible repeat (first | refine blk_drewN ?_ _ | refine blk_drew ?_ | refine blk_alloc ?_ _)); exact BK668.out) k_ hk)); (case aO => exact (by (with_reducible repeat (first | apply Kd.R_alloc | apply Kd.R_drewN | apply Kd.R_drew)); exact Kd.R_mono (Kd.R_far (p := ⟨gb668, 2, none⟩) (Kd.R_far (p := ⟨gb668, 1, none⟩) (Kd.R_far (p := ⟨gb668, 0, none⟩) (Kd.R_mono HO_3.out (fun k_ hk => (⟨hk, hk.2⟩ : _ ∧ k_ ≠ gb668))) (fun _ hk => hk.2) (.int .i64 t665)) (fun _ hk => hk.2) (.int .i64 t666)) (fun _ hk => hk.2) (.string t667)) (fun _ hk => hk.1.2))); (case aS => exact (below_size bwS)); (case aL => have := LMc39.out; omega); intro v673 w45 ho hb hg hat; rw [← Ny672.out] at ho; have n0_ := Aside0.mk (Kd.R_over' (by (with_reducible repeat (first | apply Kd.R_alloc | apply Kd.R_drewN | apply Kd.R_drew)); exact (Kd.R_mono (Kd.R_far (p := ⟨gb668, 2, none⟩) (Kd.R_far (p := ⟨gb668, 1, none⟩) (Kd.R_far (p := ⟨gb668, 0, none⟩) (Kd.R_types HO_7.out BK668.out (by decide)) (fun _ hk => hk.2) (.int .i64 t665)) (fun _ hk => hk.2) (.int .i64 t666)) (fun _ hk => hk.2) (.string t667)) (fun _ h_ => h_.1))) (Kd.R_typed (by (with_reducible repeat (first | apply Kd.R_alloc | apply Kd.R_drewN | apply Kd.R_drew)); exact (Kd.R_mono (Kd.R_far (p := ⟨gb668, 2, none⟩) (Kd.R_far (p := ⟨gb668, 1, none⟩) (Kd.R_far (p := ⟨gb668, 0, none⟩) (Kd.R_mono HO_3.out (fun k_ hk => (⟨hk, hk.2⟩ : _ ∧ k_ ≠ gb668))) (fun _ hk => hk.2) (.int .i64 t665)) (fun _ hk => hk.2) (.int .i64 t666)) (fun _ hk => hk.2) (.string t667)) (fun _ h_ => h_.1)))) (by decide) hg); have n1_ := Aside0.mk (Kd.R_over' (by (with_reducible repeat (first | apply Kd.R_alloc | apply Kd.R_drewN | apply Kd.R_drew)); exact (Kd.R_mono (Kd.R_far (p := ⟨gb668, 2, none⟩) (Kd.R_far (p := ⟨gb668, 1, none⟩) (Kd.R_far (p := ⟨gb668, 0, none⟩) (Kd.R_types HO_12.out BK668.out (by decide)) (fun _ hk => hk.2) (.int .i64 t665)) (fun _ hk => hk.2) (.int .i64 t666)) (fun _ hk => hk.2) (.string t667)) (fun _ h_ => h_.1))) (Kd.R_typed (by (with_reducible repeat (first | apply Kd.R_alloc | apply Kd.R_drewN | apply Kd.R_drew)); exact (Kd.R_mono (Kd.R_far (p := ⟨gb668, 2, none⟩) (Kd.R_far (p := ⟨gb668, 1, none⟩) (Kd.R_far (p := ⟨gb668, 0, none⟩) (Kd.R_mono HO_3.out (fun k_ hk => (⟨hk, hk.2⟩ : _ ∧ k_ ≠ gb668))) (fun _ hk => hk.2) (.int .i64 t665)) (fun _ hk => hk.2) (.int .i64 t666)) (fun _ hk => hk.2) (.string t667)) (fun _ h_ => h_.1)))) (by decide) hg); have n2_ := Aside0.mk (blk_grown (g := gb651) (o := .cells #[.slice A0_0 l0_0.length c0_0, .string a0_1] 51 (0, 0)) (by (with_reducible repeat (first | refine blk_drewN ?_ _ | refine blk_drew ?_ | refine blk_alloc ?_ _)); refine blk_far ?_ NB651_668.out _; (with_reducible repeat (first | refine blk_drewN ?_ _ | refine blk_drew ?_ | refine blk_alloc ?_ _)); refine blk_far ?_ NB651_668.out _; (with_reducible repeat (first | refine blk_drewN ?_ _ | refine blk_drew ?_ | refine blk_alloc ?_ _)); refine blk_far ?_ NB651_668.out _; (with_reducible repeat (first | refine blk_drewN ?_ _ | refine blk_drew ?_ | refine blk_alloc ?_ _)); exact BK651.out) hg (Kd.R_ne HO_3.out BK651.out (by decide))); have n3_ := Aside0.mk (blk_grown (g := gb668) (o := .cells #[.int .i64 t665, .int .i64 t666, .string t667] 57 (0, 0)) (by (with_reducible repeat (first | refine blk_drewN ?_ _ | refine blk_drew ?_ | refine blk_alloc ?_ _)); refine blk_put (cs := #[.int .i64 t665, .int .i64 t666, .string (⟨#[]⟩ : ByteArray)]) ?_ 2 _ rfl; (with_reducible repeat (first | refine blk_drewN ?_ _ | refine blk_drew ?_ | refine blk_alloc ?_ _)); refine blk_put (cs := #[.int .i64 t665, .int .i64 0, .string (⟨#[]⟩ : ByteArray)]) ?_ 1 _ rfl; (with_reducible repeat (first | refine blk_drewN ?_ _ | refine blk_drew ?_ | refine blk_alloc ?_ _)); refine blk_put (cs := #[.int .i64 0, .int .i64 0, .string (⟨#[]⟩ : ByteArray)]) ?_ 0 _ rfl; (with_reducible repeat (first | refine blk_drewN ?_ _ | refine blk_drew ?_ | refine blk_alloc ?_ _)); exact BK668.out) hg (Kd.R_away HO_3.out (fun _ hk => hk.2))); have n4_ := Aside0.mk (hb); have n5_ := Aside0.mk (ho); clear HO_7; clear HO_12; clear BK651; clear BK668; clear HB; clear HO_3; have HO_7 := n0_; have HO_12 := n1_; have BK651 := n2_; have BK668 := n3_; have HB := n4_; have HO674 := n5_; clear n0_ n1_ n2_ n3_ n4_ n5_; clear ho hb hg hat))
               go_roundg kj19
               case measure => have := HK1.out; have := HJ13.out; have := HJ19.out; omega
               case rel => exact ⟨(y672), (x4_1), (wrap64 (x14_1 + 1)), cl, cl, H', ⟨by have := HK1.out; have := HJ13.out; have := HJ19.out; omega⟩, ⟨by (with_reducible repeat (first | apply Kd.R_alloc | apply Kd.R_drewN | apply Kd.R_drew)); exact Kd.R_mono HO674.out (fun _ hk => trivial)⟩, ⟨by (with_reducible repeat (first | apply Kd.R_alloc | apply Kd.R_drewN | apply Kd.R_drew)); exact Kd.R_mono HO_12.out (fun _ hk => trivial)⟩, ⟨bk⟩, ⟨bwS⟩⟩
              ·rw [if_neg c39] at H
               exact absurd H (by simp)
     ·rw [if_neg c12] at H
      exact absurd H (by simp)
    ·rw [if_neg c11] at H
     exact absurd H (by simp)
   ·rw [if_neg c10] at H
    have c10b0 : decide (x14_1 < (t655.length : Int)) = false := decide_eq_false c10
    clear c10
    obtain rfl := Option.some.inj H
    go_wp2
    (try rw [Exit.noGoto_ret])
    go_ret
    exact ⟨_, by first | rfl | (simp [errW_none, errW_some] <;> rfl) | (simp [*, errW_none, errW_some] <;> rfl), by (with_reducible repeat (first | apply Kd.R_alloc | apply Kd.R_drewN | apply Kd.R_drew)); exact HO_3.out, bwS⟩

end Go.Proofs.YtihabmcaplnbcaaDoor.Fn
namespace Go.Proofs.YtihabmcaplnbcaaDoor.Fn
open Go.RowKit Go.Proofs.YtihabmcaplnbcaaDoorW.PrintWords Go.Proofs.YtihabmcaplnbcaaDoorW.PrintLast Go.Proofs.YtihabmcaplnbcaaDoorW.PrintMore
attribute [local go_sem] max2_int min2_int max_two min_two max_three min_three max_four min_four
set_option linter.unusedVariables false
set_option linter.unusedSimpArgs false

attribute [local go_sem high] eqA57
/-! ### bulletinlaw35_OrderAlone: function 9 -/
mutual
def bulletinlaw35_OrderAlone.j0 : Nat → ByteArray → Bool → Option (Bool)
 | 0, _, _ => none
 | k + 1, x0, x50 => if x50 = true then (some true) else (bulletinlaw35_OrderAlone.l0 k x0 (x0.size : Int) 0)
def bulletinlaw35_OrderAlone.l0 : Nat → ByteArray → Int → Int → Option (Bool)
 | 0, _, _, _ => none
 | k + 1, x0, x52, x53 => if x53 < x52 then (if 0 ≤ x53 then (if x53 < (x0.size : Int) then (if (bt x0 x53) = 13 then (some true) else (if (bt x0 x53) = 10 then (some true) else (bulletinlaw35_OrderAlone.l0 k x0 x52 (wrap64 (x53 + 1))))) else (none)) else (none)) else (if x0.size + 2 ≤ 9223372036854775807 then ((bulletinlaw16_To.f k ([] : List (S141)) (x0 ++ (⟨#[13, 10]⟩ : ByteArray))).bind fun bt696 => ((order_Read.f k bt696.1 bt696.2).bind fun t700 => (if (t700.length : Int) = 1 then (if 0 < (t700.length : Int) then ((order_Line.f k x0).bind fun bt704 => (some (((rd_T57 t700 0).f0) == bt704.1 && (((rd_T57 t700 0).f1) == bt704.2.1 && ((((rd_T57 t700 0).f2).toList) == bt704.2.2.toList))))) else (none)) else (some false)))) else (none))
end
def bulletinlaw35_OrderAlone.f (k : Nat) (a0 : ByteArray) : Option (Bool) := (bulletinlaw35_works.f k).bind fun t685 => (if t685 = true then ((glyph_Clean.f a0).bind fun t686 => ((glyph_Fold.f t686).bind fun t687 => ((glyph_Words.f t687).bind fun t688 => (if (a0.size : Int) > 500 then (bulletinlaw35_OrderAlone.j0 k a0 true) else (if (t688.length : Int) = 0 then (bulletinlaw35_OrderAlone.j0 k a0 true) else (if 0 < (t688.length : Int) then (if 0 < ((rdOf ByteArray.empty t688 0).size : Int) then (if (bt (rdOf ByteArray.empty t688 0) 0) = 62 then (bulletinlaw35_OrderAlone.j0 k a0 true) else (if (rdOf ByteArray.empty t688 0).toList = ([101, 110, 100] : List UInt8) then (bulletinlaw35_OrderAlone.j0 k a0 true) else (if (rdOf ByteArray.empty t688 0).toList = ([115, 116, 111, 112] : List UInt8) then (bulletinlaw35_OrderAlone.j0 k a0 true) else (if (rdOf ByteArray.empty t688 0).toList = ([113, 117, 105, 116] : List UInt8) then (bulletinlaw35_OrderAlone.j0 k a0 true) else (bulletinlaw35_OrderAlone.j0 k a0 ((rdOf ByteArray.empty t688 0).toList == ([45, 45] : List UInt8))))))) else (none)) else (none))))))) else (some false))
def bulletinlaw35_OrderAlone.T13 : Bool × List (List Nat × List Nat) := (true, [([], []), ([0], [0]), ([1], [1]), ([2], [2]), ([3], [3]), ([4, 3], [3, 4]), ([5, 3], [3, 5]), ([3], [3]), ([7, 3, 3], [3, 7]), ([6, 8, 3], [3, 6, 8]), ([3, 9], [3, 9]), ([10, 8, 0, 1, 2, 3, 4, 5, 6, 7, 8, 9, 10], [10])])
def bulletinlaw35_OrderAlone.B13 : List Nat := [0, 1, 3, 7, 15, 31, 63, 15, 143, 511, 1023, 2047]
theorem bulletinlaw35_OrderAlone.tab13 : rtab .any (opsOf Tryd.f9 13) = bulletinlaw35_OrderAlone.T13 := by kernel_rfl
theorem bulletinlaw35_OrderAlone.bits13 : waitsOk bulletinlaw35_OrderAlone.T13.2 bulletinlaw35_OrderAlone.B13 = true := by kernel_rfl
set_option maxHeartbeats 8000000 in
set_option maxRecDepth 100000 in
theorem bulletinlaw35_OrderAlone.calls (k : Nat) (a0 : ByteArray) (r : Bool) (w : World) (hG : Glob w) (h : bulletinlaw35_OrderAlone.f k a0 = some r) :
  Calls Tryd.prog 9 #[.string a0] w fun e w' => e = .returned (.bool r) ∧ Below w.heap.size w w' := by
 have hu55 := Tryd.underlying55
 have hu57 := Tryd.underlying57
 have HB := Aside0.mk (Below.refl w.heap.size w)
 have H : ((bulletinlaw35_works.f k).bind fun t685 => (if t685 = true then ((glyph_Clean.f a0).bind fun t686 => ((glyph_Fold.f t686).bind fun t687 => ((glyph_Words.f t687).bind fun t688 => (if (a0.size : Int) > 500 then (bulletinlaw35_OrderAlone.j0 k a0 true) else (if (t688.length : Int) = 0 then (bulletinlaw35_OrderAlone.j0 k a0 true) else (if 0 < (t688.length : Int) then (if 0 < ((rdOf ByteArray.empty t688 0).size : Int) then (if (bt (rdOf ByteArray.empty t688 0) 0) = 62 then (bulletinlaw35_OrderAlone.j0 k a0 true) else (if (rdOf ByteArray.empty t688 0).toList = ([101, 110, 100] : List UInt8) then (bulletinlaw35_OrderAlone.j0 k a0 true) else (if (rdOf ByteArray.empty t688 0).toList = ([115, 116, 111, 112] : List UInt8) then (bulletinlaw35_OrderAlone.j0 k a0 true) else (if (rdOf ByteArray.empty t688 0).toList = ([113, 117, 105, 116] : List UInt8) then (bulletinlaw35_OrderAlone.j0 k a0 true) else (bulletinlaw35_OrderAlone.j0 k a0 ((rdOf ByteArray.empty t688 0).toList == ([45, 45] : List UInt8))))))) else (none)) else (none))))))) else (some false))) = some r := h
 clear h
 replace H := Option.bind_eq_some_iff.mp H
 obtain ⟨t685, A20, H⟩ := H
 replace H : (if t685 = true then ((glyph_Clean.f a0).bind fun t686 => ((glyph_Fold.f t686).bind fun t687 => ((glyph_Words.f t687).bind fun t688 => (if (a0.size : Int) > 500 then (bulletinlaw35_OrderAlone.j0 k a0 true) else (if (t688.length : Int) = 0 then (bulletinlaw35_OrderAlone.j0 k a0 true) else (if 0 < (t688.length : Int) then (if 0 < ((rdOf ByteArray.empty t688 0).size : Int) then (if (bt (rdOf ByteArray.empty t688 0) 0) = 62 then (bulletinlaw35_OrderAlone.j0 k a0 true) else (if (rdOf ByteArray.empty t688 0).toList = ([101, 110, 100] : List UInt8) then (bulletinlaw35_OrderAlone.j0 k a0 true) else (if (rdOf ByteArray.empty t688 0).toList = ([115, 116, 111, 112] : List UInt8) then (bulletinlaw35_OrderAlone.j0 k a0 true) else (if (rdOf ByteArray.empty t688 0).toList = ([113, 117, 105, 116] : List UInt8) then (bulletinlaw35_OrderAlone.j0 k a0 true) else (bulletinlaw35_OrderAlone.j0 k a0 ((rdOf ByteArray.empty t688 0).toList == ([45, 45] : List UInt8))))))) else (none)) else (none))))))) else (some false)) = some r := H
 have A2 := Aside0.mk A20
 clear A20
 by_cases c3 : t685 = true
 ·subst c3
  have H1 : ((glyph_Clean.f a0).bind fun t686 => ((glyph_Fold.f t686).bind fun t687 => ((glyph_Words.f t687).bind fun t688 => (if (a0.size : Int) > 500 then (bulletinlaw35_OrderAlone.j0 k a0 true) else (if (t688.length : Int) = 0 then (bulletinlaw35_OrderAlone.j0 k a0 true) else (if 0 < (t688.length : Int) then (if 0 < ((rdOf ByteArray.empty t688 0).size : Int) then (if (bt (rdOf ByteArray.empty t688 0) 0) = 62 then (bulletinlaw35_OrderAlone.j0 k a0 true) else (if (rdOf ByteArray.empty t688 0).toList = ([101, 110, 100] : List UInt8) then (bulletinlaw35_OrderAlone.j0 k a0 true) else (if (rdOf ByteArray.empty t688 0).toList = ([115, 116, 111, 112] : List UInt8) then (bulletinlaw35_OrderAlone.j0 k a0 true) else (if (rdOf ByteArray.empty t688 0).toList = ([113, 117, 105, 116] : List UInt8) then (bulletinlaw35_OrderAlone.j0 k a0 true) else (bulletinlaw35_OrderAlone.j0 k a0 ((rdOf ByteArray.empty t688 0).toList == ([45, 45] : List UInt8))))))) else (none)) else (none))))))) = some r := by rw [if_pos rfl] at H; exact H
  clear H
  have H := H1
  clear H1
  replace H := Option.bind_eq_some_iff.mp H
  obtain ⟨t686, A40, H⟩ := H
  replace H : ((glyph_Fold.f t686).bind fun t687 => ((glyph_Words.f t687).bind fun t688 => (if (a0.size : Int) > 500 then (bulletinlaw35_OrderAlone.j0 k a0 true) else (if (t688.length : Int) = 0 then (bulletinlaw35_OrderAlone.j0 k a0 true) else (if 0 < (t688.length : Int) then (if 0 < ((rdOf ByteArray.empty t688 0).size : Int) then (if (bt (rdOf ByteArray.empty t688 0) 0) = 62 then (bulletinlaw35_OrderAlone.j0 k a0 true) else (if (rdOf ByteArray.empty t688 0).toList = ([101, 110, 100] : List UInt8) then (bulletinlaw35_OrderAlone.j0 k a0 true) else (if (rdOf ByteArray.empty t688 0).toList = ([115, 116, 111, 112] : List UInt8) then (bulletinlaw35_OrderAlone.j0 k a0 true) else (if (rdOf ByteArray.empty t688 0).toList = ([113, 117, 105, 116] : List UInt8) then (bulletinlaw35_OrderAlone.j0 k a0 true) else (bulletinlaw35_OrderAlone.j0 k a0 ((rdOf ByteArray.empty t688 0).toList == ([45, 45] : List UInt8))))))) else (none)) else (none)))))) = some r := H
  have A4 := Aside0.mk A40
  clear A40
  replace H := Option.bind_eq_some_iff.mp H
  obtain ⟨t687, A50, H⟩ := H
  replace H : ((glyph_Words.f t687).bind fun t688 => (if (a0.size : Int) > 500 then (bulletinlaw35_OrderAlone.j0 k a0 true) else (if (t688.length : Int) = 0 then (bulletinlaw35_OrderAlone.j0 k a0 true) else (if 0 < (t688.length : Int) then (if 0 < ((rdOf ByteArray.empty t688 0).size : Int) then (if (bt (rdOf ByteArray.empty t688 0) 0) = 62 then (bulletinlaw35_OrderAlone.j0 k a0 true) else (if (rdOf ByteArray.empty t688 0).toList = ([101, 110, 100] : List UInt8) then (bulletinlaw35_OrderAlone.j0 k a0 true) else (if (rdOf ByteArray.empty t688 0).toList = ([115, 116, 111, 112] : List UInt8) then (bulletinlaw35_OrderAlone.j0 k a0 true) else (if (rdOf ByteArray.empty t688 0).toList = ([113, 117, 105, 116] : List UInt8) then (bulletinlaw35_OrderAlone.j0 k a0 true) else (bulletinlaw35_OrderAlone.j0 k a0 ((rdOf ByteArray.empty t688 0).toList == ([45, 45] : List UInt8))))))) else (none)) else (none))))) = some r := H
  have A5 := Aside0.mk A50
  clear A50
  replace H := Option.bind_eq_some_iff.mp H
  obtain ⟨t688, A60, H⟩ := H
  replace H : (if (a0.size : Int) > 500 then (bulletinlaw35_OrderAlone.j0 k a0 true) else (if (t688.length : Int) = 0 then (bulletinlaw35_OrderAlone.j0 k a0 true) else (if 0 < (t688.length : Int) then (if 0 < ((rdOf ByteArray.empty t688 0).size : Int) then (if (bt (rdOf ByteArray.empty t688 0) 0) = 62 then (bulletinlaw35_OrderAlone.j0 k a0 true) else (if (rdOf ByteArray.empty t688 0).toList = ([101, 110, 100] : List UInt8) then (bulletinlaw35_OrderAlone.j0 k a0 true) else (if (rdOf ByteArray.empty t688 0).toList = ([115, 116, 111, 112] : List UInt8) then (bulletinlaw35_OrderAlone.j0 k a0 true) else (if (rdOf ByteArray.empty t688 0).toList = ([113, 117, 105, 116] : List UInt8) then (bulletinlaw35_OrderAlone.j0 k a0 true) else (bulletinlaw35_OrderAlone.j0 k a0 ((rdOf ByteArray.empty t688 0).toList == ([45, 45] : List UInt8))))))) else (none)) else (none)))) = some r := H
  have A6 := Aside0.mk A60
  clear A60
  have HC7 := Aside0.mk H
  clear H
  go_enter Tryd.func9, Tryd.ntmps9
  go_upto_region 4 with (first | ((with_reducible refine gate_callee (f := 28) rfl ?_); refine goesL_ (some 6) rfl rfl Tryd.func28 (by kernel_rfl) rfl #[] rfl am ?_; (with_reducible refine (bulletinlaw35_works.calls k  true _ A2.out).mono ?_); rintro e w8 ⟨rfl, hb⟩; refine ⟨_, rfl, ?_⟩; have n0_ := Aside0.mk (below_step bw hb); clear HB; have HB := n0_; clear n0_; (try clear hb); (try clear hb2); (try clear hk); (try clear hi)) | ((with_reducible refine gate_callee (f := 27) rfl ?_); refine goesL_ (some 9) rfl rfl Tryd.func27 (by kernel_rfl) rfl #[.string a0] rfl am ?_; (with_reducible refine (glyph_Clean.calls a0 t686 _ A4.out).mono ?_); rintro e w9 ⟨rfl, hb⟩; refine ⟨_, rfl, ?_⟩; have n0_ := Aside0.mk (below_step bw hb); clear HB; have HB := n0_; clear n0_; (try clear hb); (try clear hb2); (try clear hk); (try clear hi)) | ((with_reducible refine gate_callee (f := 26) rfl ?_); refine goesL_ (some 10) rfl rfl Tryd.func26 (by kernel_rfl) rfl #[.string t686] rfl am ?_; (with_reducible refine (glyph_Fold.calls t686 t687 _ A5.out).mono ?_); rintro e w10 ⟨rfl, hb⟩; refine ⟨_, rfl, ?_⟩; have n0_ := Aside0.mk (below_step bw hb); clear HB; have HB := n0_; clear n0_; (try clear hb); (try clear hb2); (try clear hk); (try clear hi)) | ((with_reducible refine gate_callee (f := 22) rfl ?_); refine goesL_ (some 11) rfl rfl Tryd.func22 (by kernel_rfl) rfl #[.string t687] rfl am ?_; (with_reducible refine (glyph_Words.calls t687 t688 _ A6.out).mono ?_); rintro e w11 ⟨v689, rfl, ho0, hb⟩; refine ⟨_, rfl, ?_⟩; have n0_ := Aside0.mk (Kd.R_lower ho0 (below_size bw)); have n1_ := Aside0.mk (below_step bw hb); clear HB; have HO690 := n0_; have HB := n1_; clear n0_ n1_; (try clear hb); (try clear hb2); (try clear hk); (try clear hi); (try clear ho0)))
  (try simp only [Act.put, List.setIfInBounds_toArray, List.set_cons_zero, List.set_cons_succ])
  go_cut [50] (fun v50 wc => ∃ (kq : Nat) (x50_6 : Bool), v50 = .bool x50_6 ∧ Aside0 (bulletinlaw35_OrderAlone.j0 kq a0 x50_6 = some r) ∧ Aside0 (kq ≤ k) ∧ Aside0 (Below w.heap.size w wc))
  case first =>
   have H := HC7.out
   clear HC7
   by_cases c12 : (a0.size : Int) > 500
   ·rw [if_pos c12] at H
    have c12b0 : decide (500 < (a0.size : Int)) = true := decide_eq_true c12
    have c12b1 : decide (500 < a0.size) = true := decide_eq_true (by omega)
    clear c12
    (first | rw [c12b0] | (simp only [i64_w, i32_w]; rw [c12b0]) | skip)
    have H' := Aside0.mk H
    clear H
    go_wp2
    go_meet
    case rel => exact ⟨_, (true), cl, H', ⟨by first | omega | exact Nat.le_refl _⟩, ⟨bw⟩⟩
   ·rw [if_neg c12] at H
    have c12b0 : decide (500 < (a0.size : Int)) = false := decide_eq_false c12
    have c12b1 : decide (500 < a0.size) = false := decide_eq_false (by omega)
    clear c12
    (first | rw [c12b0] | (simp only [i64_w, i32_w]; rw [c12b0]) | skip)
    by_cases c13 : (t688.length : Int) = 0
    ·rw [if_pos c13] at H
     have c13b0 : ((t688.length : Int) == 0) = true := beq_iff_eq.mpr c13
     have c13b1 : ((t688.length : Int) != 0) = false := bne_eq_false_iff_eq.mpr c13
     clear c13
     have H' := Aside0.mk H
     clear H
     obtain ⟨Ao14, co14, eo14⟩ := Kd.R_slice HO690.out
     subst eo14
     go_wp2
     go_meet
     case rel => exact ⟨_, (true), cl, H', ⟨by first | omega | exact Nat.le_refl _⟩, ⟨bw⟩⟩
    ·rw [if_neg c13] at H
     have c13b0 : ((t688.length : Int) == 0) = false := beq_eq_false_iff_ne.mpr c13
     have c13b1 : ((t688.length : Int) != 0) = true := bne_iff_ne.mpr c13
     have c13b2 : ¬ (t688 = []) := fun h_ => c13 (by rw [h_]; rfl)
     by_cases c15 : 0 < (t688.length : Int)
     ·rw [if_pos c15] at H
      have c15b0 : decide (0 < (t688.length : Int)) = true := decide_eq_true c15
      have c15b1 : decide (0 < t688.length) = true := decide_eq_true (by omega)
      clear c15
      by_cases c16 : 0 < ((rdOf ByteArray.empty t688 0).size : Int)
      ·rw [if_pos c16] at H
       have c16b0 : decide (0 < ((rdOf ByteArray.empty t688 0).size : Int)) = true := decide_eq_true c16
       have c16b1 : decide (0 < (rdOf ByteArray.empty t688 0).size) = true := decide_eq_true (by omega)
       clear c16
       by_cases c18 : (bt (rdOf ByteArray.empty t688 0) 0) = 62
       ·rw [if_pos c18] at H
        have c18b0 : ((bt (rdOf ByteArray.empty t688 0) 0) == 62) = true := beq_iff_eq.mpr c18
        have c18b1 : ((bt (rdOf ByteArray.empty t688 0) 0) != 62) = false := bne_eq_false_iff_eq.mpr c18
        clear c18
        have H' := Aside0.mk H
        clear H
        obtain ⟨Ao19, co19, eo19⟩ := Kd.R_slice HO690.out
        subst eo19
        have p691 : 0 ≤ (0 : Int) := (by omega)
        have q691 : 0 < (t688.length : Int) := od
        obtain ⟨ad691, e691, hx691_0⟩ := Kd.at_string (Kd.R_reads' HO690.out).2.2 0 p691 q691
        cases e691
        have qi691 : (0 < t688.length) = True := eq_true (by omega)
        (try rw [show ((0 : Int)).toNat = 0 from rfl] at hx691_0)
        (try rw [Addr.add_zero'] at hx691_0)
        replace p691 := eq_true p691
        replace q691 := eq_true q691
        have p17 : 0 ≤ (0 : Int) := (by omega)
        have q17 : 0 < (rdOf ByteArray.empty t688 0).size := (by have : (0 : Int) < ((rdOf ByteArray.empty t688 0).size : Int) := od; omega)
        have hx17 : ∀ h : 0 < (rdOf ByteArray.empty t688 0).size, (((rdOf ByteArray.empty t688 0)[0]'h).toNat : Int) = bt (rdOf ByteArray.empty t688 0) 0 := bt_at (rdOf ByteArray.empty t688 0) 0
        clear p17
        have qi17 : (0 < ((rdOf ByteArray.empty t688 0).size : Int)) = True := eq_true (od)
        replace q17 := eq_true q17
        go_wp2
        go_meet
        case rel => exact ⟨_, (true), cl, H', ⟨by first | omega | exact Nat.le_refl _⟩, ⟨bw⟩⟩
       ·rw [if_neg c18] at H
        have c18b0 : ((bt (rdOf ByteArray.empty t688 0) 0) == 62) = false := beq_eq_false_iff_ne.mpr c18
        have c18b1 : ((bt (rdOf ByteArray.empty t688 0) 0) != 62) = true := bne_iff_ne.mpr c18
        by_cases c20 : (rdOf ByteArray.empty t688 0).toList = ([101, 110, 100] : List UInt8)
        ·rw [if_pos c20] at H
         have c20b0 : ((rdOf ByteArray.empty t688 0).toList == ([101, 110, 100] : List UInt8)) = true := beq_iff_eq.mpr c20
         have c20b1 : ((rdOf ByteArray.empty t688 0).toList != ([101, 110, 100] : List UInt8)) = false := bne_eq_false_iff_eq.mpr c20
         clear c20
         have H' := Aside0.mk H
         clear H
         obtain ⟨Ao21, co21, eo21⟩ := Kd.R_slice HO690.out
         subst eo21
         have p691 : 0 ≤ (0 : Int) := (by omega)
         have q691 : 0 < (t688.length : Int) := od
         obtain ⟨ad691, e691, hx691_0⟩ := Kd.at_string (Kd.R_reads' HO690.out).2.2 0 p691 q691
         cases e691
         have qi691 : (0 < t688.length) = True := eq_true (by omega)
         (try rw [show ((0 : Int)).toNat = 0 from rfl] at hx691_0)
         (try rw [Addr.add_zero'] at hx691_0)
         replace p691 := eq_true p691
         replace q691 := eq_true q691
         have p17 : 0 ≤ (0 : Int) := (by omega)
         have q17 : 0 < (rdOf ByteArray.empty t688 0).size := (by have : (0 : Int) < ((rdOf ByteArray.empty t688 0).size : Int) := od; omega)
         have hx17 : ∀ h : 0 < (rdOf ByteArray.empty t688 0).size, (((rdOf ByteArray.empty t688 0)[0]'h).toNat : Int) = bt (rdOf ByteArray.empty t688 0) 0 := bt_at (rdOf ByteArray.empty t688 0) 0
         clear p17
         have qi17 : (0 < ((rdOf ByteArray.empty t688 0).size : Int)) = True := eq_true (od)
         replace q17 := eq_true q17
         have p692 : 0 ≤ (0 : Int) := (by omega)
         have q692 : 0 < (t688.length : Int) := od
         obtain ⟨ad692, e692, hx692_0⟩ := Kd.at_string (Kd.R_reads' HO690.out).2.2 0 p692 q692
         obtain rfl : ad691 = ad692 := (by injection e692)
         have qi692 : (0 < t688.length) = True := eq_true (by omega)
         (try rw [show ((0 : Int)).toNat = 0 from rfl] at hx692_0)
         (try rw [Addr.add_zero'] at hx692_0)
         replace p692 := eq_true p692
         replace q692 := eq_true q692
         go_wp2
         go_meet
         case rel => exact ⟨_, (true), cl, H', ⟨by first | omega | exact Nat.le_refl _⟩, ⟨bw⟩⟩
        ·rw [if_neg c20] at H
         have c20b0 : ((rdOf ByteArray.empty t688 0).toList == ([101, 110, 100] : List UInt8)) = false := beq_eq_false_iff_ne.mpr c20
         have c20b1 : ((rdOf ByteArray.empty t688 0).toList != ([101, 110, 100] : List UInt8)) = true := bne_iff_ne.mpr c20
         by_cases c22 : (rdOf ByteArray.empty t688 0).toList = ([115, 116, 111, 112] : List UInt8)
         ·rw [if_pos c22] at H
          have c22b0 : ((rdOf ByteArray.empty t688 0).toList == ([115, 116, 111, 112] : List UInt8)) = true := beq_iff_eq.mpr c22
          have c22b1 : ((rdOf ByteArray.empty t688 0).toList != ([115, 116, 111, 112] : List UInt8)) = false := bne_eq_false_iff_eq.mpr c22
          clear c22
          have H' := Aside0.mk H
          clear H
          obtain ⟨Ao23, co23, eo23⟩ := Kd.R_slice HO690.out
          subst eo23
          have p691 : 0 ≤ (0 : Int) := (by omega)
          have q691 : 0 < (t688.length : Int) := od
          obtain ⟨ad691, e691, hx691_0⟩ := Kd.at_string (Kd.R_reads' HO690.out).2.2 0 p691 q691
          cases e691
          have qi691 : (0 < t688.length) = True := eq_true (by omega)
          (try rw [show ((0 : Int)).toNat = 0 from rfl] at hx691_0)
          (try rw [Addr.add_zero'] at hx691_0)
          replace p691 := eq_true p691
          replace q691 := eq_true q691
          have p17 : 0 ≤ (0 : Int) := (by omega)
          have q17 : 0 < (rdOf ByteArray.empty t688 0).size := (by have : (0 : Int) < ((rdOf ByteArray.empty t688 0).size : Int) := od; omega)
          have hx17 : ∀ h : 0 < (rdOf ByteArray.empty t688 0).size, (((rdOf ByteArray.empty t688 0)[0]'h).toNat : Int) = bt (rdOf ByteArray.empty t688 0) 0 := bt_at (rdOf ByteArray.empty t688 0) 0
          clear p17
          have qi17 : (0 < ((rdOf ByteArray.empty t688 0).size : Int)) = True := eq_true (od)
          replace q17 := eq_true q17
          have p692 : 0 ≤ (0 : Int) := (by omega)
          have q692 : 0 < (t688.length : Int) := od
          obtain ⟨ad692, e692, hx692_0⟩ := Kd.at_string (Kd.R_reads' HO690.out).2.2 0 p692 q692
          obtain rfl : ad691 = ad692 := (by injection e692)
          have qi692 : (0 < t688.length) = True := eq_true (by omega)
          (try rw [show ((0 : Int)).toNat = 0 from rfl] at hx692_0)
          (try rw [Addr.add_zero'] at hx692_0)
          replace p692 := eq_true p692
          replace q692 := eq_true q692
          have p693 : 0 ≤ (0 : Int) := (by omega)
          have q693 : 0 < (t688.length : Int) := od
          obtain ⟨ad693, e693, hx693_0⟩ := Kd.at_string (Kd.R_reads' HO690.out).2.2 0 p693 q693
          obtain rfl : ad691 = ad693 := (by injection e693)
          have qi693 : (0 < t688.length) = True := eq_true (by omega)
          (try rw [show ((0 : Int)).toNat = 0 from rfl] at hx693_0)
          (try rw [Addr.add_zero'] at hx693_0)
          replace p693 := eq_true p693
          replace q693 := eq_true q693
          go_wp2
          go_meet
          case rel => exact ⟨_, (true), cl, H', ⟨by first | omega | exact Nat.le_refl _⟩, ⟨bw⟩⟩
         ·rw [if_neg c22] at H
          have c22b0 : ((rdOf ByteArray.empty t688 0).toList == ([115, 116, 111, 112] : List UInt8)) = false := beq_eq_false_iff_ne.mpr c22
          have c22b1 : ((rdOf ByteArray.empty t688 0).toList != ([115, 116, 111, 112] : List UInt8)) = true := bne_iff_ne.mpr c22
          by_cases c24 : (rdOf ByteArray.empty t688 0).toList = ([113, 117, 105, 116] : List UInt8)
          ·rw [if_pos c24] at H
           have c24b0 : ((rdOf ByteArray.empty t688 0).toList == ([113, 117, 105, 116] : List UInt8)) = true := beq_iff_eq.mpr c24
           have c24b1 : ((rdOf ByteArray.empty t688 0).toList != ([113, 117, 105, 116] : List UInt8)) = false := bne_eq_false_iff_eq.mpr c24
           clear c24
           have H' := Aside0.mk H
           clear H
           obtain ⟨Ao25, co25, eo25⟩ := Kd.R_slice HO690.out
           subst eo25
           have p691 : 0 ≤ (0 : Int) := (by omega)
           have q691 : 0 < (t688.length : Int) := od
           obtain ⟨ad691, e691, hx691_0⟩ := Kd.at_string (Kd.R_reads' HO690.out).2.2 0 p691 q691
           cases e691
           have qi691 : (0 < t688.length) = True := eq_true (by omega)
           (try rw [show ((0 : Int)).toNat = 0 from rfl] at hx691_0)
           (try rw [Addr.add_zero'] at hx691_0)
           replace p691 := eq_true p691
           replace q691 := eq_true q691
           have p17 : 0 ≤ (0 : Int) := (by omega)
           have q17 : 0 < (rdOf ByteArray.empty t688 0).size := (by have : (0 : Int) < ((rdOf ByteArray.empty t688 0).size : Int) := od; omega)
           have hx17 : ∀ h : 0 < (rdOf ByteArray.empty t688 0).size, (((rdOf ByteArray.empty t688 0)[0]'h).toNat : Int) = bt (rdOf ByteArray.empty t688 0) 0 := bt_at (rdOf ByteArray.empty t688 0) 0
           clear p17
           have qi17 : (0 < ((rdOf ByteArray.empty t688 0).size : Int)) = True := eq_true (od)
           replace q17 := eq_true q17
           have p692 : 0 ≤ (0 : Int) := (by omega)
           have q692 : 0 < (t688.length : Int) := od
           obtain ⟨ad692, e692, hx692_0⟩ := Kd.at_string (Kd.R_reads' HO690.out).2.2 0 p692 q692
           obtain rfl : ad691 = ad692 := (by injection e692)
           have qi692 : (0 < t688.length) = True := eq_true (by omega)
           (try rw [show ((0 : Int)).toNat = 0 from rfl] at hx692_0)
           (try rw [Addr.add_zero'] at hx692_0)
           replace p692 := eq_true p692
           replace q692 := eq_true q692
           have p693 : 0 ≤ (0 : Int) := (by omega)
           have q693 : 0 < (t688.length : Int) := od
           obtain ⟨ad693, e693, hx693_0⟩ := Kd.at_string (Kd.R_reads' HO690.out).2.2 0 p693 q693
           obtain rfl : ad691 = ad693 := (by injection e693)
           have qi693 : (0 < t688.length) = True := eq_true (by omega)
           (try rw [show ((0 : Int)).toNat = 0 from rfl] at hx693_0)
           (try rw [Addr.add_zero'] at hx693_0)
           replace p693 := eq_true p693
           replace q693 := eq_true q693
           have p694 : 0 ≤ (0 : Int) := (by omega)
           have q694 : 0 < (t688.length : Int) := od
           obtain ⟨ad694, e694, hx694_0⟩ := Kd.at_string (Kd.R_reads' HO690.out).2.2 0 p694 q694
           obtain rfl : ad691 = ad694 := (by injection e694)
           have qi694 : (0 < t688.length) = True := eq_true (by omega)
           (try rw [show ((0 : Int)).toNat = 0 from rfl] at hx694_0)
           (try rw [Addr.add_zero'] at hx694_0)
           replace p694 := eq_true p694
           replace q694 := eq_true q694
           go_wp2
           go_meet
           case rel => exact ⟨_, (true), cl, H', ⟨by first | omega | exact Nat.le_refl _⟩, ⟨bw⟩⟩
          ·rw [if_neg c24] at H
           have c24b0 : ((rdOf ByteArray.empty t688 0).toList == ([113, 117, 105, 116] : List UInt8)) = false := beq_eq_false_iff_ne.mpr c24
           have c24b1 : ((rdOf ByteArray.empty t688 0).toList != ([113, 117, 105, 116] : List UInt8)) = true := bne_iff_ne.mpr c24
           have H' := Aside0.mk H
           clear H
           obtain ⟨Ao26, co26, eo26⟩ := Kd.R_slice HO690.out
           subst eo26
           have p691 : 0 ≤ (0 : Int) := (by omega)
           have q691 : 0 < (t688.length : Int) := od
           obtain ⟨ad691, e691, hx691_0⟩ := Kd.at_string (Kd.R_reads' HO690.out).2.2 0 p691 q691
           cases e691
           have qi691 : (0 < t688.length) = True := eq_true (by omega)
           (try rw [show ((0 : Int)).toNat = 0 from rfl] at hx691_0)
           (try rw [Addr.add_zero'] at hx691_0)
           replace p691 := eq_true p691
           replace q691 := eq_true q691
           have p17 : 0 ≤ (0 : Int) := (by omega)
           have q17 : 0 < (rdOf ByteArray.empty t688 0).size := (by have : (0 : Int) < ((rdOf ByteArray.empty t688 0).size : Int) := od; omega)
           have hx17 : ∀ h : 0 < (rdOf ByteArray.empty t688 0).size, (((rdOf ByteArray.empty t688 0)[0]'h).toNat : Int) = bt (rdOf ByteArray.empty t688 0) 0 := bt_at (rdOf ByteArray.empty t688 0) 0
           clear p17
           have qi17 : (0 < ((rdOf ByteArray.empty t688 0).size : Int)) = True := eq_true (od)
           replace q17 := eq_true q17
           have p692 : 0 ≤ (0 : Int) := (by omega)
           have q692 : 0 < (t688.length : Int) := od
           obtain ⟨ad692, e692, hx692_0⟩ := Kd.at_string (Kd.R_reads' HO690.out).2.2 0 p692 q692
           obtain rfl : ad691 = ad692 := (by injection e692)
           have qi692 : (0 < t688.length) = True := eq_true (by omega)
           (try rw [show ((0 : Int)).toNat = 0 from rfl] at hx692_0)
           (try rw [Addr.add_zero'] at hx692_0)
           replace p692 := eq_true p692
           replace q692 := eq_true q692
           have p693 : 0 ≤ (0 : Int) := (by omega)
           have q693 : 0 < (t688.length : Int) := od
           obtain ⟨ad693, e693, hx693_0⟩ := Kd.at_string (Kd.R_reads' HO690.out).2.2 0 p693 q693
           obtain rfl : ad691 = ad693 := (by injection e693)
           have qi693 : (0 < t688.length) = True := eq_true (by omega)
           (try rw [show ((0 : Int)).toNat = 0 from rfl] at hx693_0)
           (try rw [Addr.add_zero'] at hx693_0)
           replace p693 := eq_true p693
           replace q693 := eq_true q693
           have p694 : 0 ≤ (0 : Int) := (by omega)
           have q694 : 0 < (t688.length : Int) := od
           obtain ⟨ad694, e694, hx694_0⟩ := Kd.at_string (Kd.R_reads' HO690.out).2.2 0 p694 q694
           obtain rfl : ad691 = ad694 := (by injection e694)
           have qi694 : (0 < t688.length) = True := eq_true (by omega)
           (try rw [show ((0 : Int)).toNat = 0 from rfl] at hx694_0)
           (try rw [Addr.add_zero'] at hx694_0)
           replace p694 := eq_true p694
           replace q694 := eq_true q694
           have p695 : 0 ≤ (0 : Int) := (by omega)
           have q695 : 0 < (t688.length : Int) := od
           obtain ⟨ad695, e695, hx695_0⟩ := Kd.at_string (Kd.R_reads' HO690.out).2.2 0 p695 q695
           obtain rfl : ad691 = ad695 := (by injection e695)
           have qi695 : (0 < t688.length) = True := eq_true (by omega)
           (try rw [show ((0 : Int)).toNat = 0 from rfl] at hx695_0)
           (try rw [Addr.add_zero'] at hx695_0)
           replace p695 := eq_true p695
           replace q695 := eq_true q695
           go_wp2
           go_meet
           case rel => exact ⟨_, (((rdOf ByteArray.empty t688 0).toList == ([45, 45] : List UInt8))), cl, H', ⟨by first | omega | exact Nat.le_refl _⟩, ⟨bw⟩⟩
      ·rw [if_neg c16] at H
       exact absurd H (by simp)
     ·rw [if_neg c15] at H
      exact absurd H (by simp)
  case rest =>
   clear HC7
   try clear c1
   try clear p1
   try clear q1
   try clear hx1
   try clear qi1
   try clear c2
   try clear p2
   try clear c3
   try clear p6
   try clear q6
   try clear hx6
   try clear qi6
   try clear c9
   try clear c12
   try clear c12b0
   try clear c12b1
   try clear c13
   try clear c13b0
   try clear c13b1
   try clear c13b2
   try clear c15
   try clear c15b0
   try clear c15b1
   try clear c16
   try clear c16b0
   try clear c16b1
   try clear p17
   try clear q17
   try clear hx17
   try clear qi17
   try clear c18
   try clear c18b0
   try clear c18b1
   try clear c20
   try clear c20b0
   try clear c20b1
   try clear c22
   try clear c22b0
   try clear c22b1
   try clear c24
   try clear c24b0
   try clear c24b1
   try clear c26
   try clear hx691_0
   try clear hx692_0
   try clear hx693_0
   try clear hx694_0
   try clear hx695_0
   try clear p17
   try clear p691
   try clear p692
   try clear p693
   try clear p694
   try clear p695
   try clear q17
   try clear q691
   try clear q692
   try clear q693
   try clear q694
   try clear q695
   obtain ⟨kq, x50_6, rfl, HA, HJ6, HB⟩ := hcut
   cases kq with
   | zero => exact absurd HA.out (by simp [bulletinlaw35_OrderAlone.j0])
   | succ kj6 =>
    have H := HA.out
    clear HA
    simp only [bulletinlaw35_OrderAlone.j0] at H
    by_cases c27 : x50_6 = true
    ·subst c27
     have H1 : (some true) = some r := by rw [if_pos rfl] at H; exact H
     clear H
     have H := H1
     clear H1
     obtain rfl := Option.some.inj H
     go_wp2
     go_ret
     exact ⟨by first | rfl | (simp [errW_none, errW_some] <;> rfl) | (simp [*, errW_none, errW_some] <;> rfl), bw⟩
    ·replace c27 := Bool.eq_false_iff.mpr c27
     subst c27
     have H1 : (bulletinlaw35_OrderAlone.l0 kj6 a0 (a0.size : Int) 0) = some r := by rw [if_neg (show ¬ (false = true) by decide)] at H; exact H
     clear H
     have H := H1
     clear H1
     have H' := Aside0.mk H
     clear H
     go_wp2
     go_loopg [53] kj6 (fun kq v53 w' => ∃ (x53_2 : Int), v53 = .int .i64 x53_2 ∧ Aside0 (bulletinlaw35_OrderAlone.l0 kq a0 (a0.size : Int) x53_2 = some r) ∧ Aside0 (kq ≤ kj6) ∧ Aside0 (Below w.heap.size w w'))
     case atStart => exact ⟨(0), cl, H', ⟨Nat.le_refl _⟩, ⟨bw⟩⟩
     case round =>
      clear H'
      try clear c1
      try clear p1
      try clear q1
      try clear hx1
      try clear qi1
      try clear c2
      try clear p2
      try clear c3
      try clear p6
      try clear q6
      try clear hx6
      try clear qi6
      try clear c9
      try clear c12
      try clear c12b0
      try clear c12b1
      try clear c13
      try clear c13b0
      try clear c13b1
      try clear c13b2
      try clear c15
      try clear c15b0
      try clear c15b1
      try clear c16
      try clear c16b0
      try clear c16b1
      try clear p17
      try clear q17
      try clear hx17
      try clear qi17
      try clear c18
      try clear c18b0
      try clear c18b1
      try clear c20
      try clear c20b0
      try clear c20b1
      try clear c22
      try clear c22b0
      try clear c22b1
      try clear c24
      try clear c24b0
      try clear c24b1
      try clear c26
      try clear c27
      try clear hx691_0
      try clear hx692_0
      try clear hx693_0
      try clear hx694_0
      try clear hx695_0
      try clear p1
      try clear p17
      try clear p2
      try clear p6
      try clear p691
      try clear p692
      try clear p693
      try clear p694
      try clear p695
      try clear q1
      try clear q17
      try clear q6
      try clear q691
      try clear q692
      try clear q693
      try clear q694
      try clear q695
      obtain ⟨x53_2, rfl, HA, HK2, HB⟩ := hrel
      cases gk with
      | zero => exact absurd HA.out (by simp [bulletinlaw35_OrderAlone.l0])
      | succ k2 =>
       have H := HA.out
       clear HA
       simp only [bulletinlaw35_OrderAlone.l0] at H
       by_cases c28 : x53_2 < (a0.size : Int)
       ·rw [if_pos c28] at H
        have c28b0 : decide (x53_2 < (a0.size : Int)) = true := decide_eq_true c28
        clear c28
        by_cases c29 : 0 ≤ x53_2
        ·rw [if_pos c29] at H
         have c29b0 : decide (0 ≤ x53_2) = true := decide_eq_true c29
         clear c29
         by_cases c30 : x53_2 < (a0.size : Int)
         ·rw [if_pos c30] at H
          have c30b0 : decide (x53_2 < (a0.size : Int)) = true := decide_eq_true c30
          clear c30
          by_cases c32 : (bt a0 x53_2) = 13
          ·rw [if_pos c32] at H
           have c32b0 : ((bt a0 x53_2) == 13) = true := beq_iff_eq.mpr c32
           have c32b1 : ((bt a0 x53_2) != 13) = false := bne_eq_false_iff_eq.mpr c32
           clear c32
           obtain rfl := Option.some.inj H
           have p31 : 0 ≤ (x53_2 : Int) := od
           have q31 : x53_2 < (a0.size : Int) := od
           have hx31 := bt_at a0 x53_2
           replace p31 := eq_true p31
           replace q31 := eq_true q31
           go_wp2
           go_ret
           exact ⟨by first | rfl | (simp [errW_none, errW_some] <;> rfl) | (simp [*, errW_none, errW_some] <;> rfl), bw⟩
          ·rw [if_neg c32] at H
           have c32b0 : ((bt a0 x53_2) == 13) = false := beq_eq_false_iff_ne.mpr c32
           have c32b1 : ((bt a0 x53_2) != 13) = true := bne_iff_ne.mpr c32
           by_cases c34 : (bt a0 x53_2) = 10
           ·rw [if_pos c34] at H
            have c34b0 : ((bt a0 x53_2) == 10) = true := beq_iff_eq.mpr c34
            have c34b1 : ((bt a0 x53_2) != 10) = false := bne_eq_false_iff_eq.mpr c34
            clear c34
            obtain rfl := Option.some.inj H
            have p31 : 0 ≤ (x53_2 : Int) := od
            have q31 : x53_2 < (a0.size : Int) := od
            have hx31 := bt_at a0 x53_2
            replace p31 := eq_true p31
            replace q31 := eq_true q31
            have p33 : 0 ≤ (x53_2 : Int) := od
            have q33 : x53_2 < (a0.size : Int) := od
            have hx33 := bt_at a0 x53_2
            replace p33 := eq_true p33
            replace q33 := eq_true q33
            go_wp2
            go_ret
            exact ⟨by first | rfl | (simp [errW_none, errW_some] <;> rfl) | (simp [*, errW_none, errW_some] <;> rfl), bw⟩
           ·rw [if_neg c34] at H
            have c34b0 : ((bt a0 x53_2) == 10) = false := beq_eq_false_iff_ne.mpr c34
            have c34b1 : ((bt a0 x53_2) != 10) = true := bne_iff_ne.mpr c34
            have H' := Aside0.mk H
            clear H
            have p31 : 0 ≤ (x53_2 : Int) := od
            have q31 : x53_2 < (a0.size : Int) := od
            have hx31 := bt_at a0 x53_2
            replace p31 := eq_true p31
            replace q31 := eq_true q31
            have p33 : 0 ≤ (x53_2 : Int) := od
            have q33 : x53_2 < (a0.size : Int) := od
            have hx33 := bt_at a0 x53_2
            replace p33 := eq_true p33
            replace q33 := eq_true q33
            go_wp2
            go_roundg k2
            case measure => have := HJ6.out; have := HK2.out; omega
            case rel => exact ⟨(wrap64 (x53_2 + 1)), cl, H', ⟨by have := HJ6.out; have := HK2.out; omega⟩, ⟨bw⟩⟩
         ·rw [if_neg c30] at H
          exact absurd H (by simp)
        ·rw [if_neg c29] at H
         exact absurd H (by simp)
       ·rw [if_neg c28] at H
        have c28b0 : decide (x53_2 < (a0.size : Int)) = false := decide_eq_false c28
        clear c28
        by_cases c35 : a0.size + 2 ≤ 9223372036854775807
        ·rw [if_pos c35] at H
         have c35b0 := eq_true c35
         have c35b1 : decide (a0.size + 2 ≤ 9223372036854775807) = true := decide_eq_true c35
         try have c35b2 : (9223372036854775807 < a0.size + 2) = False := eq_false (Nat.not_lt.2 c35)
         replace H := Option.bind_eq_some_iff.mp H
         obtain ⟨⟨t696, t699⟩, A360, H⟩ := H
         replace H : ((order_Read.f k2 t696 t699).bind fun t700 => (if (t700.length : Int) = 1 then (if 0 < (t700.length : Int) then ((order_Line.f k2 a0).bind fun bt704 => (some (((rd_T57 t700 0).f0) == bt704.1 && (((rd_T57 t700 0).f1) == bt704.2.1 && ((((rd_T57 t700 0).f2).toList) == bt704.2.2.toList))))) else (none)) else (some false))) = some r := H
         have A36 := Aside0.mk A360
         clear A360
         replace H := Option.bind_eq_some_iff.mp H
         obtain ⟨t700, A370, H⟩ := H
         replace H : (if (t700.length : Int) = 1 then (if 0 < (t700.length : Int) then ((order_Line.f k2 a0).bind fun bt704 => (some (((rd_T57 t700 0).f0) == bt704.1 && (((rd_T57 t700 0).f1) == bt704.2.1 && ((((rd_T57 t700 0).f2).toList) == bt704.2.2.toList))))) else (none)) else (some false)) = some r := H
         have A37 := Aside0.mk A370
         clear A370
         by_cases c38 : (t700.length : Int) = 1
         ·rw [if_pos c38] at H
          have c38b0 : ((t700.length : Int) == 1) = true := beq_iff_eq.mpr c38
          have c38b1 : ((t700.length : Int) != 1) = false := bne_eq_false_iff_eq.mpr c38
          clear c38
          by_cases c39 : 0 < (t700.length : Int)
          ·rw [if_pos c39] at H
           have c39b0 : decide (0 < (t700.length : Int)) = true := decide_eq_true c39
           have c39b1 : decide (0 < t700.length) = true := decide_eq_true (by omega)
           clear c39
           replace H := Option.bind_eq_some_iff.mp H
           obtain ⟨⟨t704, t705, t706⟩, A400, H⟩ := H
           replace H : (some (((rd_T57 t700 0).f0) == t704 && (((rd_T57 t700 0).f1) == t705 && ((((rd_T57 t700 0).f2).toList) == t706.toList)))) = some r := H
           have A40 := Aside0.mk A400
           clear A400
           obtain rfl := Option.some.inj H
           try go_wp2_with (first | ((with_reducible refine gate_callee (f := 30) rfl ?_); refine goesL_ (some 70) rfl rfl Tryd.func30 (by kernel_rfl) rfl #[.agg #[.slice none 0 0, .string (a0 ++ (⟨#[13, 10]⟩ : ByteArray))]] rfl am ?_; (refine (bulletinlaw16_To.calls k2 _ _ ([] : List (S141)) (a0 ++ (⟨#[13, 10]⟩ : ByteArray)) t696 t699 _ ?side1 ?side2 A36.out).mono ?_); (case side1 => exact Kd.C_nil _ _); (case side2 => exact Nat.le_refl _); rintro e w41 ⟨v697, rfl, ho0, hb⟩; refine ⟨_, rfl, ?_⟩; have n0_ := Aside0.mk (Kd.R_lower ho0 (below_size bw)); have n1_ := Aside0.mk (below_step bw hb); clear HB; have HO698 := n0_; have HB := n1_; clear n0_ n1_; (try clear hb); (try clear hb2); (try clear hk); (try clear hi); (try clear ho0); obtain ⟨Ao42, co42, eo42⟩ := Kd.R_slice HO698.out; subst eo42) | ((with_reducible refine gate_callee (f := 29) rfl ?_); refine goesL_ (some 71) rfl rfl Tryd.func29 (by kernel_rfl) rfl #[.agg #[.slice Ao42 t696.length co42, .string t699]] rfl am ?_; (with_reducible refine (order_Read.calls (hG := by first | exact hG | exact Glob.below hG (by first | exact HB.out | (repeat (first | (with_reducible first | exact HB.out | apply below_alloc | apply pw_below_drewN | apply below_drew1) | exact HB.out))) | exact Glob.drawn hG (by repeat (first | exact Drawn0.refl _ | apply Drawn0.step))) k2 _ _ t696 t699 t700 _ ?side1 ?side2 A37.out).mono ?_); (case side1 => repeat (first | exact (Kd.R_reads' HO698.out).2.2 | (with_reducible refine Kd.C_alloc ?_ _) | (with_reducible refine Kd.C_drewN ?_ _) | (with_reducible refine Kd.C_drew ?_))); (case side2 => exact (Kd.R_reads' HO698.out).2.1); rintro e w43 ⟨v701, rfl, ho0, hb⟩; refine ⟨_, rfl, ?_⟩; have n0_ := Aside0.mk (Kd.R_below (by (with_reducible repeat (first | apply Kd.R_alloc | apply Kd.R_drewN | apply Kd.R_drew)); exact HO698.out) hb); have n1_ := Aside0.mk (Kd.R_lower ho0 (below_size bw)); have n2_ := Aside0.mk (below_step bw hb); clear HO698; clear HB; have HO698 := n0_; have HO702 := n1_; have HB := n2_; clear n0_ n1_ n2_; (try clear hb); (try clear hb2); (try clear hk); (try clear hi); (try clear ho0)))
           have n0_ := Aside0.mk (Kd.R_drew HO698.out)
           have n1_ := Aside0.mk (Kd.R_drew HO702.out)
           have n2_ := Aside0.mk (below_drew1 HB.out)
           clear HO698
           clear HO702
           clear HB
           have HO698 := n0_
           have HO702 := n1_
           have HB := n2_
           clear n0_ n1_ n2_
           obtain ⟨Ao45, co45, eo45⟩ := Kd.R_slice HO702.out
           (first | subst eo45 | (injection eo45 with f1_ f2_ f3_; have f4_ := f1_.symm; have f5_ := f3_.symm; clear f1_ f2_ f3_; subst f4_; subst f5_))
           have p703 : 0 ≤ (0 : Int) := (by omega)
           have q703 : 0 < (t700.length : Int) := od
           obtain ⟨ad703, e703, hx703_0, hx703_1, hx703_2⟩ := at_T57 (Kd.R_reads' HO702.out).2.2 0 p703 q703
           cases e703
           have qi703 : (0 < t700.length) = True := eq_true (by omega)
           (try rw [show ((0 : Int)).toNat = 0 from rfl] at hx703_0)
           (try rw [show 0 * 3 = 0 from rfl] at hx703_0)
           (try rw [Addr.add_zero'] at hx703_0)
           (try rw [show ((0 : Int)).toNat = 0 from rfl] at hx703_1)
           (try rw [show 0 * 3 = 0 from rfl] at hx703_1)
           (try rw [Addr.add_zero'] at hx703_1)
           (try rw [show ((0 : Int)).toNat = 0 from rfl] at hx703_2)
           (try rw [show 0 * 3 = 0 from rfl] at hx703_2)
           (try rw [Addr.add_zero'] at hx703_2)
           replace p703 := eq_true p703
           replace q703 := eq_true q703
           refine start_ (n := 12) (S := fun w' => w'.cell? ad703 = some (.int .i64 ((rd_T57 t700 0).f0)) ∧ w'.cell? ⟨ad703.block, ad703.off + 1, none⟩ = some (.int .i64 ((rd_T57 t700 0).f1)) ∧ w'.cell? ⟨ad703.block, ad703.off + 2, none⟩ = some (.string ((rd_T57 t700 0).f2))) (ds := []) #[false, false, false, false, false, false, false, false, false, false, false, false] (by kernel_rfl) rfl rfl ⟨hx703_0, hx703_1, hx703_2⟩ (fun hHeld => ?_); refine with_tabW bulletinlaw35_OrderAlone.tab13 bulletinlaw35_OrderAlone.bits13 (fun HT_ HW_ => ?_)
           generalize w43.drew = w44 at HO698 HO702 HB hx703_0 hx703_1 hx703_2 hHeld ⊢
           refine pure_ (i := 0) (N := some 72) (v := ?_) (a' := ?_) (bitsL 12 1) rfl rfl (any_of HT_.out (by kernel_rfl)) (fun _ _ _ h => h) (Or.inl ⟨by rfl, ?_⟩) ?_ ?_
           rotate_left
           ·intro w'
            go_simp
            with_reducible rfl
           rotate_left
           ·simp only [Act.put, List.setIfInBounds_toArray, List.set_cons_zero, List.set_cons_succ, i64_w, i32_w]
            rfl
           refine pure_ (i := 1) (N := some 73) (v := ?_) (a' := ?_) (bitsL 12 3) rfl rfl (any_of HT_.out (by kernel_rfl)) (fun _ _ _ h => h) (Or.inl ⟨by rfl, ?_⟩) ?_ ?_
           rotate_left
           ·intro w'
            go_simp
            with_reducible rfl
           rotate_left
           ·simp only [Act.put, List.setIfInBounds_toArray, List.set_cons_zero, List.set_cons_succ, i64_w, i32_w]
            rfl
           refine pure_ (i := 2) (N := some 74) (v := ?_) (a' := ?_) (bitsL 12 7) rfl rfl (any_of HT_.out (by kernel_rfl)) (fun _ _ _ h => h) (Or.inl ⟨by rfl, ?_⟩) ?_ ?_
           rotate_left
           ·intro w'
            go_simp
            with_reducible rfl
           rotate_left
           ·simp only [Act.put, List.setIfInBounds_toArray, List.set_cons_zero, List.set_cons_succ, i64_w, i32_w]
            rfl
           refine pure_ (i := 3) (N := some 75) (v := ?_) (a' := ?_) (bitsL 12 15) rfl rfl (any_of HT_.out (by kernel_rfl)) (fun _ _ _ h => h) (Or.inl ⟨by rfl, ?_⟩) ?_ ?_
           rotate_left
           ·intro w'
            go_simp
            with_reducible rfl
           rotate_left
           ·simp only [Act.put, List.setIfInBounds_toArray, List.set_cons_zero, List.set_cons_succ, i64_w, i32_w]
            rfl
           refine pure_ (i := 4) (N := some 76) (v := ?_) (a' := ?_) (bitsL 12 31) rfl rfl (any_of HT_.out (by kernel_rfl)) (fun _ _ _ h => h) (Or.inl ⟨by rfl, ?_⟩) ?_ ?_
           rotate_left
           ·intro w'
            go_simp
            with_reducible rfl
           rotate_left
           ·simp only [Act.put, List.setIfInBounds_toArray, List.set_cons_zero, List.set_cons_succ, i64_w, i32_w]
            rfl
           refine pure_ (i := 5) (N := some 77) (v := ?_) (a' := ?_) (bitsL 12 63) rfl rfl (any_of HT_.out (by kernel_rfl)) (fun _ _ _ h => h) (Or.inl ⟨by rfl, ?_⟩) ?_ ?_
           rotate_left
           ·intro w'
            go_simp
            with_reducible rfl
           rotate_left
           ·simp only [Act.put, List.setIfInBounds_toArray, List.set_cons_zero, List.set_cons_succ, i64_w, i32_w]
            rfl
           refine pure_ (i := 7) (N := some 79) (v := ?_) (a' := ?_) (bitsL 12 191) rfl rfl (any_of HT_.out (by kernel_rfl)) (fun _ _ _ h => h) (Or.inl ⟨by rfl, ?_⟩) ?_ ?_
           rotate_left
           ·intro w'
            go_simp
            with_reducible rfl
           rotate_left
           ·simp only [Act.put, List.setIfInBounds_toArray, List.set_cons_zero, List.set_cons_succ, i64_w, i32_w]
            rfl
           refine take_ (i := 6) (N := some 78) (v := ?_) (a' := ?_) (bitsL 12 255) rfl rfl (take_ofW HT_.out HW_.out (by kernel_rfl)) (fun _ _ _ h => h) (Or.inl ⟨by rfl, ?_⟩) hHeld ?_ ?_
           rotate_left
           ·rintro w' ⟨s0, s1, s2⟩
            go_simp
            with_reducible rfl
           rotate_left
           ·simp only [Act.put, List.setIfInBounds_toArray, List.set_cons_zero, List.set_cons_succ, i64_w, i32_w]
            rfl
           refine one_ (i := 8) (N := some 80) (bitsL 12 511) rfl rfl (one_of HT_.out (by kernel_rfl)) (by decide) (fun K hK => ?_)
           refine goes_ Tryd.func31 (by kernel_rfl) rfl #[.string a0] (by rfl) rfl rfl am ?_
           with_reducible refine (order_Line.calls k2 a0 t704 t705 t706 _ A40.out).mono ?_
           rintro e w46 ⟨rfl, hb⟩
           have HS0_ := (hb.cell (World.block_lt_of_cell? _ _ (hHeld.1))).trans (hHeld.1)
           have HS1_ := (hb.cell (World.block_lt_of_cell? _ _ (hHeld.2.1))).trans (hHeld.2.1)
           have HS2_ := (hb.cell (World.block_lt_of_cell? _ _ (hHeld.2.2))).trans (hHeld.2.2)
           refine ⟨_, rfl, ?_⟩
           have n0_ := Aside0.mk (Kd.R_below (by (with_reducible repeat (first | apply Kd.R_alloc | apply Kd.R_drewN | apply Kd.R_drew)); exact HO698.out) hb)
           have n1_ := Aside0.mk (Kd.R_below (by (with_reducible repeat (first | apply Kd.R_alloc | apply Kd.R_drewN | apply Kd.R_drew)); exact HO702.out) hb)
           have n2_ := Aside0.mk (below_step bw hb)
           clear HO698
           clear HO702
           clear HB
           have HO698 := n0_
           have HO702 := n1_
           have HB := n2_
           clear n0_ n1_ n2_
           (try clear hb)
           (try clear hb2)
           (try clear hk)
           (try clear hi)
           refine hK.out _ _ ⟨HS0_, HS1_, HS2_⟩ (fun hHeld => ?_)
           clear hK K
           refine norm_ (a' := ?_) ?_ ?_
           rotate_left
           ·show Act.put _ (some 80) _ = _
            simp only [Act.put, List.setIfInBounds_toArray, List.set_cons_zero, List.set_cons_succ, i64_w, i32_w]
            rfl
           refine pure_ (i := 9) (N := some 81) (v := ?_) (a' := ?_) (bitsL 12 1023) rfl rfl (any_of HT_.out (by kernel_rfl)) (fun _ _ _ h => h) (Or.inl ⟨by rfl, ?_⟩) ?_ ?_
           rotate_left
           ·intro w'
            go_simp
            with_reducible rfl
           rotate_left
           ·simp only [Act.put, List.setIfInBounds_toArray, List.set_cons_zero, List.set_cons_succ, i64_w, i32_w]
            rfl
           refine pure_ (i := 10) (N := some 82) (v := ?_) (a' := ?_) (bitsL 12 2047) rfl rfl (any_of HT_.out (by kernel_rfl)) (fun _ _ _ h => h) (Or.inl ⟨by rfl, ?_⟩) ?_ ?_
           rotate_left
           ·intro w'
            go_simp
            with_reducible rfl
           rotate_left
           ·simp only [Act.put, List.setIfInBounds_toArray, List.set_cons_zero, List.set_cons_succ, i64_w, i32_w]
            rfl
           refine pure_ (i := 11) (N := some 2) (v := ?_) (a' := ?_) (bitsL 12 4095) rfl rfl (any_of HT_.out (by kernel_rfl)) (fun _ _ _ h => h) (Or.inl ⟨by rfl, ?_⟩) ?_ ?_
           rotate_left
           ·intro w'
            go_simp
            with_reducible rfl
           rotate_left
           ·simp only [Act.put, List.setIfInBounds_toArray, List.set_cons_zero, List.set_cons_succ, i64_w, i32_w]
            rfl
           refine done_ (done_of HT_.out (by kernel_rfl)) ?_
           try go_wp2
           go_ret
           exact ⟨by first | rfl | (simp [errW_none, errW_some] <;> rfl) | (simp [*, errW_none, errW_some] <;> rfl), bw⟩
          ·rw [if_neg c39] at H
           exact absurd H (by simp)
         ·rw [if_neg c38] at H
          have c38b0 : ((t700.length : Int) == 1) = false := beq_eq_false_iff_ne.mpr c38
          have c38b1 : ((t700.length : Int) != 1) = true := bne_iff_ne.mpr c38
          obtain rfl := Option.some.inj H
          try go_wp2_with (first | ((with_reducible refine gate_callee (f := 30) rfl ?_); refine goesL_ (some 70) rfl rfl Tryd.func30 (by kernel_rfl) rfl #[.agg #[.slice none 0 0, .string (a0 ++ (⟨#[13, 10]⟩ : ByteArray))]] rfl am ?_; (refine (bulletinlaw16_To.calls k2 _ _ ([] : List (S141)) (a0 ++ (⟨#[13, 10]⟩ : ByteArray)) t696 t699 _ ?side1 ?side2 A36.out).mono ?_); (case side1 => exact Kd.C_nil _ _); (case side2 => exact Nat.le_refl _); rintro e w47 ⟨v697, rfl, ho0, hb⟩; refine ⟨_, rfl, ?_⟩; have n0_ := Aside0.mk (Kd.R_lower ho0 (below_size bw)); have n1_ := Aside0.mk (below_step bw hb); clear HB; have HO698 := n0_; have HB := n1_; clear n0_ n1_; (try clear hb); (try clear hb2); (try clear hk); (try clear hi); (try clear ho0); obtain ⟨Ao48, co48, eo48⟩ := Kd.R_slice HO698.out; subst eo48) | ((with_reducible refine gate_callee (f := 29) rfl ?_); refine goesL_ (some 71) rfl rfl Tryd.func29 (by kernel_rfl) rfl #[.agg #[.slice Ao48 t696.length co48, .string t699]] rfl am ?_; (with_reducible refine (order_Read.calls (hG := by first | exact hG | exact Glob.below hG (by first | exact HB.out | (repeat (first | (with_reducible first | exact HB.out | apply below_alloc | apply pw_below_drewN | apply below_drew1) | exact HB.out))) | exact Glob.drawn hG (by repeat (first | exact Drawn0.refl _ | apply Drawn0.step))) k2 _ _ t696 t699 t700 _ ?side1 ?side2 A37.out).mono ?_); (case side1 => repeat (first | exact (Kd.R_reads' HO698.out).2.2 | (with_reducible refine Kd.C_alloc ?_ _) | (with_reducible refine Kd.C_drewN ?_ _) | (with_reducible refine Kd.C_drew ?_))); (case side2 => exact (Kd.R_reads' HO698.out).2.1); rintro e w49 ⟨v701, rfl, ho0, hb⟩; refine ⟨_, rfl, ?_⟩; have n0_ := Aside0.mk (Kd.R_below (by (with_reducible repeat (first | apply Kd.R_alloc | apply Kd.R_drewN | apply Kd.R_drew)); exact HO698.out) hb); have n1_ := Aside0.mk (Kd.R_lower ho0 (below_size bw)); have n2_ := Aside0.mk (below_step bw hb); clear HO698; clear HB; have HO698 := n0_; have HO702 := n1_; have HB := n2_; clear n0_ n1_ n2_; (try clear hb); (try clear hb2); (try clear hk); (try clear hi); (try clear ho0)))
          have n0_ := Aside0.mk (Kd.R_drew HO698.out)
          have n1_ := Aside0.mk (Kd.R_drew HO702.out)
          have n2_ := Aside0.mk (below_drew1 HB.out)
          clear HO698
          clear HO702
          clear HB
          have HO698 := n0_
          have HO702 := n1_
          have HB := n2_
          clear n0_ n1_ n2_
          obtain ⟨Ao51, co51, eo51⟩ := Kd.R_slice HO702.out
          (first | subst eo51 | (injection eo51 with f1_ f2_ f3_; have f4_ := f1_.symm; have f5_ := f3_.symm; clear f1_ f2_ f3_; subst f4_; subst f5_))
          refine start_ (n := 12) (S := fun w' => True) (ds := []) #[false, false, false, false, false, false, false, false, false, false, false, false] (by kernel_rfl) rfl rfl trivial (fun hHeld => ?_); refine with_tabW bulletinlaw35_OrderAlone.tab13 bulletinlaw35_OrderAlone.bits13 (fun HT_ HW_ => ?_)
          generalize w49.drew = w50 at HO698 HO702 HB hHeld ⊢
          refine pure_ (i := 0) (N := some 72) (v := ?_) (a' := ?_) (bitsL 12 1) rfl rfl (any_of HT_.out (by kernel_rfl)) (fun _ _ _ h => h) (Or.inl ⟨by rfl, ?_⟩) ?_ ?_
          rotate_left
          ·intro w'
           go_simp
           with_reducible rfl
          rotate_left
          ·simp only [Act.put, List.setIfInBounds_toArray, List.set_cons_zero, List.set_cons_succ, i64_w, i32_w]
           rfl
          refine pure_ (i := 1) (N := some 73) (v := ?_) (a' := ?_) (bitsL 12 3) rfl rfl (any_of HT_.out (by kernel_rfl)) (fun _ _ _ h => h) (Or.inl ⟨by rfl, ?_⟩) ?_ ?_
          rotate_left
          ·intro w'
           go_simp
           with_reducible rfl
          rotate_left
          ·simp only [Act.put, List.setIfInBounds_toArray, List.set_cons_zero, List.set_cons_succ, i64_w, i32_w]
           rfl
          refine pure_ (i := 2) (N := some 74) (v := ?_) (a' := ?_) (bitsL 12 7) rfl rfl (any_of HT_.out (by kernel_rfl)) (fun _ _ _ h => h) (Or.inl ⟨by rfl, ?_⟩) ?_ ?_
          rotate_left
          ·intro w'
           go_simp
           with_reducible rfl
          rotate_left
          ·simp only [Act.put, List.setIfInBounds_toArray, List.set_cons_zero, List.set_cons_succ, i64_w, i32_w]
           rfl
          refine pure_ (i := 3) (N := some 75) (v := ?_) (a' := ?_) (bitsL 12 15) rfl rfl (any_of HT_.out (by kernel_rfl)) (fun _ _ _ h => h) (Or.inl ⟨by rfl, ?_⟩) ?_ ?_
          rotate_left
          ·intro w'
           go_simp
           with_reducible rfl
          rotate_left
          ·simp only [Act.put, List.setIfInBounds_toArray, List.set_cons_zero, List.set_cons_succ, i64_w, i32_w]
           rfl
          refine pure_ (i := 4) (N := some 76) (v := undef) (a' := ?_) (bitsL 12 31) rfl rfl (any_of HT_.out (by kernel_rfl)) (fun _ _ _ h => h) (Or.inr ⟨by rfl, rfl⟩) ?_ ?_
          rotate_left
          ·simp only [Act.put, List.setIfInBounds_toArray, List.set_cons_zero, List.set_cons_succ, i64_w, i32_w]
           rfl
          refine pure_ (i := 5) (N := some 77) (v := undef) (a' := ?_) (bitsL 12 63) rfl rfl (any_of HT_.out (by kernel_rfl)) (fun _ _ _ h => h) (Or.inr ⟨by rfl, rfl⟩) ?_ ?_
          rotate_left
          ·simp only [Act.put, List.setIfInBounds_toArray, List.set_cons_zero, List.set_cons_succ, i64_w, i32_w]
           rfl
          refine pure_ (i := 6) (N := some 78) (v := undef) (a' := ?_) (bitsL 12 127) rfl rfl (any_of HT_.out (by kernel_rfl)) (fun _ _ _ h => h) (Or.inr ⟨by rfl, rfl⟩) ?_ ?_
          rotate_left
          ·simp only [Act.put, List.setIfInBounds_toArray, List.set_cons_zero, List.set_cons_succ, i64_w, i32_w]
           rfl
          refine pure_ (i := 7) (N := some 79) (v := undef) (a' := ?_) (bitsL 12 255) rfl rfl (any_of HT_.out (by kernel_rfl)) (fun _ _ _ h => h) (Or.inr ⟨by rfl, rfl⟩) ?_ ?_
          rotate_left
          ·simp only [Act.put, List.setIfInBounds_toArray, List.set_cons_zero, List.set_cons_succ, i64_w, i32_w]
           rfl
          refine pure_ (i := 8) (N := some 80) (v := undef) (a' := ?_) (bitsL 12 511) rfl rfl (any_of HT_.out (by kernel_rfl)) (fun _ _ _ h => h) (Or.inr ⟨by rfl, rfl⟩) ?_ ?_
          rotate_left
          ·simp only [Act.put, List.setIfInBounds_toArray, List.set_cons_zero, List.set_cons_succ, i64_w, i32_w]
           rfl
          refine pure_ (i := 9) (N := some 81) (v := undef) (a' := ?_) (bitsL 12 1023) rfl rfl (any_of HT_.out (by kernel_rfl)) (fun _ _ _ h => h) (Or.inr ⟨by rfl, rfl⟩) ?_ ?_
          rotate_left
          ·simp only [Act.put, List.setIfInBounds_toArray, List.set_cons_zero, List.set_cons_succ, i64_w, i32_w]
           rfl
          refine pure_ (i := 10) (N := some 82) (v := ?_) (a' := ?_) (bitsL 12 2047) rfl rfl (any_of HT_.out (by kernel_rfl)) (fun _ _ _ h => h) (Or.inl ⟨by rfl, ?_⟩) ?_ ?_
          rotate_left
          ·intro w'
           go_simp
           with_reducible rfl
          rotate_left
          ·simp only [Act.put, List.setIfInBounds_toArray, List.set_cons_zero, List.set_cons_succ, i64_w, i32_w]
           rfl
          refine pure_ (i := 11) (N := some 2) (v := ?_) (a' := ?_) (bitsL 12 4095) rfl rfl (any_of HT_.out (by kernel_rfl)) (fun _ _ _ h => h) (Or.inl ⟨by rfl, ?_⟩) ?_ ?_
          rotate_left
          ·intro w'
           go_simp
           with_reducible rfl
          rotate_left
          ·simp only [Act.put, List.setIfInBounds_toArray, List.set_cons_zero, List.set_cons_succ, i64_w, i32_w]
           rfl
          refine done_ (done_of HT_.out (by kernel_rfl)) ?_
          try go_wp2
          go_ret
          exact ⟨by first | rfl | (simp [errW_none, errW_some] <;> rfl) | (simp [*, errW_none, errW_some] <;> rfl), bw⟩
        ·rw [if_neg c35] at H
         exact absurd H (by simp)
 ·replace c3 := Bool.eq_false_iff.mpr c3
  subst c3
  have H1 : (some false) = some r := by rw [if_neg (show ¬ (false = true) by decide)] at H; exact H
  clear H
  have H := H1
  clear H1
  obtain rfl := Option.some.inj H
  go_enter Tryd.func9, Tryd.ntmps9
  go_wp2_with (first | ((with_reducible refine gate_callee (f := 28) rfl ?_); refine goesL_ (some 6) rfl rfl Tryd.func28 (by kernel_rfl) rfl #[] rfl am ?_; (with_reducible refine (bulletinlaw35_works.calls k  false _ A2.out).mono ?_); rintro e w52 ⟨rfl, hb⟩; refine ⟨_, rfl, ?_⟩; have n0_ := Aside0.mk (below_step bw hb); clear HB; have HB := n0_; clear n0_; (try clear hb); (try clear hb2); (try clear hk); (try clear hi)))
  go_ret
  exact ⟨by first | rfl | (simp [errW_none, errW_some] <;> rfl) | (simp [*, errW_none, errW_some] <;> rfl), bw⟩


end Go.Proofs.YtihabmcaplnbcaaDoor.Fn
set_option linter.unusedVariables false
set_option linter.unusedSimpArgs false
namespace Go.Proofs.YtihabmcaplnbcaaDoor.Pl
open Go.RowKit Go.Proofs.YtihabmcaplnbcaaDoorW.PrintWords
end Go.Proofs.YtihabmcaplnbcaaDoor.Pl
namespace Go.Proofs.YtihabmcaplnbcaaDoor.Fn
open Go.RowKit Go.Proofs.YtihabmcaplnbcaaDoorW.PrintWords

end Go.Proofs.YtihabmcaplnbcaaDoor.Fn
set_option linter.unusedVariables false
namespace Go.Proofs.YtihabmcaplnbcaaDoor.Fn
open Go.RowKit Go.Proofs.YtihabmcaplnbcaaDoorW.PrintWords

end Go.Proofs.YtihabmcaplnbcaaDoor.Fn
set_option linter.unusedVariables false
set_option linter.unusedSimpArgs false
namespace Go.Proofs.YtihabmcaplnbcaaDoor.Fn
open Go.RowKit Go.Proofs.YtihabmcaplnbcaaDoorW.PrintWords

end Go.Proofs.YtihabmcaplnbcaaDoor.Fn
namespace Go.Proofs.YtihabmcaplnbcaaDoor.Fn
open Go.RowKit Go.Proofs.YtihabmcaplnbcaaDoorW.PrintWords Go.Proofs.YtihabmcaplnbcaaDoorW.PrintLast Go.Proofs.YtihabmcaplnbcaaDoorW.PrintMore
attribute [local go_sem] max2_int min2_int max_two min_two max_three min_three max_four min_four
set_option linter.unusedVariables false
set_option linter.unusedSimpArgs false

/-! ### bulletinlaw19_works: function 16 -/
end Go.Proofs.YtihabmcaplnbcaaDoor.Fn
set_option linter.unusedVariables false
set_option linter.unusedSimpArgs false
namespace Go.Proofs.YtihabmcaplnbcaaDoor.Pl
open Go.RowKit Go.Proofs.YtihabmcaplnbcaaDoorW.PrintWords Go.Proofs.YtihabmcaplnbcaaDoor.Fn

/-! Layer 19: what the laws call. -/
theorem decode_is (s : ByteArray) (hs : s.size ≤ 1000000000) : ew_Decode.f s = some (str (decodeL (bs s))) := by
  unfold ew_Decode.f
  rw [if_pos hs]
theorem decL_len : ∀ (f : Nat) (l acc : Bytes), (decL f l acc).length ≤ acc.length + 300 * l.length
  | 0, l, acc => by rw [decL]; omega
  | f + 1, [], acc => by rw [decL]; omega
  | f + 1, c :: r, acc => by
    rw [decL]
    cases hw : wordL (c :: r) with
    | none =>
      have := decL_len f r (acc ++ [c])
      simp at this ⊢
      omega
    | some y =>
      obtain ⟨x, n⟩ := y
      simp only []
      obtain ⟨_, _, hn, _, hn2, _⟩ := wordL_some hw
      have hx := wordL_len hw
      have hd : ((c :: r).drop n).length = (c :: r).length - n := List.length_drop
      split
      · have := decL_len f (trimB ((c :: r).drop n)) (acc ++ x)
        have ht := trimB_len ((c :: r).drop n)
        rw [List.length_append] at this
        omega
      · have := decL_len f ((c :: r).drop n) (acc ++ x)
        rw [List.length_append] at this
        omega
theorem decodeL_len (l : Bytes) : (decodeL l).length ≤ 300 * l.length := by
  have := decL_len l.length l []
  simpa [decodeL] using this
end Go.Proofs.YtihabmcaplnbcaaDoor.Pl
set_option linter.unusedVariables false
set_option linter.unusedSimpArgs false
namespace Go.Proofs.YtihabmcaplnbcaaDoor.Pl
open Go.Proofs.YtihabmcaplnbcaaDoorW.PrintWords
def sameN (a b : ByteArray) : Bool := (str (fold (bs a))).toList == (str (fold (bs b))).toList
end Go.Proofs.YtihabmcaplnbcaaDoor.Pl
namespace Go.Proofs.YtihabmcaplnbcaaDoor.Fn
open Go.RowKit Go.Proofs.YtihabmcaplnbcaaDoorW.PrintWords

theorem headsame_is (a b : ByteArray) (ha : a.size ≤ 35184372088832) (hb : b.size ≤ 35184372088832) : head_same.f a b = some (Pl.sameN a b) := by
  unfold head_same.f glyph_Fold.f Pl.sameN
  rw [if_pos ha, if_pos hb]
  rfl
def askN (name : ByteArray) (x : S142) : Bool := Pl.sameN x.f0 name
end Go.Proofs.YtihabmcaplnbcaaDoor.Fn
set_option linter.unusedVariables false
set_option linter.unusedSimpArgs false
namespace Go.Proofs.YtihabmcaplnbcaaDoor.Pl
open Go.RowKit Go.Proofs.YtihabmcaplnbcaaDoorW.PrintWords Go.Proofs.YtihabmcaplnbcaaDoor.Fn

/-! Layer 15: fields, the document's and the program's. -/
abbrev FQ := S141
abbrev FP := S142
def toF (x : FQ) : FP := ⟨x.f0, x.f1⟩
theorem rdQ (l : List FQ) (i : Nat) (h : i < l.length) : rd_T141 l (i : Int) = l[i] := by
  unfold rd_T141
  rw [Int.toNat_natCast, List.getD_eq_getElem?_getD, List.getElem?_eq_getElem h]; rfl
theorem rdP (l : List FP) (i : Nat) (h : i < l.length) : rd_T142 l (i : Int) = l[i] := by
  unfold rd_T142
  rw [Int.toNat_natCast, List.getD_eq_getElem?_getD, List.getElem?_eq_getElem h]; rfl
theorem wrapS (i : Nat) (h : i < 1000000000) : wrap64 ((i : Int) + 1) = ((i + 1 : Nat) : Int) := by
  rw [wrap_id (by omega) (by omega)]; omega
theorem toQ_rounds (l : List FQ) (hl : l.length ≤ 1000000) : ∀ (n i k : Nat), l.length = i + n → n < k → bulletinlaw15_To.l0 k l ((l.take i).map toF) (i : Int) = some (l.map toF) := by
  intro n
  induction n with
  | zero =>
    intro i k h hk
    obtain ⟨k, rfl⟩ : ∃ q, k = q + 1 := ⟨k - 1, by omega⟩
    rw [bulletinlaw15_To.l0, if_neg (by omega), List.take_of_length_le (by omega)]
  | succ n ih =>
    intro i k h hk
    obtain ⟨k, rfl⟩ : ∃ q, k = q + 1 := ⟨k - 1, by omega⟩
    rw [bulletinlaw15_To.l0, if_pos (by omega), if_pos (by omega), if_pos (by rw [List.length_map, List.length_take]; omega), rdQ l i (by omega), wrapS i (by omega)]
    have := ih (i + 1) k (by omega) (by omega)
    rw [List.take_succ_eq_append_getElem (by omega), List.map_append] at this
    exact this
theorem toQ_is (l : List FQ) (hl : l.length ≤ 1000000) (k : Nat) (hk : l.length < k) : bulletinlaw15_To.f k l = some (l.map toF) := by
  unfold bulletinlaw15_To.f
  exact toQ_rounds l hl l.length 0 k (by omega) (by omega)
def allL (l : List FP) (name : ByteArray) : List ByteArray := (l.filter (askN name)).map (·.f1)
end Go.Proofs.YtihabmcaplnbcaaDoor.Pl
namespace Go.Proofs.YtihabmcaplnbcaaDoor.Fn
open Go.RowKit Go.Proofs.YtihabmcaplnbcaaDoorW.PrintWords Go.Proofs.YtihabmcaplnbcaaDoorW.PrintLast Go.Proofs.YtihabmcaplnbcaaDoorW.PrintMore
attribute [local go_sem] max2_int min2_int max_two min_two max_three min_three max_four min_four
set_option linter.unusedVariables false
set_option linter.unusedSimpArgs false

/-! ### bulletinref06_Fold: function 80 -/
end Go.Proofs.YtihabmcaplnbcaaDoor.Fn
set_option linter.unusedVariables false
set_option linter.unusedSimpArgs false
namespace Go.Proofs.YtihabmcaplnbcaaDoor.Pl
open Go.RowKit Go.Proofs.YtihabmcaplnbcaaDoorW.PrintWords Go.Proofs.YtihabmcaplnbcaaDoor.Fn

/-! The reference's glyph functions, as the plain ones. -/
end Go.Proofs.YtihabmcaplnbcaaDoor.Pl
set_option linter.unusedVariables false
set_option linter.unusedSimpArgs false
namespace Go.Proofs.YtihabmcaplnbcaaDoor.Pl
open Go.RowKit Go.Proofs.YtihabmcaplnbcaaDoorW.PrintWords Go.Proofs.YtihabmcaplnbcaaDoor.Fn

/-! Layer 15: the fields of a name. -/
theorem drop_at {α : Type} {l : List α} {i : Nat} (h : i < l.length) : l.drop i = l[i] :: l.drop (i + 1) := List.drop_eq_getElem_cons h
def getA : List ByteArray → ByteArray × Bool
  | [] => ((⟨#[]⟩ : ByteArray), false)
  | v :: _ => (v, true)
theorem get_rounds (l : List FP) (name : ByteArray) (hl : l.length ≤ 1000000) (hn : name.size ≤ 1000000) (hz : ∀ x ∈ l, x.f0.size ≤ 1000000) : ∀ (n i k : Nat), l.length = i + n → n < k → head_Get.l0 k name l (l.length : Int) (i : Int) = some (getA (allL (l.drop i) name)) := by
  intro n
  induction n with
  | zero =>
    intro i k h hk
    obtain ⟨k, rfl⟩ : ∃ q, k = q + 1 := ⟨k - 1, by omega⟩
    rw [head_Get.l0, if_neg (by omega), List.drop_of_length_le (by omega)]
    rfl
  | succ n ih =>
    intro i k h hk
    obtain ⟨k, rfl⟩ : ∃ q, k = q + 1 := ⟨k - 1, by omega⟩
    have hi : i < l.length := by omega
    rw [head_Get.l0, if_pos (by omega), if_pos (by omega), if_pos (by omega), rdP l i hi, headsame_is _ _ (by have := hz _ (List.getElem_mem hi); omega) (by omega), Option.bind_some, wrapS i (by omega), drop_at hi]
    have ha : askN name l[i] = sameN l[i].f0 name := rfl
    unfold allL at ih ⊢
    cases hs : sameN l[i].f0 name with
    | true => rw [if_pos rfl, List.filter_cons_of_pos (by rw [ha, hs])]; rfl
    | false => rw [if_neg (by decide), List.filter_cons_of_neg (by rw [ha, hs]; decide)]; exact ih (i + 1) k (by omega) (by omega)
theorem get_is (l : List FP) (name : ByteArray) (hl : l.length ≤ 1000000) (hn : name.size ≤ 1000000) (hz : ∀ x ∈ l, x.f0.size ≤ 1000000) (k : Nat) (hk : l.length < k) : head_Get.f k l name = some (getA (allL l name)) := by
  unfold head_Get.f
  have := get_rounds l name hl hn hz l.length 0 k (by omega) (by omega)
  rwa [List.drop_zero] at this
end Go.Proofs.YtihabmcaplnbcaaDoor.Pl
set_option linter.unusedVariables false
set_option linter.unusedSimpArgs false
namespace Go.Proofs.YtihabmcaplnbcaaDoor.Pl
open Go.RowKit Go.Proofs.YtihabmcaplnbcaaDoorW.PrintWords Go.Proofs.YtihabmcaplnbcaaDoor.Fn

/-! head: how a field is written, in pieces. -/
def wb (c : UInt8) : Bool := ([32, 9] : List UInt8).contains c
def lead (s : Bytes) : Nat := (s.takeWhile wb).length
def word (s : Bytes) : Nat := (s.takeWhile (fun c => !wb c)).length
end Go.Proofs.YtihabmcaplnbcaaDoor.Pl
set_option linter.unusedVariables false
set_option linter.unusedSimpArgs false
namespace Go.Proofs.YtihabmcaplnbcaaDoor.Pl
open Go.RowKit Go.Proofs.YtihabmcaplnbcaaDoorW.PrintWords Go.Proofs.YtihabmcaplnbcaaDoor.Fn

/-! head.Parse as a machine over lists of bytes. -/
abbrev Fld := Bytes × Bytes
def nameB (c : UInt8) : Bool := !decide (c.toNat < 33) && (!decide (126 < c.toNat) && !decide (c.toNat = 58))
def named (s : Bytes) : Bool := s.all nameB && (!decide (s = []) && decide (s.length ≤ 76))
def crlf : Bytes → Option Nat
  | [] => none
  | c :: r => if c = 13 ∧ r.head? = some 10 then some 0 else (crlf r).map (· + 1)
def upto (c : UInt8) : Bytes → Nat
  | [] => 0
  | d :: r => if d = c then 0 else upto c r + 1
def bad (e : Int) : List Fld × Bytes × Int := ([], [], e)
theorem crlf_room : ∀ {s : Bytes} {i : Nat}, crlf s = some i → i + 2 ≤ s.length
  | [], i, h => by simp [crlf] at h
  | c :: r, i, h => by
    unfold crlf at h
    split at h
    · rename_i hc
      injection h with h
      subst h
      cases r with
      | nil => simp at hc
      | cons d r => simp
    · rw [Option.map_eq_some_iff] at h
      obtain ⟨j, hj, rfl⟩ := h
      have := crlf_room hj
      simp only [List.length_cons]; omega
theorem index_crlf : ∀ (s : Bytes), Lib.index s [13, 10] = (match crlf s with | some i => (i : Int) | none => -1)
  | [] => rfl
  | c :: r => by
    have ih := index_crlf r
    rw [Lib.index, crlf]
    by_cases h : c = 13 ∧ r.head? = some 10
    · rw [if_pos h]
      obtain ⟨rfl, h2⟩ := h
      cases r with
      | nil => simp at h2
      | cons d r =>
        simp at h2
        subst h2
        rw [if_pos (by simp [List.isPrefixOf])]
        rfl
    · rw [if_neg h]
      have hp : ([13, 10] : Bytes).isPrefixOf (c :: r) = false := by
        cases r with
        | nil => simp [List.isPrefixOf]
        | cons d r =>
          simp only [List.head?_cons, Option.some.injEq] at h
          simp [List.isPrefixOf]
          intro h1 h2
          exact h ⟨h1.symm, h2.symm⟩
      rw [hp, if_neg (by decide), ih]
      cases crlf r with
      | none => rfl
      | some i =>
        simp only [Option.map_some]
        rw [if_neg (by first | (simp; done) | (simp; omega))]
        show (i : Int) + 1 = ((i + 1 : Nat) : Int)
        omega
theorem cut_crlf (s : ByteArray) (h : s.size ≤ 1000000000) : strings_Cut.f s (⟨#[13, 10]⟩ : ByteArray) = some (match crlf (bs s) with
    | some i => (str ((bs s).take i), str ((bs s).drop (i + 2)), true)
    | none => (s, str [], false)) := by
  unfold strings_Cut.f
  rw [if_pos (by omega)]
  congr 1
  have e : Lib.cut s.data.toList (⟨#[13, 10]⟩ : ByteArray).data.toList = Lib.cut (bs s) [13, 10] := rfl
  rw [e]
  unfold Lib.cut
  rw [index_crlf]
  cases crlf (bs s) with
  | none => simp [str_bs]
  | some i => simp
theorem index_one (c : UInt8) : ∀ (s : Bytes), Lib.index s [c] = (if upto c s = s.length then -1 else (upto c s : Int))
  | [] => rfl
  | d :: r => by
    have ih := index_one c r
    rw [Lib.index, upto]
    by_cases h : d = c
    · subst h
      rw [if_pos (by simp [List.isPrefixOf]), if_pos rfl, if_neg (by simp)]
      rfl
    · rw [if_neg (by simp [List.isPrefixOf]; exact fun e => h e.symm), if_neg h, ih]
      simp only [List.length_cons]
      by_cases h2 : upto c r = r.length
      · rw [if_pos h2, if_pos (by decide), if_pos (by omega)]
      · rw [if_neg h2, if_neg (by first | (simp; done) | (simp; omega)), if_neg (by omega)]; omega
end Go.Proofs.YtihabmcaplnbcaaDoor.Pl
set_option linter.unusedVariables false
set_option linter.unusedSimpArgs false
namespace Go.Proofs.YtihabmcaplnbcaaDoor.Pl
open Go.RowKit Go.Proofs.YtihabmcaplnbcaaDoorW.PrintWords Go.Proofs.YtihabmcaplnbcaaDoor.Fn

/-! Layer 16: a body's lines -/
def linesM : Nat → Bytes → List Bytes
  | 0, _ => []
  | n + 1, s => if s = [] then [] else match crlf s with
    | some i => s.take i :: linesM n (s.drop (i + 2))
    | none => [s]
def linesB (s : Bytes) : List Bytes := linesM s.length s
theorem msgLines_l0 : ∀ (n : Nat) (s : Bytes) (acc : List Bytes) (k : Nat), s.length ≤ n → n + 1 < k → acc.length + n ≤ 1000000 →
    msg_Message_Lines.l0 k (acc.map str) (str s) = some ((acc ++ linesM n s).map str)
  | n, [], acc, k, hn, hk, ha => by
    obtain ⟨k, rfl⟩ : ∃ q, k = q + 1 := ⟨k - 1, by omega⟩
    have e : linesM n [] = [] := by cases n <;> rfl
    rw [msg_Message_Lines.l0, if_pos (by rw [toList_str]), e, List.append_nil]
  | 0, c :: s, acc, k, hn, hk, ha => by simp at hn
  | n + 1, c :: s, acc, k, hn, hk, ha => by
    obtain ⟨k, rfl⟩ : ∃ q, k = q + 1 := ⟨k - 1, by omega⟩
    have hl : (c :: s).length ≤ 1000000 := by omega
    rw [msg_Message_Lines.l0, if_neg (by rw [toList_str]; simp), cut_crlf _ (by rw [str_size]; omega), Option.bind_some, bs_str, show linesM (n + 1) (c :: s) = (match crlf (c :: s) with | some i => (c :: s).take i :: linesM n ((c :: s).drop (i + 2)) | none => [c :: s]) from by rw [linesM, if_neg (by simp)]]
    cases hc : crlf (c :: s) with
    | none =>
      simp only []
      rw [if_pos (by rw [List.length_map]; omega), show acc.map str ++ [str (c :: s)] = (acc ++ [c :: s]).map str by simp]
      have := msgLines_l0 n [] (acc ++ [c :: s]) k (Nat.zero_le _) (by omega) (by rw [List.length_append, List.length_singleton]; omega)
      have e : linesM n [] = [] := by cases n <;> rfl
      rw [e, List.append_nil] at this
      exact this
    | some i =>
      have hr := crlf_room hc
      simp only []
      rw [if_pos (by rw [List.length_map]; omega), show acc.map str ++ [str ((c :: s).take i)] = (acc ++ [(c :: s).take i]).map str by simp]
      rw [msgLines_l0 n ((c :: s).drop (i + 2)) (acc ++ [(c :: s).take i]) k (by rw [List.length_drop]; omega) (by omega) (by rw [List.length_append, List.length_singleton]; omega)]
      simp
theorem msgLines_is (fs : List S142) (s : ByteArray) (hs : s.size ≤ 1000000) (k : Nat) (hk : s.size + 1 < k) : msg_Message_Lines.f k fs s = some ((linesB (bs s)).map str) := by
  have := msgLines_l0 (bs s).length (bs s) [] k (Nat.le_refl _) (by rw [bs_length]; exact hk) (by rw [bs_length]; simpa using hs)
  rw [str_bs] at this
  unfold msg_Message_Lines.f
  exact this
/-! the lines, each with its end behind it -/
end Go.Proofs.YtihabmcaplnbcaaDoor.Pl
set_option linter.unusedVariables false
set_option linter.unusedSimpArgs false
namespace Go.Proofs.YtihabmcaplnbcaaDoor.Pl
open Go.RowKit Go.Proofs.YtihabmcaplnbcaaDoorW.PrintWords Go.Proofs.YtihabmcaplnbcaaDoor.Fn

/-! Layer 35: the commands of a mail. -/
abbrev OC := Int × Int × ByteArray
abbrev OS := S57
def toO (c : OC) : OS := ⟨c.1, c.2.1, c.2.2⟩
def reL (l : List Bytes) : List Bytes := l.dropWhile (· == [114, 101, 58])
def stopW (w : Bytes) : Bool := w == [101, 110, 100] || (w == [115, 116, 111, 112] || (w == [113, 117, 105, 116] || w == [45, 45]))
def stopL : List Bytes → Bool
  | [] => false
  | w :: _ => stopW w
def quoteL : List Bytes → Bool
  | [] => true
  | w :: _ => w.take 1 == [62]
def subL (l : List Bytes) : List OC := if reL l = [] then [] else if stopL (reL l) = true then [] else if (cmd (reL l)).1 = 5 then [] else [cmd (reL l)]
def ordL : List Bytes → List OC → Nat → List OC
  | [], out, _ => out
  | s :: r, out, bad => if out.length = 8 ∨ bad = 3 then out else if quoteL (lineW (str s)) = true then ordL r out bad else if stopL (lineW (str s)) = true then out else ordL r (out ++ [cmd (lineW (str s))]) (if (cmd (lineW (str s))).1 = 5 then bad + 1 else bad)
theorem stops_is (w : Bytes) (r : List Bytes) : order_stops.f ((w :: r).map str) = some (stopW w) := by
  have h0 : rdOf ByteArray.empty ((w :: r).map str) 0 = str w := rfl
  unfold order_stops.f stopW
  rw [if_pos (by simp), h0, toList_str]
  by_cases h1 : w = [101, 110, 100]
  · rw [if_pos h1, h1]; rfl
  · rw [if_neg h1, beq_eq_false_iff_ne.2 h1]
    by_cases h2 : w = [115, 116, 111, 112]
    · rw [if_pos h2, h2]; rfl
    · rw [if_neg h2, beq_eq_false_iff_ne.2 h2]
      by_cases h3 : w = [113, 117, 105, 116]
      · rw [if_pos h3, h3]; rfl
      · rw [if_neg h3, beq_eq_false_iff_ne.2 h3]
        by_cases h4 : w = [45, 45]
        · rw [if_pos h4, h4]; rfl
        · rw [if_neg h4, beq_eq_false_iff_ne.2 h4]; rfl
theorem jn_drop (x : Bytes) (l : List Bytes) : (jn l).length ≤ (jn (x :: l)).length := by
  cases l with
  | nil => simp [jn, Lib.join]
  | cons a r =>
    show (Lib.join (a :: r) [32]).length ≤ (Lib.join (x :: a :: r) [32]).length
    simp [Lib.join, Lib.joinTail]
    omega
theorem subject_l0 : ∀ (l : List Bytes) (k : Nat), l.length ≤ 100000000 → (jn l).length ≤ 100000000 → l.length + 50 ≤ k → order_subject.l0 k (l.map str) = some ((subL l).map toO)
  | [], k, hl, hs, hk => by
    obtain ⟨k, rfl⟩ : ∃ j, k = j + 3 := ⟨k - 3, by omega⟩
    rw [order_subject.l0, if_neg (by simp), order_subject.j1, if_pos (by simp), order_subject.j2, if_pos rfl]
    rfl
  | w :: r, k, hl, hs, hk => by
    obtain ⟨k, rfl⟩ : ∃ j, k = j + 3 := ⟨k - 3, by omega⟩
    have h0 : rdOf ByteArray.empty ((w :: r).map str) 0 = str w := rfl
    rw [order_subject.l0, if_pos (by simp), if_pos (by simp), h0, toList_str]
    by_cases hw : w = [114, 101, 58]
    · have hre : reL (w :: r) = reL r := by
        unfold reL
        rw [List.dropWhile_cons, if_pos (beq_iff_eq.2 hw)]
      rw [if_pos hw, if_pos (by simp; omega)]
      have := subject_l0 r (k + 2) (by simp at hl; omega) (Nat.le_trans (jn_drop w r) hs) (by simp at hk; omega)
      unfold subL at this ⊢
      rw [hre]
      exact this
    · have hre : reL (w :: r) = w :: r := by
        unfold reL
        rw [List.dropWhile_cons, if_neg (by rw [beq_iff_eq]; exact hw)]
      rw [if_neg hw, order_subject.j1, if_neg (by simp; omega), stops_is, Option.bind_some, order_subject.j2]
      have hsub : subL (w :: r) = if stopW w = true then [] else if (cmd (w :: r)).1 = 5 then [] else [cmd (w :: r)] := by
        unfold subL
        rw [hre, if_neg (show ¬ (w :: r) = [] by simp)]
        rfl
      rw [hsub]
      cases hst : stopW w with
      | true => rfl
      | false =>
        simp only [Bool.false_eq_true, if_false]
        rw [command_is (w :: r) hl hs k (by simp at hk; omega), Option.bind_some]
        split <;> rfl
theorem ord_l0 (L : List Bytes) (hL : L.length ≤ 1000000) (hz : ∀ x ∈ L, x.length ≤ 1000000) : ∀ (rest : List Bytes) (i k : Nat) (out : List OC) (bad : Nat), L.drop i = rest → 3 * rest.length + 60 ≤ k → out.length ≤ i + 1 → bad ≤ 3 → i ≤ L.length →
    order_Read.l0 k (out.map toO) (bad : Int) (L.map str) (L.length : Int) (i : Int) = some ((ordL rest out bad).map toO)
  | [], i, k, out, bad, hd, hk, ho, hb, hi => by
    obtain ⟨k, rfl⟩ : ∃ j, k = j + 1 := ⟨k - 1, by omega⟩
    have := List.drop_eq_nil_iff.1 hd
    rw [order_Read.l0, if_neg (by omega)]
    rfl
  | s :: r, i, k, out, bad, hd, hk, ho, hb, hi => by
    obtain ⟨k, rfl⟩ : ∃ j, k = j + 3 := ⟨k - 3, by omega⟩
    have hil : i < L.length := by
      rcases Nat.lt_or_ge i L.length with h | h
      · exact h
      · rw [List.drop_of_length_le h] at hd; cases hd
    have hsm : s ∈ L := List.mem_of_mem_drop (by rw [hd]; exact List.mem_cons_self)
    have h3 : L.drop (i + 1) = r := by rw [← List.drop_drop, hd]; rfl
    have hrd : rdOf ByteArray.empty (L.map str) (i : Int) = str s := by
      unfold rdOf
      rw [Int.toNat_natCast, List.getD_eq_getElem?_getD, List.getElem?_map]
      have : L[i]? = some s := by
        have := congrArg List.head? hd
        rwa [List.head?_drop] at this
      rw [this]
      rfl
    have hsz := lineW_size (str s)
    have hs1 := hz s hsm
    rw [str_size] at hsz
    have hw := words_is (str s) (by rw [str_size]; omega)
    have ih : ∀ (out : List OC) (bad : Nat), out.length ≤ i + 2 → bad ≤ 3 → order_Read.l0 k (out.map toO) (bad : Int) (L.map str) (L.length : Int) ((i + 1 : Nat) : Int) = some ((ordL r out bad).map toO) := fun out bad a b => ord_l0 L hL hz r (i + 1) k out bad h3 (by simp at hk; omega) a b (by omega)
    rw [order_Read.l0, if_pos (by omega), if_pos (by omega), if_pos (by rw [List.length_map]; omega), hrd, hw, Option.bind_some]
    generalize hW : lineW (str s) = W at hsz ⊢
    have hlen : ((out.map toO).length : Int) = (out.length : Int) := by rw [List.length_map]
    have hj : ∀ b, b = (decide (out.length = 8) || decide (bad = 3)) → order_Read.j1 (k + 2) (out.map toO) (bad : Int) (W.map str) (L.map str) (L.length : Int) (i : Int) b = some ((ordL (s :: r) out bad).map toO) := by
      rintro b rfl
      rw [order_Read.j1, ordL, hW]
      by_cases hq : out.length = 8 ∨ bad = 3
      · have hq' : (decide (out.length = 8) || decide (bad = 3)) = true := by simpa using hq
        rw [hq', if_pos rfl, if_pos hq]
      · have hq' : (decide (out.length = 8) || decide (bad = 3)) = false := by
          rw [← Bool.not_eq_true]
          simpa using hq
        have hj2 : ∀ t, order_Read.j2 (k + 1) (out.map toO) (bad : Int) (W.map str) (L.map str) (L.length : Int) (i : Int) t = (if t = true then some ((ordL r out bad).map toO) else (order_stops.f (W.map str)).bind fun t811 => (if t811 = true then (some (out.map toO)) else some ((ordL r (out ++ [cmd W]) (if (cmd W).1 = 5 then bad + 1 else bad)).map toO))) := by
          intro t
          have hlt : (out.map toO).length < 4398046511104 := by rw [List.length_map]; omega
          have happ : out.map toO ++ [(⟨(cmd W).1, (cmd W).2.1, (cmd W).2.2⟩ : OS)] = (out ++ [cmd W]).map toO := by simp [toO]
          have b1 : W.length ≤ 100000000 := by omega
          have b2 : (jn W).length ≤ 100000000 := by omega
          have b3 : 40 < k := by simp at hk; omega
          have b4 : (out ++ [cmd W]).length ≤ i + 2 := by rw [List.length_append, List.length_singleton]; omega
          have b5 : out.length ≤ i + 2 := by omega
          have b6 : bad + 1 ≤ 3 := by have : bad ≠ 3 := fun h => hq (.inr h); omega
          have b7 : i ≤ 140737488355328 := by omega
          have b8 : bad ≤ 140737488355328 := by omega
          rw [order_Read.j2, wrap_succ i b7, ih out bad b5 hb, command_is W b1 b2 k b3, Option.bind_some, if_pos hlt, if_pos hlt, happ, wrap_succ bad b8, ih _ (bad + 1) b4 b6, ih _ bad b4 hb]
          congr 2
          funext t811
          congr 1
          split <;> rfl
        rw [hq']
        simp only [Bool.false_eq_true, if_false]
        rw [if_neg hq]
        cases W with
        | nil =>
          rw [if_pos (by simp), hj2, if_pos rfl]
          rfl
        | cons w ws =>
          have h0 : rdOf ByteArray.empty ((w :: ws).map str) 0 = str w := rfl
          have hpre : strings_HasPrefix.f (str w) (⟨#[62]⟩ : ByteArray) = some (w.take 1 == [62]) := by rw [prefix1_is, bs_str]
          rw [if_neg (by simp; omega), if_pos (by simp), h0, hpre, Option.bind_some, hj2, stops_is, Option.bind_some]
          show _ = some ((if (w.take 1 == [62]) = true then ordL r out bad else if stopW w = true then out else _).map toO)
          cases w.take 1 == [62] with
          | true => rfl
          | false =>
            simp only [Bool.false_eq_true, if_false]
            cases stopW w <;> rfl
    by_cases h8 : out.length = 8
    · rw [if_pos (by rw [hlen]; omega)]
      exact hj true (by rw [decide_eq_true h8]; rfl)
    · rw [if_neg (by rw [hlen]; omega)]
      refine hj _ ?_
      rw [decide_eq_false h8, Bool.false_or, Bool.eq_iff_iff, beq_iff_eq, decide_eq_true_eq]
      omega
theorem allL_some {l : List FP} {name v : ByteArray} (h : v ∈ allL l name) : ∃ x ∈ l, x.f1 = v := by
  unfold allL at h
  obtain ⟨x, hx, e⟩ := List.mem_map.1 h
  exact ⟨x, (List.mem_filter.1 hx).1, e⟩
theorem getA_size {l : List FP} {name : ByteArray} (hz : ∀ x ∈ l, x.f1.size ≤ 3000) : (getA (allL l name)).1.size ≤ 3000 := by
  cases h : allL l name with
  | nil => exact Nat.zero_le _
  | cons v r =>
    obtain ⟨x, hx, e⟩ := allL_some (l := l) (name := name) (v := v) (by rw [h]; exact List.mem_cons_self)
    show v.size ≤ 3000
    rw [← e]
    exact hz x hx
def subjT (l : List FP) : Bytes := (getA (allL l ⟨#[83, 117, 98, 106, 101, 99, 116]⟩)).1.data.toList
def ordR (l : List FP) (b : ByteArray) : List OC := ordL (linesB (bs b)) (subL (lineW (str (clean (str (decodeL (subjT l))))))) 0
theorem lines_sum : ∀ (n : Nat) (s : Bytes), (linesM n s).length ≤ n ∧ ∀ x ∈ linesM n s, x.length ≤ s.length
  | 0, s => by simp [linesM]
  | n + 1, s => by
    rw [linesM]
    split
    · simp
    · split
      · next i h =>
        have ih := lines_sum n (s.drop (i + 2))
        refine ⟨by simp only [List.length_cons]; omega, fun x hx => ?_⟩
        rcases List.mem_cons.1 hx with rfl | hx
        · rw [List.length_take]; omega
        · have := ih.2 x hx
          rw [List.length_drop] at this
          omega
      · simp
theorem orderRead_is (l : List FP) (b : ByteArray) (hl : l.length ≤ 30) (hz : ∀ x ∈ l, x.f0.size ≤ 200 ∧ x.f1.size ≤ 3000) (hb : b.size ≤ 3000) (k : Nat) (hk : 100000000 ≤ k) : order_Read.f k l b = some ((ordR l b).map toO) := by
  have hg := get_is l ⟨#[83, 117, 98, 106, 101, 99, 116]⟩ (by omega) (by decide) (fun x hx => by have := (hz x hx).1; omega) k (by omega)
  have hgz := getA_size (l := l) (name := ⟨#[83, 117, 98, 106, 101, 99, 116]⟩) (fun x hx => (hz x hx).2)
  have hd := decodeL_len (subjT l)
  have hst : (subjT l).length ≤ 3000 := by unfold subjT; rw [data_length]; exact hgz
  have hcl := clean_length (str (decodeL (subjT l)))
  rw [str_size] at hcl
  have hs : rights_Subject.f k l b = some (str (clean (str (decodeL (subjT l))))) := by
    unfold rights_Subject.f msg_Message_Get.f
    rw [hg, Option.bind_some, Option.bind_some, decode_is _ (by omega), Option.bind_some]
    unfold glyph_Clean.f
    rw [if_pos (by rw [str_size]; show (decodeL (subjT l)).length ≤ _; omega)]
    rfl
  have hlw := lineW_size (str (clean (str (decodeL (subjT l)))))
  rw [str_size] at hlw
  have hsub : order_subject.f k l b = some ((subL (lineW (str (clean (str (decodeL (subjT l))))))).map toO) := by
    unfold order_subject.f
    rw [hs, Option.bind_some, words_is _ (by rw [str_size]; omega), Option.bind_some]
    exact subject_l0 _ k (by omega) (by omega) (by omega)
  have hbz := bs_length b
  have hln := lines_sum (bs b).length (bs b)
  have hout : (subL (lineW (str (clean (str (decodeL (subjT l))))))).length ≤ 1 := by
    unfold subL
    split
    · simp
    · split
      · simp
      · split <;> simp
  unfold order_Read.f
  rw [hsub, Option.bind_some, msgLines_is _ b (by omega) k (by omega), Option.bind_some, List.length_map]
  exact ord_l0 (linesB (bs b)) (by unfold linesB; omega) (fun x hx => by have := hln.2 x hx; omega) (linesB (bs b)) 0 k _ 0 rfl (by unfold linesB; omega) (by omega) (by omega) (Nat.zero_le _)
end Go.Proofs.YtihabmcaplnbcaaDoor.Pl
set_option linter.unusedVariables false
set_option linter.unusedSimpArgs false
namespace Go.Proofs.YtihabmcaplnbcaaDoor.Pl
open Go.RowKit Go.Proofs.YtihabmcaplnbcaaDoorW.PrintWords Go.Proofs.YtihabmcaplnbcaaDoor.Fn

theorem to16 (l : List FQ) (b : ByteArray) (hl : l.length ≤ 1000000) (k : Nat) (hk : l.length < k) : bulletinlaw16_To.f k l b = some (l.map toF, b) := by
  unfold bulletinlaw16_To.f
  rw [toQ_is l hl k hk, Option.bind_some]
end Go.Proofs.YtihabmcaplnbcaaDoor.Pl
set_option linter.unusedVariables false
set_option linter.unusedSimpArgs false
namespace Go.Proofs.YtihabmcaplnbcaaDoor.Pl
open Go.RowKit Go.Proofs.YtihabmcaplnbcaaDoorW.PrintWords Go.Proofs.YtihabmcaplnbcaaDoor.Fn

theorem crlf_own : ∀ x : Bytes, (∀ c ∈ x, c ≠ 13) → crlf (x ++ [13, 10]) = some x.length
  | [], _ => rfl
  | c :: x, h => by
    have h1 := h c (by simp)
    have ih := crlf_own x (fun d hd => h d (by simp [hd]))
    rw [List.cons_append, crlf, if_neg (fun q => h1 q.1), ih]
    rfl
theorem lines_own (x : Bytes) (h : ∀ c ∈ x, c ≠ 13) : linesB (x ++ [13, 10]) = [x] := by
  unfold linesB
  rw [List.length_append, show x.length + ([13, 10] : Bytes).length = x.length + 1 + 1 from rfl, linesM, if_neg (by simp), crlf_own x h]
  simp only []
  rw [List.take_left, List.drop_eq_nil_of_le (by simp), linesM, if_pos rfl]
theorem alone_l0 (s : ByteArray) (hs : s.size ≤ 500) (R : Bool) (hR : (∀ c ∈ bs s, c ≠ 13) → ∀ k, 200000000 ≤ k → bulletinlaw35_OrderAlone.l0 k s (s.size : Int) (s.size : Int) = some true) : ∀ (rest : Bytes) (i k : Nat), (bs s).drop i = rest → 200000000 + rest.length ≤ k → i ≤ s.size → (∀ c ∈ (bs s).take i, c ≠ 13) →
    bulletinlaw35_OrderAlone.l0 k s (s.size : Int) (i : Int) = some true
  | [], i, k, hr, hk, hi, hb => by
    have hl := congrArg List.length hr
    rw [List.length_drop, bs_length] at hl
    simp only [List.length_nil] at hl
    obtain rfl : i = s.size := by omega
    rw [List.take_of_length_le (by rw [bs_length]; exact Nat.le_refl _)] at hb
    exact hR hb k (by omega)
  | c :: r, i, k, hr, hk, hi, hb => by
    have hl := congrArg List.length hr
    rw [List.length_drop, bs_length] at hl
    simp only [List.length_cons] at hl hk
    obtain ⟨k, rfl⟩ : ∃ j, k = j + 1 := ⟨k - 1, by omega⟩
    have hr1 : (bs s).drop (i + 1) = r := by rw [← List.drop_drop, hr]; rfl
    rw [bulletinlaw35_OrderAlone.l0, if_pos (by omega), if_pos (by omega), if_pos (by omega), bt_drop hr]
    by_cases h13 : (c.toNat : Int) = 13
    · rw [if_pos h13]
    · rw [if_neg h13]
      by_cases h10 : (c.toNat : Int) = 10
      · rw [if_pos h10]
      · rw [if_neg h10, wrap_succ i (by omega)]
        refine alone_l0 s hs R hR r (i + 1) k hr1 (by omega) (by omega) ?_
        intro d hd
        have hi2 : i < (bs s).length := by rw [bs_length]; omega
        have hc : (bs s)[i] = c := by
          have := List.drop_eq_getElem_cons hi2
          rw [hr] at this
          exact (List.cons.inj this).1.symm
        rw [List.take_succ_eq_append_getElem hi2, hc] at hd
        rcases List.mem_append.1 hd with hd | hd
        · exact hb d hd
        · have : d = c := by simpa using hd
          rw [this]
          rintro rfl
          exact h13 rfl
theorem head_quote (w : Bytes) (h : w ≠ []) : (bt (str w) 0 = 62) = (w.take 1 = [62]) := by
  cases w with
  | nil => exact absurd rfl h
  | cons c r =>
    have hb : bt (str (c :: r)) ((0 : Nat) : Int) = (c.toNat : Int) := bt_drop (r := r) (by rw [bs_str]; rfl)
    have hb0 : bt (str (c :: r)) 0 = (c.toNat : Int) := hb
    rw [hb0, show ((c.toNat : Int) = 62) = (c = 62) from byte_is c 62 (by decide)]
    simp
theorem alone_none : subL (lineW (str (clean (str (decodeL (subjT [])))))) = [] := by decide +kernel
theorem OrderAlone (s : ByteArray) (hs : s.size ≤ 1048576) : ∃ k, bulletinlaw35_OrderAlone.f k s = some true := by
  refine ⟨300000000, ?_⟩
  generalize hK : (300000000 : Nat) = K
  have hcl := clean_length s
  have hfl := fold_length (clean s)
  have hlw := lineW_size s
  have hj0 : bulletinlaw35_OrderAlone.j0 K s true = some true := by
    obtain ⟨k, rfl⟩ : ∃ j, K = j + 1 := ⟨K - 1, by omega⟩
    rw [bulletinlaw35_OrderAlone.j0, if_pos rfl]
  have hc : glyph_Clean.f s = some (str (clean s)) := by unfold glyph_Clean.f; rw [if_pos (by omega)]
  have hf : glyph_Fold.f (str (clean s)) = some (str (fold (clean s))) := by
    unfold glyph_Fold.f
    rw [if_pos (by rw [str_size]; omega), str_data]
  have hwd : glyph_Words.f (str (fold (clean s))) = some ((lineW s).map str) := by
    unfold glyph_Words.f
    rw [if_pos (by rw [str_size]; omega), words_split, bs_str]
    rfl
  unfold bulletinlaw35_OrderAlone.f
  rw [works_is K (by omega), Option.bind_some, if_pos rfl, hc, Option.bind_some, hf, Option.bind_some, hwd, Option.bind_some]
  by_cases h5 : (s.size : Int) > 500
  · rw [if_pos h5, hj0]
  rw [if_neg h5]
  have hne : ∀ x ∈ lineW s, x ≠ [] := fun x hx => (splitW_words _ [] (by simp) x hx).1
  cases hW : lineW s with
  | nil => rw [if_pos (by simp), hj0]
  | cons w ws =>
    have hw0 := hne w (by rw [hW]; simp)
    have h0 : rdOf ByteArray.empty ((w :: ws).map str) 0 = str w := rfl
    have hsz : 0 < ((str w).size : Int) := by
      rw [str_size]
      have := List.length_pos_iff.2 hw0
      omega
    have hpos : 0 < (((w :: ws).map str).length : Int) := by simp
    have main : stopW w = false → (w.take 1 == [62]) = false → bulletinlaw35_OrderAlone.j0 K s false = some true := by
      intro hst hqu
      obtain ⟨k, rfl⟩ : ∃ j, K = j + 1 := ⟨K - 1, by omega⟩
      rw [bulletinlaw35_OrderAlone.j0, if_neg (by decide)]
      refine alone_l0 s (by omega) true ?_ (bs s) 0 k rfl (by rw [bs_length]; omega) (by omega) (by simp)
      intro h13 k hk
      obtain ⟨k, rfl⟩ : ∃ j, k = j + 1 := ⟨k - 1, by omega⟩
      have hb : s ++ (⟨#[13, 10]⟩ : ByteArray) = str (bs s ++ [13, 10]) := by
        apply bs_inj
        rw [bs_app, bs_str]
        rfl
      have hord : ordR [] (str (bs s ++ [13, 10])) = [cmd (lineW s)] := by
        unfold ordR
        rw [bs_str, lines_own _ h13, alone_none, ordL, str_bs, hW, if_neg (by simp)]
        show (if (w.take 1 == [62]) = true then _ else if stopW w = true then _ else _) = _
        rw [hqu, hst, if_neg (by decide), if_neg (by decide)]
        rfl
      have hto : bulletinlaw16_To.f k ([] : List FQ) (s ++ (⟨#[13, 10]⟩ : ByteArray)) = some ([], str (bs s ++ [13, 10])) := by
        rw [to16 [] _ (by simp) k (by simp; omega), hb]
        rfl
      have hor := orderRead_is [] (str (bs s ++ [13, 10])) (by simp) (by simp) (by rw [str_size, List.length_append, bs_length]; simp; omega) k (by omega)
      rw [hord] at hor
      rw [bulletinlaw35_OrderAlone.l0, if_neg (by omega), if_pos (by omega), hto, Option.bind_some]
      show (order_Read.f k [] (str (bs s ++ [13, 10]))).bind _ = _
      rw [hor, Option.bind_some, if_pos (by simp), if_pos (by simp), line_is s (by omega) k (by omega), Option.bind_some, hW]
      simp only [List.map_cons, List.map_nil]
      rw [show rd_T57 [toO (cmd (w :: ws))] 0 = toO (cmd (w :: ws)) from rfl]
      simp [toO]
    rw [if_neg (by simp; omega), if_pos hpos, h0, if_pos hsz, toList_str]
    by_cases hq : w.take 1 = [62]
    · rw [if_pos (by rw [head_quote w hw0]; exact hq), hj0]
    · rw [if_neg (by rw [head_quote w hw0]; exact hq)]
      have hqb : (w.take 1 == [62]) = false := beq_eq_false_iff_ne.2 hq
      by_cases h1 : w = [101, 110, 100]
      · rw [if_pos h1, hj0]
      rw [if_neg h1]
      by_cases h2 : w = [115, 116, 111, 112]
      · rw [if_pos h2, hj0]
      rw [if_neg h2]
      by_cases h3 : w = [113, 117, 105, 116]
      · rw [if_pos h3, hj0]
      rw [if_neg h3]
      by_cases h4 : w = [45, 45]
      · rw [show (w == [45, 45]) = true from beq_iff_eq.2 h4, hj0]
      · rw [show (w == [45, 45]) = false from beq_eq_false_iff_ne.2 h4]
        refine main ?_ hqb
        unfold stopW
        rw [beq_eq_false_iff_ne.2 h1, beq_eq_false_iff_ne.2 h2, beq_eq_false_iff_ne.2 h3, beq_eq_false_iff_ne.2 h4]
        rfl
end Go.Proofs.YtihabmcaplnbcaaDoor.Pl
