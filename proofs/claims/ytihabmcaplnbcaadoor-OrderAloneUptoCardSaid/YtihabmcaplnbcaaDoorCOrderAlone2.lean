/- A part of the proof of this sentence: OrderAlone (35.7): a mail without a subject whose body is one line with an end has just the command of this line, if it has words, the first of which does not begin with >, and does not stop; of a line of at most 500 bytes without CR and LF. -/
import Derived.Test.YtihabmcaplnbcaaDoorCOrderAlone1
import Derived.RangeFuncNested
import Derived.RangeFuncBound
import Derived.RangeFuncCalls
import Derived.RangeFuncLeaves
import Derived.Shelf.Abstract
import Derived.Shelf.RegionOpen
import Derived.WalkKit
import Derived.OwnWalkIn
import Derived.TacticsInMore
import Derived.LoopNIn
import Derived.LoopIn
import Derived.Laws.BitsLemmas
import Derived.Deep.RegionWith
import Derived.Laws.BytesArg
import Derived.Shelf.Strings.SlTrimAscii
import Derived.Lib.Split
import Derived.Lib.IndexBytes
namespace Go.Proofs.YtihabmcaplnbcaaDoor.Fn
open Go.RowKit Go.Proofs.YtihabmcaplnbcaaDoorW.PrintWords Go.Proofs.YtihabmcaplnbcaaDoorW.PrintLast Go.Proofs.YtihabmcaplnbcaaDoorW.PrintMore
attribute [local go_sem] max2_int min2_int max_two min_two max_three min_three max_four min_four
set_option linter.unusedVariables false
set_option linter.unusedSimpArgs false

/-! ### bulletinref06_One: function 83 -/
mutual
def bulletinref06_One.j0 : Nat → ByteArray → Int → Int → Int → Int → Bool → Option (Int × Int)
 | 0, _, _, _, _, _, _ => none
 | k + 1, x0, x1, x6, x7, x8, x24 => if x24 = true then (bulletinref06_One.j1 k x0 x1 x6 2 (wrap64 (x6 - 192))) else (bulletinref06_One.j1 k x0 x1 x6 x7 x8)
def bulletinref06_One.j1 : Nat → ByteArray → Int → Int → Int → Int → Option (Int × Int)
 | 0, _, _, _, _, _ => none
 | k + 1, x0, x1, x6, x7, x8 => if x6 ≥ 224 then (bulletinref06_One.j2 k x0 x1 x6 x7 x8 (decide (x6 < 240))) else (bulletinref06_One.j2 k x0 x1 x6 x7 x8 false)
def bulletinref06_One.j2 : Nat → ByteArray → Int → Int → Int → Int → Bool → Option (Int × Int)
 | 0, _, _, _, _, _, _ => none
 | k + 1, x0, x1, x6, x7, x8, x32 => if x32 = true then (bulletinref06_One.j3 k x0 x1 x6 3 (wrap64 (x6 - 224))) else (bulletinref06_One.j3 k x0 x1 x6 x7 x8)
def bulletinref06_One.j3 : Nat → ByteArray → Int → Int → Int → Int → Option (Int × Int)
 | 0, _, _, _, _, _ => none
 | k + 1, x0, x1, x6, x7, x8 => if x6 ≥ 240 then (bulletinref06_One.j4 k x0 x1 x6 x7 x8 (decide (x6 < 248))) else (bulletinref06_One.j4 k x0 x1 x6 x7 x8 false)
def bulletinref06_One.j4 : Nat → ByteArray → Int → Int → Int → Int → Bool → Option (Int × Int)
 | 0, _, _, _, _, _, _ => none
 | k + 1, x0, x1, x6, x7, x8, x40 => if x40 = true then (bulletinref06_One.j5 k x0 x1 4 (wrap64 (x6 - 240))) else (bulletinref06_One.j5 k x0 x1 x7 x8)
def bulletinref06_One.j5 : Nat → ByteArray → Int → Int → Int → Option (Int × Int)
 | 0, _, _, _, _ => none
 | k + 1, x0, x1, x7, x8 => bulletinref06_One.l0 k x0 x1 x7 x8 1
def bulletinref06_One.l0 : Nat → ByteArray → Int → Int → Int → Int → Option (Int × Int)
 | 0, _, _, _, _, _ => none
 | k + 1, x0, x1, x7, x8, x9 => if x9 < x7 then ((bulletinref06_tail.f x0 (wrap64 (x1 + x9))).bind fun t486 => (if t486 < 0 then (some ((-1), 1)) else (bulletinref06_One.l0 k x0 x1 x7 (wrap64 ((wrap64 (64 * x8)) + t486)) (wrap64 (x9 + 1))))) else ((some (([0, 0, 128, 2048, 65536] : List Int) : List Int)).bind fun y487 => (if x7 = 0 then (some ((-1), 1)) else (if 0 ≤ x7 then (if x7 < (y487.length : Int) then (if x8 < (rd y487 x7) then (some ((-1), 1)) else (if x8 ≥ 55296 then (if x8 ≤ 57343 then (some ((-1), 1)) else (if x8 > 1114111 then (some ((-1), 1)) else (some (x8, x7)))) else (if x8 > 1114111 then (some ((-1), 1)) else (some (x8, x7))))) else (none)) else (none))))
end
end Go.Proofs.YtihabmcaplnbcaaDoor.Fn
namespace Go.Proofs.YtihabmcaplnbcaaDoor.Fn
open Go.RowKit Go.Proofs.YtihabmcaplnbcaaDoorW.PrintWords Go.Proofs.YtihabmcaplnbcaaDoorW.PrintLast Go.Proofs.YtihabmcaplnbcaaDoorW.PrintMore
attribute [local go_sem] max2_int min2_int max_two min_two max_three min_three max_four min_four
set_option linter.unusedVariables false
set_option linter.unusedSimpArgs false

/-! ### bulletinref06_Signs: function 42 -/
end Go.Proofs.YtihabmcaplnbcaaDoor.Fn
namespace Go.Proofs.YtihabmcaplnbcaaDoor.Fn
open Go.RowKit Go.Proofs.YtihabmcaplnbcaaDoorW.PrintWords Go.Proofs.YtihabmcaplnbcaaDoorW.PrintLast Go.Proofs.YtihabmcaplnbcaaDoorW.PrintMore
attribute [local go_sem] max2_int min2_int max_two min_two max_three min_three max_four min_four
set_option linter.unusedVariables false
set_option linter.unusedSimpArgs false

/-! ### bulletinref06_Write: function 84 -/
end Go.Proofs.YtihabmcaplnbcaaDoor.Fn
set_option linter.unusedVariables false
set_option linter.unusedSimpArgs false
namespace Go.Proofs.YtihabmcaplnbcaaDoor.Pl
open Go.RowKit Go.Proofs.YtihabmcaplnbcaaDoorW.PrintWords Go.Proofs.YtihabmcaplnbcaaDoor.Fn

/-! Taken by extract.py out of XPGlyph.lean.tpl, XPWords.lean.tpl, XPClean.lean.tpl, XPClip.lean.tpl, XPOrder.lean.tpl, XPureOrderLines.lean.tpl. -/
theorem get_lt (s : ByteArray) (i : Nat) : (s.get! i).toNat < 256 := (s.get! i).toNat_lt
def isBl (c : UInt8) : Bool := c == 32 || (c == 9 || (c == 13 || c == 10))
def splitW : Bytes → Bytes → List Bytes
  | [], w => if w = [] then [] else [w]
  | c :: r, w => if isBl c then (if w = [] then splitW r [] else w :: splitW r []) else splitW r (w ++ [c])
theorem isBl_nat (c : UInt8) : isBl c = blank c.toNat := by
  unfold isBl blank
  have e : ∀ n : UInt8, (c == n) = (c.toNat == n.toNat) := fun n => by
    rw [Bool.eq_iff_iff, beq_iff_eq, beq_iff_eq]
    exact ⟨fun h => by rw [h], fun h => UInt8.toNat_inj.1 h⟩
  rw [e, e, e, e]
  rfl
theorem tail_high (s : ByteArray) (i j : Nat) (h0 : 0 < j) (h : j < width s i) : 128 ≤ (s.get! (i + j)).toNat := by
  unfold width at h
  rw [Lib.decode_at] at h
  have g0 := get_lt s i
  unfold Lib.decodeN at h
  have hj : j = 1 ∨ j = 2 ∨ j = 3 := by
    repeat' split at h
    all_goals (simp only [] at h; omega)
  rcases hj with rfl | rfl | rfl
  all_goals
    repeat' split at h
    all_goals (simp only [] at h; omega)
theorem get_bs (s : ByteArray) (i : Nat) (h : i < s.size) : (bs s)[i]? = some (s.get! i) := by
  unfold bs
  have h' : i < s.data.size := h
  rw [Array.getElem?_toList, Array.getElem?_eq_getElem h']
  congr 1
  show s.data[i] = s.data[i]!
  rw [getElem!_pos s.data i h']
theorem drop_get (s : ByteArray) (i : Nat) (h : i < s.size) : (bs s).drop i = s.get! i :: (bs s).drop (i + 1) := by
  have h1 : i < (bs s).length := by rw [bs_length]; exact h
  rw [List.drop_eq_getElem_cons h1]
  congr 1
  have := get_bs s i h
  rw [List.getElem?_eq_getElem h1] at this
  exact Option.some.inj this
theorem splitW_run (s : ByteArray) (i : Nat) : ∀ (n : Nat) (w : Bytes), i + n ≤ s.size → (∀ j, j < n → isBl (s.get! (i + j)) = false) →
    splitW ((bs s).drop i) w = splitW ((bs s).drop (i + n)) (w ++ ((bs s).drop i).take n) := by
  intro n
  induction n generalizing i with
  | zero => intro w _ _; simp
  | succ n ih =>
    intro w h hb
    have h0 := hb 0 (by omega)
    rw [Nat.add_zero] at h0
    rw [drop_get s i (by omega), splitW, if_neg (by rw [h0]; decide), ih (i + 1) (w ++ [s.get! i]) (by omega) (fun j hj => by rw [show i + 1 + j = i + (j + 1) by omega]; exact hb (j + 1) (by omega))]
    rw [show i + 1 + n = i + (n + 1) by omega]
    simp
theorem sign_low (s : ByteArray) (i : Nat) (h : (s.get! i).toNat < 128) : sign s i = (s.get! i).toNat ∧ width s i = 1 := by
  unfold sign width
  rw [Lib.decode_at]
  unfold Lib.decodeN
  rw [if_pos h]
  exact ⟨rfl, rfl⟩
theorem sign_high (s : ByteArray) (i : Nat) (h : 128 ≤ (s.get! i).toNat) : 128 ≤ sign s i := by
  unfold sign
  rw [Lib.decode_at]
  have g0 := get_lt s i
  unfold Lib.decodeN
  repeat' split
  all_goals (simp only []; omega)
theorem blank_high (r : Nat) (h : 128 ≤ r) : blank r = false := by
  unfold blank
  have e : ∀ n, n < 128 → (r == n) = false := fun n hn => by
    rw [beq_eq_false_iff_ne]
    omega
  rw [e 32 (by omega), e 9 (by omega), e 13 (by omega), e 10 (by omega)]
  rfl
def open_ (s : ByteArray) (st : Option Nat) (pos : Nat) : Bytes := match st with | none => [] | some a => ((bs s).take pos).drop a
theorem open_snoc (s : ByteArray) (a pos n : Nat) (ha : a ≤ pos) (h : pos + n ≤ s.size) : ((bs s).take (pos + n)).drop a = ((bs s).take pos).drop a ++ ((bs s).drop pos).take n := by
  rw [List.take_add, List.drop_append_of_le_length (by rw [List.length_take, bs_length]; omega)]
theorem spans_words (s : ByteArray) : ∀ (f pos : Nat) (st : Option Nat) (acc : List (Nat × Nat)), pos ≤ s.size → s.size ≤ pos + f → (∀ a, st = some a → a < pos) →
    (Lib.closeSpans s (Lib.spansFromP blank s f pos st acc)).map (fun x => s.extract x.1 x.2) = acc.map (fun x => s.extract x.1 x.2) ++ (splitW ((bs s).drop pos) (open_ s st pos)).map str := by
  intro f
  induction f with
  | zero =>
    intro pos st acc hp hf hst
    obtain rfl : pos = s.size := by omega
    have hd : (bs s).drop s.size = [] := List.drop_of_length_le (by rw [bs_length]; exact Nat.le_refl _)
    rw [hd]
    cases st with
    | none => simp [Lib.spansFromP, Lib.closeSpans, splitW, open_]
    | some a =>
      have ha := hst a rfl
      have he : ((bs s).take s.size).drop a ≠ [] := by
        intro e
        have := congrArg List.length e
        simp [bs_length] at this
        omega
      have hx : s.extract a s.size = str (((bs s).take s.size).drop a) := by rw [← bs_extract, str_bs]
      rw [show open_ s (some a) s.size = ((bs s).take s.size).drop a from rfl, splitW, if_neg he]
      simp only [Lib.spansFromP, Lib.closeSpans]
      simp [hx]
  | succ f ih =>
    intro pos st acc hp hf hst
    by_cases hlt : pos < s.size
    · have hw := width_pos s pos hlt
      have hw2 : pos + width s pos ≤ s.size := width_end s pos hlt
      have hsg : (Utf8.decode s pos).1 = sign s pos := rfl
      have hwd : (Utf8.decode s pos).2 = width s pos := rfl
      unfold Lib.spansFromP
      rw [if_pos hlt, hsg, hwd]
      by_cases hb : blank (sign s pos) = true
      · have hlow : (s.get! pos).toNat < 128 := by
          rcases Nat.lt_or_ge (s.get! pos).toNat 128 with h | h
          · exact h
          · rw [blank_high _ (sign_high s pos h)] at hb
            exact absurd hb (by decide)
        obtain ⟨hs1, hs2⟩ := sign_low s pos hlow
        have hbl : isBl (s.get! pos) = true := by rw [isBl_nat, ← hs1]; exact hb
        rw [if_pos hb, hs2, drop_get s pos hlt, splitW, if_pos hbl]
        cases st with
        | none =>
          simp only []
          rw [ih (pos + 1) none acc (by omega) (by omega) (by simp)]
          simp [open_]
        | some a =>
          have ha := hst a rfl
          have he : ((bs s).take pos).drop a ≠ [] := by
            intro e
            have := congrArg List.length e
            simp [bs_length] at this
            omega
          have hx : s.extract a pos = str (((bs s).take pos).drop a) := by rw [← bs_extract, str_bs]
          simp only []
          rw [ih (pos + 1) none _ (by omega) (by omega) (by simp)]
          rw [show open_ s (some a) pos = ((bs s).take pos).drop a from rfl, if_neg he]
          simp [hx, open_]
      · rw [if_neg hb]
        have hnb : ∀ j, j < width s pos → isBl (s.get! (pos + j)) = false := by
          intro j hj
          rw [isBl_nat]
          by_cases h0 : j = 0
          · subst h0
            rw [Nat.add_zero]
            rcases Nat.lt_or_ge (s.get! pos).toNat 128 with h | h
            · rw [← (sign_low s pos h).1]
              simpa using hb
            · exact blank_high _ h
          · exact blank_high _ (tail_high s pos j (by omega) hj)
        cases st with
        | none =>
          simp only []
          rw [ih (pos + width s pos) (some pos) acc (by omega) (by omega) (fun a e => by injection e with e; omega)]
          simp only [open_]
          rw [splitW_run s pos (width s pos) [] hw2 hnb]
          rw [open_snoc s pos pos (width s pos) (Nat.le_refl _) hw2, List.drop_of_length_le (l := (bs s).take pos) (by rw [List.length_take]; omega)]
        | some a =>
          have ha := hst a rfl
          simp only []
          rw [ih (pos + width s pos) (some a) acc (by omega) (by omega) (fun b e => by injection e with e; omega)]
          simp only [open_]
          rw [splitW_run s pos (width s pos) _ hw2 hnb, open_snoc s a pos (width s pos) (by omega) hw2]
    · obtain rfl : pos = s.size := by omega
      have hd : (bs s).drop s.size = [] := List.drop_of_length_le (by rw [bs_length]; exact Nat.le_refl _)
      rw [Lib.spansFromP_end _ _ _ _ _ _ hlt, hd]
      cases st with
      | none => simp [Lib.closeSpans, splitW, open_]
      | some a =>
        have ha := hst a rfl
        have he : ((bs s).take s.size).drop a ≠ [] := by
          intro e
          have := congrArg List.length e
          simp [bs_length] at this
          omega
        have hx : s.extract a s.size = str (((bs s).take s.size).drop a) := by rw [← bs_extract, str_bs]
        rw [show open_ s (some a) s.size = ((bs s).take s.size).drop a from rfl, splitW, if_neg he]
        simp only [Lib.closeSpans]
        simp [hx]
theorem words_split (s : ByteArray) : words s = (splitW (bs s) []).map str := by
  unfold words Lib.goFieldsP Lib.spansOfP
  rw [spans_words s s.size 0 none [] (by omega) (by omega) (by simp)]
  simp [open_]
theorem splitW_words : ∀ (l w : Bytes), (∀ c ∈ w, isBl c = false) → ∀ x ∈ splitW l w, x ≠ [] ∧ ∀ c ∈ x, isBl c = false := by
  intro l
  induction l with
  | nil =>
    intro w hw x hx
    unfold splitW at hx
    split at hx
    · simp at hx
    · rename_i h
      rw [List.mem_singleton] at hx
      subst hx
      exact ⟨h, hw⟩
  | cons c r ih =>
    intro w hw x hx
    unfold splitW at hx
    split at hx
    · split at hx
      · exact ih [] (by simp) x hx
      · rename_i h
        rcases List.mem_cons.1 hx with rfl | hx
        · exact ⟨h, hw⟩
        · exact ih [] (by simp) x hx
    · rename_i h
      exact ih (w ++ [c]) (fun d hd => by
        rcases List.mem_append.1 hd with hd | hd
        · exact hw d hd
        · rw [List.mem_singleton] at hd
          subst hd
          simpa using h) x hx
theorem splitW_total : ∀ (l w : Bytes), ((splitW l w).map List.length).sum + (splitW l w).length ≤ l.length + w.length + 1 := by
  intro l
  induction l with
  | nil =>
    intro w
    unfold splitW
    split
    · simp
    · simp
  | cons c r ih =>
    intro w
    unfold splitW
    split
    · split
      · have := ih []
        simp at this ⊢ <;> omega
      · have := ih []
        simp at this ⊢ <;> omega
    · have := ih (w ++ [c])
      simp at this ⊢ <;> omega
theorem sign_valid (s : ByteArray) (i : Nat) : sign s i < 55296 ∨ (57344 ≤ sign s i ∧ sign s i ≤ 1114111) := by
  unfold sign
  rw [Lib.decode_at]
  have g0 := get_lt s i
  unfold Lib.decodeN
  repeat' split
  all_goals (simp only []; omega)
theorem enc_length (n : Int) : (Lib.encodeRune n).length ≤ 4 := by
  have := (Lib.runeCells_le n).2
  rwa [Lib.runeCells_length] at this
theorem cleanR_length (r : Nat) : (cleanR r).length ≤ 4 := by
  unfold cleanR
  split
  · simp
  · exact enc_length _
theorem cleanFrom_length (s : ByteArray) : ∀ n i, (cleanFrom s n i).length ≤ 4 * n := by
  intro n
  induction n with
  | zero => intro i; simp [cleanFrom]
  | succ n ih =>
    intro i
    unfold cleanFrom
    split
    · have := ih (i + width s i)
      have := cleanR_length (sign s i)
      simp; omega
    · simp
theorem clean_length (s : ByteArray) : (clean s).length ≤ 4 * s.size := cleanFrom_length s _ _
def jn (l : List Bytes) : Bytes := Lib.join l [32]
def wordN (b : Bytes) : Int := if b = [101, 97, 99, 104] then 1 else if b = [100, 105, 103, 101, 115, 116] then 2 else if b = [115, 105, 108, 101, 110, 116] then 3 else 0
def unk (t : Bytes) : Int × Int × ByteArray := (5, 0, clip (str t) 30)
def cmd : List Bytes → Int × Int × ByteArray
  | [a] =>
    if a = [104, 101, 108, 112] ∨ a = [105, 110, 102, 111] then (1, 0, str []) else if a = [106, 111, 105, 110] ∨ a = [115, 117, 98, 115, 99, 114, 105, 98, 101] then (2, 1, str [])
    else if a = [108, 101, 97, 118, 101] ∨ a = [117, 110, 115, 117, 98, 115, 99, 114, 105, 98, 101] ∨ a = [114, 101, 109, 111, 118, 101] then (3, 0, str []) else unk a
  | [a, b] =>
    if (a = [106, 111, 105, 110] ∨ a = [115, 117, 98, 115, 99, 114, 105, 98, 101]) ∧ wordN b ≠ 0 then (2, wordN b, str []) else if a = [115, 101, 116] ∧ wordN b ≠ 0 then (4, wordN b, str []) else unk (jn [a, b])
  | l => unk (jn l)
theorem rw1 : roster_Word.f 1 = some (str [101, 97, 99, 104]) := by rfl
theorem rw2 : roster_Word.f 2 = some (str [100, 105, 103, 101, 115, 116]) := by rfl
theorem rw3 : roster_Word.f 3 = some (str [115, 105, 108, 101, 110, 116]) := by rfl
theorem mode_is (b : Bytes) (k : Nat) (hk : 4 < k) : roster_Mode.f k (str b) = some (wordN b) := by
  obtain ⟨k, rfl⟩ : ∃ m, k = m + 1 + 1 + 1 + 1 := ⟨k - 4, by omega⟩
  have w1 : wrap64 (1 + 1) = 2 := by unfold wrap64; omega
  have w2 : wrap64 (2 + 1) = 3 := by unfold wrap64; omega
  have w3 : wrap64 (3 + 1) = 4 := by unfold wrap64; omega
  unfold roster_Mode.f wordN
  rw [roster_Mode.l0, if_pos (by decide), rw1]
  simp only [Option.bind_some, toList_str]
  by_cases a : b = [101, 97, 99, 104]
  · rw [if_pos a.symm, if_pos a]
  rw [if_neg (fun h => a h.symm), if_neg a, w1, roster_Mode.l0, if_pos (by decide), rw2]
  simp only [Option.bind_some, toList_str]
  by_cases a2 : b = [100, 105, 103, 101, 115, 116]
  · rw [if_pos a2.symm, if_pos a2]
  rw [if_neg (fun h => a2 h.symm), if_neg a2, w2, roster_Mode.l0, if_pos (by decide), rw3]
  simp only [Option.bind_some, toList_str]
  by_cases a3 : b = [115, 105, 108, 101, 110, 116]
  · rw [if_pos a3.symm, if_pos a3]
  rw [if_neg (fun h => a3 h.symm), if_neg a3, w3, roster_Mode.l0, if_neg (by decide)]
theorem map_data (l : List Bytes) : (l.map str).map (fun x => x.data.toList) = l := by
  rw [List.map_map]
  have : ((fun x : ByteArray => x.data.toList) ∘ str) = id := funext fun x => str_data x
  rw [this, List.map_id]
theorem unknown_is (l : List Bytes) (hl : l.length ≤ 100000000) (hs : (jn l).length ≤ 100000000) : order_unknown.f (l.map str) = some (unk (jn l)) := by
  have e : join (l.map str) (⟨#[32]⟩ : ByteArray) = str (jn l) := by
    unfold join jn
    rw [map_data]
  unfold order_unknown.f strings_Join.f
  rw [if_pos (by simp; omega), e, if_pos (by rw [str_size]; omega)]
  simp only [Option.bind_some]
  unfold glyph_Clip.f
  rw [if_pos (by rw [str_size]; omega), if_pos (by decide)]
  rfl
theorem rdOf_0 (a : Bytes) (r : List Bytes) : rdOf ByteArray.empty ((a :: r).map str) 0 = str a := rfl
theorem rdOf_1 (a b : Bytes) (r : List Bytes) : rdOf ByteArray.empty ((a :: b :: r).map str) 1 = str b := rfl
theorem eta3 (x : Int × Int × ByteArray) : (x.1, x.2.1, x.2.2) = x := rfl
def joinC : List Bytes → Int × Int × ByteArray
  | [a] => (2, 1, str [])
  | [a, b] => if wordN b ≠ 0 then (2, wordN b, str []) else unk (jn [a, b])
  | l => unk (jn l)
theorem join_is (l : List Bytes) (h0 : l ≠ []) (hl : l.length ≤ 100000000) (hs : (jn l).length ≤ 100000000) (k : Nat) (hk : 10 < k) :
    order_join.f k (l.map str) = some (joinC l) := by
  obtain ⟨k, rfl⟩ : ∃ m, k = m + 1 := ⟨k - 1, by omega⟩
  have hu := unknown_is l hl hs
  unfold order_join.f
  match l, h0, hu with
  | [a], _, hu =>
    rw [if_pos (by simp)]
    rfl
  | [a, b], _, hu =>
    rw [if_neg (by simp), if_pos (by simp), if_pos (by simp), rdOf_1, mode_is b _ (by omega)]
    simp only [Option.bind_some]
    by_cases c : wordN b = 0
    · rw [show (wordN b != 0) = false by simp [c], order_join.j0, if_neg (by decide), hu]
      simp only [Option.bind_some, eta3, joinC]
      rw [if_neg (fun h => h c)]
    · rw [show (wordN b != 0) = true by simp [c], order_join.j0, if_pos rfl, if_pos (by simp), rdOf_1, mode_is b _ (by omega)]
      simp only [Option.bind_some, joinC]
      rw [if_pos c]
      rfl
  | a :: b :: c :: r, _, hu =>
    rw [if_neg (by simp; omega), if_neg (by simp; omega), order_join.j0, if_neg (by decide), hu]
    rfl
theorem command_is (l : List Bytes) (hl : l.length ≤ 100000000) (hs : (jn l).length ≤ 100000000) (k : Nat) (hk : 40 < k) :
    order_command.f k (l.map str) = some (cmd l) := by
  obtain ⟨k, rfl⟩ : ∃ m, k = m + 1 + 1 + 1 + 1 := ⟨k - 4, by omega⟩
  have hu := unknown_is l hl hs
  unfold order_command.f
  cases l with
  | nil =>
    rw [if_pos (by simp), hu]
    rfl
  | cons a r =>
    have hj := join_is (a :: r) (by simp) hl hs
    rw [if_neg (by simp <;> omega), if_pos (by simp <;> omega), rdOf_0, toList_str]
    have hone : ((((a :: r).map str).length : Int) == 1) = decide (r = []) := by
      cases r with
      | nil => simp
      | cons b r => simp; omega
    rw [hone]
    have hun : cmd (a :: r) = unk (jn (a :: r)) → ((order_unknown.f ((a :: r).map str)).bind fun x => some (x.1, x.2.1, x.2.2)) = some (cmd (a :: r)) := fun h => by
      rw [hu, h]
      rfl
    -- help, info
    have hA : ∀ m, a = [104, 101, 108, 112] ∨ a = [105, 110, 102, 111] → order_command.j0 (m + 1) ((a :: r).map str) (decide (r = [])) (str a) true = some (cmd (a :: r)) := by
      intro m h
      rw [order_command.j0, if_pos rfl]
      cases r with
      | nil =>
        rw [if_pos (by decide)]
        simp only [cmd]
        rw [if_pos h]
        rfl
      | cons b s =>
        rw [if_neg (by simp)]
        refine hun ?_
        cases s with
        | nil => rcases h with rfl | rfl <;> simp [cmd]
        | cons d s => rfl
    by_cases a1 : a = [104, 101, 108, 112]
    · rw [if_pos a1, show (a == [104, 101, 108, 112]) = true by rw [a1]; rfl]
      exact hA _ (Or.inl a1)
    rw [if_neg a1]
    by_cases a2 : a = [105, 110, 102, 111]
    · rw [show (a == [105, 110, 102, 111]) = true by rw [a2]; rfl]
      exact hA _ (Or.inr a2)
    rw [show (a == [105, 110, 102, 111]) = false by simpa using a2, order_command.j0, if_neg (by decide), toList_str]
    have h1 : ¬ (a = [104, 101, 108, 112] ∨ a = [105, 110, 102, 111]) := fun h => h.elim a1 a2
    -- join, subscribe
    have hB : ∀ m, 20 < m → a = [106, 111, 105, 110] ∨ a = [115, 117, 98, 115, 99, 114, 105, 98, 101] → order_command.j1 (m + 1) ((a :: r).map str) (decide (r = [])) (str a) true = some (cmd (a :: r)) := by
      intro m hm h
      rw [order_command.j1, if_pos rfl, hj m (by omega)]
      simp only [Option.bind_some, eta3]
      cases r with
      | nil =>
        simp only [cmd, joinC]
        rw [if_neg h1, if_pos h]
      | cons b s =>
        cases s with
        | nil =>
          simp only [cmd, joinC]
          by_cases c : wordN b = 0
          · rw [if_neg (fun h => h c), if_neg (fun h => h.2 c), if_neg (fun h => h.2 c)]
          · rw [if_pos c, if_pos ⟨h, c⟩]
        | cons d s => rfl
    by_cases b1 : a = [106, 111, 105, 110]
    · rw [if_pos b1, show (a == [106, 111, 105, 110]) = true by rw [b1]; rfl]
      exact hB _ (by omega) (Or.inl b1)
    rw [if_neg b1]
    by_cases b2 : a = [115, 117, 98, 115, 99, 114, 105, 98, 101]
    · rw [show (a == [115, 117, 98, 115, 99, 114, 105, 98, 101]) = true by rw [b2]; rfl]
      exact hB _ (by omega) (Or.inr b2)
    rw [show (a == [115, 117, 98, 115, 99, 114, 105, 98, 101]) = false by simpa using b2, order_command.j1, if_neg (by decide), toList_str]
    have h2 : ¬ (a = [106, 111, 105, 110] ∨ a = [115, 117, 98, 115, 99, 114, 105, 98, 101]) := fun h => h.elim b1 b2
    -- leave, unsubscribe, remove
    have hC : ∀ m, a = [108, 101, 97, 118, 101] ∨ a = [117, 110, 115, 117, 98, 115, 99, 114, 105, 98, 101] ∨ a = [114, 101, 109, 111, 118, 101] → order_command.j2 (m + 1) ((a :: r).map str) (decide (r = [])) (str a) true = some (cmd (a :: r)) := by
      intro m h
      rw [order_command.j2, if_pos rfl]
      cases r with
      | nil =>
        rw [if_pos (by decide)]
        simp only [cmd]
        rw [if_neg h1, if_neg h2, if_pos h]
        rfl
      | cons b s =>
        rw [if_neg (by simp)]
        refine hun ?_
        cases s with
        | nil => rcases h with rfl | rfl | rfl <;> simp [cmd]
        | cons d s => rfl
    by_cases c1 : a = [108, 101, 97, 118, 101]
    · rw [if_pos c1, show (a == [108, 101, 97, 118, 101]) = true by rw [c1]; rfl]
      exact hC _ (Or.inl c1)
    rw [if_neg c1]
    by_cases c2 : a = [117, 110, 115, 117, 98, 115, 99, 114, 105, 98, 101]
    · rw [if_pos c2, show (a == [117, 110, 115, 117, 98, 115, 99, 114, 105, 98, 101]) = true by rw [c2]; rfl]
      exact hC _ (Or.inr (Or.inl c2))
    rw [if_neg c2]
    by_cases c3 : a = [114, 101, 109, 111, 118, 101]
    · rw [show (a == [114, 101, 109, 111, 118, 101]) = true by rw [c3]; rfl]
      exact hC _ (Or.inr (Or.inr c3))
    rw [show (a == [114, 101, 109, 111, 118, 101]) = false by simpa using c3, order_command.j2, if_neg (by decide), toList_str]
    have h3 : ¬ (a = [108, 101, 97, 118, 101] ∨ a = [117, 110, 115, 117, 98, 115, 99, 114, 105, 98, 101] ∨ a = [114, 101, 109, 111, 118, 101]) := fun h => h.elim c1 (fun h => h.elim c2 c3)
    by_cases d : a = [115, 101, 116]
    · rw [if_pos d]
      cases r with
      | nil =>
        rw [if_neg (by simp), order_command.j3, if_neg (by decide)]
        refine hun ?_
        simp only [cmd]
        rw [if_neg h1, if_neg h2, if_neg h3]
        have e : jn [a] = a := Lib.join_one a [32]
        rw [e]
      | cons b s =>
        cases s with
        | nil =>
          rw [if_pos (by simp), if_pos (by simp), rdOf_1, mode_is b _ (by omega)]
          simp only [Option.bind_some]
          by_cases c : wordN b = 0
          · rw [show (wordN b != 0) = false by simp [c], order_command.j3, if_neg (by decide)]
            refine hun ?_
            simp only [cmd]
            rw [if_neg (fun h => h.2 c), if_neg (fun h => h.2 c)]
          · rw [show (wordN b != 0) = true by simp [c], order_command.j3, if_pos rfl, if_pos (by simp), rdOf_1, mode_is b _ (by omega)]
            simp only [Option.bind_some, cmd]
            rw [if_neg (fun h => h2 h.1), if_pos ⟨d, c⟩]
            rfl
        | cons e s =>
          rw [if_neg (by simp; omega), order_command.j3, if_neg (by decide)]
          exact hun rfl
    · rw [if_neg d]
      refine hun ?_
      cases r with
      | nil =>
        simp only [cmd]
        rw [if_neg h1, if_neg h2, if_neg h3]
        have e : jn [a] = a := Lib.join_one a [32]
        rw [e]
      | cons b s =>
        cases s with
        | nil =>
          simp only [cmd]
          rw [if_neg (fun h => h2 h.1), if_neg (fun h => d h.1)]
        | cons e s => rfl
def lineW (s : ByteArray) : List Bytes := splitW (fold (clean s)) []
theorem sum_tail (l : List Bytes) : (Lib.joinTail [32] l).length = (l.map List.length).sum + l.length := by
  induction l with
  | nil => rfl
  | cons x l ih =>
    have e : Lib.joinTail [32] (x :: l) = 32 :: (x ++ Lib.joinTail [32] l) := by simp [Lib.joinTail]
    rw [e]
    simp [ih]
    omega
theorem jn_length (l : List Bytes) : (jn l).length ≤ (l.map List.length).sum + l.length := by
  cases l with
  | nil => simp [jn, Lib.join_nil]
  | cons x r =>
    have e : jn (x :: r) = x ++ Lib.joinTail [32] r := Lib.join_cons x r [32]
    rw [e, List.length_append, sum_tail]
    simp
    omega
theorem lineW_size (s : ByteArray) : (lineW s).length ≤ 4 * s.size + 1 ∧ (jn (lineW s)).length ≤ 4 * s.size + 1 := by
  have h1 := splitW_total (fold (clean s)) []
  have h2 := jn_length (lineW s)
  have h3 := clean_length s
  have h4 := fold_length (clean s)
  unfold lineW at h2 ⊢
  simp at h1
  omega
theorem words_is (s : ByteArray) (hs : s.size ≤ 20000000) : order_words.f s = some ((lineW s).map str) := by
  have h3 := clean_length s
  have h4 := fold_length (clean s)
  unfold order_words.f glyph_Clean.f
  rw [if_pos (by omega)]
  simp only [Option.bind_some]
  unfold glyph_Fold.f
  rw [if_pos (by rw [str_size]; omega)]
  simp only [Option.bind_some]
  unfold glyph_Words.f
  rw [if_pos (by rw [str_size, str_data]; omega)]
  simp only [Option.bind_some]
  rw [words_split, bs_str, str_data]
  rfl
theorem line_is (s : ByteArray) (hs : s.size ≤ 1000000) (k : Nat) (hk : 40 < k) : order_Line.f k s = some (cmd (lineW s)) := by
  have h := lineW_size s
  unfold order_Line.f
  rw [words_is s (by omega)]
  simp only [Option.bind_some]
  rw [command_is _ (by omega) (by omega) k hk]
  rfl
def showC (o m : Int) (t : ByteArray) (b : Bytes) : ByteArray :=
  if o = 1 then str [104, 101, 108, 112] else if o = 3 then str [108, 101, 97, 118, 101] else if o = 2 ∧ b ≠ [] then str [106, 111, 105, 110, 32] ++ str b
  else if o = 4 ∧ b ≠ [] then str [115, 101, 116, 32] ++ str b else t
theorem show_is (o m : Int) (t : ByteArray) (b : Bytes) (hb : roster_Word.f m = some (str b)) (hl : b.length ≤ 6) (k : Nat) (hk : 1 < k) : order_Show.f k o m t = some (showC o m t b) := by
  obtain ⟨k, rfl⟩ : ∃ m, k = m + 1 := ⟨k - 1, by omega⟩
  unfold order_Show.f showC
  rw [hb]
  simp only [Option.bind_some, order_Show.j0, toList_str]
  have hz : (str b).size = b.length := str_size b
  by_cases a : o = 1
  · rw [if_pos a, if_pos a]; rfl
  rw [if_neg a, if_neg a]
  by_cases a3 : o = 3
  · rw [if_pos a3, if_pos a3]; rfl
  rw [if_neg a3, if_neg a3]
  by_cases a2 : o = 2
  · rw [if_pos a2]
    by_cases c : b = []
    · rw [if_neg (by simp [c]), if_neg (by omega), if_neg (fun h => h.2 c), if_neg (fun h => h.2 c)]
    · rw [if_pos (by simp [c]), if_pos (by omega), if_pos ⟨a2, c⟩]; rfl
  · have n2 : ¬ (o = 2 ∧ b ≠ []) := fun h => a2 h.1
    rw [if_neg a2, if_neg (by decide), if_neg n2]
    by_cases a4 : o = 4
    · rw [if_pos a4]
      by_cases c : b = []
      · have n4 : ¬ (o = 4 ∧ b ≠ []) := fun h => h.2 c
        rw [if_pos c, if_neg n4]
      · rw [if_neg c, if_pos (by omega), if_pos ⟨a4, c⟩]; rfl
    · have n4 : ¬ (o = 4 ∧ b ≠ []) := fun h => a4 h.1
      rw [if_neg a4, if_neg n4]
set_option maxRecDepth 100000 in
theorem works1 : cmd (lineW (⟨#[32, 83, 117, 98, 115, 99, 114, 105, 98, 101, 32, 32, 100, 105, 103, 101, 115, 116]⟩ : ByteArray)) = (2, 2, str []) := by decide +kernel
set_option maxRecDepth 100000 in
theorem works2 : (cmd (lineW (⟨#[119, 104, 97, 116]⟩ : ByteArray))).1 = 5 := by decide +kernel
theorem works_is (k : Nat) (hk : 40 < k) : bulletinlaw35_works.f k = some true := by
  unfold bulletinlaw35_works.f
  rw [line_is _ (by decide) k hk, works1]
  simp only [Option.bind_some, if_true]
  rw [toList_str, if_pos rfl, show_is 2 2 (str []) _ rw2 (by decide) k (by omega)]
  simp only [Option.bind_some]
  rw [show showC 2 2 (str []) [100, 105, 103, 101, 115, 116] = str [106, 111, 105, 110, 32, 100, 105, 103, 101, 115, 116] from rfl, toList_str, if_pos rfl, line_is _ (by decide) k hk]
  simp only [Option.bind_some]
  rw [works2]
  rfl
end Go.Proofs.YtihabmcaplnbcaaDoor.Pl
set_option linter.unusedVariables false
namespace Go.Proofs.YtihabmcaplnbcaaDoor.Pl
open Go.RowKit Go.Proofs.YtihabmcaplnbcaaDoorW.PrintWords

/-! Count, Valid, Clip of a text of good signs. -/
theorem enc_app (a b : List Nat) : enc (a ++ b) = enc a ++ enc b := by simp [enc]
theorem enc_cons (r : Nat) (b : List Nat) : enc (r :: b) = er r ++ enc b := by simp [enc]
end Go.Proofs.YtihabmcaplnbcaaDoor.Pl
set_option linter.unusedVariables false
set_option linter.unusedSimpArgs false
namespace Go.Proofs.YtihabmcaplnbcaaDoor.Pl
open Go.RowKit Go.Proofs.YtihabmcaplnbcaaDoorW.PrintWords

/-! A line's words as texts of good signs: cleaned, folded, cut, joined. -/
theorem er_low (r : Nat) (h : r < 128) : er r = [UInt8.ofNat r] := by
  unfold er Lib.encodeRune
  rw [Lib.encodeRuneZ_one (by omega) (by omega)]
  rfl
def n2 : List Nat → Prop
  | a :: b :: r => ¬ (a = 32 ∧ b = 32) ∧ n2 (b :: r)
  | _ => True
def b2 : Bytes → Prop
  | a :: b :: r => ¬ (a = 32 ∧ b = 32) ∧ b2 (b :: r)
  | _ => True
end Go.Proofs.YtihabmcaplnbcaaDoor.Pl
namespace Go.Proofs.YtihabmcaplnbcaaDoor.Fn
open Go.RowKit Go.Proofs.YtihabmcaplnbcaaDoorW.PrintWords Go.Proofs.YtihabmcaplnbcaaDoorW.PrintLast Go.Proofs.YtihabmcaplnbcaaDoorW.PrintMore
attribute [local go_sem] max2_int min2_int max_two min_two max_three min_three max_four min_four
set_option linter.unusedVariables false
set_option linter.unusedSimpArgs false

/-! ### lex_text: function 141 -/
def lex_text.f (a0 : Int) : Option (Bool) := if a0 = 9 then (some true) else (if a0 ≥ 32 then (some (a0 != 127)) else (some false))
end Go.Proofs.YtihabmcaplnbcaaDoor.Fn
set_option linter.unusedVariables false
namespace Go.Proofs.YtihabmcaplnbcaaDoor.Fn
open Go.RowKit Go.Proofs.YtihabmcaplnbcaaDoorW.PrintWords

def strings_IndexByte.f (a0 : ByteArray) (a1 : Int) : Option Int := some (Lib.indexByte a0.data.toList a1.toNat.toUInt8)
theorem strings_IndexByte.calls (a0 : ByteArray) (a1 : Int) (r : Int) (w : World) (h : strings_IndexByte.f a0 a1 = some r) :
    Calls Tryd.prog 142 #[.string a0, .int .u8 a1] w fun e w' => e = .returned (.int .i64 r) ∧ Drawn0 w w' := by
  unfold strings_IndexByte.f at h
  have HR := Option.some.inj h
  subst HR
  refine (Tryd.strings_IndexByte a0 a1 w).mono ?_
  rintro e w' ⟨rfl, rfl⟩
  exact ⟨rfl, Drawn0.refl _⟩
end Go.Proofs.YtihabmcaplnbcaaDoor.Fn
namespace Go.Proofs.YtihabmcaplnbcaaDoor.Fn
open Go.RowKit Go.Proofs.YtihabmcaplnbcaaDoorW.PrintWords Go.Proofs.YtihabmcaplnbcaaDoorW.PrintLast Go.Proofs.YtihabmcaplnbcaaDoorW.PrintMore
attribute [local go_sem] max2_int min2_int max_two min_two max_three min_three max_four min_four
set_option linter.unusedVariables false
set_option linter.unusedSimpArgs false

/-! ### lex_atomic: function 116 -/
def lex_atomic.f (a0 : Int) : Option (Bool) := if a0 ≥ 97 then (if a0 ≤ 122 then (some true) else (if a0 ≥ 65 then (if a0 ≤ 90 then (some true) else (if a0 ≥ 48 then (if a0 ≤ 57 then (some true) else (if a0 > 127 then (some true) else ((strings_IndexByte.f (⟨#[33, 35, 36, 37, 38, 39, 42, 43, 45, 47, 61, 63, 94, 95, 96, 123, 124, 125, 126]⟩ : ByteArray) a0).bind fun t101 => (some (decide (t101 ≥ 0)))))) else (if a0 > 127 then (some true) else ((strings_IndexByte.f (⟨#[33, 35, 36, 37, 38, 39, 42, 43, 45, 47, 61, 63, 94, 95, 96, 123, 124, 125, 126]⟩ : ByteArray) a0).bind fun t102 => (some (decide (t102 ≥ 0))))))) else (if a0 ≥ 48 then (if a0 ≤ 57 then (some true) else (if a0 > 127 then (some true) else ((strings_IndexByte.f (⟨#[33, 35, 36, 37, 38, 39, 42, 43, 45, 47, 61, 63, 94, 95, 96, 123, 124, 125, 126]⟩ : ByteArray) a0).bind fun t103 => (some (decide (t103 ≥ 0)))))) else (if a0 > 127 then (some true) else ((strings_IndexByte.f (⟨#[33, 35, 36, 37, 38, 39, 42, 43, 45, 47, 61, 63, 94, 95, 96, 123, 124, 125, 126]⟩ : ByteArray) a0).bind fun t104 => (some (decide (t104 ≥ 0)))))))) else (if a0 ≥ 65 then (if a0 ≤ 90 then (some true) else (if a0 ≥ 48 then (if a0 ≤ 57 then (some true) else (if a0 > 127 then (some true) else ((strings_IndexByte.f (⟨#[33, 35, 36, 37, 38, 39, 42, 43, 45, 47, 61, 63, 94, 95, 96, 123, 124, 125, 126]⟩ : ByteArray) a0).bind fun t105 => (some (decide (t105 ≥ 0)))))) else (if a0 > 127 then (some true) else ((strings_IndexByte.f (⟨#[33, 35, 36, 37, 38, 39, 42, 43, 45, 47, 61, 63, 94, 95, 96, 123, 124, 125, 126]⟩ : ByteArray) a0).bind fun t106 => (some (decide (t106 ≥ 0))))))) else (if a0 ≥ 48 then (if a0 ≤ 57 then (some true) else (if a0 > 127 then (some true) else ((strings_IndexByte.f (⟨#[33, 35, 36, 37, 38, 39, 42, 43, 45, 47, 61, 63, 94, 95, 96, 123, 124, 125, 126]⟩ : ByteArray) a0).bind fun t107 => (some (decide (t107 ≥ 0)))))) else (if a0 > 127 then (some true) else ((strings_IndexByte.f (⟨#[33, 35, 36, 37, 38, 39, 42, 43, 45, 47, 61, 63, 94, 95, 96, 123, 124, 125, 126]⟩ : ByteArray) a0).bind fun t108 => (some (decide (t108 ≥ 0)))))))
end Go.Proofs.YtihabmcaplnbcaaDoor.Fn
namespace Go.Proofs.YtihabmcaplnbcaaDoor.Fn
open Go.RowKit Go.Proofs.YtihabmcaplnbcaaDoorW.PrintWords Go.Proofs.YtihabmcaplnbcaaDoorW.PrintLast Go.Proofs.YtihabmcaplnbcaaDoorW.PrintMore
attribute [local go_sem] max2_int min2_int max_two min_two max_three min_three max_four min_four
set_option linter.unusedVariables false
set_option linter.unusedSimpArgs false

/-! ### lex_IsAtom: function 138 -/
end Go.Proofs.YtihabmcaplnbcaaDoor.Fn
namespace Go.Proofs.YtihabmcaplnbcaaDoor.Fn
open Go.RowKit Go.Proofs.YtihabmcaplnbcaaDoorW.PrintWords Go.Proofs.YtihabmcaplnbcaaDoorW.PrintLast Go.Proofs.YtihabmcaplnbcaaDoorW.PrintMore
attribute [local go_sem] max2_int min2_int max_two min_two max_three min_three max_four min_four
set_option linter.unusedVariables false
set_option linter.unusedSimpArgs false

/-! ### bulletinref12_among: function 79 -/
end Go.Proofs.YtihabmcaplnbcaaDoor.Fn
namespace Go.Proofs.YtihabmcaplnbcaaDoor.Fn
open Go.RowKit Go.Proofs.YtihabmcaplnbcaaDoorW.PrintWords Go.Proofs.YtihabmcaplnbcaaDoorW.PrintLast Go.Proofs.YtihabmcaplnbcaaDoorW.PrintMore
attribute [local go_sem] max2_int min2_int max_two min_two max_three min_three max_four min_four
set_option linter.unusedVariables false
set_option linter.unusedSimpArgs false

/-! ### bulletinref12_atomic: function 78 -/
end Go.Proofs.YtihabmcaplnbcaaDoor.Fn
namespace Go.Proofs.YtihabmcaplnbcaaDoor.Fn
open Go.RowKit Go.Proofs.YtihabmcaplnbcaaDoorW.PrintWords Go.Proofs.YtihabmcaplnbcaaDoorW.PrintLast Go.Proofs.YtihabmcaplnbcaaDoorW.PrintMore
attribute [local go_sem] max2_int min2_int max_two min_two max_three min_three max_four min_four
set_option linter.unusedVariables false
set_option linter.unusedSimpArgs false

/-! ### bulletinref12_IsAtom: function 166 -/
end Go.Proofs.YtihabmcaplnbcaaDoor.Fn
set_option linter.unusedVariables false
namespace Go.Proofs.YtihabmcaplnbcaaDoor.Pl
open Go.RowKit Go.Proofs.YtihabmcaplnbcaaDoorW.PrintWords Go.Proofs.YtihabmcaplnbcaaDoor.Fn

/-! Layer 12, the program's and the document's: which bytes are atomic; atoms. -/
def atomic (c : UInt8) : Bool := (lex_atomic.f (c.toNat : Int)).getD false
end Go.Proofs.YtihabmcaplnbcaaDoor.Pl
namespace Go.Proofs.YtihabmcaplnbcaaDoor.Fn
open Go.RowKit Go.Proofs.YtihabmcaplnbcaaDoorW.PrintWords Go.Proofs.YtihabmcaplnbcaaDoorW.PrintLast Go.Proofs.YtihabmcaplnbcaaDoorW.PrintMore
attribute [local go_sem] max2_int min2_int max_two min_two max_three min_three max_four min_four
set_option linter.unusedVariables false
set_option linter.unusedSimpArgs false

/-! ### addr_labelled: function 182 -/
def addr_labelled.f (a0 : Int) : Option (Bool) := if a0 ≥ 97 then (if a0 ≤ 122 then (some true) else (if a0 ≥ 65 then (if a0 ≤ 90 then (some true) else (if a0 ≥ 48 then (if a0 ≤ 57 then (some true) else (some (a0 == 45))) else (some (a0 == 45)))) else (if a0 ≥ 48 then (if a0 ≤ 57 then (some true) else (some (a0 == 45))) else (some (a0 == 45))))) else (if a0 ≥ 65 then (if a0 ≤ 90 then (some true) else (if a0 ≥ 48 then (if a0 ≤ 57 then (some true) else (some (a0 == 45))) else (some (a0 == 45)))) else (if a0 ≥ 48 then (if a0 ≤ 57 then (some true) else (some (a0 == 45))) else (some (a0 == 45))))
end Go.Proofs.YtihabmcaplnbcaaDoor.Fn
namespace Go.Proofs.YtihabmcaplnbcaaDoor.Fn
open Go.RowKit Go.Proofs.YtihabmcaplnbcaaDoorW.PrintWords Go.Proofs.YtihabmcaplnbcaaDoorW.PrintLast Go.Proofs.YtihabmcaplnbcaaDoorW.PrintMore
attribute [local go_sem] max2_int min2_int max_two min_two max_three min_three max_four min_four
set_option linter.unusedVariables false
set_option linter.unusedSimpArgs false

/-! ### addr_label: function 179 -/
end Go.Proofs.YtihabmcaplnbcaaDoor.Fn
set_option linter.unusedVariables false
namespace Go.Proofs.YtihabmcaplnbcaaDoor.Pl
open Go.RowKit Go.Proofs.YtihabmcaplnbcaaDoorW.PrintWords Go.Proofs.YtihabmcaplnbcaaDoor.Fn

/-! Layer 13, the program's: labels. -/
def labelled (c : UInt8) : Bool := (addr_labelled.f (c.toNat : Int)).getD false
def labelL (l : Bytes) : Bool := l.all labelled && (match l.head?, l.getLast? with | some a, some b => a != 45 && b != 45 | _, _ => false)
def label (s : ByteArray) : Bool := labelL (bs s)
end Go.Proofs.YtihabmcaplnbcaaDoor.Pl
set_option linter.unusedVariables false
namespace Go.Proofs.YtihabmcaplnbcaaDoor.Fn
open Go.RowKit Go.Shelf

/-! strings.SplitSeq: its iterator keeps what is left of the text in a cell of its own. -/

def cutsN (find : ByteArray → Int) (L : Nat) : Nat → ByteArray → List ByteArray
  | 0, s => [s]
  | k + 1, s => if find s < 0 then [s] else s.extract 0 (find s).toNat :: cutsN find L k (s.extract ((find s).toNat + L) s.size)
def cuts (find : ByteArray → Int) (L : Nat) (s : ByteArray) : List ByteArray := cutsN find L s.size s

structure Finds (find : ByteArray → Int) (L : Nat) : Prop where
  pos : 1 ≤ L
  fits : ∀ s, 0 ≤ find s → (find s).toNat + L ≤ s.size

def KeptD (D : Nat → Prop) (A B : World) : Prop := ∀ b, D b → B.heap[b]? = A.heap[b]?
theorem KeptD.refl (D : Nat → Prop) (A : World) : KeptD D A A := fun _ _ => rfl
theorem KeptD.trans {D : Nat → Prop} {A B C : World} (h : KeptD D A B) (k : KeptD D B C) : KeptD D A C := fun b hb => (k b hb).trans (h b hb)
theorem KeptD.cell {D : Nat → Prop} {A B : World} (h : KeptD D A B) {p : Addr} (hp : D p.block) : B.cell? p = A.cell? p := World.cell?_of_block (h p.block hp)
theorem KeptD.frozen {D : Nat → Prop} {A B : World} (h : KeptD D A B) {p : Addr} (hp : D p.block) : B.frozen? p = A.frozen? p := World.frozen?_of_block (h p.block hp)
theorem KeptD.of_below {D : Nat → Prop} {n : Nat} {A B : World} (h : Below n A B) (hD : ∀ b, D b → b < n) : KeptD D A B := fun b hb => h.block b (hD b hb)
theorem KeepsOthers.of_below {A B : World} (h : Below A.heap.size A B) : KeepsOthers A B := ⟨h.size, fun k o hk _ => (h.block k (Array.getElem?_eq_some_iff.1 hk).1).trans hk⟩

attribute [local go_sem] Oper.semAt_some

end Go.Proofs.YtihabmcaplnbcaaDoor.Fn
set_option linter.unusedVariables false
namespace Go.Proofs.YtihabmcaplnbcaaDoor.Fn
open Go.RowKit Go.Shelf

structure SplitBoxes (bs : Nat) (s sep : ByteArray) (w : World) : Prop where
  text : w.cell? ⟨bs, 0, none⟩ = some (.string s)
  free : w.frozen? ⟨bs, 0, none⟩ = false
  sep : w.cell? ⟨bs + 1, 0, none⟩ = some (.string sep)
  zero : w.cell? ⟨bs + 2, 0, none⟩ = some (.int .i64 0)

def findOne (c : UInt8) (t : ByteArray) : Int := Lib.indexByte t.data.toList c
end Go.Proofs.YtihabmcaplnbcaaDoor.Fn
set_option linter.unusedVariables false
namespace Go.Proofs.YtihabmcaplnbcaaDoor.Pl
def dots (s : ByteArray) : List ByteArray := Fn.cuts (Fn.findOne 46) 1 s
end Go.Proofs.YtihabmcaplnbcaaDoor.Pl
namespace Go.Proofs.YtihabmcaplnbcaaDoor.Fn
open Go.RowKit Go.Shelf Go.Proofs.YtihabmcaplnbcaaDoorW.PrintWords

attribute [local go_sem] Oper.semAt_some

end Go.Proofs.YtihabmcaplnbcaaDoor.Fn
set_option linter.unusedVariables false
namespace Go.Proofs.YtihabmcaplnbcaaDoor.Pl
def domLong (s : ByteArray) (l : List ByteArray) : Bool := decide (253 < (s.size : Int)) || l.any (fun x => decide (63 < (x.size : Int)))
def domain (s : ByteArray) : Int := if (dots s).all label = true then (if domLong s (dots s) = true then 2 else 0) else 130
end Go.Proofs.YtihabmcaplnbcaaDoor.Pl
namespace Go.Proofs.YtihabmcaplnbcaaDoor.Fn
open Go.RowKit Go.Shelf Go.Proofs.YtihabmcaplnbcaaDoorW.PrintWords

attribute [local go_sem] Oper.semAt_some

end Go.Proofs.YtihabmcaplnbcaaDoor.Fn
namespace Go.Proofs.YtihabmcaplnbcaaDoor.Fn
open Go.RowKit Go.Proofs.YtihabmcaplnbcaaDoorW.PrintWords Go.Proofs.YtihabmcaplnbcaaDoorW.PrintLast Go.Proofs.YtihabmcaplnbcaaDoorW.PrintMore
attribute [local go_sem] max2_int min2_int max_two min_two max_three min_three max_four min_four
set_option linter.unusedVariables false
set_option linter.unusedSimpArgs false

/-! ### lex_Quote: function 136 -/
mutual
def lex_Quote.l0 : Nat → ByteArray → List Int → Int → Int → Option (ByteArray)
 | 0, _, _, _, _ => none
 | k + 1, x0, x3, x8, x9 => if x9 < x8 then (if 0 ≤ x9 then (if x9 < (x0.size : Int) then (if (bt x0 x9) = 34 then (lex_Quote.j1 k x0 x3 (bt x0 x9) x8 x9 true) else (lex_Quote.j1 k x0 x3 (bt x0 x9) x8 x9 ((bt x0 x9) == 92))) else (none)) else (none)) else (if x3.length < 140737488355328 then (some (strOfNums (x3 ++ [34]))) else (none))
def lex_Quote.j1 : Nat → ByteArray → List Int → Int → Int → Int → Bool → Option (ByteArray)
 | 0, _, _, _, _, _, _ => none
 | k + 1, x0, x3, x5, x8, x9, x15 => if x15 = true then (if x3.length < 140737488355328 then ((some (x3 ++ [92] : List Int)).bind fun y116 => (if y116.length < 140737488355328 then (lex_Quote.l0 k x0 (y116 ++ [x5]) x8 (wrap64 (x9 + 1))) else (none))) else (none)) else ((lex_text.f x5).bind fun t122 => (if t122 = true then (if x3.length < 140737488355328 then (lex_Quote.l0 k x0 (x3 ++ [x5]) x8 (wrap64 (x9 + 1))) else (none)) else (if x3.length < 140737488355328 then (lex_Quote.l0 k x0 (x3 ++ [32]) x8 (wrap64 (x9 + 1))) else (none))))
end
end Go.Proofs.YtihabmcaplnbcaaDoor.Fn
namespace Go.Proofs.YtihabmcaplnbcaaDoor.Fn
open Go.RowKit Go.Proofs.YtihabmcaplnbcaaDoorW.PrintWords Go.Proofs.YtihabmcaplnbcaaDoorW.PrintLast Go.Proofs.YtihabmcaplnbcaaDoorW.PrintMore
attribute [local go_sem] max2_int min2_int max_two min_two max_three min_three max_four min_four
set_option linter.unusedVariables false
set_option linter.unusedSimpArgs false

/-! ### addr_Addr_Text: function 108 -/
end Go.Proofs.YtihabmcaplnbcaaDoor.Fn
namespace Go.Proofs.YtihabmcaplnbcaaDoor.Fn
open Go.RowKit Go.Proofs.YtihabmcaplnbcaaDoorW.PrintWords Go.Proofs.YtihabmcaplnbcaaDoorW.PrintLast Go.Proofs.YtihabmcaplnbcaaDoorW.PrintMore
attribute [local go_sem] max2_int min2_int max_two min_two max_three min_three max_four min_four
set_option linter.unusedVariables false
set_option linter.unusedSimpArgs false

/-! ### addr_why: function 165 -/
end Go.Proofs.YtihabmcaplnbcaaDoor.Fn
set_option linter.unusedVariables false
namespace Go.Proofs.YtihabmcaplnbcaaDoor.Pl
open Go.RowKit Go.Proofs.YtihabmcaplnbcaaDoorW.PrintWords Go.Proofs.YtihabmcaplnbcaaDoor.Fn

/-! Layer 13, the program's, over lists of bytes. -/
theorem mono_up {α : Type} {f : Nat → Option α} (h : ∀ k, LeO (f k) (f (k + 1))) {r : α} {k : Nat} (hr : f k = some r) : ∀ (k' : Nat), k ≤ k' → f k' = some r := by
  intro k' hk
  obtain ⟨d, rfl⟩ : ∃ d, k' = k + d := ⟨k' - k, by omega⟩
  clear hk
  induction d with
  | zero => exact hr
  | succ d ih => exact h (k + d) r ih

def splitL (c : UInt8) : Bytes → List Bytes
  | [] => [[]]
  | x :: l => if x = c then [] :: splitL c l else match splitL c l with
    | [] => [[x]]
    | w :: r => (x :: w) :: r
def atomL (w : Bytes) : Bool := w.all atomic && !w.isEmpty
def dottedL (l : Bytes) : Bool := (splitL 46 l).all atomL
/-! Quote -/
def text (c : UInt8) : Bool := (lex_text.f (c.toNat : Int)).getD false
def qB (c : UInt8) : Bytes := if c = 34 ∨ c = 92 then [92, c] else if text c = true then [c] else [32]
def quote (l : Bytes) : Bytes := 34 :: (l.flatMap qB ++ [34])
/-! Text, Key, why, Right -/
def localL (a : Bytes) : Bytes := if dottedL a = true then a else quote a
def textL (a b : Bytes) : Bytes := localL a ++ 64 :: b
def why (a b : ByteArray) : Int :=
  if domain b = 130 ∨ bs a = [] ∨ plain a = false then 130
  else if domain b ≠ 0 ∨ 64 < a.size ∨ 254 < (textL (bs a) (bs b)).length then 2 else 0
end Go.Proofs.YtihabmcaplnbcaaDoor.Pl
set_option linter.unusedVariables false
namespace Go.Proofs.YtihabmcaplnbcaaDoor.Pl
open Go.RowKit Go.Proofs.YtihabmcaplnbcaaDoorW.PrintWords Go.Proofs.YtihabmcaplnbcaaDoor.Fn

/-! Capital letters, dots, quotes and the sign @. -/
theorem forall_byte {p : UInt8 → Prop} [DecidablePred p] (h : ∀ i : Fin 256, p (UInt8.ofNat i.val)) (c : UInt8) : p c := by
  have := h ⟨c.toNat, c.toNat_lt⟩
  simpa using this
/-! plain: of all bytes -/
end Go.Proofs.YtihabmcaplnbcaaDoor.Pl
set_option linter.unusedVariables false
set_option linter.unusedSimpArgs false
namespace Go.Proofs.YtihabmcaplnbcaaDoor.Pl
open Go.RowKit Go.Proofs.YtihabmcaplnbcaaDoorW.PrintWords

/-! Layer 19: what is encoded is decoded as it was. -/
/-! The words of an encoded text. -/
/-! A text without =? is read as it is. -/
/-! The signs of a text. -/
theorem raw_ok (s : ByteArray) : ∀ n i, ∀ r ∈ rawFrom s n i, okR r
  | 0, i => by simp [rawFrom]
  | n + 1, i => by
    intro r hr
    rw [rawFrom] at hr
    split at hr
    · rcases List.mem_cons.1 hr with rfl | hr
      · exact sign_valid s i
      · exact raw_ok s n _ r hr
    · simp at hr
theorem get_eq {s : ByteArray} {pos : Nat} (h : pos < s.size) : (bs s).drop pos = (s.get! pos) :: (bs s).drop (pos + 1) := drop_get s pos h
theorem u8_eq (b : UInt8) (x : Int) (h : x = (b.toNat : Int)) : x.toNat.toUInt8 = b := by
  subst h
  show UInt8.ofNat ((b.toNat : Int)).toNat = b
  simp
theorem er_one {r : Nat} (h : r ≤ 127) : er r = [((r : Int)).toNat.toUInt8] := by unfold er Lib.encodeRune; rw [Lib.encodeRuneZ_one (by omega) (by omega)]; rfl
theorem er_two {r : Nat} (h0 : 128 ≤ r) (h1 : r ≤ 2047) : er r = [(192 + (r : Int) / 64).toNat.toUInt8, (128 + (r : Int) % 64).toNat.toUInt8] := by unfold er Lib.encodeRune; rw [Lib.encodeRuneZ_two (by omega) (by omega)]; rfl
theorem er_three {r : Nat} (h : (2048 ≤ r ∧ r < 55296) ∨ (57343 < r ∧ r ≤ 65535)) : er r = [(224 + (r : Int) / 4096).toNat.toUInt8, (128 + (r : Int) / 64 % 64).toNat.toUInt8, (128 + (r : Int) % 64).toNat.toUInt8] := by unfold er Lib.encodeRune; rw [Lib.encodeRuneZ_three (by omega)]; rfl
theorem er_four {r : Nat} (h0 : 65536 ≤ r) (h1 : r ≤ 1114111) : er r = [(240 + (r : Int) / 262144).toNat.toUInt8, (128 + (r : Int) / 4096 % 64).toNat.toUInt8, (128 + (r : Int) / 64 % 64).toNat.toUInt8, (128 + (r : Int) % 64).toNat.toUInt8] := by unfold er Lib.encodeRune; rw [Lib.encodeRuneZ_four (by omega) (by omega)]; rfl
theorem dec_take (s : ByteArray) (pos : Nat) (h : pos < s.size) (hb : badAt s pos = false) : (bs s).drop pos = er (Utf8.decode s pos).1 ++ (bs s).drop (pos + (Utf8.decode s pos).2) := by
  have g0 := get_lt s pos
  have g1 := get_lt s (pos + 1)
  have g2 := get_lt s (pos + 2)
  have g3 := get_lt s (pos + 3)
  unfold badAt at hb
  rw [get_eq h]
  rw [Lib.decode_at] at hb ⊢
  unfold Lib.decodeN at hb ⊢
  by_cases c0 : (s.get! pos).toNat < 128
  · rw [if_pos c0]
    simp only []
    rw [er_one (by omega), u8_eq (s.get! pos) _ rfl]
    rfl
  · rw [if_neg c0] at hb ⊢
    by_cases c1 : (s.get! pos).toNat / 32 = 6 ∧ (1 < s.size - pos ∧ (s.get! (pos + 1)).toNat / 64 = 2)
    · rw [if_pos c1] at hb ⊢
      by_cases d1 : (s.get! pos).toNat % 32 * 64 + (s.get! (pos + 1)).toNat % 64 ≥ 128
      · rw [if_pos d1]
        simp only []
        rw [er_two (by omega) (by omega), get_eq (s := s) (pos := pos + 1) (by omega), u8_eq (s.get! pos) _ (by omega), u8_eq (s.get! (pos + 1)) _ (by omega)]
        rfl
      · rw [if_neg d1] at hb
        simp at hb
    · rw [if_neg c1] at hb ⊢
      by_cases c2 : (s.get! pos).toNat / 16 = 14 ∧ (1 < s.size - pos ∧ (s.get! (pos + 1)).toNat / 64 = 2) ∧ (2 < s.size - pos ∧ (s.get! (pos + 2)).toNat / 64 = 2)
      · rw [if_pos c2] at hb ⊢
        by_cases d1 : (s.get! pos).toNat % 16 * 4096 + (s.get! (pos + 1)).toNat % 64 * 64 + (s.get! (pos + 2)).toNat % 64 ≥ 2048 ∧ ((s.get! pos).toNat % 16 * 4096 + (s.get! (pos + 1)).toNat % 64 * 64 + (s.get! (pos + 2)).toNat % 64 < 55296 ∨ (57344 ≤ (s.get! pos).toNat % 16 * 4096 + (s.get! (pos + 1)).toNat % 64 * 64 + (s.get! (pos + 2)).toNat % 64 ∧ (s.get! pos).toNat % 16 * 4096 + (s.get! (pos + 1)).toNat % 64 * 64 + (s.get! (pos + 2)).toNat % 64 ≤ 1114111))
        · rw [if_pos d1]
          simp only []
          rw [er_three (by omega), get_eq (s := s) (pos := pos + 1) (by omega), get_eq (s := s) (pos := pos + 1 + 1) (by omega), u8_eq (s.get! pos) _ (by omega), u8_eq (s.get! (pos + 1)) _ (by omega), u8_eq (s.get! (pos + 2)) _ (by omega)]
          rfl
        · rw [if_neg d1] at hb
          simp at hb
      · rw [if_neg c2] at hb ⊢
        by_cases c3 : (s.get! pos).toNat / 8 = 30 ∧ (1 < s.size - pos ∧ (s.get! (pos + 1)).toNat / 64 = 2) ∧ (2 < s.size - pos ∧ (s.get! (pos + 2)).toNat / 64 = 2) ∧ (3 < s.size - pos ∧ (s.get! (pos + 3)).toNat / 64 = 2)
        · rw [if_pos c3] at hb ⊢
          by_cases d1 : (s.get! pos).toNat % 8 * 262144 + (s.get! (pos + 1)).toNat % 64 * 4096 + (s.get! (pos + 2)).toNat % 64 * 64 + (s.get! (pos + 3)).toNat % 64 ≥ 65536 ∧ ((s.get! pos).toNat % 8 * 262144 + (s.get! (pos + 1)).toNat % 64 * 4096 + (s.get! (pos + 2)).toNat % 64 * 64 + (s.get! (pos + 3)).toNat % 64 < 55296 ∨ (57344 ≤ (s.get! pos).toNat % 8 * 262144 + (s.get! (pos + 1)).toNat % 64 * 4096 + (s.get! (pos + 2)).toNat % 64 * 64 + (s.get! (pos + 3)).toNat % 64 ∧ (s.get! pos).toNat % 8 * 262144 + (s.get! (pos + 1)).toNat % 64 * 4096 + (s.get! (pos + 2)).toNat % 64 * 64 + (s.get! (pos + 3)).toNat % 64 ≤ 1114111))
          · rw [if_pos d1]
            simp only []
            obtain ⟨v, hv⟩ : ∃ v, (s.get! pos).toNat % 8 * 262144 + (s.get! (pos + 1)).toNat % 64 * 4096 + (s.get! (pos + 2)).toNat % 64 * 64 + (s.get! (pos + 3)).toNat % 64 = v := ⟨_, rfl⟩
            rw [hv] at d1 ⊢
            rw [er_four (by omega) (by omega), get_eq (s := s) (pos := pos + 1) (by omega), get_eq (s := s) (pos := pos + 1 + 1) (by omega), get_eq (s := s) (pos := pos + 1 + 1 + 1) (by omega), u8_eq (s.get! pos) _ (by omega), u8_eq (s.get! (pos + 1)) _ (by omega), u8_eq (s.get! (pos + 2)) _ (by omega), u8_eq (s.get! (pos + 3)) _ (by omega)]
            rfl
          · rw [if_neg d1] at hb
            simp at hb
        · rw [if_neg c3] at hb
          simp at hb
theorem enc_valid (s : ByteArray) : ∀ (f pos : Nat), validFrom s f pos = true → s.size ≤ pos + f → enc (rawFrom s f pos) = (bs s).drop pos
  | 0, pos, _, hp => by
    rw [List.drop_of_length_le (by rw [bs_length]; omega)]
    rfl
  | f + 1, pos, hv, hp => by
    rw [validFrom] at hv
    rw [rawFrom]
    by_cases h : pos < s.size
    · rw [if_pos h] at hv ⊢
      have hw := width_pos s pos h
      unfold width at hw
      cases hb : badAt s pos with
      | true => rw [hb, if_pos rfl] at hv; cases hv
      | false =>
        rw [hb, if_neg (by decide)] at hv
        rw [enc_cons, enc_valid s f _ hv (by omega), ← dec_take s pos h hb]
    · rw [if_neg h, List.drop_of_length_le (by rw [bs_length]; omega)]
      rfl
theorem raw_valid {s : ByteArray} (h : valid s = true) : enc (rawFrom s s.size 0) = bs s := by
  rw [enc_valid s s.size 0 h (by omega)]
  rfl
end Go.Proofs.YtihabmcaplnbcaaDoor.Pl
set_option linter.unusedVariables false
set_option linter.unusedSimpArgs false
namespace Go.Proofs.YtihabmcaplnbcaaDoor.Pl
open Go.RowKit Go.Proofs.YtihabmcaplnbcaaDoorW.PrintWords

/-! Layer 19: plain and short; valid stays valid. -/
/-! What is encoded is plain, and its words are short. -/
/-! Valid stays valid. -/
def V (l : Bytes) : Prop := ∃ rs, (∀ r ∈ rs, okR r) ∧ l = enc rs
theorem V_nil : V [] := ⟨[], by simp, rfl⟩
theorem V_app {a b : Bytes} (ha : V a) (hb : V b) : V (a ++ b) := by
  obtain ⟨x, hx, rfl⟩ := ha
  obtain ⟨y, hy, rfl⟩ := hb
  exact ⟨x ++ y, fun r hr => (List.mem_append.1 hr).elim (hx r) (hy r), (enc_app x y).symm⟩
theorem V_of_valid {s : ByteArray} (h : valid s = true) : V (bs s) := ⟨rawFrom s s.size 0, raw_ok s _ _, (raw_valid h).symm⟩
theorem upQ_some : ∀ {l a r : Bytes}, upQ l = some (a, r) → l = a ++ 63 :: r
  | [], a, r, h => by cases h
  | c :: l, a, r, h => by
    rw [upQ] at h
    by_cases hc : c = 63
    · rw [if_pos hc] at h
      injection h with h
      injection h with h1 h2
      rw [← h1, ← h2, hc]
      rfl
    · rw [if_neg hc] at h
      cases hu : upQ l with
      | none => rw [hu] at h; cases h
      | some x =>
        rw [hu] at h
        injection h with h
        injection h with h1 h2
        have := upQ_some (l := l) (a := x.1) (r := x.2) hu
        rw [← h1, ← h2, this]
        rfl
theorem V_ascii : ∀ l : Bytes, asciiL l = true → V l
  | [], _ => V_nil
  | c :: l, h => by
    have h' := h
    unfold asciiL at h
    rw [List.all_cons, Bool.and_eq_true, decide_eq_true_eq] at h
    have e : er c.toNat = [c] := by rw [er_low _ (by omega)]; simp
    exact V_app (a := [c]) ⟨[c.toNat], by simp [okR]; omega, by simp [enc, e]⟩ (V_ascii l h.2)
theorem V_iso : ∀ l : Bytes, V (l.flatMap fun c => er c.toNat)
  | [] => V_nil
  | c :: l => by
    rw [List.flatMap_cons]
    have := c.toNat_lt
    exact V_app ⟨[c.toNat], by simp [okR]; omega, by simp [enc]⟩ (V_iso l)
theorem V_signs {cs s x : Bytes} (h : signsL cs s = some x) : V x := by
  unfold signsL at h
  split at h
  · split at h
    · next h1 => injection h with h; rw [← h]; exact V_ascii s h1
    · cases h
  · split at h
    · split at h
      · next h1 =>
        injection h with h
        have := V_of_valid h1
        rw [bs_str] at this
        rw [← h]
        exact this
      · cases h
    · split at h
      · injection h with h
        rw [← h]
        exact V_iso s
      · cases h
theorem obind_some {α β : Type} {o : Option α} {f : α → Option β} {b : β} (h : o.bind f = some b) : ∃ a, o = some a ∧ f a = some b := by
  cases o with
  | none => cases h
  | some a => exact ⟨a, rfl, h⟩
theorem wordL_some {s x : Bytes} {n : Nat} (h : wordL s = some (x, n)) : V x ∧ (∃ r, s = 61 :: r) ∧ 7 ≤ n ∧ n ≤ 75 ∧ n ≤ s.length ∧ ∃ p, p.length + 1 = n ∧ s = p ++ 61 :: s.drop n := by
  unfold wordL at h
  by_cases h0 : s.take 2 = [61, 63]
  · rw [if_pos h0] at h
    obtain ⟨⟨a, r1⟩, ha, h⟩ := obind_some h
    obtain ⟨⟨k, r2⟩, hk, h⟩ := obind_some h
    obtain ⟨⟨t, r3⟩, ht, h⟩ := obind_some h
    by_cases h1 : (a ≠ [] ∧ solidL a = true ∧ solidL t = true ∧ r3.take 1 = [61]) ∧ ewN a k t ≤ 75
    · rw [if_pos h1] at h
      obtain ⟨b, hb, h⟩ := obind_some h
      obtain ⟨y, hy, h⟩ := obind_some h
      injection h with h
      injection h with e1 e2
      have q1 := upQ_some ha
      have q2 := upQ_some hk
      have q3 := upQ_some ht
      simp only [] at q1 q2 q3
      obtain ⟨z, rfl⟩ : ∃ z, r3 = 61 :: z := by
        cases r3 with
        | nil => simp at h1
        | cons c z => have := h1.1.2.2.2; simp at this; exact ⟨z, by rw [this]⟩
      have es : s = (61 :: 63 :: (a ++ 63 :: (k ++ 63 :: (t ++ [63])))) ++ 61 :: z := by
        have : s = s.take 2 ++ s.drop 2 := (List.take_append_drop 2 s).symm
        rw [h0, q1, q2, q3] at this
        rw [this]
        simp
      have hn : n = (61 :: 63 :: (a ++ 63 :: (k ++ 63 :: (t ++ [63])))).length + 1 := by
        rw [← e2]
        unfold ewN
        simp only [List.length_cons, List.length_append, List.length_nil]
        omega
      have hd : s.drop n = z := by
        rw [hn, ← List.drop_drop, es, List.drop_left]
        rfl
      have ha1 : 1 ≤ a.length := by
        cases a with
        | nil => exact absurd rfl h1.1.1
        | cons _ _ => simp
      refine ⟨by rw [← e1]; exact V_signs hy, ⟨_, es⟩, ?_, ?_, ?_, _, hn.symm, ?_⟩
      · rw [← e2]; unfold ewN; simp only []; omega
      · rw [← e2]; exact h1.2
      · have hl := congrArg List.length es
        rw [List.length_append, ← Nat.sub_eq_of_eq_add hn, List.length_cons] at hl
        omega
      · rw [hd]; exact es
    · rw [if_neg h1] at h; cases h
  · rw [if_neg h0] at h; cases h
theorem trimB_len (l : Bytes) : (trimB l).length ≤ l.length := (List.dropWhile_suffix _).length_le
end Go.Proofs.YtihabmcaplnbcaaDoor.Pl
set_option linter.unusedVariables false
namespace Go.Proofs.YtihabmcaplnbcaaDoor.Fn
open Go.RowKit Go.Proofs.YtihabmcaplnbcaaDoorW.PrintWords

/-! Bits of small numbers. -/
theorem i64_small (n : Int) (h0 : 0 ≤ n) (h1 : n < 2 ^ 62) : IntKind.i64.wrap n = n := by
  rw [i64w_]
  unfold wrap64
  have e : (2 : Int) ^ 62 = 4611686018427387904 := by decide
  omega
theorem or_i64 (i : Nat) (x y : Int) (hx0 : 0 ≤ x) (hx : x % 2 ^ i = 0) (hx1 : x < 2 ^ 62) (hy0 : 0 ≤ y) (hy : y < 2 ^ i) (hy1 : y < 2 ^ 62) : bits .or .i64 x y = x + y :=
  bits_join .i64 62 (by decide) i64_small i x y hx0 hx hx1 hy0 hy hy1
theorem and_i64 (i : Nat) (x : Int) (hi : i ≤ 61) (hx0 : 0 ≤ x) (hx1 : x < 2 ^ 62) : bits .and .i64 x (2 ^ i - 1) = x % 2 ^ i := by
  obtain ⟨a, rfl⟩ := Int.eq_ofNat_of_zero_le hx0
  have ha : a < 2 ^ 62 := by exact_mod_cast hx1
  have h2 : 2 ^ i < 2 ^ 62 := Nat.pow_lt_pow_right (by decide) (by omega)
  have h3 : 0 < 2 ^ i := Nat.two_pow_pos i
  have e : ((2 : Int) ^ i - 1) = ((2 ^ i - 1 : Nat) : Int) := by
    rw [Int.ofNat_sub (by omega)]
    simp
  rw [e, (bits_nat .i64 62 (by decide) i64_small a (2 ^ i - 1) ha (by omega)).1, Nat.and_two_pow_sub_one_eq_mod]
  simp
end Go.Proofs.YtihabmcaplnbcaaDoor.Fn
namespace Go.Proofs.YtihabmcaplnbcaaDoor.Fn
open Go.RowKit Go.Proofs.YtihabmcaplnbcaaDoorW.PrintWords Go.Proofs.YtihabmcaplnbcaaDoorW.PrintLast Go.Proofs.YtihabmcaplnbcaaDoorW.PrintMore
attribute [local go_sem] max2_int min2_int max_two min_two max_three min_three max_four min_four
set_option linter.unusedVariables false
set_option linter.unusedSimpArgs false

/-! ### qp_digit: function 171 -/
mutual
def qp_digit.j0 : Nat → Int → Bool → Option (Int)
 | 0, _, _ => none
 | k + 1, x0, x3 => if x3 = true then (some ((x0 - 48) % 256)) else (if x0 ≥ 65 then (qp_digit.j1 k x0 (decide (x0 ≤ 70))) else (qp_digit.j1 k x0 false))
def qp_digit.j1 : Nat → Int → Bool → Option (Int)
 | 0, _, _ => none
 | k + 1, x0, x13 => if x13 = true then (some (((x0 - 65) % 256) + 10)) else (if x0 ≥ 97 then (if x0 ≤ 102 then (some (((x0 - 97) % 256) + 10)) else (some (-1))) else (some (-1)))
end
def qp_digit.f (k : Nat) (a0 : Int) : Option (Int) := if a0 ≥ 48 then (qp_digit.j0 k a0 (decide (a0 ≤ 57))) else (qp_digit.j0 k a0 false)
theorem qp_digit.mono_l : ∀ k, (∀ y0 y1, LeO (qp_digit.j0 k y0 y1) (qp_digit.j0 (k + 1) y0 y1)) ∧ (∀ y0 y1, LeO (qp_digit.j1 k y0 y1) (qp_digit.j1 (k + 1) y0 y1))
 | 0 => ⟨fun _ _ r h => by simp [qp_digit.j0] at h, fun _ _ r h => by simp [qp_digit.j1] at h⟩
 | k + 1 => by
  obtain ⟨ih0, ih1⟩ := qp_digit.mono_l k
  refine ⟨?_, ?_⟩
  ·intro y0 y1
   unfold qp_digit.j0
   repeat' first
   | (with_reducible exact ih0 _ _)
   | (with_reducible exact ih1 _ _)
   | (with_reducible exact LeO.refl _)
   | (with_reducible exact LeO.none _)
   | (with_reducible refine LeO.ite ?_ ?_)
   | (with_reducible refine LeO.bind ?_ (fun _ => ?_))
   | exact ih0 _ _
   | exact ih1 _ _
   | exact LeO.none _
   | refine LeO.ite ?_ ?_
   | refine LeO.bind ?_ (fun _ => ?_)
  ·intro y0 y1
   unfold qp_digit.j1
   repeat' first
   | (with_reducible exact ih0 _ _)
   | (with_reducible exact ih1 _ _)
   | (with_reducible exact LeO.refl _)
   | (with_reducible exact LeO.none _)
   | (with_reducible refine LeO.ite ?_ ?_)
   | (with_reducible refine LeO.bind ?_ (fun _ => ?_))
   | exact ih0 _ _
   | exact ih1 _ _
   | exact LeO.none _
   | refine LeO.ite ?_ ?_
   | refine LeO.bind ?_ (fun _ => ?_)
theorem qp_digit.mono : ∀ a0 k, LeO (qp_digit.f k a0) (qp_digit.f (k + 1) a0) := by
 intro a0 k
 obtain ⟨ih0, ih1⟩ := qp_digit.mono_l k
 unfold qp_digit.f
 repeat' first
   | (with_reducible exact ih0 _ _)
   | (with_reducible exact ih1 _ _)
   | (with_reducible exact LeO.refl _)
   | (with_reducible exact LeO.none _)
   | (with_reducible refine LeO.ite ?_ ?_)
   | (with_reducible refine LeO.bind ?_ (fun _ => ?_))
   | exact ih0 _ _
   | exact ih1 _ _
   | exact LeO.none _
   | refine LeO.ite ?_ ?_
   | refine LeO.bind ?_ (fun _ => ?_)
set_option maxHeartbeats 8000000 in
set_option maxRecDepth 100000 in
theorem qp_digit.calls (k : Nat) (a0 : Int) (r : Int) (w : World) (h : qp_digit.f k a0 = some r) :
  Calls Tryd.prog 171 #[.int .u8 a0] w fun e w' => e = .returned (.int .i64 r) ∧ Drawn0 w w' := by
 have H : (if a0 ≥ 48 then (qp_digit.j0 k a0 (decide (a0 ≤ 57))) else (qp_digit.j0 k a0 false)) = some r := h
 clear h
 have HC2 := Aside0.mk H
 clear H
 go_enter Tryd.func171, Tryd.ntmps171
 go_upto_region 1 with (fail)
 go_cut [3] (fun v3 wc => ∃ (kq : Nat) (x3_1 : Bool), v3 = .bool x3_1 ∧ Aside0 (qp_digit.j0 kq a0 x3_1 = some r) ∧ Aside0 (kq ≤ k) ∧ Drawn0 w wc)
 case first =>
  have H := HC2.out
  clear HC2
  by_cases c3 : a0 ≥ 48
  ·rw [if_pos c3] at H
   have c3b0 : decide (48 ≤ a0) = true := decide_eq_true c3
   clear c3
   (first | rw [c3b0] | (simp only [i64_w, i32_w]; rw [c3b0]) | skip)
   have H' := Aside0.mk H
   clear H
   go_wp2
   go_meet
   case rel => exact ⟨_, (decide (a0 ≤ 57)), cl, H', ⟨by first | omega | exact Nat.le_refl _⟩, by repeat (first | exact Drawn0.refl _ | apply Drawn0.step)⟩
  ·rw [if_neg c3] at H
   have c3b0 : decide (48 ≤ a0) = false := decide_eq_false c3
   clear c3
   (first | rw [c3b0] | (simp only [i64_w, i32_w]; rw [c3b0]) | skip)
   have H' := Aside0.mk H
   clear H
   go_wp2
   go_meet
   case rel => exact ⟨_, (false), cl, H', ⟨by first | omega | exact Nat.le_refl _⟩, by repeat (first | exact Drawn0.refl _ | apply Drawn0.step)⟩
 case rest =>
  clear HC2
  try clear c1
  try clear p2
  try clear c3
  try clear c3b0
  obtain ⟨kq, x3_1, rfl, HA, HJ1, ⟨mc1, rfl⟩⟩ := hcut
  cases kq with
  | zero => exact absurd HA.out (by simp [qp_digit.j0])
  | succ kj1 =>
   have H := HA.out
   clear HA
   simp only [qp_digit.j0] at H
   by_cases c4 : x3_1 = true
   ·subst c4
    have H1 : (some ((a0 - 48) % 256)) = some r := by rw [if_pos rfl] at H; exact H
    clear H
    have H := H1
    clear H1
    obtain rfl := Option.some.inj H
    go_wp2
    go_ret
    exact ⟨by first | rfl | (simp; done) | (simp [*]; done) | (simp [nil_ne]; done) | (simp [u8_w, i64w_]; done) | (simp [size_lit]; done) | (simp; unfold wrap64; omega), by repeat (first | exact Drawn0.refl _ | apply Drawn0.step)⟩
   ·replace c4 := Bool.eq_false_iff.mpr c4
    subst c4
    have H1 : (if a0 ≥ 65 then (qp_digit.j1 kj1 a0 (decide (a0 ≤ 70))) else (qp_digit.j1 kj1 a0 false)) = some r := by rw [if_neg (show ¬ (false = true) by decide)] at H; exact H
    clear H
    have H := H1
    clear H1
    have HC5 := Aside0.mk H
    clear H
    go_upto_region 3 with (fail)
    go_cut [13] (fun v13 wc => ∃ (kq : Nat) (x13_4 : Bool), v13 = .bool x13_4 ∧ Aside0 (qp_digit.j1 kq a0 x13_4 = some r) ∧ Aside0 (kq ≤ kj1) ∧ Drawn0 w wc)
    case first =>
     have H := HC5.out
     clear HC5
     by_cases c6 : a0 ≥ 65
     ·rw [if_pos c6] at H
      have c6b0 : decide (65 ≤ a0) = true := decide_eq_true c6
      clear c6
      (first | rw [c6b0] | (simp only [i64_w, i32_w]; rw [c6b0]) | skip)
      have H' := Aside0.mk H
      clear H
      go_wp2
      go_meet
      case rel => exact ⟨_, (decide (a0 ≤ 70)), cl, H', ⟨by have := HJ1.out; first | omega | exact Nat.le_refl _⟩, by repeat (first | exact Drawn0.refl _ | apply Drawn0.step)⟩
     ·rw [if_neg c6] at H
      have c6b0 : decide (65 ≤ a0) = false := decide_eq_false c6
      clear c6
      (first | rw [c6b0] | (simp only [i64_w, i32_w]; rw [c6b0]) | skip)
      have H' := Aside0.mk H
      clear H
      go_wp2
      go_meet
      case rel => exact ⟨_, (false), cl, H', ⟨by have := HJ1.out; first | omega | exact Nat.le_refl _⟩, by repeat (first | exact Drawn0.refl _ | apply Drawn0.step)⟩
    case rest =>
     clear HC5
     try clear c1
     try clear p2
     try clear c3
     try clear c3b0
     try clear c4
     try clear c6
     try clear c6b0
     try clear p2
     obtain ⟨kq, x13_4, rfl, HA, HJ4, ⟨mc4, rfl⟩⟩ := hcut
     cases kq with
     | zero => exact absurd HA.out (by simp [qp_digit.j1])
     | succ kj4 =>
      have H := HA.out
      clear HA
      simp only [qp_digit.j1] at H
      by_cases c7 : x13_4 = true
      ·subst c7
       have H1 : (some (((a0 - 65) % 256) + 10)) = some r := by rw [if_pos rfl] at H; exact H
       clear H
       have H := H1
       clear H1
       obtain rfl := Option.some.inj H
       go_wp2
       go_ret
       exact ⟨by first | rfl | (simp; done) | (simp [*]; done) | (simp [nil_ne]; done) | (simp [u8_w, i64w_]; done) | (simp [size_lit]; done) | (simp; unfold wrap64; omega), by repeat (first | exact Drawn0.refl _ | apply Drawn0.step)⟩
      ·replace c7 := Bool.eq_false_iff.mpr c7
       subst c7
       have H1 : (if a0 ≥ 97 then (if a0 ≤ 102 then (some (((a0 - 97) % 256) + 10)) else (some (-1))) else (some (-1))) = some r := by rw [if_neg (show ¬ (false = true) by decide)] at H; exact H
       clear H
       have H := H1
       clear H1
       by_cases c8 : a0 ≥ 97
       ·rw [if_pos c8] at H
        have c8b0 : decide (97 ≤ a0) = true := decide_eq_true c8
        clear c8
        by_cases c9 : a0 ≤ 102
        ·rw [if_pos c9] at H
         have c9b0 : decide (a0 ≤ 102) = true := decide_eq_true c9
         clear c9
         obtain rfl := Option.some.inj H
         go_wp2
         go_ret
         exact ⟨by first | rfl | (simp; done) | (simp [*]; done) | (simp [nil_ne]; done) | (simp [u8_w, i64w_]; done) | (simp [size_lit]; done) | (simp; unfold wrap64; omega), by repeat (first | exact Drawn0.refl _ | apply Drawn0.step)⟩
        ·rw [if_neg c9] at H
         have c9b0 : decide (a0 ≤ 102) = false := decide_eq_false c9
         clear c9
         obtain rfl := Option.some.inj H
         go_wp2
         go_ret
         exact ⟨by first | rfl | (simp; done) | (simp [*]; done) | (simp [nil_ne]; done) | (simp [u8_w, i64w_]; done) | (simp [size_lit]; done) | (simp; unfold wrap64; omega), by repeat (first | exact Drawn0.refl _ | apply Drawn0.step)⟩
       ·rw [if_neg c8] at H
        have c8b0 : decide (97 ≤ a0) = false := decide_eq_false c8
        clear c8
        obtain rfl := Option.some.inj H
        go_wp2
        go_ret
        exact ⟨by first | rfl | (simp; done) | (simp [*]; done) | (simp [nil_ne]; done) | (simp [u8_w, i64w_]; done) | (simp [size_lit]; done) | (simp; unfold wrap64; omega), by repeat (first | exact Drawn0.refl _ | apply Drawn0.step)⟩

end Go.Proofs.YtihabmcaplnbcaaDoor.Fn
namespace Go.Proofs.YtihabmcaplnbcaaDoor.Fn
open Go.RowKit Go.Proofs.YtihabmcaplnbcaaDoorW.PrintWords Go.Proofs.YtihabmcaplnbcaaDoorW.PrintLast Go.Proofs.YtihabmcaplnbcaaDoorW.PrintMore
attribute [local go_sem] max2_int min2_int max_two min_two max_three min_three max_four min_four
set_option linter.unusedVariables false
set_option linter.unusedSimpArgs false

/-! ### qp_Byte: function 155 -/
def qp_Byte.j0 : Nat → ByteArray → Bool → Option (Int × Bool)
 | 0, _, _ => none
 | k + 1, x0, x18 => if x18 = true then (some (0, false)) else (if 0 < (x0.size : Int) then ((qp_digit.f k (bt x0 0)).bind fun t391 => (if 1 < (x0.size : Int) then ((qp_digit.f k (bt x0 1)).bind fun t392 => (some ((Go.bits .or .i64 (wrap64 (t391 * 16)) t392) % 256, true))) else (none))) else (none))
def qp_Byte.f (k : Nat) (a0 : ByteArray) : Option (Int × Bool) := if (a0.size : Int) = 2 then (if 0 < (a0.size : Int) then ((qp_digit.f k (bt a0 0)).bind fun t389 => (if t389 < 0 then (qp_Byte.j0 k a0 true) else (if 1 < (a0.size : Int) then ((qp_digit.f k (bt a0 1)).bind fun t390 => (qp_Byte.j0 k a0 (decide (t390 < 0)))) else (none)))) else (none)) else (qp_Byte.j0 k a0 true)
set_option maxHeartbeats 8000000 in
set_option maxRecDepth 100000 in
theorem qp_Byte.calls (k : Nat) (a0 : ByteArray) (r1 : Int) (r2 : Bool) (w : World) (h : qp_Byte.f k a0 = some (r1, r2)) :
  Calls Tryd.prog 155 #[.string a0] w fun e w' => e = .returned (.tuple #[.int .u8 r1, .bool r2]) ∧ Drawn0 w w' := by
 have H : (if (a0.size : Int) = 2 then (if 0 < (a0.size : Int) then ((qp_digit.f k (bt a0 0)).bind fun t389 => (if t389 < 0 then (qp_Byte.j0 k a0 true) else (if 1 < (a0.size : Int) then ((qp_digit.f k (bt a0 1)).bind fun t390 => (qp_Byte.j0 k a0 (decide (t390 < 0)))) else (none)))) else (none)) else (qp_Byte.j0 k a0 true)) = some (r1, r2) := h
 clear h
 have HC2 := Aside0.mk H
 clear H
 go_enter Tryd.func155, Tryd.ntmps155
 go_upto_region 1 with (fail)
 repeat (go_quiet (fail); go_upto_region 1 with (fail))
 go_cut [18] (fun v18 wc => ∃ (kq : Nat) (x18_1 : Bool), v18 = .bool x18_1 ∧ Aside0 (qp_Byte.j0 kq a0 x18_1 = some (r1, r2)) ∧ Aside0 (kq ≤ k) ∧ Drawn0 w wc)
 case first =>
  have H := HC2.out
  clear HC2
  by_cases c3 : (a0.size : Int) = 2
  ·rw [if_pos c3] at H
   have c3b0 : ((a0.size : Int) == 2) = true := beq_iff_eq.mpr c3
   have c3b1 : ((a0.size : Int) != 2) = false := bne_eq_false_iff_eq.mpr c3
   clear c3
   (first | rw [c3b0] | (simp only [i64_w, i32_w]; rw [c3b0]) | skip)
   by_cases c4 : 0 < (a0.size : Int)
   ·rw [if_pos c4] at H
    have c4b0 : decide (0 < (a0.size : Int)) = true := decide_eq_true c4
    have c4b1 : decide (0 < a0.size) = true := decide_eq_true (by omega)
    clear c4
    replace H := Option.bind_eq_some_iff.mp H
    obtain ⟨t389, A60, H⟩ := H
    replace H : (if t389 < 0 then (qp_Byte.j0 k a0 true) else (if 1 < (a0.size : Int) then ((qp_digit.f k (bt a0 1)).bind fun t390 => (qp_Byte.j0 k a0 (decide (t390 < 0)))) else (none))) = some (r1, r2) := H
    have A6 := Aside0.mk A60
    clear A60
    by_cases c7 : t389 < 0
    ·rw [if_pos c7] at H
     have c7b0 : decide (t389 < 0) = true := decide_eq_true c7
     clear c7
     have H' := Aside0.mk H
     clear H
     have p5 : 0 ≤ (0 : Int) := (by omega)
     have q5 : 0 < a0.size := (by have : (0 : Int) < (a0.size : Int) := od; omega)
     have hx5 : ∀ h : 0 < a0.size, ((a0[0]'h).toNat : Int) = bt a0 0 := bt_at a0 0
     clear p5
     have qi5 : (0 < (a0.size : Int)) = True := eq_true (od)
     replace q5 := eq_true q5
     go_wp2_with (first | (go_at_call 171; (with_reducible refine (qp_digit.calls k (bt a0 0) t389 _ A6.out).mono ?_); rintro e w' ⟨rfl, ⟨nd, rfl⟩⟩; (try first | exact ⟨rfl, _, World.drewN_drewN _ _ _⟩ | exact ⟨rfl, _, Eq.trans (World.drewN_drewN _ _ _) (congrArg (World.drewN _) (Nat.add_assoc _ _ _))⟩)))
     repeat (go_quiet (first | (go_at_call 171; (with_reducible refine (qp_digit.calls k (bt a0 0) t389 _ A6.out).mono ?_); rintro e w' ⟨rfl, ⟨nd, rfl⟩⟩; (try first | exact ⟨rfl, _, World.drewN_drewN _ _ _⟩ | exact ⟨rfl, _, Eq.trans (World.drewN_drewN _ _ _) (congrArg (World.drewN _) (Nat.add_assoc _ _ _))⟩))); try go_wp2_with (first | (go_at_call 171; (with_reducible refine (qp_digit.calls k (bt a0 0) t389 _ A6.out).mono ?_); rintro e w' ⟨rfl, ⟨nd, rfl⟩⟩; (try first | exact ⟨rfl, _, World.drewN_drewN _ _ _⟩ | exact ⟨rfl, _, Eq.trans (World.drewN_drewN _ _ _) (congrArg (World.drewN _) (Nat.add_assoc _ _ _))⟩))))
     go_meet
     case rel => exact ⟨_, (true), cl, H', ⟨by first | omega | exact Nat.le_refl _⟩, by repeat (first | exact Drawn0.refl _ | apply Drawn0.step)⟩
    ·rw [if_neg c7] at H
     have c7b0 : decide (t389 < 0) = false := decide_eq_false c7
     clear c7
     by_cases c8 : 1 < (a0.size : Int)
     ·rw [if_pos c8] at H
      have c8b0 : decide (1 < (a0.size : Int)) = true := decide_eq_true c8
      have c8b1 : decide (1 < a0.size) = true := decide_eq_true (by omega)
      clear c8
      replace H := Option.bind_eq_some_iff.mp H
      obtain ⟨t390, A100, H⟩ := H
      replace H : (qp_Byte.j0 k a0 (decide (t390 < 0))) = some (r1, r2) := H
      have A10 := Aside0.mk A100
      clear A100
      have H' := Aside0.mk H
      clear H
      have p5 : 0 ≤ (0 : Int) := (by omega)
      have q5 : 0 < a0.size := (by have : (0 : Int) < (a0.size : Int) := od; omega)
      have hx5 : ∀ h : 0 < a0.size, ((a0[0]'h).toNat : Int) = bt a0 0 := bt_at a0 0
      clear p5
      have qi5 : (0 < (a0.size : Int)) = True := eq_true (od)
      replace q5 := eq_true q5
      go_wp2_with (first | (go_at_call 171; (with_reducible refine (qp_digit.calls k (bt a0 0) t389 _ A6.out).mono ?_); rintro e w' ⟨rfl, ⟨nd, rfl⟩⟩; (try first | exact ⟨rfl, _, World.drewN_drewN _ _ _⟩ | exact ⟨rfl, _, Eq.trans (World.drewN_drewN _ _ _) (congrArg (World.drewN _) (Nat.add_assoc _ _ _))⟩); have p9 : 0 ≤ (1 : Int) := (by omega); have q9 : 1 < a0.size := (by have : (1 : Int) < (a0.size : Int) := od; omega); have hx9 : ∀ h : 1 < a0.size, ((a0[1]'h).toNat : Int) = bt a0 1 := bt_at a0 1; clear p9; have qi9 : (1 < (a0.size : Int)) = True := eq_true (od); replace q9 := eq_true q9) | (go_at_call 171; (with_reducible refine (qp_digit.calls k (bt a0 1) t390 _ A10.out).mono ?_); rintro e w' ⟨rfl, ⟨nd, rfl⟩⟩; (try first | exact ⟨rfl, _, World.drewN_drewN _ _ _⟩ | exact ⟨rfl, _, Eq.trans (World.drewN_drewN _ _ _) (congrArg (World.drewN _) (Nat.add_assoc _ _ _))⟩)))
      repeat (go_quiet (first | (go_at_call 171; (with_reducible refine (qp_digit.calls k (bt a0 0) t389 _ A6.out).mono ?_); rintro e w' ⟨rfl, ⟨nd, rfl⟩⟩; (try first | exact ⟨rfl, _, World.drewN_drewN _ _ _⟩ | exact ⟨rfl, _, Eq.trans (World.drewN_drewN _ _ _) (congrArg (World.drewN _) (Nat.add_assoc _ _ _))⟩); have p9 : 0 ≤ (1 : Int) := (by omega); have q9 : 1 < a0.size := (by have : (1 : Int) < (a0.size : Int) := od; omega); have hx9 : ∀ h : 1 < a0.size, ((a0[1]'h).toNat : Int) = bt a0 1 := bt_at a0 1; clear p9; have qi9 : (1 < (a0.size : Int)) = True := eq_true (od); replace q9 := eq_true q9) | (go_at_call 171; (with_reducible refine (qp_digit.calls k (bt a0 1) t390 _ A10.out).mono ?_); rintro e w' ⟨rfl, ⟨nd, rfl⟩⟩; (try first | exact ⟨rfl, _, World.drewN_drewN _ _ _⟩ | exact ⟨rfl, _, Eq.trans (World.drewN_drewN _ _ _) (congrArg (World.drewN _) (Nat.add_assoc _ _ _))⟩))); try go_wp2_with (first | (go_at_call 171; (with_reducible refine (qp_digit.calls k (bt a0 0) t389 _ A6.out).mono ?_); rintro e w' ⟨rfl, ⟨nd, rfl⟩⟩; (try first | exact ⟨rfl, _, World.drewN_drewN _ _ _⟩ | exact ⟨rfl, _, Eq.trans (World.drewN_drewN _ _ _) (congrArg (World.drewN _) (Nat.add_assoc _ _ _))⟩); have p9 : 0 ≤ (1 : Int) := (by omega); have q9 : 1 < a0.size := (by have : (1 : Int) < (a0.size : Int) := od; omega); have hx9 : ∀ h : 1 < a0.size, ((a0[1]'h).toNat : Int) = bt a0 1 := bt_at a0 1; clear p9; have qi9 : (1 < (a0.size : Int)) = True := eq_true (od); replace q9 := eq_true q9) | (go_at_call 171; (with_reducible refine (qp_digit.calls k (bt a0 1) t390 _ A10.out).mono ?_); rintro e w' ⟨rfl, ⟨nd, rfl⟩⟩; (try first | exact ⟨rfl, _, World.drewN_drewN _ _ _⟩ | exact ⟨rfl, _, Eq.trans (World.drewN_drewN _ _ _) (congrArg (World.drewN _) (Nat.add_assoc _ _ _))⟩))))
      go_meet
      case rel => exact ⟨_, (decide (t390 < 0)), cl, H', ⟨by first | omega | exact Nat.le_refl _⟩, by repeat (first | exact Drawn0.refl _ | apply Drawn0.step)⟩
     ·rw [if_neg c8] at H
      exact absurd H (by simp)
   ·rw [if_neg c4] at H
    exact absurd H (by simp)
  ·rw [if_neg c3] at H
   have c3b0 : ((a0.size : Int) == 2) = false := beq_eq_false_iff_ne.mpr c3
   have c3b1 : ((a0.size : Int) != 2) = true := bne_iff_ne.mpr c3
   (first | rw [c3b0] | (simp only [i64_w, i32_w]; rw [c3b0]) | skip)
   have H' := Aside0.mk H
   clear H
   go_wp2
   repeat (go_quiet (fail); try go_wp2)
   go_meet
   case rel => exact ⟨_, (true), cl, H', ⟨by first | omega | exact Nat.le_refl _⟩, by repeat (first | exact Drawn0.refl _ | apply Drawn0.step)⟩
 case rest =>
  clear HC2
  try clear c1
  try clear p2
  try clear c3
  try clear c3b0
  try clear c3b1
  try clear c4
  try clear c4b0
  try clear c4b1
  try clear p5
  try clear q5
  try clear hx5
  try clear qi5
  try clear c7
  try clear c7b0
  try clear c8
  try clear c8b0
  try clear c8b1
  try clear p9
  try clear q9
  try clear hx9
  try clear qi9
  try clear p5
  try clear p9
  try clear q5
  try clear q9
  obtain ⟨kq, x18_1, rfl, HA, HJ1, ⟨mc1, rfl⟩⟩ := hcut
  cases kq with
  | zero => exact absurd HA.out (by simp [qp_Byte.j0])
  | succ kj1 =>
   have H := HA.out
   clear HA
   simp only [qp_Byte.j0] at H
   by_cases c11 : x18_1 = true
   ·subst c11
    have H1 : (some (0, false)) = some (r1, r2) := by rw [if_pos rfl] at H; exact H
    clear H
    have H := H1
    clear H1
    simp only [Option.some.injEq, Prod.mk.injEq] at H
    obtain ⟨rfl, rfl⟩ := H
    go_wp2
    repeat (go_quiet (fail); try go_wp2)
    go_ret2
    exact ⟨by first | rfl | (simp; done) | (simp [*]; done) | (simp [nil_ne]; done) | (simp [u8_w, i64w_]; done) | (simp [size_lit]; done) | (simp; unfold wrap64; omega), by repeat (first | exact Drawn0.refl _ | apply Drawn0.step)⟩
   ·replace c11 := Bool.eq_false_iff.mpr c11
    subst c11
    have H1 : (if 0 < (a0.size : Int) then ((qp_digit.f kj1 (bt a0 0)).bind fun t391 => (if 1 < (a0.size : Int) then ((qp_digit.f kj1 (bt a0 1)).bind fun t392 => (some ((Go.bits .or .i64 (wrap64 (t391 * 16)) t392) % 256, true))) else (none))) else (none)) = some (r1, r2) := by rw [if_neg (show ¬ (false = true) by decide)] at H; exact H
    clear H
    have H := H1
    clear H1
    by_cases c12 : 0 < (a0.size : Int)
    ·rw [if_pos c12] at H
     have c12b0 : decide (0 < (a0.size : Int)) = true := decide_eq_true c12
     have c12b1 : decide (0 < a0.size) = true := decide_eq_true (by omega)
     clear c12
     replace H := Option.bind_eq_some_iff.mp H
     obtain ⟨t391, A140, H⟩ := H
     replace H : (if 1 < (a0.size : Int) then ((qp_digit.f kj1 (bt a0 1)).bind fun t392 => (some ((Go.bits .or .i64 (wrap64 (t391 * 16)) t392) % 256, true))) else (none)) = some (r1, r2) := H
     have A14 := Aside0.mk A140
     clear A140
     by_cases c15 : 1 < (a0.size : Int)
     ·rw [if_pos c15] at H
      have c15b0 : decide (1 < (a0.size : Int)) = true := decide_eq_true c15
      have c15b1 : decide (1 < a0.size) = true := decide_eq_true (by omega)
      clear c15
      replace H := Option.bind_eq_some_iff.mp H
      obtain ⟨t392, A170, H⟩ := H
      replace H : (some ((Go.bits .or .i64 (wrap64 (t391 * 16)) t392) % 256, true)) = some (r1, r2) := H
      have A17 := Aside0.mk A170
      clear A170
      simp only [Option.some.injEq, Prod.mk.injEq] at H
      obtain ⟨rfl, rfl⟩ := H
      have p13 : 0 ≤ (0 : Int) := (by omega)
      have q13 : 0 < a0.size := (by have : (0 : Int) < (a0.size : Int) := od; omega)
      have hx13 : ∀ h : 0 < a0.size, ((a0[0]'h).toNat : Int) = bt a0 0 := bt_at a0 0
      clear p13
      have qi13 : (0 < (a0.size : Int)) = True := eq_true (od)
      replace q13 := eq_true q13
      go_wp2_with (first | (go_at_call 171; (with_reducible refine (qp_digit.calls kj1 (bt a0 0) t391 _ A14.out).mono ?_); rintro e w' ⟨rfl, ⟨nd, rfl⟩⟩; (try first | exact ⟨rfl, _, World.drewN_drewN _ _ _⟩ | exact ⟨rfl, _, Eq.trans (World.drewN_drewN _ _ _) (congrArg (World.drewN _) (Nat.add_assoc _ _ _))⟩); have p16 : 0 ≤ (1 : Int) := (by omega); have q16 : 1 < a0.size := (by have : (1 : Int) < (a0.size : Int) := od; omega); have hx16 : ∀ h : 1 < a0.size, ((a0[1]'h).toNat : Int) = bt a0 1 := bt_at a0 1; clear p16; have qi16 : (1 < (a0.size : Int)) = True := eq_true (od); replace q16 := eq_true q16) | (go_at_call 171; (with_reducible refine (qp_digit.calls kj1 (bt a0 1) t392 _ A17.out).mono ?_); rintro e w' ⟨rfl, ⟨nd, rfl⟩⟩; (try first | exact ⟨rfl, _, World.drewN_drewN _ _ _⟩ | exact ⟨rfl, _, Eq.trans (World.drewN_drewN _ _ _) (congrArg (World.drewN _) (Nat.add_assoc _ _ _))⟩)))
      repeat (go_quiet (first | (go_at_call 171; (with_reducible refine (qp_digit.calls kj1 (bt a0 0) t391 _ A14.out).mono ?_); rintro e w' ⟨rfl, ⟨nd, rfl⟩⟩; (try first | exact ⟨rfl, _, World.drewN_drewN _ _ _⟩ | exact ⟨rfl, _, Eq.trans (World.drewN_drewN _ _ _) (congrArg (World.drewN _) (Nat.add_assoc _ _ _))⟩); have p16 : 0 ≤ (1 : Int) := (by omega); have q16 : 1 < a0.size := (by have : (1 : Int) < (a0.size : Int) := od; omega); have hx16 : ∀ h : 1 < a0.size, ((a0[1]'h).toNat : Int) = bt a0 1 := bt_at a0 1; clear p16; have qi16 : (1 < (a0.size : Int)) = True := eq_true (od); replace q16 := eq_true q16) | (go_at_call 171; (with_reducible refine (qp_digit.calls kj1 (bt a0 1) t392 _ A17.out).mono ?_); rintro e w' ⟨rfl, ⟨nd, rfl⟩⟩; (try first | exact ⟨rfl, _, World.drewN_drewN _ _ _⟩ | exact ⟨rfl, _, Eq.trans (World.drewN_drewN _ _ _) (congrArg (World.drewN _) (Nat.add_assoc _ _ _))⟩))); try go_wp2_with (first | (go_at_call 171; (with_reducible refine (qp_digit.calls kj1 (bt a0 0) t391 _ A14.out).mono ?_); rintro e w' ⟨rfl, ⟨nd, rfl⟩⟩; (try first | exact ⟨rfl, _, World.drewN_drewN _ _ _⟩ | exact ⟨rfl, _, Eq.trans (World.drewN_drewN _ _ _) (congrArg (World.drewN _) (Nat.add_assoc _ _ _))⟩); have p16 : 0 ≤ (1 : Int) := (by omega); have q16 : 1 < a0.size := (by have : (1 : Int) < (a0.size : Int) := od; omega); have hx16 : ∀ h : 1 < a0.size, ((a0[1]'h).toNat : Int) = bt a0 1 := bt_at a0 1; clear p16; have qi16 : (1 < (a0.size : Int)) = True := eq_true (od); replace q16 := eq_true q16) | (go_at_call 171; (with_reducible refine (qp_digit.calls kj1 (bt a0 1) t392 _ A17.out).mono ?_); rintro e w' ⟨rfl, ⟨nd, rfl⟩⟩; (try first | exact ⟨rfl, _, World.drewN_drewN _ _ _⟩ | exact ⟨rfl, _, Eq.trans (World.drewN_drewN _ _ _) (congrArg (World.drewN _) (Nat.add_assoc _ _ _))⟩))))
      go_ret2
      exact ⟨by first | rfl | (simp; done) | (simp [*]; done) | (simp [nil_ne]; done) | (simp [u8_w, i64w_]; done) | (simp [size_lit]; done) | (simp; unfold wrap64; omega), by repeat (first | exact Drawn0.refl _ | apply Drawn0.step)⟩
     ·rw [if_neg c15] at H
      exact absurd H (by simp)
    ·rw [if_neg c12] at H
     exact absurd H (by simp)

end Go.Proofs.YtihabmcaplnbcaaDoor.Fn
namespace Go.Proofs.YtihabmcaplnbcaaDoor.Fn
open Go.RowKit Go.Proofs.YtihabmcaplnbcaaDoorW.PrintWords Go.Proofs.YtihabmcaplnbcaaDoorW.PrintLast Go.Proofs.YtihabmcaplnbcaaDoorW.PrintMore
attribute [local go_sem] max2_int min2_int max_two min_two max_three min_three max_four min_four
set_option linter.unusedVariables false
set_option linter.unusedSimpArgs false

/-! ### ew_quoted: function 124 -/
def ew_quoted.l0 : Nat → ByteArray → List Int → Int → Option (ByteArray × Bool)
 | 0, _, _, _ => none
 | k + 1, x0, x4, x5 => if x5 < (x0.size : Int) then (if 0 ≤ x5 then (if (bt x0 x5) = 95 then (if x4.length < 140737488355328 then (ew_quoted.l0 k x0 (x4 ++ [32]) (wrap64 (x5 + 1))) else (none)) else (if (bt x0 x5) = 61 then (if 0 ≤ (wrap64 (x5 + 1)) then (if (wrap64 (x5 + 1)) ≤ (mn (wrap64 (x5 + 3)) (x0.size : Int)) then (if (mn (wrap64 (x5 + 3)) (x0.size : Int)) ≤ (x0.size : Int) then ((qp_Byte.f k (x0.extract ((wrap64 (x5 + 1)) : Int).toNat ((mn (wrap64 (x5 + 3)) (x0.size : Int)) : Int).toNat)).bind fun bt396 => (if bt396.2 = true then (if x4.length < 140737488355328 then (ew_quoted.l0 k x0 (x4 ++ [bt396.1]) (wrap64 ((wrap64 (x5 + 2)) + 1))) else (none)) else (some ((⟨#[]⟩ : ByteArray), false)))) else (none)) else (none)) else (none)) else (if x4.length < 140737488355328 then (ew_quoted.l0 k x0 (x4 ++ [bt x0 x5]) (wrap64 (x5 + 1))) else (none)))) else (none)) else (some (strOfNums x4, true))
def ew_quoted.f (k : Nat) (a0 : ByteArray) : Option (ByteArray × Bool) := ew_quoted.l0 k a0 ([] : List Int) 0
set_option maxHeartbeats 8000000 in
set_option maxRecDepth 100000 in
theorem ew_quoted.calls (k : Nat) (a0 : ByteArray) (r1 : ByteArray) (r2 : Bool) (w : World) (h : ew_quoted.f k a0 = some (r1, r2)) :
  Calls Tryd.prog 124 #[.string a0] w fun e w' => e = .returned (.tuple #[.string r1, .bool r2]) ∧ Below w.heap.size w w' := by
 have HB := Aside0.mk (Below.refl w.heap.size w)
 have H : (ew_quoted.l0 k a0 ([] : List Int) 0) = some (r1, r2) := h
 clear h
 have H' := Aside0.mk H
 clear H
 go_enter Tryd.func124, Tryd.ntmps124
 go_wp2
 go_loopg [4, 5] k (fun kq v4 v5 w' => ∃ (x4_1 : List Int) (x5_1 : Int), v5 = .int .i64 x5_1 ∧ Aside0 (ew_quoted.l0 kq a0 x4_1 x5_1 = some (r1, r2)) ∧ Aside0 (kq ≤ k) ∧ Aside0 (Kd.R (Kd.int .u8) 5 w' w.heap.size (fun _ => True) v4 x4_1) ∧ Aside0 (Below w.heap.size w w'))
 case atStart => exact ⟨(([] : List Int)), (0), cl, H', ⟨Nat.le_refl _⟩, ⟨by first | exact Kd.R_nil _ _ _ _ _ | exact Kd.N_nil _ _ _ _ _ | exact Kd.V_nil _ _ _ _ _ | exact Kd.Q_nil _ _ _ _ _ | exact Kd.S_nil _ _ _ _ _⟩, ⟨bw⟩⟩
 case round =>
  clear H'
  try clear c1
  obtain ⟨x4_1, x5_1, rfl, HA, HK1, HO_4, HB⟩ := hrel
  cases gk with
  | zero => exact absurd HA.out (by simp [ew_quoted.l0])
  | succ k1 =>
   have H := HA.out
   clear HA
   simp only [ew_quoted.l0] at H
   by_cases c2 : x5_1 < (a0.size : Int)
   ·rw [if_pos c2] at H
    have c2b0 : decide (x5_1 < (a0.size : Int)) = true := decide_eq_true c2
    clear c2
    by_cases c3 : 0 ≤ x5_1
    ·rw [if_pos c3] at H
     have c3b0 : decide (0 ≤ x5_1) = true := decide_eq_true c3
     clear c3
     by_cases c5 : (bt a0 x5_1) = 95
     ·rw [if_pos c5] at H
      have c5b0 : ((bt a0 x5_1) == 95) = true := beq_iff_eq.mpr c5
      have c5b1 : ((bt a0 x5_1) != 95) = false := bne_eq_false_iff_eq.mpr c5
      clear c5
      by_cases c6 : x4_1.length < 140737488355328
      ·rw [if_pos c6] at H
       have LMc6 := Aside0.mk c6
       clear c6
       obtain ⟨y393, hy393⟩ : ∃ y_ : List Int, y_ = (x4_1 ++ [32]) := ⟨_, rfl⟩
       replace H : (ew_quoted.l0 k1 a0 y393 (wrap64 (x5_1 + 1))) = some (r1, r2) := by first | (rw [hy393]; with_reducible exact H) | (have H2_ := (Option.bind_some _ _).symm.trans H; rw [hy393]; with_reducible exact H2_) | (have H2_ := (Option.bind_some _ _).symm.trans H; with_reducible exact H2_) | with_reducible exact H | (rw [hy393]; exact H) | exact H
       have Ny393 := Aside0.mk hy393
       clear hy393
       have H' := Aside0.mk H
       clear H
       have p4 : 0 ≤ (x5_1 : Int) := od
       have q4 : x5_1 < (a0.size : Int) := od
       have hx4 := bt_at a0 x5_1
       replace p4 := eq_true p4
       replace q4 := eq_true q4
       go_wp2_with (first | ((with_reducible refine gate_builtin (b := .append) (xs := #[.tmp 25, .tmp 26]) rfl ?_); at_builtin; refine Kd.R_append (Kd.int .u8) (w0 := w) w.heap.size rfl (.tmp 25) (.tmp 26) 83 5 (.int .u8 0) 1 rfl Tryd.underlying83 info5 rfl (by decide) (by omega) u4 x4_1 32 [.int .u8 32] (fun _ => True) (fun _ => False) rfl rfl ?aP (fun _ hk => hk.elim) ?aF ?aO ?aB ?aS ?aL ?_; (case aP => exact rfl); (case aB => exact bw); (case aF => exact (fun _ _ => trivial)); (case aO => exact (by (with_reducible repeat (first | apply Kd.R_alloc | apply Kd.R_drewN | apply Kd.R_drew)); exact HO_4.out)); (case aS => exact (below_size bw)); (case aL => have := LMc6.out; omega); intro v394 w7 ho hb hg hat; rw [← Ny393.out] at ho; have n0_ := Aside0.mk (hb); have n1_ := Aside0.mk (ho); clear HB; clear HO_4; have HB := n0_; have HO395 := n1_; clear n0_ n1_; clear ho hb hg hat))
       go_roundg k1
       case measure => have := HK1.out; omega
       case rel => exact ⟨(y393), (wrap64 (x5_1 + 1)), cl, H', ⟨by have := HK1.out; omega⟩, ⟨by (with_reducible repeat (first | apply Kd.R_alloc | apply Kd.R_drewN | apply Kd.R_drew)); exact HO395.out⟩, ⟨bw⟩⟩
      ·rw [if_neg c6] at H
       exact absurd H (by simp)
     ·rw [if_neg c5] at H
      have c5b0 : ((bt a0 x5_1) == 95) = false := beq_eq_false_iff_ne.mpr c5
      have c5b1 : ((bt a0 x5_1) != 95) = true := bne_iff_ne.mpr c5
      by_cases c8 : (bt a0 x5_1) = 61
      ·rw [if_pos c8] at H
       have c8b0 : ((bt a0 x5_1) == 61) = true := beq_iff_eq.mpr c8
       have c8b1 : ((bt a0 x5_1) != 61) = false := bne_eq_false_iff_eq.mpr c8
       clear c8
       obtain ⟨ji9, hji9⟩ : ∃ j_ : Int, (mn (wrap64 (x5_1 + 3)) (a0.size : Int)) = j_ := ⟨_, rfl⟩
       replace H : (if 0 ≤ (wrap64 (x5_1 + 1)) then (if (wrap64 (x5_1 + 1)) ≤ (ji9) then (if (ji9) ≤ (a0.size : Int) then ((qp_Byte.f k1 (a0.extract ((wrap64 (x5_1 + 1)) : Int).toNat ((ji9) : Int).toNat)).bind fun bt396 => (if bt396.2 = true then (if x4_1.length < 140737488355328 then (ew_quoted.l0 k1 a0 (x4_1 ++ [bt396.1]) (wrap64 ((wrap64 (x5_1 + 2)) + 1))) else (none)) else (some ((⟨#[]⟩ : ByteArray), false)))) else (none)) else (none)) else (none)) = some (r1, r2) := by first | (rw [hji9] at H; exact H) | (simp only [hji9] at H ⊢; exact H)
       have hji9_ : (if (a0.size : Int) < (wrap64 (x5_1 + 3)) then (a0.size : Int) else (wrap64 (x5_1 + 3))) = ji9 := hji9
       obtain ⟨ji10, hji10⟩ : ∃ j_ : Int, (wrap64 (x5_1 + 1)) = j_ := ⟨_, rfl⟩
       replace H : (if 0 ≤ (ji10) then (if (ji10) ≤ (ji9) then (if (ji9) ≤ (a0.size : Int) then ((qp_Byte.f k1 (a0.extract ((ji10) : Int).toNat ((ji9) : Int).toNat)).bind fun bt396 => (if bt396.2 = true then (if x4_1.length < 140737488355328 then (ew_quoted.l0 k1 a0 (x4_1 ++ [bt396.1]) (wrap64 ((wrap64 (x5_1 + 2)) + 1))) else (none)) else (some ((⟨#[]⟩ : ByteArray), false)))) else (none)) else (none)) else (none)) = some (r1, r2) := by first | (rw [hji10] at H; exact H) | (simp only [hji10] at H ⊢; exact H)
       have hji10w : (IntKind.i64.wrap (x5_1 + 1)) = ji10 := (i64_w _).trans hji10
       by_cases c11 : 0 ≤ (ji10)
       ·rw [if_pos c11] at H
        have c11b0 := eq_true c11
        have c11b1 : decide (0 ≤ (ji10)) = true := decide_eq_true c11
        clear c11
        by_cases c12 : (ji10) ≤ (ji9)
        ·rw [if_pos c12] at H
         have c12b0 := eq_true c12
         have c12b1 : decide ((ji10) ≤ (ji9)) = true := decide_eq_true c12
         clear c12
         by_cases c13 : (ji9) ≤ (a0.size : Int)
         ·rw [if_pos c13] at H
          have c13b0 := eq_true c13
          have c13b1 : decide ((ji9) ≤ (a0.size : Int)) = true := decide_eq_true c13
          clear c13
          replace H := Option.bind_eq_some_iff.mp H
          obtain ⟨⟨t396, t397⟩, A140, H⟩ := H
          replace H : (if t397 = true then (if x4_1.length < 140737488355328 then (ew_quoted.l0 k1 a0 (x4_1 ++ [t396]) (wrap64 ((wrap64 (x5_1 + 2)) + 1))) else (none)) else (some ((⟨#[]⟩ : ByteArray), false))) = some (r1, r2) := H
          have A14 := Aside0.mk A140
          clear A140
          by_cases c15 : t397 = true
          ·subst c15
           have H1 : (if x4_1.length < 140737488355328 then (ew_quoted.l0 k1 a0 (x4_1 ++ [t396]) (wrap64 ((wrap64 (x5_1 + 2)) + 1))) else (none)) = some (r1, r2) := by rw [if_pos rfl] at H; exact H
           clear H
           have H := H1
           clear H1
           by_cases c16 : x4_1.length < 140737488355328
           ·rw [if_pos c16] at H
            have LMc16 := Aside0.mk c16
            clear c16
            obtain ⟨y398, hy398⟩ : ∃ y_ : List Int, y_ = (x4_1 ++ [t396]) := ⟨_, rfl⟩
            replace H : (ew_quoted.l0 k1 a0 y398 (wrap64 ((wrap64 (x5_1 + 2)) + 1))) = some (r1, r2) := by first | (rw [hy398]; with_reducible exact H) | (have H2_ := (Option.bind_some _ _).symm.trans H; rw [hy398]; with_reducible exact H2_) | (have H2_ := (Option.bind_some _ _).symm.trans H; with_reducible exact H2_) | with_reducible exact H | (rw [hy398]; exact H) | exact H
            have Ny398 := Aside0.mk hy398
            clear hy398
            have H' := Aside0.mk H
            clear H
            have p4 : 0 ≤ (x5_1 : Int) := od
            have q4 : x5_1 < (a0.size : Int) := od
            have hx4 := bt_at a0 x5_1
            replace p4 := eq_true p4
            replace q4 := eq_true q4
            go_wp2_with (first | ((with_reducible refine gate_callee (f := 155) rfl ?_); refine goesL_ (some 40) rfl rfl Tryd.func155 (by kernel_rfl) rfl #[.string (a0.extract ((ji10) : Int).toNat ((ji9) : Int).toNat)] rfl (by (try simp only [List.map_toArray, List.map_cons, List.map_nil]); first | done | (simp only [hji10, hji9]; rfl) | rfl | (simp only [List.length_drop, List.length_take]; rfl)) ?_; (with_reducible refine (qp_Byte.calls k1 (a0.extract ((ji10) : Int).toNat ((ji9) : Int).toNat) t396 true _ A14.out).mono ?_); rintro e w' ⟨rfl, ⟨nd, rfl⟩⟩; refine ⟨_, rfl, ?_⟩) | ((with_reducible refine gate_builtin (b := .append) (xs := #[.tmp 45, .tmp 47]) rfl ?_); at_builtin; refine Kd.R_append (Kd.int .u8) (w0 := w) w.heap.size rfl (.tmp 45) (.tmp 47) 83 5 (.int .u8 0) 1 rfl Tryd.underlying83 info5 rfl (by decide) (by omega) u4 x4_1 t396 [.int .u8 t396] (fun _ => True) (fun _ => False) rfl rfl ?aP (fun _ hk => hk.elim) ?aF ?aO ?aB ?aS ?aL ?_; (case aP => exact rfl); (case aB => exact bw); (case aF => exact (fun _ _ => trivial)); (case aO => exact (by (with_reducible repeat (first | apply Kd.R_alloc | apply Kd.R_drewN | apply Kd.R_drew)); exact HO_4.out)); (case aS => exact (below_size bw)); (case aL => have := LMc16.out; omega); intro v399 w17 ho hb hg hat; rw [← Ny398.out] at ho; have n0_ := Aside0.mk (hb); have n1_ := Aside0.mk (ho); clear HB; clear HO_4; have HB := n0_; have HO400 := n1_; clear n0_ n1_; clear ho hb hg hat))
            go_roundg k1
            case measure => have := HK1.out; omega
            case rel => exact ⟨(y398), (wrap64 ((wrap64 (x5_1 + 2)) + 1)), cl, H', ⟨by have := HK1.out; omega⟩, ⟨by (with_reducible repeat (first | apply Kd.R_alloc | apply Kd.R_drewN | apply Kd.R_drew)); exact HO400.out⟩, ⟨bw⟩⟩
           ·rw [if_neg c16] at H
            exact absurd H (by simp)
          ·replace c15 := Bool.eq_false_iff.mpr c15
           subst c15
           have H1 : (some ((⟨#[]⟩ : ByteArray), false)) = some (r1, r2) := by rw [if_neg (show ¬ (false = true) by decide)] at H; exact H
           clear H
           have H := H1
           clear H1
           simp only [Option.some.injEq, Prod.mk.injEq] at H
           obtain ⟨rfl, rfl⟩ := H
           have p4 : 0 ≤ (x5_1 : Int) := od
           have q4 : x5_1 < (a0.size : Int) := od
           have hx4 := bt_at a0 x5_1
           replace p4 := eq_true p4
           replace q4 := eq_true q4
           go_wp2_with (first | ((with_reducible refine gate_callee (f := 155) rfl ?_); refine goesL_ (some 40) rfl rfl Tryd.func155 (by kernel_rfl) rfl #[.string (a0.extract ((ji10) : Int).toNat ((ji9) : Int).toNat)] rfl (by (try simp only [List.map_toArray, List.map_cons, List.map_nil]); first | done | (simp only [hji10, hji9]; rfl) | rfl | (simp only [List.length_drop, List.length_take]; rfl)) ?_; (with_reducible refine (qp_Byte.calls k1 (a0.extract ((ji10) : Int).toNat ((ji9) : Int).toNat) t396 false _ A14.out).mono ?_); rintro e w' ⟨rfl, ⟨nd, rfl⟩⟩; refine ⟨_, rfl, ?_⟩))
           go_ret2
           exact ⟨by first | rfl | (simp [errW_none, errW_some] <;> rfl) | (simp only [← hji9, ← hji10]; first | rfl | (simp [errW_none, errW_some] <;> rfl)) | (simp [*, errW_none, errW_some] <;> rfl), bw⟩
         ·rw [if_neg c13] at H
          exact absurd H (by simp)
        ·rw [if_neg c12] at H
         exact absurd H (by simp)
       ·rw [if_neg c11] at H
        exact absurd H (by simp)
      ·rw [if_neg c8] at H
       have c8b0 : ((bt a0 x5_1) == 61) = false := beq_eq_false_iff_ne.mpr c8
       have c8b1 : ((bt a0 x5_1) != 61) = true := bne_iff_ne.mpr c8
       by_cases c19 : x4_1.length < 140737488355328
       ·rw [if_pos c19] at H
        have LMc19 := Aside0.mk c19
        clear c19
        obtain ⟨y401, hy401⟩ : ∃ y_ : List Int, y_ = (x4_1 ++ [bt a0 x5_1]) := ⟨_, rfl⟩
        replace H : (ew_quoted.l0 k1 a0 y401 (wrap64 (x5_1 + 1))) = some (r1, r2) := by first | (rw [hy401]; with_reducible exact H) | (have H2_ := (Option.bind_some _ _).symm.trans H; rw [hy401]; with_reducible exact H2_) | (have H2_ := (Option.bind_some _ _).symm.trans H; with_reducible exact H2_) | with_reducible exact H | (rw [hy401]; exact H) | exact H
        have Ny401 := Aside0.mk hy401
        clear hy401
        have H' := Aside0.mk H
        clear H
        have p4 : 0 ≤ (x5_1 : Int) := od
        have q4 : x5_1 < (a0.size : Int) := od
        have hx4 := bt_at a0 x5_1
        replace p4 := eq_true p4
        replace q4 := eq_true q4
        have p18 : 0 ≤ (x5_1 : Int) := od
        have q18 : x5_1 < (a0.size : Int) := od
        have hx18 := bt_at a0 x5_1
        replace p18 := eq_true p18
        replace q18 := eq_true q18
        go_wp2_with (first | ((with_reducible refine gate_builtin (b := .append) (xs := #[.tmp 17, .tmp 21]) rfl ?_); at_builtin; refine Kd.R_append (Kd.int .u8) (w0 := w) w.heap.size rfl (.tmp 17) (.tmp 21) 83 5 (.int .u8 0) 1 rfl Tryd.underlying83 info5 rfl (by decide) (by omega) u4 x4_1 (bt a0 x5_1) [.int .u8 (bt a0 x5_1)] (fun _ => True) (fun _ => False) rfl rfl ?aP (fun _ hk => hk.elim) ?aF ?aO ?aB ?aS ?aL ?_; (case aP => exact rfl); (case aB => exact bw); (case aF => exact (fun _ _ => trivial)); (case aO => exact (by (with_reducible repeat (first | apply Kd.R_alloc | apply Kd.R_drewN | apply Kd.R_drew)); exact HO_4.out)); (case aS => exact (below_size bw)); (case aL => have := LMc19.out; omega); intro v402 w20 ho hb hg hat; rw [← Ny401.out] at ho; have n0_ := Aside0.mk (hb); have n1_ := Aside0.mk (ho); clear HB; clear HO_4; have HB := n0_; have HO403 := n1_; clear n0_ n1_; clear ho hb hg hat))
        go_roundg k1
        case measure => have := HK1.out; omega
        case rel => exact ⟨(y401), (wrap64 (x5_1 + 1)), cl, H', ⟨by have := HK1.out; omega⟩, ⟨by (with_reducible repeat (first | apply Kd.R_alloc | apply Kd.R_drewN | apply Kd.R_drew)); exact HO403.out⟩, ⟨bw⟩⟩
       ·rw [if_neg c19] at H
        exact absurd H (by simp)
    ·rw [if_neg c3] at H
     exact absurd H (by simp)
   ·rw [if_neg c2] at H
    have c2b0 : decide (x5_1 < (a0.size : Int)) = false := decide_eq_false c2
    clear c2
    simp only [Option.some.injEq, Prod.mk.injEq] at H
    obtain ⟨rfl, rfl⟩ := H
    have hcv21 := own_string (P := Tryd.prog) Tryd.underlying83 Tryd.underlying5 Tryd.underlying9 (Kd.own_of_R HO_4.out)
    go_wp2
    go_ret2
    exact ⟨by first | rfl | (simp [errW_none, errW_some] <;> rfl) | (simp [*, errW_none, errW_some] <;> rfl), bw⟩

end Go.Proofs.YtihabmcaplnbcaaDoor.Fn
namespace Go.Proofs.YtihabmcaplnbcaaDoor.Fn
open Go.RowKit Go.Proofs.YtihabmcaplnbcaaDoorW.PrintWords Go.Proofs.YtihabmcaplnbcaaDoorW.PrintLast Go.Proofs.YtihabmcaplnbcaaDoorW.PrintMore
attribute [local go_sem] max2_int min2_int max_two min_two max_three min_three max_four min_four
set_option linter.unusedVariables false
set_option linter.unusedSimpArgs false

/-! ### ew_solid: function 87 -/
def ew_solid.l0 : Nat → ByteArray → Int → Int → Option (Bool)
 | 0, _, _, _ => none
 | k + 1, x0, x5, x6 => if x6 < x5 then (if 0 ≤ x6 then (if x6 < (x0.size : Int) then (if (bt x0 x6) ≤ 32 then (some false) else (if (bt x0 x6) > 126 then (some false) else (ew_solid.l0 k x0 x5 (wrap64 (x6 + 1))))) else (none)) else (none)) else (some true)
def ew_solid.f (k : Nat) (a0 : ByteArray) : Option (Bool) := ew_solid.l0 k a0 (a0.size : Int) 0
set_option maxHeartbeats 8000000 in
set_option maxRecDepth 100000 in
theorem ew_solid.calls (k : Nat) (a0 : ByteArray) (r : Bool) (w : World) (h : ew_solid.f k a0 = some r) :
  Calls Tryd.prog 87 #[.string a0] w fun e w' => e = .returned (.bool r) ∧ Drawn0 w w' := by
 have H : (ew_solid.l0 k a0 (a0.size : Int) 0) = some r := h
 clear h
 have H' := Aside0.mk H
 clear H
 go_enter Tryd.func87, Tryd.ntmps87
 go_wp2
 go_loopg [6] k (fun kq v6 w' => ∃ (x6_1 : Int), v6 = .int .i64 x6_1 ∧ Aside0 (ew_solid.l0 kq a0 (a0.size : Int) x6_1 = some r) ∧ Aside0 (kq ≤ k) ∧ Drawn0 w w')
 case atStart => exact ⟨(0), cl, H', ⟨Nat.le_refl _⟩, by repeat (first | exact Drawn0.refl _ | apply Drawn0.step)⟩
 case round =>
  clear H'
  obtain ⟨x6_1, rfl, HA, HK1, ⟨m1, rfl⟩⟩ := hrel
  cases gk with
  | zero => exact absurd HA.out (by simp [ew_solid.l0])
  | succ k1 =>
   have H := HA.out
   clear HA
   simp only [ew_solid.l0] at H
   by_cases c2 : x6_1 < (a0.size : Int)
   ·rw [if_pos c2] at H
    have c2b0 : decide (x6_1 < (a0.size : Int)) = true := decide_eq_true c2
    clear c2
    by_cases c3 : 0 ≤ x6_1
    ·rw [if_pos c3] at H
     have c3b0 : decide (0 ≤ x6_1) = true := decide_eq_true c3
     clear c3
     by_cases c4 : x6_1 < (a0.size : Int)
     ·rw [if_pos c4] at H
      have c4b0 : decide (x6_1 < (a0.size : Int)) = true := decide_eq_true c4
      clear c4
      by_cases c6 : (bt a0 x6_1) ≤ 32
      ·rw [if_pos c6] at H
       have c6b0 : decide ((bt a0 x6_1) ≤ 32) = true := decide_eq_true c6
       clear c6
       obtain rfl := Option.some.inj H
       have p5 : 0 ≤ (x6_1 : Int) := od
       have q5 : x6_1 < (a0.size : Int) := od
       have hx5 := bt_at a0 x6_1
       replace p5 := eq_true p5
       replace q5 := eq_true q5
       go_wp2
       go_ret
       exact ⟨by first | rfl | (simp; done) | (simp [*]; done) | (simp [nil_ne]; done) | (simp [u8_w, i64w_]; done) | (simp [size_lit]; done) | (simp; unfold wrap64; omega), by repeat (first | exact Drawn0.refl _ | apply Drawn0.step)⟩
      ·rw [if_neg c6] at H
       have c6b0 : decide ((bt a0 x6_1) ≤ 32) = false := decide_eq_false c6
       clear c6
       by_cases c8 : (bt a0 x6_1) > 126
       ·rw [if_pos c8] at H
        have c8b0 : decide (126 < (bt a0 x6_1)) = true := decide_eq_true c8
        clear c8
        obtain rfl := Option.some.inj H
        have p5 : 0 ≤ (x6_1 : Int) := od
        have q5 : x6_1 < (a0.size : Int) := od
        have hx5 := bt_at a0 x6_1
        replace p5 := eq_true p5
        replace q5 := eq_true q5
        have p7 : 0 ≤ (x6_1 : Int) := od
        have q7 : x6_1 < (a0.size : Int) := od
        have hx7 := bt_at a0 x6_1
        replace p7 := eq_true p7
        replace q7 := eq_true q7
        go_wp2
        go_ret
        exact ⟨by first | rfl | (simp; done) | (simp [*]; done) | (simp [nil_ne]; done) | (simp [u8_w, i64w_]; done) | (simp [size_lit]; done) | (simp; unfold wrap64; omega), by repeat (first | exact Drawn0.refl _ | apply Drawn0.step)⟩
       ·rw [if_neg c8] at H
        have c8b0 : decide (126 < (bt a0 x6_1)) = false := decide_eq_false c8
        clear c8
        have H' := Aside0.mk H
        clear H
        have p5 : 0 ≤ (x6_1 : Int) := od
        have q5 : x6_1 < (a0.size : Int) := od
        have hx5 := bt_at a0 x6_1
        replace p5 := eq_true p5
        replace q5 := eq_true q5
        have p7 : 0 ≤ (x6_1 : Int) := od
        have q7 : x6_1 < (a0.size : Int) := od
        have hx7 := bt_at a0 x6_1
        replace p7 := eq_true p7
        replace q7 := eq_true q7
        go_wp2
        go_roundg k1
        case measure => have := HK1.out; omega
        case rel => exact ⟨(wrap64 (x6_1 + 1)), cl, H', ⟨by have := HK1.out; omega⟩, by repeat (first | exact Drawn0.refl _ | apply Drawn0.step)⟩
     ·rw [if_neg c4] at H
      exact absurd H (by simp)
    ·rw [if_neg c3] at H
     exact absurd H (by simp)
   ·rw [if_neg c2] at H
    have c2b0 : decide (x6_1 < (a0.size : Int)) = false := decide_eq_false c2
    clear c2
    obtain rfl := Option.some.inj H
    go_wp2
    go_ret
    exact ⟨by first | rfl | (simp; done) | (simp [*]; done) | (simp [nil_ne]; done) | (simp [u8_w, i64w_]; done) | (simp [size_lit]; done) | (simp; unfold wrap64; omega), by repeat (first | exact Drawn0.refl _ | apply Drawn0.step)⟩

end Go.Proofs.YtihabmcaplnbcaaDoor.Fn
namespace Go.Proofs.YtihabmcaplnbcaaDoor.Fn
open Go.RowKit Go.Proofs.YtihabmcaplnbcaaDoorW.PrintWords Go.Proofs.YtihabmcaplnbcaaDoorW.PrintLast Go.Proofs.YtihabmcaplnbcaaDoorW.PrintMore
attribute [local go_sem] max2_int min2_int max_two min_two max_three min_three max_four min_four
set_option linter.unusedVariables false
set_option linter.unusedSimpArgs false

/-! ### b64_white: function 172 -/
def b64_white.f (a0 : Int) : Option (Bool) := if a0 = 32 then (some true) else (if a0 = 9 then (some true) else (if a0 = 13 then (some true) else (some (a0 == 10))))
set_option maxHeartbeats 8000000 in
set_option maxRecDepth 100000 in
theorem b64_white.calls (a0 : Int) (r : Bool) (w : World) (h : b64_white.f a0 = some r) :
  Calls Tryd.prog 172 #[.int .u8 a0] w fun e w' => e = .returned (.bool r) ∧ Drawn0 w w' := by
 have H : (if a0 = 32 then (some true) else (if a0 = 9 then (some true) else (if a0 = 13 then (some true) else (some (a0 == 10))))) = some r := h
 clear h
 by_cases c2 : a0 = 32
 ·rw [if_pos c2] at H
  have c2b0 : (a0 == 32) = true := beq_iff_eq.mpr c2
  have c2b1 : (a0 != 32) = false := bne_eq_false_iff_eq.mpr c2
  clear c2
  obtain rfl := Option.some.inj H
  go_enter Tryd.func172, Tryd.ntmps172
  go_wp2
  go_ret
  exact ⟨by first | rfl | (simp; done) | (simp [*]; done) | (simp [nil_ne]; done) | (simp [u8_w, i64w_]; done) | (simp [size_lit]; done) | (simp; unfold wrap64; omega), by repeat (first | exact Drawn0.refl _ | apply Drawn0.step)⟩
 ·rw [if_neg c2] at H
  have c2b0 : (a0 == 32) = false := beq_eq_false_iff_ne.mpr c2
  have c2b1 : (a0 != 32) = true := bne_iff_ne.mpr c2
  by_cases c3 : a0 = 9
  ·rw [if_pos c3] at H
   have c3b0 : (a0 == 9) = true := beq_iff_eq.mpr c3
   have c3b1 : (a0 != 9) = false := bne_eq_false_iff_eq.mpr c3
   clear c3
   obtain rfl := Option.some.inj H
   go_enter Tryd.func172, Tryd.ntmps172
   go_wp2
   go_ret
   exact ⟨by first | rfl | (simp; done) | (simp [*]; done) | (simp [nil_ne]; done) | (simp [u8_w, i64w_]; done) | (simp [size_lit]; done) | (simp; unfold wrap64; omega), by repeat (first | exact Drawn0.refl _ | apply Drawn0.step)⟩
  ·rw [if_neg c3] at H
   have c3b0 : (a0 == 9) = false := beq_eq_false_iff_ne.mpr c3
   have c3b1 : (a0 != 9) = true := bne_iff_ne.mpr c3
   by_cases c4 : a0 = 13
   ·rw [if_pos c4] at H
    have c4b0 : (a0 == 13) = true := beq_iff_eq.mpr c4
    have c4b1 : (a0 != 13) = false := bne_eq_false_iff_eq.mpr c4
    clear c4
    obtain rfl := Option.some.inj H
    go_enter Tryd.func172, Tryd.ntmps172
    go_wp2
    go_ret
    exact ⟨by first | rfl | (simp; done) | (simp [*]; done) | (simp [nil_ne]; done) | (simp [u8_w, i64w_]; done) | (simp [size_lit]; done) | (simp; unfold wrap64; omega), by repeat (first | exact Drawn0.refl _ | apply Drawn0.step)⟩
   ·rw [if_neg c4] at H
    have c4b0 : (a0 == 13) = false := beq_eq_false_iff_ne.mpr c4
    have c4b1 : (a0 != 13) = true := bne_iff_ne.mpr c4
    obtain rfl := Option.some.inj H
    go_enter Tryd.func172, Tryd.ntmps172
    go_wp2
    go_ret
    exact ⟨by first | rfl | (simp; done) | (simp [*]; done) | (simp [nil_ne]; done) | (simp [u8_w, i64w_]; done) | (simp [size_lit]; done) | (simp; unfold wrap64; omega), by repeat (first | exact Drawn0.refl _ | apply Drawn0.step)⟩

end Go.Proofs.YtihabmcaplnbcaaDoor.Fn
namespace Go.Proofs.YtihabmcaplnbcaaDoor.Fn
open Go.RowKit Go.Proofs.YtihabmcaplnbcaaDoorW.PrintWords Go.Proofs.YtihabmcaplnbcaaDoorW.PrintLast Go.Proofs.YtihabmcaplnbcaaDoorW.PrintMore
attribute [local go_sem] max2_int min2_int max_two min_two max_three min_three max_four min_four
set_option linter.unusedVariables false
set_option linter.unusedSimpArgs false

/-! ### b64_bare: function 156 -/
def b64_bare.l0 : Nat → ByteArray → List Int → Int → Int → Option (ByteArray)
 | 0, _, _, _, _ => none
 | k + 1, x0, x3, x6, x7 => if x7 < x6 then (if 0 ≤ x7 then (if x7 < (x0.size : Int) then ((b64_white.f (bt x0 x7)).bind fun t406 => (if t406 = true then (b64_bare.l0 k x0 x3 x6 (wrap64 (x7 + 1))) else (if x3.length < 140737488355328 then (b64_bare.l0 k x0 (x3 ++ [bt x0 x7]) x6 (wrap64 (x7 + 1))) else (none)))) else (none)) else (none)) else (some (strOfNums x3))
def b64_bare.f (k : Nat) (a0 : ByteArray) : Option (ByteArray) := b64_bare.l0 k a0 ([] : List Int) (a0.size : Int) 0
set_option maxHeartbeats 8000000 in
set_option maxRecDepth 100000 in
theorem b64_bare.calls (k : Nat) (a0 : ByteArray) (r : ByteArray) (w : World) (h : b64_bare.f k a0 = some r) :
  Calls Tryd.prog 156 #[.string a0] w fun e w' => e = .returned (.string r) ∧ Below w.heap.size w w' := by
 have HB := Aside0.mk (Below.refl w.heap.size w)
 have H : (b64_bare.l0 k a0 ([] : List Int) (a0.size : Int) 0) = some r := h
 clear h
 have H' := Aside0.mk H
 clear H
 go_enter Tryd.func156, Tryd.ntmps156
 go_wp2
 go_loopg [3, 7] k (fun kq v3 v7 w' => ∃ (x3_1 : List Int) (x7_1 : Int), v7 = .int .i64 x7_1 ∧ Aside0 (b64_bare.l0 kq a0 x3_1 (a0.size : Int) x7_1 = some r) ∧ Aside0 (kq ≤ k) ∧ Aside0 (Kd.R (Kd.int .u8) 5 w' w.heap.size (fun _ => True) v3 x3_1) ∧ Aside0 (Below w.heap.size w w'))
 case atStart => exact ⟨(([] : List Int)), (0), cl, H', ⟨Nat.le_refl _⟩, ⟨by first | exact Kd.R_nil _ _ _ _ _ | exact Kd.N_nil _ _ _ _ _ | exact Kd.V_nil _ _ _ _ _ | exact Kd.Q_nil _ _ _ _ _ | exact Kd.S_nil _ _ _ _ _⟩, ⟨bw⟩⟩
 case round =>
  clear H'
  try clear c1
  obtain ⟨x3_1, x7_1, rfl, HA, HK1, HO_3, HB⟩ := hrel
  cases gk with
  | zero => exact absurd HA.out (by simp [b64_bare.l0])
  | succ k1 =>
   have H := HA.out
   clear HA
   simp only [b64_bare.l0] at H
   by_cases c2 : x7_1 < (a0.size : Int)
   ·rw [if_pos c2] at H
    have c2b0 : decide (x7_1 < (a0.size : Int)) = true := decide_eq_true c2
    clear c2
    by_cases c3 : 0 ≤ x7_1
    ·rw [if_pos c3] at H
     have c3b0 : decide (0 ≤ x7_1) = true := decide_eq_true c3
     clear c3
     by_cases c4 : x7_1 < (a0.size : Int)
     ·rw [if_pos c4] at H
      have c4b0 : decide (x7_1 < (a0.size : Int)) = true := decide_eq_true c4
      clear c4
      replace H := Option.bind_eq_some_iff.mp H
      obtain ⟨t406, A60, H⟩ := H
      replace H : (if t406 = true then (b64_bare.l0 k1 a0 x3_1 (a0.size : Int) (wrap64 (x7_1 + 1))) else (if x3_1.length < 140737488355328 then (b64_bare.l0 k1 a0 (x3_1 ++ [bt a0 x7_1]) (a0.size : Int) (wrap64 (x7_1 + 1))) else (none))) = some r := H
      have A6 := Aside0.mk A60
      clear A60
      by_cases c7 : t406 = true
      ·subst c7
       have H1 : (b64_bare.l0 k1 a0 x3_1 (a0.size : Int) (wrap64 (x7_1 + 1))) = some r := by rw [if_pos rfl] at H; exact H
       clear H
       have H := H1
       clear H1
       have H' := Aside0.mk H
       clear H
       have p5 : 0 ≤ (x7_1 : Int) := od
       have q5 : x7_1 < (a0.size : Int) := od
       have hx5 := bt_at a0 x7_1
       replace p5 := eq_true p5
       replace q5 := eq_true q5
       go_wp2_with (first | ((with_reducible refine gate_callee (f := 172) rfl ?_); refine goesL_ (some 13) rfl rfl Tryd.func172 (by kernel_rfl) rfl #[.int .u8 (bt a0 x7_1)] rfl am ?_; (with_reducible refine (b64_white.calls (bt a0 x7_1) true _ A6.out).mono ?_); rintro e w' ⟨rfl, ⟨nd, rfl⟩⟩; refine ⟨_, rfl, ?_⟩))
       go_roundg k1
       case measure => have := HK1.out; omega
       case rel => exact ⟨(x3_1), (wrap64 (x7_1 + 1)), cl, H', ⟨by have := HK1.out; omega⟩, ⟨by (with_reducible repeat (first | apply Kd.R_alloc | apply Kd.R_drewN | apply Kd.R_drew)); exact HO_3.out⟩, ⟨bw⟩⟩
      ·replace c7 := Bool.eq_false_iff.mpr c7
       subst c7
       have H1 : (if x3_1.length < 140737488355328 then (b64_bare.l0 k1 a0 (x3_1 ++ [bt a0 x7_1]) (a0.size : Int) (wrap64 (x7_1 + 1))) else (none)) = some r := by rw [if_neg (show ¬ (false = true) by decide)] at H; exact H
       clear H
       have H := H1
       clear H1
       by_cases c9 : x3_1.length < 140737488355328
       ·rw [if_pos c9] at H
        have LMc9 := Aside0.mk c9
        clear c9
        obtain ⟨y407, hy407⟩ : ∃ y_ : List Int, y_ = (x3_1 ++ [bt a0 x7_1]) := ⟨_, rfl⟩
        replace H : (b64_bare.l0 k1 a0 y407 (a0.size : Int) (wrap64 (x7_1 + 1))) = some r := by first | (rw [hy407]; with_reducible exact H) | (have H2_ := (Option.bind_some _ _).symm.trans H; rw [hy407]; with_reducible exact H2_) | (have H2_ := (Option.bind_some _ _).symm.trans H; with_reducible exact H2_) | with_reducible exact H | (rw [hy407]; exact H) | exact H
        have Ny407 := Aside0.mk hy407
        clear hy407
        have H' := Aside0.mk H
        clear H
        have p5 : 0 ≤ (x7_1 : Int) := od
        have q5 : x7_1 < (a0.size : Int) := od
        have hx5 := bt_at a0 x7_1
        replace p5 := eq_true p5
        replace q5 := eq_true q5
        go_wp2_with (first | ((with_reducible refine gate_callee (f := 172) rfl ?_); refine goesL_ (some 13) rfl rfl Tryd.func172 (by kernel_rfl) rfl #[.int .u8 (bt a0 x7_1)] rfl am ?_; (with_reducible refine (b64_white.calls (bt a0 x7_1) false _ A6.out).mono ?_); rintro e w' ⟨rfl, ⟨nd, rfl⟩⟩; refine ⟨_, rfl, ?_⟩; have p8 : 0 ≤ (x7_1 : Int) := od; have q8 : x7_1 < (a0.size : Int) := od; have hx8 := bt_at a0 x7_1; replace p8 := eq_true p8; replace q8 := eq_true q8) | ((with_reducible refine gate_builtin (b := .append) (xs := #[.tmp 15, .tmp 19]) rfl ?_); at_builtin; refine Kd.R_append (Kd.int .u8) (w0 := w) w.heap.size rfl (.tmp 15) (.tmp 19) 83 5 (.int .u8 0) 1 rfl Tryd.underlying83 info5 rfl (by decide) (by omega) u3 x3_1 (bt a0 x7_1) [.int .u8 (bt a0 x7_1)] (fun _ => True) (fun _ => False) rfl rfl ?aP (fun _ hk => hk.elim) ?aF ?aO ?aB ?aS ?aL ?_; (case aP => exact rfl); (case aB => exact bw); (case aF => exact (fun _ _ => trivial)); (case aO => exact (by (with_reducible repeat (first | apply Kd.R_alloc | apply Kd.R_drewN | apply Kd.R_drew)); exact HO_3.out)); (case aS => exact (below_size bw)); (case aL => have := LMc9.out; omega); intro v408 w10 ho hb hg hat; rw [← Ny407.out] at ho; have n0_ := Aside0.mk (hb); have n1_ := Aside0.mk (ho); clear HB; clear HO_3; have HB := n0_; have HO409 := n1_; clear n0_ n1_; clear ho hb hg hat))
        go_roundg k1
        case measure => have := HK1.out; omega
        case rel => exact ⟨(y407), (wrap64 (x7_1 + 1)), cl, H', ⟨by have := HK1.out; omega⟩, ⟨by (with_reducible repeat (first | apply Kd.R_alloc | apply Kd.R_drewN | apply Kd.R_drew)); exact HO409.out⟩, ⟨bw⟩⟩
       ·rw [if_neg c9] at H
        exact absurd H (by simp)
     ·rw [if_neg c4] at H
      exact absurd H (by simp)
    ·rw [if_neg c3] at H
     exact absurd H (by simp)
   ·rw [if_neg c2] at H
    have c2b0 : decide (x7_1 < (a0.size : Int)) = false := decide_eq_false c2
    clear c2
    obtain rfl := Option.some.inj H
    have hcv11 := own_string (P := Tryd.prog) Tryd.underlying83 Tryd.underlying5 Tryd.underlying9 (Kd.own_of_R HO_3.out)
    go_wp2
    go_ret
    exact ⟨by first | rfl | (simp [errW_none, errW_some] <;> rfl) | (simp [*, errW_none, errW_some] <;> rfl), bw⟩

end Go.Proofs.YtihabmcaplnbcaaDoor.Fn
set_option linter.unusedVariables false
set_option linter.unusedSimpArgs false
namespace Go.Proofs.YtihabmcaplnbcaaDoor.Pl
open Go.RowKit Go.Proofs.YtihabmcaplnbcaaDoorW.PrintWords Go.Proofs.YtihabmcaplnbcaaDoor.Fn

/-! Layers 17, 18, 19: the program's small functions compute the plain ones. -/
def digZ (c : UInt8) : Int := match hexD c with | none => -1 | some n => (n : Int)
theorem qpdigit_two (c : UInt8) : qp_digit.f 2 (c.toNat : Int) = some (digZ c) := forall_byte (p := fun c => qp_digit.f 2 (c.toNat : Int) = some (digZ c)) (by decide +kernel) c
theorem qpdigit_is (c : UInt8) (k : Nat) (hk : 2 ≤ k) : qp_digit.f k (c.toNat : Int) = some (digZ c) := mono_up (fun k => qp_digit.mono _ k) (qpdigit_two c) k hk
theorem hexD_lt {c : UInt8} {n : Nat} (h : hexD c = some n) : n < 16 := by
  unfold hexD at h
  split at h
  · injection h with h; omega
  · split at h
    · injection h with h; omega
    · split at h
      · injection h with h; omega
      · cases h
def resH : Option UInt8 → Int × Bool
  | none => (0, false)
  | some x => ((x.toNat : Int), true)
theorem wrap_small {x : Int} (h0 : 0 ≤ x) (h1 : x ≤ 1000000000000) : wrap64 x = x := wrap_id (by omega) (by omega)
theorem qpByte_two (a b : UInt8) (k : Nat) (hk : 3 ≤ k) : qp_Byte.f k (str [a, b]) = some (resH (hexB a b)) := by
  obtain ⟨k, rfl⟩ : ∃ j, k = j + 1 := ⟨k - 1, by omega⟩
  have b0 : bt (str [a, b]) 0 = (a.toNat : Int) := bt_str [a, b] 0 (by simp)
  have b1 : bt (str [a, b]) 1 = (b.toNat : Int) := bt_str [a, b] 1 (by simp)
  have hz : ((str [a, b]).size : Int) = 2 := by rw [str_size]; rfl
  have hj : ∀ t, qp_Byte.j0 (k + 1) (str [a, b]) t = if t = true then some (0, false) else some ((Go.bits .or .i64 (wrap64 (digZ a * 16)) (digZ b)) % 256, true) := by
    intro t
    rw [qp_Byte.j0]
    cases t with
    | true => rfl
    | false =>
      simp only [Bool.false_eq_true, if_false]
      rw [hz, if_pos (by decide), b0, qpdigit_is a k (by omega), Option.bind_some, if_pos (by decide), b1, qpdigit_is b k (by omega)]
      rfl
  unfold qp_Byte.f
  rw [hz, if_pos rfl, if_pos (by decide), b0, qpdigit_is a _ (by omega), Option.bind_some, hj]
  cases ha : hexD a with
  | none =>
    have e : digZ a = -1 := by unfold digZ; rw [ha]
    rw [e, if_pos (by decide), if_pos rfl]
    unfold hexB
    rw [ha]
    rfl
  | some x =>
    have hx := hexD_lt ha
    have e : digZ a = (x : Int) := by unfold digZ; rw [ha]
    rw [e, if_neg (by omega), if_pos (by decide), b1, qpdigit_is b _ (by omega), Option.bind_some, hj, e]
    cases hb : hexD b with
    | none =>
      have e2 : digZ b = -1 := by unfold digZ; rw [hb]
      rw [e2, if_pos (by decide)]
      unfold hexB
      rw [ha, hb]
      rfl
    | some y =>
      have hy := hexD_lt hb
      have e2 : digZ b = (y : Int) := by unfold digZ; rw [hb]
      rw [e2, decide_eq_false (by omega), if_neg (by decide), wrap_small (by omega) (by omega), or_i64 4 _ _ (by omega) (by omega) (by omega) (by omega) (by omega) (by omega)]
      unfold hexB
      rw [ha, hb]
      have e3 : (UInt8.ofNat (16 * x + y)).toNat = 16 * x + y := by simp; omega
      simp only [Option.bind_some, resH, e3]
      congr 2
      omega
theorem qpByte_short (s : ByteArray) (h : s.size ≠ 2) (k : Nat) (hk : 1 ≤ k) : qp_Byte.f k s = some (0, false) := by
  obtain ⟨k, rfl⟩ : ∃ j, k = j + 1 := ⟨k - 1, by omega⟩
  unfold qp_Byte.f
  rw [if_neg (by omega), qp_Byte.j0, if_pos rfl]
def numsB (l : Bytes) : List Int := l.map fun c => (c.toNat : Int)
theorem nums_str (l : Bytes) : strOfNums (numsB l) = str l := by
  apply bs_inj
  rw [bs_str]
  simp [bs, strOfNums, numsB, Function.comp_def]
theorem numsB_len (l : Bytes) : (numsB l).length = l.length := by simp [numsB]
theorem numsB_snoc (l : Bytes) (c : UInt8) : numsB l ++ [(c.toNat : Int)] = numsB (l ++ [c]) := by simp [numsB]
def resQ : Option Bytes → ByteArray × Bool
  | none => (⟨#[]⟩, false)
  | some l => (str l, true)
theorem byte_is (c : UInt8) (n : Nat) (h : n < 256) : ((c.toNat : Int) = (n : Int)) = (c = UInt8.ofNat n) := by
  apply propext
  constructor
  · intro e
    have e' : c.toNat = n := by omega
    rw [← e']
    simp
  · intro e
    rw [e]
    simp
    omega
theorem quoted_l0 (s : ByteArray) (hs : s.size ≤ 1000000000) : ∀ (f : Nat) (rest : Bytes) (i k : Nat) (acc : Bytes), (bs s).drop i = rest → i ≤ s.size → rest.length ≤ f → f + 4 ≤ k → acc.length ≤ i →
    ew_quoted.l0 k s (numsB acc) (i : Int) = some (resQ ((quotedF f rest).map (acc ++ ·)))
  | f, [], i, k, acc, hd, hi, hf, hk, ha => by
    obtain ⟨k, rfl⟩ : ∃ j, k = j + 1 := ⟨k - 1, by omega⟩
    have := drop_nil hd
    rw [bs_length] at this
    rw [ew_quoted.l0, if_neg (by omega), nums_str]
    cases f <;> simp [quotedF, resQ]
  | 0, c :: r, i, k, acc, hd, hi, hf, hk, ha => absurd hf (by simp)
  | f + 1, c :: r, i, k, acc, hd, hi, hf, hk, ha => by
    obtain ⟨k, rfl⟩ : ∃ j, k = j + 1 := ⟨k - 1, by omega⟩
    obtain ⟨h1, h2, h3, h4⟩ := drop_cons hd
    rw [bs_length] at h1
    have hlr : r.length + (i + 1) = s.size := by
      have := congrArg List.length h3
      rw [List.length_drop, bs_length] at this
      omega
    have hfr : r.length ≤ f := by simpa using hf
    rw [ew_quoted.l0, if_pos (by omega), if_pos (by omega), bt_drop hd, quotedF]
    by_cases c1 : c = 95
    · rw [if_pos (by rw [c1]; rfl), if_pos c1, if_pos (by rw [numsB_len]; omega), wrap_succ i (by omega)]
      have := quoted_l0 s hs f r (i + 1) k (acc ++ [32]) h3 (by omega) hfr (by omega) (by rw [List.length_append, List.length_singleton]; omega)
      rw [← numsB_snoc] at this
      rw [show ((32 : UInt8).toNat : Int) = 32 from rfl] at this
      rw [this, Option.map_map]
      congr 2
      cases quotedF f r <;> simp
    · rw [if_neg (by rw [show (95 : Int) = ((95 : Nat) : Int) from rfl, byte_is c 95 (by decide)]; exact c1), if_neg c1]
      by_cases c2 : c = 61
      · rw [if_pos (by rw [c2]; rfl), if_pos c2, wrap_small (x := (i : Int) + 1) (by omega) (by omega), wrap_small (x := (i : Int) + 3) (by omega) (by omega), if_pos (by omega)]
        by_cases hl : 2 ≤ r.length
        · obtain ⟨a, b, r', rfl⟩ : ∃ a b r', r = a :: b :: r' := by
            match r, hl with
            | a :: b :: r', _ => exact ⟨a, b, r', rfl⟩
          rw [if_pos hl]
          have hmn : mn ((i : Int) + 3) (s.size : Int) = (i : Int) + 3 := by unfold mn; rw [if_neg (by simp at hlr; omega)]
          have hx : s.extract (i + 1) (i + 3) = str [a, b] := by
            apply bs_inj
            rw [bs_extract, bs_str, List.drop_take, h3, show i + 3 - (i + 1) = 2 by omega]
            rfl
          rw [hmn, if_pos (by omega), if_pos (by simp at hlr; omega), show ((i : Int) + 1).toNat = i + 1 by omega, show ((i : Int) + 3).toNat = i + 3 by omega, hx, qpByte_two a b k (by omega), Option.bind_some]
          simp only [List.getD_cons_zero, List.getD_cons_succ, List.drop_succ_cons, List.drop_zero]
          cases hb : hexB a b with
          | none => rfl
          | some x =>
            simp only [resH, Option.bind_some]
            rw [if_pos trivial, if_pos (by rw [numsB_len]; omega), wrap_small (x := (i : Int) + 2) (by omega) (by omega), wrap_small (x := (i : Int) + 2 + 1) (by omega) (by omega), numsB_snoc]
            have h5 : (bs s).drop (i + 3) = r' := by rw [show i + 3 = (i + 1) + 2 by omega, ← List.drop_drop, h3]; rfl
            have := quoted_l0 s hs f r' (i + 3) k (acc ++ [x]) h5 (by simp at hlr; omega) (by simp at hfr; omega) (by omega) (by rw [List.length_append, List.length_singleton]; omega)
            rw [show (i : Int) + 2 + 1 = ((i + 3 : Nat) : Int) by omega, this, Option.map_map]
            congr 2
            cases quotedF f r' <;> simp
        · rw [if_neg hl]
          have hmn : mn ((i : Int) + 3) (s.size : Int) = (s.size : Int) := by unfold mn; rw [if_pos (by omega)]
          rw [hmn, if_pos (by omega), if_pos (by omega), qpByte_short _ (by
            intro e
            have e2 := congrArg List.length (bs_extract s ((i : Int) + 1).toNat ((s.size : Int)).toNat)
            rw [bs_length, e, List.length_drop, List.length_take, bs_length] at e2
            omega) k (by omega), Option.bind_some, if_neg (by decide)]
          rfl
      · rw [if_neg (by rw [show (61 : Int) = ((61 : Nat) : Int) from rfl, byte_is c 61 (by decide)]; exact c2), if_neg c2, if_pos (by rw [numsB_len]; omega), wrap_succ i (by omega), numsB_snoc]
        rw [quoted_l0 s hs f r (i + 1) k (acc ++ [c]) h3 (by omega) hfr (by omega) (by rw [List.length_append, List.length_singleton]; omega), Option.map_map]
        congr 2
        cases quotedF f r <;> simp
theorem quoted_is (s : ByteArray) (hs : s.size ≤ 1000000000) (k : Nat) (hk : s.size + 4 ≤ k) : ew_quoted.f k s = some (resQ (quotedL (bs s))) := by
  have := quoted_l0 s hs s.size (bs s) 0 k [] rfl (by omega) (by rw [bs_length]; exact Nat.le_refl _) hk (by simp)
  unfold ew_quoted.f quotedL
  rw [bs_length]
  have e : (quotedF s.size (bs s)).map (([] : Bytes) ++ ·) = quotedF s.size (bs s) := by cases quotedF s.size (bs s) <;> simp
  rw [e] at this
  exact this
theorem solid_l0 (s : ByteArray) (hs : s.size ≤ 1000000000) : ∀ (rest : Bytes) (i k : Nat), (bs s).drop i = rest → rest.length + 1 ≤ k → ew_solid.l0 k s (s.size : Int) (i : Int) = some (solidL rest)
  | [], i, k, hd, hk => by
    obtain ⟨k, rfl⟩ : ∃ j, k = j + 1 := ⟨k - 1, by omega⟩
    have := drop_nil hd
    rw [bs_length] at this
    rw [ew_solid.l0, if_neg (by omega)]
    rfl
  | c :: r, i, k, hd, hk => by
    obtain ⟨k, rfl⟩ : ∃ j, k = j + 1 := ⟨k - 1, by omega⟩
    obtain ⟨h1, h2, h3, h4⟩ := drop_cons hd
    rw [bs_length] at h1
    rw [ew_solid.l0, if_pos (by omega), if_pos (by omega), if_pos (by omega), bt_drop hd]
    show _ = some ((decide (33 ≤ c.toNat) && decide (c.toNat ≤ 126)) && solidL r)
    by_cases c1 : (c.toNat : Int) ≤ 32
    · rw [if_pos c1, decide_eq_false (by omega)]
      rfl
    · rw [if_neg c1, decide_eq_true (by omega)]
      by_cases c2 : (c.toNat : Int) > 126
      · rw [if_pos c2, decide_eq_false (by omega)]
        rfl
      · rw [if_neg c2, decide_eq_true (by omega), wrap_succ i (by omega), solid_l0 s hs r (i + 1) k h3 (by simp at hk; omega)]
        rfl
theorem solid_is (s : ByteArray) (hs : s.size ≤ 1000000000) (k : Nat) (hk : s.size + 1 ≤ k) : ew_solid.f k s = some (solidL (bs s)) :=
  solid_l0 s hs (bs s) 0 k rfl (by rw [bs_length]; exact hk)
theorem white_is (c : UInt8) : b64_white.f (c.toNat : Int) = some (whiteC c) := forall_byte (p := fun c => b64_white.f (c.toNat : Int) = some (whiteC c)) (by decide +kernel) c
theorem bare_l0 (s : ByteArray) (hs : s.size ≤ 1000000000) : ∀ (rest : Bytes) (i k : Nat) (acc : Bytes), (bs s).drop i = rest → rest.length + 1 ≤ k → acc.length ≤ i → b64_bare.l0 k s (numsB acc) (s.size : Int) (i : Int) = some (str (acc ++ bareL rest))
  | [], i, k, acc, hd, hk, ha => by
    obtain ⟨k, rfl⟩ : ∃ j, k = j + 1 := ⟨k - 1, by omega⟩
    have := drop_nil hd
    rw [bs_length] at this
    rw [b64_bare.l0, if_neg (by omega), nums_str]
    simp [bareL]
  | c :: r, i, k, acc, hd, hk, ha => by
    obtain ⟨k, rfl⟩ : ∃ j, k = j + 1 := ⟨k - 1, by omega⟩
    obtain ⟨h1, h2, h3, h4⟩ := drop_cons hd
    rw [bs_length] at h1
    rw [b64_bare.l0, if_pos (by omega), if_pos (by omega), if_pos (by omega), bt_drop hd, white_is, Option.bind_some]
    cases hw : whiteC c with
    | true =>
      rw [if_pos rfl, wrap_succ i (by omega), bare_l0 s hs r (i + 1) k acc h3 (by simp at hk; omega) (by omega)]
      simp [bareL, hw]
    | false =>
      rw [if_neg (by decide), if_pos (by rw [numsB_len]; omega), wrap_succ i (by omega), numsB_snoc, bare_l0 s hs r (i + 1) k (acc ++ [c]) h3 (by simp at hk; omega) (by rw [List.length_append, List.length_singleton]; omega)]
      simp [bareL, hw]
theorem bare_is (s : ByteArray) (hs : s.size ≤ 1000000000) (k : Nat) (hk : s.size + 1 ≤ k) : b64_bare.f k s = some (str (bareL (bs s))) :=
  bare_l0 s hs (bs s) 0 k [] rfl (by rw [bs_length]; exact hk) (by simp)
end Go.Proofs.YtihabmcaplnbcaaDoor.Pl
set_option linter.unusedVariables false
namespace Go.Proofs.YtihabmcaplnbcaaDoor.Fn
open Go.RowKit Go.Proofs.YtihabmcaplnbcaaDoorW.PrintWords

def strings_Repeat.f (a0 : ByteArray) (a1 : Int) : Option ByteArray := if 0 ≤ a1 ∧ a1 ≤ 1000000 ∧ a0.size ≤ 1000000 then some (Pl.str (Lib.repeatL a0.data.toList a1.toNat)) else none
theorem strings_Repeat.calls (a0 : ByteArray) (a1 : Int) (r : ByteArray) (w : World) (h : strings_Repeat.f a0 a1 = some r) :
    Calls Tryd.prog 178 #[.string a0, .int .i64 a1] w fun e w' => e = .returned (.string r) ∧ Below w.heap.size w w' := by
  unfold strings_Repeat.f at h
  by_cases hs : 0 ≤ a1 ∧ a1 ≤ 1000000 ∧ a0.size ≤ 1000000
  · rw [if_pos hs] at h
    have HR := Option.some.inj h
    subst HR
    obtain ⟨n, rfl⟩ : ∃ n : Nat, a1 = n := ⟨a1.toNat, by omega⟩
    have h1 : a0.size * n ≤ 1000000 * 1000000 := Nat.mul_le_mul (by omega) (by omega)
    exact Tryd.strings_Repeat a0 n w (by omega) (by omega)
  · rw [if_neg hs] at h; exact absurd h (by simp)
end Go.Proofs.YtihabmcaplnbcaaDoor.Fn
set_option linter.unusedVariables false
set_option linter.unusedSimpArgs false
namespace Go.Proofs.YtihabmcaplnbcaaDoor.Fn
open Go.RowKit Go.Proofs.YtihabmcaplnbcaaDoorW.PrintWords

def b64_group.f (a0 : ByteArray) : Option ByteArray := if 1 ≤ a0.size ∧ a0.size ≤ 3 then some (Pl.str (Pl.b64P (Pl.bs a0))) else none
def gN (l : List UInt8) : Nat → Nat
  | 0 => 0
  | i + 1 => gN l i * 256 + (l.getD i 0).toNat
def arrG (c0 c1 c2 c3 : Int) : Nat → Array Value
  | 0 => #[.int .u8 0, .int .u8 0, .int .u8 0, .int .u8 0]
  | 1 => #[.int .u8 0, .int .u8 0, .int .u8 0, .int .u8 c0]
  | 2 => #[.int .u8 0, .int .u8 0, .int .u8 c1, .int .u8 c0]
  | 3 => #[.int .u8 0, .int .u8 c2, .int .u8 c1, .int .u8 c0]
  | _ => #[.int .u8 c3, .int .u8 c2, .int .u8 c1, .int .u8 c0]
def letA : ByteArray := ByteArray.mk #[65, 66, 67, 68, 69, 70, 71, 72, 73, 74, 75, 76, 77, 78, 79, 80, 81, 82, 83, 84, 85, 86, 87, 88, 89, 90, 97, 98, 99, 100, 101, 102, 103, 104, 105, 106, 107, 108, 109, 110, 111, 112, 113, 114, 115, 116, 117, 118, 119, 120, 121, 122, 48, 49, 50, 51, 52, 53, 54, 55, 56, 57, 43, 47]
theorem let_at : ∀ (n : Fin 64) h, ((letA)[n.val]'h).toNat = (Pl.b64C n.val).toNat := by decide +kernel
theorem gN_lt (l : List UInt8) : ∀ i, gN l i < 256 ^ i
  | 0 => by simp [gN]
  | i + 1 => by
    have := gN_lt l i
    have h2 := (l.getD i 0).toNat_lt
    rw [gN, Nat.pow_succ]
    omega
theorem list1 {l : List UInt8} (h : l.length = 1) : ∃ x, l = [x] := by
  match l, h with
  | [x], _ => exact ⟨x, rfl⟩
theorem list2 {l : List UInt8} (h : l.length = 2) : ∃ x y, l = [x, y] := by
  match l, h with
  | [x, y], _ => exact ⟨x, y, rfl⟩
theorem list3 {l : List UInt8} (h : l.length = 3) : ∃ x y z, l = [x, y, z] := by
  match l, h with
  | [x, y, z], _ => exact ⟨x, y, z, rfl⟩
set_option maxHeartbeats 4000000 in
set_option maxRecDepth 100000 in
theorem b64_group.calls (a0 r : ByteArray) (w : World) (h : b64_group.f a0 = some r) :
    Calls Tryd.prog 173 #[.string a0] w fun e w' => e = .returned (.string r) ∧ Below w.heap.size w w' := by
  unfold b64_group.f at h
  by_cases hs : 1 ≤ a0.size ∧ a0.size ≤ 3
  · rw [if_pos hs] at h
    have HR := hid (Option.some.inj h)
    obtain ⟨hs0, hs1⟩ := hs
    clear h
    go_enter Tryd.func173, Tryd.ntmps173
    go_wp2
    go_loopw [3, 7] (fun v3 v7 wr => ∃ i : Nat, i ≤ 3 ∧ v7 = .int .i64 i ∧ v3 = .int .i64 (gN (Pl.bs a0) i) ∧ wr = w) (fun v3 v7 _ => 3 - (intOf v7).toNat)
    case atStart => exact ⟨0, Nat.zero_le _, rfl, rfl, rfl⟩
    case round =>
      obtain ⟨i, hi, rfl, rfl, rfl⟩ := hrel
      by_cases hlt : i < 3
      · obtain ⟨g, hg⟩ : ∃ g, gN (Pl.bs a0) i = g := ⟨_, rfl⟩
        have hg2 : g < 65536 := by
          have h1 := gN_lt (Pl.bs a0) i
          have h2 : 256 ^ i ≤ 256 ^ 2 := Nat.pow_le_pow_right (by decide) (by omega)
          rw [hg] at h1
          omega
        have hstep : gN (Pl.bs a0) (i + 1) = g * 256 + ((Pl.bs a0).getD i 0).toNat := by rw [gN, hg]
        rw [hg]
        have e1 : IntKind.i64.wrap ((g : Int) * 256) = (g : Int) * 256 := i64_small _ (by omega) (by omega)
        by_cases hj : i < a0.size
        · have hct := a0[i].toNat_lt
          have e2 : bits .or .i64 ((g : Int) * 256) (a0[i].toNat : Int) = (g : Int) * 256 + (a0[i].toNat : Int) := or_i64 8 _ _ (by omega) (by omega) (by omega) (by omega) (by omega) (by omega)
          have e3 : Hid (gN (Pl.bs a0) (i + 1) = g * 256 + a0[i].toNat) := by
            show _ = _
            rw [hstep]
            have : (Pl.bs a0).getD i 0 = a0[i] := by
              rw [List.getD_eq_getElem?_getD, List.getElem?_eq_getElem (by rw [Pl.bs_length]; exact hj)]
              rfl
            rw [this]
          clear hg hstep
          go_wp2
          go_roundw
          case rel => exact ⟨i + 1, by omega, by go_num, by rw [e3.out]; simp, by trivial⟩
          case measure => simp [intOf]; omega
        · have e3 : Hid (gN (Pl.bs a0) (i + 1) = g * 256) := by
            show _ = _
            rw [hstep, List.getD_eq_getElem?_getD, List.getElem?_eq_none (by rw [Pl.bs_length]; omega)]
            rfl
          clear hg hstep
          go_wp2
          go_roundw
          case rel => exact ⟨i + 1, by omega, by go_num, by rw [e3.out]; simp, by trivial⟩
          case measure => simp [intOf]; omega
      · obtain rfl : i = 3 := by omega
        obtain ⟨g, hg⟩ : ∃ g, gN (Pl.bs a0) 3 = g := ⟨_, rfl⟩
        have hg2 : g < 16777216 := by
          have h1 := gN_lt (Pl.bs a0) 3
          rw [hg] at h1
          exact h1
        rw [hg]
        have HGN := hid hg
        clear hg
        go_wp2
        go_loopw [23] (fun v23 W => ∃ i : Nat, i ≤ 4 ∧ v23 = .int .i64 i ∧ W = wr.alloc (.cells (arrG (Pl.b64C (g % 64)).toNat (Pl.b64C (g / 64 % 64)).toNat (Pl.b64C (g / 4096 % 64)).toNat (Pl.b64C (g / 262144 % 64)).toNat i) 183)) (fun v23 _ => 4 - (intOf v23).toNat)
        case atStart => exact ⟨0, Nat.zero_le _, rfl, rfl⟩
        case round =>
          obtain ⟨i, hi, rfl, rfl⟩ := hrel
          obtain ⟨c0, h0⟩ : ∃ c, (Pl.b64C (g % 64)).toNat = c := ⟨_, rfl⟩
          obtain ⟨c1, h1⟩ : ∃ c, (Pl.b64C (g / 64 % 64)).toNat = c := ⟨_, rfl⟩
          obtain ⟨c2, h2⟩ : ∃ c, (Pl.b64C (g / 4096 % 64)).toNat = c := ⟨_, rfl⟩
          obtain ⟨c3, h3⟩ : ∃ c, (Pl.b64C (g / 262144 % 64)).toNat = c := ⟨_, rfl⟩
          rw [h0, h1, h2, h3]
          have a0' : bits .and .i64 (g : Int) 63 = ((g % 64 : Nat) : Int) := by rw [show (63 : Int) = 2 ^ 6 - 1 by decide, and_i64 6 _ (by omega) (by omega) (by omega)]; omega
          have a1' : bits .and .i64 ((g : Int) / 64) 63 = ((g / 64 % 64 : Nat) : Int) := by rw [show (63 : Int) = 2 ^ 6 - 1 by decide, and_i64 6 _ (by omega) (by omega) (by omega)]; omega
          have a2' : bits .and .i64 ((g : Int) / 4096) 63 = ((g / 4096 % 64 : Nat) : Int) := by rw [show (63 : Int) = 2 ^ 6 - 1 by decide, and_i64 6 _ (by omega) (by omega) (by omega)]; omega
          have a3' : bits .and .i64 ((g : Int) / 262144) 63 = ((g / 262144 % 64 : Nat) : Int) := by rw [show (63 : Int) = 2 ^ 6 - 1 by decide, and_i64 6 _ (by omega) (by omega) (by omega)]; omega
          obtain ⟨m0, q0⟩ : ∃ m, g % 64 = m := ⟨_, rfl⟩
          obtain ⟨m1, q1⟩ : ∃ m, g / 64 % 64 = m := ⟨_, rfl⟩
          obtain ⟨m2, q2⟩ : ∃ m, g / 4096 % 64 = m := ⟨_, rfl⟩
          obtain ⟨m3, q3⟩ : ∃ m, g / 262144 % 64 = m := ⟨_, rfl⟩
          have l0 : m0 < 64 := by omega
          have l1 : m1 < 64 := by omega
          have l2 : m2 < 64 := by omega
          have l3 : m3 < 64 := by omega
          rw [q0] at a0' h0
          rw [q1] at a1' h1
          rw [q2] at a2' h2
          rw [q3] at a3' h3
          have x0 : ∀ h, (((letA)[m0]'h).toNat : Int) = (c0 : Int) := fun h => by rw [← h0]; exact congrArg (fun n : Nat => (n : Int)) (let_at ⟨m0, l0⟩ h)
          have x1 : ∀ h, (((letA)[m1]'h).toNat : Int) = (c1 : Int) := fun h => by rw [← h1]; exact congrArg (fun n : Nat => (n : Int)) (let_at ⟨m1, l1⟩ h)
          have x2 : ∀ h, (((letA)[m2]'h).toNat : Int) = (c2 : Int) := fun h => by rw [← h2]; exact congrArg (fun n : Nat => (n : Int)) (let_at ⟨m2, l2⟩ h)
          have x3 : ∀ h, (((letA)[m3]'h).toNat : Int) = (c3 : Int) := fun h => by rw [← h3]; exact congrArg (fun n : Nat => (n : Int)) (let_at ⟨m3, l3⟩ h)
          unfold letA at x0 x1 x2 x3
          have Q0 := hid q0
          have Q1 := hid q1
          have Q2 := hid q2
          have Q3 := hid q3
          clear q0 q1 q2 q3
          rcases (show i = 0 ∨ i = 1 ∨ i = 2 ∨ i = 3 ∨ i = 4 by omega) with rfl | rfl | rfl | rfl | rfl
          · simp only [arrG]
            go_wp2
            go_roundw
            case rel => exact ⟨1, by omega, rfl, rfl⟩
            case measure => simp [intOf]
          · simp only [arrG]
            go_wp2
            go_roundw
            case rel => exact ⟨2, by omega, rfl, rfl⟩
            case measure => simp [intOf]
          · simp only [arrG]
            go_wp2
            go_roundw
            case rel => exact ⟨3, by omega, rfl, rfl⟩
            case measure => simp [intOf]
          · simp only [arrG]
            go_wp2
            go_roundw
            case rel => exact ⟨4, by omega, rfl, rfl⟩
            case measure => simp [intOf]
          · simp only [arrG]
            go_wp2
            have H0 := hid h0
            have H1 := hid h1
            have H2 := hid h2
            have H3 := hid h3
            clear h0 h1 h2 h3 x0 x1 x2 x3 a0' a1' a2' a3'
            have hB2 : Below wr.heap.size wr (wr.alloc (.cells #[.int .u8 c3, .int .u8 c2, .int .u8 c1, .int .u8 c0] 183)) := (Below.refl _ wr).alloc (Nat.le_refl _) _
            have hb2 := World.alloc_heap_new wr (.cells #[.int .u8 c3, .int .u8 c2, .int .u8 c1, .int .u8 c0] 183)
            have hlt2 : wr.heap.size < (wr.alloc (.cells #[.int .u8 c3, .int .u8 c2, .int .u8 c1, .int .u8 c0] 183)).heap.size := by simp
            generalize wr.alloc (.cells #[.int .u8 c3, .int .u8 c2, .int .u8 c1, .int .u8 c0] 183) = W2 at hB2 hb2 hlt2
            have w0 : IntKind.i64.wrap 0 = 0 := by decide
            have w1 : IntKind.i64.wrap 1 = 1 := by decide
            have w2 : IntKind.i64.wrap 2 = 2 := by decide
            have w3 : IntKind.i64.wrap 3 = 3 := by decide
            have w4 : IntKind.i64.wrap 4 = 4 := by decide
            have f0 : W2.cell? ⟨wr.heap.size, 0, none⟩ = some (.int .u8 c3) := by rw [Lib.cell_of_heap hb2]; rfl
            have f1 : W2.cell? ⟨wr.heap.size, 1, none⟩ = some (.int .u8 c2) := by rw [Lib.cell_of_heap hb2]; rfl
            have f2 : W2.cell? ⟨wr.heap.size, 2, none⟩ = some (.int .u8 c1) := by rw [Lib.cell_of_heap hb2]; rfl
            have f3 : W2.cell? ⟨wr.heap.size, 3, none⟩ = some (.int .u8 c0) := by rw [Lib.cell_of_heap hb2]; rfl
            rcases (show a0.size = 1 ∨ a0.size = 2 ∨ a0.size = 3 by omega) with hz | hz | hz
            · obtain ⟨S, hS⟩ : ∃ S, strOfNums [(c3 : Int), (c2 : Int)] = S := ⟨_, rfl⟩
              have hSz : S.size = 2 := by rw [← hS, strOfNums_size]; rfl
              have hcv : ∀ W : World, W.cell? ⟨wr.heap.size, 0, none⟩ = some (.int .u8 (c3 : Int)) → W.cell? ⟨wr.heap.size, 1, none⟩ = some (.int .u8 (c2 : Int)) → (convert 83 9 (.slice (some ⟨wr.heap.size, 0, none⟩) 2 4)).run Tryd.prog W = .ok (.string S) W := fun W g0 g1 => by
                rw [← hS]
                refine run_convert_bytes_arg W 83 5 Tryd.underlying83 Tryd.underlying5 wr.heap.size 0 2 4 [(c3 : Int), (c2 : Int)] rfl (fun j hj => ?_) 9 Tryd.underlying9
                rw [Nat.zero_add]
                exact match j, hj with | 0, _ => g0 | 1, _ => g1
              have hrp : Hid (strings_Repeat.f ⟨#[61]⟩ 2 = some (Pl.str [61, 61])) := rfl
              have hfin : Hid (S ++ Pl.str [61, 61] = r) := by
                show _ = _
                obtain ⟨x, hx⟩ := list1 (l := Pl.bs a0) (by rw [Pl.bs_length, hz])
                have hg : g = x.toNat * 65536 := by
                  rw [← HGN.out, hx]
                  simp [gN]
                  try omega
                rw [← HR.out, hx, ← hS, show Pl.b64P [x] = (Pl.grp x.toNat 0 0).take 2 ++ [61, 61] from rfl]
                have e0 := H0.out
                have e1 := H1.out
                have e2 := H2.out
                have e3 := H3.out
                rw [← Q0.out, hg] at e0
                rw [← Q1.out, hg] at e1
                rw [← Q2.out, hg] at e2
                rw [← Q3.out, hg] at e3
                rw [← e3, ← e2]
                apply Pl.bs_inj
                rw [Pl.bs_app, Pl.bs_str, Pl.bs_str]
                simp [Pl.bs, strOfNums, Pl.grp]
              have hz2 : (S ++ Pl.str [61, 61]).size = 4 := by rw [ByteArray.size_append, hSz, Pl.str_size]; rfl
              clear hS
              go_region_with (go_at_call 178; refine (strings_Repeat.calls ⟨#[61]⟩ 2 _ _ hrp.out).mono ?_; rintro e w' ⟨rfl, hb⟩; have d0 := (hb.cell (p := ⟨wr.heap.size, 0, none⟩) hlt2).trans f0; have d1 := (hb.cell (p := ⟨wr.heap.size, 1, none⟩) hlt2).trans f1)
              all_goals
                go_wp2
                go_ret
                refine ⟨?_, hB2.trans ((⟨rfl, rfl, rfl, Nat.le_refl _, fun _ _ => rfl⟩ : Below wr.heap.size W2 W2.drew).trans (hb.mono (Nat.le_of_lt hlt2)))⟩
                rw [← hfin.out]
                rfl
            · obtain ⟨S, hS⟩ : ∃ S, strOfNums [(c3 : Int), (c2 : Int), (c1 : Int)] = S := ⟨_, rfl⟩
              have hSz : S.size = 3 := by rw [← hS, strOfNums_size]; rfl
              have hcv : ∀ W : World, W.cell? ⟨wr.heap.size, 0, none⟩ = some (.int .u8 (c3 : Int)) → W.cell? ⟨wr.heap.size, 1, none⟩ = some (.int .u8 (c2 : Int)) → W.cell? ⟨wr.heap.size, 2, none⟩ = some (.int .u8 (c1 : Int)) → (convert 83 9 (.slice (some ⟨wr.heap.size, 0, none⟩) 3 4)).run Tryd.prog W = .ok (.string S) W := fun W g0 g1 g2 => by
                rw [← hS]
                refine run_convert_bytes_arg W 83 5 Tryd.underlying83 Tryd.underlying5 wr.heap.size 0 3 4 [(c3 : Int), (c2 : Int), (c1 : Int)] rfl (fun j hj => ?_) 9 Tryd.underlying9
                rw [Nat.zero_add]
                exact match j, hj with | 0, _ => g0 | 1, _ => g1 | 2, _ => g2
              have hrp : Hid (strings_Repeat.f ⟨#[61]⟩ 1 = some (Pl.str [61])) := rfl
              have hfin : Hid (S ++ Pl.str [61] = r) := by
                show _ = _
                obtain ⟨x, y, hx⟩ := list2 (l := Pl.bs a0) (by rw [Pl.bs_length, hz])
                have hg : g = x.toNat * 65536 + y.toNat * 256 := by
                  rw [← HGN.out, hx]
                  simp [gN]
                  try omega
                rw [← HR.out, hx, ← hS, show Pl.b64P [x, y] = (Pl.grp x.toNat y.toNat 0).take 3 ++ [61] from rfl]
                have e0 := H0.out
                have e1 := H1.out
                have e2 := H2.out
                have e3 := H3.out
                rw [← Q0.out, hg] at e0
                rw [← Q1.out, hg] at e1
                rw [← Q2.out, hg] at e2
                rw [← Q3.out, hg] at e3
                rw [← e3, ← e2, ← e1]
                apply Pl.bs_inj
                rw [Pl.bs_app, Pl.bs_str, Pl.bs_str]
                simp [Pl.bs, strOfNums, Pl.grp]
              have hz2 : (S ++ Pl.str [61]).size = 4 := by rw [ByteArray.size_append, hSz, Pl.str_size]; rfl
              clear hS
              go_region_with (go_at_call 178; refine (strings_Repeat.calls ⟨#[61]⟩ 1 _ _ hrp.out).mono ?_; rintro e w' ⟨rfl, hb⟩; have d0 := (hb.cell (p := ⟨wr.heap.size, 0, none⟩) hlt2).trans f0; have d1 := (hb.cell (p := ⟨wr.heap.size, 1, none⟩) hlt2).trans f1; have d2 := (hb.cell (p := ⟨wr.heap.size, 2, none⟩) hlt2).trans f2)
              all_goals
                go_wp2
                go_ret
                refine ⟨?_, hB2.trans ((⟨rfl, rfl, rfl, Nat.le_refl _, fun _ _ => rfl⟩ : Below wr.heap.size W2 W2.drew).trans (hb.mono (Nat.le_of_lt hlt2)))⟩
                rw [← hfin.out]
                rfl
            · obtain ⟨S, hS⟩ : ∃ S, strOfNums [(c3 : Int), (c2 : Int), (c1 : Int), (c0 : Int)] = S := ⟨_, rfl⟩
              have hSz : S.size = 4 := by rw [← hS, strOfNums_size]; rfl
              have hcv : ∀ W : World, W.cell? ⟨wr.heap.size, 0, none⟩ = some (.int .u8 (c3 : Int)) → W.cell? ⟨wr.heap.size, 1, none⟩ = some (.int .u8 (c2 : Int)) → W.cell? ⟨wr.heap.size, 2, none⟩ = some (.int .u8 (c1 : Int)) → W.cell? ⟨wr.heap.size, 3, none⟩ = some (.int .u8 (c0 : Int)) → (convert 83 9 (.slice (some ⟨wr.heap.size, 0, none⟩) 4 4)).run Tryd.prog W = .ok (.string S) W := fun W g0 g1 g2 g3 => by
                rw [← hS]
                refine run_convert_bytes_arg W 83 5 Tryd.underlying83 Tryd.underlying5 wr.heap.size 0 4 4 [(c3 : Int), (c2 : Int), (c1 : Int), (c0 : Int)] rfl (fun j hj => ?_) 9 Tryd.underlying9
                rw [Nat.zero_add]
                exact match j, hj with | 0, _ => g0 | 1, _ => g1 | 2, _ => g2 | 3, _ => g3
              have hrp : Hid (strings_Repeat.f ⟨#[61]⟩ 0 = some (Pl.str [])) := rfl
              have hfin : Hid (S ++ Pl.str [] = r) := by
                show _ = _
                obtain ⟨x, y, z, hx⟩ := list3 (l := Pl.bs a0) (by rw [Pl.bs_length, hz])
                have hg : g = x.toNat * 65536 + y.toNat * 256 + z.toNat * 1 := by
                  rw [← HGN.out, hx]
                  simp [gN]
                  try omega
                rw [← HR.out, hx, ← hS, show Pl.b64P [x, y, z] = (Pl.grp x.toNat y.toNat z.toNat).take 4 ++ [] from by simp [Pl.b64P, Pl.grp]]
                have e0 := H0.out
                have e1 := H1.out
                have e2 := H2.out
                have e3 := H3.out
                rw [← Q0.out, hg] at e0
                rw [← Q1.out, hg] at e1
                rw [← Q2.out, hg] at e2
                rw [← Q3.out, hg] at e3
                rw [← e3, ← e2, ← e1, ← e0]
                apply Pl.bs_inj
                rw [Pl.bs_app, Pl.bs_str, Pl.bs_str]
                simp [Pl.bs, strOfNums, Pl.grp]
              have hz2 : (S ++ Pl.str []).size = 4 := by rw [ByteArray.size_append, hSz, Pl.str_size]; rfl
              clear hS
              go_region_with (go_at_call 178; refine (strings_Repeat.calls ⟨#[61]⟩ 0 _ _ hrp.out).mono ?_; rintro e w' ⟨rfl, hb⟩; have d0 := (hb.cell (p := ⟨wr.heap.size, 0, none⟩) hlt2).trans f0; have d1 := (hb.cell (p := ⟨wr.heap.size, 1, none⟩) hlt2).trans f1; have d2 := (hb.cell (p := ⟨wr.heap.size, 2, none⟩) hlt2).trans f2; have d3 := (hb.cell (p := ⟨wr.heap.size, 3, none⟩) hlt2).trans f3)
              all_goals
                go_wp2
                go_ret
                refine ⟨?_, hB2.trans ((⟨rfl, rfl, rfl, Nat.le_refl _, fun _ _ => rfl⟩ : Below wr.heap.size W2 W2.drew).trans (hb.mono (Nat.le_of_lt hlt2)))⟩
                rw [← hfin.out]
                rfl
  · rw [if_neg hs] at h; exact absurd h (by simp)
end Go.Proofs.YtihabmcaplnbcaaDoor.Fn
set_option linter.unusedVariables false
set_option linter.unusedSimpArgs false
namespace Go.Proofs.YtihabmcaplnbcaaDoor.Pl
open Go.RowKit Go.Proofs.YtihabmcaplnbcaaDoorW.PrintWords
theorem b64P_step (l : Bytes) (h : l ≠ []) : b64P l = b64P (l.take 3) ++ b64P (l.drop 3) := by
  match l, h with
  | [a], _ => simp [b64P]
  | [a, b], _ => simp [b64P]
  | a :: b :: c :: r, _ => simp [b64P]
theorem b64P_three (l : Bytes) (h : l ≠ []) (h3 : l.length ≤ 3) : (b64P l).length = 4 := by
  match l, h with
  | [a], _ => rfl
  | [a, b], _ => rfl
  | [a, b, c], _ => rfl
  | a :: b :: c :: d :: r, _ => simp at h3
end Go.Proofs.YtihabmcaplnbcaaDoor.Pl
namespace Go.Proofs.YtihabmcaplnbcaaDoor.Fn
open Go.RowKit Go.Proofs.YtihabmcaplnbcaaDoorW.PrintWords

def b64_Plain.f (a0 : ByteArray) : Option ByteArray := if a0.size ≤ 1000000000 then some (Pl.str (Pl.b64P (Pl.bs a0))) else none
set_option maxHeartbeats 4000000 in
set_option maxRecDepth 100000 in
theorem b64_Plain.calls (a0 r : ByteArray) (w : World) (h : b64_Plain.f a0 = some r) :
    Calls Tryd.prog 157 #[.string a0] w fun e w' => e = .returned (.string r) ∧ Below w.heap.size w w' := by
  unfold b64_Plain.f at h
  by_cases hs : a0.size ≤ 1000000000
  · rw [if_pos hs] at h
    have HR := hid (Option.some.inj h)
    clear h
    go_enter Tryd.func157, Tryd.ntmps157
    go_wp2
    go_loopw [0] (fun v0 wr => ∃ (s : ByteArray) (acc : List UInt8), v0 = .string s ∧ isBd w.heap.size w.heap.size (Lib.byteCells acc) wr ∧ Below w.heap.size w wr ∧ Hid (Pl.str (acc ++ Pl.b64P (Pl.bs s)) = r) ∧ acc.length + 4 * s.size ≤ 4 * a0.size) (fun v0 wr => strLen v0)
    case atStart => exact ⟨a0, [], rfl, Lib.IsBuilderF.of (Lib.fresh_isBuilder _ _ w), (Below.refl _ w).alloc (Nat.le_refl _) _, HR.out, by simp⟩
    case round =>
      obtain ⟨s, acc, rfl, hI, hbw, hacc, hal⟩ := hrel
      have hbs := hbw.size
      have hzs := Pl.bs_length s
      by_cases he : s.toList = []
      · obtain ⟨e0, e1⟩ := toList_ne he
        have hend : Hid (Pl.str acc = r) := by
          show _ = _
          rw [← hacc.out, show Pl.bs s = [] from by rw [← Pl.toList_bs]; exact he, Pl.b64P, List.append_nil]
        go_wp2_with (go_at_call 48; refine (Tryd.Builder_String_any_k w.heap.size w.heap.size acc _ hI hbs).mono ?_; rintro e W1 ⟨rfl, _, b1, _⟩)
        go_ret
        refine ⟨?_, hbw.trans b1⟩
        rw [← hend.out]
        rfl
      · obtain ⟨e0, e1⟩ := toList_ne' he
        have hne : Pl.bs s ≠ [] := by rw [← Pl.toList_bs]; exact he
        have hpos : 1 ≤ s.size := by
          rw [← hzs]
          exact List.length_pos_iff.2 hne
        obtain ⟨n, hn⟩ : ∃ n, min 3 s.size = n := ⟨_, rfl⟩
        have hn1 : 1 ≤ n ∧ n ≤ 3 ∧ n ≤ s.size := by omega
        have hcut : (Pl.bs s).take n = (Pl.bs s).take 3 ∧ (Pl.bs s).drop n = (Pl.bs s).drop 3 := by
          rcases Nat.lt_or_ge s.size 3 with h3 | h3
          · have e : n = s.size := by omega
            rw [e, List.take_of_length_le (by omega), List.take_of_length_le (by omega), List.drop_of_length_le (by omega), List.drop_of_length_le (by omega)]
            exact ⟨rfl, rfl⟩
          · have e : n = 3 := by omega
            rw [e]
            exact ⟨rfl, rfl⟩
        have hx1 : Pl.bs (s.extract 0 n) = (Pl.bs s).take n := by rw [Pl.bs_extract, List.drop_zero]
        have hx2 : Pl.bs (s.extract n s.size) = (Pl.bs s).drop n := by rw [Pl.bs_extract, List.take_of_length_le (by omega)]
        have hx3 : (s.extract 0 n).size = n := by rw [← Pl.bs_length, hx1, List.length_take]; omega
        have hx4 : (s.extract n s.size).size = s.size - n := by rw [← Pl.bs_length, hx2, List.length_drop]; omega
        have hgl : (Pl.b64P ((Pl.bs s).take n)).length = 4 := Pl.b64P_three _ (by intro e; have := congrArg List.length e; rw [List.length_take, List.length_nil] at this; omega) (by rw [List.length_take]; omega)
        obtain ⟨Gr, hGr⟩ : ∃ G, Pl.str (Pl.b64P ((Pl.bs s).take n)) = G := ⟨_, rfl⟩
        have hGz : Gr.size = 4 := by rw [← hGr, Pl.str_size]; exact hgl
        have hgr : Hid (b64_group.f (s.extract 0 n) = some Gr) := by
          show _ = _
          unfold b64_group.f
          rw [if_pos (by omega), hx1, hGr]
        have hnew : Hid (Pl.str ((acc ++ Pl.bs Gr) ++ Pl.b64P (Pl.bs (s.extract n s.size))) = r) := by
          show _ = _
          rw [← hacc.out, Pl.b64P_step (Pl.bs s) hne, ← hGr, Pl.bs_str, hx2, hcut.1, hcut.2, List.append_assoc]
        have hmin : min (3 : Int) (s.size : Int) = (n : Int) := by omega
        have hn2 : ((n : Int) ≤ (s.size : Int)) = True := eq_true (by omega)
        have hn3 : ((0 : Int) ≤ (n : Int)) = True := eq_true (by omega)
        clear hcut hacc hGr hgl he hne hx1 hx2
        go_wp2_with (first
          | (go_at_call 173; refine (b64_group.calls (s.extract 0 n) Gr _ hgr.out).mono ?_; rintro e W2 ⟨rfl, b2⟩; have hI2 := bd_below hI b2)
          | (go_at_call 46; refine (bd_string w.heap.size w.heap.size (Lib.byteCells acc) Gr _ hI2 (by rw [Lib.byteCells_length]; omega) (by have := b2.size; omega)).mono ?_; rintro e W3 ⟨rfl, h3, b3, k3⟩))
        go_roundw
        case rel =>
          refine ⟨s.extract n s.size, acc ++ Pl.bs Gr, rfl, ?_, hbw.trans ((b2.mono hbs).trans b3), hnew, ?_⟩
          · rw [Lib.byteCells_append]; exact h3.is
          · rw [List.length_append, Pl.bs_length, hx4]; omega
        case measure => simp only [strLen, hx4]; omega
  · rw [if_neg hs] at h; exact absurd h (by simp)
end Go.Proofs.YtihabmcaplnbcaaDoor.Fn
set_option linter.unusedVariables false
namespace Go.Proofs.YtihabmcaplnbcaaDoor.Fn
open Go.RowKit Go.Proofs.YtihabmcaplnbcaaDoorW.PrintWords

def strings_TrimRight.f (a0 a1 : ByteArray) : Option ByteArray :=
  if a0.size ≤ 140737488355328 then (if a1.size ≤ 1000 then (if a1.data.toList.all (fun b => decide (b.toNat < 128)) = true then some (Pl.str (Lib.trimRightS a0.data.toList a1.data.toList)) else none) else none) else none
theorem strings_TrimRight.calls (a0 a1 r : ByteArray) (w : World) (h : strings_TrimRight.f a0 a1 = some r) :
    Calls Tryd.prog 57 #[.string a0, .string a1] w fun e w' => e = .returned (.string r) ∧ Below w.heap.size w w' := by
  unfold strings_TrimRight.f at h
  by_cases hs : a0.size ≤ 140737488355328
  · rw [if_pos hs] at h
    by_cases hc : a1.size ≤ 1000
    · rw [if_pos hc] at h
      by_cases ha : a1.data.toList.all (fun b => decide (b.toNat < 128)) = true
      · rw [if_pos ha] at h
        have HR := Option.some.inj h
        subst HR
        exact Any.strings_TrimRight_laid Tryd.lays162 (by kernel_rfl) a0 a1 w (by omega) (by omega) (ascii_of_all ha)
      · rw [if_neg ha] at h; exact absurd h (by simp)
    · rw [if_neg hc] at h; exact absurd h (by simp)
  · rw [if_neg hs] at h; exact absurd h (by simp)
end Go.Proofs.YtihabmcaplnbcaaDoor.Fn
namespace Go.Proofs.YtihabmcaplnbcaaDoor.Fn
open Go.RowKit Go.Proofs.YtihabmcaplnbcaaDoorW.PrintWords Go.Proofs.YtihabmcaplnbcaaDoorW.PrintLast Go.Proofs.YtihabmcaplnbcaaDoorW.PrintMore
attribute [local go_sem] max2_int min2_int max_two min_two max_three min_three max_four min_four
set_option linter.unusedVariables false
set_option linter.unusedSimpArgs false

/-! ### b64_Decode: function 125 -/
def b64_Decode.l0 : Nat → ByteArray → List Int → Int → Int → Int → Int → Option (ByteArray × Int)
 | 0, _, _, _, _, _, _ => none
 | k + 1, x0, x4, x5, x6, x13, x14 => if x14 < x13 then (if 0 ≤ x14 then (if x14 < (x0.size : Int) then ((strings_IndexByte.f (⟨#[65, 66, 67, 68, 69, 70, 71, 72, 73, 74, 75, 76, 77, 78, 79, 80, 81, 82, 83, 84, 85, 86, 87, 88, 89, 90, 97, 98, 99, 100, 101, 102, 103, 104, 105, 106, 107, 108, 109, 110, 111, 112, 113, 114, 115, 116, 117, 118, 119, 120, 121, 122, 48, 49, 50, 51, 52, 53, 54, 55, 56, 57, 43, 47]⟩ : ByteArray) (bt x0 x14)).bind fun t415 => (if t415 < 0 then (some ((⟨#[]⟩ : ByteArray), 3)) else (if (wrap64 (x6 + 6)) ≥ 8 then (if 0 ≤ (wrap64 ((wrap64 (x6 + 6)) - 8)) then (if x4.length < 140737488355328 then (b64_Decode.l0 k x0 (x4 ++ [(shr .i64 (Go.bits .or .i64 (wrap64 (x5 * 64)) t415) (wrap64 ((wrap64 (x6 + 6)) - 8))) % 256]) (Go.bits .and .i64 (Go.bits .or .i64 (wrap64 (x5 * 64)) t415) (wrap64 ((shl .i64 1 (wrap64 ((wrap64 (x6 + 6)) - 8))) - 1))) (wrap64 ((wrap64 (x6 + 6)) - 8)) x13 (wrap64 (x14 + 1))) else (none)) else (none)) else (b64_Decode.l0 k x0 x4 (Go.bits .or .i64 (wrap64 (x5 * 64)) t415) (wrap64 (x6 + 6)) x13 (wrap64 (x14 + 1)))))) else (none)) else (none)) else ((b64_Plain.f (strOfNums x4)).bind fun t414 => (if t414.toList = x0.toList then (some (strOfNums x4, 0)) else (some ((⟨#[]⟩ : ByteArray), 3))))
def b64_Decode.f (k : Nat) (a0 : ByteArray) : Option (ByteArray × Int) := (b64_bare.f k a0).bind fun t412 => ((strings_TrimRight.f t412 (⟨#[61]⟩ : ByteArray)).bind fun t413 => (b64_Decode.l0 k t412 ([] : List Int) 0 0 (t413.size : Int) 0))
set_option maxHeartbeats 8000000 in
set_option maxRecDepth 100000 in
theorem b64_Decode.calls (k : Nat) (a0 : ByteArray) (r1 : ByteArray) (r2 : Int) (w : World) (h : b64_Decode.f k a0 = some (r1, r2)) :
  Calls Tryd.prog 125 #[.string a0] w fun e w' => e = .returned (.tuple #[.string r1, .int .i64 r2]) ∧ Below w.heap.size w w' := by
 have HB := Aside0.mk (Below.refl w.heap.size w)
 have H : ((b64_bare.f k a0).bind fun t412 => ((strings_TrimRight.f t412 (⟨#[61]⟩ : ByteArray)).bind fun t413 => (b64_Decode.l0 k t412 ([] : List Int) 0 0 (t413.size : Int) 0))) = some (r1, r2) := h
 clear h
 replace H := Option.bind_eq_some_iff.mp H
 obtain ⟨t412, A20, H⟩ := H
 replace H : ((strings_TrimRight.f t412 (⟨#[61]⟩ : ByteArray)).bind fun t413 => (b64_Decode.l0 k t412 ([] : List Int) 0 0 (t413.size : Int) 0)) = some (r1, r2) := H
 have A2 := Aside0.mk A20
 clear A20
 replace H := Option.bind_eq_some_iff.mp H
 obtain ⟨t413, A30, H⟩ := H
 replace H : (b64_Decode.l0 k t412 ([] : List Int) 0 0 (t413.size : Int) 0) = some (r1, r2) := H
 have A3 := Aside0.mk A30
 clear A30
 have H' := Aside0.mk H
 clear H
 go_enter Tryd.func125, Tryd.ntmps125
 go_wp2_with (first | ((with_reducible refine gate_callee (f := 156) rfl ?_); refine goesL_ (some 10) rfl rfl Tryd.func156 (by kernel_rfl) rfl #[.string a0] rfl am ?_; (with_reducible refine (b64_bare.calls k a0 t412 _ A2.out).mono ?_); rintro e w4 ⟨rfl, hb⟩; refine ⟨_, rfl, ?_⟩; have n0_ := Aside0.mk (below_step bw hb); clear HB; have HB := n0_; clear n0_; (try clear hb); (try clear hb2); (try clear hk); (try clear hi)) | ((with_reducible refine gate_callee (f := 57) rfl ?_); refine goesL_ (some 12) rfl rfl Tryd.func57 (by kernel_rfl) rfl #[.string t412, .string (⟨#[61]⟩ : ByteArray)] rfl am ?_; (with_reducible refine (strings_TrimRight.calls t412 (⟨#[61]⟩ : ByteArray) t413 _ A3.out).mono ?_); rintro e w5 ⟨rfl, hb⟩; refine ⟨_, rfl, ?_⟩; have n0_ := Aside0.mk (below_step bw hb); clear HB; have HB := n0_; clear n0_; (try clear hb); (try clear hb2); (try clear hk); (try clear hi)))
 go_loopg [4, 5, 6, 14] k (fun kq v4 v5 v6 v14 w' => ∃ (x4_1 : List Int) (x5_1 : Int) (x6_1 : Int) (x14_1 : Int), v5 = .int .i64 x5_1 ∧ v6 = .int .i64 x6_1 ∧ v14 = .int .i64 x14_1 ∧ Aside0 (b64_Decode.l0 kq t412 x4_1 x5_1 x6_1 (t413.size : Int) x14_1 = some (r1, r2)) ∧ Aside0 (kq ≤ k) ∧ Aside0 (Kd.R (Kd.int .u8) 5 w' w.heap.size (fun _ => True) v4 x4_1) ∧ Aside0 (Below w.heap.size w w'))
 case atStart => exact ⟨(([] : List Int)), (0), (0), (0), cl, cl, cl, H', ⟨Nat.le_refl _⟩, ⟨by first | exact Kd.R_nil _ _ _ _ _ | exact Kd.N_nil _ _ _ _ _ | exact Kd.V_nil _ _ _ _ _ | exact Kd.Q_nil _ _ _ _ _ | exact Kd.S_nil _ _ _ _ _⟩, ⟨bw⟩⟩
 case round =>
  clear H'
  try clear c1
  try clear p2
  try clear c5
  obtain ⟨x4_1, x5_1, x6_1, x14_1, rfl, rfl, rfl, HA, HK1, HO_4, HB⟩ := hrel
  cases gk with
  | zero => exact absurd HA.out (by simp [b64_Decode.l0])
  | succ k1 =>
   have H := HA.out
   clear HA
   simp only [b64_Decode.l0] at H
   by_cases c6 : x14_1 < (t413.size : Int)
   ·rw [if_pos c6] at H
    have c6b0 : decide (x14_1 < (t413.size : Int)) = true := decide_eq_true c6
    clear c6
    by_cases c7 : 0 ≤ x14_1
    ·rw [if_pos c7] at H
     have c7b0 : decide (0 ≤ x14_1) = true := decide_eq_true c7
     clear c7
     by_cases c8 : x14_1 < (t412.size : Int)
     ·rw [if_pos c8] at H
      have c8b0 : decide (x14_1 < (t412.size : Int)) = true := decide_eq_true c8
      clear c8
      replace H := Option.bind_eq_some_iff.mp H
      obtain ⟨t415, A100, H⟩ := H
      replace H : (if t415 < 0 then (some ((⟨#[]⟩ : ByteArray), 3)) else (if (wrap64 (x6_1 + 6)) ≥ 8 then (if 0 ≤ (wrap64 ((wrap64 (x6_1 + 6)) - 8)) then (if x4_1.length < 140737488355328 then (b64_Decode.l0 k1 t412 (x4_1 ++ [(shr .i64 (Go.bits .or .i64 (wrap64 (x5_1 * 64)) t415) (wrap64 ((wrap64 (x6_1 + 6)) - 8))) % 256]) (Go.bits .and .i64 (Go.bits .or .i64 (wrap64 (x5_1 * 64)) t415) (wrap64 ((shl .i64 1 (wrap64 ((wrap64 (x6_1 + 6)) - 8))) - 1))) (wrap64 ((wrap64 (x6_1 + 6)) - 8)) (t413.size : Int) (wrap64 (x14_1 + 1))) else (none)) else (none)) else (b64_Decode.l0 k1 t412 x4_1 (Go.bits .or .i64 (wrap64 (x5_1 * 64)) t415) (wrap64 (x6_1 + 6)) (t413.size : Int) (wrap64 (x14_1 + 1))))) = some (r1, r2) := H
      have A10 := Aside0.mk A100
      clear A100
      by_cases c11 : t415 < 0
      ·rw [if_pos c11] at H
       have c11b0 : decide (t415 < 0) = true := decide_eq_true c11
       clear c11
       simp only [Option.some.injEq, Prod.mk.injEq] at H
       obtain ⟨rfl, rfl⟩ := H
       have p9 : 0 ≤ (x14_1 : Int) := od
       have q9 : x14_1 < (t412.size : Int) := od
       have hx9 := bt_at t412 x14_1
       replace p9 := eq_true p9
       replace q9 := eq_true q9
       go_wp2_with (first | ((with_reducible refine gate_callee (f := 142) rfl ?_); refine goesL_ (some 20) rfl rfl Tryd.func142 (by kernel_rfl) rfl #[.string (⟨#[65, 66, 67, 68, 69, 70, 71, 72, 73, 74, 75, 76, 77, 78, 79, 80, 81, 82, 83, 84, 85, 86, 87, 88, 89, 90, 97, 98, 99, 100, 101, 102, 103, 104, 105, 106, 107, 108, 109, 110, 111, 112, 113, 114, 115, 116, 117, 118, 119, 120, 121, 122, 48, 49, 50, 51, 52, 53, 54, 55, 56, 57, 43, 47]⟩ : ByteArray), .int .u8 (bt t412 x14_1)] rfl am ?_; (with_reducible refine (strings_IndexByte.calls (⟨#[65, 66, 67, 68, 69, 70, 71, 72, 73, 74, 75, 76, 77, 78, 79, 80, 81, 82, 83, 84, 85, 86, 87, 88, 89, 90, 97, 98, 99, 100, 101, 102, 103, 104, 105, 106, 107, 108, 109, 110, 111, 112, 113, 114, 115, 116, 117, 118, 119, 120, 121, 122, 48, 49, 50, 51, 52, 53, 54, 55, 56, 57, 43, 47]⟩ : ByteArray) (bt t412 x14_1) t415 _ A10.out).mono ?_); rintro e w' ⟨rfl, ⟨nd, rfl⟩⟩; refine ⟨_, rfl, ?_⟩))
       go_ret2
       exact ⟨by first | rfl | (simp [errW_none, errW_some] <;> rfl) | (simp [*, errW_none, errW_some] <;> rfl), bw⟩
      ·rw [if_neg c11] at H
       have c11b0 : decide (t415 < 0) = false := decide_eq_false c11
       clear c11
       by_cases c12 : (wrap64 (x6_1 + 6)) ≥ 8
       ·rw [if_pos c12] at H
        have c12b0 : decide (8 ≤ (wrap64 (x6_1 + 6))) = true := decide_eq_true c12
        clear c12
        obtain ⟨ji13, hji13⟩ : ∃ j_ : Int, (wrap64 ((wrap64 (x6_1 + 6)) - 8)) = j_ := ⟨_, rfl⟩
        replace H : (if 0 ≤ (ji13) then (if x4_1.length < 140737488355328 then (b64_Decode.l0 k1 t412 (x4_1 ++ [(shr .i64 (Go.bits .or .i64 (wrap64 (x5_1 * 64)) t415) (ji13)) % 256]) (Go.bits .and .i64 (Go.bits .or .i64 (wrap64 (x5_1 * 64)) t415) (wrap64 ((shl .i64 1 (ji13)) - 1))) ji13 (t413.size : Int) (wrap64 (x14_1 + 1))) else (none)) else (none)) = some (r1, r2) := by first | (rw [hji13] at H; exact H) | (simp only [hji13] at H ⊢; exact H)
        (try rw [hji13] at A10)
        have hji13w : (IntKind.i64.wrap ((wrap64 (x6_1 + 6)) - 8)) = ji13 := (i64_w _).trans hji13
        by_cases c14 : 0 ≤ (ji13)
        ·rw [if_pos c14] at H
         have c14b0 := eq_true c14
         have c14b1 : decide (0 ≤ (ji13)) = true := decide_eq_true c14
         clear c14
         obtain ⟨ji15, hji15⟩ : ∃ j_ : Int, (shr .i64 (Go.bits .or .i64 (wrap64 (x5_1 * 64)) t415) (ji13)) = j_ := ⟨_, rfl⟩
         replace H : (if x4_1.length < 140737488355328 then (b64_Decode.l0 k1 t412 (x4_1 ++ [(ji15) % 256]) (Go.bits .and .i64 (Go.bits .or .i64 (wrap64 (x5_1 * 64)) t415) (wrap64 ((shl .i64 1 (ji13)) - 1))) ji13 (t413.size : Int) (wrap64 (x14_1 + 1))) else (none)) = some (r1, r2) := by first | (rw [hji15] at H; exact H) | (simp only [hji15] at H ⊢; exact H)
         (try rw [hji15] at A10)
         have hji15_ : ((Go.bits .or .i64 (wrap64 (x5_1 * 64)) t415) / 2 ^ min (ji13).toNat 64) = ji15 := hji15
         have hji15z : (ji13) ≤ 64 → ((Go.bits .or .i64 (wrap64 (x5_1 * 64)) t415) / 2 ^ (ji13).toNat) = ji15 := shr_small hji15
         by_cases c16 : x4_1.length < 140737488355328
         ·rw [if_pos c16] at H
          have LMc16 := Aside0.mk c16
          clear c16
          obtain ⟨y416, hy416⟩ : ∃ y_ : List Int, y_ = (x4_1 ++ [(ji15) % 256]) := ⟨_, rfl⟩
          replace H : (b64_Decode.l0 k1 t412 y416 (Go.bits .and .i64 (Go.bits .or .i64 (wrap64 (x5_1 * 64)) t415) (wrap64 ((shl .i64 1 (ji13)) - 1))) ji13 (t413.size : Int) (wrap64 (x14_1 + 1))) = some (r1, r2) := by first | (rw [hy416]; with_reducible exact H) | (have H2_ := (Option.bind_some _ _).symm.trans H; rw [hy416]; with_reducible exact H2_) | (have H2_ := (Option.bind_some _ _).symm.trans H; with_reducible exact H2_) | with_reducible exact H | (rw [hy416]; exact H) | exact H
          have Ny416 := Aside0.mk hy416
          clear hy416
          have c17b0 := eq_true (od : 0 ≤ (ji13))
          obtain ⟨ji18, hji18⟩ : ∃ j_ : Int, (shl .i64 1 (ji13)) = j_ := ⟨_, rfl⟩
          replace H : (b64_Decode.l0 k1 t412 y416 (Go.bits .and .i64 (Go.bits .or .i64 (wrap64 (x5_1 * 64)) t415) (wrap64 ((ji18) - 1))) ji13 (t413.size : Int) (wrap64 (x14_1 + 1))) = some (r1, r2) := by first | (rw [hji18] at H; exact H) | (simp only [hji18] at H ⊢; exact H)
          (try rw [hji18] at A10)
          have hji18_ : (IntKind.i64.wrap (1 * 2 ^ min (ji13).toNat 64)) = ji18 := hji18
          have hji18z : (ji13) ≤ 64 → (IntKind.i64.wrap (1 * 2 ^ (ji13).toNat)) = ji18 := shl_small hji18
          have hji18u : (IntKind.i64.wrap (2 ^ min (ji13).toNat 64)) = ji18 := by have h_ := hji18_; rw [Int.one_mul] at h_; exact h_
          have hji18v : (ji13) ≤ 64 → (IntKind.i64.wrap (2 ^ (ji13).toNat)) = ji18 := fun hle_ => by have h_ := hji18z hle_; rw [Int.one_mul] at h_; exact h_
          have hji18y : (wrap64 (1 * 2 ^ min (ji13).toNat 64)) = ji18 := (i64_w _).symm.trans hji18_
          have hji18x : (ji13) ≤ 64 → (wrap64 (1 * 2 ^ (ji13).toNat)) = ji18 := fun h_ => (i64_w _).symm.trans (hji18z h_)
          have H' := Aside0.mk H
          clear H
          have p9 : 0 ≤ (x14_1 : Int) := od
          have q9 : x14_1 < (t412.size : Int) := od
          have hx9 := bt_at t412 x14_1
          replace p9 := eq_true p9
          replace q9 := eq_true q9
          go_wp2_with (first | ((with_reducible refine gate_callee (f := 142) rfl ?_); refine goesL_ (some 20) rfl rfl Tryd.func142 (by kernel_rfl) rfl #[.string (⟨#[65, 66, 67, 68, 69, 70, 71, 72, 73, 74, 75, 76, 77, 78, 79, 80, 81, 82, 83, 84, 85, 86, 87, 88, 89, 90, 97, 98, 99, 100, 101, 102, 103, 104, 105, 106, 107, 108, 109, 110, 111, 112, 113, 114, 115, 116, 117, 118, 119, 120, 121, 122, 48, 49, 50, 51, 52, 53, 54, 55, 56, 57, 43, 47]⟩ : ByteArray), .int .u8 (bt t412 x14_1)] rfl am ?_; (with_reducible refine (strings_IndexByte.calls (⟨#[65, 66, 67, 68, 69, 70, 71, 72, 73, 74, 75, 76, 77, 78, 79, 80, 81, 82, 83, 84, 85, 86, 87, 88, 89, 90, 97, 98, 99, 100, 101, 102, 103, 104, 105, 106, 107, 108, 109, 110, 111, 112, 113, 114, 115, 116, 117, 118, 119, 120, 121, 122, 48, 49, 50, 51, 52, 53, 54, 55, 56, 57, 43, 47]⟩ : ByteArray) (bt t412 x14_1) t415 _ A10.out).mono ?_); rintro e w' ⟨rfl, ⟨nd, rfl⟩⟩; refine ⟨_, rfl, ?_⟩) | ((with_reducible refine gate_builtin (b := .append) (xs := #[.tmp 33, .tmp 38]) rfl ?_); at_builtin; refine Kd.R_append (Kd.int .u8) (w0 := w) w.heap.size rfl (.tmp 33) (.tmp 38) 83 5 (.int .u8 0) 1 rfl Tryd.underlying83 info5 rfl (by decide) (by omega) u4 x4_1 ((ji15) % 256) [.int .u8 ((ji15) % 256)] (fun _ => True) (fun _ => False) rfl rfl ?aP (fun _ hk => hk.elim) ?aF ?aO ?aB ?aS ?aL ?_; (case aP => exact rfl); (case aB => exact bw); (case aF => exact (fun _ _ => trivial)); (case aO => exact (by (with_reducible repeat (first | apply Kd.R_alloc | apply Kd.R_drewN | apply Kd.R_drew)); exact HO_4.out)); (case aS => exact (below_size bw)); (case aL => have := LMc16.out; omega); intro v417 w19 ho hb hg hat; rw [← Ny416.out] at ho; have n0_ := Aside0.mk (hb); have n1_ := Aside0.mk (ho); clear HB; clear HO_4; have HB := n0_; have HO418 := n1_; clear n0_ n1_; clear ho hb hg hat))
          go_roundg k1
          case measure => have := HK1.out; omega
          case rel => exact ⟨(y416), (Go.bits .and .i64 (Go.bits .or .i64 (wrap64 (x5_1 * 64)) t415) (wrap64 ((ji18) - 1))), (ji13), (wrap64 (x14_1 + 1)), (by first | rfl | (simp; done) | (simp only [← hji18] <;> (first | rfl | simp)) | (simp [*]; done) | (simp [nil_ne]; done) | (simp [u8_w, i64w_]; done) | (simp [size_lit]; done) | (simp; unfold wrap64; omega)), (by first | rfl | (simp; done) | (simp only [← hji13] <;> (first | rfl | simp)) | (simp [*]; done) | (simp [nil_ne]; done) | (simp [u8_w, i64w_]; done) | (simp [size_lit]; done) | (simp; unfold wrap64; omega)), cl, H', ⟨by have := HK1.out; omega⟩, ⟨by (with_reducible repeat (first | apply Kd.R_alloc | apply Kd.R_drewN | apply Kd.R_drew)); exact HO418.out⟩, ⟨bw⟩⟩
         ·rw [if_neg c16] at H
          exact absurd H (by simp)
        ·rw [if_neg c14] at H
         exact absurd H (by simp)
       ·rw [if_neg c12] at H
        have c12b0 : decide (8 ≤ (wrap64 (x6_1 + 6))) = false := decide_eq_false c12
        clear c12
        have H' := Aside0.mk H
        clear H
        have p9 : 0 ≤ (x14_1 : Int) := od
        have q9 : x14_1 < (t412.size : Int) := od
        have hx9 := bt_at t412 x14_1
        replace p9 := eq_true p9
        replace q9 := eq_true q9
        go_wp2_with (first | ((with_reducible refine gate_callee (f := 142) rfl ?_); refine goesL_ (some 20) rfl rfl Tryd.func142 (by kernel_rfl) rfl #[.string (⟨#[65, 66, 67, 68, 69, 70, 71, 72, 73, 74, 75, 76, 77, 78, 79, 80, 81, 82, 83, 84, 85, 86, 87, 88, 89, 90, 97, 98, 99, 100, 101, 102, 103, 104, 105, 106, 107, 108, 109, 110, 111, 112, 113, 114, 115, 116, 117, 118, 119, 120, 121, 122, 48, 49, 50, 51, 52, 53, 54, 55, 56, 57, 43, 47]⟩ : ByteArray), .int .u8 (bt t412 x14_1)] rfl am ?_; (with_reducible refine (strings_IndexByte.calls (⟨#[65, 66, 67, 68, 69, 70, 71, 72, 73, 74, 75, 76, 77, 78, 79, 80, 81, 82, 83, 84, 85, 86, 87, 88, 89, 90, 97, 98, 99, 100, 101, 102, 103, 104, 105, 106, 107, 108, 109, 110, 111, 112, 113, 114, 115, 116, 117, 118, 119, 120, 121, 122, 48, 49, 50, 51, 52, 53, 54, 55, 56, 57, 43, 47]⟩ : ByteArray) (bt t412 x14_1) t415 _ A10.out).mono ?_); rintro e w' ⟨rfl, ⟨nd, rfl⟩⟩; refine ⟨_, rfl, ?_⟩))
        go_roundg k1
        case measure => have := HK1.out; omega
        case rel => exact ⟨(x4_1), (Go.bits .or .i64 (wrap64 (x5_1 * 64)) t415), (wrap64 (x6_1 + 6)), (wrap64 (x14_1 + 1)), cl, cl, cl, H', ⟨by have := HK1.out; omega⟩, ⟨by (with_reducible repeat (first | apply Kd.R_alloc | apply Kd.R_drewN | apply Kd.R_drew)); exact HO_4.out⟩, ⟨bw⟩⟩
     ·rw [if_neg c8] at H
      exact absurd H (by simp)
    ·rw [if_neg c7] at H
     exact absurd H (by simp)
   ·rw [if_neg c6] at H
    have c6b0 : decide (x14_1 < (t413.size : Int)) = false := decide_eq_false c6
    clear c6
    replace H := Option.bind_eq_some_iff.mp H
    obtain ⟨t414, A200, H⟩ := H
    replace H : (if t414.toList = t412.toList then (some (strOfNums x4_1, 0)) else (some ((⟨#[]⟩ : ByteArray), 3))) = some (r1, r2) := H
    have A20 := Aside0.mk A200
    clear A200
    by_cases c21 : t414.toList = t412.toList
    ·rw [if_pos c21] at H
     have c21b0 : (t414.toList == t412.toList) = true := beq_iff_eq.mpr c21
     have c21b1 : (t414.toList != t412.toList) = false := bne_eq_false_iff_eq.mpr c21
     clear c21
     simp only [Option.some.injEq, Prod.mk.injEq] at H
     obtain ⟨rfl, rfl⟩ := H
     have hcv22 := own_string (P := Tryd.prog) Tryd.underlying83 Tryd.underlying5 Tryd.underlying9 (Kd.own_of_R HO_4.out)
     go_wp2_with (first | ((with_reducible refine gate_callee (f := 157) rfl ?_); refine goesL_ (some 48) rfl rfl Tryd.func157 (by kernel_rfl) rfl #[.string (strOfNums x4_1)] rfl am ?_; (with_reducible refine (b64_Plain.calls (strOfNums x4_1) t414 _ A20.out).mono ?_); rintro e w23 ⟨rfl, hb⟩; refine ⟨_, rfl, ?_⟩; have n0_ := Aside0.mk (Kd.R_below (by (with_reducible repeat (first | apply Kd.R_alloc | apply Kd.R_drewN | apply Kd.R_drew)); exact HO_4.out) hb); have n1_ := Aside0.mk (below_step bw hb); clear HO_4; clear HB; have HO_4 := n0_; have HB := n1_; clear n0_ n1_; (try clear hb); (try clear hb2); (try clear hk); (try clear hi); have hcv24 := own_string (P := Tryd.prog) Tryd.underlying83 Tryd.underlying5 Tryd.underlying9 (Kd.own_of_R HO_4.out)))
     go_ret2
     exact ⟨by first | rfl | (simp [errW_none, errW_some] <;> rfl) | (simp [*, errW_none, errW_some] <;> rfl), bw⟩
    ·rw [if_neg c21] at H
     have c21b0 : (t414.toList == t412.toList) = false := beq_eq_false_iff_ne.mpr c21
     have c21b1 : (t414.toList != t412.toList) = true := bne_iff_ne.mpr c21
     simp only [Option.some.injEq, Prod.mk.injEq] at H
     obtain ⟨rfl, rfl⟩ := H
     have hcv25 := own_string (P := Tryd.prog) Tryd.underlying83 Tryd.underlying5 Tryd.underlying9 (Kd.own_of_R HO_4.out)
     go_wp2_with (first | ((with_reducible refine gate_callee (f := 157) rfl ?_); refine goesL_ (some 48) rfl rfl Tryd.func157 (by kernel_rfl) rfl #[.string (strOfNums x4_1)] rfl am ?_; (with_reducible refine (b64_Plain.calls (strOfNums x4_1) t414 _ A20.out).mono ?_); rintro e w26 ⟨rfl, hb⟩; refine ⟨_, rfl, ?_⟩; have n0_ := Aside0.mk (Kd.R_below (by (with_reducible repeat (first | apply Kd.R_alloc | apply Kd.R_drewN | apply Kd.R_drew)); exact HO_4.out) hb); have n1_ := Aside0.mk (below_step bw hb); clear HO_4; clear HB; have HO_4 := n0_; have HB := n1_; clear n0_ n1_; (try clear hb); (try clear hb2); (try clear hk); (try clear hi)))
     go_ret2
     exact ⟨by first | rfl | (simp [errW_none, errW_some] <;> rfl) | (simp [*, errW_none, errW_some] <;> rfl), bw⟩

end Go.Proofs.YtihabmcaplnbcaaDoor.Fn
namespace Go.Proofs.YtihabmcaplnbcaaDoor.Fn
open Go.RowKit Go.Proofs.YtihabmcaplnbcaaDoorW.PrintWords Go.Proofs.YtihabmcaplnbcaaDoorW.PrintLast Go.Proofs.YtihabmcaplnbcaaDoorW.PrintMore
attribute [local go_sem] max2_int min2_int max_two min_two max_three min_three max_four min_four
set_option linter.unusedVariables false
set_option linter.unusedSimpArgs false

/-! ### ew_octets: function 88 -/
def ew_octets.j0 : Nat → ByteArray → ByteArray → Bool → Option (ByteArray × Bool)
 | 0, _, _, _ => none
 | k + 1, x1, x8, x9 => if x9 = true then ((ew_quoted.f k x1).bind fun bt419 => (some (bt419.1, bt419.2))) else (if x8.toList = ([98] : List UInt8) then ((b64_Decode.f k x1).bind fun bt421 => (some (bt421.1, (bt421.2 == 0)))) else (if x8.toList = ([66] : List UInt8) then ((b64_Decode.f k x1).bind fun bt423 => (some (bt423.1, (bt423.2 == 0)))) else (some ((⟨#[]⟩ : ByteArray), false))))
def ew_octets.f (k : Nat) (a0 : ByteArray) (a1 : ByteArray) : Option (ByteArray × Bool) := if a0.toList = ([113] : List UInt8) then (ew_octets.j0 k a1 a0 (a0.toList == ([113] : List UInt8))) else (ew_octets.j0 k a1 a0 (a0.toList == ([81] : List UInt8)))
set_option maxHeartbeats 8000000 in
set_option maxRecDepth 100000 in
theorem ew_octets.calls (k : Nat) (a0 : ByteArray) (a1 : ByteArray) (r1 : ByteArray) (r2 : Bool) (w : World) (h : ew_octets.f k a0 a1 = some (r1, r2)) :
  Calls Tryd.prog 88 #[.string a0, .string a1] w fun e w' => e = .returned (.tuple #[.string r1, .bool r2]) ∧ Below w.heap.size w w' := by
 have HB := Aside0.mk (Below.refl w.heap.size w)
 have H : (if a0.toList = ([113] : List UInt8) then (ew_octets.j0 k a1 a0 (a0.toList == ([113] : List UInt8))) else (ew_octets.j0 k a1 a0 (a0.toList == ([81] : List UInt8)))) = some (r1, r2) := h
 clear h
 have HC3 := Aside0.mk H
 clear H
 go_enter Tryd.func88, Tryd.ntmps88
 go_upto_if 9 with (fail)
 go_cut [9] (fun v9 wc => ∃ (kq : Nat) (x9_2 : Bool), v9 = .bool x9_2 ∧ Aside0 (ew_octets.j0 kq a1 a0 x9_2 = some (r1, r2)) ∧ Aside0 (kq ≤ k) ∧ Aside0 (Below w.heap.size w wc))
 case first =>
  have H := HC3.out
  clear HC3
  by_cases c4 : a0.toList = ([113] : List UInt8)
  ·rw [if_pos c4] at H
   have c4b0 : (a0.toList == ([113] : List UInt8)) = true := beq_iff_eq.mpr c4
   have c4b1 : (a0.toList != ([113] : List UInt8)) = false := bne_eq_false_iff_eq.mpr c4
   clear c4
   (first | rw [c4b0] | (simp only [i64_w, i32_w]; rw [c4b0]) | skip)
   have H' := Aside0.mk H
   clear H
   go_wp2
   go_meet
   case rel => exact ⟨_, ((a0.toList == ([113] : List UInt8))), cl, H', ⟨by first | omega | exact Nat.le_refl _⟩, ⟨bw⟩⟩
  ·rw [if_neg c4] at H
   have c4b0 : (a0.toList == ([113] : List UInt8)) = false := beq_eq_false_iff_ne.mpr c4
   have c4b1 : (a0.toList != ([113] : List UInt8)) = true := bne_iff_ne.mpr c4
   (first | rw [c4b0] | (simp only [i64_w, i32_w]; rw [c4b0]) | skip)
   have H' := Aside0.mk H
   clear H
   go_wp2
   go_meet
   case rel => exact ⟨_, ((a0.toList == ([81] : List UInt8))), cl, H', ⟨by first | omega | exact Nat.le_refl _⟩, ⟨bw⟩⟩
 case rest =>
  clear HC3
  try clear p2
  try clear c4
  try clear c4b0
  try clear c4b1
  obtain ⟨kq, x9_2, rfl, HA, HJ2, HB⟩ := hcut
  cases kq with
  | zero => exact absurd HA.out (by simp [ew_octets.j0])
  | succ kj2 =>
   have H := HA.out
   clear HA
   simp only [ew_octets.j0] at H
   by_cases c5 : x9_2 = true
   ·subst c5
    have H1 : ((ew_quoted.f kj2 a1).bind fun bt419 => (some (bt419.1, bt419.2))) = some (r1, r2) := by rw [if_pos rfl] at H; exact H
    clear H
    have H := H1
    clear H1
    replace H := Option.bind_eq_some_iff.mp H
    obtain ⟨⟨t419, t420⟩, A60, H⟩ := H
    replace H : (some (t419, t420)) = some (r1, r2) := H
    have A6 := Aside0.mk A60
    clear A60
    simp only [Option.some.injEq, Prod.mk.injEq] at H
    obtain ⟨rfl, rfl⟩ := H
    go_wp2_with (first | ((with_reducible refine gate_callee (f := 124) rfl ?_); refine goesL_ (some 13) rfl rfl Tryd.func124 (by kernel_rfl) rfl #[.string a1] rfl am ?_; (with_reducible refine (ew_quoted.calls kj2 a1 t419 t420 _ A6.out).mono ?_); rintro e w7 ⟨rfl, hb⟩; refine ⟨_, rfl, ?_⟩; have n0_ := Aside0.mk (below_step bw hb); clear HB; have HB := n0_; clear n0_; (try clear hb); (try clear hb2); (try clear hk); (try clear hi)))
    go_ret2
    exact ⟨by first | rfl | (simp [errW_none, errW_some] <;> rfl) | (simp [*, errW_none, errW_some] <;> rfl), bw⟩
   ·replace c5 := Bool.eq_false_iff.mpr c5
    subst c5
    have H1 : (if a0.toList = ([98] : List UInt8) then ((b64_Decode.f kj2 a1).bind fun bt421 => (some (bt421.1, (bt421.2 == 0)))) else (if a0.toList = ([66] : List UInt8) then ((b64_Decode.f kj2 a1).bind fun bt423 => (some (bt423.1, (bt423.2 == 0)))) else (some ((⟨#[]⟩ : ByteArray), false)))) = some (r1, r2) := by rw [if_neg (show ¬ (false = true) by decide)] at H; exact H
    clear H
    have H := H1
    clear H1
    by_cases c8 : a0.toList = ([98] : List UInt8)
    ·rw [if_pos c8] at H
     have c8b0 : (a0.toList == ([98] : List UInt8)) = true := beq_iff_eq.mpr c8
     have c8b1 : (a0.toList != ([98] : List UInt8)) = false := bne_eq_false_iff_eq.mpr c8
     clear c8
     replace H := Option.bind_eq_some_iff.mp H
     obtain ⟨⟨t421, t422⟩, A90, H⟩ := H
     replace H : (some (t421, (t422 == 0))) = some (r1, r2) := H
     have A9 := Aside0.mk A90
     clear A90
     simp only [Option.some.injEq, Prod.mk.injEq] at H
     obtain ⟨rfl, rfl⟩ := H
     go_wp2_with (first | ((with_reducible refine gate_callee (f := 125) rfl ?_); refine goesL_ (some 21) rfl rfl Tryd.func125 (by kernel_rfl) rfl #[.string a1] rfl am ?_; (with_reducible refine (b64_Decode.calls kj2 a1 t421 t422 _ A9.out).mono ?_); rintro e w10 ⟨rfl, hb⟩; refine ⟨_, rfl, ?_⟩; have n0_ := Aside0.mk (below_step bw hb); clear HB; have HB := n0_; clear n0_; (try clear hb); (try clear hb2); (try clear hk); (try clear hi)))
     go_ret2
     exact ⟨by first | rfl | (simp [errW_none, errW_some] <;> rfl) | (simp [*, errW_none, errW_some] <;> rfl), bw⟩
    ·rw [if_neg c8] at H
     have c8b0 : (a0.toList == ([98] : List UInt8)) = false := beq_eq_false_iff_ne.mpr c8
     have c8b1 : (a0.toList != ([98] : List UInt8)) = true := bne_iff_ne.mpr c8
     by_cases c11 : a0.toList = ([66] : List UInt8)
     ·rw [if_pos c11] at H
      have c11b0 : (a0.toList == ([66] : List UInt8)) = true := beq_iff_eq.mpr c11
      have c11b1 : (a0.toList != ([66] : List UInt8)) = false := bne_eq_false_iff_eq.mpr c11
      clear c11
      replace H := Option.bind_eq_some_iff.mp H
      obtain ⟨⟨t423, t424⟩, A120, H⟩ := H
      replace H : (some (t423, (t424 == 0))) = some (r1, r2) := H
      have A12 := Aside0.mk A120
      clear A120
      simp only [Option.some.injEq, Prod.mk.injEq] at H
      obtain ⟨rfl, rfl⟩ := H
      go_wp2_with (first | ((with_reducible refine gate_callee (f := 125) rfl ?_); refine goesL_ (some 21) rfl rfl Tryd.func125 (by kernel_rfl) rfl #[.string a1] rfl am ?_; (with_reducible refine (b64_Decode.calls kj2 a1 t423 t424 _ A12.out).mono ?_); rintro e w13 ⟨rfl, hb⟩; refine ⟨_, rfl, ?_⟩; have n0_ := Aside0.mk (below_step bw hb); clear HB; have HB := n0_; clear n0_; (try clear hb); (try clear hb2); (try clear hk); (try clear hi)))
      go_ret2
      exact ⟨by first | rfl | (simp [errW_none, errW_some] <;> rfl) | (simp [*, errW_none, errW_some] <;> rfl), bw⟩
     ·rw [if_neg c11] at H
      have c11b0 : (a0.toList == ([66] : List UInt8)) = false := beq_eq_false_iff_ne.mpr c11
      have c11b1 : (a0.toList != ([66] : List UInt8)) = true := bne_iff_ne.mpr c11
      simp only [Option.some.injEq, Prod.mk.injEq] at H
      obtain ⟨rfl, rfl⟩ := H
      go_wp2
      go_ret2
      exact ⟨by first | rfl | (simp [errW_none, errW_some] <;> rfl) | (simp [*, errW_none, errW_some] <;> rfl), bw⟩

end Go.Proofs.YtihabmcaplnbcaaDoor.Fn
namespace Go.Proofs.YtihabmcaplnbcaaDoor.Fn
open Go.RowKit Go.Proofs.YtihabmcaplnbcaaDoorW.PrintWords Go.Proofs.YtihabmcaplnbcaaDoorW.PrintLast Go.Proofs.YtihabmcaplnbcaaDoorW.PrintMore
attribute [local go_sem] max2_int min2_int max_two min_two max_three min_three max_four min_four
set_option linter.unusedVariables false
set_option linter.unusedSimpArgs false

/-! ### stringslite_HasPrefix: function 104 -/
def stringslite_HasPrefix.f (a0 : ByteArray) (a1 : ByteArray) : Option (Bool) := if (a0.size : Int) ≥ (a1.size : Int) then (if 0 ≤ (a1.size : Int) then (if (a1.size : Int) ≤ (a0.size : Int) then (some ((a0.extract 0 ((a1.size : Int) : Int).toNat).toList == a1.toList)) else (none)) else (none)) else (some false)
set_option maxHeartbeats 8000000 in
set_option maxRecDepth 100000 in
theorem stringslite_HasPrefix.calls (a0 : ByteArray) (a1 : ByteArray) (r : Bool) (w : World) (h : stringslite_HasPrefix.f a0 a1 = some r) :
  Calls Tryd.prog 104 #[.string a0, .string a1] w fun e w' => e = .returned (.bool r) ∧ Drawn0 w w' := by
 have H : (if (a0.size : Int) ≥ (a1.size : Int) then (if 0 ≤ (a1.size : Int) then (if (a1.size : Int) ≤ (a0.size : Int) then (some ((a0.extract 0 ((a1.size : Int) : Int).toNat).toList == a1.toList)) else (none)) else (none)) else (some false)) = some r := h
 clear h
 by_cases c3 : (a0.size : Int) ≥ (a1.size : Int)
 ·rw [if_pos c3] at H
  have c3b0 : decide ((a1.size : Int) ≤ (a0.size : Int)) = true := decide_eq_true c3
  have c3b1 : decide (a1.size ≤ a0.size) = true := decide_eq_true (Int.ofNat_le.mp c3)
  clear c3
  by_cases c4 : 0 ≤ (a1.size : Int)
  ·rw [if_pos c4] at H
   have c4b0 := eq_true c4
   have c4b1 : decide (0 ≤ (a1.size : Int)) = true := decide_eq_true c4
   clear c4
   by_cases c5 : (a1.size : Int) ≤ (a0.size : Int)
   ·rw [if_pos c5] at H
    have c5b0 := eq_true c5
    have c5b1 : decide ((a1.size : Int) ≤ (a0.size : Int)) = true := decide_eq_true c5
    clear c5
    obtain rfl := Option.some.inj H
    go_enter Tryd.func104, Tryd.ntmps104
    go_wp2
    go_ret
    exact ⟨by first | rfl | (simp; done) | (simp [*]; done) | (simp [nil_ne]; done) | (simp [u8_w, i64w_]; done) | (simp [size_lit]; done) | (simp; unfold wrap64; omega), by repeat (first | exact Drawn0.refl _ | apply Drawn0.step)⟩
   ·rw [if_neg c5] at H
    exact absurd H (by simp)
  ·rw [if_neg c4] at H
   exact absurd H (by simp)
 ·rw [if_neg c3] at H
  have c3b0 : decide ((a1.size : Int) ≤ (a0.size : Int)) = false := decide_eq_false c3
  have c3b1 : decide (a1.size ≤ a0.size) = false := decide_eq_false (fun h => c3 (Int.ofNat_le.mpr h))
  clear c3
  obtain rfl := Option.some.inj H
  go_enter Tryd.func104, Tryd.ntmps104
  go_wp2
  go_ret
  exact ⟨by first | rfl | (simp; done) | (simp [*]; done) | (simp [nil_ne]; done) | (simp [u8_w, i64w_]; done) | (simp [size_lit]; done) | (simp; unfold wrap64; omega), by repeat (first | exact Drawn0.refl _ | apply Drawn0.step)⟩

end Go.Proofs.YtihabmcaplnbcaaDoor.Fn
namespace Go.Proofs.YtihabmcaplnbcaaDoor.Fn
open Go.RowKit Go.Proofs.YtihabmcaplnbcaaDoorW.PrintWords Go.Proofs.YtihabmcaplnbcaaDoorW.PrintLast Go.Proofs.YtihabmcaplnbcaaDoorW.PrintMore
attribute [local go_sem] max2_int min2_int max_two min_two max_three min_three max_four min_four
set_option linter.unusedVariables false
set_option linter.unusedSimpArgs false

/-! ### stringslite_CutPrefix: function 122 -/
def stringslite_CutPrefix.f (a0 : ByteArray) (a1 : ByteArray) : Option (ByteArray × Bool) := (stringslite_HasPrefix.f a0 a1).bind fun t386 => (if t386 = true then (if 0 ≤ (a1.size : Int) then (if (a1.size : Int) ≤ (a0.size : Int) then (some (a0.extract ((a1.size : Int) : Int).toNat a0.size, true)) else (none)) else (none)) else (some (a0, false)))
set_option maxHeartbeats 8000000 in
set_option maxRecDepth 100000 in
theorem stringslite_CutPrefix.calls (a0 : ByteArray) (a1 : ByteArray) (r1 : ByteArray) (r2 : Bool) (w : World) (h : stringslite_CutPrefix.f a0 a1 = some (r1, r2)) :
  Calls Tryd.prog 122 #[.string a0, .string a1] w fun e w' => e = .returned (.tuple #[.string r1, .bool r2]) ∧ Drawn0 w w' := by
 have H : ((stringslite_HasPrefix.f a0 a1).bind fun t386 => (if t386 = true then (if 0 ≤ (a1.size : Int) then (if (a1.size : Int) ≤ (a0.size : Int) then (some (a0.extract ((a1.size : Int) : Int).toNat a0.size, true)) else (none)) else (none)) else (some (a0, false)))) = some (r1, r2) := h
 clear h
 replace H := Option.bind_eq_some_iff.mp H
 obtain ⟨t386, A30, H⟩ := H
 replace H : (if t386 = true then (if 0 ≤ (a1.size : Int) then (if (a1.size : Int) ≤ (a0.size : Int) then (some (a0.extract ((a1.size : Int) : Int).toNat a0.size, true)) else (none)) else (none)) else (some (a0, false))) = some (r1, r2) := H
 have A3 := Aside0.mk A30
 clear A30
 by_cases c4 : t386 = true
 ·subst c4
  have H1 : (if 0 ≤ (a1.size : Int) then (if (a1.size : Int) ≤ (a0.size : Int) then (some (a0.extract ((a1.size : Int) : Int).toNat a0.size, true)) else (none)) else (none)) = some (r1, r2) := by rw [if_pos rfl] at H; exact H
  clear H
  have H := H1
  clear H1
  by_cases c5 : 0 ≤ (a1.size : Int)
  ·rw [if_pos c5] at H
   have c5b0 := eq_true c5
   have c5b1 : decide (0 ≤ (a1.size : Int)) = true := decide_eq_true c5
   clear c5
   by_cases c6 : (a1.size : Int) ≤ (a0.size : Int)
   ·rw [if_pos c6] at H
    have c6b0 := eq_true c6
    have c6b1 : decide ((a1.size : Int) ≤ (a0.size : Int)) = true := decide_eq_true c6
    clear c6
    simp only [Option.some.injEq, Prod.mk.injEq] at H
    obtain ⟨rfl, rfl⟩ := H
    go_enter Tryd.func122, Tryd.ntmps122
    go_wp2_with (first | ((with_reducible refine gate_callee (f := 104) rfl ?_); refine goesL_ (some 8) rfl rfl Tryd.func104 (by kernel_rfl) rfl #[.string a0, .string a1] rfl am ?_; (with_reducible refine (stringslite_HasPrefix.calls a0 a1 true _ A3.out).mono ?_); rintro e w' ⟨rfl, ⟨nd, rfl⟩⟩; refine ⟨_, rfl, ?_⟩))
    go_ret2
    exact ⟨by first | rfl | (simp; done) | (simp [*]; done) | (simp [nil_ne]; done) | (simp [u8_w, i64w_]; done) | (simp [size_lit]; done) | (simp; unfold wrap64; omega), by repeat (first | exact Drawn0.refl _ | apply Drawn0.step)⟩
   ·rw [if_neg c6] at H
    exact absurd H (by simp)
  ·rw [if_neg c5] at H
   exact absurd H (by simp)
 ·replace c4 := Bool.eq_false_iff.mpr c4
  subst c4
  have H1 : (some (a0, false)) = some (r1, r2) := by rw [if_neg (show ¬ (false = true) by decide)] at H; exact H
  clear H
  have H := H1
  clear H1
  simp only [Option.some.injEq, Prod.mk.injEq] at H
  obtain ⟨rfl, rfl⟩ := H
  go_enter Tryd.func122, Tryd.ntmps122
  go_wp2_with (first | ((with_reducible refine gate_callee (f := 104) rfl ?_); refine goesL_ (some 8) rfl rfl Tryd.func104 (by kernel_rfl) rfl #[.string a0, .string a1] rfl am ?_; (with_reducible refine (stringslite_HasPrefix.calls a0 a1 false _ A3.out).mono ?_); rintro e w' ⟨rfl, ⟨nd, rfl⟩⟩; refine ⟨_, rfl, ?_⟩))
  go_ret2
  exact ⟨by first | rfl | (simp; done) | (simp [*]; done) | (simp [nil_ne]; done) | (simp [u8_w, i64w_]; done) | (simp [size_lit]; done) | (simp; unfold wrap64; omega), by repeat (first | exact Drawn0.refl _ | apply Drawn0.step)⟩

end Go.Proofs.YtihabmcaplnbcaaDoor.Fn
namespace Go.Proofs.YtihabmcaplnbcaaDoor.Fn
open Go.RowKit Go.Proofs.YtihabmcaplnbcaaDoorW.PrintWords Go.Proofs.YtihabmcaplnbcaaDoorW.PrintLast Go.Proofs.YtihabmcaplnbcaaDoorW.PrintMore
attribute [local go_sem] max2_int min2_int max_two min_two max_three min_three max_four min_four
set_option linter.unusedVariables false
set_option linter.unusedSimpArgs false

/-! ### strings_CutPrefix: function 85 -/
def strings_CutPrefix.f (a0 : ByteArray) (a1 : ByteArray) : Option (ByteArray × Bool) := (stringslite_CutPrefix.f a0 a1).bind fun bt387 => (some (bt387.1, bt387.2))
set_option maxHeartbeats 8000000 in
set_option maxRecDepth 100000 in
theorem strings_CutPrefix.calls (a0 : ByteArray) (a1 : ByteArray) (r1 : ByteArray) (r2 : Bool) (w : World) (h : strings_CutPrefix.f a0 a1 = some (r1, r2)) :
  Calls Tryd.prog 85 #[.string a0, .string a1] w fun e w' => e = .returned (.tuple #[.string r1, .bool r2]) ∧ Drawn0 w w' := by
 have H : ((stringslite_CutPrefix.f a0 a1).bind fun bt387 => (some (bt387.1, bt387.2))) = some (r1, r2) := h
 clear h
 replace H := Option.bind_eq_some_iff.mp H
 obtain ⟨⟨t387, t388⟩, A30, H⟩ := H
 replace H : (some (t387, t388)) = some (r1, r2) := H
 have A3 := Aside0.mk A30
 clear A30
 simp only [Option.some.injEq, Prod.mk.injEq] at H
 obtain ⟨rfl, rfl⟩ := H
 go_enter Tryd.func85, Tryd.ntmps85
 go_wp2_with (first | ((with_reducible refine gate_callee (f := 122) rfl ?_); refine goesL_ (some 8) rfl rfl Tryd.func122 (by kernel_rfl) rfl #[.string a0, .string a1] rfl am ?_; (with_reducible refine (stringslite_CutPrefix.calls a0 a1 t387 t388 _ A3.out).mono ?_); rintro e w' ⟨rfl, ⟨nd, rfl⟩⟩; refine ⟨_, rfl, ?_⟩))
 go_ret2
 exact ⟨by first | rfl | (simp; done) | (simp [*]; done) | (simp [nil_ne]; done) | (simp [u8_w, i64w_]; done) | (simp [size_lit]; done) | (simp; unfold wrap64; omega), by repeat (first | exact Drawn0.refl _ | apply Drawn0.step)⟩

end Go.Proofs.YtihabmcaplnbcaaDoor.Fn
namespace Go.Proofs.YtihabmcaplnbcaaDoor.Fn
open Go.RowKit Go.Proofs.YtihabmcaplnbcaaDoorW.PrintWords Go.Proofs.YtihabmcaplnbcaaDoorW.PrintLast Go.Proofs.YtihabmcaplnbcaaDoorW.PrintMore
attribute [local go_sem] max2_int min2_int max_two min_two max_three min_three max_four min_four
set_option linter.unusedVariables false
set_option linter.unusedSimpArgs false

/-! ### strings_HasPrefix: function 65 -/
def strings_HasPrefix.f (a0 : ByteArray) (a1 : ByteArray) : Option (Bool) := (stringslite_HasPrefix.f a0 a1).bind fun t385 => (some t385)
set_option maxHeartbeats 8000000 in
set_option maxRecDepth 100000 in
theorem strings_HasPrefix.calls (a0 : ByteArray) (a1 : ByteArray) (r : Bool) (w : World) (h : strings_HasPrefix.f a0 a1 = some r) :
  Calls Tryd.prog 65 #[.string a0, .string a1] w fun e w' => e = .returned (.bool r) ∧ Drawn0 w w' := by
 have H : ((stringslite_HasPrefix.f a0 a1).bind fun t385 => (some t385)) = some r := h
 clear h
 replace H := Option.bind_eq_some_iff.mp H
 obtain ⟨t385, A30, H⟩ := H
 replace H : (some t385) = some r := H
 have A3 := Aside0.mk A30
 clear A30
 obtain rfl := Option.some.inj H
 go_enter Tryd.func65, Tryd.ntmps65
 go_wp2_with (first | ((with_reducible refine gate_callee (f := 104) rfl ?_); refine goesL_ (some 7) rfl rfl Tryd.func104 (by kernel_rfl) rfl #[.string a0, .string a1] rfl am ?_; (with_reducible refine (stringslite_HasPrefix.calls a0 a1 t385 _ A3.out).mono ?_); rintro e w' ⟨rfl, ⟨nd, rfl⟩⟩; refine ⟨_, rfl, ?_⟩))
 go_ret
 exact ⟨by first | rfl | (simp; done) | (simp [*]; done) | (simp [nil_ne]; done) | (simp [u8_w, i64w_]; done) | (simp [size_lit]; done) | (simp; unfold wrap64; omega), by repeat (first | exact Drawn0.refl _ | apply Drawn0.step)⟩

end Go.Proofs.YtihabmcaplnbcaaDoor.Fn
set_option linter.unusedVariables false
set_option linter.unusedSimpArgs false
namespace Go.Proofs.YtihabmcaplnbcaaDoor.Pl
open Go.RowKit Go.Proofs.YtihabmcaplnbcaaDoorW.PrintWords
def signsR (cs s : ByteArray) : ByteArray × Bool :=
  if fold (bs cs) = [117, 115, 45, 97, 115, 99, 105, 105] then (if asciiL (bs s) = true then (s, true) else (str [], false))
  else if fold (bs cs) = [117, 116, 102, 45, 56] then (s, valid s)
  else if fold (bs cs) = [105, 115, 111, 45, 56, 56, 53, 57, 45, 49] then (str ((bs s).flatMap fun c => er c.toNat), true)
  else (str [], false)
end Go.Proofs.YtihabmcaplnbcaaDoor.Pl
namespace Go.Proofs.YtihabmcaplnbcaaDoor.Fn
open Go.RowKit Go.Proofs.YtihabmcaplnbcaaDoorW.PrintWords

def ew_signs.f (a0 a1 : ByteArray) : Option (ByteArray × Bool) := if a0.size ≤ 1000000000 ∧ a1.size ≤ 1000000000 then some (Pl.signsR a0 a1) else none
set_option maxHeartbeats 4000000 in
set_option maxRecDepth 100000 in
theorem ew_signs.calls (a0 a1 r1 : ByteArray) (r2 : Bool) (w : World) (hG : Glob w) (h : ew_signs.f a0 a1 = some (r1, r2)) :
    Calls Tryd.prog 89 #[.string a0, .string a1] w fun e w' => e = .returned (.tuple #[.string r1, .bool r2]) ∧ Below w.heap.size w w' := by
  unfold ew_signs.f at h
  by_cases hs : a0.size ≤ 1000000000 ∧ a1.size ≤ 1000000000
  · rw [if_pos hs] at h
    have hr := Option.some.inj h
    clear h
    have hf : glyph_Fold.f a0 = some (Pl.str (Pl.fold (Pl.bs a0))) := by unfold glyph_Fold.f; rw [if_pos (by omega)]; rfl
    obtain ⟨F, hF⟩ : ∃ F, Pl.str (Pl.fold (Pl.bs a0)) = F := ⟨_, rfl⟩
    rw [hF] at hf
    have hl : F.toList = Pl.fold (Pl.bs a0) := by rw [← hF, Pl.toList_str]
    have HF := hid hf
    have HG := hid hG
    unfold Pl.signsR at hr
    rw [← hl] at hr
    clear hf hF hl hG
    by_cases h1 : F.toList = [117, 115, 45, 97, 115, 99, 105, 105]
    · rw [if_pos h1] at hr
      have c1 : (F.toList == [117, 115, 45, 97, 115, 99, 105, 105]) = true := beq_iff_eq.2 h1
      have HR := hid hr
      clear hr h1
      go_enter Tryd.func89, Tryd.ntmps89
      go_wp2_with (go_at_call 26; refine (glyph_Fold.calls a0 F _ HF.out).mono ?_; rintro e W1 ⟨rfl, b1⟩)
      go_loopw [15] (fun v15 wr => ∃ k : Nat, k ≤ a1.size ∧ v15 = .int .i64 k ∧ Below w.heap.size w wr ∧ Hid (Pl.asciiL ((Pl.bs a1).take k) = true)) (fun v15 _ => a1.size - (intOf v15).toNat)
      case atStart => exact ⟨0, Nat.zero_le _, rfl, b1, rfl⟩
      case round =>
        obtain ⟨k, hk, rfl, hB, hA⟩ := hrel
        by_cases hlt : k < a1.size
        · have hsn := Pl.take_snoc a1 k hlt
          have hA2 : Hid (Pl.asciiL ((Pl.bs a1).take (k + 1)) = decide (a1[k].toNat ≤ 127)) := by
            show Pl.asciiL (a1.data.toList.take (k + 1)) = _
            rw [hsn]
            have : Pl.asciiL (a1.data.toList.take k) = true := hA.out
            unfold Pl.asciiL at this ⊢
            rw [List.all_append, this]
            simp
          clear hsn hA
          by_cases hc : 127 < (a1[k].toNat : Int)
          · have hN : Hid (Pl.asciiL (Pl.bs a1) = false) := by
              show _ = _
              have h2 := hA2.out
              rw [decide_eq_false (by omega)] at h2
              rw [← List.take_append_drop (k + 1) (Pl.bs a1)]
              unfold Pl.asciiL at h2 ⊢
              rw [List.all_append, h2]
              rfl
            have HR' := HR.out
            rw [hN.out, if_neg (by decide)] at HR'
            injection HR' with e1 e2
            subst e1 e2
            clear hA2 hN HR
            go_wp2
            go_ret2
            exact ⟨rfl, hB⟩
          · have hc2 : (a1[k].toNat : Int) ≤ 127 := by omega
            have hA3 : Hid (Pl.asciiL ((Pl.bs a1).take (k + 1)) = true) := by
              show _ = _
              rw [hA2.out]
              exact decide_eq_true (by omega)
            clear hA2 hc
            go_wp2
            go_roundw
            case rel => exact ⟨k + 1, by omega, by go_num, hB, hA3⟩
            case measure => simp [intOf]; omega
        · have hA3 : Pl.asciiL (Pl.bs a1) = true := by
            have := hA.out
            rwa [List.take_of_length_le (by rw [Pl.bs_length]; omega)] at this
          have HR' := HR.out
          rw [hA3, if_pos rfl] at HR'
          injection HR' with e1 e2
          subst e1 e2
          clear hA3 hA HR
          go_wp2
          go_ret2
          exact ⟨rfl, hB⟩
    · rw [if_neg h1] at hr
      have c1 : (F.toList == [117, 115, 45, 97, 115, 99, 105, 105]) = false := beq_eq_false_iff_ne.2 h1
      by_cases h2 : F.toList = [117, 116, 102, 45, 56]
      · rw [if_pos h2] at hr
        injection hr with e1 e2
        have hv : glyph_Valid.f a1 = some r2 := by unfold glyph_Valid.f; rw [if_pos (by omega), e2]
        subst e1
        have c2 : (F.toList == [117, 116, 102, 45, 56]) = true := beq_iff_eq.2 h2
        have HV := hid hv
        clear hv e2
        go_enter Tryd.func89, Tryd.ntmps89
        go_wp2_with (first | (go_at_call 26; refine (glyph_Fold.calls a0 F _ HF.out).mono ?_; rintro e W1 ⟨rfl, b1⟩; have hG1 := hid (HG.out.below b1)) | (go_at_call 20; refine (glyph_Valid.calls a1 r2 _ hG1.out HV.out).mono ?_; rintro e W2 ⟨rfl, b2⟩))
        go_ret2
        exact ⟨rfl, b1.trans (b2.mono b1.size)⟩
      · rw [if_neg h2] at hr
        have c2 : (F.toList == [117, 116, 102, 45, 56]) = false := beq_eq_false_iff_ne.2 h2
        by_cases h3 : F.toList = [105, 115, 111, 45, 56, 56, 53, 57, 45, 49]
        · rw [if_pos h3] at hr
          injection hr with e1 e2
          subst e2
          have c3 : (F.toList == [105, 115, 111, 45, 56, 56, 53, 57, 45, 49]) = true := beq_iff_eq.2 h3
          have HR := hid e1
          clear e1
          go_enter Tryd.func89, Tryd.ntmps89
          go_wp2_with (go_at_call 26; refine (glyph_Fold.calls a0 F _ HF.out).mono ?_; rintro e W1 ⟨rfl, b1⟩)
          have hB1 := b1.size
          go_loopw [33] (fun v33 wr => ∃ k : Nat, k ≤ a1.size ∧ v33 = .int .i64 k ∧ isBd W1.heap.size W1.heap.size (Lib.byteCells (((Pl.bs a1).take k).flatMap fun c => Pl.er c.toNat)) wr ∧ Below W1.heap.size W1 wr ∧ (((Pl.bs a1).take k).flatMap fun c => Pl.er c.toNat).length ≤ 4 * k) (fun v33 _ => a1.size - (intOf v33).toNat)
          case atStart => exact ⟨0, Nat.zero_le _, rfl, Lib.IsBuilderF.of (Lib.fresh_isBuilder _ _ W1), (Below.refl _ W1).alloc (Nat.le_refl _) _, by simp⟩
          case round =>
            obtain ⟨k, hk, rfl, hI, hB, hl⟩ := hrel
            have hB2 := hB.size
            by_cases hlt : k < a1.size
            · have hct := a1[k].toNat_lt
              have hsn : ((Pl.bs a1).take (k + 1)).flatMap (fun c => Pl.er c.toNat) = ((Pl.bs a1).take k).flatMap (fun c => Pl.er c.toNat) ++ Pl.er a1[k].toNat := by
                rw [show (Pl.bs a1).take (k + 1) = (Pl.bs a1).take k ++ [a1[k]] from Pl.take_snoc a1 k hlt]
                simp
              have hl4 := Lib.runeCells_le (a1[k].toNat : Int)
              have hE : Lib.byteCells (Pl.er a1[k].toNat) = Lib.runeCells (a1[k].toNat : Int) := Lib.byteCells_encodeRune _
              have hE2 : (Pl.er a1[k].toNat).length ≤ 4 := by
                rw [Lib.runeCells_length] at hl4
                exact hl4.2
              have HS := hid hsn
              have HE := hid hE
              clear hsn hl4 hE
              go_wp2_with (go_at_call 60; refine (bd_rune W1.heap.size W1.heap.size _ _ (by omega) (by omega) _ hI (by rw [Lib.byteCells_length]; omega) hB2).mono ?_; rintro e W2 ⟨rfl, h1, b2, _⟩)
              go_roundw
              case rel =>
                refine ⟨k + 1, by omega, by go_num, ?_, hB.trans b2, ?_⟩
                · rw [HS.out, Lib.byteCells_append, HE.out]; exact h1.is
                · rw [HS.out, List.length_append]; omega
              case measure => simp [intOf]; omega
            · have hend : Hid (((Pl.bs a1).take k).flatMap (fun c => Pl.er c.toNat) = (Pl.bs a1).flatMap (fun c => Pl.er c.toNat)) := by
                show _ = _
                rw [List.take_of_length_le (by rw [Pl.bs_length]; omega)]
              go_wp2_with (go_at_call 48; refine (Tryd.Builder_String_any_k W1.heap.size W1.heap.size _ _ hI hB2).mono ?_; rintro e W2 ⟨rfl, _, b2, _⟩)
              go_ret2
              refine ⟨?_, b1.trans ((hB.trans b2).mono hB1)⟩
              rw [← HR.out, ← hend.out]
              rfl
        · rw [if_neg h3] at hr
          injection hr with e1 e2
          subst e1 e2
          have c3 : (F.toList == [105, 115, 111, 45, 56, 56, 53, 57, 45, 49]) = false := beq_eq_false_iff_ne.2 h3
          go_enter Tryd.func89, Tryd.ntmps89
          go_wp2_with (go_at_call 26; refine (glyph_Fold.calls a0 F _ HF.out).mono ?_; rintro e W1 ⟨rfl, b1⟩)
          go_ret2
          exact ⟨rfl, b1⟩
  · rw [if_neg hs] at h; exact absurd h (by simp)
end Go.Proofs.YtihabmcaplnbcaaDoor.Fn
set_option linter.unusedVariables false
namespace Go.Proofs.YtihabmcaplnbcaaDoor.Fn
open Go.RowKit Go.Proofs.YtihabmcaplnbcaaDoorW.PrintWords

def strings_SplitN.f (a0 a1 : ByteArray) (a2 : Int) : Option (List ByteArray) :=
  if a0.size < 4294967281 then (if 1 ≤ a1.size then (if 1 ≤ a2 ∧ a2 ≤ 1000 then some (Lib.splitB a1 0 (min a2.toNat (a0.size + 1) - 1) a0) else none) else none) else none
theorem strings_SplitN.calls (a0 a1 : ByteArray) (a2 : Int) (r : List ByteArray) (w : World) (hG : Glob w) (h : strings_SplitN.f a0 a1 a2 = some r) :
    Calls Tryd.prog 86 #[.string a0, .string a1, .int .i64 a2] w fun e w' => ∃ v0_ : Value, e = .returned (v0_) ∧ Kd.R Kd.string 9 w' w.heap.size (fun _ => True) v0_ r ∧ Below w.heap.size w w' := by
  unfold strings_SplitN.f at h
  by_cases hs : a0.size < 4294967281
  · rw [if_pos hs] at h
    by_cases h1 : 1 ≤ a1.size
    · rw [if_pos h1] at h
      by_cases h2 : 1 ≤ a2 ∧ a2 ≤ 1000
      · rw [if_pos h2] at h
        have HR := Option.some.inj h
        clear h
        subst HR
        obtain ⟨m, hm⟩ := hG.max
        obtain ⟨n, rfl⟩ : ∃ n : Nat, a2 = n := ⟨a2.toNat, by omega⟩
        refine (Tryd.strings_SplitN a0 a1 n m w hs hm h1 (by omega) (by omega)).mono ?_
        rintro e w' ⟨rfl, rfl⟩
        have hl := Lib.splitB_length_le a1 0 (min n (a0.size + 1) - 1) a0
        have hle : (Lib.splitB a1 0 (min n (a0.size + 1) - 1) a0).length ≤ min n (a0.size + 1) := by omega
        refine ⟨_, rfl, Kd.R_of_own ⟨by simp [encs], .inr ⟨w.heap.size, min n (a0.size + 1), _, rfl, Nat.le_refl _, World.alloc_heap_new w _, ?_, ?_, ?_, ?_⟩⟩ (fun _ _ => trivial), (Below.refl _ w).alloc (Nat.le_refl _) _⟩
        · exact hle
        · unfold maxLen; omega
        · rw [Lib.cellsOf_size hle, Nat.mul_one]
        · simp [Lib.cellsOf, encs]
      · rw [if_neg h2] at h; exact absurd h (by simp)
    · rw [if_neg h1] at h; exact absurd h (by simp)
  · rw [if_neg hs] at h; exact absurd h (by simp)
end Go.Proofs.YtihabmcaplnbcaaDoor.Fn
namespace Go.Proofs.YtihabmcaplnbcaaDoor.Fn
open Go.RowKit Go.Proofs.YtihabmcaplnbcaaDoorW.PrintWords Go.Proofs.YtihabmcaplnbcaaDoorW.PrintLast Go.Proofs.YtihabmcaplnbcaaDoorW.PrintMore
attribute [local go_sem] max2_int min2_int max_two min_two max_three min_three max_four min_four
set_option linter.unusedVariables false
set_option linter.unusedSimpArgs false

/-! ### ew_word: function 44 -/
mutual
def ew_word.j0 : Nat → List ByteArray → Bool → Option (ByteArray × Int)
 | 0, _, _ => none
 | k + 1, x6, x48 => if x48 = true then (some ((⟨#[]⟩ : ByteArray), 0)) else (if 0 < (x6.length : Int) then (if 1 < (x6.length : Int) then (if 2 < (x6.length : Int) then ((ew_octets.f k (rdOf ByteArray.empty x6 1) (rdOf ByteArray.empty x6 2)).bind fun bt478 => (if (wrap64 ((wrap64 ((wrap64 ((wrap64 ((wrap64 ((wrap64 (2 + ((rdOf ByteArray.empty x6 0).size : Int))) + 1)) + ((rdOf ByteArray.empty x6 1).size : Int))) + 1)) + ((rdOf ByteArray.empty x6 2).size : Int))) + 2)) > 75 then (ew_word.j1 k x6 (wrap64 ((wrap64 ((wrap64 ((wrap64 ((wrap64 ((wrap64 (2 + ((rdOf ByteArray.empty x6 0).size : Int))) + 1)) + ((rdOf ByteArray.empty x6 1).size : Int))) + 1)) + ((rdOf ByteArray.empty x6 2).size : Int))) + 2)) bt478.1 true) else (ew_word.j1 k x6 (wrap64 ((wrap64 ((wrap64 ((wrap64 ((wrap64 ((wrap64 (2 + ((rdOf ByteArray.empty x6 0).size : Int))) + 1)) + ((rdOf ByteArray.empty x6 1).size : Int))) + 1)) + ((rdOf ByteArray.empty x6 2).size : Int))) + 2)) bt478.1 (!bt478.2)))) else (none)) else (none)) else (none))
def ew_word.j1 : Nat → List ByteArray → Int → ByteArray → Bool → Option (ByteArray × Int)
 | 0, _, _, _, _ => none
 | k + 1, x6, x7, x8, x82 => if x82 = true then (some ((⟨#[]⟩ : ByteArray), 0)) else (if 0 < (x6.length : Int) then ((ew_signs.f (rdOf ByteArray.empty x6 0) x8).bind fun bt481 => (if bt481.2 = true then (some (bt481.1, x7)) else (some ((⟨#[]⟩ : ByteArray), 0)))) else (none))
end
def ew_word.f (k : Nat) (a0 : ByteArray) : Option (ByteArray × Int) := (strings_CutPrefix.f a0 (⟨#[61, 63]⟩ : ByteArray)).bind fun bt461 => (if bt461.2 = true then ((strings_SplitN.f bt461.1 (⟨#[63]⟩ : ByteArray) 4).bind fun t463 => (if (t463.length : Int) < 4 then (ew_word.j0 k t463 true) else (if 0 < (t463.length : Int) then (if (rdOf ByteArray.empty t463 0).toList = ([] : List UInt8) then (ew_word.j0 k t463 true) else ((ew_solid.f k (rdOf ByteArray.empty t463 0)).bind fun t468 => (if t468 = true then (if 2 < (t463.length : Int) then ((ew_solid.f k (rdOf ByteArray.empty t463 2)).bind fun t470 => (if t470 = true then (if 3 < (t463.length : Int) then ((strings_HasPrefix.f (rdOf ByteArray.empty t463 3) (⟨#[61]⟩ : ByteArray)).bind fun t472 => (ew_word.j0 k t463 (!t472))) else (none)) else (ew_word.j0 k t463 true))) else (none)) else (ew_word.j0 k t463 true)))) else (none)))) else (some ((⟨#[]⟩ : ByteArray), 0)))
def ew_word.T7 : Bool × List (List Nat × List Nat) := (true, [([], []), ([0], [0]), ([1], [1]), ([2], [2]), ([3], [3]), ([4], [4]), ([], []), ([6], [6]), ([7], [7]), ([8], [8]), ([5, 9], [5, 9]), ([10], [10]), ([], []), ([12], [12]), ([13], [13]), ([14], [14]), ([11, 15], [11, 15]), ([16], [16]), ([17, 0, 1, 2, 3, 4, 5, 6, 7, 8, 9, 10, 11, 12, 13, 14, 15, 16, 17], [17])])
def ew_word.B7 : List Nat := [0, 1, 3, 7, 15, 31, 0, 64, 192, 448, 1023, 2047, 0, 4096, 12288, 28672, 65535, 131071, 262143]
theorem ew_word.tab7 : rtab .any (opsOf Tryd.f44 7) = ew_word.T7 := by kernel_rfl
theorem ew_word.bits7 : waitsOk ew_word.T7.2 ew_word.B7 = true := by kernel_rfl
def ew_word.T8 : Bool × List (List Nat × List Nat) := (true, [([], []), ([0], [0]), ([1], [1]), ([], []), ([3], [3]), ([4], [4]), ([2, 5], [2, 5]), ([6], [6]), ([7], [7]), ([7], [7]), ([8, 6, 0, 1, 2, 3, 4, 5, 6, 7, 8], [8]), ([9, 10, 0, 1, 2, 3, 4, 5, 6, 7, 8, 9, 10], [9])])
def ew_word.B8 : List Nat := [0, 1, 3, 0, 8, 24, 63, 127, 255, 255, 511, 2047]
theorem ew_word.tab8 : rtab .any (opsOf Tryd.f44 8) = ew_word.T8 := by kernel_rfl
theorem ew_word.bits8 : waitsOk ew_word.T8.2 ew_word.B8 = true := by kernel_rfl
set_option maxHeartbeats 8000000 in
set_option maxRecDepth 100000 in
theorem ew_word.calls (k : Nat) (a0 : ByteArray) (r1 : ByteArray) (r2 : Int) (w : World) (hG : Glob w) (h : ew_word.f k a0 = some (r1, r2)) :
  Calls Tryd.prog 44 #[.string a0] w fun e w' => e = .returned (.tuple #[.string r1, .int .i64 r2]) ∧ Below w.heap.size w w' := by
 have HB := Aside0.mk (Below.refl w.heap.size w)
 have H : ((strings_CutPrefix.f a0 (⟨#[61, 63]⟩ : ByteArray)).bind fun bt461 => (if bt461.2 = true then ((strings_SplitN.f bt461.1 (⟨#[63]⟩ : ByteArray) 4).bind fun t463 => (if (t463.length : Int) < 4 then (ew_word.j0 k t463 true) else (if 0 < (t463.length : Int) then (if (rdOf ByteArray.empty t463 0).toList = ([] : List UInt8) then (ew_word.j0 k t463 true) else ((ew_solid.f k (rdOf ByteArray.empty t463 0)).bind fun t468 => (if t468 = true then (if 2 < (t463.length : Int) then ((ew_solid.f k (rdOf ByteArray.empty t463 2)).bind fun t470 => (if t470 = true then (if 3 < (t463.length : Int) then ((strings_HasPrefix.f (rdOf ByteArray.empty t463 3) (⟨#[61]⟩ : ByteArray)).bind fun t472 => (ew_word.j0 k t463 (!t472))) else (none)) else (ew_word.j0 k t463 true))) else (none)) else (ew_word.j0 k t463 true)))) else (none)))) else (some ((⟨#[]⟩ : ByteArray), 0)))) = some (r1, r2) := h
 clear h
 replace H := Option.bind_eq_some_iff.mp H
 obtain ⟨⟨t461, t462⟩, A20, H⟩ := H
 replace H : (if t462 = true then ((strings_SplitN.f t461 (⟨#[63]⟩ : ByteArray) 4).bind fun t463 => (if (t463.length : Int) < 4 then (ew_word.j0 k t463 true) else (if 0 < (t463.length : Int) then (if (rdOf ByteArray.empty t463 0).toList = ([] : List UInt8) then (ew_word.j0 k t463 true) else ((ew_solid.f k (rdOf ByteArray.empty t463 0)).bind fun t468 => (if t468 = true then (if 2 < (t463.length : Int) then ((ew_solid.f k (rdOf ByteArray.empty t463 2)).bind fun t470 => (if t470 = true then (if 3 < (t463.length : Int) then ((strings_HasPrefix.f (rdOf ByteArray.empty t463 3) (⟨#[61]⟩ : ByteArray)).bind fun t472 => (ew_word.j0 k t463 (!t472))) else (none)) else (ew_word.j0 k t463 true))) else (none)) else (ew_word.j0 k t463 true)))) else (none)))) else (some ((⟨#[]⟩ : ByteArray), 0))) = some (r1, r2) := H
 have A2 := Aside0.mk A20
 clear A20
 by_cases c3 : t462 = true
 ·subst c3
  have H1 : ((strings_SplitN.f t461 (⟨#[63]⟩ : ByteArray) 4).bind fun t463 => (if (t463.length : Int) < 4 then (ew_word.j0 k t463 true) else (if 0 < (t463.length : Int) then (if (rdOf ByteArray.empty t463 0).toList = ([] : List UInt8) then (ew_word.j0 k t463 true) else ((ew_solid.f k (rdOf ByteArray.empty t463 0)).bind fun t468 => (if t468 = true then (if 2 < (t463.length : Int) then ((ew_solid.f k (rdOf ByteArray.empty t463 2)).bind fun t470 => (if t470 = true then (if 3 < (t463.length : Int) then ((strings_HasPrefix.f (rdOf ByteArray.empty t463 3) (⟨#[61]⟩ : ByteArray)).bind fun t472 => (ew_word.j0 k t463 (!t472))) else (none)) else (ew_word.j0 k t463 true))) else (none)) else (ew_word.j0 k t463 true)))) else (none)))) = some (r1, r2) := by rw [if_pos rfl] at H; exact H
  clear H
  have H := H1
  clear H1
  replace H := Option.bind_eq_some_iff.mp H
  obtain ⟨t463, A40, H⟩ := H
  replace H : (if (t463.length : Int) < 4 then (ew_word.j0 k t463 true) else (if 0 < (t463.length : Int) then (if (rdOf ByteArray.empty t463 0).toList = ([] : List UInt8) then (ew_word.j0 k t463 true) else ((ew_solid.f k (rdOf ByteArray.empty t463 0)).bind fun t468 => (if t468 = true then (if 2 < (t463.length : Int) then ((ew_solid.f k (rdOf ByteArray.empty t463 2)).bind fun t470 => (if t470 = true then (if 3 < (t463.length : Int) then ((strings_HasPrefix.f (rdOf ByteArray.empty t463 3) (⟨#[61]⟩ : ByteArray)).bind fun t472 => (ew_word.j0 k t463 (!t472))) else (none)) else (ew_word.j0 k t463 true))) else (none)) else (ew_word.j0 k t463 true)))) else (none))) = some (r1, r2) := H
  have A4 := Aside0.mk A40
  clear A40
  have HC5 := Aside0.mk H
  clear H
  go_enter Tryd.func44, Tryd.ntmps44
  go_upto_region 5 with (first | ((with_reducible refine gate_callee (f := 85) rfl ?_); refine goesL_ (some 12) rfl rfl Tryd.func85 (by kernel_rfl) rfl #[.string a0, .string (⟨#[61, 63]⟩ : ByteArray)] rfl am ?_; (with_reducible refine (strings_CutPrefix.calls a0 (⟨#[61, 63]⟩ : ByteArray) t461 true _ A2.out).mono ?_); rintro e w' ⟨rfl, ⟨nd, rfl⟩⟩; refine ⟨_, rfl, ?_⟩) | ((with_reducible refine gate_callee (f := 86) rfl ?_); refine goesL_ (some 18) rfl rfl Tryd.func86 (by kernel_rfl) rfl #[.string t461, .string (⟨#[63]⟩ : ByteArray), .int .i64 4] rfl am ?_; (with_reducible refine (strings_SplitN.calls (hG := by first | exact hG | exact Glob.below hG (by first | exact HB.out | (repeat (first | (with_reducible first | exact HB.out | apply below_alloc | apply pw_below_drewN | apply below_drew1) | exact HB.out))) | exact Glob.drawn hG (by repeat (first | exact Drawn0.refl _ | apply Drawn0.step))) t461 (⟨#[63]⟩ : ByteArray) 4 t463 _ A4.out).mono ?_); rintro e w6 ⟨v464, rfl, ho0, hb⟩; refine ⟨_, rfl, ?_⟩; have n0_ := Aside0.mk (Kd.R_lower ho0 (below_size bw)); have n1_ := Aside0.mk (below_step bw hb); clear HB; have HO465 := n0_; have HB := n1_; clear n0_ n1_; (try clear hb); (try clear hb2); (try clear hk); (try clear hi); (try clear ho0)))
  (try simp only [Act.put, List.setIfInBounds_toArray, List.set_cons_zero, List.set_cons_succ])
  go_cut [48] (fun v48 wc => ∃ (kq : Nat) (x48_4 : Bool), v48 = .bool x48_4 ∧ Aside0 (ew_word.j0 kq t463 x48_4 = some (r1, r2)) ∧ Aside0 (kq ≤ k) ∧ Aside0 (Kd.R Kd.string 9 wc w.heap.size (fun _ => True) v464 t463) ∧ Aside0 (Below w.heap.size w wc))
  case first =>
   have H := HC5.out
   clear HC5
   by_cases c7 : (t463.length : Int) < 4
   ·rw [if_pos c7] at H
    have c7b0 : decide ((t463.length : Int) < 4) = true := decide_eq_true c7
    have c7b1 : decide (t463.length < 4) = true := decide_eq_true (by omega)
    clear c7
    (first | rw [c7b0] | (simp only [i64_w, i32_w]; rw [c7b0]) | skip)
    have H' := Aside0.mk H
    clear H
    obtain ⟨Ao8, co8, eo8⟩ := Kd.R_slice HO465.out
    subst eo8
    go_wp2
    go_meet
    case rel => exact ⟨_, (true), cl, H', ⟨by first | omega | exact Nat.le_refl _⟩, ⟨by (with_reducible repeat (first | apply Kd.R_alloc | apply Kd.R_drewN | apply Kd.R_drew)); exact HO465.out⟩, ⟨bw⟩⟩
   ·rw [if_neg c7] at H
    have c7b0 : decide ((t463.length : Int) < 4) = false := decide_eq_false c7
    have c7b1 : decide (t463.length < 4) = false := decide_eq_false (by omega)
    clear c7
    (first | rw [c7b0] | (simp only [i64_w, i32_w]; rw [c7b0]) | skip)
    by_cases c9 : 0 < (t463.length : Int)
    ·rw [if_pos c9] at H
     have c9b0 : decide (0 < (t463.length : Int)) = true := decide_eq_true c9
     have c9b1 : decide (0 < t463.length) = true := decide_eq_true (by omega)
     clear c9
     by_cases c10 : (rdOf ByteArray.empty t463 0).toList = ([] : List UInt8)
     ·rw [if_pos c10] at H
      have c10b0 : ((rdOf ByteArray.empty t463 0).toList == ([] : List UInt8)) = true := beq_iff_eq.mpr c10
      have c10b1 : ((rdOf ByteArray.empty t463 0).toList != ([] : List UInt8)) = false := bne_eq_false_iff_eq.mpr c10
      clear c10
      have H' := Aside0.mk H
      clear H
      obtain ⟨Ao11, co11, eo11⟩ := Kd.R_slice HO465.out
      subst eo11
      have p466 : 0 ≤ (0 : Int) := (by omega)
      have q466 : 0 < (t463.length : Int) := od
      obtain ⟨ad466, e466, hx466_0⟩ := Kd.at_string (Kd.R_reads' HO465.out).2.2 0 p466 q466
      cases e466
      have qi466 : (0 < t463.length) = True := eq_true (by omega)
      (try rw [show ((0 : Int)).toNat = 0 from rfl] at hx466_0)
      (try rw [Addr.add_zero'] at hx466_0)
      replace p466 := eq_true p466
      replace q466 := eq_true q466
      go_wp2
      go_meet
      case rel => exact ⟨_, (true), cl, H', ⟨by first | omega | exact Nat.le_refl _⟩, ⟨by (with_reducible repeat (first | apply Kd.R_alloc | apply Kd.R_drewN | apply Kd.R_drew)); exact HO465.out⟩, ⟨bw⟩⟩
     ·rw [if_neg c10] at H
      have c10b0 : ((rdOf ByteArray.empty t463 0).toList == ([] : List UInt8)) = false := beq_eq_false_iff_ne.mpr c10
      have c10b1 : ((rdOf ByteArray.empty t463 0).toList != ([] : List UInt8)) = true := bne_iff_ne.mpr c10
      replace H := Option.bind_eq_some_iff.mp H
      obtain ⟨t468, A120, H⟩ := H
      replace H : (if t468 = true then (if 2 < (t463.length : Int) then ((ew_solid.f k (rdOf ByteArray.empty t463 2)).bind fun t470 => (if t470 = true then (if 3 < (t463.length : Int) then ((strings_HasPrefix.f (rdOf ByteArray.empty t463 3) (⟨#[61]⟩ : ByteArray)).bind fun t472 => (ew_word.j0 k t463 (!t472))) else (none)) else (ew_word.j0 k t463 true))) else (none)) else (ew_word.j0 k t463 true)) = some (r1, r2) := H
      have A12 := Aside0.mk A120
      clear A120
      by_cases c13 : t468 = true
      ·subst c13
       have H1 : (if 2 < (t463.length : Int) then ((ew_solid.f k (rdOf ByteArray.empty t463 2)).bind fun t470 => (if t470 = true then (if 3 < (t463.length : Int) then ((strings_HasPrefix.f (rdOf ByteArray.empty t463 3) (⟨#[61]⟩ : ByteArray)).bind fun t472 => (ew_word.j0 k t463 (!t472))) else (none)) else (ew_word.j0 k t463 true))) else (none)) = some (r1, r2) := by rw [if_pos rfl] at H; exact H
       clear H
       have H := H1
       clear H1
       by_cases c14 : 2 < (t463.length : Int)
       ·rw [if_pos c14] at H
        have c14b0 : decide (2 < (t463.length : Int)) = true := decide_eq_true c14
        have c14b1 : decide (2 < t463.length) = true := decide_eq_true (by omega)
        clear c14
        replace H := Option.bind_eq_some_iff.mp H
        obtain ⟨t470, A150, H⟩ := H
        replace H : (if t470 = true then (if 3 < (t463.length : Int) then ((strings_HasPrefix.f (rdOf ByteArray.empty t463 3) (⟨#[61]⟩ : ByteArray)).bind fun t472 => (ew_word.j0 k t463 (!t472))) else (none)) else (ew_word.j0 k t463 true)) = some (r1, r2) := H
        have A15 := Aside0.mk A150
        clear A150
        by_cases c16 : t470 = true
        ·subst c16
         have H1 : (if 3 < (t463.length : Int) then ((strings_HasPrefix.f (rdOf ByteArray.empty t463 3) (⟨#[61]⟩ : ByteArray)).bind fun t472 => (ew_word.j0 k t463 (!t472))) else (none)) = some (r1, r2) := by rw [if_pos rfl] at H; exact H
         clear H
         have H := H1
         clear H1
         by_cases c17 : 3 < (t463.length : Int)
         ·rw [if_pos c17] at H
          have c17b0 : decide (3 < (t463.length : Int)) = true := decide_eq_true c17
          have c17b1 : decide (3 < t463.length) = true := decide_eq_true (by omega)
          clear c17
          replace H := Option.bind_eq_some_iff.mp H
          obtain ⟨t472, A180, H⟩ := H
          replace H : (ew_word.j0 k t463 (!t472)) = some (r1, r2) := H
          have A18 := Aside0.mk A180
          clear A180
          have H' := Aside0.mk H
          clear H
          obtain ⟨Ao19, co19, eo19⟩ := Kd.R_slice HO465.out
          subst eo19
          have p466 : 0 ≤ (0 : Int) := (by omega)
          have q466 : 0 < (t463.length : Int) := od
          obtain ⟨ad466, e466, hx466_0⟩ := Kd.at_string (Kd.R_reads' HO465.out).2.2 0 p466 q466
          cases e466
          have qi466 : (0 < t463.length) = True := eq_true (by omega)
          (try rw [show ((0 : Int)).toNat = 0 from rfl] at hx466_0)
          (try rw [Addr.add_zero'] at hx466_0)
          replace p466 := eq_true p466
          replace q466 := eq_true q466
          have p467 : 0 ≤ (0 : Int) := (by omega)
          have q467 : 0 < (t463.length : Int) := od
          obtain ⟨ad467, e467, hx467_0⟩ := Kd.at_string (Kd.R_reads' HO465.out).2.2 0 p467 q467
          obtain rfl : ad466 = ad467 := (by injection e467)
          have qi467 : (0 < t463.length) = True := eq_true (by omega)
          (try rw [show ((0 : Int)).toNat = 0 from rfl] at hx467_0)
          (try rw [Addr.add_zero'] at hx467_0)
          replace p467 := eq_true p467
          replace q467 := eq_true q467
          go_wp2_with (first | (go_at_call 87; (with_reducible refine (ew_solid.calls k (rdOf ByteArray.empty t463 0) true _ A12.out).mono ?_); rintro e w' ⟨rfl, ⟨nd, rfl⟩⟩; have p469 : 0 ≤ (2 : Int) := (by omega); have q469 : 2 < (t463.length : Int) := od; obtain ⟨ad469, e469, hx469_0⟩ := Kd.at_string (Kd.R_reads' HO465.out).2.2 2 p469 q469; obtain rfl : ad466 = ad469 := (by injection e469); (try simp only [show (2 : Int).toNat = 2 from rfl, Nat.reduceMul, Nat.reduceEqDiff, Go.Addr.add, ↓reduceIte] at hx469_0); have qi469 : (2 < t463.length) = True := eq_true (by omega); (try rw [show ((2 : Int)).toNat = 2 from rfl] at hx469_0); replace p469 := eq_true p469; replace q469 := eq_true q469) | (go_at_call 87; (with_reducible refine (ew_solid.calls k (rdOf ByteArray.empty t463 2) true _ A15.out).mono ?_); rintro e w' ⟨rfl, ⟨nd, rfl⟩⟩; have p471 : 0 ≤ (3 : Int) := (by omega); have q471 : 3 < (t463.length : Int) := od; obtain ⟨ad471, e471, hx471_0⟩ := Kd.at_string (Kd.R_reads' HO465.out).2.2 3 p471 q471; obtain rfl : ad466 = ad471 := (by injection e471); (try simp only [show (3 : Int).toNat = 3 from rfl, Nat.reduceMul, Nat.reduceEqDiff, Go.Addr.add, ↓reduceIte] at hx471_0); have qi471 : (3 < t463.length) = True := eq_true (by omega); (try rw [show ((3 : Int)).toNat = 3 from rfl] at hx471_0); replace p471 := eq_true p471; replace q471 := eq_true q471) | (go_at_call 65; (with_reducible refine (strings_HasPrefix.calls (rdOf ByteArray.empty t463 3) (⟨#[61]⟩ : ByteArray) t472 _ A18.out).mono ?_); rintro e w' ⟨rfl, ⟨nd, rfl⟩⟩))
          go_meet
          case rel => exact ⟨_, (!t472), cl, H', ⟨by first | omega | exact Nat.le_refl _⟩, ⟨by (with_reducible repeat (first | apply Kd.R_alloc | apply Kd.R_drewN | apply Kd.R_drew)); exact HO465.out⟩, ⟨bw⟩⟩
         ·rw [if_neg c17] at H
          exact absurd H (by simp)
        ·replace c16 := Bool.eq_false_iff.mpr c16
         subst c16
         have H1 : (ew_word.j0 k t463 true) = some (r1, r2) := by rw [if_neg (show ¬ (false = true) by decide)] at H; exact H
         clear H
         have H := H1
         clear H1
         have H' := Aside0.mk H
         clear H
         obtain ⟨Ao20, co20, eo20⟩ := Kd.R_slice HO465.out
         subst eo20
         have p466 : 0 ≤ (0 : Int) := (by omega)
         have q466 : 0 < (t463.length : Int) := od
         obtain ⟨ad466, e466, hx466_0⟩ := Kd.at_string (Kd.R_reads' HO465.out).2.2 0 p466 q466
         cases e466
         have qi466 : (0 < t463.length) = True := eq_true (by omega)
         (try rw [show ((0 : Int)).toNat = 0 from rfl] at hx466_0)
         (try rw [Addr.add_zero'] at hx466_0)
         replace p466 := eq_true p466
         replace q466 := eq_true q466
         have p467 : 0 ≤ (0 : Int) := (by omega)
         have q467 : 0 < (t463.length : Int) := od
         obtain ⟨ad467, e467, hx467_0⟩ := Kd.at_string (Kd.R_reads' HO465.out).2.2 0 p467 q467
         obtain rfl : ad466 = ad467 := (by injection e467)
         have qi467 : (0 < t463.length) = True := eq_true (by omega)
         (try rw [show ((0 : Int)).toNat = 0 from rfl] at hx467_0)
         (try rw [Addr.add_zero'] at hx467_0)
         replace p467 := eq_true p467
         replace q467 := eq_true q467
         go_wp2_with (first | (go_at_call 87; (with_reducible refine (ew_solid.calls k (rdOf ByteArray.empty t463 0) true _ A12.out).mono ?_); rintro e w' ⟨rfl, ⟨nd, rfl⟩⟩; have p469 : 0 ≤ (2 : Int) := (by omega); have q469 : 2 < (t463.length : Int) := od; obtain ⟨ad469, e469, hx469_0⟩ := Kd.at_string (Kd.R_reads' HO465.out).2.2 2 p469 q469; obtain rfl : ad466 = ad469 := (by injection e469); (try simp only [show (2 : Int).toNat = 2 from rfl, Nat.reduceMul, Nat.reduceEqDiff, Go.Addr.add, ↓reduceIte] at hx469_0); have qi469 : (2 < t463.length) = True := eq_true (by omega); (try rw [show ((2 : Int)).toNat = 2 from rfl] at hx469_0); replace p469 := eq_true p469; replace q469 := eq_true q469) | (go_at_call 87; (with_reducible refine (ew_solid.calls k (rdOf ByteArray.empty t463 2) false _ A15.out).mono ?_); rintro e w' ⟨rfl, ⟨nd, rfl⟩⟩))
         go_meet
         case rel => exact ⟨_, (true), cl, H', ⟨by first | omega | exact Nat.le_refl _⟩, ⟨by (with_reducible repeat (first | apply Kd.R_alloc | apply Kd.R_drewN | apply Kd.R_drew)); exact HO465.out⟩, ⟨bw⟩⟩
       ·rw [if_neg c14] at H
        exact absurd H (by simp)
      ·replace c13 := Bool.eq_false_iff.mpr c13
       subst c13
       have H1 : (ew_word.j0 k t463 true) = some (r1, r2) := by rw [if_neg (show ¬ (false = true) by decide)] at H; exact H
       clear H
       have H := H1
       clear H1
       have H' := Aside0.mk H
       clear H
       obtain ⟨Ao21, co21, eo21⟩ := Kd.R_slice HO465.out
       subst eo21
       have p466 : 0 ≤ (0 : Int) := (by omega)
       have q466 : 0 < (t463.length : Int) := od
       obtain ⟨ad466, e466, hx466_0⟩ := Kd.at_string (Kd.R_reads' HO465.out).2.2 0 p466 q466
       cases e466
       have qi466 : (0 < t463.length) = True := eq_true (by omega)
       (try rw [show ((0 : Int)).toNat = 0 from rfl] at hx466_0)
       (try rw [Addr.add_zero'] at hx466_0)
       replace p466 := eq_true p466
       replace q466 := eq_true q466
       have p467 : 0 ≤ (0 : Int) := (by omega)
       have q467 : 0 < (t463.length : Int) := od
       obtain ⟨ad467, e467, hx467_0⟩ := Kd.at_string (Kd.R_reads' HO465.out).2.2 0 p467 q467
       obtain rfl : ad466 = ad467 := (by injection e467)
       have qi467 : (0 < t463.length) = True := eq_true (by omega)
       (try rw [show ((0 : Int)).toNat = 0 from rfl] at hx467_0)
       (try rw [Addr.add_zero'] at hx467_0)
       replace p467 := eq_true p467
       replace q467 := eq_true q467
       go_wp2_with (first | (go_at_call 87; (with_reducible refine (ew_solid.calls k (rdOf ByteArray.empty t463 0) false _ A12.out).mono ?_); rintro e w' ⟨rfl, ⟨nd, rfl⟩⟩))
       go_meet
       case rel => exact ⟨_, (true), cl, H', ⟨by first | omega | exact Nat.le_refl _⟩, ⟨by (with_reducible repeat (first | apply Kd.R_alloc | apply Kd.R_drewN | apply Kd.R_drew)); exact HO465.out⟩, ⟨bw⟩⟩
    ·rw [if_neg c9] at H
     exact absurd H (by simp)
  case rest =>
   clear HC5
   try clear c1
   try clear p2
   try clear c3
   try clear c4
   try clear p4
   try clear q4
   try clear hx4
   try clear qi4
   try clear c7
   try clear c7b0
   try clear c7b1
   try clear c8
   try clear c9
   try clear c9b0
   try clear c9b1
   try clear c10
   try clear c10b0
   try clear c10b1
   try clear c13
   try clear c14
   try clear c14b0
   try clear c14b1
   try clear c16
   try clear c17
   try clear c17b0
   try clear c17b1
   try clear hx466_0
   try clear hx467_0
   try clear hx469_0
   try clear hx471_0
   try clear p466
   try clear p467
   try clear p469
   try clear p471
   try clear q466
   try clear q467
   try clear q469
   try clear q471
   obtain ⟨kq, x48_4, rfl, HA, HJ4, HO_6, HB⟩ := hcut
   cases kq with
   | zero => exact absurd HA.out (by simp [ew_word.j0])
   | succ kj4 =>
    have H := HA.out
    clear HA
    simp only [ew_word.j0] at H
    by_cases c22 : x48_4 = true
    ·subst c22
     have H1 : (some ((⟨#[]⟩ : ByteArray), 0)) = some (r1, r2) := by rw [if_pos rfl] at H; exact H
     clear H
     have H := H1
     clear H1
     simp only [Option.some.injEq, Prod.mk.injEq] at H
     obtain ⟨rfl, rfl⟩ := H
     go_wp2
     go_ret2
     exact ⟨by first | rfl | (simp [errW_none, errW_some] <;> rfl) | (simp [*, errW_none, errW_some] <;> rfl), bw⟩
    ·replace c22 := Bool.eq_false_iff.mpr c22
     subst c22
     have H1 : (if 0 < (t463.length : Int) then (if 1 < (t463.length : Int) then (if 2 < (t463.length : Int) then ((ew_octets.f kj4 (rdOf ByteArray.empty t463 1) (rdOf ByteArray.empty t463 2)).bind fun bt478 => (if (wrap64 ((wrap64 ((wrap64 ((wrap64 ((wrap64 ((wrap64 (2 + ((rdOf ByteArray.empty t463 0).size : Int))) + 1)) + ((rdOf ByteArray.empty t463 1).size : Int))) + 1)) + ((rdOf ByteArray.empty t463 2).size : Int))) + 2)) > 75 then (ew_word.j1 kj4 t463 (wrap64 ((wrap64 ((wrap64 ((wrap64 ((wrap64 ((wrap64 (2 + ((rdOf ByteArray.empty t463 0).size : Int))) + 1)) + ((rdOf ByteArray.empty t463 1).size : Int))) + 1)) + ((rdOf ByteArray.empty t463 2).size : Int))) + 2)) bt478.1 true) else (ew_word.j1 kj4 t463 (wrap64 ((wrap64 ((wrap64 ((wrap64 ((wrap64 ((wrap64 (2 + ((rdOf ByteArray.empty t463 0).size : Int))) + 1)) + ((rdOf ByteArray.empty t463 1).size : Int))) + 1)) + ((rdOf ByteArray.empty t463 2).size : Int))) + 2)) bt478.1 (!bt478.2)))) else (none)) else (none)) else (none)) = some (r1, r2) := by rw [if_neg (show ¬ (false = true) by decide)] at H; exact H
     clear H
     have H := H1
     clear H1
     by_cases c23 : 0 < (t463.length : Int)
     ·rw [if_pos c23] at H
      have c23b0 : decide (0 < (t463.length : Int)) = true := decide_eq_true c23
      have c23b1 : decide (0 < t463.length) = true := decide_eq_true (by omega)
      clear c23
      by_cases c24 : 1 < (t463.length : Int)
      ·rw [if_pos c24] at H
       have c24b0 : decide (1 < (t463.length : Int)) = true := decide_eq_true c24
       have c24b1 : decide (1 < t463.length) = true := decide_eq_true (by omega)
       clear c24
       by_cases c25 : 2 < (t463.length : Int)
       ·rw [if_pos c25] at H
        have c25b0 : decide (2 < (t463.length : Int)) = true := decide_eq_true c25
        have c25b1 : decide (2 < t463.length) = true := decide_eq_true (by omega)
        clear c25
        replace H := Option.bind_eq_some_iff.mp H
        obtain ⟨⟨t478, t479⟩, A260, H⟩ := H
        replace H : (if (wrap64 ((wrap64 ((wrap64 ((wrap64 ((wrap64 ((wrap64 (2 + ((rdOf ByteArray.empty t463 0).size : Int))) + 1)) + ((rdOf ByteArray.empty t463 1).size : Int))) + 1)) + ((rdOf ByteArray.empty t463 2).size : Int))) + 2)) > 75 then (ew_word.j1 kj4 t463 (wrap64 ((wrap64 ((wrap64 ((wrap64 ((wrap64 ((wrap64 (2 + ((rdOf ByteArray.empty t463 0).size : Int))) + 1)) + ((rdOf ByteArray.empty t463 1).size : Int))) + 1)) + ((rdOf ByteArray.empty t463 2).size : Int))) + 2)) t478 true) else (ew_word.j1 kj4 t463 (wrap64 ((wrap64 ((wrap64 ((wrap64 ((wrap64 ((wrap64 (2 + ((rdOf ByteArray.empty t463 0).size : Int))) + 1)) + ((rdOf ByteArray.empty t463 1).size : Int))) + 1)) + ((rdOf ByteArray.empty t463 2).size : Int))) + 2)) t478 (!t479))) = some (r1, r2) := H
        have A26 := Aside0.mk A260
        clear A260
        have HC27 := Aside0.mk H
        clear H
        try go_wp2
        have n0_ := Aside0.mk (Kd.R_drew HO_6.out)
        have n1_ := Aside0.mk (below_drew1 HB.out)
        clear HO_6
        clear HB
        have HO_6 := n0_
        have HB := n1_
        clear n0_ n1_
        obtain ⟨Ao29, co29, eo29⟩ := Kd.R_slice HO_6.out
        (first | subst eo29 | (injection eo29 with f1_ f2_ f3_; have f4_ := f1_.symm; have f5_ := f3_.symm; clear f1_ f2_ f3_; subst f4_; subst f5_))
        have p473 : 0 ≤ (0 : Int) := (by omega)
        have q473 : 0 < (t463.length : Int) := od
        obtain ⟨ad473, e473, hx473_0⟩ := Kd.at_string (Kd.R_reads' HO_6.out).2.2 0 p473 q473
        cases e473
        have qi473 : (0 < t463.length) = True := eq_true (by omega)
        (try rw [show ((0 : Int)).toNat = 0 from rfl] at hx473_0)
        (try rw [Addr.add_zero'] at hx473_0)
        replace p473 := eq_true p473
        replace q473 := eq_true q473
        have p474 : 0 ≤ (1 : Int) := (by omega)
        have q474 : 1 < (t463.length : Int) := od
        obtain ⟨ad474, e474, hx474_0⟩ := Kd.at_string (Kd.R_reads' HO_6.out).2.2 1 p474 q474
        obtain rfl : ad473 = ad474 := (by injection e474)
        (try simp only [show (1 : Int).toNat = 1 from rfl, Nat.reduceMul, Nat.reduceEqDiff, Go.Addr.add, ↓reduceIte] at hx474_0)
        have qi474 : (1 < t463.length) = True := eq_true (by omega)
        (try rw [show ((1 : Int)).toNat = 1 from rfl] at hx474_0)
        replace p474 := eq_true p474
        replace q474 := eq_true q474
        have p475 : 0 ≤ (2 : Int) := (by omega)
        have q475 : 2 < (t463.length : Int) := od
        obtain ⟨ad475, e475, hx475_0⟩ := Kd.at_string (Kd.R_reads' HO_6.out).2.2 2 p475 q475
        obtain rfl : ad473 = ad475 := (by injection e475)
        (try simp only [show (2 : Int).toNat = 2 from rfl, Nat.reduceMul, Nat.reduceEqDiff, Go.Addr.add, ↓reduceIte] at hx475_0)
        have qi475 : (2 < t463.length) = True := eq_true (by omega)
        (try rw [show ((2 : Int)).toNat = 2 from rfl] at hx475_0)
        replace p475 := eq_true p475
        replace q475 := eq_true q475
        refine start_ (n := 19) (S := fun w' => w'.cell? ad473 = some (.string (rdOf ByteArray.empty t463 0)) ∧ w'.cell? ⟨ad473.block, ad473.off + 1, none⟩ = some (.string (rdOf ByteArray.empty t463 1)) ∧ w'.cell? ⟨ad473.block, ad473.off + 2, none⟩ = some (.string (rdOf ByteArray.empty t463 2))) (ds := []) #[false, false, false, false, false, false, false, false, false, false, false, false, false, false, false, false, false, false, false] (by kernel_rfl) rfl rfl ⟨hx473_0, hx474_0, hx475_0⟩ (fun hHeld => ?_); refine with_tabW ew_word.tab7 ew_word.bits7 (fun HT_ HW_ => ?_)
        generalize wc.drew = w28 at HO_6 HB hx473_0 hx474_0 hx475_0 hHeld ⊢
        refine pure_ (i := 0) (N := some 49) (v := ?_) (a' := ?_) (bitsL 19 1) rfl rfl (any_of HT_.out (by kernel_rfl)) (fun _ _ _ h => h) (Or.inl ⟨by rfl, ?_⟩) ?_ ?_
        rotate_left
        ·intro w'
         go_simp
         with_reducible rfl
        rotate_left
        ·simp only [Act.put, List.setIfInBounds_toArray, List.set_cons_zero, List.set_cons_succ, i64_w, i32_w]
         rfl
        refine pure_ (i := 1) (N := some 50) (v := ?_) (a' := ?_) (bitsL 19 3) rfl rfl (any_of HT_.out (by kernel_rfl)) (fun _ _ _ h => h) (Or.inl ⟨by rfl, ?_⟩) ?_ ?_
        rotate_left
        ·intro w'
         go_simp
         with_reducible rfl
        rotate_left
        ·simp only [Act.put, List.setIfInBounds_toArray, List.set_cons_zero, List.set_cons_succ, i64_w, i32_w]
         rfl
        refine pure_ (i := 6) (N := some 55) (v := ?_) (a' := ?_) (bitsL 19 67) rfl rfl (any_of HT_.out (by kernel_rfl)) (fun _ _ _ h => h) (Or.inl ⟨by rfl, ?_⟩) ?_ ?_
        rotate_left
        ·intro w'
         go_simp
         with_reducible rfl
        rotate_left
        ·simp only [Act.put, List.setIfInBounds_toArray, List.set_cons_zero, List.set_cons_succ, i64_w, i32_w]
         rfl
        refine pure_ (i := 7) (N := some 56) (v := ?_) (a' := ?_) (bitsL 19 195) rfl rfl (any_of HT_.out (by kernel_rfl)) (fun _ _ _ h => h) (Or.inl ⟨by rfl, ?_⟩) ?_ ?_
        rotate_left
        ·intro w'
         go_simp
         with_reducible rfl
        rotate_left
        ·simp only [Act.put, List.setIfInBounds_toArray, List.set_cons_zero, List.set_cons_succ, i64_w, i32_w]
         rfl
        refine pure_ (i := 12) (N := some 61) (v := ?_) (a' := ?_) (bitsL 19 4291) rfl rfl (any_of HT_.out (by kernel_rfl)) (fun _ _ _ h => h) (Or.inl ⟨by rfl, ?_⟩) ?_ ?_
        rotate_left
        ·intro w'
         go_simp
         with_reducible rfl
        rotate_left
        ·simp only [Act.put, List.setIfInBounds_toArray, List.set_cons_zero, List.set_cons_succ, i64_w, i32_w]
         rfl
        refine pure_ (i := 13) (N := some 62) (v := ?_) (a' := ?_) (bitsL 19 12483) rfl rfl (any_of HT_.out (by kernel_rfl)) (fun _ _ _ h => h) (Or.inl ⟨by rfl, ?_⟩) ?_ ?_
        rotate_left
        ·intro w'
         go_simp
         with_reducible rfl
        rotate_left
        ·simp only [Act.put, List.setIfInBounds_toArray, List.set_cons_zero, List.set_cons_succ, i64_w, i32_w]
         rfl
        refine take_ (i := 2) (N := some 51) (v := ?_) (a' := ?_) (bitsL 19 12487) rfl rfl (take_ofW HT_.out HW_.out (by kernel_rfl)) (fun _ _ _ h => h) (Or.inl ⟨by rfl, ?_⟩) hHeld ?_ ?_
        rotate_left
        ·rintro w' ⟨s0, s1, s2⟩
         go_simp
         with_reducible rfl
        rotate_left
        ·simp only [Act.put, List.setIfInBounds_toArray, List.set_cons_zero, List.set_cons_succ, i64_w, i32_w]
         rfl
        refine pure_ (i := 3) (N := some 52) (v := ?_) (a' := ?_) (bitsL 19 12495) rfl rfl (any_of HT_.out (by kernel_rfl)) (fun _ _ _ h => h) (Or.inl ⟨by rfl, ?_⟩) ?_ ?_
        rotate_left
        ·intro w'
         go_simp
         with_reducible rfl
        rotate_left
        ·simp only [Act.put, List.setIfInBounds_toArray, List.set_cons_zero, List.set_cons_succ, i64_w, i32_w]
         rfl
        refine pure_ (i := 4) (N := some 53) (v := ?_) (a' := ?_) (bitsL 19 12511) rfl rfl (any_of HT_.out (by kernel_rfl)) (fun _ _ _ h => h) (Or.inl ⟨by rfl, ?_⟩) ?_ ?_
        rotate_left
        ·intro w'
         go_simp
         with_reducible rfl
        rotate_left
        ·simp only [Act.put, List.setIfInBounds_toArray, List.set_cons_zero, List.set_cons_succ, i64_w, i32_w]
         rfl
        refine pure_ (i := 5) (N := some 54) (v := ?_) (a' := ?_) (bitsL 19 12543) rfl rfl (any_of HT_.out (by kernel_rfl)) (fun _ _ _ h => h) (Or.inl ⟨by rfl, ?_⟩) ?_ ?_
        rotate_left
        ·intro w'
         go_simp
         with_reducible rfl
        rotate_left
        ·simp only [Act.put, List.setIfInBounds_toArray, List.set_cons_zero, List.set_cons_succ, i64_w, i32_w]
         rfl
        refine take_ (i := 8) (N := some 57) (v := ?_) (a' := ?_) (bitsL 19 12799) rfl rfl (take_ofW HT_.out HW_.out (by kernel_rfl)) (fun _ _ _ h => h) (Or.inl ⟨by rfl, ?_⟩) hHeld ?_ ?_
        rotate_left
        ·rintro w' ⟨s0, s1, s2⟩
         go_simp
         with_reducible rfl
        rotate_left
        ·simp only [Act.put, List.setIfInBounds_toArray, List.set_cons_zero, List.set_cons_succ, i64_w, i32_w]
         rfl
        refine pure_ (i := 9) (N := some 58) (v := ?_) (a' := ?_) (bitsL 19 13311) rfl rfl (any_of HT_.out (by kernel_rfl)) (fun _ _ _ h => h) (Or.inl ⟨by rfl, ?_⟩) ?_ ?_
        rotate_left
        ·intro w'
         go_simp
         with_reducible rfl
        rotate_left
        ·simp only [Act.put, List.setIfInBounds_toArray, List.set_cons_zero, List.set_cons_succ, i64_w, i32_w]
         rfl
        refine pure_ (i := 10) (N := some 59) (v := ?_) (a' := ?_) (bitsL 19 14335) rfl rfl (any_of HT_.out (by kernel_rfl)) (fun _ _ _ h => h) (Or.inl ⟨by rfl, ?_⟩) ?_ ?_
        rotate_left
        ·intro w'
         go_simp
         with_reducible rfl
        rotate_left
        ·simp only [Act.put, List.setIfInBounds_toArray, List.set_cons_zero, List.set_cons_succ, i64_w, i32_w]
         rfl
        refine pure_ (i := 11) (N := some 60) (v := ?_) (a' := ?_) (bitsL 19 16383) rfl rfl (any_of HT_.out (by kernel_rfl)) (fun _ _ _ h => h) (Or.inl ⟨by rfl, ?_⟩) ?_ ?_
        rotate_left
        ·intro w'
         go_simp
         with_reducible rfl
        rotate_left
        ·simp only [Act.put, List.setIfInBounds_toArray, List.set_cons_zero, List.set_cons_succ, i64_w, i32_w]
         rfl
        refine take_ (i := 14) (N := some 63) (v := ?_) (a' := ?_) (bitsL 19 32767) rfl rfl (take_ofW HT_.out HW_.out (by kernel_rfl)) (fun _ _ _ h => h) (Or.inl ⟨by rfl, ?_⟩) hHeld ?_ ?_
        rotate_left
        ·rintro w' ⟨s0, s1, s2⟩
         go_simp
         with_reducible rfl
        rotate_left
        ·simp only [Act.put, List.setIfInBounds_toArray, List.set_cons_zero, List.set_cons_succ, i64_w, i32_w]
         rfl
        refine pure_ (i := 15) (N := some 64) (v := ?_) (a' := ?_) (bitsL 19 65535) rfl rfl (any_of HT_.out (by kernel_rfl)) (fun _ _ _ h => h) (Or.inl ⟨by rfl, ?_⟩) ?_ ?_
        rotate_left
        ·intro w'
         go_simp
         with_reducible rfl
        rotate_left
        ·simp only [Act.put, List.setIfInBounds_toArray, List.set_cons_zero, List.set_cons_succ, i64_w, i32_w]
         rfl
        refine pure_ (i := 16) (N := some 65) (v := ?_) (a' := ?_) (bitsL 19 131071) rfl rfl (any_of HT_.out (by kernel_rfl)) (fun _ _ _ h => h) (Or.inl ⟨by rfl, ?_⟩) ?_ ?_
        rotate_left
        ·intro w'
         go_simp
         with_reducible rfl
        rotate_left
        ·simp only [Act.put, List.setIfInBounds_toArray, List.set_cons_zero, List.set_cons_succ, i64_w, i32_w]
         rfl
        refine pure_ (i := 17) (N := some 66) (v := ?_) (a' := ?_) (bitsL 19 262143) rfl rfl (any_of HT_.out (by kernel_rfl)) (fun _ _ _ h => h) (Or.inl ⟨by rfl, ?_⟩) ?_ ?_
        rotate_left
        ·intro w'
         go_simp
         with_reducible rfl
        rotate_left
        ·simp only [Act.put, List.setIfInBounds_toArray, List.set_cons_zero, List.set_cons_succ, i64_w, i32_w]
         rfl
        refine pure_ (i := 18) (N := some 7) (v := ?_) (a' := ?_) (bitsL 19 524287) rfl rfl (any_of HT_.out (by kernel_rfl)) (fun _ _ _ h => h) (Or.inl ⟨by rfl, ?_⟩) ?_ ?_
        rotate_left
        ·intro w'
         go_simp
         with_reducible rfl
        rotate_left
        ·simp only [Act.put, List.setIfInBounds_toArray, List.set_cons_zero, List.set_cons_succ, i64_w, i32_w]
         rfl
        refine done_ (done_of HT_.out (by kernel_rfl)) ?_
        try go_wp2
        have n0_ := Aside0.mk (Kd.R_drew HO_6.out)
        have n1_ := Aside0.mk (below_drew1 HB.out)
        clear HO_6
        clear HB
        have HO_6 := n0_
        have HB := n1_
        clear n0_ n1_
        have p476 : 0 ≤ (1 : Int) := (by omega)
        have q476 : 1 < (t463.length : Int) := od
        obtain ⟨ad476, e476, hx476_0⟩ := Kd.at_string (Kd.R_reads' HO_6.out).2.2 1 p476 q476
        obtain rfl : ad473 = ad476 := (by injection e476)
        (try simp only [show (1 : Int).toNat = 1 from rfl, Nat.reduceMul, Nat.reduceEqDiff, Go.Addr.add, ↓reduceIte] at hx476_0)
        have qi476 : (1 < t463.length) = True := eq_true (by omega)
        (try rw [show ((1 : Int)).toNat = 1 from rfl] at hx476_0)
        replace p476 := eq_true p476
        replace q476 := eq_true q476
        have p477 : 0 ≤ (2 : Int) := (by omega)
        have q477 : 2 < (t463.length : Int) := od
        obtain ⟨ad477, e477, hx477_0⟩ := Kd.at_string (Kd.R_reads' HO_6.out).2.2 2 p477 q477
        obtain rfl : ad473 = ad477 := (by injection e477)
        (try simp only [show (2 : Int).toNat = 2 from rfl, Nat.reduceMul, Nat.reduceEqDiff, Go.Addr.add, ↓reduceIte] at hx477_0)
        have qi477 : (2 < t463.length) = True := eq_true (by omega)
        (try rw [show ((2 : Int)).toNat = 2 from rfl] at hx477_0)
        replace p477 := eq_true p477
        replace q477 := eq_true q477
        refine start_ (n := 12) (S := fun w' => w'.cell? ⟨ad473.block, ad473.off + 1, none⟩ = some (.string (rdOf ByteArray.empty t463 1)) ∧ w'.cell? ⟨ad473.block, ad473.off + 2, none⟩ = some (.string (rdOf ByteArray.empty t463 2))) (ds := []) #[false, false, false, false, false, false, false, false, false, false, false, false] (by kernel_rfl) rfl rfl ⟨hx476_0, hx477_0⟩ (fun hHeld => ?_); refine with_tabW ew_word.tab8 ew_word.bits8 (fun HT_ HW_ => ?_)
        generalize w28.drew = w30 at HO_6 HB hx476_0 hx477_0 hHeld ⊢
        refine pure_ (i := 0) (N := some 68) (v := ?_) (a' := ?_) (bitsL 12 1) rfl rfl (any_of HT_.out (by kernel_rfl)) (fun _ _ _ h => h) (Or.inl ⟨by rfl, ?_⟩) ?_ ?_
        rotate_left
        ·intro w'
         go_simp
         with_reducible rfl
        rotate_left
        ·simp only [Act.put, List.setIfInBounds_toArray, List.set_cons_zero, List.set_cons_succ, i64_w, i32_w]
         rfl
        refine pure_ (i := 1) (N := some 69) (v := ?_) (a' := ?_) (bitsL 12 3) rfl rfl (any_of HT_.out (by kernel_rfl)) (fun _ _ _ h => h) (Or.inl ⟨by rfl, ?_⟩) ?_ ?_
        rotate_left
        ·intro w'
         go_simp
         with_reducible rfl
        rotate_left
        ·simp only [Act.put, List.setIfInBounds_toArray, List.set_cons_zero, List.set_cons_succ, i64_w, i32_w]
         rfl
        refine pure_ (i := 3) (N := some 71) (v := ?_) (a' := ?_) (bitsL 12 11) rfl rfl (any_of HT_.out (by kernel_rfl)) (fun _ _ _ h => h) (Or.inl ⟨by rfl, ?_⟩) ?_ ?_
        rotate_left
        ·intro w'
         go_simp
         with_reducible rfl
        rotate_left
        ·simp only [Act.put, List.setIfInBounds_toArray, List.set_cons_zero, List.set_cons_succ, i64_w, i32_w]
         rfl
        refine pure_ (i := 4) (N := some 72) (v := ?_) (a' := ?_) (bitsL 12 27) rfl rfl (any_of HT_.out (by kernel_rfl)) (fun _ _ _ h => h) (Or.inl ⟨by rfl, ?_⟩) ?_ ?_
        rotate_left
        ·intro w'
         go_simp
         with_reducible rfl
        rotate_left
        ·simp only [Act.put, List.setIfInBounds_toArray, List.set_cons_zero, List.set_cons_succ, i64_w, i32_w]
         rfl
        refine take_ (i := 2) (N := some 70) (v := ?_) (a' := ?_) (bitsL 12 31) rfl rfl (take_ofW HT_.out HW_.out (by kernel_rfl)) (fun _ _ _ h => h) (Or.inl ⟨by rfl, ?_⟩) hHeld ?_ ?_
        rotate_left
        ·rintro w' ⟨s0, s1⟩
         go_simp
         with_reducible rfl
        rotate_left
        ·simp only [Act.put, List.setIfInBounds_toArray, List.set_cons_zero, List.set_cons_succ, i64_w, i32_w]
         rfl
        refine take_ (i := 5) (N := some 73) (v := ?_) (a' := ?_) (bitsL 12 63) rfl rfl (take_ofW HT_.out HW_.out (by kernel_rfl)) (fun _ _ _ h => h) (Or.inl ⟨by rfl, ?_⟩) hHeld ?_ ?_
        rotate_left
        ·rintro w' ⟨s0, s1⟩
         go_simp
         with_reducible rfl
        rotate_left
        ·simp only [Act.put, List.setIfInBounds_toArray, List.set_cons_zero, List.set_cons_succ, i64_w, i32_w]
         rfl
        refine one_ (i := 6) (N := some 74) (bitsL 12 127) rfl rfl (one_of HT_.out (by kernel_rfl)) (by decide) (fun K hK => ?_)
        refine goes_ Tryd.func88 (by kernel_rfl) rfl #[.string (rdOf ByteArray.empty t463 1), .string (rdOf ByteArray.empty t463 2)] (by rfl) rfl rfl am ?_
        with_reducible refine (ew_octets.calls kj4 (rdOf ByteArray.empty t463 1) (rdOf ByteArray.empty t463 2) t478 t479 _ A26.out).mono ?_
        rintro e w31 ⟨rfl, hb⟩
        have HS0_ := (hb.cell (World.block_lt_of_cell? _ _ (hHeld.1))).trans (hHeld.1)
        have HS1_ := (hb.cell (World.block_lt_of_cell? _ _ (hHeld.2))).trans (hHeld.2)
        refine ⟨_, rfl, ?_⟩
        have n0_ := Aside0.mk (Kd.R_below (by (with_reducible repeat (first | apply Kd.R_alloc | apply Kd.R_drewN | apply Kd.R_drew)); exact HO_6.out) hb)
        have n1_ := Aside0.mk (below_step bw hb)
        clear HO_6
        clear HB
        have HO_6 := n0_
        have HB := n1_
        clear n0_ n1_
        (try clear hb)
        (try clear hb2)
        (try clear hk)
        (try clear hi)
        refine hK.out _ _ ⟨HS0_, HS1_⟩ (fun hHeld => ?_)
        clear hK K
        refine norm_ (a' := ?_) ?_ ?_
        rotate_left
        ·show Act.put _ (some 74) _ = _
         simp only [Act.put, List.setIfInBounds_toArray, List.set_cons_zero, List.set_cons_succ, i64_w, i32_w]
         rfl
        refine pure_ (i := 7) (N := some 67) (v := ?_) (a' := ?_) (bitsL 12 255) rfl rfl (any_of HT_.out (by kernel_rfl)) (fun _ _ _ h => h) (Or.inl ⟨by rfl, ?_⟩) ?_ ?_
        rotate_left
        ·intro w'
         go_simp
         with_reducible rfl
        rotate_left
        ·simp only [Act.put, List.setIfInBounds_toArray, List.set_cons_zero, List.set_cons_succ, i64_w, i32_w]
         rfl
        refine pure_ (i := 8) (N := some 75) (v := ?_) (a' := ?_) (bitsL 12 511) rfl rfl (any_of HT_.out (by kernel_rfl)) (fun _ _ _ h => h) (Or.inl ⟨by rfl, ?_⟩) ?_ ?_
        rotate_left
        ·intro w'
         go_simp
         with_reducible rfl
        rotate_left
        ·simp only [Act.put, List.setIfInBounds_toArray, List.set_cons_zero, List.set_cons_succ, i64_w, i32_w]
         rfl
        refine pure_ (i := 9) (N := some 76) (v := ?_) (a' := ?_) (bitsL 12 1023) rfl rfl (any_of HT_.out (by kernel_rfl)) (fun _ _ _ h => h) (Or.inl ⟨by rfl, ?_⟩) ?_ ?_
        rotate_left
        ·intro w'
         go_simp
         with_reducible rfl
        rotate_left
        ·simp only [Act.put, List.setIfInBounds_toArray, List.set_cons_zero, List.set_cons_succ, i64_w, i32_w]
         rfl
        refine pure_ (i := 10) (N := some 8) (v := ?_) (a' := ?_) (bitsL 12 2047) rfl rfl (any_of HT_.out (by kernel_rfl)) (fun _ _ _ h => h) (Or.inl ⟨by rfl, ?_⟩) ?_ ?_
        rotate_left
        ·intro w'
         go_simp
         with_reducible rfl
        rotate_left
        ·simp only [Act.put, List.setIfInBounds_toArray, List.set_cons_zero, List.set_cons_succ, i64_w, i32_w]
         rfl
        refine pure_ (i := 11) (N := some 5) (v := ?_) (a' := ?_) (bitsL 12 4095) rfl rfl (any_of HT_.out (by kernel_rfl)) (fun _ _ _ h => h) (Or.inl ⟨by rfl, ?_⟩) ?_ ?_
        rotate_left
        ·intro w'
         go_simp
         with_reducible rfl
        rotate_left
        ·simp only [Act.put, List.setIfInBounds_toArray, List.set_cons_zero, List.set_cons_succ, i64_w, i32_w]
         rfl
        refine done_ (done_of HT_.out (by kernel_rfl)) ?_
        go_upto_region 9 with (fail)
        go_cut [82] (fun v82 wc => ∃ (kq : Nat) (x82_26 : Bool), v82 = .bool x82_26 ∧ Aside0 (ew_word.j1 kq t463 (wrap64 ((wrap64 ((wrap64 ((wrap64 ((wrap64 ((wrap64 (2 + ((rdOf ByteArray.empty t463 0).size : Int))) + 1)) + ((rdOf ByteArray.empty t463 1).size : Int))) + 1)) + ((rdOf ByteArray.empty t463 2).size : Int))) + 2)) t478 x82_26 = some (r1, r2)) ∧ Aside0 (kq ≤ kj4) ∧ Aside0 (Kd.R Kd.string 9 wc w.heap.size (fun _ => True) (.slice (some ad473) t463.length co29) t463) ∧ Aside0 (Below w.heap.size w wc))
        case first =>
         have H := HC27.out
         clear HC27
         by_cases c32 : (wrap64 ((wrap64 ((wrap64 ((wrap64 ((wrap64 ((wrap64 (2 + ((rdOf ByteArray.empty t463 0).size : Int))) + 1)) + ((rdOf ByteArray.empty t463 1).size : Int))) + 1)) + ((rdOf ByteArray.empty t463 2).size : Int))) + 2)) > 75
         ·rw [if_pos c32] at H
          have c32b0 : decide (75 < (wrap64 ((wrap64 ((wrap64 ((wrap64 ((wrap64 ((wrap64 (2 + ((rdOf ByteArray.empty t463 0).size : Int))) + 1)) + ((rdOf ByteArray.empty t463 1).size : Int))) + 1)) + ((rdOf ByteArray.empty t463 2).size : Int))) + 2))) = true := decide_eq_true c32
          clear c32
          (first | rw [c32b0] | (simp only [i64_w, i32_w]; rw [c32b0]) | skip)
          have H' := Aside0.mk H
          clear H
          go_wp2
          go_meet
          case rel => exact ⟨_, (true), cl, H', ⟨by have := HJ4.out; first | omega | exact Nat.le_refl _⟩, ⟨by (with_reducible repeat (first | apply Kd.R_alloc | apply Kd.R_drewN | apply Kd.R_drew)); exact HO_6.out⟩, ⟨bw⟩⟩
         ·rw [if_neg c32] at H
          have c32b0 : decide (75 < (wrap64 ((wrap64 ((wrap64 ((wrap64 ((wrap64 ((wrap64 (2 + ((rdOf ByteArray.empty t463 0).size : Int))) + 1)) + ((rdOf ByteArray.empty t463 1).size : Int))) + 1)) + ((rdOf ByteArray.empty t463 2).size : Int))) + 2))) = false := decide_eq_false c32
          clear c32
          (first | rw [c32b0] | (simp only [i64_w, i32_w]; rw [c32b0]) | skip)
          have H' := Aside0.mk H
          clear H
          go_wp2
          go_meet
          case rel => exact ⟨_, (!t479), cl, H', ⟨by have := HJ4.out; first | omega | exact Nat.le_refl _⟩, ⟨by (with_reducible repeat (first | apply Kd.R_alloc | apply Kd.R_drewN | apply Kd.R_drew)); exact HO_6.out⟩, ⟨bw⟩⟩
        case rest =>
         clear HC27
         try clear c1
         try clear c2
         try clear p2
         try clear c3
         try clear c4
         try clear p4
         try clear q4
         try clear hx4
         try clear qi4
         try clear p6
         try clear c7
         try clear c7b0
         try clear c7b1
         try clear c8
         try clear c9
         try clear c9b0
         try clear c9b1
         try clear c10
         try clear c10b0
         try clear c10b1
         try clear c13
         try clear c14
         try clear c14b0
         try clear c14b1
         try clear c16
         try clear c17
         try clear c17b0
         try clear c17b1
         try clear c22
         try clear c23
         try clear c23b0
         try clear c23b1
         try clear c24
         try clear c24b0
         try clear c24b1
         try clear c25
         try clear c25b0
         try clear c25b1
         try clear c32
         try clear c32b0
         try clear hx466_0
         try clear hx467_0
         try clear hx469_0
         try clear hx471_0
         try clear hx473_0
         try clear hx474_0
         try clear hx475_0
         try clear hx476_0
         try clear hx477_0
         try clear p2
         try clear p4
         try clear p466
         try clear p467
         try clear p469
         try clear p471
         try clear p473
         try clear p474
         try clear p475
         try clear p476
         try clear p477
         try clear q4
         try clear q466
         try clear q467
         try clear q469
         try clear q471
         try clear q473
         try clear q474
         try clear q475
         try clear q476
         try clear q477
         obtain ⟨kq, x82_26, rfl, HA, HJ26, HO_6, HB⟩ := hcut
         cases kq with
         | zero => exact absurd HA.out (by simp [ew_word.j1])
         | succ kj26 =>
          have H := HA.out
          clear HA
          simp only [ew_word.j1] at H
          by_cases c33 : x82_26 = true
          ·subst c33
           have H1 : (some ((⟨#[]⟩ : ByteArray), 0)) = some (r1, r2) := by rw [if_pos rfl] at H; exact H
           clear H
           have H := H1
           clear H1
           simp only [Option.some.injEq, Prod.mk.injEq] at H
           obtain ⟨rfl, rfl⟩ := H
           go_wp2
           go_ret2
           exact ⟨by first | rfl | (simp [errW_none, errW_some] <;> rfl) | (simp [*, errW_none, errW_some] <;> rfl), bw⟩
          ·replace c33 := Bool.eq_false_iff.mpr c33
           subst c33
           have H1 : (if 0 < (t463.length : Int) then ((ew_signs.f (rdOf ByteArray.empty t463 0) t478).bind fun bt481 => (if bt481.2 = true then (some (bt481.1, (wrap64 ((wrap64 ((wrap64 ((wrap64 ((wrap64 ((wrap64 (2 + ((rdOf ByteArray.empty t463 0).size : Int))) + 1)) + ((rdOf ByteArray.empty t463 1).size : Int))) + 1)) + ((rdOf ByteArray.empty t463 2).size : Int))) + 2)))) else (some ((⟨#[]⟩ : ByteArray), 0)))) else (none)) = some (r1, r2) := by rw [if_neg (show ¬ (false = true) by decide)] at H; exact H
           clear H
           have H := H1
           clear H1
           by_cases c34 : 0 < (t463.length : Int)
           ·rw [if_pos c34] at H
            have c34b0 : decide (0 < (t463.length : Int)) = true := decide_eq_true c34
            have c34b1 : decide (0 < t463.length) = true := decide_eq_true (by omega)
            clear c34
            replace H := Option.bind_eq_some_iff.mp H
            obtain ⟨⟨t481, t482⟩, A350, H⟩ := H
            replace H : (if t482 = true then (some (t481, (wrap64 ((wrap64 ((wrap64 ((wrap64 ((wrap64 ((wrap64 (2 + ((rdOf ByteArray.empty t463 0).size : Int))) + 1)) + ((rdOf ByteArray.empty t463 1).size : Int))) + 1)) + ((rdOf ByteArray.empty t463 2).size : Int))) + 2)))) else (some ((⟨#[]⟩ : ByteArray), 0))) = some (r1, r2) := H
            have A35 := Aside0.mk A350
            clear A350
            by_cases c36 : t482 = true
            ·subst c36
             have H1 : (some (t481, (wrap64 ((wrap64 ((wrap64 ((wrap64 ((wrap64 ((wrap64 (2 + ((rdOf ByteArray.empty t463 0).size : Int))) + 1)) + ((rdOf ByteArray.empty t463 1).size : Int))) + 1)) + ((rdOf ByteArray.empty t463 2).size : Int))) + 2)))) = some (r1, r2) := by rw [if_pos rfl] at H; exact H
             clear H
             have H := H1
             clear H1
             simp only [Option.some.injEq, Prod.mk.injEq] at H
             obtain ⟨rfl, rfl⟩ := H
             have p480 : 0 ≤ (0 : Int) := (by omega)
             have q480 : 0 < (t463.length : Int) := od
             obtain ⟨ad480, e480, hx480_0⟩ := Kd.at_string (Kd.R_reads' HO_6.out).2.2 0 p480 q480
             obtain rfl : ad473 = ad480 := (by injection e480)
             have qi480 : (0 < t463.length) = True := eq_true (by omega)
             (try rw [show ((0 : Int)).toNat = 0 from rfl] at hx480_0)
             (try rw [Addr.add_zero'] at hx480_0)
             replace p480 := eq_true p480
             replace q480 := eq_true q480
             go_wp2_with (first | ((with_reducible refine gate_callee (f := 89) rfl ?_); refine goesL_ (some 88) rfl rfl Tryd.func89 (by kernel_rfl) rfl #[.string (rdOf ByteArray.empty t463 0), .string t478] rfl am ?_; (with_reducible refine (ew_signs.calls (hG := by first | exact hG | exact Glob.below hG (by first | exact HB.out | (repeat (first | (with_reducible first | exact HB.out | apply below_alloc | apply pw_below_drewN | apply below_drew1) | exact HB.out))) | exact Glob.drawn hG (by repeat (first | exact Drawn0.refl _ | apply Drawn0.step))) (rdOf ByteArray.empty t463 0) t478 t481 true _ A35.out).mono ?_); rintro e w37 ⟨rfl, hb⟩; refine ⟨_, rfl, ?_⟩; have n0_ := Aside0.mk (Kd.R_below (by (with_reducible repeat (first | apply Kd.R_alloc | apply Kd.R_drewN | apply Kd.R_drew)); exact HO_6.out) hb); have n1_ := Aside0.mk (below_step bw hb); clear HO_6; clear HB; have HO_6 := n0_; have HB := n1_; clear n0_ n1_; (try clear hb); (try clear hb2); (try clear hk); (try clear hi)))
             go_ret2
             exact ⟨by first | rfl | (simp [errW_none, errW_some] <;> rfl) | (simp [*, errW_none, errW_some] <;> rfl), bw⟩
            ·replace c36 := Bool.eq_false_iff.mpr c36
             subst c36
             have H1 : (some ((⟨#[]⟩ : ByteArray), 0)) = some (r1, r2) := by rw [if_neg (show ¬ (false = true) by decide)] at H; exact H
             clear H
             have H := H1
             clear H1
             simp only [Option.some.injEq, Prod.mk.injEq] at H
             obtain ⟨rfl, rfl⟩ := H
             have p480 : 0 ≤ (0 : Int) := (by omega)
             have q480 : 0 < (t463.length : Int) := od
             obtain ⟨ad480, e480, hx480_0⟩ := Kd.at_string (Kd.R_reads' HO_6.out).2.2 0 p480 q480
             obtain rfl : ad473 = ad480 := (by injection e480)
             have qi480 : (0 < t463.length) = True := eq_true (by omega)
             (try rw [show ((0 : Int)).toNat = 0 from rfl] at hx480_0)
             (try rw [Addr.add_zero'] at hx480_0)
             replace p480 := eq_true p480
             replace q480 := eq_true q480
             go_wp2_with (first | ((with_reducible refine gate_callee (f := 89) rfl ?_); refine goesL_ (some 88) rfl rfl Tryd.func89 (by kernel_rfl) rfl #[.string (rdOf ByteArray.empty t463 0), .string t478] rfl am ?_; (with_reducible refine (ew_signs.calls (hG := by first | exact hG | exact Glob.below hG (by first | exact HB.out | (repeat (first | (with_reducible first | exact HB.out | apply below_alloc | apply pw_below_drewN | apply below_drew1) | exact HB.out))) | exact Glob.drawn hG (by repeat (first | exact Drawn0.refl _ | apply Drawn0.step))) (rdOf ByteArray.empty t463 0) t478 t481 false _ A35.out).mono ?_); rintro e w38 ⟨rfl, hb⟩; refine ⟨_, rfl, ?_⟩; have n0_ := Aside0.mk (Kd.R_below (by (with_reducible repeat (first | apply Kd.R_alloc | apply Kd.R_drewN | apply Kd.R_drew)); exact HO_6.out) hb); have n1_ := Aside0.mk (below_step bw hb); clear HO_6; clear HB; have HO_6 := n0_; have HB := n1_; clear n0_ n1_; (try clear hb); (try clear hb2); (try clear hk); (try clear hi)))
             go_ret2
             exact ⟨by first | rfl | (simp [errW_none, errW_some] <;> rfl) | (simp [*, errW_none, errW_some] <;> rfl), bw⟩
           ·rw [if_neg c34] at H
            exact absurd H (by simp)
       ·rw [if_neg c25] at H
        exact absurd H (by simp)
      ·rw [if_neg c24] at H
       exact absurd H (by simp)
     ·rw [if_neg c23] at H
      exact absurd H (by simp)
 ·replace c3 := Bool.eq_false_iff.mpr c3
  subst c3
  have H1 : (some ((⟨#[]⟩ : ByteArray), 0)) = some (r1, r2) := by rw [if_neg (show ¬ (false = true) by decide)] at H; exact H
  clear H
  have H := H1
  clear H1
  simp only [Option.some.injEq, Prod.mk.injEq] at H
  obtain ⟨rfl, rfl⟩ := H
  go_enter Tryd.func44, Tryd.ntmps44
  go_wp2_with (first | ((with_reducible refine gate_callee (f := 85) rfl ?_); refine goesL_ (some 12) rfl rfl Tryd.func85 (by kernel_rfl) rfl #[.string a0, .string (⟨#[61, 63]⟩ : ByteArray)] rfl am ?_; (with_reducible refine (strings_CutPrefix.calls a0 (⟨#[61, 63]⟩ : ByteArray) t461 false _ A2.out).mono ?_); rintro e w' ⟨rfl, ⟨nd, rfl⟩⟩; refine ⟨_, rfl, ?_⟩))
  go_ret2
  exact ⟨by first | rfl | (simp [errW_none, errW_some] <;> rfl) | (simp [*, errW_none, errW_some] <;> rfl), bw⟩

end Go.Proofs.YtihabmcaplnbcaaDoor.Fn
set_option linter.unusedVariables false
set_option linter.unusedSimpArgs false
namespace Go.Proofs.YtihabmcaplnbcaaDoor.Pl
open Go.RowKit Go.Proofs.YtihabmcaplnbcaaDoorW.PrintWords Go.Proofs.YtihabmcaplnbcaaDoor.Fn

/-! Layers 18, 19: the program's Decode of letters, and its words. -/
def b64Z (c : UInt8) : Int := match b64V c with | none => -1 | some n => (n : Int)
theorem index_is (c : UInt8) : strings_IndexByte.f (⟨#[65, 66, 67, 68, 69, 70, 71, 72, 73, 74, 75, 76, 77, 78, 79, 80, 81, 82, 83, 84, 85, 86, 87, 88, 89, 90, 97, 98, 99, 100, 101, 102, 103, 104, 105, 106, 107, 108, 109, 110, 111, 112, 113, 114, 115, 116, 117, 118, 119, 120, 121, 122, 48, 49, 50, 51, 52, 53, 54, 55, 56, 57, 43, 47]⟩ : ByteArray) (c.toNat : Int) = some (b64Z c) :=
  forall_byte (p := fun c => strings_IndexByte.f (⟨#[65, 66, 67, 68, 69, 70, 71, 72, 73, 74, 75, 76, 77, 78, 79, 80, 81, 82, 83, 84, 85, 86, 87, 88, 89, 90, 97, 98, 99, 100, 101, 102, 103, 104, 105, 106, 107, 108, 109, 110, 111, 112, 113, 114, 115, 116, 117, 118, 119, 120, 121, 122, 48, 49, 50, 51, 52, 53, 54, 55, 56, 57, 43, 47]⟩ : ByteArray) (c.toNat : Int) = some (b64Z c)) (by decide +kernel) c
theorem b64V_lt {c : UInt8} {n : Nat} (h : b64V c = some n) : n < 64 := by
  have := forall_byte (p := fun c => ∀ n, b64V c = some n → n < 64) (by decide +kernel) c
  exact this n h
def resC (B : Bytes) : Option Bytes → ByteArray × Int
  | none => (⟨#[]⟩, 3)
  | some b => if b64P b = B then (str b, 0) else (⟨#[]⟩, 3)
theorem b64_step (h m v : Nat) (hm : m ≤ 6) (hh : v < 2 ^ (m + 8)) : shr .i64 (v : Int) (m : Int) % 256 = ((UInt8.ofNat (v / 2 ^ m)).toNat : Int) ∧ Go.bits .and .i64 (v : Int) (wrap64 ((shl .i64 1 (m : Int)) - 1)) = ((v % 2 ^ m : Nat) : Int) := by
  have hp : 2 ^ m ≤ 64 := Nat.pow_le_pow_right (n := 2) (by decide) hm
  have h8 : 2 ^ (m + 8) = 2 ^ m * 256 := by rw [Nat.pow_add]
  have h0 : 0 < 2 ^ m := Nat.two_pow_pos m
  have hpz : ((2 : Int) ^ m) = ((2 ^ m : Nat) : Int) := by simp
  have hb : min ((m : Int)).toNat IntKind.i64.bits = m := by
    rw [Int.toNat_natCast]
    exact Nat.min_eq_left (Nat.le_trans hm (by decide))
  have hv : v / 2 ^ m < 256 := Nat.div_lt_of_lt_mul (by rw [← h8]; exact hh)
  refine ⟨?_, ?_⟩
  · unfold shr
    rw [hb, hpz]
    have e : (UInt8.ofNat (v / 2 ^ m)).toNat = v / 2 ^ m := by simp; omega
    rw [e]
    omega
  · have e : wrap64 ((shl .i64 1 (m : Int)) - 1) = 2 ^ m - 1 := by
      unfold shl
      rw [hb, hpz, Int.one_mul, i64_small _ (by omega) (by omega), wrap_small (by omega) (by omega)]
    have hv2 : v < 16384 := by omega
    rw [e, and_i64 m _ (by omega) (by omega) (by omega)]
    simp
theorem b64_l0 (B : ByteArray) (hs : B.size ≤ 1000000000) (m : Nat) (hm : m ≤ B.size) : ∀ (rest : Bytes) (i k h n : Nat) (acc : Bytes), ((bs B).take m).drop i = rest → rest.length + 1 ≤ k → acc.length ≤ i → i ≤ m → (n = 0 ∨ n = 2 ∨ n = 4 ∨ n = 6) → h < 2 ^ n →
    b64_Decode.l0 k B (numsB acc) (h : Int) (n : Int) (m : Int) (i : Int) = some (resC (bs B) (b64D rest h n acc))
  | [], i, k, h, n, acc, hd, hk, ha, him, hn, hh => by
    obtain ⟨k, rfl⟩ : ∃ j, k = j + 1 := ⟨k - 1, by omega⟩
    have := drop_nil hd
    rw [List.length_take, bs_length] at this
    have hp : b64_Plain.f (str acc) = some (str (b64P acc)) := by
      unfold b64_Plain.f
      rw [if_pos (by rw [str_size]; omega), bs_str]
    rw [b64_Decode.l0, if_neg (by omega), nums_str, hp, Option.bind_some, toList_str, toList_bs, b64D]
    unfold resC
    simp only []
    split <;> rfl
  | c :: r, i, k, h, n, acc, hd, hk, ha, him, hn, hh => by
    obtain ⟨k, rfl⟩ : ∃ j, k = j + 1 := ⟨k - 1, by omega⟩
    obtain ⟨h1, h2, h3, h4⟩ := drop_cons hd
    rw [List.length_take, bs_length] at h1
    have hb : (bs B).drop i = c :: (bs B).drop (i + 1) := by
      have hi2 : i < (bs B).length := by rw [bs_length]; omega
      rw [List.drop_eq_getElem_cons hi2]
      congr 1
      rw [List.getElem?_take, if_pos (by omega), List.getElem?_eq_getElem hi2] at h2
      exact Option.some.inj h2
    rw [b64_Decode.l0, if_pos (by omega), if_pos (by omega), if_pos (by omega), bt_drop hb, index_is, Option.bind_some, b64D]
    cases hv : b64V c with
    | none =>
      have e : b64Z c = -1 := by unfold b64Z; rw [hv]
      rw [e, if_pos (by decide)]
      rfl
    | some q =>
      have hq := b64V_lt hv
      have e : b64Z c = (q : Int) := by unfold b64Z; rw [hv]
      have hh6 : h < 64 := Nat.lt_of_lt_of_le hh (by
        have := Nat.pow_le_pow_right (n := 2) (by decide) (show n ≤ 6 by omega)
        exact this)
      have hq0 : ¬ (q : Int) < 0 := by omega
      have hn6 : wrap64 ((n : Int) + 6) = (n : Int) + 6 := wrap_small (by omega) (by omega)
      have hor : Go.bits .or .i64 (wrap64 ((h : Int) * 64)) (q : Int) = ((h * 64 + q : Nat) : Int) := by
        rw [wrap_small (by omega) (by omega), or_i64 6 _ _ (by omega) (by omega) (by omega) (by omega) (by omega) (by omega)]
        omega
      rw [e, if_neg hq0, hor, hn6, Option.bind_some]
      clear hor hn6
      rcases hn with hn | hn
      · subst hn
        obtain rfl : h = 0 := by simpa using hh
        rw [if_neg (by omega), if_neg (by omega), wrap_succ i (by omega)]
        have := b64_l0 B hs m hm r (i + 1) k (0 * 64 + q) 6 acc h3 (by simp at hk; omega) (by omega) (by omega) (by omega) (by omega)
        simpa using this
      · have hn2 : 2 ≤ n ∧ n ≤ 6 := by omega
        have hlt : h * 64 + q < 2 ^ (n - 2 + 8) := by
          have e1 : 2 ^ (n - 2 + 8) = 2 ^ n * 64 := by rw [show n - 2 + 8 = n + 6 by omega, Nat.pow_add]
          rw [e1]
          omega
        have q1 : (n : Int) + 6 ≥ 8 := by omega
        have q2 : 8 ≤ n + 6 := by omega
        have q3 : (0 : Int) ≤ ((n - 2 : Nat) : Int) := by omega
        have q4 : (numsB acc).length < 140737488355328 := by rw [numsB_len]; omega
        have hs1 := (b64_step h (n - 2) (h * 64 + q) (by omega) hlt).1
        have hs2 := (b64_step h (n - 2) (h * 64 + q) (by omega) hlt).2
        have hw : wrap64 ((n : Int) + 6 - 8) = ((n - 2 : Nat) : Int) := by rw [wrap_small (by omega) (by omega)]; omega
        rw [if_pos q1, if_pos q2, hw, if_pos q3, if_pos q4, hs1, hs2, wrap_succ i (by omega), numsB_snoc]
        exact b64_l0 B hs m hm r (i + 1) k _ (n - 2) _ h3 (by simp at hk; omega) (by rw [List.length_append, List.length_singleton]; omega) (by omega) (by omega) (Nat.mod_lt _ (Nat.two_pow_pos _))
def resD : Option Bytes → ByteArray × Int
  | none => (⟨#[]⟩, 3)
  | some b => (str b, 0)
theorem trimR_prefix (l cs : Bytes) : Lib.trimRightS l cs = l.take (Lib.trimRightS l cs).length := by
  apply List.prefix_iff_eq_take.1
  unfold Lib.trimRightS
  have := List.reverse_prefix.2 (List.dropWhile_suffix (l := l.reverse) (cs.contains ·))
  rwa [List.reverse_reverse] at this
theorem b64Decode_is (s : ByteArray) (hs : s.size ≤ 1000000000) (k : Nat) (hk : s.size + 2 ≤ k) : b64_Decode.f k s = some (resD (b64L (bs s))) := by
  have hl : (bareL (bs s)).length ≤ s.size := by
    rw [← bs_length s]
    exact List.length_filter_le _ _
  have hz : (str (bareL (bs s))).size ≤ s.size := by rw [str_size]; exact hl
  have ht : strings_TrimRight.f (str (bareL (bs s))) ⟨#[61]⟩ = some (str (Lib.trimRightS (bareL (bs s)) [61])) := by
    unfold strings_TrimRight.f
    rw [if_pos (by omega), if_pos (by decide), if_pos (by decide)]
    show some (str (Lib.trimRightS (bs (str (bareL (bs s)))) [61])) = _
    rw [bs_str]
  have hle : (Lib.trimRightS (bareL (bs s)) [61]).length ≤ (bareL (bs s)).length := by
    rw [trimR_prefix, List.length_take]
    omega
  unfold b64_Decode.f
  rw [bare_is s hs k (by omega), Option.bind_some, ht, Option.bind_some, str_size]
  have := b64_l0 (str (bareL (bs s))) (by omega) (Lib.trimRightS (bareL (bs s)) [61]).length (by rw [str_size]; exact hle) (Lib.trimRightS (bareL (bs s)) [61]) 0 k 0 0 [] (by rw [bs_str, List.drop_zero, ← trimR_prefix]) (by omega) (by simp) (by omega) (by omega) (by decide)
  rw [show ([] : List Int) = numsB [] from rfl]
  refine this.trans ?_
  unfold b64L
  rw [bs_str]
  cases b64D (Lib.trimRightS (bareL (bs s)) [61]) 0 0 [] with
  | none => rfl
  | some b =>
    simp only [resC, Option.bind_some]
    split <;> rfl
theorem octets_is (a0 a1 : ByteArray) (hs : a1.size ≤ 1000000000) (k : Nat) (hk : a1.size + 5 ≤ k) : ew_octets.f k a0 a1 = some (resQ (octL (bs a0) (bs a1))) := by
  obtain ⟨k, rfl⟩ : ∃ j, k = j + 1 := ⟨k - 1, by omega⟩
  have hq := quoted_is a1 hs k (by omega)
  have hd := b64Decode_is a1 hs k (by omega)
  have hr : ∀ o : Option Bytes, ((resD o).1, (resD o).2 == 0) = resQ o := by
    intro o
    cases o <;> rfl
  unfold ew_octets.f octL
  rw [toList_bs]
  have hj : ∀ t, ew_octets.j0 (k + 1) a1 a0 t = if t = true then some (resQ (quotedL (bs a1))) else if bs a0 = [98] then some (resQ (b64L (bs a1))) else if bs a0 = [66] then some (resQ (b64L (bs a1))) else some (⟨#[]⟩, false) := by
    intro t
    rw [ew_octets.j0, hq, hd, toList_bs]
    simp only [Option.bind_some, hr]
  by_cases h1 : bs a0 = [113]
  · rw [if_pos h1, if_pos (.inl h1), hj, beq_iff_eq.2 h1, if_pos rfl]
  · rw [if_neg h1, hj]
    by_cases h2 : bs a0 = [81]
    · rw [beq_iff_eq.2 h2, if_pos rfl, if_pos (.inr h2)]
    · have h12 : ¬ (bs a0 = [113] ∨ bs a0 = [81]) := fun h => h.elim h1 h2
      rw [beq_eq_false_iff_ne.2 h2]
      simp only [Bool.false_eq_true, if_false]
      rw [if_neg h12]
      by_cases h3 : bs a0 = [98]
      · rw [if_pos h3, if_pos (.inl h3)]
      · rw [if_neg h3]
        by_cases h4 : bs a0 = [66]
        · rw [if_pos h4, if_pos (.inr h4)]
        · have h34 : ¬ (bs a0 = [98] ∨ bs a0 = [66]) := fun h => h.elim h3 h4
          rw [if_neg h4, if_neg h34]
          rfl
/-! Cut at the question marks. -/
theorem upQ_index : ∀ l : Bytes, (upQ l = none ∧ Lib.indexByte l 63 = -1) ∨ (∃ i : Nat, Lib.indexByte l 63 = i ∧ i < l.length ∧ upQ l = some (l.take i, l.drop (i + 1)))
  | [] => .inl ⟨rfl, rfl⟩
  | c :: l => by
    by_cases hc : c = 63
    · exact .inr ⟨0, by rw [Lib.indexByte, if_pos (beq_iff_eq.2 hc)]; rfl, by simp, by rw [upQ, if_pos hc]; rfl⟩
    · have hc' : ¬ (c == 63) = true := fun h => hc (beq_iff_eq.1 h)
      rcases upQ_index l with ⟨h1, h2⟩ | ⟨i, h1, h2, h3⟩
      · exact .inl ⟨by rw [upQ, if_neg hc, h1]; rfl, by rw [Lib.indexByte, if_neg hc', if_pos (by rw [h2]; rfl), ]⟩
      · refine .inr ⟨i + 1, ?_, by simp; omega, by rw [upQ, if_neg hc, h3]; rfl⟩
        rw [Lib.indexByte, if_neg hc', if_neg (by rw [h1, beq_iff_eq]; omega), h1]
        omega
def spL : Nat → Bytes → List Bytes
  | 0, l => [l]
  | n + 1, l => match upQ l with | none => [l] | some x => x.1 :: spL n x.2
theorem split_is : ∀ (n : Nat) (s : ByteArray), Lib.splitB ⟨#[63]⟩ 0 n s = (spL n (bs s)).map str
  | 0, s => by rw [Lib.splitB_zero, spL, List.map_singleton, str_bs]
  | n + 1, s => by
    have e : Lib.indexB s ⟨#[63]⟩ = Lib.indexByte (bs s) 63 := Lib.index_one (bs s) 63
    rcases upQ_index (bs s) with ⟨h1, h2⟩ | ⟨i, h1, h2, h3⟩
    · rw [Lib.splitB_miss _ _ _ _ (e.trans h2), spL, h1, List.map_singleton, str_bs]
    · rw [Lib.splitB_hit _ _ _ _ i (e.trans h1), spL, h3, split_is n]
      simp only [List.map_cons]
      congr 1
      · apply bs_inj
        rw [bs_extract, bs_str, List.drop_zero, Nat.add_zero]
      · rw [bs_extract, List.take_of_length_le (by rw [bs_length]; exact Nat.le_refl _)]
        rfl
theorem spL_len : ∀ (n : Nat) (l : Bytes), (spL n l).length ≤ n + 1
  | 0, l => Nat.le_refl _
  | n + 1, l => by
    rw [spL]
    cases upQ l with
    | none => simp
    | some x =>
      have := spL_len n x.2
      simp only [List.length_cons]
      omega
def resW : Option (Bytes × Nat) → ByteArray × Int
  | none => (⟨#[]⟩, 0)
  | some x => (str x.1, (x.2 : Int))
theorem sp_four (l : Bytes) : ((spL 3 l).length < 4 ∧ (upQ l).bind (fun a => (upQ a.2).bind fun k => upQ k.2) = none) ∨ (∃ a k t, upQ l = some a ∧ upQ a.2 = some k ∧ upQ k.2 = some t ∧ spL 3 l = [a.1, k.1, t.1, t.2]) := by
  cases h1 : upQ l with
  | none => exact .inl ⟨by simp [spL, h1], rfl⟩
  | some a =>
    cases h2 : upQ a.2 with
    | none => exact .inl ⟨by simp [spL, h1, h2], by simp [h2]⟩
    | some k =>
      cases h3 : upQ k.2 with
      | none => exact .inl ⟨by simp [spL, h1, h2, h3], by simp [h2, h3]⟩
      | some t => exact .inr ⟨a, k, t, rfl, h2, h3, by simp [spL, h1, h2, h3]⟩
theorem sp_few (n : Nat) (hn : n ≤ 2) (l : Bytes) (hl : l.length ≤ n) : (spL n l).length < 4 ∧ (upQ l).bind (fun a => (upQ a.2).bind fun k => upQ k.2) = none := by
  refine ⟨by have := spL_len n l; omega, ?_⟩
  cases h1 : upQ l with
  | none => rfl
  | some a =>
    have e1 := congrArg List.length (upQ_some h1)
    simp only [List.length_append, List.length_cons] at e1
    simp only [Option.bind_some]
    cases h2 : upQ a.2 with
    | none => rfl
    | some k =>
      have e2 := congrArg List.length (upQ_some h2)
      simp only [List.length_append, List.length_cons] at e2
      simp only [Option.bind_some]
      cases h3 : upQ k.2 with
      | none => rfl
      | some t =>
        have e3 := congrArg List.length (upQ_some h3)
        simp only [List.length_append, List.length_cons] at e3
        omega
end Go.Proofs.YtihabmcaplnbcaaDoor.Pl
