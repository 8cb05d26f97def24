/- A part of the proof of this sentence: How any boxes are written, and any name, are as the document has them, for every input; the tables of unicode/utf8 are as the program's text lays them. -/
import Derived.Test.YtbjbpgmjijeppaaDoorCMbxShows2
import Derived.Test.YtbjbpgmjijeppaaDoorRows
import Derived.HandedShaped
import Derived.LaidLaws
import Derived.LaidHandle
import Derived.Deep.DeepLaidRun
import Derived.Stop.Joined
import Derived.PinnedBridge
import Derived.Lib.LaidU8
import Derived.ProofKit
import Derived.RangeFuncSeq
set_option linter.unusedVariables false
namespace Go.Proofs.YtbjbpgmjijeppaaDoor.Pl
open Go.RowKit Go.Proofs.YtbjbpgmjijeppaaDoorW.PrintWords Go.Proofs.YtbjbpgmjijeppaaDoor.Fn

/-! Layer 12, the program's: its Scan is the same machine. -/
set_option maxRecDepth 100000 in
theorem lexsign_is (c : UInt8) : lex_sign.f (c.toNat : Int) = some (signB c) := forall_byte (p := fun c => lex_sign.f (c.toNat : Int) = some (signB c)) (by decide +kernel) c
set_option maxRecDepth 100000 in
theorem lexwhite_is (c : UInt8) : lex_white.f (c.toNat : Int) = some (whiteB c) := forall_byte (p := fun c => lex_white.f (c.toNat : Int) = some (whiteB c)) (by decide +kernel) c
set_option maxRecDepth 100000 in
theorem atomic_apart (c : UInt8) : atomic c = true → c ≠ 13 ∧ c ≠ 40 ∧ c ≠ 34 ∧ c ≠ 32 ∧ c ≠ 9 ∧ signB c = false := forall_byte (p := fun c => atomic c = true → c ≠ 13 ∧ c ≠ 40 ∧ c ≠ 34 ∧ c ≠ 32 ∧ c ≠ 9 ∧ signB c = false) (by decide +kernel) c
set_option maxRecDepth 100000 in
theorem white_apart (c : UInt8) : whiteB c = true → c ≠ 13 ∧ c ≠ 40 ∧ c ≠ 34 ∧ atomic c = false ∧ signB c = false := forall_byte (p := fun c => whiteB c = true → c ≠ 13 ∧ c ≠ 40 ∧ c ≠ 34 ∧ atomic c = false ∧ signB c = false) (by decide +kernel) c
theorem fold_not {c : UInt8} (h : c ≠ 13) (l : Bytes) : foldAt (c :: l) = false := by
  cases l with
  | nil => rfl
  | cons b l =>
    cases l with
    | nil => rfl
    | cons e l => simp only [foldAt]; simp [h]
theorem lexfold_is (s : ByteArray) (hs : s.size ≤ 1000000) : lex_fold.f s = some (foldAt (bs s)) := by
  have hlen := bs_length s
  unfold lex_fold.f
  cases hb : bs s with
  | nil =>
    rw [hb] at hlen
    simp only [List.length_nil] at hlen
    rw [if_neg (by omega)]; rfl
  | cons a l =>
    have h0 : (bs s).drop 0 = a :: l := by simpa using hb
    cases l with
    | nil =>
      rw [hb] at hlen
      simp only [List.length_cons, List.length_nil] at hlen
      rw [if_neg (by omega)]; rfl
    | cons b l =>
      have h1 : (bs s).drop 1 = b :: l := (drop_cons h0).2.2.1
      cases l with
      | nil =>
        rw [hb] at hlen
        simp only [List.length_cons, List.length_nil] at hlen
        rw [if_neg (by omega)]; rfl
      | cons c l =>
        have h2 : (bs s).drop 2 = c :: l := (drop_cons h1).2.2.1
        rw [hb] at hlen
        simp only [List.length_cons] at hlen
        have e0 : bt s 0 = (a.toNat : Int) := bt_drop h0
        have e1 : bt s 1 = (b.toNat : Int) := bt_drop h1
        have e2 : bt s 2 = (c.toNat : Int) := bt_drop h2
        rw [if_pos (by omega), if_pos (by omega), e0]
        by_cases a13 : a = 13
        · rw [if_pos (by rw [a13]; rfl), if_pos (by omega), e1]
          by_cases b10 : b = 10
          · rw [if_pos (by rw [b10]; rfl), if_pos (by omega), e2, lexwhite_is, a13, b10]
            simp [foldAt]
          · rw [if_neg (c := (b.toNat : Int) = 10) (fun h => b10 ((byte_ofNat b 10 (by decide)).1 h))]
            simp [foldAt, b10]
        · rw [if_neg (c := (a.toNat : Int) = 13) (fun h => a13 ((byte_ofNat a 13 (by decide)).1 h))]
          simp [foldAt, a13]
def escL : Bytes → Int
  | [] => 9
  | c :: _ => if text c = true then 0 else 3
theorem lexescaped_is (s : ByteArray) : lex_escaped.f s = some (escL (bs s)) := by
  unfold lex_escaped.f
  rw [toList_bs]
  cases hb : bs s with
  | nil => rw [if_pos rfl]; rfl
  | cons c l =>
    have hlen := bs_length s
    rw [hb] at hlen
    simp only [List.length_cons] at hlen
    have e0 : bt s 0 = (c.toNat : Int) := bt_drop (s := s) (i := 0) (by simpa using hb)
    rw [if_neg (by simp), if_pos (by omega), e0, text_is, Option.bind_some]
    show (if text c = true then some (0 : Int) else some 3) = some (if text c = true then 0 else 3)
    cases text c <;> rfl
theorem bs_rest (s : ByteArray) (i : Nat) : bs (s.extract i s.size) = (bs s).drop i := by
  rw [bs_extract, List.take_of_length_le (by rw [bs_length]; exact Nat.le_refl _)]
theorem str_rest (s : ByteArray) (i : Nat) : s.extract i s.size = str ((bs s).drop i) := by
  apply bs_inj
  rw [bs_rest, bs_str]
def QuotSays (s : ByteArray) (k i : Nat) (w l : Bytes) : Prop :=
  (∃ w' r, lex_quoted.l0 k s (numsOf w) (i : Int) = some (2, str w', str r, 0) ∧ r.length ≤ l.length ∧ ∀ acc, scanL acc (.quot w false) l = scanL (acc ++ [(2, w')]) .out r) ∨
  (∃ e, e ≠ 0 ∧ lex_quoted.l0 k s (numsOf w) (i : Int) = some (0, str [], str [], e) ∧ ∀ acc, scanL acc (.quot w false) l = ([], e))
theorem QuotSays.le {s : ByteArray} {k k' i i' : Nat} {w w' l l' : Bytes} (h : QuotSays s k i w l) (hk : lex_quoted.l0 k' s (numsOf w') (i' : Int) = lex_quoted.l0 k s (numsOf w) (i : Int)) (hl : l.length ≤ l'.length) (hs : ∀ acc, scanL acc (.quot w' false) l' = scanL acc (.quot w false) l) : QuotSays s k' i' w' l' := by
  rcases h with ⟨a, r, h1, h2, h3⟩ | ⟨e, h1, h2, h3⟩
  · exact .inl ⟨a, r, hk.trans h1, by omega, fun acc => (hs acc).trans (h3 acc)⟩
  · exact .inr ⟨e, h1, hk.trans h2, fun acc => (hs acc).trans (h3 acc)⟩
theorem lexquoted_l0 (s : ByteArray) (hs : s.size ≤ 1000000) : ∀ (n k i : Nat) (w l : Bytes), l.length ≤ n → n + 1 ≤ k → (bs s).drop i = l → i ≤ (bs s).length → w.length ≤ i → QuotSays s k i w l
  | n, k, i, w, [], hn, hk, hd, hi, hw => by
    obtain ⟨k, rfl⟩ : ∃ j, k = j + 1 := ⟨k - 1, by omega⟩
    have := drop_nil hd
    rw [bs_length] at this hi
    refine .inr ⟨9, by decide, ?_, fun acc => rfl⟩
    rw [lex_quoted.l0, if_neg (by omega)]
    rfl
  | 0, k, i, w, c :: l, hn, hk, hd, hi, hw => by simp at hn
  | n + 1, k, i, w, c :: l, hn, hk, hd, hi, hw => by
    obtain ⟨k, rfl⟩ : ∃ j, k = j + 1 := ⟨k - 1, by omega⟩
    obtain ⟨h1, h2, h3, h4⟩ := drop_cons hd
    have h5 : i < s.size := by rw [bs_length] at h1; exact h1
    simp only [List.length_cons] at hn
    have e1 : wrap64 ((i : Int) + 1) = ((i + 1 : Nat) : Int) := wrap_succ i (by omega)
    have e2 : wrap64 (wrap64 ((i : Int) + 1) + 1) = ((i + 2 : Nat) : Int) := by rw [e1, wrap_succ (i + 1) (by omega)]
    have hl0 : ∀ X : Option (Int × ByteArray × ByteArray × Int), X = lex_quoted.l0 (k + 1) s (numsOf w) (i : Int) → lex_quoted.l0 (k + 1) s (numsOf w) (i : Int) = X := fun X h => h.symm
    have hstart : lex_quoted.l0 (k + 1) s (numsOf w) (i : Int) = (if foldAt (c :: l) = true then (lex_quoted.l0 k s (numsOf w) ((i + 2 : Nat) : Int)) else (if (c.toNat : Int) = 92 then (if escL l = 0 then (lex_quoted.l0 k s (numsOf w ++ [bt s ((i + 1 : Nat) : Int)]) ((i + 2 : Nat) : Int)) else some (0, (⟨#[]⟩ : ByteArray), (⟨#[]⟩ : ByteArray), escL l)) else (if (c.toNat : Int) = 34 then some (2, strOfNums (numsOf w), str l, 0) else (if text c = true then lex_quoted.l0 k s (numsOf w ++ [(c.toNat : Int)]) ((i + 1 : Nat) : Int) else some (0, (⟨#[]⟩ : ByteArray), (⟨#[]⟩ : ByteArray), 3))))) := by
      rw [lex_quoted.l0, if_pos (by omega), if_pos (by omega), if_pos (by omega)]
      simp only [Int.toNat_natCast]
      rw [lexfold_is _ (by simp only [ByteArray.size_extract]; omega), bs_rest, hd, Option.bind_some]
      cases hf : foldAt (c :: l) with
      | true => rw [if_pos rfl, if_pos rfl, e2]
      | false =>
        rw [if_neg (c := false = true) (by decide), if_neg (c := false = true) (by decide), bt_drop hd]
        by_cases c92 : (c.toNat : Int) = 92
        · rw [if_pos c92, if_pos c92, e1, if_pos (by omega), if_pos (by omega)]
          simp only [Int.toNat_natCast]
          rw [lexescaped_is, bs_rest, h3, Option.bind_some]
          by_cases he : escL l = 0
          · rw [if_pos he, if_pos he]
            have hne : i + 1 < s.size := by
              rcases Nat.lt_or_ge (i + 1) s.size with q | q
              · exact q
              · have : l = [] := by rw [← h3]; exact List.drop_of_length_le (by rw [bs_length]; exact q)
                rw [this] at he; cases he
            rw [if_pos (by omega), if_pos (by rw [numsOf_length]; omega), wrap_succ (i + 1) (by omega)]
          · rw [if_neg he, if_neg he]
        · rw [if_neg c92, if_neg c92]
          by_cases c34 : (c.toNat : Int) = 34
          · rw [if_pos c34, if_pos c34, e1, if_pos (by omega), if_pos (by omega)]
            simp only [Int.toNat_natCast]
            rw [str_rest, h3]
          · rw [if_neg c34, if_neg c34, text_is, Option.bind_some]
            cases ht : text c with
            | true => rw [if_pos rfl, if_pos rfl, if_pos (by rw [numsOf_length]; omega), e1]
            | false => rw [if_neg (c := false = true) (by decide), if_neg (c := false = true) (by decide)]
    cases hf : foldAt (c :: l) with
    | true =>
      obtain ⟨t1, t2, t3⟩ := tail_drop hd hf
      rw [hf, if_pos rfl] at hstart
      refine (lexquoted_l0 s hs n k (i + 2) w l.tail (by omega) (by omega) t1 t2 (by omega)).le hstart (by simp; omega) (fun acc => ?_)
      rw [scanL_cons]
      unfold step
      simp only []
      rw [hf, if_pos rfl]
    | false =>
      rw [hf, if_neg (by decide)] at hstart
      by_cases c92 : c = 92
      · rw [if_pos (by rw [c92]; rfl)] at hstart
        have hst : ∀ acc, scanL acc (.quot w false) (c :: l) = scanL acc (.quot w true) l := by
          intro acc
          rw [scanL_cons]
          unfold step
          simp only []
          rw [hf, if_neg (by decide), if_pos c92]
        cases hl : l with
        | nil =>
          rw [hl] at hstart
          refine .inr ⟨9, by decide, hstart.trans rfl, fun acc => ?_⟩
          rw [← hl, hst, hl]
          rfl
        | cons x l2 =>
          have hdx : (bs s).drop (i + 1) = x :: l2 := by rw [h3, hl]
          obtain ⟨g1, g2, g3, g4⟩ := drop_cons hdx
          have hsx : ∀ acc, scanL acc (.quot w false) (c :: x :: l2) = if text x = true then scanL acc (.quot (w ++ [x]) false) l2 else ([], 3) := by
            intro acc
            rw [← hl, hst, hl, scanL_cons]
            unfold step
            cases text x <;> rfl
          rw [hl] at hstart hn
          simp only [List.length_cons] at hn
          cases ht : text x with
          | true =>
            rw [show escL (x :: l2) = 0 by show (if text x = true then (0 : Int) else 3) = 0; rw [ht]; rfl, if_pos rfl, bt_drop hdx, show numsOf w ++ [(x.toNat : Int)] = numsOf (w ++ [x]) by simp [numsOf]] at hstart
            refine (lexquoted_l0 s hs n k (i + 2) (w ++ [x]) l2 (by omega) (by omega) g3 (by omega) (by simp; omega)).le hstart (by simp; omega) (fun acc => ?_)
            rw [hsx, ht, if_pos rfl]
          | false =>
            rw [show escL (x :: l2) = 3 by show (if text x = true then (0 : Int) else 3) = 3; rw [ht]; rfl, if_neg (by decide)] at hstart
            exact .inr ⟨3, by decide, hstart, fun acc => by rw [hsx, ht]; rfl⟩
      · rw [if_neg (c := (c.toNat : Int) = 92) (fun h => c92 ((byte_ofNat c 92 (by decide)).1 h))] at hstart
        by_cases c34 : c = 34
        · rw [if_pos (by rw [c34]; rfl), strOfNums_of] at hstart
          refine .inl ⟨w, l, hstart, by simp, fun acc => ?_⟩
          rw [scanL_cons]
          unfold step
          simp only []
          rw [hf, if_neg (by decide), if_neg c92, if_pos (by rw [c34]; exact text_34), if_pos c34]
        · rw [if_neg (c := (c.toNat : Int) = 34) (fun h => c34 ((byte_ofNat c 34 (by decide)).1 h))] at hstart
          cases ht : text c with
          | true =>
            rw [ht, if_pos rfl, show numsOf w ++ [(c.toNat : Int)] = numsOf (w ++ [c]) by simp [numsOf]] at hstart
            refine (lexquoted_l0 s hs n k (i + 1) (w ++ [c]) l (by omega) (by omega) h3 (by omega) (by simp; omega)).le hstart (by simp) (fun acc => ?_)
            rw [scanL_cons]
            unfold step
            simp only []
            rw [hf, ht, if_neg (by decide), if_neg c92, if_pos rfl, if_neg c34]
          | false =>
            rw [ht, if_neg (by decide)] at hstart
            refine .inr ⟨3, by decide, hstart, fun acc => ?_⟩
            rw [scanL_cons]
            unfold step
            simp only []
            rw [hf, ht, if_neg (by decide), if_neg c92, if_neg (by decide)]

def CommSays (s : ByteArray) (k i m : Nat) (l : Bytes) : Prop :=
  (∃ r, lex_comment.l0 k s (m : Int) (i : Int) = some (str r, 0) ∧ r.length ≤ l.length ∧ ∀ acc, scanL acc (.comm m false) l = scanL acc .out r) ∨
  (∃ e, e ≠ 0 ∧ lex_comment.l0 k s (m : Int) (i : Int) = some (str [], e) ∧ ∀ acc, scanL acc (.comm m false) l = ([], e))
theorem CommSays.le {s : ByteArray} {k k' i i' m m' : Nat} {l l' : Bytes} (h : CommSays s k i m l) (hk : lex_comment.l0 k' s (m' : Int) (i' : Int) = lex_comment.l0 k s (m : Int) (i : Int)) (hl : l.length ≤ l'.length) (hs : ∀ acc, scanL acc (.comm m' false) l' = scanL acc (.comm m false) l) : CommSays s k' i' m' l' := by
  rcases h with ⟨r, h1, h2, h3⟩ | ⟨e, h1, h2, h3⟩
  · exact .inl ⟨r, hk.trans h1, by omega, fun acc => (hs acc).trans (h3 acc)⟩
  · exact .inr ⟨e, h1, hk.trans h2, fun acc => (hs acc).trans (h3 acc)⟩
theorem text_40 : text 40 = true := by decide +kernel
theorem text_41 : text 41 = true := by decide +kernel
theorem lexcomment_l0 (s : ByteArray) (hs : s.size ≤ 1000000) : ∀ (n k i m : Nat) (l : Bytes), l.length ≤ n → 3 * n + 3 ≤ k → (bs s).drop i = l → i ≤ (bs s).length → 1 ≤ m → m ≤ 16 → CommSays s k i m l
  | n, k, i, m, [], hn, hk, hd, hi, hm1, hm2 => by
    obtain ⟨k, rfl⟩ : ∃ j, k = j + 1 := ⟨k - 1, by omega⟩
    have := drop_nil hd
    rw [bs_length] at this hi
    refine .inr ⟨9, by decide, ?_, fun acc => rfl⟩
    rw [lex_comment.l0, if_neg (by omega), if_pos (by omega)]
    rfl
  | 0, k, i, m, c :: l, hn, hk, hd, hi, hm1, hm2 => by simp at hn
  | n + 1, k, i, m, c :: l, hn, hk, hd, hi, hm1, hm2 => by
    obtain ⟨k, rfl⟩ : ∃ j, k = j + 3 := ⟨k - 3, by omega⟩
    obtain ⟨h1, h2, h3, h4⟩ := drop_cons hd
    have h5 : i < s.size := by rw [bs_length] at h1; exact h1
    simp only [List.length_cons] at hn
    have e1 : wrap64 ((i : Int) + 1) = ((i + 1 : Nat) : Int) := wrap_succ i (by omega)
    have e2 : wrap64 (wrap64 ((i : Int) + 1) + 1) = ((i + 2 : Nat) : Int) := by rw [e1, wrap_succ (i + 1) (by omega)]
    have hstart : lex_comment.l0 (k + 3) s (m : Int) (i : Int) = (if foldAt (c :: l) = true then (lex_comment.l0 (k + 2) s (m : Int) ((i + 2 : Nat) : Int)) else (if (c.toNat : Int) = 92 then (if escL l = 0 then (lex_comment.l0 (k + 2) s (m : Int) ((i + 2 : Nat) : Int)) else some ((⟨#[]⟩ : ByteArray), escL l)) else (if (c.toNat : Int) = 40 then lex_comment.j1 (k + 2) s (m : Int) (i : Int) (c.toNat : Int) ((m : Int) == 16) else lex_comment.j1 (k + 2) s (m : Int) (i : Int) (c.toNat : Int) false))) := by
      rw [lex_comment.l0, if_pos (by omega), if_pos (by omega), if_pos (by omega)]
      simp only [Int.toNat_natCast]
      rw [lexfold_is _ (by simp only [ByteArray.size_extract]; omega), bs_rest, hd, Option.bind_some]
      cases hf : foldAt (c :: l) with
      | true => rw [if_pos rfl, if_pos rfl, e2]
      | false =>
        rw [if_neg (c := false = true) (by decide), if_neg (c := false = true) (by decide), bt_drop hd]
        by_cases c92 : (c.toNat : Int) = 92
        · rw [if_pos c92, if_pos c92, e1, if_pos (by omega), if_pos (by omega)]
          simp only [Int.toNat_natCast]
          rw [lexescaped_is, bs_rest, h3, Option.bind_some, wrap_succ (i + 1) (by omega)]
        · rw [if_neg c92, if_neg c92]
    cases hf : foldAt (c :: l) with
    | true =>
      obtain ⟨t1, t2, t3⟩ := tail_drop hd hf
      rw [hf, if_pos rfl] at hstart
      refine (lexcomment_l0 s hs n (k + 2) (i + 2) m l.tail (by omega) (by omega) t1 t2 hm1 hm2).le hstart (by simp; omega) (fun acc => ?_)
      rw [scanL_cons]
      unfold step
      simp only []
      rw [hf, if_pos rfl]
    | false =>
      rw [hf, if_neg (by decide)] at hstart
      by_cases c92 : c = 92
      · rw [if_pos (by rw [c92]; rfl)] at hstart
        have hst : ∀ acc, scanL acc (.comm m false) (c :: l) = scanL acc (.comm m true) l := by
          intro acc
          rw [scanL_cons]
          unfold step
          simp only []
          rw [hf, if_neg (by decide), if_pos c92]
        cases hl : l with
        | nil =>
          rw [hl] at hstart
          refine .inr ⟨9, by decide, hstart.trans rfl, fun acc => ?_⟩
          rw [← hl, hst, hl]
          rfl
        | cons x l2 =>
          have hdx : (bs s).drop (i + 1) = x :: l2 := by rw [h3, hl]
          obtain ⟨g1, g2, g3, g4⟩ := drop_cons hdx
          have hsx : ∀ acc, scanL acc (.comm m false) (c :: x :: l2) = if text x = true then scanL acc (.comm m false) l2 else ([], 3) := by
            intro acc
            rw [← hl, hst, hl, scanL_cons]
            unfold step
            cases text x <;> rfl
          rw [hl] at hstart hn
          simp only [List.length_cons] at hn
          cases ht : text x with
          | true =>
            rw [show escL (x :: l2) = 0 by show (if text x = true then (0 : Int) else 3) = 0; rw [ht]; rfl, if_pos rfl] at hstart
            refine (lexcomment_l0 s hs n (k + 2) (i + 2) m l2 (by omega) (by omega) g3 (by omega) hm1 hm2).le hstart (by simp; omega) (fun acc => ?_)
            rw [hsx, ht, if_pos rfl]
          | false =>
            rw [show escL (x :: l2) = 3 by show (if text x = true then (0 : Int) else 3) = 3; rw [ht]; rfl, if_neg (by decide)] at hstart
            exact .inr ⟨3, by decide, hstart, fun acc => by rw [hsx, ht]; rfl⟩
      · rw [if_neg (c := (c.toNat : Int) = 92) (fun h => c92 ((byte_ofNat c 92 (by decide)).1 h))] at hstart
        have hst : text c = true → ∀ acc, scanL acc (.comm m false) (c :: l) = (match commAfter acc (if c = 40 then m + 1 else if c = 41 then m - 1 else m) l with | .inl (a, t, r) => scanL a t r | .inr e => ([], e)) := by
          intro ht acc
          rw [scanL_cons]
          unfold step
          simp only []
          rw [hf, ht, if_neg (by decide), if_neg c92, if_pos rfl]
          all_goals rfl
        by_cases c40 : c = 40
        · have ht : text c = true := by rw [c40]; exact text_40
          rw [if_pos (by rw [c40]; rfl), lex_comment.j1] at hstart
          by_cases h16 : m = 16
          · rw [show ((m : Int) == 16) = true by rw [h16]; rfl, if_pos rfl] at hstart
            refine .inr ⟨1, by decide, hstart, fun acc => ?_⟩
            rw [hst ht, if_pos c40]
            unfold commAfter
            rw [if_pos (by omega)]
          · rw [show ((m : Int) == 16) = false by rw [beq_eq_false_iff_ne]; omega, if_neg (by decide), if_pos (by rw [c40]; rfl), e1, wrap_id (by omega) (by omega), show ((m : Int) + 1) = ((m + 1 : Nat) : Int) by omega] at hstart
            refine (lexcomment_l0 s hs n (k + 1) (i + 1) (m + 1) l (by omega) (by omega) h3 (by omega) (by omega) (by omega)).le hstart (by simp) (fun acc => ?_)
            rw [hst ht, if_pos c40]
            unfold commAfter
            rw [if_neg (by omega), if_neg (by omega)]
        · rw [if_neg (c := (c.toNat : Int) = 40) (fun h => c40 ((byte_ofNat c 40 (by decide)).1 h)), lex_comment.j1, if_neg (by decide), if_neg (c := (c.toNat : Int) = 40) (fun h => c40 ((byte_ofNat c 40 (by decide)).1 h))] at hstart
          by_cases c41 : c = 41
          · have ht : text c = true := by rw [c41]; exact text_41
            rw [if_pos (by rw [c41]; rfl), lex_comment.j2] at hstart
            by_cases h1' : m = 1
            · rw [show ((m : Int) == 1) = true by rw [h1']; rfl, if_pos rfl, e1, if_pos (by omega), if_pos (by omega), if_neg (by decide)] at hstart
              simp only [Int.toNat_natCast] at hstart
              rw [str_rest, h3] at hstart
              refine .inl ⟨l, hstart, by simp, fun acc => ?_⟩
              rw [hst ht, if_neg c40, if_pos c41, h1']
              rfl
            · rw [show ((m : Int) == 1) = false by rw [beq_eq_false_iff_ne]; omega, if_neg (by decide), if_pos (by rw [c41]; rfl), e1, wrap_id (by omega) (by omega), show ((m : Int) - 1) = ((m - 1 : Nat) : Int) by omega] at hstart
              refine (lexcomment_l0 s hs n k (i + 1) (m - 1) l (by omega) (by omega) h3 (by omega) (by omega) (by omega)).le hstart (by simp) (fun acc => ?_)
              rw [hst ht, if_neg c40, if_pos c41]
              unfold commAfter
              rw [if_neg (by omega), if_neg (by omega)]
          · rw [if_neg (c := (c.toNat : Int) = 41) (fun h => c41 ((byte_ofNat c 41 (by decide)).1 h)), lex_comment.j2, if_neg (by decide), if_neg (c := (c.toNat : Int) = 41) (fun h => c41 ((byte_ofNat c 41 (by decide)).1 h)), text_is, Option.bind_some] at hstart
            cases ht : text c with
            | true =>
              rw [ht, if_pos rfl, e1] at hstart
              refine (lexcomment_l0 s hs n k (i + 1) m l (by omega) (by omega) h3 (by omega) hm1 hm2).le hstart (by simp) (fun acc => ?_)
              rw [hst ht, if_neg c40, if_neg c41]
              unfold commAfter
              rw [if_neg (by omega), if_neg (by omega)]
            | false =>
              rw [ht, if_neg (by decide)] at hstart
              refine .inr ⟨3, by decide, hstart, fun acc => ?_⟩
              rw [scanL_cons]
              unfold step
              simp only []
              rw [hf, ht, if_neg (by decide), if_neg c92, if_neg (by decide)]

theorem lexatom_l0 (s : ByteArray) (hs : s.size ≤ 1000000) : ∀ (n k i : Nat) (l : Bytes), l.length ≤ n → n + 1 ≤ k → (bs s).drop i = l → i ≤ (bs s).length → 1 ≤ i →
    ∃ j, i ≤ j ∧ j ≤ (bs s).length ∧ lex_next.l0 k s (i : Int) = some (1, str ((bs s).take j), str ((bs s).drop j), 0) ∧ ∀ acc, scanL acc (.atom ((bs s).take i)) l = scanL (acc ++ [(1, (bs s).take j)]) .out ((bs s).drop j)
  | n, k, i, [], hn, hk, hd, hi, h1 => by
    obtain ⟨k, rfl⟩ : ∃ j, k = j + 1 := ⟨k - 1, by omega⟩
    have := drop_nil hd
    have hl := bs_length s
    refine ⟨i, Nat.le_refl _, hi, ?_, fun acc => by rw [hd]; rfl⟩
    rw [lex_next.l0, if_neg (by omega), if_neg (by omega), if_pos (by omega), if_pos (by omega)]
    simp only [Int.toNat_natCast]
    rw [str_rest, show s.extract 0 i = str ((bs s).take i) by apply bs_inj; rw [bs_extract, bs_str, List.drop_zero]]
  | 0, k, i, c :: l, hn, hk, hd, hi, h1 => by simp at hn
  | n + 1, k, i, c :: l, hn, hk, hd, hi, h0 => by
    obtain ⟨k, rfl⟩ : ∃ j, k = j + 1 := ⟨k - 1, by omega⟩
    obtain ⟨h1, h2, h3, h4⟩ := drop_cons hd
    have h5 : i < s.size := by rw [bs_length] at h1; exact h1
    simp only [List.length_cons] at hn
    cases ha : atomic c with
    | true =>
      obtain ⟨j, q1, q2, q3, q4⟩ := lexatom_l0 s hs n k (i + 1) l (by omega) (by omega) h3 (by omega) (by omega)
      refine ⟨j, by omega, q2, ?_, fun acc => ?_⟩
      · rw [lex_next.l0, if_pos (by omega), if_pos (by omega), bt_drop hd, atomic_is, Option.bind_some, ha, if_pos rfl, wrap_succ i (by omega)]
        exact q3
      · rw [scanL_cons]
        unfold step
        simp only []
        rw [ha, if_pos rfl, ← h4]
        exact q4 acc
    | false =>
      refine ⟨i, Nat.le_refl _, by omega, ?_, fun acc => ?_⟩
      · rw [lex_next.l0, if_pos (by omega), if_pos (by omega), bt_drop hd, atomic_is, Option.bind_some, ha, if_neg (by decide), if_neg (by omega), if_pos (by omega)]
        simp only [Int.toNat_natCast]
        rw [str_rest, show s.extract 0 i = str ((bs s).take i) by apply bs_inj; rw [bs_extract, bs_str, List.drop_zero]]
      · rw [hd, scanL_cons, scanL_cons]
        unfold step
        simp only []
        rw [ha, if_neg (by decide)]
theorem wrap_01 : wrap64 ((0 : Int) + 1) = ((1 : Nat) : Int) := wrap_succ 0 (by decide)
theorem lexnext_is (s : ByteArray) (hs : s.size ≤ 1000000) (c : UInt8) (l : Bytes) (hb : bs s = c :: l) (k : Nat) (hk : 3 * s.size + 10 ≤ k) :
    (∃ (kd : Int) (t r : Bytes), lex_next.f k s = some (kd, str t, str r, 0) ∧ r.length ≤ l.length ∧ ∀ acc, scanL acc .out (c :: l) = scanL (if kd = 0 then acc else acc ++ [(kd, t)]) .out r) ∨
    (∃ (kd : Int) (t : Bytes) (r : ByteArray) (e : Int), e ≠ 0 ∧ lex_next.f k s = some (kd, str t, r, e) ∧ ∀ acc, scanL acc .out (c :: l) = ([], e)) := by
  have hlen := bs_length s
  rw [hb] at hlen
  simp only [List.length_cons] at hlen
  have hd : (bs s).drop 0 = c :: l := by rw [hb]; rfl
  have hd1 : (bs s).drop 1 = l := (drop_cons hd).2.2.1
  have hbt : bt s 0 = (c.toNat : Int) := bt_drop hd
  have eE : s.extract 1 s.size = str l := by rw [str_rest, hd1]
  have hsc : ∀ acc, scanL acc .out (c :: l) = (match stepOut acc c l with | .inl (a, t, r) => scanL a t r | .inr e => ([], e)) := by
    intro acc
    rw [scanL_cons]
    rfl
  have hout : ∀ (a b d e f g : Bool), foldAt (c :: l) = a → atomic c = b → signB c = f → whiteB c = g → ∀ acc, stepOut acc c l = if a = true then .inl (acc, .out, l.tail) else if b = true then .inl (acc, .atom [c], l) else if c = 34 then .inl (acc, .quot [] false, l) else if c = 40 then .inl (acc, .comm 1 false, l) else if f = true then .inl (acc ++ [(3, [c])], .out, l) else if g = true then .inl (acc, .out, l) else .inr 3 := by
    intro a b d e f g h1 h2 h3 h4 acc
    unfold stepOut
    rw [h1, h2, h3, h4]
  unfold lex_next.f
  rw [if_pos (by omega), hbt, lexwhite_is, Option.bind_some]
  cases hw : whiteB c with
  | true =>
    obtain ⟨n13, n40, n34, na, ns⟩ := white_apart c hw
    have hf := fold_not n13 l
    rw [if_pos rfl, if_pos (by omega), eE]
    refine .inl ⟨0, [], l, rfl, Nat.le_refl _, fun acc => ?_⟩
    rw [hsc, hout false false false false false true hf na ns hw, if_neg (by decide), if_neg (by decide), if_neg n34, if_neg n40, if_neg (by decide), if_pos rfl, if_pos rfl]
  | false =>
    rw [if_neg (by decide), lexfold_is s hs, Option.bind_some, hb]
    cases hf : foldAt (c :: l) with
    | true =>
      obtain ⟨t1, t2, t3⟩ := tail_drop hd hf
      rw [bs_length] at t2
      rw [if_pos rfl, if_pos (by omega), show s.extract 2 s.size = str l.tail by rw [str_rest]; congr 1]
      refine .inl ⟨0, [], l.tail, rfl, by simp, fun acc => ?_⟩
      rw [hsc, hout true _ false false _ _ hf rfl rfl rfl, if_pos rfl, if_pos rfl]
    | false =>
      rw [if_neg (c := false = true) (by decide)]
      by_cases c40 : c = 40
      · have na : atomic c = false := by rw [c40]; decide +kernel
        rw [if_pos (by rw [c40]; rfl)]
        obtain ⟨k, rfl⟩ : ∃ j, k = j + 2 := ⟨k - 2, by omega⟩
        have hcm : lex_comment.f (k + 2) s = lex_comment.l0 k s ((1 : Nat) : Int) ((1 : Nat) : Int) := by
          unfold lex_comment.f
          rw [lex_comment.l0, if_pos (by omega), if_pos (by decide), if_pos (by omega), show s.extract (0 : Int).toNat s.size = s from extract_all s, lexfold_is s hs, hb, hf, Option.bind_some, if_neg (by decide), hbt, if_neg (c := (c.toNat : Int) = 92) (by rw [c40]; decide), if_pos (by rw [c40]; rfl), show ((0 : Int) == 16) = false from rfl, lex_comment.j1, if_neg (by decide), if_pos (by rw [c40]; rfl), wrap_01]
        rw [hcm]
        have hso : ∀ acc, scanL acc .out (c :: l) = scanL acc (.comm 1 false) l := by
          intro acc
          rw [hsc, hout false false false false _ _ hf na rfl rfl, if_neg (by decide), if_neg (by decide), if_neg (by rw [c40]; decide), if_pos c40]
        rcases lexcomment_l0 s hs l.length k 1 1 l (Nat.le_refl _) (by omega) hd1 (by rw [hb]; simp) (by decide) (by decide) with ⟨r, h1, h2, h3⟩ | ⟨e, h1, h2, h3⟩
        · rw [h1]
          exact .inl ⟨0, [], r, rfl, h2, fun acc => by rw [hso, h3, if_pos rfl]⟩
        · rw [h2]
          exact .inr ⟨0, [], str [], e, h1, rfl, fun acc => by rw [hso, h3]⟩
      · rw [if_neg (c := (c.toNat : Int) = 40) (fun h => c40 ((byte_ofNat c 40 (by decide)).1 h))]
        by_cases c34 : c = 34
        · have na : atomic c = false := by rw [c34]; decide +kernel
          rw [if_pos (by rw [c34]; rfl)]
          have hso : ∀ acc, scanL acc .out (c :: l) = scanL acc (.quot [] false) l := by
            intro acc
            rw [hsc, hout false false false false _ _ hf na rfl rfl, if_neg (by decide), if_neg (by decide), if_pos c34]
          rcases lexquoted_l0 s hs l.length k 1 [] l (Nat.le_refl _) (by omega) hd1 (by rw [hb]; simp) (by simp) with ⟨w', r, h1, h2, h3⟩ | ⟨e, h1, h2, h3⟩
          · rw [show lex_quoted.f k s = lex_quoted.l0 k s (numsOf []) ((1 : Nat) : Int) from rfl, h1]
            exact .inl ⟨2, w', r, rfl, h2, fun acc => by rw [hso, h3, if_neg (by decide)]⟩
          · rw [show lex_quoted.f k s = lex_quoted.l0 k s (numsOf []) ((1 : Nat) : Int) from rfl, h2]
            exact .inr ⟨0, [], str [], e, h1, rfl, fun acc => by rw [hso, h3]⟩
        · rw [if_neg (c := (c.toNat : Int) = 34) (fun h => c34 ((byte_ofNat c 34 (by decide)).1 h)), lexsign_is, Option.bind_some]
          cases hsg : signB c with
          | true =>
            have na : atomic c = false := by
              cases ha : atomic c with
              | false => rfl
              | true => have := (atomic_apart c ha).2.2.2.2.2; rw [hsg] at this; cases this
            rw [if_pos rfl, if_pos (by decide), if_pos (by omega), eE, show s.extract 0 1 = str [c] from extract_one (i := 0) hd]
            refine .inl ⟨3, [c], l, rfl, Nat.le_refl _, fun acc => ?_⟩
            rw [hsc, hout false false false false true false hf na hsg hw, if_neg (by decide), if_neg (by decide), if_neg c34, if_neg c40, if_pos rfl, if_neg (by decide)]
          | false =>
            rw [if_neg (c := false = true) (by decide)]
            obtain ⟨k, rfl⟩ : ∃ j, k = j + 1 := ⟨k - 1, by omega⟩
            cases ha : atomic c with
            | false =>
              rw [lex_next.l0, if_pos (by omega), if_pos (by decide), hbt, atomic_is, ha, Option.bind_some, if_neg (by decide), if_pos rfl]
              refine .inr ⟨0, [], _, 3, by decide, rfl, fun acc => ?_⟩
              rw [hsc, hout false false false false false false hf ha hsg hw, if_neg (by decide), if_neg (by decide), if_neg c34, if_neg c40, if_neg (by decide), if_neg (by decide)]
            | true =>
              rw [lex_next.l0, if_pos (by omega), if_pos (by decide), hbt, atomic_is, ha, Option.bind_some, if_pos rfl, wrap_01]
              obtain ⟨j, q1, q2, q3, q4⟩ := lexatom_l0 s hs l.length k 1 l (Nat.le_refl _) (by omega) hd1 (by rw [hb]; simp) (by decide)
              rw [q3]
              refine .inl ⟨1, _, _, rfl, ?_, fun acc => ?_⟩
              · rw [hb]
                simp only [List.length_drop, List.length_cons]
                omega
              · rw [hsc, hout false true false false _ _ hf ha rfl rfl, if_neg (by decide), if_pos rfl, if_neg (by decide), ← q4 acc, hb]
                rfl
def tok142 (t : Tok) : S98 := ⟨t.1, str t.2⟩
theorem lexScan_l0 : ∀ (n k : Nat) (s : ByteArray) (acc : List Tok), s.size ≤ n → s.size ≤ 1000000 → 4 * n + 20 ≤ k → acc.length + s.size ≤ 1000000 →
    lex_Scan.l0 k s (acc.map tok142) = some ((scanL acc .out (bs s)).1.map tok142, (scanL acc .out (bs s)).2)
  | n, k, s, acc, hn, hs, hk, ha => by
    obtain ⟨k, rfl⟩ : ∃ j, k = j + 1 := ⟨k - 1, by omega⟩
    have hlen := bs_length s
    rw [lex_Scan.l0, toList_bs]
    cases hb : bs s with
    | nil => rw [if_pos rfl]; rfl
    | cons c l =>
      rw [hb] at hlen
      simp only [List.length_cons] at hlen
      obtain ⟨n, rfl⟩ : ∃ j, n = j + 1 := ⟨n - 1, by omega⟩
      rw [if_neg (by simp)]
      rcases lexnext_is s hs c l hb k (by omega) with ⟨kd, t, r, h1, h2, h3⟩ | ⟨kd, t, r, e, h0, h1, h3⟩
      · rw [h1, Option.bind_some, if_pos rfl, h3]
        by_cases hkd : kd = 0
        · rw [if_pos hkd, if_pos hkd, lexScan_l0 n k (str r) acc (by rw [str_size]; omega) (by rw [str_size]; omega) (by omega) (by rw [str_size]; omega), bs_str]
        · rw [if_neg hkd, if_neg hkd, if_pos (by rw [List.length_map]; omega), show acc.map tok142 ++ [(⟨kd, str t⟩ : S98)] = (acc ++ [(kd, t)]).map tok142 by simp [tok142],
            lexScan_l0 n k (str r) (acc ++ [(kd, t)]) (by rw [str_size]; omega) (by rw [str_size]; omega) (by omega) (by rw [str_size]; simp; omega), bs_str]
      · rw [h1, Option.bind_some, if_neg h0, h3]
        rfl
theorem lexScan_is (s : ByteArray) (hs : s.size ≤ 1000000) (k : Nat) (hk : 4 * s.size + 20 ≤ k) : lex_Scan.f k s = some ((scanL [] .out (bs s)).1.map tok142, (scanL [] .out (bs s)).2) := by
  have := lexScan_l0 s.size k s [] (Nat.le_refl _) hs hk (by simpa using hs)
  unfold lex_Scan.f
  exact this
end Go.Proofs.YtbjbpgmjijeppaaDoor.Pl
set_option linter.unusedVariables false
set_option linter.unusedSimpArgs false
namespace Go.Proofs.YtbjbpgmjijeppaaDoor.Pl
open Go.RowKit Go.Proofs.YtbjbpgmjijeppaaDoorW.PrintWords Go.Proofs.YtbjbpgmjijeppaaDoor.Fn

/-! The reference's glyph functions, as the plain ones. -/
end Go.Proofs.YtbjbpgmjijeppaaDoor.Pl
set_option linter.unusedVariables false
namespace Go.Proofs.YtbjbpgmjijeppaaDoor.Pl
open Go.RowKit Go.Proofs.YtbjbpgmjijeppaaDoorW.PrintWords Go.Proofs.YtbjbpgmjijeppaaDoor.Fn

/-! The document's labels, domains, right addresses. -/
def labN (n : Int) : Prop := (97 ≤ n ∧ n ≤ 122) ∨ (65 ≤ n ∧ n ≤ 90) ∨ (48 ≤ n ∧ n ≤ 57) ∨ n = 45
instance (n : Int) : Decidable (labN n) := by unfold labN; infer_instance
end Go.Proofs.YtbjbpgmjijeppaaDoor.Pl
namespace Go.Proofs.YtbjbpgmjijeppaaDoor.Fn
open Go.RowKit Go.Proofs.YtbjbpgmjijeppaaDoorW.PrintWords Go.Proofs.YtbjbpgmjijeppaaDoorW.PrintLast Go.Proofs.YtbjbpgmjijeppaaDoorW.PrintMore
attribute [local go_sem] max2_int min2_int max_two min_two max_three min_three max_four min_four
set_option linter.unusedVariables false
set_option linter.unusedSimpArgs false

/-! ### addr_Of: function 98 -/
mutual
def addr_Of.j0 : Nat → List (S98) → ByteArray → Bool → Option (ByteArray × ByteArray × Int)
 | 0, _, _, _ => none
 | k + 1, x0, x4, x21 => if x21 = true then (some ((⟨#[]⟩ : ByteArray), (⟨#[]⟩ : ByteArray), 130)) else (if 1 ≤ (x0.length : Int) then ((addr_joined.f k (x0.drop 1) true).bind fun bt227 => (if bt227.2.2 = true then (addr_Of.j1 k x4 bt227.1 (decide ((bt227.2.1.length : Int) > 0))) else (addr_Of.j1 k x4 bt227.1 true))) else (none))
def addr_Of.j1 : Nat → ByteArray → ByteArray → Bool → Option (ByteArray × ByteArray × Int)
 | 0, _, _, _ => none
 | k + 1, x4, x6, x36 => if x36 = true then (some ((⟨#[]⟩ : ByteArray), (⟨#[]⟩ : ByteArray), 130)) else ((glyph_Fold.f x6).bind fun t232 => ((addr_why.f k x4 t232).bind fun t234 => (if t234 = 0 then (some (x4, t232, 0)) else (some ((⟨#[]⟩ : ByteArray), (⟨#[]⟩ : ByteArray), t234)))))
end
def addr_Of.f (k : Nat) (l0 : List (S98)) : Option (ByteArray × ByteArray × Int) := (addr_joined.f k l0 false).bind fun bt216 => (if bt216.2.2 = true then ((addr_is.f bt216.2.1 (⟨#[64]⟩ : ByteArray)).bind fun t221 => (addr_Of.j0 k bt216.2.1 bt216.1 (!t221))) else (addr_Of.j0 k bt216.2.1 bt216.1 true))
set_option maxHeartbeats 8000000 in
set_option maxRecDepth 100000 in
theorem addr_Of.calls (k : Nat) (A0 : Option Addr) (c0 : Nat) (l0 : List (S98)) (r1 : ByteArray) (r2 : ByteArray) (r3 : Int) (w : World) (hr0 : Kd.C k98 w A0 l0.length l0) (hc0 : l0.length ≤ c0) (h : addr_Of.f k l0 = some (r1, r2, r3)) :
  Calls Tryd.prog 98 #[.slice A0 l0.length c0] w fun e w' => e = .returned (.tuple #[.agg #[.string r1, .string r2], .int .i64 r3]) ∧ Below w.heap.size w w' := by
 have hu29 := Tryd.underlying29
 have HR0 := Aside0.mk hr0
 have HC0 := Aside0.mk hc0
 clear hr0 hc0
 have HB := Aside0.mk (Below.refl w.heap.size w)
 have H : ((addr_joined.f k l0 false).bind fun bt216 => (if bt216.2.2 = true then ((addr_is.f bt216.2.1 (⟨#[64]⟩ : ByteArray)).bind fun t221 => (addr_Of.j0 k bt216.2.1 bt216.1 (!t221))) else (addr_Of.j0 k bt216.2.1 bt216.1 true))) = some (r1, r2, r3) := h
 clear h
 replace H := Option.bind_eq_some_iff.mp H
 obtain ⟨⟨t216, t217, t220⟩, A20, H⟩ := H
 replace H : (if t220 = true then ((addr_is.f t217 (⟨#[64]⟩ : ByteArray)).bind fun t221 => (addr_Of.j0 k t217 t216 (!t221))) else (addr_Of.j0 k t217 t216 true)) = some (r1, r2, r3) := H
 have A2 := Aside0.mk A20
 clear A20
 have HC3 := Aside0.mk H
 clear H
 go_enter Tryd.func98, Tryd.ntmps98
 go_upto_region 2 with (first | ((with_reducible refine gate_dst (N := 2) rfl ?_); (try (refine gate_guard (by rfl) ?_; dsimp only)); refine box_event ?hg (N := 2) ?hd (cs := #[.string (⟨#[]⟩ : ByteArray), .string (⟨#[]⟩ : ByteArray)]) (t := 29) ?hr ?_; (case hd => rfl); (case hg => rfl); (case hr => first | (go_simp; done) | (go_simp; rfl)); intro gb215 hg w4 hbox hb; have n0_ := Aside0.mk (below_step bw hb); have n1_ := Aside0.mk (hbox); have n2_ := Aside0.mk ((by rw [hg]; exact (below_size bw) : w.heap.size ≤ gb215)); have n3_ := Aside0.mk ((by rw [hg]; exact (below_size bw) : w.heap.size ≤ gb215)); clear HB; have HB := n0_; have BK215 := n1_; have GW215 := n2_; have GE215 := n3_; clear n0_ n1_ n2_ n3_; clear hb hbox hg) | ((with_reducible refine gate_callee (f := 111) rfl ?_); refine goesL_ (some 11) rfl rfl Tryd.func111 (by kernel_rfl) rfl #[.slice A0 l0.length c0, .bool false] rfl am ?_; (with_reducible refine (addr_joined.calls k (fun k_ => k_ < w.heap.size) _ _ l0 false t216 t217 t220 _ ?side1 A2.out).mono ?_); (case side1 => exact Kd.V_mk HC0.out (Kd.F_below (Kd.C_F k98_heap HR0.out) bwS)); rintro e w5 ⟨v218, rfl, ho0, hb⟩; refine ⟨_, rfl, ?_⟩; have n0_ := Aside0.mk (Kd.V_lower (Kd.V_mono (ok' := fun k_ => k_ ≠ gb215) ho0 (fun k_ hk_ => Or.elim hk_ (fun hs_ => fun e_ => Nat.not_le.2 hs_ (by rw [e_]; exact GW215.out)) (fun hn_ => (Kd.freshB (g := gb215) (o := .cells #[.string (⟨#[]⟩ : ByteArray), .string (⟨#[]⟩ : ByteArray)] 29 (0, 0)) bk k_ hn_)))) (below_size bwS)); have n1_ := Aside0.mk (blk_below (g := gb215) (o := .cells #[.string (⟨#[]⟩ : ByteArray), .string (⟨#[]⟩ : ByteArray)] 29 (0, 0)) bk hb); have n2_ := Aside0.mk (below_step bwS hb); clear BK215; clear HB; have HO219 := n0_; have BK215 := n1_; have HB := n2_; clear n0_ n1_ n2_; (try clear hb); (try clear hb2); (try clear hk); (try clear hi); (try clear ho0)))
 (try simp only [Act.put, List.setIfInBounds_toArray, List.set_cons_zero, List.set_cons_succ])
 go_cut [21] (fun v21 wc => ∃ (kq : Nat) (x21_2 : Bool), v21 = .bool x21_2 ∧ Aside0 (addr_Of.j0 kq t217 t216 x21_2 = some (r1, r2, r3)) ∧ Aside0 (kq ≤ k) ∧ Aside0 (Kd.V k98 98 wc w.heap.size (fun k_ => k_ ≠ gb215) v218 t217) ∧ Aside0 (wc.heap[gb215]? = some (.cells #[.string (⟨#[]⟩ : ByteArray), .string (⟨#[]⟩ : ByteArray)] 29 (0, 0))) ∧ Aside0 (Below w.heap.size w wc))
 case first =>
  have H := HC3.out
  clear HC3
  by_cases c6 : t220 = true
  ·subst c6
   have H1 : ((addr_is.f t217 (⟨#[64]⟩ : ByteArray)).bind fun t221 => (addr_Of.j0 k t217 t216 (!t221))) = some (r1, r2, r3) := by rw [if_pos rfl] at H; exact H
   clear H
   have H := H1
   clear H1
   replace H := Option.bind_eq_some_iff.mp H
   obtain ⟨t221, A70, H⟩ := H
   replace H : (addr_Of.j0 k t217 t216 (!t221)) = some (r1, r2, r3) := H
   have A7 := Aside0.mk A70
   clear A70
   have H' := Aside0.mk H
   clear H
   obtain ⟨Ao8, co8, eo8⟩ := Kd.V_slice HO219.out
   subst eo8
   go_wp2_with (first | (go_at_call 112; (with_reducible refine (addr_is.calls _ _ t217 (⟨#[64]⟩ : ByteArray) t221 _ ?side1 ?side2 A7.out).mono ?_); (case side1 => repeat (first | exact (Kd.V_reads' HO219.out).2.2 | (with_reducible refine Kd.C_alloc ?_ _) | (with_reducible refine Kd.C_drewN ?_ _) | (with_reducible refine Kd.C_drew ?_))); (case side2 => exact (Kd.V_reads' HO219.out).2.1); rintro e w' ⟨rfl, ⟨nd, rfl⟩⟩))
   go_meet
   case rel => exact ⟨_, (!t221), cl, H', ⟨by first | omega | exact Nat.le_refl _⟩, ⟨by (with_reducible repeat (first | apply Kd.V_alloc | apply Kd.V_drewN | apply Kd.V_drew)); exact HO219.out⟩, ⟨bk⟩, ⟨bwS⟩⟩
  ·replace c6 := Bool.eq_false_iff.mpr c6
   subst c6
   have H1 : (addr_Of.j0 k t217 t216 true) = some (r1, r2, r3) := by rw [if_neg (show ¬ (false = true) by decide)] at H; exact H
   clear H
   have H := H1
   clear H1
   have H' := Aside0.mk H
   clear H
   go_wp2
   go_meet
   case rel => exact ⟨_, (true), cl, H', ⟨by first | omega | exact Nat.le_refl _⟩, ⟨by (with_reducible repeat (first | apply Kd.V_alloc | apply Kd.V_drewN | apply Kd.V_drew)); exact HO219.out⟩, ⟨bk⟩, ⟨bwS⟩⟩
 case rest =>
  clear HC3
  try clear c1
  try clear p2
  try clear c6
  obtain ⟨kq, x21_2, rfl, HA, HJ2, HO_0, BK215, HB⟩ := hcut
  cases kq with
  | zero => exact absurd HA.out (by simp [addr_Of.j0])
  | succ kj2 =>
   have H := HA.out
   clear HA
   simp only [addr_Of.j0] at H
   by_cases c9 : x21_2 = true
   ·subst c9
    have H1 : (some ((⟨#[]⟩ : ByteArray), (⟨#[]⟩ : ByteArray), 130)) = some (r1, r2, r3) := by rw [if_pos rfl] at H; exact H
    clear H
    have H := H1
    clear H1
    simp only [Option.some.injEq, Prod.mk.injEq] at H
    obtain ⟨rfl, rfl, rfl⟩ := H
    have hcz10_0 : wc.cell? ⟨gb215, 0, none⟩ = some (.string (⟨#[]⟩ : ByteArray)) := (blk_cell BK215.out 0).trans rfl
    have hcz10_1 : wc.cell? ⟨gb215, 1, none⟩ = some (.string (⟨#[]⟩ : ByteArray)) := (blk_cell BK215.out 1).trans rfl
    have hfz10_0 := blk_frozen BK215.out 0
    have hfz10_1 := blk_frozen BK215.out 1
    go_wp2
    refine bodyPost_ret (results_ct rfl _ _ gb215 29 #[.string (⟨#[]⟩ : ByteArray), .string (⟨#[]⟩ : ByteArray)] (0, 0) _ rfl (by (with_reducible repeat (first | refine blk_drewN ?_ _ | refine blk_drew ?_ | refine blk_alloc ?_ _)); refine blk_put (cs := #[.string (⟨#[]⟩ : ByteArray), .string (⟨#[]⟩ : ByteArray)]) ?_ 1 _ rfl; (with_reducible repeat (first | refine blk_drewN ?_ _ | refine blk_drew ?_ | refine blk_alloc ?_ _)); refine blk_put (cs := #[.string (⟨#[]⟩ : ByteArray), .string (⟨#[]⟩ : ByteArray)]) ?_ 0 _ rfl; (with_reducible repeat (first | refine blk_drewN ?_ _ | refine blk_drew ?_ | refine blk_alloc ?_ _)); exact BK215.out) Tryd.underlying29 rfl (by kernel_rfl)) rfl ?_
    exact ⟨by first | rfl | (simp [errW_none, errW_some] <;> rfl) | (simp [*, errW_none, errW_some] <;> rfl), bwS⟩
   ·replace c9 := Bool.eq_false_iff.mpr c9
    subst c9
    have H1 : (if 1 ≤ (t217.length : Int) then ((addr_joined.f kj2 (t217.drop 1) true).bind fun bt227 => (if bt227.2.2 = true then (addr_Of.j1 kj2 t216 bt227.1 (decide ((bt227.2.1.length : Int) > 0))) else (addr_Of.j1 kj2 t216 bt227.1 true))) else (none)) = some (r1, r2, r3) := by rw [if_neg (show ¬ (false = true) by decide)] at H; exact H
    clear H
    have H := H1
    clear H1
    by_cases c11 : 1 ≤ (t217.length : Int)
    ·rw [if_pos c11] at H
     have c11b0 := eq_true c11
     have c11b1 : decide (1 ≤ (t217.length : Int)) = true := decide_eq_true c11
     clear c11
     obtain ⟨y222, hy222⟩ : ∃ y_ : List (S98), y_ = (t217.drop 1) := ⟨_, rfl⟩
     replace H : ((addr_joined.f kj2 y222 true).bind fun bt227 => (if bt227.2.2 = true then (addr_Of.j1 kj2 t216 bt227.1 (decide ((bt227.2.1.length : Int) > 0))) else (addr_Of.j1 kj2 t216 bt227.1 true))) = some (r1, r2, r3) := by first | (rw [hy222]; with_reducible exact H) | (have H2_ := (Option.bind_some _ _).symm.trans H; rw [hy222]; with_reducible exact H2_) | (have H2_ := (Option.bind_some _ _).symm.trans H; with_reducible exact H2_) | with_reducible exact H | (rw [hy222]; exact H) | exact H
     have Ny222 := Aside0.mk hy222
     clear hy222
     replace H := Option.bind_eq_some_iff.mp H
     obtain ⟨⟨t227, t228, t231⟩, A120, H⟩ := H
     replace H : (if t231 = true then (addr_Of.j1 kj2 t216 t227 (decide ((t228.length : Int) > 0))) else (addr_Of.j1 kj2 t216 t227 true)) = some (r1, r2, r3) := H
     have A12 := Aside0.mk A120
     clear A120
     have HC13 := Aside0.mk H
     clear H
     obtain ⟨Ao15, co15, eo15⟩ := Kd.V_slice HO_0.out
     subst eo15
     have q14 : (1 : Int) ≤ ((t217.length : Int) : Int) := od
     obtain ⟨i014, hi014, _, hsz14, _⟩ := info_parts info98
     have hroom14 : t217.length ≤ co15 := (Kd.V_reads' HO_0.out).2.1
     have hC14 : Kd.F k98 _ _ Ao15 t217.length t217 := (Kd.V_at (base := w.heap.size) HO_0.out).2.2
     have hcut14 := cut_from (P := Tryd.prog) 62 98 .i64 Tryd.underlying62 hi014 2 hsz14 Ao15 t217.length co15 1 (by omega) q14
     have hr14 := Kd.F_cut (m := (1 : Int).toNat) (c := co15) hC14 (by omega) hroom14
     obtain ⟨A14, hA14⟩ : ∃ A1, A1 = (if co15 = (1 : Int).toNat then Ao15 else (Ao15 : Option Addr).map (·.add ((1 : Int).toNat * 2))) := ⟨_, rfl⟩
     obtain ⟨c14, hc14⟩ : ∃ c1, c1 = co15 - (1 : Int).toNat := ⟨_, rfl⟩
     have hy14 : y222.length = t217.length - (1 : Int).toNat := (by rw [Ny222.out, List.length_drop] <;> omega)
     rw [show (t217).drop (1 : Int).toNat = y222 from Ny222.out.symm] at hr14
     replace hr14 : Kd.F k98 _ _ A14 y222.length y222 := (by rw [hA14]; exact hr14)
     rw [← hy14, ← hA14, ← hc14] at hcut14
     have HO226 := Aside0.mk (show Kd.V k98 98 _ w.heap.size _ (.slice A14 y222.length c14) y222 from Kd.V_mk (by rw [hy14, hc14]; exact Nat.sub_le_sub_right hroom14 _) hr14)
     have HC226 := Aside0.mk (show y222.length ≤ c14 from by rw [hy14, hc14]; exact Nat.sub_le_sub_right hroom14 _)
     clear hr14 hC14 hroom14 hi014 hsz14 hc14
     have KY14 := Aside0.mk hy14
     have KA14 := Aside0.mk hA14
     clear hy14 hA14
     replace q14 := eq_true q14
     go_upto_region 5 with (first | ((with_reducible refine gate_callee (f := 111) rfl ?_); refine goesL_ (some 26) rfl rfl Tryd.func111 (by kernel_rfl) rfl #[.slice A14 y222.length c14, .bool true] rfl am ?_; (with_reducible refine (addr_joined.calls kj2 (fun k_ => k_ ≠ gb215) _ _ y222 true t227 t228 t231 _ ?side1 A12.out).mono ?_); (case side1 => exact HO226.out); rintro e w16 ⟨v229, rfl, ho0, hb⟩; refine ⟨_, rfl, ?_⟩; have n0_ := Aside0.mk (Kd.V_below (by (with_reducible repeat (first | apply Kd.V_alloc | apply Kd.V_drewN | apply Kd.V_drew)); exact HO_0.out) hb); have n1_ := Aside0.mk (Kd.V_below (by (with_reducible repeat (first | apply Kd.V_alloc | apply Kd.V_drewN | apply Kd.V_drew)); exact HO226.out) hb); have n2_ := Aside0.mk (Kd.V_lower (Kd.V_mono (ok' := fun k_ => k_ ≠ gb215) ho0 (fun k_ hk_ => Or.elim hk_ (fun hs_ => hs_) (fun hn_ => (Kd.freshB (g := gb215) (o := .cells #[.string (⟨#[]⟩ : ByteArray), .string (⟨#[]⟩ : ByteArray)] 29 (0, 0)) bk k_ hn_)))) (below_size bwS)); have n3_ := Aside0.mk (blk_below (g := gb215) (o := .cells #[.string (⟨#[]⟩ : ByteArray), .string (⟨#[]⟩ : ByteArray)] 29 (0, 0)) bk hb); have n4_ := Aside0.mk (below_step bwS hb); clear HO_0; clear HO226; clear BK215; clear HB; have HO_0 := n0_; have HO226 := n1_; have HO230 := n2_; have BK215 := n3_; have HB := n4_; clear n0_ n1_ n2_ n3_ n4_; (try clear hb); (try clear hb2); (try clear hk); (try clear hi); (try clear ho0)))
     (try simp only [Act.put, List.setIfInBounds_toArray, List.set_cons_zero, List.set_cons_succ])
     go_cut [36] (fun v36 wc => ∃ (kq : Nat) (x36_12 : Bool), v36 = .bool x36_12 ∧ Aside0 (addr_Of.j1 kq t216 t227 x36_12 = some (r1, r2, r3)) ∧ Aside0 (kq ≤ kj2) ∧ Aside0 (wc.heap[gb215]? = some (.cells #[.string (⟨#[]⟩ : ByteArray), .string (⟨#[]⟩ : ByteArray)] 29 (0, 0))) ∧ Aside0 (Below w.heap.size w wc))
     case first =>
      have H := HC13.out
      clear HC13
      by_cases c17 : t231 = true
      ·subst c17
       have H1 : (addr_Of.j1 kj2 t216 t227 (decide ((t228.length : Int) > 0))) = some (r1, r2, r3) := by rw [if_pos rfl] at H; exact H
       clear H
       have H := H1
       clear H1
       have H' := Aside0.mk H
       clear H
       obtain ⟨Ao18, co18, eo18⟩ := Kd.V_slice HO230.out
       subst eo18
       go_wp2
       go_meet
       case rel => exact ⟨_, (decide ((t228.length : Int) > 0)), cl, H', ⟨by have := HJ2.out; first | omega | exact Nat.le_refl _⟩, ⟨bk⟩, ⟨bwS⟩⟩
      ·replace c17 := Bool.eq_false_iff.mpr c17
       subst c17
       have H1 : (addr_Of.j1 kj2 t216 t227 true) = some (r1, r2, r3) := by rw [if_neg (show ¬ (false = true) by decide)] at H; exact H
       clear H
       have H := H1
       clear H1
       have H' := Aside0.mk H
       clear H
       go_wp2
       go_meet
       case rel => exact ⟨_, (true), cl, H', ⟨by have := HJ2.out; first | omega | exact Nat.le_refl _⟩, ⟨bk⟩, ⟨bwS⟩⟩
     case rest =>
      clear HC13
      try clear c1
      try clear q1
      try clear p2
      try clear c6
      try clear c9
      try clear c11
      try clear c11b0
      try clear c11b1
      try clear c14
      try clear q14
      try clear c17
      try clear hcz10_0
      try clear hcz10_1
      try clear hfz10_0
      try clear hfz10_1
      try clear p2
      try clear q14
      obtain ⟨kq, x36_12, rfl, HA, HJ12, BK215, HB⟩ := hcut
      cases kq with
      | zero => exact absurd HA.out (by simp [addr_Of.j1])
      | succ kj12 =>
       have H := HA.out
       clear HA
       simp only [addr_Of.j1] at H
       by_cases c19 : x36_12 = true
       ·subst c19
        have H1 : (some ((⟨#[]⟩ : ByteArray), (⟨#[]⟩ : ByteArray), 130)) = some (r1, r2, r3) := by rw [if_pos rfl] at H; exact H
        clear H
        have H := H1
        clear H1
        simp only [Option.some.injEq, Prod.mk.injEq] at H
        obtain ⟨rfl, rfl, rfl⟩ := H
        have hcz20_0 : wc.cell? ⟨gb215, 0, none⟩ = some (.string (⟨#[]⟩ : ByteArray)) := (blk_cell BK215.out 0).trans rfl
        have hcz20_1 : wc.cell? ⟨gb215, 1, none⟩ = some (.string (⟨#[]⟩ : ByteArray)) := (blk_cell BK215.out 1).trans rfl
        have hfz20_0 := blk_frozen BK215.out 0
        have hfz20_1 := blk_frozen BK215.out 1
        go_wp2
        refine bodyPost_ret (results_ct rfl _ _ gb215 29 #[.string (⟨#[]⟩ : ByteArray), .string (⟨#[]⟩ : ByteArray)] (0, 0) _ rfl (by (with_reducible repeat (first | refine blk_drewN ?_ _ | refine blk_drew ?_ | refine blk_alloc ?_ _)); refine blk_put (cs := #[.string (⟨#[]⟩ : ByteArray), .string (⟨#[]⟩ : ByteArray)]) ?_ 1 _ rfl; (with_reducible repeat (first | refine blk_drewN ?_ _ | refine blk_drew ?_ | refine blk_alloc ?_ _)); refine blk_put (cs := #[.string (⟨#[]⟩ : ByteArray), .string (⟨#[]⟩ : ByteArray)]) ?_ 0 _ rfl; (with_reducible repeat (first | refine blk_drewN ?_ _ | refine blk_drew ?_ | refine blk_alloc ?_ _)); exact BK215.out) Tryd.underlying29 rfl (by kernel_rfl)) rfl ?_
        exact ⟨by first | rfl | (simp [errW_none, errW_some] <;> rfl) | (simp [*, errW_none, errW_some] <;> rfl), bwS⟩
       ·replace c19 := Bool.eq_false_iff.mpr c19
        subst c19
        have H1 : ((glyph_Fold.f t227).bind fun t232 => ((addr_why.f kj12 t216 t232).bind fun t234 => (if t234 = 0 then (some (t216, t232, 0)) else (some ((⟨#[]⟩ : ByteArray), (⟨#[]⟩ : ByteArray), t234))))) = some (r1, r2, r3) := by rw [if_neg (show ¬ (false = true) by decide)] at H; exact H
        clear H
        have H := H1
        clear H1
        replace H := Option.bind_eq_some_iff.mp H
        obtain ⟨t232, A210, H⟩ := H
        replace H : ((addr_why.f kj12 t216 t232).bind fun t234 => (if t234 = 0 then (some (t216, t232, 0)) else (some ((⟨#[]⟩ : ByteArray), (⟨#[]⟩ : ByteArray), t234)))) = some (r1, r2, r3) := H
        have A21 := Aside0.mk A210
        clear A210
        replace H := Option.bind_eq_some_iff.mp H
        obtain ⟨t234, A220, H⟩ := H
        replace H : (if t234 = 0 then (some (t216, t232, 0)) else (some ((⟨#[]⟩ : ByteArray), (⟨#[]⟩ : ByteArray), t234))) = some (r1, r2, r3) := H
        have A22 := Aside0.mk A220
        clear A220
        by_cases c23 : t234 = 0
        ·rw [if_pos c23] at H
         have c23b0 : (t234 == 0) = true := beq_iff_eq.mpr c23
         have c23b1 : (t234 != 0) = false := bne_eq_false_iff_eq.mpr c23
         clear c23
         simp only [Option.some.injEq, Prod.mk.injEq] at H
         obtain ⟨rfl, rfl, rfl⟩ := H
         go_wp2_with (first | ((with_reducible refine gate_callee (f := 41) rfl ?_); refine goesL_ (some 40) rfl rfl Tryd.func41 (by kernel_rfl) rfl #[.string t227] rfl am ?_; (with_reducible refine (glyph_Fold.calls t227 t232 _ A21.out).mono ?_); rintro e w24 ⟨rfl, hb⟩; refine ⟨_, rfl, ?_⟩; have n0_ := Aside0.mk (blk_below (g := gb215) (o := .cells #[.string (⟨#[]⟩ : ByteArray), .string (⟨#[]⟩ : ByteArray)] 29 (0, 0)) bk hb); have n1_ := Aside0.mk (below_step bwS hb); clear BK215; clear HB; have BK215 := n0_; have HB := n1_; clear n0_ n1_; (try clear hb); (try clear hb2); (try clear hk); (try clear hi)) | ((with_reducible refine gate_dst (N := 7) rfl ?_); (try (refine gate_guard (by rfl) ?_; dsimp only)); refine box_event ?hg (N := 7) ?hd (cs := #[.string (⟨#[]⟩ : ByteArray), .string (⟨#[]⟩ : ByteArray)]) (t := 29) ?hr ?_; (case hd => rfl); (case hg => rfl); (case hr => first | (go_simp; done) | (go_simp; rfl)); intro gb233 hg w25 hbox hb; have n0_ := Aside0.mk (blk_below (g := gb215) (o := .cells #[.string (⟨#[]⟩ : ByteArray), .string (⟨#[]⟩ : ByteArray)] 29 (0, 0)) bk hb); have n1_ := Aside0.mk (below_step bwS hb); have n2_ := Aside0.mk (hbox); have n3_ := Aside0.mk ((by rw [hg]; exact (below_size bwS) : w.heap.size ≤ gb233)); have n4_ := Aside0.mk ((by rw [hg]; exact (below_size bwS) : w.heap.size ≤ gb233)); have n5_ := Aside0.mk ((by rw [hg]; exact Nat.ne_of_lt (blk_lt (g := gb215) (o := .cells #[.string (⟨#[]⟩ : ByteArray), .string (⟨#[]⟩ : ByteArray)] 29 (0, 0)) bk) : gb215 ≠ gb233)); have n6_ := Aside0.mk ((by rw [hg]; exact Nat.ne_of_gt (blk_lt (g := gb215) (o := .cells #[.string (⟨#[]⟩ : ByteArray), .string (⟨#[]⟩ : ByteArray)] 29 (0, 0)) bk) : gb233 ≠ gb215)); clear BK215; clear HB; have BK215 := n0_; have HB := n1_; have BK233 := n2_; have GW233 := n3_; have GE233 := n4_; have NB215_233 := n5_; have NB233_215 := n6_; clear n0_ n1_ n2_ n3_ n4_ n5_ n6_; clear hb hbox hg; have hnb26 := NB233_215.out; have hnc26 := NB215_233.out; have hcz27_0 : w25.cell? ⟨gb233, 0, none⟩ = some (.string (⟨#[]⟩ : ByteArray)) := (blk_cell BK233.out 0).trans rfl; have hcz27_1 : w25.cell? ⟨gb233, 1, none⟩ = some (.string (⟨#[]⟩ : ByteArray)) := (blk_cell BK233.out 1).trans rfl; have hfz27_0 := blk_frozen BK233.out 0; have hfz27_1 := blk_frozen BK233.out 1) | ((with_reducible refine gate_callee (f := 40) rfl ?_); refine goesL_ (some 43) rfl rfl Tryd.func40 (by kernel_rfl) rfl #[.agg #[.string t216, .string t232]] rfl am ?_; (with_reducible refine (addr_why.calls kj12 t216 t232 t234 _ A22.out).mono ?_); rintro e w28 ⟨rfl, hb⟩; refine ⟨_, rfl, ?_⟩; have n0_ := Aside0.mk (blk_below (g := gb215) (o := .cells #[.string (⟨#[]⟩ : ByteArray), .string (⟨#[]⟩ : ByteArray)] 29 (0, 0)) (by (with_reducible repeat (first | refine blk_drewN ?_ _ | refine blk_drew ?_ | refine blk_alloc ?_ _)); refine blk_far ?_ NB215_233.out _; (with_reducible repeat (first | refine blk_drewN ?_ _ | refine blk_drew ?_ | refine blk_alloc ?_ _)); refine blk_far ?_ NB215_233.out _; (with_reducible repeat (first | refine blk_drewN ?_ _ | refine blk_drew ?_ | refine blk_alloc ?_ _)); exact BK215.out) hb); have n1_ := Aside0.mk (blk_below (g := gb233) (o := .cells #[.string t216, .string t232] 29 (0, 0)) (by (with_reducible repeat (first | refine blk_drewN ?_ _ | refine blk_drew ?_ | refine blk_alloc ?_ _)); refine blk_put (cs := #[.string t216, .string (⟨#[]⟩ : ByteArray)]) ?_ 1 _ rfl; (with_reducible repeat (first | refine blk_drewN ?_ _ | refine blk_drew ?_ | refine blk_alloc ?_ _)); refine blk_put (cs := #[.string (⟨#[]⟩ : ByteArray), .string (⟨#[]⟩ : ByteArray)]) ?_ 0 _ rfl; (with_reducible repeat (first | refine blk_drewN ?_ _ | refine blk_drew ?_ | refine blk_alloc ?_ _)); exact BK233.out) hb); have n2_ := Aside0.mk (below_step bwS hb); clear BK215; clear BK233; clear HB; have BK215 := n0_; have BK233 := n1_; have HB := n2_; clear n0_ n1_ n2_; (try clear hb); (try clear hb2); (try clear hk); (try clear hi); have hcz29_0 : w28.cell? ⟨gb233, 0, none⟩ = some (.string t216) := (blk_cell BK233.out 0).trans rfl; have hcz29_1 : w28.cell? ⟨gb233, 1, none⟩ = some (.string t232) := (blk_cell BK233.out 1).trans rfl; have hfz29_0 := blk_frozen BK233.out 0; have hfz29_1 := blk_frozen BK233.out 1; have hcz30_0 : w28.cell? ⟨gb215, 0, none⟩ = some (.string (⟨#[]⟩ : ByteArray)) := (blk_cell BK215.out 0).trans rfl; have hcz30_1 : w28.cell? ⟨gb215, 1, none⟩ = some (.string (⟨#[]⟩ : ByteArray)) := (blk_cell BK215.out 1).trans rfl; have hfz30_0 := blk_frozen BK215.out 0; have hfz30_1 := blk_frozen BK215.out 1))
         refine bodyPost_ret (results_ct rfl _ _ gb215 29 #[.string t216, .string t232] (0, 0) _ rfl (by (with_reducible repeat (first | refine blk_drewN ?_ _ | refine blk_drew ?_ | refine blk_alloc ?_ _)); refine blk_put (cs := #[.string t216, .string (⟨#[]⟩ : ByteArray)]) ?_ 1 _ rfl; (with_reducible repeat (first | refine blk_drewN ?_ _ | refine blk_drew ?_ | refine blk_alloc ?_ _)); refine blk_put (cs := #[.string (⟨#[]⟩ : ByteArray), .string (⟨#[]⟩ : ByteArray)]) ?_ 0 _ rfl; (with_reducible repeat (first | refine blk_drewN ?_ _ | refine blk_drew ?_ | refine blk_alloc ?_ _)); exact BK215.out) Tryd.underlying29 rfl (by kernel_rfl)) rfl ?_
         exact ⟨by first | rfl | (simp [errW_none, errW_some] <;> rfl) | (simp [*, errW_none, errW_some] <;> rfl), bwS⟩
        ·rw [if_neg c23] at H
         have c23b0 : (t234 == 0) = false := beq_eq_false_iff_ne.mpr c23
         have c23b1 : (t234 != 0) = true := bne_iff_ne.mpr c23
         simp only [Option.some.injEq, Prod.mk.injEq] at H
         obtain ⟨rfl, rfl, rfl⟩ := H
         go_wp2_with (first | ((with_reducible refine gate_callee (f := 41) rfl ?_); refine goesL_ (some 40) rfl rfl Tryd.func41 (by kernel_rfl) rfl #[.string t227] rfl am ?_; (with_reducible refine (glyph_Fold.calls t227 t232 _ A21.out).mono ?_); rintro e w31 ⟨rfl, hb⟩; refine ⟨_, rfl, ?_⟩; have n0_ := Aside0.mk (blk_below (g := gb215) (o := .cells #[.string (⟨#[]⟩ : ByteArray), .string (⟨#[]⟩ : ByteArray)] 29 (0, 0)) bk hb); have n1_ := Aside0.mk (below_step bwS hb); clear BK215; clear HB; have BK215 := n0_; have HB := n1_; clear n0_ n1_; (try clear hb); (try clear hb2); (try clear hk); (try clear hi)) | ((with_reducible refine gate_dst (N := 7) rfl ?_); (try (refine gate_guard (by rfl) ?_; dsimp only)); refine box_event ?hg (N := 7) ?hd (cs := #[.string (⟨#[]⟩ : ByteArray), .string (⟨#[]⟩ : ByteArray)]) (t := 29) ?hr ?_; (case hd => rfl); (case hg => rfl); (case hr => first | (go_simp; done) | (go_simp; rfl)); intro gb233 hg w32 hbox hb; have n0_ := Aside0.mk (blk_below (g := gb215) (o := .cells #[.string (⟨#[]⟩ : ByteArray), .string (⟨#[]⟩ : ByteArray)] 29 (0, 0)) bk hb); have n1_ := Aside0.mk (below_step bwS hb); have n2_ := Aside0.mk (hbox); have n3_ := Aside0.mk ((by rw [hg]; exact (below_size bwS) : w.heap.size ≤ gb233)); have n4_ := Aside0.mk ((by rw [hg]; exact (below_size bwS) : w.heap.size ≤ gb233)); have n5_ := Aside0.mk ((by rw [hg]; exact Nat.ne_of_lt (blk_lt (g := gb215) (o := .cells #[.string (⟨#[]⟩ : ByteArray), .string (⟨#[]⟩ : ByteArray)] 29 (0, 0)) bk) : gb215 ≠ gb233)); have n6_ := Aside0.mk ((by rw [hg]; exact Nat.ne_of_gt (blk_lt (g := gb215) (o := .cells #[.string (⟨#[]⟩ : ByteArray), .string (⟨#[]⟩ : ByteArray)] 29 (0, 0)) bk) : gb233 ≠ gb215)); clear BK215; clear HB; have BK215 := n0_; have HB := n1_; have BK233 := n2_; have GW233 := n3_; have GE233 := n4_; have NB215_233 := n5_; have NB233_215 := n6_; clear n0_ n1_ n2_ n3_ n4_ n5_ n6_; clear hb hbox hg; have hnb33 := NB233_215.out; have hnc33 := NB215_233.out; have hcz34_0 : w32.cell? ⟨gb233, 0, none⟩ = some (.string (⟨#[]⟩ : ByteArray)) := (blk_cell BK233.out 0).trans rfl; have hcz34_1 : w32.cell? ⟨gb233, 1, none⟩ = some (.string (⟨#[]⟩ : ByteArray)) := (blk_cell BK233.out 1).trans rfl; have hfz34_0 := blk_frozen BK233.out 0; have hfz34_1 := blk_frozen BK233.out 1) | ((with_reducible refine gate_callee (f := 40) rfl ?_); refine goesL_ (some 43) rfl rfl Tryd.func40 (by kernel_rfl) rfl #[.agg #[.string t216, .string t232]] rfl am ?_; (with_reducible refine (addr_why.calls kj12 t216 t232 t234 _ A22.out).mono ?_); rintro e w35 ⟨rfl, hb⟩; refine ⟨_, rfl, ?_⟩; have n0_ := Aside0.mk (blk_below (g := gb215) (o := .cells #[.string (⟨#[]⟩ : ByteArray), .string (⟨#[]⟩ : ByteArray)] 29 (0, 0)) (by (with_reducible repeat (first | refine blk_drewN ?_ _ | refine blk_drew ?_ | refine blk_alloc ?_ _)); refine blk_far ?_ NB215_233.out _; (with_reducible repeat (first | refine blk_drewN ?_ _ | refine blk_drew ?_ | refine blk_alloc ?_ _)); refine blk_far ?_ NB215_233.out _; (with_reducible repeat (first | refine blk_drewN ?_ _ | refine blk_drew ?_ | refine blk_alloc ?_ _)); exact BK215.out) hb); have n1_ := Aside0.mk (blk_below (g := gb233) (o := .cells #[.string t216, .string t232] 29 (0, 0)) (by (with_reducible repeat (first | refine blk_drewN ?_ _ | refine blk_drew ?_ | refine blk_alloc ?_ _)); refine blk_put (cs := #[.string t216, .string (⟨#[]⟩ : ByteArray)]) ?_ 1 _ rfl; (with_reducible repeat (first | refine blk_drewN ?_ _ | refine blk_drew ?_ | refine blk_alloc ?_ _)); refine blk_put (cs := #[.string (⟨#[]⟩ : ByteArray), .string (⟨#[]⟩ : ByteArray)]) ?_ 0 _ rfl; (with_reducible repeat (first | refine blk_drewN ?_ _ | refine blk_drew ?_ | refine blk_alloc ?_ _)); exact BK233.out) hb); have n2_ := Aside0.mk (below_step bwS hb); clear BK215; clear BK233; clear HB; have BK215 := n0_; have BK233 := n1_; have HB := n2_; clear n0_ n1_ n2_; (try clear hb); (try clear hb2); (try clear hk); (try clear hi); have hcz36_0 : w35.cell? ⟨gb215, 0, none⟩ = some (.string (⟨#[]⟩ : ByteArray)) := (blk_cell BK215.out 0).trans rfl; have hcz36_1 : w35.cell? ⟨gb215, 1, none⟩ = some (.string (⟨#[]⟩ : ByteArray)) := (blk_cell BK215.out 1).trans rfl; have hfz36_0 := blk_frozen BK215.out 0; have hfz36_1 := blk_frozen BK215.out 1))
         refine bodyPost_ret (results_ct rfl _ _ gb215 29 #[.string (⟨#[]⟩ : ByteArray), .string (⟨#[]⟩ : ByteArray)] (0, 0) _ rfl (by (with_reducible repeat (first | refine blk_drewN ?_ _ | refine blk_drew ?_ | refine blk_alloc ?_ _)); refine blk_put (cs := #[.string (⟨#[]⟩ : ByteArray), .string (⟨#[]⟩ : ByteArray)]) ?_ 1 _ rfl; (with_reducible repeat (first | refine blk_drewN ?_ _ | refine blk_drew ?_ | refine blk_alloc ?_ _)); refine blk_put (cs := #[.string (⟨#[]⟩ : ByteArray), .string (⟨#[]⟩ : ByteArray)]) ?_ 0 _ rfl; (with_reducible repeat (first | refine blk_drewN ?_ _ | refine blk_drew ?_ | refine blk_alloc ?_ _)); exact BK215.out) Tryd.underlying29 rfl (by kernel_rfl)) rfl ?_
         exact ⟨by first | rfl | (simp [errW_none, errW_some] <;> rfl) | (simp [*, errW_none, errW_some] <;> rfl), bwS⟩
    ·rw [if_neg c11] at H
     exact absurd H (by simp)

end Go.Proofs.YtbjbpgmjijeppaaDoor.Fn
namespace Go.Proofs.YtbjbpgmjijeppaaDoor.Fn
open Go.RowKit Go.Proofs.YtbjbpgmjijeppaaDoorW.PrintWords Go.Proofs.YtbjbpgmjijeppaaDoorW.PrintLast Go.Proofs.YtbjbpgmjijeppaaDoorW.PrintMore
attribute [local go_sem] max2_int min2_int max_two min_two max_three min_three max_four min_four
set_option linter.unusedVariables false
set_option linter.unusedSimpArgs false

/-! ### bulletinref13_Of: function 39 -/
mutual
def bulletinref13_Of.l0 : Nat → List (S104) → Int → Int → Option (ByteArray × ByteArray × Int)
 | 0, _, _, _ => none
 | k + 1, x0, x4, x5 => if x5 < (x0.length : Int) then (if 0 ≤ x5 then (if ((rd_T104 x0 x5).f0) = 3 then (if ((rd_T104 x0 x5).f1).toList = ([64] : List UInt8) then (if x4 < 0 then (bulletinref13_Of.l0 k x0 x5 (wrap64 (x5 + 1))) else (bulletinref13_Of.l0 k x0 x4 (wrap64 (x5 + 1)))) else (bulletinref13_Of.l0 k x0 x4 (wrap64 (x5 + 1)))) else (bulletinref13_Of.l0 k x0 x4 (wrap64 (x5 + 1)))) else (none)) else (if x4 < 0 then (some ((⟨#[]⟩ : ByteArray), (⟨#[]⟩ : ByteArray), 130)) else (bulletinref13_Of.l1 k x0 x4 0 (⟨#[]⟩ : ByteArray) (⟨#[]⟩ : ByteArray)))
def bulletinref13_Of.l1 : Nat → List (S104) → Int → Int → ByteArray → ByteArray → Option (ByteArray × ByteArray × Int)
 | 0, _, _, _, _, _ => none
 | k + 1, x0, x4, x7, x387000, x387001 => if x7 < (x0.length : Int) then (if 0 ≤ x7 then (if x7 > x4 then (bulletinref13_Of.j2 k x0 x4 x7 (wrap64 ((wrap64 (x7 - x4)) - 1)) x387000 x387001 ((rd_T104 x0 x7).f0) ((rd_T104 x0 x7).f1)) else (bulletinref13_Of.j2 k x0 x4 x7 x7 x387000 x387001 ((rd_T104 x0 x7).f0) ((rd_T104 x0 x7).f1))) else (none)) else (if (Int.tmod x4 2) = 0 then (bulletinref13_Of.j5 k true x387000 x387001) else (bulletinref13_Of.j5 k ((Int.tmod (wrap64 ((wrap64 ((x0.length : Int) - x4)) - 1)) 2) == 0) x387000 x387001))
def bulletinref13_Of.j2 : Nat → List (S104) → Int → Int → Int → ByteArray → ByteArray → Int → ByteArray → Option (ByteArray × ByteArray × Int)
 | 0, _, _, _, _, _, _, _, _ => none
 | k + 1, x0, x4, x7, x9, x387000, x387001, x389000, x389001 => if x7 = x4 then (bulletinref13_Of.j3 k x0 x4 x7 x9 false x387000 x387001 x389000 x389001) else (if (Int.tmod x9 2) = 1 then (if x389000 = 3 then (bulletinref13_Of.j3 k x0 x4 x7 x9 (x389001.toList != ([46] : List UInt8)) x387000 x387001 x389000 x389001) else (bulletinref13_Of.j3 k x0 x4 x7 x9 true x387000 x387001 x389000 x389001)) else (bulletinref13_Of.j3 k x0 x4 x7 x9 false x387000 x387001 x389000 x389001))
def bulletinref13_Of.j3 : Nat → List (S104) → Int → Int → Int → Bool → ByteArray → ByteArray → Int → ByteArray → Option (ByteArray × ByteArray × Int)
 | 0, _, _, _, _, _, _, _, _, _ => none
 | k + 1, x0, x4, x7, x9, x75, x387000, x387001, x389000, x389001 => if x75 = true then (some ((⟨#[]⟩ : ByteArray), (⟨#[]⟩ : ByteArray), 130)) else (if x7 = x4 then (bulletinref13_Of.j4 k x0 x4 x7 false x387000 x387001 x389000 x389001) else (if (Int.tmod x9 2) = 0 then (if x389000 = 3 then (bulletinref13_Of.j4 k x0 x4 x7 true x387000 x387001 x389000 x389001) else (if x7 > x4 then (bulletinref13_Of.j4 k x0 x4 x7 (x389000 != 1) x387000 x387001 x389000 x389001) else (bulletinref13_Of.j4 k x0 x4 x7 false x387000 x387001 x389000 x389001))) else (bulletinref13_Of.j4 k x0 x4 x7 false x387000 x387001 x389000 x389001)))
def bulletinref13_Of.j4 : Nat → List (S104) → Int → Int → Bool → ByteArray → ByteArray → Int → ByteArray → Option (ByteArray × ByteArray × Int)
 | 0, _, _, _, _, _, _, _, _ => none
 | k + 1, x0, x4, x7, x99, x387000, x387001, x389000, x389001 => if x99 = true then (some ((⟨#[]⟩ : ByteArray), (⟨#[]⟩ : ByteArray), 130)) else (if x7 < x4 then (if x387000.size + x389001.size ≤ 9223372036854775807 then (if x7 > x4 then (if x387001.size + x389001.size ≤ 9223372036854775807 then (bulletinref13_Of.l1 k x0 x4 (wrap64 (x7 + 1)) (x387000 ++ x389001) (x387001 ++ x389001)) else (none)) else (bulletinref13_Of.l1 k x0 x4 (wrap64 (x7 + 1)) (x387000 ++ x389001) x387001)) else (none)) else (if x7 > x4 then (if x387001.size + x389001.size ≤ 9223372036854775807 then (bulletinref13_Of.l1 k x0 x4 (wrap64 (x7 + 1)) x387000 (x387001 ++ x389001)) else (none)) else (bulletinref13_Of.l1 k x0 x4 (wrap64 (x7 + 1)) x387000 x387001)))
def bulletinref13_Of.j5 : Nat → Bool → ByteArray → ByteArray → Option (ByteArray × ByteArray × Int)
 | 0, _, _, _ => none
 | k + 1, x130, x387000, x387001 => if x130 = true then (some ((⟨#[]⟩ : ByteArray), (⟨#[]⟩ : ByteArray), 130)) else ((bulletinref06_Fold.f k x387001).bind fun t389 => ((bulletinref13_Why.f k x387000 t389).bind fun t390 => (if t390 = 0 then (some (x387000, t389, 0)) else (some ((⟨#[]⟩ : ByteArray), (⟨#[]⟩ : ByteArray), t390)))))
end
end Go.Proofs.YtbjbpgmjijeppaaDoor.Fn
set_option linter.unusedVariables false
namespace Go.Proofs.YtbjbpgmjijeppaaDoor.Pl
open Go.RowKit Go.Proofs.YtbjbpgmjijeppaaDoorW.PrintWords Go.Proofs.YtbjbpgmjijeppaaDoor.Fn

/-! Layer 13: the address that tokens are. -/
def isT (t : Tok) (s : Bytes) : Bool := t.1 == 3 && t.2 == s
def wordT (t : Tok) : Bool := t.1 != 3
def atomT (t : Tok) : Bool := t.1 != 3 && t.1 == 1
def altOk (p : Tok → Bool) : List Tok → Bool
  | [] => false
  | [x] => p x
  | x :: d :: r => p x && isT d [46] && altOk p r
def cat (l : List Tok) : Bytes := l.flatMap (·.2)
def atSplit : List Tok → Option (List Tok × List Tok)
  | [] => none
  | t :: r => if isT t [64] = true then some ([], r) else (atSplit r).map fun x => (t :: x.1, x.2)
abbrev Res := ByteArray × ByteArray × Int
def finish (a b : Bytes) : Res := if why (str a) (str (fold b)) = 0 then (str a, str (fold b), 0) else (str [], str [], why (str a) (str (fold b)))
def noAddr : Res := (str [], str [], 130)
def ofT (l : List Tok) : Res := match atSplit l with
  | none => noAddr
  | some (A, B) => if altOk wordT A = true ∧ altOk atomT B = true then finish (cat A) (cat B) else noAddr

theorem atSplit_some {l A B : List Tok} (h : atSplit l = some (A, B)) : ∃ t, isT t [64] = true ∧ l = A ++ t :: B ∧ ∀ x ∈ A, isT x [64] = false := by
  induction l generalizing A B with
  | nil => cases h
  | cons t r ih =>
    rw [atSplit] at h
    by_cases ht : isT t [64] = true
    · rw [if_pos ht] at h
      cases h
      exact ⟨t, ht, rfl, by simp⟩
    · rw [if_neg ht] at h
      cases hr : atSplit r with
      | none => rw [hr] at h; cases h
      | some x =>
        obtain ⟨A', B'⟩ := x
        rw [hr] at h
        simp only [Option.map_some, Option.some.injEq, Prod.mk.injEq] at h
        obtain ⟨rfl, rfl⟩ := h
        obtain ⟨u, h1, h2, h3⟩ := ih hr
        refine ⟨u, h1, by rw [h2]; rfl, ?_⟩
        intro x hx
        rcases List.mem_cons.1 hx with e | e
        · rw [e]; simpa using ht
        · exact h3 x e
theorem atSplit_of {A B : List Tok} {t : Tok} (ht : isT t [64] = true) (hA : ∀ x ∈ A, isT x [64] = false) : atSplit (A ++ t :: B) = some (A, B) := by
  induction A with
  | nil => rw [List.nil_append, atSplit, if_pos ht]
  | cons a A ih =>
    rw [List.cons_append, atSplit, if_neg (by rw [hA a (by simp)]; decide), ih (fun x hx => hA x (List.mem_cons_of_mem _ hx))]
    rfl

/-! the program's: words joined by dots, as long as they go on -/
def jn (p : Tok → Bool) : List Tok → Option (Bytes × List Tok)
  | [] => none
  | [x] => if p x = true then some (x.2, []) else none
  | x :: d :: r => if p x = true then (if isT d [46] = true then (jn p r).map fun y => (x.2 ++ d.2 ++ y.1, y.2) else some (x.2, d :: r)) else none
theorem jn_some (p : Tok → Bool) : ∀ {l : List Tok} {s : Bytes} {q : List Tok}, jn p l = some (s, q) → ∃ A, l = A ++ q ∧ altOk p A = true ∧ s = cat A
  | [], s, q, h => by cases h
  | [x], s, q, h => by
    rw [jn] at h
    by_cases hp : p x = true
    · rw [if_pos hp] at h
      simp only [Option.some.injEq, Prod.mk.injEq] at h
      obtain ⟨rfl, rfl⟩ := h
      exact ⟨[x], rfl, hp, by simp [cat]⟩
    · rw [if_neg hp] at h; cases h
  | x :: d :: r, s, q, h => by
    rw [jn] at h
    by_cases hp : p x = true
    · rw [if_pos hp] at h
      by_cases hd : isT d [46] = true
      · rw [if_pos hd] at h
        cases hr : jn p r with
        | none => rw [hr] at h; cases h
        | some y =>
          obtain ⟨s', q'⟩ := y
          rw [hr] at h
          simp only [Option.map_some, Option.some.injEq, Prod.mk.injEq] at h
          obtain ⟨rfl, rfl⟩ := h
          obtain ⟨A, h1, h2, h3⟩ := jn_some p hr
          refine ⟨x :: d :: A, by rw [h1]; rfl, ?_, ?_⟩
          · rw [altOk, hp, hd, h2]; rfl
          · rw [h3]; simp [cat]
      · rw [if_neg hd] at h
        simp only [Option.some.injEq, Prod.mk.injEq] at h
        obtain ⟨rfl, rfl⟩ := h
        exact ⟨[x], rfl, hp, by simp [cat]⟩
    · rw [if_neg hp] at h; cases h
theorem jn_of (p : Tok → Bool) : ∀ (A q : List Tok), altOk p A = true → (∀ d r, q = d :: r → isT d [46] = false) → jn p (A ++ q) = some (cat A, q)
  | [], q, h, _ => by cases h
  | [x], q, h, hq => by
    have hp : p x = true := h
    cases q with
    | nil => rw [List.append_nil, jn, if_pos hp]; simp [cat]
    | cons d r =>
      rw [show [x] ++ d :: r = x :: d :: r from rfl, jn, if_pos hp, if_neg (by rw [hq d r rfl]; decide)]
      simp [cat]
  | x :: d :: A, q, h, hq => by
    rw [altOk, Bool.and_eq_true, Bool.and_eq_true] at h
    rw [show (x :: d :: A) ++ q = x :: d :: (A ++ q) from rfl, jn, if_pos h.1.1, if_pos h.1.2, jn_of p A q h.2 hq]
    simp [cat]
def resJ (w : Bytes) : Option (Bytes × List Tok) → ByteArray × List S98 × Bool
  | none => (str [], [], false)
  | some (s, q) => (str (w ++ s), q.map tok142, true)
def pOf (b : Bool) : Tok → Bool := fun t => if b = true then atomT t else wordT t
theorem rd142_0 (x : Tok) (r : List Tok) : rd_T98 ((x :: r).map tok142) 0 = tok142 x := rfl
theorem beq_str (t : Bytes) (a : Array UInt8) : ((str t).toList == (⟨a⟩ : ByteArray).toList) = (t == a.toList) := by
  rw [toList_str, toList_bs]
  rfl
def headIs (l : List Tok) (s : Bytes) : Bool := match l with | [] => false | t :: _ => isT t s
theorem addris_is (l : List Tok) (a : Array UInt8) : addr_is.f (l.map tok142) (⟨a⟩ : ByteArray) = some (headIs l a.toList) := by
  unfold addr_is.f
  cases l with
  | nil => rw [if_neg (by simp)]; rfl
  | cons t r =>
    rw [if_pos (by simp <;> omega), if_pos (by simp <;> omega), rd142_0]
    unfold headIs isT tok142
    simp only []
    rw [beq_str]
theorem joined_is (b : Bool) : ∀ (n k : Nat) (l : List Tok) (w : Bytes), l.length ≤ n → 2 * n + 2 ≤ k → w.length + (cat l).length ≤ 1000000 →
    addr_joined.l0 k (l.map tok142) b (str w) = some (resJ w (jn (pOf b) l))
  | n, k, [], w, hn, hk, hw => by
    obtain ⟨k, rfl⟩ : ∃ j, k = j + 2 := ⟨k - 2, by omega⟩
    rw [addr_joined.l0, if_pos (by simp), addr_joined.j1, if_pos rfl]
    rfl
  | 0, k, x :: r, w, hn, hk, hw => by simp at hn
  | n + 1, k, x :: r, w, hn, hk, hw => by
    obtain ⟨k, rfl⟩ : ∃ j, k = j + 2 := ⟨k - 2, by omega⟩
    simp only [List.length_cons] at hn
    have hsel : addr_joined.l0 (k + 2) ((x :: r).map tok142) b (str w) = addr_joined.j1 (k + 1) ((x :: r).map tok142) b (str w) (!(pOf b x)) := by
      rw [addr_joined.l0, if_neg (by simp <;> omega), if_pos (by simp <;> omega), rd142_0]
      have e3 : ((tok142 x).f0 = 3) = (x.1 = 3) := rfl
      unfold pOf atomT wordT
      by_cases h3 : x.1 = 3
      · rw [if_pos (by rw [e3]; exact h3)]
        cases b <;> simp [h3]
      · rw [if_neg (by rw [e3]; exact h3)]
        have q3 : (x.1 == 3) = false := by simpa using h3
        cases b with
        | true => rw [if_pos rfl]; simp [q3, tok142, bne]
        | false => rw [if_neg (by decide)]; simp [q3, bne]
    have hc : (cat (x :: r)).length = x.2.length + (cat r).length := by simp [cat]
    rw [hsel, addr_joined.j1]
    cases hp : pOf b x with
    | false =>
      rw [show (!false) = true from rfl, if_pos rfl]
      have : jn (pOf b) (x :: r) = none := by
        cases r with
        | nil => rw [jn, if_neg (by rw [hp]; decide)]
        | cons d r => rw [jn, if_neg (by rw [hp]; decide)]
      rw [this]
      rfl
    | true =>
      rw [show (!true) = false from rfl, if_neg (by decide), if_pos (by simp <;> omega), rd142_0, show (tok142 x).f1 = str x.2 from rfl, str_app, if_pos (by rw [str_size, str_size]; omega), if_pos (by simp <;> omega), Option.bind_some,
        show ((x :: r).map tok142).drop 1 = r.map tok142 from rfl, addris_is, Option.bind_some]
      cases r with
      | nil =>
        rw [show headIs [] (#[46] : Array UInt8).toList = false from rfl, if_neg (by decide), jn, if_pos hp]
        rfl
      | cons d r =>
        simp only [List.length_cons] at hn
        have hc2 : (cat (d :: r)).length = d.2.length + (cat r).length := by simp [cat]
        rw [jn, if_pos hp]
        cases hd : isT d [46] with
        | false =>
          rw [show headIs (d :: r) (#[46] : Array UInt8).toList = isT d [46] from rfl, hd, if_neg (by decide), if_neg (by decide)]
          rfl
        | true =>
          have hd2 : d.2 = [46] := by
            unfold isT at hd
            rw [Bool.and_eq_true, beq_iff_eq, beq_iff_eq] at hd
            exact hd.2
          rw [show headIs (d :: r) (#[46] : Array UInt8).toList = isT d [46] from rfl, hd, if_pos rfl, if_pos (by rw [str_size]; rw [hd2] at hc2; simp at hc2 ⊢ <;> omega), if_pos (by simp <;> omega), if_pos rfl,
            show ((d :: r).map tok142).drop 1 = r.map tok142 from rfl, show (⟨#[46]⟩ : ByteArray) = str [46] from rfl, str_app]
          rw [joined_is b n k r (w ++ x.2 ++ [46]) (by omega) (by omega) (by rw [hd2] at hc2; simp at hc2 ⊢ <;> omega)]
          cases hj : jn (pOf b) r with
          | none => rfl
          | some y =>
            obtain ⟨s, q⟩ := y
            simp [resJ, hd2]
theorem no64 {p : Tok → Bool} (hp : ∀ t, p t = true → t.1 ≠ 3) : ∀ {A : List Tok}, altOk p A = true → ∀ x ∈ A, isT x [64] = false
  | [], h, x, hx => by cases hx
  | [y], h, x, hx => by
    have : x = y := by simpa using hx
    subst this
    have := hp x h
    unfold isT
    simp [this]
  | y :: d :: A, h, x, hx => by
    rw [altOk, Bool.and_eq_true, Bool.and_eq_true] at h
    rcases List.mem_cons.1 hx with e | e
    · rw [e]
      have := hp y h.1.1
      unfold isT
      simp [this]
    · rcases List.mem_cons.1 e with e | e
      · rw [e]
        have := h.1.2
        unfold isT at this ⊢
        rw [Bool.and_eq_true, beq_iff_eq, beq_iff_eq] at this
        rw [this.2]
        simp
      · exact no64 hp h.2 x e
theorem addrOf_is (l : List Tok) (hl : l.length ≤ 100000) (hc : (cat l).length ≤ 100000) (k : Nat) (hk : 2 * l.length + 400000 ≤ k) : addr_Of.f k (l.map tok142) = some (ofT l) := by
  obtain ⟨k, rfl⟩ : ∃ j, k = j + 2 := ⟨k - 2, by omega⟩
  have bad : ∀ (k : Nat) (x : List S98) (y : ByteArray), addr_Of.j0 (k + 1) x y true = some noAddr := by
    intro k x y
    rw [addr_Of.j0, if_pos rfl]
    rfl
  have bad1 : ∀ (k : Nat) (x y : ByteArray), addr_Of.j1 (k + 1) x y true = some noAddr := by
    intro k x y
    rw [addr_Of.j1, if_pos rfl]
    rfl
  unfold addr_Of.f addr_joined.f
  rw [show (⟨#[]⟩ : ByteArray) = str [] from rfl, joined_is false l.length (k + 2) l [] (Nat.le_refl _) (by omega) (by simp <;> omega), Option.bind_some]
  have hpf : pOf false = wordT := by funext t; rfl
  have hpt : pOf true = atomT := by funext t; rfl
  rw [hpf]
  have hword : ∀ t, wordT t = true → t.1 ≠ 3 := fun t h => by unfold wordT at h; simpa using h
  cases hj : jn wordT l with
  | none =>
    rw [show resJ [] none = (str [], [], false) from rfl, if_neg (by decide), bad]
    unfold ofT
    cases hs : atSplit l with
    | none => rfl
    | some x =>
      obtain ⟨A, B⟩ := x
      obtain ⟨t, h1, h2, h3⟩ := atSplit_some hs
      simp only []
      rw [if_neg]
      rintro ⟨g, _⟩
      have := jn_of wordT A (t :: B) g (fun d r e => by
        cases e
        unfold isT at h1 ⊢
        rw [Bool.and_eq_true, beq_iff_eq, beq_iff_eq] at h1
        rw [h1.2]
        simp)
      rw [← h2, hj] at this
      cases this
  | some y =>
    obtain ⟨s, q⟩ := y
    obtain ⟨A0, g1, g2, g3⟩ := jn_some wordT hj
    have hA0 := no64 hword g2
    rw [show resJ [] (some (s, q)) = (str s, q.map tok142, true) from rfl]
    simp only [if_true]
    rw [addris_is, Option.bind_some]
    have hother : (∀ t r, q = t :: r → isT t [64] = false) → ofT l = noAddr := by
      intro hq
      unfold ofT
      cases hs : atSplit l with
      | none => rfl
      | some x =>
        obtain ⟨A, B⟩ := x
        obtain ⟨t, h1, h2, h3⟩ := atSplit_some hs
        simp only []
        rw [if_neg]
        rintro ⟨g, _⟩
        have hh := jn_of wordT A (t :: B) g (fun d r e => by
          cases e
          unfold isT at h1 ⊢
          rw [Bool.and_eq_true, beq_iff_eq, beq_iff_eq] at h1
          rw [h1.2]
          simp)
        rw [← h2, hj] at hh
        simp only [Option.some.injEq, Prod.mk.injEq] at hh
        have := hq t B hh.2
        rw [h1] at this
        cases this
    cases q with
    | nil =>
      rw [hother (fun t r e => by cases e)]
      exact bad _ _ _
    | cons t B =>
      simp only []
      rw [show headIs (t :: B) (#[64] : Array UInt8).toList = isT t [64] from rfl]
      cases ht : isT t [64] with
      | false =>
        rw [hother (fun t' r e => by cases e; exact ht)]
        exact bad _ _ _
      | true =>
        have hsp : atSplit l = some (A0, B) := by rw [g1]; exact atSplit_of ht hA0
        have hcl : (cat l).length = (cat A0).length + (t.2.length + (cat B).length) := by rw [g1]; simp [cat]
        have hll : l.length = A0.length + (B.length + 1) := by rw [g1]; simp
        rw [show (!true) = false from rfl, addr_Of.j0, if_neg (by decide), if_pos (by simp <;> omega), show ((t :: B).map tok142).drop 1 = B.map tok142 from rfl]
        unfold addr_joined.f
        rw [show (⟨#[]⟩ : ByteArray) = str [] from rfl, joined_is true B.length (k + 1) B [] (Nat.le_refl _) (by omega) (by simp <;> omega), Option.bind_some, hpt]
        unfold ofT
        rw [hsp]
        simp only []
        cases hj2 : jn atomT B with
        | none =>
          rw [show resJ [] none = (str [], [], false) from rfl, if_neg (by decide), bad1, if_neg]
          rintro ⟨_, g⟩
          have := jn_of atomT B [] g (fun d r e => by cases e)
          rw [List.append_nil, hj2] at this
          cases this
        | some y =>
          obtain ⟨s2, q2⟩ := y
          obtain ⟨A2, f1, f2, f3⟩ := jn_some atomT hj2
          rw [show resJ [] (some (s2, q2)) = (str s2, q2.map tok142, true) from rfl]
          simp only [if_true]
          cases q2 with
          | cons d r =>
            rw [show decide (((((d :: r).map tok142).length : Nat) : Int) > 0) = true by simp <;> omega, bad1, if_neg]
            rintro ⟨_, g⟩
            have := jn_of atomT B [] g (fun d r e => by cases e)
            rw [List.append_nil, hj2] at this
            simp at this
          | nil =>
            rw [List.append_nil] at f1
            subst f1
            rw [show decide ((((([] : List Tok).map tok142).length : Nat) : Int) > 0) = false from rfl, addr_Of.j1, if_neg (by decide), if_pos ⟨g2, f2⟩, f3, g3]
            have hb : (cat B).length ≤ 100000 := by omega
            have ha : (cat A0).length ≤ 100000 := by omega
            rw [glyphFold_is _ (by rw [str_size]; omega), bs_str, Option.bind_some, addrWhy_is _ _ (by rw [str_size]; omega) (by rw [str_size, fold_length]; omega) k (by rw [str_size]; omega), Option.bind_some]
            unfold finish
            by_cases hw : why (str (cat A0)) (str (fold (cat B))) = 0
            · rw [if_pos hw, if_pos hw]
            · rw [if_neg hw, if_neg hw]
              rfl
end Go.Proofs.YtbjbpgmjijeppaaDoor.Pl
set_option linter.unusedVariables false
set_option linter.unusedSimpArgs false
namespace Go.Proofs.YtbjbpgmjijeppaaDoor.Pl
open Go.RowKit Go.Proofs.YtbjbpgmjijeppaaDoorW.PrintWords Go.Proofs.YtbjbpgmjijeppaaDoor.Fn

/-! how many tokens there are, and how long they are -/
def pend : Sc → Nat
  | .atom _ => 1
  | _ => 0
theorem cat_app (a b : List Tok) : cat (a ++ b) = cat a ++ cat b := by simp [cat]
theorem tail_len {c : UInt8} {l : Bytes} (h : foldAt (c :: l) = true) : l.tail.length + 1 = l.length := by
  cases l with
  | nil => cases h
  | cons b l => simp
theorem stepOut_bound {acc : List Tok} {c : UInt8} {l : Bytes} {a : List Tok} {t : Sc} {r : Bytes} (h : stepOut acc c l = .inl (a, t, r)) :
    a.length + pend t + r.length ≤ acc.length + (l.length + 1) ∧ (cat a).length + (wOf t).length + r.length ≤ (cat acc).length + (l.length + 1) := by
  unfold stepOut at h
  by_cases c1 : foldAt (c :: l) = true
  · rw [if_pos c1] at h
    have := tail_len c1
    simp only [Sum.inl.injEq, Prod.mk.injEq] at h
    obtain ⟨rfl, rfl, rfl⟩ := h
    simp only [pend, wOf, List.length_nil]
    omega
  · rw [if_neg c1] at h
    repeat' split at h
    all_goals (first | (cases h; done) | (simp only [Sum.inl.injEq, Prod.mk.injEq] at h; obtain ⟨rfl, rfl, rfl⟩ := h; simp only [pend, wOf, cat_app, List.length_append, List.length_nil, List.length_cons]; simp [cat]; try omega))
theorem step_bound {acc : List Tok} {st : Sc} {c : UInt8} {l : Bytes} {a : List Tok} {t : Sc} {r : Bytes} (h : step acc st c l = .inl (a, t, r)) :
    a.length + pend t + r.length ≤ acc.length + pend st + (l.length + 1) ∧ (cat a).length + (wOf t).length + r.length ≤ (cat acc).length + (wOf st).length + (l.length + 1) := by
  cases st with
  | out =>
    have := stepOut_bound h
    rw [show pend .out = 0 from rfl, show wOf .out = [] from rfl, List.length_nil]
    omega
  | atom w =>
    unfold step at h
    simp only [] at h
    by_cases ha : atomic c = true
    · rw [if_pos ha] at h
      simp only [Sum.inl.injEq, Prod.mk.injEq] at h
      obtain ⟨rfl, rfl, rfl⟩ := h
      simp only [pend, wOf, List.length_append, List.length_cons, List.length_nil]
      omega
    · rw [if_neg ha] at h
      have := stepOut_bound h
      rw [cat_app] at this
      rw [show pend (.atom w) = 1 from rfl, show wOf (.atom w) = w from rfl]
      simp only [List.length_append, List.length_cons, List.length_nil] at this ⊢
      have e : (cat [((1 : Int), w)]).length = w.length := by simp [cat]
      omega
  | quot w b =>
    cases b with
    | true =>
      unfold step at h
      simp only [] at h
      repeat' split at h
      all_goals (first | (cases h; done) | (simp only [Sum.inl.injEq, Prod.mk.injEq] at h; obtain ⟨rfl, rfl, rfl⟩ := h; simp only [pend, wOf, List.length_append, List.length_cons, List.length_nil]; omega))
    | false =>
      unfold step at h
      simp only [] at h
      by_cases c1 : foldAt (c :: l) = true
      · rw [if_pos c1] at h
        have := tail_len c1
        simp only [Sum.inl.injEq, Prod.mk.injEq] at h
        obtain ⟨rfl, rfl, rfl⟩ := h
        simp only [pend, wOf]
        omega
      · rw [if_neg c1] at h
        have e : (cat [((2 : Int), w)]).length = w.length := by simp [cat]
        repeat' split at h
        all_goals (first | (cases h; done) | (simp only [Sum.inl.injEq, Prod.mk.injEq] at h; obtain ⟨rfl, rfl, rfl⟩ := h; simp only [pend, wOf, cat_app, List.length_append, List.length_cons, List.length_nil]; omega))
  | comm d b =>
    cases b with
    | true =>
      unfold step at h
      simp only [] at h
      repeat' split at h
      all_goals (first | (cases h; done) | (simp only [Sum.inl.injEq, Prod.mk.injEq] at h; obtain ⟨rfl, rfl, rfl⟩ := h; simp only [pend, wOf, List.length_append, List.length_cons, List.length_nil]; omega))
    | false =>
      unfold step commAfter at h
      simp only [] at h
      by_cases c1 : foldAt (c :: l) = true
      · rw [if_pos c1] at h
        have := tail_len c1
        simp only [Sum.inl.injEq, Prod.mk.injEq] at h
        obtain ⟨rfl, rfl, rfl⟩ := h
        simp only [pend, wOf]
        omega
      · rw [if_neg c1] at h
        generalize (if c = 40 then d + 1 else if c = 41 then d - 1 else d) = d' at h
        repeat' split at h
        all_goals (first | (cases h; done) | (simp only [Sum.inl.injEq, Prod.mk.injEq] at h; obtain ⟨rfl, rfl, rfl⟩ := h; simp only [pend, wOf, List.length_nil]; omega))
theorem scan_bound : ∀ (k : Nat) (acc : List Tok) (st : Sc) (l : Bytes), l.length ≤ k →
    (scan k acc st l).1.length ≤ acc.length + pend st + l.length ∧ (cat (scan k acc st l).1).length ≤ (cat acc).length + (wOf st).length + l.length
  | k, acc, st, [], _ => by
    have e : scan k acc st [] = endOf acc st := by cases k <;> rfl
    rw [e]
    cases st <;> simp [endOf, pend, wOf, cat]
  | 0, acc, st, c :: l, h => by simp at h
  | k + 1, acc, st, c :: l, h => by
    rw [scan]
    simp only [List.length_cons] at h
    cases hs : step acc st c l with
    | inr e => simp [cat]
    | inl x =>
      obtain ⟨a, t, r⟩ := x
      have h1 := step_bound hs
      have h2 := step_le hs
      have ih := scan_bound k a t r (by omega)
      simp only [List.length_cons]
      omega
theorem scanL_bound (l : Bytes) : (scanL [] .out l).1.length ≤ l.length ∧ (cat (scanL [] .out l).1).length ≤ l.length := by
  have := scan_bound l.length [] .out l (Nat.le_refl _)
  unfold scanL
  simp only [List.length_nil, pend, wOf, cat, List.flatMap_nil] at this ⊢
  omega
end Go.Proofs.YtbjbpgmjijeppaaDoor.Pl
set_option linter.unusedVariables false
set_option linter.unusedSimpArgs false
namespace Go.Proofs.YtbjbpgmjijeppaaDoor.Pl
open Go.RowKit Go.Proofs.YtbjbpgmjijeppaaDoorW.PrintWords Go.Proofs.YtbjbpgmjijeppaaDoor.Fn

end Go.Proofs.YtbjbpgmjijeppaaDoor.Pl
set_option linter.unusedVariables false
set_option linter.unusedSimpArgs false
namespace Go.Proofs.YtbjbpgmjijeppaaDoor.Pl
open Go.RowKit Go.Proofs.YtbjbpgmjijeppaaDoorW.PrintWords Go.Proofs.YtbjbpgmjijeppaaDoor.Fn

/-! What is written is read again. -/
end Go.Proofs.YtbjbpgmjijeppaaDoor.Pl
set_option linter.unusedVariables false
set_option linter.unusedSimpArgs false
namespace Go.Proofs.YtbjbpgmjijeppaaDoor.Pl
open Go.RowKit Go.Proofs.YtbjbpgmjijeppaaDoorW.PrintWords Go.Proofs.YtbjbpgmjijeppaaDoor.Fn

/-! Layer 12: what is scanned: text bytes alone; quoted text is scanned again; two texts, side by side. -/
def okTok (t : Tok) : Prop := t.1 = 3 → ∃ c, t.2 = [c]
theorem stepOut_ok {acc : List Tok} {c : UInt8} {l : Bytes} {a : List Tok} {t : Sc} {r : Bytes} (h : stepOut acc c l = .inl (a, t, r)) (ha : ∀ x ∈ acc, okTok x) : ∀ x ∈ a, okTok x := by
  unfold stepOut at h
  repeat' split at h
  all_goals first
    | (cases h; done)
    | (cases h; exact ha)
    | (cases h
       intro x hx
       rcases List.mem_append.1 hx with h1 | h1
       · exact ha x h1
       · rw [List.mem_singleton.1 h1]; exact fun _ => ⟨_, rfl⟩)
theorem okTok_add {l : List Tok} {t : Tok} (h : ∀ x ∈ l, okTok x) (ht : okTok t) : ∀ x ∈ l ++ [t], okTok x := by
  intro x hx
  rcases List.mem_append.1 hx with h1 | h1
  · exact h x h1
  · rw [List.mem_singleton.1 h1]; exact ht
theorem step_ok {acc : List Tok} {st : Sc} {c : UInt8} {l : Bytes} {a : List Tok} {t : Sc} {r : Bytes} (h : step acc st c l = .inl (a, t, r)) (ha : ∀ x ∈ acc, okTok x) : ∀ x ∈ a, okTok x := by
  cases st with
  | out => exact stepOut_ok h ha
  | atom w =>
    unfold step at h
    simp only [] at h
    split at h
    · cases h; exact ha
    · exact stepOut_ok h (okTok_add ha (fun e => by cases e))
  | quot w q =>
    cases q <;> unfold step at h <;> simp only [] at h <;> repeat' split at h
    all_goals first
      | (cases h; done)
      | (cases h; exact ha)
      | (cases h; exact okTok_add ha (fun e => by cases e))
  | comm d q =>
    cases q <;> unfold step at h <;> simp only [] at h <;> (try unfold commAfter at h) <;> repeat' split at h
    all_goals first
      | (cases h; done)
      | (cases h; exact ha)
theorem scan_ok : ∀ (k : Nat) (acc : List Tok) (st : Sc) (l : Bytes), (∀ x ∈ acc, okTok x) → ∀ x ∈ (scan k acc st l).1, okTok x
  | k, acc, st, [], ha => by
    have e : scan k acc st [] = endOf acc st := by cases k <;> rfl
    rw [e]
    cases st with
    | out => exact ha
    | atom w => exact okTok_add ha (fun e => by cases e)
    | quot w b => intro t ht; cases ht
    | comm d b => intro t ht; cases ht
  | 0, acc, st, c :: l, ha => by intro t ht; cases ht
  | k + 1, acc, st, c :: l, ha => by
    rw [scan]
    cases hs : step acc st c l with
    | inr e => intro t ht; cases ht
    | inl x =>
      obtain ⟨a, t, r⟩ := x
      exact scan_ok k a t r (step_ok hs ha)
end Go.Proofs.YtbjbpgmjijeppaaDoor.Pl
set_option linter.unusedVariables false
set_option linter.unusedSimpArgs false
namespace Go.Proofs.YtbjbpgmjijeppaaDoor.Pl
open Go.RowKit Go.Proofs.YtbjbpgmjijeppaaDoorW.PrintWords Go.Proofs.YtbjbpgmjijeppaaDoor.Fn

/-! Layer 14: boxes, by one machine over tokens. -/
abbrev BoxL := Bytes × Bytes × Bytes
abbrev StL := (List Tok × List BoxL) × Int
def stopB (c : UInt8) : Bool := c == 44 || (c == 59 || (c == 58 || (c == 60 || c == 62)))
def stopT (t : Tok) : Bool := t.1 == 3 && (match t.2 with | [c] => stopB c | _ => false)
def nonT (t : Tok) : Bool := !stopT t
def nameL (l : List Tok) : Bytes := Lib.join ((l.takeWhile wordT).map (·.2)) [32]
def failM (e : Int) : StL := (([], []), e)
def addressM (nm : Bytes) (l : List Tok) (bx : List BoxL) : StL :=
  if (ofT (l.takeWhile nonT)).2.2 ≠ 0 then failM (ofT (l.takeWhile nonT)).2.2
  else if bx.length = 100 then failM 8
  else ((l.dropWhile nonT, bx ++ [(nm, bs (ofT (l.takeWhile nonT)).1, bs (ofT (l.takeWhile nonT)).2.1)]), 0)
def angleM (x : StL) : StL := if x.2 ≠ 0 then x else if headIs x.1.1 [62] = true then ((x.1.1.tail, x.1.2), 0) else failM 130
def mailboxM (l : List Tok) (bx : List BoxL) : StL :=
  if headIs (l.dropWhile wordT) [60] = true then angleM (addressM (nameL l) (l.dropWhile wordT).tail bx) else addressM [] l bx
def groupM : Nat → List Tok → List BoxL → StL
  | 0, _, _ => failM 130
  | k + 1, l, bx => if headIs l [59] = true then ((l.tail, bx), 0)
    else if (mailboxM l bx).2 ≠ 0 then mailboxM l bx
    else if headIs (mailboxM l bx).1.1 [59] = true then groupM k (mailboxM l bx).1.1 (mailboxM l bx).1.2
    else if headIs (mailboxM l bx).1.1 [44] = true ∧ headIs (mailboxM l bx).1.1.tail [59] = false then groupM k (mailboxM l bx).1.1.tail (mailboxM l bx).1.2
    else failM 130
def itemM (l : List Tok) (bx : List BoxL) : StL :=
  if l.takeWhile wordT ≠ [] ∧ headIs (l.dropWhile wordT) [58] = true then groupM ((l.dropWhile wordT).tail.length + 1) (l.dropWhile wordT).tail bx else mailboxM l bx
def readM : Nat → List Tok → List BoxL → List BoxL × Int
  | 0, _, _ => ([], 130)
  | k + 1, l, bx => if (itemM l bx).2 ≠ 0 then ([], (itemM l bx).2)
    else if (itemM l bx).1.1 = [] then ((itemM l bx).1.2, 0)
    else if headIs (itemM l bx).1.1 [44] = true then readM k (itemM l bx).1.1.tail (itemM l bx).1.2
    else ([], 130)
def readT (l : List Tok) : List BoxL × Int := readM (l.length + 1) l []
def readL (s : Bytes) : List BoxL × Int := if (scanL [] .out s).2 ≠ 0 then ([], (scanL [] .out s).2) else readT (scanL [] .out s).1

/-! what stands behind -/
def sepC (m : List Tok) : Prop := m = [] ∨ ∃ c y, m = (3, [c]) :: y ∧ (c = 44 ∨ c = 59)
def sepM (m : List Tok) : Prop := m = [] ∨ ∃ y, m = (3, [44]) :: y
theorem sepM.c {m : List Tok} (h : sepM m) : sepC m := by
  rcases h with h | ⟨y, h⟩
  · exact .inl h
  · exact .inr ⟨44, y, h, .inl rfl⟩
theorem span_app {α : Type} (p : α → Bool) (m : List α) (hm : m = [] ∨ ∃ t r, m = t :: r ∧ p t = false) : ∀ l : List α, (l ++ m).takeWhile p = l.takeWhile p ∧ (l ++ m).dropWhile p = l.dropWhile p ++ m
  | [] => by
    rcases hm with rfl | ⟨t, r, rfl, h⟩
    · exact ⟨rfl, rfl⟩
    · simp [List.takeWhile, List.dropWhile, h]
  | x :: l => by
    obtain ⟨h1, h2⟩ := span_app p m hm l
    rw [List.cons_append, List.takeWhile_cons, List.takeWhile_cons, List.dropWhile_cons, List.dropWhile_cons, h1, h2]
    cases p x <;> simp
theorem sepC_non {m : List Tok} (h : sepC m) : m = [] ∨ ∃ t r, m = t :: r ∧ nonT t = false := by
  rcases h with h | ⟨c, y, h, hc⟩
  · exact .inl h
  · refine .inr ⟨_, _, h, ?_⟩
    rcases hc with rfl | rfl <;> rfl
theorem sepC_word {m : List Tok} (h : sepC m) : m = [] ∨ ∃ t r, m = t :: r ∧ wordT t = false := by
  rcases h with h | ⟨c, y, h, hc⟩
  · exact .inl h
  · exact .inr ⟨_, _, h, rfl⟩
theorem headIs_sep {m : List Tok} (h : sepC m) (c : UInt8) (h1 : c ≠ 44) (h2 : c ≠ 59) : headIs m [c] = false := by
  rcases h with rfl | ⟨d, y, rfl, hd⟩
  · rfl
  · show isT (3, [d]) [c] = false
    unfold isT
    rcases hd with rfl | rfl
    · simp [Ne.symm h1]
    · simp [Ne.symm h2]
theorem headIs_app {m : List Tok} (h : sepC m) (c : UInt8) (h1 : c ≠ 44) (h2 : c ≠ 59) (l : List Tok) : headIs (l ++ m) [c] = headIs l [c] := by
  cases l with
  | nil => exact headIs_sep h c h1 h2
  | cons t l => rfl
theorem headIs_appM {m : List Tok} (h : sepM m) (c : UInt8) (h1 : c ≠ 44) (l : List Tok) : headIs (l ++ m) [c] = headIs l [c] := by
  cases l with
  | nil =>
    rcases h with rfl | ⟨y, rfl⟩
    · rfl
    · show isT (3, [44]) [c] = headIs [] [c]
      simp [isT, headIs, Ne.symm h1]
  | cons t l => rfl
theorem headIs_ne {l : List Tok} {s : Bytes} (h : headIs l s = true) : ∃ t r, l = t :: r ∧ isT t s = true := by
  cases l with
  | nil => cases h
  | cons t r => exact ⟨t, r, rfl, h⟩
theorem address_more {nm : Bytes} {l l' : List Tok} {bx bx' : List BoxL} (h : addressM nm l bx = ((l', bx'), 0)) :
    ∃ x : BoxL, bx' = bx ++ [x] ∧ l'.length < l.length ∧ ∀ (m : List Tok) (b : List BoxL), sepC m → b.length < 100 → addressM nm (l ++ m) b = ((l' ++ m, b ++ [x]), 0) := by
  unfold addressM at h
  by_cases h0 : (ofT (l.takeWhile nonT)).2.2 ≠ 0
  · rw [if_pos h0] at h; exact absurd (show (ofT (l.takeWhile nonT)).2.2 = 0 from congrArg Prod.snd h) h0
  · rw [if_neg h0] at h
    by_cases h1 : bx.length = 100
    · rw [if_pos h1] at h; cases h
    · rw [if_neg h1] at h
      cases h
      refine ⟨_, rfl, ?_, fun m b hm hb => ?_⟩
      · cases l with
        | nil => exact absurd (show (ofT (List.takeWhile nonT [])).2.2 ≠ 0 by decide) h0
        | cons t r =>
          rw [List.takeWhile_cons] at h0
          rw [List.dropWhile_cons]
          cases ht : nonT t with
          | false => rw [ht] at h0; exact absurd (show (ofT []).2.2 ≠ 0 by decide) h0
          | true => simp only [if_true, List.length_cons]; have := (List.dropWhile_suffix nonT (l := r)).length_le; omega
      · obtain ⟨e1, e2⟩ := span_app nonT m (sepC_non hm) l
        unfold addressM
        rw [e1, e2, if_neg h0, if_neg (by omega)]
theorem mailbox_more {l l' : List Tok} {bx bx' : List BoxL} (h : mailboxM l bx = ((l', bx'), 0)) :
    ∃ x : BoxL, bx' = bx ++ [x] ∧ l'.length < l.length ∧ ∀ (m : List Tok) (b : List BoxL), sepC m → b.length < 100 → mailboxM (l ++ m) b = ((l' ++ m, b ++ [x]), 0) := by
  unfold mailboxM at h
  by_cases h0 : headIs (l.dropWhile wordT) [60] = true
  · rw [if_pos h0] at h
    unfold angleM at h
    obtain ⟨t, r, hr, ht⟩ := headIs_ne h0
    rw [hr, List.tail_cons] at h
    obtain ⟨⟨⟨la, ba⟩, ea⟩, hA⟩ : ∃ x, addressM (nameL l) r bx = x := ⟨_, rfl⟩
    rw [hA] at h
    by_cases h1 : ea ≠ 0
    · rw [if_pos h1] at h; cases h; exact absurd rfl h1
    · rw [if_neg h1] at h
      have h1' : ea = 0 := by simpa using h1
      subst h1'
      by_cases h2 : headIs la [62] = true
      · rw [if_pos h2] at h
        cases h
        obtain ⟨x, rfl, hlt, hm⟩ := address_more hA
        obtain ⟨t2, r2, hr2, ht2⟩ := headIs_ne h2
        have hlen : (l.dropWhile wordT).length ≤ l.length := (List.dropWhile_suffix wordT (l := l)).length_le
        rw [hr, List.length_cons] at hlen
        refine ⟨x, rfl, by show la.tail.length < l.length; rw [List.length_tail]; omega, fun m b hs hb => ?_⟩
        obtain ⟨e1, e2⟩ := span_app wordT m (sepC_word hs) l
        unfold mailboxM
        rw [e2, headIs_app hs 60 (by decide) (by decide), if_pos h0, hr, List.cons_append, List.tail_cons, show nameL (l ++ m) = nameL l by unfold nameL; rw [e1], hm m b hs hb]
        unfold angleM
        rw [if_neg (by simp), headIs_app hs 62 (by decide) (by decide), if_pos h2, hr2]
        rfl
      · rw [if_neg h2] at h; cases h
  · rw [if_neg h0] at h
    obtain ⟨x, rfl, hlt, hm⟩ := address_more h
    refine ⟨x, rfl, hlt, fun m b hs hb => ?_⟩
    obtain ⟨e1, e2⟩ := span_app wordT m (sepC_word hs) l
    unfold mailboxM
    rw [e2, headIs_app hs 60 (by decide) (by decide), if_neg h0]
    exact hm m b hs hb
theorem group_more : ∀ (k : Nat) {l l' : List Tok} {bx bx' : List BoxL}, groupM k l bx = ((l', bx'), 0) →
    ∃ d : List BoxL, bx' = bx ++ d ∧ l'.length < l.length ∧ ∀ (k' : Nat) (m : List Tok) (b : List BoxL), sepM m → l.length < k' → b.length + d.length ≤ 100 → groupM k' (l ++ m) b = ((l' ++ m, b ++ d), 0)
  | 0, l, l', bx, bx', h => by cases h
  | k + 1, l, l', bx, bx', h => by
    rw [groupM] at h
    by_cases c1 : headIs l [59] = true
    · rw [if_pos c1] at h
      cases h
      obtain ⟨t, r, rfl, ht⟩ := headIs_ne c1
      refine ⟨[], by simp, by simp, fun k' m b hs hk hb => ?_⟩
      obtain ⟨k', rfl⟩ : ∃ j, k' = j + 1 := ⟨k' - 1, by omega⟩
      rw [groupM, if_pos (show headIs (t :: r ++ m) [59] = true from c1)]
      simp
    rw [if_neg c1] at h
    obtain ⟨⟨⟨l1, b1⟩, e1⟩, hA⟩ : ∃ x, mailboxM l bx = x := ⟨_, rfl⟩
    rw [hA] at h
    by_cases c2 : e1 ≠ 0
    · rw [if_pos c2] at h; cases h; exact absurd rfl c2
    rw [if_neg c2] at h
    have c2' : e1 = 0 := by simpa using c2
    subst c2'
    obtain ⟨x, rfl, hlt, hm⟩ := mailbox_more hA
    simp only [] at h
    by_cases c3 : headIs l1 [59] = true
    · rw [if_pos c3] at h
      obtain ⟨d, rfl, hl2, hg⟩ := group_more k h
      refine ⟨x :: d, by simp, by omega, fun k' m b hs hk hb => ?_⟩
      simp only [List.length_cons] at hb
      obtain ⟨k', rfl⟩ : ∃ j, k' = j + 1 := ⟨k' - 1, by omega⟩
      rw [groupM, headIs_appM hs 59 (by decide), if_neg c1, hm m b hs.c (by omega)]
      simp only []
      rw [if_neg (by simp), headIs_appM hs 59 (by decide), if_pos c3, hg k' m _ hs (by omega) (by rw [List.length_append, List.length_singleton]; omega)]
      simp
    rw [if_neg c3] at h
    by_cases c4 : headIs l1 [44] = true ∧ headIs l1.tail [59] = false
    · rw [if_pos c4] at h
      obtain ⟨t, r, rfl, ht⟩ := headIs_ne c4.1
      obtain ⟨d, rfl, hl2, hg⟩ := group_more k h
      simp only [List.tail_cons, List.length_cons] at hl2 c4 hlt hg
      refine ⟨x :: d, by simp, by omega, fun k' m b hs hk hb => ?_⟩
      simp only [List.length_cons] at hb
      obtain ⟨k', rfl⟩ : ∃ j, k' = j + 1 := ⟨k' - 1, by omega⟩
      rw [groupM, headIs_appM hs 59 (by decide), if_neg c1, hm m b hs.c (by omega)]
      refine (if_neg (by simp)).trans ((if_neg (show ¬ headIs (t :: (r ++ m)) [59] = true from c3)).trans ((if_pos (show headIs (t :: (r ++ m)) [44] = true ∧ headIs (r ++ m) [59] = false from ⟨c4.1, by rw [headIs_appM hs 59 (by decide)]; exact c4.2⟩)).trans ?_))
      show groupM k' (r ++ m) (b ++ [x]) = _
      rw [hg k' m _ hs (by omega) (by rw [List.length_append, List.length_singleton]; omega)]
      simp
    · rw [if_neg c4] at h; cases h
theorem item_more {l l' : List Tok} {bx bx' : List BoxL} (h : itemM l bx = ((l', bx'), 0)) :
    ∃ d : List BoxL, bx' = bx ++ d ∧ l'.length < l.length ∧ ∀ (m : List Tok) (b : List BoxL), sepM m → b.length + d.length ≤ 100 → itemM (l ++ m) b = ((l' ++ m, b ++ d), 0) := by
  unfold itemM at h
  by_cases c1 : l.takeWhile wordT ≠ [] ∧ headIs (l.dropWhile wordT) [58] = true
  · rw [if_pos c1] at h
    obtain ⟨t, r, hr, ht⟩ := headIs_ne c1.2
    rw [hr, List.tail_cons] at h
    obtain ⟨d, rfl, hl, hg⟩ := group_more _ h
    have hlen : (l.dropWhile wordT).length ≤ l.length := (List.dropWhile_suffix wordT (l := l)).length_le
    rw [hr, List.length_cons] at hlen
    refine ⟨d, rfl, by omega, fun m b hs hb => ?_⟩
    obtain ⟨e1, e2⟩ := span_app wordT m (sepC_word hs.c) l
    unfold itemM
    rw [e1, e2, headIs_appM hs 58 (by decide), if_pos c1, hr, List.cons_append, List.tail_cons]
    exact hg _ m b hs (by rw [List.length_append]; omega) hb
  · rw [if_neg c1] at h
    obtain ⟨x, rfl, hlt, hm⟩ := mailbox_more h
    refine ⟨[x], rfl, hlt, fun m b hs hb => ?_⟩
    obtain ⟨e1, e2⟩ := span_app wordT m (sepC_word hs.c) l
    unfold itemM
    rw [e1, e2, headIs_appM hs 58 (by decide), if_neg c1]
    exact hm m b hs.c (by simp only [List.length_cons, List.length_nil] at hb; omega)
end Go.Proofs.YtbjbpgmjijeppaaDoor.Pl
set_option linter.unusedVariables false
set_option linter.unusedSimpArgs false
namespace Go.Proofs.YtbjbpgmjijeppaaDoor.Pl
open Go.RowKit Go.Proofs.YtbjbpgmjijeppaaDoorW.PrintWords Go.Proofs.YtbjbpgmjijeppaaDoor.Fn

/-! Layer 14: what is shown is read again. -/
def phraseL (n : Bytes) : Bytes := if (splitL 32 n).all atomL = true then n else quote n
def showB (x : BoxL) : Bytes := if x.1 = [] then textL x.2.1 x.2.2 else phraseL x.1 ++ (32 :: 60 :: (textL x.2.1 x.2.2 ++ [62]))
theorem join_one (p s : Bytes) : Lib.join [p] s = p := by simp [Lib.join, List.intercalate]
theorem join_cons2 (p q : Bytes) (r : List Bytes) (s : Bytes) : Lib.join (p :: q :: r) s = p ++ s ++ Lib.join (q :: r) s := by simp [Lib.join, List.intercalate]
theorem join_nil (s : Bytes) : Lib.join [] s = [] := by simp [Lib.join, List.intercalate]
/-! the tokens of a box -/
theorem span_all {α : Type} (p : α → Bool) (m : List α) (hm : m = [] ∨ ∃ t r, m = t :: r ∧ p t = false) (l : List α) (h : ∀ t ∈ l, p t = true) : (l ++ m).takeWhile p = l ∧ (l ++ m).dropWhile p = m := by
  obtain ⟨h1, h2⟩ := span_app p m hm l
  have e1 : l.takeWhile p = l := by
    clear h1 h2
    induction l with
    | nil => rfl
    | cons x l ih => rw [List.takeWhile_cons, h x (by simp)]; simp only [if_true]; rw [ih (fun t ht => h t (by simp [ht]))]
  have e2 : l.dropWhile p = [] := by
    clear h1 h2
    induction l with
    | nil => rfl
    | cons x l ih => rw [List.dropWhile_cons, h x (by simp)]; simp only [if_true]; exact ih (fun t ht => h t (by simp [ht])) (by rw [List.takeWhile_cons, h x (by simp)] at e1; simpa using e1)
  rw [h1, h2, e1, e2]
  exact ⟨rfl, rfl⟩
/-! shown and read -/
/-! what is read is good -/
/-! how many there are -/
end Go.Proofs.YtbjbpgmjijeppaaDoor.Pl
set_option linter.unusedVariables false
namespace Go.Proofs.YtbjbpgmjijeppaaDoor
open Go.ChangeShapes Go.WideShapes Go.ChangeAt Go.RowKit

/-! What all rows of this seat share: a world that meets the condition; the premises as the walks want them. -/
theorem own : ownKnob Tryd.prog.godebug = none := by kernel_rfl
theorem laidOut : laidOutB Tryd.prog = true := by kernel_rfl
def listed : List (String × DataW Unit) := [("unicode/utf8.acceptRanges", Rows.laid_unicode_utf8_acceptRanges), ("unicode/utf8.first", Rows.laid_unicode_utf8_first)]
noncomputable def laidWorld (os : Os) : World :=
  let w0 := World.holding Tryd.prog os ⟨#[], #[], []⟩
  let put (h : Array Obj) (g : Nat) (cs : Array Value) : Array Obj := h.modify g fun
    | .cells _ t frozen => .cells cs t frozen
    | o => o
  let h1 := put w0.heap 1 (Lib.firstTab.map fun z => Value.int .u8 z).toArray
  let h2 := put h1 2 ((List.range 16).flatMap fun i => [Value.int .u8 (Lib.accLo i), Value.int .u8 (Lib.accHi i)]).toArray
  { w0 with heap := h2 }
set_option maxRecDepth 100000 in
theorem laid_met (os : Os) (args : Array Value) : laidMetH Tryd.prog listed ((laidWorld os).forCall (fun _ _ => 0) ⟨#[], args, []⟩).memory :=
  laidMetH_of_parts (laidMet_of_run' 8 (by kernel_rfl) (by kernel_rfl)) (by kernel_rfl)

theorem lift_both {H : Type} {enc : TypeId × Value → H} {a : Assume} {C : Checked} {os : Os} {f : FuncId} {fn : Func} {s : ChangeSpec} {conds : List PathCond} {apart fresh handsOn again : Bool} {X : World → Array Value → Prop}
    (hX : ∀ (w w' : World) (args : Array Value), w.heap = w'.heap → X w args → X w' args)
    (own : ownKnob C.prog.godebug = none) (started : os.Started) (noInit : C.prog.inits.idxOf? f = none) (hfn : C.prog.funcs[f]? = some fn)
    (witness : ∃ (w : World) (tape : Tape) (i : Input), w.os = os ∧ (w.forCall tape i).Shaped C.prog ∧ i.vars = [] ∧ Input.okWide C.prog (w.forCall tape i) .any w.heap.size f i ∧
      ((s.pre enc C.prog fn conds apart (w.forCall tape i).memory i.args ∧ X (w.forCall tape i).memory i.args) ∧ sizedMet enc C.prog fn (OpenSpec.ofChange s) apart (w.forCall tape i).memory i.args) ∧ a.holds C.prog (lone (Frame.enter C.prog f i.args .normal) [] (w.forCall tape i)))
    (contract : ∀ (W : World) (base : Nat) (args : Array Value) (ds gs : List (DataW H)) (before : List MemPlace),
      (∀ (j : Nat) t v, fn.params[j]? = some t → args[j]? = some v → Value.okWide C.prog W .any base t v) →
      DataW.Whole enc C.prog fn.params.toList s.vars apart W args.toList ds gs before →
      (DataW.weightsEach C.prog (fn.params.toList ++ s.plain.varTypes C.prog) (ds ++ gs)).all (· ≤ reachBytes) = true → X W args → W.ShapedOpen C.prog →
      Calls C.prog f args W fun e W' => ∃ v, e = .returned v ∧ s.post enc C.prog fn apart fresh handsOn again W args v W') :
    ReturnsInHanded a C os f .any (fun w args => (s.pre enc C.prog fn conds apart w args ∧ X w args) ∧ sizedMet enc C.prog fn (OpenSpec.ofChange s) apart w args) (s.post enc C.prog fn apart fresh handsOn again) := by
  refine returnsInHanded_of_calls own started noInit witness ?_
  intro w tape i _ hsh _ hok hpre _
  obtain ⟨_, _, _, fn', hfn', _, _, _, _, hval⟩ := hok
  have e : fn' = fn := Option.some.inj (hfn'.symm.trans hfn)
  subst e
  obtain ⟨⟨⟨ds, gs, before, hw, _⟩, hx⟩, hz⟩ := hpre
  have hw' := DataW.Whole.of_heap (w' := w.forCall tape i) (by rfl) hw
  refine (contract (w.forCall tape i) w.heap.size i.args ds gs before hval hw' (hz.weights hw) (hX _ _ _ (by rfl) hx) hsh).mono fun e W' ⟨v, he, hp⟩ => ?_
  subst he
  exact ChangeSpec.post_blind hp
end Go.Proofs.YtbjbpgmjijeppaaDoor
set_option linter.unusedVariables false
namespace Go.Proofs.YtbjbpgmjijeppaaDoor.Fn
open Go.RowKit Go.Proofs.YtbjbpgmjijeppaaDoorW.PrintWords

/-! The package variables that the walks read: unicode/utf8's tables; internal/bytealg.MaxLen, some number. -/
structure Glob (w : World) : Prop where
  tabs : Lib.Utf8Tabs 1 2 w
  max : ∃ m : Int, w.cell? ⟨0, 0, none⟩ = some (.int .i64 m)
theorem cell_inside {w : World} {a : Addr} {v : Value} (h : w.cell? a = some v) : a.block < w.heap.size := by
  obtain ⟨o, ho, _⟩ := not_walk_of_cell h
  exact (Array.getElem?_eq_some_iff.1 ho).1
theorem Glob.below {w W : World} (h : Glob w) (hb : Below w.heap.size w W) : Glob W := by
  obtain ⟨m, hm⟩ := h.max
  exact ⟨Utf8Tabs_below h.tabs hb, m, (hb.cell (cell_inside hm)).trans hm⟩
theorem Glob.drawn {w W : World} (h : Glob w) (hd : Drawn0 w W) : Glob W := h.below hd.below
theorem glob_of {W : World} (hL : laidMetH Tryd.prog listed W) (hS : W.ShapedOpen Tryd.prog) : Glob W := by
  have hL' : laidMet Tryd.prog listed W := hL
  have h1 : Lib.VarReads Tryd.prog W "unicode/utf8.first" Lib.firstData := by
    have := Lib.laidMet.reads hL' (n := "unicode/utf8.first") (d := Rows.laid_unicode_utf8_first) (.tail _ (.head _))
    rw [show Rows.laid_unicode_utf8_first = Lib.firstData from Pinned.utf8First_eq] at this
    exact this
  have h2 : Lib.VarReads Tryd.prog W "unicode/utf8.acceptRanges" Lib.acceptData := Lib.laidMet.reads hL' (.head _)
  refine ⟨utf8Tabs_of_reads (ρ := Tryd.lays260_ren) Tryd.lays260 ⟨by kernel_rfl, by kernel_rfl, by kernel_rfl, by kernel_rfl, by kernel_rfl, by kernel_rfl, by kernel_rfl⟩ h1 h2, ?_⟩
  exact cell_of_shapedOpen_int (P := Tryd.prog) (g := 0) (t := 3) (zero := #[.int .i64 0]) hS (of_decide_eq_true (by kernel_rfl)) (by kernel_rfl) rfl (by kernel_rfl) (by kernel_rfl) Tryd.underlying3
end Go.Proofs.YtbjbpgmjijeppaaDoor.Fn
set_option linter.unusedVariables false
namespace Go.Proofs.YtbjbpgmjijeppaaDoor.Fn
open Go.RowKit Go.Proofs.YtbjbpgmjijeppaaDoorW.PrintWords

def strings_Contains.f (a0 a1 : ByteArray) : Option Bool := if a0.size < 4294967281 then some (Lib.contains a0.data.toList a1.data.toList) else none
theorem strings_Contains.calls (a0 a1 : ByteArray) (r : Bool) (w : World) (hG : Glob w) (h : strings_Contains.f a0 a1 = some r) :
    Calls Tryd.prog 110 #[.string a0, .string a1] w fun e w' => e = .returned (.bool r) ∧ Below w.heap.size w w' := by
  unfold strings_Contains.f at h
  by_cases hs : a0.size < 4294967281
  · rw [if_pos hs] at h
    have HR := Option.some.inj h
    subst HR
    obtain ⟨m, hm⟩ := hG.max
    refine (Tryd.strings_Contains a0 a1 m w hs hm).mono ?_
    rintro e w' ⟨rfl, rfl⟩
    exact ⟨rfl, Below.refl _ _⟩
  · rw [if_neg hs] at h
    exact absurd h (by simp)
end Go.Proofs.YtbjbpgmjijeppaaDoor.Fn
namespace Go.Proofs.YtbjbpgmjijeppaaDoor.Fn
open Go.RowKit Go.Proofs.YtbjbpgmjijeppaaDoorW.PrintWords Go.Proofs.YtbjbpgmjijeppaaDoorW.PrintLast Go.Proofs.YtbjbpgmjijeppaaDoorW.PrintMore
attribute [local go_sem] max2_int min2_int max_two min_two max_three min_three max_four min_four
set_option linter.unusedVariables false
set_option linter.unusedSimpArgs false

/-! ### mbx_stops: function 97 -/
def mbx_stops.f (a0_0 : Int) (a0_1 : ByteArray) : Option (Bool) := if a0_0 = 3 then ((strings_Contains.f (⟨#[44, 59, 58, 60, 62]⟩ : ByteArray) a0_1).bind fun t199 => (some t199)) else (some false)
set_option maxHeartbeats 8000000 in
set_option maxRecDepth 100000 in
theorem mbx_stops.calls (a0_0 : Int) (a0_1 : ByteArray) (r : Bool) (w : World) (hG : Glob w) (h : mbx_stops.f a0_0 a0_1 = some r) :
  Calls Tryd.prog 97 #[.agg #[.int .i64 a0_0, .string a0_1]] w fun e w' => e = .returned (.bool r) ∧ Below w.heap.size w w' := by
 have hu98 := Tryd.underlying98
 have HB := Aside0.mk (Below.refl w.heap.size w)
 have H : (if a0_0 = 3 then ((strings_Contains.f (⟨#[44, 59, 58, 60, 62]⟩ : ByteArray) a0_1).bind fun t199 => (some t199)) else (some false)) = some r := h
 clear h
 by_cases c2 : a0_0 = 3
 ·rw [if_pos c2] at H
  have c2b0 : (a0_0 == 3) = true := beq_iff_eq.mpr c2
  have c2b1 : (a0_0 != 3) = false := bne_eq_false_iff_eq.mpr c2
  clear c2
  replace H := Option.bind_eq_some_iff.mp H
  obtain ⟨t199, A30, H⟩ := H
  replace H : (some t199) = some r := H
  have A3 := Aside0.mk A30
  clear A30
  obtain rfl := Option.some.inj H
  go_enter Tryd.func97, Tryd.ntmps97
  go_wp2_with (first | ((with_reducible refine gate_dst (N := 1) rfl ?_); refine box_event ?hg (N := 1) ?hd (cs := #[.int .i64 a0_0, .string a0_1]) (t := 98) ?hr ?_; (case hd => rfl); (case hg => rfl); (case hr => first | (go_simp; done) | (go_simp; rfl)); intro gb198 hg w4 hbox hb; have n0_ := Aside0.mk (below_step bw hb); have n1_ := Aside0.mk (hbox); have n2_ := Aside0.mk ((by rw [hg]; exact (below_size bw) : w.heap.size ≤ gb198)); have n3_ := Aside0.mk ((by rw [hg]; exact (below_size bw) : w.heap.size ≤ gb198)); clear HB; have HB := n0_; have BK198 := n1_; have GW198 := n2_; have GE198 := n3_; clear n0_ n1_ n2_ n3_; clear hb hbox hg; have hcz5_0 : w4.cell? ⟨gb198, 0, none⟩ = some (.int .i64 a0_0) := (blk_cell BK198.out 0).trans rfl; have hcz5_1 : w4.cell? ⟨gb198, 1, none⟩ = some (.string a0_1) := (blk_cell BK198.out 1).trans rfl; have hfz5_0 := blk_frozen BK198.out 0; have hfz5_1 := blk_frozen BK198.out 1) | (go_at_call 110; (with_reducible refine (strings_Contains.calls (hG := by first | exact hG | exact Glob.below hG (by first | exact HB.out | (repeat (first | (with_reducible first | exact HB.out | apply below_alloc | apply pw_below_drewN | apply below_drew1 | refine below_set ?_ GE198.out) | exact HB.out))) | exact Glob.drawn hG (by repeat (first | exact Drawn0.refl _ | apply Drawn0.step))) (⟨#[44, 59, 58, 60, 62]⟩ : ByteArray) a0_1 t199 _ A3.out).mono ?_); rintro e w6 ⟨rfl, hb⟩; have n0_ := Aside0.mk (blk_below (g := gb198) (o := .cells #[.int .i64 a0_0, .string a0_1] 98 (0, 0)) bk hb); have n1_ := Aside0.mk (below_step bwS hb); clear BK198; clear HB; have BK198 := n0_; have HB := n1_; clear n0_ n1_; (try clear hb); (try clear hb2); (try clear hk); (try clear hi)))
  go_ret
  exact ⟨by first | rfl | (simp [errW_none, errW_some] <;> rfl) | (simp [*, errW_none, errW_some] <;> rfl), bwS⟩
 ·rw [if_neg c2] at H
  have c2b0 : (a0_0 == 3) = false := beq_eq_false_iff_ne.mpr c2
  have c2b1 : (a0_0 != 3) = true := bne_iff_ne.mpr c2
  obtain rfl := Option.some.inj H
  go_enter Tryd.func97, Tryd.ntmps97
  go_wp2_with (first | ((with_reducible refine gate_dst (N := 1) rfl ?_); refine box_event ?hg (N := 1) ?hd (cs := #[.int .i64 a0_0, .string a0_1]) (t := 98) ?hr ?_; (case hd => rfl); (case hg => rfl); (case hr => first | (go_simp; done) | (go_simp; rfl)); intro gb198 hg w7 hbox hb; have n0_ := Aside0.mk (below_step bw hb); have n1_ := Aside0.mk (hbox); have n2_ := Aside0.mk ((by rw [hg]; exact (below_size bw) : w.heap.size ≤ gb198)); have n3_ := Aside0.mk ((by rw [hg]; exact (below_size bw) : w.heap.size ≤ gb198)); clear HB; have HB := n0_; have BK198 := n1_; have GW198 := n2_; have GE198 := n3_; clear n0_ n1_ n2_ n3_; clear hb hbox hg; have hcz8_0 : w7.cell? ⟨gb198, 0, none⟩ = some (.int .i64 a0_0) := (blk_cell BK198.out 0).trans rfl; have hcz8_1 : w7.cell? ⟨gb198, 1, none⟩ = some (.string a0_1) := (blk_cell BK198.out 1).trans rfl; have hfz8_0 := blk_frozen BK198.out 0; have hfz8_1 := blk_frozen BK198.out 1))
  go_ret
  exact ⟨by first | rfl | (simp [errW_none, errW_some] <;> rfl) | (simp [*, errW_none, errW_some] <;> rfl), bwS⟩

end Go.Proofs.YtbjbpgmjijeppaaDoor.Fn
set_option linter.unusedVariables false
set_option linter.unusedSimpArgs false
namespace Go.Proofs.YtbjbpgmjijeppaaDoor.Fn
open Go.RowKit Go.Proofs.YtbjbpgmjijeppaaDoorW.PrintWords Go.Proofs.YtbjbpgmjijeppaaDoorW.PrintLast Go.Proofs.YtbjbpgmjijeppaaDoorW.PrintMore
attribute [local go_sem high] eqA98

/-! Layer 14: the reader, in memory: its block is the newest of W0; the tokens are W0's; the boxes are its own. -/
def toBox (x : Pl.BoxL) : S31 := ⟨Pl.str x.1, ⟨Pl.str x.2.1, Pl.str x.2.2⟩⟩
structure Small (l : List Pl.Tok) : Prop where
  len : l.length ≤ 50000
  sum : (Pl.cat l).length ≤ 50000
  ok : ∀ t ∈ l, Pl.okTok t
structure RS (W0 w : World) (l : List Pl.Tok) (bx : List Pl.BoxL) : Prop where
  out : ∃ (A : Option Addr) (c : Nat) (v : Value), w.heap[W0.heap.size]? = some (.cells #[.slice A l.length c, v] 67 (0, 0)) ∧ Kd.C k98 W0 A l.length (l.map Pl.tok142) ∧ l.length ≤ c ∧ Kd.R k31 31 w (W0.heap.size + 1) (fun _ => True) v (bx.map toBox)
  below : Below W0.heap.size W0 w
  small : Small l
  many : bx.length ≤ 100
  glob : Glob W0
theorem RS.lt {W0 w : World} {l : List Pl.Tok} {bx : List Pl.BoxL} (h : RS W0 w l bx) : W0.heap.size < w.heap.size := by
  obtain ⟨A, c, v, hb, _⟩ := h.out
  exact blk_lt hb
theorem RS.keep {W0 w w' : World} {l : List Pl.Tok} {bx : List Pl.BoxL} (h : RS W0 w l bx) (hb : Below w.heap.size w w') : RS W0 w' l bx := by
  obtain ⟨⟨A, c, v, h1, h2, h3, h4⟩, h5, h6, h7, h8⟩ := h
  exact ⟨⟨A, c, v, (hb.block _ (blk_lt h1)).trans h1, h2, h3, Kd.R_below h4 hb⟩, h5.trans (hb.mono h5.size), h6, h7, h8⟩
theorem RS.globw {W0 w : World} {l : List Pl.Tok} {bx : List Pl.BoxL} (h : RS W0 w l bx) : Glob w := h.glob.below h.below
theorem tok_cell {W0 w : World} {A : Option Addr} {l : List Pl.Tok} (h : Kd.C k98 W0 A l.length (l.map Pl.tok142)) (hB : Below W0.heap.size W0 w) {i : Nat} {t : Pl.Tok} {r : List Pl.Tok} (hd : l.drop i = t :: r) :
    ∃ ad, A = some ad ∧ w.cell? (ad.add (i * 2)) = some (.int .i64 t.1) ∧ w.cell? ⟨(ad.add (i * 2)).block, (ad.add (i * 2)).off + 1, none⟩ = some (.string (Pl.str t.2)) := by
  have hi : i < l.length := by
    rcases Nat.lt_or_ge i l.length with h' | h'
    · exact h'
    · rw [List.drop_of_length_le h'] at hd; cases hd
  obtain ⟨ad, e, h0, h1⟩ := at_T98 h (i : Int) (by omega) (by omega)
  have hr : rd_T98 (l.map Pl.tok142) (i : Int) = Pl.tok142 t := by
    unfold rd_T98
    have h3 : l[i]? = some t := by
      have := congrArg List.head? hd
      rw [List.head?_drop] at this
      exact this
    rw [Int.toNat_natCast, List.getD_eq_getElem?_getD, List.getElem?_map, h3]
    rfl
  rw [hr] at h0 h1
  rw [Int.toNat_natCast] at h0 h1
  exact ⟨ad, e, pw_cell_below hB h0, pw_cell_below hB h1⟩
set_option maxHeartbeats 4000000 in
set_option maxRecDepth 100000 in
theorem at_calls (W0 w : World) (l : List Pl.Tok) (bx : List Pl.BoxL) (s : ByteArray) (h : RS W0 w l bx) :
    Calls Tryd.prog 61 #[.pointer (some ⟨W0.heap.size, 0, none⟩), .string s] w fun e w' => e = .returned (.bool (Pl.headIs l (Pl.bs s))) ∧ w' = w := by
  obtain ⟨⟨A, c, v, hb, hC, hc, hR⟩, hB, hS, hM, hG⟩ := h
  have hu := Tryd.underlying98
  have hc0 : w.cell? ⟨W0.heap.size, 0, none⟩ = some (.slice A l.length c) := (blk_cell hb 0).trans rfl
  cases l with
  | nil =>
    clear hb hC hR hB hS hM hG
    generalize W0.heap.size = R at hc0 ⊢
    go_enter Tryd.func61, Tryd.ntmps61
    go_wp2
    go_ret
    exact ⟨rfl, rfl⟩
  | cons t r =>
    obtain ⟨ad, rfl, h0, h1⟩ := tok_cell hC hB (i := 0) (t := t) (r := r) rfl
    rw [Nat.zero_mul, Addr.add_zero'] at h0 h1
    clear hb hC hR hB hS hM hG
    generalize W0.heap.size = R at hc0 ⊢
    have c1 : decide ((0 : Int) < ((t :: r).length : Int)) = true := decide_eq_true (by simp only [List.length_cons]; omega)
    have c2 : ((0 : Int) < ((t :: r).length : Int)) = True := eq_true (by simp only [List.length_cons]; omega)
    have c3 : (0 < (t :: r).length) = True := eq_true (by simp)
    generalize (t :: r).length = n at hc0 hc c1 c2 c3 ⊢
    have hres : Pl.headIs (t :: r) (Pl.bs s) = (t.1 == 3 && ((Pl.str t.2).toList == s.toList)) := by
      show Pl.isT t (Pl.bs s) = _
      unfold Pl.isT
      rw [Pl.toList_str, Pl.toList_bs]
    rw [hres]
    go_enter Tryd.func61, Tryd.ntmps61
    go_wp2
    go_ret
    exact ⟨rfl, rfl⟩
theorem RS.cut {W0 w : World} {l : List Pl.Tok} {bx : List Pl.BoxL} {A : Option Addr} {c : Nat} {v : Value} (hb : w.heap[W0.heap.size]? = some (.cells #[.slice A l.length c, v] 67 (0, 0))) (hC : Kd.C k98 W0 A l.length (l.map Pl.tok142)) (hc : l.length ≤ c) (hR : Kd.R k31 31 w (W0.heap.size + 1) (fun _ => True) v (bx.map toBox))
    (hB : Below W0.heap.size W0 w) (hS : Small l) (hM : bx.length ≤ 100) (hG : Glob W0) (m : Nat) (hm : m ≤ l.length) (A' : Option Addr) (n' c' : Nat) (hA : A' = if c = m then A else A.map (·.add (m * 2))) (hn : n' = l.length - m) (hc' : c' = c - m) :
    RS W0 (w.setCell ⟨W0.heap.size, 0, none⟩ (.slice A' n' c')) (l.drop m) bx := by
  subst hA hn hc'
  have h1 := Kd.C_drop (c := c) (m := m) (show Kd.C k98 W0 A (l.map Pl.tok142).length (l.map Pl.tok142) by rw [List.length_map]; exact hC) (by rw [List.length_map]; exact hm) (by rw [List.length_map]; exact hc)
  rw [← List.map_drop, List.length_map] at h1
  refine ⟨⟨_, c - m, v, ?_, h1, by rw [List.length_drop]; omega, ?_⟩, hB.setCell (p := ⟨W0.heap.size, 0, none⟩) (Nat.le_refl _) _, ⟨?_, ?_, ?_⟩, hM, hG⟩
  · have := blk_put hb 0 (.slice (if c = m then A else A.map (·.add (m * 2))) (l.length - m) (c - m)) rfl
    rw [List.length_drop]
    exact this
  · exact Kd.R_mono (Kd.R_far (p := ⟨W0.heap.size, 0, none⟩) (Kd.R_bound hR) (fun k hk => by show k ≠ W0.heap.size; have := hk.2.1; omega) _) (fun _ _ => trivial)
  · have := hS.len
    rw [List.length_drop]; omega
  · have h2 := hS.sum
    have h3 : Pl.cat l = Pl.cat (l.take m) ++ Pl.cat (l.drop m) := by rw [← Pl.cat_app, List.take_append_drop]
    rw [h3, List.length_append] at h2
    omega
  · exact fun t ht => hS.ok t (List.mem_of_mem_drop ht)
set_option maxHeartbeats 4000000 in
set_option maxRecDepth 100000 in
theorem follows_calls (W0 w : World) (l : List Pl.Tok) (bx : List Pl.BoxL) (n : Nat) (s : ByteArray) (h : RS W0 w l bx) :
    Calls Tryd.prog 58 #[.pointer (some ⟨W0.heap.size, 0, none⟩), .int .i64 n, .string s] w fun e w' => e = .returned (.bool (Pl.headIs (l.drop n) (Pl.bs s))) ∧ w' = w := by
  obtain ⟨⟨A, c, v, hb, hC, hc, hR⟩, hB, hS, hM, hG⟩ := h
  have hu := Tryd.underlying98
  have hc0 : w.cell? ⟨W0.heap.size, 0, none⟩ = some (.slice A l.length c) := (blk_cell hb 0).trans rfl
  cases hd : l.drop n with
  | nil =>
    have hl : l.length ≤ n := by
      have := congrArg List.length hd
      rw [List.length_drop, List.length_nil] at this
      omega
    have c1 : decide ((n : Int) < (l.length : Int)) = false := decide_eq_false (by omega)
    have c2 : decide (n < l.length) = false := decide_eq_false (by omega)
    clear hb hC hR hB hS hM hG hl
    generalize W0.heap.size = R at hc0 ⊢
    generalize l.length = ln at hc0 c1 c2 ⊢
    go_enter Tryd.func58, Tryd.ntmps58
    go_wp2
    go_ret
    exact ⟨rfl, rfl⟩
  | cons t r =>
    obtain ⟨ad, rfl, h0, h1⟩ := tok_cell hC hB hd
    have hl : n < l.length := by
      have := congrArg List.length hd
      rw [List.length_drop, List.length_cons] at this
      omega
    clear hb hC hR hB hM hG
    have hz := hS.len
    have c1 : decide ((n : Int) < (l.length : Int)) = true := decide_eq_true (by omega)
    have c2 : ((n : Int) < (l.length : Int)) = True := eq_true (by omega)
    have c3 : (n < l.length) = True := eq_true (by omega)
    have c4 : decide (n < l.length) = true := decide_eq_true (by omega)
    have c5 : ((0 : Int) ≤ (n : Int)) = True := eq_true (by omega)
    clear hS hz
    generalize W0.heap.size = R at hc0 ⊢
    generalize l.length = ln at hc0 hc hl c1 c2 c3 c4 ⊢
    have hres : Pl.headIs (t :: r) (Pl.bs s) = (t.1 == 3 && ((Pl.str t.2).toList == s.toList)) := by
      show Pl.isT t (Pl.bs s) = _
      unfold Pl.isT
      rw [Pl.toList_str, Pl.toList_bs]
    rw [hres]
    go_enter Tryd.func58, Tryd.ntmps58
    go_wp2
    go_ret
    exact ⟨rfl, rfl⟩
set_option maxHeartbeats 4000000 in
set_option maxRecDepth 100000 in
theorem take_calls (W0 w : World) (l : List Pl.Tok) (bx : List Pl.BoxL) (s : ByteArray) (h : RS W0 w l bx) :
    Calls Tryd.prog 35 #[.pointer (some ⟨W0.heap.size, 0, none⟩), .string s] w fun e w' => e = .returned (.bool (Pl.headIs l (Pl.bs s))) ∧ RS W0 w' (if Pl.headIs l (Pl.bs s) = true then l.tail else l) bx := by
  have hat := at_calls W0 w l bx s h
  have H := Aside0.mk h
  obtain ⟨⟨A, c, v, hb, hC, hc, hR⟩, hB, hS, hM, hG⟩ := h
  have hc0 : w.cell? ⟨W0.heap.size, 0, none⟩ = some (.slice A l.length c) := (blk_cell hb 0).trans rfl
  have hf0 := blk_frozen hb 0
  cases hq : Pl.headIs l (Pl.bs s) with
  | false =>
    rw [hq] at hat
    clear hb hC hR hB hS hM hG hc0 hf0
    generalize hW : W0.heap.size = R at hat ⊢
    go_enter Tryd.func35, Tryd.ntmps35
    go_wp2_with (go_at_call 61; refine hat.mono ?_; rintro e w' ⟨rfl, rfl⟩)
    go_ret
    exact ⟨rfl, H.out⟩
  | true =>
    rw [hq] at hat
    obtain ⟨t, r, rfl, ht⟩ := Pl.headIs_ne hq
    obtain ⟨ad, rfl, h0, h1⟩ := tok_cell hC hB (i := 0) (t := t) (r := r) rfl
    have c1 : ((1 : Int) ≤ ((t :: r).length : Int)) = True := eq_true (by simp only [List.length_cons]; omega)
    have c2 : (((t :: r).length : Int) ≤ (c : Int)) = True := eq_true (by omega)
    have c3 : ((1 : Int) ≤ (c : Int)) = True := eq_true (by simp only [List.length_cons] at hc; omega)
    have c4 : (1 ≤ (t :: r).length) = True := eq_true (by simp)
    have c5 : ((t :: r).length ≤ c) = True := eq_true hc
    have c6 : (1 ≤ c) = True := eq_true (by simp only [List.length_cons] at hc; omega)
    have HC := Aside0.mk (fun A' n' c' h1 h2 h3 => RS.cut hb hC hc hR hB hS hM hG 1 (by simp) A' n' c' h1 h2 h3)
    have hcc := Aside0.mk hc
    clear hb hC hR hB hS hM hG h0 h1 hc
    clear H
    generalize hn : (t :: r).length = n at hat hc0 c1 c2 c4 c5 HC hcc ⊢
    generalize hW : W0.heap.size = R at hat hc0 hf0 HC ⊢
    go_enter Tryd.func35, Tryd.ntmps35
    go_wp2_with (go_at_call 61; refine hat.mono ?_; rintro e w' ⟨rfl, rfl⟩)
    all_goals
      go_ret
      exact ⟨rfl, HC.out _ _ _ (by first | rfl | (simp [*]; done) | (simp [*]; rfl)) (by first | rfl | (simp; done) | omega) (by first | rfl | (simp; done) | omega)⟩
end Go.Proofs.YtbjbpgmjijeppaaDoor.Fn
set_option linter.unusedVariables false
set_option linter.unusedSimpArgs false
namespace Go.Proofs.YtbjbpgmjijeppaaDoor.Fn
open Go.RowKit Go.Proofs.YtbjbpgmjijeppaaDoorW.PrintWords Go.Proofs.YtbjbpgmjijeppaaDoorW.PrintLast Go.Proofs.YtbjbpgmjijeppaaDoorW.PrintMore
attribute [local go_sem high] eqA98


/-! Layer 14: how many words stand at the front, and what they say -/
theorem join_len : ∀ l : List Pl.Tok, (Lib.join (l.map (·.2)) [32]).length ≤ (Pl.cat l).length + l.length
  | [] => by simp [Pl.join_nil]
  | [t] => by rw [List.map_cons, List.map_nil, Pl.join_one]; simp [Pl.cat]
  | t :: u :: r => by
    have ih := join_len (u :: r)
    have e : Pl.cat (t :: u :: r) = t.2 ++ Pl.cat (u :: r) := by simp [Pl.cat]
    have e2 : Lib.join ((t :: u :: r).map (·.2)) [32] = t.2 ++ [32] ++ Lib.join ((u :: r).map (·.2)) [32] := Pl.join_cons2 _ _ _ _
    rw [e2, e]
    simp only [List.length_append, List.length_cons, List.length_nil] at ih ⊢
    omega
def txs (l : List Pl.Tok) : List ByteArray := l.map fun t => Pl.str t.2
theorem join_call (l : List Pl.Tok) (hS : Small l) (i : Nat) (b : Nat) (W : World) (v : Value) (h : Kd.R Kd.string 9 W b (fun _ => True) v (txs (l.take i))) :
    ∃ A c n q, v = .slice A n c ∧ Hid (n = (l.take i).length) ∧ Hid (q = Pl.str (Lib.join ((l.take i).map (·.2)) [32])) ∧ Hid (∀ W1, Below W.heap.size W W1 → Calls Tryd.prog 26 #[.slice A n c, .string ⟨#[32]⟩] W1 fun e w' => e = .returned (.string q) ∧ Below W1.heap.size W1 w') := by
  obtain ⟨A, c, rfl⟩ := Kd.R_slice h
  have hlen : (txs (l.take i)).length = (l.take i).length := List.length_map _
  refine ⟨A, c, _, _, by rw [hlen], hid rfl, hid rfl, hid (fun W1 hW1 => ?_)⟩
  obtain ⟨-, hc, hC⟩ := Kd.R_reads' h
  have hl : (l.take i).length ≤ 50000 := Nat.le_trans (by rw [List.length_take]; omega) hS.len
  have hs : (Pl.cat (l.take i)).length ≤ 50000 := by
    have h2 := hS.sum
    have h3 : Pl.cat l = Pl.cat (l.take i) ++ Pl.cat (l.drop i) := by rw [← Pl.cat_app, List.take_append_drop]
    rw [h3, List.length_append] at h2
    omega
  have hj : Pl.join (txs (l.take i)) ⟨#[32]⟩ = Pl.str (Lib.join ((l.take i).map (·.2)) [32]) := by
    unfold Pl.join txs
    rw [List.map_map]
    exact congrArg Pl.str (congrArg (Lib.join · [32]) (List.map_congr_left (fun t _ => Pl.bs_str t.2)))
  have hjl := join_len (l.take i)
  have := strings_Join.calls A c (txs (l.take i)) ⟨#[32]⟩ (Pl.join (txs (l.take i)) ⟨#[32]⟩) W1 (Kd.C_below hC hW1) hc (by
    unfold strings_Join.f
    rw [if_pos (by rw [hlen]; omega), if_pos (by rw [hj, Pl.str_size]; omega)])
  rw [hlen, hj] at this
  exact this
theorem take_while {l : List Pl.Tok} {i : Nat} (h : (l.take i).all Pl.wordT = true) (h2 : l.drop i = [] ∨ ∃ t r, l.drop i = t :: r ∧ Pl.wordT t = false) : l.takeWhile Pl.wordT = l.take i := by
  have := (Pl.span_all Pl.wordT (l.drop i) h2 (l.take i) (fun t ht => List.all_eq_true.1 h t ht)).1
  rwa [List.take_append_drop] at this
set_option maxHeartbeats 8000000 in
set_option maxRecDepth 100000 in
theorem words_calls (W0 w : World) (l : List Pl.Tok) (bx : List Pl.BoxL) (h : RS W0 w l bx) :
    Calls Tryd.prog 57 #[.pointer (some ⟨W0.heap.size, 0, none⟩)] w fun e w' => e = .returned (.tuple #[.int .i64 ((l.takeWhile Pl.wordT).length : Nat), .string (Pl.str (Pl.nameL l))]) ∧ Below w.heap.size w w' := by
  obtain ⟨⟨A, c, v, hb, hC, hc, hR⟩, hB, hS, hM, hG⟩ := h
  have hu := Tryd.underlying98
  have hc0 : w.cell? ⟨W0.heap.size, 0, none⟩ = some (.slice A l.length c) := (blk_cell hb 0).trans rfl
  have HC := hid hC
  have HB0 := hid hB
  have HS := hid hS
  have hz := hS.len
  clear hb hC hR hB hS hM hG
  go_enter Tryd.func57, Tryd.ntmps57
  go_wp2
  go_loopw [4, 12] (fun v4 v12 wr => ∃ i : Nat, v12 = .int .i64 i ∧ i ≤ l.length ∧ Hid ((l.take i).all Pl.wordT = true) ∧ Hid (Kd.R Kd.string 9 wr w.heap.size (fun _ => True) v4 (txs (l.take i))) ∧ Hid (Below w.heap.size w wr)) (fun _ v12 _ => l.length - (intOf v12).toNat)
  case atStart => exact ⟨0, rfl, Nat.zero_le _, hid rfl, hid (Kd.R_nil _ _ _ _ _), hid (Below.refl _ _)⟩
  case round =>
    obtain ⟨i, rfl, hi, HW, HR, HBw⟩ := hrel
    cases hd : l.drop i with
    | nil =>
      have hl : l.length ≤ i := by
        have := congrArg List.length hd
        rw [List.length_drop, List.length_nil] at this
        omega
      have c1 : decide ((i : Int) < (l.length : Int)) = false := decide_eq_false (by omega)
      have c1n : decide (i < l.length) = false := decide_eq_false (by omega)
      obtain ⟨A2, c2, n2, q2, rfl, hn2, hq2, hj⟩ := join_call l HS.out i _ wr _ HR.out
      have htw := hid (take_while HW.out (.inl hd))
      clear hl hz hi hd hc
      go_wp2_with (go_at_call 26; refine (hj.out _ (Below.refl _ _)).mono ?_; rintro e w' ⟨rfl, hb'⟩)
      go_ret2
      refine ⟨?_, HBw.out.trans (hb'.mono HBw.out.size)⟩
      unfold Pl.nameL
      rw [htw.out, hn2.out, hq2.out]
      rfl
    | cons t r =>
      have hl : i < l.length := by
        have := congrArg List.length hd
        rw [List.length_drop, List.length_cons] at this
        omega
      obtain ⟨ad, rfl, h0, h1⟩ := tok_cell HC.out (HB0.out.trans (HBw.out.mono HB0.out.size)) hd
      have c1 : decide ((i : Int) < (l.length : Int)) = true := decide_eq_true (by omega)
      have c1n : decide (i < l.length) = true := decide_eq_true (by omega)
      have c2 : ((i : Int) < (l.length : Int)) = True := eq_true (by omega)
      have c3 : (i < l.length) = True := eq_true (by omega)
      have c5 : ((0 : Int) ≤ (i : Int)) = True := eq_true (by omega)
      have hsnoc : l.take (i + 1) = l.take i ++ [t] := by
        rw [List.take_succ_eq_append_getElem hl]
        congr 2
        have := List.getElem?_drop (xs := l) (i := i) (j := 0)
        rw [hd] at this
        simpa [List.getElem?_eq_getElem hl] using this.symm
      have HSN := hid hsnoc
      have HD := hid hd
      clear hsnoc hd
      by_cases hk : t.1 = 3
      · obtain ⟨A2, c2', n2, q2, rfl, hn2, hq2, hj⟩ := join_call l HS.out i _ wr _ HR.out
        have htw := hid (take_while HW.out (.inr ⟨t, r, HD.out, by unfold Pl.wordT; rw [hk]; rfl⟩))
        rw [hk] at h0
        go_wp2_with (first
          | ((with_reducible refine gate_dst (N := 6) rfl ?_); refine box_event ?hg (N := 6) ?hd (cs := #[.int .i64 0, .string (⟨#[]⟩ : ByteArray)]) (t := 98) ?hr ?_; (case hd => rfl); (case hg => rfl); (case hr => first | (go_simp; done) | (go_simp; rfl)); intro g hg w7 hbox hb; have b0 := (blk_cell hbox 0).trans rfl; have b1 := (blk_cell hbox 1).trans rfl; have bf0 := blk_frozen hbox 0; have bf1 := blk_frozen hbox 1; have HBX := hid hb; have HG := hid hg; clear hb hbox hg)
          | (go_at_call 26; have hB1 : Below wr.heap.size wr ((w7.setCell ⟨g, 0, none⟩ (.int .i64 3)).setCell ⟨g, 1, none⟩ (.string (Pl.str t.2))) := (HBX.out.setCell (p := ⟨g, 0, none⟩) (Nat.le_of_eq HG.out.symm) _).setCell (p := ⟨g, 1, none⟩) (Nat.le_of_eq HG.out.symm) _; refine (hj.out _ hB1).mono ?_; rintro e w' ⟨rfl, hb'⟩))
        go_ret2
        refine ⟨?_, HBw.out.trans ((hB1.trans (hb'.mono hB1.size)).mono HBw.out.size)⟩
        unfold Pl.nameL
        rw [htw.out, hn2.out, hq2.out]
        rfl
      · have k1 : (t.1 == 3) = false := beq_eq_false_iff_ne.2 hk
        have hp : Hid (Pl.wordT t = true) := hid (by unfold Pl.wordT; exact bne_iff_ne.2 hk)
        have hlen : (txs (l.take i)).length = i := by rw [txs, List.length_map, List.length_take]; omega
        go_wp2_with (first
          | ((with_reducible refine gate_dst (N := 6) rfl ?_); refine box_event ?hg (N := 6) ?hd (cs := #[.int .i64 0, .string (⟨#[]⟩ : ByteArray)]) (t := 98) ?hr ?_; (case hd => rfl); (case hg => rfl); (case hr => first | (go_simp; done) | (go_simp; rfl)); intro g hg w7 hbox hb; have b0 := (blk_cell hbox 0).trans rfl; have b1 := (blk_cell hbox 1).trans rfl; have bf0 := blk_frozen hbox 0; have bf1 := blk_frozen hbox 1; have HGL := hid (blk_lt hbox); have HBW := hid (((HBw.out.trans (hb.mono HBw.out.size)).setCell (p := ⟨g, 0, none⟩) (show w.heap.size ≤ g by have := HBw.out.size; omega) (.int .i64 t.1)).setCell (p := ⟨g, 1, none⟩) (show w.heap.size ≤ g by have := HBw.out.size; omega) (.string (Pl.str t.2))); have HBX := hid hb; have HG := hid hg; clear hb hbox hg)
          | ((with_reducible refine gate_builtin (b := .append) (xs := #[.tmp 19, .tmp 22]) rfl ?_); at_builtin; refine Kd.R_append Kd.string (w0 := w) w.heap.size rfl (.tmp 19) (.tmp 22) 50 9 (.string ⟨#[]⟩) 16 rfl Tryd.underlying50 info9 rfl (by decide) (by omega) u4 (txs (l.take i)) (Pl.str t.2) [.string (Pl.str t.2)] (fun k => k ≠ g) (fun _ => False) rfl (by first | rfl | (go_simp; done) | (go_simp; rfl)) ?aP (fun _ hk => hk.elim) ?aF ?aO ?aB ?aS ?aL ?_; (case aP => exact rfl); (case aF => exact (fun k hk => by have h2 : w7.heap.size ≤ k := (by simpa using hk); have := HGL.out; show k ≠ g; omega)); (case aO => exact Kd.R_far (p := ⟨g, 1, none⟩) (Kd.R_far (p := ⟨g, 0, none⟩) (Kd.R_below (Kd.R_mono (Kd.R_bound HR.out) (fun k hk => by have := hk.2.2.1; have := HG.out; show k ≠ g; omega)) HBX.out) (fun _ hk => hk) _) (fun _ hk => hk) _); (case aB => exact HBW.out); (case aS => exact HBW.out.size); (case aL => rw [hlen]; omega); intro v1 w1 ho hb1 hg1 hat1; have HO1 := hid ho; have HB1 := hid hb1; clear ho hb1 hg1 hat1))
        go_roundw
        case rel =>
          exact ⟨i + 1, by go_num, by omega, hid (by rw [HSN.out, List.all_append, HW.out]; simpa using hp.out), hid (by rw [HSN.out]; unfold txs; rw [List.map_append]; exact Kd.R_mono HO1.out (fun _ _ => trivial)), HB1⟩
        case measure => simp [intOf]; omega
end Go.Proofs.YtbjbpgmjijeppaaDoor.Fn
set_option linter.unusedVariables false
set_option linter.unusedSimpArgs false
namespace Go.Proofs.YtbjbpgmjijeppaaDoor.Fn
open Go.RowKit Go.Proofs.YtbjbpgmjijeppaaDoorW.PrintWords Go.Proofs.YtbjbpgmjijeppaaDoorW.PrintLast Go.Proofs.YtbjbpgmjijeppaaDoorW.PrintMore
attribute [local go_sem high] eqA98

/-! Layer 14: an address, taken away from the front -/
set_option maxRecDepth 100000 in
theorem stop_byte (c : UInt8) : Lib.contains [44, 59, 58, 60, 62] [c] = Pl.stopB c := Pl.forall_byte (p := fun c => Lib.contains [44, 59, 58, 60, 62] [c] = Pl.stopB c) (by decide +kernel) c
theorem stops_is {t : Pl.Tok} (h : Pl.okTok t) : mbx_stops.f t.1 (Pl.str t.2) = some (Pl.stopT t) := by
  unfold mbx_stops.f Pl.stopT
  by_cases h3 : t.1 = 3
  · obtain ⟨c, hc⟩ := h h3
    rw [if_pos h3, hc, h3]
    unfold strings_Contains.f
    rw [if_pos (by decide), Option.bind_some]
    show some (Lib.contains [44, 59, 58, 60, 62] (Pl.bs (Pl.str [c]))) = some (((3 : Int) == 3) && Pl.stopB c)
    rw [Pl.bs_str, stop_byte]
    rfl
  · rw [if_neg h3, show (t.1 == 3) = false from beq_eq_false_iff_ne.2 h3]
    rfl
theorem take_non {l : List Pl.Tok} {i : Nat} (h : (l.take i).all Pl.nonT = true) (h2 : l.drop i = [] ∨ ∃ t r, l.drop i = t :: r ∧ Pl.nonT t = false) : l.takeWhile Pl.nonT = l.take i ∧ l.dropWhile Pl.nonT = l.drop i := by
  have := Pl.span_all Pl.nonT (l.drop i) h2 (l.take i) (fun t ht => List.all_eq_true.1 h t ht)
  rwa [List.take_append_drop] at this
theorem small_take {l : List Pl.Tok} (h : Small l) (i : Nat) : Small (l.take i) := by
  have h2 := h.sum
  have h3 : Pl.cat l = Pl.cat (l.take i) ++ Pl.cat (l.drop i) := by rw [← Pl.cat_app, List.take_append_drop]
  rw [h3, List.length_append] at h2
  exact ⟨Nat.le_trans (by rw [List.length_take]; omega) h.len, by omega, fun t ht => h.ok t (List.mem_of_mem_take ht)⟩
theorem of_call {W0 : World} {l : List Pl.Tok} {A : Option Addr} {c : Nat} (hC : Kd.C k98 W0 A l.length (l.map Pl.tok142)) (hc : l.length ≤ c) (hS : Small l) (i : Nat) (hi : i ≤ l.length) {W : World} (hB : Below W0.heap.size W0 W) :
    Calls Tryd.prog 98 #[.slice A i c] W fun e w' => e = .returned (.tuple #[.agg #[.string (Pl.ofT (l.take i)).1, .string (Pl.ofT (l.take i)).2.1], .int .i64 (Pl.ofT (l.take i)).2.2]) ∧ Below W.heap.size W w' := by
  have hl : (l.take i).length = i := by rw [List.length_take]; omega
  have hC1 := Kd.C_take (m := i) (show Kd.C k98 W0 A (l.map Pl.tok142).length (l.map Pl.tok142) by rw [List.length_map]; exact hC) (by rw [List.length_map]; exact hi)
  rw [← List.map_take] at hC1
  have hs := small_take hS i
  have h := addr_Of.calls (2 * (l.take i).length + 400000) A c ((l.take i).map Pl.tok142) _ _ _ W (Kd.C_below hC1 hB) (by rw [List.length_map, hl]; omega) (Pl.addrOf_is (l.take i) (by have := hs.len; omega) (by have := hs.sum; omega) _ (Nat.le_refl _))
  rw [List.length_map, hl] at h
  exact h
theorem RS.cutW {W0 w : World} {l : List Pl.Tok} {bx : List Pl.BoxL} (h : RS W0 w l bx) {A : Option Addr} {n c : Nat} {v : Value} (hb : w.heap[W0.heap.size]? = some (.cells #[.slice A n c, v] 67 (0, 0))) (m : Nat) (hm : m ≤ l.length) (A' : Option Addr) (n' c' : Nat) (hA : A' = if c = m then A else A.map (·.add (m * 2))) (hn : n' = n - m) (hc' : c' = c - m) :
    RS W0 (w.setCell ⟨W0.heap.size, 0, none⟩ (.slice A' n' c')) (l.drop m) bx := by
  obtain ⟨⟨A1, c1, v1, hb1, hC, hc, hR⟩, hB, hS, hM, hG⟩ := h
  rw [hb] at hb1
  simp only [Option.some.injEq, Obj.cells.injEq, Array.mk.injEq, List.cons.injEq, Value.slice.injEq, and_true] at hb1
  obtain ⟨⟨rfl, rfl, rfl⟩, rfl⟩ := hb1
  exact RS.cut hb hC hc hR hB hS hM hG m hm A' n' c' hA hn hc'
theorem RS.boxes {W0 w : World} {l : List Pl.Tok} {bx : List Pl.BoxL} (h : RS W0 w l bx) {x v : Value} (hb : w.heap[W0.heap.size]? = some (.cells #[x, v] 67 (0, 0))) : Kd.R k31 31 w (W0.heap.size + 1) (fun _ => True) v (bx.map toBox) := by
  obtain ⟨⟨A1, c1, v1, hb1, hC, hc, hR⟩, hB, hS, hM, hG⟩ := h
  rw [hb] at hb1
  simp only [Option.some.injEq, Obj.cells.injEq, Array.mk.injEq, List.cons.injEq, and_true] at hb1
  obtain ⟨rfl, rfl⟩ := hb1
  exact hR
theorem RS.grow {W0 w w1 : World} {l : List Pl.Tok} {bx : List Pl.BoxL} (h : RS W0 w l bx) (hb : Below (W0.heap.size + 1) w w1) {v1 : Value} {nm a b : ByteArray} (hR : Kd.R k31 31 w1 (W0.heap.size + 1) (fun _ => True) v1 (bx.map toBox ++ [(⟨nm, ⟨a, b⟩⟩ : S31)])) (hn : ¬ bx.length = 100) :
    RS W0 (w1.setCell ⟨W0.heap.size, 1, none⟩ v1) l (bx ++ [(Pl.bs nm, Pl.bs a, Pl.bs b)]) := by
  obtain ⟨⟨A1, c1, v, hb1, hC, hc, _⟩, hB, hS, hM, hG⟩ := h
  refine ⟨⟨A1, c1, v1, blk_put ((hb.block W0.heap.size (Nat.lt_succ_self _)).trans hb1) 1 v1 rfl, hC, hc, ?_⟩, (hB.trans (hb.mono (Nat.le_succ _))).setCell (p := ⟨W0.heap.size, 1, none⟩) (Nat.le_refl _) _, hS, by rw [List.length_append, List.length_singleton]; omega, hG⟩
  rw [List.map_append, List.map_singleton, show toBox (Pl.bs nm, Pl.bs a, Pl.bs b) = (⟨nm, ⟨a, b⟩⟩ : S31) by unfold toBox; simp only [Pl.str_bs]]
  exact Kd.R_mono (Kd.R_far (p := ⟨W0.heap.size, 1, none⟩) (Kd.R_bound hR) (fun k hk => by show k ≠ W0.heap.size; have := hk.2.1; omega) _) (fun _ _ => trivial)
def mbx_address.T : Bool × List (List Nat × List Nat) := (true,
  [([], []), ([], []), ([1], [1]), ([2], [2]), ([3], [3]), ([], []), ([], []), ([5, 6], [5, 6]), ([7], [7]),
    ([4, 8], [4, 8]), ([0, 0, 1, 2, 3, 4, 5, 6, 7, 8, 9], [0]), ([10, 0, 1, 2, 3, 4, 5, 6, 7, 8, 9], [10]),
    ([11, 9, 9, 0, 1, 2, 3, 4, 5, 6, 7, 8, 9], [9, 11])])
def mbx_address.B : List Nat := [0, 0, 2, 6, 14, 0, 0, 96, 224, 510, 1023, 2047, 4095]
theorem mbx_address.tab : rtab .any (opsOf Tryd.f83 10) = mbx_address.T := by kernel_rfl
theorem mbx_address.bits : waitsOk mbx_address.T.2 mbx_address.B = true := by kernel_rfl
set_option maxHeartbeats 8000000 in
set_option maxRecDepth 100000 in
theorem address_calls (W0 w : World) (l : List Pl.Tok) (bx : List Pl.BoxL) (nm : ByteArray) (h : RS W0 w l bx) :
    Calls Tryd.prog 83 #[.pointer (some ⟨W0.heap.size, 0, none⟩), .string nm] w fun e w' => e = .returned (.int .i64 (Pl.addressM (Pl.bs nm) l bx).2) ∧ ((Pl.addressM (Pl.bs nm) l bx).2 = 0 → RS W0 w' (Pl.addressM (Pl.bs nm) l bx).1.1 (Pl.addressM (Pl.bs nm) l bx).1.2) ∧ Below W0.heap.size W0 w' := by
  have hz := h.small.len
  have H := hid h
  have hz0 := hid h.lt
  clear h
  go_enter Tryd.func83, Tryd.ntmps83
  go_wp2
  go_loopw [5] (fun v5 wr => ∃ i : Nat, v5 = .int .i64 i ∧ i ≤ l.length ∧ Hid ((l.take i).all Pl.nonT = true) ∧ Hid (RS W0 wr l bx)) (fun v5 _ => l.length - (intOf v5).toNat)
  case atStart => exact ⟨0, rfl, Nat.zero_le _, hid rfl, H⟩
  case round =>
    clear H hz0
    obtain ⟨i, rfl, hi, HW, H⟩ := hrel
    obtain ⟨⟨A, c, v, hb, hC, hc, hR⟩, hB, hS, hM, hG⟩ := H.out
    have hu := Tryd.underlying98
    have hu2 := Tryd.underlying29
    have hc0 : wr.cell? ⟨W0.heap.size, 0, none⟩ = some (.slice A l.length c) := (blk_cell hb 0).trans rfl
    cases hd : l.drop i with
    | nil =>
      have hl : l.length ≤ i := by
        have := congrArg List.length hd
        rw [List.length_drop, List.length_nil] at this
        omega
      have c1 : decide ((i : Int) < (l.length : Int)) = false := decide_eq_false (by omega)
      have c1n : decide (i < l.length) = false := decide_eq_false (by omega)
      clear hl
      obtain ⟨Ab, cb, nb, rfl, hnb⟩ : ∃ Ab cb nb, v = .slice Ab nb cb ∧ Hid (nb = bx.length) := by
        obtain ⟨Ab, cb, e⟩ := Kd.R_slice hR
        exact ⟨Ab, cb, _, e, hid (List.length_map _)⟩
      have htw := hid (take_non HW.out (.inl hd))
      have hof := hid (fun W1 (hB1 : Below W0.heap.size W0 W1) => of_call hC hc hS i hi hB1)
      obtain ⟨⟨a, b, e0⟩, hres⟩ : ∃ x, Pl.ofT (l.take i) = x := ⟨_, rfl⟩
      rw [hres] at hof
      have hadr : Hid (Pl.addressM (Pl.bs nm) l bx = if e0 ≠ 0 then Pl.failM e0 else if bx.length = 100 then Pl.failM 8 else ((l.drop i, bx ++ [(Pl.bs nm, Pl.bs a, Pl.bs b)]), 0)) := by
        refine hid ?_
        unfold Pl.addressM
        rw [htw.out.1, htw.out.2, hres]
      have c6 : ((i : Int) ≤ (c : Int)) = True := eq_true (by omega)
      have c7 : (i ≤ c) = True := eq_true (by omega)
      have c8 : ((0 : Int) ≤ (i : Int)) = True := eq_true (by omega)
      have c9 : ((i : Int) ≤ (l.length : Int)) = True := eq_true (by omega)
      have c10 : (i ≤ l.length) = True := eq_true (by omega)
      have c11 : ((l.length : Int) ≤ (c : Int)) = True := eq_true (by omega)
      have c12 : (l.length ≤ c) = True := eq_true (by omega)
      have HBK := hid hb
      have hRlt := hid H.out.lt
      have hcc := hid hc
      have hii := hid hi
      have hzz := hid hz
      have HC := hid hC
      have HSM := hid hS
      have HMM := hid hM
      have HGG := hid hG
      clear hb hC hR hB hS hM hG hi hz hc hd
      have H2 := H
      have HBK2 := HBK
      by_cases he : e0 = 0
      case neg =>
        have ce : (e0 != 0) = true := bne_iff_ne.2 he
        go_wp2_with (first
          | (go_at_call 98; refine (hof.out _ H2.out.below).mono ?_; rintro e w5 ⟨rfl, b5⟩; have H5 := hid (H2.out.keep b5); have HBK5 := hid ((b5.block W0.heap.size H2.out.lt).trans HBK2.out))
          | ((with_reducible refine gate_dst (N := 6) rfl ?_); refine box_event ?hg (N := 6) ?hd (cs := #[.string (⟨#[]⟩ : ByteArray), .string (⟨#[]⟩ : ByteArray)]) (t := 29) ?hr ?_; (case hd => rfl); (case hg => rfl); (case hr => first | (go_simp; done) | (go_simp; rfl)); intro g hg w7 hbox hb; have b0 := (blk_cell hbox 0).trans rfl; have b1 := (blk_cell hbox 1).trans rfl; have bf0 := blk_frozen hbox 0; have bf1 := blk_frozen hbox 1; have H7 := hid (H5.out.keep hb); have HG7 := hid hg; have HL5 := hid H5.out.lt; clear hb hbox hg))
        go_ret
        refine ⟨?_, fun h0 => ?_, ?_⟩
        · rw [hadr.out, if_pos he]; rfl
        · rw [hadr.out, if_pos he] at h0; exact absurd h0 he
        · exact (H7.out.below.setCell (p := ⟨g, 0, none⟩) (by show W0.heap.size ≤ g; have := HL5.out; have := HG7.out; omega) _).setCell (p := ⟨g, 1, none⟩) (by show W0.heap.size ≤ g; have := HL5.out; have := HG7.out; omega) _
      case pos =>
        subst he
        by_cases hn : nb = 100
        · have cn : ((nb : Int) == 100) = true := beq_iff_eq.2 (by omega)
          have cn2 : (nb == 100) = true := beq_iff_eq.2 hn
          go_wp2_with (first
            | (go_at_call 98; refine (hof.out _ H2.out.below).mono ?_; rintro e w5 ⟨rfl, b5⟩; have H5 := hid (H2.out.keep b5); have HBK5 := hid ((b5.block W0.heap.size H2.out.lt).trans HBK2.out))
            | ((with_reducible refine gate_dst (N := 6) rfl ?_); refine box_event ?hg (N := 6) ?hd (cs := #[.string (⟨#[]⟩ : ByteArray), .string (⟨#[]⟩ : ByteArray)]) (t := 29) ?hr ?_; (case hd => rfl); (case hg => rfl); (case hr => first | (go_simp; done) | (go_simp; rfl)); intro g hg w7 hbox hb; have b0 := (blk_cell hbox 0).trans rfl; have b1 := (blk_cell hbox 1).trans rfl; have bf0 := blk_frozen hbox 0; have bf1 := blk_frozen hbox 1; have HB57 := hid hb; have HG7k := hid hbox; have HBK7 := hid ((hb.block W0.heap.size H5.out.lt).trans HBK5.out); have H7 := hid (H5.out.keep hb); have HG7 := hid hg; have HL5 := hid H5.out.lt; have hne : ¬ W0.heap.size = g := (by have := HL5.out; omega); have r0 := (blk_cell HBK7.out 0).trans rfl; have r1 := (blk_cell HBK7.out 1).trans rfl; have rf0 := blk_frozen HBK7.out 0; have rf1 := blk_frozen HBK7.out 1; clear hb hbox hg))
          all_goals
            have hb100 : bx.length = 100 := by rw [← hnb.out]; exact hn
            have hal : Pl.addressM (Pl.bs nm) l bx = Pl.failM 8 := by rw [hadr.out, if_neg (by simp), if_pos hb100]
            go_ret
            rw [hal]
            exact ⟨rfl, fun h0 => absurd h0 (by decide), (((H5.out.keep ((HB57.out.setCell (p := ⟨g, 0, none⟩) (Nat.le_of_eq HG7.out.symm) (.string a)).setCell (p := ⟨g, 1, none⟩) (Nat.le_of_eq HG7.out.symm) (.string b))).below).setCell (p := ⟨W0.heap.size, 0, none⟩) (Nat.le_refl _) _)⟩
        · have cn : ((nb : Int) == 100) = false := beq_eq_false_iff_ne.2 (by omega)
          have cn2 : (nb == 100) = false := beq_eq_false_iff_ne.2 hn
          go_wp2_with (first
            | (go_at_call 98; refine (hof.out _ H2.out.below).mono ?_; rintro e w5 ⟨rfl, b5⟩; have H5 := hid (H2.out.keep b5); have HBK5 := hid ((b5.block W0.heap.size H2.out.lt).trans HBK2.out))
            | ((with_reducible refine gate_dst (N := 6) rfl ?_); refine box_event ?hg (N := 6) ?hd (cs := #[.string (⟨#[]⟩ : ByteArray), .string (⟨#[]⟩ : ByteArray)]) (t := 29) ?hr ?_; (case hd => rfl); (case hg => rfl); (case hr => first | (go_simp; done) | (go_simp; rfl)); intro g hg w7 hbox hb; have b0 := (blk_cell hbox 0).trans rfl; have b1 := (blk_cell hbox 1).trans rfl; have bf0 := blk_frozen hbox 0; have bf1 := blk_frozen hbox 1; have HB57 := hid hb; have HG7k := hid hbox; have HBK7 := hid ((hb.block W0.heap.size H5.out.lt).trans HBK5.out); have H7 := hid (H5.out.keep hb); have HG7 := hid hg; have HL5 := hid H5.out.lt; have hne : ¬ W0.heap.size = g := (by have := HL5.out; omega); have r0 := (blk_cell HBK7.out 0).trans rfl; have r1 := (blk_cell HBK7.out 1).trans rfl; have rf0 := blk_frozen HBK7.out 0; have rf1 := blk_frozen HBK7.out 1; clear hb hbox hg))
          all_goals
            have hgR : W0.heap.size < g := by have := HL5.out; have := HG7.out; omega
            have hnb100 : Hid (¬ bx.length = 100) := hid (by rw [← hnb.out]; exact hn)
            have HGp : Hid (((w7.setCell ⟨g, 0, none⟩ (.string a)).setCell ⟨g, 1, none⟩ (.string b)).heap[g]? = some (.cells #[.string a, .string b] 29 (0, 0))) := hid (blk_put (blk_put HG7k.out 0 _ rfl) 1 _ rfl)
            have HB7p : Hid (((w7.setCell ⟨g, 0, none⟩ (.string a)).setCell ⟨g, 1, none⟩ (.string b)).heap[W0.heap.size]? = some (.cells #[.slice A l.length c, .slice Ab nb cb] 67 (0, 0))) := hid ((Below.heap_setCell _ _ _ _ (by show W0.heap.size ≠ g; omega)).trans ((Below.heap_setCell _ _ _ _ (by show W0.heap.size ≠ g; omega)).trans HBK7.out))
            have H7p : Hid (RS W0 ((w7.setCell ⟨g, 0, none⟩ (.string a)).setCell ⟨g, 1, none⟩ (.string b)) l bx) := hid (H5.out.keep ((HB57.out.setCell (p := ⟨g, 0, none⟩) (Nat.le_of_eq HG7.out.symm) _).setCell (p := ⟨g, 1, none⟩) (Nat.le_of_eq HG7.out.symm) _))
            refine start_ (n := 13) (S := (fun w' => w'.cell? ⟨W0.heap.size, 1, none⟩ = some (.slice Ab nb cb) ∧ w'.cell? ⟨g, 0, none⟩ = some (.string a) ∧ w'.cell? ⟨g, 1, none⟩ = some (.string b))) (ds := [12]) #[false, false, false, false, false, false, false, false, false, false, false, false, false] (by kernel_rfl) rfl rfl ⟨(blk_cell (blk_drew (blk_put HB7p.out 0 _ rfl)) 1).trans rfl, (blk_cell (blk_drew ((Below.heap_setCell _ _ _ _ (by show g ≠ W0.heap.size; omega)).trans HGp.out)) 0).trans rfl, (blk_cell (blk_drew ((Below.heap_setCell _ _ _ _ (by show g ≠ W0.heap.size; omega)).trans HGp.out)) 1).trans rfl⟩ (fun hHeld => ?_); refine with_tabW mbx_address.tab mbx_address.bits (fun HT_ HW_ => ?_)
            generalize hW8 : World.drew _ = w8 at hHeld ⊢
            have H8 : Hid (RS W0 w8 (l.drop i) bx) := hid (by rw [← hW8]; exact (RS.cutW H7p.out HB7p.out i hii.out _ _ _ (by first | rfl | (simp [*]; done) | (simp [*]; rfl)) (by first | rfl | (simp; done) | omega) (by first | rfl | (simp; done) | omega)).keep (below_drew (Below.refl _ _)))
            have HB8 : Hid (∃ A' n' c', w8.heap[W0.heap.size]? = some (.cells #[.slice A' n' c', .slice Ab nb cb] 67 (0, 0))) := hid ⟨_, _, _, by rw [← hW8]; exact blk_drew (blk_put HB7p.out 0 _ rfl)⟩
            have HG8 : Hid (w8.heap[g]? = some (.cells #[.string a, .string b] 29 (0, 0))) := hid (by rw [← hW8]; exact blk_drew ((Below.heap_setCell _ _ _ _ (by show g ≠ W0.heap.size; omega)).trans HGp.out))
            clear hW8 b0 b1 bf0 bf1 r0 r1 rf0 rf1
            refine pure_ (i := 0) (N := some 56) (v := ?_) (a' := ?_) #[true, false, false, false, false, false, false, false, false, false, false, false, false] rfl rfl (any_of HT_.out (by kernel_rfl)) (fun _ _ _ h => h) (Or.inl ⟨by rfl, ?_⟩) ?_ ?_
            rotate_left
            · intro w'
              go_simp
              with_reducible rfl
            rotate_left
            · simp only [Act.put, List.setIfInBounds_toArray, List.set_cons_zero, List.set_cons_succ, i64_w, i32_w]
              rfl
            refine pure_ (i := 1) (N := some 57) (v := ?_) (a' := ?_) #[true, true, false, false, false, false, false, false, false, false, false, false, false] rfl rfl (any_of HT_.out (by kernel_rfl)) (fun _ _ _ h => h) (Or.inl ⟨by rfl, ?_⟩) ?_ ?_
            rotate_left
            · intro w'
              go_simp
              with_reducible rfl
            rotate_left
            · simp only [Act.put, List.setIfInBounds_toArray, List.set_cons_zero, List.set_cons_succ, i64_w, i32_w]
              rfl
            refine pure_ (i := 2) (N := some 58) (v := ?_) (a' := ?_) #[true, true, true, false, false, false, false, false, false, false, false, false, false] rfl rfl (any_of HT_.out (by kernel_rfl)) (fun _ _ _ h => h) (Or.inl ⟨by rfl, ?_⟩) ?_ ?_
            rotate_left
            · intro w'
              go_simp
              with_reducible rfl
            rotate_left
            · simp only [Act.put, List.setIfInBounds_toArray, List.set_cons_zero, List.set_cons_succ, i64_w, i32_w]
              rfl
            refine pure_ (i := 3) (N := some 59) (v := ?_) (a' := ?_) #[true, true, true, true, false, false, false, false, false, false, false, false, false] rfl rfl (any_of HT_.out (by kernel_rfl)) (fun _ _ _ h => h) (Or.inl ⟨by rfl, ?_⟩) ?_ ?_
            rotate_left
            · intro w'
              go_simp
              with_reducible rfl
            rotate_left
            · simp only [Act.put, List.setIfInBounds_toArray, List.set_cons_zero, List.set_cons_succ, i64_w, i32_w]
              rfl
            refine take_ (i := 4) (N := some 60) (v := ?_) (a' := ?_) #[true, true, true, true, true, false, false, false, false, false, false, false, false] rfl rfl (take_ofW HT_.out HW_.out (by kernel_rfl)) (fun _ _ _ h => h) (Or.inl ⟨by rfl, ?_⟩) hHeld ?_ ?_
            rotate_left
            · rintro w' ⟨s0, s1, s2⟩
              go_simp
              with_reducible rfl
            rotate_left
            · simp only [Act.put, List.setIfInBounds_toArray, List.set_cons_zero, List.set_cons_succ, i64_w, i32_w]
              rfl
            refine pure_ (i := 5) (N := some 61) (v := ?_) (a' := ?_) #[true, true, true, true, true, true, false, false, false, false, false, false, false] rfl rfl (any_of HT_.out (by kernel_rfl)) (fun _ _ _ h => h) (Or.inl ⟨by rfl, ?_⟩) ?_ ?_
            rotate_left
            · intro w'
              go_simp
              with_reducible rfl
            rotate_left
            · simp only [Act.put, List.setIfInBounds_toArray, List.set_cons_zero, List.set_cons_succ, i64_w, i32_w]
              rfl
            refine take_ (i := 6) (N := some 62) (v := ?_) (a' := ?_) #[true, true, true, true, true, true, true, false, false, false, false, false, false] rfl rfl (take_ofW HT_.out HW_.out (by kernel_rfl)) (fun _ _ _ h => h) (Or.inl ⟨by rfl, ?_⟩) hHeld ?_ ?_
            rotate_left
            · rintro w' ⟨s0, s1, s2⟩
              go_simp
              with_reducible rfl
            rotate_left
            · simp only [Act.put, List.setIfInBounds_toArray, List.set_cons_zero, List.set_cons_succ, i64_w, i32_w]
              rfl
            refine pure_ (i := 7) (N := some 63) (v := ?_) (a' := ?_) #[true, true, true, true, true, true, true, true, false, false, false, false, false] rfl rfl (any_of HT_.out (by kernel_rfl)) (fun _ _ _ h => h) (Or.inl ⟨by rfl, ?_⟩) ?_ ?_
            rotate_left
            · intro w'
              go_simp
              with_reducible rfl
            rotate_left
            · simp only [Act.put, List.setIfInBounds_toArray, List.set_cons_zero, List.set_cons_succ, i64_w, i32_w]
              rfl
            refine one_ (i := 8) (N := some 64) #[true, true, true, true, true, true, true, true, true, false, false, false, false] rfl rfl (one_of HT_.out (by kernel_rfl)) (by decide) (fun K hK => ?_)
            refine value_ (w1 := ?_) (v := ?_) (by rfl) rfl ?_ ?_
            rotate_left 2
            · go_simp
              constructor
              · rfl
              · rfl
            refine hK.out _ _ ⟨(blk_cell (blk_alloc (show w8.heap[W0.heap.size]? = some (.cells #[.slice _ _ _, .slice Ab nb cb] _ (0, 0)) from HB8.out.choose_spec.choose_spec.choose_spec) (.cells #[.string nm, .string a, .string b] 31)) 1).trans rfl, (blk_cell (blk_alloc HG8.out (.cells #[.string nm, .string a, .string b] 31)) 0).trans rfl, (blk_cell (blk_alloc HG8.out (.cells #[.string nm, .string a, .string b] 31)) 1).trans rfl⟩ (fun hHeld3 => ?_)
            clear hK K
            refine norm_ (a' := ?_) ?_ ?_
            rotate_left
            · show Act.put _ (some 64) _ = _
              simp only [Act.put, List.setIfInBounds_toArray, List.set_cons_zero, List.set_cons_succ, i64_w, i32_w]
              rfl
            refine one_ (i := 9) (N := some 65) #[true, true, true, true, true, true, true, true, true, true, false, false, false] rfl rfl (one_of HT_.out (by kernel_rfl)) (by decide) (fun K hK => ?_)
            have hRb : Kd.R k31 31 w8 (W0.heap.size + 1) (fun _ => True) (.slice Ab nb cb) (bx.map toBox) := by
              obtain ⟨A', n', c', h1⟩ := HB8.out
              exact H8.out.boxes h1
            refine Kd.R_append_step k31 (w0 := w8) (W0.heap.size + 1) (by rfl) (.tmp 60) (.tmp 64) 24 31 (.agg #[(.string ⟨#[]⟩), (.string ⟨#[]⟩), (.string ⟨#[]⟩)]) 48 rfl Tryd.underlying24 info31 rfl (by decide) (by omega) (.slice Ab nb cb) (bx.map toBox) (⟨nm, ⟨a, b⟩⟩ : S31) [.string nm, .string a, .string b] (fun _ => True) (fun _ => False) rfl rfl (k31_mkM _ _ _ _) (fun _ hk => hk.elim) (fun _ _ => trivial) hRb (Below.refl _ _) H8.out.lt (by rw [List.length_map]; have := HMM.out; omega) ?_
            intro v1 w9 ho hb9 hg9 hat9
            obtain ⟨Av, nv, cv, rfl⟩ : ∃ Av nv cv, v1 = .slice Av nv cv := by
              obtain ⟨Av, cv, e⟩ := Kd.R_slice ho
              exact ⟨Av, _, cv, e⟩
            have HB9 : Hid (∃ A' n' c', w9.heap[W0.heap.size]? = some (.cells #[.slice A' n' c', .slice Ab nb cb] 67 (0, 0))) := by
              obtain ⟨A', n', c', h1⟩ := HB8.out
              exact hid ⟨A', n', c', (hb9.block W0.heap.size (Nat.lt_succ_self _)).trans h1⟩
            have HG9 := hid ((hg9.block g (blk_lt HG8.out) (Kd.R_ne hRb HG8.out (by decide))).trans HG8.out)
            have HFIN := hid (H8.out.grow hb9 ho hnb100.out)
            refine hK.out _ _ ⟨(blk_cell HB9.out.choose_spec.choose_spec.choose_spec 1).trans rfl, (blk_cell HG9.out 0).trans rfl, (blk_cell HG9.out 1).trans rfl⟩ (fun hHeld4 => ?_)
            clear hK K hRb ho hb9 hg9 hat9
            refine norm_ (a' := ?_) ?_ ?_
            rotate_left
            · show Act.put _ (some 65) _ = _
              simp only [Act.put, List.setIfInBounds_toArray, List.set_cons_zero, List.set_cons_succ, i64_w, i32_w]
              rfl
            refine pure_ (i := 10) (N := some 66) (v := ?_) (a' := ?_) #[true, true, true, true, true, true, true, true, true, true, true, false, false] rfl rfl (any_of HT_.out (by kernel_rfl)) (fun _ _ _ h => h) (Or.inl ⟨by rfl, ?_⟩) ?_ ?_
            rotate_left
            · intro w'
              go_simp
              with_reducible rfl
            rotate_left
            · simp only [Act.put, List.setIfInBounds_toArray, List.set_cons_zero, List.set_cons_succ, i64_w, i32_w]
              rfl
            refine pure_ (i := 11) (N := some 67) (v := ?_) (a' := ?_) #[true, true, true, true, true, true, true, true, true, true, true, true, false] rfl rfl (any_of HT_.out (by kernel_rfl)) (fun _ _ _ h => h) (Or.inl ⟨by rfl, ?_⟩) ?_ ?_
            rotate_left
            · intro w'
              go_simp
              with_reducible rfl
            rotate_left
            · simp only [Act.put, List.setIfInBounds_toArray, List.set_cons_zero, List.set_cons_succ, i64_w, i32_w]
              rfl
            have t1 := (blk_cell HB9.out.choose_spec.choose_spec.choose_spec 1).trans rfl
            have tf1 := blk_frozen HB9.out.choose_spec.choose_spec.choose_spec 1
            refine last_ (i := 12) (N := none) #[true, true, true, true, true, true, true, true, true, true, true, true, true] rfl rfl (one_of HT_.out (by kernel_rfl)) (by decide) (fun K hK => ?_)
            refine skip_ (w1 := w9.setCell ⟨W0.heap.size, 1, none⟩ (.slice Av nv cv)) (by rfl) rfl ?_ ?_
            · go_simp
            refine hK.out _ _ ?_
            clear hK K
            refine done_ (done_of HT_.out (by kernel_rfl)) ?_
            go_wp2
            go_ret
            have hal : Pl.addressM (Pl.bs nm) l bx = ((l.drop i, bx ++ [(Pl.bs nm, Pl.bs a, Pl.bs b)]), 0) := by rw [hadr.out, if_neg (by simp), if_neg hnb100.out]
            rw [hal]
            exact ⟨rfl, fun _ => HFIN.out, HFIN.out.below⟩
    | cons t r =>
      have hl : i < l.length := by
        have := congrArg List.length hd
        rw [List.length_drop, List.length_cons] at this
        omega
      obtain ⟨ad, rfl, h0, h1⟩ := tok_cell hC hB hd
      have c1 : decide ((i : Int) < (l.length : Int)) = true := decide_eq_true (by omega)
      have c1n : decide (i < l.length) = true := decide_eq_true (by omega)
      have c2 : ((i : Int) < (l.length : Int)) = True := eq_true (by omega)
      have c3 : (i < l.length) = True := eq_true (by omega)
      have c5 : ((0 : Int) ≤ (i : Int)) = True := eq_true (by omega)
      have hsnoc : l.take (i + 1) = l.take i ++ [t] := by
        rw [List.take_succ_eq_append_getElem hl]
        congr 2
        have := List.getElem?_drop (xs := l) (i := i) (j := 0)
        rw [hd] at this
        simpa [List.getElem?_eq_getElem hl] using this.symm
      have HSN := hid hsnoc
      have HD := hid hd
      have hst := hid (stops_is (hS.ok t (List.mem_of_mem_drop (i := i) (by rw [hd]; exact List.mem_cons_self))))
      have HG := hid (H.out.globw)
      cases hq : Pl.stopT t with
      | false =>
        rw [hq] at hst
        clear hsnoc hd hb hC hR hB hS hM hG
        go_wp2_with (go_at_call 97; refine (mbx_stops.calls t.1 (Pl.str t.2) false wr HG.out hst.out).mono ?_; rintro e w' ⟨rfl, hb'⟩)
        go_roundw
        case rel => exact ⟨i + 1, by go_num, by omega, hid (by rw [HSN.out, List.all_append, HW.out]; simp [Pl.nonT, hq]), hid (H.out.keep hb')⟩
        case measure => simp [intOf]; omega
      | true =>
        rw [hq] at hst
        obtain ⟨Ab, cb, nb, rfl, hnb⟩ : ∃ Ab cb nb, v = .slice Ab nb cb ∧ Hid (nb = bx.length) := by
          obtain ⟨Ab, cb, e⟩ := Kd.R_slice hR
          exact ⟨Ab, cb, _, e, hid (List.length_map _)⟩
        have htw := hid (take_non HW.out (.inr ⟨t, r, HD.out, by unfold Pl.nonT; rw [hq]; rfl⟩))
        have hof := hid (fun W1 (hB1 : Below W0.heap.size W0 W1) => of_call hC hc hS i hi hB1)
        obtain ⟨⟨a, b, e0⟩, hres⟩ : ∃ x, Pl.ofT (l.take i) = x := ⟨_, rfl⟩
        rw [hres] at hof
        have hadr : Hid (Pl.addressM (Pl.bs nm) l bx = if e0 ≠ 0 then Pl.failM e0 else if bx.length = 100 then Pl.failM 8 else ((l.drop i, bx ++ [(Pl.bs nm, Pl.bs a, Pl.bs b)]), 0)) := by
          refine hid ?_
          unfold Pl.addressM
          rw [htw.out.1, htw.out.2, hres]
        have c6 : ((i : Int) ≤ (c : Int)) = True := eq_true (by omega)
        have c7 : (i ≤ c) = True := eq_true (by omega)
        have c8 : ((0 : Int) ≤ (i : Int)) = True := eq_true (by omega)
        have c9 : ((i : Int) ≤ (l.length : Int)) = True := eq_true (by omega)
        have c10 : (i ≤ l.length) = True := eq_true (by omega)
        have c11 : ((l.length : Int) ≤ (c : Int)) = True := eq_true (by omega)
        have c12 : (l.length ≤ c) = True := eq_true (by omega)
        have HBK := hid hb
        have hRlt := hid H.out.lt
        have hcc := hid hc
        have hii := hid hi
        have hzz := hid hz
        have HC := hid hC
        have HSM := hid hS
        have HMM := hid hM
        have HGG := hid hG
        clear hb hC hR hB hS hM hG hi hz hc hsnoc hd
        by_cases he : e0 = 0
        case neg =>
          have ce : (e0 != 0) = true := bne_iff_ne.2 he
          go_wp2_with (first
            | (go_at_call 97; refine (mbx_stops.calls t.1 (Pl.str t.2) true wr HG.out hst.out).mono ?_; rintro e w2 ⟨rfl, hb'⟩; have H2 := hid (H.out.keep hb'); have HBK2 := hid ((hb'.block W0.heap.size H.out.lt).trans HBK.out); have s0 := (blk_cell HBK2.out 0).trans rfl; clear hb')
            | (go_at_call 98; refine (hof.out _ H2.out.below).mono ?_; rintro e w5 ⟨rfl, b5⟩; have H5 := hid (H2.out.keep b5); have HBK5 := hid ((b5.block W0.heap.size H2.out.lt).trans HBK2.out))
            | ((with_reducible refine gate_dst (N := 6) rfl ?_); refine box_event ?hg (N := 6) ?hd (cs := #[.string (⟨#[]⟩ : ByteArray), .string (⟨#[]⟩ : ByteArray)]) (t := 29) ?hr ?_; (case hd => rfl); (case hg => rfl); (case hr => first | (go_simp; done) | (go_simp; rfl)); intro g hg w7 hbox hb; have b0 := (blk_cell hbox 0).trans rfl; have b1 := (blk_cell hbox 1).trans rfl; have bf0 := blk_frozen hbox 0; have bf1 := blk_frozen hbox 1; have H7 := hid (H5.out.keep hb); have HG7 := hid hg; have HL5 := hid H5.out.lt; clear hb hbox hg))
          go_ret
          refine ⟨?_, fun h0 => ?_, ?_⟩
          · rw [hadr.out, if_pos he]; rfl
          · rw [hadr.out, if_pos he] at h0; exact absurd h0 he
          · exact (H7.out.below.setCell (p := ⟨g, 0, none⟩) (by show W0.heap.size ≤ g; have := HL5.out; have := HG7.out; omega) _).setCell (p := ⟨g, 1, none⟩) (by show W0.heap.size ≤ g; have := HL5.out; have := HG7.out; omega) _
        case pos =>
          subst he
          by_cases hn : nb = 100
          · have cn : ((nb : Int) == 100) = true := beq_iff_eq.2 (by omega)
            have cn2 : (nb == 100) = true := beq_iff_eq.2 hn
            go_wp2_with (first
            | (go_at_call 97; refine (mbx_stops.calls t.1 (Pl.str t.2) true wr HG.out hst.out).mono ?_; rintro e w2 ⟨rfl, hb'⟩; have H2 := hid (H.out.keep hb'); have HBK2 := hid ((hb'.block W0.heap.size H.out.lt).trans HBK.out); have s0 := (blk_cell HBK2.out 0).trans rfl; clear hb')
              | (go_at_call 98; refine (hof.out _ H2.out.below).mono ?_; rintro e w5 ⟨rfl, b5⟩; have H5 := hid (H2.out.keep b5); have HBK5 := hid ((b5.block W0.heap.size H2.out.lt).trans HBK2.out))
              | ((with_reducible refine gate_dst (N := 6) rfl ?_); refine box_event ?hg (N := 6) ?hd (cs := #[.string (⟨#[]⟩ : ByteArray), .string (⟨#[]⟩ : ByteArray)]) (t := 29) ?hr ?_; (case hd => rfl); (case hg => rfl); (case hr => first | (go_simp; done) | (go_simp; rfl)); intro g hg w7 hbox hb; have b0 := (blk_cell hbox 0).trans rfl; have b1 := (blk_cell hbox 1).trans rfl; have bf0 := blk_frozen hbox 0; have bf1 := blk_frozen hbox 1; have HB57 := hid hb; have HG7k := hid hbox; have HBK7 := hid ((hb.block W0.heap.size H5.out.lt).trans HBK5.out); have H7 := hid (H5.out.keep hb); have HG7 := hid hg; have HL5 := hid H5.out.lt; have hne : ¬ W0.heap.size = g := (by have := HL5.out; omega); have r0 := (blk_cell HBK7.out 0).trans rfl; have r1 := (blk_cell HBK7.out 1).trans rfl; have rf0 := blk_frozen HBK7.out 0; have rf1 := blk_frozen HBK7.out 1; clear hb hbox hg))
            all_goals
              have hb100 : bx.length = 100 := by rw [← hnb.out]; exact hn
              have hal : Pl.addressM (Pl.bs nm) l bx = Pl.failM 8 := by rw [hadr.out, if_neg (by simp), if_pos hb100]
              go_ret
              rw [hal]
              exact ⟨rfl, fun h0 => absurd h0 (by decide), (((H5.out.keep ((HB57.out.setCell (p := ⟨g, 0, none⟩) (Nat.le_of_eq HG7.out.symm) (.string a)).setCell (p := ⟨g, 1, none⟩) (Nat.le_of_eq HG7.out.symm) (.string b))).below).setCell (p := ⟨W0.heap.size, 0, none⟩) (Nat.le_refl _) _)⟩
          · have cn : ((nb : Int) == 100) = false := beq_eq_false_iff_ne.2 (by omega)
            have cn2 : (nb == 100) = false := beq_eq_false_iff_ne.2 hn
            go_wp2_with (first
            | (go_at_call 97; refine (mbx_stops.calls t.1 (Pl.str t.2) true wr HG.out hst.out).mono ?_; rintro e w2 ⟨rfl, hb'⟩; have H2 := hid (H.out.keep hb'); have HBK2 := hid ((hb'.block W0.heap.size H.out.lt).trans HBK.out); have s0 := (blk_cell HBK2.out 0).trans rfl; clear hb')
              | (go_at_call 98; refine (hof.out _ H2.out.below).mono ?_; rintro e w5 ⟨rfl, b5⟩; have H5 := hid (H2.out.keep b5); have HBK5 := hid ((b5.block W0.heap.size H2.out.lt).trans HBK2.out))
              | ((with_reducible refine gate_dst (N := 6) rfl ?_); refine box_event ?hg (N := 6) ?hd (cs := #[.string (⟨#[]⟩ : ByteArray), .string (⟨#[]⟩ : ByteArray)]) (t := 29) ?hr ?_; (case hd => rfl); (case hg => rfl); (case hr => first | (go_simp; done) | (go_simp; rfl)); intro g hg w7 hbox hb; have b0 := (blk_cell hbox 0).trans rfl; have b1 := (blk_cell hbox 1).trans rfl; have bf0 := blk_frozen hbox 0; have bf1 := blk_frozen hbox 1; have HB57 := hid hb; have HG7k := hid hbox; have HBK7 := hid ((hb.block W0.heap.size H5.out.lt).trans HBK5.out); have H7 := hid (H5.out.keep hb); have HG7 := hid hg; have HL5 := hid H5.out.lt; have hne : ¬ W0.heap.size = g := (by have := HL5.out; omega); have r0 := (blk_cell HBK7.out 0).trans rfl; have r1 := (blk_cell HBK7.out 1).trans rfl; have rf0 := blk_frozen HBK7.out 0; have rf1 := blk_frozen HBK7.out 1; clear hb hbox hg))
            all_goals
              have hgR : W0.heap.size < g := by have := HL5.out; have := HG7.out; omega
              have hnb100 : Hid (¬ bx.length = 100) := hid (by rw [← hnb.out]; exact hn)
              have HGp : Hid (((w7.setCell ⟨g, 0, none⟩ (.string a)).setCell ⟨g, 1, none⟩ (.string b)).heap[g]? = some (.cells #[.string a, .string b] 29 (0, 0))) := hid (blk_put (blk_put HG7k.out 0 _ rfl) 1 _ rfl)
              have HB7p : Hid (((w7.setCell ⟨g, 0, none⟩ (.string a)).setCell ⟨g, 1, none⟩ (.string b)).heap[W0.heap.size]? = some (.cells #[.slice (some ad) l.length c, .slice Ab nb cb] 67 (0, 0))) := hid ((Below.heap_setCell _ _ _ _ (by show W0.heap.size ≠ g; omega)).trans ((Below.heap_setCell _ _ _ _ (by show W0.heap.size ≠ g; omega)).trans HBK7.out))
              have H7p : Hid (RS W0 ((w7.setCell ⟨g, 0, none⟩ (.string a)).setCell ⟨g, 1, none⟩ (.string b)) l bx) := hid (H5.out.keep ((HB57.out.setCell (p := ⟨g, 0, none⟩) (Nat.le_of_eq HG7.out.symm) _).setCell (p := ⟨g, 1, none⟩) (Nat.le_of_eq HG7.out.symm) _))
              refine start_ (n := 13) (S := (fun w' => w'.cell? ⟨W0.heap.size, 1, none⟩ = some (.slice Ab nb cb) ∧ w'.cell? ⟨g, 0, none⟩ = some (.string a) ∧ w'.cell? ⟨g, 1, none⟩ = some (.string b))) (ds := [12]) #[false, false, false, false, false, false, false, false, false, false, false, false, false] (by kernel_rfl) rfl rfl ⟨(blk_cell (blk_drew (blk_put HB7p.out 0 _ rfl)) 1).trans rfl, (blk_cell (blk_drew ((Below.heap_setCell _ _ _ _ (by show g ≠ W0.heap.size; omega)).trans HGp.out)) 0).trans rfl, (blk_cell (blk_drew ((Below.heap_setCell _ _ _ _ (by show g ≠ W0.heap.size; omega)).trans HGp.out)) 1).trans rfl⟩ (fun hHeld => ?_); refine with_tabW mbx_address.tab mbx_address.bits (fun HT_ HW_ => ?_)
              generalize hW8 : World.drew _ = w8 at hHeld ⊢
              have H8 : Hid (RS W0 w8 (l.drop i) bx) := hid (by rw [← hW8]; exact (RS.cutW H7p.out HB7p.out i hii.out _ _ _ (by first | rfl | (simp [*]; done) | (simp [*]; rfl)) (by first | rfl | (simp; done) | omega) (by first | rfl | (simp; done) | omega)).keep (below_drew (Below.refl _ _)))
              have HB8 : Hid (∃ A' n' c', w8.heap[W0.heap.size]? = some (.cells #[.slice A' n' c', .slice Ab nb cb] 67 (0, 0))) := hid ⟨_, _, _, by rw [← hW8]; exact blk_drew (blk_put HB7p.out 0 _ rfl)⟩
              have HG8 : Hid (w8.heap[g]? = some (.cells #[.string a, .string b] 29 (0, 0))) := hid (by rw [← hW8]; exact blk_drew ((Below.heap_setCell _ _ _ _ (by show g ≠ W0.heap.size; omega)).trans HGp.out))
              clear hW8 b0 b1 bf0 bf1 r0 r1 rf0 rf1
              refine pure_ (i := 0) (N := some 56) (v := ?_) (a' := ?_) #[true, false, false, false, false, false, false, false, false, false, false, false, false] rfl rfl (any_of HT_.out (by kernel_rfl)) (fun _ _ _ h => h) (Or.inl ⟨by rfl, ?_⟩) ?_ ?_
              rotate_left
              · intro w'
                go_simp
                with_reducible rfl
              rotate_left
              · simp only [Act.put, List.setIfInBounds_toArray, List.set_cons_zero, List.set_cons_succ, i64_w, i32_w]
                rfl
              refine pure_ (i := 1) (N := some 57) (v := ?_) (a' := ?_) #[true, true, false, false, false, false, false, false, false, false, false, false, false] rfl rfl (any_of HT_.out (by kernel_rfl)) (fun _ _ _ h => h) (Or.inl ⟨by rfl, ?_⟩) ?_ ?_
              rotate_left
              · intro w'
                go_simp
                with_reducible rfl
              rotate_left
              · simp only [Act.put, List.setIfInBounds_toArray, List.set_cons_zero, List.set_cons_succ, i64_w, i32_w]
                rfl
              refine pure_ (i := 2) (N := some 58) (v := ?_) (a' := ?_) #[true, true, true, false, false, false, false, false, false, false, false, false, false] rfl rfl (any_of HT_.out (by kernel_rfl)) (fun _ _ _ h => h) (Or.inl ⟨by rfl, ?_⟩) ?_ ?_
              rotate_left
              · intro w'
                go_simp
                with_reducible rfl
              rotate_left
              · simp only [Act.put, List.setIfInBounds_toArray, List.set_cons_zero, List.set_cons_succ, i64_w, i32_w]
                rfl
              refine pure_ (i := 3) (N := some 59) (v := ?_) (a' := ?_) #[true, true, true, true, false, false, false, false, false, false, false, false, false] rfl rfl (any_of HT_.out (by kernel_rfl)) (fun _ _ _ h => h) (Or.inl ⟨by rfl, ?_⟩) ?_ ?_
              rotate_left
              · intro w'
                go_simp
                with_reducible rfl
              rotate_left
              · simp only [Act.put, List.setIfInBounds_toArray, List.set_cons_zero, List.set_cons_succ, i64_w, i32_w]
                rfl
              refine take_ (i := 4) (N := some 60) (v := ?_) (a' := ?_) #[true, true, true, true, true, false, false, false, false, false, false, false, false] rfl rfl (take_ofW HT_.out HW_.out (by kernel_rfl)) (fun _ _ _ h => h) (Or.inl ⟨by rfl, ?_⟩) hHeld ?_ ?_
              rotate_left
              · rintro w' ⟨s0, s1, s2⟩
                go_simp
                with_reducible rfl
              rotate_left
              · simp only [Act.put, List.setIfInBounds_toArray, List.set_cons_zero, List.set_cons_succ, i64_w, i32_w]
                rfl
              refine pure_ (i := 5) (N := some 61) (v := ?_) (a' := ?_) #[true, true, true, true, true, true, false, false, false, false, false, false, false] rfl rfl (any_of HT_.out (by kernel_rfl)) (fun _ _ _ h => h) (Or.inl ⟨by rfl, ?_⟩) ?_ ?_
              rotate_left
              · intro w'
                go_simp
                with_reducible rfl
              rotate_left
              · simp only [Act.put, List.setIfInBounds_toArray, List.set_cons_zero, List.set_cons_succ, i64_w, i32_w]
                rfl
              refine take_ (i := 6) (N := some 62) (v := ?_) (a' := ?_) #[true, true, true, true, true, true, true, false, false, false, false, false, false] rfl rfl (take_ofW HT_.out HW_.out (by kernel_rfl)) (fun _ _ _ h => h) (Or.inl ⟨by rfl, ?_⟩) hHeld ?_ ?_
              rotate_left
              · rintro w' ⟨s0, s1, s2⟩
                go_simp
                with_reducible rfl
              rotate_left
              · simp only [Act.put, List.setIfInBounds_toArray, List.set_cons_zero, List.set_cons_succ, i64_w, i32_w]
                rfl
              refine pure_ (i := 7) (N := some 63) (v := ?_) (a' := ?_) #[true, true, true, true, true, true, true, true, false, false, false, false, false] rfl rfl (any_of HT_.out (by kernel_rfl)) (fun _ _ _ h => h) (Or.inl ⟨by rfl, ?_⟩) ?_ ?_
              rotate_left
              · intro w'
                go_simp
                with_reducible rfl
              rotate_left
              · simp only [Act.put, List.setIfInBounds_toArray, List.set_cons_zero, List.set_cons_succ, i64_w, i32_w]
                rfl
              refine one_ (i := 8) (N := some 64) #[true, true, true, true, true, true, true, true, true, false, false, false, false] rfl rfl (one_of HT_.out (by kernel_rfl)) (by decide) (fun K hK => ?_)
              refine value_ (w1 := ?_) (v := ?_) (by rfl) rfl ?_ ?_
              rotate_left 2
              · go_simp
                constructor
                · rfl
                · rfl
              refine hK.out _ _ ⟨(blk_cell (blk_alloc (show w8.heap[W0.heap.size]? = some (.cells #[.slice _ _ _, .slice Ab nb cb] _ (0, 0)) from HB8.out.choose_spec.choose_spec.choose_spec) (.cells #[.string nm, .string a, .string b] 31)) 1).trans rfl, (blk_cell (blk_alloc HG8.out (.cells #[.string nm, .string a, .string b] 31)) 0).trans rfl, (blk_cell (blk_alloc HG8.out (.cells #[.string nm, .string a, .string b] 31)) 1).trans rfl⟩ (fun hHeld3 => ?_)
              clear hK K
              refine norm_ (a' := ?_) ?_ ?_
              rotate_left
              · show Act.put _ (some 64) _ = _
                simp only [Act.put, List.setIfInBounds_toArray, List.set_cons_zero, List.set_cons_succ, i64_w, i32_w]
                rfl
              refine one_ (i := 9) (N := some 65) #[true, true, true, true, true, true, true, true, true, true, false, false, false] rfl rfl (one_of HT_.out (by kernel_rfl)) (by decide) (fun K hK => ?_)
              have hRb : Kd.R k31 31 w8 (W0.heap.size + 1) (fun _ => True) (.slice Ab nb cb) (bx.map toBox) := by
                obtain ⟨A', n', c', h1⟩ := HB8.out
                exact H8.out.boxes h1
              refine Kd.R_append_step k31 (w0 := w8) (W0.heap.size + 1) (by rfl) (.tmp 60) (.tmp 64) 24 31 (.agg #[(.string ⟨#[]⟩), (.string ⟨#[]⟩), (.string ⟨#[]⟩)]) 48 rfl Tryd.underlying24 info31 rfl (by decide) (by omega) (.slice Ab nb cb) (bx.map toBox) (⟨nm, ⟨a, b⟩⟩ : S31) [.string nm, .string a, .string b] (fun _ => True) (fun _ => False) rfl rfl (k31_mkM _ _ _ _) (fun _ hk => hk.elim) (fun _ _ => trivial) hRb (Below.refl _ _) H8.out.lt (by rw [List.length_map]; have := HMM.out; omega) ?_
              intro v1 w9 ho hb9 hg9 hat9
              obtain ⟨Av, nv, cv, rfl⟩ : ∃ Av nv cv, v1 = .slice Av nv cv := by
                obtain ⟨Av, cv, e⟩ := Kd.R_slice ho
                exact ⟨Av, _, cv, e⟩
              have HB9 : Hid (∃ A' n' c', w9.heap[W0.heap.size]? = some (.cells #[.slice A' n' c', .slice Ab nb cb] 67 (0, 0))) := by
                obtain ⟨A', n', c', h1⟩ := HB8.out
                exact hid ⟨A', n', c', (hb9.block W0.heap.size (Nat.lt_succ_self _)).trans h1⟩
              have HG9 := hid ((hg9.block g (blk_lt HG8.out) (Kd.R_ne hRb HG8.out (by decide))).trans HG8.out)
              have HFIN := hid (H8.out.grow hb9 ho hnb100.out)
              refine hK.out _ _ ⟨(blk_cell HB9.out.choose_spec.choose_spec.choose_spec 1).trans rfl, (blk_cell HG9.out 0).trans rfl, (blk_cell HG9.out 1).trans rfl⟩ (fun hHeld4 => ?_)
              clear hK K hRb ho hb9 hg9 hat9
              refine norm_ (a' := ?_) ?_ ?_
              rotate_left
              · show Act.put _ (some 65) _ = _
                simp only [Act.put, List.setIfInBounds_toArray, List.set_cons_zero, List.set_cons_succ, i64_w, i32_w]
                rfl
              refine pure_ (i := 10) (N := some 66) (v := ?_) (a' := ?_) #[true, true, true, true, true, true, true, true, true, true, true, false, false] rfl rfl (any_of HT_.out (by kernel_rfl)) (fun _ _ _ h => h) (Or.inl ⟨by rfl, ?_⟩) ?_ ?_
              rotate_left
              · intro w'
                go_simp
                with_reducible rfl
              rotate_left
              · simp only [Act.put, List.setIfInBounds_toArray, List.set_cons_zero, List.set_cons_succ, i64_w, i32_w]
                rfl
              refine pure_ (i := 11) (N := some 67) (v := ?_) (a' := ?_) #[true, true, true, true, true, true, true, true, true, true, true, true, false] rfl rfl (any_of HT_.out (by kernel_rfl)) (fun _ _ _ h => h) (Or.inl ⟨by rfl, ?_⟩) ?_ ?_
              rotate_left
              · intro w'
                go_simp
                with_reducible rfl
              rotate_left
              · simp only [Act.put, List.setIfInBounds_toArray, List.set_cons_zero, List.set_cons_succ, i64_w, i32_w]
                rfl
              have t1 := (blk_cell HB9.out.choose_spec.choose_spec.choose_spec 1).trans rfl
              have tf1 := blk_frozen HB9.out.choose_spec.choose_spec.choose_spec 1
              refine last_ (i := 12) (N := none) #[true, true, true, true, true, true, true, true, true, true, true, true, true] rfl rfl (one_of HT_.out (by kernel_rfl)) (by decide) (fun K hK => ?_)
              refine skip_ (w1 := w9.setCell ⟨W0.heap.size, 1, none⟩ (.slice Av nv cv)) (by rfl) rfl ?_ ?_
              · go_simp
              refine hK.out _ _ ?_
              clear hK K
              refine done_ (done_of HT_.out (by kernel_rfl)) ?_
              go_wp2
              go_ret
              have hal : Pl.addressM (Pl.bs nm) l bx = ((l.drop i, bx ++ [(Pl.bs nm, Pl.bs a, Pl.bs b)]), 0) := by rw [hadr.out, if_neg (by simp), if_neg hnb100.out]
              rw [hal]
              exact ⟨rfl, fun _ => HFIN.out, HFIN.out.below⟩
end Go.Proofs.YtbjbpgmjijeppaaDoor.Fn
set_option linter.unusedVariables false
set_option linter.unusedSimpArgs false
namespace Go.Proofs.YtbjbpgmjijeppaaDoor.Fn
open Go.RowKit Go.Proofs.YtbjbpgmjijeppaaDoorW.PrintWords Go.Proofs.YtbjbpgmjijeppaaDoorW.PrintLast Go.Proofs.YtbjbpgmjijeppaaDoorW.PrintMore

/-! Layer 14: a mailbox, a group, an item, taken away from the front -/
theorem drop_while (p : Pl.Tok → Bool) : ∀ l : List Pl.Tok, l.drop (l.takeWhile p).length = l.dropWhile p
  | [] => rfl
  | t :: l => by
    rw [List.takeWhile_cons, List.dropWhile_cons]
    cases p t with
    | true => simp only [if_true, List.length_cons, List.drop_succ_cons]; exact drop_while p l
    | false => simp
theorem drop_tail {α : Type} (l : List α) (n : Nat) : l.drop (n + 1) = (l.drop n).tail := by
  rw [List.tail_drop]
theorem address_gives {W0 w : World} {l : List Pl.Tok} {bx : List Pl.BoxL} {nm : ByteArray} (h : RS W0 w l bx) {la : List Pl.Tok} {ba : List Pl.BoxL} {ea : Int} (hA : Pl.addressM (Pl.bs nm) l bx = ((la, ba), ea)) :
    Calls Tryd.prog 83 #[.pointer (some ⟨W0.heap.size, 0, none⟩), .string nm] w fun e w' => e = .returned (.int .i64 ea) ∧ (ea = 0 → RS W0 w' la ba) ∧ Below W0.heap.size W0 w' := by
  have := address_calls W0 w l bx nm h
  rw [hA] at this
  exact this
theorem at_gives {W0 w : World} {l : List Pl.Tok} {bx : List Pl.BoxL} (h : RS W0 w l bx) {c : UInt8} {q : Bool} (hq : Pl.headIs l [c] = q) :
    Calls Tryd.prog 61 #[.pointer (some ⟨W0.heap.size, 0, none⟩), .string ⟨#[c]⟩] w fun e w' => e = .returned (.bool q) ∧ w' = w := by
  have := at_calls W0 w l bx ⟨#[c]⟩ h
  rw [show Pl.bs ⟨#[c]⟩ = [c] from rfl, hq] at this
  exact this
theorem take_gives {W0 w : World} {l : List Pl.Tok} {bx : List Pl.BoxL} (h : RS W0 w l bx) {c : UInt8} {q : Bool} (hq : Pl.headIs l [c] = q) :
    Calls Tryd.prog 35 #[.pointer (some ⟨W0.heap.size, 0, none⟩), .string ⟨#[c]⟩] w fun e w' => e = .returned (.bool q) ∧ RS W0 w' (if q = true then l.tail else l) bx := by
  have := take_calls W0 w l bx ⟨#[c]⟩ h
  rw [show Pl.bs ⟨#[c]⟩ = [c] from rfl, hq] at this
  exact this
theorem follows_gives {W0 w : World} {l : List Pl.Tok} {bx : List Pl.BoxL} (h : RS W0 w l bx) {c : UInt8} {n : Nat} {q : Bool} (hn : (l.takeWhile Pl.wordT).length = n) (hq : Pl.headIs (l.dropWhile Pl.wordT) [c] = q) :
    Calls Tryd.prog 58 #[.pointer (some ⟨W0.heap.size, 0, none⟩), .int .i64 n, .string ⟨#[c]⟩] w fun e w' => e = .returned (.bool q) ∧ w' = w := by
  have := follows_calls W0 w l bx n ⟨#[c]⟩ h
  rw [show Pl.bs ⟨#[c]⟩ = [c] from rfl, ← hn, drop_while, hq] at this
  rw [← hn]
  exact this
theorem words_gives {W0 w : World} {l : List Pl.Tok} {bx : List Pl.BoxL} (h : RS W0 w l bx) {n : Nat} (hn : (l.takeWhile Pl.wordT).length = n) :
    Calls Tryd.prog 57 #[.pointer (some ⟨W0.heap.size, 0, none⟩)] w fun e w' => e = .returned (.tuple #[.int .i64 n, .string (Pl.str (Pl.nameL l))]) ∧ Below w.heap.size w w' := by
  have := words_calls W0 w l bx h
  rw [hn] at this
  exact this
theorem RS.holds {W0 w : World} {l : List Pl.Tok} {bx : List Pl.BoxL} (h : RS W0 w l bx) : ∃ (A : Option Addr) (n c : Nat) (v : Value), w.heap[W0.heap.size]? = some (.cells #[.slice A n c, v] 67 (0, 0)) ∧ n = l.length ∧ n ≤ c ∧ (0 < n → ∃ ad, A = some ad) := by
  obtain ⟨A, c, v, h1, h2, h3, h4⟩ := h.out
  refine ⟨A, l.length, c, v, h1, rfl, h3, fun hp => ?_⟩
  obtain ⟨ad, e, _⟩ := h2.2.2 hp
  exact ⟨ad, e⟩
set_option maxHeartbeats 8000000 in
set_option maxRecDepth 100000 in
theorem mailbox_calls (W0 w : World) (l : List Pl.Tok) (bx : List Pl.BoxL) (h : RS W0 w l bx) :
    Calls Tryd.prog 59 #[.pointer (some ⟨W0.heap.size, 0, none⟩)] w fun e w' => e = .returned (.int .i64 (Pl.mailboxM l bx).2) ∧ ((Pl.mailboxM l bx).2 = 0 → RS W0 w' (Pl.mailboxM l bx).1.1 (Pl.mailboxM l bx).1.2) ∧ Below W0.heap.size W0 w' := by
  obtain ⟨n, hn⟩ : ∃ n, (l.takeWhile Pl.wordT).length = n := ⟨_, rfl⟩
  have hw := hid (words_gives h hn)
  have H := hid h
  have hz := h.small.len
  clear h
  cases hq : Pl.headIs (l.dropWhile Pl.wordT) [60] with
  | false =>
    obtain ⟨⟨⟨la, ba⟩, ea⟩, hA⟩ : ∃ x, Pl.addressM [] l bx = x := ⟨_, rfl⟩
    have hM : Pl.mailboxM l bx = ((la, ba), ea) := by unfold Pl.mailboxM; rw [hq, if_neg (by decide), hA]
    rw [hM]
    have HA := hid hA
    have HN := hid hn
    have HQ := hid hq
    clear hA hM hn hq hz
    go_enter Tryd.func59, Tryd.ntmps59
    go_wp2_with (first
      | (go_at_call 57; refine hw.out.mono ?_; rintro e w1 ⟨rfl, b1⟩; have H1 := hid (H.out.keep b1))
      | (go_at_call 58; refine (follows_gives H1.out HN.out HQ.out).mono ?_; rintro e w2 ⟨rfl, rfl⟩)
      | (go_at_call 83; refine (address_gives (nm := ⟨#[]⟩) H1.out HA.out).mono ?_; rintro e w3 ⟨rfl, hR, hB⟩))
    go_ret
    exact ⟨rfl, hR, hB⟩
  | true =>
    obtain ⟨t, r, hr, ht⟩ := Pl.headIs_ne hq
    have hnl : n + 1 ≤ l.length := by
      have h1 := congrArg List.length (List.takeWhile_append_dropWhile (p := Pl.wordT) (l := l))
      rw [List.length_append, hn, hr, List.length_cons] at h1
      omega
    have hdr : l.drop (n + 1) = (l.dropWhile Pl.wordT).tail := by rw [drop_tail, ← hn, drop_while]
    obtain ⟨⟨⟨la, ba⟩, ea⟩, hA⟩ : ∃ x, Pl.addressM (Pl.nameL l) (l.drop (n + 1)) bx = x := ⟨_, rfl⟩
    have hA2 : Pl.addressM (Pl.bs (Pl.str (Pl.nameL l))) (l.drop (n + 1)) bx = ((la, ba), ea) := by rw [Pl.bs_str]; exact hA
    have hM : Pl.mailboxM l bx = Pl.angleM ((la, ba), ea) := by unfold Pl.mailboxM; rw [hq, if_pos rfl, ← hdr, hA]
    rw [hM]
    have HA := hid hA2
    have HN := hid hn
    have HQ := hid hq
    have HL := hid hnl
    clear hA hA2 hM hn hq hdr hr ht
    obtain ⟨m, hm⟩ : ∃ m, n + 1 = m := ⟨_, rfl⟩
    rw [hm] at HA HL
    have hwr : wrap64 ((n : Int) + 1) = (m : Int) := by rw [Pl.wrap_succ n (by have := HL.out; omega), hm]
    have hm0 : ((0 : Int) ≤ (m : Int)) = True := eq_true (by omega)
    have HZ := hid hz
    have HM := hid hm
    clear hm hz
    by_cases he : ea = 0
    case neg =>
      have ce : (ea != 0) = true := bne_iff_ne.2 he
      have hP : Pl.angleM ((la, ba), ea) = ((la, ba), ea) := by unfold Pl.angleM; rw [if_pos he]
      rw [hP]
      have hq2 : Hid (Pl.headIs la [62] = Pl.headIs la [62]) := hid rfl
      clear hP
      go_enter Tryd.func59, Tryd.ntmps59
      go_wp2_with (first
        | (go_at_call 57; refine hw.out.mono ?_; rintro e w1 ⟨rfl, b1⟩; have H1 := hid (H.out.keep b1); obtain ⟨A, ln, c, v, hb1, hln, hlc, hA1⟩ := H1.out.holds; obtain ⟨ad, rfl⟩ := hA1 (by have := HL.out; have := HM.out; omega); have r0 := (blk_cell hb1 0).trans rfl; have rf0 := blk_frozen hb1 0; have c1 : ((m : Int) ≤ (ln : Int)) = True := eq_true (by have := HL.out; omega); have c2 : ((ln : Int) ≤ (c : Int)) = True := eq_true (by omega); have c3 : ((m : Int) ≤ (c : Int)) = True := eq_true (by have := HL.out; omega); have c4 : (m ≤ ln) = True := eq_true (by have := HL.out; omega); have c5 : (ln ≤ c) = True := eq_true hlc; have c6 : (m ≤ c) = True := eq_true (by have := HL.out; omega); have HBK := hid hb1; clear hln hlc hA1 hb1)
        | (go_at_call 58; refine (follows_gives H1.out HN.out HQ.out).mono ?_; rintro e w2 ⟨rfl, rfl⟩)
        | (go_at_call 83; refine (address_gives (RS.cutW H1.out HBK.out m HL.out _ _ _ (by first | rfl | (simp [*]; done) | (simp [*]; rfl)) (by first | rfl | (simp; done) | omega) (by first | rfl | (simp; done) | omega)) HA.out).mono ?_; rintro e w3 ⟨rfl, hR, hB⟩; have HR3 := hid hR; have HB3 := hid hB; clear hR hB)
        | (go_at_call 35; refine (take_gives (HR3.out (by trivial)) hq2.out).mono ?_; rintro e w4 ⟨rfl, hR4⟩; have HR4 := hid hR4; clear hR4))
      all_goals
        go_ret
        first | exact ⟨rfl, HR3.out, HB3.out⟩ | exact ⟨rfl, HB3.out⟩
    case pos =>
      subst he
      cases hq2 : Pl.headIs la [62] with
      | false =>
        have hP : Pl.angleM ((la, ba), 0) = Pl.failM 130 := by unfold Pl.angleM; rw [if_neg (by simp), hq2]; rfl
        rw [hP]
        replace hq2 := hid hq2
        clear hP
        go_enter Tryd.func59, Tryd.ntmps59
        go_wp2_with (first
          | (go_at_call 57; refine hw.out.mono ?_; rintro e w1 ⟨rfl, b1⟩; have H1 := hid (H.out.keep b1); obtain ⟨A, ln, c, v, hb1, hln, hlc, hA1⟩ := H1.out.holds; obtain ⟨ad, rfl⟩ := hA1 (by have := HL.out; have := HM.out; omega); have r0 := (blk_cell hb1 0).trans rfl; have rf0 := blk_frozen hb1 0; have c1 : ((m : Int) ≤ (ln : Int)) = True := eq_true (by have := HL.out; omega); have c2 : ((ln : Int) ≤ (c : Int)) = True := eq_true (by omega); have c3 : ((m : Int) ≤ (c : Int)) = True := eq_true (by have := HL.out; omega); have c4 : (m ≤ ln) = True := eq_true (by have := HL.out; omega); have c5 : (ln ≤ c) = True := eq_true hlc; have c6 : (m ≤ c) = True := eq_true (by have := HL.out; omega); have HBK := hid hb1; clear hln hlc hA1 hb1)
          | (go_at_call 58; refine (follows_gives H1.out HN.out HQ.out).mono ?_; rintro e w2 ⟨rfl, rfl⟩)
          | (go_at_call 83; refine (address_gives (RS.cutW H1.out HBK.out m HL.out _ _ _ (by first | rfl | (simp [*]; done) | (simp [*]; rfl)) (by first | rfl | (simp; done) | omega) (by first | rfl | (simp; done) | omega)) HA.out).mono ?_; rintro e w3 ⟨rfl, hR, hB⟩; have HR3 := hid hR; have HB3 := hid hB; clear hR hB)
          | (go_at_call 35; refine (take_gives (HR3.out (by trivial)) hq2.out).mono ?_; rintro e w4 ⟨rfl, hR4⟩; have HR4 := hid hR4; clear hR4))
        all_goals
          go_ret
          first | exact ⟨rfl, fun h0 => absurd h0 (by decide), HR4.out.below⟩ | exact ⟨rfl, HR4.out.below⟩
      | true =>
        have hP : Pl.angleM ((la, ba), 0) = ((la.tail, ba), 0) := by unfold Pl.angleM; rw [if_neg (by simp), hq2]; rfl
        rw [hP]
        replace hq2 := hid hq2
        clear hP
        go_enter Tryd.func59, Tryd.ntmps59
        go_wp2_with (first
          | (go_at_call 57; refine hw.out.mono ?_; rintro e w1 ⟨rfl, b1⟩; have H1 := hid (H.out.keep b1); obtain ⟨A, ln, c, v, hb1, hln, hlc, hA1⟩ := H1.out.holds; obtain ⟨ad, rfl⟩ := hA1 (by have := HL.out; have := HM.out; omega); have r0 := (blk_cell hb1 0).trans rfl; have rf0 := blk_frozen hb1 0; have c1 : ((m : Int) ≤ (ln : Int)) = True := eq_true (by have := HL.out; omega); have c2 : ((ln : Int) ≤ (c : Int)) = True := eq_true (by omega); have c3 : ((m : Int) ≤ (c : Int)) = True := eq_true (by have := HL.out; omega); have c4 : (m ≤ ln) = True := eq_true (by have := HL.out; omega); have c5 : (ln ≤ c) = True := eq_true hlc; have c6 : (m ≤ c) = True := eq_true (by have := HL.out; omega); have HBK := hid hb1; clear hln hlc hA1 hb1)
          | (go_at_call 58; refine (follows_gives H1.out HN.out HQ.out).mono ?_; rintro e w2 ⟨rfl, rfl⟩)
          | (go_at_call 83; refine (address_gives (RS.cutW H1.out HBK.out m HL.out _ _ _ (by first | rfl | (simp [*]; done) | (simp [*]; rfl)) (by first | rfl | (simp; done) | omega) (by first | rfl | (simp; done) | omega)) HA.out).mono ?_; rintro e w3 ⟨rfl, hR, hB⟩; have HR3 := hid hR; have HB3 := hid hB; clear hR hB)
          | (go_at_call 35; refine (take_gives (HR3.out (by trivial)) hq2.out).mono ?_; rintro e w4 ⟨rfl, hR4⟩; have HR4 := hid hR4; clear hR4))
        all_goals
          go_ret
          first | exact ⟨rfl, fun _ => HR4.out, HR4.out.below⟩ | exact ⟨rfl, HR4.out, HR4.out.below⟩
theorem take_yes {W0 w : World} {l : List Pl.Tok} {bx : List Pl.BoxL} (h : RS W0 w l bx) {c : UInt8} (hq : Pl.headIs l [c] = true) :
    Calls Tryd.prog 35 #[.pointer (some ⟨W0.heap.size, 0, none⟩), .string ⟨#[c]⟩] w fun e w' => e = .returned (.bool true) ∧ RS W0 w' l.tail bx := take_gives h hq
theorem take_no {W0 w : World} {l : List Pl.Tok} {bx : List Pl.BoxL} (h : RS W0 w l bx) {c : UInt8} (hq : Pl.headIs l [c] = false) :
    Calls Tryd.prog 35 #[.pointer (some ⟨W0.heap.size, 0, none⟩), .string ⟨#[c]⟩] w fun e w' => e = .returned (.bool false) ∧ RS W0 w' l bx := take_gives h hq
theorem mailbox_gives {W0 w : World} {l : List Pl.Tok} {bx : List Pl.BoxL} (h : RS W0 w l bx) {la : List Pl.Tok} {ba : List Pl.BoxL} {ea : Int} (hA : Pl.mailboxM l bx = ((la, ba), ea)) :
    Calls Tryd.prog 59 #[.pointer (some ⟨W0.heap.size, 0, none⟩)] w fun e w' => e = .returned (.int .i64 ea) ∧ (ea = 0 → RS W0 w' la ba) ∧ Below W0.heap.size W0 w' := by
  have := mailbox_calls W0 w l bx h
  rw [hA] at this
  exact this
set_option maxHeartbeats 8000000 in
set_option maxRecDepth 100000 in
theorem group_gives {W0 w : World} {l : List Pl.Tok} {bx : List Pl.BoxL} (h : RS W0 w l bx) {k : Nat} {lx : List Pl.Tok} {bxx : List Pl.BoxL} {ex : Int} (hx : Pl.groupM k l bx = ((lx, bxx), ex)) (hk : l.length < k) :
    Calls Tryd.prog 60 #[.pointer (some ⟨W0.heap.size, 0, none⟩)] w fun e w' => e = .returned (.int .i64 ex) ∧ (ex = 0 → RS W0 w' lx bxx) ∧ Below W0.heap.size W0 w' := by
  have H0 := hid h
  have HX0 := hid hx
  have HK0 := hid hk
  clear h hx hk
  go_enter Tryd.func60, Tryd.ntmps60
  go_wp2
  go_loopg [3] k (fun kq v3 w' => ∃ (l1 : List Pl.Tok) (bx1 : List Pl.BoxL), Hid (Pl.groupM kq l1 bx1 = ((lx, bxx), ex)) ∧ Hid (RS W0 w' l1 bx1) ∧ Hid (l1.length < kq) ∧ Hid (kq ≤ k))
  case atStart => exact ⟨l, bx, HX0, H0, HK0, hid (Nat.le_refl _)⟩
  case round =>
    clear H0 HX0 HK0
    obtain ⟨l1, bx1, HX, H, HL, HK⟩ := hrel
    cases gk with
    | zero => exact absurd HL.out (by omega)
    | succ k1 =>
      have hX := HX.out
      clear HX
      rw [Pl.groupM] at hX
      cases c1 : Pl.headIs l1 [59] with
      | true =>
        rw [c1, if_pos rfl] at hX
        simp only [Prod.mk.injEq] at hX
        obtain ⟨⟨rfl, rfl⟩, rfl⟩ := hX
        have C1 := hid c1
        clear c1
        go_wp2_with (first
          | (go_at_call 35; refine (take_yes H.out (c := 59) C1.out).mono ?_; rintro e w1 ⟨rfl, h_⟩; have H1 := hid h_; clear h_))
        go_ret
        first | exact ⟨rfl, fun _ => H1.out, H1.out.below⟩ | exact ⟨rfl, H1.out, H1.out.below⟩
      | false =>
        rw [c1, if_neg (by decide)] at hX
        have C1 := hid c1
        clear c1
        obtain ⟨⟨⟨l2, b2⟩, e2⟩, hA⟩ : ∃ x, Pl.mailboxM l1 bx1 = x := ⟨_, rfl⟩
        rw [hA] at hX
        have HA := hid hA
        clear hA
        by_cases he : e2 = 0
        case neg =>
          rw [if_pos he] at hX
          simp only [Prod.mk.injEq] at hX
          obtain ⟨⟨rfl, rfl⟩, rfl⟩ := hX
          have ce : (e2 != 0) = true := bne_iff_ne.2 he
          go_wp2_with (first
            | (go_at_call 35; refine (take_no H.out (c := 59) C1.out).mono ?_; rintro e w1 ⟨rfl, h_⟩; have H1 := hid h_; clear h_)
            | (go_at_call 59; refine (mailbox_gives H1.out HA.out).mono ?_; rintro e w2 ⟨rfl, h2, b2_⟩; have H2 := hid h2; have B2 := hid b2_; clear h2 b2_))
          go_ret
          first | exact ⟨rfl, H2.out, B2.out⟩ | exact ⟨rfl, B2.out⟩
        case pos =>
          subst he
          rw [if_neg (by simp)] at hX
          obtain ⟨_, _, hlt, _⟩ := Pl.mailbox_more HA.out
          have HLT := hid hlt
          clear hlt
          cases c3 : Pl.headIs l2 [59] with
          | true =>
            rw [if_pos c3] at hX
            have C3 := hid c3
            have HX2 := hid hX
            clear c3 hX
            go_wp2_with (first
              | (go_at_call 35; refine (take_no H.out (c := 59) C1.out).mono ?_; rintro e w1 ⟨rfl, h_⟩; have H1 := hid h_; clear h_)
              | (go_at_call 59; refine (mailbox_gives H1.out HA.out).mono ?_; rintro e w2 ⟨rfl, h2, b2_⟩; have H2 := hid h2; have B2 := hid b2_; clear h2 b2_)
              | (go_at_call 61; refine (at_gives (H2.out (by trivial)) (c := 59) C3.out).mono ?_; rintro e w_ ⟨rfl, rfl⟩))
            go_roundg k1
            case measure => have := HK.out; omega
            case rel => exact ⟨l2, b2, HX2, hid (H2.out (by trivial)), hid (by have := HL.out; have := HLT.out; omega), hid (by have := HK.out; omega)⟩
          | false =>
            rw [if_neg (show ¬ Pl.headIs l2 [59] = true by rw [c3]; decide)] at hX
            have C3 := hid c3
            clear c3
            cases c4 : Pl.headIs l2 [44] with
            | false =>
              rw [if_neg (show ¬ (Pl.headIs l2 [44] = true ∧ Pl.headIs l2.tail [59] = false) by rw [c4]; simp)] at hX
              have C4 := hid c4
              clear c4
              simp only [Pl.failM, Prod.mk.injEq] at hX
              obtain ⟨⟨rfl, rfl⟩, rfl⟩ := hX
              go_wp2_with (first
                | (go_at_call 35; refine (take_no (H2.out (by trivial)) (c := 44) C4.out).mono ?_; rintro e w4 ⟨rfl, h_⟩; have H4 := hid h_; clear h_)
                | (go_at_call 35; refine (take_no H.out (c := 59) C1.out).mono ?_; rintro e w1 ⟨rfl, h_⟩; have H1 := hid h_; clear h_)
                | (go_at_call 59; refine (mailbox_gives H1.out HA.out).mono ?_; rintro e w2 ⟨rfl, h2, b2_⟩; have H2 := hid h2; have B2 := hid b2_; clear h2 b2_)
                | (go_at_call 61; refine (at_gives (H2.out (by trivial)) (c := 59) C3.out).mono ?_; rintro e w_ ⟨rfl, rfl⟩))
              go_ret
              first | exact ⟨rfl, fun h0 => absurd h0 (by decide), H4.out.below⟩ | exact ⟨rfl, H4.out.below⟩
            | true =>
              have C4 := hid c4
              cases c5 : Pl.headIs l2.tail [59] with
              | true =>
                rw [if_neg (show ¬ (Pl.headIs l2 [44] = true ∧ Pl.headIs l2.tail [59] = false) by rw [c5]; simp)] at hX
                have C5 := hid c5
                clear c4 c5
                simp only [Pl.failM, Prod.mk.injEq] at hX
                obtain ⟨⟨rfl, rfl⟩, rfl⟩ := hX
                go_wp2_with (first
                  | (go_at_call 35; refine (take_yes (H2.out (by trivial)) (c := 44) C4.out).mono ?_; rintro e w4 ⟨rfl, h_⟩; have H4 := hid h_; clear h_)
                  | (go_at_call 61; refine (at_gives H4.out (c := 59) C5.out).mono ?_; rintro e w_ ⟨rfl, rfl⟩)
                  | (go_at_call 35; refine (take_no H.out (c := 59) C1.out).mono ?_; rintro e w1 ⟨rfl, h_⟩; have H1 := hid h_; clear h_)
                  | (go_at_call 59; refine (mailbox_gives H1.out HA.out).mono ?_; rintro e w2 ⟨rfl, h2, b2_⟩; have H2 := hid h2; have B2 := hid b2_; clear h2 b2_)
                  | (go_at_call 61; refine (at_gives (H2.out (by trivial)) (c := 59) C3.out).mono ?_; rintro e w_ ⟨rfl, rfl⟩))
                go_ret
                first | exact ⟨rfl, fun h0 => absurd h0 (by decide), H4.out.below⟩ | exact ⟨rfl, H4.out.below⟩
              | false =>
                rw [if_pos (show Pl.headIs l2 [44] = true ∧ Pl.headIs l2.tail [59] = false from ⟨c4, c5⟩)] at hX
                have C5 := hid c5
                have HX2 := hid hX
                clear c4 c5 hX
                go_wp2_with (first
                  | (go_at_call 35; refine (take_yes (H2.out (by trivial)) (c := 44) C4.out).mono ?_; rintro e w4 ⟨rfl, h_⟩; have H4 := hid h_; clear h_)
                  | (go_at_call 61; refine (at_gives H4.out (c := 59) C5.out).mono ?_; rintro e w_ ⟨rfl, rfl⟩)
                  | (go_at_call 35; refine (take_no H.out (c := 59) C1.out).mono ?_; rintro e w1 ⟨rfl, h_⟩; have H1 := hid h_; clear h_)
                  | (go_at_call 59; refine (mailbox_gives H1.out HA.out).mono ?_; rintro e w2 ⟨rfl, h2, b2_⟩; have H2 := hid h2; have B2 := hid b2_; clear h2 b2_)
                  | (go_at_call 61; refine (at_gives (H2.out (by trivial)) (c := 59) C3.out).mono ?_; rintro e w_ ⟨rfl, rfl⟩))
                go_roundg k1
                case measure => have := HK.out; omega
                case rel => exact ⟨l2.tail, b2, HX2, H4, hid (by rw [List.length_tail]; have := HL.out; have := HLT.out; omega), hid (by have := HK.out; omega)⟩
set_option maxHeartbeats 8000000 in
set_option maxRecDepth 100000 in
theorem item_gives {W0 w : World} {l : List Pl.Tok} {bx : List Pl.BoxL} (h : RS W0 w l bx) {lx : List Pl.Tok} {bxx : List Pl.BoxL} {ex : Int} (hx : Pl.itemM l bx = ((lx, bxx), ex)) :
    Calls Tryd.prog 34 #[.pointer (some ⟨W0.heap.size, 0, none⟩)] w fun e w' => e = .returned (.int .i64 ex) ∧ (ex = 0 → RS W0 w' lx bxx) ∧ Below W0.heap.size W0 w' := by
  obtain ⟨n, hn⟩ : ∃ n, (l.takeWhile Pl.wordT).length = n := ⟨_, rfl⟩
  have hw := hid (words_gives h hn)
  have H := hid h
  have hz := h.small.len
  clear h
  unfold Pl.itemM at hx
  by_cases hn0 : n = 0
  case pos =>
    have hnil : l.takeWhile Pl.wordT = [] := List.eq_nil_of_length_eq_zero (by rw [hn]; exact hn0)
    rw [if_neg (fun q => q.1 hnil)] at hx
    have HA := hid hx
    subst hn0
    clear hx hnil hn hz
    go_enter Tryd.func34, Tryd.ntmps34
    go_wp2_with (first
      | (go_at_call 57; refine hw.out.mono ?_; rintro e w1 ⟨rfl, b1⟩; have H1 := hid (H.out.keep b1); clear b1)
      | (go_at_call 59; refine (mailbox_gives H1.out HA.out).mono ?_; rintro e w3 ⟨rfl, hR, hB⟩))
    go_ret
    exact ⟨rfl, hR, hB⟩
  case neg =>
    have hne : l.takeWhile Pl.wordT ≠ [] := fun q => hn0 (by rw [← hn, q]; rfl)
    have cn1 : ((n : Int) == 0) = false := beq_eq_false_iff_ne.2 (by omega)
    have cn2 : (n == 0) = false := beq_eq_false_iff_ne.2 hn0
    cases hq : Pl.headIs (l.dropWhile Pl.wordT) [58] with
    | false =>
      rw [if_neg (fun q => by rw [hq] at q; exact absurd q.2 (by decide))] at hx
      have HA := hid hx
      have HN := hid hn
      have HQ := hid hq
      clear hx hn hq hz hne
      go_enter Tryd.func34, Tryd.ntmps34
      go_wp2_with (first
        | (go_at_call 58; refine (follows_gives H1.out HN.out HQ.out).mono ?_; rintro e w2 ⟨rfl, rfl⟩)
        | (go_at_call 57; refine hw.out.mono ?_; rintro e w1 ⟨rfl, b1⟩; have H1 := hid (H.out.keep b1); clear b1)
        | (go_at_call 59; refine (mailbox_gives H1.out HA.out).mono ?_; rintro e w3 ⟨rfl, hR, hB⟩))
      go_ret
      exact ⟨rfl, hR, hB⟩
    | true =>
      rw [if_pos ⟨hne, hq⟩] at hx
      obtain ⟨t, r, hr, ht⟩ := Pl.headIs_ne hq
      have hnl : n + 1 ≤ l.length := by
        have h1 := congrArg List.length (List.takeWhile_append_dropWhile (p := Pl.wordT) (l := l))
        rw [List.length_append, hn, hr, List.length_cons] at h1
        omega
      have hdr : l.drop (n + 1) = (l.dropWhile Pl.wordT).tail := by rw [drop_tail, ← hn, drop_while]
      rw [← hdr] at hx
      have HA := hid hx
      have HN := hid hn
      have HQ := hid hq
      have HL := hid hnl
      clear hx hn hq hdr hr ht hne
      obtain ⟨m, hm⟩ : ∃ m, n + 1 = m := ⟨_, rfl⟩
      rw [hm] at HA HL
      have hwr : wrap64 ((n : Int) + 1) = (m : Int) := by rw [Pl.wrap_succ n (by have := HL.out; omega), hm]
      have hm0 : ((0 : Int) ≤ (m : Int)) = True := eq_true (by omega)
      have HZ := hid hz
      have HM := hid hm
      clear hm hz hnl
      go_enter Tryd.func34, Tryd.ntmps34
      go_wp2_with (first
        | (go_at_call 58; refine (follows_gives H1.out HN.out HQ.out).mono ?_; rintro e w2 ⟨rfl, rfl⟩)
        | (go_at_call 57; refine hw.out.mono ?_; rintro e w1 ⟨rfl, b1⟩; have H1 := hid (H.out.keep b1); obtain ⟨A, ln, c, v, hb1, hln, hlc, hA1⟩ := H1.out.holds; obtain ⟨ad, rfl⟩ := hA1 (by have := HL.out; have := HM.out; omega); have r0 := (blk_cell hb1 0).trans rfl; have rf0 := blk_frozen hb1 0; have c1 : ((m : Int) ≤ (ln : Int)) = True := eq_true (by have := HL.out; omega); have c2 : ((ln : Int) ≤ (c : Int)) = True := eq_true (by omega); have c3 : ((m : Int) ≤ (c : Int)) = True := eq_true (by have := HL.out; omega); have c4 : (m ≤ ln) = True := eq_true (by have := HL.out; omega); have c5 : (ln ≤ c) = True := eq_true hlc; have c6 : (m ≤ c) = True := eq_true (by have := HL.out; omega); have HBK := hid hb1; clear hln hlc hA1 hb1)
        | (go_at_call 60; refine (group_gives (RS.cutW H1.out HBK.out m HL.out _ _ _ (by first | rfl | (simp [*]; done) | (simp [*]; rfl)) (by first | rfl | (simp; done) | omega) (by first | rfl | (simp; done) | omega)) HA.out (Nat.lt_succ_self _)).mono ?_; rintro e w3 ⟨rfl, hR, hB⟩))
      all_goals
        go_ret
        exact ⟨rfl, hR, hB⟩
theorem RS.start {W : World} {l : List Pl.Tok} {A : Option Addr} {c : Nat} (hC : Kd.C k98 W A l.length (l.map Pl.tok142)) (hc : l.length ≤ c) (hS : Small l) (hG : Glob W) :
    RS W (W.alloc (.cells #[.slice A l.length c, .slice none 0 0] 67)) l [] :=
  ⟨⟨A, c, .slice none 0 0, blk_new W _, hC, hc, Kd.R_nil _ _ _ _ _⟩, (Below.refl _ _).alloc (Nat.le_refl _) _, hS, by simp, hG⟩
end Go.Proofs.YtbjbpgmjijeppaaDoor.Fn
set_option linter.unusedVariables false
set_option linter.unusedSimpArgs false
namespace Go.Proofs.YtbjbpgmjijeppaaDoor.Fn
open Go.RowKit Go.Proofs.YtbjbpgmjijeppaaDoorW.PrintWords Go.Proofs.YtbjbpgmjijeppaaDoorW.PrintLast Go.Proofs.YtbjbpgmjijeppaaDoorW.PrintMore

/-! Layer 14: mbx.Read -/
def mbx_Read.f (a0 : ByteArray) : Option (List S31 × Int) := if a0.size ≤ 50000 then some ((Pl.readL (Pl.bs a0)).1.map toBox, (Pl.readL (Pl.bs a0)).2) else none
theorem comma_gives {W0 w : World} {l : List Pl.Tok} {bx : List Pl.BoxL} (h : RS W0 w l bx) {q : Bool} (hq : Pl.headIs l [44] = q) :
    Calls Tryd.prog 35 #[.pointer (some ⟨W0.heap.size, 0, none⟩), .string ⟨#[44]⟩] w fun e w' => e = .returned (.bool q) ∧ (q = true → RS W0 w' l.tail bx) ∧ Below W0.heap.size W0 w' := by
  refine (take_gives h hq).mono ?_
  rintro e w' ⟨rfl, h1⟩
  exact ⟨rfl, fun hq => by rw [if_pos hq] at h1; exact h1, h1.below⟩
set_option maxHeartbeats 8000000 in
set_option maxRecDepth 100000 in
theorem mbx_Read.calls (a0 : ByteArray) (r1 : List S31) (r2 : Int) (w : World) (hG : Glob w) (h : mbx_Read.f a0 = some (r1, r2)) :
    Calls Tryd.prog 17 #[.string a0] w fun e w' => ∃ v0_ : Value, e = .returned (.tuple #[v0_, .int .i64 r2]) ∧ Kd.R k31 31 w' w.heap.size (fun _ => True) v0_ r1 ∧ Below w.heap.size w w' := by
  unfold mbx_Read.f at h
  by_cases hs : a0.size ≤ 50000
  case neg => rw [if_neg hs] at h; exact absurd h (by simp)
  rw [if_pos hs] at h
  simp only [Option.some.injEq, Prod.mk.injEq] at h
  obtain ⟨hr1, hr2⟩ := h
  have hsc := Pl.lexScan_is a0 (by omega) (4 * a0.size + 20) (Nat.le_refl _)
  have hbd := Pl.scanL_bound (Pl.bs a0)
  have hok := Pl.scan_ok (Pl.bs a0).length [] .out (Pl.bs a0) (fun x hx => by cases hx)
  rw [show Pl.scan (Pl.bs a0).length [] .out (Pl.bs a0) = Pl.scanL [] .out (Pl.bs a0) from rfl] at hok
  obtain ⟨⟨T, e0⟩, hT⟩ : ∃ x, Pl.scanL [] .out (Pl.bs a0) = x := ⟨_, rfl⟩
  unfold Pl.readL at hr1 hr2
  rw [hT] at hr1 hr2 hsc hbd hok
  rw [Pl.bs_length] at hbd
  have hscan := hid (lex_Scan.calls _ a0 _ _ w hsc)
  have hS : Small T := ⟨by have h1 : T.length ≤ a0.size := hbd.1; omega, by have h1 : (Pl.cat T).length ≤ a0.size := hbd.2; omega, hok⟩
  clear hsc hok hT
  by_cases he : e0 = 0
  case neg =>
    rw [if_pos he] at hr1 hr2
    simp only [List.map_nil] at hr1 hr2
    subst hr1 hr2
    have ce : (e0 != 0) = true := bne_iff_ne.2 he
    clear hS hbd
    go_enter Tryd.func17, Tryd.ntmps17
    go_wp2_with (go_at_call 33; refine hscan.out.mono ?_; rintro e w1 ⟨v0, rfl, hR, b1⟩)
    go_ret2
    exact ⟨_, rfl, Kd.R_nil _ _ _ _ _, b1⟩
  case pos =>
    subst he
    rw [if_neg (by simp)] at hr1 hr2
    obtain ⟨⟨bf, ef⟩, hX⟩ : ∃ x, Pl.readM (T.length + 1) T [] = x := ⟨_, rfl⟩
    unfold Pl.readT at hr1 hr2
    rw [hX] at hr1 hr2
    simp only [] at hr1 hr2
    subst hr1 hr2
    have HX0 := hid hX
    have HS := hid hS
    have HG0 := hid hG
    clear hX hS hbd hG
    go_enter Tryd.func17, Tryd.ntmps17
    go_wp2_with (go_at_call 33; refine hscan.out.mono ?_; rintro e w1 ⟨v0, rfl, hR, b1⟩; obtain ⟨A, c, rfl⟩ := Kd.R_slice hR; have HR := hid hR; have HB1 := hid b1; obtain ⟨n, hn⟩ : ∃ n, (T.map Pl.tok142).length = n := ⟨_, rfl⟩; rw [hn] at HR ⊢; have HN := hid hn; clear hR b1 hn)
    go_loopg [7] (T.length + 1) (fun kq v7 w' => ∃ (l1 : List Pl.Tok) (bx1 : List Pl.BoxL), Hid (Pl.readM kq l1 bx1 = (bf, ef)) ∧ Hid (RS w1 w' l1 bx1) ∧ Hid (l1.length < kq) ∧ Hid (kq ≤ T.length + 1))
    case atStart =>
      refine ⟨T, [], HX0, hid ?_, hid (Nat.lt_succ_self _), hid (Nat.le_refl _)⟩
      obtain ⟨h1, h2, h3⟩ := Kd.R_reads' HR.out
      have hn : n = T.length := by rw [← HN.out, List.length_map]
      subst hn
      rw [List.length_map] at h3
      exact RS.start h3 h2 HS.out (HG0.out.below HB1.out)
    case round =>
      clear HX0 HR HN hscan HS
      obtain ⟨l1, bx1, HX, H, HL, HK⟩ := hrel
      cases gk with
      | zero => exact absurd HL.out (by omega)
      | succ k1 =>
        have hX := HX.out
        clear HX
        rw [Pl.readM] at hX
        obtain ⟨⟨⟨l2, b2⟩, e2⟩, hA⟩ : ∃ x, Pl.itemM l1 bx1 = x := ⟨_, rfl⟩
        rw [hA] at hX
        have HA := hid hA
        clear hA
        by_cases he : e2 = 0
        case neg =>
          rw [if_pos he] at hX
          simp only [Prod.mk.injEq] at hX
          obtain ⟨rfl, rfl⟩ := hX
          have ce : (e2 != 0) = true := bne_iff_ne.2 he
          go_wp2_with (go_at_call 34; refine (item_gives H.out HA.out).mono ?_; rintro e w2 ⟨rfl, h2, b2_⟩; have B2 := hid b2_; clear h2 b2_)
          go_ret2
          exact ⟨_, rfl, Kd.R_nil _ _ _ _ _, HB1.out.trans (B2.out.mono HB1.out.size)⟩
        case pos =>
          subst he
          rw [if_neg (by simp)] at hX
          obtain ⟨_, _, hlt, _⟩ := Pl.item_more HA.out
          have HLT := hid hlt
          clear hlt
          by_cases c3 : l2 = []
          case pos =>
            rw [if_pos c3] at hX
            simp only [Prod.mk.injEq] at hX
            obtain ⟨rfl, rfl⟩ := hX
            subst c3
            go_wp2_with (go_at_call 34; refine (item_gives H.out HA.out).mono ?_; rintro e w2 ⟨rfl, h2, b2_⟩; have H2 := hid (h2 (by trivial)); clear h2 b2_; obtain ⟨A2, ln, c2, v2, hb2, hln, hlc, hA1⟩ := H2.out.holds; rw [List.length_nil] at hln; subst hln; have HBK := hid hb2; have r0 := (blk_cell hb2 0).trans rfl; have r1 := (blk_cell hb2 1).trans rfl; clear hb2 hlc hA1)
            go_ret2
            exact ⟨_, rfl, Kd.R_lower (H2.out.boxes HBK.out) (Nat.le_trans HB1.out.size (Nat.le_succ _)), HB1.out.trans (H2.out.below.mono HB1.out.size)⟩
          case neg =>
            rw [if_neg c3] at hX
            cases c4 : Pl.headIs l2 [44] with
            | false =>
              rw [if_neg (show ¬ Pl.headIs l2 [44] = true by rw [c4]; decide)] at hX
              simp only [Prod.mk.injEq] at hX
              obtain ⟨rfl, rfl⟩ := hX
              have C4 := hid c4
              have C3 := hid c3
              clear c4 c3
              go_wp2_with (first
                | (go_at_call 34; refine (item_gives H.out HA.out).mono ?_; rintro e w2 ⟨rfl, h2, b2_⟩; have H2 := hid (h2 (by trivial)); clear h2 b2_; obtain ⟨A2, ln, c2, v2, hb2, hln, hlc, hA1⟩ := H2.out.holds; have hl0 : ln ≠ 0 := (by rw [hln]; exact fun q => C3.out (List.eq_nil_of_length_eq_zero q)); have cl1 : ((ln : Int) == 0) = false := beq_eq_false_iff_ne.2 (by omega); have cl2 : (ln == 0) = false := beq_eq_false_iff_ne.2 hl0; have r0 := (blk_cell hb2 0).trans rfl; clear hb2 hlc hA1 hln hl0)
                | (go_at_call 35; refine (comma_gives H2.out C4.out).mono ?_; rintro e w3 ⟨rfl, h3, b3⟩; have B3 := hid b3; clear h3 b3))
              go_ret2
              exact ⟨_, rfl, Kd.R_nil _ _ _ _ _, HB1.out.trans (B3.out.mono HB1.out.size)⟩
            | true =>
              rw [if_pos c4] at hX
              have C4 := hid c4
              have C3 := hid c3
              have HX2 := hid hX
              clear c4 c3 hX
              go_wp2_with (first
                | (go_at_call 34; refine (item_gives H.out HA.out).mono ?_; rintro e w2 ⟨rfl, h2, b2_⟩; have H2 := hid (h2 (by trivial)); clear h2 b2_; obtain ⟨A2, ln, c2, v2, hb2, hln, hlc, hA1⟩ := H2.out.holds; have hl0 : ln ≠ 0 := (by rw [hln]; exact fun q => C3.out (List.eq_nil_of_length_eq_zero q)); have cl1 : ((ln : Int) == 0) = false := beq_eq_false_iff_ne.2 (by omega); have cl2 : (ln == 0) = false := beq_eq_false_iff_ne.2 hl0; have r0 := (blk_cell hb2 0).trans rfl; clear hb2 hlc hA1 hln hl0)
                | (go_at_call 35; refine (comma_gives H2.out C4.out).mono ?_; rintro e w3 ⟨rfl, h3, b3⟩; have H3 := hid (h3 (by trivial)); clear h3 b3))
              go_roundg k1
              case measure => have := HK.out; omega
              case rel => exact ⟨l2.tail, b2, HX2, H3, hid (by rw [List.length_tail]; have := HL.out; have := HLT.out; omega), hid (by have := HK.out; omega)⟩
end Go.Proofs.YtbjbpgmjijeppaaDoor.Fn
namespace Go.Proofs.YtbjbpgmjijeppaaDoor.Fn
open Go.RowKit Go.Proofs.YtbjbpgmjijeppaaDoorW.PrintWords Go.Proofs.YtbjbpgmjijeppaaDoorW.PrintLast Go.Proofs.YtbjbpgmjijeppaaDoorW.PrintMore
attribute [local go_sem] max2_int min2_int max_two min_two max_three min_three max_four min_four
set_option linter.unusedVariables false
set_option linter.unusedSimpArgs false

attribute [local go_sem high] eqA29
/-! ### bulletinlaw14_works: function 9 -/
def bulletinlaw14_works.f (k : Nat)  : Option (Bool) := (mbx_Read.f (⟨#[65, 110, 110, 32, 66, 32, 60, 97, 64, 98, 62, 44, 32, 103, 58, 32, 99, 64, 100, 59]⟩ : ByteArray)).bind fun bt237 => (if bt237.2 = 0 then (if (bt237.1.length : Int) = 2 then (if 0 < (bt237.1.length : Int) then (if ((rd_T31 bt237.1 0).f0).toList = ([65, 110, 110, 32, 66] : List UInt8) then (if ((((rd_T31 bt237.1 0).f1.f0).toList) == ([97] : List UInt8) && ((((rd_T31 bt237.1 0).f1.f1).toList) == ([98] : List UInt8))) = true then (if 1 < (bt237.1.length : Int) then (if ((rd_T31 bt237.1 1).f0).toList = ([] : List UInt8) then (if ((rd_T31 bt237.1 1).f1.f0).toList = ([99] : List UInt8) then ((mbx_ShowAll.f k bt237.1).bind fun t245 => (some (t245.toList == ([65, 110, 110, 32, 66, 32, 60, 97, 64, 98, 62, 44, 32, 99, 64, 100] : List UInt8)))) else (some false)) else (some false)) else (none)) else (some false)) else (some false)) else (none)) else (some false)) else (some false))
theorem bulletinlaw14_works.mono : ∀ k, LeO (bulletinlaw14_works.f k ) (bulletinlaw14_works.f (k + 1) ) := by
 intro  k
 unfold bulletinlaw14_works.f
 repeat' first
   | (with_reducible exact mbx_ShowAll.mono _ _)
   | (with_reducible exact LeO.refl _)
   | (with_reducible exact LeO.none _)
   | (with_reducible refine LeO.ite ?_ ?_)
   | (with_reducible refine LeO.bind ?_ (fun _ => ?_))
   | exact mbx_ShowAll.mono _ _
   | exact LeO.none _
   | refine LeO.ite ?_ ?_
   | refine LeO.bind ?_ (fun _ => ?_)
set_option maxHeartbeats 8000000 in
set_option maxRecDepth 100000 in
theorem bulletinlaw14_works.calls (k : Nat)  (r : Bool) (w : World) (hG : Glob w) (h : bulletinlaw14_works.f k  = some r) :
  Calls Tryd.prog 9 #[] w fun e w' => e = .returned (.bool r) ∧ Below w.heap.size w w' := by
 have hu29 := Tryd.underlying29
 have HB := Aside0.mk (Below.refl w.heap.size w)
 have H : ((mbx_Read.f (⟨#[65, 110, 110, 32, 66, 32, 60, 97, 64, 98, 62, 44, 32, 103, 58, 32, 99, 64, 100, 59]⟩ : ByteArray)).bind fun bt237 => (if bt237.2 = 0 then (if (bt237.1.length : Int) = 2 then (if 0 < (bt237.1.length : Int) then (if ((rd_T31 bt237.1 0).f0).toList = ([65, 110, 110, 32, 66] : List UInt8) then (if ((((rd_T31 bt237.1 0).f1.f0).toList) == ([97] : List UInt8) && ((((rd_T31 bt237.1 0).f1.f1).toList) == ([98] : List UInt8))) = true then (if 1 < (bt237.1.length : Int) then (if ((rd_T31 bt237.1 1).f0).toList = ([] : List UInt8) then (if ((rd_T31 bt237.1 1).f1.f0).toList = ([99] : List UInt8) then ((mbx_ShowAll.f k bt237.1).bind fun t245 => (some (t245.toList == ([65, 110, 110, 32, 66, 32, 60, 97, 64, 98, 62, 44, 32, 99, 64, 100] : List UInt8)))) else (some false)) else (some false)) else (none)) else (some false)) else (some false)) else (none)) else (some false)) else (some false))) = some r := h
 clear h
 replace H := Option.bind_eq_some_iff.mp H
 obtain ⟨⟨t237, t238⟩, A10, H⟩ := H
 replace H : (if t238 = 0 then (if (t237.length : Int) = 2 then (if 0 < (t237.length : Int) then (if ((rd_T31 t237 0).f0).toList = ([65, 110, 110, 32, 66] : List UInt8) then (if ((((rd_T31 t237 0).f1.f0).toList) == ([97] : List UInt8) && ((((rd_T31 t237 0).f1.f1).toList) == ([98] : List UInt8))) = true then (if 1 < (t237.length : Int) then (if ((rd_T31 t237 1).f0).toList = ([] : List UInt8) then (if ((rd_T31 t237 1).f1.f0).toList = ([99] : List UInt8) then ((mbx_ShowAll.f k t237).bind fun t245 => (some (t245.toList == ([65, 110, 110, 32, 66, 32, 60, 97, 64, 98, 62, 44, 32, 99, 64, 100] : List UInt8)))) else (some false)) else (some false)) else (none)) else (some false)) else (some false)) else (none)) else (some false)) else (some false)) = some r := H
 have A1 := Aside0.mk A10
 clear A10
 by_cases c2 : t238 = 0
 ·rw [if_pos c2] at H
  have c2b0 : (t238 == 0) = true := beq_iff_eq.mpr c2
  have c2b1 : (t238 != 0) = false := bne_eq_false_iff_eq.mpr c2
  clear c2
  by_cases c3 : (t237.length : Int) = 2
  ·rw [if_pos c3] at H
   have c3b0 : ((t237.length : Int) == 2) = true := beq_iff_eq.mpr c3
   have c3b1 : ((t237.length : Int) != 2) = false := bne_eq_false_iff_eq.mpr c3
   clear c3
   by_cases c4 : 0 < (t237.length : Int)
   ·rw [if_pos c4] at H
    have c4b0 : decide (0 < (t237.length : Int)) = true := decide_eq_true c4
    have c4b1 : decide (0 < t237.length) = true := decide_eq_true (by omega)
    clear c4
    by_cases c5 : ((rd_T31 t237 0).f0).toList = ([65, 110, 110, 32, 66] : List UInt8)
    ·rw [if_pos c5] at H
     have c5b0 : (((rd_T31 t237 0).f0).toList == ([65, 110, 110, 32, 66] : List UInt8)) = true := beq_iff_eq.mpr c5
     have c5b1 : (((rd_T31 t237 0).f0).toList != ([65, 110, 110, 32, 66] : List UInt8)) = false := bne_eq_false_iff_eq.mpr c5
     clear c5
     by_cases c6 : ((((rd_T31 t237 0).f1.f0).toList) == ([97] : List UInt8) && ((((rd_T31 t237 0).f1.f1).toList) == ([98] : List UInt8))) = true
     ·rw [if_pos c6] at H
      have c6b0 : ((((rd_T31 t237 0).f1.f0).toList) == ([97] : List UInt8) && ((((rd_T31 t237 0).f1.f1).toList) == ([98] : List UInt8))) = true := c6
      (try (have c6b1 : decide ((((rd_T31 t237 0).f1.f0).toList) = ([97] : List UInt8) && ((((rd_T31 t237 0).f1.f1).toList) == ([98] : List UInt8))) = true := by simpa using c6))
      (try (have c6b2 : ((((rd_T31 t237 0).f1.f0).toList) == ([97] : List UInt8) && ((((rd_T31 t237 0).f1.f1).toList) == ([98] : List UInt8))) = true := by simpa using c6))
      clear c6
      by_cases c7 : 1 < (t237.length : Int)
      ·rw [if_pos c7] at H
       have c7b0 : decide (1 < (t237.length : Int)) = true := decide_eq_true c7
       have c7b1 : decide (1 < t237.length) = true := decide_eq_true (by omega)
       clear c7
       by_cases c8 : ((rd_T31 t237 1).f0).toList = ([] : List UInt8)
       ·rw [if_pos c8] at H
        have c8b0 : (((rd_T31 t237 1).f0).toList == ([] : List UInt8)) = true := beq_iff_eq.mpr c8
        have c8b1 : (((rd_T31 t237 1).f0).toList != ([] : List UInt8)) = false := bne_eq_false_iff_eq.mpr c8
        clear c8
        by_cases c9 : ((rd_T31 t237 1).f1.f0).toList = ([99] : List UInt8)
        ·rw [if_pos c9] at H
         have c9b0 : (((rd_T31 t237 1).f1.f0).toList == ([99] : List UInt8)) = true := beq_iff_eq.mpr c9
         have c9b1 : (((rd_T31 t237 1).f1.f0).toList != ([99] : List UInt8)) = false := bne_eq_false_iff_eq.mpr c9
         clear c9
         replace H := Option.bind_eq_some_iff.mp H
         obtain ⟨t245, A100, H⟩ := H
         replace H : (some (t245.toList == ([65, 110, 110, 32, 66, 32, 60, 97, 64, 98, 62, 44, 32, 99, 64, 100] : List UInt8))) = some r := H
         have A10 := Aside0.mk A100
         clear A100
         obtain rfl := Option.some.inj H
         go_enter Tryd.func9, Tryd.ntmps9
         go_wp2_with (first | ((with_reducible refine gate_callee (f := 17) rfl ?_); refine goesL_ (some 4) rfl rfl Tryd.func17 (by kernel_rfl) rfl #[.string (⟨#[65, 110, 110, 32, 66, 32, 60, 97, 64, 98, 62, 44, 32, 103, 58, 32, 99, 64, 100, 59]⟩ : ByteArray)] rfl am ?_; (with_reducible refine (mbx_Read.calls (hG := by first | exact hG | exact Glob.below hG (by first | exact HB.out | (repeat (first | (with_reducible first | exact HB.out | apply below_alloc | apply pw_below_drewN | apply below_drew1) | exact HB.out))) | exact Glob.drawn hG (by repeat (first | exact Drawn0.refl _ | apply Drawn0.step))) (⟨#[65, 110, 110, 32, 66, 32, 60, 97, 64, 98, 62, 44, 32, 103, 58, 32, 99, 64, 100, 59]⟩ : ByteArray) t237 t238 _ A1.out).mono ?_); rintro e w11 ⟨v239, rfl, ho0, hb⟩; refine ⟨_, rfl, ?_⟩; have n0_ := Aside0.mk (Kd.R_lower ho0 (below_size bw)); have n1_ := Aside0.mk (below_step bw hb); clear HB; have HO240 := n0_; have HB := n1_; clear n0_ n1_; (try clear hb); (try clear hb2); (try clear hk); (try clear hi); (try clear ho0); obtain ⟨Ao12, co12, eo12⟩ := Kd.R_slice HO240.out; subst eo12; have p241 : 0 ≤ (0 : Int) := (by omega); have q241 : 0 < (t237.length : Int) := od; obtain ⟨ad241, e241, hx241_0, hx241_1, hx241_2⟩ := at_T31 (Kd.R_reads' HO240.out).2.2 0 p241 q241; cases e241; have qi241 : (0 < t237.length) = True := eq_true (by omega); (try rw [show ((0 : Int)).toNat = 0 from rfl] at hx241_0); (try rw [show 0 * 3 = 0 from rfl] at hx241_0); (try rw [Addr.add_zero'] at hx241_0); (try rw [show ((0 : Int)).toNat = 0 from rfl] at hx241_1); (try rw [show 0 * 3 = 0 from rfl] at hx241_1); (try rw [Addr.add_zero'] at hx241_1); (try rw [show ((0 : Int)).toNat = 0 from rfl] at hx241_2); (try rw [show 0 * 3 = 0 from rfl] at hx241_2); (try rw [Addr.add_zero'] at hx241_2); replace p241 := eq_true p241; replace q241 := eq_true q241; have p242 : 0 ≤ (0 : Int) := (by omega); have q242 : 0 < (t237.length : Int) := od; obtain ⟨ad242, e242, hx242_0, hx242_1, hx242_2⟩ := at_T31 (Kd.R_reads' HO240.out).2.2 0 p242 q242; obtain rfl : ad241 = ad242 := (by injection e242); have qi242 : (0 < t237.length) = True := eq_true (by omega); (try rw [show ((0 : Int)).toNat = 0 from rfl] at hx242_0); (try rw [show 0 * 3 = 0 from rfl] at hx242_0); (try rw [Addr.add_zero'] at hx242_0); (try rw [show ((0 : Int)).toNat = 0 from rfl] at hx242_1); (try rw [show 0 * 3 = 0 from rfl] at hx242_1); (try rw [Addr.add_zero'] at hx242_1); (try rw [show ((0 : Int)).toNat = 0 from rfl] at hx242_2); (try rw [show 0 * 3 = 0 from rfl] at hx242_2); (try rw [Addr.add_zero'] at hx242_2); replace p242 := eq_true p242; replace q242 := eq_true q242; have p243 : 0 ≤ (1 : Int) := (by omega); have q243 : 1 < (t237.length : Int) := od; obtain ⟨ad243, e243, hx243_0, hx243_1, hx243_2⟩ := at_T31 (Kd.R_reads' HO240.out).2.2 1 p243 q243; obtain rfl : ad241 = ad243 := (by injection e243); (try simp only [show (1 : Int).toNat = 1 from rfl, Nat.reduceMul, Nat.reduceEqDiff, Go.Addr.add, ↓reduceIte] at hx243_0); (try simp only [show (1 : Int).toNat = 1 from rfl, Nat.reduceMul, Nat.reduceEqDiff, Go.Addr.add, ↓reduceIte] at hx243_1); (try simp only [show (1 : Int).toNat = 1 from rfl, Nat.reduceMul, Nat.reduceEqDiff, Go.Addr.add, ↓reduceIte] at hx243_2); have qi243 : (1 < t237.length) = True := eq_true (by omega); (try rw [show ((1 : Int)).toNat = 1 from rfl] at hx243_0); (try rw [show 1 * 3 = 3 from rfl] at hx243_0); (try rw [show ((1 : Int)).toNat = 1 from rfl] at hx243_1); (try rw [show 1 * 3 = 3 from rfl] at hx243_1); (try rw [show ((1 : Int)).toNat = 1 from rfl] at hx243_2); (try rw [show 1 * 3 = 3 from rfl] at hx243_2); replace p243 := eq_true p243; replace q243 := eq_true q243; have p244 : 0 ≤ (1 : Int) := (by omega); have q244 : 1 < (t237.length : Int) := od; obtain ⟨ad244, e244, hx244_0, hx244_1, hx244_2⟩ := at_T31 (Kd.R_reads' HO240.out).2.2 1 p244 q244; obtain rfl : ad241 = ad244 := (by injection e244); (try simp only [show (1 : Int).toNat = 1 from rfl, Nat.reduceMul, Nat.reduceEqDiff, Go.Addr.add, ↓reduceIte] at hx244_0); (try simp only [show (1 : Int).toNat = 1 from rfl, Nat.reduceMul, Nat.reduceEqDiff, Go.Addr.add, ↓reduceIte] at hx244_1); (try simp only [show (1 : Int).toNat = 1 from rfl, Nat.reduceMul, Nat.reduceEqDiff, Go.Addr.add, ↓reduceIte] at hx244_2); have qi244 : (1 < t237.length) = True := eq_true (by omega); (try rw [show ((1 : Int)).toNat = 1 from rfl] at hx244_0); (try rw [show 1 * 3 = 3 from rfl] at hx244_0); (try rw [show ((1 : Int)).toNat = 1 from rfl] at hx244_1); (try rw [show 1 * 3 = 3 from rfl] at hx244_1); (try rw [show ((1 : Int)).toNat = 1 from rfl] at hx244_2); (try rw [show 1 * 3 = 3 from rfl] at hx244_2); replace p244 := eq_true p244; replace q244 := eq_true q244) | (go_at_call 13; (with_reducible refine (mbx_ShowAll.calls k _ _ t237 t245 _ ?side1 ?side2 A10.out).mono ?_); (case side1 => repeat (first | exact (Kd.R_reads' HO240.out).2.2 | (with_reducible refine Kd.C_alloc ?_ _) | (with_reducible refine Kd.C_drewN ?_ _) | (with_reducible refine Kd.C_drew ?_))); (case side2 => exact (Kd.R_reads' HO240.out).2.1); rintro e w13 ⟨rfl, hb⟩; have n0_ := Aside0.mk (Kd.R_below (by (with_reducible repeat (first | apply Kd.R_alloc | apply Kd.R_drewN | apply Kd.R_drew)); exact HO240.out) hb); have n1_ := Aside0.mk (below_step bw hb); clear HO240; clear HB; have HO240 := n0_; have HB := n1_; clear n0_ n1_; (try clear hb); (try clear hb2); (try clear hk); (try clear hi)))
         go_ret
         exact ⟨by first | rfl | (simp [errW_none, errW_some] <;> rfl) | (simp [*, errW_none, errW_some] <;> rfl), bw⟩
        ·rw [if_neg c9] at H
         have c9b0 : (((rd_T31 t237 1).f1.f0).toList == ([99] : List UInt8)) = false := beq_eq_false_iff_ne.mpr c9
         have c9b1 : (((rd_T31 t237 1).f1.f0).toList != ([99] : List UInt8)) = true := bne_iff_ne.mpr c9
         obtain rfl := Option.some.inj H
         go_enter Tryd.func9, Tryd.ntmps9
         go_wp2_with (first | ((with_reducible refine gate_callee (f := 17) rfl ?_); refine goesL_ (some 4) rfl rfl Tryd.func17 (by kernel_rfl) rfl #[.string (⟨#[65, 110, 110, 32, 66, 32, 60, 97, 64, 98, 62, 44, 32, 103, 58, 32, 99, 64, 100, 59]⟩ : ByteArray)] rfl am ?_; (with_reducible refine (mbx_Read.calls (hG := by first | exact hG | exact Glob.below hG (by first | exact HB.out | (repeat (first | (with_reducible first | exact HB.out | apply below_alloc | apply pw_below_drewN | apply below_drew1) | exact HB.out))) | exact Glob.drawn hG (by repeat (first | exact Drawn0.refl _ | apply Drawn0.step))) (⟨#[65, 110, 110, 32, 66, 32, 60, 97, 64, 98, 62, 44, 32, 103, 58, 32, 99, 64, 100, 59]⟩ : ByteArray) t237 t238 _ A1.out).mono ?_); rintro e w14 ⟨v239, rfl, ho0, hb⟩; refine ⟨_, rfl, ?_⟩; have n0_ := Aside0.mk (Kd.R_lower ho0 (below_size bw)); have n1_ := Aside0.mk (below_step bw hb); clear HB; have HO240 := n0_; have HB := n1_; clear n0_ n1_; (try clear hb); (try clear hb2); (try clear hk); (try clear hi); (try clear ho0); obtain ⟨Ao15, co15, eo15⟩ := Kd.R_slice HO240.out; subst eo15; have p241 : 0 ≤ (0 : Int) := (by omega); have q241 : 0 < (t237.length : Int) := od; obtain ⟨ad241, e241, hx241_0, hx241_1, hx241_2⟩ := at_T31 (Kd.R_reads' HO240.out).2.2 0 p241 q241; cases e241; have qi241 : (0 < t237.length) = True := eq_true (by omega); (try rw [show ((0 : Int)).toNat = 0 from rfl] at hx241_0); (try rw [show 0 * 3 = 0 from rfl] at hx241_0); (try rw [Addr.add_zero'] at hx241_0); (try rw [show ((0 : Int)).toNat = 0 from rfl] at hx241_1); (try rw [show 0 * 3 = 0 from rfl] at hx241_1); (try rw [Addr.add_zero'] at hx241_1); (try rw [show ((0 : Int)).toNat = 0 from rfl] at hx241_2); (try rw [show 0 * 3 = 0 from rfl] at hx241_2); (try rw [Addr.add_zero'] at hx241_2); replace p241 := eq_true p241; replace q241 := eq_true q241; have p242 : 0 ≤ (0 : Int) := (by omega); have q242 : 0 < (t237.length : Int) := od; obtain ⟨ad242, e242, hx242_0, hx242_1, hx242_2⟩ := at_T31 (Kd.R_reads' HO240.out).2.2 0 p242 q242; obtain rfl : ad241 = ad242 := (by injection e242); have qi242 : (0 < t237.length) = True := eq_true (by omega); (try rw [show ((0 : Int)).toNat = 0 from rfl] at hx242_0); (try rw [show 0 * 3 = 0 from rfl] at hx242_0); (try rw [Addr.add_zero'] at hx242_0); (try rw [show ((0 : Int)).toNat = 0 from rfl] at hx242_1); (try rw [show 0 * 3 = 0 from rfl] at hx242_1); (try rw [Addr.add_zero'] at hx242_1); (try rw [show ((0 : Int)).toNat = 0 from rfl] at hx242_2); (try rw [show 0 * 3 = 0 from rfl] at hx242_2); (try rw [Addr.add_zero'] at hx242_2); replace p242 := eq_true p242; replace q242 := eq_true q242; have p243 : 0 ≤ (1 : Int) := (by omega); have q243 : 1 < (t237.length : Int) := od; obtain ⟨ad243, e243, hx243_0, hx243_1, hx243_2⟩ := at_T31 (Kd.R_reads' HO240.out).2.2 1 p243 q243; obtain rfl : ad241 = ad243 := (by injection e243); (try simp only [show (1 : Int).toNat = 1 from rfl, Nat.reduceMul, Nat.reduceEqDiff, Go.Addr.add, ↓reduceIte] at hx243_0); (try simp only [show (1 : Int).toNat = 1 from rfl, Nat.reduceMul, Nat.reduceEqDiff, Go.Addr.add, ↓reduceIte] at hx243_1); (try simp only [show (1 : Int).toNat = 1 from rfl, Nat.reduceMul, Nat.reduceEqDiff, Go.Addr.add, ↓reduceIte] at hx243_2); have qi243 : (1 < t237.length) = True := eq_true (by omega); (try rw [show ((1 : Int)).toNat = 1 from rfl] at hx243_0); (try rw [show 1 * 3 = 3 from rfl] at hx243_0); (try rw [show ((1 : Int)).toNat = 1 from rfl] at hx243_1); (try rw [show 1 * 3 = 3 from rfl] at hx243_1); (try rw [show ((1 : Int)).toNat = 1 from rfl] at hx243_2); (try rw [show 1 * 3 = 3 from rfl] at hx243_2); replace p243 := eq_true p243; replace q243 := eq_true q243; have p244 : 0 ≤ (1 : Int) := (by omega); have q244 : 1 < (t237.length : Int) := od; obtain ⟨ad244, e244, hx244_0, hx244_1, hx244_2⟩ := at_T31 (Kd.R_reads' HO240.out).2.2 1 p244 q244; obtain rfl : ad241 = ad244 := (by injection e244); (try simp only [show (1 : Int).toNat = 1 from rfl, Nat.reduceMul, Nat.reduceEqDiff, Go.Addr.add, ↓reduceIte] at hx244_0); (try simp only [show (1 : Int).toNat = 1 from rfl, Nat.reduceMul, Nat.reduceEqDiff, Go.Addr.add, ↓reduceIte] at hx244_1); (try simp only [show (1 : Int).toNat = 1 from rfl, Nat.reduceMul, Nat.reduceEqDiff, Go.Addr.add, ↓reduceIte] at hx244_2); have qi244 : (1 < t237.length) = True := eq_true (by omega); (try rw [show ((1 : Int)).toNat = 1 from rfl] at hx244_0); (try rw [show 1 * 3 = 3 from rfl] at hx244_0); (try rw [show ((1 : Int)).toNat = 1 from rfl] at hx244_1); (try rw [show 1 * 3 = 3 from rfl] at hx244_1); (try rw [show ((1 : Int)).toNat = 1 from rfl] at hx244_2); (try rw [show 1 * 3 = 3 from rfl] at hx244_2); replace p244 := eq_true p244; replace q244 := eq_true q244))
         go_ret
         exact ⟨by first | rfl | (simp [errW_none, errW_some] <;> rfl) | (simp [*, errW_none, errW_some] <;> rfl), bw⟩
       ·rw [if_neg c8] at H
        have c8b0 : (((rd_T31 t237 1).f0).toList == ([] : List UInt8)) = false := beq_eq_false_iff_ne.mpr c8
        have c8b1 : (((rd_T31 t237 1).f0).toList != ([] : List UInt8)) = true := bne_iff_ne.mpr c8
        obtain rfl := Option.some.inj H
        go_enter Tryd.func9, Tryd.ntmps9
        go_wp2_with (first | ((with_reducible refine gate_callee (f := 17) rfl ?_); refine goesL_ (some 4) rfl rfl Tryd.func17 (by kernel_rfl) rfl #[.string (⟨#[65, 110, 110, 32, 66, 32, 60, 97, 64, 98, 62, 44, 32, 103, 58, 32, 99, 64, 100, 59]⟩ : ByteArray)] rfl am ?_; (with_reducible refine (mbx_Read.calls (hG := by first | exact hG | exact Glob.below hG (by first | exact HB.out | (repeat (first | (with_reducible first | exact HB.out | apply below_alloc | apply pw_below_drewN | apply below_drew1) | exact HB.out))) | exact Glob.drawn hG (by repeat (first | exact Drawn0.refl _ | apply Drawn0.step))) (⟨#[65, 110, 110, 32, 66, 32, 60, 97, 64, 98, 62, 44, 32, 103, 58, 32, 99, 64, 100, 59]⟩ : ByteArray) t237 t238 _ A1.out).mono ?_); rintro e w16 ⟨v239, rfl, ho0, hb⟩; refine ⟨_, rfl, ?_⟩; have n0_ := Aside0.mk (Kd.R_lower ho0 (below_size bw)); have n1_ := Aside0.mk (below_step bw hb); clear HB; have HO240 := n0_; have HB := n1_; clear n0_ n1_; (try clear hb); (try clear hb2); (try clear hk); (try clear hi); (try clear ho0); obtain ⟨Ao17, co17, eo17⟩ := Kd.R_slice HO240.out; subst eo17; have p241 : 0 ≤ (0 : Int) := (by omega); have q241 : 0 < (t237.length : Int) := od; obtain ⟨ad241, e241, hx241_0, hx241_1, hx241_2⟩ := at_T31 (Kd.R_reads' HO240.out).2.2 0 p241 q241; cases e241; have qi241 : (0 < t237.length) = True := eq_true (by omega); (try rw [show ((0 : Int)).toNat = 0 from rfl] at hx241_0); (try rw [show 0 * 3 = 0 from rfl] at hx241_0); (try rw [Addr.add_zero'] at hx241_0); (try rw [show ((0 : Int)).toNat = 0 from rfl] at hx241_1); (try rw [show 0 * 3 = 0 from rfl] at hx241_1); (try rw [Addr.add_zero'] at hx241_1); (try rw [show ((0 : Int)).toNat = 0 from rfl] at hx241_2); (try rw [show 0 * 3 = 0 from rfl] at hx241_2); (try rw [Addr.add_zero'] at hx241_2); replace p241 := eq_true p241; replace q241 := eq_true q241; have p242 : 0 ≤ (0 : Int) := (by omega); have q242 : 0 < (t237.length : Int) := od; obtain ⟨ad242, e242, hx242_0, hx242_1, hx242_2⟩ := at_T31 (Kd.R_reads' HO240.out).2.2 0 p242 q242; obtain rfl : ad241 = ad242 := (by injection e242); have qi242 : (0 < t237.length) = True := eq_true (by omega); (try rw [show ((0 : Int)).toNat = 0 from rfl] at hx242_0); (try rw [show 0 * 3 = 0 from rfl] at hx242_0); (try rw [Addr.add_zero'] at hx242_0); (try rw [show ((0 : Int)).toNat = 0 from rfl] at hx242_1); (try rw [show 0 * 3 = 0 from rfl] at hx242_1); (try rw [Addr.add_zero'] at hx242_1); (try rw [show ((0 : Int)).toNat = 0 from rfl] at hx242_2); (try rw [show 0 * 3 = 0 from rfl] at hx242_2); (try rw [Addr.add_zero'] at hx242_2); replace p242 := eq_true p242; replace q242 := eq_true q242; have p243 : 0 ≤ (1 : Int) := (by omega); have q243 : 1 < (t237.length : Int) := od; obtain ⟨ad243, e243, hx243_0, hx243_1, hx243_2⟩ := at_T31 (Kd.R_reads' HO240.out).2.2 1 p243 q243; obtain rfl : ad241 = ad243 := (by injection e243); (try simp only [show (1 : Int).toNat = 1 from rfl, Nat.reduceMul, Nat.reduceEqDiff, Go.Addr.add, ↓reduceIte] at hx243_0); (try simp only [show (1 : Int).toNat = 1 from rfl, Nat.reduceMul, Nat.reduceEqDiff, Go.Addr.add, ↓reduceIte] at hx243_1); (try simp only [show (1 : Int).toNat = 1 from rfl, Nat.reduceMul, Nat.reduceEqDiff, Go.Addr.add, ↓reduceIte] at hx243_2); have qi243 : (1 < t237.length) = True := eq_true (by omega); (try rw [show ((1 : Int)).toNat = 1 from rfl] at hx243_0); (try rw [show 1 * 3 = 3 from rfl] at hx243_0); (try rw [show ((1 : Int)).toNat = 1 from rfl] at hx243_1); (try rw [show 1 * 3 = 3 from rfl] at hx243_1); (try rw [show ((1 : Int)).toNat = 1 from rfl] at hx243_2); (try rw [show 1 * 3 = 3 from rfl] at hx243_2); replace p243 := eq_true p243; replace q243 := eq_true q243))
        go_ret
        exact ⟨by first | rfl | (simp [errW_none, errW_some] <;> rfl) | (simp [*, errW_none, errW_some] <;> rfl), bw⟩
      ·rw [if_neg c7] at H
       exact absurd H (by simp)
     ·rw [if_neg c6] at H
      have c6b0 : ((((rd_T31 t237 0).f1.f0).toList) == ([97] : List UInt8) && ((((rd_T31 t237 0).f1.f1).toList) == ([98] : List UInt8))) = false := by simpa using c6
      (try (have c6b1 : decide ((((rd_T31 t237 0).f1.f0).toList) = ([97] : List UInt8) && ((((rd_T31 t237 0).f1.f1).toList) == ([98] : List UInt8))) = false := by simpa using c6))
      (try (have c6b2 : ((((rd_T31 t237 0).f1.f0).toList) == ([97] : List UInt8) && ((((rd_T31 t237 0).f1.f1).toList) == ([98] : List UInt8))) = false := by simpa using c6))
      (try (have c6b3 : ¬ ((((rd_T31 t237 0).f1.f0).toList) = ([97] : List UInt8) && ((((rd_T31 t237 0).f1.f1).toList) == ([98] : List UInt8))) := by simpa using c6))
      clear c6
      obtain rfl := Option.some.inj H
      go_enter Tryd.func9, Tryd.ntmps9
      go_wp2_with (first | ((with_reducible refine gate_callee (f := 17) rfl ?_); refine goesL_ (some 4) rfl rfl Tryd.func17 (by kernel_rfl) rfl #[.string (⟨#[65, 110, 110, 32, 66, 32, 60, 97, 64, 98, 62, 44, 32, 103, 58, 32, 99, 64, 100, 59]⟩ : ByteArray)] rfl am ?_; (with_reducible refine (mbx_Read.calls (hG := by first | exact hG | exact Glob.below hG (by first | exact HB.out | (repeat (first | (with_reducible first | exact HB.out | apply below_alloc | apply pw_below_drewN | apply below_drew1) | exact HB.out))) | exact Glob.drawn hG (by repeat (first | exact Drawn0.refl _ | apply Drawn0.step))) (⟨#[65, 110, 110, 32, 66, 32, 60, 97, 64, 98, 62, 44, 32, 103, 58, 32, 99, 64, 100, 59]⟩ : ByteArray) t237 t238 _ A1.out).mono ?_); rintro e w18 ⟨v239, rfl, ho0, hb⟩; refine ⟨_, rfl, ?_⟩; have n0_ := Aside0.mk (Kd.R_lower ho0 (below_size bw)); have n1_ := Aside0.mk (below_step bw hb); clear HB; have HO240 := n0_; have HB := n1_; clear n0_ n1_; (try clear hb); (try clear hb2); (try clear hk); (try clear hi); (try clear ho0); obtain ⟨Ao19, co19, eo19⟩ := Kd.R_slice HO240.out; subst eo19; have p241 : 0 ≤ (0 : Int) := (by omega); have q241 : 0 < (t237.length : Int) := od; obtain ⟨ad241, e241, hx241_0, hx241_1, hx241_2⟩ := at_T31 (Kd.R_reads' HO240.out).2.2 0 p241 q241; cases e241; have qi241 : (0 < t237.length) = True := eq_true (by omega); (try rw [show ((0 : Int)).toNat = 0 from rfl] at hx241_0); (try rw [show 0 * 3 = 0 from rfl] at hx241_0); (try rw [Addr.add_zero'] at hx241_0); (try rw [show ((0 : Int)).toNat = 0 from rfl] at hx241_1); (try rw [show 0 * 3 = 0 from rfl] at hx241_1); (try rw [Addr.add_zero'] at hx241_1); (try rw [show ((0 : Int)).toNat = 0 from rfl] at hx241_2); (try rw [show 0 * 3 = 0 from rfl] at hx241_2); (try rw [Addr.add_zero'] at hx241_2); replace p241 := eq_true p241; replace q241 := eq_true q241; have p242 : 0 ≤ (0 : Int) := (by omega); have q242 : 0 < (t237.length : Int) := od; obtain ⟨ad242, e242, hx242_0, hx242_1, hx242_2⟩ := at_T31 (Kd.R_reads' HO240.out).2.2 0 p242 q242; obtain rfl : ad241 = ad242 := (by injection e242); have qi242 : (0 < t237.length) = True := eq_true (by omega); (try rw [show ((0 : Int)).toNat = 0 from rfl] at hx242_0); (try rw [show 0 * 3 = 0 from rfl] at hx242_0); (try rw [Addr.add_zero'] at hx242_0); (try rw [show ((0 : Int)).toNat = 0 from rfl] at hx242_1); (try rw [show 0 * 3 = 0 from rfl] at hx242_1); (try rw [Addr.add_zero'] at hx242_1); (try rw [show ((0 : Int)).toNat = 0 from rfl] at hx242_2); (try rw [show 0 * 3 = 0 from rfl] at hx242_2); (try rw [Addr.add_zero'] at hx242_2); replace p242 := eq_true p242; replace q242 := eq_true q242))
      go_ret
      exact ⟨by first | rfl | (simp [errW_none, errW_some] <;> rfl) | (simp [*, errW_none, errW_some] <;> rfl), bw⟩
    ·rw [if_neg c5] at H
     have c5b0 : (((rd_T31 t237 0).f0).toList == ([65, 110, 110, 32, 66] : List UInt8)) = false := beq_eq_false_iff_ne.mpr c5
     have c5b1 : (((rd_T31 t237 0).f0).toList != ([65, 110, 110, 32, 66] : List UInt8)) = true := bne_iff_ne.mpr c5
     obtain rfl := Option.some.inj H
     go_enter Tryd.func9, Tryd.ntmps9
     go_wp2_with (first | ((with_reducible refine gate_callee (f := 17) rfl ?_); refine goesL_ (some 4) rfl rfl Tryd.func17 (by kernel_rfl) rfl #[.string (⟨#[65, 110, 110, 32, 66, 32, 60, 97, 64, 98, 62, 44, 32, 103, 58, 32, 99, 64, 100, 59]⟩ : ByteArray)] rfl am ?_; (with_reducible refine (mbx_Read.calls (hG := by first | exact hG | exact Glob.below hG (by first | exact HB.out | (repeat (first | (with_reducible first | exact HB.out | apply below_alloc | apply pw_below_drewN | apply below_drew1) | exact HB.out))) | exact Glob.drawn hG (by repeat (first | exact Drawn0.refl _ | apply Drawn0.step))) (⟨#[65, 110, 110, 32, 66, 32, 60, 97, 64, 98, 62, 44, 32, 103, 58, 32, 99, 64, 100, 59]⟩ : ByteArray) t237 t238 _ A1.out).mono ?_); rintro e w20 ⟨v239, rfl, ho0, hb⟩; refine ⟨_, rfl, ?_⟩; have n0_ := Aside0.mk (Kd.R_lower ho0 (below_size bw)); have n1_ := Aside0.mk (below_step bw hb); clear HB; have HO240 := n0_; have HB := n1_; clear n0_ n1_; (try clear hb); (try clear hb2); (try clear hk); (try clear hi); (try clear ho0); obtain ⟨Ao21, co21, eo21⟩ := Kd.R_slice HO240.out; subst eo21; have p241 : 0 ≤ (0 : Int) := (by omega); have q241 : 0 < (t237.length : Int) := od; obtain ⟨ad241, e241, hx241_0, hx241_1, hx241_2⟩ := at_T31 (Kd.R_reads' HO240.out).2.2 0 p241 q241; cases e241; have qi241 : (0 < t237.length) = True := eq_true (by omega); (try rw [show ((0 : Int)).toNat = 0 from rfl] at hx241_0); (try rw [show 0 * 3 = 0 from rfl] at hx241_0); (try rw [Addr.add_zero'] at hx241_0); (try rw [show ((0 : Int)).toNat = 0 from rfl] at hx241_1); (try rw [show 0 * 3 = 0 from rfl] at hx241_1); (try rw [Addr.add_zero'] at hx241_1); (try rw [show ((0 : Int)).toNat = 0 from rfl] at hx241_2); (try rw [show 0 * 3 = 0 from rfl] at hx241_2); (try rw [Addr.add_zero'] at hx241_2); replace p241 := eq_true p241; replace q241 := eq_true q241))
     go_ret
     exact ⟨by first | rfl | (simp [errW_none, errW_some] <;> rfl) | (simp [*, errW_none, errW_some] <;> rfl), bw⟩
   ·rw [if_neg c4] at H
    exact absurd H (by simp)
  ·rw [if_neg c3] at H
   have c3b0 : ((t237.length : Int) == 2) = false := beq_eq_false_iff_ne.mpr c3
   have c3b1 : ((t237.length : Int) != 2) = true := bne_iff_ne.mpr c3
   obtain rfl := Option.some.inj H
   go_enter Tryd.func9, Tryd.ntmps9
   go_wp2_with (first | ((with_reducible refine gate_callee (f := 17) rfl ?_); refine goesL_ (some 4) rfl rfl Tryd.func17 (by kernel_rfl) rfl #[.string (⟨#[65, 110, 110, 32, 66, 32, 60, 97, 64, 98, 62, 44, 32, 103, 58, 32, 99, 64, 100, 59]⟩ : ByteArray)] rfl am ?_; (with_reducible refine (mbx_Read.calls (hG := by first | exact hG | exact Glob.below hG (by first | exact HB.out | (repeat (first | (with_reducible first | exact HB.out | apply below_alloc | apply pw_below_drewN | apply below_drew1) | exact HB.out))) | exact Glob.drawn hG (by repeat (first | exact Drawn0.refl _ | apply Drawn0.step))) (⟨#[65, 110, 110, 32, 66, 32, 60, 97, 64, 98, 62, 44, 32, 103, 58, 32, 99, 64, 100, 59]⟩ : ByteArray) t237 t238 _ A1.out).mono ?_); rintro e w22 ⟨v239, rfl, ho0, hb⟩; refine ⟨_, rfl, ?_⟩; have n0_ := Aside0.mk (Kd.R_lower ho0 (below_size bw)); have n1_ := Aside0.mk (below_step bw hb); clear HB; have HO240 := n0_; have HB := n1_; clear n0_ n1_; (try clear hb); (try clear hb2); (try clear hk); (try clear hi); (try clear ho0); obtain ⟨Ao23, co23, eo23⟩ := Kd.R_slice HO240.out; subst eo23))
   go_ret
   exact ⟨by first | rfl | (simp [errW_none, errW_some] <;> rfl) | (simp [*, errW_none, errW_some] <;> rfl), bw⟩
 ·rw [if_neg c2] at H
  have c2b0 : (t238 == 0) = false := beq_eq_false_iff_ne.mpr c2
  have c2b1 : (t238 != 0) = true := bne_iff_ne.mpr c2
  obtain rfl := Option.some.inj H
  go_enter Tryd.func9, Tryd.ntmps9
  go_wp2_with (first | ((with_reducible refine gate_callee (f := 17) rfl ?_); refine goesL_ (some 4) rfl rfl Tryd.func17 (by kernel_rfl) rfl #[.string (⟨#[65, 110, 110, 32, 66, 32, 60, 97, 64, 98, 62, 44, 32, 103, 58, 32, 99, 64, 100, 59]⟩ : ByteArray)] rfl am ?_; (with_reducible refine (mbx_Read.calls (hG := by first | exact hG | exact Glob.below hG (by first | exact HB.out | (repeat (first | (with_reducible first | exact HB.out | apply below_alloc | apply pw_below_drewN | apply below_drew1) | exact HB.out))) | exact Glob.drawn hG (by repeat (first | exact Drawn0.refl _ | apply Drawn0.step))) (⟨#[65, 110, 110, 32, 66, 32, 60, 97, 64, 98, 62, 44, 32, 103, 58, 32, 99, 64, 100, 59]⟩ : ByteArray) t237 t238 _ A1.out).mono ?_); rintro e w24 ⟨v239, rfl, ho0, hb⟩; refine ⟨_, rfl, ?_⟩; have n0_ := Aside0.mk (Kd.R_lower ho0 (below_size bw)); have n1_ := Aside0.mk (below_step bw hb); clear HB; have HO240 := n0_; have HB := n1_; clear n0_ n1_; (try clear hb); (try clear hb2); (try clear hk); (try clear hi); (try clear ho0)))
  go_ret
  exact ⟨by first | rfl | (simp [errW_none, errW_some] <;> rfl) | (simp [*, errW_none, errW_some] <;> rfl), bw⟩

end Go.Proofs.YtbjbpgmjijeppaaDoor.Fn
namespace Go.Proofs.YtbjbpgmjijeppaaDoor.Fn
open Go.RowKit Go.Proofs.YtbjbpgmjijeppaaDoorW.PrintWords Go.Proofs.YtbjbpgmjijeppaaDoorW.PrintLast Go.Proofs.YtbjbpgmjijeppaaDoorW.PrintMore
attribute [local go_sem] max2_int min2_int max_two min_two max_three min_three max_four min_four
set_option linter.unusedVariables false
set_option linter.unusedSimpArgs false

/-! ### bulletinref14_Phrase: function 16 -/
def bulletinref14_Phrase.l0 : Nat → ByteArray → List ByteArray → Int → Option (ByteArray)
 | 0, _, _, _ => none
 | k + 1, x0, x3, x4 => if x4 < (x3.length : Int) then (if 0 ≤ x4 then ((bulletinref12_IsAtom.f k (rdOf ByteArray.empty x3 x4)).bind fun t262 => (if t262 = true then (bulletinref14_Phrase.l0 k x0 x3 (wrap64 (x4 + 1))) else ((bulletinref12_Quote.f k x0).bind fun t263 => (some t263)))) else (none)) else (some x0)
def bulletinref14_Phrase.f (k : Nat) (a0 : ByteArray) : Option (ByteArray) := (bulletinref13_Split.f k a0 32).bind fun t258 => (bulletinref14_Phrase.l0 k a0 t258 0)
set_option maxHeartbeats 8000000 in
set_option maxRecDepth 100000 in
theorem bulletinref14_Phrase.calls (k : Nat) (a0 : ByteArray) (r : ByteArray) (w : World) (h : bulletinref14_Phrase.f k a0 = some r) :
  Calls Tryd.prog 16 #[.string a0] w fun e w' => e = .returned (.string r) ∧ Below w.heap.size w w' := by
 have HB := Aside0.mk (Below.refl w.heap.size w)
 have H : ((bulletinref13_Split.f k a0 32).bind fun t258 => (bulletinref14_Phrase.l0 k a0 t258 0)) = some r := h
 clear h
 replace H := Option.bind_eq_some_iff.mp H
 obtain ⟨t258, A20, H⟩ := H
 replace H : (bulletinref14_Phrase.l0 k a0 t258 0) = some r := H
 have A2 := Aside0.mk A20
 clear A20
 have H' := Aside0.mk H
 clear H
 go_enter Tryd.func16, Tryd.ntmps16
 go_wp2_with (first | ((with_reducible refine gate_callee (f := 30) rfl ?_); refine goesL_ (some 6) rfl rfl Tryd.func30 (by kernel_rfl) rfl #[.string a0, .int .u8 32] rfl am ?_; (with_reducible refine (bulletinref13_Split.calls k a0 32 t258 _ A2.out).mono ?_); rintro e w3 ⟨v259, rfl, ho0, hb⟩; refine ⟨_, rfl, ?_⟩; have n0_ := Aside0.mk (Kd.R_lower ho0 (below_size bw)); have n1_ := Aside0.mk (below_step bw hb); clear HB; have HO260 := n0_; have HB := n1_; clear n0_ n1_; (try clear hb); (try clear hb2); (try clear hk); (try clear hi); (try clear ho0)))
 go_loopg [4] k (fun kq v4 w' => ∃ (x4_1 : Int), v4 = .int .i64 x4_1 ∧ Aside0 (bulletinref14_Phrase.l0 kq a0 t258 x4_1 = some r) ∧ Aside0 (kq ≤ k) ∧ Aside0 (Kd.R Kd.string 9 w' w.heap.size (fun _ => True) v259 t258) ∧ Aside0 (Below w.heap.size w w'))
 case atStart => exact ⟨(0), cl, H', ⟨Nat.le_refl _⟩, ⟨by (with_reducible repeat (first | apply Kd.R_alloc | apply Kd.R_drewN | apply Kd.R_drew)); exact HO260.out⟩, ⟨bw⟩⟩
 case round =>
  clear H'
  try clear c1
  try clear p2
  try clear c3
  obtain ⟨x4_1, rfl, HA, HK1, HO_3, HB⟩ := hrel
  cases gk with
  | zero => exact absurd HA.out (by simp [bulletinref14_Phrase.l0])
  | succ k1 =>
   have H := HA.out
   clear HA
   simp only [bulletinref14_Phrase.l0] at H
   by_cases c4 : x4_1 < (t258.length : Int)
   ·rw [if_pos c4] at H
    have c4b0 : decide (x4_1 < (t258.length : Int)) = true := decide_eq_true c4
    clear c4
    by_cases c5 : 0 ≤ x4_1
    ·rw [if_pos c5] at H
     have c5b0 : decide (0 ≤ x4_1) = true := decide_eq_true c5
     clear c5
     replace H := Option.bind_eq_some_iff.mp H
     obtain ⟨t262, A60, H⟩ := H
     replace H : (if t262 = true then (bulletinref14_Phrase.l0 k1 a0 t258 (wrap64 (x4_1 + 1))) else ((bulletinref12_Quote.f k1 a0).bind fun t263 => (some t263))) = some r := H
     have A6 := Aside0.mk A60
     clear A60
     by_cases c7 : t262 = true
     ·subst c7
      have H1 : (bulletinref14_Phrase.l0 k1 a0 t258 (wrap64 (x4_1 + 1))) = some r := by rw [if_pos rfl] at H; exact H
      clear H
      have H := H1
      clear H1
      have H' := Aside0.mk H
      clear H
      obtain ⟨Ao8, co8, eo8⟩ := Kd.R_slice HO_3.out
      subst eo8
      have p261 : 0 ≤ (x4_1 : Int) := od
      have q261 : x4_1 < (t258.length : Int) := od
      obtain ⟨ad261, e261, hx261_0⟩ := Kd.at_string (Kd.R_reads' HO_3.out).2.2 x4_1 p261 q261
      cases e261
      replace p261 := eq_true p261
      replace q261 := eq_true q261
      go_wp2_with (first | ((with_reducible refine gate_callee (f := 31) rfl ?_); refine goesL_ (some 17) rfl rfl Tryd.func31 (by kernel_rfl) rfl #[.string (rdOf ByteArray.empty t258 x4_1)] rfl am ?_; (with_reducible refine (bulletinref12_IsAtom.calls k1 (rdOf ByteArray.empty t258 x4_1) true _ A6.out).mono ?_); rintro e w' ⟨rfl, ⟨nd, rfl⟩⟩; refine ⟨_, rfl, ?_⟩))
      go_roundg k1
      case measure => have := HK1.out; omega
      case rel => exact ⟨(wrap64 (x4_1 + 1)), cl, H', ⟨by have := HK1.out; omega⟩, ⟨by (with_reducible repeat (first | apply Kd.R_alloc | apply Kd.R_drewN | apply Kd.R_drew)); exact HO_3.out⟩, ⟨bw⟩⟩
     ·replace c7 := Bool.eq_false_iff.mpr c7
      subst c7
      have H1 : ((bulletinref12_Quote.f k1 a0).bind fun t263 => (some t263)) = some r := by rw [if_neg (show ¬ (false = true) by decide)] at H; exact H
      clear H
      have H := H1
      clear H1
      replace H := Option.bind_eq_some_iff.mp H
      obtain ⟨t263, A90, H⟩ := H
      replace H : (some t263) = some r := H
      have A9 := Aside0.mk A90
      clear A90
      obtain rfl := Option.some.inj H
      obtain ⟨Ao10, co10, eo10⟩ := Kd.R_slice HO_3.out
      subst eo10
      have p261 : 0 ≤ (x4_1 : Int) := od
      have q261 : x4_1 < (t258.length : Int) := od
      obtain ⟨ad261, e261, hx261_0⟩ := Kd.at_string (Kd.R_reads' HO_3.out).2.2 x4_1 p261 q261
      cases e261
      replace p261 := eq_true p261
      replace q261 := eq_true q261
      go_wp2_with (first | ((with_reducible refine gate_callee (f := 31) rfl ?_); refine goesL_ (some 17) rfl rfl Tryd.func31 (by kernel_rfl) rfl #[.string (rdOf ByteArray.empty t258 x4_1)] rfl am ?_; (with_reducible refine (bulletinref12_IsAtom.calls k1 (rdOf ByteArray.empty t258 x4_1) false _ A6.out).mono ?_); rintro e w' ⟨rfl, ⟨nd, rfl⟩⟩; refine ⟨_, rfl, ?_⟩) | ((with_reducible refine gate_callee (f := 32) rfl ?_); refine goesL_ (some 20) rfl rfl Tryd.func32 (by kernel_rfl) rfl #[.string a0] rfl am ?_; (with_reducible refine (bulletinref12_Quote.calls k1 a0 t263 _ A9.out).mono ?_); rintro e w' ⟨rfl, ⟨nd, rfl⟩⟩; refine ⟨_, rfl, ?_⟩))
      go_ret
      exact ⟨by first | rfl | (simp [errW_none, errW_some] <;> rfl) | (simp [*, errW_none, errW_some] <;> rfl), bw⟩
    ·rw [if_neg c5] at H
     exact absurd H (by simp)
   ·rw [if_neg c4] at H
    have c4b0 : decide (x4_1 < (t258.length : Int)) = false := decide_eq_false c4
    clear c4
    obtain rfl := Option.some.inj H
    obtain ⟨Ao11, co11, eo11⟩ := Kd.R_slice HO_3.out
    subst eo11
    go_wp2
    go_ret
    exact ⟨by first | rfl | (simp [errW_none, errW_some] <;> rfl) | (simp [*, errW_none, errW_some] <;> rfl), bw⟩

end Go.Proofs.YtbjbpgmjijeppaaDoor.Fn
namespace Go.Proofs.YtbjbpgmjijeppaaDoor.Fn
open Go.RowKit Go.Proofs.YtbjbpgmjijeppaaDoorW.PrintWords Go.Proofs.YtbjbpgmjijeppaaDoorW.PrintLast Go.Proofs.YtbjbpgmjijeppaaDoorW.PrintMore
attribute [local go_sem] max2_int min2_int max_two min_two max_three min_three max_four min_four
set_option linter.unusedVariables false
set_option linter.unusedSimpArgs false

/-! ### bulletinref14_Show: function 12 -/
def bulletinref14_Show.f (k : Nat) (a0_0 : ByteArray) (a0_1 : ByteArray) (a0_2 : ByteArray) : Option (ByteArray) := if a0_0.toList = ([] : List UInt8) then ((bulletinref13_Text.f k a0_1 a0_2).bind fun t273 => (some t273)) else ((bulletinref14_Phrase.f k a0_0).bind fun t274 => (if t274.size + 2 ≤ 9223372036854775807 then ((bulletinref13_Text.f k a0_1 a0_2).bind fun t275 => (if (t274 ++ (⟨#[32, 60]⟩ : ByteArray)).size + t275.size ≤ 9223372036854775807 then (if ((t274 ++ (⟨#[32, 60]⟩ : ByteArray)) ++ t275).size + 1 ≤ 9223372036854775807 then (some (((t274 ++ (⟨#[32, 60]⟩ : ByteArray)) ++ t275) ++ (⟨#[62]⟩ : ByteArray))) else (none)) else (none))) else (none)))
def bulletinref14_Show.T3 : Bool × List (List Nat × List Nat) := (true, [([], []), ([0], [0]), ([1], [1]), ([2], [2]), ([], []), ([4], [4]), ([5, 2], [5]), ([3, 6], [3, 6]), ([7], [7]), ([8, 6, 0, 1, 2, 3, 4, 5, 6, 7, 8], [8])])
def bulletinref14_Show.B3 : List Nat := [0, 1, 3, 7, 0, 16, 55, 127, 255, 511]
theorem bulletinref14_Show.tab3 : rtab .any (opsOf Tryd.f12 3) = bulletinref14_Show.T3 := by kernel_rfl
theorem bulletinref14_Show.bits3 : waitsOk bulletinref14_Show.T3.2 bulletinref14_Show.B3 = true := by kernel_rfl
set_option maxHeartbeats 8000000 in
set_option maxRecDepth 100000 in
theorem bulletinref14_Show.calls (k : Nat) (a0_0 : ByteArray) (a0_1 : ByteArray) (a0_2 : ByteArray) (r : ByteArray) (w : World) (h : bulletinref14_Show.f k a0_0 a0_1 a0_2 = some r) :
  Calls Tryd.prog 12 #[.agg #[.string a0_0, .string a0_1, .string a0_2]] w fun e w' => e = .returned (.string r) ∧ Below w.heap.size w w' := by
 have hu28 := Tryd.underlying28
 have hu26 := Tryd.underlying26
 have HB := Aside0.mk (Below.refl w.heap.size w)
 have H : (if a0_0.toList = ([] : List UInt8) then ((bulletinref13_Text.f k a0_1 a0_2).bind fun t273 => (some t273)) else ((bulletinref14_Phrase.f k a0_0).bind fun t274 => (if t274.size + 2 ≤ 9223372036854775807 then ((bulletinref13_Text.f k a0_1 a0_2).bind fun t275 => (if (t274 ++ (⟨#[32, 60]⟩ : ByteArray)).size + t275.size ≤ 9223372036854775807 then (if ((t274 ++ (⟨#[32, 60]⟩ : ByteArray)) ++ t275).size + 1 ≤ 9223372036854775807 then (some (((t274 ++ (⟨#[32, 60]⟩ : ByteArray)) ++ t275) ++ (⟨#[62]⟩ : ByteArray))) else (none)) else (none))) else (none)))) = some r := h
 clear h
 by_cases c2 : a0_0.toList = ([] : List UInt8)
 ·rw [if_pos c2] at H
  have c2b0 : (a0_0.toList == ([] : List UInt8)) = true := beq_iff_eq.mpr c2
  have c2b1 : (a0_0.toList != ([] : List UInt8)) = false := bne_eq_false_iff_eq.mpr c2
  clear c2
  replace H := Option.bind_eq_some_iff.mp H
  obtain ⟨t273, A30, H⟩ := H
  replace H : (some t273) = some r := H
  have A3 := Aside0.mk A30
  clear A30
  obtain rfl := Option.some.inj H
  go_enter Tryd.func12, Tryd.ntmps12
  go_wp2_with (first | ((with_reducible refine gate_dst (N := 1) rfl ?_); refine box_event ?hg (N := 1) ?hd (cs := #[.string a0_0, .string a0_1, .string a0_2]) (t := 28) ?hr ?_; (case hd => rfl); (case hg => rfl); (case hr => first | (go_simp; done) | (go_simp; rfl)); intro gb272 hg w4 hbox hb; have n0_ := Aside0.mk (below_step bw hb); have n1_ := Aside0.mk (hbox); have n2_ := Aside0.mk ((by rw [hg]; exact (below_size bw) : w.heap.size ≤ gb272)); have n3_ := Aside0.mk ((by rw [hg]; exact (below_size bw) : w.heap.size ≤ gb272)); clear HB; have HB := n0_; have BK272 := n1_; have GW272 := n2_; have GE272 := n3_; clear n0_ n1_ n2_ n3_; clear hb hbox hg; have hcz5_0 : w4.cell? ⟨gb272, 0, none⟩ = some (.string a0_0) := (blk_cell BK272.out 0).trans rfl; have hcz5_1 : w4.cell? ⟨gb272, 1, none⟩ = some (.string a0_1) := (blk_cell BK272.out 1).trans rfl; have hcz5_2 : w4.cell? ⟨gb272, 2, none⟩ = some (.string a0_2) := (blk_cell BK272.out 2).trans rfl; have hfz5_0 := blk_frozen BK272.out 0; have hfz5_1 := blk_frozen BK272.out 1; have hfz5_2 := blk_frozen BK272.out 2) | ((with_reducible refine gate_callee (f := 25) rfl ?_); refine goesL_ (some 8) rfl rfl Tryd.func25 (by kernel_rfl) rfl #[.agg #[.string a0_1, .string a0_2]] rfl am ?_; (with_reducible refine (bulletinref13_Text.calls k a0_1 a0_2 t273 _ A3.out).mono ?_); rintro e w6 ⟨rfl, hb⟩; refine ⟨_, rfl, ?_⟩; have n0_ := Aside0.mk (blk_below (g := gb272) (o := .cells #[.string a0_0, .string a0_1, .string a0_2] 28 (0, 0)) bk hb); have n1_ := Aside0.mk (below_step bwS hb); clear BK272; clear HB; have BK272 := n0_; have HB := n1_; clear n0_ n1_; (try clear hb); (try clear hb2); (try clear hk); (try clear hi)))
  go_ret
  exact ⟨by first | rfl | (simp [errW_none, errW_some] <;> rfl) | (simp [*, errW_none, errW_some] <;> rfl), bwS⟩
 ·rw [if_neg c2] at H
  have c2b0 : (a0_0.toList == ([] : List UInt8)) = false := beq_eq_false_iff_ne.mpr c2
  have c2b1 : (a0_0.toList != ([] : List UInt8)) = true := bne_iff_ne.mpr c2
  replace H := Option.bind_eq_some_iff.mp H
  obtain ⟨t274, A70, H⟩ := H
  replace H : (if t274.size + 2 ≤ 9223372036854775807 then ((bulletinref13_Text.f k a0_1 a0_2).bind fun t275 => (if (t274 ++ (⟨#[32, 60]⟩ : ByteArray)).size + t275.size ≤ 9223372036854775807 then (if ((t274 ++ (⟨#[32, 60]⟩ : ByteArray)) ++ t275).size + 1 ≤ 9223372036854775807 then (some (((t274 ++ (⟨#[32, 60]⟩ : ByteArray)) ++ t275) ++ (⟨#[62]⟩ : ByteArray))) else (none)) else (none))) else (none)) = some r := H
  have A7 := Aside0.mk A70
  clear A70
  by_cases c8 : t274.size + 2 ≤ 9223372036854775807
  ·rw [if_pos c8] at H
   have c8b0 := eq_true c8
   have c8b1 : decide (t274.size + 2 ≤ 9223372036854775807) = true := decide_eq_true c8
   try have c8b2 : (9223372036854775807 < t274.size + 2) = False := eq_false (Nat.not_lt.2 c8)
   replace H := Option.bind_eq_some_iff.mp H
   obtain ⟨t275, A90, H⟩ := H
   replace H : (if (t274 ++ (⟨#[32, 60]⟩ : ByteArray)).size + t275.size ≤ 9223372036854775807 then (if ((t274 ++ (⟨#[32, 60]⟩ : ByteArray)) ++ t275).size + 1 ≤ 9223372036854775807 then (some (((t274 ++ (⟨#[32, 60]⟩ : ByteArray)) ++ t275) ++ (⟨#[62]⟩ : ByteArray))) else (none)) else (none)) = some r := H
   have A9 := Aside0.mk A90
   clear A90
   by_cases c10 : (t274 ++ (⟨#[32, 60]⟩ : ByteArray)).size + t275.size ≤ 9223372036854775807
   ·rw [if_pos c10] at H
    have c10b0 := eq_true c10
    have c10b1 : decide ((t274 ++ (⟨#[32, 60]⟩ : ByteArray)).size + t275.size ≤ 9223372036854775807) = true := decide_eq_true c10
    try have c10b2 : (9223372036854775807 < (t274 ++ (⟨#[32, 60]⟩ : ByteArray)).size + t275.size) = False := eq_false (Nat.not_lt.2 c10)
    try (have c10b3 := c10; simp only [ByteArray.size_append, size_lit, ByteArray.size_extract, List.size_toArray, List.length_cons, List.length_nil, Nat.zero_add, Nat.reduceAdd] at c10b3; have c10b4 := eq_false (Nat.not_lt.2 c10b3))
    by_cases c11 : ((t274 ++ (⟨#[32, 60]⟩ : ByteArray)) ++ t275).size + 1 ≤ 9223372036854775807
    ·rw [if_pos c11] at H
     have c11b0 := eq_true c11
     have c11b1 : decide (((t274 ++ (⟨#[32, 60]⟩ : ByteArray)) ++ t275).size + 1 ≤ 9223372036854775807) = true := decide_eq_true c11
     try have c11b2 : (9223372036854775807 < ((t274 ++ (⟨#[32, 60]⟩ : ByteArray)) ++ t275).size + 1) = False := eq_false (Nat.not_lt.2 c11)
     try (have c11b3 := c11; simp only [ByteArray.size_append, size_lit, ByteArray.size_extract, List.size_toArray, List.length_cons, List.length_nil, Nat.zero_add, Nat.reduceAdd] at c11b3; have c11b4 := eq_false (Nat.not_lt.2 c11b3))
     obtain rfl := Option.some.inj H
     go_enter Tryd.func12, Tryd.ntmps12
     try go_wp2_with (first | ((with_reducible refine gate_dst (N := 1) rfl ?_); refine box_event ?hg (N := 1) ?hd (cs := #[.string a0_0, .string a0_1, .string a0_2]) (t := 28) ?hr ?_; (case hd => rfl); (case hg => rfl); (case hr => first | (go_simp; done) | (go_simp; rfl)); intro gb272 hg w12 hbox hb; have n0_ := Aside0.mk (below_step bw hb); have n1_ := Aside0.mk (hbox); have n2_ := Aside0.mk ((by rw [hg]; exact (below_size bw) : w.heap.size ≤ gb272)); have n3_ := Aside0.mk ((by rw [hg]; exact (below_size bw) : w.heap.size ≤ gb272)); clear HB; have HB := n0_; have BK272 := n1_; have GW272 := n2_; have GE272 := n3_; clear n0_ n1_ n2_ n3_; clear hb hbox hg; have hcz13_0 : w12.cell? ⟨gb272, 0, none⟩ = some (.string a0_0) := (blk_cell BK272.out 0).trans rfl; have hcz13_1 : w12.cell? ⟨gb272, 1, none⟩ = some (.string a0_1) := (blk_cell BK272.out 1).trans rfl; have hcz13_2 : w12.cell? ⟨gb272, 2, none⟩ = some (.string a0_2) := (blk_cell BK272.out 2).trans rfl; have hfz13_0 := blk_frozen BK272.out 0; have hfz13_1 := blk_frozen BK272.out 1; have hfz13_2 := blk_frozen BK272.out 2))
     have n0_ := Aside0.mk (blk_drew BK272.out)
     have n1_ := Aside0.mk (below_drew1 HB.out)
     clear BK272
     clear HB
     have BK272 := n0_
     have HB := n1_
     clear n0_ n1_
     refine start_ (n := 10) (S := fun w' => w'.cell? ⟨gb272, 0, none⟩ = some (.string a0_0) ∧ w'.cell? ⟨gb272, 1, none⟩ = some (.string a0_1) ∧ w'.cell? ⟨gb272, 2, none⟩ = some (.string a0_2)) (ds := []) #[false, false, false, false, false, false, false, false, false, false] (by kernel_rfl) rfl rfl ⟨(blk_cell BK272.out 0).trans rfl, (blk_cell BK272.out 1).trans rfl, (blk_cell BK272.out 2).trans rfl⟩ (fun hHeld => ?_); refine with_tabW bulletinref14_Show.tab3 bulletinref14_Show.bits3 (fun HT_ HW_ => ?_)
     generalize w12.drew = w14 at BK272 HB hHeld ⊢
     refine pure_ (i := 0) (N := some 9) (v := ?_) (a' := ?_) (bitsL 10 1) rfl rfl (any_of HT_.out (by kernel_rfl)) (fun _ _ _ h => h) (Or.inl ⟨by rfl, ?_⟩) ?_ ?_
     rotate_left
     ·intro w'
      go_simp
      with_reducible rfl
     rotate_left
     ·simp only [Act.put, List.setIfInBounds_toArray, List.set_cons_zero, List.set_cons_succ, i64_w, i32_w]
      rfl
     refine pure_ (i := 4) (N := some 13) (v := ?_) (a' := ?_) (bitsL 10 17) rfl rfl (any_of HT_.out (by kernel_rfl)) (fun _ _ _ h => h) (Or.inl ⟨by rfl, ?_⟩) ?_ ?_
     rotate_left
     ·intro w'
      go_simp
      with_reducible rfl
     rotate_left
     ·simp only [Act.put, List.setIfInBounds_toArray, List.set_cons_zero, List.set_cons_succ, i64_w, i32_w]
      rfl
     refine take_ (i := 1) (N := some 10) (v := ?_) (a' := ?_) (bitsL 10 19) rfl rfl (take_ofW HT_.out HW_.out (by kernel_rfl)) (fun _ _ _ h => h) (Or.inl ⟨by rfl, ?_⟩) hHeld ?_ ?_
     rotate_left
     ·rintro w' ⟨s0, s1, s2⟩
      go_simp
      with_reducible rfl
     rotate_left
     ·simp only [Act.put, List.setIfInBounds_toArray, List.set_cons_zero, List.set_cons_succ, i64_w, i32_w]
      rfl
     refine take_ (i := 5) (N := some 14) (v := ?_) (a' := ?_) (bitsL 10 51) rfl rfl (take_ofW HT_.out HW_.out (by kernel_rfl)) (fun _ _ _ h => h) (Or.inl ⟨by rfl, ?_⟩) hHeld ?_ ?_
     rotate_left
     ·rintro w' ⟨s0, s1, s2⟩
      go_simp
      with_reducible rfl
     rotate_left
     ·simp only [Act.put, List.setIfInBounds_toArray, List.set_cons_zero, List.set_cons_succ, i64_w, i32_w]
      rfl
     refine one_ (i := 2) (N := some 11) (bitsL 10 55) rfl rfl (one_of HT_.out (by kernel_rfl)) (by decide) (fun K hK => ?_)
     refine goes_ Tryd.func16 (by kernel_rfl) rfl #[.string a0_0] (by rfl) rfl rfl am ?_
     with_reducible refine (bulletinref14_Phrase.calls k a0_0 t274 _ A7.out).mono ?_
     rintro e w15 ⟨rfl, hb⟩
     refine ⟨_, rfl, ?_⟩
     have n0_ := Aside0.mk (blk_below (g := gb272) (o := .cells #[.string a0_0, .string a0_1, .string a0_2] 28 (0, 0)) bk hb)
     have n1_ := Aside0.mk (below_step bwS hb)
     clear BK272
     clear HB
     have BK272 := n0_
     have HB := n1_
     clear n0_ n1_
     (try clear hb)
     (try clear hb2)
     (try clear hk)
     (try clear hi)
     refine hK.out _ _ ⟨(blk_cell BK272.out 0).trans rfl, (blk_cell BK272.out 1).trans rfl, (blk_cell BK272.out 2).trans rfl⟩ (fun hHeld => ?_)
     clear hK K
     refine norm_ (a' := ?_) ?_ ?_
     rotate_left
     ·show Act.put _ (some 11) _ = _
      simp only [Act.put, List.setIfInBounds_toArray, List.set_cons_zero, List.set_cons_succ, i64_w, i32_w]
      rfl
     refine pure_ (i := 3) (N := some 12) (v := ?_) (a' := ?_) (bitsL 10 63) rfl rfl (any_of HT_.out (by kernel_rfl)) (fun _ _ _ h => h) (Or.inl ⟨by rfl, ?_⟩) ?_ ?_
     rotate_left
     ·intro w'
      go_simp
      with_reducible rfl
     rotate_left
     ·simp only [Act.put, List.setIfInBounds_toArray, List.set_cons_zero, List.set_cons_succ, i64_w, i32_w]
      rfl
     refine one_ (i := 6) (N := some 15) (bitsL 10 127) rfl rfl (one_of HT_.out (by kernel_rfl)) (by decide) (fun K hK => ?_)
     refine goes_ Tryd.func25 (by kernel_rfl) rfl #[.agg #[.string a0_1, .string a0_2]] (by rfl) rfl rfl am ?_
     with_reducible refine (bulletinref13_Text.calls k a0_1 a0_2 t275 _ A9.out).mono ?_
     rintro e w16 ⟨rfl, hb⟩
     refine ⟨_, rfl, ?_⟩
     have n0_ := Aside0.mk (blk_below (g := gb272) (o := .cells #[.string a0_0, .string a0_1, .string a0_2] 28 (0, 0)) bk hb)
     have n1_ := Aside0.mk (below_step bwS hb)
     clear BK272
     clear HB
     have BK272 := n0_
     have HB := n1_
     clear n0_ n1_
     (try clear hb)
     (try clear hb2)
     (try clear hk)
     (try clear hi)
     refine hK.out _ _ ⟨(blk_cell BK272.out 0).trans rfl, (blk_cell BK272.out 1).trans rfl, (blk_cell BK272.out 2).trans rfl⟩ (fun hHeld => ?_)
     clear hK K
     refine norm_ (a' := ?_) ?_ ?_
     rotate_left
     ·show Act.put _ (some 15) _ = _
      simp only [Act.put, List.setIfInBounds_toArray, List.set_cons_zero, List.set_cons_succ, i64_w, i32_w]
      rfl
     refine pure_ (i := 7) (N := some 16) (v := ?_) (a' := ?_) (bitsL 10 255) rfl rfl (any_of HT_.out (by kernel_rfl)) (fun _ _ _ h => h) (Or.inl ⟨by rfl, ?_⟩) ?_ ?_
     rotate_left
     ·intro w'
      go_simp
      with_reducible rfl
     rotate_left
     ·simp only [Act.put, List.setIfInBounds_toArray, List.set_cons_zero, List.set_cons_succ, i64_w, i32_w]
      rfl
     refine pure_ (i := 8) (N := some 17) (v := ?_) (a' := ?_) (bitsL 10 511) rfl rfl (any_of HT_.out (by kernel_rfl)) (fun _ _ _ h => h) (Or.inl ⟨by rfl, ?_⟩) ?_ ?_
     rotate_left
     ·intro w'
      go_simp
      with_reducible rfl
     rotate_left
     ·simp only [Act.put, List.setIfInBounds_toArray, List.set_cons_zero, List.set_cons_succ, i64_w, i32_w]
      rfl
     refine pure_ (i := 9) (N := some 2) (v := ?_) (a' := ?_) (bitsL 10 1023) rfl rfl (any_of HT_.out (by kernel_rfl)) (fun _ _ _ h => h) (Or.inl ⟨by rfl, ?_⟩) ?_ ?_
     rotate_left
     ·intro w'
      go_simp
      with_reducible rfl
     rotate_left
     ·simp only [Act.put, List.setIfInBounds_toArray, List.set_cons_zero, List.set_cons_succ, i64_w, i32_w]
      rfl
     refine done_ (done_of HT_.out (by kernel_rfl)) ?_
     try go_wp2
     go_ret
     exact ⟨by first | rfl | (simp [errW_none, errW_some] <;> rfl) | (simp [*, errW_none, errW_some] <;> rfl), bwS⟩
    ·rw [if_neg c11] at H
     exact absurd H (by simp)
   ·rw [if_neg c10] at H
    exact absurd H (by simp)
  ·rw [if_neg c8] at H
   exact absurd H (by simp)

end Go.Proofs.YtbjbpgmjijeppaaDoor.Fn
namespace Go.Proofs.YtbjbpgmjijeppaaDoor.Fn
open Go.RowKit Go.Proofs.YtbjbpgmjijeppaaDoorW.PrintWords Go.Proofs.YtbjbpgmjijeppaaDoorW.PrintLast Go.Proofs.YtbjbpgmjijeppaaDoorW.PrintMore
attribute [local go_sem] max2_int min2_int max_two min_two max_three min_three max_four min_four
set_option linter.unusedVariables false
set_option linter.unusedSimpArgs false

/-! ### bulletinref14_ShowAll: function 14 -/
def bulletinref14_ShowAll.l0 : Nat → List (S28) → ByteArray → Int → Option (ByteArray)
 | 0, _, _, _ => none
 | k + 1, x0, x3, x4 => if x4 < (x0.length : Int) then (if x4 > 0 then (if x3.size + 2 ≤ 9223372036854775807 then (if 0 ≤ x4 then ((bulletinref14_Show.f k ((rd_T28 x0 x4).f0) ((rd_T28 x0 x4).f1.f0) ((rd_T28 x0 x4).f1.f1)).bind fun t277 => (if (x3 ++ (⟨#[44, 32]⟩ : ByteArray)).size + t277.size ≤ 9223372036854775807 then (bulletinref14_ShowAll.l0 k x0 ((x3 ++ (⟨#[44, 32]⟩ : ByteArray)) ++ t277) (wrap64 (x4 + 1))) else (none))) else (none)) else (none)) else (if 0 ≤ x4 then ((bulletinref14_Show.f k ((rd_T28 x0 x4).f0) ((rd_T28 x0 x4).f1.f0) ((rd_T28 x0 x4).f1.f1)).bind fun t279 => (if x3.size + t279.size ≤ 9223372036854775807 then (bulletinref14_ShowAll.l0 k x0 (x3 ++ t279) (wrap64 (x4 + 1))) else (none))) else (none))) else (some x3)
def bulletinref14_ShowAll.f (k : Nat) (l0 : List (S28)) : Option (ByteArray) := bulletinref14_ShowAll.l0 k l0 (⟨#[]⟩ : ByteArray) 0
set_option maxHeartbeats 8000000 in
set_option maxRecDepth 100000 in
theorem bulletinref14_ShowAll.calls (k : Nat) (A0 : Option Addr) (c0 : Nat) (l0 : List (S28)) (r : ByteArray) (w : World) (hr0 : Kd.C k28 w A0 l0.length l0) (hc0 : l0.length ≤ c0) (h : bulletinref14_ShowAll.f k l0 = some r) :
  Calls Tryd.prog 14 #[.slice A0 l0.length c0] w fun e w' => e = .returned (.string r) ∧ Below w.heap.size w w' := by
 have hu28 := Tryd.underlying28
 have HR0 := Aside0.mk hr0
 have HC0 := Aside0.mk hc0
 clear hr0 hc0
 have HB := Aside0.mk (Below.refl w.heap.size w)
 have H : (bulletinref14_ShowAll.l0 k l0 (⟨#[]⟩ : ByteArray) 0) = some r := h
 clear h
 have H' := Aside0.mk H
 clear H
 go_enter Tryd.func14, Tryd.ntmps14
 go_wp2
 go_loopg [3, 4] k (fun kq v3 v4 w' => ∃ (x3_1 : ByteArray) (x4_1 : Int), v3 = .string x3_1 ∧ v4 = .int .i64 x4_1 ∧ Aside0 (bulletinref14_ShowAll.l0 kq l0 x3_1 x4_1 = some r) ∧ Aside0 (kq ≤ k) ∧ Aside0 (Below w.heap.size w w'))
 case atStart => exact ⟨((⟨#[]⟩ : ByteArray)), (0), cl, cl, H', ⟨Nat.le_refl _⟩, ⟨bw⟩⟩
 case round =>
  clear H'
  try clear c1
  obtain ⟨x3_1, x4_1, rfl, rfl, HA, HK1, HB⟩ := hrel
  cases gk with
  | zero => exact absurd HA.out (by simp [bulletinref14_ShowAll.l0])
  | succ k1 =>
   have H := HA.out
   clear HA
   simp only [bulletinref14_ShowAll.l0] at H
   by_cases c2 : x4_1 < (l0.length : Int)
   ·rw [if_pos c2] at H
    have c2b0 : decide (x4_1 < (l0.length : Int)) = true := decide_eq_true c2
    clear c2
    by_cases c3 : x4_1 > 0
    ·rw [if_pos c3] at H
     have c3b0 : decide (0 < x4_1) = true := decide_eq_true c3
     clear c3
     by_cases c4 : x3_1.size + 2 ≤ 9223372036854775807
     ·rw [if_pos c4] at H
      have c4b0 := eq_true c4
      have c4b1 : decide (x3_1.size + 2 ≤ 9223372036854775807) = true := decide_eq_true c4
      try have c4b2 : (9223372036854775807 < x3_1.size + 2) = False := eq_false (Nat.not_lt.2 c4)
      by_cases c5 : 0 ≤ x4_1
      ·rw [if_pos c5] at H
       have c5b0 : decide (0 ≤ x4_1) = true := decide_eq_true c5
       clear c5
       replace H := Option.bind_eq_some_iff.mp H
       obtain ⟨t277, A60, H⟩ := H
       replace H : (if (x3_1 ++ (⟨#[44, 32]⟩ : ByteArray)).size + t277.size ≤ 9223372036854775807 then (bulletinref14_ShowAll.l0 k1 l0 ((x3_1 ++ (⟨#[44, 32]⟩ : ByteArray)) ++ t277) (wrap64 (x4_1 + 1))) else (none)) = some r := H
       have A6 := Aside0.mk A60
       clear A60
       by_cases c7 : (x3_1 ++ (⟨#[44, 32]⟩ : ByteArray)).size + t277.size ≤ 9223372036854775807
       ·rw [if_pos c7] at H
        have c7b0 := eq_true c7
        have c7b1 : decide ((x3_1 ++ (⟨#[44, 32]⟩ : ByteArray)).size + t277.size ≤ 9223372036854775807) = true := decide_eq_true c7
        try have c7b2 : (9223372036854775807 < (x3_1 ++ (⟨#[44, 32]⟩ : ByteArray)).size + t277.size) = False := eq_false (Nat.not_lt.2 c7)
        try (have c7b3 := c7; simp only [ByteArray.size_append, size_lit, ByteArray.size_extract, List.size_toArray, List.length_cons, List.length_nil, Nat.zero_add, Nat.reduceAdd] at c7b3; have c7b4 := eq_false (Nat.not_lt.2 c7b3))
        have H' := Aside0.mk H
        clear H
        have p276 : 0 ≤ (x4_1 : Int) := od
        have q276 : x4_1 < (l0.length : Int) := od
        obtain ⟨ad276, e276, hx276_0, hx276_1, hx276_2⟩ := at_T28 HR0.out x4_1 p276 q276
        cases e276
        replace hx276_0 := (HB.out.cell (World.block_lt_of_cell? w _ hx276_0)).trans hx276_0
        replace hx276_1 := (HB.out.cell (World.block_lt_of_cell? w _ hx276_1)).trans hx276_1
        replace hx276_2 := (HB.out.cell (World.block_lt_of_cell? w _ hx276_2)).trans hx276_2
        replace p276 := eq_true p276
        replace q276 := eq_true q276
        go_wp2_with (first | ((with_reducible refine gate_callee (f := 12) rfl ?_); refine goesL_ (some 20) rfl rfl Tryd.func12 (by kernel_rfl) rfl #[.agg #[.string ((rd_T28 l0 x4_1).f0), .string ((rd_T28 l0 x4_1).f1.f0), .string ((rd_T28 l0 x4_1).f1.f1)]] rfl am ?_; (with_reducible refine (bulletinref14_Show.calls k1 ((rd_T28 l0 x4_1).f0) ((rd_T28 l0 x4_1).f1.f0) ((rd_T28 l0 x4_1).f1.f1) t277 _ A6.out).mono ?_); rintro e w8 ⟨rfl, hb⟩; refine ⟨_, rfl, ?_⟩; have n0_ := Aside0.mk (below_step bw hb); clear HB; have HB := n0_; clear n0_; (try clear hb); (try clear hb2); (try clear hk); (try clear hi)))
        go_roundg k1
        case measure => have := HK1.out; omega
        case rel => exact ⟨((x3_1 ++ (⟨#[44, 32]⟩ : ByteArray)) ++ t277), (wrap64 (x4_1 + 1)), cl, cl, H', ⟨by have := HK1.out; omega⟩, ⟨bw⟩⟩
       ·rw [if_neg c7] at H
        exact absurd H (by simp)
      ·rw [if_neg c5] at H
       exact absurd H (by simp)
     ·rw [if_neg c4] at H
      exact absurd H (by simp)
    ·rw [if_neg c3] at H
     have c3b0 : decide (0 < x4_1) = false := decide_eq_false c3
     clear c3
     by_cases c9 : 0 ≤ x4_1
     ·rw [if_pos c9] at H
      have c9b0 : decide (0 ≤ x4_1) = true := decide_eq_true c9
      clear c9
      replace H := Option.bind_eq_some_iff.mp H
      obtain ⟨t279, A100, H⟩ := H
      replace H : (if x3_1.size + t279.size ≤ 9223372036854775807 then (bulletinref14_ShowAll.l0 k1 l0 (x3_1 ++ t279) (wrap64 (x4_1 + 1))) else (none)) = some r := H
      have A10 := Aside0.mk A100
      clear A100
      by_cases c11 : x3_1.size + t279.size ≤ 9223372036854775807
      ·rw [if_pos c11] at H
       have c11b0 := eq_true c11
       have c11b1 : decide (x3_1.size + t279.size ≤ 9223372036854775807) = true := decide_eq_true c11
       try have c11b2 : (9223372036854775807 < x3_1.size + t279.size) = False := eq_false (Nat.not_lt.2 c11)
       have H' := Aside0.mk H
       clear H
       have p278 : 0 ≤ (x4_1 : Int) := od
       have q278 : x4_1 < (l0.length : Int) := od
       obtain ⟨ad278, e278, hx278_0, hx278_1, hx278_2⟩ := at_T28 HR0.out x4_1 p278 q278
       cases e278
       replace hx278_0 := (HB.out.cell (World.block_lt_of_cell? w _ hx278_0)).trans hx278_0
       replace hx278_1 := (HB.out.cell (World.block_lt_of_cell? w _ hx278_1)).trans hx278_1
       replace hx278_2 := (HB.out.cell (World.block_lt_of_cell? w _ hx278_2)).trans hx278_2
       replace p278 := eq_true p278
       replace q278 := eq_true q278
       go_wp2_with (first | ((with_reducible refine gate_callee (f := 12) rfl ?_); refine goesL_ (some 20) rfl rfl Tryd.func12 (by kernel_rfl) rfl #[.agg #[.string ((rd_T28 l0 x4_1).f0), .string ((rd_T28 l0 x4_1).f1.f0), .string ((rd_T28 l0 x4_1).f1.f1)]] rfl am ?_; (with_reducible refine (bulletinref14_Show.calls k1 ((rd_T28 l0 x4_1).f0) ((rd_T28 l0 x4_1).f1.f0) ((rd_T28 l0 x4_1).f1.f1) t279 _ A10.out).mono ?_); rintro e w12 ⟨rfl, hb⟩; refine ⟨_, rfl, ?_⟩; have n0_ := Aside0.mk (below_step bw hb); clear HB; have HB := n0_; clear n0_; (try clear hb); (try clear hb2); (try clear hk); (try clear hi)))
       go_roundg k1
       case measure => have := HK1.out; omega
       case rel => exact ⟨(x3_1 ++ t279), (wrap64 (x4_1 + 1)), cl, cl, H', ⟨by have := HK1.out; omega⟩, ⟨bw⟩⟩
      ·rw [if_neg c11] at H
       exact absurd H (by simp)
     ·rw [if_neg c9] at H
      exact absurd H (by simp)
   ·rw [if_neg c2] at H
    have c2b0 : decide (x4_1 < (l0.length : Int)) = false := decide_eq_false c2
    clear c2
    obtain rfl := Option.some.inj H
    go_wp2
    go_ret
    exact ⟨by first | rfl | (simp [errW_none, errW_some] <;> rfl) | (simp [*, errW_none, errW_some] <;> rfl), bw⟩

end Go.Proofs.YtbjbpgmjijeppaaDoor.Fn
